/- Contracts of caravan/sha: is, Write. -/
import Derived.Test.YtgojagdjlebnnaaDoorShaB
import Derived.Laws.CopyOwn
namespace Go.Proofs.YtgojagdjlebnnaaDoor
open Go.RowKit

/-- A slice value that reads as these bytes; not in block b. -/
def BytesOff (b : Nat) (w : World) (v : Value) (l : List UInt8) : Prop :=
  ∃ (a : Option Addr) (cap : Nat), v = .slice a l.length cap ∧ l.length ≤ cap ∧ cap ≤ maxLen ∧ (0 < l.length → ∃ g o, a = some ⟨g, o, none⟩ ∧ g ≠ b ∧ g < w.heap.size ∧ ∀ (j : Nat) x, l[j]? = some x → w.cell? ⟨g, o + j, none⟩ = some (bv x))
theorem cellT {b g o : Nat} {w w' : World} (h : Touch b w w') (hg : g ≠ b) (hl : g < w.heap.size) : w'.cell? ⟨g, o, none⟩ = w.cell? ⟨g, o, none⟩ := by
  unfold World.cell?
  rw [h.block g hl fun e => hg (Option.some.inj e)]
theorem BytesOff.touch {b : Nat} {w w' : World} {v : Value} {l : List UInt8} (h : BytesOff b w v l) (k : Touch b w w') : BytesOff b w' v l := by
  obtain ⟨a, cap, h1, h2, h3, h4⟩ := h
  refine ⟨a, cap, h1, h2, h3, fun hp => ?_⟩
  obtain ⟨g, o, e1, e2, e3, e4⟩ := h4 hp
  exact ⟨g, o, e1, e2, Nat.lt_of_lt_of_le e3 k.size, fun j x hj => (cellT k e2 e3).trans (e4 j x hj)⟩
theorem BytesOff.ext {b : Nat} {w w' : World} {v : Value} {l : List UInt8} (h : BytesOff b w v l) (k : Ext w w') : BytesOff b w' v l := h.touch (Touch.of k)

/-- 'copy' into a row that is known whole, from a slice with at least one element. -/
theorem wpList_copyT {P : Program} {w : World} {ops : Array Oper} {rest : List Oper} {o : Oper} {a : Act} {Q : Exit → Act → World → Prop} (hgd : o.guard = none) (d s : Operand) (dT sT : TypeId)
    (ho : o.op = .call { callee := .builtin .copy, args := #[d, s], argTypes := #[dT, sT] }) (elem : TypeId) (hu : P.underlying dT = some (.slice elem)) (hsz : (P.info? elem).map (·.size) = some 1)
    (g off dLen dCap : Nat) (ad : Addr) (sLen sCap : Nat) (hd : a.eval d = .slice (some ⟨g, off, none⟩) dLen dCap) (hs : a.eval s = .slice (some ad) sLen sCap)
    (cur : Array Value) (t : TypeId) (hg : w.heap[g]? = some (.cells cur t (0, 0))) (cs : List Value) (hn : cs.length = Nat.min sLen dLen)
    (hsrc : ∀ j v, cs[j]? = some v → w.cell? (ad.add j) = some v) (hfit : off + cs.length ≤ cur.size) (h1 : ∀ v ∈ cs, v.oneCell' = true)
    (X : Array Value) (hX : (cur.toList.take off ++ (cs ++ cur.toList.drop (off + cs.length))).toArray = X) (k : Nat) (hk : cs.length = k)
    (h : ∀ w1, w1.heap[g]? = some (.cells X t (0, 0)) → Touch g w w1 → wpList P ops Q rest (a.put o.dst (.int .i64 k)) w1) : wpList P ops Q (o :: rest) a w := by
  refine wpList_copy_own hgd d s dT sT ho elem hu hsz g off dLen dCap ad sLen sCap hd hs cur t hg cs hn hsrc hfit h1 ?_
  rw [hX, show goInt cs.length = .int .i64 k from by rw [hk]; rfl]
  refine h _ (setRow_heap _ _ _ _ _ _ hg) ⟨rfl, rfl, rfl, by rw [setRow_size]; exact Nat.le_refl _, fun i _ hne => setRow_other _ _ _ _ fun e => hne (by rw [e])⟩

theorem stC_n (l : List Wd) (r : List UInt8) (n : Int) (hl : l.length = 8) (hr : r.length = 64) : (stC l r n)[72]? = some (.int .i64 n) := by
  unfold stC
  rw [List.getElem?_toArray, List.getElem?_append_right (by simp [hl]), List.getElem?_append_right (by simp [hl, hr])]; simp [hl, hr]
theorem stC_made (l : List Wd) (r : List UInt8) (n : Int) (hl : l.length = 8) (hr : r.length = 64) : (stC l r n)[73]? = some (.bool true) := by
  unfold stC
  rw [List.getElem?_toArray, List.getElem?_append_right (by simp [hl]), List.getElem?_append_right (by simp [hl, hr])]; simp [hl, hr]
theorem stC_setn (l : List Wd) (r : List UInt8) (n k : Int) (hl : l.length = 8) (hr : r.length = 64) : (stC l r n).setIfInBounds 72 (.int .i64 k) = stC l r k := by
  unfold stC
  rw [List.setIfInBounds_toArray, List.set_append, if_neg (by simp [hl]), List.set_append, if_neg (by simp [hl, hr])]; simp [hl, hr]
theorem stC_copy (l : List Wd) (r : List UInt8) (n : Int) (at' : Nat) (cs : List UInt8) (hl : l.length = 8) (hr : r.length = 64) (h : at' + cs.length ≤ 64) :
    ((stC l r n).toList.take (8 + at') ++ (cs.map bv ++ (stC l r n).toList.drop (8 + at' + (cs.map bv).length))).toArray = stC l (r.take at' ++ (cs ++ r.drop (at' + cs.length))) n := by
  unfold stC
  congr 1
  rw [List.take_append, List.drop_append, List.take_append, List.drop_append]
  simp [hl, hr, List.take_of_length_le, List.map_append, List.map_take, List.map_drop]
  rw [show at' - 64 = 0 from by omega, List.drop_eq_nil_of_le (by simp [hl]; omega), show 8 + at' + cs.length - 8 = at' + cs.length from by omega, show at' + cs.length - 64 = 0 from by omega]
  simp

/-- A state in memory that was given these bytes. -/
def StAt (w : World) (bs : Nat) (m : List UInt8) : Prop := ∃ r : List UInt8, r.length = 64 ∧ r.take (m.length % 64) = m.drop (64 * (m.length / 64)) ∧ w.heap[bs]? = some (stObj (digN m (m.length / 64)).list r m.length)

theorem StAt.ext {b : Nat} {w w' : World} {m : List UInt8} (h : StAt w b m) (k : Ext w w') : StAt w' b m := let ⟨r, h1, h2, h3⟩ := h; ⟨r, h1, h2, (k.block (ltB h3)).trans h3⟩

theorem is_any (w : World) (bs : Nat) (m : List UInt8) (h : StAt w bs m) : Calls Tryd.prog 89 #[.pointer (some ⟨bs, 0, none⟩)] w fun e w' => e = .returned (.bool true) ∧ w' = w := by
  obtain ⟨r, hr, _, hb⟩ := h
  have c := (cellB (k := 73) hb).trans (stC_made _ _ _ rfl hr)
  go_enter Tryd.func89, Tryd.ntmps89
  go_wp2_with fail
  go_ret
  exact ⟨rfl, rfl⟩
end Go.Proofs.YtgojagdjlebnnaaDoor
