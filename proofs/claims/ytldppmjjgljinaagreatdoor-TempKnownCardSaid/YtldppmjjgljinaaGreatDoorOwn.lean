/- Append of one element to a slice of the call's own: the kit's law in the form that the walks of this seat use; lists of texts in memory. Append of one element of several cells to a slice of the call's own: the kit's law in the form that the walks of this seat use. -/
import Derived.Test.YtldppmjjgljinaaGreatDoorBase
import Derived.OwnWalk
import Derived.Laws.OwnMore
namespace Go.Proofs.YtldppmjjgljinaaGreatDoor
open Go.RowKit

/-- What the table of types says of a slice type t over one-cell elements e. -/
structure Elem (P : Program) (t e : TypeId) (z : Value) (bytes : Nat) : Prop where
  ut : P.underlying t = some (.slice e)
  info : (P.info? e).map (fun i => (i.zero, i.size, i.bytes)) = some (some z, 1, bytes)
  one : z.cells.size = 1
  few : bytes ≤ 1024

/-- A slice value that heads a row of its own. -/
def IsRow (w : World) (base n : Nat) (v : Value) : Prop := ∃ g cap, v = .slice (some ⟨g, 0, none⟩) n cap ∧ base ≤ g ∧ g < w.heap.size ∧ n ≤ cap ∧ cap ≤ maxLen

theorem append_one {P : Program} {ops : Array Oper} {rest : List Oper} {o : Oper} {a : Act} {Q : Exit → Act → World → Prop} {w : World} {t e : TypeId} {z : Value} {bytes : Nat} (el : Elem P t e z bytes)
    (base : Nat) (v : Value) (n : Nat) (xs : List Value) (hown : w.ownsRow base e 1 v n xs) (g : Nat) (u : Value) (s x : Operand)
    (hgd : o.guard = none) (ho : o.op = .call { callee := .builtin .append, args := #[s, x], argTypes := #[t, t] })
    (hs : a.eval s = v) (hx : a.eval x = .slice (some ⟨g, 0, none⟩) 1 1) (hnew : w.cell? ⟨g, 0, none⟩ = some u) (h1 : u.oneCell' = true) (hn : n ≤ 68719476736) (hbase : base ≤ w.heap.size)
    (h : ∀ v' w', w'.ownsRow base e 1 v' (n + 1) (xs ++ [u]) → w.grownBy w' v.ownBlock → IsRow w' base (n + 1) v' → wpList P ops Q rest (a.put o.dst v') w') : wpList P ops Q (o :: rest) a w := by
  obtain ⟨i, hi, hz, hsz, hby⟩ := info_parts el.info
  have hf := el.few
  refine wpList_append_own w hgd s x t ho base e i z 1 bytes el.ut hi hz hsz hby el.one (by decide) v n xs hs hown ⟨g, 0, none⟩ 1 1 [u] hx rfl ?_ ?_ ?_ ?_ hbase ?_
  · intro j u' hj
    match j, hj with
    | 0, hj => simp at hj; subst hj; exact hnew
  · intro u' hu; simp at hu; subst hu; exact h1
  · unfold maxLen; omega
  · have : (n + 1) * bytes ≤ (n + 1) * 1024 := Nat.mul_le_mul_left _ hf
    omega
  · intro v' w' hown' hg hnil
    refine h v' w' hown' hg ?_
    rcases hown'.2 with ⟨_, h0⟩ | ⟨g', cap, cur, hv, hb, hh, hc, hm, _⟩
    · omega
    · refine ⟨g', cap, hv, hb, ?_, hc, hm⟩
      rcases Nat.lt_or_ge g' w'.heap.size with hlt | hge
      · exact hlt
      · rw [Array.getElem?_eq_none hge] at hh; cases hh

/-- A slice value that reads as these cells; nil or in a block of the heap. -/
def CellsAt (w : World) (v : Value) (xs : List Value) : Prop :=
  (v = .slice none 0 0 ∧ xs = []) ∨ ∃ g cap, v = .slice (some ⟨g, 0, none⟩) xs.length cap ∧ g < w.heap.size ∧ xs.length ≤ cap ∧ cap ≤ maxLen ∧ ∀ (j : Nat) u, xs[j]? = some u → w.cell? ⟨g, j, none⟩ = some u
theorem CellsAt.ext {w w' : World} {v : Value} {xs : List Value} (h : CellsAt w v xs) (k : Ext w w') : CellsAt w' v xs := by
  rcases h with h | ⟨g, cap, h1, h2, h3, h4, h5⟩
  · exact .inl h
  · exact .inr ⟨g, cap, h1, Nat.lt_of_lt_of_le h2 k.size, h3, h4, fun j u hj => (k.cell h2).trans (h5 j u hj)⟩
theorem CellsAt.of_owns {w : World} {base : Nat} {e : TypeId} {v : Value} {xs : List Value} (h : w.ownsRow base e 1 v xs.length xs) : CellsAt w v xs := by
  rcases h.2 with ⟨h1, h2⟩ | ⟨g, cap, cur, hv, hb, hh, hc, hm, hs, ht⟩
  · exact .inl ⟨h1, List.length_eq_zero_iff.1 h2⟩
  · refine .inr ⟨g, cap, hv, ?_, hc, hm, fun j u hj => ?_⟩
    · rcases Nat.lt_or_ge g w.heap.size with hlt | hge
      · exact hlt
      · rw [Array.getElem?_eq_none hge] at hh; cases hh
    · subst hv
      have hj' : j < xs.length := (List.getElem?_eq_some_iff.1 hj).1
      rw [h.cellAt j (by omega), hj]
end Go.Proofs.YtldppmjjgljinaaGreatDoor

namespace Go.Proofs.YtldppmjjgljinaaGreatDoor
open Go.RowKit

/-- What the table of types says of a slice type t over elements e of k cells. -/
structure ElemK (P : Program) (t e : TypeId) (z : Value) (k bytes : Nat) : Prop where
  ut : P.underlying t = some (.slice e)
  info : (P.info? e).map (fun i => (i.zero, i.size, i.bytes)) = some (some z, k, bytes)
  cells : z.cells.size = k
  pos : 0 < k
  few : bytes ≤ 1024

/-- Where an append of something puts its row: where it was, or in a new block. -/
theorem append_where {P : Program} {w : World} {base : Nat} {t ty e : TypeId} {i : TypeInfo} {z : Value} {size : Nat} (ht : P.underlying t = some (.slice e)) (hi : P.info? e = some i) (hz : i.zero = some z) (hsize : i.size = size)
    {v : Value} {n : Nat} {xs : List Value} (hown : w.ownsRow base e size v n xs) {a : Addr} {m c : Nat} {news : List Value} (hl : news.length = m * size) (hnews : ∀ j u, news[j]? = some u → w.cell? (a.add j) = some u) (h1 : ∀ u ∈ news, u.oneCell' = true)
    (hm : 0 < m) (h63 : n + m ≤ maxLen) (hbytes : (n + m) * i.bytes ≤ 140737488355328) {v' : Value} {w' : World} (hr : (Builtin.append_ #[t, t] ty #[v, .slice (some a) m c]).run P w = .ok v' w') :
    v'.ownBlock = v.ownBlock ∨ v'.ownBlock = some w.heap.size := by
  subst hsize
  have hsmall : n + m ≤ 9223372036854775807 := by simp only [maxLen] at h63; omega
  rcases hown.2 with ⟨rfl, rfl⟩ | ⟨g, cap, cur, rfl, hbg, hg, hnc, hcm, hcs, htake⟩
  · rw [run_append_nil w t ty e i z ht hi hz a m c news hl hnews hm (by omega) (by simp only [Nat.zero_add] at hbytes; omega)] at hr
    cases hr
    exact .inr rfl
  · by_cases hroom : n + m ≤ cap
    · rw [run_append_room w t ty e i ht hi g n cap cur hg a m c news hl hnews h1 hroom (by rw [hl, hcs, ← Nat.add_mul]; exact Nat.mul_le_mul_right _ hroom)] at hr
      cases hr
      exact .inl rfl
    · rw [run_append_grow w t ty e i z ht hi hz ⟨g, 0, none⟩ n cap xs hown.1 (hown.cells (g := g) rfl) a m c news hl hnews (by omega) (by omega) (growslice_fits (by omega) hbytes)] at hr
      cases hr
      exact .inr rfl

/-- Append of one element, with a word on where the row lies then. -/
theorem append_kw {P : Program} {ops : Array Oper} {rest : List Oper} {o : Oper} {a : Act} {Q : Exit → Act → World → Prop} {w : World} {t e : TypeId} {z : Value} {k bytes : Nat} (el : ElemK P t e z k bytes)
    (base : Nat) (v : Value) (n : Nat) (xs : List Value) (hown : w.ownsRow base e k v n xs) (g : Nat) (us : List Value) (hus : us.length = k) (s x : Operand)
    (hgd : o.guard = none) (ho : o.op = .call { callee := .builtin .append, args := #[s, x], argTypes := #[t, t] })
    (hs : a.eval s = v) (hx : a.eval x = .slice (some ⟨g, 0, none⟩) 1 1) (hnew : ∀ (j : Nat) u, us[j]? = some u → w.cell? ⟨g, j, none⟩ = some u) (h1 : ∀ u ∈ us, u.oneCell' = true) (hn : n ≤ 68719476736) (hbase : base ≤ w.heap.size)
    (h : ∀ v' w', w'.ownsRow base e k v' (n + 1) (xs ++ us) → w.grownBy w' v.ownBlock → IsRow w' base (n + 1) v' → v'.ownBlock = v.ownBlock ∨ v'.ownBlock = some w.heap.size → wpList P ops Q rest (a.put o.dst v') w') : wpList P ops Q (o :: rest) a w := by
  refine wpList_plain hgd fun K hK => ?_
  obtain ⟨i, hi, hz, hsz, hby⟩ := info_parts el.info
  have hf := el.few
  have hnews : ∀ j u, us[j]? = some u → w.cell? ((⟨g, 0, none⟩ : Addr).add j) = some u := fun j u hj => by
    rw [add_off, Nat.zero_add]; exact hnew j u hj
  have hm : n + 1 ≤ maxLen := by unfold maxLen; omega
  have hb : (n + 1) * bytes ≤ 140737488355328 := by
    have : (n + 1) * bytes ≤ (n + 1) * 1024 := Nat.mul_le_mul_left _ hf
    omega
  obtain ⟨v', w', hr, h2, h3, _⟩ := run_append_own w base t o.type e i z k bytes el.ut hi hz hsz hby el.cells el.pos v n xs hown ⟨g, 0, none⟩ 1 1 us (by omega) hnews h1 hm hb hbase
  have hw := append_where el.ut hi hz hsz hown (by omega) hnews h1 (by omega) hm (by rw [hby]; exact hb) hr
  unfold Oper.wp execOp
  simp only [ho, resolve, invoke, builtin, Sem.run_bind, Sem.run_pure, Result.andThen_ok, List.map_toArray, List.map_cons, List.map_nil, hs, hx, hr]
  refine hK _ _ (h v' w' h2 h3 ?_ hw)
  rcases h2.2 with ⟨_, h0⟩ | ⟨g', cap, cur, hv, hb', hh, hc, hm', _⟩
  · omega
  · refine ⟨g', cap, hv, hb', ?_, hc, hm'⟩
    rcases Nat.lt_or_ge g' w'.heap.size with hlt | hge
    · exact hlt
    · rw [Array.getElem?_eq_none hge] at hh; cases hh
where
  add_off {b o n : Nat} : (⟨b, o, none⟩ : Addr).add n = ⟨b, o + n, none⟩ := by
    unfold Addr.add; split
    · rename_i h; subst h; rfl
    · rfl

theorem append_k {P : Program} {ops : Array Oper} {rest : List Oper} {o : Oper} {a : Act} {Q : Exit → Act → World → Prop} {w : World} {t e : TypeId} {z : Value} {k bytes : Nat} (el : ElemK P t e z k bytes)
    (base : Nat) (v : Value) (n : Nat) (xs : List Value) (hown : w.ownsRow base e k v n xs) (g : Nat) (us : List Value) (hus : us.length = k) (s x : Operand)
    (hgd : o.guard = none) (ho : o.op = .call { callee := .builtin .append, args := #[s, x], argTypes := #[t, t] })
    (hs : a.eval s = v) (hx : a.eval x = .slice (some ⟨g, 0, none⟩) 1 1) (hnew : ∀ (j : Nat) u, us[j]? = some u → w.cell? ⟨g, j, none⟩ = some u) (h1 : ∀ u ∈ us, u.oneCell' = true) (hn : n ≤ 68719476736) (hbase : base ≤ w.heap.size)
    (h : ∀ v' w', w'.ownsRow base e k v' (n + 1) (xs ++ us) → w.grownBy w' v.ownBlock → IsRow w' base (n + 1) v' → wpList P ops Q rest (a.put o.dst v') w') : wpList P ops Q (o :: rest) a w := by
  obtain ⟨i, hi, hz, hsz, hby⟩ := info_parts el.info
  have hf := el.few
  refine wpList_append_own w hgd s x t ho base e i z k bytes el.ut hi hz hsz hby el.cells el.pos v n xs hs hown ⟨g, 0, none⟩ 1 1 us hx (by omega) ?_ h1 ?_ ?_ hbase ?_
  · intro j u' hj
    rw [add_off', Nat.zero_add]
    exact hnew j u' hj
  · unfold maxLen; omega
  · have : (n + 1) * bytes ≤ (n + 1) * 1024 := Nat.mul_le_mul_left _ hf
    omega
  · intro v' w' hown' hg hnil
    refine h v' w' hown' hg ?_
    rcases hown'.2 with ⟨_, h0⟩ | ⟨g', cap, cur, hv, hb, hh, hc, hm, _⟩
    · omega
    · refine ⟨g', cap, hv, hb, ?_, hc, hm⟩
      rcases Nat.lt_or_ge g' w'.heap.size with hlt | hge
      · exact hlt
      · rw [Array.getElem?_eq_none hge] at hh; cases hh
where
  add_off' {b o n : Nat} : (⟨b, o, none⟩ : Addr).add n = ⟨b, o + n, none⟩ := by
    unfold Addr.add; split
    · rename_i h; subst h; rfl
    · rfl

end Go.Proofs.YtldppmjjgljinaaGreatDoor
