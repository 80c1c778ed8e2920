/- Contract of caravan/glob's Parse. -/
import Derived.Test.YtlabhbeacogfbaaDoorPatAt
import Derived.Deep.RegionLaw
import Derived.Outline
namespace Go.Proofs.YtlabhbeacogfbaaDoor
open Go.RowKit

/-- Append of one element to a row of the call's own, as a step of a region that draws. -/
theorem step_append_k {P : Program} {ops : Array Oper} {o : Oper} {a : Act} {Q : Exit → Act → World → Prop} {K : Act → World → Prop} {E : Prop} {w : World} {t e : TypeId} {z : Value} {k bytes : Nat} (el : ElemK P t e z k bytes)
    (base : Nat) (v : Value) (n : Nat) (xs : List Value) (hown : w.ownsRow base e k v n xs) (g : Nat) (us : List Value) (hus : us.length = k) (s x : Operand)
    (hgd : o.guard = none) (ho : o.op = .call { callee := .builtin .append, args := #[s, x], argTypes := #[t, t] })
    (hs : a.eval s = v) (hx : a.eval x = .slice (some ⟨g, 0, none⟩) 1 1) (hnew : ∀ (j : Nat) u, us[j]? = some u → w.cell? ⟨g, j, none⟩ = some u) (h1 : ∀ u ∈ us, u.oneCell' = true) (hn : n ≤ 68719476736) (hbase : base ≤ w.heap.size)
    (h : ∀ v' w', w'.ownsRow base e k v' (n + 1) (xs ++ us) → w.grownBy w' v.ownBlock → IsRow w' base (n + 1) v' → v'.ownBlock = v.ownBlock ∨ v'.ownBlock = some w.heap.size → K (a.put o.dst v') w') :
    if Region.wanted o (yielded ops a.tmps) = true then Oper.wp P o a w K Q else E := by
  have hw : Region.wanted o (yielded ops a.tmps) = true := by simp [Region.wanted, hgd]
  rw [if_pos hw]
  obtain ⟨i, hi, hz, hsz, hby⟩ := info_parts el.info
  have hf := el.few
  have hnews : ∀ j u, us[j]? = some u → w.cell? ((⟨g, 0, none⟩ : Addr).add j) = some u := fun j u hj => by
    rw [append_kw.add_off, Nat.zero_add]; exact hnew j u hj
  have hm : n + 1 ≤ maxLen := by unfold maxLen; omega
  have hb : (n + 1) * bytes ≤ 140737488355328 := by
    have : (n + 1) * bytes ≤ (n + 1) * 1024 := Nat.mul_le_mul_left _ hf
    omega
  obtain ⟨v', w', hr, h2, h3, _⟩ := run_append_own w base t o.type e i z k bytes el.ut hi hz hsz hby el.cells el.pos v n xs hown ⟨g, 0, none⟩ 1 1 us (by omega) hnews h1 hm hb hbase
  have hwh := append_where el.ut hi hz hsz hown (by omega) hnews h1 (by omega) hm (by rw [hby]; exact hb) hr
  unfold Oper.wp execOp
  simp only [ho, resolve, invoke, builtin, Sem.run_bind, Sem.run_pure, Result.andThen_ok, List.map_toArray, List.map_cons, List.map_nil, hs, hx, hr]
  refine h v' w' h2 h3 ?_ hwh
  rcases h2.2 with ⟨_, h0⟩ | ⟨g', cap, cur, hv, hb', hh, hc, hm', _⟩
  · omega
  · refine ⟨g', cap, hv, hb', ?_, hc, hm'⟩
    rcases Nat.lt_or_ge g' w'.heap.size with hlt | hge
    · exact hlt
    · rw [Array.getElem?_eq_none hge] at hh; cases hh

/-- What 'Parse' answers. -/
def ParsePost (w : World) (s : ByteArray) (e : Ending) (w' : World) : Prop := Ext w w' ∧ (match patL s.toList with
    | .error k => e = .returned (.tuple #[.pointer none, .int .i64 k])
    | .ok p => ∃ bp, e = .returned (.tuple #[.pointer (some ⟨bp, 0, none⟩), .int .i64 0]) ∧ PatAt w' (fun b => w.heap.size ≤ b) bp s p)

theorem patL_long {s : ByteArray} (h : 128 < s.size) : patL s.toList = .error 3 := by unfold patL; rw [if_pos (by rw [len_toList]; exact h)]
theorem patL_marks {s : ByteArray} (h : s.size ≤ 128) (hm : marksL (s.size + 1) ⟨false, false, false⟩ s.toList = none) : patL s.toList = .error 4 := by
  unfold patL; rw [if_neg (by rw [len_toList]; omega), len_toList, hm]
theorem patL_empty {s : ByteArray} {m : Marks} {r : List UInt8} (h : s.size ≤ 128) (hm : marksL (s.size + 1) ⟨false, false, false⟩ s.toList = some (m, r)) (he : (rootL r).2.length = 0) : patL s.toList = .error 4 := by
  unfold patL; rw [if_neg (by rw [len_toList]; omega), len_toList, hm]; simp only
  rw [if_pos (by rw [List.isEmpty_iff_length_eq_zero]; exact he)]
theorem patL_some {s : ByteArray} {m : Marks} {r : List UInt8} (h : s.size ≤ 128) (hm : marksL (s.size + 1) ⟨false, false, false⟩ s.toList = some (m, r)) (he : 0 < (rootL r).2.length) :
    patL s.toList = match elementsL (s.size + 1) [] (rootL r).2 with | none => .error 4 | some es => .ok ⟨m, (rootL r).1, es⟩ := by
  unfold patL; rw [if_neg (by rw [len_toList]; omega), len_toList, hm]; simp only
  rw [if_neg (by rw [List.isEmpty_iff_length_eq_zero]; omega)]
  cases elementsL (s.size + 1) [] (rootL r).2 <;> rfl

theorem marksL_le {n : Nat} {m m' : Marks} {s r : List UInt8} (h : marksL n m s = some (m', r)) : r.length ≤ s.length := by
  induction n generalizing m s with
  | zero => cases h
  | succ n ih =>
    unfold marksL at h
    split at h
    · cases h; exact Nat.le_refl _
    · split at h
      · cases h
      · have := ih h
        rw [List.length_drop] at this
        omega
theorem rootL_le (s : List UInt8) : (rootL s).2.length ≤ s.length := by
  unfold rootL; split <;> simp

theorem writtenL_suf {s r : List UInt8} {c : UInt8} (h : writtenL s = some (c, r)) : r <:+ s := by
  unfold writtenL at h
  split at h
  · cases h
  · split at h
    · split at h
      · cases h
      · split at h
        · cases h
        · cases h; exact ⟨[_, _], rfl⟩
    · split at h
      · cases h
      · cases h; exact ⟨[_], rfl⟩
theorem rangeL_suf {s r : List UInt8} {x : UInt8 × UInt8} (h : rangeL s = some (x, r)) : r <:+ s := by
  unfold rangeL at h
  split at h
  · cases h
  · rename_i h1
    have k1 := writtenL_suf h1
    split at h
    · cases h; exact k1
    · split at h
      · cases h
      · rename_i h2
        have k2 := writtenL_suf h2
        split at h
        · cases h
        · cases h; exact k2.trans (List.IsSuffix.trans ⟨[_], rfl⟩ k1)
  · rename_i h1
    have k1 := writtenL_suf h1
    cases h; exact k1
theorem rangesL_suf {n : Nat} {acc rs : List (UInt8 × UInt8)} {s r : List UInt8} (h : rangesL n acc s = some (rs, r)) : r <:+ s := by
  induction n generalizing acc s with
  | zero => cases h
  | succ n ih =>
    unfold rangesL at h
    split at h
    · cases h
    · split at h
      · split at h
        · cases h
        · cases h; exact ⟨[_], rfl⟩
      · split at h
        · cases h
        · rename_i h2
          exact (ih h).trans (rangeL_suf h2)
theorem negL_suf (s : List UInt8) : (negL s).2 <:+ s := by
  unfold negL; split
  · exact ⟨[33], rfl⟩
  · exact List.suffix_refl _
theorem classL_suf {s r : List UInt8} {e : GE} (h : classL s = some (e, r)) : r <:+ s := by
  unfold classL at h
  split at h
  · cases h
  · rename_i h2
    cases h; exact (rangesL_suf h2).trans (negL_suf s)
theorem elementL_suf {s r : List UInt8} {e : GE} (h : elementL s = some (e, r)) : r <:+ s := by
  unfold elementL at h
  split at h
  · cases h; exact ⟨[_, _], rfl⟩
  · cases h; exact ⟨[_], rfl⟩
  · cases h; exact ⟨[_], rfl⟩
  · cases h; exact ⟨[_], rfl⟩
  · exact (classL_suf h).trans ⟨[_], rfl⟩
  · split at h
    · cases h
    · rename_i h2
      cases h; exact writtenL_suf h2
theorem elementL_drop {u : ByteArray} {r : List UInt8} {e : GE} (h : elementL u.toList = some (e, r)) : r = u.toList.drop (u.size - r.length) := by
  rw [← len_toList]; exact List.suffix_iff_eq_drop.1 (elementL_suf h)

theorem elementsL_end {f : Nat} {acc : List GE} {u : ByteArray} (h : u.size = 0) : elementsL (f + 1) acc u.toList = some acc := by
  rw [toList_nil u h]; rfl
theorem elementsL_none {f : Nat} {acc : List GE} {u : ByteArray} (h : 0 < u.size) (he : elementL u.toList = none) : elementsL (f + 1) acc u.toList = none := by
  unfold elementsL
  rw [if_neg (by rw [List.isEmpty_iff_length_eq_zero, len_toList]; omega), he]
theorem elementsL_some {f : Nat} {acc : List GE} {u : ByteArray} {e : GE} {r : List UInt8} (h : 0 < u.size) (he : elementL u.toList = some (e, r)) : elementsL (f + 1) acc u.toList = elementsL f (acc ++ [e]) r := by
  rw [elementsL, if_neg (by rw [List.isEmpty_iff_length_eq_zero, len_toList]; omega), he]

theorem owns_ext {w w' : World} {base k : Nat} {e : TypeId} {v : Value} {n : Nat} {xs : List Value} (h : w.ownsRow base e k v n xs) (x : Ext w w') : w'.ownsRow base e k v n xs := by
  refine ⟨h.1, ?_⟩
  rcases h.2 with h1 | ⟨g, cap, cur, hv, hg, hh, hr⟩
  · exact .inl h1
  · exact .inr ⟨g, cap, cur, hv, hg, (x.block (lt_of_block hh)).trans hh, hr⟩
theorem heap_new_drew {W : World} {o : Obj} {b : Nat} (h : b = W.heap.size) : ((W.alloc o).drew).heap[b]? = some o := by subst h; exact heap_alloc_new W o
theorem news_at {W : World} {g : Nat} {a b : Value} {t : TypeId} (h : W.heap[g]? = some (.cells #[a, b] t (0, 0))) : ∀ (j : Nat) u, [a, b][j]? = some u → W.cell? ⟨g, j, none⟩ = some u := by
  intro j u hj
  rw [cell_of_block h, ← hj]
  simp

theorem ParInv.done {w wr : World} {bp : Nat} {t : ByteArray} {m : Marks} {r : Bool} {v : Value} {l : List (GE × Value)} (I : ParInv w bp t m r wr v l) : PatAt wr (fun b => w.heap.size ≤ b) bp t ⟨m, r, l.map (·.1)⟩ := by
  refine ⟨I.ge, v, l, I.blk, ⟨?_, fun x hx => (I.fns x hx).far fun b _ hb => Nat.le_trans I.ge (Nat.le_of_lt hb.1)⟩, rfl⟩
  rcases I.own.2 with ⟨h1, h2⟩ | ⟨g, cap, cur, hv, hb, hh, hc, hm, hs, ht⟩
  · exact ⟨none, 0, by rw [h1, h2], by omega, by unfold maxLen; omega, fun j x hj => by rw [List.length_eq_zero_iff.1 h2] at hj; cases hj⟩
  · refine ⟨_, cap, hv, hc, hm, fun j x hj => ⟨g, rfl, by have := I.ge; omega, ?_⟩⟩
    have own := I.own
    rw [hv] at own
    have hj' : j < l.length := (List.getElem?_eq_some_iff.1 hj).1
    obtain ⟨a1, a2⟩ := flatE_at l j x hj
    exact ⟨by rw [own.cellAt (2 * j) (by omega), a1], by rw [own.cellAt (2 * j + 1) (by omega), a2]⟩

theorem ones_fn (F : FuncId) (cap : Array Value) (b : Bool) : ∀ u ∈ [Value.func (.func F) #[] cap, .bool b], u.oneCell' = true := by
  intro u hu
  simp at hu
  rcases hu with rfl | rfl <;> rfl

set_option maxHeartbeats 4000000 in
set_option maxRecDepth 100000 in
theorem gparse_any (s : ByteArray) (w : World) (hs : s.size ≤ maxLen) :
    Calls Tryd.prog 25 #[.string s] w (ParsePost w s) := by
  unfold maxLen at hs
  by_cases h128 : 128 < s.size
  · have HF := Lib.hid (patL_long h128)
    go_enter Tryd.func25, Tryd.ntmps25
    go_wp2_with fail
    go_ret2
    exact ⟨Ext.refl _, by rw [HF.out]; rfl⟩
  · have HM := fun (w : World) hb => Lib.hid (marks_any w.heap.size s (.string s) (.slice none 0 0) ⟨false, false, false⟩ false (w.alloc (.cells #[.string s, .bool false, .bool false, .bool false, .bool false, .slice none 0 0] 81)) hb)
    have HE := fun bp u w h1 h2 => Lib.hid (element_any bp u w h1 h2)
    have h128' : s.size ≤ 128 := by omega
    go_enter Tryd.func25, Tryd.ntmps25
    go_wp2_with fail
    refine ((HM w (heap_alloc_new _ _)).out).mono ?_
    rintro e w1 ⟨hb1, hz1, hR⟩
    have X1 : Ext w w1 := Below.trans ((Ext.refl w).alloc _) hb1
    cases hm : marksL (s.size + 1) ⟨false, false, false⟩ s.toList with
    | none =>
      rw [hm] at hR
      subst hR
      have HF := Lib.hid (patL_marks h128' hm)
      have HX := Lib.hid X1
      clear hb1 hz1 hm X1 HM HE
      go_wp2_with fail
      go_ret2
      exact ⟨HX.out, by rw [HF.out]; rfl⟩
    | some y =>
      obtain ⟨m, r⟩ := y
      rw [hm] at hR
      obtain ⟨rfl, hb⟩ := hR
      have hrl : (rootL r).2.length ≤ s.size := by
        have h1 := rootL_le r
        have h2 := marksL_le hm
        rw [len_toList] at h2
        omega
      by_cases he : 0 < (rootL r).2.length
      · obtain ⟨R, hR⟩ : ∃ R, R = elementsL (s.size + 1) [] (rootL r).2 := ⟨_, rfl⟩
        have HF := Lib.hid (show patL s.toList = _ from by rw [patL_some h128' hm he, ← hR])
        have HR := Lib.hid hR
        have hd : decide (0 < (rootL r).2.length) = true := by simpa using he
        rw [hd]
        have I0 : ParInv w w.heap.size s m (rootL r).1 w1 (.slice none 0 0) [] := ⟨X1, Nat.le_refl _, hb, World.ownsRow_nil _ _ _ _, fun x hx => by cases hx⟩
        have HI := Lib.hid I0
        have hus : (bsL (rootL r).2).size = (rootL r).2.length := by simp [bsL, ByteArray.size]
        have HU := Lib.hid (show (bsL (rootL r).2).toList = (rootL r).2 from bsL_toList _)
        clear hb1 hz1 hm hb hd hR I0 X1 HM
        generalize bsL (rootL r).2 = u0 at *
        have hu1 : u0.size ≤ s.size := by omega
        clear hrl he hus
        generalize (rootL r).1 = r1 at *
        go_wp2_with fail
        go_loopw [5] (fun uv wr => Hid (∃ (u : ByteArray) (f : Nat) (v : Value) (l : List (GE × Value)), uv = .string u ∧ u.size < f ∧ u.size ≤ s.size ∧ l.length + u.size ≤ s.size ∧ elementsL f (l.map (·.1)) u.toList = R ∧ ParInv w w.heap.size s m r1 wr v l))
          (fun uv _ => match uv with | .string u => u.size | _ => 0)
        case atStart => exact ⟨u0, s.size + 1, _, [], rfl, by omega, hu1, by simpa using hu1, by rw [HU.out]; exact HR.out.symm, HI.out⟩
        case round =>
          obtain ⟨u, f, v, l, rfl, hf, hu, hl, hRR, I⟩ := hrel.out
          clear hrel HI HR HU hu1
          obtain ⟨f, rfl⟩ : ∃ g, f = g + 1 := ⟨f - 1, by omega⟩
          have hle := I.ext.size
          have HI := Lib.hid I
          have HRR := Lib.hid hRR
          clear I hRR
          by_cases hu0 : 0 < u.size
          · have HE1 := fun wx => HE w.heap.size u wx hu0 (by omega)
            clear HE
            have n0 : decide ((0 : Int) < u.size) = true := by simpa using hu0
            go_wp2_with fail
            refine ((HE1 _).out).mono ?_
            rintro e w2 ⟨⟨uf, b, n, rfl, hfn, hcl⟩, x2⟩
            cases hq : elementL u.toList with
            | none =>
              rw [hq] at hcl
              obtain rfl : n = 0 := hcl
              have HN := Lib.hid (show patL s.toList = .error 4 from by rw [HF.out, ← HRR.out, elementsL_none hu0 hq])
              have HX := Lib.hid (HI.out.ext.trans x2)
              clear hq x2 HRR HF HE1
              rcases hfn with rfl | ⟨F, cap, rfl⟩
              · go_wp2_with fail
                go_ret2
                exact ⟨HX.out.alloc _, by rw [HN.out]; rfl⟩
              · go_wp2_with fail
                go_ret2
                exact ⟨HX.out.alloc _, by rw [HN.out]; rfl⟩
            | some y =>
              obtain ⟨x, r⟩ := y
              rw [hq] at hcl
              obtain ⟨rfl, rfl, hg⟩ := hcl
              obtain ⟨F, cap, rfl⟩ := gfn_shape hg
              have hr := elementL_lt hq
              rw [len_toList] at hr
              obtain ⟨k, hk⟩ : ∃ k, k = u.size - r.length := ⟨_, rfl⟩
              have hdr := elementL_drop hq
              rw [← hk] at hdr ⊢
              have hk0 : 0 < k := by omega
              have hk2 : k ≤ u.size := by omega
              have n1 : ((k : Int) == 0) = false := beq_eq_false_iff_ne.2 (by omega)
              have HN := Lib.hid (HRR.out.symm.trans (elementsL_some hu0 hq))
              have HDR := Lib.hid hdr
              have HG := Lib.hid hg
              have HX := Lib.hid x2
              have hb2 := (x2.block (lt_of_block HI.out.blk)).trans HI.out.blk
              have c5 : w2.cell? ⟨w.heap.size, 5, none⟩ = some v := cell_of_block hb2
              have f5 : w2.frozen? ⟨w.heap.size, 5, none⟩ = false := frozen_of_block hb2
              have hlt := lt_of_block hb2
              clear hq hg x2 hk hr hdr HRR HE1 HF
              have HO := Lib.hid (owns_ext HI.out.own HX.out)
              have HW := Lib.hid (show (((w2.alloc (.cells #[.func (.func F) #[] cap, .bool x.many] 86)).alloc (.cells #[.func (.func F) #[] cap, .bool x.many] 86)).drew).heap[w.heap.size]? = _ from (((((Ext.refl w2).alloc _).alloc _).drew).block hlt).trans hb2)
              clear hb2
              go_wp2_with fail
              go_region_law
                (refine step_append_k elE (w.heap.size + 1) v l.length (flatE l) (owns_ext HO.out ?_) (w2.heap.size + 1) [.func (.func F) #[] cap, .bool x.many] rfl (.tmp 38) (.tmp 40) rfl rfl ?_ ?_ (news_at (t := 86) ?_) (ones_fn F cap x.many) ?_ ?_ ?_
                 · repeat (first | exact Ext.refl _ | refine Ext.alloc ?_ _ | refine Ext.drew ?_)
                 · simp [Act.eval]
                 · simp [Act.eval]
                 · exact heap_new_drew (by simp)
                 · omega
                 · simp; omega
                 intro v' w3 hown3 hgr3 hrow3 hwh3
                 obtain ⟨g3, cap3, rfl, _⟩ := hrow3
                 have hb3 := (hgr3.block w.heap.size (by simp; omega) (fun e => by have := own_block_ge_k HO.out _ e.symm; omega)).trans HW.out
                 have f53 : w3.frozen? ⟨w.heap.size, 5, none⟩ = false := frozen_of_block hb3
                 have c53 : w3.cell? ⟨w.heap.size, 5, none⟩ = some v := cell_of_block hb3
                 have HP := Lib.hid (ParInv.push (x := (x, .func (.func F) #[] cap)) HI.out ((HX.out.alloc _).alloc _ |>.drew) (HG.out.keeps ((((Ext.refl w2).alloc _).alloc _ |>.drew).keeps _)) hown3 hgr3 hwh3)
                 clear hown3 hgr3 hwh3 hb3)
              all_goals
                go_wp2_with fail
                go_roundw
                case rel => exact ⟨u.extract k u.size, f, _, l ++ [(x, .func (.func F) #[] cap)], rfl, by simp; omega, by simp; omega, by simp; omega, by rw [ext_toList, List.map_append, ← HDR.out]; exact HN.out.symm, HP.out⟩
                case measure => simp; omega
          · have hu1 : u.size = 0 := by omega
            have HN := Lib.hid (show patL s.toList = .ok ⟨m, r1, l.map (·.1)⟩ from by rw [HF.out, ← HRR.out, elementsL_end hu1])
            have n0 : decide ((0 : Int) < u.size) = false := by simpa using hu0
            clear HRR HF HE
            go_wp2_with fail
            go_ret2
            exact ⟨HI.out.ext, by rw [HN.out]; exact ⟨_, rfl, HI.out.done⟩⟩
      · have HF := Lib.hid (patL_empty h128' hm (by omega))
        have hd : decide (0 < (rootL r).2.length) = false := by simpa using he
        rw [hd]
        have HX := Lib.hid X1
        clear hb1 hz1 hm X1 HM HE hb hd he
        generalize bsL (rootL r).2 = u0 at *
        go_wp2_with fail
        go_ret2
        exact ⟨HX.out, by rw [HF.out]; rfl⟩
end Go.Proofs.YtlabhbeacogfbaaDoor
