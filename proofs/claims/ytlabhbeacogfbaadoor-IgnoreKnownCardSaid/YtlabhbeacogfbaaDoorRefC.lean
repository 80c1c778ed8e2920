/- Contracts of caravanref07's class and element. Printed by gen_refc.py. -/
import Derived.Test.YtlabhbeacogfbaaDoorGlobI
namespace Go.Proofs.YtlabhbeacogfbaaDoor
open Go.RowKit

theorem quad {w : World} {b : Nat} {a0 a1 a2 a3 : Value} {t : TypeId} (h : w.heap[b]? = some (.cells #[a0, a1, a2, a3] t (0, 0))) :
    (w.cell? ⟨b, 0, none⟩ = some a0 ∧ w.cell? ⟨b, 1, none⟩ = some a1 ∧ w.cell? ⟨b, 2, none⟩ = some a2 ∧ w.cell? ⟨b, 3, none⟩ = some a3) ∧
    (w.frozen? ⟨b, 0, none⟩ = false ∧ w.frozen? ⟨b, 1, none⟩ = false ∧ w.frozen? ⟨b, 2, none⟩ = false ∧ w.frozen? ⟨b, 3, none⟩ = false) :=
  ⟨⟨cell_of_block h, cell_of_block h, cell_of_block h, cell_of_block h⟩, frozen_of_block h, frozen_of_block h, frozen_of_block h, frozen_of_block h⟩

theorem written_ext (s : ByteArray) (w : World) (hs : s.size ≤ maxLen) :
    Calls Tryd.prog 79 #[.string s] w fun e w' => e = .returned (.tuple #[.int .u8 (wrS s).1.toNat, .string (wrS s).2.1, .bool (wrS s).2.2]) ∧ Ext w w' :=
  (written_any s w hs).mono fun _ _ ⟨h1, n, h2⟩ => ⟨h1, h2 ▸ (Ext.refl w).drewN n⟩

/-- What 'written' answers, in texts. -/
theorem wr_cases (u : ByteArray) : (wrS u = (0, ⟨#[]⟩, false) ∧ writtenL u.toList = none) ∨ ∃ c r, wrS u = (c, r, true) ∧ writtenL u.toList = some (c, r.toList) ∧ r.size < u.size := by
  unfold wrS
  cases h : writtenL u.toList with
  | none => left; exact ⟨rfl, rfl⟩
  | some x =>
    obtain ⟨c, r⟩ := x
    right
    have h1 := writtenL_lt h
    rw [len_toList] at h1
    exact ⟨c, bsL r, rfl, by rw [bsL_toList], by rw [← len_toList, bsL_toList]; exact h1⟩

def dashB (r : ByteArray) : Prop := ∃ h : 1 < r.size, r[0] = 45 ∧ r[1] ≠ 93

theorem rrange_cases (u : ByteArray) :
    (wrS u = (0, ⟨#[]⟩, false) ∧ rangeL u.toList = none) ∨
    ∃ f r, wrS u = (f, r, true) ∧ r.size < u.size ∧
      ((¬ dashB r ∧ rangeL u.toList = some ((f, f), r.toList)) ∨
       (dashB r ∧
         ((wrS (r.extract 1 r.size) = (0, ⟨#[]⟩, false) ∧ rangeL u.toList = none) ∨
          ∃ t r2, wrS (r.extract 1 r.size) = (t, r2, true) ∧ r2.size < r.size ∧
            ((t.toNat < f.toNat ∧ rangeL u.toList = none) ∨ (¬ t.toNat < f.toNat ∧ rangeL u.toList = some ((f, t), r2.toList)))))) := by
  rcases wr_cases u with ⟨h1, h2⟩ | ⟨f, r, h1, h2, h3⟩
  · left
    refine ⟨h1, ?_⟩
    unfold rangeL
    rw [h2]
  · right
    refine ⟨f, r, h1, h3, ?_⟩
    by_cases hd : dashB r
    · right
      refine ⟨hd, ?_⟩
      obtain ⟨hl, d1, d2⟩ := hd
      have e1 := toList_cons r (by omega)
      have e2 := toList_cons (r.extract 1 r.size) (by simp; omega)
      have g0 : (r.extract 1 r.size)[0]'(by simp; omega) = r[1] := by simp [ByteArray.getElem_extract]
      rw [d1] at e1
      rw [e1] at h2
      rw [e2, g0] at h2
      have hr := rangeL_dash h2 d2
      rw [← g0, ← e2] at hr
      rcases wr_cases (r.extract 1 r.size) with ⟨q1, q2⟩ | ⟨t, r2, q1, q2, q3⟩
      · left
        exact ⟨q1, by rw [hr, q2]⟩
      · right
        refine ⟨t, r2, q1, by simp at q3; omega, ?_⟩
        rw [hr, q2]
        by_cases ht : t.toNat < f.toNat
        · left; exact ⟨ht, by simp [ht]⟩
        · right; exact ⟨ht, by simp [ht]⟩
    · left
      refine ⟨hd, rangeL_plain h2 ?_⟩
      intro d v hdv
      by_cases hl : 1 < r.size
      · rw [toList_cons2 r hl] at hdv
        simp only [List.cons.injEq] at hdv
        obtain ⟨q1, q2, _⟩ := hdv
        rw [← q2]
        by_cases q : r[1] = 93
        · exact q
        · exact absurd ⟨hl, q1, q⟩ hd
      · have := congrArg List.length hdv
        rw [len_toList] at this
        simp at this
        omega

theorem rrangesL_end {m : Nat} {rs : List (UInt8 × UInt8)} {u : ByteArray} (h : u.size = 0) : rangesL m rs u.toList = none := by
  rw [toList_nil u h]; cases m <;> rfl
theorem rrangesL_close {m : Nat} {rs : List (UInt8 × UInt8)} {u : ByteArray} (hk : 0 < u.size) (h : u[0] = 93) : rangesL (m + 1) rs u.toList = if rs.isEmpty then none else some (rs, (u.extract 1 u.size).toList) := by
  have := rangesL_close (m := m) (rs := rs) hk h
  rw [List.drop_zero] at this
  rw [this, ext_toList]
theorem rrangesL_none {m : Nat} {rs : List (UInt8 × UInt8)} {u : ByteArray} (hk : 0 < u.size) (h : u[0] ≠ 93) (hr : rangeL u.toList = none) : rangesL (m + 1) rs u.toList = none := by
  have := rangesL_none (m := m) (rs := rs) hk h (by rw [List.drop_zero]; exact hr)
  rwa [List.drop_zero] at this
theorem rrangesL_some {m : Nat} {rs : List (UInt8 × UInt8)} {u : ByteArray} {r : UInt8 × UInt8} {v : List UInt8} (hk : 0 < u.size) (h : u[0] ≠ 93) (hr : rangeL u.toList = some (r, v)) : rangesL (m + 1) rs u.toList = rangesL m (rs ++ [r]) v := by
  have := rangesL_some (m := m) (rs := rs) hk h (by rw [List.drop_zero]; exact hr)
  rwa [List.drop_zero] at this

/-- An element's four cells. -/
def RElt (w : World) (Far : Nat → Prop) : GE → Array Value → Prop
  | .all, cs => cs = #[.int .i64 1, .int .u8 0, .bool false, .slice none 0 0]
  | .some, cs => cs = #[.int .i64 2, .int .u8 0, .bool false, .slice none 0 0]
  | .any, cs => cs = #[.int .i64 3, .int .u8 0, .bool false, .slice none 0 0]
  | .set neg rs, cs => ∃ v, cs = #[.int .i64 4, .int .u8 0, .bool neg, v] ∧ RangesFrom w Far v rs
  | .byt c, cs => cs = #[.int .i64 5, .int .u8 c.toNat, .bool false, .slice none 0 0]
def RShape (cs : Array Value) : Prop := ∃ k b nn a n c, cs = #[.int .i64 k, .int .u8 b, .bool nn, .slice a n c]

theorem RangesFrom.ffar {w : World} {Far Far' : Nat → Prop} {v : Value} {rs : List (UInt8 × UInt8)} (h : RangesFrom w Far v rs) (k : ∀ b, b < w.heap.size → Far b → Far' b) : RangesFrom w Far' v rs :=
  ⟨h.at_, fun g n cap hv => ⟨k _ (h.far g n cap hv).2 (h.far g n cap hv).1, (h.far g n cap hv).2⟩⟩
theorem RElt.keeps {w w' : World} {Far : Nat → Prop} {e : GE} {cs : Array Value} (h : RElt w Far e cs) (k : Keeps Far w w') : RElt w' Far e cs := by
  cases e with
  | set neg rs => obtain ⟨v, h1, h2⟩ := h; exact ⟨v, h1, h2.keeps k⟩
  | _ => exact h
theorem RElt.far {w : World} {Far Far' : Nat → Prop} {e : GE} {cs : Array Value} (h : RElt w Far e cs) (k : ∀ b, b < w.heap.size → Far b → Far' b) : RElt w Far' e cs := by
  cases e with
  | set neg rs => obtain ⟨v, h1, h2⟩ := h; exact ⟨v, h1, h2.ffar k⟩
  | _ => exact h

/-- What 'class' and 'element' answer. -/
def REltPost (w : World) (R : Option (GE × List UInt8)) (e : Ending) (w' : World) : Prop := (∃ cs r ok, e = .returned (.tuple #[.agg cs, .string r, .bool ok]) ∧ RShape cs ∧
      (match R with | none => ok = false | some (x, r') => ok = true ∧ r.toList = r' ∧ RElt w' (fun b => w.heap.size ≤ b) x cs)) ∧ Ext w w'
theorem REltPost.of_none {w w' : World} {R : Option (GE × List UInt8)} {k b : Int} {nn : Bool} {a : Option Addr} {n c : Nat} {r : ByteArray} (h : R = none) (x : Ext w w') :
    REltPost w R (.returned (.tuple #[.agg #[.int .i64 k, .int .u8 b, .bool nn, .slice a n c], .string r, .bool false])) w' := ⟨⟨_, _, _, rfl, ⟨_, _, _, _, _, _, rfl⟩, by rw [h]⟩, x⟩
theorem REltPost.of_some {w w' : World} {R : Option (GE × List UInt8)} {k b : Int} {nn : Bool} {a : Option Addr} {n c : Nat} {r : ByteArray} {x : GE} {r' : List UInt8} (h : R = some (x, r')) (hr : r.toList = r')
    (he : RElt w' (fun b => w.heap.size ≤ b) x #[.int .i64 k, .int .u8 b, .bool nn, .slice a n c]) (y : Ext w w') :
    REltPost w R (.returned (.tuple #[.agg #[.int .i64 k, .int .u8 b, .bool nn, .slice a n c], .string r, .bool true])) w' := ⟨⟨_, _, _, rfl, ⟨_, _, _, _, _, _, rfl⟩, by rw [h]; exact ⟨rfl, hr, he⟩⟩, y⟩

/-- Memory within the loop of 'class'. -/
structure RClsInv (w : World) (neg : Bool) (wr : World) (v : Value) (rs : List (UInt8 × UInt8)) : Prop where
  ext : Ext w wr
  res : wr.heap[w.heap.size]? = some (.cells #[.int .i64 0, .int .u8 0, .bool false, .slice none 0 0] 96 (0, 0))
  x : wr.heap[w.heap.size + 1]? = some (.cells #[.int .i64 4, .int .u8 0, .bool neg, v] 96 (0, 0))
  own : wr.ownsRow (w.heap.size + 2) 126 2 v rs.length (flatR rs)
theorem RClsInv.on {w wr w1 : World} {neg : Bool} {v : Value} {rs : List (UInt8 × UInt8)} (I : RClsInv w neg wr v rs) (x : Ext wr w1) : RClsInv w neg w1 v rs :=
  ⟨I.ext.trans x, (x.block (lt_of_block I.res)).trans I.res, (x.block (lt_of_block I.x)).trans I.x, owns_ext I.own x⟩
theorem RClsInv.push {w wr w1 : World} {neg : Bool} {v v' : Value} {rs : List (UInt8 × UInt8)} {r : UInt8 × UInt8} {o : Obj} (I : RClsInv w neg wr v rs)
    (hown : w1.ownsRow (w.heap.size + 2) 126 2 v' (rs.length + 1) (flatR rs ++ [.int .u8 r.1.toNat, .int .u8 r.2.toNat])) (hg : (wr.alloc o).grownBy w1 v.ownBlock) :
    RClsInv w neg (w1.setCell ⟨w.heap.size + 1, 3, none⟩ v') v' (rs ++ [r]) := by
  have hge := own_block_ge_k I.own
  have hsz := lt_of_block I.x
  have hbl : ∀ i, i < w.heap.size + 2 → w1.heap[i]? = wr.heap[i]? := fun i hi => by
    rw [hg.block i (by simp; omega) (fun e => by have := hge i e.symm; omega), ((Ext.refl wr).alloc o).block (by omega)]
  refine ⟨?_, ?_, ?_, ?_⟩
  · exact ((I.ext.alloc o).grown hg (by have := I.ext.size; simp; omega) (fun k hk => by have := hge k hk; omega)).setCell (by simp) _
  · rw [heap_setCell_other _ _ _ _ (by simp), hbl _ (by omega)]; exact I.res
  · exact heap_setCell_same _ _ _ _ _ _ ((hbl _ (by omega)).trans I.x)
  · rw [List.length_append, flatR_snoc]
    exact owns_setCell hown (by omega)
theorem RClsInv.elt {w wr : World} {neg : Bool} {v : Value} {rs : List (UInt8 × UInt8)} (I : RClsInv w neg wr v rs) : RElt wr (fun b => w.heap.size + 2 ≤ b) (.set neg rs) #[.int .i64 4, .int .u8 0, .bool neg, v] :=
  ⟨v, rfl, RangesFrom.of_owns I.own fun _ hb => hb⟩
theorem rcls_start (w : World) (neg : Bool) : RClsInv w neg ((w.alloc (.cells #[.int .i64 0, .int .u8 0, .bool false, .slice none 0 0] 96)).alloc (.cells #[.int .i64 4, .int .u8 0, .bool neg, .slice none 0 0] 96)) (.slice none 0 0) [] := by
  refine ⟨((Ext.refl w).alloc _).alloc _, ?_, ?_, World.ownsRow_nil _ _ _ _⟩
  · rw [((Ext.refl _).alloc _).block (by simp)]; exact heap_alloc_new _ _
  · have := heap_alloc_new (w.alloc (.cells #[.int .i64 0, .int .u8 0, .bool false, .slice none 0 0] 96)) (.cells #[.int .i64 4, .int .u8 0, .bool neg, .slice none 0 0] 96)
    rwa [show (w.alloc (.cells #[.int .i64 0, .int .u8 0, .bool false, .slice none 0 0] 96)).heap.size = w.heap.size + 1 from by simp] at this

/-- The result's four cells, stored one by one. -/
theorem set4 {w : World} {b : Nat} {a0 a1 a2 a3 : Value} {t : TypeId} (h : w.heap[b]? = some (.cells #[a0, a1, a2, a3] t (0, 0))) (c0 c1 c2 c3 : Value) :
    ((((w.setCell ⟨b, 0, none⟩ c0).setCell ⟨b, 1, none⟩ c1).setCell ⟨b, 2, none⟩ c2).setCell ⟨b, 3, none⟩ c3).heap[b]? = some (.cells #[c0, c1, c2, c3] t (0, 0)) :=
  heap_setCell_same _ _ _ _ _ _ (heap_setCell_same _ _ _ _ _ _ (heap_setCell_same _ _ _ _ _ _ (heap_setCell_same _ _ _ _ _ _ h)))
theorem ext4 {w wr : World} (x : Ext w wr) (c0 c1 c2 c3 : Value) : Ext w ((((wr.setCell ⟨w.heap.size, 0, none⟩ c0).setCell ⟨w.heap.size, 1, none⟩ c1).setCell ⟨w.heap.size, 2, none⟩ c2).setCell ⟨w.heap.size, 3, none⟩ c3) :=
  (((x.setCell (Nat.le_refl _) _).setCell (Nat.le_refl _) _).setCell (Nat.le_refl _) _).setCell (Nat.le_refl _) _
theorem keep4 {Far : Nat → Prop} {wr : World} {b : Nat} (hb : ¬ Far b) (c0 c1 c2 c3 : Value) : Keeps Far wr ((((wr.setCell ⟨b, 0, none⟩ c0).setCell ⟨b, 1, none⟩ c1).setCell ⟨b, 2, none⟩ c2).setCell ⟨b, 3, none⟩ c3) :=
  ((((Stays.setCell wr hb _).trans (Stays.setCell _ hb _)).trans (Stays.setCell _ hb _)).trans (Stays.setCell _ hb _)).keeps

set_option maxHeartbeats 4000000 in
set_option maxRecDepth 100000 in
theorem rclass_any (s : ByteArray) (w : World) (hs : s.size ≤ 1024) :
    Calls Tryd.prog 78 #[.string s] w (REltPost w (classL s.toList)) := by
  have HP := fun w => Lib.hid (begins07_any s ⟨#[33]⟩ w)
  have HO := fun u w (h : u.size ≤ 1024) => Lib.hid (written_ext u w (by unfold maxLen; omega))
  have HR := fun u => Lib.hid (rrange_cases u)
  generalize hneg : Lib.hasPrefix s.toList (⟨#[33]⟩ : ByteArray).toList = neg at HP
  have HN := Lib.hid (negL_of (s := s) (neg := neg) (by rw [← hneg]; rw [Lib.toList_data, Lib.toList_data]))
  have hs0 : neg = true → 0 < s.size := fun q => by
    rcases Nat.eq_zero_or_pos s.size with h0 | h0
    · rw [q, toList_nil s h0] at hneg; simp [Lib.hasPrefix, Lib.toList_data] at hneg
    · exact h0
  clear hneg
  go_enter Tryd.func78, Tryd.ntmps78
  go_wp2_with fail
  refine ((HP _).out).mono ?_
  rintro e w1 ⟨rfl, hw1⟩
  obtain rfl := hw1.symm
  clear HP
  cases neg
  · obtain ⟨R, hR0⟩ : ∃ R, R = rangesL (s.size + 1) [] s.toList := ⟨_, rfl⟩
    have HC := Lib.hid (show classL s.toList = clsOf false R from by rw [hR0]; exact classL_of (k := 0) HN.out)
    have HR0 := Lib.hid hR0
    clear hR0 hs0
    go_wp2_with fail
    go_loopw [0] (fun sv wr => Hid (∃ (u : ByteArray) (m : Nat) (rs : List (UInt8 × UInt8)) (v : Value), sv = .string u ∧ u.size < m ∧ u.size ≤ s.size ∧ rs.length + u.size ≤ s.size ∧ rangesL m rs u.toList = R ∧ RClsInv w false wr v rs)) (fun sv _ => match sv with | .string u => u.size | _ => 0)
    case atStart => exact ⟨s, s.size + 1, [], _, rfl, by omega, by omega, by simp, HR0.out.symm, rcls_start w false⟩
    case round =>
      obtain ⟨u, m, rs, v, rfl, hm, hu, hrl, hR, I⟩ := hrel.out
      clear hrel
      obtain ⟨va, vc, rfl, hvc, hvc2, _⟩ := RangesAt.of_owns I.own
      unfold maxLen at hvc2
      obtain ⟨m, rfl⟩ : ∃ m', m = m' + 1 := ⟨m - 1, by omega⟩
      have HRR := Lib.hid hR
      have HI := Lib.hid I
      clear hR I HN
      obtain ⟨⟨p0, p1, p2, p3⟩, pf0, pf1, pf2, pf3⟩ := quad HI.out.res
      obtain ⟨⟨x0, x1, x2, x3⟩, xf0, xf1, xf2, xf3⟩ := quad HI.out.x
      have rlt : w.heap.size + 1 < _ := lt_of_block HI.out.x
      by_cases hlt : 0 < u.size
      · by_cases h93 : u[0] = 93
        · have n93 : ((u[0].toNat : Int) != 93) = false := by rw [h93]; rfl
          have n0 : ((u.size : Int) == 0) = false := beq_eq_false_iff_ne.2 (by omega)
          cases rs with
          | nil =>
            have HF := Lib.hid (HRR.out.symm.trans (rrangesL_close hlt h93))
            clear HR HO h93
            go_wp2_with fail
            refine bodyPost_ret (results_row2 rfl _ _ w.heap.size 96 _ (0, 0) _ rfl (by exact set4 HI.out.res _ _ _ _) Tryd.underlying96 rfl (by kernel_rfl)) rfl ?_
            exact REltPost.of_none (by rw [HC.out, HF.out]; rfl) (ext4 HI.out.ext _ _ _ _)
          | cons q rs' =>
            have HF := Lib.hid (HRR.out.symm.trans (rrangesL_close hlt h93))
            have nl : (((q :: rs').length : Int) == 0) = false := beq_eq_false_iff_ne.2 (by simp; omega)
            generalize hqr : q :: rs' = rs at *
            have HQ := Lib.hid hqr
            clear hqr HR HO h93
            go_wp2_with fail
            go_region
            all_goals
              go_wp2_with fail
              refine bodyPost_ret (results_row2 rfl _ _ w.heap.size 96 _ (0, 0) _ rfl (by exact set4 HI.out.res _ _ _ _) Tryd.underlying96 rfl (by kernel_rfl)) rfl ?_
              exact REltPost.of_some (by rw [HC.out, HF.out, ← HQ.out]; rfl) rfl (by rw [HQ.out]; exact ((HI.out.elt.keeps (keep4 (by simp) _ _ _ _)).keeps (((Ext.refl _).drew).keeps _)).far (fun b _ hb => by omega)) ((ext4 HI.out.ext _ _ _ _).drew)
        · have n93 : ((u[0].toNat : Int) != 93) = true := by rw [bne, beq_eq_false_iff_ne.2 (fun e => h93 (UInt8.toNat_inj.1 (by simp; omega)))]; rfl
          go_wp2_with fail
          refine ((HO u _ (by omega)).out).mono ?_
          rintro e w2 ⟨rfl, hx2⟩
          have HI2 := Lib.hid (HI.out.on hx2)
          clear p0 p1 p2 p3 pf0 pf1 pf2 pf3 x0 x1 x2 x3 xf0 xf1 xf2 xf3 rlt
          obtain ⟨⟨p0, p1, p2, p3⟩, pf0, pf1, pf2, pf3⟩ := quad HI2.out.res
          obtain ⟨⟨x0, x1, x2, x3⟩, xf0, xf1, xf2, xf3⟩ := quad HI2.out.x
          have rlt : w.heap.size + 1 < _ := lt_of_block HI2.out.x
          clear hx2 HI
          rcases (HR u).out with ⟨q1, q2⟩ | ⟨f, r, q1, q2, q3⟩
          · rw [q1]
            have HF := Lib.hid (HRR.out.symm.trans (rrangesL_none hlt h93 q2))
            clear HR q2 HO
            go_wp2_with fail
            refine bodyPost_ret (results_row2 rfl _ _ w.heap.size 96 _ (0, 0) _ rfl (by exact set4 HI2.out.res _ _ _ _) Tryd.underlying96 rfl (by kernel_rfl)) rfl ?_
            exact REltPost.of_none (by rw [HC.out, HF.out]; rfl) (ext4 HI2.out.ext _ _ _ _)
          · rw [q1]
            simp only
            rcases q3 with ⟨nd, q3⟩ | ⟨nd, q3⟩
            · have HF := Lib.hid (HRR.out.symm.trans (rrangesL_some hlt h93 q3))
              clear HR q3 HO
              have key : r.size ≤ 1 ∨ (∃ h : 1 < r.size, ((r[0].toNat : Int) == 45) = false) ∨ (∃ h : 1 < r.size, ((r[0].toNat : Int) == 45) = true ∧ ((r[1].toNat : Int) != 93) = false) := by
                by_cases d : 1 < r.size
                · by_cases d2 : r[0] = 45
                  · by_cases d3 : r[1] = 93
                    · exact .inr (.inr ⟨d, by rw [d2]; rfl, by rw [d3]; rfl⟩)
                    · exact absurd ⟨d, d2, d3⟩ nd
                  · exact .inr (.inl ⟨d, beq_eq_false_iff_ne.2 (fun e => d2 (UInt8.toNat_inj.1 (by simp; omega)))⟩)
                · exact .inl (by omega)
              clear nd
              rcases key with d | ⟨d, d2⟩ | ⟨d, d2, d3⟩
              · have d1 : decide ((1 : Int) < (r.size : Int)) = false := by rw [decide_eq_false_iff_not]; omega
                go_wp2_with (at_builtin; refine append_kw elR (w.heap.size + 2) _ rs.length (flatR rs) (HI2.out.own.alloc _) w2.heap.size [.int .u8 f.toNat, .int .u8 f.toNat] rfl (.tmp 63) (.tmp 67) rfl rfl rfl rfl (news2 _ _ _ _) (ones2 _ _) (by omega) (by simp; omega) ?_)
                intro v' w3 hown3 hgr3 hv3 _
                obtain ⟨g3, cap3, rfl, _⟩ := hv3
                have I3 := Lib.hid (RClsInv.push (r := (f, f)) HI2.out hown3 hgr3)
                have hb3 : w3.heap[w.heap.size + 1]? = _ := (hgr3.block _ (by simp; omega) (fun e => by have := own_block_ge_k HI2.out.own _ e.symm; omega)).trans ((((Ext.refl w2).alloc _).block rlt).trans HI2.out.x)
                clear p0 p1 p2 p3 pf0 pf1 pf2 pf3 x0 x1 x2 x3 xf0 xf1 xf2 xf3 rlt
                obtain ⟨⟨x0, x1, x2, x3⟩, xf0, xf1, xf2, xf3⟩ := quad hb3
                clear hb3 hown3 hgr3
                go_wp2_with fail
                go_roundw
                case rel => exact ⟨r, m, rs ++ [(f, f)], _, rfl, by omega, by omega, by simp; omega, HF.out.symm, I3.out⟩
                case measure => simp <;> omega
              · go_wp2_with (at_builtin; refine append_kw elR (w.heap.size + 2) _ rs.length (flatR rs) (HI2.out.own.alloc _) w2.heap.size [.int .u8 f.toNat, .int .u8 f.toNat] rfl (.tmp 63) (.tmp 67) rfl rfl rfl rfl (news2 _ _ _ _) (ones2 _ _) (by omega) (by simp; omega) ?_)
                intro v' w3 hown3 hgr3 hv3 _
                obtain ⟨g3, cap3, rfl, _⟩ := hv3
                have I3 := Lib.hid (RClsInv.push (r := (f, f)) HI2.out hown3 hgr3)
                have hb3 : w3.heap[w.heap.size + 1]? = _ := (hgr3.block _ (by simp; omega) (fun e => by have := own_block_ge_k HI2.out.own _ e.symm; omega)).trans ((((Ext.refl w2).alloc _).block rlt).trans HI2.out.x)
                clear p0 p1 p2 p3 pf0 pf1 pf2 pf3 x0 x1 x2 x3 xf0 xf1 xf2 xf3 rlt
                obtain ⟨⟨x0, x1, x2, x3⟩, xf0, xf1, xf2, xf3⟩ := quad hb3
                clear hb3 hown3 hgr3
                go_wp2_with fail
                go_roundw
                case rel => exact ⟨r, m, rs ++ [(f, f)], _, rfl, by omega, by omega, by simp; omega, HF.out.symm, I3.out⟩
                case measure => simp <;> omega
              · go_wp2_with (at_builtin; refine append_kw elR (w.heap.size + 2) _ rs.length (flatR rs) (HI2.out.own.alloc _) w2.heap.size [.int .u8 f.toNat, .int .u8 f.toNat] rfl (.tmp 63) (.tmp 67) rfl rfl rfl rfl (news2 _ _ _ _) (ones2 _ _) (by omega) (by simp; omega) ?_)
                intro v' w3 hown3 hgr3 hv3 _
                obtain ⟨g3, cap3, rfl, _⟩ := hv3
                have I3 := Lib.hid (RClsInv.push (r := (f, f)) HI2.out hown3 hgr3)
                have hb3 : w3.heap[w.heap.size + 1]? = _ := (hgr3.block _ (by simp; omega) (fun e => by have := own_block_ge_k HI2.out.own _ e.symm; omega)).trans ((((Ext.refl w2).alloc _).block rlt).trans HI2.out.x)
                clear p0 p1 p2 p3 pf0 pf1 pf2 pf3 x0 x1 x2 x3 xf0 xf1 xf2 xf3 rlt
                obtain ⟨⟨x0, x1, x2, x3⟩, xf0, xf1, xf2, xf3⟩ := quad hb3
                clear hb3 hown3 hgr3
                go_wp2_with fail
                go_roundw
                case rel => exact ⟨r, m, rs ++ [(f, f)], _, rfl, by omega, by omega, by simp; omega, HF.out.symm, I3.out⟩
                case measure => simp <;> omega
            · obtain ⟨d, d2, d3⟩ := nd
              have e2 : ((r[0].toNat : Int) == 45) = true := by rw [d2]; rfl
              have e3 : ((r[1].toNat : Int) != 93) = true := by rw [bne, beq_eq_false_iff_ne.2 (fun e => d3 (UInt8.toNat_inj.1 (by simp; omega)))]; rfl
              clear d2 d3
              have HQ3 := Lib.hid q3
              clear q3
              go_wp2_with fail
              refine ((HO (r.extract 1 r.size) _ (by simp; omega)).out).mono ?_
              rintro e w4 ⟨rfl, hx4⟩
              obtain ⟨w2', rfl⟩ : ∃ w' : World, w' = w2 := ⟨_, rfl⟩
              have HI3 := HI2
              clear HI2
              have HI2 := Lib.hid (HI3.out.on hx4)
              obtain ⟨w2, rfl⟩ : ∃ w' : World, w' = w4 := ⟨_, rfl⟩
              clear HI3
              clear p0 p1 p2 p3 pf0 pf1 pf2 pf3 x0 x1 x2 x3 xf0 xf1 xf2 xf3 rlt
              obtain ⟨⟨p0, p1, p2, p3⟩, pf0, pf1, pf2, pf3⟩ := quad HI2.out.res
              obtain ⟨⟨x0, x1, x2, x3⟩, xf0, xf1, xf2, xf3⟩ := quad HI2.out.x
              have rlt : w.heap.size + 1 < _ := lt_of_block HI2.out.x
              clear hx4
              rcases HQ3.out with ⟨p1', p2'⟩ | ⟨t, r2, p1', p2', p3'⟩
              · rw [p1']
                have HF := Lib.hid (HRR.out.symm.trans (rrangesL_none hlt h93 p2'))
                clear HR p2' HQ3 HO
                go_wp2_with fail
                refine bodyPost_ret (results_row2 rfl _ _ w.heap.size 96 _ (0, 0) _ rfl (by exact set4 HI2.out.res _ _ _ _) Tryd.underlying96 rfl (by kernel_rfl)) rfl ?_
                exact REltPost.of_none (by rw [HC.out, HF.out]; rfl) (ext4 HI2.out.ext _ _ _ _)
              · rw [p1']
                simp only
                rcases p3' with ⟨p4', p5'⟩ | ⟨p4', p5'⟩
                · have HF := Lib.hid (HRR.out.symm.trans (rrangesL_none hlt h93 p5'))
                  clear HR p5' HQ3 HO
                  go_wp2_with fail
                  refine bodyPost_ret (results_row2 rfl _ _ w.heap.size 96 _ (0, 0) _ rfl (by exact set4 HI2.out.res _ _ _ _) Tryd.underlying96 rfl (by kernel_rfl)) rfl ?_
                  exact REltPost.of_none (by rw [HC.out, HF.out]; rfl) (ext4 HI2.out.ext _ _ _ _)
                · have HF := Lib.hid (HRR.out.symm.trans (rrangesL_some hlt h93 p5'))
                  clear HR p5' HQ3 HO
                  go_wp2_with (at_builtin; refine append_kw elR (w.heap.size + 2) _ rs.length (flatR rs) (HI2.out.own.alloc _) w2.heap.size [.int .u8 f.toNat, .int .u8 t.toNat] rfl (.tmp 63) (.tmp 67) rfl rfl rfl rfl (news2 _ _ _ _) (ones2 _ _) (by omega) (by simp; omega) ?_)
                  intro v' w3 hown3 hgr3 hv3 _
                  obtain ⟨g3, cap3, rfl, _⟩ := hv3
                  have I3 := Lib.hid (RClsInv.push (r := (f, t)) HI2.out hown3 hgr3)
                  have hb3 : w3.heap[w.heap.size + 1]? = _ := (hgr3.block _ (by simp; omega) (fun e => by have := own_block_ge_k HI2.out.own _ e.symm; omega)).trans ((((Ext.refl w2).alloc _).block rlt).trans HI2.out.x)
                  clear p0 p1 p2 p3 pf0 pf1 pf2 pf3 x0 x1 x2 x3 xf0 xf1 xf2 xf3 rlt
                  obtain ⟨⟨x0, x1, x2, x3⟩, xf0, xf1, xf2, xf3⟩ := quad hb3
                  clear hb3 hown3 hgr3
                  go_wp2_with fail
                  go_roundw
                  case rel => exact ⟨r2, m, rs ++ [(f, t)], _, rfl, by omega, by omega, by simp; omega, HF.out.symm, I3.out⟩
                  case measure => simp <;> omega
      · have hu0 : u.size = 0 := by omega
        have HF := Lib.hid (HRR.out.symm.trans (rrangesL_end hu0))
        have n0 : ((u.size : Int) == 0) = true := by rw [hu0]; rfl
        clear HR HO
        go_wp2_with fail
        refine bodyPost_ret (results_row2 rfl _ _ w.heap.size 96 _ (0, 0) _ rfl (by exact set4 HI.out.res _ _ _ _) Tryd.underlying96 rfl (by kernel_rfl)) rfl ?_
        exact REltPost.of_none (by rw [HC.out, HF.out]; rfl) (ext4 HI.out.ext _ _ _ _)
  · obtain ⟨R, hR0⟩ : ∃ R, R = rangesL (s.size + 1) [] (s.toList.drop 1) := ⟨_, rfl⟩
    have HC := Lib.hid (show classL s.toList = clsOf true R from by rw [hR0]; exact classL_of (k := 1) HN.out)
    have HR0 := Lib.hid hR0
    have hs1 := hs0 rfl
    clear hR0 hs0
    go_wp2_with fail
    go_loopw [0] (fun sv wr => Hid (∃ (u : ByteArray) (m : Nat) (rs : List (UInt8 × UInt8)) (v : Value), sv = .string u ∧ u.size < m ∧ u.size ≤ s.size ∧ rs.length + u.size ≤ s.size ∧ rangesL m rs u.toList = R ∧ RClsInv w true wr v rs)) (fun sv _ => match sv with | .string u => u.size | _ => 0)
    case atStart => exact ⟨s.extract 1 s.size, s.size + 1, [], _, rfl, by simp; omega, by simp, by simp, by rw [ext_toList]; exact HR0.out.symm, rcls_start w true⟩
    case round =>
      obtain ⟨u, m, rs, v, rfl, hm, hu, hrl, hR, I⟩ := hrel.out
      clear hrel
      obtain ⟨va, vc, rfl, hvc, hvc2, _⟩ := RangesAt.of_owns I.own
      unfold maxLen at hvc2
      obtain ⟨m, rfl⟩ : ∃ m', m = m' + 1 := ⟨m - 1, by omega⟩
      have HRR := Lib.hid hR
      have HI := Lib.hid I
      clear hR I HN
      obtain ⟨⟨p0, p1, p2, p3⟩, pf0, pf1, pf2, pf3⟩ := quad HI.out.res
      obtain ⟨⟨x0, x1, x2, x3⟩, xf0, xf1, xf2, xf3⟩ := quad HI.out.x
      have rlt : w.heap.size + 1 < _ := lt_of_block HI.out.x
      by_cases hlt : 0 < u.size
      · by_cases h93 : u[0] = 93
        · have n93 : ((u[0].toNat : Int) != 93) = false := by rw [h93]; rfl
          have n0 : ((u.size : Int) == 0) = false := beq_eq_false_iff_ne.2 (by omega)
          cases rs with
          | nil =>
            have HF := Lib.hid (HRR.out.symm.trans (rrangesL_close hlt h93))
            clear HR HO h93
            go_wp2_with fail
            refine bodyPost_ret (results_row2 rfl _ _ w.heap.size 96 _ (0, 0) _ rfl (by exact set4 HI.out.res _ _ _ _) Tryd.underlying96 rfl (by kernel_rfl)) rfl ?_
            exact REltPost.of_none (by rw [HC.out, HF.out]; rfl) (ext4 HI.out.ext _ _ _ _)
          | cons q rs' =>
            have HF := Lib.hid (HRR.out.symm.trans (rrangesL_close hlt h93))
            have nl : (((q :: rs').length : Int) == 0) = false := beq_eq_false_iff_ne.2 (by simp; omega)
            generalize hqr : q :: rs' = rs at *
            have HQ := Lib.hid hqr
            clear hqr HR HO h93
            go_wp2_with fail
            go_region
            all_goals
              go_wp2_with fail
              refine bodyPost_ret (results_row2 rfl _ _ w.heap.size 96 _ (0, 0) _ rfl (by exact set4 HI.out.res _ _ _ _) Tryd.underlying96 rfl (by kernel_rfl)) rfl ?_
              exact REltPost.of_some (by rw [HC.out, HF.out, ← HQ.out]; rfl) rfl (by rw [HQ.out]; exact ((HI.out.elt.keeps (keep4 (by simp) _ _ _ _)).keeps (((Ext.refl _).drew).keeps _)).far (fun b _ hb => by omega)) ((ext4 HI.out.ext _ _ _ _).drew)
        · have n93 : ((u[0].toNat : Int) != 93) = true := by rw [bne, beq_eq_false_iff_ne.2 (fun e => h93 (UInt8.toNat_inj.1 (by simp; omega)))]; rfl
          go_wp2_with fail
          refine ((HO u _ (by omega)).out).mono ?_
          rintro e w2 ⟨rfl, hx2⟩
          have HI2 := Lib.hid (HI.out.on hx2)
          clear p0 p1 p2 p3 pf0 pf1 pf2 pf3 x0 x1 x2 x3 xf0 xf1 xf2 xf3 rlt
          obtain ⟨⟨p0, p1, p2, p3⟩, pf0, pf1, pf2, pf3⟩ := quad HI2.out.res
          obtain ⟨⟨x0, x1, x2, x3⟩, xf0, xf1, xf2, xf3⟩ := quad HI2.out.x
          have rlt : w.heap.size + 1 < _ := lt_of_block HI2.out.x
          clear hx2 HI
          rcases (HR u).out with ⟨q1, q2⟩ | ⟨f, r, q1, q2, q3⟩
          · rw [q1]
            have HF := Lib.hid (HRR.out.symm.trans (rrangesL_none hlt h93 q2))
            clear HR q2 HO
            go_wp2_with fail
            refine bodyPost_ret (results_row2 rfl _ _ w.heap.size 96 _ (0, 0) _ rfl (by exact set4 HI2.out.res _ _ _ _) Tryd.underlying96 rfl (by kernel_rfl)) rfl ?_
            exact REltPost.of_none (by rw [HC.out, HF.out]; rfl) (ext4 HI2.out.ext _ _ _ _)
          · rw [q1]
            simp only
            rcases q3 with ⟨nd, q3⟩ | ⟨nd, q3⟩
            · have HF := Lib.hid (HRR.out.symm.trans (rrangesL_some hlt h93 q3))
              clear HR q3 HO
              have key : r.size ≤ 1 ∨ (∃ h : 1 < r.size, ((r[0].toNat : Int) == 45) = false) ∨ (∃ h : 1 < r.size, ((r[0].toNat : Int) == 45) = true ∧ ((r[1].toNat : Int) != 93) = false) := by
                by_cases d : 1 < r.size
                · by_cases d2 : r[0] = 45
                  · by_cases d3 : r[1] = 93
                    · exact .inr (.inr ⟨d, by rw [d2]; rfl, by rw [d3]; rfl⟩)
                    · exact absurd ⟨d, d2, d3⟩ nd
                  · exact .inr (.inl ⟨d, beq_eq_false_iff_ne.2 (fun e => d2 (UInt8.toNat_inj.1 (by simp; omega)))⟩)
                · exact .inl (by omega)
              clear nd
              rcases key with d | ⟨d, d2⟩ | ⟨d, d2, d3⟩
              · have d1 : decide ((1 : Int) < (r.size : Int)) = false := by rw [decide_eq_false_iff_not]; omega
                go_wp2_with (at_builtin; refine append_kw elR (w.heap.size + 2) _ rs.length (flatR rs) (HI2.out.own.alloc _) w2.heap.size [.int .u8 f.toNat, .int .u8 f.toNat] rfl (.tmp 63) (.tmp 67) rfl rfl rfl rfl (news2 _ _ _ _) (ones2 _ _) (by omega) (by simp; omega) ?_)
                intro v' w3 hown3 hgr3 hv3 _
                obtain ⟨g3, cap3, rfl, _⟩ := hv3
                have I3 := Lib.hid (RClsInv.push (r := (f, f)) HI2.out hown3 hgr3)
                have hb3 : w3.heap[w.heap.size + 1]? = _ := (hgr3.block _ (by simp; omega) (fun e => by have := own_block_ge_k HI2.out.own _ e.symm; omega)).trans ((((Ext.refl w2).alloc _).block rlt).trans HI2.out.x)
                clear p0 p1 p2 p3 pf0 pf1 pf2 pf3 x0 x1 x2 x3 xf0 xf1 xf2 xf3 rlt
                obtain ⟨⟨x0, x1, x2, x3⟩, xf0, xf1, xf2, xf3⟩ := quad hb3
                clear hb3 hown3 hgr3
                go_wp2_with fail
                go_roundw
                case rel => exact ⟨r, m, rs ++ [(f, f)], _, rfl, by omega, by omega, by simp; omega, HF.out.symm, I3.out⟩
                case measure => simp <;> omega
              · go_wp2_with (at_builtin; refine append_kw elR (w.heap.size + 2) _ rs.length (flatR rs) (HI2.out.own.alloc _) w2.heap.size [.int .u8 f.toNat, .int .u8 f.toNat] rfl (.tmp 63) (.tmp 67) rfl rfl rfl rfl (news2 _ _ _ _) (ones2 _ _) (by omega) (by simp; omega) ?_)
                intro v' w3 hown3 hgr3 hv3 _
                obtain ⟨g3, cap3, rfl, _⟩ := hv3
                have I3 := Lib.hid (RClsInv.push (r := (f, f)) HI2.out hown3 hgr3)
                have hb3 : w3.heap[w.heap.size + 1]? = _ := (hgr3.block _ (by simp; omega) (fun e => by have := own_block_ge_k HI2.out.own _ e.symm; omega)).trans ((((Ext.refl w2).alloc _).block rlt).trans HI2.out.x)
                clear p0 p1 p2 p3 pf0 pf1 pf2 pf3 x0 x1 x2 x3 xf0 xf1 xf2 xf3 rlt
                obtain ⟨⟨x0, x1, x2, x3⟩, xf0, xf1, xf2, xf3⟩ := quad hb3
                clear hb3 hown3 hgr3
                go_wp2_with fail
                go_roundw
                case rel => exact ⟨r, m, rs ++ [(f, f)], _, rfl, by omega, by omega, by simp; omega, HF.out.symm, I3.out⟩
                case measure => simp <;> omega
              · go_wp2_with (at_builtin; refine append_kw elR (w.heap.size + 2) _ rs.length (flatR rs) (HI2.out.own.alloc _) w2.heap.size [.int .u8 f.toNat, .int .u8 f.toNat] rfl (.tmp 63) (.tmp 67) rfl rfl rfl rfl (news2 _ _ _ _) (ones2 _ _) (by omega) (by simp; omega) ?_)
                intro v' w3 hown3 hgr3 hv3 _
                obtain ⟨g3, cap3, rfl, _⟩ := hv3
                have I3 := Lib.hid (RClsInv.push (r := (f, f)) HI2.out hown3 hgr3)
                have hb3 : w3.heap[w.heap.size + 1]? = _ := (hgr3.block _ (by simp; omega) (fun e => by have := own_block_ge_k HI2.out.own _ e.symm; omega)).trans ((((Ext.refl w2).alloc _).block rlt).trans HI2.out.x)
                clear p0 p1 p2 p3 pf0 pf1 pf2 pf3 x0 x1 x2 x3 xf0 xf1 xf2 xf3 rlt
                obtain ⟨⟨x0, x1, x2, x3⟩, xf0, xf1, xf2, xf3⟩ := quad hb3
                clear hb3 hown3 hgr3
                go_wp2_with fail
                go_roundw
                case rel => exact ⟨r, m, rs ++ [(f, f)], _, rfl, by omega, by omega, by simp; omega, HF.out.symm, I3.out⟩
                case measure => simp <;> omega
            · obtain ⟨d, d2, d3⟩ := nd
              have e2 : ((r[0].toNat : Int) == 45) = true := by rw [d2]; rfl
              have e3 : ((r[1].toNat : Int) != 93) = true := by rw [bne, beq_eq_false_iff_ne.2 (fun e => d3 (UInt8.toNat_inj.1 (by simp; omega)))]; rfl
              clear d2 d3
              have HQ3 := Lib.hid q3
              clear q3
              go_wp2_with fail
              refine ((HO (r.extract 1 r.size) _ (by simp; omega)).out).mono ?_
              rintro e w4 ⟨rfl, hx4⟩
              obtain ⟨w2', rfl⟩ : ∃ w' : World, w' = w2 := ⟨_, rfl⟩
              have HI3 := HI2
              clear HI2
              have HI2 := Lib.hid (HI3.out.on hx4)
              obtain ⟨w2, rfl⟩ : ∃ w' : World, w' = w4 := ⟨_, rfl⟩
              clear HI3
              clear p0 p1 p2 p3 pf0 pf1 pf2 pf3 x0 x1 x2 x3 xf0 xf1 xf2 xf3 rlt
              obtain ⟨⟨p0, p1, p2, p3⟩, pf0, pf1, pf2, pf3⟩ := quad HI2.out.res
              obtain ⟨⟨x0, x1, x2, x3⟩, xf0, xf1, xf2, xf3⟩ := quad HI2.out.x
              have rlt : w.heap.size + 1 < _ := lt_of_block HI2.out.x
              clear hx4
              rcases HQ3.out with ⟨p1', p2'⟩ | ⟨t, r2, p1', p2', p3'⟩
              · rw [p1']
                have HF := Lib.hid (HRR.out.symm.trans (rrangesL_none hlt h93 p2'))
                clear HR p2' HQ3 HO
                go_wp2_with fail
                refine bodyPost_ret (results_row2 rfl _ _ w.heap.size 96 _ (0, 0) _ rfl (by exact set4 HI2.out.res _ _ _ _) Tryd.underlying96 rfl (by kernel_rfl)) rfl ?_
                exact REltPost.of_none (by rw [HC.out, HF.out]; rfl) (ext4 HI2.out.ext _ _ _ _)
              · rw [p1']
                simp only
                rcases p3' with ⟨p4', p5'⟩ | ⟨p4', p5'⟩
                · have HF := Lib.hid (HRR.out.symm.trans (rrangesL_none hlt h93 p5'))
                  clear HR p5' HQ3 HO
                  go_wp2_with fail
                  refine bodyPost_ret (results_row2 rfl _ _ w.heap.size 96 _ (0, 0) _ rfl (by exact set4 HI2.out.res _ _ _ _) Tryd.underlying96 rfl (by kernel_rfl)) rfl ?_
                  exact REltPost.of_none (by rw [HC.out, HF.out]; rfl) (ext4 HI2.out.ext _ _ _ _)
                · have HF := Lib.hid (HRR.out.symm.trans (rrangesL_some hlt h93 p5'))
                  clear HR p5' HQ3 HO
                  go_wp2_with (at_builtin; refine append_kw elR (w.heap.size + 2) _ rs.length (flatR rs) (HI2.out.own.alloc _) w2.heap.size [.int .u8 f.toNat, .int .u8 t.toNat] rfl (.tmp 63) (.tmp 67) rfl rfl rfl rfl (news2 _ _ _ _) (ones2 _ _) (by omega) (by simp; omega) ?_)
                  intro v' w3 hown3 hgr3 hv3 _
                  obtain ⟨g3, cap3, rfl, _⟩ := hv3
                  have I3 := Lib.hid (RClsInv.push (r := (f, t)) HI2.out hown3 hgr3)
                  have hb3 : w3.heap[w.heap.size + 1]? = _ := (hgr3.block _ (by simp; omega) (fun e => by have := own_block_ge_k HI2.out.own _ e.symm; omega)).trans ((((Ext.refl w2).alloc _).block rlt).trans HI2.out.x)
                  clear p0 p1 p2 p3 pf0 pf1 pf2 pf3 x0 x1 x2 x3 xf0 xf1 xf2 xf3 rlt
                  obtain ⟨⟨x0, x1, x2, x3⟩, xf0, xf1, xf2, xf3⟩ := quad hb3
                  clear hb3 hown3 hgr3
                  go_wp2_with fail
                  go_roundw
                  case rel => exact ⟨r2, m, rs ++ [(f, t)], _, rfl, by omega, by omega, by simp; omega, HF.out.symm, I3.out⟩
                  case measure => simp <;> omega
      · have hu0 : u.size = 0 := by omega
        have HF := Lib.hid (HRR.out.symm.trans (rrangesL_end hu0))
        have n0 : ((u.size : Int) == 0) = true := by rw [hu0]; rfl
        clear HR HO
        go_wp2_with fail
        refine bodyPost_ret (results_row2 rfl _ _ w.heap.size 96 _ (0, 0) _ rfl (by exact set4 HI.out.res _ _ _ _) Tryd.underlying96 rfl (by kernel_rfl)) rfl ?_
        exact REltPost.of_none (by rw [HC.out, HF.out]; rfl) (ext4 HI.out.ext _ _ _ _)
end Go.Proofs.YtlabhbeacogfbaaDoor
