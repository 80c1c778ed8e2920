/- caravanlaw09's do: contract. -/
import Derived.Test.YtldppmjjgljinaaGreatDoorLawDkB
import Derived.Test.YtldppmjjgljinaaGreatDoorDiskM
import Derived.Test.YtldppmjjgljinaaGreatDoorDiskG
import Derived.Test.YtldppmjjgljinaaGreatDoorDiskF
import Derived.Test.YtldppmjjgljinaaGreatDoorActP
import Derived.Test.YtldppmjjgljinaaGreatDoorBlk
namespace Go.Proofs.YtldppmjjgljinaaGreatDoor
open Go.RowKit

theorem DkRun.fit {k : Nat} {D : Dk} (R : DkRun k D) (hk : k ≤ 100000) : DkFit D := ⟨R.ok, by have := R.len; omega, by have := R.lo; omega, R.hi⟩
theorem picks_in {w0 w : World} {M : List Nat} {v : Value} {ks : List UInt8} (h : BytesIn w0 v ks) (x : Ext w0 w) (hM : ∀ b ∈ M, w0.heap.size ≤ b) : PicksAt w M v ks := by
  obtain ⟨a, cap, h1, _, _, h4, h5⟩ := h
  refine ⟨a, cap, h1, by unfold reach at h4; omega, fun k u hk => ?_⟩
  obtain ⟨g, o, e, hc⟩ := h5 k u hk
  have := lt_of_cell hc
  exact ⟨g, o, e, fun hm => by have := hM g hm; omega, (x.cell this).trans hc⟩
theorem picks_nil (w : World) (M : List Nat) : PicksAt w M (.slice none 0 0) [] := ⟨none, 0, rfl, by decide, fun k u hk => by simp at hk⟩
theorem ActPost.from_ext {w w1 w' : World} {d : Nat} {M I : List Nat} {R : Int × Dk} {e : Ending} (x : Ext w w1) (h : ActPost w1 d M I R e w') : ActPost w d M I R e w' := by
  obtain ⟨h1, M', I', h2, h3⟩ := h
  exact ⟨h1, M', I', h2, Chg.from_ext x h3.chg, fun b hb => (h3.m b hb).imp id fun hge => Nat.le_trans x.size hge, fun b hb => (h3.i b hb).imp id fun hge => Nat.le_trans x.size hge⟩
/-- An act that is small enough to be looked at. -/
structure ActFit (x : ActR) : Prop where
  ok : ActOk x
  p : x.p.size ≤ 1000
  q : x.q.size ≤ 1000
  text : x.text.size ≤ 10000

set_option maxRecDepth 100000 in
set_option maxHeartbeats 4000000 in
theorem ldo_any {w0 w : World} {d : Nat} {M I : List Nat} {D : Dk} (h : DkAt w d M I D) (O : DkFit D) (E : Env w0) (x0 : Ext w0 w) (hM0 : ∀ b ∈ M, w0.heap.size ≤ b) (a : ActR) (hA : ActFit a) (pv : Value) (hp : BytesIn w0 pv a.picks) :
    Calls Tryz.prog 40 #[.pointer (some ⟨d, 0, none⟩), .agg #[.int .i64 a.kind, .string a.p, .string a.q, .string a.text, .int .i64 a.long, .int .i64 a.time, pv]] w (ActPost w d M I (D.doA a)) := by
  have z1 := hA.p
  have z2 := hA.q
  have z3 := hA.text
  have z4 := hA.ok.long.2
  have HK := Lib.hid (show D.doA a = D.done a (a.kind % 16) from rfl)
  have hk := i64_and15 a.kind
  have HD := fun w => Lib.hid (ldata_any a pv w (by omega) z4)
  obtain ⟨dt, hdt⟩ : ∃ s, s = a.data := ⟨_, rfl⟩
  have hdz : dt.size ≤ 3000 := hdt ▸ dataS_size _ _
  have HDT := Lib.hid hdt
  rw [← hdt] at HD
  clear hdt
  have HW := fun w1 (x : Ext w w1) => Lib.hid (Write_any (h.ext x) O (E.ext (x0.trans x)) a.p dt a.time (by omega) (by omega))
  have HAp := fun w1 (x : Ext w w1) => Lib.hid (Append_any (h.ext x) O (E.ext (x0.trans x)) a.p dt (by omega) (by omega))
  have HMk := fun w1 (x : Ext w w1) => Lib.hid (Mkdir_any (h.ext x) O (E.ext (x0.trans x)) a.p (by omega))
  have HLk := fun w1 (x : Ext w w1) => Lib.hid (Link_any (h.ext x) O (E.ext (x0.trans x)) a.p dt a.time (by omega) (by omega))
  have HRn := fun w1 (x : Ext w w1) => Lib.hid (Rename_any (h.ext x) O (E.ext (x0.trans x)) a.p a.q (by omega) (by omega))
  have HRm := fun w1 (x : Ext w w1) => Lib.hid (Remove_any (h.ext x) O (E.ext (x0.trans x)) a.p (by omega))
  have HCr := fun w1 (x : Ext w w1) => Lib.hid (Crash_any (h.ext x) O E (x0.trans x) hM0 pv a.picks (picks_in hp (x0.trans x) hM0))
  have HFu := fun w1 (x : Ext w w1) => Lib.hid (Fuse_any (h.ext x) a.long)
  have HSy := fun w1 (x : Ext w w1) => Lib.hid (Sync_any (h.ext x) O)
  have HE : ∀ (k : Int), a.kind % 16 = k → D.doA a = D.done a k := fun k e => e ▸ rfl
  have HEH := Lib.hid HE
  generalize D.doA a = R at *
  obtain ⟨k, hkk⟩ : ∃ k, a.kind % 16 = k := ⟨_, rfl⟩
  rw [hkk] at hk
  have HR := Lib.hid (HE k hkk)
  have hk16 : 0 ≤ k ∧ k < 16 := by omega
  clear HE HEH HK h O E hkk hA hp
  -- BRANCHES
  by_cases e1 : k = 1
  · subst e1
    have HR2 := Lib.hid (HR.out.trans (show D.done a 1 = D.act (.write a.p a.data a.time) from rfl))
    rw [← HDT.out] at HR2
    clear HR HAp HMk HLk HRn HRm HCr HFu HSy
    generalize a.kind = kd at *
    generalize a.p = xp at *
    generalize a.q = xq at *
    generalize a.text = xt at *
    generalize a.long = lg at *
    generalize a.time = tm at *
    go_enter Tryz.func40, Tryz.ntmps40
    go_wp2_with fail
    have hb := heap_alloc_new w (.cells #[.int .i64 kd, .string xp, .string xq, .string xt, .int .i64 lg, .int .i64 tm, pv] 69)
    have HB := Lib.hid (show ∀ w', (∃ y : After (w.alloc (.cells #[.int .i64 kd, .string xp, .string xq, .string xt, .int .i64 lg, .int .i64 tm, pv] 69)), w' = y.v) → w'.heap[w.heap.size]? = some (.cells #[.int .i64 kd, .string xp, .string xq, .string xt, .int .i64 lg, .int .i64 tm, pv] 69 (0, 0)) from by rintro _ ⟨y, rfl⟩; exact (y.x.block (ltB hb)).trans hb)
    have c1 := fun y => After.at hb y (k := 1)
    have c5 := fun y => After.at hb y (k := 5)
    have HX1 := Lib.hid ((Ext.refl w).alloc (.cells #[.int .i64 kd, .string xp, .string xq, .string xt, .int .i64 lg, .int .i64 tm, pv] 69))
    refine wp_region_after_tail 7 (by kernel_rfl) (by kernel_rfl) ?_
    simp only [List.take_succ_cons, List.take_zero, List.drop_succ_cons, List.drop_zero]
    repeat (first | (refine wpQuiet_load_row rfl 69 (.tmp 3) rfl w.heap.size rfl 69 #[.int .i64 kd, .string xp, .string xq, .string xt, .int .i64 lg, .int .i64 tm, pv] (0, 0) _ HB.out Tryz.underlying69 rfl (by kernel_rfl) ?_; go_frame) | go_big_quiet_step (exact After.of (HD _).out))
    refine wpQuiet_nil ?_
    rintro _ ⟨y, rfl⟩
    clear hb HB c1 c5
    go_wp2_with fail
    refine (HW y.v (HX1.out.trans y.x)).out.mono ?_
    rintro e w4 hq
    obtain ⟨rfl, _⟩ := id hq
    have HQ := Lib.hid (hq.from_ext (HX1.out.trans y.x))
    clear hq
    go_wp2_with fail
    go_ret
    rw [HR2.out]
    exact HQ.out
  by_cases e2 : k = 2
  · subst e2
    have HR2 := Lib.hid (HR.out.trans (show D.done a 2 = D.act (.add a.p a.data) from rfl))
    rw [← HDT.out] at HR2
    clear HR HW HMk HLk HRn HRm HCr HFu HSy
    generalize a.kind = kd at *
    generalize a.p = xp at *
    generalize a.q = xq at *
    generalize a.text = xt at *
    generalize a.long = lg at *
    generalize a.time = tm at *
    go_enter Tryz.func40, Tryz.ntmps40
    go_wp2_with fail
    have hb := heap_alloc_new w (.cells #[.int .i64 kd, .string xp, .string xq, .string xt, .int .i64 lg, .int .i64 tm, pv] 69)
    have HB := Lib.hid (show ∀ w', (∃ y : After (w.alloc (.cells #[.int .i64 kd, .string xp, .string xq, .string xt, .int .i64 lg, .int .i64 tm, pv] 69)), w' = y.v) → w'.heap[w.heap.size]? = some (.cells #[.int .i64 kd, .string xp, .string xq, .string xt, .int .i64 lg, .int .i64 tm, pv] 69 (0, 0)) from by rintro _ ⟨y, rfl⟩; exact (y.x.block (ltB hb)).trans hb)
    have c1 := fun y => After.at hb y (k := 1)
    have HX1 := Lib.hid ((Ext.refl w).alloc (.cells #[.int .i64 kd, .string xp, .string xq, .string xt, .int .i64 lg, .int .i64 tm, pv] 69))
    refine wp_region_after_tail 5 (by kernel_rfl) (by kernel_rfl) ?_
    simp only [List.take_succ_cons, List.take_zero, List.drop_succ_cons, List.drop_zero]
    repeat (first | (refine wpQuiet_load_row rfl 69 (.tmp 3) rfl w.heap.size rfl 69 #[.int .i64 kd, .string xp, .string xq, .string xt, .int .i64 lg, .int .i64 tm, pv] (0, 0) _ HB.out Tryz.underlying69 rfl (by kernel_rfl) ?_; go_frame) | go_big_quiet_step (exact After.of (HD _).out))
    refine wpQuiet_nil ?_
    rintro _ ⟨y, rfl⟩
    clear hb HB c1
    go_wp2_with fail
    refine (HAp y.v (HX1.out.trans y.x)).out.mono ?_
    rintro e w4 hq
    obtain ⟨rfl, _⟩ := id hq
    have HQ := Lib.hid (hq.from_ext (HX1.out.trans y.x))
    clear hq
    go_wp2_with fail
    go_ret
    rw [HR2.out]
    exact HQ.out
  by_cases e3 : k = 3
  · subst e3
    have HR2 := Lib.hid (HR.out.trans (show D.done a 3 = D.act (.mkdir a.p) from rfl))
    clear HR HW HAp HLk HRn HRm HCr HFu HSy HD
    generalize a.kind = kd at *
    generalize a.p = xp at *
    generalize a.q = xq at *
    generalize a.text = xt at *
    generalize a.long = lg at *
    generalize a.time = tm at *
    go_enter Tryz.func40, Tryz.ntmps40
    have HX1 := Lib.hid ((Ext.refl w).alloc (.cells #[.int .i64 kd, .string xp, .string xq, .string xt, .int .i64 lg, .int .i64 tm, pv] 69))
    go_wp2_with fail
    refine (HMk _ HX1.out).out.mono ?_
    rintro e w4 hq
    obtain ⟨rfl, _⟩ := id hq
    have HQ := Lib.hid (hq.from_ext HX1.out)
    clear hq
    go_wp2_with fail
    go_ret
    rw [HR2.out]
    exact HQ.out
  by_cases e4 : k = 4
  · subst e4
    have HR2 := Lib.hid (HR.out.trans (show D.done a 4 = D.act (.link a.p a.data a.time) from rfl))
    rw [← HDT.out] at HR2
    clear HR HW HAp HMk HRn HRm HCr HFu HSy
    generalize a.kind = kd at *
    generalize a.p = xp at *
    generalize a.q = xq at *
    generalize a.text = xt at *
    generalize a.long = lg at *
    generalize a.time = tm at *
    go_enter Tryz.func40, Tryz.ntmps40
    go_wp2_with fail
    have hb := heap_alloc_new w (.cells #[.int .i64 kd, .string xp, .string xq, .string xt, .int .i64 lg, .int .i64 tm, pv] 69)
    have HB := Lib.hid (show ∀ w', (∃ y : After (w.alloc (.cells #[.int .i64 kd, .string xp, .string xq, .string xt, .int .i64 lg, .int .i64 tm, pv] 69)), w' = y.v) → w'.heap[w.heap.size]? = some (.cells #[.int .i64 kd, .string xp, .string xq, .string xt, .int .i64 lg, .int .i64 tm, pv] 69 (0, 0)) from by rintro _ ⟨y, rfl⟩; exact (y.x.block (ltB hb)).trans hb)
    have c1 := fun y => After.at hb y (k := 1)
    have c5 := fun y => After.at hb y (k := 5)
    have HX1 := Lib.hid ((Ext.refl w).alloc (.cells #[.int .i64 kd, .string xp, .string xq, .string xt, .int .i64 lg, .int .i64 tm, pv] 69))
    refine wp_region_after_tail 7 (by kernel_rfl) (by kernel_rfl) ?_
    simp only [List.take_succ_cons, List.take_zero, List.drop_succ_cons, List.drop_zero]
    repeat (first | (refine wpQuiet_load_row rfl 69 (.tmp 3) rfl w.heap.size rfl 69 #[.int .i64 kd, .string xp, .string xq, .string xt, .int .i64 lg, .int .i64 tm, pv] (0, 0) _ HB.out Tryz.underlying69 rfl (by kernel_rfl) ?_; go_frame) | go_big_quiet_step (exact After.of (HD _).out))
    refine wpQuiet_nil ?_
    rintro _ ⟨y, rfl⟩
    clear hb HB c1 c5
    go_wp2_with fail
    refine (HLk y.v (HX1.out.trans y.x)).out.mono ?_
    rintro e w4 hq
    obtain ⟨rfl, _⟩ := id hq
    have HQ := Lib.hid (hq.from_ext (HX1.out.trans y.x))
    clear hq
    go_wp2_with fail
    go_ret
    rw [HR2.out]
    exact HQ.out
  by_cases e5 : k = 5
  · subst e5
    have HR2 := Lib.hid (HR.out.trans (show D.done a 5 = D.act (.rename a.p a.q) from rfl))
    clear HR HW HAp HMk HLk HRm HCr HFu HSy HD
    generalize a.kind = kd at *
    generalize a.p = xp at *
    generalize a.q = xq at *
    generalize a.text = xt at *
    generalize a.long = lg at *
    generalize a.time = tm at *
    go_enter Tryz.func40, Tryz.ntmps40
    have HX1 := Lib.hid ((Ext.refl w).alloc (.cells #[.int .i64 kd, .string xp, .string xq, .string xt, .int .i64 lg, .int .i64 tm, pv] 69))
    go_wp2_with fail
    refine (HRn _ HX1.out).out.mono ?_
    rintro e w4 hq
    obtain ⟨rfl, _⟩ := id hq
    have HQ := Lib.hid (hq.from_ext HX1.out)
    clear hq
    go_wp2_with fail
    go_ret
    rw [HR2.out]
    exact HQ.out
  by_cases e6 : k = 6
  · subst e6
    have HR2 := Lib.hid (HR.out.trans (show D.done a 6 = D.act (.remove a.p) from rfl))
    clear HR HW HAp HMk HLk HRn HCr HFu HSy HD
    generalize a.kind = kd at *
    generalize a.p = xp at *
    generalize a.q = xq at *
    generalize a.text = xt at *
    generalize a.long = lg at *
    generalize a.time = tm at *
    go_enter Tryz.func40, Tryz.ntmps40
    have HX1 := Lib.hid ((Ext.refl w).alloc (.cells #[.int .i64 kd, .string xp, .string xq, .string xt, .int .i64 lg, .int .i64 tm, pv] 69))
    go_wp2_with fail
    refine (HRm _ HX1.out).out.mono ?_
    rintro e w4 hq
    obtain ⟨rfl, _⟩ := id hq
    have HQ := Lib.hid (hq.from_ext HX1.out)
    clear hq
    go_wp2_with fail
    go_ret
    rw [HR2.out]
    exact HQ.out
  by_cases e7 : k = 7
  · subst e7
    have HR2 := Lib.hid (HR.out.trans (show D.done a 7 = (0, D.crash a.picks) from rfl))
    clear HR HW HAp HMk HLk HRn HRm HFu HSy HD
    generalize a.kind = kd at *
    generalize a.p = xp at *
    generalize a.q = xq at *
    generalize a.text = xt at *
    generalize a.long = lg at *
    generalize a.time = tm at *
    go_enter Tryz.func40, Tryz.ntmps40
    have HX1 := Lib.hid ((Ext.refl w).alloc (.cells #[.int .i64 kd, .string xp, .string xq, .string xt, .int .i64 lg, .int .i64 tm, pv] 69))
    go_wp2_with fail
    refine (HCr _ HX1.out).out.mono ?_
    rintro e w4 hq
    obtain ⟨rfl, _⟩ := id hq
    have HQ := Lib.hid (hq.from_ext HX1.out)
    clear hq
    go_wp2_with fail
    go_ret
    rw [HR2.out]
    exact HQ.out
  by_cases e8 : k = 8
  · subst e8
    have HR2 := Lib.hid (HR.out.trans (show D.done a 8 = D.fuse a.long from rfl))
    clear HR HW HAp HMk HLk HRn HRm HCr HSy HD
    generalize a.kind = kd at *
    generalize a.p = xp at *
    generalize a.q = xq at *
    generalize a.text = xt at *
    generalize a.long = lg at *
    generalize a.time = tm at *
    go_enter Tryz.func40, Tryz.ntmps40
    have HX1 := Lib.hid ((Ext.refl w).alloc (.cells #[.int .i64 kd, .string xp, .string xq, .string xt, .int .i64 lg, .int .i64 tm, pv] 69))
    go_wp2_with fail
    refine (HFu _ HX1.out).out.mono ?_
    rintro e w4 hq
    obtain ⟨rfl, _⟩ := id hq
    have HQ := Lib.hid (hq.from_ext HX1.out)
    clear hq
    go_wp2_with fail
    go_ret
    rw [HR2.out]
    exact HQ.out
  · have HR2 := Lib.hid (HR.out.trans (show D.done a k = D.sync from by unfold Dk.done; rw [if_neg e1, if_neg e2, if_neg e3, if_neg e4, if_neg e5, if_neg e6, if_neg e7, if_neg e8]))
    have n1 : (k == 1) = false := by rw [beq_eq_false_iff_ne]; exact e1
    have n2 : (k == 2) = false := by rw [beq_eq_false_iff_ne]; exact e2
    have n3 : (k == 3) = false := by rw [beq_eq_false_iff_ne]; exact e3
    have n4 : (k == 4) = false := by rw [beq_eq_false_iff_ne]; exact e4
    have n5 : (k == 5) = false := by rw [beq_eq_false_iff_ne]; exact e5
    have n6 : (k == 6) = false := by rw [beq_eq_false_iff_ne]; exact e6
    have n7 : (k == 7) = false := by rw [beq_eq_false_iff_ne]; exact e7
    have n8 : (k == 8) = false := by rw [beq_eq_false_iff_ne]; exact e8
    clear e1 e2 e3 e4 e5 e6 e7 e8
    clear HR HW HAp HMk HLk HRn HRm HCr HFu HD
    generalize a.kind = kd at *
    generalize a.p = xp at *
    generalize a.q = xq at *
    generalize a.text = xt at *
    generalize a.long = lg at *
    generalize a.time = tm at *
    go_enter Tryz.func40, Tryz.ntmps40
    have HX1 := Lib.hid ((Ext.refl w).alloc (.cells #[.int .i64 kd, .string xp, .string xq, .string xt, .int .i64 lg, .int .i64 tm, pv] 69))
    go_wp2_with fail
    refine (HSy _ HX1.out).out.mono ?_
    rintro e w4 hq
    obtain ⟨rfl, _⟩ := id hq
    have HQ := Lib.hid (hq.from_ext HX1.out)
    clear hq
    go_wp2_with fail
    go_ret
    rw [HR2.out]
    exact HQ.out
end Go.Proofs.YtldppmjjgljinaaGreatDoor
