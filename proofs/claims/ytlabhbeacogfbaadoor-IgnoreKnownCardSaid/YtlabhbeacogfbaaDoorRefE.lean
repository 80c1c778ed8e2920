/- Contract of caravanref07's holds. Printed by gen_refe.py. -/
import Derived.Test.YtlabhbeacogfbaaDoorRefD
namespace Go.Proofs.YtlabhbeacogfbaaDoor
open Go.RowKit

theorem rholds_set (f neg : Bool) (rs : List (UInt8 × UInt8)) (c : UInt8) (h : c ≠ 47) : (GE.set neg rs).holds f c = ((inR rs c || f && inR rs (otherC c)) != neg) := by
  rw [holds_set f neg rs c h]
  cases f
  · cases inR rs c <;> cases neg <;> rfl
  · have := fold_in rs c
    simp only [Bool.true_and]
    rw [this]
    cases neg <;> cases (inR rs c || inR rs (otherC c)) <;> rfl
theorem rholds_byt (f : Bool) (b c : UInt8) : (GE.byt b).holds f c = (c == b || f && otherC c == b) := by
  show (c == b || f && lowerC c == lowerC b) = _
  cases f
  · simp
  · simp only [Bool.true_and]; exact fold_byte c b

/-- A pattern's value. -/
def patV (m : Marks) (r : Bool) (v : Value) : Value := .agg #[.bool m.neg, .bool m.fold, .bool m.del, .bool r, v]

set_option maxHeartbeats 4000000 in
theorem rholds_any (m : Marks) (r : Bool) (a : Option Addr) (n cap : Nat) (e : GE) (cs : Array Value) (c : UInt8) (Far : Nat → Prop) (w : World) (h : RElt w Far e cs) :
    Calls Tryd.prog 80 #[patV m r (.slice a n cap), .agg cs, .int .u8 c.toNat] w fun e' w' => e' = .returned (.bool (e.holds m.fold c)) ∧ Ext w w' := by
  have hc := c.toNat_lt
  unfold patV
  cases e with
  | all =>
    obtain rfl := h
    go_enter Tryd.func80, Tryd.ntmps80
    go_wp2_with fail
    go_ret
    exact ⟨rfl, (((Ext.refl w).alloc _).alloc _)⟩
  | some =>
    obtain rfl := h
    rw [show (GE.some).holds m.fold c = ((c.toNat : Int) != 47) from by
      show (c != 47) = _
      by_cases h47 : c = 47
      · rw [h47]; rfl
      · rw [show ((c.toNat : Int) != 47) = true from by rw [bne, toNat_ne47 h47]; rfl]; simp [h47]]
    go_enter Tryd.func80, Tryd.ntmps80
    go_wp2_with fail
    go_ret
    exact ⟨rfl, (((Ext.refl w).alloc _).alloc _)⟩
  | any =>
    obtain rfl := h
    rw [show (GE.any).holds m.fold c = ((c.toNat : Int) != 47) from by
      show (c != 47) = _
      by_cases h47 : c = 47
      · rw [h47]; rfl
      · rw [show ((c.toNat : Int) != 47) = true from by rw [bne, toNat_ne47 h47]; rfl]; simp [h47]]
    go_enter Tryd.func80, Tryd.ntmps80
    go_wp2_with fail
    go_ret
    exact ⟨rfl, (((Ext.refl w).alloc _).alloc _)⟩
  | set neg rs =>
    obtain ⟨v, rfl, hv⟩ := h
    obtain ⟨va, vc, rfl, h1, h2, h3⟩ := hv.at_
    have HR := Lib.hid hv.at_
    unfold maxLen at h2
    clear hv h3
    obtain ⟨X, hX⟩ : ∃ X, X = (w.alloc (.cells #[.bool m.neg, .bool m.fold, .bool m.del, .bool r, .slice a n cap] 66)).alloc (.cells #[.int .i64 4, .int .u8 0, .bool neg, .slice va rs.length vc] 96) := ⟨_, rfl⟩
    have hXE : Ext w X := hX ▸ (((Ext.refl w).alloc _).alloc _)
    have G1 := After.cell (show X.cell? ⟨w.heap.size, 1, none⟩ = some (.bool m.fold) from by rw [hX, cell_alloc_old (by simp), cell_alloc_new rfl]; rfl)
    have G2 := After.cell (show X.cell? ⟨w.heap.size + 1, 2, none⟩ = some (.bool neg) from by rw [hX, cell_alloc_new (by simp)]; rfl)
    have G3 := After.cell (show X.cell? ⟨w.heap.size + 1, 3, none⟩ = some (.slice va rs.length vc) from by rw [hX, cell_alloc_new (by simp)]; rfl)
    have HXE := Lib.hid hXE
    have HW := fun (d : UInt8) (x : After X) => Lib.hid (within_any (.slice va rs.length vc) rs d x.v (HR.out.ext (hXE.trans x.x)))
    have HWc := HW c
    have HWo := HW (otherC c)
    have HO := fun x => Lib.hid (other_any c x)
    clear HW hXE
    generalize hi : inR rs c = i1 at *
    generalize ho : inR rs (otherC c) = i2 at *
    generalize hf : m.fold = fold at *
    generalize hoc : otherC c = oc at *
    by_cases h47 : c = 47
    · have n47 : ((c.toNat : Int) != 47) = false := by rw [h47]; rfl
      rw [show (GE.set neg rs).holds fold c = false from by rw [h47]; rfl]
      clear h47 hi ho hoc hf
      cases i1
      · cases fold
        · go_enter Tryd.func80, Tryd.ntmps80
          go_wp2_with fail
          rw [← hX]
          clear hX
          refine wp_region_after (by kernel_rfl) (by kernel_rfl) ?_
          repeat (go_big_quiet_step (first | (go_at_call_of 98 c; exact After.draws (HWc _).out) | (go_at_call_of 98 oc; exact After.draws (HWo _).out) | (go_at_call_of 99 c; exact After.same (HO _).out)))
          refine wpQuiet_nil ?_
          rintro _ ⟨y, rfl⟩
          go_wp2_with fail
          go_ret
          exact ⟨ret_bool (by rfl), HXE.out.trans y.x⟩
        · go_enter Tryd.func80, Tryd.ntmps80
          go_wp2_with fail
          rw [← hX]
          clear hX
          refine wp_region_after (by kernel_rfl) (by kernel_rfl) ?_
          repeat (go_big_quiet_step (first | (go_at_call_of 98 c; exact After.draws (HWc _).out) | (go_at_call_of 98 oc; exact After.draws (HWo _).out) | (go_at_call_of 99 c; exact After.same (HO _).out)))
          refine wpQuiet_nil ?_
          rintro _ ⟨y, rfl⟩
          go_wp2_with fail
          go_ret
          exact ⟨ret_bool (by rfl), HXE.out.trans y.x⟩
      · go_enter Tryd.func80, Tryd.ntmps80
        go_wp2_with fail
        rw [← hX]
        clear hX
        refine wp_region_after (by kernel_rfl) (by kernel_rfl) ?_
        repeat (go_big_quiet_step (first | (go_at_call_of 98 c; exact After.draws (HWc _).out) | (go_at_call_of 98 oc; exact After.draws (HWo _).out) | (go_at_call_of 99 c; exact After.same (HO _).out)))
        refine wpQuiet_nil ?_
        rintro _ ⟨y, rfl⟩
        go_wp2_with fail
        go_ret
        exact ⟨ret_bool (by rfl), HXE.out.trans y.x⟩
    · have n47 : ((c.toNat : Int) != 47) = true := by rw [bne, toNat_ne47 h47]; rfl
      rw [rholds_set fold neg rs c h47, hi, hoc, ho]
      clear h47 hi ho hoc hf
      cases i1
      · cases fold
        · go_enter Tryd.func80, Tryd.ntmps80
          go_wp2_with fail
          rw [← hX]
          clear hX
          refine wp_region_after (by kernel_rfl) (by kernel_rfl) ?_
          repeat (go_big_quiet_step (first | (go_at_call_of 98 c; exact After.draws (HWc _).out) | (go_at_call_of 98 oc; exact After.draws (HWo _).out) | (go_at_call_of 99 c; exact After.same (HO _).out)))
          refine wpQuiet_nil ?_
          rintro _ ⟨y, rfl⟩
          go_wp2_with fail
          go_ret
          exact ⟨ret_bool (by first | rfl | (cases neg <;> rfl)), HXE.out.trans y.x⟩
        · go_enter Tryd.func80, Tryd.ntmps80
          go_wp2_with fail
          rw [← hX]
          clear hX
          refine wp_region_after (by kernel_rfl) (by kernel_rfl) ?_
          repeat (go_big_quiet_step (first | (go_at_call_of 98 c; exact After.draws (HWc _).out) | (go_at_call_of 98 oc; exact After.draws (HWo _).out) | (go_at_call_of 99 c; exact After.same (HO _).out)))
          refine wpQuiet_nil ?_
          rintro _ ⟨y, rfl⟩
          go_wp2_with fail
          go_ret
          exact ⟨ret_bool (by first | rfl | (cases neg <;> cases i2 <;> rfl)), HXE.out.trans y.x⟩
      · go_enter Tryd.func80, Tryd.ntmps80
        go_wp2_with fail
        rw [← hX]
        clear hX
        refine wp_region_after (by kernel_rfl) (by kernel_rfl) ?_
        repeat (go_big_quiet_step (first | (go_at_call_of 98 c; exact After.draws (HWc _).out) | (go_at_call_of 98 oc; exact After.draws (HWo _).out) | (go_at_call_of 99 c; exact After.same (HO _).out)))
        refine wpQuiet_nil ?_
        rintro _ ⟨y, rfl⟩
        go_wp2_with fail
        go_ret
        exact ⟨ret_bool (by first | rfl | (cases neg <;> rfl)), HXE.out.trans y.x⟩
  | byt b =>
    obtain rfl := h
    obtain ⟨X, hX⟩ : ∃ X, X = (w.alloc (.cells #[.bool m.neg, .bool m.fold, .bool m.del, .bool r, .slice a n cap] 66)).alloc (.cells #[.int .i64 5, .int .u8 b.toNat, .bool false, .slice none 0 0] 96) := ⟨_, rfl⟩
    have hXE : Ext w X := hX ▸ (((Ext.refl w).alloc _).alloc _)
    have G1 := After.cell (show X.cell? ⟨w.heap.size, 1, none⟩ = some (.bool m.fold) from by rw [hX, cell_alloc_old (by simp), cell_alloc_new rfl]; rfl)
    have G2 := After.cell (show X.cell? ⟨w.heap.size + 1, 1, none⟩ = some (.int .u8 b.toNat) from by rw [hX, cell_alloc_new (by simp)]; rfl)
    have HXE := Lib.hid hXE
    have HO := fun x => Lib.hid (other_any c x)
    clear hXE
    rw [rholds_byt m.fold b c]
    have key : ∀ d : UInt8, ((d.toNat : Int) == (b.toNat : Int)) = (d == b) := fun d => by
      by_cases h : d = b
      · rw [h]; simp
      · rw [toNat_ne h, beq_eq_false_iff_ne.2 h]
    have kc := key c
    have ko := key (otherC c)
    clear key
    generalize hf : m.fold = fold at *
    generalize (c == b) = i1 at *
    generalize (otherC c == b) = i2 at *
    generalize hoc : otherC c = oc at *
    clear hoc hf
    cases i1
    · cases fold
      · go_enter Tryd.func80, Tryd.ntmps80
        go_wp2_with fail
        rw [← hX]
        clear hX
        refine wp_region_after (by kernel_rfl) (by kernel_rfl) ?_
        repeat (go_big_quiet_step (exact After.same (HO _).out))
        refine wpQuiet_nil ?_
        rintro _ ⟨y, rfl⟩
        go_wp2_with fail
        go_ret
        exact ⟨ret_bool (by rfl), HXE.out.trans y.x⟩
      · go_enter Tryd.func80, Tryd.ntmps80
        go_wp2_with fail
        rw [← hX]
        clear hX
        refine wp_region_after (by kernel_rfl) (by kernel_rfl) ?_
        repeat (go_big_quiet_step (exact After.same (HO _).out))
        refine wpQuiet_nil ?_
        rintro _ ⟨y, rfl⟩
        go_wp2_with fail
        go_ret
        exact ⟨ret_bool (by first | rfl | (cases i2 <;> rfl)), HXE.out.trans y.x⟩
    · go_enter Tryd.func80, Tryd.ntmps80
      go_wp2_with fail
      rw [← hX]
      clear hX
      refine wp_region_after (by kernel_rfl) (by kernel_rfl) ?_
      repeat (go_big_quiet_step (exact After.same (HO _).out))
      refine wpQuiet_nil ?_
      rintro _ ⟨y, rfl⟩
      go_wp2_with fail
      go_ret
      exact ⟨ret_bool (by first | rfl | (cases fold <;> rfl)), HXE.out.trans y.x⟩
end Go.Proofs.YtlabhbeacogfbaaDoor
