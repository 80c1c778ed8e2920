/- Contracts of caravan/glob's ends and Match. -/
import Derived.Test.YtlabhbeacogfbaaDoorGlobG
import Derived.Test.YtlabhbeacogfbaaDoorTailQ
import Derived.Outline
namespace Go.Proofs.YtlabhbeacogfbaaDoor
open Go.RowKit

/-- A slice value that is a whole block of bools. -/
def BoolsAt (w : World) (v : Value) (n : Nat) (f : Nat → Bool) : Prop := ∃ g, v = .slice (some ⟨g, 0, none⟩) n n ∧ w.heap[g]? = some (.cells (blA n n f) 4 (0, 0))

theorem ends_start (f : Bool) (s : ByteArray) (a : Nat) : (madeCells #[.bool false] (s.size + 1)).setIfInBounds a (.bool true) = blA (s.size + 1) (s.size + 1) (endsL f [] s.toList a) := by
  refine blA_ext _ _ _ _ (by rw [Array.size_setIfInBounds, size_madeCells]) fun i hi => ?_
  rw [blA_made _ (fun _ => false), Array.getElem?_setIfInBounds, endsL_nil f s.toList a i (by rw [len_toList]; omega), show decide (i < s.size + 1) = true from by simpa using hi]
  by_cases e : a = i
  · subst e
    rw [if_pos rfl, if_pos (by rw [blA_size]; exact hi)]; simp
  · rw [if_neg e, blA_get _ _ _ _ hi, show (i == a) = false from by simpa using (Ne.symm e)]; simp

/-- The state of the round over elements. -/
structure EndsInv (w : World) (n : Nat) (wr : World) (g : Nat) (f : Nat → Bool) : Prop where
  ext : Ext w wr
  now : wr.heap[g]? = some (.cells (blA n n f) 4 (0, 0))

/-- The state of the round over places. -/
structure NextInv (w wr : World) (n : Nat) (wi : World) (x : Value) (many : Bool) (i : Nat) (f : Nat → Bool) : Prop where
  ext : Ext wr wi
  elt : wi.heap[wr.heap.size]? = some (.cells #[x, .bool many] 86 (0, 0))
  next : wi.heap[wr.heap.size + 1]? = some (.cells (blA n i f) 4 (0, 0))

theorem NextInv.start (w wr : World) (n : Nat) (x : Value) (many : Bool) (f : Nat → Bool) : NextInv w wr n ((wr.alloc (.cells #[x, .bool many] 86)).alloc (.cells (madeCells #[.bool false] n) 4)) x many 0 f := by
  refine ⟨((Ext.refl wr).alloc _).alloc _, ?_, ?_⟩
  · rw [((Ext.refl _).alloc _).block (by simp)]; exact heap_alloc_new _ _
  · rw [blA_made n f]
    have := heap_alloc_new (wr.alloc (.cells #[x, .bool many] 86)) (.cells (blA n 0 f) 4)
    rwa [show (wr.alloc (.cells #[x, .bool many] 86)).heap.size = wr.heap.size + 1 from by simp] at this
theorem NextInv.step {w wr wi wj : World} {n : Nat} {x : Value} {many : Bool} {i : Nat} {f : Nat → Bool} (I : NextInv w wr n wi x many i f) (k : Ext wi wj) (hi : i < n) {b : Bool} (hb : f i = b) :
    NextInv w wr n (wj.setCell ⟨wr.heap.size + 1, i, none⟩ (.bool b)) x many (i + 1) f := by
  subst hb
  refine ⟨(I.ext.trans k).setCell (by simp) _, ?_, ?_⟩
  · rw [heap_setCell_other _ _ _ _ (by simp)]
    exact (k.block (lt_of_block I.elt)).trans I.elt
  · rw [← blA_set n i f hi]
    exact heap_setCell_same _ _ _ _ _ _ ((k.block (lt_of_block I.next)).trans I.next)
theorem After.frozen {w : World} {b o : Nat} {r : Bool} (hb : b < w.heap.size) (h : w.frozen? ⟨b, o, none⟩ = r) (x : After w) : x.v.frozen? ⟨b, o, none⟩ = r := (World.frozen?_of_block (x.x.block hb)).trans h
theorem NextInv.calls {w wr wi : World} {n : Nat} {x : Value} {many : Bool} {i bp : Nat} {f : Nat → Bool} {Far : Nat → Prop} {e : GE} {fold : Bool} (I : NextInv w wr n wi x many i f) (hw : Ext w wr) (h : GFn w bp Far e x)
    (hf : w.cell? ⟨bp, 3, none⟩ = some (.bool fold)) : ∃ F cap, x = .func (.func F) #[] cap ∧ Enters Tryd.prog F ∧ ∀ (c : UInt8) (y : After wi), Calls Tryd.prog F (#[.int .u8 c.toNat] ++ cap) y.v fun e' w'' => e' = .returned (.bool (e.holds fold c)) ∧ Ext y.v w'' :=
  gfn_calls (h.keeps ((hw.trans I.ext).keeps _)) (((hw.trans I.ext).cell (lt_of_cell hf)).trans hf)

set_option maxHeartbeats 4000000 in
set_option maxRecDepth 100000 in
theorem ends_any (bp : Nat) (t s : ByteArray) (p : Pat) (a : Nat) (Far : Nat → Prop) (w : World) (hs : s.size ≤ 1024) (ha : a ≤ s.size) (hp : PatAt w Far bp t p) :
    Calls Tryd.prog 54 #[.pointer (some ⟨bp, 0, none⟩), .string s, .int .i64 a] w fun e w' => ∃ v, e = .returned v ∧ BoolsAt w' v (s.size + 1) (endsL p.marks.fold p.es s.toList a) ∧ Ext w w' := by
  obtain ⟨v, l, hb, he, hl⟩ := hp.blk
  obtain ⟨va, cap, rfl, h1, h2, h3⟩ := he.row
  unfold maxLen at h2
  have c5 : w.cell? ⟨bp, 5, none⟩ = some (.slice va l.length cap) := cell_of_block hb
  have C3 := Lib.hid (show w.cell? ⟨bp, 3, none⟩ = some (.bool p.marks.fold) from cell_of_block hb)
  have hlt := lt_of_block hb
  have HE := Lib.hid he.fns
  have HL := Lib.hid hl
  have H3 := Lib.hid h3
  clear he hl hp h3 hb
  generalize p.marks.fold = fold at *
  generalize p.es = es at *
  obtain ⟨i0, hi, hz0, hz1, hz2⟩ := info_parts (show (Tryd.prog.info? 4).map (fun i => (i.zero, i.size, i.bytes)) = some (some (.bool false), 1, 1) from by kernel_rfl)
  have hmk := fun w => run_make (P := Tryd.prog) w 45 4 i0 (.bool false) Tryd.underlying45 hi hz0 .i64 .i64 (s.size + 1) (s.size + 1) (by omega) (by omega) (by rw [hz2]; omega) (by omega)
  have hcm : (madeCells #[.bool false] (s.size + 1))[a]? = some (.bool false) := by rw [blA_made _ (fun _ => false), blA_get _ _ _ _ (by omega)]; simp
  have HS := Lib.hid (ends_start fold s a)
  go_enter Tryd.func54, Tryd.ntmps54
  go_wp2_with fail
  go_loopw [7, 24] (fun now kv wr => Hid (∃ (k g : Nat), k ≤ l.length ∧ kv = .int .i64 k ∧ now = .slice (some ⟨g, 0, none⟩) (s.size + 1) (s.size + 1) ∧ EndsInv w (s.size + 1) wr g (endsL fold (es.take k) s.toList a)))
    (fun _ kv _ => l.length - (intOf kv).toNat)
  case atStart =>
    refine ⟨0, w.heap.size, by omega, rfl, rfl, (Ext.refl w).alloc _, ?_⟩
    rw [HS.out]; exact heap_alloc_new _ _
  case round =>
    obtain ⟨k, g, hk, rfl, rfl, I⟩ := hrel.out
    clear hrel HS
    by_cases hkl : k < l.length
    · obtain ⟨x, hx⟩ : ∃ x, l[k]? = some x := ⟨_, List.getElem?_eq_getElem hkl⟩
      obtain ⟨g0, rfl, _, x1, x2⟩ := H3.out k x hx
      have hgf := HE.out x (List.mem_of_getElem? hx)
      have y1 : wr.cell? ⟨g0, k * 2, none⟩ = some x.2 := by rw [Nat.mul_comm]; exact (I.ext.cell (lt_of_cell x1)).trans x1
      have y2 : wr.cell? ⟨g0, k * 2 + 1, none⟩ = some (.bool x.1.many) := by rw [Nat.mul_comm]; exact (I.ext.cell (lt_of_cell x2)).trans x2
      have hfe : es.take (k + 1) = es.take k ++ [x.1] := by
        rw [← HL.out, ← List.map_take, ← List.map_take, List.take_add_one, hx]; simp
      obtain ⟨F, fc, hxf⟩ := gfn_shape hgf
      rw [hxf] at y1
      have HI := Lib.hid I
      have HG := Lib.hid hgf
      have HFE := Lib.hid hfe
      have HXF := Lib.hid hxf
      clear I x1 x2 hx hgf hfe hxf
      go_wp2_with fail
      obtain ⟨wo, rfl⟩ : ∃ wo : World, wo = wr := ⟨_, rfl⟩
      go_loopw [34] (fun iv wr => Hid (∃ i : Nat, i ≤ s.size + 1 ∧ iv = .int .i64 i ∧ NextInv w wo (s.size + 1) wr (.func (.func F) #[] fc) x.1.many i (endsL fold (es.take (k + 1)) s.toList a))) (fun iv _ => s.size + 1 - (intOf iv).toNat)
      case atStart => exact ⟨0, by omega, rfl, NextInv.start w wo _ _ _ _⟩
      case round =>
        obtain ⟨i, hi, rfl, I2⟩ := hrel.out
        clear hrel
        have J := Lib.hid I2
        clear I2
        by_cases hin : i < s.size + 1
        · have hgi : wr.heap[g]? = some (.cells (blA (s.size + 1) (s.size + 1) (endsL fold (es.take k) s.toList a)) 4 (0, 0)) := (J.out.ext.block (lt_of_block HI.out.now)).trans HI.out.now
          have E0 := After.cell (show wr.cell? ⟨wo.heap.size, 0, none⟩ = some (.func (.func F) #[] fc) from cell_of_block J.out.elt)
          have e1 : wr.cell? ⟨wo.heap.size, 1, none⟩ = some (.bool x.1.many) := cell_of_block J.out.elt
          have N0 := After.cell (show wr.cell? ⟨wo.heap.size + 1, i, none⟩ = some (.bool false) from (cell_of_block J.out.next).trans (by rw [blA_get _ _ _ _ hin]; simp))
          have NF := After.frozen (lt_of_block J.out.next) (show wr.frozen? ⟨wo.heap.size + 1, i, none⟩ = false from frozen_of_block J.out.next)
          have hm : x.1.many = true ∨ x.1.many = false := by cases x.1.many <;> simp
          rcases hm with hm | hm
          · have C1 := After.cell (show wr.cell? ⟨g, i, none⟩ = some (.bool (endsL fold (es.take k) s.toList a i)) from (cell_of_block hgi).trans (blA_at _ _ _ _ hin hin))
            cases hb1 : endsL fold (es.take k) s.toList a i with
            | true =>
              have HB := Lib.hid (show endsL fold (es.take (k + 1)) s.toList a i = true from by
                rw [HFE.out]
                rcases Nat.eq_zero_or_pos i with h0 | h0
                · subst h0; rw [endsL_many_zero _ _ _ hm, hb1]
                · rw [endsL_many _ _ _ hm _ _ _ _ h0 (getElem_toList s (i - 1) (by omega)), hb1]; rfl)
              rw [hb1] at C1
              rw [hm] at e1
              clear hb1 hm hgi
              go_wp2_with fail
              refine wp_region_after_tail 27 (by kernel_rfl) (by kernel_rfl) ?_
              simp only [List.take_succ_cons, List.take_zero, List.drop_succ_cons, List.drop_zero]
              repeat (go_big_quiet_step (fail))
              refine wpQuiet_nil ?_
              rintro _ ⟨y, rfl⟩
              go_wp2_with fail
              go_roundw
              case rel => exact ⟨_, hin, by go_num, NextInv.step J.out y.x hin HB.out⟩
              case measure => simp [intOf]; omega
            | false =>
              rcases Nat.eq_zero_or_pos i with h0 | h0
              · have HB := Lib.hid (show endsL fold (es.take (k + 1)) s.toList a i = false from by
                  rw [HFE.out]; subst h0; rw [endsL_many_zero _ _ _ hm, hb1])
                have d0 : decide ((0 : Int) < (i : Int)) = false := by rw [decide_eq_false_iff_not]; omega
                have d1 : decide (0 < i) = false := by rw [decide_eq_false_iff_not]; omega
                rw [hb1] at C1
                rw [hm] at e1
                clear hb1 hm hgi h0
                go_wp2_with fail
                refine wp_region_after_tail 27 (by kernel_rfl) (by kernel_rfl) ?_
                simp only [List.take_succ_cons, List.take_zero, List.drop_succ_cons, List.drop_zero]
                repeat (go_big_quiet_step (fail))
                refine wpQuiet_nil ?_
                rintro _ ⟨y, rfl⟩
                go_wp2_with fail
                go_roundw
                case rel => exact ⟨_, hin, by go_num, NextInv.step J.out y.x hin HB.out⟩
                case measure => simp [intOf]; omega
              · obtain ⟨j, hj⟩ : ∃ j, i = j + 1 := ⟨i - 1, by omega⟩
                have hj2 : j < s.size := by omega
                have hsj : s.toList[i - 1]? = some s[j] := by rw [show i - 1 = j from by omega]; exact getElem_toList s j hj2
                have hw1 : IntKind.i64.wrap ((i : Int) - 1) = (j : Int) := (IntWalk.i64_in _ (by omega)).trans (by omega)
                have d0 : decide ((0 : Int) < (i : Int)) = true := by rw [decide_eq_true_eq]; omega
                have d1 : decide (0 < i) = true := by rw [decide_eq_true_eq]; omega
                have hj1 : j < s.size + 1 := by omega
                have N1 := After.cell (show wr.cell? ⟨wo.heap.size + 1, j, none⟩ = some (.bool (endsL fold (es.take (k + 1)) s.toList a j)) from (cell_of_block J.out.next).trans (blA_at _ _ _ _ hj1 (by omega)))
                have HBx := endsL_many fold (es.take k) x.1 hm s.toList a i _ h0 hsj
                rw [← HFE.out, hb1, Bool.false_or, show i - 1 = j from by omega] at HBx
                rw [hb1] at C1
                rw [hm] at e1
                cases hb2 : endsL fold (es.take (k + 1)) s.toList a j with
                | false =>
                  rw [hb2] at N1 HBx
                  have HB := Lib.hid HBx
                  clear hb1 hb2 hm hgi h0 HBx hsj hj
                  go_wp2_with fail
                  refine wp_region_after_tail 27 (by kernel_rfl) (by kernel_rfl) ?_
                  simp only [List.take_succ_cons, List.take_zero, List.drop_succ_cons, List.drop_zero]
                  repeat (go_big_quiet_step (fail))
                  refine wpQuiet_nil ?_
                  rintro _ ⟨y, rfl⟩
                  go_wp2_with fail
                  go_roundw
                  case rel => exact ⟨_, hin, by go_num, NextInv.step J.out y.x hin HB.out⟩
                  case measure => simp [intOf]; omega
                | true =>
                  rw [hb2, Bool.true_and] at HBx
                  rw [hb2] at N1
                  have HB := Lib.hid HBx
                  obtain ⟨F2, fc2, hv2, hen, hcalls⟩ := J.out.calls HI.out.ext (HXF.out ▸ HG.out) C3.out
                  obtain ⟨rfl, rfl⟩ : F2 = F ∧ fc2 = fc := by cases hv2; exact ⟨rfl, rfl⟩
                  have hen : ∀ args W, (callFunc F2 args).run Tryd.prog W = .ok (.enter F2 args) W := hen
                  have HH := fun y => Lib.hid (hcalls s[j] y)
                  clear hb1 hb2 hm hgi h0 HBx hsj hj hcalls hv2
                  generalize x.1.holds fold s[j] = b3 at *
                  go_wp2_with fail
                  refine wp_region_after_tail 27 (by kernel_rfl) (by kernel_rfl) ?_
                  simp only [List.take_succ_cons, List.take_zero, List.drop_succ_cons, List.drop_zero]
                  repeat (go_big_quiet_step (exact After.of (HH _).out))
                  refine wpQuiet_nil ?_
                  rintro _ ⟨y, rfl⟩
                  go_wp2_with fail
                  go_roundw
                  case rel => exact ⟨_, hin, by go_num, NextInv.step J.out y.x hin HB.out⟩
                  case measure => simp [intOf]; omega
          · rcases Nat.eq_zero_or_pos i with h0 | h0
            · have HB := Lib.hid (show endsL fold (es.take (k + 1)) s.toList a i = false from by
                rw [HFE.out]; subst h0; rw [endsL_one_zero _ _ _ hm])
              have d0 : decide ((0 : Int) < (i : Int)) = false := by rw [decide_eq_false_iff_not]; omega
              have d1 : decide (0 < i) = false := by rw [decide_eq_false_iff_not]; omega
              rw [hm] at e1
              clear hm hgi h0
              go_wp2_with fail
              refine wp_region_after_tail 21 (by kernel_rfl) (by kernel_rfl) ?_
              simp only [List.take_succ_cons, List.take_zero, List.drop_succ_cons, List.drop_zero]
              repeat (go_big_quiet_step (fail))
              refine wpQuiet_nil ?_
              rintro _ ⟨y, rfl⟩
              go_wp2_with fail
              go_roundw
              case rel => exact ⟨_, hin, by go_num, NextInv.step J.out y.x hin HB.out⟩
              case measure => simp [intOf]; omega
            · obtain ⟨j, hj⟩ : ∃ j, i = j + 1 := ⟨i - 1, by omega⟩
              have hj2 : j < s.size := by omega
              have hsj : s.toList[i - 1]? = some s[j] := by rw [show i - 1 = j from by omega]; exact getElem_toList s j hj2
              have hw1 : IntKind.i64.wrap ((i : Int) - 1) = (j : Int) := (IntWalk.i64_in _ (by omega)).trans (by omega)
              have d0 : decide ((0 : Int) < (i : Int)) = true := by rw [decide_eq_true_eq]; omega
              have d1 : decide (0 < i) = true := by rw [decide_eq_true_eq]; omega
              have hj1 : j < s.size + 1 := by omega
              have N1 := After.cell (show wr.cell? ⟨g, j, none⟩ = some (.bool (endsL fold (es.take k) s.toList a j)) from (cell_of_block hgi).trans (blA_at _ _ _ _ hj1 hj1))
              have HBx := endsL_one fold (es.take k) x.1 hm s.toList a i _ h0 hsj
              rw [← HFE.out, show i - 1 = j from by omega] at HBx
              rw [hm] at e1
              cases hb2 : endsL fold (es.take k) s.toList a j with
              | false =>
                rw [hb2] at N1 HBx
                have HB := Lib.hid HBx
                clear hb2 hm hgi h0 HBx hsj hj
                go_wp2_with fail
                refine wp_region_after_tail 21 (by kernel_rfl) (by kernel_rfl) ?_
                simp only [List.take_succ_cons, List.take_zero, List.drop_succ_cons, List.drop_zero]
                repeat (go_big_quiet_step (fail))
                refine wpQuiet_nil ?_
                rintro _ ⟨y, rfl⟩
                go_wp2_with fail
                go_roundw
                case rel => exact ⟨_, hin, by go_num, NextInv.step J.out y.x hin HB.out⟩
                case measure => simp [intOf]; omega
              | true =>
                rw [hb2, Bool.true_and] at HBx
                rw [hb2] at N1
                have HB := Lib.hid HBx
                obtain ⟨F2, fc2, hv2, hen, hcalls⟩ := J.out.calls HI.out.ext (HXF.out ▸ HG.out) C3.out
                obtain ⟨rfl, rfl⟩ : F2 = F ∧ fc2 = fc := by cases hv2; exact ⟨rfl, rfl⟩
                have hen : ∀ args W, (callFunc F2 args).run Tryd.prog W = .ok (.enter F2 args) W := hen
                have HH := fun y => Lib.hid (hcalls s[j] y)
                clear hb2 hm hgi h0 HBx hsj hj hcalls hv2
                generalize x.1.holds fold s[j] = b3 at *
                go_wp2_with fail
                refine wp_region_after_tail 21 (by kernel_rfl) (by kernel_rfl) ?_
                simp only [List.take_succ_cons, List.take_zero, List.drop_succ_cons, List.drop_zero]
                repeat (go_big_quiet_step (exact After.of (HH _).out))
                refine wpQuiet_nil ?_
                rintro _ ⟨y, rfl⟩
                go_wp2_with fail
                go_roundw
                case rel => exact ⟨_, hin, by go_num, NextInv.step J.out y.x hin HB.out⟩
                case measure => simp [intOf]; omega
        · obtain rfl : i = s.size + 1 := by omega
          have HN := Lib.hid (EndsInv.mk (HI.out.ext.trans J.out.ext) J.out.next)
          go_wp2_with fail
          go_roundw
          case rel => exact ⟨k + 1, wo.heap.size + 1, by omega, by go_num, rfl, HN.out⟩
          case measure => simp [intOf]; omega
    · have hkl2 : k = l.length := by omega
      have hle : es.take k = es := by rw [← HL.out, hkl2]; exact List.take_of_length_le (by simp)
      rw [hle] at I
      have HI := Lib.hid I
      clear I hle
      subst hkl2
      go_wp2_with fail
      go_ret
      exact ⟨_, rfl, ⟨g, rfl, HI.out.now⟩, HI.out.ext⟩
end Go.Proofs.YtlabhbeacogfbaaDoor
