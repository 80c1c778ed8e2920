/- Contract of caravanref07's Match. Printed by gen_refx.py. -/
import Derived.Test.YtlabhbeacogfbaaDoorRefW
namespace Go.Proofs.YtlabhbeacogfbaaDoor
open Go.RowKit

theorem noneBelow (f : Bool) (es : List GE) (s : List UInt8) (a : Nat) : NoneOf a fun b => endsL f es s a b && endL s b := fun i hi => by
  show (endsL f es s a i && endL s i) = false
  unfold endsL
  rw [show decide (a ≤ i) = false from by rw [decide_eq_false_iff_not]; omega]
  rfl

set_option maxHeartbeats 8000000 in
set_option maxRecDepth 100000 in
theorem rmatch_any (p : Pat) (v : Value) (l : List (GE × Array Value)) (s : ByteArray) (Far : Nat → Prop) (w : World) (hs : s.size ≤ maxLen) (hl1 : l.length ≤ 1024) (hl : l.map (·.1) = p.es) (h : REltsAt w Far v l) :
    Calls Tryd.prog 35 #[patV p.marks p.rooted v, .string s] w fun e w' => e = .returned (.bool (matchL p s.toList)) ∧ Ext w w' := by
  obtain ⟨va, cap, rfl, h1, h2, h3⟩ := h.row
  unfold maxLen at h2 hs
  unfold patV
  have HR := Lib.hid h
  have HL := Lib.hid hl
  have HM := Lib.hid (matchL_rows p s.toList)
  clear h h3 hl
  generalize matchL p s.toList = M at *
  by_cases h160 : 160 < s.size
  · have HF := Lib.hid (show M = false from by rw [HM.out, len_toList]; simp; omega)
    clear HM
    go_enter Tryd.func35, Tryd.ntmps35
    go_wp2_with fail
    go_ret
    exact ⟨ret_bool HF.out.symm, (Ext.refl _).alloc _⟩
  · have hs2 : s.size ≤ 160 := by omega
    have HM2 := Lib.hid (show M = (List.range (s.size + 1)).any (rowL p s.toList) from by rw [HM.out, len_toList]; simp [hs2])
    clear HM
    obtain ⟨W1, hW1⟩ : ∃ W1, W1 = w.alloc (.cells #[.bool p.marks.neg, .bool p.marks.fold, .bool p.marks.del, .bool p.rooted, .slice va l.length cap] 66) := ⟨_, rfl⟩
    have HX0 := Lib.hid (show Ext w W1 from hW1 ▸ (Ext.refl w).alloc _)
    have HP := Lib.hid (show W1.heap[w.heap.size]? = some (.cells #[.bool p.marks.neg, .bool p.marks.fold, .bool p.marks.del, .bool p.rooted, .slice va l.length cap] 66 (0, 0)) from by rw [hW1]; exact heap_alloc_new _ _)
    have HW1 := Lib.hid hW1
    clear hW1
    go_enter Tryd.func35, Tryd.ntmps35
    go_wp2_with fail
    rw [← HW1.out]
    go_loopw [5] (fun fv wr => Hid (∃ a : Nat, a ≤ s.size + 1 ∧ fv = .int .i64 a ∧ NoneOf a (rowL p s.toList) ∧ Ext W1 wr)) (fun fv _ => s.size + 1 - (intOf fv).toNat)
    case atStart => exact ⟨0, by omega, rfl, NoneOf.zero _, Ext.refl _⟩
    case round =>
      obtain ⟨a, ha, rfl, hN, hX⟩ := hrel.out
      clear hrel
      have HN := Lib.hid hN
      have HX := Lib.hid hX
      have c3 : wr.cell? ⟨w.heap.size, 3, none⟩ = some (.bool p.rooted) := cell_of_block ((hX.block (lt_of_block HP.out)).trans HP.out)
      clear hN hX
      by_cases has : a ≤ s.size
      · have key : (startL p.rooted s.toList a = true ∧ (a = 0 ∨ ∃ (j : Nat) (hj : j < s.size), a = j + 1 ∧ p.rooted = false ∧ s[j] = 47)) ∨ (startL p.rooted s.toList a = false ∧ 0 < a ∧ (p.rooted = true ∨ ∃ (j : Nat) (hj : j < s.size), a = j + 1 ∧ p.rooted = false ∧ s[j] ≠ 47)) := by
          rcases Nat.eq_zero_or_pos a with h0 | h0
          · subst h0; exact .inl ⟨rfl, .inl rfl⟩
          · have hc := startL_pos p.rooted s a (s[a - 1]'(by omega)) h0 (getElem_toList s (a - 1) (by omega))
            cases hr : p.rooted with
            | true => rw [hr] at hc; exact .inr ⟨hc, h0, .inl rfl⟩
            | false =>
              rw [hr] at hc
              by_cases h47 : s[a - 1]'(by omega) = 47
              · exact .inl ⟨by rw [hc, h47]; rfl, .inr ⟨a - 1, by omega, by omega, rfl, h47⟩⟩
              · exact .inr ⟨by rw [hc]; simp [h47], h0, .inr ⟨a - 1, by omega, by omega, rfl, h47⟩⟩
        rcases key with ⟨hst, hcase⟩ | ⟨hst, h0, hcase⟩
        · have HST := Lib.hid hst
          rcases hcase with rfl | ⟨j, hj, rfl, hr, h47⟩
          · clear hst
            clear c3
            obtain ⟨wo, rfl⟩ : ∃ wo : World, wo = wr := ⟨_, rfl⟩
            go_wp2_with fail
            go_loopw [6] (fun iv wr => Hid (∃ b : Nat, 0 ≤ b ∧ b ≤ s.size + 1 ∧ iv = .int .i64 b ∧ NoneOf b (fun b => endsL p.marks.fold p.es s.toList (0) b && endL s.toList b) ∧ Ext wo wr)) (fun iv _ => s.size + 1 - (intOf iv).toNat)
            case atStart => exact ⟨0, by omega, by omega, rfl, noneBelow _ _ _ _, Ext.refl _⟩
            case round =>
              obtain ⟨b, hab, hb, rfl, hN, hY⟩ := hrel.out
              clear hrel
              have HN2 := Lib.hid hN
              have HY := Lib.hid hY
              clear hN hY
              by_cases hbs : b ≤ s.size
              · obtain ⟨⟨z0, z1, z2, z3, z4⟩, _⟩ := quint (((HX.out.trans HY.out).block (lt_of_block HP.out)).trans HP.out)
                have P0 := After.cell z0
                have P1 := After.cell z1
                have P2 := After.cell z2
                have P3 := After.cell z3
                have P4 := After.cell z4
                clear z0 z1 z2 z3 z4
                have HH := fun (y : After wr) => Lib.hid (rwhole_any p.marks p.rooted (.slice va l.length cap) l (s.extract (0) b) Far y.v (by simp; omega) hl1 (HR.out.ext (HX0.out.trans ((HX.out.trans HY.out).trans y.x))))
                unfold patV at HH
                have hE : wholeL p.marks.fold (l.map (·.1)) (s.extract (0) b).toList = endsL p.marks.fold p.es s.toList (0) b := by
                  rw [HL.out, toList_extract, ← List.drop_take, endsL, show decide (0 ≤ b) = true from by rw [decide_eq_true_eq]; omega, Bool.true_and]
                rw [hE] at HH
                clear hE
                have hit : endsL p.marks.fold p.es s.toList (0) b = true → endL s.toList b = true → M = true := fun q1 q2 => by
                  rw [HM2.out]
                  refine any_of (i := 0) (by omega) ?_
                  unfold rowL
                  rw [HST.out, Bool.true_and, len_toList]
                  exact any_of (by omega : b < s.size + 1) (by rw [q1, q2]; rfl)
                have HIT := Lib.hid hit
                clear hit
                have key : (b = s.size ∧ endL s.toList b = true) ∨ (∃ h : b < s.size, s[b] = 47 ∧ endL s.toList b = true) ∨ (∃ h : b < s.size, s[b] ≠ 47 ∧ endL s.toList b = false) := by
                  by_cases hbe : b = s.size
                  · exact .inl ⟨hbe, by rw [hbe]; exact endL_last s⟩
                  · have hb2 : b < s.size := by omega
                    have hel := endL_at s b s[b] hb2 (getElem_toList s b hb2)
                    by_cases h47 : s[b] = 47
                    · exact .inr (.inl ⟨hb2, h47, by rw [hel, h47]; rfl⟩)
                    · exact .inr (.inr ⟨hb2, h47, by rw [hel]; simp [h47]⟩)
                rcases key with ⟨hbe, hel⟩ | ⟨hb2, h47, hel⟩ | ⟨hb2, h47, hel⟩
                · have e0 : ((b : Int) == (s.size : Int)) = true := by rw [hbe]; simp
                  clear hbe
                  cases hb1 : endsL p.marks.fold p.es s.toList (0) b with
                  | true =>
                    rw [hb1] at HH
                    have HF := Lib.hid (HIT.out hb1 hel)
                    clear hb1 hel HIT
                    go_wp2_with fail
                    refine wp_region_after (by kernel_rfl) (by kernel_rfl) ?_
                    repeat (go_big_quiet_step (exact After.of (HH _).out))
                    refine wpQuiet_nil ?_
                    rintro _ ⟨y, rfl⟩
                    go_wp2_with fail
                    go_ret
                    exact ⟨ret_bool HF.out.symm, HX0.out.trans ((HX.out.trans HY.out).trans y.x)⟩
                  | false =>
                    rw [hb1] at HH
                    have HNN := Lib.hid (HN2.out.succ (show (endsL p.marks.fold p.es s.toList (0) b && endL s.toList b) = false from by rw [hb1]; rfl))
                    clear hb1 hel HIT
                    go_wp2_with fail
                    refine wp_region_after (by kernel_rfl) (by kernel_rfl) ?_
                    repeat (go_big_quiet_step (exact After.of (HH _).out))
                    refine wpQuiet_nil ?_
                    rintro _ ⟨y, rfl⟩
                    go_wp2_with fail
                    go_roundw
                    case rel => exact ⟨b + 1, by omega, by omega, by go_num, HNN.out, HY.out.trans y.x⟩
                    case measure => simp [intOf] <;> omega
                · have e0 : ((b : Int) == (s.size : Int)) = false := beq_eq_false_iff_ne.2 (by omega)
                  have e1 : ((s[b].toNat : Int) == 47) = true := by rw [h47]; rfl
                  clear h47
                  cases hb1 : endsL p.marks.fold p.es s.toList (0) b with
                  | true =>
                    rw [hb1] at HH
                    have HF := Lib.hid (HIT.out hb1 hel)
                    clear hb1 hel HIT
                    go_wp2_with fail
                    refine wp_region_after (by kernel_rfl) (by kernel_rfl) ?_
                    repeat (go_big_quiet_step (exact After.of (HH _).out))
                    refine wpQuiet_nil ?_
                    rintro _ ⟨y, rfl⟩
                    go_wp2_with fail
                    go_ret
                    exact ⟨ret_bool HF.out.symm, HX0.out.trans ((HX.out.trans HY.out).trans y.x)⟩
                  | false =>
                    rw [hb1] at HH
                    have HNN := Lib.hid (HN2.out.succ (show (endsL p.marks.fold p.es s.toList (0) b && endL s.toList b) = false from by rw [hb1]; rfl))
                    clear hb1 hel HIT
                    go_wp2_with fail
                    refine wp_region_after (by kernel_rfl) (by kernel_rfl) ?_
                    repeat (go_big_quiet_step (exact After.of (HH _).out))
                    refine wpQuiet_nil ?_
                    rintro _ ⟨y, rfl⟩
                    go_wp2_with fail
                    go_roundw
                    case rel => exact ⟨b + 1, by omega, by omega, by go_num, HNN.out, HY.out.trans y.x⟩
                    case measure => simp [intOf] <;> omega
                · have e0 : ((b : Int) == (s.size : Int)) = false := beq_eq_false_iff_ne.2 (by omega)
                  have e1 := toNat_ne47 h47
                  have HNN := Lib.hid (HN2.out.succ (show (endsL p.marks.fold p.es s.toList (0) b && endL s.toList b) = false from by rw [hel]; simp))
                  clear h47 hel HH HIT
                  go_wp2_with fail
                  refine wp_region_after (by kernel_rfl) (by kernel_rfl) ?_
                  repeat (go_big_quiet_step (fail))
                  refine wpQuiet_nil ?_
                  rintro _ ⟨y, rfl⟩
                  go_wp2_with fail
                  go_roundw
                  case rel => exact ⟨b + 1, by omega, by omega, by go_num, HNN.out, HY.out.trans y.x⟩
                  case measure => simp [intOf] <;> omega
              · obtain rfl : b = s.size + 1 := by omega
                have HNN := Lib.hid (HN.out.succ (show rowL p s.toList (0) = false from by
                  unfold rowL
                  rw [HST.out, Bool.true_and, len_toList]
                  exact HN2.out.any))
                go_wp2_with fail
                go_roundw
                case rel => exact ⟨0 + 1, by omega, by go_num, HNN.out, HX.out.trans HY.out⟩
                case measure => simp [intOf] <;> omega
          · rw [hr] at c3
            have e47 : ((s[j].toNat : Int) != 47) = false := by rw [h47]; rfl
            clear hst hr h47
            go_wp2_with fail
            clear c3
            obtain ⟨wo, rfl⟩ : ∃ wo : World, wo = wr := ⟨_, rfl⟩
            go_wp2_with fail
            go_loopw [6] (fun iv wr => Hid (∃ b : Nat, j + 1 ≤ b ∧ b ≤ s.size + 1 ∧ iv = .int .i64 b ∧ NoneOf b (fun b => endsL p.marks.fold p.es s.toList (j + 1) b && endL s.toList b) ∧ Ext wo wr)) (fun iv _ => s.size + 1 - (intOf iv).toNat)
            case atStart => exact ⟨j + 1, by omega, by omega, rfl, noneBelow _ _ _ _, Ext.refl _⟩
            case round =>
              obtain ⟨b, hab, hb, rfl, hN, hY⟩ := hrel.out
              clear hrel
              have HN2 := Lib.hid hN
              have HY := Lib.hid hY
              clear hN hY
              by_cases hbs : b ≤ s.size
              · obtain ⟨⟨z0, z1, z2, z3, z4⟩, _⟩ := quint (((HX.out.trans HY.out).block (lt_of_block HP.out)).trans HP.out)
                have P0 := After.cell z0
                have P1 := After.cell z1
                have P2 := After.cell z2
                have P3 := After.cell z3
                have P4 := After.cell z4
                clear z0 z1 z2 z3 z4
                have HH := fun (y : After wr) => Lib.hid (rwhole_any p.marks p.rooted (.slice va l.length cap) l (s.extract (j + 1) b) Far y.v (by simp; omega) hl1 (HR.out.ext (HX0.out.trans ((HX.out.trans HY.out).trans y.x))))
                unfold patV at HH
                have hE : wholeL p.marks.fold (l.map (·.1)) (s.extract (j + 1) b).toList = endsL p.marks.fold p.es s.toList (j + 1) b := by
                  rw [HL.out, toList_extract, ← List.drop_take, endsL, show decide (j + 1 ≤ b) = true from by rw [decide_eq_true_eq]; omega, Bool.true_and]
                rw [hE] at HH
                clear hE
                have hit : endsL p.marks.fold p.es s.toList (j + 1) b = true → endL s.toList b = true → M = true := fun q1 q2 => by
                  rw [HM2.out]
                  refine any_of (i := j + 1) (by omega) ?_
                  unfold rowL
                  rw [HST.out, Bool.true_and, len_toList]
                  exact any_of (by omega : b < s.size + 1) (by rw [q1, q2]; rfl)
                have HIT := Lib.hid hit
                clear hit
                have key : (b = s.size ∧ endL s.toList b = true) ∨ (∃ h : b < s.size, s[b] = 47 ∧ endL s.toList b = true) ∨ (∃ h : b < s.size, s[b] ≠ 47 ∧ endL s.toList b = false) := by
                  by_cases hbe : b = s.size
                  · exact .inl ⟨hbe, by rw [hbe]; exact endL_last s⟩
                  · have hb2 : b < s.size := by omega
                    have hel := endL_at s b s[b] hb2 (getElem_toList s b hb2)
                    by_cases h47 : s[b] = 47
                    · exact .inr (.inl ⟨hb2, h47, by rw [hel, h47]; rfl⟩)
                    · exact .inr (.inr ⟨hb2, h47, by rw [hel]; simp [h47]⟩)
                rcases key with ⟨hbe, hel⟩ | ⟨hb2, h47, hel⟩ | ⟨hb2, h47, hel⟩
                · have e0 : ((b : Int) == (s.size : Int)) = true := by rw [hbe]; simp
                  clear hbe
                  cases hb1 : endsL p.marks.fold p.es s.toList (j + 1) b with
                  | true =>
                    rw [hb1] at HH
                    have HF := Lib.hid (HIT.out hb1 hel)
                    clear hb1 hel HIT
                    go_wp2_with fail
                    refine wp_region_after (by kernel_rfl) (by kernel_rfl) ?_
                    repeat (go_big_quiet_step (exact After.of (HH _).out))
                    refine wpQuiet_nil ?_
                    rintro _ ⟨y, rfl⟩
                    go_wp2_with fail
                    go_ret
                    exact ⟨ret_bool HF.out.symm, HX0.out.trans ((HX.out.trans HY.out).trans y.x)⟩
                  | false =>
                    rw [hb1] at HH
                    have HNN := Lib.hid (HN2.out.succ (show (endsL p.marks.fold p.es s.toList (j + 1) b && endL s.toList b) = false from by rw [hb1]; rfl))
                    clear hb1 hel HIT
                    go_wp2_with fail
                    refine wp_region_after (by kernel_rfl) (by kernel_rfl) ?_
                    repeat (go_big_quiet_step (exact After.of (HH _).out))
                    refine wpQuiet_nil ?_
                    rintro _ ⟨y, rfl⟩
                    go_wp2_with fail
                    go_roundw
                    case rel => exact ⟨b + 1, by omega, by omega, by go_num, HNN.out, HY.out.trans y.x⟩
                    case measure => simp [intOf] <;> omega
                · have e0 : ((b : Int) == (s.size : Int)) = false := beq_eq_false_iff_ne.2 (by omega)
                  have e1 : ((s[b].toNat : Int) == 47) = true := by rw [h47]; rfl
                  clear h47
                  cases hb1 : endsL p.marks.fold p.es s.toList (j + 1) b with
                  | true =>
                    rw [hb1] at HH
                    have HF := Lib.hid (HIT.out hb1 hel)
                    clear hb1 hel HIT
                    go_wp2_with fail
                    refine wp_region_after (by kernel_rfl) (by kernel_rfl) ?_
                    repeat (go_big_quiet_step (exact After.of (HH _).out))
                    refine wpQuiet_nil ?_
                    rintro _ ⟨y, rfl⟩
                    go_wp2_with fail
                    go_ret
                    exact ⟨ret_bool HF.out.symm, HX0.out.trans ((HX.out.trans HY.out).trans y.x)⟩
                  | false =>
                    rw [hb1] at HH
                    have HNN := Lib.hid (HN2.out.succ (show (endsL p.marks.fold p.es s.toList (j + 1) b && endL s.toList b) = false from by rw [hb1]; rfl))
                    clear hb1 hel HIT
                    go_wp2_with fail
                    refine wp_region_after (by kernel_rfl) (by kernel_rfl) ?_
                    repeat (go_big_quiet_step (exact After.of (HH _).out))
                    refine wpQuiet_nil ?_
                    rintro _ ⟨y, rfl⟩
                    go_wp2_with fail
                    go_roundw
                    case rel => exact ⟨b + 1, by omega, by omega, by go_num, HNN.out, HY.out.trans y.x⟩
                    case measure => simp [intOf] <;> omega
                · have e0 : ((b : Int) == (s.size : Int)) = false := beq_eq_false_iff_ne.2 (by omega)
                  have e1 := toNat_ne47 h47
                  have HNN := Lib.hid (HN2.out.succ (show (endsL p.marks.fold p.es s.toList (j + 1) b && endL s.toList b) = false from by rw [hel]; simp))
                  clear h47 hel HH HIT
                  go_wp2_with fail
                  refine wp_region_after (by kernel_rfl) (by kernel_rfl) ?_
                  repeat (go_big_quiet_step (fail))
                  refine wpQuiet_nil ?_
                  rintro _ ⟨y, rfl⟩
                  go_wp2_with fail
                  go_roundw
                  case rel => exact ⟨b + 1, by omega, by omega, by go_num, HNN.out, HY.out.trans y.x⟩
                  case measure => simp [intOf] <;> omega
              · obtain rfl : b = s.size + 1 := by omega
                have HNN := Lib.hid (HN.out.succ (show rowL p s.toList (j + 1) = false from by
                  unfold rowL
                  rw [HST.out, Bool.true_and, len_toList]
                  exact HN2.out.any))
                go_wp2_with fail
                go_roundw
                case rel => exact ⟨j + 1 + 1, by omega, by go_num, HNN.out, HX.out.trans HY.out⟩
                case measure => simp [intOf] <;> omega
        · have HNN := Lib.hid (HN.out.succ (show rowL p s.toList a = false from by unfold rowL; rw [hst]; rfl))
          rcases hcase with hr | ⟨j, hj, rfl, hr, h47⟩
          · rw [hr] at c3
            have d0 : decide ((0 : Int) < (a : Int)) = true := by rw [decide_eq_true_eq]; omega
            clear hst hr
            go_wp2_with fail
            go_roundw
            case rel => exact ⟨a + 1, by omega, by go_num, HNN.out, HX.out⟩
            case measure => simp [intOf] <;> omega
          · rw [hr] at c3
            have e47 : ((s[j].toNat : Int) != 47) = true := by rw [bne, toNat_ne47 h47]; rfl
            clear hst hr h47
            go_wp2_with fail
            go_roundw
            case rel => exact ⟨j + 1 + 1, by omega, by go_num, HNN.out, HX.out⟩
            case measure => simp [intOf] <;> omega
      · obtain rfl : a = s.size + 1 := by omega
        have HF := Lib.hid (show M = false from by rw [HM2.out]; exact HN.out.any)
        clear HM2
        go_wp2_with fail
        go_ret
        exact ⟨ret_bool HF.out.symm, HX0.out.trans HX.out⟩
end Go.Proofs.YtlabhbeacogfbaaDoor
