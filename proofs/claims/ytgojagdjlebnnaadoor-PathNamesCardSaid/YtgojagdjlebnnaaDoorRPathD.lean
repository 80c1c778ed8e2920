/- Contract of caravan/caravanref02: IsConflict. -/
import Derived.Test.YtgojagdjlebnnaaDoorRPathC
namespace Go.Proofs.YtgojagdjlebnnaaDoor
open Go.RowKit

def okTo (r : List UInt8) (k : Nat) : Bool := (List.range k).all fun j => j == 10 || isDig (r.getD j 0)
theorem okTo_step (r : List UInt8) (k : Nat) : okTo r (k + 1) = (okTo r k && (k == 10 || isDig (r.getD k 0))) := by
  unfold okTo
  rw [List.range_succ, List.all_append]; simp
set_option maxRecDepth 20000 in
theorem okTo_tail (r : List UInt8) (h : 13 ≤ r.length) : ((r.getD 10 0 == 45) && okTo r 13) = okTail r := by
  match r, h with
  | a0 :: a1 :: a2 :: a3 :: a4 :: a5 :: a6 :: a7 :: a8 :: a9 :: a10 :: a11 :: a12 :: t, _ =>
    have e : List.range 13 = [0, 1, 2, 3, 4, 5, 6, 7, 8, 9, 10, 11, 12] := by decide
    have e2 : (45 == a10) = (a10 == 45) := by rw [Bool.eq_iff_iff, beq_iff_eq, beq_iff_eq]; exact eq_comm
    unfold okTo okTail digB
    rw [e]
    simp only [List.all_cons, List.all_nil, List.getD_cons_succ, List.getD_cons_zero, List.take_succ_cons, List.take_zero, List.drop_succ_cons, List.drop_zero, List.length_cons, Lib.hasPrefix, List.isPrefixOf, e2, Bool.and_true, Nat.reduceBEq, Bool.false_or, Bool.true_or, Bool.true_and, Nat.le_add_left, decide_true]
    ac_rfl
theorem conf_short : ∀ (l : List UInt8), l.length < 28 → confL l = false
  | [], _ => rfl
  | c :: l, h => by
    unfold confL
    rw [conf_short l (by simp at h; omega), Bool.or_false]
    unfold confAt okTail digB
    have : ¬ (2 ≤ (((c :: l).drop 15).drop 11).length) := by
      simp at h ⊢; omega
    simp only [this, decide_false, Bool.false_and, Bool.and_false]
theorem conf_step (l : List UInt8) (i : Nat) (h : i + 28 ≤ l.length) : confL (l.drop i) = (confAt (l.drop i) || confL (l.drop (i + 1))) := by
  rw [List.drop_eq_getElem_cons (show i < l.length by omega)]
  rfl
theorem mark_at (b : ByteArray) (i : Nat) : ((b.extract i (i + 15)).toList == markL) = markL.isPrefixOf (b.toList.drop i) := by
  rw [Bool.eq_iff_iff, beq_iff_eq, List.isPrefixOf_iff_prefix, List.prefix_iff_eq_take, toList_extract, show i + 15 - i = markL.length from by rw [Nat.add_sub_cancel_left]; rfl]
  exact eq_comm

set_option maxHeartbeats 1000000 in
set_option maxRecDepth 100000 in
theorem refIsConflict_any (s : ByteArray) (w : World) (hs : s.size < 4294967281) :
    Calls Tryd.prog 39 #[.string s] w fun e w' => e = .returned (.bool (confL (baseS s).toList)) ∧ Ext w w' := by
  have HL := Lib.hid (last_any s w hs)
  have hb := baseS_le s
  generalize baseS s = b at *
  obtain ⟨B, hB⟩ : ∃ B, B = confL b.toList := ⟨_, rfl⟩
  have HB := Lib.hid (show confL (b.toList.drop 0) = B from hB.symm)
  rw [← hB]
  clear hB
  have HDG := fun c w => Lib.hid (refDigit_any c w)
  have HMK := Lib.hid (mark_at b)
  go_enter Tryd.func39, Tryd.ntmps39
  go_wp2_with fail
  refine HL.out.mono ?_
  rintro e w1 ⟨rfl, x1⟩
  have X1 := Lib.hid x1
  clear x1
  go_wp2_with fail
  go_loopw [5] (fun iv wr => Hid (∃ i : Nat, i ≤ b.size ∧ iv = .int .i64 i ∧ confL (b.toList.drop i) = B ∧ wr = w1)) (fun iv _ => b.size - (intOf iv).toNat)
  case atStart => exact ⟨0, Nat.zero_le _, rfl, HB.out, rfl⟩
  case round =>
    obtain ⟨i, hi, rfl, hc, hw⟩ := hrel.out
    have HC := Lib.hid hc
    have HW := Lib.hid hw
    clear hrel hc hw HB
    by_cases h28 : i + 28 ≤ b.size
    · have HST := Lib.hid (conf_step b.toList i (by rw [len_toList]; exact h28))
      have HM := Lib.hid (HMK.out i)
      cases hm : markL.isPrefixOf (b.toList.drop i)
      · rw [hm] at HM
        have HN := Lib.hid (show confL (b.toList.drop (i + 1)) = B from by rw [← HC.out, HST.out, confAt, hm]; rfl)
        have d1 : ((b.extract i (i + 15)).toList == markL) = false := HM.out
        unfold markL at d1
        clear hm HM HST
        go_wp2_with fail
        exact ⟨⟨i + 1, by omega, by go_num, HN.out, HW.out⟩, by simp [intOf]; omega⟩
      · rw [hm] at HM
        have d1 : ((b.extract i (i + 15)).toList == markL) = true := HM.out
        unfold markL at d1
        obtain ⟨R, hR⟩ : ∃ R, R = b.extract (i + 15) b.size := ⟨_, rfl⟩
        have hRs : R.size = b.size - (i + 15) := by rw [hR]; simp
        have hRl : R.toList = b.toList.drop (i + 15) := by rw [hR, toList_extract, List.take_of_length_le (by rw [List.length_drop, len_toList]; omega)]
        have HB2 := Lib.hid (show B = (((R.toList.getD 10 0 == 45) && okTo R.toList 13) || confL (b.toList.drop (i + 1))) from by
          rw [← HC.out, HST.out, confAt, hm, Bool.true_and, List.drop_drop, okTo_tail _ (by rw [len_toList]; omega), hRl])
        have HG := Lib.hid (fun (k : Nat) (h : k < R.size) => show R.toList.getD k 0 = R[k] from by rw [List.getD_eq_getElem?_getD, getElem_toList R k h]; rfl)
        have HOK := Lib.hid (fun k => okTo_step R.toList k)
        have HR := Lib.hid hR.symm
        have h13 : 13 ≤ R.size := by omega
        have e1 : b.extract (i + 15) b.size = R := hR.symm
        clear hm HM HST hR hRl
        obtain ⟨g0, hg0⟩ : ∃ g, g = ((R[10].toNat : Int) == 45) := ⟨_, rfl⟩
        have HG0 := Lib.hid (show (R.toList.getD 10 0 == 45) = g0 from by
          rw [HG.out 10 (by omega), hg0, Bool.eq_iff_iff, beq_iff_eq, beq_iff_eq, ← UInt8.toNat_inj]
          constructor
          · intro e; rw [e]; rfl
          · intro e; have e3 : R[10].toNat = 45 := by omega
            exact e3)
        rw [HG0.out] at HB2
        go_wp2_with fail
        rw [← hg0]
        clear hg0
        go_loopw [7, 8] (fun gv kv w2 => Hid (∃ k : Nat, k ≤ 13 ∧ kv = .int .i64 k ∧ gv = .bool (g0 && okTo R.toList k) ∧ w2 = w1)) (fun _ kv _ => 13 - (intOf kv).toNat)
        case atStart => exact ⟨0, by omega, rfl, by simp [okTo], HW.out⟩
        case round =>
          obtain ⟨k, hk, rfl, rfl, hw2⟩ := hrel.out
          have HW2 := Lib.hid hw2
          have HOKk := Lib.hid (HOK.out k)
          clear hrel hw2
          obtain ⟨A, hA⟩ : ∃ A, A = (g0 && okTo R.toList k) := ⟨_, rfl⟩
          rw [← hA]
          have HA := Lib.hid hA.symm
          clear hA
          by_cases hk13 : k < 13
          · by_cases h10 : k = 10
            · subst h10
              have HN := Lib.hid (show (g0 && okTo R.toList (10 + 1)) = A from by rw [HOKk.out, ← HA.out]; simp)
              go_wp2_with fail
              go_roundw
              case rel => exact ⟨10 + 1, by omega, by go_num, by rw [HN.out], HW2.out⟩
              case measure => simp [intOf]
            · have d10 : ((k : Int) != 10) = true := by simp; omega
              have HN := Lib.hid (show (g0 && okTo R.toList (k + 1)) = (A && isDig R[k]) from by
                rw [HOKk.out, ← HA.out, HG.out k (by omega), show (k == 10) = false from by simp [h10], Bool.false_or, Bool.and_assoc])
              have HC1 := Lib.hid (HDG R[k] wr).out
              cases hd : isDig R[k]
              · rw [hd] at HN HC1
                clear hd
                go_wp2_with fail
                refine HC1.out.mono ?_
                rintro e w3 ⟨rfl, rfl⟩
                go_wp2_with fail
                go_roundw
                case rel => exact ⟨k + 1, by omega, by go_num, by rw [HN.out, Bool.and_false], HW2.out⟩
                case measure => simp [intOf]; omega
              · rw [hd] at HN HC1
                clear hd
                go_wp2_with fail
                refine HC1.out.mono ?_
                rintro e w3 ⟨rfl, rfl⟩
                go_wp2_with fail
                go_roundw
                case rel => exact ⟨k + 1, by omega, by go_num, by rw [HN.out, Bool.and_true], HW2.out⟩
                case measure => simp [intOf]; omega
          · have e13 : k = 13 := by omega
            have HBF := Lib.hid (show B = (A || confL (b.toList.drop (i + 1))) from by rw [HB2.out, ← HA.out, e13])
            clear e13
            cases hA2 : A
            · have HN := Lib.hid (show confL (b.toList.drop (i + 1)) = B from by rw [HBF.out, hA2, Bool.false_or])
              go_wp2_with fail
              exact ⟨⟨i + 1, by omega, by go_num, HN.out, HW2.out⟩, by simp [intOf]; omega⟩
            · have HN := Lib.hid (show B = true from by rw [HBF.out, hA2, Bool.true_or])
              go_wp2_with fail
              go_ret
              exact ⟨ret_bool HN.out.symm, HW2.out ▸ X1.out⟩
    · have HN := Lib.hid (show B = false from by rw [← HC.out]; exact conf_short _ (by rw [List.length_drop, len_toList]; omega))
      go_wp2_with fail
      go_ret
      exact ⟨ret_bool HN.out.symm, HW.out ▸ X1.out⟩
end Go.Proofs.YtgojagdjlebnnaaDoor
