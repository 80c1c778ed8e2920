/- Contract of caravan/caravanref02: Conflict. -/
import Derived.Test.YtgojagdjlebnnaaDoorRPathB
namespace Go.Proofs.YtgojagdjlebnnaaDoor
open Go.RowKit

set_option maxHeartbeats 800000 in
theorem refConflict_no (p : ByteArray) (t d : Int) (w : World) (hs : p.size < 4294967281) (h : conflictOk p t d = false) :
    Calls Tryd.prog 35 #[.string p, .int .i64 t, .int .i64 d] w fun e w' => e = .returned (.tuple #[.string ⟨#[]⟩, .bool false]) ∧ Ext w w' := by
  have HM := Lib.hid (refMay_any p w hs)
  unfold conflictOk at h
  generalize mayB p = b at *
  cases b
  · clear h
    go_enter Tryd.func35, Tryd.ntmps35
    go_wp2_with fail
    refine HM.out.mono ?_
    rintro e w1 ⟨rfl, x1⟩
    go_wp2_with fail
    go_ret2
    exact ⟨rfl, x1⟩
  · have h' : t < 0 ∨ 4294967295 < t ∨ d < 1 ∨ 16 < d := by
      simp at h; omega
    clear h
    by_cases c1 : t < 0
    · clear h'
      go_enter Tryd.func35, Tryd.ntmps35
      go_wp2_with fail
      refine HM.out.mono ?_
      rintro e w1 ⟨rfl, x1⟩
      go_wp2_with fail
      go_ret2
      exact ⟨rfl, x1⟩
    by_cases c2 : 4294967295 < t
    · clear h'
      go_enter Tryd.func35, Tryd.ntmps35
      go_wp2_with fail
      refine HM.out.mono ?_
      rintro e w1 ⟨rfl, x1⟩
      go_wp2_with fail
      go_ret2
      exact ⟨rfl, x1⟩
    by_cases c3 : d < 1
    · clear h'
      go_enter Tryd.func35, Tryd.ntmps35
      go_wp2_with fail
      refine HM.out.mono ?_
      rintro e w1 ⟨rfl, x1⟩
      go_wp2_with fail
      go_ret2
      exact ⟨rfl, x1⟩
    have c4 : 16 < d := by omega
    clear h'
    go_enter Tryd.func35, Tryd.ntmps35
    go_wp2_with fail
    refine HM.out.mono ?_
    rintro e w1 ⟨rfl, x1⟩
    go_wp2_with fail
    go_ret2
    exact ⟨rfl, x1⟩

set_option maxHeartbeats 1600000 in
set_option maxRecDepth 100000 in
theorem refConflict_yes (p : ByteArray) (t d : Int) (w : World) (hs : p.size < 4294967281) (h : conflictOk p t d = true) :
    Calls Tryd.prog 35 #[.string p, .int .i64 t, .int .i64 d] w fun e w' => e = .returned (.tuple #[.string (conflictS p t d), .bool true]) ∧ Ext w w' := by
  have HM := Lib.hid (refMay_any p w hs)
  unfold conflictOk at h
  simp only [Bool.and_eq_true, decide_eq_true_eq] at h
  obtain ⟨⟨⟨⟨hm, t0⟩, t1⟩, d0⟩, d1⟩ := h
  rw [hm] at HM
  clear hm
  obtain ⟨n, rfl⟩ : ∃ n : Nat, t = n := ⟨t.toNat, by omega⟩
  obtain ⟨k, rfl⟩ : ∃ n : Nat, d = n := ⟨d.toNat, by omega⟩
  have e1 : bsL (fixed n 10) = padS n 10 := ba_ext (by rw [bsL_toList, padS_toList _ _ (by omega) (by decide) (by rw [Int.toNat_natCast]; omega), Int.toNat_natCast])
  have e2 : bsL (fixed k 2) = padS k 2 := ba_ext (by rw [bsL_toList, padS_toList _ _ (by omega) (by decide) (by rw [Int.toNat_natCast]; omega), Int.toNat_natCast])
  have p1 : (padS (n : Int) 10).size = 10 := by rw [← e1, ← len_toList, bsL_toList, fixed_length]
  have p2 : (padS (k : Int) 2).size = 2 := by rw [← e2, ← len_toList, bsL_toList, fixed_length]
  have HD1 := fun w => Lib.hid (e1 ▸ refDigits_any n 10 w (by omega) (by decide))
  have HD2 := fun w => Lib.hid (e2 ▸ refDigits_any k 2 w (by omega) (by decide))
  have HLA := fun w => Lib.hid (last_any p w (by omega))
  have HAH := fun w => Lib.hid (ahead_any p w (by omega))
  have hb := baseS_le p
  have hpar := parentS_le p
  have HX := fun w => Lib.hid (refExt_any (baseS p) w (by omega))
  have hx := extS_le (baseS p)
  have HFIN := Lib.hid (show besideS (parentS p) (stemS (baseS p) ++ markS ++ padS n 10 ++ ⟨#[45]⟩ ++ padS k 2 ++ extS (baseS p)) = conflictS p n k from rfl)
  unfold stemS at HFIN
  generalize padS (n : Int) 10 = q1 at *
  generalize padS (k : Int) 2 = q2 at *
  generalize parentS p = P at *
  generalize baseS p = b at *
  generalize extS b = x at *
  obtain ⟨st, hst⟩ : ∃ st, st = b.extract 0 (b.size - x.size) := ⟨_, rfl⟩
  have HST := Lib.hid hst.symm
  have hsz : st.size = b.size - x.size := by rw [hst]; simp
  clear e1 e2
  simp only [← hst] at HFIN
  have hst' : b.extract 0 ((b.size : Int) - x.size).toNat = st := by rw [← HST.out, show ((b.size : Int) - x.size).toNat = b.size - x.size from by omega]
  have hst2 : b.extract 0 (b.size - x.size) = st := HST.out
  clear hst
  by_cases hc : (20 : Int) - x.size < st.size
  · obtain ⟨c, hcc⟩ : ∃ c, c = st.extract 0 (min (st.size : Int) (20 - x.size)).toNat := ⟨_, rfl⟩
    rw [← hcc] at HFIN
    have hc2 : st.extract 0 ((20 : Int) - x.size).toNat = c := by rw [hcc, show min (st.size : Int) (20 - x.size) = 20 - x.size from by omega]
    have hc3 : st.extract 0 (20 - x.size) = c := by rw [← hc2, show ((20 : Int) - x.size).toNat = 20 - x.size from by omega]
    have hcs : c.size ≤ 20 := by rw [← hc3]; simp; omega
    clear hcc
    go_enter Tryd.func35, Tryd.ntmps35
    go_wp2_with fail
    refine HM.out.mono ?_
    rintro e w1 ⟨rfl, x1⟩
    go_wp2_with fail
    refine (HLA _).out.mono ?_
    rintro e w2 ⟨rfl, x2⟩
    go_wp2_with fail
    refine (HX _).out.mono ?_
    rintro e w2' ⟨rfl, rfl⟩
    have X2 := Lib.hid (x1.trans x2)
    clear x1 x2
    go_wp2_with fail
    refine (HAH _).out.mono ?_
    rintro e w3 ⟨rfl, x3⟩
    have X3 := Lib.hid (X2.out.trans x3)
    clear x3
    go_wp2_with fail
    refine (HD1 _).out.mono ?_
    rintro e w4 ⟨rfl, x4⟩
    have X4 := Lib.hid (X3.out.trans x4)
    clear x4
    go_wp2_with fail
    refine (HD2 _).out.mono ?_
    rintro e w5 ⟨rfl, x5⟩
    have X5 := Lib.hid (X4.out.trans x5)
    clear x5
    go_wp2_with fail
    refine (refBeside_any _ _ _ ?hsz).mono ?_
    case hsz => simp [size_mk]; omega
    rintro e w' ⟨rfl, rfl⟩
    go_wp2_with fail
    go_ret2
    exact ⟨ret_strb (by rw [← HFIN.out]; simp [markS]), X5.out⟩
  · have e0 : st.extract 0 (min (st.size : Int) (20 - x.size)).toNat = st := by rw [show (min (st.size : Int) (20 - x.size)).toNat = st.size from by omega, ByteArray.extract_zero_size]
    rw [e0] at HFIN
    clear e0
    go_enter Tryd.func35, Tryd.ntmps35
    go_wp2_with fail
    refine HM.out.mono ?_
    rintro e w1 ⟨rfl, x1⟩
    go_wp2_with fail
    refine (HLA _).out.mono ?_
    rintro e w2 ⟨rfl, x2⟩
    go_wp2_with fail
    refine (HX _).out.mono ?_
    rintro e w2' ⟨rfl, rfl⟩
    have X2 := Lib.hid (x1.trans x2)
    clear x1 x2
    go_wp2_with fail
    refine (HAH _).out.mono ?_
    rintro e w3 ⟨rfl, x3⟩
    have X3 := Lib.hid (X2.out.trans x3)
    clear x3
    go_wp2_with fail
    refine (HD1 _).out.mono ?_
    rintro e w4 ⟨rfl, x4⟩
    have X4 := Lib.hid (X3.out.trans x4)
    clear x4
    go_wp2_with fail
    refine (HD2 _).out.mono ?_
    rintro e w5 ⟨rfl, x5⟩
    have X5 := Lib.hid (X4.out.trans x5)
    clear x5
    go_wp2_with fail
    refine (refBeside_any _ _ _ ?hsz).mono ?_
    case hsz => simp [size_mk]; omega
    rintro e w' ⟨rfl, rfl⟩
    go_wp2_with fail
    go_ret2
    exact ⟨ret_strb (by rw [← HFIN.out]; simp [markS]), X5.out⟩
end Go.Proofs.YtgojagdjlebnnaaDoor
