/- Contracts of caravan/caravanref02: Temp, IsTemp. -/
import Derived.Test.YtgojagdjlebnnaaDoorRShaG
import Derived.Test.YtgojagdjlebnnaaDoorRefB
import Derived.Test.YtgojagdjlebnnaaDoorPathT
import Derived.Test.YtgojagdjlebnnaaDoorPathU
namespace Go.Proofs.YtgojagdjlebnnaaDoor
open Go.RowKit

theorem refIsTemp_any (s : ByteArray) (w : World) (hs : s.size < 4294967281) :
    Calls Tryd.prog 37 #[.string s] w fun e w' => e = .returned (.bool (isTempB s)) ∧ Ext w w' := by
  have HL := Lib.hid (last_any s w hs)
  have hb := baseS_le s
  unfold isTempB
  generalize baseS s = b at *
  have HP3 := Lib.hid (show 3 ≤ b.size → ((b.extract 0 3).toList == [126, 116, 126]) = Lib.hasPrefix b.toList [126, 116, 126] from fun _ => by
    rw [Bool.eq_iff_iff, beq_iff_eq, Lib.hasPrefix, List.isPrefixOf_iff_prefix, List.prefix_iff_eq_take, toList_extract]
    constructor
    · intro e; simpa using e.symm
    · intro e; simpa using e.symm)
  have HP0 := Lib.hid (show ¬ 3 ≤ b.size → Lib.hasPrefix b.toList [126, 116, 126] = false from fun h => by
    rw [Lib.hasPrefix, Bool.eq_false_iff]
    intro e
    have := (List.isPrefixOf_iff_prefix.1 e).length_le
    rw [len_toList] at this
    simp at this; omega)
  by_cases h3 : 3 ≤ b.size
  · have HE := Lib.hid (HP3.out h3)
    clear HP3 HP0
    go_enter Tryd.func37, Tryd.ntmps37
    go_wp2_with fail
    refine HL.out.mono ?_
    rintro e w1 ⟨rfl, x1⟩
    go_wp2_with fail
    go_ret
    exact ⟨ret_bool HE.out, x1⟩
  · have HE := Lib.hid (HP0.out h3)
    clear HP3 HP0
    go_enter Tryd.func37, Tryd.ntmps37
    go_wp2_with fail
    refine HL.out.mono ?_
    rintro e w1 ⟨rfl, x1⟩
    go_wp2_with fail
    go_ret
    exact ⟨ret_bool HE.out.symm, x1⟩
theorem refBeside_any (p b : ByteArray) (w : World) (hs : p.size + b.size < 9223372036854775807) :
    Calls Tryd.prog 56 #[.string p, .string b] w fun e w' => e = .returned (.string (besideS p b)) ∧ w' = w := by
  unfold besideS
  cases h : p.toList.isEmpty
  · go_enter Tryd.func56, Tryd.ntmps56
    go_wp2_with fail
    go_ret
    exact ⟨rfl, rfl⟩
  · go_enter Tryd.func56, Tryd.ntmps56
    go_wp2_with fail
    go_ret
    exact ⟨rfl, rfl⟩

set_option maxHeartbeats 1000000 in
set_option maxRecDepth 100000 in
theorem refTemp_any (p : ByteArray) (w : World) (hs : p.size < 4294967281) :
    Calls Tryd.prog 34 #[.string p] w fun e w' => e = .returned (.tuple #[.string (tempR p), .bool (mayB p)]) ∧ Ext w w' := by
  have HM := Lib.hid (refMay_any p w hs)
  have h160 : mayB p = true → p.size ≤ 160 := fun h => by unfold mayB at h; simp at h; exact h.1.1
  unfold tempR
  have hp0 : mayB p = true → 0 < p.size := fun h => by
    rcases Nat.eq_zero_or_pos p.size with h0 | h0
    · have e : p = ⟨#[]⟩ := ba_ext (List.length_eq_zero_iff.1 (by rw [len_toList]; exact h0) |>.trans (toList_mk []).symm)
      rw [e] at h
      exact absurd h (by decide +kernel)
    · exact h0
  cases hb : mayB p
  · rw [hb] at HM
    clear hb h160 hp0
    go_enter Tryd.func34, Tryd.ntmps34
    go_wp2_with fail
    refine HM.out.mono ?_
    rintro e w1 ⟨rfl, x1⟩
    go_wp2_with fail
    go_ret2
    exact ⟨rfl, x1⟩
  · rw [hb] at HM
    replace h160 := h160 hb
    replace hp0 := hp0 hb
    have HLA := fun w => Lib.hid (last_any p w (by omega))
    have HAH := fun w => Lib.hid (ahead_any p w (by omega))
    have hbl := baseS_le p
    have hpar := parentS_le p
    have HSUM := fun v w hv hz => Lib.hid (rsum_any p.toList v w hv hz (by rw [len_toList]; omega))
    have HTX := fun w => Lib.hid (rtext_any (shaL p.toList) (shaL_len _) w)
    have HFIN := Lib.hid (show besideS (parentS p) (⟨#[126, 116, 126]⟩ ++ (baseS p).extract 0 (min ((baseS p).size : Int) 12).toNat ++ hex8 p) = tempS p from rfl)
    have hx64 : (⟨(hexL (shaL p.toList)).toArray⟩ : ByteArray).size = 64 := by rw [size_mk, List.size_toArray, hexL_len, shaL_len]
    unfold hex8 at HFIN
    have hsz := hArr_size (shaL p.toList) 32 (shaL_len _) (by omega)
    have hone := hArr_one (shaL p.toList) 32
    unfold hashV at HSUM HTX
    generalize parentS p = P at *
    generalize baseS p = b at *
    generalize shaL p.toList = sm at *
    generalize (⟨(hexL sm).toArray⟩ : ByteArray) = hx at *
    generalize hArr sm 32 = H at *
    have HX64 := Lib.hid hx64
    have HSZ := Lib.hid hsz
    have HONE := Lib.hid hone
    have h64 : 8 ≤ hx.size := by omega
    have h65 : hx.size ≤ 64 := by omega
    clear hx64 hsz hone
    obtain ⟨c, hc⟩ : ∃ c, c = b.extract 0 (min (b.size : Int) 12).toNat := ⟨_, rfl⟩
    rw [← hc] at HFIN
    have hcs : c.size ≤ 12 := by rw [hc]; simp; omega
    by_cases h12 : b.size > 12
    · have hc12 : b.extract 0 12 = c := by rw [hc, show (min (b.size : Int) 12).toNat = 12 from by omega]
      clear hc
      go_enter Tryd.func34, Tryd.ntmps34
      go_wp2_with fail
      refine HM.out.mono ?_
      rintro e w1 ⟨rfl, x1⟩
      go_wp2_with fail
      refine (HLA _).out.mono ?_
      rintro e w2 ⟨rfl, x2⟩
      have X2 := Lib.hid (x1.trans x2)
      obtain ⟨v, w3, hcv, hbo, x3⟩ := conv_bytes p w2 (by omega)
      have X3 := Lib.hid (X2.out.trans x3)
      have HBO := Lib.hid hbo
      clear hbo x3 x1 x2
      go_wp2_with fail
      refine (HSUM _ _ HBO.out (fun cap e => by
        obtain ⟨a, cp, e1, _⟩ := HBO.out
        rw [e1] at e
        injection e with _ e2
        rw [len_toList] at e2
        omega)).out.mono ?_
      rintro e w4 ⟨rfl, x4⟩
      have X4 := Lib.hid (X3.out.trans x4)
      clear x4 hcv
      go_wp2_with (first
        | (refine wpList_storeT rfl _ _ _ rfl w4.heap.size H rfl rfl 55 _ (heap_alloc_new w4 _) (by rw [HSZ.out]; kernel_rfl) (by rw [HSZ.out]; rfl) HONE.out ?_; intro w6 hb6 ht6; have HB6 := Lib.hid hb6; have X6 := Lib.hid (ht6.fresh (X4.out.alloc _) X4.out.size); clear hb6 ht6; go_frame)
        | (refine wpList_load_row rfl _ _ rfl w4.heap.size rfl 55 H (0, 0) _ HB6.out Tryd.underlying55 rfl (by rw [HSZ.out]; kernel_rfl) ?_; go_frame))
      refine (HTX _).out.mono ?_
      rintro e w5 ⟨rfl, x5⟩
      have X5 := Lib.hid (X6.out.trans x5)
      clear x5
      have HBS := fun w => Lib.hid (refBeside_any P (⟨#[126, 116, 126]⟩ ++ c ++ hx.extract 0 8) w (by simp [size_mk]; omega))
      go_wp2_with fail
      refine wp_region_after (by kernel_rfl) (by kernel_rfl) ?_
      repeat (go_big_quiet_step (first | (go_at_call 44; exact After.of (HAH _).out) | (go_at_call 56; exact After.same (HBS _).out)))
      refine wpQuiet_nil ?_; rintro _ ⟨y, rfl⟩
      have HY := Lib.hid y.x
      go_wp2_with fail
      go_ret2
      exact ⟨ret_strb HFIN.out, X5.out.trans HY.out⟩
    · have hcb : c = b := by rw [hc, show (min (b.size : Int) 12).toNat = b.size from by omega, ByteArray.extract_zero_size]
      clear hc
      subst hcb
      go_enter Tryd.func34, Tryd.ntmps34
      go_wp2_with fail
      refine HM.out.mono ?_
      rintro e w1 ⟨rfl, x1⟩
      go_wp2_with fail
      refine (HLA _).out.mono ?_
      rintro e w2 ⟨rfl, x2⟩
      have X2 := Lib.hid (x1.trans x2)
      obtain ⟨v, w3, hcv, hbo, x3⟩ := conv_bytes p w2 (by omega)
      have X3 := Lib.hid (X2.out.trans x3)
      have HBO := Lib.hid hbo
      clear hbo x3 x1 x2
      go_wp2_with fail
      refine (HSUM _ _ HBO.out (fun cap e => by
        obtain ⟨a, cp, e1, _⟩ := HBO.out
        rw [e1] at e
        injection e with _ e2
        rw [len_toList] at e2
        omega)).out.mono ?_
      rintro e w4 ⟨rfl, x4⟩
      have X4 := Lib.hid (X3.out.trans x4)
      clear x4 hcv
      go_wp2_with (first
        | (refine wpList_storeT rfl _ _ _ rfl w4.heap.size H rfl rfl 55 _ (heap_alloc_new w4 _) (by rw [HSZ.out]; kernel_rfl) (by rw [HSZ.out]; rfl) HONE.out ?_; intro w6 hb6 ht6; have HB6 := Lib.hid hb6; have X6 := Lib.hid (ht6.fresh (X4.out.alloc _) X4.out.size); clear hb6 ht6; go_frame)
        | (refine wpList_load_row rfl _ _ rfl w4.heap.size rfl 55 H (0, 0) _ HB6.out Tryd.underlying55 rfl (by rw [HSZ.out]; kernel_rfl) ?_; go_frame))
      refine (HTX _).out.mono ?_
      rintro e w5 ⟨rfl, x5⟩
      have X5 := Lib.hid (X6.out.trans x5)
      clear x5
      have HBS := fun w => Lib.hid (refBeside_any P (⟨#[126, 116, 126]⟩ ++ c ++ hx.extract 0 8) w (by simp [size_mk]; omega))
      go_wp2_with fail
      refine wp_region_after (by kernel_rfl) (by kernel_rfl) ?_
      repeat (go_big_quiet_step (first | (go_at_call 44; exact After.of (HAH _).out) | (go_at_call 56; exact After.same (HBS _).out)))
      refine wpQuiet_nil ?_; rintro _ ⟨y, rfl⟩
      have HY := Lib.hid y.x
      go_wp2_with fail
      go_ret2
      exact ⟨ret_strb HFIN.out, X5.out.trans HY.out⟩
end Go.Proofs.YtgojagdjlebnnaaDoor
