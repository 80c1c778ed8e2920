/- TempKnown: the examples of the chapter, and drafts that are none: the statement TempKnownCardSaid, with no condition of its own. -/
import Derived.Test.YtldppmjjgljinaaGreatDoorPathEnv
import Derived.Test.YtldppmjjgljinaaGreatDoorShaEnv
import Derived.Test.YtldppmjjgljinaaGreatDoorActs
import Derived.Test.YtldppmjjgljinaaGreatDoorTempN
import Derived.Test.YtldppmjjgljinaaGreatDoorTempKnownF
namespace Go.Proofs.YtldppmjjgljinaaGreatDoor.lawTempKnown
open Go.ChangeShapes Go.WideShapes Go.ChangeAt Go.RowKit
open Go.ChangeMaps (open_string)

set_option maxRecDepth 100000 in
set_option maxHeartbeats 8000000 in
theorem walk (w : World) (E : Env w) (T : ShaTabs w) : Calls Tryz.prog 11 #[] w fun e w' => e = .returned (.bool true) ∧ Below w.heap.size w w' := by
  have AW := fun w1 (x : Ext w w1) => Lib.hid (awake23_any w1 (E.ext x) (T.ext x))
  have H0 := Lib.hid (made23_any (Things.start (Ext.refl w)) E)
  have HE := Lib.hid E
  have HT := Lib.hid T
  have hhs : (wantedR gL).hs = hashesL gL := rfl
  have HHs := Lib.hid hhs
  have HKz := Lib.hid fz_far
  clear E T hhs
  go_enter Tryz.func11, Tryz.ntmps11
  go_wp2_with fail
  refine H0.out.mono ?_
  rintro e w1 ⟨d, rfl, h1⟩
  have H1 := h1
  have HW := Lib.hid (given23_any w1 (HT.out.ext h1.out.is_ext))
  clear h1 H0
  go_wp2_with fail
  refine HW.out.mono ?_
  rintro e w2 ⟨a, c, rfl, h2⟩
  have HT2 := Lib.hid (Things.hash (l := gL) H1.out h2.out.2 (by rw [gc_len]; exact h2.out.1) (by omega))
  clear h2 HW H1
  have HA1 := Lib.hid (show (Tryz.prog.info? 31).map (·.size) = some (wantedC gL (.slice a 3 c)).size from by kernel_rfl)
  have HA2 := Lib.hid (show 27 = (wantedC gL (.slice a 3 c)).size from rfl)
  have HA3 := Lib.hid (show (wantedC gL (.slice a 3 c)).all (·.oneCell') = true from by simp [wantedC, Value.oneCell'])
  obtain ⟨WC, hWC⟩ : ∃ WC, WC = wantedC gL (.slice a 3 c) := ⟨_, rfl⟩
  have HWC := Lib.hid hWC
  rw [← hWC] at HA1 HA2 HA3 ⊢
  clear hWC
  go_wp2_with (first
    | (refine wpList_storeT rfl _ _ _ rfl w2.heap.size WC rfl rfl 31 _ (heap_alloc_new w2 _) HA1.out HA2.out HA3.out ?_; intro w3 hb6 ht6; have HB3 := Lib.hid hb6; have HX3 := Lib.hid (ht6.fresh ((Ext.refl w2).alloc _) (Nat.le_refl _)); clear hb6 ht6; go_frame)
    | (refine wpList_load_row rfl 31 (.tmp 2) rfl w2.heap.size rfl 31 WC (0, 0) _ HB3.out Tryz.underlying31 rfl HA1.out ?_; go_frame))
  have HT3 := Lib.hid (show Things w w3 ([] ++ .disk d kF :: [.gen (hashG (.slice a 3 c) (hashesL gL)), .obj w2.heap.size (.cells WC 31 (0, 0))]) from
    HT2.out.add HX3.out (M := []) (I := [w2.heap.size]) ⟨rfl, rfl, HB3.out⟩ (fun _ h => (by cases h)) fun y hy => (by rw [List.mem_singleton.1 hy]; exact Nat.le_refl _))
  obtain ⟨hh1, hh2⟩ := hash_many (A := [.disk d kF]) HT3.out
  have hO := open_at23 HT3.out (HE.out.ext HT3.out.is_ext) (HT.out.ext HT3.out.is_ext) (show gL.length ≤ 4096 by rw [gl_len]; decide) hh1 hh2 kF_read (by decide)
  rw [← HWC.out, show nd0.data.toList = [] from toList_mk [], openTo_none _ _ _ (Nat.le_refl _), gc_len] at hO
  have HO := Lib.hid hO
  obtain ⟨rb, hrb⟩ : ∃ rb, rb = w2.heap.size := ⟨_, rfl⟩
  rw [← hrb] at HT3 HO ⊢
  clear hO hh1 hh2 HT2 HB3 HA2 hrb HX3
  refine HO.out.mono ?_
  rintro e w4 ⟨p, rfl, h4⟩
  have HT4 := Lib.hid (show Things w w4 ([.disk d kF, .gen (hashG (.slice a 3 c) (hashesL gL)), .obj rb (.cells WC 31 (0, 0))] ++ dr p gL g0 :: []) from h4.out.2)
  clear h4 HO HT3
  go_wp2_with fail
  refine (AW _ HT4.out.is_ext).out.mono ?_
  rintro e w5 ⟨rfl, x5⟩
  have HT5 := Lib.hid (HT4.out.ext x5)
  have hA := thave_many HT5.out tmpW_some
  rw [gl_len, k_have0] at hA
  have HA := Lib.hid hA
  clear x5 hA HT4
  go_wp2_with fail
  refine HA.out.mono ?_
  rintro e w6 ⟨u6, rfl, h6⟩
  obtain ⟨a6, c6, rfl⟩ := rowk_shape h6.out.1
  have HT6 := Lib.hid (HT5.out.ext h6.out.2)
  have HTm := Lib.hid (times_any 120 16 w6 (by decide))
  clear h6 HA HT5
  go_wp2_with fail
  refine HTm.out.mono ?_
  rintro e w7 ⟨rfl, x7⟩
  have HT7 := Lib.hid (HT6.out.ext x7)
  obtain ⟨cv, w8, hcv, hbo, x8⟩ := conv_bytes (repS 120 16) w7 (by rw [repS_size]; decide)
  rw [repS_list] at hbo
  have HT8 := Lib.hid (HT7.out.ext x8)
  have HP := Lib.hid (tput_many HT8.out (HT.out.ext HT8.out.is_ext) tmpW_some 1 (by decide) x16 cv hbo g_right1)
  clear x7 x8 hbo HTm HT6 HT7
  go_wp2_with fail
  refine HP.out.mono ?_
  rintro e w9 ⟨rfl, h9⟩
  have HT9 := Lib.hid (show Things w w9 ([.disk d kF, .gen (hashG (.slice a 3 c) (hashesL gL)), .obj rb (.cells WC 31 (0, 0))] ++ dr p gL g1 :: []) from h9)
  have HTm := Lib.hid (times_any 122 8 w9 (by decide))
  clear h9 hcv HP HT8
  go_wp2_with fail
  refine HTm.out.mono ?_
  rintro e w10 ⟨rfl, x10⟩
  have HT10 := Lib.hid (HT9.out.ext x10)
  obtain ⟨cv2, w11, hcv, hbo, x11⟩ := conv_bytes (repS 122 8) w10 (by rw [repS_size]; decide)
  rw [repS_list] at hbo
  have HT11 := Lib.hid (HT10.out.ext x11)
  have HP := Lib.hid (tput_wrong HT11.out (HT.out.ext HT11.out.is_ext) tmpW_some 2 (by decide) z8 cv2 hbo (by decide) k_wrongz)
  clear x10 x11 hbo HTm HT9 HT10
  go_wp2_with fail
  refine HP.out.mono ?_
  rintro e w12 ⟨rfl, x12⟩
  have HT12 := Lib.hid (HT11.out.ext x12)
  have HP := Lib.hid (put_out HT12.out tmpW_some 3 (by decide) (.slice none 0 0))
  clear x12 hcv HT11
  go_wp2_with fail
  refine HP.out.mono ?_
  rintro e w13 ⟨rfl, hw⟩
  obtain rfl := hw.symm
  clear hw
  have HTm := Lib.hid (times_any 121 7 w12 (by decide))
  go_wp2_with fail
  refine HTm.out.mono ?_
  rintro e w14 ⟨rfl, x14⟩
  have HT14 := Lib.hid (HT12.out.ext x14)
  obtain ⟨cv3, w15, hcv, hbo, x15⟩ := conv_bytes (repS 121 7) w14 (by rw [repS_size]; decide)
  rw [repS_list] at hbo
  have HT15 := Lib.hid (HT14.out.ext x15)
  have HP := Lib.hid (tput_wrong HT15.out (HT.out.ext HT15.out.is_ext) tmpW_some 2 (by decide) y7 cv3 hbo (by decide) k_wrongy)
  clear x14 x15 hbo HTm HT14 HT12
  go_wp2_with fail
  refine HP.out.mono ?_
  rintro e w16 ⟨rfl, x16'⟩
  have HT16 := Lib.hid (HT15.out.ext x16')
  have HSv := Lib.hid (tsave_at (A := []) (B := [.gen (hashG (.slice a 3 c) (hashesL gL)), .obj rb (.cells WC 31 (0, 0))] ++ dr p gL g1 :: []) HT16.out (p := p) (r := wantedR gL) (N := gL.length) (name := tmpW) (ps := g1) (by simp) (HE.out.ext HT16.out.is_ext) tmpW_some k_ok1 (by have := tmpW_size; omega) (kF_run.fit (by decide)) (show kF.act (.write tmpW (bytesB (farL 40 g1)) (wantedR gL).time) = (0, kT fz) from by rw [fz_far]; exact kT_made _ (by rw [fz_size]; decide)))
  clear x16' hcv HP HT15
  go_wp2_with fail
  refine HSv.out.mono ?_
  rintro e w17 ⟨rfl, h17⟩
  have HT17 := Lib.hid (show Things w w17 ([.disk d (kT fz), .gen (hashG (.slice a 3 c) (hashesL gL)), .obj rb (.cells WC 31 (0, 0))] ++ dr p gL g1 :: []) from h17)
  have HNm := Lib.hid (name_many HT17.out tmpW_some)
  have hRd := read_many (A := []) (B := [.gen (hashG (.slice a 3 c) (hashesL gL)), .obj rb (.cells WC 31 (0, 0))] ++ dr p gL g1 :: []) HT17.out (HE.out.ext HT17.out.is_ext) tmpW (by have := tmpW_size; omega)
  rw [kT_read] at hRd
  simp only [nv, emp] at hRd
  have HRd := Lib.hid hRd
  clear h17 HSv HT16 hRd
  go_wp2_with fail
  refine HNm.out.mono ?_
  rintro e w18 ⟨rfl, hw⟩
  obtain rfl := hw.symm
  clear hw
  go_wp2_with fail
  refine HRd.out.mono ?_
  rintro e w19 ⟨rfl, x19⟩
  obtain ⟨W20, hW20⟩ : ∃ W20, W20 = w19.alloc (.cells #[.int .i64 1, .string fz, .string ⟨#[]⟩, .int .i64 5] 57) := ⟨_, rfl⟩
  have hx20 : Ext w17 W20 := hW20 ▸ x19.alloc _
  have HNd := Lib.hid (show W20.heap[w19.heap.size]? = some (.cells #[.int .i64 1, .string fz, .string ⟨#[]⟩, .int .i64 5] 57 (0, 0)) from hW20 ▸ block_alloc_new w19 _)
  have HWq := Lib.hid hW20
  have HT20 := Lib.hid (show Things w W20 ([] ++ .disk d (kT fz) :: ([.gen (hashG (.slice a 3 c) (hashesL gL)), .obj rb (.cells WC 31 (0, 0))] ++ [dr p gL g1, .obj w19.heap.size (.cells #[.int .i64 1, .string fz, .string ⟨#[]⟩, .int .i64 5] 57 (0, 0))])) from
    HT17.out.add hx20 (M := []) (I := [w19.heap.size]) ⟨rfl, rfl, HNd.out⟩ (fun _ h => (by cases h)) fun y hy => (by rw [List.mem_singleton.1 hy]; exact x19.size))
  obtain ⟨nb, hnb⟩ : ∃ nb, nb = w19.heap.size := ⟨_, rfl⟩
  obtain ⟨hh1, hh2⟩ := hash_many (A := [.disk d (kT fz)]) HT20.out
  have hO := open_at23 HT20.out (HE.out.ext HT20.out.is_ext) (HT.out.ext HT20.out.is_ext) (show gL.length ≤ 4096 by rw [gl_len]; decide) hh1 hh2 (kT_read fz) (by rw [fz_size]; decide)
  rw [← HWC.out, show (⟨1, fz, emp, 5⟩ : Nd).data.toList = List.replicate 32 120 ++ List.replicate 8 0 from fz_list, gl_len, k_open] at hO
  have HO := Lib.hid hO
  have HB20 := Lib.hid (obj_many (A := [.disk d (kT fz), .gen (hashG (.slice a 3 c) (hashesL gL))]) HT20.out)
  rw [← hnb] at HT20 HO
  have HNb := Lib.hid hnb
  clear hx20 x19 hO hh1 hh2 HNm HRd HT17 HNd hW20 hnb
  rw [HWq.out] at HB20 HO
  rw [HNb.out] at HO
  go_wp2_with (refine wpList_load_row rfl 31 (.tmp 2) rfl rb rfl 31 WC (0, 0) _ HB20.out Tryz.underlying31 rfl HA1.out ?_; go_frame)
  rw [← HNb.out] at HO ⊢
  clear HWq HNb HB20
  refine HO.out.mono ?_
  rintro e w21 ⟨q, rfl, h21⟩
  have HT21 := Lib.hid (show Things w w21 ([.disk d (kT fz), .gen (hashG (.slice a 3 c) (hashesL gL)), .obj rb (.cells WC 31 (0, 0))] ++ [dr p gL g1, .obj nb (.cells #[.int .i64 1, .string fz, .string ⟨#[]⟩, .int .i64 5] 57 (0, 0))] ++ dr q gL g1 :: []) from h21.out.2)
  clear h21 HO HT20
  go_wp2_with fail
  refine wp_region_held (S := fun w' => w'.heap[nb]? = some (.cells #[.int .i64 1, .string fz, .string ⟨#[]⟩, .int .i64 5] 57 (0, 0))) (by kernel_rfl) ?_
  change wpAnyH _ _ _ _ _ _ _ _ (World.drew _)
  have hb21 := obj_many (A := [.disk d (kT fz), .gen (hashG (.slice a 3 c) (hashesL gL)), .obj rb (.cells WC 31 (0, 0))] ++ [dr p gL g1]) (B := [dr q gL g1]) HT21.out
  have xd : Ext w21 w21.drew := (Ext.refl w21).drew
  have s0 : w21.drew.heap[nb]? = some (.cells #[.int .i64 1, .string fz, .string ⟨#[]⟩, .int .i64 5] 57 (0, 0)) := hb21
  have hfz : repS 120 32 ++ repS 0 8 = fz := rfl
  have z1 := repS_size 120 32
  have z2 := repS_size 0 8
  refine wpAnyH_takeL (i := 0) (v := .int .i64 0) rfl (by kernel_rfl) (by kernel_rfl) (by kernel_rfl) (fun _ _ _ h => h) (Or.inl ⟨rfl, fun _ _ => rfl⟩) s0 ?_
  go_frame
  refine wpAnyH_takeL (i := 1) (v := .bool false) rfl (by kernel_rfl) (by kernel_rfl) (by kernel_rfl) (fun _ _ _ h => h) (Or.inl ⟨rfl, fun w' _ => by go_simp⟩) s0 ?_
  go_frame
  refine wpAnyH_takeL (i := 2) (v := .bool false) rfl (by kernel_rfl) (by kernel_rfl) (by kernel_rfl) (fun _ _ _ h => h) (Or.inl ⟨rfl, fun _ _ => rfl⟩) s0 ?_
  go_frame
  refine wpAnyH_takeL (i := 3) (v := .agg #[.int .i64 1, .string fz, .string ⟨#[]⟩, .int .i64 5]) rfl (by kernel_rfl) (by kernel_rfl) (by kernel_rfl) (fun _ _ _ h => h) (yieldsIf_load_at rfl 57 (.tmp 5) rfl nb 0 rfl #[.int .i64 1, .string fz, .string ⟨#[]⟩, .int .i64 5] _ (fun w' hw' j u hj => by rw [Nat.zero_add, cellB hw']; simpa using hj) Tryz.underlying57 rfl (by kernel_rfl)) s0 ?_
  go_frame
  refine wpAnyH_call_g (i := 4) (F := 69) (args := #[.string ⟨#[120]⟩, .int .i64 32]) (by kernel_rfl) rfl rfl (by go_simp) ?_
  refine (times_any 120 32 w21.drew (by decide)).mono ?_
  rintro e w22 ⟨rfl, x22⟩
  have s1 := (x22.block (ltB s0)).trans s0
  refine ⟨_, rfl, s1, ?_⟩
  go_frame
  refine wpAnyH_call_g (i := 5) (F := 69) (args := #[.string ⟨#[0]⟩, .int .i64 8]) (by kernel_rfl) rfl rfl (by go_simp) ?_
  refine (times_any 0 8 w22 (by decide)).mono ?_
  rintro e w23 ⟨rfl, x23⟩
  have s2 := (x23.block (ltB s1)).trans s1
  refine ⟨_, rfl, s2, ?_⟩
  go_frame
  refine wpAnyH_takeL (i := 6) (v := .string fz) rfl (by kernel_rfl) (by kernel_rfl) (by kernel_rfl) (fun _ _ _ h => h) (Or.inl ⟨rfl, fun w' _ => by go_simp⟩) s2 ?_
  go_frame
  refine wpAnyH_takeL (i := 7) (v := .agg #[.int .i64 1, .string fz, .string ⟨#[]⟩, .int .i64 5]) rfl (by kernel_rfl) (by kernel_rfl) (by kernel_rfl) (fun _ _ _ h => h) (yieldsIf_build_g rfl _ _ rfl #[.int .i64 1, .string fz, .string ⟨#[]⟩, .int .i64 5] (by kernel_rfl)) s2 ?_
  go_frame
  refine wpAnyH_takeL (i := 8) (v := .bool false) rfl (by kernel_rfl) (by kernel_rfl) (by kernel_rfl) (fun _ _ _ h => h) (Or.inl ⟨rfl, fun w' _ => by go_simp⟩) s2 ?_
  go_frame
  refine wpAnyH_takeL (i := 9) (v := .bool false) rfl (by kernel_rfl) (by kernel_rfl) (by kernel_rfl) (fun _ _ _ h => h) (Or.inl ⟨rfl, fun w' _ => by go_simp⟩) s2 ?_
  go_frame
  refine wpAnyH_takeL (i := 10) (v := .bool false) rfl (by kernel_rfl) (by kernel_rfl) (by kernel_rfl) (fun _ _ _ h => h) (Or.inl ⟨rfl, fun _ _ => rfl⟩) s2 ?_
  go_frame
  refine wpAnyH_takeL (i := 11) (v := .int .i64 0) rfl (by kernel_rfl) (by kernel_rfl) (by kernel_rfl) (fun _ _ _ h => h) (Or.inl ⟨rfl, fun _ _ => rfl⟩) s2 ?_
  go_frame
  refine wpAnyH_takeL (i := 12) (v := .bool false) rfl (by kernel_rfl) (by kernel_rfl) (by kernel_rfl) (fun _ _ _ h => h) (Or.inl ⟨rfl, fun w' _ => by go_simp⟩) s2 ?_
  go_frame
  refine wpAnyH_takeL (i := 13) (v := .bool false) rfl (by kernel_rfl) (by kernel_rfl) (by kernel_rfl) (fun _ _ _ h => h) (Or.inl ⟨rfl, fun w' _ => by go_simp⟩) s2 ?_
  go_frame
  refine wpAnyH_takeL (i := 14) (v := .bool false) rfl (by kernel_rfl) (by kernel_rfl) (by kernel_rfl) (fun _ _ _ h => h) (Or.inl ⟨rfl, fun _ _ => rfl⟩) s2 ?_
  go_frame
  refine wpAnyH_takeL (i := 15) (v := .pointer (some ⟨q, 0, none⟩)) rfl (by kernel_rfl) (by kernel_rfl) (by kernel_rfl) (fun _ _ _ h => h) (Or.inl ⟨rfl, fun _ _ => rfl⟩) s2 ?_
  go_frame
  have hT23 := HT21.out.ext ((xd.trans x22).trans x23)
  have hA := thave_many hT23 tmpW_some
  rw [gl_len, g_have1] at hA
  refine wpAnyH_call_g (i := 16) (F := 19) (args := #[.pointer (some ⟨q, 0, none⟩)]) (by kernel_rfl) rfl rfl (by go_simp) ?_
  refine (hA).mono ?_
  rintro e w24 ⟨u24, rfl, h24⟩
  have s3 := (h24.out.2.block (ltB s2)).trans s2
  refine ⟨_, rfl, s3, ?_⟩
  go_frame
  refine wpAnyH_call_g (i := 17) (F := 71) (args := #[u24]) (by kernel_rfl) rfl rfl (by go_simp) ?_
  refine (text_row h24.out.1 (Ext.refl w24) (by decide) (by decide) (show digS [0, 1] = ⟨#[48, 49]⟩ from rfl)).mono ?_
  rintro e w25 ⟨rfl, x25⟩
  have s4 := (x25.block (ltB s3)).trans s3
  refine ⟨_, rfl, s4, ?_⟩
  go_frame
  refine wpAnyH_takeL (i := 18) (v := .bool false) rfl (by kernel_rfl) (by kernel_rfl) (by kernel_rfl) (fun _ _ _ h => h) (Or.inl ⟨rfl, fun w' _ => by go_simp⟩) s4 ?_
  go_frame
  refine wpAnyH_takeL (i := 19) (v := .bool false) rfl (by kernel_rfl) (by kernel_rfl) (by kernel_rfl) (fun _ _ _ h => h) (Or.inl ⟨rfl, fun w' _ => by go_simp⟩) s4 ?_
  go_frame
  refine wpAnyH_takeL (i := 20) (v := .bool false) rfl (by kernel_rfl) (by kernel_rfl) (by kernel_rfl) (fun _ _ _ h => h) (Or.inl ⟨rfl, fun _ _ => rfl⟩) s4 ?_
  go_frame
  refine wpAnyH_takeL (i := 21) (v := .pointer (some ⟨q, 0, none⟩)) rfl (by kernel_rfl) (by kernel_rfl) (by kernel_rfl) (fun _ _ _ h => h) (Or.inl ⟨rfl, fun _ _ => rfl⟩) s4 ?_
  go_frame
  refine wpAnyH_call_g (i := 22) (F := 69) (args := #[.string ⟨#[121]⟩, .int .i64 8]) (by kernel_rfl) rfl rfl (by go_simp) ?_
  refine (times_any 121 8 w25 (by decide)).mono ?_
  rintro e w26 ⟨rfl, x26⟩
  have s5 := (x26.block (ltB s4)).trans s4
  refine ⟨_, rfl, s5, ?_⟩
  go_frame
  obtain ⟨cv27, w27, hcv, hbo, x27⟩ := conv_bytes (repS 121 8) w26 (by rw [repS_size]; decide)
  rw [repS_list] at hbo
  have s6 := (x27.block (ltB s5)).trans s5
  refine wpAnyH_one_g (i := 23) (by kernel_rfl) rfl rfl (run_convertOp _ _ _ rfl _ _ _ hcv) s6 ?_
  go_frame
  have hT27 := hT23.ext (((h24.out.2.trans x25).trans x26).trans x27)
  have HP := tput_many hT27 (HT.out.ext hT27.is_ext) tmpW_some 2 (by decide) y8 cv27 hbo k_right2
  refine wpAnyH_call_g (i := 24) (F := 16) (args := #[.pointer (some ⟨q, 0, none⟩), .int .i64 2, cv27]) (by kernel_rfl) rfl rfl (by go_simp) ?_
  refine HP.mono ?_
  rintro e w28 ⟨rfl, h28⟩
  have hT28 : Things w w28 ([.disk d (kT fz), .gen (hashG (.slice a 3 c) (hashesL gL)), .obj rb (.cells WC 31 (0, 0))] ++ [dr p gL g1, .obj nb (.cells #[.int .i64 1, .string fz, .string ⟨#[]⟩, .int .i64 5] 57 (0, 0))] ++ dr q gL g2 :: []) := h28
  have s7 := obj_many (A := [.disk d (kT fz), .gen (hashG (.slice a 3 c) (hashesL gL)), .obj rb (.cells WC 31 (0, 0))] ++ [dr p gL g1]) (B := [dr q gL g2]) hT28
  refine ⟨_, rfl, s7, ?_⟩
  go_frame
  refine wpAnyH_takeL (i := 25) (v := .bool false) rfl (by kernel_rfl) (by kernel_rfl) (by kernel_rfl) (fun _ _ _ h => h) (Or.inl ⟨rfl, fun w' _ => by go_simp⟩) s7 ?_
  go_frame
  refine wpAnyH_takeL (i := 26) (v := .bool false) rfl (by kernel_rfl) (by kernel_rfl) (by kernel_rfl) (fun _ _ _ h => h) (Or.inl ⟨rfl, fun w' _ => by go_simp⟩) s7 ?_
  go_frame
  refine wpAnyH_takeL (i := 27) (v := .bool false) rfl (by kernel_rfl) (by kernel_rfl) (by kernel_rfl) (fun _ _ _ h => h) (Or.inl ⟨rfl, fun _ _ => rfl⟩) s7 ?_
  go_frame
  refine wpAnyH_takeL (i := 28) (v := .pointer (some ⟨q, 0, none⟩)) rfl (by kernel_rfl) (by kernel_rfl) (by kernel_rfl) (fun _ _ _ h => h) (Or.inl ⟨rfl, fun _ _ => rfl⟩) s7 ?_
  go_frame
  have hD := tdone_many hT28 tmpW_some
  rw [gl_len, show (wantedR gL).hs = hashesL gL from rfl, k_done2] at hD
  refine wpAnyH_call_g (i := 29) (F := 24) (args := #[.pointer (some ⟨q, 0, none⟩)]) (by kernel_rfl) rfl rfl (by go_simp) ?_
  refine (hD).mono ?_
  rintro e w29 ⟨rfl, x29⟩
  have s8 := (x29.block (ltB s7)).trans s7
  refine ⟨_, rfl, s8, ?_⟩
  go_frame
  refine wpAnyH_takeL (i := 30) (v := .bool false) rfl (by kernel_rfl) (by kernel_rfl) (by kernel_rfl) (fun _ _ _ h => h) (Or.inl ⟨rfl, fun w' _ => by go_simp⟩) s8 ?_
  go_frame
  refine wpAnyH_takeL (i := 31) (v := .bool false) rfl (by kernel_rfl) (by kernel_rfl) (by kernel_rfl) (fun _ _ _ h => h) (Or.inl ⟨rfl, fun w' _ => by go_simp⟩) s8 ?_
  go_frame
  refine wpAnyH_done (by kernel_rfl) ?_ _
  have HT29 := Lib.hid (hT28.ext x29)
  clear hb21 xd s0 s1 s2 s3 s4 s5 s6 s7 s8 hfz z1 z2 x22 x23 hT23 hA h24 x25 x26 hcv hbo x27 hT27 HP h28 hT28 hD x29 HT21
  go_wp2_with fail
  have hDa := tdata_many HT29.out tmpW_some k_ok2
  rw [gl_len, show (wantedR gL).hs = hashesL gL from rfl, k_done2, k_far2] at hDa
  refine hDa.mono ?_
  rintro e w30 ⟨u30, rfl, h30⟩
  have hr30 := h30.out.2.2 rfl
  rw [← gl_len] at hr30
  obtain ⟨a30, c30, rfl⟩ := rowk_shape hr30
  obtain ⟨g30, rfl, hT30⟩ := HT29.out.bytes h30.out.1 hr30 (Nat.le_refl _) (by rw [gl_len]; decide)
  rw [gl_len] at hT30 ⊢
  have HT30 := Lib.hid (show Things w w30 ([.disk d (kT fz), .gen (hashG (.slice a 3 c) (hashesL gL)), .obj rb (.cells WC 31 (0, 0))] ++ dr p gL g1 :: [.obj nb (.cells #[.int .i64 1, .string fz, .string ⟨#[]⟩, .int .i64 5] 57 (0, 0)), dr q gL g2, .gen (bytesG g30 40 gL)]) from hT30)
  clear hDa h30 hr30 hT30 HT29
  go_wp2_with fail
  have hDa := tdata_many HT30.out tmpW_some k_ok1
  rw [gl_len, show (wantedR gL).hs = hashesL gL from rfl, k_done1] at hDa
  refine hDa.mono ?_
  rintro e w31 ⟨u31, rfl, h31⟩
  obtain rfl := h31.out.2.1 rfl
  have HT31 := Lib.hid (show Things w w31 ([] ++ .disk d (kT fz) :: ([.gen (hashG (.slice a 3 c) (hashesL gL)), .obj rb (.cells WC 31 (0, 0))] ++ [dr p gL g1, .obj nb (.cells #[.int .i64 1, .string fz, .string ⟨#[]⟩, .int .i64 5] 57 (0, 0)), dr q gL g2, .gen (bytesG g30 40 gL)])) from HT30.out.ext h31.out.1)
  clear hDa h31 HT30
  go_wp2_with fail
  refine wp_region_held (S := fun w' => (convert 22 9 (.slice (some ⟨g30, 0, none⟩) 40 c30)).run Tryz.prog w' = .ok (.string gS) w') (by kernel_rfl) ?_
  change wpAnyH _ _ _ _ _ _ _ _ (World.drew _)
  have CV : ∀ K w', Things w w' ([] ++ .disk d K :: ([.gen (hashG (.slice a 3 c) (hashesL gL)), .obj rb (.cells WC 31 (0, 0))] ++ [dr p gL g1, .obj nb (.cells #[.int .i64 1, .string fz, .string ⟨#[]⟩, .int .i64 5] 57 (0, 0)), dr q gL g2, .gen (bytesG g30 40 gL)])) → (convert 22 9 (.slice (some ⟨g30, 0, none⟩) 40 c30)).run Tryz.prog w' = .ok (.string gS) w' := fun K w' h => by
    have := bytes_conv (c := c30) (A := .disk d K :: ([.gen (hashG (.slice a 3 c) (hashesL gL)), .obj rb (.cells WC 31 (0, 0))] ++ [dr p gL g1, .obj nb (.cells #[.int .i64 1, .string fz, .string ⟨#[]⟩, .int .i64 5] 57 (0, 0)), dr q gL g2])) (B := []) h
    rw [gS_far] at this
    exact this
  have hgs : repS 120 32 ++ repS 121 8 = gS := rfl
  have z1 := repS_size 120 32
  have z2 := repS_size 121 8
  have t0 := HT31.out.ext (Ext.refl w31).drew
  have s0 := CV _ _ t0
  refine wpAnyH_takeL (i := 0) (v := .bool true) rfl (by kernel_rfl) (by kernel_rfl) (by kernel_rfl) (fun _ _ _ h => h) (Or.inl ⟨rfl, fun _ _ => rfl⟩) s0 ?_
  go_frame
  refine wpAnyH_takeL (i := 1) (v := .bool false) rfl (by kernel_rfl) (by kernel_rfl) (by kernel_rfl) (fun _ _ _ h => h) (Or.inl ⟨rfl, fun w' _ => by go_simp⟩) s0 ?_
  go_frame
  refine wpAnyH_takeL (i := 2) (v := .bool false) rfl (by kernel_rfl) (by kernel_rfl) (by kernel_rfl) (fun _ _ _ h => h) (Or.inl ⟨rfl, fun _ _ => rfl⟩) s0 ?_
  go_frame
  refine wpAnyH_takeL (i := 3) (v := .slice (some ⟨g30, 0, none⟩) 40 c30) rfl (by kernel_rfl) (by kernel_rfl) (by kernel_rfl) (fun _ _ _ h => h) (Or.inl ⟨rfl, fun _ _ => rfl⟩) s0 ?_
  go_frame
  refine wpAnyH_takeL (i := 4) (v := .string gS) rfl (by kernel_rfl) (by kernel_rfl) (by kernel_rfl) (fun _ _ _ h => h) (Or.inl ⟨rfl, fun w' hw' => run_convertOp _ _ _ rfl _ _ _ hw'⟩) s0 ?_
  go_frame
  refine wpAnyH_call_g (i := 5) (F := 69) (args := #[.string ⟨#[120]⟩, .int .i64 32]) (by kernel_rfl) rfl rfl (by go_simp) ?_
  refine (times_any 120 32 w31.drew (by decide)).mono ?_
  rintro e w32 ⟨rfl, x32⟩
  have t1 := t0.ext x32
  have s1 := CV _ _ t1
  refine ⟨_, rfl, s1, ?_⟩
  go_frame
  refine wpAnyH_call_g (i := 6) (F := 69) (args := #[.string ⟨#[121]⟩, .int .i64 8]) (by kernel_rfl) rfl rfl (by go_simp) ?_
  refine (times_any 121 8 w32 (by decide)).mono ?_
  rintro e w33 ⟨rfl, x33⟩
  have t2 := t1.ext x33
  have s2 := CV _ _ t2
  refine ⟨_, rfl, s2, ?_⟩
  go_frame
  refine wpAnyH_takeL (i := 7) (v := .string gS) rfl (by kernel_rfl) (by kernel_rfl) (by kernel_rfl) (fun _ _ _ h => h) (Or.inl ⟨rfl, fun w' _ => by go_simp⟩) s2 ?_
  go_frame
  refine wpAnyH_takeL (i := 8) (v := .bool false) rfl (by kernel_rfl) (by kernel_rfl) (by kernel_rfl) (fun _ _ _ h => h) (Or.inl ⟨rfl, fun w' _ => by go_simp⟩) s2 ?_
  go_frame
  refine wpAnyH_takeL (i := 9) (v := .bool false) rfl (by kernel_rfl) (by kernel_rfl) (by kernel_rfl) (fun _ _ _ h => h) (Or.inl ⟨rfl, fun w' _ => by go_simp⟩) s2 ?_
  go_frame
  refine wpAnyH_takeL (i := 10) (v := .bool false) rfl (by kernel_rfl) (by kernel_rfl) (by kernel_rfl) (fun _ _ _ h => h) (Or.inl ⟨rfl, fun _ _ => rfl⟩) s2 ?_
  go_frame
  refine wpAnyH_takeL (i := 11) (v := .bool false) rfl (by kernel_rfl) (by kernel_rfl) (by kernel_rfl) (fun _ _ _ h => h) (Or.inl ⟨rfl, fun _ _ => rfl⟩) s2 ?_
  go_frame
  refine wpAnyH_takeL (i := 12) (v := .bool false) rfl (by kernel_rfl) (by kernel_rfl) (by kernel_rfl) (fun _ _ _ h => h) (Or.inl ⟨rfl, fun w' _ => by go_simp⟩) s2 ?_
  go_frame
  refine wpAnyH_takeL (i := 13) (v := .bool false) rfl (by kernel_rfl) (by kernel_rfl) (by kernel_rfl) (fun _ _ _ h => h) (Or.inl ⟨rfl, fun _ _ => rfl⟩) s2 ?_
  go_frame
  refine wpAnyH_takeL (i := 14) (v := .pointer (some ⟨q, 0, none⟩)) rfl (by kernel_rfl) (by kernel_rfl) (by kernel_rfl) (fun _ _ _ h => h) (Or.inl ⟨rfl, fun _ _ => rfl⟩) s2 ?_
  go_frame
  refine wpAnyH_takeL (i := 15) (v := .pointer (some ⟨d, 0, none⟩)) rfl (by kernel_rfl) (by kernel_rfl) (by kernel_rfl) (fun _ _ _ h => h) (Or.inl ⟨rfl, fun _ _ => rfl⟩) s2 ?_
  go_frame
  refine wpAnyH_call_g (i := 16) (F := 48) (args := #[.pointer (some ⟨q, 0, none⟩), .pointer (some ⟨d, 0, none⟩)]) (by kernel_rfl) rfl rfl (by go_simp) ?_
  refine (tdrop_at t2 (p := q) (r := wantedR gL) (N := gL.length) (name := tmpW) (ps := g2) (by simp) (HE.out.ext t2.is_ext) tmpW_some (by have := tmpW_size; omega) ((kT_run fz (by rw [fz_size]; decide)).fit (by decide)) (dropT fz)).mono ?_
  rintro e w34 ⟨rfl, t3⟩
  have s3 := CV _ _ t3
  refine ⟨_, rfl, s3, ?_⟩
  go_frame
  refine wpAnyH_takeL (i := 17) (v := .bool false) rfl (by kernel_rfl) (by kernel_rfl) (by kernel_rfl) (fun _ _ _ h => h) (Or.inl ⟨rfl, fun w' _ => by go_simp⟩) s3 ?_
  go_frame
  refine wpAnyH_takeL (i := 18) (v := .bool false) rfl (by kernel_rfl) (by kernel_rfl) (by kernel_rfl) (fun _ _ _ h => h) (Or.inl ⟨rfl, fun w' _ => by go_simp⟩) s3 ?_
  go_frame
  refine wpAnyH_takeL (i := 19) (v := .bool false) rfl (by kernel_rfl) (by kernel_rfl) (by kernel_rfl) (fun _ _ _ h => h) (Or.inl ⟨rfl, fun _ _ => rfl⟩) s3 ?_
  go_frame
  refine wpAnyH_takeL (i := 20) (v := .pointer (some ⟨q, 0, none⟩)) rfl (by kernel_rfl) (by kernel_rfl) (by kernel_rfl) (fun _ _ _ h => h) (Or.inl ⟨rfl, fun _ _ => rfl⟩) s3 ?_
  go_frame
  refine wpAnyH_takeL (i := 21) (v := .pointer (some ⟨d, 0, none⟩)) rfl (by kernel_rfl) (by kernel_rfl) (by kernel_rfl) (fun _ _ _ h => h) (Or.inl ⟨rfl, fun _ _ => rfl⟩) s3 ?_
  go_frame
  refine wpAnyH_call_g (i := 22) (F := 48) (args := #[.pointer (some ⟨q, 0, none⟩), .pointer (some ⟨d, 0, none⟩)]) (by kernel_rfl) rfl rfl (by go_simp) ?_
  refine (tdrop_at t3 (p := q) (r := wantedR gL) (N := gL.length) (name := tmpW) (ps := g2) (by simp) (HE.out.ext t3.is_ext) tmpW_some (by have := tmpW_size; omega) ((kG_run fz (by rw [fz_size]; decide)).fit (by decide)) (dropG fz)).mono ?_
  rintro e w35 ⟨rfl, t4⟩
  have s4 := CV _ _ t4
  refine ⟨_, rfl, s4, ?_⟩
  go_frame
  refine wpAnyH_takeL (i := 23) (v := .bool false) rfl (by kernel_rfl) (by kernel_rfl) (by kernel_rfl) (fun _ _ _ h => h) (Or.inl ⟨rfl, fun w' _ => by go_simp⟩) s4 ?_
  go_frame
  refine wpAnyH_takeL (i := 24) (v := .bool false) rfl (by kernel_rfl) (by kernel_rfl) (by kernel_rfl) (fun _ _ _ h => h) (Or.inl ⟨rfl, fun w' _ => by go_simp⟩) s4 ?_
  go_frame
  refine wpAnyH_takeL (i := 25) (v := .bool false) rfl (by kernel_rfl) (by kernel_rfl) (by kernel_rfl) (fun _ _ _ h => h) (Or.inl ⟨rfl, fun _ _ => rfl⟩) s4 ?_
  go_frame
  refine wpAnyH_takeL (i := 26) (v := .pointer (some ⟨d, 0, none⟩)) rfl (by kernel_rfl) (by kernel_rfl) (by kernel_rfl) (fun _ _ _ h => h) (Or.inl ⟨rfl, fun _ _ => rfl⟩) s4 ?_
  go_frame
  refine wpAnyH_call_g (i := 27) (F := 28) (args := #[.pointer (some ⟨d, 0, none⟩)]) (by kernel_rfl) rfl rfl (by go_simp) ?_
  refine (paths_many t4 (kG_run fz (by rw [fz_size]; decide)).ok).mono ?_
  rintro e w36 ⟨u36, rfl, h36, x36⟩
  obtain ⟨a36, c36, rfl⟩ := rowk_shape h36
  have t5 := t4.ext x36
  have s5 := CV _ _ t5
  refine ⟨_, rfl, s5, ?_⟩
  go_frame
  refine wpAnyH_takeL (i := 28) (v := .int .i64 1) rfl (by kernel_rfl) (by kernel_rfl) (by kernel_rfl) (fun _ _ _ h => h) (Or.inl ⟨rfl, fun w' _ => by go_simp; rfl⟩) s5 ?_
  go_frame
  refine wpAnyH_takeL (i := 29) (v := .bool false) rfl (by kernel_rfl) (by kernel_rfl) (by kernel_rfl) (fun _ _ _ h => h) (Or.inl ⟨rfl, fun w' _ => by go_simp⟩) s5 ?_
  go_frame
  refine wpAnyH_takeL (i := 30) (v := .bool false) rfl (by kernel_rfl) (by kernel_rfl) (by kernel_rfl) (fun _ _ _ h => h) (Or.inl ⟨rfl, fun w' _ => by go_simp⟩) s5 ?_
  go_frame
  refine wpAnyH_done (by kernel_rfl) ?_ _
  have HT36 := Lib.hid t5
  clear CV hgs z1 z2 t0 s0 x32 t1 s1 x33 t2 s2 t3 s3 t4 s4 h36 x36 t5 s5 HT31
  have HB36 := Lib.hid (obj_many (A := [.disk d (kG fz), .gen (hashG (.slice a 3 c) (hashesL gL))]) HT36.out)
  have HA2 := Lib.hid (show 27 = WC.size from by rw [HWC.out]; rfl)
  have HA3 := Lib.hid (show WC.all (·.oneCell') = true from by rw [HWC.out]; simp [wantedC, Value.oneCell'])
  go_wp2_with (first
    | (refine wpList_load_row rfl 31 (.tmp 2) rfl rb rfl 31 WC (0, 0) _ HB36.out Tryz.underlying31 rfl HA1.out ?_; go_frame)
    | (refine wpList_storeT rfl _ _ _ rfl w36.heap.size WC rfl rfl 31 _ (heap_alloc_new w36 _) HA1.out HA2.out HA3.out ?_; intro w37 hb6 ht6; have HB37 := Lib.hid hb6; have HX37 := Lib.hid (ht6.fresh ((Ext.refl w36).alloc _) (Nat.le_refl _)); have k1 := (cellB (k := 1) hb6).trans (show WC[1]? = some (.int .i64 1) from by rw [HWC.out]; rfl); have f1 := frozenB (k := 1) hb6; have hlr := ltB HB36.out; have HX38 := Lib.hid (show Ext w36 (w37.setCell ⟨w36.heap.size, 1, none⟩ (.int .i64 2)) from HX37.out.setCell (Nat.le_refl _) _); have HR38 := Lib.hid ((HX38.out.block hlr).trans HB36.out); have HD38 := Lib.hid (show (w37.setCell ⟨w36.heap.size, 1, none⟩ (.int .i64 2)).heap[w36.heap.size]? = some (.cells (WC.setIfInBounds 1 (.int .i64 2)) 31 (0, 0)) from setCellB hb6); clear hb6 ht6 hlr; go_frame)
    | (refine wpList_load_row rfl 31 (.tmp 2) rfl rb rfl 31 WC (0, 0) _ HR38.out Tryz.underlying31 rfl HA1.out ?_; go_frame))
  obtain ⟨W38, hW38⟩ : ∃ W38, W38 = w37.setCell ⟨w36.heap.size, 1, none⟩ (.int .i64 2) := ⟨_, rfl⟩
  obtain ⟨db, hdb⟩ : ∃ db, db = w36.heap.size := ⟨_, rfl⟩
  rw [← hW38] at HX38 HR38 HD38 ⊢
  rw [← hdb] at HD38 ⊢
  obtain ⟨WD, hWD⟩ : ∃ WD, WD = WC.setIfInBounds 1 (.int .i64 2) := ⟨_, rfl⟩
  rw [← hWD] at HD38
  have HDc := Lib.hid (show RecC WD { wantedR gL with kind := 2 } (.slice a 3 c) from by rw [hWD, HWC.out]; exact ⟨rfl, rfl, rfl, rfl, rfl, rfl, rfl, rfl⟩)
  have HD1 := Lib.hid (show (Tryz.prog.info? 31).map (·.size) = some WD.size from by rw [HDc.out.n]; kernel_rfl)
  have HT38 := Lib.hid (HT36.out.ext HX38.out)
  have hO := open_path ⟨#[47]⟩ (wantedR gL) WC (.slice a 3 c) (.pointer none) ⟨d, 0, none⟩ W38 (by rw [HWC.out]; exact wantedC_rec _ _) (HE.out.ext HT38.out.is_ext) (HT.out.ext HT38.out.is_ext) (show sW.size < 4294967281 from by decide) (by decide) (by
    unfold placeB
    rw [show mayB ⟨#[47]⟩ = false from by decide +kernel]
    simp)
  clear hW38 hdb hWD k1 f1 HB37 HX37 HB36 HT36 HX38
  refine hO.mono ?_
  rintro e w39 ⟨rfl, x39⟩
  have HT39 := Lib.hid (HT38.out.ext x39)
  have HR39 := Lib.hid ((x39.block (ltB HR38.out)).trans HR38.out)
  have HD39 := Lib.hid ((x39.block (ltB HD38.out)).trans HD38.out)
  have HO := Lib.hid (disk_ext (A := []) (B := [.gen (hashG (.slice a 3 c) (hashesL gL)), .obj rb (.cells WC 31 (0, 0))] ++ [dr p gL g1, .obj nb (.cells #[.int .i64 1, .string fz, .string ⟨#[]⟩, .int .i64 5] 57 (0, 0)), dr q gL g2, .gen (bytesG g30 40 gL)]) HT39.out fun M I hd => open_err sF1 { wantedR gL with kind := 2 } WD (.slice a 3 c) (.pointer none) w39 HDc.out ⟨a, c, by rw [show ({ wantedR gL with kind := 2 } : RecS).hs.length = 3 from by show (hashesL gL).length = 3; rw [hashesL_len, gc_len]]⟩
    (by show -9223372036854775808 ≤ ((gL.length : Nat) : Int); omega) (by show ((gL.length : Nat) : Int) ≤ _; rw [gl_len]; decide) (HE.out.ext HT39.out.is_ext) (HT.out.ext HT39.out.is_ext) (show sW.size < 4294967281 from by decide) (by decide) tmpW_place (by unfold RecS.wanted wantedB; simp) d M I (kG fz) hd
    (by rw [show placeS sF1 ({ wantedR gL with kind := 2 } : RecS).path = tmpW from rfl, kG_read]; decide))
  rw [show ({ wantedR gL with kind := 2 } : RecS).wanted = 11 from by unfold RecS.wanted wantedB; simp] at HO
  clear x39 hO HT38 HR38 HD38
  go_wp2_with (refine wpList_load_row rfl 31 (.tmp 13) rfl db rfl 31 WD (0, 0) _ HD39.out Tryz.underlying31 rfl HD1.out ?_; go_frame)
  refine HO.out.mono ?_
  rintro e w40 ⟨rfl, x40⟩
  have HT40 := Lib.hid (HT39.out.ext x40)
  have HR40 := Lib.hid ((x40.block (ltB HR39.out)).trans HR39.out)
  have HO2 := Lib.hid (open_nil sF1 WC (.pointer none) w40)
  clear x40 HO HT39 HR39 HD39 HDc HD1
  go_wp2_with (refine wpList_load_row rfl 31 (.tmp 2) rfl rb rfl 31 WC (0, 0) _ HR40.out Tryz.underlying31 rfl HA1.out ?_; go_frame)
  refine HO2.out.mono ?_
  rintro e w41 ⟨rfl, x41⟩
  have HT41 := Lib.hid (HT40.out.ext x41)
  clear x41 HO2 HT40 HR40 HA1
  go_wp2_with fail
  refine (data_no (NoDr.nil _)).mono ?_
  rintro e w42 ⟨rfl, hw42⟩
  have hz : ∃ D, w42.heap[w41.heap.size]? = some (.cells D 118 (0, 0)) ∧ D[27]? = some (.string ⟨#[]⟩) := by
    rw [hw42]
    exact ⟨_, block_alloc_new w41 _, rfl⟩
  obtain ⟨D, hz1, hz2⟩ := hz
  have HZ := Lib.hid (NoDr.zero hz1 hz2)
  have HT42 := Lib.hid (HT41.out.ext (show Ext w41 w42 from hw42 ▸ (Ext.refl w41).alloc _))
  obtain ⟨zb, hzb⟩ : ∃ zb, zb = w41.heap.size := ⟨_, rfl⟩
  rw [← hzb] at HZ ⊢
  clear hz1 hz2 hw42 hzb HT41
  go_wp2_with fail
  refine (put_no (NoDr.nil _) 0 (.slice none 0 0)).mono ?_
  rintro e w50 ⟨rfl, hw⟩
  obtain rfl := hw.symm
  clear hw
  go_wp2_with fail
  refine (put_no HZ.out 0 (.slice none 0 0)).mono ?_
  rintro e w50 ⟨rfl, hw⟩
  obtain rfl := hw.symm
  clear hw
  go_wp2_with fail
  refine (save_no (NoDr.nil _) _).mono ?_
  rintro e w50 ⟨rfl, hw⟩
  obtain rfl := hw.symm
  clear hw
  go_wp2_with fail
  refine (save_nil (A := .disk d (kG fz) :: [.gen (hashG (.slice a 3 c) (hashesL gL)), .obj rb (.cells WC 31 (0, 0))]) (B := [.obj nb (.cells #[.int .i64 1, .string fz, .string ⟨#[]⟩, .int .i64 5] 57 (0, 0)), dr q gL g2, .gen (bytesG g30 40 gL)]) HT42.out tmpW_some).mono ?_
  rintro e w50 ⟨rfl, hw⟩
  obtain rfl := hw.symm
  clear hw
  go_wp2_with fail
  refine (drop_no HZ.out _).mono ?_
  rintro e w50 ⟨rfl, hw⟩
  obtain rfl := hw.symm
  clear hw
  go_wp2_with fail
  refine (name_no (NoDr.nil _)).mono ?_
  rintro e w50 ⟨rfl, hw⟩
  obtain rfl := hw.symm
  clear hw
  go_wp2_with fail
  refine (have_no HZ.out).mono ?_
  rintro e w43 ⟨rfl, x43⟩
  have HZ3 := Lib.hid (HZ.out.ext x43)
  have HX43 := Lib.hid (HT42.out.is_ext.trans x43)
  clear x43
  go_wp2_with fail
  refine (asked_no (NoDr.nil _)).mono ?_
  rintro e w44 ⟨rfl, x44⟩
  have HZ4 := Lib.hid (HZ3.out.ext x44)
  have HX44 := Lib.hid (HX43.out.trans x44)
  clear x44
  go_wp2_with fail
  refine (done_no HZ4.out).mono ?_
  rintro e w45 ⟨rfl, hw⟩
  obtain rfl := hw.symm
  clear hw
  go_wp2_with fail
  go_ret
  exact ⟨rfl, HX44.out⟩

-- BEGUN
set_option maxRecDepth 100000 in
theorem begun {H : Type} {enc : TypeId × Value → H} (W : World) (args : Array Value) (ds : List (DataW H)) (p : List MemPlace) (st : Start enc Rows.tempKnownRow.laid Tryz.f11 W args ds p) :
    Calls Tryz.prog 11 args W fun e W' => e = .returned (.bool true) ∧ Below W.heap.size W W' := by
  obtain ⟨⟨base, hval⟩, hA, hfit, hl, hsh⟩ := st
  rw [Tryz.params11] at hA hval hfit
  have hn : args = #[] := by
    cases h : args.toList with
    | nil => simpa using h
    | cons a l => rw [h] at hA; cases ds <;> simp [DataW.TrodAll] at hA
  subst hn
  exact walk W (env_of hsh) (sha_of hl 1 2 rfl rfl)

set_option maxRecDepth 100000 in
theorem said : Rows.TempKnownSaid :=
  OpenClaim.holds_of_wide 11 Tryz.f11 rfl rfl rfl rfl rfl rfl rfl ⟨rfl, rfl, rfl, rfl, rfl⟩ rfl rfl rfl rfl rfl named Tryz.func11 facts
    (of_decide_eq_true (by kernel_rfl)) (by unfold Func.isWrapper; first | (rw [if_pos (by decide +kernel)]; kernel_rfl) | (rw [if_neg (by decide +kernel)]; exact ⟨rfl, rfl⟩))
    (fun os started H enc _ => lifted Rows.tempKnownRow.laid (by kernel_rfl) 11 Tryz.f11 Tryz.func11 Rows.tempKnownSpec rfl (by kernel_rfl) (by kernel_rfl)
      (by rw [Tryz.params11]
          have hall : ([].all fun t => Tryz.prog.readableRec t && decide (t < Tryz.prog.types.size)) = true := by kernel_rfl
          intro t ht
          have := List.all_eq_true.1 hall t ht
          simpa using this)
      (by intro H ts ds h hl; rw [Tryz.params11] at h; subst h
          match ds, hl with
          | [], _ => rfl)
      Rows.tempKnownRow.domain os started H enc #[] (by kernel_rfl) (by kernel_rfl) (by kernel_rfl)
      (World.shaped_of_ZipB (by kernel_rfl) (by kernel_rfl)) (laidMet_laidAll _ (by kernel_rfl) (by kernel_rfl))
      begun)

theorem card : Rows.TempKnownCardSaid :=
  Claim7.holds_tied_plain_at .later [] Rows.tempKnownCard.laidKinds true Rows.tempKnownCard.stood.harness Rows.tempKnownCard.stood.looks said (fun _ h => by cases h) (by kernel_rfl) (fun _ h => by cases h) tempKnown_row_tie rfl ⟨rfl, rfl⟩ (by kernel_rfl) rfl
    (fun f fn hf hfn => by
      obtain rfl : f = 11 := Option.some.inj ((show Tryz.prog.funcNamed Rows.tempKnownRow.func = some 11 by kernel_rfl).symm.trans hf) |>.symm
      obtain rfl : fn = Tryz.f11 := (Option.some.inj (Tryz.func11.symm.trans hfn)).symm
      exact ⟨by kernel_rfl, fun j t ht => by
        rw [Tryz.params11] at ht
        have hm : t ∈ [] := by simpa using Array.mem_of_getElem? ht
        have hall : ([].all fun u => !Tryz.prog.wantsStandIn u) = true := by kernel_rfl
        exact (show Tryz.prog.wantsStandIn t = false by simpa using List.all_eq_true.1 hall t hm)⟩)
    (by kernel_rfl)
#print axioms card
end Go.Proofs.YtldppmjjgljinaaGreatDoor.lawTempKnown
