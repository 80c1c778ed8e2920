/- DiskKnown: the examples of the chapter, disks that are none, and disks at their limits: the statement DiskKnownCardSaid, with no condition of its own. -/
import Derived.Test.YtldppmjjgljinaaGreatDoorPathEnv
import Derived.Test.YtldppmjjgljinaaGreatDoorKnownW
import Derived.Test.YtldppmjjgljinaaGreatDoorDiskKnownF
namespace Go.Proofs.YtldppmjjgljinaaGreatDoor.lawDiskKnown
open Go.ChangeShapes Go.WideShapes Go.ChangeAt Go.RowKit
open Go.ChangeMaps (open_string)

set_option maxRecDepth 100000 in
set_option maxHeartbeats 16000000 in
theorem walk (w : World) (E : Env w) : Calls Tryz.prog 10 #[] w fun e w' => e = .returned (.bool true) ∧ Below w.heap.size w w' := by
  have H0 := Lib.hid (made_many (Things.start (Ext.refl w)) E)
  have HE := Lib.hid E
  have HRp := fun w1 => Lib.hid (show Calls Tryz.prog 63 #[.string ⟨#[120]⟩, .int .i64 1000] w1 (fun e w2 => e = .returned (.string (xs 1000)) ∧ Ext w1 w2) from repeat_x 1000 w1 (by decide))
  have hbig1000 : (xs 1000).size ≤ 4611686018427387904 := by rw [xs_size]; decide
  clear E
  go_enter Tryz.func10, Tryz.ntmps10
  go_wp2_with fail
  refine H0.out.mono ?_
  rintro e w0 ⟨d, rfl, h0⟩
  have HT0 := Lib.hid (show Things w w0 [.disk d k3] from h0.out)
  clear h0 H0
  have Hc1 := Lib.hid (awake_any _ (HE.out.ext HT0.out.is_ext))
  go_wp2_with fail
  refine Hc1.out.mono ?_
  rintro e w1 ⟨rfl, x1⟩
  have HT1 := Lib.hid (HT0.out.ext x1)
  clear x1 Hc1 HT0
  have Hc2 := Lib.hid (mkdir_many (A := []) (B := []) HT1.out (kr3.fit (by decide)) (HE.out.ext HT1.out.is_ext) ⟨#[97, 47, 98, 47, 99]⟩ (by decide) ne0)
  go_wp2_with fail
  refine Hc2.out.mono ?_
  rintro e w2 ⟨rfl, h2⟩
  have HT2 := Lib.hid h2
  clear h2 Hc2 HT1
  have Hc3 := Lib.hid (write_many (A := []) (B := []) HT2.out (nr0.fit (by decide)) (HE.out.ext HT2.out.is_ext) ⟨#[97]⟩ ⟨#[]⟩ 1 (by decide) (by decide) ne1)
  go_wp2_with fail
  refine Hc3.out.mono ?_
  rintro e w3 ⟨rfl, h3⟩
  have HT3 := Lib.hid h3
  clear h3 Hc3 HT2
  have Hc4 := Lib.hid (append_many (A := []) (B := []) HT3.out (nr1.fit (by decide)) (HE.out.ext HT3.out.is_ext) ⟨#[97]⟩ ⟨#[]⟩ (by decide) (by decide) ne2)
  go_wp2_with fail
  refine Hc4.out.mono ?_
  rintro e w4 ⟨rfl, h4⟩
  have HT4 := Lib.hid h4
  clear h4 Hc4 HT3
  have Hc5 := Lib.hid (rename_many (A := []) (B := []) HT4.out (nr2.fit (by decide)) (HE.out.ext HT4.out.is_ext) ⟨#[97]⟩ ⟨#[97, 47, 99]⟩ (by decide) (by decide) ne3)
  go_wp2_with fail
  refine Hc5.out.mono ?_
  rintro e w5 ⟨rfl, h5⟩
  have HT5 := Lib.hid h5
  clear h5 Hc5 HT4
  have Hc6 := Lib.hid (rename_many (A := []) (B := []) HT5.out (nr3.fit (by decide)) (HE.out.ext HT5.out.is_ext) ⟨#[97]⟩ ⟨#[100]⟩ (by decide) (by decide) ne4)
  go_wp2_with fail
  refine Hc6.out.mono ?_
  rintro e w6 ⟨rfl, h6⟩
  have HT6 := Lib.hid h6
  clear h6 Hc6 HT5
  have Hc7 := Lib.hid (list_own (A := []) (B := []) HT6.out nr4.ok (HE.out.ext HT6.out.is_ext) ⟨#[]⟩ (by decide) nq1)
  go_wp2_with fail
  refine Hc7.out.mono ?_
  rintro e w7 ⟨a1, c1, rfl, hc1, hc1', HO1, xg⟩
  have HT7 := Lib.hid (HT6.out.ext xg)
  clear xg Hc7 HT6
  have Hc8 := Lib.hid (paths_own (A := []) (B := []) HT7.out nr4.ok)
  go_wp2_with fail
  refine Hc8.out.mono ?_
  rintro e w8 ⟨a2, c2, rfl, hc2, hc2', HO2, xg⟩
  have HT8 := Lib.hid (HT7.out.ext xg)
  have HO1 := Lib.hid (HO1.out.ext xg)
  clear xg Hc8 HT7
  rw [nq2] at HO2
  obtain ⟨g1, rfl, ck1⟩ := HO1.out.get _ _ _ rfl 0 _ rfl
  obtain ⟨g2, e2, ck2⟩ := HO2.out.get _ _ _ rfl 0 _ rfl
  obtain ⟨g3, e3, ck3⟩ := HO2.out.get _ _ _ rfl 1 _ rfl
  subst e2
  cases e3
  clear HO1 HO2
  have Hc9 := Lib.hid (used_many (A := []) (B := []) HT8.out)
  rw [show usedL nd1.live = 130 from by kernel_rfl] at Hc9
  go_wp2_with fail
  refine Hc9.out.mono ?_
  rintro e w9 ⟨rfl, hw⟩
  obtain rfl := hw.symm
  clear hw Hc9
  have Hc10 := Lib.hid (pending_many (A := []) (B := []) HT8.out (nr4.fit (by decide)))
  rw [show nd1.log.length = 4 from by kernel_rfl] at Hc10
  go_wp2_with fail
  refine Hc10.out.mono ?_
  rintro e w10 ⟨rfl, hw⟩
  obtain rfl := hw.symm
  clear hw Hc10
  clear ck1 ck2 ck3
  have Hc11 := Lib.hid (sync_many (A := []) (B := []) HT8.out (nr4.fit (by decide)) ne5)
  go_wp2_with fail
  refine Hc11.out.mono ?_
  rintro e w11 ⟨rfl, h11⟩
  have HT11 := Lib.hid h11
  clear h11 Hc11 HT8
  have Hc12 := Lib.hid (write_many (A := []) (B := []) HT11.out (nr5.fit (by decide)) (HE.out.ext HT11.out.is_ext) ⟨#[100, 47, 98]⟩ ⟨#[108, 111, 110, 103]⟩ 2 (by decide) (by decide) ne6)
  go_wp2_with fail
  refine Hc12.out.mono ?_
  rintro e w12 ⟨rfl, h12⟩
  have HT12 := Lib.hid h12
  clear h12 Hc12 HT11
  have Hc13 := Lib.hid (crash_own (A := []) (B := []) HT12.out (((Ext.refl _).alloc (.cells #[.int .u8 4] 5 (0, 0)))) (nr6.fit (by decide)) HE.out (.slice (some ⟨w12.heap.size, 0, none⟩) 1 1) [4] (fun M hM => picks_one hM) ne7)
  go_wp2_with fail
  refine Hc13.out.mono ?_
  rintro e w13 ⟨rfl, h13⟩
  have HT13 := Lib.hid h13
  clear h13 Hc13 HT12
  have Hc14 := Lib.hid (is_many (A := []) (B := []) HT13.out (HE.out.ext HT13.out.is_ext) ⟨#[100, 47, 98]⟩ ⟨#[108, 111]⟩ 2 (by decide) nq3)
  go_wp2_with fail
  refine Hc14.out.mono ?_
  rintro e w14 ⟨rfl, x14⟩
  have HT14 := Lib.hid (HT13.out.ext x14)
  clear x14 Hc14 HT13
  have Hc15 := Lib.hid (pending_many (A := []) (B := []) HT14.out (nr7.fit (by decide)))
  rw [show nd4.log.length = 0 from by kernel_rfl] at Hc15
  go_wp2_with fail
  refine Hc15.out.mono ?_
  rintro e w15 ⟨rfl, hw⟩
  obtain rfl := hw.symm
  clear hw Hc15
  have Hc16 := HRp w14
  go_wp2_with fail
  refine Hc16.out.mono ?_
  rintro e w16 ⟨rfl, x16⟩
  have HT16 := Lib.hid (HT14.out.ext x16)
  clear x16 Hc16 HT14
  have Hc17 := Lib.hid (write_many (A := []) (B := []) HT16.out (nr7.fit (by decide)) (HE.out.ext HT16.out.is_ext) ⟨#[101]⟩ (xs 1000) 1 (by decide) hbig1000 ne8)
  go_wp2_with fail
  refine Hc17.out.mono ?_
  rintro e w17 ⟨rfl, h17⟩
  have HT17 := Lib.hid h17
  clear h17 Hc17 HT16
  have Hc18 := Lib.hid (write_many (A := []) (B := []) HT17.out (nr8.fit (by decide)) (HE.out.ext HT17.out.is_ext) ⟨#[]⟩ ⟨#[]⟩ 1 (by decide) (by decide) ne9)
  go_wp2_with fail
  refine Hc18.out.mono ?_
  rintro e w18 ⟨rfl, h18⟩
  have HT18 := Lib.hid h18
  clear h18 Hc18 HT17
  have Hc19 := Lib.hid (write_many (A := []) (B := []) HT18.out (nr9.fit (by decide)) (HE.out.ext HT18.out.is_ext) ⟨#[101]⟩ ⟨#[]⟩ (-1) (by decide) (by decide) ne10)
  go_wp2_with fail
  refine Hc19.out.mono ?_
  rintro e w19 ⟨rfl, h19⟩
  have HT19 := Lib.hid h19
  clear h19 Hc19 HT18
  have Hc20 := Lib.hid (link_many (A := []) (B := []) HT19.out (nr10.fit (by decide)) (HE.out.ext HT19.out.is_ext) ⟨#[101]⟩ ⟨#[]⟩ 1 (by decide) (by decide) ne11)
  go_wp2_with fail
  refine Hc20.out.mono ?_
  rintro e w20 ⟨rfl, h20⟩
  have HT20 := Lib.hid h20
  clear h20 Hc20 HT19
  have Hc21 := Lib.hid (remove_many (A := []) (B := []) HT20.out (nr11.fit (by decide)) (HE.out.ext HT20.out.is_ext) ⟨#[101]⟩ (by decide) ne12)
  go_wp2_with fail
  refine Hc21.out.mono ?_
  rintro e w21 ⟨rfl, h21⟩
  have HT21 := Lib.hid h21
  clear h21 Hc21 HT20
  have Hc22 := Lib.hid (link_many (A := []) (B := []) HT21.out (nr12.fit (by decide)) (HE.out.ext HT21.out.is_ext) ⟨#[101]⟩ ⟨#[100, 47, 98]⟩ 3 (by decide) (by decide) ne13)
  go_wp2_with fail
  refine Hc22.out.mono ?_
  rintro e w22 ⟨rfl, h22⟩
  have HT22 := Lib.hid h22
  clear h22 Hc22 HT21
  have Hc23 := Lib.hid (write_many (A := []) (B := []) HT22.out (nr13.fit (by decide)) (HE.out.ext HT22.out.is_ext) ⟨#[101]⟩ ⟨#[]⟩ 1 (by decide) (by decide) ne14)
  go_wp2_with fail
  refine Hc23.out.mono ?_
  rintro e w23 ⟨rfl, h23⟩
  have HT23 := Lib.hid h23
  clear h23 Hc23 HT22
  have Hc24 := Lib.hid (append_many (A := []) (B := []) HT23.out (nr14.fit (by decide)) (HE.out.ext HT23.out.is_ext) ⟨#[101]⟩ ⟨#[]⟩ (by decide) (by decide) ne15)
  go_wp2_with fail
  refine Hc24.out.mono ?_
  rintro e w24 ⟨rfl, h24⟩
  have HT24 := Lib.hid h24
  clear h24 Hc24 HT23
  have Hc25 := Lib.hid (rename_many (A := []) (B := []) HT24.out (nr15.fit (by decide)) (HE.out.ext HT24.out.is_ext) ⟨#[100]⟩ ⟨#[101]⟩ (by decide) (by decide) ne16)
  go_wp2_with fail
  refine Hc25.out.mono ?_
  rintro e w25 ⟨rfl, h25⟩
  have HT25 := Lib.hid h25
  clear h25 Hc25 HT24
  have Hc26 := Lib.hid (rename_many (A := []) (B := []) HT25.out (nr16.fit (by decide)) (HE.out.ext HT25.out.is_ext) ⟨#[100, 47, 98]⟩ ⟨#[101]⟩ (by decide) (by decide) ne17)
  go_wp2_with fail
  refine Hc26.out.mono ?_
  rintro e w26 ⟨rfl, h26⟩
  have HT26 := Lib.hid h26
  clear h26 Hc26 HT25
  have Hc27 := Lib.hid (is_many (A := []) (B := []) HT26.out (HE.out.ext HT26.out.is_ext) ⟨#[101]⟩ ⟨#[108, 111]⟩ 2 (by decide) nq4)
  go_wp2_with fail
  refine Hc27.out.mono ?_
  rintro e w27 ⟨rfl, x27⟩
  have HT27 := Lib.hid (HT26.out.ext x27)
  clear x27 Hc27 HT26
  have HTz := Lib.hid (Things.add (t := .obj w27.heap.size (.cells #[.pointer none, .pointer none, .slice none 0 0, .bool false, .int .i64 0] 109 (0, 0))) (M := []) (I := [w27.heap.size]) HT27.out ((Ext.refl w27).alloc (.cells #[.pointer none, .pointer none, .slice none 0 0, .bool false, .int .i64 0] 109 (0, 0))) ⟨rfl, rfl, heap_alloc_new _ _⟩ (fun _ h => by cases h) (fun b hb => by rw [List.mem_singleton.1 hb]; exact Nat.le_refl _))
  have HTz := Lib.hid (show Things _ _ [.disk d nd6, .obj w27.heap.size (.cells #[.pointer none, .pointer none, .slice none 0 0, .bool false, .int .i64 0] 109 (0, 0))] from HTz.out)
  have HNo := fun w1 => Lib.hid (show NotDk w1 (.pointer none) from .inl rfl)
  clear HT27
  have Hc28 := Lib.hid (read_not (HNo (w27.alloc (.cells #[.pointer none, .pointer none, .slice none 0 0, .bool false, .int .i64 0] 109 (0, 0)))).out ⟨#[97]⟩)
  simp only [nv, nd0] at Hc28
  go_wp2_with fail
  refine Hc28.out.mono ?_
  rintro e w28 ⟨rfl, x28⟩
  have HT28 := Lib.hid (HTz.out.ext x28)
  clear x28 Hc28 HTz
  have HTy := Lib.hid (HT28.out.ext ((Ext.refl w28).alloc (.cells #[.int .i64 0, .string ⟨#[]⟩, .string ⟨#[]⟩, .int .i64 0] 57 (0, 0))))
  clear HT28
  have Hc29 := Lib.hid (list_not (zero_not (A := [.disk d nd6]) (B := []) HTy.out).1 ⟨#[]⟩)
  go_wp2_with fail
  refine Hc29.out.mono ?_
  rintro e w29 ⟨rfl, x29⟩
  have HT29 := Lib.hid (HTy.out.ext x29)
  clear x29 Hc29 HTy
  have Hc30 := Lib.hid (New_bad 1023 w29 (by decide))
  go_wp2_with fail
  refine Hc30.out.mono ?_
  rintro e w30 ⟨rfl, hw⟩
  obtain rfl := hw.symm
  clear hw Hc30
  have Hc31 := Lib.hid (write_not (HNo w29).out ⟨#[97]⟩ ⟨#[]⟩ 1)
  go_wp2_with fail
  refine Hc31.out.mono ?_
  rintro e w31 ⟨rfl, x31⟩
  have HT31 := Lib.hid (HT29.out.ext x31)
  clear x31 Hc31 HT29
  have Hc32 := Lib.hid (mkdir_not (zero_not (A := [.disk d nd6]) (B := []) HT31.out).1 ⟨#[97]⟩)
  go_wp2_with fail
  refine Hc32.out.mono ?_
  rintro e w32 ⟨rfl, x32⟩
  have HT32 := Lib.hid (HT31.out.ext x32)
  clear x32 Hc32 HT31
  have Hc33 := Lib.hid (sync_not (HNo w32).out)
  go_wp2_with fail
  refine Hc33.out.mono ?_
  rintro e w33 ⟨rfl, hw⟩
  obtain rfl := hw.symm
  clear hw Hc33
  have Hc34 := Lib.hid (crash_not (zero_not (A := [.disk d nd6]) (B := []) HT32.out).1 (.slice none 0 0))
  go_wp2_with fail
  refine Hc34.out.mono ?_
  rintro e w34 ⟨rfl, hw⟩
  obtain rfl := hw.symm
  clear hw Hc34
  have Hc35 := Lib.hid (copy_not (HNo w32).out)
  go_wp2_with fail
  refine Hc35.out.mono ?_
  rintro e w35 ⟨rfl, hw⟩
  obtain rfl := hw.symm
  clear hw Hc35
  have Hc36 := Lib.hid (copy_not (zero_not (A := [.disk d nd6]) (B := []) HT32.out).1)
  go_wp2_with fail
  refine Hc36.out.mono ?_
  rintro e w36 ⟨rfl, hw⟩
  obtain rfl := hw.symm
  clear hw Hc36
  have Hc37 := Lib.hid (used_not (HNo w32).out)
  go_wp2_with fail
  refine Hc37.out.mono ?_
  rintro e w37 ⟨rfl, hw⟩
  obtain rfl := hw.symm
  clear hw Hc37
  have Hc38 := Lib.hid (room_not (HNo w32).out)
  go_wp2_with fail
  refine Hc38.out.mono ?_
  rintro e w38 ⟨rfl, hw⟩
  obtain rfl := hw.symm
  clear hw Hc38
  have Hc39 := Lib.hid (pending_not (HNo w32).out)
  go_wp2_with fail
  refine Hc39.out.mono ?_
  rintro e w39 ⟨rfl, hw⟩
  obtain rfl := hw.symm
  clear hw Hc39
  have Hc40 := Lib.hid (paths_not (HNo w32).out)
  go_wp2_with fail
  refine Hc40.out.mono ?_
  rintro e w40 ⟨rfl, hw⟩
  obtain rfl := hw.symm
  clear hw Hc40
  have Hc41 := Lib.hid (fuse_many (A := []) (B := [.obj w27.heap.size (.cells #[.pointer none, .pointer none, .slice none 0 0, .bool false, .int .i64 0] 109 (0, 0))]) HT32.out (-1) ne18)
  go_wp2_with fail
  refine Hc41.out.mono ?_
  rintro e w41 ⟨rfl, h41⟩
  have HT41 := Lib.hid h41
  clear h41 Hc41 HT32
  have Hc42 := Lib.hid (fuse_many (A := []) (B := [.obj w27.heap.size (.cells #[.pointer none, .pointer none, .slice none 0 0, .bool false, .int .i64 0] 109 (0, 0))]) HT41.out 1 ne19)
  go_wp2_with fail
  refine Hc42.out.mono ?_
  rintro e w42 ⟨rfl, h42⟩
  have HT42 := Lib.hid h42
  clear h42 Hc42 HT41
  have Hc43 := Lib.hid (off_many (A := []) (B := [.obj w27.heap.size (.cells #[.pointer none, .pointer none, .slice none 0 0, .bool false, .int .i64 0] 109 (0, 0))]) HT42.out)
  rw [show nd7.off = false from by kernel_rfl] at Hc43
  go_wp2_with fail
  refine Hc43.out.mono ?_
  rintro e w43 ⟨rfl, hw⟩
  obtain rfl := hw.symm
  clear hw Hc43
  have Hc44 := Lib.hid (mkdir_many (A := []) (B := [.obj w27.heap.size (.cells #[.pointer none, .pointer none, .slice none 0 0, .bool false, .int .i64 0] 109 (0, 0))]) HT42.out (nr19.fit (by decide)) (HE.out.ext HT42.out.is_ext) ⟨#[103]⟩ (by decide) ne20)
  go_wp2_with fail
  refine Hc44.out.mono ?_
  rintro e w44 ⟨rfl, h44⟩
  have HT44 := Lib.hid h44
  clear h44 Hc44 HT42
  have Hc45 := Lib.hid (off_many (A := []) (B := [.obj w27.heap.size (.cells #[.pointer none, .pointer none, .slice none 0 0, .bool false, .int .i64 0] 109 (0, 0))]) HT44.out)
  rw [show nd8.off = true from by kernel_rfl] at Hc45
  go_wp2_with fail
  refine Hc45.out.mono ?_
  rintro e w45 ⟨rfl, hw⟩
  obtain rfl := hw.symm
  clear hw Hc45
  have Hc46 := Lib.hid (mkdir_many (A := []) (B := [.obj w27.heap.size (.cells #[.pointer none, .pointer none, .slice none 0 0, .bool false, .int .i64 0] 109 (0, 0))]) HT44.out (nr20.fit (by decide)) (HE.out.ext HT44.out.is_ext) ⟨#[104]⟩ (by decide) ne21)
  go_wp2_with fail
  refine Hc46.out.mono ?_
  rintro e w46 ⟨rfl, h46⟩
  have HT46 := Lib.hid h46
  clear h46 Hc46 HT44
  have Hc47 := Lib.hid (mkdir_many (A := []) (B := [.obj w27.heap.size (.cells #[.pointer none, .pointer none, .slice none 0 0, .bool false, .int .i64 0] 109 (0, 0))]) HT46.out (nr21.fit (by decide)) (HE.out.ext HT46.out.is_ext) ⟨#[47]⟩ (by decide) ne22)
  go_wp2_with fail
  refine Hc47.out.mono ?_
  rintro e w47 ⟨rfl, h47⟩
  have HT47 := Lib.hid h47
  clear h47 Hc47 HT46
  have Hc48 := Lib.hid (sync_many (A := []) (B := [.obj w27.heap.size (.cells #[.pointer none, .pointer none, .slice none 0 0, .bool false, .int .i64 0] 109 (0, 0))]) HT47.out (nr22.fit (by decide)) ne23)
  go_wp2_with fail
  refine Hc48.out.mono ?_
  rintro e w48 ⟨rfl, h48⟩
  have HT48 := Lib.hid h48
  clear h48 Hc48 HT47
  have Hc49 := Lib.hid (fuse_many (A := []) (B := [.obj w27.heap.size (.cells #[.pointer none, .pointer none, .slice none 0 0, .bool false, .int .i64 0] 109 (0, 0))]) HT48.out 5 ne24)
  go_wp2_with fail
  refine Hc49.out.mono ?_
  rintro e w49 ⟨rfl, h49⟩
  have HT49 := Lib.hid h49
  clear h49 Hc49 HT48
  have Hc50 := Lib.hid (copy_many (A := []) (B := [.obj w27.heap.size (.cells #[.pointer none, .pointer none, .slice none 0 0, .bool false, .int .i64 0] 109 (0, 0))]) HT49.out (nr24.fit (by decide)))
  go_wp2_with fail
  refine Hc50.out.mono ?_
  rintro e w50 ⟨c, rfl, h50⟩
  have HT50 := Lib.hid (show Things _ w50 [.disk d nd8, .obj w27.heap.size (.cells #[.pointer none, .pointer none, .slice none 0 0, .bool false, .int .i64 0] 109 (0, 0)), .disk c nd8] from h50)
  clear h50 Hc50 HT49
  have Hc51 := Lib.hid (off_many (A := [.disk d nd8, .obj w27.heap.size (.cells #[.pointer none, .pointer none, .slice none 0 0, .bool false, .int .i64 0] 109 (0, 0))]) (B := []) HT50.out)
  rw [show nd8.off = true from by kernel_rfl] at Hc51
  go_wp2_with fail
  refine Hc51.out.mono ?_
  rintro e w51 ⟨rfl, hw⟩
  obtain rfl := hw.symm
  clear hw Hc51
  have Hc52 := Lib.hid (crash_own (A := []) (B := [.obj w27.heap.size (.cells #[.pointer none, .pointer none, .slice none 0 0, .bool false, .int .i64 0] 109 (0, 0)), .disk c nd8]) HT50.out (((Ext.refl _).alloc (.cells #[.int .u8 1] 5 (0, 0)))) (nr24.fit (by decide)) HE.out (.slice (some ⟨w50.heap.size, 0, none⟩) 1 1) [1] (fun M hM => picks_one hM) ne25)
  go_wp2_with fail
  refine Hc52.out.mono ?_
  rintro e w52 ⟨rfl, h52⟩
  have HT52 := Lib.hid h52
  clear h52 Hc52 HT50
  have Hc53 := Lib.hid (off_many (A := []) (B := [.obj w27.heap.size (.cells #[.pointer none, .pointer none, .slice none 0 0, .bool false, .int .i64 0] 109 (0, 0)), .disk c nd8]) HT52.out)
  rw [show nd9.off = false from by kernel_rfl] at Hc53
  go_wp2_with fail
  refine Hc53.out.mono ?_
  rintro e w53 ⟨rfl, hw⟩
  obtain rfl := hw.symm
  clear hw Hc53
  have Hc54 := Lib.hid (mkdir_many (A := []) (B := [.obj w27.heap.size (.cells #[.pointer none, .pointer none, .slice none 0 0, .bool false, .int .i64 0] 109 (0, 0)), .disk c nd8]) HT52.out (nr25.fit (by decide)) (HE.out.ext HT52.out.is_ext) ⟨#[104]⟩ (by decide) ne26)
  go_wp2_with fail
  refine Hc54.out.mono ?_
  rintro e w54 ⟨rfl, h54⟩
  have HT54 := Lib.hid h54
  clear h54 Hc54 HT52
  have Hc55 := Lib.hid (fuse_many (A := []) (B := [.obj w27.heap.size (.cells #[.pointer none, .pointer none, .slice none 0 0, .bool false, .int .i64 0] 109 (0, 0)), .disk c nd8]) HT54.out 0 ne27)
  go_wp2_with fail
  refine Hc55.out.mono ?_
  rintro e w55 ⟨rfl, h55⟩
  have HT55 := Lib.hid h55
  clear h55 Hc55 HT54
  have Hc56 := Lib.hid (off_many (A := []) (B := [.obj w27.heap.size (.cells #[.pointer none, .pointer none, .slice none 0 0, .bool false, .int .i64 0] 109 (0, 0)), .disk c nd8]) HT55.out)
  rw [show nd11.off = true from by kernel_rfl] at Hc56
  go_wp2_with fail
  refine Hc56.out.mono ?_
  rintro e w56 ⟨rfl, hw⟩
  obtain rfl := hw.symm
  clear hw Hc56
  have Hc57 := Lib.hid (limits_any _ (HE.out.ext HT55.out.is_ext))
  go_wp2_with fail
  refine Hc57.out.mono ?_
  rintro e w57 ⟨rfl, x57⟩
  have HT57 := Lib.hid (HT55.out.ext x57)
  clear x57 Hc57 HT55
  have Hc58 := Lib.hid (room_many (A := []) (B := [.obj w27.heap.size (.cells #[.pointer none, .pointer none, .slice none 0 0, .bool false, .int .i64 0] 109 (0, 0)), .disk c nd8]) HT57.out)
  rw [show nd11.room = 1024 from by kernel_rfl] at Hc58
  go_wp2_with fail
  refine Hc58.out.mono ?_
  rintro e w58 ⟨rfl, hw⟩
  obtain rfl := hw.symm
  clear hw Hc58
  have Hc59 := Lib.hid (fuse_not (HNo w57).out 1)
  go_wp2_with fail
  refine Hc59.out.mono ?_
  rintro e w59 ⟨rfl, hw⟩
  obtain rfl := hw.symm
  clear hw Hc59
  have Hc60 := Lib.hid (doff_zero _ _ (zero_not (A := [.disk d nd11]) (B := [.disk c nd8]) HT57.out).2)
  go_wp2_with fail
  refine Hc60.out.mono ?_
  rintro e w60 ⟨rfl, hw⟩
  obtain rfl := hw.symm
  clear hw Hc60
  go_wp2_with fail
  go_ret
  exact ⟨rfl, HT57.out.is_ext⟩

-- BEGUN
set_option maxRecDepth 100000 in
theorem begun {H : Type} {enc : TypeId × Value → H} (W : World) (args : Array Value) (ds : List (DataW H)) (p : List MemPlace) (st : Start enc Rows.diskKnownRow.laid Tryz.f10 W args ds p) :
    Calls Tryz.prog 10 args W fun e W' => e = .returned (.bool true) ∧ Below W.heap.size W W' := by
  obtain ⟨⟨base, hval⟩, hA, hfit, hl, hsh⟩ := st
  rw [Tryz.params10] at hA hval hfit
  have hn : args = #[] := by
    cases h : args.toList with
    | nil => simpa using h
    | cons a l => rw [h] at hA; cases ds <;> simp [DataW.TrodAll] at hA
  subst hn
  exact walk W (env_of hsh)

set_option maxRecDepth 100000 in
theorem said : Rows.DiskKnownSaid :=
  OpenClaim.holds_of_wide 10 Tryz.f10 rfl rfl rfl rfl rfl rfl rfl ⟨rfl, rfl, rfl, rfl, rfl⟩ rfl rfl rfl rfl rfl named Tryz.func10 facts
    (of_decide_eq_true (by kernel_rfl)) (by unfold Func.isWrapper; first | (rw [if_pos (by decide +kernel)]; kernel_rfl) | (rw [if_neg (by decide +kernel)]; exact ⟨rfl, rfl⟩))
    (fun os started H enc _ => lifted Rows.diskKnownRow.laid (by kernel_rfl) 10 Tryz.f10 Tryz.func10 Rows.diskKnownSpec rfl (by kernel_rfl) (by kernel_rfl)
      (by rw [Tryz.params10]
          have hall : ([].all fun t => Tryz.prog.readableRec t && decide (t < Tryz.prog.types.size)) = true := by kernel_rfl
          intro t ht
          have := List.all_eq_true.1 hall t ht
          simpa using this)
      (by intro H ts ds h hl; rw [Tryz.params10] at h; subst h
          match ds, hl with
          | [], _ => rfl)
      Rows.diskKnownRow.domain os started H enc #[] (by kernel_rfl) (by kernel_rfl) (by kernel_rfl)
      (World.shaped_of_ZipB (by kernel_rfl) (by kernel_rfl)) (laidMet_laidAll _ (by kernel_rfl) (by kernel_rfl))
      begun)

theorem card : Rows.DiskKnownCardSaid :=
  Claim7.holds_tied_plain_at .later [] Rows.diskKnownCard.laidKinds true Rows.diskKnownCard.stood.harness Rows.diskKnownCard.stood.looks said (fun _ h => by cases h) (by kernel_rfl) (fun _ h => by cases h) diskKnown_row_tie rfl ⟨rfl, rfl⟩ (by kernel_rfl) rfl
    (fun f fn hf hfn => by
      obtain rfl : f = 10 := Option.some.inj ((show Tryz.prog.funcNamed Rows.diskKnownRow.func = some 10 by kernel_rfl).symm.trans hf) |>.symm
      obtain rfl : fn = Tryz.f10 := (Option.some.inj (Tryz.func10.symm.trans hfn)).symm
      exact ⟨by kernel_rfl, fun j t ht => by
        rw [Tryz.params10] at ht
        have hm : t ∈ [] := by simpa using Array.mem_of_getElem? ht
        have hall : ([].all fun u => !Tryz.prog.wantsStandIn u) = true := by kernel_rfl
        exact (show Tryz.prog.wantsStandIn t = false by simpa using List.all_eq_true.1 hall t hm)⟩)
    (by kernel_rfl)
#print axioms card
end Go.Proofs.YtldppmjjgljinaaGreatDoor.lawDiskKnown
