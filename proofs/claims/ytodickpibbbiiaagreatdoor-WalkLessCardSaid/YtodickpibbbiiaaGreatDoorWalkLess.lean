/- WalkLess: what is found with patterns is found without them, the same, and what is found without them alone is ignored, or lies within what is: whatever is put on a disk, whatever root, whatever files of patterns: the statement WalkLessCardSaid, with no condition of its own. -/
import Derived.Test.YtodickpibbbiiaaGreatDoorWlA1
import Derived.Test.YtodickpibbbiiaaGreatDoorWlB1
import Derived.Test.YtodickpibbbiiaaGreatDoorWlF1

import Derived.Test.YtodickpibbbiiaaGreatDoorWlF2

import Derived.Test.YtodickpibbbiiaaGreatDoorWalkLessF
import Derived.Test.YtodickpibbbiiaaGreatDoorWalkLessG
namespace Go.Proofs.YtodickpibbbiiaaGreatDoor.lawWalkLess
open Go.ChangeShapes Go.WideShapes Go.ChangeAt Go.RowKit
open Go.ChangeMaps (open_string)

/-- An item's cells that are looked at. -/
structure ItCells (w : World) (g o : Nat) (x : ByteArray × Nd) : Prop where
  c0 : w.cell? ⟨g, o, none⟩ = some (.string x.1)
  c1 : w.cell? ⟨g, o + 1, none⟩ = some (.int .i64 x.2.kind)
  c3 : w.cell? ⟨g, o + 3, none⟩ = some (.int .i64 (if x.2.kind = 1 then (x.2.data.size : Nat) else (0 : Nat) : Nat))
  c4 : w.cell? ⟨g, o + 4, none⟩ = some (.int .i64 x.2.time)
  c24 : w.cell? ⟨g, o + 24, none⟩ = some (.string x.2.target)
theorem item_get (x : ByteArray × Nd) (u : Value) : (itemU x u)[0]? = some (.string x.1) ∧ (itemU x u)[1]? = some (.int .i64 x.2.kind) ∧ (itemU x u)[3]? = some (.int .i64 ((if x.2.kind = 1 then x.2.data.size else 0 : Nat) : Int)) ∧ (itemU x u)[4]? = some (.int .i64 x.2.time) ∧ (itemU x u)[24]? = some (.string x.2.target) := by
  unfold itemU
  split
  · exact ⟨rfl, rfl, rfl, rfl, rfl⟩
  · exact ⟨rfl, rfl, rfl, rfl, rfl⟩
theorem ItCells.of {w : World} {g o : Nat} {x : ByteArray × Nd} {u : Value} (h : ∀ (j : Nat) y, (itemU x u)[j]? = some y → w.cell? ⟨g, o + j, none⟩ = some y) : ItCells w g o x := by
  obtain ⟨h0, h1, h3, h4, h5⟩ := item_get x u
  exact ⟨h 0 _ h0, h 1 _ h1, (h 3 _ h3).trans (by congr 2), h 4 _ h4, h 24 _ h5⟩

set_option maxRecDepth 100000 in
set_option maxHeartbeats 8000000 in
theorem walk (v vf : Value) (root : ByteArray) (l : List PutR) (fs : List (ByteArray × ByteArray)) (w : World) (hA : PutsIn w v l) (hF : FilesIn w vf fs) (hfs : ∀ f ∈ fs, f.1.size ≤ reach ∧ f.2.size ≤ reach) (hroot : root.size ≤ reach) (E : Env w) (T : ShaTabs w) :
    Calls Tryz.prog 3 #[v, .string root, vf] w fun e w' => e = .returned (.bool true) ∧ Below w.heap.size w w' := by
  have HLg := Lib.hid (plarge_any hA hF hfs)
  have HAw := Lib.hid (fun w1 (x : Ext w w1) => awake17_any w1 (E.ext x) (T.ext x))
  have HE := Lib.hid E
  have HT := Lib.hid T
  have HA := Lib.hid hA
  have HFi := Lib.hid hF
  obtain ⟨va, vc, rfl, _⟩ := hA.shape
  obtain ⟨fa, fc, rfl, _⟩ := hF
  unfold reach at hroot
  clear hA E T hfs
  cases hlg : largeP l fs with
  | true =>
    rw [hlg] at HLg
    go_enter Tryz.func3, Tryz.ntmps3
    go_wp2_with fail
    refine HLg.out.mono ?_
    rintro e w1 ⟨rfl, x1⟩
    have HX1 := Lib.hid x1
    clear x1
    go_wp2_with fail
    refine (HAw.out _ HX1.out).mono ?_
    rintro e w2 ⟨rfl, x2⟩
    have HX2 := Lib.hid (HX1.out.trans x2)
    clear x2
    go_wp2_with fail
    go_ret
    exact ⟨rfl, HX2.out⟩
  | false =>
    rw [hlg] at HLg
    by_cases hr4 : 400 < root.size
    · have g1 : decide ((400 : Int) < (root.size : Int)) = true := by rw [decide_eq_true_eq]; omega
      go_enter Tryz.func3, Tryz.ntmps3
      go_wp2_with fail
      refine HLg.out.mono ?_
      rintro e w1 ⟨rfl, x1⟩
      have HX1 := Lib.hid x1
      clear x1
      go_wp2_with fail
      refine (HAw.out _ HX1.out).mono ?_
      rintro e w2 ⟨rfl, x2⟩
      have HX2 := Lib.hid (HX1.out.trans x2)
      clear x2
      go_wp2_with fail
      go_ret
      exact ⟨rfl, HX2.out⟩
    · have g1 : decide ((400 : Int) < (root.size : Int)) = false := by rw [decide_eq_false_iff_not]; omega
      obtain ⟨hl40, _, hls, hfl⟩ := largeP_not hlg
      have HFL := Lib.hid hfl
      have HM := Lib.hid (fun w1 (x : Ext w w1) => made_any (Things.start x) HE.out HA.out hl40 hls)
      have HR := Lib.hid ((RunF.made l).mono (show l.length * 201 ≤ 8040 by omega))
      obtain ⟨D, hD⟩ : ∃ D, D = madeD l := ⟨_, rfl⟩
      rw [← hD] at HM HR
      clear hD hlg hls hfl hl40
      go_enter Tryz.func3, Tryz.ntmps3
      go_wp2_with fail
      refine HLg.out.mono ?_
      rintro e w1 ⟨rfl, x1⟩
      have HX1 := Lib.hid x1
      clear x1
      go_wp2_with fail
      refine (HM.out _ HX1.out).mono ?_
      rintro e w2 ⟨d, r, rfl, h2⟩
      have HT2 := Lib.hid (show Things w w2 [.disk d D, .ref r D] from h2.out)
      have HX2 := Lib.hid HT2.out.is_ext
      clear h2 HM
      go_wp2_with fail
      refine (parse17_any (HFi.out.ext HX2.out) HFL.out (HE.out.ext HX2.out)).mono ?_
      rintro e w3 ⟨lv, rfl, h3⟩
      have H3 := h3
      have HX3 := Lib.hid (HX2.out.trans h3.out.1)
      clear h3
      generalize patR (parseL (fsL fs) (⟨#[105]⟩ : ByteArray).toList) = ig at *
      generalize patE (parseL (fsL fs) (⟨#[105]⟩ : ByteArray).toList) = er at *
      have HTd := Lib.hid (eachL_tidy HR.out.run.ok root)
      have HLI := Lib.hid (less_items ig HTd.out)
      have HLG := Lib.hid (fun x => @less_ign ig _ HTd.out x)
      have HNI := Lib.hid (none_ign HTd.out)
      have HEL := Lib.hid (eachL_le D root)
      have HLV := Lib.hid (live_few HR.out.run)
      have HW1 := Lib.hid (wcall_any (A := []) (B := [.ref r D]) (HT2.out.ext H3.out.1) HR.out (by decide) (HE.out.ext HX3.out) (HT.out.ext HX3.out) root (by omega) H3.out.2)
      have HW2 := Lib.hid (fun w4 (x : Ext w3 w4) => wcall_any (A := []) (B := [.ref r D]) ((HT2.out.ext H3.out.1).ext x) HR.out (by decide) (HE.out.ext (HX3.out.trans x)) (HT.out.ext (HX3.out.trans x)) root (by omega) (PatAs.nil w4))
      have HIY := Lib.hid (show ∀ x ∈ (walkS (fun _ => false) (eachL D root)).items, x.1.size ≤ 160 from fun x hx => by
        rw [(walkS_is _ HTd.out).items] at hx
        exact mayB_size (HTd.out.may x (List.mem_filter.1 hx).1))
      have HIG := Lib.hid (show ∀ q ∈ (walkS ig (eachL D root)).ign, q.size ≤ 160 from fun q hq => by
        rw [(walkS_is _ HTd.out).ign] at hq
        obtain ⟨x, hx, rfl⟩ := List.mem_map.1 hq
        exact mayB_size (HTd.out.may x (List.mem_filter.1 hx).1))
      have HLY := Lib.hid (show (walkS (fun _ => false) (eachL D root)).items.length ≤ 16384 from by
        have h1 := walkS_total (fun _ => false) (eachL D root)
        unfold WSt.total at h1
        have := HEL.out
        have := HLV.out
        omega)
      have HLGn := Lib.hid (show (walkS ig (eachL D root)).ign.length ≤ 16384 from by
        have h1 := walkS_total ig (eachL D root)
        unfold WSt.total at h1
        have := HEL.out
        have := HLV.out
        omega)
      have HSo := Lib.hid (show Sorted (walkS (fun _ => false) (eachL D root)).items from by
        rw [(walkS_is _ HTd.out).items]
        exact List.Pairwise.filter _ HTd.out.sorted)
      generalize foundB2 ig (eachL D root) = fB at *
      generalize walkS ig (eachL D root) = SX at *
      generalize walkS (fun _ => false) (eachL D root) = SY at *
      generalize rootE D.live root = re at *
      clear HEL HLV HTd
      go_wp2_with fail
      refine HW1.out.mono ?_
      rintro e w4 ⟨x0, x1, x2, x3, rfl, h4⟩
      have H4 := h4
      have HX4 := Lib.hid (HX3.out.trans h4.out.2.2.2.2)
      obtain ⟨a0, c0, rfl, hq1, hq2, hxg⟩ := h4.out.1
      obtain ⟨⟨a1, c1, rfl, _⟩, _⟩ := h4.out.2.1
      obtain ⟨⟨a2, c2, rfl, hs1, hs2⟩, _⟩ := h4.out.2.2.1
      obtain ⟨⟨a3, c3, rfl, _⟩, _⟩ := h4.out.2.2.2.1
      have HXG := Lib.hid hxg
      have HBX := Lib.hid (block_alloc_new w4 (.cells #[.slice a0 SX.items.length c0, .slice a1 SX.temps.length c1, .slice a2 SX.ign.length c2, .slice a3 SX.bad.length c3] 37 (0, 0)))
      have X5 := Lib.hid ((Ext.refl w4).alloc (.cells #[.slice a0 SX.items.length c0, .slice a1 SX.temps.length c1, .slice a2 SX.ign.length c2, .slice a3 SX.bad.length c3] 37 (0, 0)))
      have HW3 := Lib.hid (HW2.out _ (H4.out.2.2.2.2.trans X5.out))
      clear h4 hxg HW1 HW2
      go_wp2_with fail
      refine HW3.out.mono ?_
      rintro e w6 ⟨y0, y1, y2, y3, rfl, h6⟩
      obtain ⟨b0, d0, rfl, hq3, hq4, hyg⟩ := h6.out.1
      obtain ⟨⟨b1, d1, rfl, _⟩, _⟩ := h6.out.2.1
      obtain ⟨⟨b2, d2, rfl, _⟩, _⟩ := h6.out.2.2.1
      obtain ⟨⟨b3, d3, rfl, _⟩, _⟩ := h6.out.2.2.2.1
      have HYG := Lib.hid hyg
      have HBX6 := Lib.hid ((h6.out.2.2.2.2.block (ltB HBX.out)).trans HBX.out)
      have HBY := Lib.hid (block_alloc_new w6 (.cells #[.slice b0 SY.items.length d0, .slice b1 SY.temps.length d1, .slice b2 SY.ign.length d2, .slice b3 SY.bad.length d3] 37 (0, 0)))
      have H64 := Lib.hid h6.out.2.2.2.2
      have HYI0 := Lib.hid (show SY.ign.length = 0 from by rw [HNI.out]; rfl)
      clear h6 hyg HW3 HBX
      obtain ⟨nX, hnX⟩ : ∃ n, n = SX.items.length := ⟨_, rfl⟩
      obtain ⟨nY, hnY⟩ : ∃ n, n = SY.items.length := ⟨_, rfl⟩
      have HNX := Lib.hid hnX
      have HNY := Lib.hid hnY
      rw [← hnX] at HBX6 hq1 X5 H64 ⊢
      rw [← hnY] at HBY hq3 HLY ⊢
      have hY16 := HLY.out
      have hXY : nX ≤ nY := by rw [hnX, hnY, HLI.out]; exact List.length_filter_le _ _
      clear hnX hnY
      go_wp2_with fail
      obtain ⟨w7, hw7⟩ : ∃ w7, w7 = w6.alloc (.cells #[.slice b0 nY d0, .slice b1 SY.temps.length d1, .slice b2 SY.ign.length d2, .slice b3 SY.bad.length d3] 37 (0, 0)) := ⟨_, rfl⟩
      have X67 := Lib.hid (show Ext w6 w7 from hw7 ▸ (Ext.refl w6).alloc _)
      rw [← hw7] at HBY ⊢
      have HBX7 := Lib.hid ((X67.out.block (ltB HBX6.out)).trans HBX6.out)
      have X47 := Lib.hid ((X5.out.trans H64.out).trans X67.out)
      have HX7 := Lib.hid (HX4.out.trans X47.out)
      clear hw7 HBX6 X5
      go_loopw [15, 16] (fun kv iv wr => Hid (∃ i : Nat, i ≤ nY ∧ iv = .int .i64 i ∧ kv = .int .i64 ((SY.items.take i).filter fB).length ∧ Ext w7 wr)) (fun _ iv _ => nY - (intOf iv).toNat)
      case atStart => exact ⟨0, Nat.zero_le _, rfl, rfl, Ext.refl _⟩
      case round =>
        obtain ⟨i, hi, rfl, rfl, hx⟩ := hrel.out
        clear hrel
        have HX := Lib.hid hx
        have HBXr := Lib.hid ((hx.block (ltB HBX7.out)).trans HBX7.out)
        have HBYr := Lib.hid ((hx.block (ltB HBY.out)).trans HBY.out)
        have bx0 : wr.cell? ⟨w4.heap.size, 0, none⟩ = some (.slice a0 nX c0) := cellB HBXr.out
        have bx2 : wr.cell? ⟨w4.heap.size, 2, none⟩ = some (.slice a2 SX.ign.length c2) := cellB HBXr.out
        have by0 : wr.cell? ⟨w6.heap.size, 0, none⟩ = some (.slice b0 nY d0) := cellB HBYr.out
        have by2 : wr.cell? ⟨w6.heap.size, 2, none⟩ = some (.slice b2 SY.ign.length d2) := cellB HBYr.out
        have hkX : ((SY.items.take i).filter fB).length ≤ nX := by rw [HNX.out, HLI.out]; exact filter_len _ _
        clear hx
        by_cases hlt : i < nY
        · obtain ⟨y, hy⟩ : ∃ y, SY.items[i]? = some y := ⟨_, List.getElem?_eq_getElem (by have := HNY.out; omega)⟩
          obtain ⟨gy, u, rfl, hu, hcu⟩ := HYG.out i y hy
          have X6r := Lib.hid (X67.out.trans HX.out)
          have HLD := Lib.hid (show wr.rangeAt gy (i * 27) (itemU y u).toArray.toList from fun j z hz => by
            have hz' : (itemU y u)[j]? = some z := hz
            exact (X6r.out.cell (lt_of_cell (hcu j z hz'))).trans (hcu j z hz'))
          have HI1 := Lib.hid (show (Tryz.prog.info? 45).map (·.size) = some (itemU y u).toArray.size from by rw [List.size_toArray, itemU_len]; kernel_rfl)
          have HI2 := Lib.hid (show 27 = (itemU y u).toArray.size from by rw [List.size_toArray, itemU_len])
          have HI3 := Lib.hid (show (itemU y u).toArray.all (·.oneCell') = true from by
            have hsh : ∃ a n c, u = .slice a n c := by
              rcases hu with ⟨_, rfl⟩ | ⟨_, _, h3, _⟩
              · exact ⟨_, _, _, rfl⟩
              · obtain ⟨a, c, rfl⟩ := rowk_shape h3
                exact ⟨_, _, _, rfl⟩
            obtain ⟨a, n, c, rfl⟩ := hsh
            unfold itemU
            split <;> simp [itemC, Value.oneCell'])
          have HGet := Lib.hid (item_get y u)
          have HYS := Lib.hid (HIY.out y (List.mem_of_getElem? hy))
          have HYm := Lib.hid (List.mem_of_getElem? hy)
          have HCnt := Lib.hid (filter_count (f := fB) hy)
          have HFG := Lib.hid (filter_get (f := fB) SY.items i y hy)
          have HFO := Lib.hid (fun h z => filter_other (f := fB) (y := z) HSo.out hy h)
          clear hcu hu hy
          obtain ⟨yc, hyc⟩ : ∃ yc, yc = (itemU y u).toArray := ⟨_, rfl⟩
          have HYC := Lib.hid hyc
          rw [← hyc] at HLD HI1 HI2 HI3
          clear hyc
          go_wp2_with (first
            | (refine wpList_load_at rfl 45 (.tmp 65) rfl gy (i * 27) rfl yc _ HLD.out Tryz.underlying45 rfl HI1.out ?_; go_frame)
            | (refine wpList_storeT rfl _ _ _ rfl wr.heap.size yc rfl rfl 45 _ (block_alloc_new wr _) HI1.out HI2.out HI3.out ?_; intro w8 hb8 ht8; have HB8 := Lib.hid hb8; have X8 := Lib.hid (ht8.fresh ((Ext.refl wr).alloc _) (Nat.le_refl _)); clear hb8 ht8; go_frame))
          have gq : ∀ j, yc[j]? = (itemU y u)[j]? := fun j => by rw [HYC.out, List.getElem?_toArray]
          have r0 : w8.cell? ⟨wr.heap.size, 0, none⟩ = some (.string y.1) := (cellB HB8.out).trans ((gq 0).trans HGet.out.1)
          have r1 : w8.cell? ⟨wr.heap.size, 1, none⟩ = some (.int .i64 y.2.kind) := (cellB HB8.out).trans ((gq 1).trans HGet.out.2.1)
          have r3 : w8.cell? ⟨wr.heap.size, 3, none⟩ = some (.int .i64 ((if y.2.kind = 1 then y.2.data.size else 0 : Nat) : Int)) := (cellB HB8.out).trans ((gq 3).trans HGet.out.2.2.1)
          have r4 : w8.cell? ⟨wr.heap.size, 4, none⟩ = some (.int .i64 y.2.time) := (cellB HB8.out).trans ((gq 4).trans HGet.out.2.2.2.1)
          have r24 : w8.cell? ⟨wr.heap.size, 24, none⟩ = some (.string y.2.target) := (cellB HB8.out).trans ((gq 24).trans HGet.out.2.2.2.2)
          have HBX8 := Lib.hid ((X8.out.block (ltB HBXr.out)).trans HBXr.out)
          have b0 : w8.cell? ⟨w4.heap.size, 0, none⟩ = some (.slice a0 nX c0) := cellB HBX8.out
          have b2 : w8.cell? ⟨w4.heap.size, 2, none⟩ = some (.slice a2 SX.ign.length c2) := cellB HBX8.out
          have X48 := Lib.hid ((X47.out.trans HX.out).trans X8.out)
          have TXI := Lib.hid (fun n => H4.out.2.2.1.ext (X48.out.drewN n))
          have E8 := Lib.hid (fun n => HE.out.ext ((HX7.out.trans (HX.out.trans X8.out)).drewN n))
          have HItX := Lib.hid (fun k z (hz : SX.items[k]? = some z) => show ∃ g, a0 = some ⟨g, 0, none⟩ ∧ ItCells w8 g (k * 27) z from by
            obtain ⟨g, u', e, _, hc⟩ := HXG.out k z hz
            exact ⟨g, e, ItCells.of fun j q hq => (X48.out.cell (lt_of_cell (hc j q hq))).trans (hc j q hq)⟩)
          obtain ⟨yp, ny⟩ := y
          dsimp only at *
          have hHLI := HLI.out
          obtain ⟨K, hK⟩ : ∃ K, K = ((SY.items.take i).filter fB).length := ⟨_, rfl⟩
          rw [← hK] at HCnt HFG HFO hkX ⊢
          clear hK gq bx0 bx2 by0 by2
          cases hf : fB (yp, ny) with
          | true =>
            have hz := HFG.out hf
            rw [← HLI.out] at hz
            obtain ⟨gx, rfl, ic⟩ := HItX.out K _ hz
            have k0 := ic.c0
            have k1 := ic.c1
            have k3 := ic.c3
            have k4 := ic.c4
            have k24 := ic.c24
            dsimp only at k0 k1 k3 k4 k24
            have hKl : K < nX := by rw [HNX.out]; exact (List.getElem?_eq_some_iff.1 hz).1
            have hd : decide ((K : Int) < (nX : Int)) = true := by rw [decide_eq_true_eq]; omega
            clear hz ic hHLI
            go_quiet (fail)
            go_wp2_with fail
            go_quiet (fail)
            go_wp2_with fail
            go_roundw
            case rel => exact ⟨i + 1, by omega, by go_num, by rw [HCnt.out, hf]; go_num, (HX.out.trans X8.out).drewN _⟩
            case measure => simp [intOf] <;> omega
          | false =>
            by_cases hKl : K < nX
            · obtain ⟨z, hz⟩ : ∃ z, SX.items[K]? = some z := ⟨_, List.getElem?_eq_getElem (by have := HNX.out; omega)⟩
              obtain ⟨gx, rfl, ic⟩ := HItX.out K _ hz
              have k0 := ic.c0
              have hne := HFO.out hf z (by rw [← HLI.out]; exact hz)
              obtain ⟨zp, nz⟩ := z
              dsimp only at k0 hne
              have he : (zp.toList == yp.toList) = false := beq_eq_false_iff_ne.2 fun h => hne (ba_ext h)
              have hd : decide ((K : Int) < (nX : Int)) = true := by rw [decide_eq_true_eq]; omega
              clear hz ic hHLI hne
              go_quiet (fail)
              go_wp2_with fail
              refine (how_any (TXI.out _) (E8.out _) yp (by have := HYS.out; omega) HIG.out (by have := HLGn.out; omega)).mono ?_
              rintro e w9 ⟨rfl, x9⟩
              have HX9 := Lib.hid (((HX.out.trans X8.out).drewN _).trans x9)
              rw [show howN SX.ign yp = 1 from HLG.out (yp, ny) HYm.out hf]
              clear x9
              go_wp2_with fail
              go_roundw
              case rel => exact ⟨i + 1, by omega, by go_num, by rw [HCnt.out, hf]; go_num, HX9.out⟩
              case measure => simp [intOf] <;> omega
            · have hd : decide ((K : Int) < (nX : Int)) = false := by rw [decide_eq_false_iff_not]; omega
              clear hHLI
              go_quiet (fail)
              go_wp2_with fail
              refine (how_any (TXI.out _) (E8.out _) yp (by have := HYS.out; omega) HIG.out (by have := HLGn.out; omega)).mono ?_
              rintro e w9 ⟨rfl, x9⟩
              have HX9 := Lib.hid (((HX.out.trans X8.out).drewN _).trans x9)
              rw [show howN SX.ign yp = 1 from HLG.out (yp, ny) HYm.out hf]
              clear x9
              go_wp2_with fail
              go_roundw
              case rel => exact ⟨i + 1, by omega, by go_num, by rw [HCnt.out, hf]; go_num, HX9.out⟩
              case measure => simp [intOf] <;> omega
        · obtain rfl : i = nY := by omega
          have hkn : ((SY.items.take i).filter fB).length = nX := by rw [HNX.out, HLI.out, HNY.out, List.take_length]
          rw [hkn] at hkX ⊢
          rw [HYI0.out] at by2
          have nlt : decide ((i : Int) < (i : Int)) = false := by simp
          clear hkn hkX
          go_wp2_with fail
          refine (HAw.out _ (HX7.out.trans HX.out)).mono ?_
          rintro e w9 ⟨rfl, x9⟩
          have HX9 := Lib.hid ((HX7.out.trans HX.out).trans x9)
          clear x9
          go_wp2_with fail
          go_ret
          exact ⟨rfl, HX9.out⟩

-- BEGUN
set_option maxRecDepth 100000 in
theorem begun {H : Type} {enc : TypeId × Value → H} (W : World) (args : Array Value) (ds : List (DataW H)) (p : List MemPlace) (st : Start enc Rows.walkLessRow.laid Tryz.f3 W args ds p) :
    Calls Tryz.prog 3 args W fun e W' => e = .returned (.bool true) ∧ Below W.heap.size W W' := by
  obtain ⟨⟨base, hval⟩, hA, hfit, hl, hsh⟩ := st
  rw [Tryz.params3] at hA hval hfit
  obtain ⟨v0, v1, v2, d0, d1, d2, p0, p1, p2, rfl, rfl, rfl, h0, h1, h2⟩ := trodAll_three hA
  have hfit : ((DataW.weightsEach Tryz.prog [22, 9, 23] [d0, d1, d2]).all (· ≤ reachBytes)) = true := hfit
  simp only [DataW.weightsEach, List.append_nil, List.all_append, Bool.and_eq_true] at hfit
  obtain ⟨l, hl2⟩ := open_puts (hval 0 22 v0 rfl rfl) h0 hfit.1
  obtain ⟨fs, hF, hfs⟩ := open_files2 (hval 2 23 v2 rfl rfl) h2 hfit.2.2
  obtain ⟨b, rfl, hb⟩ := open_root (hval 1 9 v1 rfl rfl) h1 hfit.2.1
  exact walk v0 v2 b l fs W hl2 hF hfs hb (env_of hsh) (sha_of hl 1 2 rfl rfl)

set_option maxRecDepth 100000 in
theorem said : Rows.WalkLessSaid :=
  OpenClaim.holds_of_wide 3 Tryz.f3 rfl rfl rfl rfl rfl rfl rfl ⟨rfl, rfl, rfl, rfl, rfl⟩ rfl rfl rfl rfl rfl named Tryz.func3 facts
    (of_decide_eq_true (by kernel_rfl)) (by unfold Func.isWrapper; first | (rw [if_pos (by decide +kernel)]; kernel_rfl) | (rw [if_neg (by decide +kernel)]; exact ⟨rfl, rfl⟩))
    (fun os started H enc _ => lifted Rows.walkLessRow.laid (by kernel_rfl) 3 Tryz.f3 Tryz.func3 Rows.walkLessSpec rfl (by kernel_rfl) (by kernel_rfl)
      (by rw [Tryz.params3]
          have hall : ([22, 9, 23].all fun t => Tryz.prog.readableRec t && decide (t < Tryz.prog.types.size)) = true := by kernel_rfl
          intro t ht
          have := List.all_eq_true.1 hall t ht
          simpa using this)
      (by intro H ts ds h hl; rw [Tryz.params3] at h; subst h
          match ds, hl with
          | [d1, d2, d3], _ => rfl)
      Rows.walkLessRow.domain os started H enc #[.slice none 0 0, .string ⟨#[]⟩, .slice none 0 0] (by kernel_rfl) (by kernel_rfl) (by kernel_rfl)
      (World.shaped_of_ZipB (by kernel_rfl) (by kernel_rfl)) (laidMet_laidAll _ (by kernel_rfl) (by kernel_rfl))
      begun)

theorem card : Rows.WalkLessCardSaid :=
  Claim7.holds_tied_plain_at .later [] Rows.walkLessCard.laidKinds true Rows.walkLessCard.stood.harness Rows.walkLessCard.stood.looks said (fun _ h => by cases h) card1 (fun _ h => by cases h) walkLess_row_tie rfl ⟨rfl, rfl⟩ card2 rfl
    (fun f fn hf hfn => by
      obtain rfl : f = 3 := Option.some.inj (named.symm.trans hf) |>.symm
      obtain rfl : fn = Tryz.f3 := (Option.some.inj (Tryz.func3.symm.trans hfn)).symm
      exact ⟨card3, fun j t ht => by
        rw [Tryz.params3] at ht
        have hm : t ∈ [22, 9, 23] := by simpa using Array.mem_of_getElem? ht
        have hall := card4
        exact (show Tryz.pinned.checked.prog.wantsStandIn t = false by simpa using List.all_eq_true.1 hall t hm)⟩)
    card5
#print axioms card
end Go.Proofs.YtodickpibbbiiaaGreatDoor.lawWalkLess
