/- DiskCopies: whatever was done to a disk, its copy goes on as it does, also behind a crash, and neither of them knows of what is done to the other: the statement DiskCopiesCardSaid, with no condition of its own. -/
import Derived.Test.YtldppmjjgljinaaGreatDoorPathEnv
import Derived.Test.YtldppmjjgljinaaGreatDoorActs
import Derived.Test.YtldppmjjgljinaaGreatDoorLawDkI
import Derived.Test.YtldppmjjgljinaaGreatDoorDiskCopiesF
namespace Go.Proofs.YtldppmjjgljinaaGreatDoor.lawDiskCopies
open Go.ChangeShapes Go.WideShapes Go.ChangeAt Go.RowKit
open Go.ChangeMaps (open_string)

set_option maxRecDepth 100000 in
set_option maxHeartbeats 8000000 in
theorem walk (v1 v2 v3 : Value) (l1 l2 : List ActR) (ks : List UInt8) (w : World) (hA1 : ActsIn w v1 l1) (hA2 : ActsIn w v2 l2) (hB : BytesIn w v3 ks) (E : Env w) : Calls Tryz.prog 6 #[v1, v2, v3] w fun e w' => e = .returned (.bool true) ∧ Below w.heap.size w w' := by
  have HLg := Lib.hid (llarge_any hA1 40 (by decide))
  have HLg2 := fun w1 (x : Ext w w1) => Lib.hid (llarge_any (hA2.ext x) 20 (by decide))
  have AW := fun w1 (x : Ext w w1) => Lib.hid (awake_any w1 (E.ext x))
  cases hlg : largeB l1 40 with
  | true =>
    rw [hlg] at HLg
    clear hA1 hA2 hB hlg E HLg2
    go_enter Tryz.func6, Tryz.ntmps6
    go_wp2_with fail
    refine HLg.out.mono ?_
    rintro e w1 ⟨rfl, x1⟩
    have HX1 := Lib.hid x1
    clear x1
    go_wp2_with fail
    refine (AW _ HX1.out).out.mono ?_
    rintro e w2 ⟨rfl, x2⟩
    have HX2 := Lib.hid (HX1.out.trans x2)
    clear x2
    go_wp2_with fail
    go_ret
    exact ⟨rfl, HX2.out⟩
  | false =>
  rw [hlg] at HLg
  cases hlg2 : largeB l2 20 with
  | true =>
    rw [hlg2] at HLg2
    clear hA1 hA2 hB hlg hlg2 E
    go_enter Tryz.func6, Tryz.ntmps6
    go_wp2_with fail
    refine HLg.out.mono ?_
    rintro e w1 ⟨rfl, x1⟩
    have HX1 := Lib.hid x1
    clear x1
    go_wp2_with fail
    refine (HLg2 _ HX1.out).out.mono ?_
    rintro e w2 ⟨rfl, x2⟩
    have HX2 := Lib.hid (HX1.out.trans x2)
    clear x2
    go_wp2_with fail
    refine (AW _ HX2.out).out.mono ?_
    rintro e w3 ⟨rfl, x3⟩
    have HX3 := Lib.hid (HX2.out.trans x3)
    clear x3
    go_wp2_with fail
    go_ret
    exact ⟨rfl, HX3.out⟩
  | false =>
  rw [hlg2] at HLg2
  obtain ⟨hl40, hfit⟩ := large_not hlg
  obtain ⟨hm20, hfit2⟩ := large_not hlg2
  have HNw := fun w1 (x : Ext w w1) => Lib.hid (new_many (Things.start x) 16384 (by decide) (by decide))
  have HRun := Lib.hid (show ∀ k, DkRun (0 + k) (playD k16 (l1.take k)) ∧ Fl (playD k16 (l1.take k)) from fun k => ⟨run_take kr16 hA1 k, (Fl.made 16384).play (l1.take k)⟩)
  have HRunT := Lib.hid (fun (n : Nat) (D : Dk) (R : DkRun n D) k => run_take R hA2 k)
  have HPN := Lib.hid (fun k x (h : l1[k]? = some x) => playD_next (D := k16) (k := k) (a := x) h)
  have HPN2 := Lib.hid (fun (D : Dk) k x (h : l2[k]? = some x) => playD_next (D := D) (k := k) (a := x) h)
  have HE := Lib.hid E
  have HB := Lib.hid hB
  have HF1 := Lib.hid (show ActsFit l1 from hfit)
  have HF2 := Lib.hid (show ActsFit l2 from hfit2)
  obtain ⟨a1, q1, rfl, hl1, hl2, hcell1⟩ := hA1
  obtain ⟨a2, q2, rfl, hm1, hm2, hcell2⟩ := hA2
  obtain ⟨b3, q3, rfl, hk1, hk2, _, _⟩ := id hB
  unfold maxLen at hl2 hm2
  have HC1 := Lib.hid hcell1
  have HC2 := Lib.hid hcell2
  obtain ⟨N, hN⟩ : ∃ N, N = l1.length := ⟨_, rfl⟩
  have HL1 := Lib.hid hN
  rw [← hN] at hl1 hl40 HLg ⊢
  obtain ⟨N2, hN2⟩ : ∃ N2, N2 = l2.length := ⟨_, rfl⟩
  have HL2 := Lib.hid hN2
  rw [← hN2] at hm1 hm20 HLg2 ⊢
  clear hcell1 hcell2 hN hN2 hfit hfit2 E hlg hlg2 hB
  have H0 := Lib.hid (show k16 = playD k16 (l1.take 0) from rfl)
  go_enter Tryz.func6, Tryz.ntmps6
  go_wp2_with fail
  refine HLg.out.mono ?_
  rintro e w1 ⟨rfl, x1⟩
  have HX1 := Lib.hid x1
  clear x1 HLg
  go_wp2_with fail
  refine (HLg2 _ HX1.out).out.mono ?_
  rintro e w2 ⟨rfl, x2⟩
  have HN1 := HNw _ (HX1.out.trans x2)
  clear x2 HX1 HLg2 HNw
  go_wp2_with fail
  refine HN1.out.mono ?_
  rintro e w3 ⟨d, rfl, h3⟩
  have HM := Lib.hid (rmade_many h3 16384)
  clear h3 HN1
  go_wp2_with fail
  refine HM.out.mono ?_
  rintro e w4 ⟨r, rfl, h4⟩
  have HT4 := Lib.hid (show Things w w4 [.disk d (playD k16 (l1.take 0)), .ref r (playD k16 (l1.take 0))] from h4)
  clear h4 HM H0
  generalize hDM : k16 = DM at *
  clear hDM
  go_wp2_with fail
  go_loopw [10] (fun iv wr => Hid (∃ k : Nat, k ≤ N ∧ iv = .int .i64 k ∧ Things w wr [.disk d (playD DM (l1.take k)), .ref r (playD DM (l1.take k))])) (fun iv _ => N - (intOf iv).toNat)
  case atStart => exact ⟨0, Nat.zero_le _, rfl, HT4.out⟩
  case round =>
    obtain ⟨k, hk, rfl, ht⟩ := hrel.out
    clear hrel HT4
    by_cases hlt : k < N
    · obtain ⟨x, hxk⟩ : ∃ x, l1[k]? = some x := ⟨_, List.getElem?_eq_getElem (by have := HL1.out; omega)⟩
      obtain ⟨hok, g, o, pv, rfl, hp, hcs⟩ := HC1.out k x hxk
      have HLD := Lib.hid (fun w' (X : Ext w w') => range_act (x := x) (pv := pv) (o := o + k * 7) (g := g) (w := w') fun j u hj => (X.cell (lt_of_cell (hcs j u hj))).trans (hcs j u hj))
      have hA := ActsFit.at HF1.out hxk hok
      obtain ⟨hR, hFl⟩ := HRun.out k
      have HPn := Lib.hid (HPN.out k x hxk)
      have HLD1 := Lib.hid (HLD.out wr ht.is_ext)
      generalize playD DM (l1.take k) = D at *
      have HDo := Lib.hid (do_many (A := []) (B := [.ref r D]) ht (hR.fit (by omega)) HE.out x hA pv hp)
      obtain ⟨D', hD'⟩ : ∃ D', D' = (D.doA x).2 := ⟨_, rfl⟩
      rw [← hD'] at HDo HPn
      have HDn := fun w' (h : Things w w' [.disk d D', .ref r D]) => Lib.hid (show Calls Tryz.prog 43 #[.pointer (some ⟨r, 0, none⟩), .agg #[.int .i64 x.kind, .string x.p, .string x.q, .string x.text, .int .i64 x.long, .int .i64 x.time, pv]] w' fun e w'' => e = .returned (.int .i64 (D.doA x).1) ∧ Things w w'' [.disk d D', .ref r D'] from hD' ▸ done_many (A := [.disk d D']) (B := []) h (hR.dofit hFl (by omega)) hFl.lasts x hA pv hp)
      generalize (D.doA x).1 = rr at *
      clear ht hok hcs hA hR hFl hxk hD' hp HPN HPN2 HRun HRunT
      generalize x.kind = xk at *
      generalize x.p = xp at *
      generalize x.q = xq at *
      generalize x.text = xt at *
      generalize x.long = xl at *
      generalize x.time = xm at *
      go_wp2_with (refine wpList_load_at rfl 69 (.tmp 41) rfl g (o + k * 7) rfl _ _ HLD1.out Tryz.underlying69 rfl (by kernel_rfl) ?_; go_frame)
      refine HDo.out.mono ?_
      rintro e w5 ⟨rfl, h5⟩
      have HT5 := Lib.hid (show Things w w5 [.disk d D', .ref r D] from h5)
      have HLD2 := Lib.hid (HLD.out w5 h5.is_ext)
      clear h5 HDo
      go_wp2_with (refine wpList_load_at rfl 69 (.tmp 47) rfl g (o + k * 7) rfl _ _ HLD2.out Tryz.underlying69 rfl (by kernel_rfl) ?_; go_frame)
      refine (HDn _ HT5.out).out.mono ?_
      rintro e w6 ⟨rfl, h6⟩
      have HT6 := Lib.hid h6
      clear h6 HDn
      go_wp2_with fail
      go_roundw
      case rel => exact ⟨k + 1, by omega, by go_num, by rw [HPn.out]; exact HT6.out⟩
      case measure => simp [intOf] <;> omega
    · obtain rfl : k = N := by omega
      have nlt : decide ((k : Int) < (k : Int)) = false := by simp
      obtain ⟨hR, hFl⟩ := HRun.out k
      have HRF := Lib.hid (show DkRun 40 (playD DM (l1.take k)) ∧ Fl (playD DM (l1.take k)) from ⟨hR.mono (by omega), hFl⟩)
      generalize playD DM (l1.take k) = D at *
      have HCo := Lib.hid (copy_many (A := []) (B := [.ref r D]) ht (HRF.out.1.fit (by omega)))
      clear ht hR hFl HPN HRun HC1 HF1 HL1
      go_wp2_with fail
      refine HCo.out.mono ?_
      rintro e w7 ⟨c, rfl, h7⟩
      have HT7 := Lib.hid (show Things w w7 [.disk d D, .ref r D, .disk c D] from h7)
      have HA1 := Lib.hid (alike_true (d := c) (r := r) (A := [.disk d D, .ref r D]) (B := []) (A' := [.disk d D]) (B' := [.disk c D]) HT7.out HT7.out HE.out HRF.out.1 (by omega))
      clear h7 HCo
      go_wp2_with fail
      refine HA1.out.mono ?_
      rintro e w8 ⟨rfl, x8⟩
      have HT8 := Lib.hid (show Things w w8 [.disk d D, .ref r D, .disk c (playD D (l2.take 0))] from HT7.out.ext x8)
      clear x8 HA1 HT7
      go_wp2_with fail
      go_loopw [12] (fun iv wr => Hid (∃ j : Nat, j ≤ N2 ∧ iv = .int .i64 j ∧ Things w wr [.disk d D, .ref r D, .disk c (playD D (l2.take j))])) (fun iv _ => N2 - (intOf iv).toNat)
      case atStart => exact ⟨0, Nat.zero_le _, rfl, HT8.out⟩
      case round =>
        obtain ⟨j, hj, rfl, ht⟩ := hrel.out
        clear hrel HT8
        by_cases hlt2 : j < N2
        · obtain ⟨x, hxk⟩ : ∃ x, l2[j]? = some x := ⟨_, List.getElem?_eq_getElem (by have := HL2.out; omega)⟩
          obtain ⟨hok, g, o, pv, rfl, hp, hcs⟩ := HC2.out j x hxk
          have HLD1 := Lib.hid (range_act (x := x) (pv := pv) (o := o + j * 7) (g := g) (w := wr) fun j u hj => (ht.is_ext.cell (lt_of_cell (hcs j u hj))).trans (hcs j u hj))
          have hA := ActsFit.at HF2.out hxk hok
          have hR := HRunT.out _ _ HRF.out.1 j
          have HPn := Lib.hid (HPN2.out D j x hxk)
          generalize playD D (l2.take j) = DC at *
          have HDo := Lib.hid (do_many (A := [.disk d D, .ref r D]) (B := []) ht (hR.fit (by omega)) HE.out x hA pv hp)
          clear ht hok hcs hA hR hxk hp HPN2 HRunT
          rw [← HPn.out] at HDo
          generalize (DC.doA x).1 = rr at *
          generalize x.kind = xk at *
          generalize x.p = xp at *
          generalize x.q = xq at *
          generalize x.text = xt at *
          generalize x.long = xl at *
          generalize x.time = xm at *
          go_wp2_with (refine wpList_load_at rfl 69 (.tmp 69) rfl g (o + j * 7) rfl _ _ HLD1.out Tryz.underlying69 rfl (by kernel_rfl) ?_; go_frame)
          refine HDo.out.mono ?_
          rintro e w9 ⟨rfl, h9⟩
          have HT9 := Lib.hid h9
          clear h9 HDo
          go_wp2_with fail
          go_roundw
          case rel => exact ⟨j + 1, by omega, by go_num, HT9.out⟩
          case measure => simp [intOf] <;> omega
        · obtain rfl : j = N2 := by omega
          have njt : decide ((j : Int) < (j : Int)) = false := by simp
          generalize playD D (l2.take j) = D2 at *
          have HT := Lib.hid ht
          have HA2 := Lib.hid (alike_true (d := d) (r := r) (A := []) (B := [.ref r D, .disk c D2]) (A' := [.disk d D]) (B' := [.disk c D2]) ht ht HE.out HRF.out.1 (by omega))
          clear ht
          go_wp2_with fail
          refine HA2.out.mono ?_
          rintro e wa ⟨rfl, xa⟩
          have HTa := Lib.hid (HT.out.ext xa)
          have HCo := Lib.hid (copy_many (A := []) (B := [.ref r D, .disk c D2]) HTa.out (HRF.out.1.fit (by omega)))
          clear xa HA2 HT
          go_wp2_with fail
          refine HCo.out.mono ?_
          rintro e wb ⟨x, rfl, hb⟩
          have hTb : Things w wb [.disk d D, .ref r D, .disk c D2, .disk x D] := hb
          obtain ⟨DC, hDC⟩ : ∃ DC, DC = D.crash ks := ⟨_, rfl⟩
          have HRC := Lib.hid (show DkRun 41 DC from hDC ▸ HRF.out.1.crash ks)
          have HCd := Lib.hid (crash_many (A := []) (B := [.ref r D, .disk c D2, .disk x D]) hTb (HRF.out.1.fit (by omega)) HE.out _ ks (fun M hM => picks_in HB.out hTb.is_ext hM) hDC.symm)
          have HDC := Lib.hid hDC
          clear hb HCo hTb hDC
          go_wp2_with fail
          refine HCd.out.mono ?_
          rintro e wc ⟨rfl, hc⟩
          have hTc : Things w wc [.disk d DC, .ref r D, .disk c D2, .disk x D] := hc
          have HCr := Lib.hid (rcrash_many (A := [.disk d DC]) (B := [.disk c D2, .disk x D]) hTc HRF.out.1.ok HRF.out.2.lasts (by have := HRF.out.1.len; omega) _ ks HB.out)
          rw [← HDC.out] at HCr
          clear hc HCd hTc
          go_wp2_with fail
          refine HCr.out.mono ?_
          rintro e wd ⟨rfl, hd⟩
          have hTd : Things w wd [.disk d DC, .ref r DC, .disk c D2, .disk x D] := hd
          have HCx := Lib.hid (crash_many (A := [.disk d DC, .ref r DC, .disk c D2]) (B := []) hTd (HRF.out.1.fit (by omega)) HE.out _ ks (fun M hM => picks_in HB.out hTd.is_ext hM) HDC.out.symm)
          clear hd HCr hTd
          go_wp2_with fail
          refine HCx.out.mono ?_
          rintro e we ⟨rfl, he⟩
          have HTe := Lib.hid (show Things w we [.disk d DC, .ref r DC, .disk c D2, .disk x DC] from he)
          have HA3 := Lib.hid (alike_true (d := d) (r := r) (A := []) (B := [.ref r DC, .disk c D2, .disk x DC]) (A' := [.disk d DC]) (B' := [.disk c D2, .disk x DC]) HTe.out HTe.out HE.out HRC.out (by omega))
          clear he HCx
          go_wp2_with fail
          refine HA3.out.mono ?_
          rintro e wf ⟨rfl, xf⟩
          have HTf := Lib.hid (HTe.out.ext xf)
          have HA4 := Lib.hid (alike_true (d := x) (r := r) (A := [.disk d DC, .ref r DC, .disk c D2]) (B := []) (A' := [.disk d DC]) (B' := [.disk c D2, .disk x DC]) HTf.out HTf.out HE.out HRC.out (by omega))
          clear xf HA3 HTe
          go_wp2_with fail
          refine HA4.out.mono ?_
          rintro e wg ⟨rfl, xg⟩
          have HXg := Lib.hid (HTf.out.is_ext.trans xg)
          clear xg HA4
          go_wp2_with fail
          refine (AW _ HXg.out).out.mono ?_
          rintro e wh ⟨rfl, xh⟩
          have HXh := Lib.hid (HXg.out.trans xh)
          clear xh
          go_wp2_with fail
          go_ret
          exact ⟨rfl, HXh.out⟩

-- BEGUN
set_option maxRecDepth 100000 in
theorem begun {H : Type} {enc : TypeId × Value → H} (W : World) (args : Array Value) (ds : List (DataW H)) (p : List MemPlace) (st : Start enc Rows.diskCopiesRow.laid Tryz.f6 W args ds p) :
    Calls Tryz.prog 6 args W fun e W' => e = .returned (.bool true) ∧ Below W.heap.size W W' := by
  obtain ⟨⟨base, hval⟩, hA, hfit, hl, hsh⟩ := st
  rw [Tryz.params6] at hA hval hfit
  obtain ⟨v0, v1, v2, d0, d1, d2, p0, p1, p2, rfl, rfl, rfl, h0, h1, h2⟩ := trodAll_three hA
  have hfit : ((DataW.weightsEach Tryz.prog [51, 51, 22] [d0, d1, d2]).all (· ≤ reachBytes)) = true := hfit
  simp only [DataW.weightsEach, List.append_nil, List.all_append, Bool.and_eq_true] at hfit
  obtain ⟨l, hl2⟩ := open_acts (hval 0 51 v0 rfl rfl) h0 hfit.1
  obtain ⟨m, hm2⟩ := open_acts (hval 1 51 v1 rfl rfl) h1 hfit.2.1
  obtain ⟨ks, hk2⟩ := open_bytes_arg (hval 2 22 v2 rfl rfl) h2 hfit.2.2
  exact walk v0 v1 v2 l m ks W hl2 hm2 hk2 (env_of hsh)

set_option maxRecDepth 100000 in
theorem said : Rows.DiskCopiesSaid :=
  OpenClaim.holds_of_wide 6 Tryz.f6 rfl rfl rfl rfl rfl rfl rfl ⟨rfl, rfl, rfl, rfl, rfl⟩ rfl rfl rfl rfl rfl named Tryz.func6 facts
    (of_decide_eq_true (by kernel_rfl)) (by unfold Func.isWrapper; first | (rw [if_pos (by decide +kernel)]; kernel_rfl) | (rw [if_neg (by decide +kernel)]; exact ⟨rfl, rfl⟩))
    (fun os started H enc _ => lifted Rows.diskCopiesRow.laid (by kernel_rfl) 6 Tryz.f6 Tryz.func6 Rows.diskCopiesSpec rfl (by kernel_rfl) (by kernel_rfl)
      (by rw [Tryz.params6]
          have hall : ([51, 51, 22].all fun t => Tryz.prog.readableRec t && decide (t < Tryz.prog.types.size)) = true := by kernel_rfl
          intro t ht
          have := List.all_eq_true.1 hall t ht
          simpa using this)
      (by intro H ts ds h hl; rw [Tryz.params6] at h; subst h
          match ds, hl with
          | [d1, d2, d3], _ => rfl)
      Rows.diskCopiesRow.domain os started H enc #[.slice none 0 0, .slice none 0 0, .slice none 0 0] (by kernel_rfl) (by kernel_rfl) (by kernel_rfl)
      (World.shaped_of_ZipB (by kernel_rfl) (by kernel_rfl)) (laidMet_laidAll _ (by kernel_rfl) (by kernel_rfl))
      begun)

theorem card : Rows.DiskCopiesCardSaid :=
  Claim7.holds_tied_plain_at .later [] Rows.diskCopiesCard.laidKinds true Rows.diskCopiesCard.stood.harness Rows.diskCopiesCard.stood.looks said (fun _ h => by cases h) (by kernel_rfl) (fun _ h => by cases h) diskCopies_row_tie rfl ⟨rfl, rfl⟩ (by kernel_rfl) rfl
    (fun f fn hf hfn => by
      obtain rfl : f = 6 := Option.some.inj ((show Tryz.prog.funcNamed Rows.diskCopiesRow.func = some 6 by kernel_rfl).symm.trans hf) |>.symm
      obtain rfl : fn = Tryz.f6 := (Option.some.inj (Tryz.func6.symm.trans hfn)).symm
      exact ⟨by kernel_rfl, fun j t ht => by
        rw [Tryz.params6] at ht
        have hm : t ∈ [51, 51, 22] := by simpa using Array.mem_of_getElem? ht
        have hall : ([51, 51, 22].all fun u => !Tryz.prog.wantsStandIn u) = true := by kernel_rfl
        exact (show Tryz.prog.wantsStandIn t = false by simpa using List.all_eq_true.1 hall t hm)⟩)
    (by kernel_rfl)
#print axioms card
end Go.Proofs.YtldppmjjgljinaaGreatDoor.lawDiskCopies
