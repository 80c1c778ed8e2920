/- TempResumes: a draft that is opened behind Save has the blocks that the saved one had, and those whose digest is that of as many bytes 0, and what is done has the wanted list of digests: the statement TempResumesCardSaid, with no condition of its own. -/
import Derived.Test.YtldppmjjgljinaaGreatDoorPathEnv
import Derived.Test.YtldppmjjgljinaaGreatDoorShaEnv
import Derived.Test.YtldppmjjgljinaaGreatDoorActs
import Derived.Test.YtldppmjjgljinaaGreatDoorLawTpD
import Derived.Test.YtldppmjjgljinaaGreatDoorTempResumesF
namespace Go.Proofs.YtldppmjjgljinaaGreatDoor.lawTempResumes
open Go.ChangeShapes Go.WideShapes Go.ChangeAt Go.RowKit
open Go.ChangeMaps (open_string)

/-- What holds of a draft's parts. -/
structure ResAt (b : List UInt8) (ps : List (Option (List UInt8))) : Prop where
  pl : ps.length = countN b.length
  po : PsOk b.length (hashesL b) ps
  ph : ShutP b.length (hashesL b) ps
theorem ResAt.start (b : List UInt8) : ResAt b (List.replicate (countN b.length) none) :=
  ⟨by simp, PsOk.none _ _ _, fun i k _ _ _ h => by simp [haveB_none] at h⟩
theorem ResAt.next {b : List UInt8} {ps : List (Option (List UInt8))} (h : ResAt b ps) {i : Nat} (hi : i < countN b.length) : ResAt b (fillP b.length (hashesL b) i (partL b i) ps) := by
  have hr := right_part b hi
  exact ⟨by rw [fillP_len]; exact h.pl, h.po.fill hr, h.ph.fill h.pl (right_len hr)⟩
set_option maxRecDepth 100000 in
set_option maxHeartbeats 8000000 in
theorem walk (vb vp : Value) (b ks : List UInt8) (w : World) (hb : BytesIn w vb b) (hp : BytesIn w vp ks) (E : Env w) (T : ShaTabs w) : Calls Tryz.prog 3 #[vb, vp] w fun e w' => e = .returned (.bool true) ∧ Below w.heap.size w w' := by
  have AW := fun w1 (x : Ext w w1) => Lib.hid (awake23_any w1 (E.ext x) (T.ext x))
  obtain ⟨ab, cb, rfl, hb1, hb2, hb3, hb4⟩ := hb
  obtain ⟨ap, cp, rfl, hp1, hp2, hp3, hp4⟩ := hp
  have HBb := Lib.hid (bytesOff_in ⟨ab, cb, rfl, hb1, hb2, hb3, hb4⟩)
  have HP := Lib.hid (fun w1 (x : Ext w w1) => bytes_get ⟨ap, cp, rfl, hp1, hp2, hp3, hp4⟩ x)
  unfold reach at hb3 hp3
  by_cases hn : 4096 < b.length
  · have g1 : decide ((4096 : Int) < (b.length : Int)) = true := decide_eq_true (by omega)
    clear hb4 hp4 E T
    go_enter Tryz.func3, Tryz.ntmps3
    go_wp2_with fail
    refine (AW _ (Ext.refl _)).out.mono ?_
    rintro e w2 ⟨rfl, x2⟩
    have HX2 := Lib.hid x2
    clear x2
    go_wp2_with fail
    go_ret
    exact ⟨rfl, HX2.out⟩
  · have g1 : decide ((4096 : Int) < (b.length : Int)) = false := decide_eq_false (by omega)
    by_cases hm : 100 < ks.length
    · have g2 : decide ((100 : Int) < (ks.length : Int)) = true := decide_eq_true (by omega)
      clear hb4 hp4 E T
      go_enter Tryz.func3, Tryz.ntmps3
      go_wp2_with fail
      refine (AW _ (Ext.refl _)).out.mono ?_
      rintro e w2 ⟨rfl, x2⟩
      have HX2 := Lib.hid x2
      clear x2
      go_wp2_with fail
      go_ret
      exact ⟨rfl, HX2.out⟩
    · have g2 : decide ((100 : Int) < (ks.length : Int)) = false := decide_eq_false (by omega)
      have H0 := Lib.hid (made23_any (Things.start (Ext.refl w)) E)
      have HE := Lib.hid E
      have HT := Lib.hid T
      have HN := Lib.hid (Nat.not_lt.1 hn)
      clear hb4 hp4 E T
      go_enter Tryz.func3, Tryz.ntmps3
      go_wp2_with fail
      refine H0.out.mono ?_
      rintro e w1 ⟨d, rfl, h1⟩
      have H1 := h1
      have HW := Lib.hid (wanted23_any b _ w1 (HT.out.ext h1.out.is_ext) (bytesOff_any HBb.out h1.out.is_ext h1.out.is_ext.size) HN.out)
      clear h1 H0
      go_wp2_with fail
      refine HW.out.mono ?_
      rintro e w2 ⟨a, c, rfl, h2⟩
      have HT2 := Lib.hid (Things.hash H1.out h2.out.2 h2.out.1 (by omega))
      clear h2 HW
      have HA1 := Lib.hid (show (Tryz.prog.info? 31).map (·.size) = some (wantedC b (.slice a (countN b.length) c)).size from by kernel_rfl)
      have HA2 := Lib.hid (show 27 = (wantedC b (.slice a (countN b.length) c)).size from rfl)
      have HA3 := Lib.hid (show (wantedC b (.slice a (countN b.length) c)).all (·.oneCell') = true from by simp [wantedC, Value.oneCell'])
      have HC23 := Lib.hid (show (wantedC b (.slice a (countN b.length) c))[23]? = some (.slice a (countN b.length) c) from rfl)
      obtain ⟨WC, hWC⟩ : ∃ WC, WC = wantedC b (.slice a (countN b.length) c) := ⟨_, rfl⟩
      have HWC := Lib.hid hWC
      rw [← hWC] at HA1 HA2 HA3 HC23 ⊢
      clear hWC
      go_wp2_with (first
        | (refine wpList_storeT rfl _ _ _ rfl w2.heap.size WC rfl rfl 31 _ (heap_alloc_new w2 _) HA1.out HA2.out HA3.out ?_; intro w3 hb6 ht6; have HB3 := Lib.hid hb6; have HX3 := Lib.hid (ht6.fresh ((Ext.refl w2).alloc _) (Nat.le_refl _)); clear hb6 ht6; go_frame)
        | (refine wpList_load_row rfl 31 (.tmp 6) rfl w2.heap.size rfl 31 WC (0, 0) _ HB3.out Tryz.underlying31 rfl HA1.out ?_; go_frame))
      have HT3 := Lib.hid (show Things w w3 ([] ++ .disk d kF :: [.gen (hashG (.slice a (countN b.length) c) (hashesL b)), .obj w2.heap.size (.cells WC 31 (0, 0))]) from
        HT2.out.add HX3.out (M := []) (I := [w2.heap.size]) ⟨rfl, rfl, HB3.out⟩ (fun _ h => (by cases h)) fun y hy => (by rw [List.mem_singleton.1 hy]; exact Nat.le_refl _))
      obtain ⟨hh1, hh2⟩ := hash_many (A := [.disk d kF]) HT3.out
      have hO := open_at23 HT3.out (HE.out.ext HT3.out.is_ext) (HT.out.ext HT3.out.is_ext) HN.out hh1 hh2 kF_read (by decide)
      rw [← HWC.out, show nd0.data.toList = [] from toList_mk [], openTo_none _ _ _ (Nat.le_refl _)] at hO
      have HO := Lib.hid hO
      clear hO hh1 hh2 H1 HT2 HB3
      refine HO.out.mono ?_
      rintro e w4 ⟨p, rfl, h4⟩
      have HT4 := Lib.hid h4.out.2
      have hb5 := obj_many (A := [.disk d kF, .gen (hashG (.slice a (countN b.length) c) (hashesL b))]) (B := [dr p b (List.replicate (countN b.length) none)]) h4.out.2
      have k23 := (cellB (k := 23) hb5).trans HC23.out
      clear h4 hb5 HO HA2 HA3 HX3
      obtain ⟨rb, hrb⟩ : ∃ rb, rb = w2.heap.size := ⟨_, rfl⟩
      rw [← hrb] at HT4 HT3 k23 ⊢
      clear hrb
      obtain ⟨cn, hcn⟩ : ∃ cn, cn = countN b.length := ⟨_, rfl⟩
      have HCn := Lib.hid hcn
      have hc32 : cn ≤ 32 := hcn ▸ count_le HN.out
      have HS := Lib.hid (ResAt.start b)
      rw [← hcn] at k23 HT4 HS HT3 HC23 HWC
      obtain ⟨m, hm⟩ : ∃ m, m = ks.length := ⟨_, rfl⟩
      have HM := Lib.hid hm
      rw [← hm] at g2 hp1 hp3 ⊢
      clear hcn hm
      go_wp2_with fail
      go_loopw [10] (fun iv wr => Hid (∃ k ps, k ≤ m ∧ iv = .int .i64 k ∧ Things w wr [.disk d kF, .gen (hashG (.slice a cn c) (hashesL b)), .obj rb (.cells WC 31 (0, 0)), dr p b ps] ∧ ResAt b ps)) (fun iv _ => m - (intOf iv).toNat)
      case atStart => exact ⟨0, _, Nat.zero_le _, rfl, HT4.out, HS.out⟩
      case round =>
        obtain ⟨k, ps, hk, rfl, hth, ho⟩ := hrel.out
        clear hrel k23
        have HTk := Lib.hid hth
        have HOk := Lib.hid ho
        clear hth ho
        by_cases hlt : k < m ∧ 0 < cn
        · obtain ⟨x, hx⟩ : ∃ x, ks[k]? = some x := ⟨_, List.getElem?_eq_getElem (by have := HM.out; omega)⟩
          obtain ⟨g, o, rfl, cx⟩ := HP.out _ HTk.out.is_ext k x hx
          have hlt1 := hlt.1
          have hlt2 := hlt.2
          obtain ⟨i1, hi1⟩ : ∃ i1, i1 = x.toNat % cn := ⟨_, rfl⟩
          have hl1 : i1 < cn := hi1 ▸ Nat.mod_lt _ hlt2
          have e1 : (wrap64 (x.toNat : Int)).tmod (cn : Int) = (i1 : Int) := by rw [hi1]; exact mod_byte x cn
          have HNx := Lib.hid (HOk.out.next (i := i1) (by rw [← HCn.out]; exact hl1))
          have HR1 := Lib.hid (right_part b (k := i1) (by rw [← HCn.out]; exact hl1))
          clear hx hlt hi1
          have HPa := Lib.hid (bPart_any wr.heap.size b (.slice ab b.length cb) i1 wr (bytesOff_any HBb.out HTk.out.is_ext HTk.out.is_ext.size) HN.out (by rw [← HCn.out]; exact hl1))
          go_wp2_with fail
          refine HPa.out.mono ?_
          rintro e w6 ⟨u, rfl, h6⟩
          have hT6 := HTk.out.ext h6.out.2
          have HQ1 := Lib.hid (tput_many (A := [.disk d kF, .gen (hashG (.slice (a) cn c) (hashesL b)), .obj rb (.cells WC 31 (0, 0))]) (B := []) hT6 (HT.out.ext hT6.is_ext) tmpW_some i1 (by rw [← HCn.out]; exact hl1) _ u (ownB_off h6.out.1 (Nat.le_refl _)) HR1.out)
          clear hT6 h6 cx
          go_wp2_with fail
          refine HQ1.out.mono ?_
          rintro e w7 ⟨rfl, h7⟩
          have HT7 := Lib.hid h7
          clear h7 HPa HQ1
          go_wp2_with fail
          go_roundw
          case rel => exact ⟨k + 1, _, by omega, by go_num, HT7.out, HNx.out⟩
          case measure => simp [intOf] <;> omega
        · have hne : m ≤ k ∨ k < m ∧ cn < 1 := by omega
          have hpo := HOk.out.po
          have hf1 := farL_len hpo
          obtain ⟨far, hfar⟩ : ∃ far, far = farL b.length ps := ⟨_, rfl⟩
          have HFar := Lib.hid hfar
          have hfl : (bytesB far).toList = far := toList_mk _
          have hsz : (bytesB far).size = b.length := by rw [← len_toList, hfl, hfar, hf1]
          have hN := HN.out
          have HSv := Lib.hid (tsave_at (A := []) HTk.out (p := p) (r := wantedR b) (N := b.length) (name := tmpW) (ps := ps) (by simp) (HE.out.ext HTk.out.is_ext) tmpW_some hpo (by have := tmpW_size; omega) (kF_run.fit (by decide)) (show kF.act (.write tmpW (bytesB (farL b.length ps)) (wantedR b).time) = (0, kT (bytesB far)) from by rw [← hfar]; exact kT_made _ (by omega)))
          have HKr := Lib.hid (kT_read (bytesB far))
          have HKf := Lib.hid (show DkFit (kT (bytesB far)) from (kT_run _ (by omega)).fit (by decide))
          have HFl := Lib.hid hfl
          have HFz := Lib.hid (show (bytesB far).size ≤ 1048576 from by omega)
          generalize kT (bytesB far) = KT at *
          generalize bytesB far = fb at *
          have HQs := Lib.hid (fun j hj => have_saved hpo HOk.out.ph (k := j) hj)
          have HOq := Lib.hid (openTo_spec b.length (hashesL b) far (countN b.length) (Nat.le_refl _))
          have HLq := Lib.hid (openTo_len b.length (hashesL b) far (countN b.length))
          rw [← hfar] at HQs
          clear hlt hfar hf1 hfl hsz hpo hN
          rcases hne with hne | ⟨hne, hne2⟩
          all_goals
            go_wp2_with fail
            refine HSv.out.mono ?_
            try clear hne2
            rintro e w5 ⟨rfl, h5⟩
            have HT5 := Lib.hid (show Things w w5 ([] ++ .disk d KT :: [.gen (hashG (.slice a cn c) (hashesL b)), .obj rb (.cells WC 31 (0, 0)), dr p b ps]) from h5)
            have HB5 := Lib.hid (obj_many (A := [.disk d KT, .gen (hashG (.slice a cn c) (hashesL b))]) (B := [dr p b ps]) h5)
            obtain ⟨hh1, hh2⟩ := hash_many (A := [.disk d KT]) h5
            have hO := open_at23 HT5.out (HE.out.ext HT5.out.is_ext) (HT.out.ext HT5.out.is_ext) HN.out hh1 hh2 HKr.out HFz.out
            rw [← HWC.out, show (⟨1, fb, emp, 5⟩ : Nd).data.toList = far from HFl.out] at hO
            have HO := Lib.hid hO
            clear hO hh1 hh2 h5
            go_wp2_with (refine wpList_load_row rfl 31 (.tmp 6) rfl rb rfl 31 WC (0, 0) _ HB5.out Tryz.underlying31 rfl HA1.out ?_; go_frame)
            refine HO.out.mono ?_
            rintro e w6 ⟨q, rfl, h6⟩
            have HT6 := Lib.hid (show Things w w6 [.disk d KT, .gen (hashG (.slice a cn c) (hashesL b)), .obj rb (.cells WC 31 (0, 0)), dr p b ps, dr q b (openTo b.length (hashesL b) far (countN b.length))] from h6.out.2)
            clear h6 HO
            have hmk := mkBools w6 cn (by omega)
            have hT7 := HT6.out.ext ((Ext.refl w6).alloc (.cells (Array.replicate cn (.bool false)) 4))
            have HH1 := Lib.hid (thave_many (A := [.disk d KT, .gen (hashG (.slice a cn c) (hashesL b)), .obj rb (.cells WC 31 (0, 0))]) (B := [dr q b (openTo b.length (hashesL b) far (countN b.length))]) hT7 tmpW_some)
            rw [← HCn.out] at HH1
            clear hT7
            go_wp2_with fail
            obtain ⟨L1, hL1⟩ : ∃ L1, L1 = (List.range cn).filter (haveB ps) := ⟨_, rfl⟩
            have HL1 := Lib.hid hL1
            have hL1l : L1.length ≤ 32 := by
              have h1 := List.length_filter_le (haveB ps) (List.range cn)
              rw [List.length_range] at h1
              rw [hL1]
              omega
            rw [← hL1] at HH1
            clear hL1 hmk HSv HT5 HB5 HKr HFz HKf HT4 HTk HOk
            refine HH1.out.mono ?_
            rintro e w7 ⟨u1, rfl, h7⟩
            obtain ⟨a1, c1, rfl⟩ := rowk_shape h7.out.1
            have HG1 := Lib.hid (fun k x hx => row_chg (gw := w6.heap.size) h7.out.1 (by rw [size_alloc]; omega) k x hx)
            have HX7 := Lib.hid (show Ext w6 w7 from ((Ext.refl w6).alloc _).trans h7.out.2)
            have HW7 := Lib.hid ((WantAt.new w6 cn).ext h7.out.2)
            obtain ⟨gw, hgw⟩ : ∃ gw, gw = w6.heap.size := ⟨_, rfl⟩
            have HGw := Lib.hid hgw
            rw [← hgw] at HG1 HW7 ⊢
            obtain ⟨n1, hn1⟩ : ∃ n1, n1 = L1.length := ⟨_, rfl⟩
            have HN1 := Lib.hid hn1
            rw [← hn1] at hL1l ⊢
            clear h7 HH1 hgw hn1
            go_wp2_with fail
            go_loopw [16] (fun iv wr => Hid (∃ i : Nat, i ≤ n1 ∧ iv = .int .i64 i ∧ Chg [gw] w7 wr ∧ WantAt gw cn wr (fun j => (L1.take i).contains j))) (fun iv _ => n1 - (intOf iv).toNat)
            case atStart => exact ⟨0, Nat.zero_le _, rfl, Chg.refl _ _, HW7.out⟩
            case' round =>
              obtain ⟨i, hi, rfl, hx, hw⟩ := hrel.out
              clear hrel
              have HX := Lib.hid hx
              have HW := Lib.hid hw
              by_cases hil : i < n1
              case pos =>
                obtain ⟨x, hx1⟩ : ∃ x, L1[i]? = some x := ⟨_, List.getElem?_eq_getElem (by have := HN1.out; omega)⟩
                obtain ⟨b1, rfl, cx⟩ := HG1.out i x hx1
                have cx1 := cx _ hx
                have hxc : x < cn := (filter_at (i := i) (by rw [← HL1.out]; exact hx1)).1
                have cw := hw.cell hxc
                have fw := hw.free x
                have HNw := Lib.hid (hw.set (G := fun j => (L1.take (i + 1)).contains j) x true hxc fun j hj => by
                  rw [contains_take hx1]
                  by_cases e : j = x
                  · rw [if_pos e, e]; simp
                  · rw [if_neg e, beq_eq_false_iff_ne.2 e, Bool.or_false])
                have HIL := Lib.hid hil
                clear hx hw hx1 cx
                go_wp2_with fail
                first
                | (exfalso; omega)
                | (go_roundw
                   case rel => exact ⟨i + 1, by have := HIL.out; omega, by go_num, HX.out.trans (Chg.setCell _ _ _ (F := [gw]) (by simp)) (fun _ h => .inl h), HNw.out⟩
                   case measure =>
                     have := HIL.out
                     simp [intOf] <;> omega)
              obtain rfl : i = n1 := by omega
              have HW2 := Lib.hid (hw.same (G := fun j => haveB ps j || (decide (j < 0) && zeroB b.length (hashesL b) j)) fun j hj => by
                rw [List.take_of_length_le (by have := HN1.out; omega), HL1.out, contains_filter hj]
                simp)
              have nlt : ¬ (i : Int) < (i : Int) := by omega
              clear hx hw HW HG1
            go_wp2_with fail
            go_loopw [17] (fun iv wq => Hid (∃ i : Nat, i ≤ cn ∧ iv = .int .i64 i ∧ Chg [gw] w7 wq ∧ WantAt gw cn wq (fun j => haveB ps j || (decide (j < i) && zeroB b.length (hashesL b) j)))) (fun iv _ => cn - (intOf iv).toNat)
            case atStart => exact ⟨0, Nat.zero_le _, rfl, HX.out, HW2.out⟩
            case' round =>
              obtain ⟨i3, hi3, rfl, hx3, hw3⟩ := hrel.out
              clear hrel HW2
              have HX3 := Lib.hid hx3
              have HW3 := Lib.hid hw3
              have HE6 := Lib.hid (hx3.ext HX7.out fun y hy => by rw [List.mem_singleton.1 hy, HGw.out]; exact Nat.le_refl _)
              by_cases hil3 : i3 < cn
              case pos =>
                have HE0 := Lib.hid (HT6.out.is_ext.trans HE6.out)
                have HPa := Lib.hid (bPart_any wr.heap.size b (.slice ab b.length cb) i3 wr (bytesOff_any HBb.out HE0.out HE0.out.size) HN.out (by rw [← HCn.out]; exact hil3))
                clear hx3 hw3
                go_wp2_with fail
                refine HPa.out.mono ?_
                rintro e w8 ⟨u, rfl, h8⟩
                obtain ⟨a8, c8, rfl⟩ := rowk_shape h8.out.1
                have HE8 := Lib.hid (h8.out.2)
                have hlp : (partL b i3).length ≤ 128 := by rw [part_len]; have := sizeN_spec b.length; omega
                have hzb := zeroB_part b (k := i3) (by rw [← HCn.out]; exact hil3)
                obtain ⟨y, hy⟩ : ∃ y, (hashesL b)[i3]? = some y := ⟨_, hashesL_get b (by rw [← HCn.out]; exact hil3)⟩
                have hT8 := HT6.out.ext (HE6.out.trans HE8.out)
                obtain ⟨hy32, gh, oh, eh, hry⟩ := (hash_many (A := [.disk d KT]) hT8).1.get hy
                cases eh
                have hzy : zeroB b.length (hashesL b) i3 = decide (shaL (List.replicate (partL b i3).length 0) = y) := by
                  have := hashesL_get b (k := i3) (by rw [← HCn.out]; exact hil3)
                  rw [hy] at this
                  rw [hzb, ← Option.some.inj this]
                have HRB := Lib.hid (obj_many (A := [.disk d KT, .gen (hashG (.slice (some ⟨gh, oh, none⟩) cn c) (hashesL b))]) (B := [dr p b ps, dr q b (openTo b.length (hashesL b) far (countN b.length))]) hT8)
                have HRY := Lib.hid hry
                have HYz := Lib.hid (show (Tryz.prog.info? 45).map (·.size) = some (hArr y 32).size from by rw [hArr_size _ _ hy32 (by omega)]; kernel_rfl)
                have HC8 := Lib.hid ((HW3.out.ext HE8.out).cell hil3)
                have HF8 := Lib.hid ((HW3.out.ext HE8.out).free i3)
                have HTv := Lib.hid (HT.out.ext (HE0.out.trans HE8.out))
                have HSt := Lib.hid (fun w' (x : Ext w8 w') (v : Bool) (hv : (haveB ps i3 || zeroB b.length (hashesL b) i3) = v) => show WantAt gw cn (w'.setCell ⟨gw, i3, none⟩ (.bool v)) (fun j => haveB ps j || (decide (j < i3 + 1) && zeroB b.length (hashesL b) j)) from
                  ((HW3.out.ext HE8.out).ext x).set i3 v hil3 fun j hj => by
                    by_cases e : j = i3
                    · rw [if_pos e, e, ← hv]; simp
                    · rw [if_neg e]
                      have : decide (j < i3 + 1) = decide (j < i3) := by rw [decide_eq_decide]; omega
                      rw [this])
                have HHl := Lib.hid hzy
                clear h8 HPa hT8 hry hzb hy hzy
                generalize (partL b i3).length = ln at *
                generalize zeroB b.length (hashesL b) i3 = zb at *
                go_wp2_with fail
                cases hbw : haveB ps i3
                case' true =>
                  rw [hbw] at HC8 HSt
                  refine wp_region_head (S := fun w' => Ext w8 w') (n := 18) (by kernel_rfl) (by kernel_rfl) ?_
                  have sS : Ext w8 w8.drew := (Ext.refl w8).drew
                  refine HeadAt.take (i := 0) (v := .slice (some ⟨gw, 0, none⟩) cn cn) rfl (by kernel_rfl) (by kernel_rfl) (by kernel_rfl) (by kernel_rfl) (by kernel_rfl) (by kernel_rfl) (by kernel_rfl) (fun _ _ _ h => h) (yieldsIf_move rfl _ rfl rfl) sS ?_
                  go_frame
                  refine HeadAt.take (i := 1) (v := .int .i64 i3) rfl (by kernel_rfl) (by kernel_rfl) (by kernel_rfl) (by kernel_rfl) (by kernel_rfl) (by kernel_rfl) (by kernel_rfl) (fun _ _ _ h => h) (yieldsIf_move rfl _ rfl rfl) sS ?_
                  go_frame
                  refine HeadAt.take (i := 2) (v := .slice (some ⟨gw, 0, none⟩) cn cn) rfl (by kernel_rfl) (by kernel_rfl) (by kernel_rfl) (by kernel_rfl) (by kernel_rfl) (by kernel_rfl) (by kernel_rfl) (fun _ _ _ h => h) (yieldsIf_move rfl _ rfl rfl) sS ?_
                  go_frame
                  refine HeadAt.take (i := 3) (v := .int .i64 i3) rfl (by kernel_rfl) (by kernel_rfl) (by kernel_rfl) (by kernel_rfl) (by kernel_rfl) (by kernel_rfl) (by kernel_rfl) (fun _ _ _ h => h) (yieldsIf_move rfl _ rfl rfl) sS ?_
                  go_frame
                  refine HeadAt.take (i := 4) (v := .pointer (some ⟨gw, i3, none⟩)) rfl (by kernel_rfl) (by kernel_rfl) (by kernel_rfl) (by kernel_rfl) (by kernel_rfl) (by kernel_rfl) (by kernel_rfl) (fun _ _ _ h => h) (Or.inl ⟨rfl, fun w' _ => by go_simp⟩) sS ?_
                  go_frame
                  refine HeadAt.take (i := 5) (v := .bool true) rfl (by kernel_rfl) (by kernel_rfl) (by kernel_rfl) (by kernel_rfl) (by kernel_rfl) (by kernel_rfl) (by kernel_rfl) (fun _ _ _ h => h) (Or.inl ⟨rfl, fun w' hw' => by
                    have hc := (hw'.cell (lt_of_cell HC8.out)).trans HC8.out
                    go_simp⟩) sS ?_
                  go_frame
                  refine HeadAt.take (i := 6) (v := .bool true) rfl (by kernel_rfl) (by kernel_rfl) (by kernel_rfl) (by kernel_rfl) (by kernel_rfl) (by kernel_rfl) (by kernel_rfl) (fun _ _ _ h => h) (yieldsIf_move rfl _ rfl rfl) sS ?_
                  go_frame
                  refine HeadAt.take (i := 7) (v := undef) rfl (by kernel_rfl) (by kernel_rfl) (by kernel_rfl) (by kernel_rfl) (by kernel_rfl) (by kernel_rfl) (by kernel_rfl) (fun _ _ _ h => h) (Or.inr ⟨rfl, rfl⟩) sS ?_
                  go_frame
                  refine HeadAt.take (i := 8) (v := undef) rfl (by kernel_rfl) (by kernel_rfl) (by kernel_rfl) (by kernel_rfl) (by kernel_rfl) (by kernel_rfl) (by kernel_rfl) (fun _ _ _ h => h) (Or.inr ⟨rfl, rfl⟩) sS ?_
                  go_frame
                  refine HeadAt.take (i := 9) (v := undef) rfl (by kernel_rfl) (by kernel_rfl) (by kernel_rfl) (by kernel_rfl) (by kernel_rfl) (by kernel_rfl) (by kernel_rfl) (fun _ _ _ h => h) (Or.inr ⟨rfl, rfl⟩) sS ?_
                  go_frame
                  refine HeadAt.take (i := 10) (v := undef) rfl (by kernel_rfl) (by kernel_rfl) (by kernel_rfl) (by kernel_rfl) (by kernel_rfl) (by kernel_rfl) (by kernel_rfl) (fun _ _ _ h => h) (Or.inr ⟨rfl, rfl⟩) sS ?_
                  go_frame
                  refine HeadAt.take (i := 11) (v := undef) rfl (by kernel_rfl) (by kernel_rfl) (by kernel_rfl) (by kernel_rfl) (by kernel_rfl) (by kernel_rfl) (by kernel_rfl) (fun _ _ _ h => h) (Or.inr ⟨rfl, rfl⟩) sS ?_
                  go_frame
                  refine HeadAt.take (i := 12) (v := undef) rfl (by kernel_rfl) (by kernel_rfl) (by kernel_rfl) (by kernel_rfl) (by kernel_rfl) (by kernel_rfl) (by kernel_rfl) (fun _ _ _ h => h) (Or.inr ⟨rfl, rfl⟩) sS ?_
                  go_frame
                  refine HeadAt.take (i := 13) (v := undef) rfl (by kernel_rfl) (by kernel_rfl) (by kernel_rfl) (by kernel_rfl) (by kernel_rfl) (by kernel_rfl) (by kernel_rfl) (fun _ _ _ h => h) (Or.inr ⟨rfl, rfl⟩) sS ?_
                  go_frame
                  refine HeadAt.take (i := 14) (v := undef) rfl (by kernel_rfl) (by kernel_rfl) (by kernel_rfl) (by kernel_rfl) (by kernel_rfl) (by kernel_rfl) (by kernel_rfl) (fun _ _ _ h => h) (Or.inr ⟨rfl, rfl⟩) sS ?_
                  go_frame
                  refine HeadAt.take (i := 15) (v := undef) rfl (by kernel_rfl) (by kernel_rfl) (by kernel_rfl) (by kernel_rfl) (by kernel_rfl) (by kernel_rfl) (by kernel_rfl) (fun _ _ _ h => h) (Or.inr ⟨rfl, rfl⟩) sS ?_
                  go_frame
                  refine HeadAt.take (i := 16) (v := .bool true) rfl (by kernel_rfl) (by kernel_rfl) (by kernel_rfl) (by kernel_rfl) (by kernel_rfl) (by kernel_rfl) (by kernel_rfl) (fun _ _ _ h => h) (Or.inl ⟨rfl, fun w' _ => by go_simp⟩) sS ?_
                  go_frame
                  refine HeadAt.take (i := 17) (v := .pointer (some ⟨gw, i3, none⟩)) rfl (by kernel_rfl) (by kernel_rfl) (by kernel_rfl) (by kernel_rfl) (by kernel_rfl) (by kernel_rfl) (by kernel_rfl) (fun _ _ _ h => h) (Or.inl ⟨rfl, fun w' _ => by go_simp⟩) sS ?_
                  go_frame
                  refine HeadAt.done (by kernel_rfl) ?_
                  simp only [List.drop_succ_cons, List.drop_zero]
                  have cw := (sS.cell (lt_of_cell HC8.out)).trans HC8.out
                  have fw := (WantAt.free ((HW3.out.ext HE8.out).ext sS) i3)
                  have HNw := Lib.hid (HSt.out _ sS true rfl)
                  have HSx := Lib.hid sS
                  go_wp2_with fail
                  first
                  | (exfalso; omega)
                  | (go_roundw
                     case rel => exact ⟨i3 + 1, by omega, by go_num, ((HX3.out.trans_ext HE8.out).trans_ext HSx.out).trans (Chg.setCell _ _ _ (F := [gw]) (by simp)) (fun _ h => .inl h), HNw.out⟩
                     case measure => simp [intOf] <;> omega)
                case' false =>
                  rw [hbw] at HC8 HSt
                  refine wp_region_head (S := fun w' => Ext w8 w') (n := 18) (by kernel_rfl) (by kernel_rfl) ?_
                  have sS : Ext w8 w8.drew := (Ext.refl w8).drew
                  refine HeadAt.take (i := 0) (v := .slice (some ⟨gw, 0, none⟩) cn cn) rfl (by kernel_rfl) (by kernel_rfl) (by kernel_rfl) (by kernel_rfl) (by kernel_rfl) (by kernel_rfl) (by kernel_rfl) (fun _ _ _ h => h) (yieldsIf_move rfl _ rfl rfl) sS ?_
                  go_frame
                  refine HeadAt.take (i := 1) (v := .int .i64 i3) rfl (by kernel_rfl) (by kernel_rfl) (by kernel_rfl) (by kernel_rfl) (by kernel_rfl) (by kernel_rfl) (by kernel_rfl) (fun _ _ _ h => h) (yieldsIf_move rfl _ rfl rfl) sS ?_
                  go_frame
                  refine HeadAt.take (i := 2) (v := .slice (some ⟨gw, 0, none⟩) cn cn) rfl (by kernel_rfl) (by kernel_rfl) (by kernel_rfl) (by kernel_rfl) (by kernel_rfl) (by kernel_rfl) (by kernel_rfl) (fun _ _ _ h => h) (yieldsIf_move rfl _ rfl rfl) sS ?_
                  go_frame
                  refine HeadAt.take (i := 3) (v := .int .i64 i3) rfl (by kernel_rfl) (by kernel_rfl) (by kernel_rfl) (by kernel_rfl) (by kernel_rfl) (by kernel_rfl) (by kernel_rfl) (fun _ _ _ h => h) (yieldsIf_move rfl _ rfl rfl) sS ?_
                  go_frame
                  refine HeadAt.take (i := 4) (v := .pointer (some ⟨gw, i3, none⟩)) rfl (by kernel_rfl) (by kernel_rfl) (by kernel_rfl) (by kernel_rfl) (by kernel_rfl) (by kernel_rfl) (by kernel_rfl) (fun _ _ _ h => h) (Or.inl ⟨rfl, fun w' _ => by go_simp⟩) sS ?_
                  go_frame
                  refine HeadAt.take (i := 5) (v := .bool false) rfl (by kernel_rfl) (by kernel_rfl) (by kernel_rfl) (by kernel_rfl) (by kernel_rfl) (by kernel_rfl) (by kernel_rfl) (fun _ _ _ h => h) (Or.inl ⟨rfl, fun w' hw' => by
                    have hc := (hw'.cell (lt_of_cell HC8.out)).trans HC8.out
                    go_simp⟩) sS ?_
                  go_frame
                  refine HeadAt.take (i := 6) (v := .bool false) rfl (by kernel_rfl) (by kernel_rfl) (by kernel_rfl) (by kernel_rfl) (by kernel_rfl) (by kernel_rfl) (by kernel_rfl) (fun _ _ _ h => h) (yieldsIf_move rfl _ rfl rfl) sS ?_
                  go_frame
                  refine HeadAt.take (i := 7) (v := .slice a8 ln c8) rfl (by kernel_rfl) (by kernel_rfl) (by kernel_rfl) (by kernel_rfl) (by kernel_rfl) (by kernel_rfl) (by kernel_rfl) (fun _ _ _ h => h) (Or.inl ⟨rfl, fun _ _ => rfl⟩) sS ?_
                  go_frame
                  refine HeadAt.take (i := 8) (v := .int .i64 ln) rfl (by kernel_rfl) (by kernel_rfl) (by kernel_rfl) (by kernel_rfl) (by kernel_rfl) (by kernel_rfl) (by kernel_rfl) (fun _ _ _ h => h) (Or.inl ⟨rfl, fun w' _ => by go_simp⟩) sS ?_
                  go_frame
                  refine HeadAt.take (i := 10) (v := .pointer (some ⟨rb, 23, none⟩)) rfl (by kernel_rfl) (by kernel_rfl) (by kernel_rfl) (by kernel_rfl) (by kernel_rfl) (by kernel_rfl) (by kernel_rfl) (fun _ _ _ h => h) (Or.inl ⟨rfl, fun w' _ => by go_simp⟩) sS ?_
                  go_frame
                  refine HeadAt.take (i := 11) (v := .slice (some ⟨gh, oh, none⟩) cn c) rfl (by kernel_rfl) (by kernel_rfl) (by kernel_rfl) (by kernel_rfl) (by kernel_rfl) (by kernel_rfl) (by kernel_rfl) (fun _ _ _ h => h) (Or.inl ⟨rfl, fun w' hw' => by
                    have hc := (cellB (k := 23) ((hw'.block (ltB HRB.out)).trans HRB.out)).trans HC23.out
                    go_simp⟩) sS ?_
                  go_frame
                  refine HeadAt.take (i := 12) (v := .int .i64 i3) rfl (by kernel_rfl) (by kernel_rfl) (by kernel_rfl) (by kernel_rfl) (by kernel_rfl) (by kernel_rfl) (by kernel_rfl) (fun _ _ _ h => h) (Or.inl ⟨rfl, fun _ _ => rfl⟩) sS ?_
                  go_frame
                  refine HeadAt.take (i := 13) (v := .pointer (some ⟨gh, oh + i3 * 32, none⟩)) rfl (by kernel_rfl) (by kernel_rfl) (by kernel_rfl) (by kernel_rfl) (by kernel_rfl) (by kernel_rfl) (by kernel_rfl) (fun _ _ _ h => h) (Or.inl ⟨rfl, fun w' _ => by go_simp⟩) sS ?_
                  go_frame
                  refine HeadAt.take (i := 14) (v := .agg (hArr y 32)) rfl (by kernel_rfl) (by kernel_rfl) (by kernel_rfl) (by kernel_rfl) (by kernel_rfl) (by kernel_rfl) (by kernel_rfl) (fun _ _ _ h => h) (yieldsIf_load_at rfl 45 (.tmp 132) rfl gh (oh + i3 * 32) rfl (hArr y 32) _ (fun w' hw' j u hj => (hw'.cell (lt_of_cell (HRY.out j u hj))).trans (HRY.out j u hj)) Tryz.underlying45 rfl HYz.out) sS ?_
                  go_frame
                  have s9 : Ext w8 (w8.drew.alloc (.cells (Array.replicate ln (.int .u8 0)) 5)) := sS.alloc _
                  refine HeadAt.one (i := 9) (by kernel_rfl) (by kernel_rfl) rfl rfl (run_makeOp _ _ _ rfl _ _ _ (mkZeros w8.drew ln (by omega))) s9 ?_
                  go_frame
                  have hbo := zeros_off w8.drew ln (by omega)
                  have HVf := bverify_any (List.replicate ln 0) y _ _ (HTv.out.ext s9) hbo (by simp; omega) hy32
                  refine HeadAt.call (i := 15) (F := 20) (args := #[.slice (some ⟨w8.heap.size, 0, none⟩) ln ln, hashV y]) (by kernel_rfl) (by kernel_rfl) rfl rfl (by unfold hashV; go_simp) ?_
                  refine HVf.mono ?_
                  rintro e w9 ⟨rfl, x9⟩
                  have s10 : Ext w8 w9 := s9.trans x9
                  rw [← HHl.out]
                  refine ⟨_, rfl, s10, ?_⟩
                  go_frame
                  refine HeadAt.take (i := 16) (v := .bool zb) rfl (by kernel_rfl) (by kernel_rfl) (by kernel_rfl) (by kernel_rfl) (by kernel_rfl) (by kernel_rfl) (by kernel_rfl) (fun _ _ _ h => h) (Or.inl ⟨rfl, fun w' _ => by go_simp⟩) s10 ?_
                  go_frame
                  refine HeadAt.take (i := 17) (v := .pointer (some ⟨gw, i3, none⟩)) rfl (by kernel_rfl) (by kernel_rfl) (by kernel_rfl) (by kernel_rfl) (by kernel_rfl) (by kernel_rfl) (by kernel_rfl) (fun _ _ _ h => h) (Or.inl ⟨rfl, fun w' _ => by go_simp⟩) s10 ?_
                  go_frame
                  refine HeadAt.done (by kernel_rfl) ?_
                  simp only [List.drop_succ_cons, List.drop_zero]
                  have cw := (s10.cell (lt_of_cell HC8.out)).trans HC8.out
                  have fw := (WantAt.free ((HW3.out.ext HE8.out).ext s10) i3)
                  have HNw := Lib.hid (HSt.out _ s10 zb (by simp))
                  have HSx := Lib.hid s10
                  go_wp2_with fail
                  first
                  | (exfalso; omega)
                  | (go_roundw
                     case rel => exact ⟨i3 + 1, by omega, by go_num, ((HX3.out.trans_ext HE8.out).trans_ext HSx.out).trans (Chg.setCell _ _ _ (F := [gw]) (by simp)) (fun _ h => .inl h), HNw.out⟩
                     case measure => simp [intOf] <;> omega)
              have h3 : cn = i3 := by omega
              have HW4 := Lib.hid (hw3.same (G := fun j => haveB (openTo b.length (hashesL b) far (countN b.length)) j && !(([] : List Nat).contains j)) fun j hj => by
                rw [HQs.out j (by rw [← HCn.out]; exact hj), decide_eq_true (show j < i3 by omega)]
                simp)
              have HH2 := Lib.hid (thave_many (A := [.disk d KT, .gen (hashG (.slice a cn c) (hashesL b)), .obj rb (.cells WC 31 (0, 0)), dr p b ps]) (B := []) (HT6.out.ext HE6.out) tmpW_some)
              have hgl := hw3.lt
              have n3 : ¬ (i3 : Int) < (cn : Int) := by omega
              clear hx3 hw3 HX3 HX HW3 HW7 h3
            go_wp2_with fail
            obtain ⟨QH, hQH⟩ : ∃ QH, QH = haveB (openTo b.length (hashesL b) far (countN b.length)) := ⟨_, rfl⟩
            have HQH := Lib.hid hQH
            rw [← hQH] at HH2 HW4
            rw [← HCn.out] at HH2
            obtain ⟨L2, hL2⟩ : ∃ L2, L2 = (List.range cn).filter QH := ⟨_, rfl⟩
            have HL2 := Lib.hid hL2
            have hL2l : L2.length ≤ 32 := by
              have h1 := List.length_filter_le QH (List.range cn)
              rw [List.length_range] at h1
              rw [hL2]
              omega
            rw [← hL2] at HH2
            clear hL2 hQH n3
            refine HH2.out.mono ?_
            rintro e w10 ⟨u2, rfl, h10⟩
            obtain ⟨a2, c2, rfl⟩ := rowk_shape h10.out.1
            have HG2 := Lib.hid (fun k x hx => row_chg (gw := gw) h10.out.1 hgl k x hx)
            have HX10 := Lib.hid (HE6.out.trans h10.out.2)
            have HW10 := Lib.hid (HW4.out.ext h10.out.2)
            obtain ⟨n2, hn2⟩ : ∃ n2, n2 = L2.length := ⟨_, rfl⟩
            have HN2 := Lib.hid hn2
            rw [← hn2] at hL2l ⊢
            clear h10 HH2 hn2 hgl HW4 HE6
            go_wp2_with fail
            go_loopw [19] (fun iv wq => Hid (∃ i : Nat, i ≤ n2 ∧ iv = .int .i64 i ∧ Chg [gw] w10 wq ∧ WantAt gw cn wq (fun j => QH j && !((L2.take i).contains j)))) (fun iv _ => n2 - (intOf iv).toNat)
            case atStart => exact ⟨0, Nat.zero_le _, rfl, Chg.refl _ _, HW10.out⟩
            case' round =>
              obtain ⟨i4, hi4, rfl, hx4, hw4⟩ := hrel.out
              clear hrel HW10
              have HX4 := Lib.hid hx4
              have HW4 := Lib.hid hw4
              by_cases hil4 : i4 < n2
              case pos =>
                obtain ⟨x, hxl⟩ : ∃ x, L2[i4]? = some x := ⟨_, List.getElem?_eq_getElem (by have := HN2.out; omega)⟩
                obtain ⟨b2, rfl, cx⟩ := HG2.out i4 x hxl
                have cx1 := cx _ hx4
                have hxf := filter_at (i := i4) (by rw [← HL2.out]; exact hxl)
                rw [← HL2.out] at hxf
                have hxc := hxf.1
                have cw : wr.cell? ⟨gw, x, none⟩ = some (.bool true) := by
                  have := hw4.cell hxc
                  rw [hxf.2.1, hxf.2.2] at this
                  exact this
                have fw := hw4.free x
                have HNw := Lib.hid (hw4.set (G := fun j => QH j && !((L2.take (i4 + 1)).contains j)) x false hxc fun j hj => by
                  rw [contains_take hxl]
                  by_cases e : j = x
                  · rw [if_pos e, e]; simp
                  · rw [if_neg e, beq_eq_false_iff_ne.2 e, Bool.or_false])
                have HIL := Lib.hid hil4
                clear hx4 hw4 hxl cx hxf
                go_wp2_with fail
                first
                | (exfalso; omega)
                | (go_roundw
                   case rel => exact ⟨i4 + 1, by have := HIL.out; omega, by go_num, HX4.out.trans (Chg.setCell _ _ _ (F := [gw]) (by simp)) (fun _ h => .inl h), HNw.out⟩
                   case measure =>
                     have := HIL.out
                     simp [intOf] <;> omega)
              have h4 : n2 = i4 := by omega
              have HW5 := Lib.hid (hw4.same (G := fun _ => false) fun j hj => by
                rw [List.take_of_length_le (by have := HN2.out; omega), HL2.out, contains_filter hj]
                simp)
              have n4 : ¬ (i4 : Int) < (n2 : Int) := by omega
              clear hx4 hw4 HG2 HW4 h4
            go_wp2_with fail
            clear n4
            go_loopw [20] (fun iv wq => Hid (∃ i : Nat, i ≤ cn ∧ iv = .int .i64 i ∧ Chg [gw] w10 wq ∧ WantAt gw cn wq (fun _ => false))) (fun iv _ => cn - (intOf iv).toNat)
            case atStart => exact ⟨0, Nat.zero_le _, rfl, HX4.out, HW5.out⟩
            case' round =>
              obtain ⟨i5, hi5, rfl, hx5, hw5⟩ := hrel.out
              clear hrel HW5 HX4
              have HX5 := Lib.hid hx5
              have HW5 := Lib.hid hw5
              by_cases hil5 : i5 < cn
              case pos =>
                have cw := hw5.cell hil5
                have HIL := Lib.hid hil5
                clear hx5 hw5
                go_wp2_with fail
                first
                | (exfalso; omega)
                | (go_roundw
                   case rel => exact ⟨i5 + 1, by have := HIL.out; omega, by go_num, HX5.out, HW5.out⟩
                   case measure =>
                     have := HIL.out
                     simp [intOf] <;> omega)
              have n5 : ¬ (i5 : Int) < (cn : Int) := by omega
              have HE5 := Lib.hid (hx5.ext HX10.out fun y hy => by rw [List.mem_singleton.1 hy, HGw.out]; exact Nat.le_refl _)
              clear hx5 hw5 HW5 HX5
            go_wp2_with fail
            clear n5
            have HAk := Lib.hid (tasked_many (A := [.disk d KT, .gen (hashG (.slice a cn c) (hashesL b)), .obj rb (.cells WC 31 (0, 0)), dr p b ps]) (B := []) (HT6.out.ext HE5.out) tmpW_some)
            have HR0 := Lib.hid (show ResAt b (openTo b.length (hashesL b) far (countN b.length)) from ⟨HLq.out, HOq.out.1, HOq.out.2.1⟩)
            rw [show (wantedR b).hs = hashesL b from rfl] at HAk
            generalize openTo b.length (hashesL b) far (countN b.length) = qs0 at *
            obtain ⟨L3, hL3⟩ : ∃ L3, L3 = (List.range (countN b.length)).filter (askB b.length (hashesL b) qs0) := ⟨_, rfl⟩
            have HL3 := Lib.hid hL3
            have hL3l : L3.length ≤ 32 := by
              have h1 := List.length_filter_le (askB b.length (hashesL b) qs0) (List.range (countN b.length))
              rw [List.length_range] at h1
              rw [hL3]
              have := HCn.out
              omega
            rw [← hL3] at HAk
            clear hL3
            refine HAk.out.mono ?_
            rintro e w11 ⟨u3, rfl, h11⟩
            obtain ⟨a3, c3, rfl⟩ := rowk_shape h11.out.1
            have HT11 := Lib.hid (show Things w w11 ([.disk d KT, .gen (hashG (.slice a cn c) (hashesL b)), .obj rb (.cells WC 31 (0, 0)), dr p b ps, dr q b qs0] ++ [.gen (rowG a3 L3)]) from (HT6.out.ext HE5.out).row h11.out.2 h11.out.1 (Nat.le_refl _))
            obtain ⟨n3, hn3⟩ : ∃ n3, n3 = L3.length := ⟨_, rfl⟩
            have HN3 := Lib.hid hn3
            rw [← hn3] at hL3l ⊢
            clear h11 HAk hn3 HT6 HE5
            go_wp2_with fail
            go_loopw [22] (fun iv wq => Hid (∃ (i : Nat) (qs : List (Option (List UInt8))), i ≤ n3 ∧ iv = .int .i64 i ∧ Things w wq [.disk d KT, .gen (hashG (.slice a cn c) (hashesL b)), .obj rb (.cells WC 31 (0, 0)), dr p b ps, dr q b qs, .gen (rowG a3 L3)] ∧ ResAt b qs ∧ (∀ j, j < countN b.length → haveB qs0 j = true → haveB qs j = true) ∧ ∀ j x, j < i → L3[j]? = some x → haveB qs x = true)) (fun iv _ => n3 - (intOf iv).toNat)
            case atStart => exact ⟨0, qs0, Nat.zero_le _, rfl, HT11.out, HR0.out, fun _ _ h => h, fun _ _ h => by omega⟩
            case' round =>
              obtain ⟨i6, qs, hi6, rfl, hth6, hr6, ho6, hn6⟩ := hrel.out
              clear hrel HT11
              have HTq := Lib.hid hth6
              have HRq := Lib.hid hr6
              have HOl := Lib.hid ho6
              have HNl := Lib.hid hn6
              clear hth6 hr6 ho6 hn6
              by_cases hil6 : i6 < n3
              case pos =>
                obtain ⟨x, hxl⟩ : ∃ x, L3[i6]? = some x := ⟨_, List.getElem?_eq_getElem (by have := HN3.out; omega)⟩
                obtain ⟨g3, rfl, cx⟩ := row_many (A := [.disk d KT, .gen (hashG (.slice a cn c) (hashesL b)), .obj rb (.cells WC 31 (0, 0)), dr p b ps, dr q b qs]) (B := []) HTq.out i6 x hxl
                have hxc := (filter_at (i := i6) (by rw [← HL3.out]; exact hxl)).1
                have HNr := Lib.hid (HRq.out.next (i := x) hxc)
                have HNo := Lib.hid (show ∀ j, j < countN b.length → haveB qs0 j = true → haveB (fillP b.length (hashesL b) x (partL b x) qs) j = true from fun j hj h => haveB_more (right_part b hxc) HRq.out.pl hj (HOl.out j hj h))
                have HNn := Lib.hid (show ∀ j y, j < i6 + 1 → L3[j]? = some y → haveB (fillP b.length (hashesL b) x (partL b x) qs) y = true from fun j y hj hy => by
                  have hyc := (filter_at (i := j) (by rw [← HL3.out]; exact hy)).1
                  by_cases e : j = i6
                  · rw [e, hxl] at hy
                    cases hy
                    exact haveB_self (right_part b hxc) HRq.out.pl hxc
                  · exact haveB_more (right_part b hxc) HRq.out.pl hyc (HNl.out j y (by omega) hy))
                have HIL := Lib.hid hil6
                have HXL := Lib.hid hxl
                have HXC := Lib.hid hxc
                have hxc2 : x < cn := by rw [HCn.out]; exact hxc
                clear hxl hxc
                go_wp2_with fail
                refine wp_region_held (S := fun w' => w'.cell? ⟨g3, i6, none⟩ = some (.int .i64 x)) (by kernel_rfl) ?_
                change wpAnyH _ _ _ _ _ _ _ _ (World.drew _)
                have sD : Ext wr wr.drew := (Ext.refl wr).drew
                have sS : wr.drew.cell? ⟨g3, i6, none⟩ = some (.int .i64 x) := (sD.cell (lt_of_cell cx)).trans cx
                refine wpAnyH_takeL (i := 0) (v := .pointer (some ⟨q, 0, none⟩)) rfl (by kernel_rfl) (by kernel_rfl) (by kernel_rfl) (fun _ _ _ h => h) (yieldsIf_move rfl _ rfl rfl) sS ?_
                go_frame
                refine wpAnyH_takeL (i := 1) (v := .slice (some ⟨g3, 0, none⟩) n3 c3) rfl (by kernel_rfl) (by kernel_rfl) (by kernel_rfl) (fun _ _ _ h => h) (yieldsIf_move rfl _ rfl rfl) sS ?_
                go_frame
                refine wpAnyH_takeL (i := 2) (v := .int .i64 i6) rfl (by kernel_rfl) (by kernel_rfl) (by kernel_rfl) (fun _ _ _ h => h) (yieldsIf_move rfl _ rfl rfl) sS ?_
                go_frame
                refine wpAnyH_takeL (i := 3) (v := .pointer (some ⟨g3, i6, none⟩)) rfl (by kernel_rfl) (by kernel_rfl) (by kernel_rfl) (fun _ _ _ h => h) (Or.inl ⟨rfl, fun w' _ => by go_simp⟩) sS ?_
                go_frame
                refine wpAnyH_takeL (i := 4) (v := .int .i64 x) rfl (by kernel_rfl) (by kernel_rfl) (by kernel_rfl) (fun _ _ _ h => h) (Or.inl ⟨rfl, fun w' hw' => by
                  have hc := hw'
                  go_simp⟩) sS ?_
                go_frame
                refine wpAnyH_takeL (i := 5) (v := .slice ab b.length cb) rfl (by kernel_rfl) (by kernel_rfl) (by kernel_rfl) (fun _ _ _ h => h) (yieldsIf_move rfl _ rfl rfl) sS ?_
                go_frame
                refine wpAnyH_takeL (i := 6) (v := .slice (some ⟨g3, 0, none⟩) n3 c3) rfl (by kernel_rfl) (by kernel_rfl) (by kernel_rfl) (fun _ _ _ h => h) (yieldsIf_move rfl _ rfl rfl) sS ?_
                go_frame
                refine wpAnyH_takeL (i := 7) (v := .int .i64 i6) rfl (by kernel_rfl) (by kernel_rfl) (by kernel_rfl) (fun _ _ _ h => h) (yieldsIf_move rfl _ rfl rfl) sS ?_
                go_frame
                refine wpAnyH_takeL (i := 8) (v := .pointer (some ⟨g3, i6, none⟩)) rfl (by kernel_rfl) (by kernel_rfl) (by kernel_rfl) (fun _ _ _ h => h) (Or.inl ⟨rfl, fun w' _ => by go_simp⟩) sS ?_
                go_frame
                refine wpAnyH_takeL (i := 9) (v := .int .i64 x) rfl (by kernel_rfl) (by kernel_rfl) (by kernel_rfl) (fun _ _ _ h => h) (Or.inl ⟨rfl, fun w' hw' => by
                  have hc := hw'
                  go_simp⟩) sS ?_
                go_frame
                have hTd := HTq.out.ext sD
                have HPt := bPart_any wr.drew.heap.size b (.slice ab b.length cb) x wr.drew (bytesOff_any HBb.out hTd.is_ext hTd.is_ext.size) HN.out HXC.out
                refine wpAnyH_call (i := 10) (F := 17) (args := #[.slice ab b.length cb, .int .i64 x]) (by kernel_rfl) rfl rfl (by go_simp) ?_
                refine HPt.mono ?_
                rintro e w12 ⟨u, rfl, h12⟩
                have s12 : w12.cell? ⟨g3, i6, none⟩ = some (.int .i64 x) := (h12.out.2.cell (lt_of_cell sS)).trans sS
                refine ⟨_, rfl, s12, ?_⟩
                go_frame
                have hT12 := hTd.ext h12.out.2
                have HQ := tput_many (A := [.disk d KT, .gen (hashG (.slice a cn c) (hashesL b)), .obj rb (.cells WC 31 (0, 0)), dr p b ps]) (B := [.gen (rowG (some ⟨g3, 0, none⟩) L3)]) hT12 (HT.out.ext hT12.is_ext) tmpW_some x HXC.out _ u (ownB_off h12.out.1 (Nat.le_refl _)) (right_part b HXC.out)
                refine wpAnyH_call (i := 11) (F := 16) (args := #[.pointer (some ⟨q, 0, none⟩), .int .i64 x, u]) (by kernel_rfl) rfl rfl (by go_simp) ?_
                refine HQ.mono ?_
                rintro e w13 ⟨rfl, h13⟩
                have HT13 := Lib.hid h13
                have s13 : w13.cell? ⟨g3, i6, none⟩ = some (.int .i64 x) := by
                  obtain ⟨g', e', hc'⟩ := row_many (A := [.disk d KT, .gen (hashG (.slice a cn c) (hashesL b)), .obj rb (.cells WC 31 (0, 0)), dr p b ps, dr q b (fillP b.length (hashesL b) x (partL b x) qs)]) (B := []) HT13.out i6 x HXL.out
                  cases e'
                  exact hc'
                refine ⟨_, rfl, s13, ?_⟩
                go_frame
                clear HQ hT12 h12 HPt hTd h13
                refine wpAnyH_takeL (i := 12) (v := .bool false) rfl (by kernel_rfl) (by kernel_rfl) (by kernel_rfl) (fun _ _ _ h => h) (Or.inl ⟨rfl, fun w' _ => by go_simp⟩) s13 ?_
                go_frame
                refine wpAnyH_done (by kernel_rfl) ?_ _
                clear sS s12 s13 sD cx
                go_wp2_with fail
                first
                | (exfalso; omega)
                | (go_roundw
                   case rel => exact ⟨i6 + 1, _, by have := HIL.out; omega, by go_num, HT13.out, HNr.out, HNo.out, HNn.out⟩
                   case measure =>
                     have := HIL.out
                     simp [intOf] <;> omega)
              have hall := have_all (N := b.length) (hs := hashesL b) (ps := qs0) HRq.out.ph HOl.out fun j hj ha => by
                obtain ⟨jj, hjj⟩ := List.getElem?_of_mem (show j ∈ L3 from by rw [HL3.out, List.mem_filter, List.mem_range]; exact ⟨hj, ha⟩)
                exact HNl.out jj j (by have := (List.getElem?_eq_some_iff.1 hjj).1; have := HN3.out; omega) hjj
              have HHf := Lib.hid (hashes_far HRq.out.po hall (hashesL_len b))
              have HDo := Lib.hid (done_all (N := b.length) (hs := hashesL b) hall)
              have n6 : ¬ (i6 : Int) < (n3 : Int) := by omega
              clear hall
            go_wp2_with fail
            clear n6
            have hDa := tdata_many (A := [.disk d KT, .gen (hashG (.slice a cn c) (hashesL b)), .obj rb (.cells WC 31 (0, 0)), dr p b ps]) (B := [.gen (rowG a3 L3)]) HTq.out tmpW_some HRq.out.po
            rw [show (wantedR b).hs = hashesL b from rfl, HDo.out] at hDa
            have HDa := Lib.hid hDa
            have hfq := farL_len HRq.out.po
            obtain ⟨fq, hfqe⟩ : ∃ fq, fq = farL b.length qs := ⟨_, rfl⟩
            rw [← hfqe] at HHf hfq HDa
            clear hDa hfqe
            refine HDa.out.mono ?_
            rintro e w14 ⟨u14, rfl, h14⟩
            have hr14 := h14.out.2.2 rfl
            have HT14 := Lib.hid (HTq.out.ext h14.out.1)
            rw [← hfq] at hr14
            obtain ⟨a14, c14, rfl⟩ := rowk_shape hr14
            have hLi := blist_any fq _ w14 (HT.out.ext HT14.out.is_ext) (ownB_off hr14 (Nat.le_refl _)) (by rw [hfq]; exact HN.out)
            rw [HHf.out] at hLi
            rw [hfq] at hLi hr14 ⊢
            have HLi := Lib.hid hLi
            clear hLi h14 hr14 HDa
            go_wp2_with fail
            refine HLi.out.mono ?_
            rintro e w15 ⟨u15, rfl, h15⟩
            obtain ⟨a15, c15, rfl⟩ := rowk_shape h15.out.1
            have HT15 := Lib.hid (HT14.out.ext h15.out.2)
            have HH15 := Lib.hid (hashes_row h15.out.1).1
            have hDn := tdone_many (A := [.disk d KT, .gen (hashG (.slice a cn c) (hashesL b)), .obj rb (.cells WC 31 (0, 0)), dr p b ps]) (B := [.gen (rowG a3 L3)]) HT15.out tmpW_some
            rw [show (wantedR b).hs = hashesL b from rfl, HDo.out] at hDn
            have HDn := Lib.hid hDn
            rw [← HCn.out]
            have z1 : ((b.length : Int) != (b.length : Int)) = false := bne_self_eq_false _
            have z2 : ((cn : Int) != (cn : Int)) = false := bne_self_eq_false _
            clear hDn h15 HLi
            go_wp2_with fail
            refine HDn.out.mono ?_
            rintro e w16 ⟨rfl, x16⟩
            have HT16 := Lib.hid (HT15.out.ext x16)
            have HH16 := Lib.hid (HH15.out.ext x16)
            clear x16 HDn
            go_wp2_with fail
            go_loopw [27] (fun iv wq => Hid (∃ i : Nat, i ≤ cn ∧ iv = .int .i64 i ∧ Ext w16 wq)) (fun iv _ => cn - (intOf iv).toNat)
            case atStart => exact ⟨0, Nat.zero_le _, rfl, Ext.refl _⟩
            case' round =>
              obtain ⟨i7, hi7, rfl, hx7⟩ := hrel.out
              clear hrel
              have HX7' := Lib.hid hx7
              by_cases hil7 : i7 < cn
              case pos =>
                first
                | (exfalso; omega)
                | (obtain ⟨y, hy⟩ : ∃ y, (hashesL b)[i7]? = some y := ⟨_, hashesL_get b (by rw [← HCn.out]; exact hil7)⟩
                   have hT7 := HT16.out.ext hx7
                   obtain ⟨hy32, gh, oh, eh, hry⟩ := (hash_many (A := [.disk d KT]) hT7).1.get hy
                   cases eh
                   obtain ⟨_, gl, ol, el, hrl⟩ := (HH16.out.ext hx7).get hy
                   cases el
                   have hbk := obj_many (A := [.disk d KT, .gen (hashG (.slice (some ⟨gh, oh, none⟩) cn c) (hashesL b))]) (B := [dr p b ps, dr q b qs, .gen (rowG a3 L3)]) hT7
                   have k23 := After.cell ((cellB (k := 23) hbk).trans HC23.out)
                   have HRY := Lib.hid (show ∀ w', (∃ z : After wr, w' = z.v) → w'.rangeAt gh (oh + i7 * 32) (hArr y 32).toList from by
                     rintro _ ⟨z, rfl⟩
                     exact fun j u hj => (z.x.cell (lt_of_cell (hry j u hj))).trans (hry j u hj))
                   have HRL := Lib.hid (show ∀ w', (∃ z : After wr, w' = z.v) → w'.rangeAt gl (ol + i7 * 32) (hArr y 32).toList from by
                     rintro _ ⟨z, rfl⟩
                     exact fun j u hj => (z.x.cell (lt_of_cell (hrl j u hj))).trans (hrl j u hj))
                   have HYz := Lib.hid (show (Tryz.prog.info? 45).map (·.size) = some (hArr y 32).size from by rw [hArr_size _ _ hy32 (by omega)]; kernel_rfl)
                   have heq := eq_hash y y hy32 hy32
                   rw [decide_eq_true rfl] at heq
                   have HIL := Lib.hid hil7
                   clear hx7 hT7 hry hrl hbk hy
                   generalize hArr y 32 = AY at *
                   go_wp2_with fail
                   refine wp_region_after (by kernel_rfl) (by kernel_rfl) ?_
                   iterate 3 go_big_quiet_step (fail)
                   refine wpQuiet_load_at rfl 45 (.tmp 230) rfl gl (ol + i7 * 32) rfl AY _ HRL.out Tryz.underlying45 rfl HYz.out ?_
                   go_frame
                   iterate 4 go_big_quiet_step (fail)
                   refine wpQuiet_load_at rfl 45 (.tmp 235) rfl gh (oh + i7 * 32) rfl AY _ HRY.out Tryz.underlying45 rfl HYz.out ?_
                   go_frame
                   repeat (go_big_quiet_step (fail))
                   refine wpQuiet_nil ?_
                   rintro _ ⟨z, rfl⟩
                   clear k23 heq
                   go_wp2_with fail
                   first
                   | (exfalso; omega)
                   | (go_roundw
                      case rel => exact ⟨i7 + 1, by have := HIL.out; omega, by go_num, HX7'.out.trans z.x⟩
                      case measure =>
                        have := HIL.out
                        simp [intOf] <;> omega))
              have n7 : ¬ (i7 : Int) < (cn : Int) := by omega
              have HX17 := Lib.hid (HT16.out.is_ext.trans hx7)
              clear hx7
            go_wp2_with fail
            refine (AW _ HX17.out).out.mono ?_
            rintro e w18 ⟨rfl, x18⟩
            have HX18 := Lib.hid (HX17.out.trans x18)
            clear x18
            go_wp2_with fail
            go_ret
            exact ⟨rfl, HX18.out⟩

-- BEGUN
set_option maxRecDepth 100000 in
theorem begun {H : Type} {enc : TypeId × Value → H} (W : World) (args : Array Value) (ds : List (DataW H)) (p : List MemPlace) (st : Start enc Rows.tempResumesRow.laid Tryz.f3 W args ds p) :
    Calls Tryz.prog 3 args W fun e W' => e = .returned (.bool true) ∧ Below W.heap.size W W' := by
  obtain ⟨⟨base, hval⟩, hA, hfit, hl, hsh⟩ := st
  rw [Tryz.params3] at hA hval hfit
  obtain ⟨v0, v1, d0, d1, p0, p1, rfl, rfl, rfl, h0, h1⟩ := trodAll_two hA
  have hfit : ((DataW.weightsEach Tryz.prog [22, 22] [d0, d1]).all (· ≤ reachBytes)) = true := hfit
  simp only [DataW.weightsEach, List.append_nil, List.all_append, Bool.and_eq_true] at hfit
  obtain ⟨b, hb2⟩ := open_bytes_arg (hval 0 22 v0 rfl rfl) h0 hfit.1
  obtain ⟨ks, hk2⟩ := open_bytes_arg (hval 1 22 v1 rfl rfl) h1 hfit.2
  exact walk v0 v1 b ks W hb2 hk2 (env_of hsh) (sha_of hl 1 2 rfl rfl)

set_option maxRecDepth 100000 in
theorem said : Rows.TempResumesSaid :=
  OpenClaim.holds_of_wide 3 Tryz.f3 rfl rfl rfl rfl rfl rfl rfl ⟨rfl, rfl, rfl, rfl, rfl⟩ rfl rfl rfl rfl rfl named Tryz.func3 facts
    (of_decide_eq_true (by kernel_rfl)) (by unfold Func.isWrapper; first | (rw [if_pos (by decide +kernel)]; kernel_rfl) | (rw [if_neg (by decide +kernel)]; exact ⟨rfl, rfl⟩))
    (fun os started H enc _ => lifted Rows.tempResumesRow.laid (by kernel_rfl) 3 Tryz.f3 Tryz.func3 Rows.tempResumesSpec rfl (by kernel_rfl) (by kernel_rfl)
      (by rw [Tryz.params3]
          have hall : ([22, 22].all fun t => Tryz.prog.readableRec t && decide (t < Tryz.prog.types.size)) = true := by kernel_rfl
          intro t ht
          have := List.all_eq_true.1 hall t ht
          simpa using this)
      (by intro H ts ds h hl; rw [Tryz.params3] at h; subst h
          match ds, hl with
          | [d1, d2], _ => rfl)
      Rows.tempResumesRow.domain os started H enc #[.slice none 0 0, .slice none 0 0] (by kernel_rfl) (by kernel_rfl) (by kernel_rfl)
      (World.shaped_of_ZipB (by kernel_rfl) (by kernel_rfl)) (laidMet_laidAll _ (by kernel_rfl) (by kernel_rfl))
      begun)

theorem card : Rows.TempResumesCardSaid :=
  Claim7.holds_tied_plain_at .later [] Rows.tempResumesCard.laidKinds true Rows.tempResumesCard.stood.harness Rows.tempResumesCard.stood.looks said (fun _ h => by cases h) (by kernel_rfl) (fun _ h => by cases h) tempResumes_row_tie rfl ⟨rfl, rfl⟩ (by kernel_rfl) rfl
    (fun f fn hf hfn => by
      obtain rfl : f = 3 := Option.some.inj ((show Tryz.prog.funcNamed Rows.tempResumesRow.func = some 3 by kernel_rfl).symm.trans hf) |>.symm
      obtain rfl : fn = Tryz.f3 := (Option.some.inj (Tryz.func3.symm.trans hfn)).symm
      exact ⟨by kernel_rfl, fun j t ht => by
        rw [Tryz.params3] at ht
        have hm : t ∈ [22, 22] := by simpa using Array.mem_of_getElem? ht
        have hall : ([22, 22].all fun u => !Tryz.prog.wantsStandIn u) = true := by kernel_rfl
        exact (show Tryz.prog.wantsStandIn t = false by simpa using List.all_eq_true.1 hall t hm)⟩)
    (by kernel_rfl)
#print axioms card
end Go.Proofs.YtldppmjjgljinaaGreatDoor.lawTempResumes
