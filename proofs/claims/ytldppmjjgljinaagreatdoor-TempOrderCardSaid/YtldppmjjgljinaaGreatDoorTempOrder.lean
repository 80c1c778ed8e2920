/- TempOrder: the order in which blocks are put, and how often, makes no difference to which blocks a draft has, and what is dropped leaves nothing behind: the statement TempOrderCardSaid, with no condition of its own. -/
import Derived.Test.YtldppmjjgljinaaGreatDoorPathEnv
import Derived.Test.YtldppmjjgljinaaGreatDoorShaEnv
import Derived.Test.YtldppmjjgljinaaGreatDoorActs
import Derived.Test.YtldppmjjgljinaaGreatDoorLawTpC
import Derived.Test.YtldppmjjgljinaaGreatDoorTempOrderF
namespace Go.Proofs.YtldppmjjgljinaaGreatDoor.lawTempOrder
open Go.ChangeShapes Go.WideShapes Go.ChangeAt Go.RowKit
open Go.ChangeMaps (open_string)

/-- Behind k puts, from the front and from the back: which blocks both have. -/
structure OrdAt (b ks : List UInt8) (k : Nat) (ps qs : List (Option (List UInt8))) : Prop where
  pl : ps.length = countN b.length
  ql : qs.length = countN b.length
  po : PsOk b.length (hashesL b) ps
  qo : PsOk b.length (hashesL b) qs
  ph : ∀ j, j < countN b.length → haveB ps j = (ks.take k).any fun x => sameB b.length (hashesL b) j (x.toNat % countN b.length)
  qh : ∀ j, j < countN b.length → haveB qs j = (ks.drop (ks.length - k)).any fun x => sameB b.length (hashesL b) j (x.toNat % countN b.length)
theorem OrdAt.start (b ks : List UInt8) : OrdAt b ks 0 (List.replicate (countN b.length) none) (List.replicate (countN b.length) none) :=
  ⟨by simp, by simp, PsOk.none _ _ _, PsOk.none _ _ _, fun j _ => by simp [haveB_none], fun j _ => by simp [haveB_none]⟩
theorem OrdAt.next {b ks : List UInt8} {k : Nat} {ps qs : List (Option (List UInt8))} (h : OrdAt b ks k ps qs) {x y : UInt8} (hk : k < ks.length) (hx : ks[k]? = some x) (hy : ks[ks.length - 1 - k]? = some y) (hc : 0 < countN b.length) :
    OrdAt b ks (k + 1) (fillP b.length (hashesL b) (x.toNat % countN b.length) (partL b (x.toNat % countN b.length)) ps)
      (fillP b.length (hashesL b) (y.toNat % countN b.length) (partL b (y.toNat % countN b.length)) (fillP b.length (hashesL b) (y.toNat % countN b.length) (partL b (y.toNat % countN b.length)) qs)) := by
  have hrx := right_part b (Nat.mod_lt x.toNat hc)
  have hry := right_part b (Nat.mod_lt y.toNat hc)
  refine ⟨by rw [fillP_len]; exact h.pl, by rw [fillP_len, fillP_len]; exact h.ql, h.po.fill hrx, (h.qo.fill hry).fill hry, fun j hj => ?_, fun j hj => ?_⟩
  · rw [haveB_put hrx h.pl hj, h.ph j hj, any_take hx]
  · rw [haveB_put hry (by rw [fillP_len]; exact h.ql) hj, haveB_put hry h.ql hj, h.qh j hj, any_drop hk hy, Bool.or_assoc, Bool.or_self]
theorem OrdAt.same {b ks : List UInt8} {k : Nat} {ps qs : List (Option (List UInt8))} (h : OrdAt b ks k ps qs) (he : k = ks.length ∨ countN b.length = 0) : ∀ j, j < countN b.length → haveB ps j = haveB qs j := fun j hj => by
  rcases he with rfl | he
  · rw [h.ph j hj, h.qh j hj, List.take_length, Nat.sub_self, List.drop_zero]
  · omega
set_option maxRecDepth 100000 in
set_option maxHeartbeats 4000000 in
theorem walk (vb vp : Value) (b ks : List UInt8) (w : World) (hb : BytesIn w vb b) (hp : BytesIn w vp ks) (E : Env w) (T : ShaTabs w) : Calls Tryz.prog 8 #[vb, vp] w fun e w' => e = .returned (.bool true) ∧ Below w.heap.size w w' := by
  have AW := fun w1 (x : Ext w w1) => Lib.hid (awake23_any w1 (E.ext x) (T.ext x))
  obtain ⟨ab, cb, rfl, hb1, hb2, hb3, hb4⟩ := hb
  obtain ⟨ap, cp, rfl, hp1, hp2, hp3, hp4⟩ := hp
  have HBb := Lib.hid (bytesOff_in ⟨ab, cb, rfl, hb1, hb2, hb3, hb4⟩)
  have HP := Lib.hid (fun w1 (x : Ext w w1) => bytes_get ⟨ap, cp, rfl, hp1, hp2, hp3, hp4⟩ x)
  unfold reach at hb3 hp3
  by_cases hn : 4096 < b.length
  · have g1 : decide ((4096 : Int) < (b.length : Int)) = true := decide_eq_true (by omega)
    clear hb4 hp4 E T
    go_enter Tryz.func8, Tryz.ntmps8
    go_wp2_with fail
    refine (AW _ (Ext.refl _)).out.mono ?_
    rintro e w2 ⟨rfl, x2⟩
    have HX2 := Lib.hid x2
    clear x2
    go_wp2_with fail
    go_ret
    exact ⟨rfl, HX2.out⟩
  · have g1 : decide ((4096 : Int) < (b.length : Int)) = false := decide_eq_false (by omega)
    by_cases hm : 60 < ks.length
    · have g2 : decide ((60 : Int) < (ks.length : Int)) = true := decide_eq_true (by omega)
      clear hb4 hp4 E T
      go_enter Tryz.func8, Tryz.ntmps8
      go_wp2_with fail
      refine (AW _ (Ext.refl _)).out.mono ?_
      rintro e w2 ⟨rfl, x2⟩
      have HX2 := Lib.hid x2
      clear x2
      go_wp2_with fail
      go_ret
      exact ⟨rfl, HX2.out⟩
    · have g2 : decide ((60 : Int) < (ks.length : Int)) = false := decide_eq_false (by omega)
      have H0 := Lib.hid (made23_any (Things.start (Ext.refl w)) E)
      have HE := Lib.hid E
      have HT := Lib.hid T
      have HN := Lib.hid (Nat.not_lt.1 hn)
      clear hb4 hp4 E T
      go_enter Tryz.func8, Tryz.ntmps8
      go_wp2_with fail
      refine H0.out.mono ?_
      rintro e w1 ⟨d, rfl, h1⟩
      have H1 := h1
      have HW := Lib.hid (wanted23_any b _ w1 (HT.out.ext h1.out.is_ext) (bytesOff_any HBb.out h1.out.is_ext h1.out.is_ext.size) HN.out)
      clear h1 H0
      go_wp2_with fail
      refine HW.out.mono ?_
      rintro e w2 ⟨a, c, rfl, h2⟩
      have H2 := h2
      have HT2 := Lib.hid (H1.out.ext h2.out.2)
      clear h2 HW
      have HA1 := Lib.hid (show (Tryz.prog.info? 31).map (·.size) = some (wantedC b (.slice a (countN b.length) c)).size from by kernel_rfl)
      have HA2 := Lib.hid (show 27 = (wantedC b (.slice a (countN b.length) c)).size from rfl)
      have HA3 := Lib.hid (show (wantedC b (.slice a (countN b.length) c)).all (·.oneCell') = true from by simp [wantedC, Value.oneCell'])
      have HC23 := Lib.hid (show (wantedC b (.slice a (countN b.length) c))[23]? = some (.slice a (countN b.length) c) from rfl)
      obtain ⟨WC, hWC⟩ : ∃ WC, WC = wantedC b (.slice a (countN b.length) c) := ⟨_, rfl⟩
      have HWC := Lib.hid hWC
      rw [← hWC] at HA1 HA2 HA3 HC23 ⊢
      clear hWC
      go_wp2_with (first
        | (refine wpList_storeT rfl _ _ _ rfl w2.heap.size WC rfl rfl 31 _ (heap_alloc_new w2 _) HA1.out HA2.out HA3.out ?_; intro w3 hb6 ht6; have HB3 := Lib.hid hb6; have HX3 := Lib.hid (ht6.fresh ((Ext.refl w2).alloc _) (Nat.le_refl _)); clear hb6 ht6; go_frame)
        | (refine wpList_load_row rfl 31 (.tmp 6) rfl w2.heap.size rfl 31 WC (0, 0) _ HB3.out Tryz.underlying31 rfl HA1.out ?_; go_frame))
      have ho3 := owns_ext H2.out.1 HX3.out
      have hO := open_new23 (A := []) (B := []) (l := b) (HT2.out.ext HX3.out) (HE.out.ext (HT2.out.is_ext.trans HX3.out)) (HT.out.ext (HT2.out.is_ext.trans HX3.out)) HN.out ho3
      rw [← HWC.out] at hO
      have HO := Lib.hid hO
      have HO3 := Lib.hid ho3
      clear hO ho3 H1 HT2
      refine HO.out.mono ?_
      rintro e w4 ⟨p, rfl, h4⟩
      have HX4 := Lib.hid h4.out.1
      have HT4 := Lib.hid (show Things w w4 ([] ++ .disk d kF :: [dr p b (List.replicate (countN b.length) none)]) from h4.out.2)
      have HB4 := Lib.hid ((h4.out.1.block (ltB HB3.out)).trans HB3.out)
      have hO := open_new23 HT4.out (HE.out.ext HT4.out.is_ext) (HT.out.ext HT4.out.is_ext) HN.out (owns_ext HO3.out HX4.out)
      rw [← HWC.out] at hO
      have HO := Lib.hid hO
      clear hO h4
      go_wp2_with (refine wpList_load_row rfl 31 (.tmp 6) rfl w2.heap.size rfl 31 WC (0, 0) _ HB4.out Tryz.underlying31 rfl HA1.out ?_; go_frame)
      refine HO.out.mono ?_
      rintro e w5 ⟨q, rfl, h5⟩
      have HT5 := Lib.hid (show Things w w5 ([.disk d kF, dr p b (List.replicate (countN b.length) none)] ++ [dr q b (List.replicate (countN b.length) none)]) from h5.out.2)
      have hb5 := (h5.out.1.block (ltB HB4.out)).trans HB4.out
      have k23 := (cellB (k := 23) hb5).trans HC23.out
      clear h5 hb5 HO HB4 HB3 HA1 HA2 HA3 HC23 HWC HO3 HT4 H2
      obtain ⟨cn, hcn⟩ : ∃ cn, cn = countN b.length := ⟨_, rfl⟩
      have HCn := Lib.hid hcn
      have hc32 : cn ≤ 32 := hcn ▸ count_le HN.out
      have hS := OrdAt.start b ks
      rw [← hcn] at k23 HT5 hS
      have HS := Lib.hid hS
      obtain ⟨m, hm⟩ : ∃ m, m = ks.length := ⟨_, rfl⟩
      have HM := Lib.hid hm
      rw [← hm] at g2 hp1 hp3 ⊢
      clear hcn hm hS
      go_wp2_with fail
      go_loopw [12] (fun iv wr => Hid (∃ k ps qs, k ≤ m ∧ iv = .int .i64 k ∧ Things w wr [.disk d kF, dr p b ps, dr q b qs] ∧ OrdAt b ks k ps qs)) (fun iv _ => m - (intOf iv).toNat)
      case atStart => exact ⟨0, _, _, Nat.zero_le _, rfl, HT5.out, HS.out⟩
      case round =>
        obtain ⟨k, ps, qs, hk, rfl, hth, ho⟩ := hrel.out
        clear hrel k23
        have HTk := Lib.hid hth
        have HOk := Lib.hid ho
        clear hth ho
        by_cases hlt : k < m ∧ 0 < cn
        · obtain ⟨x, hx⟩ : ∃ x, ks[k]? = some x := ⟨_, List.getElem?_eq_getElem (by have := HM.out; omega)⟩
          obtain ⟨y, hy⟩ : ∃ y, ks[m - 1 - k]? = some y := ⟨_, List.getElem?_eq_getElem (by have := HM.out; omega)⟩
          obtain ⟨g, o, rfl, cx⟩ := HP.out _ HTk.out.is_ext k x hx
          obtain ⟨g', o', e, cy⟩ := HP.out _ HTk.out.is_ext (m - 1 - k) y hy
          cases e
          have hlt1 := hlt.1
          have hlt2 := hlt.2
          have qx := After.cell cx
          have qy := After.cell cy
          have HNx := Lib.hid (HOk.out.next (by have := HM.out; omega) hx (by have := HM.out; rw [← this]; exact hy) (by have := HCn.out; omega))
          obtain ⟨i1, hi1⟩ : ∃ i1, i1 = x.toNat % cn := ⟨_, rfl⟩
          obtain ⟨i2, hi2⟩ : ∃ i2, i2 = y.toNat % cn := ⟨_, rfl⟩
          rw [← HCn.out, ← hi1, ← hi2] at HNx
          have hl1 : i1 < cn := hi1 ▸ Nat.mod_lt _ hlt2
          have hl2 : i2 < cn := hi2 ▸ Nat.mod_lt _ hlt2
          have e1 : (wrap64 (x.toNat : Int)).tmod (cn : Int) = (i1 : Int) := by rw [hi1]; exact mod_byte x cn
          have e2 : (wrap64 (y.toNat : Int)).tmod (cn : Int) = (i2 : Int) := by rw [hi2]; exact mod_byte y cn
          have hr1 := right_part b (k := i1) (by rw [← HCn.out]; exact hl1)
          have hr2 := right_part b (k := i2) (by rw [← HCn.out]; exact hl2)
          have HR1 := Lib.hid hr1
          have HR2 := Lib.hid hr2
          clear cx cy hx hy hlt hi1 hi2 hr1 hr2
          go_wp2_with fail
          refine wp_region_after (by kernel_rfl) (by kernel_rfl) ?_
          repeat (go_big_quiet_step (fail))
          refine wpQuiet_nil ?_
          rintro _ ⟨z, rfl⟩
          have HT6 := Lib.hid (HTk.out.ext z.x)
          have HPa := fun w' (hx : Ext w w') i hi => Lib.hid (bPart_any w'.heap.size b (.slice ab b.length cb) i w' (bytesOff_any HBb.out hx hx.size) HN.out hi)
          have HP1 := HPa z.v HT6.out.is_ext i1 (by rw [← HCn.out]; exact hl1)
          clear qx qy
          go_wp2_with fail
          refine HP1.out.mono ?_
          rintro e w6 ⟨u, rfl, h6⟩
          have hT6 := HT6.out.ext h6.out.2
          have HQ1 := Lib.hid (tput_many (A := [.disk d kF]) (B := [dr q b qs]) hT6 (HT.out.ext hT6.is_ext) tmpW_some i1 (by rw [← HCn.out]; exact hl1) _ u (ownB_off h6.out.1 (Nat.le_refl _)) HR1.out)
          clear hT6 h6
          go_wp2_with fail
          refine HQ1.out.mono ?_
          rintro e w7 ⟨rfl, h7⟩
          have HT7 := Lib.hid (show Things w w7 ([.disk d kF, dr p b (fillP b.length (hashesL b) i1 (partL b i1) ps)] ++ dr q b qs :: []) from h7)
          have HP2 := HPa w7 HT7.out.is_ext i2 (by rw [← HCn.out]; exact hl2)
          clear h7 HP1 HQ1
          go_wp2_with fail
          refine HP2.out.mono ?_
          rintro e w8 ⟨u2, rfl, h8⟩
          have hT8 := HT7.out.ext h8.out.2
          have HQ2 := Lib.hid (tput_many hT8 (HT.out.ext hT8.is_ext) tmpW_some i2 (by rw [← HCn.out]; exact hl2) _ u2 (ownB_off h8.out.1 (Nat.le_refl _)) HR2.out)
          clear hT8 h8
          go_wp2_with fail
          refine HQ2.out.mono ?_
          rintro e w9 ⟨rfl, h9⟩
          have HT9 := Lib.hid (show Things w w9 ([.disk d kF, dr p b (fillP b.length (hashesL b) i1 (partL b i1) ps)] ++ dr q b (fillP b.length (hashesL b) i2 (partL b i2) qs) :: []) from h9)
          have HP3 := HPa w9 HT9.out.is_ext i2 (by rw [← HCn.out]; exact hl2)
          clear h9 HP2 HQ2
          go_wp2_with fail
          refine HP3.out.mono ?_
          rintro e w10 ⟨u3, rfl, h10⟩
          have hT10 := HT9.out.ext h10.out.2
          have HQ3 := Lib.hid (tput_many hT10 (HT.out.ext hT10.is_ext) tmpW_some i2 (by rw [← HCn.out]; exact hl2) _ u3 (ownB_off h10.out.1 (Nat.le_refl _)) HR2.out)
          clear hT10 h10
          go_wp2_with fail
          refine HQ3.out.mono ?_
          rintro e w11 ⟨rfl, h11⟩
          have HT11 := Lib.hid h11
          clear h11 HP3 HQ3
          go_wp2_with fail
          go_roundw
          case rel => exact ⟨k + 1, _, _, by omega, by go_num, HT11.out, HNx.out⟩
          case measure => simp [intOf] <;> omega
        · have HSm := Lib.hid (HOk.out.same (by have := HM.out; have := HCn.out; omega))
          have hpo := HOk.out.po
          have hf1 := farL_len hpo
          have HPo := Lib.hid hpo
          have hH1 := thave_many (A := [.disk d kF]) (B := [dr q b qs]) HTk.out tmpW_some
          have hH2 := fun w' (x : Ext wr w') => thave_many (A := [.disk d kF, dr p b ps]) (B := []) (HTk.out.ext x) tmpW_some
          have hA1 := fun w' (x : Ext wr w') => tasked_many (A := [.disk d kF]) (B := [dr q b qs]) (HTk.out.ext x) tmpW_some
          have hA2 := fun w' (x : Ext wr w') => tasked_many (A := [.disk d kF, dr p b ps]) (B := []) (HTk.out.ext x) tmpW_some
          have hD1 := fun w' (x : Ext wr w') => tdone_many (A := [.disk d kF]) (B := [dr q b qs]) (HTk.out.ext x) tmpW_some
          have hD2 := fun w' (x : Ext wr w') => tdone_many (A := [.disk d kF, dr p b ps]) (B := []) (HTk.out.ext x) tmpW_some
          rw [show (wantedR b).hs = hashesL b from rfl] at hA1 hA2 hD1 hD2
          rw [← filter_same HSm.out] at hH2
          rw [← askB_same HSm.out] at hA2
          rw [← doneB_same HSm.out] at hD2
          have hLl : ((List.range (countN b.length)).filter (haveB ps)).length ≤ 32 := by
            have h1 := List.length_filter_le (haveB ps) (List.range (countN b.length))
            rw [List.length_range] at h1
            have := HCn.out
            omega
          generalize (List.range (countN b.length)).filter (haveB ps) = L at *
          generalize (List.range (countN b.length)).filter (askB b.length (hashesL b) ps) = LA at *
          generalize doneB b.length (hashesL b) ps = DB at *
          have HH1 := Lib.hid hH1
          have HH2 := Lib.hid hH2
          have HQA1 := Lib.hid hA1
          have HQA2 := Lib.hid hA2
          have HQD1 := Lib.hid hD1
          have HQD2 := Lib.hid hD2
          clear hH1 hH2 hA1 hA2 hD1 hD2 hpo
          have hne : m ≤ k ∨ k < m ∧ cn = 0 := by omega
          rcases hne with hne | ⟨hne, hne2⟩
          all_goals
            clear hlt
            go_wp2_with fail
            refine HH1.out.mono ?_
            rintro e w6 ⟨u1, rfl, h6⟩
            have H6 := h6
            obtain ⟨a1, c1, rfl⟩ := rowk_shape h6.out.1
            have HX6 := Lib.hid h6.out.2
            clear h6
            go_wp2_with fail
            refine (HH2.out _ HX6.out).mono ?_
            rintro e w7 ⟨u2, rfl, h7⟩
            have H7 := h7
            obtain ⟨a2, c2, rfl⟩ := rowk_shape h7.out.1
            have HX7 := Lib.hid (HX6.out.trans h7.out.2)
            clear h7
            have ln : ((L.length : Int) != (L.length : Int)) = false := bne_self_eq_false _
            have ln2 : (DB != DB) = false := bne_self_eq_false _
            have ln3 : ((LA.length : Int) != (LA.length : Int)) = false := bne_self_eq_false _
            go_wp2_with fail
            refine (HQD1.out _ HX7.out).mono ?_
            rintro e w8 ⟨rfl, x8⟩
            have HX8 := Lib.hid (HX7.out.trans x8)
            have HY8 := Lib.hid x8
            clear x8
            go_wp2_with fail
            refine (HQD2.out _ HX8.out).mono ?_
            rintro e w9 ⟨rfl, x9⟩
            have HX9 := Lib.hid (HX8.out.trans x9)
            have HY9 := Lib.hid (HY8.out.trans x9)
            clear x9
            go_wp2_with fail
            refine (HQA1.out _ HX9.out).mono ?_
            rintro e w10 ⟨u3, rfl, h10⟩
            obtain ⟨a3, c3, rfl⟩ := rowk_shape h10.out.1
            have HX10 := Lib.hid (HX9.out.trans h10.out.2)
            have HY10 := Lib.hid (HY9.out.trans h10.out.2)
            clear h10
            go_wp2_with fail
            refine (HQA2.out _ HX10.out).mono ?_
            rintro e w11 ⟨u4', rfl, h11⟩
            obtain ⟨a4, c4, rfl⟩ := rowk_shape h11.out.1
            have HX11 := Lib.hid (HX10.out.trans h11.out.2)
            have HY11 := Lib.hid (HY10.out.trans h11.out.2)
            have HG1 := Lib.hid (fun k x hx => row_get (owns_ext H6.out.1 H7.out.2) k x hx)
            have HG2 := Lib.hid (fun k x hx => row_get H7.out.1 k x hx)
            clear h11 HQD1 HQD2 HQA1 HQA2 HH1 HH2 H6 H7 HX6 HX7 HX8 HX9 HX10 HY8 HY9 HY10 ln ln2 ln3
            obtain ⟨nl, hnl⟩ : ∃ nl, nl = L.length := ⟨_, rfl⟩
            have HNl := Lib.hid hnl
            rw [← hnl] at hLl ⊢
            clear hnl
            go_wp2_with fail
            go_loopw [17] (fun iv w12 => Hid (∃ j : Nat, j ≤ nl ∧ iv = .int .i64 j ∧ Ext w11 w12)) (fun iv _ => nl - (intOf iv).toNat)
            case atStart => exact ⟨0, Nat.zero_le _, rfl, Ext.refl _⟩
            case round =>
              obtain ⟨j, hj, rfl, hxj⟩ := hrel.out
              clear hrel
              have HXj := Lib.hid hxj
              by_cases hjl : j < nl
              · obtain ⟨x, hx⟩ : ∃ x, L[j]? = some x := ⟨_, List.getElem?_eq_getElem (by have := HNl.out; omega)⟩
                obtain ⟨b1, rfl, cx1⟩ := HG1.out j x hx
                obtain ⟨b2, rfl, cx2⟩ := HG2.out j x hx
                have q1 := After.cell (cx1 _ (HY11.out.trans hxj))
                have q2 := After.cell (cx2 _ (HY11.out.trans hxj))
                have xx : ((x : Int) != (x : Int)) = false := bne_self_eq_false _
                have HJL := Lib.hid hjl
                clear cx1 cx2 hx hxj
                go_wp2_with fail
                refine wp_region_after (by kernel_rfl) (by kernel_rfl) ?_
                repeat (go_big_quiet_step (fail))
                refine wpQuiet_nil ?_
                rintro _ ⟨z, rfl⟩
                clear q1 q2
                go_wp2_with fail
                go_roundw
                case rel => exact ⟨j + 1, by have := HJL.out; omega, by go_num, HXj.out.trans z.x⟩
                case measure =>
                  have := HJL.out
                  simp [intOf] <;> omega
              · obtain rfl : j = nl := by omega
                have HTe := Lib.hid (HTk.out.ext (HX11.out.trans hxj))
                have hU := used_many (A := []) (B := [dr p b ps, dr q b qs]) HTe.out
                rw [show usedL kF.live = 64 from rfl] at hU
                have HU := Lib.hid hU
                have jj : ¬ (j : Int) < (j : Int) := by omega
                have hsz : (bytesB (farL b.length ps)).size = b.length := by unfold bytesB; rw [size_mk, List.size_toArray, hf1]
                have hN := HN.out
                have HSv := fun w' (x : Things w w' [.disk d kF, dr p b ps, dr q b qs]) => tsave_many x (HE.out.ext x.is_ext) tmpW_some HPo.out (by have := tmpW_size; omega) (kF_run.fit (by decide)) (show kF.act (.write tmpW (bytesB (farL b.length ps)) (wantedR b).time) = (0, kT (bytesB (farL b.length ps))) from kT_made _ (by omega))
                have hKn : DkFit (kT (bytesB (farL b.length ps))) := (kT_run _ (by omega)).fit (by decide)
                have HDr := fun w' (x : Things w w' [.disk d (kT (bytesB (farL b.length ps))), dr q b qs]) => tdrop_many x (HE.out.ext x.is_ext) tmpW_some (by have := tmpW_size; omega) hKn (dropT _)
                have hUs := usedT (bytesB (farL b.length ps))
                rw [hsz] at hUs
                have HUs := Lib.hid (show usedL (kT (bytesB (farL b.length ps))).live = 128 + b.length from hUs)
                have HUg := Lib.hid (show usedL (kG (bytesB (farL b.length ps))).live = 64 from rfl)
                generalize kT (bytesB (farL b.length ps)) = KT at *
                generalize kG (bytesB (farL b.length ps)) = KG at *
                have HSv' := Lib.hid HSv
                have HDr' := Lib.hid HDr
                have hbl : b.length ≤ 4096 := hN
                have w1 : wrap64 (128 + (b.length : Int)) = 128 + (b.length : Int) := by unfold wrap64; omega
                have w2' : (((128 + b.length : Nat) : Int) == 128 + (b.length : Int)) = true := by rw [beq_iff_eq]; omega
                clear hxj hU HSv HDr hKn hUs hsz hN hf1
                go_wp2_with fail
                refine HU.out.mono ?_
                rintro e w13 ⟨rfl, hw⟩
                obtain rfl := hw.symm
                clear hw
                go_wp2_with fail
                refine (HSv'.out _ HTe.out).mono ?_
                rintro e w14 ⟨rfl, h14⟩
                have HT14 := Lib.hid h14
                have hU := used_many (A := []) (B := [dr p b ps, dr q b qs]) h14
                rw [HUs.out] at hU
                have HU14 := Lib.hid hU
                clear h14 hU
                go_wp2_with fail
                refine HU14.out.mono ?_
                rintro e w15 ⟨rfl, hw⟩
                obtain rfl := hw.symm
                clear hw
                go_wp2_with fail
                refine (HDr'.out _ (HT14.out.fewer (by simp))).mono ?_
                rintro e w16 ⟨rfl, h16⟩
                have HX16 := Lib.hid h16.is_ext
                have hU := used_many (A := []) (B := [dr q b qs]) h16
                rw [HUg.out] at hU
                have HU16 := Lib.hid hU
                clear h16 hU
                go_wp2_with fail
                refine HU16.out.mono ?_
                rintro e w17 ⟨rfl, hw⟩
                obtain rfl := hw.symm
                clear hw
                go_wp2_with fail
                refine (AW _ HX16.out).out.mono ?_
                rintro e w18 ⟨rfl, x18⟩
                have HX18 := Lib.hid (HX16.out.trans x18)
                clear x18
                go_wp2_with fail
                go_ret
                exact ⟨rfl, HX18.out⟩

-- BEGUN
set_option maxRecDepth 100000 in
theorem begun {H : Type} {enc : TypeId × Value → H} (W : World) (args : Array Value) (ds : List (DataW H)) (p : List MemPlace) (st : Start enc Rows.tempOrderRow.laid Tryz.f8 W args ds p) :
    Calls Tryz.prog 8 args W fun e W' => e = .returned (.bool true) ∧ Below W.heap.size W W' := by
  obtain ⟨⟨base, hval⟩, hA, hfit, hl, hsh⟩ := st
  rw [Tryz.params8] at hA hval hfit
  obtain ⟨v0, v1, d0, d1, p0, p1, rfl, rfl, rfl, h0, h1⟩ := trodAll_two hA
  have hfit : ((DataW.weightsEach Tryz.prog [22, 22] [d0, d1]).all (· ≤ reachBytes)) = true := hfit
  simp only [DataW.weightsEach, List.append_nil, List.all_append, Bool.and_eq_true] at hfit
  obtain ⟨b, hb2⟩ := open_bytes_arg (hval 0 22 v0 rfl rfl) h0 hfit.1
  obtain ⟨ks, hk2⟩ := open_bytes_arg (hval 1 22 v1 rfl rfl) h1 hfit.2
  exact walk v0 v1 b ks W hb2 hk2 (env_of hsh) (sha_of hl 1 2 rfl rfl)

set_option maxRecDepth 100000 in
theorem said : Rows.TempOrderSaid :=
  OpenClaim.holds_of_wide 8 Tryz.f8 rfl rfl rfl rfl rfl rfl rfl ⟨rfl, rfl, rfl, rfl, rfl⟩ rfl rfl rfl rfl rfl named Tryz.func8 facts
    (of_decide_eq_true (by kernel_rfl)) (by unfold Func.isWrapper; first | (rw [if_pos (by decide +kernel)]; kernel_rfl) | (rw [if_neg (by decide +kernel)]; exact ⟨rfl, rfl⟩))
    (fun os started H enc _ => lifted Rows.tempOrderRow.laid (by kernel_rfl) 8 Tryz.f8 Tryz.func8 Rows.tempOrderSpec rfl (by kernel_rfl) (by kernel_rfl)
      (by rw [Tryz.params8]
          have hall : ([22, 22].all fun t => Tryz.prog.readableRec t && decide (t < Tryz.prog.types.size)) = true := by kernel_rfl
          intro t ht
          have := List.all_eq_true.1 hall t ht
          simpa using this)
      (by intro H ts ds h hl; rw [Tryz.params8] at h; subst h
          match ds, hl with
          | [d1, d2], _ => rfl)
      Rows.tempOrderRow.domain os started H enc #[.slice none 0 0, .slice none 0 0] (by kernel_rfl) (by kernel_rfl) (by kernel_rfl)
      (World.shaped_of_ZipB (by kernel_rfl) (by kernel_rfl)) (laidMet_laidAll _ (by kernel_rfl) (by kernel_rfl))
      begun)

theorem card : Rows.TempOrderCardSaid :=
  Claim7.holds_tied_plain_at .later [] Rows.tempOrderCard.laidKinds true Rows.tempOrderCard.stood.harness Rows.tempOrderCard.stood.looks said (fun _ h => by cases h) (by kernel_rfl) (fun _ h => by cases h) tempOrder_row_tie rfl ⟨rfl, rfl⟩ (by kernel_rfl) rfl
    (fun f fn hf hfn => by
      obtain rfl : f = 8 := Option.some.inj ((show Tryz.prog.funcNamed Rows.tempOrderRow.func = some 8 by kernel_rfl).symm.trans hf) |>.symm
      obtain rfl : fn = Tryz.f8 := (Option.some.inj (Tryz.func8.symm.trans hfn)).symm
      exact ⟨by kernel_rfl, fun j t ht => by
        rw [Tryz.params8] at ht
        have hm : t ∈ [22, 22] := by simpa using Array.mem_of_getElem? ht
        have hall : ([22, 22].all fun u => !Tryz.prog.wantsStandIn u) = true := by kernel_rfl
        exact (show Tryz.prog.wantsStandIn t = false by simpa using List.all_eq_true.1 hall t hm)⟩)
    (by kernel_rfl)
#print axioms card
end Go.Proofs.YtldppmjjgljinaaGreatDoor.lawTempOrder
