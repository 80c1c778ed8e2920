/- PathNames: temp and conflict names, and which texts are such, are as the document says: the statement PathNamesCardSaid, with no condition of its own. -/
import Derived.Test.YtgojagdjlebnnaaDoorPathEnv
import Derived.Test.YtgojagdjlebnnaaDoorShaEnv
import Derived.Test.YtgojagdjlebnnaaDoorRPathD
import Derived.Test.YtgojagdjlebnnaaDoorPathE
namespace Go.Proofs.YtgojagdjlebnnaaDoor.lawPathNames
open Go.ChangeShapes Go.WideShapes Go.ChangeAt Go.RowKit
open Go.ChangeMaps (open_string)

set_option maxRecDepth 100000 in
set_option maxHeartbeats 3200000 in
theorem walk (p : ByteArray) (t d : Int) (w : World) (hp : p.size ≤ maxLen) (E : Env w) (T : ShaTabs w) :
    Calls Tryd.prog 10 #[.string p, .int .i64 t, .int .i64 d] w fun e w' => e = .returned (.bool true) ∧ Below w.heap.size w w' := by
  have la := cutS_le p
  have CA := fun w => Lib.hid (cut_any p w hp)
  generalize cutS p = s at *
  have W := fun w E => Lib.hid (works_any w E)
  have TP := fun w E T => Lib.hid (temp_any s w (by omega) E T)
  have TR := fun w => Lib.hid (refTemp_any s w (by omega))
  have IT := fun w => Lib.hid (isTemp_any s w (by omega))
  have IR := fun w => Lib.hid (refIsTemp_any s w (by omega))
  have IC := fun w E => Lib.hid (isConflict_any s w (by omega) E)
  have ICR := fun w => Lib.hid (refIsConflict_any s w (by omega))
  cases hok : conflictOk s t d
  · have N1 := fun w E => Lib.hid (conflict_no s t d w (by omega) E hok)
    have R1 := fun w => Lib.hid (refConflict_no s t d w (by omega) hok)
    clear hok
    generalize mayB s = m at *
    generalize tempR s = tt at *
    generalize isTempB s = it at *
    generalize confL (baseS s).toList = ic at *
    have HT := Lib.hid T
    clear T
    go_enter Tryd.func10, Tryd.ntmps10
    go_wp2_with fail
    refine (CA _).out.mono ?_
    rintro e w1 ⟨rfl, hw⟩
    obtain rfl := hw.symm
    clear hw
    go_wp2_with fail
    refine (TP _ E HT.out).out.mono ?_
    rintro e w2 ⟨rfl, x2⟩
    have X2 := x2
    go_wp2_with fail
    refine (TR _).out.mono ?_
    rintro e wr1 ⟨rfl, xr1⟩
    have Xr1 := X2.trans xr1
    go_wp2_with fail
    refine (N1 _ (E.ext Xr1)).out.mono ?_
    rintro e wr2 ⟨rfl, xr2⟩
    have Xr2 := Xr1.trans xr2
    go_wp2_with fail
    refine (R1 _).out.mono ?_
    rintro e wr3 ⟨rfl, xr3⟩
    have Xr3 := Xr2.trans xr3
    go_wp2_with fail
    refine (IT _).out.mono ?_
    rintro e wr4 ⟨rfl, nr4, rfl⟩
    have Xr4 := (Xr3).drewN nr4
    go_wp2_with fail
    refine (IR _).out.mono ?_
    rintro e wr5 ⟨rfl, xr5⟩
    have Xr5 := Xr4.trans xr5
    go_wp2_with fail
    refine (IC _ (E.ext Xr5)).out.mono ?_
    rintro e wr6 ⟨rfl, xr6⟩
    have Xr6 := Xr5.trans xr6
    go_wp2_with fail
    refine (ICR _).out.mono ?_
    rintro e wr7 ⟨rfl, xr7⟩
    have Xr7 := Xr6.trans xr7
    go_wp2_with fail
    refine (W _ (E.ext Xr7)).out.mono ?_
    rintro e wr8 ⟨rfl, xr8⟩
    have Xr8 := Xr7.trans xr8
    have XE := Xr8
    go_wp2_with fail
    go_ret
    exact ⟨rfl, Xr8⟩
  · have hok2 := hok
    unfold conflictOk at hok2
    simp only [Bool.and_eq_true, decide_eq_true_eq] at hok2
    obtain ⟨⟨⟨⟨_, q0⟩, q1⟩, q2⟩, q3⟩ := hok2
    have N1 := fun w E => Lib.hid (conflict_yes s t d w (by omega) E hok (itoaS_le t (by omega) (by omega)) (itoaS_le d (by omega) (by omega)))
    have R1 := fun w => Lib.hid (refConflict_yes s t d w (by omega) hok)
    clear hok q0 q1 q2 q3
    generalize conflictS s t d = cc at *
    generalize mayB s = m at *
    generalize tempR s = tt at *
    generalize isTempB s = it at *
    generalize confL (baseS s).toList = ic at *
    have HT := Lib.hid T
    clear T
    go_enter Tryd.func10, Tryd.ntmps10
    go_wp2_with fail
    refine (CA _).out.mono ?_
    rintro e w1 ⟨rfl, hw⟩
    obtain rfl := hw.symm
    clear hw
    go_wp2_with fail
    refine (TP _ E HT.out).out.mono ?_
    rintro e w2 ⟨rfl, x2⟩
    have X2 := x2
    go_wp2_with fail
    refine (TR _).out.mono ?_
    rintro e wr1 ⟨rfl, xr1⟩
    have Xr1 := X2.trans xr1
    go_wp2_with fail
    refine (N1 _ (E.ext Xr1)).out.mono ?_
    rintro e wr2 ⟨rfl, xr2⟩
    have Xr2 := Xr1.trans xr2
    go_wp2_with fail
    refine (R1 _).out.mono ?_
    rintro e wr3 ⟨rfl, xr3⟩
    have Xr3 := Xr2.trans xr3
    go_wp2_with fail
    refine (IT _).out.mono ?_
    rintro e wr4 ⟨rfl, nr4, rfl⟩
    have Xr4 := (Xr3).drewN nr4
    go_wp2_with fail
    refine (IR _).out.mono ?_
    rintro e wr5 ⟨rfl, xr5⟩
    have Xr5 := Xr4.trans xr5
    go_wp2_with fail
    refine (IC _ (E.ext Xr5)).out.mono ?_
    rintro e wr6 ⟨rfl, xr6⟩
    have Xr6 := Xr5.trans xr6
    go_wp2_with fail
    refine (ICR _).out.mono ?_
    rintro e wr7 ⟨rfl, xr7⟩
    have Xr7 := Xr6.trans xr7
    go_wp2_with fail
    refine (W _ (E.ext Xr7)).out.mono ?_
    rintro e wr8 ⟨rfl, xr8⟩
    have Xr8 := Xr7.trans xr8
    have XE := Xr8
    go_wp2_with fail
    go_ret
    exact ⟨rfl, Xr8⟩

-- BEGUN
set_option maxRecDepth 100000 in
theorem begun {H : Type} {enc : TypeId × Value → H} (W : World) (args : Array Value) (ds : List (DataW H)) (p : List MemPlace) (st : Start enc Rows.pathNamesRow.laid Tryd.f10 W args ds p) :
    Calls Tryd.prog 10 args W fun e W' => e = .returned (.bool true) ∧ Below W.heap.size W W' := by
  obtain ⟨⟨base, hval⟩, hA, hfit, hl, hsh⟩ := st
  rw [Tryd.params10] at hA hval hfit
  obtain ⟨v0, v1, v2, d0, d1, d2, p0, p1, p2, rfl, rfl, rfl, h0, h1, h2⟩ := trodAll_three hA
  obtain ⟨a, rfl, rfl, rfl, ha⟩ := open_string Tryd.underlying9 (hval 0 9 v0 rfl rfl) h0
  obtain ⟨t, rfl, rfl, rfl, ht⟩ := open_int (show Tryd.prog.underlying 2 = some (.int .i64) by kernel_rfl) (hval 1 2 v1 rfl rfl) h1
  obtain ⟨c, rfl, rfl, rfl, hc⟩ := open_int (show Tryd.prog.underlying 3 = some (.int .i64) by kernel_rfl) (hval 2 3 v2 rfl rfl) h2
  exact walk a t c W ha (env_of hl hsh (pow10_mem 2 rfl)) (sha_of hl 4 5 rfl rfl)

set_option maxRecDepth 100000 in
theorem said : Rows.PathNamesSaid :=
  OpenClaim.holds_of_wide 10 Tryd.f10 rfl rfl rfl rfl rfl rfl rfl ⟨rfl, rfl, rfl, rfl, rfl⟩ rfl rfl rfl rfl rfl (by kernel_rfl) Tryd.func10 (by kernel_rfl)
    (of_decide_eq_true (by kernel_rfl)) (by unfold Func.isWrapper; first | (rw [if_pos (by decide +kernel)]; kernel_rfl) | (rw [if_neg (by decide +kernel)]; exact ⟨rfl, rfl⟩))
    (fun os started H enc _ => lifted Rows.pathNamesRow.laid (by kernel_rfl) 10 Tryd.f10 Tryd.func10 Rows.pathNamesSpec rfl (by kernel_rfl) (by kernel_rfl)
      (by rw [Tryd.params10]
          have hall : ([9, 2, 3].all fun t => Tryd.prog.readableRec t && decide (t < Tryd.prog.types.size)) = true := by kernel_rfl
          intro t ht
          have := List.all_eq_true.1 hall t ht
          simpa using this)
      (by intro H ts ds h hl; rw [Tryd.params10] at h; subst h
          match ds, hl with
          | [d1, d2, d3], _ => rfl)
      Rows.pathNamesRow.domain os started H enc #[.string ⟨#[]⟩, .int .i64 0, .int .i64 0] (by kernel_rfl) (by kernel_rfl) (by kernel_rfl)
      (World.shaped_of_ZipB (by kernel_rfl) (by kernel_rfl)) (laidMet_laidAll _ (by kernel_rfl) (by kernel_rfl))
      begun)

theorem card : Rows.PathNamesCardSaid :=
  Claim7.holds_tied_plain_at .later [] Rows.pathNamesCard.laidKinds true Rows.pathNamesCard.stood.harness false said (fun _ h => by cases h) (by kernel_rfl) (fun _ h => by cases h) pathNames_row_tie rfl ⟨rfl, rfl⟩ (by kernel_rfl) rfl
    (fun f fn hf hfn => by
      obtain rfl : f = 10 := Option.some.inj ((show Tryd.prog.funcNamed Rows.pathNamesRow.func = some 10 by kernel_rfl).symm.trans hf) |>.symm
      obtain rfl : fn = Tryd.f10 := (Option.some.inj (Tryd.func10.symm.trans hfn)).symm
      exact ⟨by kernel_rfl, fun j t ht => by
        rw [Tryd.params10] at ht
        have hm : t ∈ [9, 2, 3] := by simpa using Array.mem_of_getElem? ht
        have hall : ([9, 2, 3].all fun u => !Tryd.prog.wantsStandIn u) = true := by kernel_rfl
        exact (show Tryd.prog.wantsStandIn t = false by simpa using List.all_eq_true.1 hall t hm)⟩)
    (by kernel_rfl)
#print axioms card
end Go.Proofs.YtgojagdjlebnnaaDoor.lawPathNames
