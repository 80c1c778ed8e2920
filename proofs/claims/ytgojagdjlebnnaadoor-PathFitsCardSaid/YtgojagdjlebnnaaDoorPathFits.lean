/- PathFits: temp and conflict names of a path are paths of the same parent, and are told for what they are: the statement PathFitsCardSaid, with no condition of its own. -/
import Derived.Test.YtgojagdjlebnnaaDoorPathEnv
import Derived.Test.YtgojagdjlebnnaaDoorShaEnv
import Derived.Test.YtgojagdjlebnnaaDoorFitsL
import Derived.Test.YtgojagdjlebnnaaDoorPathH
import Derived.Test.YtgojagdjlebnnaaDoorPathE
namespace Go.Proofs.YtgojagdjlebnnaaDoor.lawPathFits
open Go.ChangeShapes Go.WideShapes Go.ChangeAt Go.RowKit
open Go.ChangeMaps (open_string)

set_option maxRecDepth 100000 in
set_option maxHeartbeats 3200000 in
theorem walk (p : ByteArray) (t c : Int) (w : World) (hp : p.size ≤ maxLen) (t0 : 0 ≤ t) (t1 : t ≤ 4294967295) (c0 : 0 ≤ c) (c1 : c ≤ 255) (E : Env w) (T : ShaTabs w) :
    Calls Tryd.prog 11 #[.string p, .int .u32 t, .int .u8 c] w fun e w' => e = .returned (.bool true) ∧ Below w.heap.size w w' := by
  have la := cutS_le p
  have CA := fun w => Lib.hid (cut_any p w hp)
  generalize cutS p = s at *
  have mc : 0 ≤ c % 16 ∧ c % 16 ≤ 15 := by omega
  have W := fun w E => Lib.hid (works_any w E)
  have M := fun w E => Lib.hid (may_any s w (by omega) E)
  have TP := fun w E T => Lib.hid (temp_any s w (by omega) E T)
  have HT := Lib.hid T
  clear T
  cases hm : mayB s
  · have N1 := fun w E => Lib.hid (conflict_no s t (1 + c % 16) w (by omega) E (by simp [conflictOk, hm]))
    have e1 : tempR s = ⟨#[]⟩ := by unfold tempR; rw [hm]; rfl
    rw [e1, hm] at TP
    rw [hm] at M
    clear hm e1
    go_enter Tryd.func11, Tryd.ntmps11
    go_wp2_with fail
    refine (CA _).out.mono ?_
    rintro e w1 ⟨rfl, hw⟩
    obtain rfl := hw.symm
    clear hw
    go_wp2_with fail
    refine (TP _ E HT.out).out.mono ?_
    rintro e w2 ⟨rfl, x2⟩
    have X2 := x2
    go_wp2_with fail
    refine (N1 _ (E.ext X2)).out.mono ?_
    rintro e wr1 ⟨rfl, xr1⟩
    have Xr1 := X2.trans xr1
    go_wp2_with fail
    refine (M _ (E.ext Xr1)).out.mono ?_
    rintro e wr2 ⟨rfl, xr2⟩
    have Xr2 := Xr1.trans xr2
    go_wp2_with fail
    refine (W _ (E.ext Xr2)).out.mono ?_
    rintro e wr3 ⟨rfl, xr3⟩
    have Xr3 := Xr2.trans xr3
    have XE := Xr3
    go_wp2_with fail
    go_ret
    exact ⟨rfl, Xr3⟩
  · have N1 := fun w E => Lib.hid (conflict_yes s t (1 + c % 16) w (by omega) E (by simp [conflictOk, hm]; omega) (itoaS_le t (by omega) (by omega)) (itoaS_le (1 + c % 16) (by omega) (by omega)))
    obtain ⟨ft1, ft2, ft3, ft4⟩ := fits_temp s hm
    obtain ⟨fc1, fc2, fc3⟩ := fits_conf s t (1 + c % 16) hm (by omega) (by omega) (by omega) (by omega)
    have e1 : tempR s = tempS s := by unfold tempR; rw [hm]; rfl
    have zt := mayB_size ft1
    have zc := mayB_size fc1
    rw [e1, hm] at TP
    rw [hm] at M
    have P0 := fun w E => Lib.hid (parent_any s w (by omega) E)
    have PT := fun w E => Lib.hid (parent_any (tempS s) w (by omega) E)
    have PC := fun w E => Lib.hid (parent_any (conflictS s t (1 + c % 16)) w (by omega) E)
    have IT := fun w => Lib.hid (isTemp_any (tempS s) w (by omega))
    have IC := fun w E => Lib.hid (isConflict_any (conflictS s t (1 + c % 16)) w (by omega) E)
    have BT := fun w E => Lib.hid (base_any (tempS s) w (by omega) E)
    rw [show parentR s = parentS s from by unfold parentR; rw [hm]; rfl, hm] at P0
    rw [show parentR (tempS s) = parentS s from by unfold parentR; rw [ft1]; exact ft2, ft1] at PT
    rw [show parentR (conflictS s t (1 + c % 16)) = parentS s from by unfold parentR; rw [fc1]; exact fc2, fc1] at PC
    rw [ft3] at IT
    rw [fc3] at IC
    rw [show baseR (tempS s) = baseS (tempS s) from by unfold baseR; rw [ft1]; rfl] at BT
    clear hm e1 ft1 ft2 ft3 fc1 fc2 fc3
    generalize baseS (tempS s) = B at *
    generalize tempS s = tt at *
    generalize conflictS s t (1 + c % 16) = cc at *
    generalize parentS s = P at *
    go_enter Tryd.func11, Tryd.ntmps11
    go_wp2_with fail
    refine (CA _).out.mono ?_
    rintro e w1 ⟨rfl, hw⟩
    obtain rfl := hw.symm
    clear hw
    go_wp2_with fail
    refine (TP _ E HT.out).out.mono ?_
    rintro e w2 ⟨rfl, x2⟩
    have X2 := x2
    go_wp2_with fail
    refine (N1 _ (E.ext X2)).out.mono ?_
    rintro e wr1 ⟨rfl, xr1⟩
    have Xr1 := X2.trans xr1
    go_wp2_with fail
    refine (M _ (E.ext Xr1)).out.mono ?_
    rintro e wr2 ⟨rfl, xr2⟩
    have Xr2 := Xr1.trans xr2
    go_wp2_with fail
    refine (P0 _ (E.ext Xr2)).out.mono ?_
    rintro e wr3 ⟨rfl, xr3⟩
    have Xr3 := Xr2.trans xr3
    go_wp2_with fail
    refine (PT _ (E.ext Xr3)).out.mono ?_
    rintro e wr4 ⟨rfl, xr4⟩
    have Xr4 := Xr3.trans xr4
    go_wp2_with fail
    refine (PC _ (E.ext Xr4)).out.mono ?_
    rintro e wr5 ⟨rfl, xr5⟩
    have Xr5 := Xr4.trans xr5
    go_wp2_with fail
    refine (IT _).out.mono ?_
    rintro e wr6 ⟨rfl, nr6, rfl⟩
    have Xr6 := (Xr5).drewN nr6
    go_wp2_with fail
    refine (IC _ (E.ext Xr6)).out.mono ?_
    rintro e wr7 ⟨rfl, xr7⟩
    have Xr7 := Xr6.trans xr7
    go_wp2_with fail
    refine (BT _ (E.ext Xr7)).out.mono ?_
    rintro e wr8 ⟨rfl, xr8⟩
    have Xr8 := Xr7.trans xr8
    go_wp2_with fail
    refine (W _ (E.ext Xr8)).out.mono ?_
    rintro e wr9 ⟨rfl, xr9⟩
    have Xr9 := Xr8.trans xr9
    have XE := Xr9
    go_wp2_with fail
    go_ret
    exact ⟨rfl, Xr9⟩

-- BEGUN
set_option maxRecDepth 100000 in
theorem begun {H : Type} {enc : TypeId × Value → H} (W : World) (args : Array Value) (ds : List (DataW H)) (p : List MemPlace) (st : Start enc Rows.pathFitsRow.laid Tryd.f11 W args ds p) :
    Calls Tryd.prog 11 args W fun e W' => e = .returned (.bool true) ∧ Below W.heap.size W W' := by
  obtain ⟨⟨base, hval⟩, hA, hfit, hl, hsh⟩ := st
  rw [Tryd.params11] at hA hval hfit
  obtain ⟨v0, v1, v2, d0, d1, d2, p0, p1, p2, rfl, rfl, rfl, h0, h1, h2⟩ := trodAll_three hA
  obtain ⟨a, rfl, rfl, rfl, ha⟩ := open_string Tryd.underlying9 (hval 0 9 v0 rfl rfl) h0
  obtain ⟨t, rfl, rfl, rfl, ht⟩ := open_int (show Tryd.prog.underlying 22 = some (.int .u32) by kernel_rfl) (hval 1 22 v1 rfl rfl) h1
  obtain ⟨c, rfl, rfl, rfl, hc⟩ := open_int (show Tryd.prog.underlying 5 = some (.int .u8) by kernel_rfl) (hval 2 5 v2 rfl rfl) h2
  obtain ⟨t0, t1⟩ : IntKind.u32.min ≤ t ∧ t ≤ IntKind.u32.max := by
    unfold Lit.wf at ht
    rw [Bool.and_eq_true, decide_eq_true_eq, decide_eq_true_eq] at ht
    exact ht
  obtain ⟨c0, c1⟩ : IntKind.u8.min ≤ c ∧ c ≤ IntKind.u8.max := by
    unfold Lit.wf at hc
    rw [Bool.and_eq_true, decide_eq_true_eq, decide_eq_true_eq] at hc
    exact hc
  exact walk a t c W ha t0 t1 c0 c1 (env_of hl hsh (pow10_mem 2 rfl)) (sha_of hl 4 5 rfl rfl)

set_option maxRecDepth 100000 in
theorem said : Rows.PathFitsSaid :=
  OpenClaim.holds_of_wide 11 Tryd.f11 rfl rfl rfl rfl rfl rfl rfl ⟨rfl, rfl, rfl, rfl, rfl⟩ rfl rfl rfl rfl rfl (by kernel_rfl) Tryd.func11 (by kernel_rfl)
    (of_decide_eq_true (by kernel_rfl)) (by unfold Func.isWrapper; first | (rw [if_pos (by decide +kernel)]; kernel_rfl) | (rw [if_neg (by decide +kernel)]; exact ⟨rfl, rfl⟩))
    (fun os started H enc _ => lifted Rows.pathFitsRow.laid (by kernel_rfl) 11 Tryd.f11 Tryd.func11 Rows.pathFitsSpec rfl (by kernel_rfl) (by kernel_rfl)
      (by rw [Tryd.params11]
          have hall : ([9, 22, 5].all fun t => Tryd.prog.readableRec t && decide (t < Tryd.prog.types.size)) = true := by kernel_rfl
          intro t ht
          have := List.all_eq_true.1 hall t ht
          simpa using this)
      (by intro H ts ds h hl; rw [Tryd.params11] at h; subst h
          match ds, hl with
          | [d1, d2, d3], _ => rfl)
      Rows.pathFitsRow.domain os started H enc #[.string ⟨#[]⟩, .int .u32 0, .int .u8 0] (by kernel_rfl) (by kernel_rfl) (by kernel_rfl)
      (World.shaped_of_ZipB (by kernel_rfl) (by kernel_rfl)) (laidMet_laidAll _ (by kernel_rfl) (by kernel_rfl))
      begun)

theorem card : Rows.PathFitsCardSaid :=
  Claim7.holds_tied_plain_at .later [] Rows.pathFitsCard.laidKinds true Rows.pathFitsCard.stood.harness false said (fun _ h => by cases h) (by kernel_rfl) (fun _ h => by cases h) pathFits_row_tie rfl ⟨rfl, rfl⟩ (by kernel_rfl) rfl
    (fun f fn hf hfn => by
      obtain rfl : f = 11 := Option.some.inj ((show Tryd.prog.funcNamed Rows.pathFitsRow.func = some 11 by kernel_rfl).symm.trans hf) |>.symm
      obtain rfl : fn = Tryd.f11 := (Option.some.inj (Tryd.func11.symm.trans hfn)).symm
      exact ⟨by kernel_rfl, fun j t ht => by
        rw [Tryd.params11] at ht
        have hm : t ∈ [9, 22, 5] := by simpa using Array.mem_of_getElem? ht
        have hall : ([9, 22, 5].all fun u => !Tryd.prog.wantsStandIn u) = true := by kernel_rfl
        exact (show Tryd.prog.wantsStandIn t = false by simpa using List.all_eq_true.1 hall t hm)⟩)
    (by kernel_rfl)
#print axioms card
end Go.Proofs.YtgojagdjlebnnaaDoor.lawPathFits
