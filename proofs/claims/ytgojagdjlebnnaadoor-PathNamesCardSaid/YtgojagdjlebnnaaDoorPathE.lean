/- The story that every law of chapter 2 ends with: works. -/
import Derived.Test.YtgojagdjlebnnaaDoorPathD
namespace Go.Proofs.YtgojagdjlebnnaaDoor
open Go.RowKit

theorem w1 : conflictOk ⟨#[100, 47, 110, 111, 116, 101, 115, 46, 116, 120, 116]⟩ 77 3 = true := by decide +kernel
theorem w2 : (conflictS ⟨#[100, 47, 110, 111, 116, 101, 115, 46, 116, 120, 116]⟩ 77 3).toList = [100, 47, 110, 111, 116, 101, 115, 46, 115, 121, 110, 99, 45, 99, 111, 110, 102, 108, 105, 99, 116, 45, 48, 48, 48, 48, 48, 48, 48, 48, 55, 55, 45, 48, 51, 46, 116, 120, 116] := by decide +kernel
theorem w3 : mayB ⟨#[97, 47, 98, 32, 99]⟩ = true := by decide +kernel
theorem w4 : mayB ⟨#[97, 47, 47, 98]⟩ = false := by decide +kernel
theorem w5 : (itoaS 77).size ≤ 100 := by decide +kernel
theorem w6 : (itoaS 3).size ≤ 100 := by decide +kernel

set_option maxHeartbeats 800000 in
theorem works_any (w : World) (E : Env w) :
    Calls Tryd.prog 15 #[] w fun e w' => e = .returned (.bool true) ∧ Ext w w' := by
  have H1 := Lib.hid (conflict_yes ⟨#[100, 47, 110, 111, 116, 101, 115, 46, 116, 120, 116]⟩ 77 3 w (by decide) E w1 w5 w6)
  have H2 := fun w E => Lib.hid (may_any ⟨#[97, 47, 98, 32, 99]⟩ w (by decide) E)
  have H3 := fun w E => Lib.hid (may_any ⟨#[97, 47, 47, 98]⟩ w (by decide) E)
  rw [ba_ext (b := ⟨#[100, 47, 110, 111, 116, 101, 115, 46, 115, 121, 110, 99, 45, 99, 111, 110, 102, 108, 105, 99, 116, 45, 48, 48, 48, 48, 48, 48, 48, 48, 55, 55, 45, 48, 51, 46, 116, 120, 116]⟩) (w2.trans (toList_mk _).symm)] at H1
  rw [w3] at H2
  rw [w4] at H3
  go_enter Tryd.func15, Tryd.ntmps15
  go_wp2_with fail
  refine H1.out.mono ?_
  rintro e w1 ⟨rfl, x1⟩
  go_wp2_with fail
  refine (H2 _ (E.ext x1)).out.mono ?_
  rintro e w2 ⟨rfl, x2⟩
  go_wp2_with fail
  refine (H3 _ (E.ext (x1.trans x2))).out.mono ?_
  rintro e w3 ⟨rfl, x3⟩
  go_wp2_with fail
  go_ret
  exact ⟨rfl, (x1.trans x2).trans x3⟩
end Go.Proofs.YtgojagdjlebnnaaDoor
