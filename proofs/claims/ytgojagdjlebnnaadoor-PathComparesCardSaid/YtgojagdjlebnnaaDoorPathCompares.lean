/- PathCompares: of any two texts, the program and the document tell alike which one is ahead: the statement PathComparesCardSaid, with no condition of its own. -/
import Derived.Test.YtgojagdjlebnnaaDoorPathEnv
import Derived.Test.YtgojagdjlebnnaaDoorPathG
namespace Go.Proofs.YtgojagdjlebnnaaDoor.lawPathCompares
open Go.ChangeShapes Go.WideShapes Go.ChangeAt Go.RowKit
open Go.ChangeMaps (open_string)

set_option maxHeartbeats 800000 in
theorem walk (a b : ByteArray) (w : World) (ha : a.size ≤ maxLen) (hb : b.size ≤ maxLen) (E : Env w) :
    Calls Tryd.prog 5 #[.string a, .string b] w fun e w' => e = .returned (.bool true) ∧ Below w.heap.size w w' := by
  have la := cutS_le a
  have lb := cutS_le b
  have H1 := fun w => Lib.hid (cmp_any (cutS a) (cutS b) w (by unfold maxLen; omega) (by unfold maxLen; omega))
  have H2 := fun w => Lib.hid (refCmp_any (cutS a) (cutS b) w (by omega) (by omega))
  generalize cmpL (cutS a).toList (cutS b).toList = c at *
  go_enter Tryd.func5, Tryd.ntmps5
  go_wp2_with fail
  refine (cut_any a _ ha).mono ?_
  rintro e w1 ⟨rfl, rfl⟩
  go_wp2_with fail
  refine (cut_any b _ hb).mono ?_
  rintro e w1 ⟨rfl, rfl⟩
  go_wp2_with fail
  refine (H1 _).out.mono ?_
  rintro e w2 ⟨rfl, x1⟩
  go_wp2_with fail
  refine (H2 _).out.mono ?_
  rintro e w3 ⟨rfl, x2⟩
  go_wp2_with fail
  refine (works_any _ (E.ext (x1.trans x2))).mono ?_
  rintro e w4 ⟨rfl, x3⟩
  go_wp2_with fail
  go_ret
  exact ⟨rfl, (x1.trans x2).trans x3⟩

set_option maxRecDepth 100000 in
theorem begun {H : Type} {enc : TypeId × Value → H} (W : World) (args : Array Value) (ds : List (DataW H)) (p : List MemPlace) (st : Start enc Rows.pathComparesRow.laid Tryd.f5 W args ds p) :
    Calls Tryd.prog 5 args W fun e W' => e = .returned (.bool true) ∧ Below W.heap.size W W' := by
  obtain ⟨⟨base, hval⟩, hA, hfit, hl, hsh⟩ := st
  rw [Tryd.params5] at hA hval hfit
  obtain ⟨v0, v1, d0, d1, p0, p1, rfl, rfl, rfl, h0, h1⟩ := trodAll_two hA
  obtain ⟨a, rfl, rfl, rfl, ha⟩ := open_string Tryd.underlying9 (hval 0 9 v0 rfl rfl) h0
  obtain ⟨b, rfl, rfl, rfl, hb⟩ := open_string Tryd.underlying9 (hval 1 9 v1 rfl rfl) h1
  exact walk a b W ha hb (env_of hl hsh (pow10_mem 2 rfl))

set_option maxRecDepth 100000 in
theorem said : Rows.PathComparesSaid :=
  OpenClaim.holds_of_wide 5 Tryd.f5 rfl rfl rfl rfl rfl rfl rfl ⟨rfl, rfl, rfl, rfl, rfl⟩ rfl rfl rfl rfl rfl (by kernel_rfl) Tryd.func5 (by kernel_rfl)
    (of_decide_eq_true (by kernel_rfl)) (by unfold Func.isWrapper; first | (rw [if_pos (by decide +kernel)]; kernel_rfl) | (rw [if_neg (by decide +kernel)]; exact ⟨rfl, rfl⟩))
    (fun os started H enc _ => lifted Rows.pathComparesRow.laid (by kernel_rfl) 5 Tryd.f5 Tryd.func5 Rows.pathComparesSpec rfl (by kernel_rfl) (by kernel_rfl)
      (by rw [Tryd.params5]
          have hall : ([9, 9].all fun t => Tryd.prog.readableRec t && decide (t < Tryd.prog.types.size)) = true := by kernel_rfl
          intro t ht
          have := List.all_eq_true.1 hall t ht
          simpa using this)
      (by intro H ts ds h hl; rw [Tryd.params5] at h; subst h
          match ds, hl with
          | [d1, d2], _ => rfl)
      Rows.pathComparesRow.domain os started H enc #[.string ⟨#[]⟩, .string ⟨#[]⟩] (by kernel_rfl) (by kernel_rfl) (by kernel_rfl)
      (World.shaped_of_ZipB (by kernel_rfl) (by kernel_rfl)) (laidMet_laidAll _ (by kernel_rfl) (by kernel_rfl))
      begun)

theorem card : Rows.PathComparesCardSaid :=
  Claim7.holds_tied_plain_at .later [] Rows.pathComparesCard.laidKinds true Rows.pathComparesCard.stood.harness false said (fun _ h => by cases h) (by kernel_rfl) (fun _ h => by cases h) pathCompares_row_tie rfl ⟨rfl, rfl⟩ (by kernel_rfl) rfl
    (fun f fn hf hfn => by
      obtain rfl : f = 5 := Option.some.inj ((show Tryd.prog.funcNamed Rows.pathComparesRow.func = some 5 by kernel_rfl).symm.trans hf) |>.symm
      obtain rfl : fn = Tryd.f5 := (Option.some.inj (Tryd.func5.symm.trans hfn)).symm
      exact ⟨by kernel_rfl, fun j t ht => by
        rw [Tryd.params5] at ht
        have hm : t ∈ [9, 9] := by simpa using Array.mem_of_getElem? ht
        have hall : ([9, 9].all fun u => !Tryd.prog.wantsStandIn u) = true := by kernel_rfl
        exact (show Tryd.prog.wantsStandIn t = false by simpa using List.all_eq_true.1 hall t hm)⟩)
    (by kernel_rfl)
#print axioms card
end Go.Proofs.YtgojagdjlebnnaaDoor.lawPathCompares
