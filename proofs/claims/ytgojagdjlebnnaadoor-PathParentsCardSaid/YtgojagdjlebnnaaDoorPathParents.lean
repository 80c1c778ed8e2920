/- PathParents: of any two texts, the parent, the last part and what lies within what are as the document says: the statement PathParentsCardSaid, with no condition of its own. -/
import Derived.Test.YtgojagdjlebnnaaDoorPathEnv
import Derived.Test.YtgojagdjlebnnaaDoorPathH
import Derived.Test.YtgojagdjlebnnaaDoorPathE
namespace Go.Proofs.YtgojagdjlebnnaaDoor.lawPathParents
open Go.ChangeShapes Go.WideShapes Go.ChangeAt Go.RowKit
open Go.ChangeMaps (open_string)

set_option maxHeartbeats 1600000 in
theorem walk (a b : ByteArray) (w : World) (ha : a.size ≤ maxLen) (hb : b.size ≤ maxLen) (E : Env w) :
    Calls Tryd.prog 4 #[.string a, .string b] w fun e w' => e = .returned (.bool true) ∧ Below w.heap.size w w' := by
  have la := cutS_le a
  have lb := cutS_le b
  have CA := fun w => Lib.hid (cut_any a w ha)
  have CB := fun w => Lib.hid (cut_any b w hb)
  generalize cutS a = s at *
  generalize cutS b = t at *
  have H1 := fun w E => Lib.hid (parent_any s w (by omega) E)
  have H2 := fun w => Lib.hid (refParent_any s w (by omega))
  have H3 := fun w E => Lib.hid (base_any s w (by omega) E)
  have H4 := fun w => Lib.hid (refBase_any s w (by omega))
  have H5 := fun w E => Lib.hid (within_any s t w (by omega) (by omega) E)
  have H6 := fun w => Lib.hid (refWithin_any s t w (by omega) (by omega))
  have W := fun w E => Lib.hid (works_any w E)
  generalize parentR s = P at *
  generalize mayB s = m at *
  generalize baseR s = B at *
  generalize withinB s t = q at *
  go_enter Tryd.func4, Tryd.ntmps4
  go_wp2_with fail
  refine (CA _).out.mono ?_
  rintro e w1 ⟨rfl, rfl⟩
  go_wp2_with fail
  refine (CB _).out.mono ?_
  rintro e w1 ⟨rfl, rfl⟩
  go_wp2_with fail
  refine (H1 _ E).out.mono ?_
  rintro e w2 ⟨rfl, x1⟩
  go_wp2_with fail
  refine (H2 _).out.mono ?_
  rintro e w3 ⟨rfl, x2⟩
  have X2 := x1.trans x2
  go_wp2_with fail
  refine (H3 _ (E.ext X2)).out.mono ?_
  rintro e w4 ⟨rfl, x3⟩
  have X3 := X2.trans x3
  go_wp2_with fail
  refine (H4 _).out.mono ?_
  rintro e w5 ⟨rfl, x4⟩
  have X4 := X3.trans x4
  go_wp2_with fail
  refine (H5 _ (E.ext X4)).out.mono ?_
  rintro e w6 ⟨rfl, x5⟩
  have X5 := X4.trans x5
  go_wp2_with fail
  refine (H6 _).out.mono ?_
  rintro e w7 ⟨rfl, x6⟩
  have X6 := X5.trans x6
  go_wp2_with fail
  refine (W _ (E.ext X6)).out.mono ?_
  rintro e w8 ⟨rfl, x7⟩
  go_wp2_with fail
  go_ret
  exact ⟨rfl, X6.trans x7⟩

set_option maxRecDepth 100000 in
theorem begun {H : Type} {enc : TypeId × Value → H} (W : World) (args : Array Value) (ds : List (DataW H)) (p : List MemPlace) (st : Start enc Rows.pathParentsRow.laid Tryd.f4 W args ds p) :
    Calls Tryd.prog 4 args W fun e W' => e = .returned (.bool true) ∧ Below W.heap.size W W' := by
  obtain ⟨⟨base, hval⟩, hA, hfit, hl, hsh⟩ := st
  rw [Tryd.params4] at hA hval hfit
  obtain ⟨v0, v1, d0, d1, p0, p1, rfl, rfl, rfl, h0, h1⟩ := trodAll_two hA
  obtain ⟨a, rfl, rfl, rfl, ha⟩ := open_string Tryd.underlying9 (hval 0 9 v0 rfl rfl) h0
  obtain ⟨b, rfl, rfl, rfl, hb⟩ := open_string Tryd.underlying9 (hval 1 9 v1 rfl rfl) h1
  exact walk a b W ha hb (env_of hl hsh (pow10_mem 2 rfl))

set_option maxRecDepth 100000 in
theorem said : Rows.PathParentsSaid :=
  OpenClaim.holds_of_wide 4 Tryd.f4 rfl rfl rfl rfl rfl rfl rfl ⟨rfl, rfl, rfl, rfl, rfl⟩ rfl rfl rfl rfl rfl (by kernel_rfl) Tryd.func4 (by kernel_rfl)
    (of_decide_eq_true (by kernel_rfl)) (by unfold Func.isWrapper; first | (rw [if_pos (by decide +kernel)]; kernel_rfl) | (rw [if_neg (by decide +kernel)]; exact ⟨rfl, rfl⟩))
    (fun os started H enc _ => lifted Rows.pathParentsRow.laid (by kernel_rfl) 4 Tryd.f4 Tryd.func4 Rows.pathParentsSpec rfl (by kernel_rfl) (by kernel_rfl)
      (by rw [Tryd.params4]
          have hall : ([9, 9].all fun t => Tryd.prog.readableRec t && decide (t < Tryd.prog.types.size)) = true := by kernel_rfl
          intro t ht
          have := List.all_eq_true.1 hall t ht
          simpa using this)
      (by intro H ts ds h hl; rw [Tryd.params4] at h; subst h
          match ds, hl with
          | [d1, d2], _ => rfl)
      Rows.pathParentsRow.domain os started H enc #[.string ⟨#[]⟩, .string ⟨#[]⟩] (by kernel_rfl) (by kernel_rfl) (by kernel_rfl)
      (World.shaped_of_ZipB (by kernel_rfl) (by kernel_rfl)) (laidMet_laidAll _ (by kernel_rfl) (by kernel_rfl))
      begun)

theorem card : Rows.PathParentsCardSaid :=
  Claim7.holds_tied_plain_at .later [] Rows.pathParentsCard.laidKinds true Rows.pathParentsCard.stood.harness false said (fun _ h => by cases h) (by kernel_rfl) (fun _ h => by cases h) pathParents_row_tie rfl ⟨rfl, rfl⟩ (by kernel_rfl) rfl
    (fun f fn hf hfn => by
      obtain rfl : f = 4 := Option.some.inj ((show Tryd.prog.funcNamed Rows.pathParentsRow.func = some 4 by kernel_rfl).symm.trans hf) |>.symm
      obtain rfl : fn = Tryd.f4 := (Option.some.inj (Tryd.func4.symm.trans hfn)).symm
      exact ⟨by kernel_rfl, fun j t ht => by
        rw [Tryd.params4] at ht
        have hm : t ∈ [9, 9] := by simpa using Array.mem_of_getElem? ht
        have hall : ([9, 9].all fun u => !Tryd.prog.wantsStandIn u) = true := by kernel_rfl
        exact (show Tryd.prog.wantsStandIn t = false by simpa using List.all_eq_true.1 hall t hm)⟩)
    (by kernel_rfl)
#print axioms card
end Go.Proofs.YtgojagdjlebnnaaDoor.lawPathParents
