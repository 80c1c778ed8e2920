/- PathOrder: the order of texts is one (transitive, antisymmetric, zero at equal texts alone): the statement PathOrderCardSaid, with no condition of its own. -/
import Derived.Test.YtgojagdjlebnnaaDoorPathEnv
import Derived.Test.YtgojagdjlebnnaaDoorPathG
namespace Go.Proofs.YtgojagdjlebnnaaDoor.lawPathOrder
open Go.ChangeShapes Go.WideShapes Go.ChangeAt Go.RowKit
open Go.ChangeMaps (open_string)

set_option maxHeartbeats 1600000 in
theorem walk (a b c : ByteArray) (w : World) (ha : a.size ≤ maxLen) (hb : b.size ≤ maxLen) (hc : c.size ≤ maxLen) (E : Env w) :
    Calls Tryd.prog 6 #[.string a, .string b, .string c] w fun e w' => e = .returned (.bool true) ∧ Below w.heap.size w w' := by
  have la := cutS_le a
  have lb := cutS_le b
  have lc := cutS_le c
  have CA := fun w => Lib.hid (cut_any a w ha)
  have CB := fun w => Lib.hid (cut_any b w hb)
  have CC := fun w => Lib.hid (cut_any c w hc)
  generalize cutS a = s at *
  generalize cutS b = t at *
  generalize cutS c = u at *
  have H1 := fun w => Lib.hid (cmp_any s t w (by unfold maxLen; omega) (by unfold maxLen; omega))
  have H2 := fun w => Lib.hid (cmp_any t u w (by unfold maxLen; omega) (by unfold maxLen; omega))
  have H3 := fun w => Lib.hid (cmp_any s u w (by unfold maxLen; omega) (by unfold maxLen; omega))
  have H4 := fun w => Lib.hid (cmp_any t s w (by unfold maxLen; omega) (by unfold maxLen; omega))
  rw [cmpL_anti s.toList t.toList] at H4
  have v1 := cmpL_vals s.toList t.toList
  have v2 := cmpL_vals t.toList u.toList
  have v3 := cmpL_vals s.toList u.toList
  have tr := cmpL_trans s.toList t.toList u.toList
  have z1 := cmpL_zero s.toList t.toList
  have z2 : s.toList = t.toList → cmpL s.toList t.toList = 0 := fun h => by rw [h]; exact cmpL_self _
  have z3 : s.toList = t.toList → cmpL t.toList u.toList = cmpL s.toList u.toList := fun h => by rw [h]
  generalize cmpL s.toList t.toList = x at *
  generalize cmpL t.toList u.toList = y at *
  generalize cmpL s.toList u.toList = z at *
  have W := fun w E => Lib.hid (works_any w E)
  have cases : (x = 0 ∧ (s.toList == t.toList) = true ∧ y = z) ∨ ((s.toList == t.toList) = false ∧ (x = 1 ∨ (x = -1 ∧ ((y = -1 ∧ z = -1) ∨ y = 0 ∨ y = 1)))) := by
    by_cases h : s.toList = t.toList
    · exact .inl ⟨z2 h, by simp [h], z3 h⟩
    · refine .inr ⟨by simpa using h, ?_⟩
      have : x ≠ 0 := fun e => h (z1 e)
      rcases v1 with h1 | h1 | h1
      · refine .inr ⟨h1, ?_⟩
        rcases v2 with h2 | h2 | h2
        · exact .inl ⟨h2, tr h1 h2⟩
        · exact .inr (.inl h2)
        · exact .inr (.inr h2)
      · exact absurd h1 this
      · exact .inl h1
  clear tr z1 z2 z3 v1 v2 v3
  rcases cases with ⟨rfl, hq, rfl⟩ | ⟨hq, rfl | ⟨rfl, ⟨rfl, rfl⟩ | rfl | rfl⟩⟩
  all_goals
    go_enter Tryd.func6, Tryd.ntmps6
    go_wp2_with fail
    refine (CA _).out.mono ?_
    rintro e w1 ⟨rfl, rfl⟩
    go_wp2_with fail
    refine (CB _).out.mono ?_
    rintro e w1 ⟨rfl, rfl⟩
    go_wp2_with fail
    refine (CC _).out.mono ?_
    rintro e w1 ⟨rfl, rfl⟩
    go_wp2_with fail
    refine (H1 _).out.mono ?_
    rintro e w2 ⟨rfl, x1⟩
    go_wp2_with fail
    refine (H2 _).out.mono ?_
    rintro e w3 ⟨rfl, x2⟩
    go_wp2_with fail
    refine (H3 _).out.mono ?_
    rintro e w4 ⟨rfl, x3⟩
    go_wp2_with fail
    refine (H4 _).out.mono ?_
    rintro e w5 ⟨rfl, x4⟩
    have X := (((x1.trans x2).trans x3).trans x4)
    go_wp2_with fail
    refine (W _ (E.ext X)).out.mono ?_
    rintro e w6 ⟨rfl, x5⟩
    go_wp2_with fail
    go_ret
    exact ⟨rfl, X.trans x5⟩

set_option maxRecDepth 100000 in
theorem begun {H : Type} {enc : TypeId × Value → H} (W : World) (args : Array Value) (ds : List (DataW H)) (p : List MemPlace) (st : Start enc Rows.pathOrderRow.laid Tryd.f6 W args ds p) :
    Calls Tryd.prog 6 args W fun e W' => e = .returned (.bool true) ∧ Below W.heap.size W W' := by
  obtain ⟨⟨base, hval⟩, hA, hfit, hl, hsh⟩ := st
  rw [Tryd.params6] at hA hval hfit
  obtain ⟨v0, v1, v2, d0, d1, d2, p0, p1, p2, rfl, rfl, rfl, h0, h1, h2⟩ := trodAll_three hA
  obtain ⟨a, rfl, rfl, rfl, ha⟩ := open_string Tryd.underlying9 (hval 0 9 v0 rfl rfl) h0
  obtain ⟨b, rfl, rfl, rfl, hb⟩ := open_string Tryd.underlying9 (hval 1 9 v1 rfl rfl) h1
  obtain ⟨c, rfl, rfl, rfl, hc⟩ := open_string Tryd.underlying9 (hval 2 9 v2 rfl rfl) h2
  exact walk a b c W ha hb hc (env_of hl hsh (pow10_mem 2 rfl))

set_option maxRecDepth 100000 in
theorem said : Rows.PathOrderSaid :=
  OpenClaim.holds_of_wide 6 Tryd.f6 rfl rfl rfl rfl rfl rfl rfl ⟨rfl, rfl, rfl, rfl, rfl⟩ rfl rfl rfl rfl rfl (by kernel_rfl) Tryd.func6 (by kernel_rfl)
    (of_decide_eq_true (by kernel_rfl)) (by unfold Func.isWrapper; first | (rw [if_pos (by decide +kernel)]; kernel_rfl) | (rw [if_neg (by decide +kernel)]; exact ⟨rfl, rfl⟩))
    (fun os started H enc _ => lifted Rows.pathOrderRow.laid (by kernel_rfl) 6 Tryd.f6 Tryd.func6 Rows.pathOrderSpec rfl (by kernel_rfl) (by kernel_rfl)
      (by rw [Tryd.params6]
          have hall : ([9, 9, 9].all fun t => Tryd.prog.readableRec t && decide (t < Tryd.prog.types.size)) = true := by kernel_rfl
          intro t ht
          have := List.all_eq_true.1 hall t ht
          simpa using this)
      (by intro H ts ds h hl; rw [Tryd.params6] at h; subst h
          match ds, hl with
          | [d1, d2, d3], _ => rfl)
      Rows.pathOrderRow.domain os started H enc #[.string ⟨#[]⟩, .string ⟨#[]⟩, .string ⟨#[]⟩] (by kernel_rfl) (by kernel_rfl) (by kernel_rfl)
      (World.shaped_of_ZipB (by kernel_rfl) (by kernel_rfl)) (laidMet_laidAll _ (by kernel_rfl) (by kernel_rfl))
      begun)

theorem card : Rows.PathOrderCardSaid :=
  Claim7.holds_tied_plain_at .later [] Rows.pathOrderCard.laidKinds true Rows.pathOrderCard.stood.harness false said (fun _ h => by cases h) (by kernel_rfl) (fun _ h => by cases h) pathOrder_row_tie rfl ⟨rfl, rfl⟩ (by kernel_rfl) rfl
    (fun f fn hf hfn => by
      obtain rfl : f = 6 := Option.some.inj ((show Tryd.prog.funcNamed Rows.pathOrderRow.func = some 6 by kernel_rfl).symm.trans hf) |>.symm
      obtain rfl : fn = Tryd.f6 := (Option.some.inj (Tryd.func6.symm.trans hfn)).symm
      exact ⟨by kernel_rfl, fun j t ht => by
        rw [Tryd.params6] at ht
        have hm : t ∈ [9, 9, 9] := by simpa using Array.mem_of_getElem? ht
        have hall : ([9, 9, 9].all fun u => !Tryd.prog.wantsStandIn u) = true := by kernel_rfl
        exact (show Tryd.prog.wantsStandIn t = false by simpa using List.all_eq_true.1 hall t hm)⟩)
    (by kernel_rfl)
#print axioms card
end Go.Proofs.YtgojagdjlebnnaaDoor.lawPathOrder
