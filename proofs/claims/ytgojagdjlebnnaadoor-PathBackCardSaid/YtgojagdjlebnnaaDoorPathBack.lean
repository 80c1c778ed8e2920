/- PathBack: a path is the path of its parts; it is its last part in its parent: the statement PathBackCardSaid, with no condition of its own. -/
import Derived.Test.YtgojagdjlebnnaaDoorPathEnv
import Derived.Test.YtgojagdjlebnnaaDoorPathI
import Derived.Test.YtgojagdjlebnnaaDoorPathE
import Derived.Test.YtgojagdjlebnnaaDoorBackL
namespace Go.Proofs.YtgojagdjlebnnaaDoor.lawPathBack
open Go.ChangeShapes Go.WideShapes Go.ChangeAt Go.RowKit
open Go.ChangeMaps (open_string)

set_option maxRecDepth 100000 in
set_option maxHeartbeats 3200000 in
theorem walk (a : ByteArray) (w : World) (ha : a.size ≤ maxLen) (E : Env w) :
    Calls Tryd.prog 9 #[.string a] w fun e w' => e = .returned (.bool true) ∧ Below w.heap.size w w' := by
  have la := cutS_le a
  have CA := fun w => Lib.hid (cut_any a w ha)
  generalize cutS a = s at *
  have H1 := fun w E => Lib.hid (parts_any s w (by omega) E)
  have H2 := fun w E => Lib.hid (parent_any s w (by omega) E)
  have H3 := fun w E => Lib.hid (base_any s w (by omega) E)
  have H4 := fun w E => Lib.hid (may_any s w (by omega) E)
  have W := fun w E => Lib.hid (works_any w E)
  cases hm : mayB s
  · have e1 : partsOf s = [] := by unfold partsOf; rw [hm]; rfl
    have e2 : parentR s = ⟨#[]⟩ := by unfold parentR; rw [hm]; rfl
    have e3 : baseR s = ⟨#[]⟩ := by unfold baseR; rw [hm]; rfl
    rw [e1] at H1
    rw [e2, hm] at H2
    rw [e3] at H3
    rw [hm] at H4
    clear e1 e2 e3 hm
    go_enter Tryd.func9, Tryd.ntmps9
    go_wp2_with fail
    refine (CA _).out.mono ?_
    rintro e wr1 ⟨rfl, hwr⟩
    obtain rfl := hwr.symm
    go_wp2_with fail
    refine (H1 _ E).out.mono ?_
    rintro e w1 ⟨v, rfl, hc, x1⟩
    rcases hc with ⟨rfl, _⟩ | ⟨g, cap, rfl, _, _, _, _⟩
    · go_wp2_with fail
      refine (H2 _ (E.ext x1)).out.mono ?_
      rintro e wr1 ⟨rfl, xr1⟩
      have Xr1 := x1.trans xr1
      go_wp2_with fail
      refine (H3 _ (E.ext Xr1)).out.mono ?_
      rintro e wr2 ⟨rfl, xr2⟩
      have Xr2 := Xr1.trans xr2
      go_wp2_with fail
      refine (H4 _ (E.ext Xr2)).out.mono ?_
      rintro e wr3 ⟨rfl, xr3⟩
      have Xr3 := Xr2.trans xr3
      go_wp2_with fail
      refine (W _ (E.ext Xr3)).out.mono ?_
      rintro e wr4 ⟨rfl, xr4⟩
      have Xr4 := Xr3.trans xr4
      have XE := Xr4
      go_wp2_with fail
      go_ret
      exact ⟨rfl, Xr4⟩
    · go_wp2_with fail
      refine (H2 _ (E.ext x1)).out.mono ?_
      rintro e wr1 ⟨rfl, xr1⟩
      have Xr1 := x1.trans xr1
      go_wp2_with fail
      refine (H3 _ (E.ext Xr1)).out.mono ?_
      rintro e wr2 ⟨rfl, xr2⟩
      have Xr2 := Xr1.trans xr2
      go_wp2_with fail
      refine (H4 _ (E.ext Xr2)).out.mono ?_
      rintro e wr3 ⟨rfl, xr3⟩
      have Xr3 := Xr2.trans xr3
      go_wp2_with fail
      refine (W _ (E.ext Xr3)).out.mono ?_
      rintro e wr4 ⟨rfl, xr4⟩
      have Xr4 := Xr3.trans xr4
      have XE := Xr4
      go_wp2_with fail
      go_ret
      exact ⟨rfl, Xr4⟩
  · have e1 : partsOf s = piecesOf s := by unfold partsOf; rw [hm]; rfl
    have e2 : parentR s = parentS s := by unfold parentR; rw [hm]; rfl
    have e3 : baseR s = baseS s := by unfold baseR; rw [hm]; rfl
    rw [e1] at H1
    rw [e2, hm] at H2
    rw [e3] at H3
    rw [hm] at H4
    have hz := piecesOf_sizes s
    have HJ := fun v w hc E => Lib.hid (join_any v (piecesOf s) w hc (fun x hx => by have := hz x hx; omega) E)
    have J := back_join s hm
    rw [J.1] at HJ
    rw [J.2] at HJ
    have hb := back_base s hm
    have hbl := baseS_le s
    have HN := fun w => Lib.hid (name_any (baseS s) w (by unfold maxLen; omega))
    rw [hb] at HN
    have hne : (piecesOf s).length ≠ 0 := by have := piecesOf_len s; omega
    have hln : (piecesOf s).length ≤ 6 := back_len s hm
    have hlast : ∀ x, (piecesOf s)[(piecesOf s).length - 1]? = some x → x = baseS s := (pieces_last (piecesOf_toList s)).2
    have hpar := back_parent s hm
    have hps := parentS_le s
    have M := fun w E => Lib.hid (may_any (parentS s) w (by omega) E)
    have WI := fun w E => Lib.hid (within_any s (parentS s) w (by omega) (by omega) E)
    clear e1 e2 e3 hm J hb hz
    generalize withinB s (parentS s) = wi at *
    generalize mayB (parentS s) = mp at *
    generalize piecesOf s = l at *
    generalize parentS s = P at *
    generalize baseS s = B at *
    cases hpe : P.toList.isEmpty
    · have hpe2 : (P.toList == []) = false := by cases hl : P.toList with | nil => rw [hl] at hpe; cases hpe | cons a b => rfl
      obtain ⟨q1, q2, q3⟩ := hpar.2 hpe
      subst q2
      subst q3
      clear hpar
      go_enter Tryd.func9, Tryd.ntmps9
      go_wp2_with fail
      refine (CA _).out.mono ?_
      rintro e wr1 ⟨rfl, hwr⟩
      obtain rfl := hwr.symm
      go_wp2_with fail
      refine (H1 _ E).out.mono ?_
      rintro e w1 ⟨v, rfl, hc, x1⟩
      have HC0 := Lib.hid hc
      rcases hc with ⟨rfl, h0⟩ | ⟨g, cap, rfl, hg, hcap, hmx, hcells⟩
      · exact absurd (by simpa using congrArg List.length h0) hne
      · rw [List.length_map] at *
        unfold maxLen at hmx
        obtain ⟨x, hx⟩ : ∃ x, l[l.length - 1]? = some x := ⟨_, List.getElem?_eq_getElem (by omega)⟩
        obtain rfl := hlast x hx
        have hcx : w1.cell? ⟨g, l.length - 1, none⟩ = some (.string x) := hcells _ _ (by rw [List.getElem?_map, hx]; rfl)
        have HCX := Lib.hid hcx
        clear hcells hlast hx hcx
        go_wp2_with fail
        refine (H2 _ (E.ext x1)).out.mono ?_
        rintro e wr1 ⟨rfl, xr1⟩
        have Xr1 := x1.trans xr1
        go_wp2_with fail
        refine (H3 _ (E.ext Xr1)).out.mono ?_
        rintro e wr2 ⟨rfl, xr2⟩
        have Xr2 := Xr1.trans xr2
        go_wp2_with fail
        refine (H4 _ (E.ext Xr2)).out.mono ?_
        rintro e wr3 ⟨rfl, xr3⟩
        have Xr3 := Xr2.trans xr3
        have XE := Xr3
        go_wp2_with fail
        refine (HJ _ _ (HC0.out.ext ((xr1.trans xr2).trans xr3)) (E.ext XE)).out.mono ?_
        rintro e w5 ⟨rfl, x5⟩
        have hcy : w5.cell? ⟨g, l.length - 1, none⟩ = some (.string x) := ((((xr1.trans xr2).trans xr3).trans x5).cell hg).trans HCX.out
        have X5 := XE.trans x5
        go_wp2_with fail
        refine (HN _).out.mono ?_
        rintro e wr1 ⟨rfl, hwr⟩
        obtain rfl := hwr.symm
        go_wp2_with fail
        refine (M _ (E.ext X5)).out.mono ?_
        rintro e wr2 ⟨rfl, xr2⟩
        have Xr2 := X5.trans xr2
        go_wp2_with fail
        refine (WI _ (E.ext Xr2)).out.mono ?_
        rintro e wr3 ⟨rfl, xr3⟩
        have Xr3 := Xr2.trans xr3
        go_wp2_with fail
        refine (W _ (E.ext Xr3)).out.mono ?_
        rintro e wr4 ⟨rfl, xr4⟩
        have Xr4 := Xr3.trans xr4
        have XE := Xr4
        go_wp2_with fail
        go_ret
        exact ⟨rfl, Xr4⟩
    · have hpe2 : (P.toList == []) = true := by cases hl : P.toList with | nil => rfl | cons a b => rw [hl] at hpe; cases hpe
      obtain ⟨q1, q2⟩ := hpar.1 hpe
      subst q1
      subst q2
      clear hpar hlast hne hln
      go_enter Tryd.func9, Tryd.ntmps9
      go_wp2_with fail
      refine (CA _).out.mono ?_
      rintro e wr1 ⟨rfl, hwr⟩
      obtain rfl := hwr.symm
      go_wp2_with fail
      refine (H1 _ E).out.mono ?_
      rintro e w1 ⟨v, rfl, hc, x1⟩
      have HC0 := Lib.hid hc
      rcases hc with ⟨rfl, h0⟩ | ⟨g, cap, rfl, hg, hcap, hmx, hcells⟩
      · exact absurd (by simpa using congrArg List.length h0) (by decide : ¬ False)
      · simp only [List.map_cons, List.map_nil, List.length_cons, List.length_nil, Nat.zero_add] at *
        unfold maxLen at hmx
        have hcx : w1.cell? ⟨g, 0, none⟩ = some (.string B) := hcells 0 _ rfl
        have HCX := Lib.hid hcx
        clear hcells hcx
        go_wp2_with fail
        refine (H2 _ (E.ext x1)).out.mono ?_
        rintro e wr1 ⟨rfl, xr1⟩
        have Xr1 := x1.trans xr1
        go_wp2_with fail
        refine (H3 _ (E.ext Xr1)).out.mono ?_
        rintro e wr2 ⟨rfl, xr2⟩
        have Xr2 := Xr1.trans xr2
        go_wp2_with fail
        refine (H4 _ (E.ext Xr2)).out.mono ?_
        rintro e wr3 ⟨rfl, xr3⟩
        have Xr3 := Xr2.trans xr3
        have XE := Xr3
        go_wp2_with fail
        refine (HJ _ _ (HC0.out.ext ((xr1.trans xr2).trans xr3)) (E.ext XE)).out.mono ?_
        rintro e w5 ⟨rfl, x5⟩
        have hcy : w5.cell? ⟨g, 0, none⟩ = some (.string B) := ((((xr1.trans xr2).trans xr3).trans x5).cell hg).trans HCX.out
        have X5 := XE.trans x5
        go_wp2_with fail
        refine (HN _).out.mono ?_
        rintro e wr1 ⟨rfl, hwr⟩
        obtain rfl := hwr.symm
        go_wp2_with fail
        refine (W _ (E.ext X5)).out.mono ?_
        rintro e wr2 ⟨rfl, xr2⟩
        have Xr2 := X5.trans xr2
        have XE := Xr2
        go_wp2_with fail
        go_ret
        exact ⟨rfl, Xr2⟩

-- BEGUN
set_option maxRecDepth 100000 in
theorem begun {H : Type} {enc : TypeId × Value → H} (W : World) (args : Array Value) (ds : List (DataW H)) (p : List MemPlace) (st : Start enc Rows.pathBackRow.laid Tryd.f9 W args ds p) :
    Calls Tryd.prog 9 args W fun e W' => e = .returned (.bool true) ∧ Below W.heap.size W W' := by
  obtain ⟨⟨base, hval⟩, hA, hfit, hl, hsh⟩ := st
  rw [Tryd.params9] at hA hval hfit
  obtain ⟨v0, d0, rfl, rfl, h0⟩ := trodAll_one hA
  obtain ⟨a, rfl, rfl, rfl, ha⟩ := open_string Tryd.underlying9 (hval 0 9 v0 rfl rfl) h0
  exact walk a W ha (env_of hl hsh (pow10_mem 2 rfl))

set_option maxRecDepth 100000 in
theorem said : Rows.PathBackSaid :=
  OpenClaim.holds_of_wide 9 Tryd.f9 rfl rfl rfl rfl rfl rfl rfl ⟨rfl, rfl, rfl, rfl, rfl⟩ rfl rfl rfl rfl rfl (by kernel_rfl) Tryd.func9 (by kernel_rfl)
    (of_decide_eq_true (by kernel_rfl)) (by unfold Func.isWrapper; first | (rw [if_pos (by decide +kernel)]; kernel_rfl) | (rw [if_neg (by decide +kernel)]; exact ⟨rfl, rfl⟩))
    (fun os started H enc _ => lifted Rows.pathBackRow.laid (by kernel_rfl) 9 Tryd.f9 Tryd.func9 Rows.pathBackSpec rfl (by kernel_rfl) (by kernel_rfl)
      (by rw [Tryd.params9]
          have hall : ([9].all fun t => Tryd.prog.readableRec t && decide (t < Tryd.prog.types.size)) = true := by kernel_rfl
          intro t ht
          have := List.all_eq_true.1 hall t ht
          simpa using this)
      (by intro H ts ds h hl; rw [Tryd.params9] at h; subst h
          match ds, hl with
          | [d1], _ => rfl)
      Rows.pathBackRow.domain os started H enc #[.string ⟨#[]⟩] (by kernel_rfl) (by kernel_rfl) (by kernel_rfl)
      (World.shaped_of_ZipB (by kernel_rfl) (by kernel_rfl)) (laidMet_laidAll _ (by kernel_rfl) (by kernel_rfl))
      begun)

theorem card : Rows.PathBackCardSaid :=
  Claim7.holds_tied_plain_at .later [] Rows.pathBackCard.laidKinds true Rows.pathBackCard.stood.harness false said (fun _ h => by cases h) (by kernel_rfl) (fun _ h => by cases h) pathBack_row_tie rfl ⟨rfl, rfl⟩ (by kernel_rfl) rfl
    (fun f fn hf hfn => by
      obtain rfl : f = 9 := Option.some.inj ((show Tryd.prog.funcNamed Rows.pathBackRow.func = some 9 by kernel_rfl).symm.trans hf) |>.symm
      obtain rfl : fn = Tryd.f9 := (Option.some.inj (Tryd.func9.symm.trans hfn)).symm
      exact ⟨by kernel_rfl, fun j t ht => by
        rw [Tryd.params9] at ht
        have hm : t ∈ [9] := by simpa using Array.mem_of_getElem? ht
        have hall : ([9].all fun u => !Tryd.prog.wantsStandIn u) = true := by kernel_rfl
        exact (show Tryd.prog.wantsStandIn t = false by simpa using List.all_eq_true.1 hall t hm)⟩)
    (by kernel_rfl)
#print axioms card
end Go.Proofs.YtgojagdjlebnnaaDoor.lawPathBack
