/- PathBehind: what lies within a directory stands right behind it in the order: the statement PathBehindCardSaid, with no condition of its own. -/
import Derived.Test.YtgojagdjlebnnaaDoorPathEnv
import Derived.Test.YtgojagdjlebnnaaDoorPathH
import Derived.Test.YtgojagdjlebnnaaDoorPathE
import Derived.Test.YtgojagdjlebnnaaDoorBehindL
namespace Go.Proofs.YtgojagdjlebnnaaDoor.lawPathBehind
open Go.ChangeShapes Go.WideShapes Go.ChangeAt Go.RowKit
open Go.ChangeMaps (open_string)

set_option maxHeartbeats 3200000 in
theorem walk (a b c : ByteArray) (w : World) (ha : a.size ≤ maxLen) (hb : b.size ≤ maxLen) (hc : c.size ≤ maxLen) (E : Env w) :
    Calls Tryd.prog 7 #[.string a, .string b, .string c] w fun e w' => e = .returned (.bool true) ∧ Below w.heap.size w w' := by
  have la := cutS_le a
  have lb := cutS_le b
  have lc := cutS_le c
  have CA := fun w => Lib.hid (cut_any a w ha)
  have CB := fun w => Lib.hid (cut_any b w hb)
  have CC := fun w => Lib.hid (cut_any c w hc)
  generalize cutS a = d at *
  generalize cutS b = p at *
  generalize cutS c = q at *
  have M1 := fun w E => Lib.hid (may_any d w (by omega) E)
  have M2 := fun w E => Lib.hid (within_any p d w (by omega) (by omega) E)
  have M3 := fun w E => Lib.hid (may_any q w (by omega) E)
  have M4 := fun w E => Lib.hid (within_any q d w (by omega) (by omega) E)
  have K1 := fun w => Lib.hid (cmp_any d p w (by unfold maxLen; omega) (by unfold maxLen; omega))
  have K2 := fun w => Lib.hid (cmp_any d q w (by unfold maxLen; omega) (by unfold maxLen; omega))
  have K3 := fun w => Lib.hid (cmp_any q p w (by unfold maxLen; omega) (by unfold maxLen; omega))
  have W := fun w E => Lib.hid (works_any w E)
  have L1 := behind_less d p
  have L2 := behind_between d p q
  generalize mayB d = md at *
  generalize withinB p d = wp at *
  generalize mayB q = mq at *
  generalize withinB q d = wq at *
  generalize cmpL d.toList p.toList = x at *
  generalize cmpL d.toList q.toList = y at *
  generalize cmpL q.toList p.toList = z at *
  cases md
  · clear L1 L2
    go_enter Tryd.func7, Tryd.ntmps7
    go_wp2_with fail
    refine (CA _).out.mono ?_
    rintro e w1 ⟨rfl, rfl⟩
    go_wp2_with fail
    refine (CB _).out.mono ?_
    rintro e w1 ⟨rfl, rfl⟩
    go_wp2_with fail
    refine (CC _).out.mono ?_
    rintro e w1 ⟨rfl, rfl⟩
    go_wp2_with fail
    refine (M1 _ E).out.mono ?_
    rintro e w2 ⟨rfl, x1⟩
    go_wp2_with fail
    refine (W _ (E.ext x1)).out.mono ?_
    rintro e w3 ⟨rfl, x2⟩
    go_wp2_with fail
    go_ret
    exact ⟨rfl, x1.trans x2⟩
  cases wp
  · clear L1 L2
    go_enter Tryd.func7, Tryd.ntmps7
    go_wp2_with fail
    refine (CA _).out.mono ?_
    rintro e w1 ⟨rfl, rfl⟩
    go_wp2_with fail
    refine (CB _).out.mono ?_
    rintro e w1 ⟨rfl, rfl⟩
    go_wp2_with fail
    refine (CC _).out.mono ?_
    rintro e w1 ⟨rfl, rfl⟩
    go_wp2_with fail
    refine (M1 _ E).out.mono ?_
    rintro e w2 ⟨rfl, x1⟩
    go_wp2_with fail
    refine (M2 _ (E.ext x1)).out.mono ?_
    rintro e w3 ⟨rfl, x2⟩
    have X2 := x1.trans x2
    go_wp2_with fail
    refine (W _ (E.ext X2)).out.mono ?_
    rintro e w4 ⟨rfl, x3⟩
    go_wp2_with fail
    go_ret
    exact ⟨rfl, X2.trans x3⟩
  cases mq
  · clear L1 L2
    go_enter Tryd.func7, Tryd.ntmps7
    go_wp2_with fail
    refine (CA _).out.mono ?_
    rintro e w1 ⟨rfl, rfl⟩
    go_wp2_with fail
    refine (CB _).out.mono ?_
    rintro e w1 ⟨rfl, rfl⟩
    go_wp2_with fail
    refine (CC _).out.mono ?_
    rintro e w1 ⟨rfl, rfl⟩
    go_wp2_with fail
    refine (M1 _ E).out.mono ?_
    rintro e w2 ⟨rfl, x1⟩
    go_wp2_with fail
    refine (M2 _ (E.ext x1)).out.mono ?_
    rintro e w3 ⟨rfl, x2⟩
    have X2 := x1.trans x2
    go_wp2_with fail
    refine (M3 _ (E.ext X2)).out.mono ?_
    rintro e w4 ⟨rfl, x3⟩
    have X3 := X2.trans x3
    go_wp2_with fail
    refine (W _ (E.ext X3)).out.mono ?_
    rintro e w5 ⟨rfl, x4⟩
    go_wp2_with fail
    go_ret
    exact ⟨rfl, X3.trans x4⟩
  have hx := L1 rfl rfl
  subst hx
  clear L1
  by_cases hy : y < 0
  · by_cases hz : z < 0
    · have hq := L2 rfl rfl rfl hy hz
      subst hq
      clear L2
      go_enter Tryd.func7, Tryd.ntmps7
      go_wp2_with fail
      refine (CA _).out.mono ?_
      rintro e w1 ⟨rfl, rfl⟩
      go_wp2_with fail
      refine (CB _).out.mono ?_
      rintro e w1 ⟨rfl, rfl⟩
      go_wp2_with fail
      refine (CC _).out.mono ?_
      rintro e w1 ⟨rfl, rfl⟩
      go_wp2_with fail
      refine (M1 _ E).out.mono ?_
      rintro e w2 ⟨rfl, x1⟩
      go_wp2_with fail
      refine (M2 _ (E.ext x1)).out.mono ?_
      rintro e w3 ⟨rfl, x2⟩
      have X2 := x1.trans x2
      go_wp2_with fail
      refine (M3 _ (E.ext X2)).out.mono ?_
      rintro e w4 ⟨rfl, x3⟩
      have X3 := X2.trans x3
      go_wp2_with fail
      refine (K1 _).out.mono ?_
      rintro e w5 ⟨rfl, x4⟩
      have X4 := X3.trans x4
      go_wp2_with fail
      refine (K2 _).out.mono ?_
      rintro e w6 ⟨rfl, x5⟩
      have X5 := X4.trans x5
      go_wp2_with fail
      refine (K3 _).out.mono ?_
      rintro e w7 ⟨rfl, x6⟩
      have X6 := X5.trans x6
      go_wp2_with fail
      refine (M4 _ (E.ext X6)).out.mono ?_
      rintro e w8 ⟨rfl, x7⟩
      have X7 := X6.trans x7
      go_wp2_with fail
      refine (W _ (E.ext X7)).out.mono ?_
      rintro e w9 ⟨rfl, x8⟩
      go_wp2_with fail
      go_ret
      exact ⟨rfl, X7.trans x8⟩
    · clear L2
      go_enter Tryd.func7, Tryd.ntmps7
      go_wp2_with fail
      refine (CA _).out.mono ?_
      rintro e w1 ⟨rfl, rfl⟩
      go_wp2_with fail
      refine (CB _).out.mono ?_
      rintro e w1 ⟨rfl, rfl⟩
      go_wp2_with fail
      refine (CC _).out.mono ?_
      rintro e w1 ⟨rfl, rfl⟩
      go_wp2_with fail
      refine (M1 _ E).out.mono ?_
      rintro e w2 ⟨rfl, x1⟩
      go_wp2_with fail
      refine (M2 _ (E.ext x1)).out.mono ?_
      rintro e w3 ⟨rfl, x2⟩
      have X2 := x1.trans x2
      go_wp2_with fail
      refine (M3 _ (E.ext X2)).out.mono ?_
      rintro e w4 ⟨rfl, x3⟩
      have X3 := X2.trans x3
      go_wp2_with fail
      refine (K1 _).out.mono ?_
      rintro e w5 ⟨rfl, x4⟩
      have X4 := X3.trans x4
      go_wp2_with fail
      refine (K2 _).out.mono ?_
      rintro e w6 ⟨rfl, x5⟩
      have X5 := X4.trans x5
      go_wp2_with fail
      refine (K3 _).out.mono ?_
      rintro e w7 ⟨rfl, x6⟩
      have X6 := X5.trans x6
      go_wp2_with fail
      refine (W _ (E.ext X6)).out.mono ?_
      rintro e w9 ⟨rfl, x8⟩
      go_wp2_with fail
      go_ret
      exact ⟨rfl, X6.trans x8⟩
  · clear L2
    go_enter Tryd.func7, Tryd.ntmps7
    go_wp2_with fail
    refine (CA _).out.mono ?_
    rintro e w1 ⟨rfl, rfl⟩
    go_wp2_with fail
    refine (CB _).out.mono ?_
    rintro e w1 ⟨rfl, rfl⟩
    go_wp2_with fail
    refine (CC _).out.mono ?_
    rintro e w1 ⟨rfl, rfl⟩
    go_wp2_with fail
    refine (M1 _ E).out.mono ?_
    rintro e w2 ⟨rfl, x1⟩
    go_wp2_with fail
    refine (M2 _ (E.ext x1)).out.mono ?_
    rintro e w3 ⟨rfl, x2⟩
    have X2 := x1.trans x2
    go_wp2_with fail
    refine (M3 _ (E.ext X2)).out.mono ?_
    rintro e w4 ⟨rfl, x3⟩
    have X3 := X2.trans x3
    go_wp2_with fail
    refine (K1 _).out.mono ?_
    rintro e w5 ⟨rfl, x4⟩
    have X4 := X3.trans x4
    go_wp2_with fail
    refine (K2 _).out.mono ?_
    rintro e w6 ⟨rfl, x5⟩
    have X5 := X4.trans x5
    go_wp2_with fail
    refine (W _ (E.ext X5)).out.mono ?_
    rintro e w9 ⟨rfl, x8⟩
    go_wp2_with fail
    go_ret
    exact ⟨rfl, X5.trans x8⟩

set_option maxRecDepth 100000 in
theorem begun {H : Type} {enc : TypeId × Value → H} (W : World) (args : Array Value) (ds : List (DataW H)) (p : List MemPlace) (st : Start enc Rows.pathBehindRow.laid Tryd.f7 W args ds p) :
    Calls Tryd.prog 7 args W fun e W' => e = .returned (.bool true) ∧ Below W.heap.size W W' := by
  obtain ⟨⟨base, hval⟩, hA, hfit, hl, hsh⟩ := st
  rw [Tryd.params7] at hA hval hfit
  obtain ⟨v0, v1, v2, d0, d1, d2, p0, p1, p2, rfl, rfl, rfl, h0, h1, h2⟩ := trodAll_three hA
  obtain ⟨a, rfl, rfl, rfl, ha⟩ := open_string Tryd.underlying9 (hval 0 9 v0 rfl rfl) h0
  obtain ⟨b, rfl, rfl, rfl, hb⟩ := open_string Tryd.underlying9 (hval 1 9 v1 rfl rfl) h1
  obtain ⟨c, rfl, rfl, rfl, hc⟩ := open_string Tryd.underlying9 (hval 2 9 v2 rfl rfl) h2
  exact walk a b c W ha hb hc (env_of hl hsh (pow10_mem 2 rfl))

set_option maxRecDepth 100000 in
theorem said : Rows.PathBehindSaid :=
  OpenClaim.holds_of_wide 7 Tryd.f7 rfl rfl rfl rfl rfl rfl rfl ⟨rfl, rfl, rfl, rfl, rfl⟩ rfl rfl rfl rfl rfl (by kernel_rfl) Tryd.func7 (by kernel_rfl)
    (of_decide_eq_true (by kernel_rfl)) (by unfold Func.isWrapper; first | (rw [if_pos (by decide +kernel)]; kernel_rfl) | (rw [if_neg (by decide +kernel)]; exact ⟨rfl, rfl⟩))
    (fun os started H enc _ => lifted Rows.pathBehindRow.laid (by kernel_rfl) 7 Tryd.f7 Tryd.func7 Rows.pathBehindSpec rfl (by kernel_rfl) (by kernel_rfl)
      (by rw [Tryd.params7]
          have hall : ([9, 9, 9].all fun t => Tryd.prog.readableRec t && decide (t < Tryd.prog.types.size)) = true := by kernel_rfl
          intro t ht
          have := List.all_eq_true.1 hall t ht
          simpa using this)
      (by intro H ts ds h hl; rw [Tryd.params7] at h; subst h
          match ds, hl with
          | [d1, d2, d3], _ => rfl)
      Rows.pathBehindRow.domain os started H enc #[.string ⟨#[]⟩, .string ⟨#[]⟩, .string ⟨#[]⟩] (by kernel_rfl) (by kernel_rfl) (by kernel_rfl)
      (World.shaped_of_ZipB (by kernel_rfl) (by kernel_rfl)) (laidMet_laidAll _ (by kernel_rfl) (by kernel_rfl))
      begun)

theorem card : Rows.PathBehindCardSaid :=
  Claim7.holds_tied_plain_at .later [] Rows.pathBehindCard.laidKinds true Rows.pathBehindCard.stood.harness false said (fun _ h => by cases h) (by kernel_rfl) (fun _ h => by cases h) pathBehind_row_tie rfl ⟨rfl, rfl⟩ (by kernel_rfl) rfl
    (fun f fn hf hfn => by
      obtain rfl : f = 7 := Option.some.inj ((show Tryd.prog.funcNamed Rows.pathBehindRow.func = some 7 by kernel_rfl).symm.trans hf) |>.symm
      obtain rfl : fn = Tryd.f7 := (Option.some.inj (Tryd.func7.symm.trans hfn)).symm
      exact ⟨by kernel_rfl, fun j t ht => by
        rw [Tryd.params7] at ht
        have hm : t ∈ [9, 9, 9] := by simpa using Array.mem_of_getElem? ht
        have hall : ([9, 9, 9].all fun u => !Tryd.prog.wantsStandIn u) = true := by kernel_rfl
        exact (show Tryd.prog.wantsStandIn t = false by simpa using List.all_eq_true.1 hall t hm)⟩)
    (by kernel_rfl)
#print axioms card
end Go.Proofs.YtgojagdjlebnnaaDoor.lawPathBehind
