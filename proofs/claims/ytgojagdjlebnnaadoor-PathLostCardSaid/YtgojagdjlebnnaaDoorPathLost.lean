/- PathLost: of one path, conflict names of unlike times or devices are unlike: the statement PathLostCardSaid, with no condition of its own. -/
import Derived.Test.YtgojagdjlebnnaaDoorPathEnv
import Derived.Test.YtgojagdjlebnnaaDoorLostL
import Derived.Test.YtgojagdjlebnnaaDoorPathE
namespace Go.Proofs.YtgojagdjlebnnaaDoor.lawPathLost
open Go.ChangeShapes Go.WideShapes Go.ChangeAt Go.RowKit
open Go.ChangeMaps (open_string)

theorem two_new {w : World} {A : Obj} {c : Array Value} {t : TypeId} (i : Nat) (v : Value) (h : c[i]? = some v) : ((w.alloc A).alloc (.cells c t)).drew.cell? ⟨w.heap.size + 1, i, none⟩ = some v := by
  show ((w.alloc A).alloc (.cells c t)).cell? _ = _
  rw [cell_alloc_new (by simp), h]

set_option maxHeartbeats 3200000 in
theorem walk (p : ByteArray) (t u c d : Int) (w : World) (hp : p.size ≤ maxLen) (t0 : 0 ≤ t) (t1 : t ≤ 4294967295) (u0 : 0 ≤ u) (u1 : u ≤ 4294967295) (c0 : 0 ≤ c) (c1 : c ≤ 255) (d0 : 0 ≤ d) (d1 : d ≤ 255) (E : Env w) :
    Calls Tryd.prog 3 #[.agg #[.string p, .int .u32 t, .int .u32 u, .int .u8 c, .int .u8 d]] w fun e w' => e = .returned (.bool true) ∧ Below w.heap.size w w' := by
  have la := cutS_le p
  have CA := fun w => Lib.hid (cut_any p w hp)
  generalize cutS p = s at *
  have mc : 0 ≤ c % 16 ∧ c % 16 ≤ 15 := by omega
  have md : 0 ≤ d % 16 ∧ d % 16 ≤ 15 := by omega
  have W := fun w E => Lib.hid (works_any w E)
  cases hm : mayB s
  · have N1 := fun w E => Lib.hid (conflict_no s t (1 + c % 16) w (by omega) E (by simp [conflictOk, hm]))
    have N2 := fun w E => Lib.hid (conflict_no s u (1 + d % 16) w (by omega) E (by simp [conflictOk, hm]))
    clear hm
    go_enter Tryd.func3, Tryd.ntmps3
    go_wp2_with fail
    refine (CA _).out.mono ?_
    rintro e w1 ⟨rfl, rfl⟩
    go_wp2_with fail
    go_region
    go_wp2_with fail
    have X0 := ((((Ext.refl w).alloc (.cells #[.string p, .int .u32 t, .int .u32 u, .int .u8 c, .int .u8 d] 25)).alloc (.cells #[.int .u8 c, .int .u8 d] 23)).drew)
    refine (N1 _ (E.ext X0)).out.mono ?_
    rintro e w2 ⟨rfl, x1⟩
    have k0 : w2.cell? ⟨w.heap.size + 1, 0, none⟩ = some (.int .u8 c) := (x1.cell (by simp)).trans (two_new 0 _ rfl)
    have k1 : w2.cell? ⟨w.heap.size + 1, 1, none⟩ = some (.int .u8 d) := (x1.cell (by simp)).trans (two_new 1 _ rfl)
    go_wp2_with fail
    refine (N2 _ (E.ext (X0.trans x1))).out.mono ?_
    rintro e w3 ⟨rfl, x2⟩
    go_wp2_with fail
    refine (W _ (E.ext ((X0.trans x1).trans x2))).out.mono ?_
    rintro e w4 ⟨rfl, x3⟩
    go_wp2_with fail
    go_ret
    exact ⟨rfl, (((X0.trans x1).trans x2).trans x3)⟩
  · have Y1 := fun w E => Lib.hid (conflict_yes s t (1 + c % 16) w (by omega) E (by simp [conflictOk, hm, t0, t1]; omega) (itoaS_le _ (by omega) (by omega)) (itoaS_le _ (by omega) (by omega)))
    have Y2 := fun w E => Lib.hid (conflict_yes s u (1 + d % 16) w (by omega) E (by simp [conflictOk, hm, u0, u1]; omega) (itoaS_le _ (by omega) (by omega)) (itoaS_le _ (by omega) (by omega)))
    clear hm
    have hq := conflict_eq s t u (1 + c % 16) (1 + d % 16) t0 t1 u0 u1 (by omega) (by omega) (by omega) (by omega)
    generalize conflictS s t (1 + c % 16) = A at *
    generalize conflictS s u (1 + d % 16) = B at *
    have hall : ∃ e1 e2 : Bool, (t == u) = e1 ∧ (c % 16 == d % 16) = e2 ∧ (A.toList == B.toList) = (e1 && e2) := by
      refine ⟨_, _, rfl, rfl, ?_⟩
      rw [hq]
      have : (1 + c % 16 == 1 + d % 16) = (c % 16 == d % 16) := by
        by_cases h : c % 16 = d % 16
        · rw [h]; simp
        · have h' : ¬ (1 + c % 16 = 1 + d % 16) := by omega
          rw [beq_eq_false_iff_ne.2 h, beq_eq_false_iff_ne.2 h']
      rw [this]
    clear hq
    obtain ⟨e1, e2, g1, g2, g3⟩ := hall
    cases e1 <;> cases e2
    all_goals
      first | replace g3 : _ = true := g3 | replace g3 : _ = false := g3
      go_enter Tryd.func3, Tryd.ntmps3
      go_wp2_with fail
      refine (CA _).out.mono ?_
      rintro e w1 ⟨rfl, rfl⟩
      go_wp2_with fail
      go_region
      go_wp2_with fail
      have X0 := ((((Ext.refl w).alloc (.cells #[.string p, .int .u32 t, .int .u32 u, .int .u8 c, .int .u8 d] 25)).alloc (.cells #[.int .u8 c, .int .u8 d] 23)).drew)
      refine (Y1 _ (E.ext X0)).out.mono ?_
      rintro e w2 ⟨rfl, x1⟩
      have k0 : w2.cell? ⟨w.heap.size + 1, 0, none⟩ = some (.int .u8 c) := (x1.cell (by simp)).trans (two_new 0 _ rfl)
      have k1 : w2.cell? ⟨w.heap.size + 1, 1, none⟩ = some (.int .u8 d) := (x1.cell (by simp)).trans (two_new 1 _ rfl)
      go_wp2_with fail
      refine (Y2 _ (E.ext (X0.trans x1))).out.mono ?_
      rintro e w3 ⟨rfl, x2⟩
      have k2 : w3.cell? ⟨w.heap.size + 1, 0, none⟩ = some (.int .u8 c) := (x2.cell (lt_of_cell k0)).trans k0
      have k3 : w3.cell? ⟨w.heap.size + 1, 1, none⟩ = some (.int .u8 d) := (x2.cell (lt_of_cell k0)).trans k1
      go_wp2_with fail
      refine (W _ (E.ext ((X0.trans x1).trans x2))).out.mono ?_
      rintro e w4 ⟨rfl, x3⟩
      go_wp2_with fail
      go_ret
      exact ⟨rfl, (((X0.trans x1).trans x2).trans x3)⟩

set_option maxRecDepth 100000 in
theorem begun {H : Type} {enc : TypeId × Value → H} (W : World) (args : Array Value) (ds : List (DataW H)) (p : List MemPlace) (st : Start enc Rows.pathLostRow.laid Tryd.f3 W args ds p) :
    Calls Tryd.prog 3 args W fun e W' => e = .returned (.bool true) ∧ Below W.heap.size W W' := by
  obtain ⟨⟨base, hval⟩, hA, hfit, hl, hsh⟩ := st
  rw [Tryd.params3] at hA hval hfit
  obtain ⟨v0, d0, rfl, rfl, h0⟩ := trodAll_one hA
  obtain ⟨cs, rfl, hn, hc⟩ := open_flat (ts := [9, 22, 22, 5, 5]) (hval 0 25 v0 rfl rfl) (by kernel_rfl) (by kernel_rfl) (by kernel_rfl)
  obtain ⟨c0, c1, c2, c3, c4, rfl⟩ := array5 hn
  obtain ⟨s, rfl, hs⟩ := cell_string (hc 0 9 c0 rfl rfl) (by kernel_rfl)
  obtain ⟨t, rfl, t0, t1⟩ := cell_int (k := .u32) (hc 1 22 c1 rfl rfl) (by kernel_rfl)
  obtain ⟨u, rfl, u0, u1⟩ := cell_int (k := .u32) (hc 2 22 c2 rfl rfl) (by kernel_rfl)
  obtain ⟨c, rfl, x0, x1⟩ := cell_int (k := .u8) (hc 3 5 c3 rfl rfl) (by kernel_rfl)
  obtain ⟨d, rfl, y0, y1⟩ := cell_int (k := .u8) (hc 4 5 c4 rfl rfl) (by kernel_rfl)
  exact walk s t u c d W hs t0 t1 u0 u1 x0 x1 y0 y1 (env_of hl hsh (pow10_mem 2 rfl))

set_option maxRecDepth 100000 in
theorem said : Rows.PathLostSaid :=
  OpenClaim.holds_of_wide 3 Tryd.f3 rfl rfl rfl rfl rfl rfl rfl ⟨rfl, rfl, rfl, rfl, rfl⟩ rfl rfl rfl rfl rfl (by kernel_rfl) Tryd.func3 (by kernel_rfl)
    (of_decide_eq_true (by kernel_rfl)) (by unfold Func.isWrapper; first | (rw [if_pos (by decide +kernel)]; kernel_rfl) | (rw [if_neg (by decide +kernel)]; exact ⟨rfl, rfl⟩))
    (fun os started H enc _ => lifted Rows.pathLostRow.laid (by kernel_rfl) 3 Tryd.f3 Tryd.func3 Rows.pathLostSpec rfl (by kernel_rfl) (by kernel_rfl)
      (by rw [Tryd.params3]
          have hall : ([25].all fun t => Tryd.prog.readableRec t && decide (t < Tryd.prog.types.size)) = true := by kernel_rfl
          intro t ht
          have := List.all_eq_true.1 hall t ht
          simpa using this)
      (by intro H ts ds h hl; rw [Tryd.params3] at h; subst h
          match ds, hl with
          | [d1], _ => rfl)
      Rows.pathLostRow.domain os started H enc #[.agg #[.string ⟨#[]⟩, .int .u32 0, .int .u32 0, .int .u8 0, .int .u8 0]] (by kernel_rfl) (by kernel_rfl) (by kernel_rfl)
      (World.shaped_of_ZipB (by kernel_rfl) (by kernel_rfl)) (laidMet_laidAll _ (by kernel_rfl) (by kernel_rfl))
      begun)

theorem card : Rows.PathLostCardSaid :=
  Claim7.holds_tied_plain_at .later [] Rows.pathLostCard.laidKinds true Rows.pathLostCard.stood.harness false said (fun _ h => by cases h) (by kernel_rfl) (fun _ h => by cases h) pathLost_row_tie rfl ⟨rfl, rfl⟩ (by kernel_rfl) rfl
    (fun f fn hf hfn => by
      obtain rfl : f = 3 := Option.some.inj ((show Tryd.prog.funcNamed Rows.pathLostRow.func = some 3 by kernel_rfl).symm.trans hf) |>.symm
      obtain rfl : fn = Tryd.f3 := (Option.some.inj (Tryd.func3.symm.trans hfn)).symm
      exact ⟨by kernel_rfl, fun j t ht => by
        rw [Tryd.params3] at ht
        have hm : t ∈ [25] := by simpa using Array.mem_of_getElem? ht
        have hall : ([25].all fun u => !Tryd.prog.wantsStandIn u) = true := by kernel_rfl
        exact (show Tryd.prog.wantsStandIn t = false by simpa using List.all_eq_true.1 hall t hm)⟩)
    (by kernel_rfl)
#print axioms card
end Go.Proofs.YtgojagdjlebnnaaDoor.lawPathLost
