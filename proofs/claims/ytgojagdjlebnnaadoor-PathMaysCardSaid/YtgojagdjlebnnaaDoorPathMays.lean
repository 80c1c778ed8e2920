/- PathMays: which texts are names and paths, their parts, and the path of parts, are as the document says: the statement PathMaysCardSaid, with no condition of its own. -/
import Derived.Test.YtgojagdjlebnnaaDoorPathEnv
import Derived.Test.YtgojagdjlebnnaaDoorPathJ
import Derived.Test.YtgojagdjlebnnaaDoorPathE
namespace Go.Proofs.YtgojagdjlebnnaaDoor.lawPathMays
open Go.ChangeShapes Go.WideShapes Go.ChangeAt Go.RowKit
open Go.ChangeMaps (open_string)

def cutList (ss : Nat → ByteArray) (k : Nat) : List ByteArray := (List.range k).map fun j => cutS (ss j)
theorem cutList_succ (ss : Nat → ByteArray) (k : Nat) : cutList ss (k + 1) = cutList ss k ++ [cutS (ss k)] := by
  unfold cutList; rw [List.range_succ, List.map_append]; rfl
theorem cutList_len (ss : Nat → ByteArray) (k : Nat) : (cutList ss k).length = k := by simp [cutList]
theorem cutList_le (ss : Nat → ByteArray) (k : Nat) : ∀ x ∈ cutList ss k, x.size ≤ 4294967295 := by
  intro x hx
  obtain ⟨j, _, rfl⟩ := List.mem_map.1 hx
  have := cutS_le (ss j)
  omega
theorem sameB_self (l : List ByteArray) : sameB l l = true := by simp [sameB]

set_option maxRecDepth 100000 in
set_option maxHeartbeats 3200000 in
theorem walk0 (p : ByteArray) (o : Option Addr) (cap : Nat) (w : World) (hp : p.size ≤ maxLen) (hcap : cap ≤ maxLen) (ho : o = none → cap = 0) (E : Env w) :
    Calls Tryd.prog 8 #[.string p, .slice o 0 cap] w fun e w' => e = .returned (.bool true) ∧ Below w.heap.size w w' := by
  have la := cutS_le p
  have CA := fun w => Lib.hid (cut_any p w hp)
  unfold maxLen at hcap
  generalize cutS p = s at *
  have N1 := fun w => Lib.hid (name_any s w (by unfold maxLen; omega))
  have N2 := fun w => Lib.hid (refName_any s w (by unfold maxLen; omega))
  have M1 := fun w E => Lib.hid (may_any s w (by omega) E)
  have M2 := fun w => Lib.hid (refMay_any s w (by omega))
  have P1 := fun w E => Lib.hid (parts_any s w (by omega) E)
  have P2 := fun w => Lib.hid (refParts_any s w (by omega))
  have W := fun w E => Lib.hid (works_any w E)
  have HCL := fun w : World => Lib.hid (show CellsAt w (.slice none 0 0) (([] : List ByteArray).map Value.string) from .inl ⟨rfl, rfl⟩)
  have J1 := fun w hc E => Lib.hid (join_any (.slice none 0 0) [] w hc (fun x hx => by cases hx) E)
  have J2 := fun w hc => Lib.hid (refJoin_any (.slice none 0 0) [] w hc (fun x hx => by cases hx))
  generalize joinR [] = jr at *
  generalize joinOk [] = jo at *
  have done : ∀ (o : Option Addr) (cap : Nat), cap ≤ 9223372036854775807 → (o = none → cap = 0) → Calls Tryd.prog 8 #[.string p, .slice o 0 cap] w fun e w' => e = .returned (.bool true) ∧ Below w.heap.size w w' := by
    intro o cap hcap ho
    cases o with
    | none =>
      obtain rfl := ho rfl
      go_enter Tryd.func8, Tryd.ntmps8
      go_wp2_with fail
      refine (CA _).out.mono ?_
      rintro e wr1 ⟨rfl, hwr⟩
      obtain rfl := hwr.symm
      go_wp2_with fail
      go_loop [5, 6] (fun v i => v = .slice none 0 0 ∧ i = .int .i64 0) (fun _ _ => 0)
      case atStart => exact ⟨rfl, rfl⟩
      case round =>
        obtain ⟨rfl, rfl⟩ := hrel
        go_wp2_with fail
        refine (J1 _ (HCL _).out E).out.mono ?_
        rintro e w1 ⟨rfl, x1⟩
        go_wp2_with fail
        refine (J2 _ (HCL _).out).out.mono ?_
        rintro e w2 ⟨rfl, x2⟩
        have X2 := x1.trans x2
        generalize nameB s.toList = ns at *
        generalize mayB s = ms at *
        go_wp2_with fail
        refine (N1 _).out.mono ?_
        rintro e wr1 ⟨rfl, hwr⟩
        obtain rfl := hwr.symm
        go_wp2_with fail
        refine (N2 _).out.mono ?_
        rintro e wr2 ⟨rfl, hwr⟩
        obtain rfl := hwr.symm
        go_wp2_with fail
        refine (M1 _ (E.ext X2)).out.mono ?_
        rintro e wr3 ⟨rfl, xr3⟩
        have Xr3 := X2.trans xr3
        go_wp2_with fail
        refine (M2 _).out.mono ?_
        rintro e wr4 ⟨rfl, xr4⟩
        have Xr4 := Xr3.trans xr4
        have XE := Xr4
        go_wp2_with fail
        refine (P1 _ (E.ext XE)).out.mono ?_
        rintro e w5 ⟨v1, rfl, hc1, x5⟩
        have X5 := XE.trans x5
        go_wp2_with fail
        refine (P2 _).out.mono ?_
        rintro e w6 ⟨v2, rfl, hc2, x6⟩
        have X6 := X5.trans x6
        have SM := Lib.hid (same_any v1 v2 _ _ w6 (hc1.ext x6) hc2)
        rw [sameB_self] at SM
        go_wp2_with fail
        refine SM.out.mono ?_
        rintro e wr1 ⟨rfl, xr1⟩
        have Xr1 := X6.trans xr1
        go_wp2_with fail
        refine (W _ (E.ext Xr1)).out.mono ?_
        rintro e wr2 ⟨rfl, xr2⟩
        have Xr2 := Xr1.trans xr2
        have XE := Xr2
        go_wp2_with fail
        go_ret
        exact ⟨rfl, Xr2⟩
    | some ad =>
      go_enter Tryd.func8, Tryd.ntmps8
      go_wp2_with fail
      refine (CA _).out.mono ?_
      rintro e wr1 ⟨rfl, hwr⟩
      obtain rfl := hwr.symm
      go_wp2_with fail
      go_loop [5, 6] (fun v i => v = .slice none 0 0 ∧ i = .int .i64 0) (fun _ _ => 0)
      case atStart => exact ⟨rfl, rfl⟩
      case round =>
        obtain ⟨rfl, rfl⟩ := hrel
        go_wp2_with fail
        refine (J1 _ (HCL _).out E).out.mono ?_
        rintro e w1 ⟨rfl, x1⟩
        go_wp2_with fail
        refine (J2 _ (HCL _).out).out.mono ?_
        rintro e w2 ⟨rfl, x2⟩
        have X2 := x1.trans x2
        generalize nameB s.toList = ns at *
        generalize mayB s = ms at *
        go_wp2_with fail
        refine (N1 _).out.mono ?_
        rintro e wr1 ⟨rfl, hwr⟩
        obtain rfl := hwr.symm
        go_wp2_with fail
        refine (N2 _).out.mono ?_
        rintro e wr2 ⟨rfl, hwr⟩
        obtain rfl := hwr.symm
        go_wp2_with fail
        refine (M1 _ (E.ext X2)).out.mono ?_
        rintro e wr3 ⟨rfl, xr3⟩
        have Xr3 := X2.trans xr3
        go_wp2_with fail
        refine (M2 _).out.mono ?_
        rintro e wr4 ⟨rfl, xr4⟩
        have Xr4 := Xr3.trans xr4
        have XE := Xr4
        go_wp2_with fail
        refine (P1 _ (E.ext XE)).out.mono ?_
        rintro e w5 ⟨v1, rfl, hc1, x5⟩
        have X5 := XE.trans x5
        go_wp2_with fail
        refine (P2 _).out.mono ?_
        rintro e w6 ⟨v2, rfl, hc2, x6⟩
        have X6 := X5.trans x6
        have SM := Lib.hid (same_any v1 v2 _ _ w6 (hc1.ext x6) hc2)
        rw [sameB_self] at SM
        go_wp2_with fail
        refine SM.out.mono ?_
        rintro e wr1 ⟨rfl, xr1⟩
        have Xr1 := X6.trans xr1
        go_wp2_with fail
        refine (W _ (E.ext Xr1)).out.mono ?_
        rintro e wr2 ⟨rfl, xr2⟩
        have Xr2 := Xr1.trans xr2
        have XE := Xr2
        go_wp2_with fail
        go_ret
        exact ⟨rfl, Xr2⟩
  exact done o cap hcap ho

set_option maxRecDepth 100000 in
set_option maxHeartbeats 3200000 in
theorem walk (p : ByteArray) (b off len cap : Nat) (ss : Nat → ByteArray) (w : World) (hp : p.size ≤ maxLen) (hl : len ≤ cap) (hcap : cap ≤ maxLen) (hb : b < w.heap.size)
    (hcells : ∀ i, i < len → w.cell? ⟨b, off + i, none⟩ = some (.string (ss i))) (hss : ∀ i, i < len → (ss i).size ≤ maxLen) (E : Env w) :
    Calls Tryd.prog 8 #[.string p, .slice (some ⟨b, off, none⟩) len cap] w fun e w' => e = .returned (.bool true) ∧ Below w.heap.size w w' := by
  have la := cutS_le p
  have CA := fun w => Lib.hid (cut_any p w hp)
  unfold maxLen at hcap
  have HC := Lib.hid hcells
  have HS := Lib.hid hss
  clear hcells hss
  generalize cutS p = s at *
  have N1 := fun w => Lib.hid (name_any s w (by unfold maxLen; omega))
  have N2 := fun w => Lib.hid (refName_any s w (by unfold maxLen; omega))
  have M1 := fun w E => Lib.hid (may_any s w (by omega) E)
  have M2 := fun w => Lib.hid (refMay_any s w (by omega))
  have P1 := fun w E => Lib.hid (parts_any s w (by omega) E)
  have P2 := fun w => Lib.hid (refParts_any s w (by omega))
  have W := fun w E => Lib.hid (works_any w E)
  go_enter Tryd.func8, Tryd.ntmps8
  go_wp2_with fail
  refine (CA _).out.mono ?_
  rintro e wr1 ⟨rfl, hwr⟩
  obtain rfl := hwr.symm
  go_wp2_with fail
  have hn1 : (min (len : Int) 9).toNat ≤ len := by omega
  have hn2 : (min (len : Int) 9).toNat ≤ 9 := by omega
  generalize (min (len : Int) 9).toNat = n at *
  go_loopw [5, 6] (fun v i wr => ∃ k : Nat, k ≤ n ∧ i = .int .i64 k ∧ wr.ownsRow w.heap.size 9 1 v k ((cutList ss k).map Value.string) ∧ Below w.heap.size w wr) (fun _ i _ => n - (intOf i).toNat)
  case atStart => exact ⟨0, Nat.zero_le _, rfl, World.ownsRow_nil _ _ _ _, Below.refl _ _⟩
  case round =>
    obtain ⟨k, hk, rfl, hown, hbl⟩ := hrel
    by_cases hlt : k < n
    · have hcx : wr.cell? ⟨b, off + k, none⟩ = some (.string (ss k)) := (hbl.cell (p := ⟨b, off + k, none⟩) hb).trans (HC.out k (by omega))
      have HK := fun w => Lib.hid (cut_any (ss k) w (HS.out k (by omega)))
      have HLS := Lib.hid (cutList_succ ss k)
      generalize cutS (ss k) = x at *
      go_wp2_with fail
      refine (HK _).out.mono ?_
      rintro e w1 ⟨rfl, hw1⟩
      obtain rfl := hw1.symm
      go_wp2_with (at_builtin; refine append_one el_string w.heap.size _ _ _ (hown.alloc _) wr.heap.size (.string x) (.tmp 24) (.tmp 30) rfl rfl rfl rfl ?c1 rfl (by omega) ?c2 ?_)
      case c1 => rw [cell_alloc_new rfl]; rfl
      case c2 => have := hbl.size; simp; omega
      intro v' w1 hown1 hgr1 hv1
      go_wp2
      go_roundw
      case rel => exact ⟨k + 1, by omega, by go_num, by rw [HLS.out, List.map_append]; exact hown1, (hbl.alloc hbl.size _).grown hgr1 (by have := hbl.size; simp; omega) (own_block_ge hown)⟩
      case measure => simp [intOf]; omega
    · have hkn : k = n := by omega
      subst hkn
      have hcl : CellsAt wr u5 ((cutList ss k).map Value.string) := CellsAt.of_owns (base := w.heap.size) (e := 9) (by rw [List.length_map, cutList_len]; exact hown)
      have hz := cutList_le ss k
      have HCL := Lib.hid hcl
      clear hcl hown HC HS
      have J1 := fun w hc E => Lib.hid (join_any u5 (cutList ss k) w hc hz E)
      have J2 := fun w hc => Lib.hid (refJoin_any u5 (cutList ss k) w hc hz)
      clear hz
      generalize cutList ss k = l at *
      generalize joinR l = jr at *
      generalize joinOk l = jo at *
      have X0 : Ext w wr := hbl
      go_wp2_with fail
      refine (J1 _ HCL.out (E.ext X0)).out.mono ?_
      rintro e w1 ⟨rfl, x1⟩
      go_wp2_with fail
      refine (J2 _ (HCL.out.ext x1)).out.mono ?_
      rintro e w2 ⟨rfl, x2⟩
      have X2 := (X0.trans x1).trans x2
      generalize nameB s.toList = ns at *
      generalize mayB s = ms at *
      go_wp2_with fail
      refine (N1 _).out.mono ?_
      rintro e wr1 ⟨rfl, hwr⟩
      obtain rfl := hwr.symm
      go_wp2_with fail
      refine (N2 _).out.mono ?_
      rintro e wr2 ⟨rfl, hwr⟩
      obtain rfl := hwr.symm
      go_wp2_with fail
      refine (M1 _ (E.ext X2)).out.mono ?_
      rintro e wr3 ⟨rfl, xr3⟩
      have Xr3 := X2.trans xr3
      go_wp2_with fail
      refine (M2 _).out.mono ?_
      rintro e wr4 ⟨rfl, xr4⟩
      have Xr4 := Xr3.trans xr4
      have XE := Xr4
      go_wp2_with fail
      refine (P1 _ (E.ext XE)).out.mono ?_
      rintro e w5 ⟨v1, rfl, hc1, x5⟩
      have X5 := XE.trans x5
      go_wp2_with fail
      refine (P2 _).out.mono ?_
      rintro e w6 ⟨v2, rfl, hc2, x6⟩
      have X6 := X5.trans x6
      have SM := Lib.hid (same_any v1 v2 _ _ w6 (hc1.ext x6) hc2)
      rw [sameB_self] at SM
      go_wp2_with fail
      refine SM.out.mono ?_
      rintro e wr1 ⟨rfl, xr1⟩
      have Xr1 := X6.trans xr1
      go_wp2_with fail
      refine (W _ (E.ext Xr1)).out.mono ?_
      rintro e wr2 ⟨rfl, xr2⟩
      have Xr2 := Xr1.trans xr2
      have XE := Xr2
      go_wp2_with fail
      go_ret
      exact ⟨rfl, Xr2⟩

-- BEGUN
set_option maxRecDepth 100000 in
theorem begun {H : Type} {enc : TypeId × Value → H} (W : World) (args : Array Value) (ds : List (DataW H)) (p : List MemPlace) (st : Start enc Rows.pathMaysRow.laid Tryd.f8 W args ds p) :
    Calls Tryd.prog 8 args W fun e W' => e = .returned (.bool true) ∧ Below W.heap.size W W' := by
  obtain ⟨⟨base, hval⟩, hA, hfit, hl, hsh⟩ := st
  rw [Tryd.params8] at hA hval hfit
  obtain ⟨v0, v1, d0, d1, p0, p1, rfl, rfl, rfl, h0, h1⟩ := trodAll_two hA
  obtain ⟨a, rfl, rfl, rfl, ha⟩ := open_string Tryd.underlying9 (hval 0 9 v0 rfl rfl) h0
  obtain ⟨o, len, cap, rfl⟩ := okWide_slice (show Tryd.prog.underlying 36 = some (.slice 9) by kernel_rfl) (hval 1 36 v1 rfl rfl)
  have E := env_of hl hsh (pow10_mem 2 rfl)
  obtain ⟨fuel, hf⟩ := h1
  rcases open_strings (show Tryd.prog.underlying 36 = some (.slice 9) by kernel_rfl) Tryd.underlying9 (by kernel_rfl) hf with ⟨hcs, _⟩ | ⟨ad, len', cap', ss, hcs, _, hl2, hm, hz, _, hcell, hws⟩
  · obtain ⟨rfl, rfl, rfl⟩ : o = none ∧ len = 0 ∧ cap = 0 := by simpa [Value.cells] using hcs
    exact walk0 a none 0 W ha (by unfold maxLen; omega) (fun _ => rfl) E
  · obtain ⟨rfl, rfl, rfl⟩ : o = some ad ∧ len = len' ∧ cap = cap' := by simpa [Value.cells] using hcs
    have hsl : ss.length = cap := by simpa using hz
    rcases Nat.eq_zero_or_pos len with h0 | h0
    · subst h0
      exact walk0 a (some ad) cap W ha hm (fun h => by cases h) E
    · obtain ⟨b, off, rfl⟩ := addr_of_cell (by have := hcell 0 (by omega); rw [add_zero'] at this; exact this)
      have hb : b < W.heap.size := lt_of_cell (by have := hcell 0 (by omega); rw [add_zero'] at this; exact this)
      refine walk a b off len cap (fun i => ss.getD i ByteArray.empty) W ha hl2 hm hb (fun i hi => ?_) (fun i hi => ?_) E
      · have := hcell i (by omega)
        rwa [add_off] at this
      · refine hws _ ?_
        have hi' : i < ss.length := by omega
        simp only [List.getD, List.getElem?_eq_getElem hi', Option.getD_some]
        exact List.getElem_mem hi'

set_option maxRecDepth 100000 in
theorem said : Rows.PathMaysSaid :=
  OpenClaim.holds_of_wide 8 Tryd.f8 rfl rfl rfl rfl rfl rfl rfl ⟨rfl, rfl, rfl, rfl, rfl⟩ rfl rfl rfl rfl rfl (by kernel_rfl) Tryd.func8 (by kernel_rfl)
    (of_decide_eq_true (by kernel_rfl)) (by unfold Func.isWrapper; first | (rw [if_pos (by decide +kernel)]; kernel_rfl) | (rw [if_neg (by decide +kernel)]; exact ⟨rfl, rfl⟩))
    (fun os started H enc _ => lifted Rows.pathMaysRow.laid (by kernel_rfl) 8 Tryd.f8 Tryd.func8 Rows.pathMaysSpec rfl (by kernel_rfl) (by kernel_rfl)
      (by rw [Tryd.params8]
          have hall : ([9, 36].all fun t => Tryd.prog.readableRec t && decide (t < Tryd.prog.types.size)) = true := by kernel_rfl
          intro t ht
          have := List.all_eq_true.1 hall t ht
          simpa using this)
      (by intro H ts ds h hl; rw [Tryd.params8] at h; subst h
          match ds, hl with
          | [d1, d2], _ => rfl)
      Rows.pathMaysRow.domain os started H enc #[.string ⟨#[]⟩, .slice none 0 0] (by kernel_rfl) (by kernel_rfl) (by kernel_rfl)
      (World.shaped_of_ZipB (by kernel_rfl) (by kernel_rfl)) (laidMet_laidAll _ (by kernel_rfl) (by kernel_rfl))
      begun)

theorem card : Rows.PathMaysCardSaid :=
  Claim7.holds_tied_plain_at .later [] Rows.pathMaysCard.laidKinds true Rows.pathMaysCard.stood.harness false said (fun _ h => by cases h) (by kernel_rfl) (fun _ h => by cases h) pathMays_row_tie rfl ⟨rfl, rfl⟩ (by kernel_rfl) rfl
    (fun f fn hf hfn => by
      obtain rfl : f = 8 := Option.some.inj ((show Tryd.prog.funcNamed Rows.pathMaysRow.func = some 8 by kernel_rfl).symm.trans hf) |>.symm
      obtain rfl : fn = Tryd.f8 := (Option.some.inj (Tryd.func8.symm.trans hfn)).symm
      exact ⟨by kernel_rfl, fun j t ht => by
        rw [Tryd.params8] at ht
        have hm : t ∈ [9, 36] := by simpa using Array.mem_of_getElem? ht
        have hall : ([9, 36].all fun u => !Tryd.prog.wantsStandIn u) = true := by kernel_rfl
        exact (show Tryd.prog.wantsStandIn t = false by simpa using List.all_eq_true.1 hall t hm)⟩)
    (by kernel_rfl)
#print axioms card
end Go.Proofs.YtgojagdjlebnnaaDoor.lawPathMays
