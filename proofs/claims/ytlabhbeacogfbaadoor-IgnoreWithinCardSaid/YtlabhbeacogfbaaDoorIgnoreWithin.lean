/- IgnoreWithin: what lies within what one pattern matches is ignored, too: the statement IgnoreWithinCardSaid, with no condition of its own. -/
import Derived.Test.YtlabhbeacogfbaaDoorPathEnv
import Derived.Test.YtlabhbeacogfbaaDoorWithinL
namespace Go.Proofs.YtlabhbeacogfbaaDoor.lawIgnoreWithin
open Go.ChangeShapes Go.WideShapes Go.ChangeAt Go.RowKit
open Go.ChangeMaps (open_string)

set_option maxHeartbeats 3200000 in
theorem walk (p0 s0 n0 : ByteArray) (w : World) (hp : p0.size ≤ maxLen) (hs : s0.size ≤ maxLen) (hn : n0.size ≤ maxLen) (E : Env w) :
    Calls Tryd.prog 7 #[.string p0, .string s0, .string n0] w fun e w' => e = .returned (.bool true) ∧ Below w.heap.size w w' := by
  have W := fun w E => Lib.hid (works_any w E)
  unfold maxLen at hp hs hn
  have m1 : (0 : Int) ≤ min (p0.size : Int) 128 := by omega
  have m2 : min (p0.size : Int) 128 ≤ p0.size := by omega
  have m3 : (0 : Int) ≤ min (s0.size : Int) 200 := by omega
  have m4 : min (s0.size : Int) 200 ≤ s0.size := by omega
  have m5 : (0 : Int) ≤ min (n0.size : Int) 60 := by omega
  have m6 : min (n0.size : Int) 60 ≤ n0.size := by omega
  obtain ⟨p, e1⟩ : ∃ p, p0.extract 0 (min (p0.size : Int) 128).toNat = p := ⟨_, rfl⟩
  obtain ⟨s, e2⟩ : ∃ p, s0.extract 0 (min (s0.size : Int) 200).toNat = p := ⟨_, rfl⟩
  obtain ⟨n, e3⟩ : ∃ p, n0.extract 0 (min (n0.size : Int) 60).toNat = p := ⟨_, rfl⟩
  have z1 : p.size ≤ 128 := by rw [← e1]; simp; omega
  have z2 : s.size ≤ 200 := by rw [← e2]; simp; omega
  have z3 : n.size ≤ 60 := by rw [← e3]; simp; omega
  have HFS : ∀ f ∈ [((⟨#[105]⟩ : ByteArray), p)], f.1.size ≤ maxLen ∧ f.2.size < 4294967281 := by
    intro f hf; rw [List.mem_singleton.1 hf]; exact ⟨by show (⟨#[105]⟩ : ByteArray).size ≤ maxLen; decide, by show p.size < _; omega⟩
  cases hr : parseL (fsL [((⟨#[105]⟩ : ByteArray), p)]) (⟨#[105]⟩ : ByteArray).toList with
  | error k =>
    have HP := fun t => Lib.hid (parse_err hr (texts_one (w := w) (t := t)) HFS (by decide) (E.ext ((Ext.refl w).alloc _)))
    clear hr HFS
    go_enter Tryd.func7, Tryd.ntmps7
    go_wp2_with fail
    refine ((HP _).out).mono ?_
    rintro e w1 ⟨rfl, hk, hx⟩
    have X1 := ((Ext.refl w).alloc (.cells #[.string ⟨#[105]⟩, .string p] 42 (0, 0))).trans hx
    have n0 : ((k : Int) != 0) = true := by rw [bne, beq_eq_false_iff_ne.2 (by omega)]; rfl
    go_wp2_with fail
    refine (W _ (E.ext X1)).out.mono ?_
    rintro e wr1 ⟨rfl, xr1⟩
    have Xr1 := X1.trans xr1
    have XE := Xr1
    go_wp2_with fail
    go_ret
    exact ⟨rfl, Xr1⟩
  | ok ts =>
    have HP := fun t => Lib.hid (parse_ok hr (texts_one (w := w) (t := t)) HFS (by decide) (E.ext ((Ext.refl w).alloc _)))
    obtain ⟨hl64, hfine⟩ := parse_fine hr
    clear hr HFS
    by_cases hl1 : ts.length = 1
    · obtain ⟨t, rfl⟩ := List.length_eq_one_iff.1 hl1
      obtain ⟨q, hq⟩ : ∃ q : ByteArray, s ++ ⟨#[47]⟩ ++ n = q := ⟨_, rfl⟩
      have hqz : q.size ≤ 261 := by rw [← hq]; simp [ByteArray.size_append]; have : (⟨#[47]⟩ : ByteArray).size = 1 := rfl; omega
      have hqt : q.toList = s.toList ++ 47 :: n.toList := by rw [← hq, toList_append, toList_append, show (⟨#[47]⟩ : ByteArray).toList = [47] from toList_mk [47]]; simp
      obtain ⟨a, b, hab⟩ : ∃ a b, matchesL [t] s = (a, b) := ⟨_, _, rfl⟩
      have M1 := fun {w ll} hL E => Lib.hid (match_is (w := w) (ll := ll) hab (by omega) hL E)
      have Y1 := fun w E => Lib.hid (may_any q w (by omega) E)
      have LN := fun {w ll} hL => Lib.hid (len_at (w := w) (ll := ll) (ts := [t]) hL (by simp))
      cases a with
      | false =>
        obtain ⟨c, d, hcd⟩ : ∃ c d, matchesL [t] q = (c, d) := ⟨_, _, rfl⟩
        have M2 := fun {w ll} hL E => Lib.hid (match_is (w := w) (ll := ll) hcd (by omega) hL E)
        clear hab hcd hqt hfine
        go_enter Tryd.func7, Tryd.ntmps7
        go_wp2_with fail
        refine ((HP _).out).mono ?_
        rintro e w1 ⟨ll, rfl, HL, hx⟩
        have X1 := ((Ext.refl w).alloc (.cells #[.string ⟨#[105]⟩, .string p] 42 (0, 0))).trans hx
        clear hx
        go_wp2_with fail
        refine ((LN HL.out).out).mono ?_
        rintro e w2 ⟨rfl, x2⟩
        have HL2 := Lib.hid (HL.out.ext x2)
        have X2 := X1.trans x2
        go_wp2_with fail
        refine ((M1 HL2.out (E.ext X2)).out).mono ?_
        rintro e w3 ⟨rfl, x3⟩
        have HL3 := Lib.hid (HL2.out.ext x3)
        have X3 := X2.trans x3
        go_wp2_with fail
        refine ((M2 HL3.out (E.ext X3)).out).mono ?_
        rintro e w4 ⟨rfl, x4⟩
        have X4 := X3.trans x4
        go_wp2_with fail
        refine (W _ (E.ext X4)).out.mono ?_
        rintro e wr1 ⟨rfl, xr1⟩
        have Xr1 := X4.trans xr1
        have XE := Xr1
        go_wp2_with fail
        go_ret
        exact ⟨rfl, Xr1⟩
      | true =>
        cases hmq : mayB q with
        | false =>
          rw [hmq] at Y1
          obtain ⟨c, d, hcd⟩ : ∃ c d, matchesL [t] q = (c, d) := ⟨_, _, rfl⟩
          have M2 := fun {w ll} hL E => Lib.hid (match_is (w := w) (ll := ll) hcd (by omega) hL E)
          clear hab hcd hqt hfine hmq
          go_enter Tryd.func7, Tryd.ntmps7
          go_wp2_with fail
          refine ((HP _).out).mono ?_
          rintro e w1 ⟨ll, rfl, HL, hx⟩
          have X1 := ((Ext.refl w).alloc (.cells #[.string ⟨#[105]⟩, .string p] 42 (0, 0))).trans hx
          clear hx
          go_wp2_with fail
          refine ((LN HL.out).out).mono ?_
          rintro e w2 ⟨rfl, x2⟩
          have HL2 := Lib.hid (HL.out.ext x2)
          have X2 := X1.trans x2
          go_wp2_with fail
          refine ((M1 HL2.out (E.ext X2)).out).mono ?_
          rintro e w3 ⟨rfl, x3⟩
          have HL3 := Lib.hid (HL2.out.ext x3)
          have X3 := X2.trans x3
          go_wp2_with fail
          refine ((M2 HL3.out (E.ext X3)).out).mono ?_
          rintro e w4 ⟨rfl, x4⟩
          have X4 := X3.trans x4
          go_wp2_with fail
          refine (Y1 _ (E.ext X4)).out.mono ?_
          rintro e wr1 ⟨rfl, xr1⟩
          have Xr1 := X4.trans xr1
          go_wp2_with fail
          refine (W _ (E.ext Xr1)).out.mono ?_
          rintro e wr2 ⟨rfl, xr2⟩
          have Xr2 := Xr1.trans xr2
          have XE := Xr2
          go_wp2_with fail
          go_ret
          exact ⟨rfl, Xr2⟩
        | true =>
          have M2 := fun {w ll} hL E => Lib.hid (match_is (w := w) (ll := ll) (within_same t n.toList s q b hqt hab hmq) (by omega) hL E)
          rw [hmq] at Y1
          clear hab hqt hfine hmq
          have hbb : (b == b) = true := by simp
          go_enter Tryd.func7, Tryd.ntmps7
          go_wp2_with fail
          refine ((HP _).out).mono ?_
          rintro e w1 ⟨ll, rfl, HL, hx⟩
          have X1 := ((Ext.refl w).alloc (.cells #[.string ⟨#[105]⟩, .string p] 42 (0, 0))).trans hx
          clear hx
          go_wp2_with fail
          refine ((LN HL.out).out).mono ?_
          rintro e w2 ⟨rfl, x2⟩
          have HL2 := Lib.hid (HL.out.ext x2)
          have X2 := X1.trans x2
          go_wp2_with fail
          refine ((M1 HL2.out (E.ext X2)).out).mono ?_
          rintro e w3 ⟨rfl, x3⟩
          have HL3 := Lib.hid (HL2.out.ext x3)
          have X3 := X2.trans x3
          go_wp2_with fail
          refine ((M2 HL3.out (E.ext X3)).out).mono ?_
          rintro e w4 ⟨rfl, x4⟩
          have X4 := X3.trans x4
          go_wp2_with fail
          refine (Y1 _ (E.ext X4)).out.mono ?_
          rintro e wr1 ⟨rfl, xr1⟩
          have Xr1 := X4.trans xr1
          go_wp2_with fail
          refine (W _ (E.ext Xr1)).out.mono ?_
          rintro e wr2 ⟨rfl, xr2⟩
          have Xr2 := Xr1.trans xr2
          have XE := Xr2
          go_wp2_with fail
          go_ret
          exact ⟨rfl, Xr2⟩
    · have LN := fun {w ll} hL => Lib.hid (len_at (w := w) (ll := ll) (ts := ts) hL (by omega))
      have n1 : ((ts.length : Int) != 1) = true := by rw [bne, beq_eq_false_iff_ne.2 (by omega)]; rfl
      go_enter Tryd.func7, Tryd.ntmps7
      go_wp2_with fail
      refine ((HP _).out).mono ?_
      rintro e w1 ⟨ll, rfl, HL, hx⟩
      have X1 := ((Ext.refl w).alloc (.cells #[.string ⟨#[105]⟩, .string p] 42 (0, 0))).trans hx
      clear hx
      go_wp2_with fail
      refine ((LN HL.out).out).mono ?_
      rintro e w2 ⟨rfl, x2⟩
      have X2 := X1.trans x2
      go_wp2_with fail
      refine (W _ (E.ext X2)).out.mono ?_
      rintro e wr1 ⟨rfl, xr1⟩
      have Xr1 := X2.trans xr1
      have XE := Xr1
      go_wp2_with fail
      go_ret
      exact ⟨rfl, Xr1⟩

-- BEGUN
set_option maxRecDepth 100000 in
theorem begun {H : Type} {enc : TypeId × Value → H} (W : World) (args : Array Value) (ds : List (DataW H)) (p : List MemPlace) (st : Start enc Rows.ignoreWithinRow.laid Tryd.f7 W args ds p) :
    Calls Tryd.prog 7 args W fun e W' => e = .returned (.bool true) ∧ Below W.heap.size W W' := by
  obtain ⟨⟨base, hval⟩, hA, hfit, hl, hsh⟩ := st
  rw [Tryd.params7] at hA hval hfit
  obtain ⟨v0, v1, v2, d0, d1, d2, p0, p1, p2, rfl, rfl, rfl, h0, h1, h2⟩ := trodAll_three hA
  obtain ⟨a, rfl, rfl, rfl, ha⟩ := open_string Tryd.underlying9 (hval 0 9 v0 rfl rfl) h0
  obtain ⟨b, rfl, rfl, rfl, hb⟩ := open_string Tryd.underlying9 (hval 1 9 v1 rfl rfl) h1
  obtain ⟨c, rfl, rfl, rfl, hc⟩ := open_string Tryd.underlying9 (hval 2 9 v2 rfl rfl) h2
  exact walk a b c W ha hb hc (env_of hsh)

set_option maxRecDepth 100000 in
theorem said : Rows.IgnoreWithinSaid :=
  OpenClaim.holds_of_wide 7 Tryd.f7 rfl rfl rfl rfl rfl rfl rfl ⟨rfl, rfl, rfl, rfl, rfl⟩ rfl rfl rfl rfl rfl (by kernel_rfl) Tryd.func7 (by kernel_rfl)
    (of_decide_eq_true (by kernel_rfl)) (by unfold Func.isWrapper; first | (rw [if_pos (by decide +kernel)]; kernel_rfl) | (rw [if_neg (by decide +kernel)]; exact ⟨rfl, rfl⟩))
    (fun os started H enc _ => lifted Rows.ignoreWithinRow.laid (by kernel_rfl) 7 Tryd.f7 Tryd.func7 Rows.ignoreWithinSpec rfl (by kernel_rfl) (by kernel_rfl)
      (by rw [Tryd.params7]
          have hall : ([9, 9, 9].all fun t => Tryd.prog.readableRec t && decide (t < Tryd.prog.types.size)) = true := by kernel_rfl
          intro t ht
          have := List.all_eq_true.1 hall t ht
          simpa using this)
      (by intro H ts ds h hl; rw [Tryd.params7] at h; subst h
          match ds, hl with
          | [d1, d2, d3], _ => rfl)
      Rows.ignoreWithinRow.domain os started H enc #[.string ⟨#[]⟩, .string ⟨#[]⟩, .string ⟨#[]⟩] (by kernel_rfl) (by kernel_rfl) (by kernel_rfl)
      (World.shaped_of_ZipB (by kernel_rfl) (by kernel_rfl)) (laidMet_laidAll _ (by kernel_rfl) (by kernel_rfl))
      begun)

theorem card : Rows.IgnoreWithinCardSaid :=
  Claim7.holds_tied_plain_at .later [] Rows.ignoreWithinCard.laidKinds true Rows.ignoreWithinCard.stood.harness false said (fun _ h => by cases h) (by kernel_rfl) (fun _ h => by cases h) ignoreWithin_row_tie rfl ⟨rfl, rfl⟩ (by kernel_rfl) rfl
    (fun f fn hf hfn => by
      obtain rfl : f = 7 := Option.some.inj ((show Tryd.prog.funcNamed Rows.ignoreWithinRow.func = some 7 by kernel_rfl).symm.trans hf) |>.symm
      obtain rfl : fn = Tryd.f7 := (Option.some.inj (Tryd.func7.symm.trans hfn)).symm
      exact ⟨by kernel_rfl, fun j t ht => by
        rw [Tryd.params7] at ht
        have hm : t ∈ [9, 9, 9] := by simpa using Array.mem_of_getElem? ht
        have hall : ([9, 9, 9].all fun u => !Tryd.prog.wantsStandIn u) = true := by kernel_rfl
        exact (show Tryd.prog.wantsStandIn t = false by simpa using List.all_eq_true.1 hall t hm)⟩)
    (by kernel_rfl)
#print axioms card
end Go.Proofs.YtlabhbeacogfbaaDoor.lawIgnoreWithin
