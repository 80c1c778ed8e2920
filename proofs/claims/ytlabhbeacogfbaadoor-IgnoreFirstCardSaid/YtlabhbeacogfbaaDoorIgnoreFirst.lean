/- IgnoreFirst: the first pattern that matches tells: the statement IgnoreFirstCardSaid, with no condition of its own. -/
import Derived.Test.YtlabhbeacogfbaaDoorPathEnv
import Derived.Test.YtlabhbeacogfbaaDoorFirstL
namespace Go.Proofs.YtlabhbeacogfbaaDoor.lawIgnoreFirst
open Go.ChangeShapes Go.WideShapes Go.ChangeAt Go.RowKit
open Go.ChangeMaps (open_string)

set_option maxRecDepth 100000 in
set_option maxHeartbeats 3200000 in
theorem walk (o0 t0 s0 : ByteArray) (w : World) (ho : o0.size ≤ maxLen) (ht : t0.size ≤ maxLen) (hs : s0.size ≤ maxLen) (E : Env w) :
    Calls Tryd.prog 6 #[.string o0, .string t0, .string s0] w fun e w' => e = .returned (.bool true) ∧ Below w.heap.size w w' := by
  have W := fun w E => Lib.hid (works_any w E)
  unfold maxLen at ho ht hs
  have m1 : (0 : Int) ≤ min (o0.size : Int) 600 := by omega
  have m2 : min (o0.size : Int) 600 ≤ o0.size := by omega
  have m3 : (0 : Int) ≤ min (t0.size : Int) 600 := by omega
  have m4 : min (t0.size : Int) 600 ≤ t0.size := by omega
  have m5 : (0 : Int) ≤ min (s0.size : Int) 200 := by omega
  have m6 : min (s0.size : Int) 200 ≤ s0.size := by omega
  obtain ⟨one, e1⟩ : ∃ p, o0.extract 0 (min (o0.size : Int) 600).toNat = p := ⟨_, rfl⟩
  obtain ⟨two, e2⟩ : ∃ p, t0.extract 0 (min (t0.size : Int) 600).toNat = p := ⟨_, rfl⟩
  obtain ⟨s, e3⟩ : ∃ p, s0.extract 0 (min (s0.size : Int) 200).toNat = p := ⟨_, rfl⟩
  have z1 : one.size ≤ 600 := by rw [← e1]; simp; omega
  have z2 : two.size ≤ 600 := by rw [← e2]; simp; omega
  have z3 : s.size ≤ 200 := by rw [← e3]; simp; omega
  obtain ⟨q, hq⟩ : ∃ q : ByteArray, (⟨#[35, 105, 110, 99, 108, 117, 100, 101, 32, 97, 10]⟩ : ByteArray) ++ two = q := ⟨_, rfl⟩
  have zq : q.size ≤ 611 := by rw [← hq, ByteArray.size_append]; have : (⟨#[35, 105, 110, 99, 108, 117, 100, 101, 32, 97, 10]⟩ : ByteArray).size = 11 := rfl; omega
  have hqt : q.toList = [35, 105, 110, 99, 108, 117, 100, 101, 32, 97, 10] ++ two.toList := by rw [← hq, toList_append, show (⟨#[35, 105, 110, 99, 108, 117, 100, 101, 32, 97, 10]⟩ : ByteArray).toList = [35, 105, 110, 99, 108, 117, 100, 101, 32, 97, 10] from toList_mk _]
  have HQ := Lib.hid hqt
  have F1 : ∀ f ∈ [((⟨#[97]⟩ : ByteArray), one)], f.1.size ≤ maxLen ∧ f.2.size < 4294967281 := by
    intro f hf; rw [List.mem_singleton.1 hf]; exact ⟨by show (⟨#[97]⟩ : ByteArray).size ≤ maxLen; decide, by show one.size < _; omega⟩
  have F3 : ∀ f ∈ [((⟨#[99]⟩ : ByteArray), two)], f.1.size ≤ maxLen ∧ f.2.size < 4294967281 := by
    intro f hf; rw [List.mem_singleton.1 hf]; exact ⟨by show (⟨#[99]⟩ : ByteArray).size ≤ maxLen; decide, by show two.size < _; omega⟩
  have F2 : ∀ f ∈ [((⟨#[97]⟩ : ByteArray), one), ((⟨#[98]⟩ : ByteArray), q)], f.1.size ≤ maxLen ∧ f.2.size < 4294967281 := by
    intro f hf
    rcases List.mem_cons.1 hf with rfl | hf
    · exact ⟨by show (⟨#[97]⟩ : ByteArray).size ≤ maxLen; decide, by show one.size < _; omega⟩
    · rw [List.mem_singleton.1 hf]; exact ⟨by show (⟨#[98]⟩ : ByteArray).size ≤ maxLen; decide, by show q.size < _; omega⟩
  have P1 := fun w t E => Lib.hid (parse_uni (name := ⟨#[97]⟩) (texts_one (w := w) (t := t)) F1 (by decide) E)
  have P2 := fun w t E => Lib.hid (parse_uni (name := ⟨#[98]⟩) (texts_two (w := w) (t := t)) F2 (by decide) E)
  have P3 := fun w t E => Lib.hid (parse_uni (name := ⟨#[99]⟩) (texts_one (w := w) (t := t)) F3 (by decide) E)
  clear F1 F2 F3 hqt
  go_enter Tryd.func6, Tryd.ntmps6
  go_wp2_with fail
  refine ((P1 _ _ (E.ext ((Ext.refl w).alloc _))).out).mono ?_
  rintro e w1 ⟨l1, k1, rfl, H1⟩
  have X1 := ((Ext.refl w).alloc (.cells #[.string ⟨#[97]⟩, .string one] 42 (0, 0))).trans H1.out.1
  go_wp2_with fail
  refine ((P2 _ _ (E.ext (X1.alloc _))).out).mono ?_
  rintro e w2 ⟨l2, k2, rfl, H2⟩
  have x2 := ((Ext.refl w1).alloc (.cells #[.string ⟨#[97]⟩, .string one, .string ⟨#[98]⟩, .string q] 42 (0, 0))).trans H2.out.1
  have X2 := X1.trans x2
  go_wp2_with fail
  refine ((P3 _ _ (E.ext (X2.alloc _))).out).mono ?_
  rintro e w3 ⟨l3, k3, rfl, H3⟩
  have x3 := ((Ext.refl w2).alloc (.cells #[.string ⟨#[99]⟩, .string two] 42 (0, 0))).trans H3.out.1
  have X3 := X2.trans x3
  clear P1 P2 P3
  by_cases h1 : k1 = 0
  · by_cases h2 : k2 = 0
    · by_cases h3 : k3 = 0
      · obtain ⟨ll1, xs, rfl, pa, L1⟩ := H1.out.2 h1
        obtain ⟨ll2, bs, rfl, pb, L2⟩ := H2.out.2 h2
        obtain ⟨ll3, cs, rfl, pc, L3⟩ := H3.out.2 h3
        obtain ⟨hl1, hf1⟩ := parse_fine pa
        obtain ⟨hl2, _⟩ := parse_fine pb
        obtain ⟨hl3, _⟩ := parse_fine pc
        have hbs : bs = xs ++ cs := by
          have ea : (⟨#[97]⟩ : ByteArray).toList = [97] := toList_mk _
          have eb : (⟨#[98]⟩ : ByteArray).toList = [98] := toList_mk _
          have ec : (⟨#[99]⟩ : ByteArray).toList = [99] := toList_mk _
          simp only [fsL, List.map_cons, List.map_nil, ea, eb, ec, HQ.out] at pa pb pc
          exact first_parts pa pb pc
        have hap := matchesL_app xs cs s hf1
        rw [← hbs] at hap
        have hlen : bs.length = xs.length + cs.length := by rw [hbs, List.length_append]
        have LN1 := fun {w} hL => Lib.hid (len_at (w := w) (ll := ll1) (ts := xs) hL (by omega))
        have LN2 := fun {w} hL => Lib.hid (len_at (w := w) (ll := ll2) (ts := bs) hL (by omega))
        have LN3 := fun {w} hL => Lib.hid (len_at (w := w) (ll := ll3) (ts := cs) hL (by omega))
        obtain ⟨a, b, hab⟩ : ∃ a b, matchesL xs s = (a, b) := ⟨_, _, rfl⟩
        obtain ⟨c, d, hcd⟩ : ∃ a b, matchesL bs s = (a, b) := ⟨_, _, rfl⟩
        obtain ⟨m, n, hmn⟩ : ∃ a b, matchesL cs s = (a, b) := ⟨_, _, rfl⟩
        have M1 := fun {w} hL E => Lib.hid (match_is (w := w) (ll := ll1) hab (by omega) hL E)
        have M2 := fun {w} hL E => Lib.hid (match_is (w := w) (ll := ll2) hcd (by omega) hL E)
        have M3 := fun {w} hL E => Lib.hid (match_is (w := w) (ll := ll3) hmn (by omega) hL E)
        rw [hab, hcd, hmn] at hap
        have HAP := Lib.hid hap
        have G1 := Lib.hid ((L1.ext x2).ext x3)
        have G2 := Lib.hid (L2.ext x3)
        have G3 := Lib.hid L3
        clear pa pb pc hbs hap hab hcd hmn L1 L2 L3 H1 H2 H3 hf1 x2 x3
        have hwr : IntKind.i64.wrap ((xs.length : Int) + (cs.length : Int)) = ((bs.length : Nat) : Int) := by
          rw [hlen]; unfold IntKind.wrap; simp [IntKind.bits, IntKind.signed]; omega
        subst h1 h2 h3
        go_wp2_with fail
        refine ((LN2 G2.out).out).mono ?_
        rintro e w4 ⟨rfl, x4⟩
        have X4 := X3.trans x4
        have K1 := Lib.hid (G1.out.ext x4)
        have K2 := Lib.hid (G2.out.ext x4)
        have K3 := Lib.hid (G3.out.ext x4)
        clear G1 G2 G3 x4
        go_wp2_with fail
        refine ((LN1 K1.out).out).mono ?_
        rintro e w5 ⟨rfl, x5⟩
        have X5 := X4.trans x5
        have G1 := Lib.hid (K1.out.ext x5)
        have G2 := Lib.hid (K2.out.ext x5)
        have G3 := Lib.hid (K3.out.ext x5)
        clear K1 K2 K3 x5
        go_wp2_with fail
        refine ((LN3 G3.out).out).mono ?_
        rintro e w6 ⟨rfl, x6⟩
        have X6 := X5.trans x6
        have K1 := Lib.hid (G1.out.ext x6)
        have K2 := Lib.hid (G2.out.ext x6)
        have K3 := Lib.hid (G3.out.ext x6)
        clear G1 G2 G3 x6
        go_wp2_with fail
        refine ((M1 K1.out (E.ext X6)).out).mono ?_
        rintro e w7 ⟨rfl, x7⟩
        have X7 := X6.trans x7
        have G2 := Lib.hid (K2.out.ext x7)
        have G3 := Lib.hid (K3.out.ext x7)
        clear K1 K2 K3 x7
        go_wp2_with fail
        refine ((M2 G2.out (E.ext X7)).out).mono ?_
        rintro e w8 ⟨rfl, x8⟩
        have X8 := X7.trans x8
        have K3 := Lib.hid (G3.out.ext x8)
        clear G2 G3 x8
        go_wp2_with fail
        refine ((M3 K3.out (E.ext X8)).out).mono ?_
        rintro e w9 ⟨rfl, x9⟩
        have X9 := X8.trans x9
        clear K3 x9 X1 X2 X3 X4 X5 X6 X7 X8 M1 M2 M3 LN1 LN2 LN3
        rcases HAP.out with ⟨h4, h5⟩ | h4
        · obtain ⟨rfl, rfl⟩ := Prod.mk.inj h4
          obtain ⟨rfl, rfl⟩ := Prod.mk.inj h5
          clear HAP h4 h5
          cases c <;> cases d
          all_goals
            go_wp2_with fail
            refine (W _ (E.ext X9)).out.mono ?_
            rintro e wr1 ⟨rfl, xr1⟩
            have Xr1 := X9.trans xr1
            have XE := Xr1
            go_wp2_with fail
            go_ret
            exact ⟨rfl, Xr1⟩
        · obtain ⟨rfl, rfl⟩ := Prod.mk.inj h4
          clear HAP h4
          cases c <;> cases d
          all_goals
            go_wp2_with fail
            refine (W _ (E.ext X9)).out.mono ?_
            rintro e wr1 ⟨rfl, xr1⟩
            have Xr1 := X9.trans xr1
            have XE := Xr1
            go_wp2_with fail
            go_ret
            exact ⟨rfl, Xr1⟩
      · have n1 : ((k3 : Int) != 0) = true := by rw [bne, beq_eq_false_iff_ne.2 (by omega)]; rfl
        subst h1 h2
        clear H1 H2 H3
        go_wp2_with fail
        refine (W _ (E.ext X3)).out.mono ?_
        rintro e wr1 ⟨rfl, xr1⟩
        have Xr1 := X3.trans xr1
        have XE := Xr1
        go_wp2_with fail
        go_ret
        exact ⟨rfl, Xr1⟩
    · have n1 : ((k2 : Int) != 0) = true := by rw [bne, beq_eq_false_iff_ne.2 (by omega)]; rfl
      subst h1
      clear H1 H2 H3
      go_wp2_with fail
      refine (W _ (E.ext X3)).out.mono ?_
      rintro e wr1 ⟨rfl, xr1⟩
      have Xr1 := X3.trans xr1
      have XE := Xr1
      go_wp2_with fail
      go_ret
      exact ⟨rfl, Xr1⟩
  · have n1 : ((k1 : Int) != 0) = true := by rw [bne, beq_eq_false_iff_ne.2 (by omega)]; rfl
    clear H1 H2 H3
    go_wp2_with fail
    refine (W _ (E.ext X3)).out.mono ?_
    rintro e wr1 ⟨rfl, xr1⟩
    have Xr1 := X3.trans xr1
    have XE := Xr1
    go_wp2_with fail
    go_ret
    exact ⟨rfl, Xr1⟩

-- BEGUN
set_option maxRecDepth 100000 in
theorem begun {H : Type} {enc : TypeId × Value → H} (W : World) (args : Array Value) (ds : List (DataW H)) (p : List MemPlace) (st : Start enc Rows.ignoreFirstRow.laid Tryd.f6 W args ds p) :
    Calls Tryd.prog 6 args W fun e W' => e = .returned (.bool true) ∧ Below W.heap.size W W' := by
  obtain ⟨⟨base, hval⟩, hA, hfit, hl, hsh⟩ := st
  rw [Tryd.params6] at hA hval hfit
  obtain ⟨v0, v1, v2, d0, d1, d2, p0, p1, p2, rfl, rfl, rfl, h0, h1, h2⟩ := trodAll_three hA
  obtain ⟨a, rfl, rfl, rfl, ha⟩ := open_string Tryd.underlying9 (hval 0 9 v0 rfl rfl) h0
  obtain ⟨b, rfl, rfl, rfl, hb⟩ := open_string Tryd.underlying9 (hval 1 9 v1 rfl rfl) h1
  obtain ⟨c, rfl, rfl, rfl, hc⟩ := open_string Tryd.underlying9 (hval 2 9 v2 rfl rfl) h2
  exact walk a b c W ha hb hc (env_of hsh)

set_option maxRecDepth 100000 in
theorem said : Rows.IgnoreFirstSaid :=
  OpenClaim.holds_of_wide 6 Tryd.f6 rfl rfl rfl rfl rfl rfl rfl ⟨rfl, rfl, rfl, rfl, rfl⟩ rfl rfl rfl rfl rfl (by kernel_rfl) Tryd.func6 (by kernel_rfl)
    (of_decide_eq_true (by kernel_rfl)) (by unfold Func.isWrapper; first | (rw [if_pos (by decide +kernel)]; kernel_rfl) | (rw [if_neg (by decide +kernel)]; exact ⟨rfl, rfl⟩))
    (fun os started H enc _ => lifted Rows.ignoreFirstRow.laid (by kernel_rfl) 6 Tryd.f6 Tryd.func6 Rows.ignoreFirstSpec rfl (by kernel_rfl) (by kernel_rfl)
      (by rw [Tryd.params6]
          have hall : ([9, 9, 9].all fun t => Tryd.prog.readableRec t && decide (t < Tryd.prog.types.size)) = true := by kernel_rfl
          intro t ht
          have := List.all_eq_true.1 hall t ht
          simpa using this)
      (by intro H ts ds h hl; rw [Tryd.params6] at h; subst h
          match ds, hl with
          | [d1, d2, d3], _ => rfl)
      Rows.ignoreFirstRow.domain os started H enc #[.string ⟨#[]⟩, .string ⟨#[]⟩, .string ⟨#[]⟩] (by kernel_rfl) (by kernel_rfl) (by kernel_rfl)
      (World.shaped_of_ZipB (by kernel_rfl) (by kernel_rfl)) (laidMet_laidAll _ (by kernel_rfl) (by kernel_rfl))
      begun)

theorem card : Rows.IgnoreFirstCardSaid :=
  Claim7.holds_tied_plain_at .later [] Rows.ignoreFirstCard.laidKinds true Rows.ignoreFirstCard.stood.harness false said (fun _ h => by cases h) (by kernel_rfl) (fun _ h => by cases h) ignoreFirst_row_tie rfl ⟨rfl, rfl⟩ (by kernel_rfl) rfl
    (fun f fn hf hfn => by
      obtain rfl : f = 6 := Option.some.inj ((show Tryd.prog.funcNamed Rows.ignoreFirstRow.func = some 6 by kernel_rfl).symm.trans hf) |>.symm
      obtain rfl : fn = Tryd.f6 := (Option.some.inj (Tryd.func6.symm.trans hfn)).symm
      exact ⟨by kernel_rfl, fun j t ht => by
        rw [Tryd.params6] at ht
        have hm : t ∈ [9, 9, 9] := by simpa using Array.mem_of_getElem? ht
        have hall : ([9, 9, 9].all fun u => !Tryd.prog.wantsStandIn u) = true := by kernel_rfl
        exact (show Tryd.prog.wantsStandIn t = false by simpa using List.all_eq_true.1 hall t hm)⟩)
    (by kernel_rfl)
#print axioms card
end Go.Proofs.YtlabhbeacogfbaaDoor.lawIgnoreFirst
