/- IgnoreAgain: one file of the patterns' lines matches the same: the statement IgnoreAgainCardSaid, with no condition of its own. -/
import Derived.Test.YtlabhbeacogfbaaDoorLawD
import Derived.Test.YtlabhbeacogfbaaDoorAgainL
namespace Go.Proofs.YtlabhbeacogfbaaDoor.lawIgnoreAgain
open Go.ChangeShapes Go.WideShapes Go.ChangeAt Go.RowKit
open Go.ChangeMaps (open_string)

set_option maxRecDepth 100000 in
set_option maxHeartbeats 3200000 in
theorem walk (v u : Value) (fs : List (ByteArray × ByteArray)) (ss : List ByteArray) (n : ByteArray) (w : World) (hF : FilesIn w v fs) (hfs : ∀ f ∈ fs, f.1.size ≤ maxLen ∧ f.2.size ≤ maxLen) (hn : n.size ≤ maxLen) (hS : TextsIn w u ss) (E : Env w) :
    Calls Tryd.prog 5 #[v, .string n, u] w fun e w' => e = .returned (.bool true) ∧ Below w.heap.size w w' := by
  have W := fun w E => Lib.hid (works_any w E)
  have HW := fun w' (x : Ext w w') => Lib.hid (few_at w' (hF.ext x) hfs)
  obtain ⟨ap, cp, rfl, hcp, hcp2, hS⟩ := hS
  have HS := Lib.hid hS
  unfold maxLen at hcp2
  clear hF hfs hS
  cases hr : parseL (fsL (fewF fs)) n.toList with
  | error k =>
    have P1 := fun {w u} hT E => Lib.hid (parse_err (w := w) (v := u) hr hT (fewF_fit fs) hn E)
    clear hr
    go_enter Tryd.func5, Tryd.ntmps5
    go_wp2_with fail
    refine ((HW _ (Ext.refl w)).out).mono ?_
    rintro e w1 ⟨u1, rfl, T1, X1⟩
    go_wp2_with fail
    refine ((P1 T1.out (E.ext X1)).out).mono ?_
    rintro e w2 ⟨rfl, hk, x2⟩
    have X2 := X1.trans x2
    have n0 : ((k : Int) != 0) = true := by rw [bne, beq_eq_false_iff_ne.2 (by omega)]; rfl
    go_wp2_with fail
    refine (W _ (E.ext X2)).out.mono ?_
    rintro e wr1 ⟨rfl, xr1⟩
    have Xr1 := X2.trans xr1
    have XE := Xr1
    go_wp2_with fail
    go_ret
    exact ⟨rfl, Xr1⟩
  | ok ts =>
    have P1 := fun {w u} hT E => Lib.hid (parse_ok (w := w) (v := u) hr hT (fewF_fit fs) hn E)
    obtain ⟨hl64, hfine⟩ := parse_fine hr
    have hcl := parse_clean hr
    have hag : parseL (fsL [((⟨#[111, 110, 101]⟩ : ByteArray), bsL (joinL ts))]) (⟨#[111, 110, 101]⟩ : ByteArray).toList = .ok ts := by
      show parseL [((⟨#[111, 110, 101]⟩ : ByteArray).toList, (bsL (joinL ts)).toList)] _ = _
      rw [bsL_toList]
      exact again hcl hfine hl64
    have h128 : ∀ t ∈ ts, t.length ≤ 128 := fun t ht => let ⟨p, hp⟩ := hfine t ht; patL_le hp
    have hjz : (bsL (joinL ts)).size ≤ 8256 := by
      have := joinL_len ts h128
      rw [← len_toList, bsL_toList]; omega
    have HFS : ∀ f ∈ [((⟨#[111, 110, 101]⟩ : ByteArray), bsL (joinL ts))], f.1.size ≤ maxLen ∧ f.2.size < 4294967281 := by
      intro f hf; rw [List.mem_singleton.1 hf]; exact ⟨by show (⟨#[111, 110, 101]⟩ : ByteArray).size ≤ maxLen; decide, by show (bsL (joinL ts)).size < _; omega⟩
    have P2 := fun w t E => Lib.hid (parse_ok hag (texts_one (w := w) (t := t)) HFS (by decide) E)
    have LN := fun {w ll} hL => Lib.hid (len_at (w := w) (ll := ll) (ts := ts) hL (by omega))
    have LI := fun {w ll} hL => Lib.hid (lines_at (w := w) (ll := ll) (ts := ts) hL (by omega))
    have JO := fun {w v} hv => Lib.hid (joined_any v ts w hv h128 hl64)
    clear hr hfine hcl hag h128 HFS
    generalize bsL (joinL ts) = jt at *
    go_enter Tryd.func5, Tryd.ntmps5
    go_wp2_with fail
    refine ((HW _ (Ext.refl w)).out).mono ?_
    rintro e w1 ⟨u1, rfl, T1, X1⟩
    go_wp2_with fail
    refine ((P1 T1.out (E.ext X1)).out).mono ?_
    rintro e w2 ⟨ll, rfl, HL, x2⟩
    have X2 := X1.trans x2
    go_wp2_with fail
    refine ((LI HL.out).out).mono ?_
    rintro e w3 ⟨v3, rfl, R3, x3⟩
    have X3 := X2.trans x3
    have HL3 := Lib.hid (HL.out.ext x3)
    go_wp2_with fail
    refine ((JO R3.out).out).mono ?_
    rintro e w4 ⟨rfl, x4⟩
    have X4 := X3.trans x4
    have HL4 := Lib.hid (HL3.out.ext x4)
    go_wp2_with fail
    refine ((P2 _ _ (E.ext (X4.alloc _))).out).mono ?_
    rintro e w5 ⟨lm, rfl, HM5, x5'⟩
    have x5 := ((Ext.refl w4).alloc (.cells #[.string ⟨#[111, 110, 101]⟩, .string jt] 42 (0, 0))).trans x5'
    have X5 := X4.trans x5
    have HL5 := Lib.hid (HL4.out.ext x5)
    go_wp2_with fail
    refine ((LN HM5.out).out).mono ?_
    rintro e w6 ⟨rfl, x6⟩
    have X6 := X5.trans x6
    have HL6 := Lib.hid (HL5.out.ext x6)
    have HM6 := Lib.hid (HM5.out.ext x6)
    go_wp2_with fail
    refine ((LN HL6.out).out).mono ?_
    rintro e wq ⟨rfl, x7⟩
    have XQ := X6.trans x7
    have HL7 := Lib.hid (HL6.out.ext x7)
    have HM7 := Lib.hid (HM6.out.ext x7)
    clear X1 X2 X3 X4 X5 X6 T1 R3 x2 x3 x4 x5 x5' x6 x7 HL HL3 HL4 HL5 HL6 HM5 HM6 P1 P2 LN LI JO
    have M1 := fun s a b (h : matchesL ts s = (a, b)) (hs : s.size < 4294967281) {w} (x : Ext wq w) (E : Env w) => Lib.hid (match_is h hs (HL7.out.ext x) E)
    have M2 := fun s a b (h : matchesL ts s = (a, b)) (hs : s.size < 4294967281) {w} (x : Ext wq w) (E : Env w) => Lib.hid (match_is h hs (HM7.out.ext x) E)
    have SAY := fun s a b (h : matchesL ts s = (a, b)) => Lib.hid (matchesL_says h)
    clear HL7 HM7
    go_wp2_with fail
    go_loopw [11] (fun iv wr => Hid (∃ k : Nat, k ≤ ss.length ∧ k ≤ 10 ∧ iv = .int .i64 k ∧ Ext w wr ∧ Ext wq wr)) (fun iv _ => 10 - (intOf iv).toNat)
    case atStart => exact ⟨0, Nat.zero_le _, Nat.zero_le _, rfl, XQ, Ext.refl _⟩
    case round =>
      obtain ⟨k, hk, hk10, rfl, hx, hxq⟩ := hrel.out
      clear hrel
      by_cases hlt : k < ss.length
      · by_cases hlt10 : k < 10
        · obtain ⟨s0, hs0⟩ : ∃ t, ss[k]? = some t := ⟨_, List.getElem?_eq_getElem hlt⟩
          obtain ⟨g, off, rfl, c1, z0⟩ := HS.out k s0 hs0
          have c2 := (hx.cell (lt_of_cell c1)).trans c1
          unfold maxLen at z0
          have q1 : (0 : Int) ≤ min (s0.size : Int) 200 := by omega
          have q2 : min (s0.size : Int) 200 ≤ s0.size := by omega
          obtain ⟨s, e1⟩ : ∃ p, s0.extract 0 (min (s0.size : Int) 200).toNat = p := ⟨_, rfl⟩
          have z1 : s.size ≤ 200 := by rw [← e1]; simp; omega
          obtain ⟨a, b, hab⟩ : ∃ a b, matchesL ts s = (a, b) := ⟨_, _, rfl⟩
          have HSY := SAY s a b hab
          have HX := Lib.hid hx
          have HXQ := Lib.hid hxq
          clear c1 hs0 hx hxq
          go_wp2_with fail
          go_region_held (fun w' => w'.cell? ⟨g, off + k, none⟩ = some (.string s0)) (go_keep) (fail)
          have XD := HX.out.drew
          have XQD := HXQ.out.drew
          go_wp2_with fail
          refine ((M1 s a b hab (by omega) XQD (E.ext XD)).out).mono ?_
          rintro e w1 ⟨rfl, x1⟩
          have X1 := XD.trans x1
          have XQ1 := XQD.trans x1
          go_wp2_with fail
          refine ((M2 s a b hab (by omega) XQ1 (E.ext X1)).out).mono ?_
          rintro e w2 ⟨rfl, x2⟩
          have X2 := X1.trans x2
          have XQ2 := XQ1.trans x2
          have MY := Lib.hid (may_any s w2 (by omega) (E.ext X2))
          have HX2 := Lib.hid (⟨X2, XQ2⟩ : Ext w w2 ∧ Ext wq w2)
          clear hab c2 e1 q1 q2
          cases a with
          | false =>
            cases b with
            | true => exact absurd (HSY.out.1 rfl) (by simp)
            | false =>
              go_wp2_with fail
              go_roundw
              case rel => exact ⟨k + 1, by omega, by omega, by go_num, HX2.out.1, HX2.out.2⟩
              case measure => simp [intOf] <;> omega
          | true =>
            rw [HSY.out.2 rfl] at MY
            cases b
            all_goals
              go_wp2_with fail
              refine (MY.out).mono ?_
              rintro e w3 ⟨rfl, x3⟩
              have HX3 := Lib.hid (⟨HX2.out.1.trans x3, HX2.out.2.trans x3⟩ : Ext w w3 ∧ Ext wq w3)
              go_wp2_with fail
              go_roundw
              case rel => exact ⟨k + 1, by omega, by omega, by go_num, HX3.out.1, HX3.out.2⟩
              case measure => simp [intOf] <;> omega
        · obtain rfl : k = 10 := by omega
          go_wp2_with fail
          refine (W _ (E.ext hx)).out.mono ?_
          rintro e wr1 ⟨rfl, xr1⟩
          have Xr1 := hx.trans xr1
          have XE := Xr1
          go_wp2_with fail
          go_ret
          exact ⟨rfl, Xr1⟩
      · obtain rfl : k = ss.length := by omega
        have nlt : decide ((ss.length : Int) < (ss.length : Int)) = false := by simp
        go_wp2_with fail
        refine (W _ (E.ext hx)).out.mono ?_
        rintro e wr1 ⟨rfl, xr1⟩
        have Xr1 := hx.trans xr1
        have XE := Xr1
        go_wp2_with fail
        go_ret
        exact ⟨rfl, Xr1⟩

-- BEGUN
set_option maxRecDepth 100000 in
theorem begun {H : Type} {enc : TypeId × Value → H} (W : World) (args : Array Value) (ds : List (DataW H)) (p : List MemPlace) (st : Start enc Rows.ignoreAgainRow.laid Tryd.f5 W args ds p) :
    Calls Tryd.prog 5 args W fun e W' => e = .returned (.bool true) ∧ Below W.heap.size W W' := by
  obtain ⟨⟨base, hval⟩, hA, hfit, hl, hsh⟩ := st
  rw [Tryd.params5] at hA hval hfit
  obtain ⟨v0, v1, v2, d0, d1, d2, p0, p1, p2, rfl, rfl, rfl, h0, h1, h2⟩ := trodAll_three hA
  obtain ⟨fs, hF, hfs⟩ := open_files (hval 0 22 v0 rfl rfl) h0
  obtain ⟨b, rfl, rfl, rfl, hb⟩ := open_string Tryd.underlying9 (hval 1 9 v1 rfl rfl) h1
  obtain ⟨ss, hS⟩ := open_texts (hval 2 28 v2 rfl rfl) h2
  exact walk v0 v2 fs ss b W hF hfs hb hS (env_of hsh)

set_option maxRecDepth 100000 in
theorem said : Rows.IgnoreAgainSaid :=
  OpenClaim.holds_of_wide 5 Tryd.f5 rfl rfl rfl rfl rfl rfl rfl ⟨rfl, rfl, rfl, rfl, rfl⟩ rfl rfl rfl rfl rfl (by kernel_rfl) Tryd.func5 (by kernel_rfl)
    (of_decide_eq_true (by kernel_rfl)) (by unfold Func.isWrapper; first | (rw [if_pos (by decide +kernel)]; kernel_rfl) | (rw [if_neg (by decide +kernel)]; exact ⟨rfl, rfl⟩))
    (fun os started H enc _ => lifted Rows.ignoreAgainRow.laid (by kernel_rfl) 5 Tryd.f5 Tryd.func5 Rows.ignoreAgainSpec rfl (by kernel_rfl) (by kernel_rfl)
      (by rw [Tryd.params5]
          have hall : ([22, 9, 28].all fun t => Tryd.prog.readableRec t && decide (t < Tryd.prog.types.size)) = true := by kernel_rfl
          intro t ht
          have := List.all_eq_true.1 hall t ht
          simpa using this)
      (by intro H ts ds h hl; rw [Tryd.params5] at h; subst h
          match ds, hl with
          | [d1, d2, d3], _ => rfl)
      Rows.ignoreAgainRow.domain os started H enc #[.slice none 0 0, .string ⟨#[]⟩, .slice none 0 0] (by kernel_rfl) (by kernel_rfl) (by kernel_rfl)
      (World.shaped_of_ZipB (by kernel_rfl) (by kernel_rfl)) (laidMet_laidAll _ (by kernel_rfl) (by kernel_rfl))
      begun)

theorem card : Rows.IgnoreAgainCardSaid :=
  Claim7.holds_tied_plain_at .later [] Rows.ignoreAgainCard.laidKinds true Rows.ignoreAgainCard.stood.harness false said (fun _ h => by cases h) (by kernel_rfl) (fun _ h => by cases h) ignoreAgain_row_tie rfl ⟨rfl, rfl⟩ (by kernel_rfl) rfl
    (fun f fn hf hfn => by
      obtain rfl : f = 5 := Option.some.inj ((show Tryd.prog.funcNamed Rows.ignoreAgainRow.func = some 5 by kernel_rfl).symm.trans hf) |>.symm
      obtain rfl : fn = Tryd.f5 := (Option.some.inj (Tryd.func5.symm.trans hfn)).symm
      exact ⟨by kernel_rfl, fun j t ht => by
        rw [Tryd.params5] at ht
        have hm : t ∈ [22, 9, 28] := by simpa using Array.mem_of_getElem? ht
        have hall : ([22, 9, 28].all fun u => !Tryd.prog.wantsStandIn u) = true := by kernel_rfl
        exact (show Tryd.prog.wantsStandIn t = false by simpa using List.all_eq_true.1 hall t hm)⟩)
    (by kernel_rfl)
#print axioms card
end Go.Proofs.YtlabhbeacogfbaaDoor.lawIgnoreAgain
