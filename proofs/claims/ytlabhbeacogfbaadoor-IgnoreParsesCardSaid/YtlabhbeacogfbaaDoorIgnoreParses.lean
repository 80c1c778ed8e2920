/- IgnoreParses: which patterns files have, and which files have none, is as the document says: the statement IgnoreParsesCardSaid, with no condition of its own. -/
import Derived.Test.YtlabhbeacogfbaaDoorLawD
namespace Go.Proofs.YtlabhbeacogfbaaDoor.lawIgnoreParses
open Go.ChangeShapes Go.WideShapes Go.ChangeAt Go.RowKit
open Go.ChangeMaps (open_string)

set_option maxHeartbeats 3200000 in
theorem walk (v : Value) (fs : List (ByteArray × ByteArray)) (n : ByteArray) (w : World) (hF : FilesIn w v fs) (hfs : ∀ f ∈ fs, f.1.size ≤ maxLen ∧ f.2.size ≤ maxLen) (hn : n.size ≤ maxLen) (E : Env w) :
    Calls Tryd.prog 3 #[v, .string n] w fun e w' => e = .returned (.bool true) ∧ Below w.heap.size w w' := by
  have W := fun w E => Lib.hid (works_any w E)
  have HW := fun w' (x : Ext w w') => Lib.hid (few_at w' (hF.ext x) hfs)
  clear hF hfs
  cases hr : parseL (fsL (fewF fs)) n.toList with
  | error k =>
    have P1 := fun {w u} hT E => Lib.hid (parse_err (w := w) (v := u) hr hT (fewF_fit fs) hn E)
    have P2 := fun {w u} hT => Lib.hid (refParse_err (w := w) (v := u) hr hT (fewF_ref fs))
    clear hr
    go_enter Tryd.func3, Tryd.ntmps3
    go_wp2_with fail
    refine ((HW _ (Ext.refl w)).out).mono ?_
    rintro e w1 ⟨u1, rfl, T1, X1⟩
    go_wp2_with fail
    refine ((P1 T1.out (E.ext X1)).out).mono ?_
    rintro e w2 ⟨rfl, hk, x2⟩
    have X2 := X1.trans x2
    have n0 : ((k : Int) != 0) = true := by rw [bne, beq_eq_false_iff_ne.2 (by omega)]; rfl
    go_wp2_with fail
    refine ((HW _ X2).out).mono ?_
    rintro e w3 ⟨u2, rfl, T2, x3⟩
    have X3 := X2.trans x3
    go_wp2_with fail
    refine ((P2 T2.out).out).mono ?_
    rintro e w4 ⟨rfl, x4⟩
    have X4 := X3.trans x4
    go_wp2_with fail
    refine (W _ (E.ext X4)).out.mono ?_
    rintro e wr1 ⟨rfl, xr1⟩
    have Xr1 := X4.trans xr1
    have XE := Xr1
    go_wp2_with fail
    go_ret
    exact ⟨rfl, Xr1⟩
  | ok ts =>
    have P1 := fun {w u} hT E => Lib.hid (parse_ok (w := w) (v := u) hr hT (fewF_fit fs) hn E)
    have P2 := fun {w u} hT => Lib.hid (refParse_ok (w := w) (v := u) hr hT (fewF_ref fs))
    obtain ⟨hl64, _⟩ := parse_fine hr
    have LN := fun {w ll} hL => Lib.hid (len_at (w := w) (ll := ll) (ts := ts) hL (by omega))
    have LI := fun {w ll} hL => Lib.hid (lines_at (w := w) (ll := ll) (ts := ts) hL (by omega))
    have SA := fun {w v u} hv hu => Lib.hid (same_rows (w := w) (v := v) (u := u) (ts := ts) hv hu)
    clear hr
    go_enter Tryd.func3, Tryd.ntmps3
    go_wp2_with fail
    refine ((HW _ (Ext.refl w)).out).mono ?_
    rintro e w1 ⟨u1, rfl, T1, X1⟩
    go_wp2_with fail
    refine ((P1 T1.out (E.ext X1)).out).mono ?_
    rintro e w2 ⟨ll, rfl, HL, x2⟩
    have X2 := X1.trans x2
    go_wp2_with fail
    refine ((HW _ X2).out).mono ?_
    rintro e w3 ⟨u2, rfl, T2, x3⟩
    have X3 := X2.trans x3
    go_wp2_with fail
    refine ((P2 T2.out).out).mono ?_
    rintro e w4 ⟨u3, rfl, R, x4⟩
    have X4 := X3.trans x4
    obtain ⟨a3, c3, rfl, h31, h32⟩ := rows_shape R.out
    have HL4 := Lib.hid ((HL.out.ext x3).ext x4)
    go_wp2_with fail
    refine ((LN HL4.out).out).mono ?_
    rintro e w5 ⟨rfl, x5⟩
    have X5 := X4.trans x5
    have HL5 := Lib.hid (HL4.out.ext x5)
    have R5 := Lib.hid (R.out.ext x5)
    go_wp2_with fail
    refine ((LI HL5.out).out).mono ?_
    rintro e w6 ⟨v6, rfl, R6, x6⟩
    have X6 := X5.trans x6
    go_wp2_with fail
    refine ((SA R6.out (R5.out.ext x6)).out).mono ?_
    rintro e w7 ⟨rfl, x7⟩
    have X7 := X6.trans x7
    go_wp2_with fail
    refine (W _ (E.ext X7)).out.mono ?_
    rintro e wr1 ⟨rfl, xr1⟩
    have Xr1 := X7.trans xr1
    have XE := Xr1
    go_wp2_with fail
    go_ret
    exact ⟨rfl, Xr1⟩

-- BEGUN
set_option maxRecDepth 100000 in
theorem begun {H : Type} {enc : TypeId × Value → H} (W : World) (args : Array Value) (ds : List (DataW H)) (p : List MemPlace) (st : Start enc Rows.ignoreParsesRow.laid Tryd.f3 W args ds p) :
    Calls Tryd.prog 3 args W fun e W' => e = .returned (.bool true) ∧ Below W.heap.size W W' := by
  obtain ⟨⟨base, hval⟩, hA, hfit, hl, hsh⟩ := st
  rw [Tryd.params3] at hA hval hfit
  obtain ⟨v0, v1, d0, d1, p0, p1, rfl, rfl, rfl, h0, h1⟩ := trodAll_two hA
  obtain ⟨fs, hF, hfs⟩ := open_files (hval 0 22 v0 rfl rfl) h0
  obtain ⟨b, rfl, rfl, rfl, hb⟩ := open_string Tryd.underlying9 (hval 1 9 v1 rfl rfl) h1
  exact walk v0 fs b W hF hfs hb (env_of hsh)

set_option maxRecDepth 100000 in
theorem said : Rows.IgnoreParsesSaid :=
  OpenClaim.holds_of_wide 3 Tryd.f3 rfl rfl rfl rfl rfl rfl rfl ⟨rfl, rfl, rfl, rfl, rfl⟩ rfl rfl rfl rfl rfl (by kernel_rfl) Tryd.func3 (by kernel_rfl)
    (of_decide_eq_true (by kernel_rfl)) (by unfold Func.isWrapper; first | (rw [if_pos (by decide +kernel)]; kernel_rfl) | (rw [if_neg (by decide +kernel)]; exact ⟨rfl, rfl⟩))
    (fun os started H enc _ => lifted Rows.ignoreParsesRow.laid (by kernel_rfl) 3 Tryd.f3 Tryd.func3 Rows.ignoreParsesSpec rfl (by kernel_rfl) (by kernel_rfl)
      (by rw [Tryd.params3]
          have hall : ([22, 9].all fun t => Tryd.prog.readableRec t && decide (t < Tryd.prog.types.size)) = true := by kernel_rfl
          intro t ht
          have := List.all_eq_true.1 hall t ht
          simpa using this)
      (by intro H ts ds h hl; rw [Tryd.params3] at h; subst h
          match ds, hl with
          | [d1, d2], _ => rfl)
      Rows.ignoreParsesRow.domain os started H enc #[.slice none 0 0, .string ⟨#[]⟩] (by kernel_rfl) (by kernel_rfl) (by kernel_rfl)
      (World.shaped_of_ZipB (by kernel_rfl) (by kernel_rfl)) (laidMet_laidAll _ (by kernel_rfl) (by kernel_rfl))
      begun)

theorem card : Rows.IgnoreParsesCardSaid :=
  Claim7.holds_tied_plain_at .later [] Rows.ignoreParsesCard.laidKinds true Rows.ignoreParsesCard.stood.harness false said (fun _ h => by cases h) (by kernel_rfl) (fun _ h => by cases h) ignoreParses_row_tie rfl ⟨rfl, rfl⟩ (by kernel_rfl) rfl
    (fun f fn hf hfn => by
      obtain rfl : f = 3 := Option.some.inj ((show Tryd.prog.funcNamed Rows.ignoreParsesRow.func = some 3 by kernel_rfl).symm.trans hf) |>.symm
      obtain rfl : fn = Tryd.f3 := (Option.some.inj (Tryd.func3.symm.trans hfn)).symm
      exact ⟨by kernel_rfl, fun j t ht => by
        rw [Tryd.params3] at ht
        have hm : t ∈ [22, 9] := by simpa using Array.mem_of_getElem? ht
        have hall : ([22, 9].all fun u => !Tryd.prog.wantsStandIn u) = true := by kernel_rfl
        exact (show Tryd.prog.wantsStandIn t = false by simpa using List.all_eq_true.1 hall t hm)⟩)
    (by kernel_rfl)
#print axioms card
end Go.Proofs.YtlabhbeacogfbaaDoor.lawIgnoreParses
