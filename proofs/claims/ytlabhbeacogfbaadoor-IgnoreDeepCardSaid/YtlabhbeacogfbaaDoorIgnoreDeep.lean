/- IgnoreDeep: files are read within one another up to four deep: the statement IgnoreDeepCardSaid, with no condition of its own. -/
import Derived.Test.YtlabhbeacogfbaaDoorDeepL
namespace Go.Proofs.YtlabhbeacogfbaaDoor.lawIgnoreDeep
open Go.ChangeShapes Go.WideShapes Go.ChangeAt Go.RowKit
open Go.ChangeMaps (open_string)

set_option maxRecDepth 100000 in
set_option maxHeartbeats 3200000 in
theorem walk (c d : Int) (w : World) (c0 : 0 ≤ c) (c1 : c ≤ 255) (d0 : 0 ≤ d) (d1 : d ≤ 255) (E : Env w) :
    Calls Tryd.prog 9 #[.int .u8 c, .int .u8 d] w fun e w' => e = .returned (.bool true) ∧ Below w.heap.size w w' := by
  have W := fun w E => Lib.hid (works_any w E)
  obtain ⟨M, hM⟩ : ∃ M : Nat, 1 + c % 8 = (M : Int) := ⟨(1 + c % 8).toNat, by omega⟩
  obtain ⟨T, hT⟩ : ∃ T : Nat, d % 10 = (T : Int) := ⟨(d % 10).toNat, by omega⟩
  have M1 : 1 ≤ M := by omega
  have M8 : M ≤ 8 := by omega
  have T10 : T < 10 := by omega
  have HI := fun (i : Nat) (hi : i < 100) (w : World) => Lib.hid (show Calls Tryd.prog 21 #[.int .i64 i] w fun e w' => e = .returned (.string (dig i)) ∧ w' = w from Tryd.strconv_Itoa_small i hi w)
  have HI1 := fun (i : Nat) (hi : i < 99) (w : World) => Lib.hid (show Calls Tryd.prog 21 #[.int .i64 ((i : Int) + 1)] w fun e w' => e = .returned (.string (dig (i + 1))) ∧ w' = w from Tryd.strconv_Itoa_small (i + 1) (by omega) w)
  go_enter Tryd.func9, Tryd.ntmps9
  go_wp2_with fail
  try simp only [hT]
  clear hM hT c0 c1 d0 d1
  go_loopw [7, 8] (fun ov iv wr => Hid (∃ k : Nat, k ≤ M ∧ iv = .int .i64 k ∧ wr.ownsRow w.heap.size 42 2 ov k (flatF (deepFiles M T k)) ∧ Ext w wr)) (fun _ iv _ => M - (intOf iv).toNat)
  case atStart => exact ⟨0, Nat.zero_le _, rfl, World.ownsRow_nil _ _ _ _, Ext.refl w⟩
  case round =>
    obtain ⟨k, hk, rfl, ho, hx⟩ := hrel.out
    clear hrel
    have HX := Lib.hid hx
    have HO := Lib.hid ho
    by_cases hlt : k < M
    · have HTK := Lib.hid (deep_succ M T k)
      have za := dig_le k (by omega)
      have HA := HI k (by omega)
      by_cases hk1 : k + 1 < M
      · have zb := dig_le (k + 1) (by omega)
        have HB := HI1 k (by omega)
        rw [show deepText M T k = ⟨#[112]⟩ ++ dig k ++ ⟨#[10]⟩ ++ inclF ++ dig (k + 1) ++ ⟨#[10]⟩ from if_pos hk1] at HTK
        unfold inclF at HTK
        clear ho hx HI HI1
        generalize dig (k + 1) = b at *
        generalize dig k = a at *
        obtain ⟨nm, hnm⟩ : ∃ x, (⟨#[102]⟩ : ByteArray) ++ a = x := ⟨_, rfl⟩
        obtain ⟨s1, hs1⟩ : ∃ x, (⟨#[112]⟩ : ByteArray) ++ a ++ ⟨#[10]⟩ = x := ⟨_, rfl⟩
        have zs1 : s1.size ≤ 9 := by rw [← hs1, ByteArray.size_append, ByteArray.size_append]; have : (⟨#[112]⟩ : ByteArray).size = 1 := rfl; have : (⟨#[10]⟩ : ByteArray).size = 1 := rfl; omega
        obtain ⟨tx, htx⟩ : ∃ x, s1 ++ (⟨#[35, 105, 110, 99, 108, 117, 100, 101, 32, 102]⟩ : ByteArray) ++ b ++ ⟨#[10]⟩ = x := ⟨_, rfl⟩
        rw [hs1, hnm, htx] at HTK
        go_wp2_with fail
        refine ((HA _).out).mono ?_
        rintro e wr' ⟨rfl, hw'⟩
        obtain rfl := hw'.symm
        go_wp2_with fail
        refine ((HB _).out).mono ?_
        rintro e wr' ⟨rfl, hw'⟩
        obtain rfl := hw'.symm
        go_wp2_with fail
        refine ((HA _).out).mono ?_
        rintro e wr' ⟨rfl, hw'⟩
        obtain rfl := hw'.symm
        go_wp2_with (at_builtin; refine append_kw elT w.heap.size _ k (flatF (deepFiles M T k)) (HO.out.alloc _) wr.heap.size [.string nm, .string tx] rfl (.tmp 51) (.tmp 57) rfl rfl rfl rfl (newsT rfl) (onesT _ _) (by omega) ?_ ?_)
        · have := HX.out.size; simp; omega
        intro v' w3 hown3 hgr3 hv3 hwh3
        have HR := Lib.hid (show w3.ownsRow w.heap.size 42 2 v' (k + 1) (flatF (deepFiles M T (k + 1))) ∧ Ext w w3 from ⟨by rw [HTK.out]; exact hown3, (HX.out.alloc _).grown hgr3 (by have := HX.out.size; simp; omega) (own_block_ge_k HO.out)⟩)
        clear hown3 hgr3 hv3 hwh3
        go_wp2_with fail
        go_roundw
        case rel => exact ⟨k + 1, by omega, by go_num, HR.out.1, HR.out.2⟩
        case measure => simp [intOf] <;> omega
      · by_cases hTM : T < M
        · have zb := dig_le T (by omega)
          have HB := HI T (by omega)
          rw [show deepText M T k = ⟨#[112]⟩ ++ dig k ++ ⟨#[10]⟩ ++ inclF ++ dig T ++ ⟨#[10]⟩ from (if_neg hk1).trans (if_pos hTM)] at HTK
          unfold inclF at HTK
          obtain ⟨b, hb⟩ : ∃ b, b = dig T := ⟨_, rfl⟩
          rw [← hb] at HB HTK zb
          obtain ⟨a, ha⟩ : ∃ a, a = dig k := ⟨_, rfl⟩
          rw [← ha] at HA HTK za
          clear ho hx HI HI1 ha hb
          obtain ⟨nm, hnm⟩ : ∃ x, (⟨#[102]⟩ : ByteArray) ++ a = x := ⟨_, rfl⟩
          obtain ⟨s1, hs1⟩ : ∃ x, (⟨#[112]⟩ : ByteArray) ++ a ++ ⟨#[10]⟩ = x := ⟨_, rfl⟩
          have zs1 : s1.size ≤ 9 := by rw [← hs1, ByteArray.size_append, ByteArray.size_append]; have : (⟨#[112]⟩ : ByteArray).size = 1 := rfl; have : (⟨#[10]⟩ : ByteArray).size = 1 := rfl; omega
          obtain ⟨tx, htx⟩ : ∃ x, s1 ++ (⟨#[35, 105, 110, 99, 108, 117, 100, 101, 32, 102]⟩ : ByteArray) ++ b ++ ⟨#[10]⟩ = x := ⟨_, rfl⟩
          rw [hs1, hnm, htx] at HTK
          go_wp2_with fail
          refine ((HA _).out).mono ?_
          rintro e wr' ⟨rfl, hw'⟩
          obtain rfl := hw'.symm
          go_wp2_with fail
          refine ((HB _).out).mono ?_
          rintro e wr' ⟨rfl, hw'⟩
          obtain rfl := hw'.symm
          go_wp2_with fail
          refine ((HA _).out).mono ?_
          rintro e wr' ⟨rfl, hw'⟩
          obtain rfl := hw'.symm
          go_wp2_with (at_builtin; refine append_kw elT w.heap.size _ k (flatF (deepFiles M T k)) (HO.out.alloc _) wr.heap.size [.string nm, .string tx] rfl (.tmp 51) (.tmp 57) rfl rfl rfl rfl (newsT rfl) (onesT _ _) (by omega) ?_ ?_)
          · have := HX.out.size; simp; omega
          intro v' w3 hown3 hgr3 hv3 hwh3
          have HR := Lib.hid (show w3.ownsRow w.heap.size 42 2 v' (k + 1) (flatF (deepFiles M T (k + 1))) ∧ Ext w w3 from ⟨by rw [HTK.out]; exact hown3, (HX.out.alloc _).grown hgr3 (by have := HX.out.size; simp; omega) (own_block_ge_k HO.out)⟩)
          clear hown3 hgr3 hv3 hwh3
          go_wp2_with fail
          go_roundw
          case rel => exact ⟨k + 1, by omega, by go_num, HR.out.1, HR.out.2⟩
          case measure => simp [intOf] <;> omega
        · rw [show deepText M T k = ⟨#[112]⟩ ++ dig k ++ ⟨#[10]⟩ from (if_neg hk1).trans (if_neg hTM)] at HTK
          clear ho hx HI HI1
          generalize dig k = a at *
          obtain ⟨nm, hnm⟩ : ∃ x, (⟨#[102]⟩ : ByteArray) ++ a = x := ⟨_, rfl⟩
          obtain ⟨tx, htx⟩ : ∃ x, (⟨#[112]⟩ : ByteArray) ++ a ++ ⟨#[10]⟩ = x := ⟨_, rfl⟩
          have ztx : tx.size ≤ 9 := by rw [← htx, ByteArray.size_append, ByteArray.size_append]; have : (⟨#[112]⟩ : ByteArray).size = 1 := rfl; have : (⟨#[10]⟩ : ByteArray).size = 1 := rfl; omega
          rw [htx, hnm] at HTK
          go_wp2_with fail
          refine ((HA _).out).mono ?_
          rintro e wr' ⟨rfl, hw'⟩
          obtain rfl := hw'.symm
          go_wp2_with fail
          refine ((HA _).out).mono ?_
          rintro e wr' ⟨rfl, hw'⟩
          obtain rfl := hw'.symm
          go_wp2_with (at_builtin; refine append_kw elT w.heap.size _ k (flatF (deepFiles M T k)) (HO.out.alloc _) wr.heap.size [.string nm, .string tx] rfl (.tmp 51) (.tmp 57) rfl rfl rfl rfl (newsT rfl) (onesT _ _) (by omega) ?_ ?_)
          · have := HX.out.size; simp; omega
          intro v' w3 hown3 hgr3 hv3 hwh3
          have HR := Lib.hid (show w3.ownsRow w.heap.size 42 2 v' (k + 1) (flatF (deepFiles M T (k + 1))) ∧ Ext w w3 from ⟨by rw [HTK.out]; exact hown3, (HX.out.alloc _).grown hgr3 (by have := HX.out.size; simp; omega) (own_block_ge_k HO.out)⟩)
          clear hown3 hgr3 hv3 hwh3
          go_wp2_with fail
          go_roundw
          case rel => exact ⟨k + 1, by omega, by go_num, HR.out.1, HR.out.2⟩
          case measure => simp [intOf] <;> omega
    · obtain rfl : k = M := by omega
      have hTA : TextsAt wr u7 (deepFiles k T k) := TextsAt.of_owns (by rw [deep_len]; exact ho)
      have HFS : ∀ f ∈ deepFiles k T k, f.1.size ≤ maxLen ∧ f.2.size < 4294967281 := fun f hf => by
        have := deep_sizes k T k (by omega) T10 f hf
        unfold maxLen; omega
      have en : (⟨#[102, 48]⟩ : ByteArray).toList = [102, 48] := toList_mk _
      have nlt : decide ((k : Int) < (k : Int)) = false := by simp
      cases hr : parseL (fsL (deepFiles k T k)) (⟨#[102, 48]⟩ : ByteArray).toList with
      | error j =>
        have HP := Lib.hid (parse_err hr hTA HFS (by decide) (E.ext hx))
        rw [en] at hr
        have hcase := deep_err M1 M8 T10 hr
        clear hr hTA HFS ho HO
        go_wp2_with fail
        refine (HP.out).mono ?_
        rintro e w1 ⟨rfl, hj, x1⟩
        have X1 := HX.out.trans x1
        rcases hcase with ⟨q1, rfl⟩ | ⟨q1, q2, rfl⟩
        · go_wp2_with fail
          refine (W _ (E.ext X1)).out.mono ?_
          rintro e wr1 ⟨rfl, xr1⟩
          have Xr1 := X1.trans xr1
          have XE := Xr1
          go_wp2_with fail
          go_ret
          exact ⟨rfl, Xr1⟩
        · go_wp2_with fail
          refine (W _ (E.ext X1)).out.mono ?_
          rintro e wr1 ⟨rfl, xr1⟩
          have Xr1 := X1.trans xr1
          have XE := Xr1
          go_wp2_with fail
          go_ret
          exact ⟨rfl, Xr1⟩
      | ok ts =>
        have HP := Lib.hid (parse_ok hr hTA HFS (by decide) (E.ext hx))
        rw [en] at hr
        obtain ⟨q1, q2, q3, q4⟩ := deep_ok M1 M8 T10 hr
        have HQ := Lib.hid q4
        clear hr hTA HFS ho HO q4
        go_wp2_with fail
        refine (HP.out).mono ?_
        rintro e w1 ⟨ll, rfl, HL, x1⟩
        have X1 := HX.out.trans x1
        have LN := Lib.hid (len_at HL.out (by omega))
        rw [q3] at LN
        go_wp2_with fail
        refine (LN.out).mono ?_
        rintro e w2 ⟨rfl, x2⟩
        have X2 := X1.trans x2
        have HL2 := Lib.hid (HL.out.ext x2)
        clear LN HP
        go_wp2_with fail
        go_loopw [12] (fun iv wr => Hid (∃ i : Nat, i ≤ k ∧ iv = .int .i64 i ∧ Ext w wr ∧ Ext w2 wr)) (fun iv _ => k - (intOf iv).toNat)
        case atStart => exact ⟨0, Nat.zero_le _, rfl, X2, Ext.refl _⟩
        case round =>
          obtain ⟨i, hi, rfl, hx3, hx4⟩ := hrel.out
          clear hrel
          by_cases hik : i < k
          · obtain ⟨b, hb⟩ := HQ.out i hik
            have za := dig_le i (by omega)
            have HA := HI i (by omega)
            have HM := fun {w3} (x : Ext w2 w3) (E : Env w3) => Lib.hid (match_is hb (by have : (⟨#[120, 47, 112]⟩ : ByteArray).size = 3 := rfl; rw [ByteArray.size_append]; omega) (HL2.out.ext x) E)
            clear hb HI HI1
            generalize dig i = a at *
            have H34 := Lib.hid (⟨hx3, hx4⟩ : Ext w _ ∧ Ext w2 _)
            go_wp2_with fail
            refine ((HA _).out).mono ?_
            rintro e wr' ⟨rfl, hw'⟩
            obtain rfl := hw'.symm
            go_wp2_with fail
            refine ((HM H34.out.2 (E.ext H34.out.1)).out).mono ?_
            rintro e w5 ⟨rfl, x5⟩
            have H5 := Lib.hid (⟨H34.out.1.trans x5, H34.out.2.trans x5⟩ : Ext w w5 ∧ Ext w2 w5)
            go_wp2_with fail
            go_roundw
            case rel => exact ⟨i + 1, by omega, by go_num, H5.out.1, H5.out.2⟩
            case measure => simp [intOf] <;> omega
          · obtain rfl : i = k := by omega
            go_wp2_with fail
            refine (W _ (E.ext hx3)).out.mono ?_
            rintro e wr1 ⟨rfl, xr1⟩
            have Xr1 := hx3.trans xr1
            have XE := Xr1
            go_wp2_with fail
            go_ret
            exact ⟨rfl, Xr1⟩

-- BEGUN
set_option maxRecDepth 100000 in
theorem begun {H : Type} {enc : TypeId × Value → H} (W : World) (args : Array Value) (ds : List (DataW H)) (p : List MemPlace) (st : Start enc Rows.ignoreDeepRow.laid Tryd.f9 W args ds p) :
    Calls Tryd.prog 9 args W fun e W' => e = .returned (.bool true) ∧ Below W.heap.size W W' := by
  obtain ⟨⟨base, hval⟩, hA, hfit, hl, hsh⟩ := st
  rw [Tryd.params9] at hA hval hfit
  obtain ⟨v0, v1, d0, d1, p0, p1, rfl, rfl, rfl, h0, h1⟩ := trodAll_two hA
  obtain ⟨c, rfl, rfl, rfl, hc⟩ := open_int (show Tryd.prog.underlying 5 = some (.int .u8) by kernel_rfl) (hval 0 5 v0 rfl rfl) h0
  obtain ⟨d, rfl, rfl, rfl, hd⟩ := open_int (show Tryd.prog.underlying 5 = some (.int .u8) by kernel_rfl) (hval 1 5 v1 rfl rfl) h1
  obtain ⟨c0, c1⟩ : IntKind.u8.min ≤ c ∧ c ≤ IntKind.u8.max := by
    unfold Lit.wf at hc
    rw [Bool.and_eq_true, decide_eq_true_eq, decide_eq_true_eq] at hc
    exact hc
  obtain ⟨e0, e1⟩ : IntKind.u8.min ≤ d ∧ d ≤ IntKind.u8.max := by
    unfold Lit.wf at hd
    rw [Bool.and_eq_true, decide_eq_true_eq, decide_eq_true_eq] at hd
    exact hd
  exact walk c d W c0 c1 e0 e1 (env_of hsh)

set_option maxRecDepth 100000 in
theorem said : Rows.IgnoreDeepSaid :=
  OpenClaim.holds_of_wide 9 Tryd.f9 rfl rfl rfl rfl rfl rfl rfl ⟨rfl, rfl, rfl, rfl, rfl⟩ rfl rfl rfl rfl rfl (by kernel_rfl) Tryd.func9 (by kernel_rfl)
    (of_decide_eq_true (by kernel_rfl)) (by unfold Func.isWrapper; first | (rw [if_pos (by decide +kernel)]; kernel_rfl) | (rw [if_neg (by decide +kernel)]; exact ⟨rfl, rfl⟩))
    (fun os started H enc _ => lifted Rows.ignoreDeepRow.laid (by kernel_rfl) 9 Tryd.f9 Tryd.func9 Rows.ignoreDeepSpec rfl (by kernel_rfl) (by kernel_rfl)
      (by rw [Tryd.params9]
          have hall : ([5, 5].all fun t => Tryd.prog.readableRec t && decide (t < Tryd.prog.types.size)) = true := by kernel_rfl
          intro t ht
          have := List.all_eq_true.1 hall t ht
          simpa using this)
      (by intro H ts ds h hl; rw [Tryd.params9] at h; subst h
          match ds, hl with
          | [d1, d2], _ => rfl)
      Rows.ignoreDeepRow.domain os started H enc #[.int .u8 0, .int .u8 0] (by kernel_rfl) (by kernel_rfl) (by kernel_rfl)
      (World.shaped_of_ZipB (by kernel_rfl) (by kernel_rfl)) (laidMet_laidAll _ (by kernel_rfl) (by kernel_rfl))
      begun)

theorem card : Rows.IgnoreDeepCardSaid :=
  Claim7.holds_tied_plain_at .later [] Rows.ignoreDeepCard.laidKinds true Rows.ignoreDeepCard.stood.harness false said (fun _ h => by cases h) (by kernel_rfl) (fun _ h => by cases h) ignoreDeep_row_tie rfl ⟨rfl, rfl⟩ (by kernel_rfl) rfl
    (fun f fn hf hfn => by
      obtain rfl : f = 9 := Option.some.inj ((show Tryd.prog.funcNamed Rows.ignoreDeepRow.func = some 9 by kernel_rfl).symm.trans hf) |>.symm
      obtain rfl : fn = Tryd.f9 := (Option.some.inj (Tryd.func9.symm.trans hfn)).symm
      exact ⟨by kernel_rfl, fun j t ht => by
        rw [Tryd.params9] at ht
        have hm : t ∈ [5, 5] := by simpa using Array.mem_of_getElem? ht
        have hall : ([5, 5].all fun u => !Tryd.prog.wantsStandIn u) = true := by kernel_rfl
        exact (show Tryd.prog.wantsStandIn t = false by simpa using List.all_eq_true.1 hall t hm)⟩)
    (by kernel_rfl)
#print axioms card
end Go.Proofs.YtlabhbeacogfbaaDoor.lawIgnoreDeep
