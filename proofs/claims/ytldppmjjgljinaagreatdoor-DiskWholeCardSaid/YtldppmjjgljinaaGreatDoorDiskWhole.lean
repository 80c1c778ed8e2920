/- DiskWhole: whatever is done to a disk (at most 60 acts), every node has a directory for its parent, all paths may be and rise, and what is used is what the nodes use, within the room: the statement DiskWholeCardSaid, with no condition of its own. -/
import Derived.Test.YtldppmjjgljinaaGreatDoorPathEnv
import Derived.Test.YtldppmjjgljinaaGreatDoorActs
import Derived.Test.YtldppmjjgljinaaGreatDoorLawDkG
import Derived.Test.YtldppmjjgljinaaGreatDoorDiskWholeF
namespace Go.Proofs.YtldppmjjgljinaaGreatDoor.lawDiskWhole
open Go.ChangeShapes Go.WideShapes Go.ChangeAt Go.RowKit
open Go.ChangeMaps (open_string)

set_option maxRecDepth 100000 in
set_option maxHeartbeats 4000000 in
theorem walk (v : Value) (l : List ActR) (w : World) (hA : ActsIn w v l) (E : Env w) : Calls Tryz.prog 4 #[v] w fun e w' => e = .returned (.bool true) ∧ Below w.heap.size w w' := by
  have HLg := Lib.hid (llarge_any hA 60 (by decide))
  have AW := fun w1 (x : Ext w w1) => Lib.hid (awake_any w1 (E.ext x))
  cases hlg : largeB l 60 with
  | true =>
    rw [hlg] at HLg
    clear hA hlg E
    go_enter Tryz.func4, Tryz.ntmps4
    go_wp2_with fail
    refine HLg.out.mono ?_
    rintro e w1 ⟨rfl, x1⟩
    have HX1 := Lib.hid x1
    clear x1
    go_wp2_with fail
    refine (AW _ HX1.out).out.mono ?_
    rintro e w2 ⟨rfl, x2⟩
    have HX2 := Lib.hid (HX1.out.trans x2)
    clear x2
    go_wp2_with fail
    go_ret
    exact ⟨rfl, HX2.out⟩
  | false =>
    rw [hlg] at HLg
    obtain ⟨hl60, hfit⟩ := large_not hlg
    have HPl := fun w1 (x : Ext w w1) => Lib.hid (play_many (Things.start x) E hA hfit hl60)
    have R : DkRun 60 (playD k16 l) := by
      have := run_take kr16 hA l.length
      rw [List.take_length] at this
      exact this.mono (by omega)
    have HR := Lib.hid R
    have HE := Lib.hid E
    clear hA hlg E hfit hl60 R
    generalize playD k16 l = D at *
    have hlen := live_few HR.out
    have hused := HR.out.ok.live.used
    have hr2 := HR.out.ok.r2
    have HT := Lib.hid HR.out.ok.live
    obtain ⟨N, hN⟩ : ∃ N, N = D.live.length := ⟨_, rfl⟩
    have HL := Lib.hid hN
    rw [← hN] at hlen
    clear hN
    go_enter Tryz.func4, Tryz.ntmps4
    go_wp2_with fail
    refine HLg.out.mono ?_
    rintro e w1 ⟨rfl, x1⟩
    have HX1 := Lib.hid x1
    clear x1
    go_wp2_with fail
    refine (HPl _ HX1.out).out.mono ?_
    rintro e w2 ⟨d, rfl, hT2⟩
    have HP := Lib.hid (paths_own (A := []) (B := []) hT2.out HR.out.ok)
    rw [← HL.out] at HP
    clear HPl HLg HX1
    go_wp2_with fail
    refine HP.out.mono ?_
    rintro e w3 ⟨a1, c1, rfl, hc1, hc1', HO1, x3⟩
    have HT3 := Lib.hid (hT2.out.ext x3)
    clear x3 hT2 HP
    go_wp2_with fail
    go_loopw [5, 6] (fun uv iv wr => Hid (∃ k : Nat, k ≤ N ∧ iv = .int .i64 k ∧ uv = .int .i64 (usedL (D.live.take k) : Nat) ∧ Ext w3 wr)) (fun _ iv _ => N - (intOf iv).toNat)
    case atStart => exact ⟨0, Nat.zero_le _, rfl, by simp [usedL], Ext.refl _⟩
    case round =>
      obtain ⟨k, hk, rfl, rfl, hx⟩ := hrel.out
      clear hrel
      have HX := Lib.hid hx
      by_cases hlt : k < N
      · obtain ⟨y, hy⟩ : ∃ y, D.live[k]? = some y := ⟨_, List.getElem?_eq_getElem (by have := HL.out; omega)⟩
        obtain ⟨g1, rfl, ck⟩ := (HO1.out.ext hx).get _ _ _ rfl k y.1 (by rw [List.getElem?_map, hy]; rfl)
        obtain ⟨f1, f2, f3⟩ := HT.out.at hy
        obtain ⟨r1, r2⟩ := read_at HR.out hy
        have HRd := fun w' (x : Ext wr w') p (hp : p.size < 4294967281) => Lib.hid (read_many (A := []) (B := []) (HT3.out.ext (hx.trans x)) (HE.out.ext (HT3.out.ext (hx.trans x)).is_ext) p hp)
        have HRa := HRd wr (Ext.refl _) y.1 (by omega)
        rw [r1] at HRa
        have HPa := fun w' (x : Ext wr w') => Lib.hid (parent_any y.1 w' (by omega) (HE.out.ext (HT3.out.ext (hx.trans x)).is_ext))
        rw [parentR_may f2, f2] at HPa
        have hut := usedL_take hy
        have hule := usedL_take_le D.live (k + 1)
        have HS := Lib.hid (fun (p : ByteArray × Nd) (hp : 0 < k) (h : D.live[k - 1]? = some p) => HT.out.sorted.next h (by rw [Nat.sub_add_cancel hp]; exact hy))
        have HK := Lib.hid f3
        obtain ⟨s, kd, dt, tg, tm⟩ := y
        simp only [nv] at HRa HPa ck hut HS HK
        have HRP := Lib.hid (show ∃ m f, readE D.live (parentS s) = (m, f) ∧ ((parentS s).toList.isEmpty = false → f = 0 ∧ m.kind = 2) from by
          cases hem : (parentS s).toList.isEmpty with
          | true => exact ⟨_, _, rfl, fun h => by cases h⟩
          | false =>
            obtain ⟨o, e1, e2⟩ := kindAt_two HK.out hem
            have := HT.out.find_may e1
            exact ⟨o, 0, by unfold readE; rw [if_pos this, e1], fun _ => ⟨rfl, e2⟩⟩)
        have hups : (parentS s).size ≤ 160 := Nat.le_trans (parentS_le s) (by omega)
        have HPrev := Lib.hid (show 0 < k → ∃ p : ByteArray × Nd, D.live[k - 1]? = some p ∧ p.1.size ≤ 160 ∧ wr.cell? ⟨g1, k - 1, none⟩ = some (.string p.1) ∧ cmpL p.1.toList s.toList = -1 from fun h0 => by
          obtain ⟨p, hp⟩ : ∃ p, D.live[k - 1]? = some p := ⟨_, List.getElem?_eq_getElem (by have := HL.out; omega)⟩
          obtain ⟨g2, e2, ck2⟩ := (HO1.out.ext hx).get _ _ _ rfl (k - 1) p.1 (by rw [List.getElem?_map, hp]; rfl)
          cases e2
          exact ⟨p, hp, (read_at HR.out hp).2, ck2, HS.out p h0 hp⟩)
        clear r1 f1 f2 f3 hx hy HS HK
        obtain ⟨⟨mk, md, mt, mtm⟩, f, hrd, hrd2⟩ := HRP.out
        have HRb := fun w' (x : Ext wr w') => HRd w' x (parentS s) (by omega)
        rw [hrd] at HRb
        simp only [nv] at HRb
        clear HRd hrd HRP
        have hbnd : usedL (D.live.take k) + (64 + dt.size) ≤ 1048576 := by omega
        have HUT := Lib.hid hut
        clear hut hule
        generalize parentS s = up at *
        obtain ⟨U, hU⟩ : ∃ U, U = usedL (D.live.take k) := ⟨_, rfl⟩
        have HU := Lib.hid hU
        rw [← hU] at hbnd ⊢
        clear hU
        have q1 : IntKind.i64.wrap ((U : Int) + 64) = (U : Int) + 64 := IntWalk.i64_in _ (by omega)
        have q2 : IntKind.i64.wrap ((U : Int) + 64 + (dt.size : Int)) = (U : Int) + 64 + (dt.size : Int) := IntWalk.i64_in _ (by omega)
        go_wp2_with fail
        refine HRa.out.mono ?_
        rintro e w4 ⟨rfl, x4⟩
        have X5 := Lib.hid (x4.alloc (.cells #[.int .i64 kd, .string dt, .string tg, .int .i64 tm] 57))
        have hn0 := heap_alloc_new w4 (.cells #[.int .i64 kd, .string dt, .string tg, .int .i64 tm] 57)
        have ck := (X5.out.cell (lt_of_cell ck)).trans ck
        clear x4
        go_wp2_with fail
        refine (HPa _ X5.out).out.mono ?_
        rintro e w6 ⟨rfl, x6⟩
        have X6 := Lib.hid (X5.out.trans x6)
        have hn1 := (x6.block (ltB hn0)).trans hn0
        have ck := (x6.cell (lt_of_cell ck)).trans ck
        clear x6 hn0 HRa HPa
        go_wp2_with fail
        rcases Nat.eq_zero_or_pos k with hk0 | hk0
        · subst hk0
          refine wp_region_after (by kernel_rfl) (by kernel_rfl) ?_
          repeat (go_big_quiet_step (fail))
          refine wpQuiet_nil ?_
          rintro _ ⟨y, rfl⟩
          have X7 := Lib.hid (X6.out.trans y.x)
          have hn1 := (y.x.block (ltB hn1)).trans hn1
          clear ck
          go_wp2_with fail
          refine (HRb _ X7.out).out.mono ?_
          rintro e w8 ⟨rfl, x8⟩
          have X9 := Lib.hid ((X7.out.trans x8).alloc (.cells #[.int .i64 mk, .string md, .string mt, .int .i64 mtm] 57))
          have hn1 := (block_alloc_old (o := .cells #[.int .i64 mk, .string md, .string mt, .int .i64 mtm] 57) (ltB ((x8.block (ltB hn1)).trans hn1))).trans ((x8.block (ltB hn1)).trans hn1)
          have cd := cellB (k := 1) hn1
          clear x8 hn1 HRb
          cases hem : up.toList.isEmpty with
          | true =>
            have hem2 : (!up.toList.isEmpty) = false := by rw [hem]; rfl
            go_wp2_with fail
            go_roundw
            case rel => exact ⟨1, by omega, by go_num, by rw [HUT.out, ← HU.out]; congr 1; omega, HX.out.trans X9.out⟩
            case measure => simp [intOf] <;> omega
          | false =>
            have hem2 : (!up.toList.isEmpty) = true := by rw [hem]; rfl
            obtain ⟨rfl, hmk⟩ := hrd2 hem
            have hmk : mk = 2 := hmk
            subst hmk
            go_wp2_with fail
            go_roundw
            case rel => exact ⟨1, by omega, by go_num, by rw [HUT.out, ← HU.out]; congr 1; omega, HX.out.trans X9.out⟩
            case measure => simp [intOf] <;> omega
        · obtain ⟨⟨ps, pn⟩, _, hps, cp, hcp⟩ := HPrev.out hk0
          have hps : ps.size ≤ 160 := hps
          have cp : wr.cell? ⟨g1, k - 1, none⟩ = some (.string ps) := cp
          have hcp : cmpL ps.toList s.toList = -1 := hcp
          have cp := (X6.out.cell (lt_of_cell cp)).trans cp
          have q0 : decide ((0 : Int) < (k : Int)) = true := by rw [decide_eq_true_eq]; omega
          have HC := fun w' => Lib.hid (cmp_any ps s w' (by unfold maxLen; omega) (by unfold maxLen; omega))
          rw [hcp] at HC
          have c1 := After.cell ck
          have c2a := After.cell cp
          rw [show k - 1 = ((k : Int) - 1).toNat from by omega] at cp
          have c2 := After.cell cp
          have b1 : (0 : Int) ≤ (k : Int) - 1 := by omega
          have b2 : (k : Int) - 1 < (N : Int) := by omega
          have b3 : (1 : Int) ≤ (k : Int) := by omega
          have q4 : IntKind.i64.wrap ((k : Int) - 1) = (k : Int) - 1 := IntWalk.i64_in _ (by omega)
          refine wp_region_after (by kernel_rfl) (by kernel_rfl) ?_
          repeat (go_big_quiet_step (exact After.of (HC _).out))
          refine wpQuiet_nil ?_
          rintro _ ⟨y, rfl⟩
          have X7 := Lib.hid (X6.out.trans y.x)
          have hn1 := (y.x.block (ltB hn1)).trans hn1
          clear ck
          go_wp2_with fail
          refine (HRb _ X7.out).out.mono ?_
          rintro e w8 ⟨rfl, x8⟩
          have X9 := Lib.hid ((X7.out.trans x8).alloc (.cells #[.int .i64 mk, .string md, .string mt, .int .i64 mtm] 57))
          have hn1 := (block_alloc_old (o := .cells #[.int .i64 mk, .string md, .string mt, .int .i64 mtm] 57) (ltB ((x8.block (ltB hn1)).trans hn1))).trans ((x8.block (ltB hn1)).trans hn1)
          have cd := cellB (k := 1) hn1
          clear x8 hn1 HRb
          cases hem : up.toList.isEmpty with
          | true =>
            have hem2 : (!up.toList.isEmpty) = false := by rw [hem]; rfl
            go_wp2_with fail
            go_roundw
            case rel => exact ⟨k + 1, by omega, by go_num, by rw [HUT.out, ← HU.out]; congr 1; omega, HX.out.trans X9.out⟩
            case measure => simp [intOf] <;> omega
          | false =>
            have hem2 : (!up.toList.isEmpty) = true := by rw [hem]; rfl
            obtain ⟨rfl, hmk⟩ := hrd2 hem
            have hmk : mk = 2 := hmk
            subst hmk
            go_wp2_with fail
            go_roundw
            case rel => exact ⟨k + 1, by omega, by go_num, by rw [HUT.out, ← HU.out]; congr 1; omega, HX.out.trans X9.out⟩
            case measure => simp [intOf] <;> omega
      · obtain rfl : k = N := by omega
        have nlt : decide ((k : Int) < (k : Int)) = false := by simp
        have HTK := Lib.hid (show D.live.take k = D.live from by rw [HL.out, List.take_length])
        rw [HTK.out]
        have HU := fun w' (x : Ext wr w') => Lib.hid (used_many (A := []) (B := []) (HT3.out.ext (hx.trans x)))
        have HRo := fun w' (x : Ext wr w') => Lib.hid (room_many (A := []) (B := []) (HT3.out.ext (hx.trans x)))
        have HXE := Lib.hid (HT3.out.is_ext.trans hx)
        have d1 : decide ((usedL D.live : Int) ≤ (D.room : Int)) = true := by rw [decide_eq_true_eq]; omega
        clear hx
        generalize usedL D.live = U at *
        generalize D.room = RM at *
        go_wp2_with fail
        refine (HU _ (Ext.refl _)).out.mono ?_
        rintro e w8 ⟨rfl, hw⟩
        obtain rfl := hw.symm
        clear hw
        go_wp2_with fail
        refine (HRo _ (Ext.refl _)).out.mono ?_
        rintro e w8 ⟨rfl, hw⟩
        obtain rfl := hw.symm
        clear hw
        go_wp2_with fail
        refine (AW _ HXE.out).out.mono ?_
        rintro e w9 ⟨rfl, x9⟩
        have HX9 := Lib.hid (HXE.out.trans x9)
        clear x9
        go_wp2_with fail
        go_ret
        exact ⟨rfl, HX9.out⟩

-- BEGUN
set_option maxRecDepth 100000 in
theorem begun {H : Type} {enc : TypeId × Value → H} (W : World) (args : Array Value) (ds : List (DataW H)) (p : List MemPlace) (st : Start enc Rows.diskWholeRow.laid Tryz.f4 W args ds p) :
    Calls Tryz.prog 4 args W fun e W' => e = .returned (.bool true) ∧ Below W.heap.size W W' := by
  obtain ⟨⟨base, hval⟩, hA, hfit, hl, hsh⟩ := st
  rw [Tryz.params4] at hA hval hfit
  obtain ⟨v0, d0, rfl, rfl, h0⟩ := trodAll_one hA
  have hfit : ((DataW.weightsEach Tryz.prog [51] [d0]).all (· ≤ reachBytes)) = true := hfit
  simp only [DataW.weightsEach, List.append_nil] at hfit
  obtain ⟨l, hl2⟩ := open_acts (hval 0 51 v0 rfl rfl) h0 hfit
  exact walk v0 l W hl2 (env_of hsh)

set_option maxRecDepth 100000 in
theorem said : Rows.DiskWholeSaid :=
  OpenClaim.holds_of_wide 4 Tryz.f4 rfl rfl rfl rfl rfl rfl rfl ⟨rfl, rfl, rfl, rfl, rfl⟩ rfl rfl rfl rfl rfl named Tryz.func4 facts
    (of_decide_eq_true (by kernel_rfl)) (by unfold Func.isWrapper; first | (rw [if_pos (by decide +kernel)]; kernel_rfl) | (rw [if_neg (by decide +kernel)]; exact ⟨rfl, rfl⟩))
    (fun os started H enc _ => lifted Rows.diskWholeRow.laid (by kernel_rfl) 4 Tryz.f4 Tryz.func4 Rows.diskWholeSpec rfl (by kernel_rfl) (by kernel_rfl)
      (by rw [Tryz.params4]
          have hall : ([51].all fun t => Tryz.prog.readableRec t && decide (t < Tryz.prog.types.size)) = true := by kernel_rfl
          intro t ht
          have := List.all_eq_true.1 hall t ht
          simpa using this)
      (by intro H ts ds h hl; rw [Tryz.params4] at h; subst h
          match ds, hl with
          | [d1], _ => rfl)
      Rows.diskWholeRow.domain os started H enc #[.slice none 0 0] (by kernel_rfl) (by kernel_rfl) (by kernel_rfl)
      (World.shaped_of_ZipB (by kernel_rfl) (by kernel_rfl)) (laidMet_laidAll _ (by kernel_rfl) (by kernel_rfl))
      begun)

theorem card : Rows.DiskWholeCardSaid :=
  Claim7.holds_tied_plain_at .later [] Rows.diskWholeCard.laidKinds true Rows.diskWholeCard.stood.harness Rows.diskWholeCard.stood.looks said (fun _ h => by cases h) (by kernel_rfl) (fun _ h => by cases h) diskWhole_row_tie rfl ⟨rfl, rfl⟩ (by kernel_rfl) rfl
    (fun f fn hf hfn => by
      obtain rfl : f = 4 := Option.some.inj ((show Tryz.prog.funcNamed Rows.diskWholeRow.func = some 4 by kernel_rfl).symm.trans hf) |>.symm
      obtain rfl : fn = Tryz.f4 := (Option.some.inj (Tryz.func4.symm.trans hfn)).symm
      exact ⟨by kernel_rfl, fun j t ht => by
        rw [Tryz.params4] at ht
        have hm : t ∈ [51] := by simpa using Array.mem_of_getElem? ht
        have hall : ([51].all fun u => !Tryz.prog.wantsStandIn u) = true := by kernel_rfl
        exact (show Tryz.prog.wantsStandIn t = false by simpa using List.all_eq_true.1 hall t hm)⟩)
    (by kernel_rfl)
#print axioms card
end Go.Proofs.YtldppmjjgljinaaGreatDoor.lawDiskWhole
