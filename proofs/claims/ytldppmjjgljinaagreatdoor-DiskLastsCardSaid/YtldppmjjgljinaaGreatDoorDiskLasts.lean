/- DiskLasts: behind Sync no crash changes anything, a crash without picks leads back to what lasted, and one of picks that are all 1 leaves the tree: the statement DiskLastsCardSaid, with no condition of its own. -/
import Derived.Test.YtldppmjjgljinaaGreatDoorPathEnv
import Derived.Test.YtldppmjjgljinaaGreatDoorActs
import Derived.Test.YtldppmjjgljinaaGreatDoorLawDkG
import Derived.Test.YtldppmjjgljinaaGreatDoorDiskLastsF
namespace Go.Proofs.YtldppmjjgljinaaGreatDoor.lawDiskLasts
open Go.ChangeShapes Go.WideShapes Go.ChangeAt Go.RowKit
open Go.ChangeMaps (open_string)

set_option maxRecDepth 100000 in
set_option maxHeartbeats 8000000 in
theorem walk (v1 v2 v3 : Value) (l1 l2 : List ActR) (ks : List UInt8) (w : World) (hA1 : ActsIn w v1 l1) (hA2 : ActsIn w v2 l2) (hB : BytesIn w v3 ks) (E : Env w) : Calls Tryz.prog 5 #[v1, v2, v3] w fun e w' => e = .returned (.bool true) ∧ Below w.heap.size w w' := by
  have HLg := Lib.hid (llarge_any hA1 40 (by decide))
  have HLg2 := fun w1 (x : Ext w w1) => Lib.hid (llarge_any (hA2.ext x) 40 (by decide))
  have AW := fun w1 (x : Ext w w1) => Lib.hid (awake_any w1 (E.ext x))
  cases hlg : largeB l1 40 with
  | true =>
    rw [hlg] at HLg
    clear hA1 hA2 hB hlg E HLg2
    go_enter Tryz.func5, Tryz.ntmps5
    go_wp2_with fail
    refine HLg.out.mono ?_
    rintro e w1 ⟨rfl, x1⟩
    have HX1 := Lib.hid x1
    clear x1
    go_wp2_with fail
    refine (AW _ HX1.out).out.mono ?_
    rintro e w2 ⟨rfl, x2⟩
    have HX2 := Lib.hid (HX1.out.trans x2)
    clear x2
    go_wp2_with fail
    go_ret
    exact ⟨rfl, HX2.out⟩
  | false =>
  rw [hlg] at HLg
  cases hlg2 : largeB l2 40 with
  | true =>
    rw [hlg2] at HLg2
    clear hA1 hA2 hB hlg hlg2 E
    go_enter Tryz.func5, Tryz.ntmps5
    go_wp2_with fail
    refine HLg.out.mono ?_
    rintro e w1 ⟨rfl, x1⟩
    have HX1 := Lib.hid x1
    clear x1
    go_wp2_with fail
    refine (HLg2 _ HX1.out).out.mono ?_
    rintro e w2 ⟨rfl, x2⟩
    have HX2 := Lib.hid (HX1.out.trans x2)
    clear x2
    go_wp2_with fail
    refine (AW _ HX2.out).out.mono ?_
    rintro e w3 ⟨rfl, x3⟩
    have HX3 := Lib.hid (HX2.out.trans x3)
    clear x3
    go_wp2_with fail
    go_ret
    exact ⟨rfl, HX3.out⟩
  | false =>
  rw [hlg2] at HLg2
  obtain ⟨hl40, hfit⟩ := large_not hlg
  obtain ⟨hm40, hfit2⟩ := large_not hlg2
  have HPl := fun w1 (x : Ext w w1) => Lib.hid (play_many (Things.start x) E hA1 hfit (by omega))
  have R : DkRun 40 (playD k16 l1) := by
    have := run_take kr16 hA1 l1.length
    rw [List.take_length] at this
    exact this.mono (by omega)
  have HE := Lib.hid E
  have HB := Lib.hid hB
  have HLong := Lib.hid (long_all hA2)
  obtain ⟨a2, c2, rfl, hl1, hl2, hcell⟩ := hA2
  unfold maxLen at hl2
  have HC := Lib.hid hcell
  have HF := Lib.hid (show ActsFit l2 from hfit2)
  obtain ⟨b3, c3, rfl, hk1, hk2, _, _⟩ := id hB
  obtain ⟨n, hn⟩ : ∃ n, n = l2.length := ⟨_, rfl⟩
  have HL := Lib.hid hn
  rw [← hn] at hl1 hm40 HLg2 ⊢
  have HAin := Lib.hid hA1
  obtain ⟨a1, c1, rfl, _, _, _⟩ := id hA1
  have HS0 := Lib.hid R
  generalize playD k16 l1 = D0 at *
  obtain ⟨D1, hD1⟩ : ∃ D1, D1 = if D0.off then D0.crash [] else D0 := ⟨_, rfl⟩
  have hoff1 : D1.off = false := by
    rw [hD1]
    cases h : D0.off with
    | true => rfl
    | false => rw [if_neg (by decide)]; exact h
  have R1 : DkRun 41 D1 := by
    rw [hD1]
    split
    · exact R.crash []
    · exact R.mono (by omega)
  obtain ⟨D2, hD2⟩ : ∃ D2, D2 = { D1 with lasts := D1.live, log := [], left := D1.left - 1 } := ⟨_, rfl⟩
  have hs2 : D1.sync = (0, D2) := by rw [hD2]; exact sync_on hoff1
  have R2 : DkRun 42 D2 := by
    have := R1.sync
    rw [hs2] at this
    exact this
  have hll2 : D2.lasts = D2.live := by rw [hD2]
  have hlog2 : D2.log = [] := by rw [hD2]
  obtain ⟨D3, hD3⟩ : ∃ D3, D3 = D2.crash ks := ⟨_, rfl⟩
  have R3 : DkRun 43 D3 := by rw [hD3]; exact R2.crash ks
  have hl3 : D3.live = D2.live := by rw [hD3]; show crashL _ _ _ _ = _; rw [hlog2, crash_none, hll2]
  have hl3' : D3.lasts = D2.live := hl3 ▸ (show D3.lasts = D3.live from by rw [hD3]; rfl)
  have RK : ∀ k, DkRun (43 + k) (softD D3 (l2.take k)) := fun k => by
    refine (DkRun.soft (l2.take k) R3 fun a ha => HLong.out a (List.mem_of_mem_take ha)).mono ?_
    rw [List.length_take]; omega
  have hlK : ∀ k, (softD D3 (l2.take k)).lasts = D2.live := fun k => (softD_lasts _ _).trans hl3'
  have HR := Lib.hid (show DkRun 41 D1 ∧ DkRun 42 D2 ∧ DkRun 43 D3 ∧ (∀ k, DkRun (43 + k) (softD D3 (l2.take k))) from ⟨R1, R2, R3, RK⟩)
  have HQ := Lib.hid (show D1.sync = (0, D2) ∧ D2.crash ks = D3 ∧ D3.live = D2.live ∧ (∀ k, (softD D3 (l2.take k)).lasts = D2.live) ∧ D2.log = [] from ⟨hs2, hD3.symm, hl3, hlK, hlog2⟩)
  have HD1 := Lib.hid hD1
  clear hA1 hB E hfit hfit2 hlg hlg2 hcell hn R R1 R2 R3 RK hlK hl3 hl3' hs2 hD1 hD2 hD3 hoff1 hll2 hlog2 hl40
  go_enter Tryz.func5, Tryz.ntmps5
  go_wp2_with fail
  refine HLg.out.mono ?_
  rintro e w1 ⟨rfl, x1⟩
  have HX1 := Lib.hid x1
  clear x1
  go_wp2_with fail
  refine (HLg2 _ HX1.out).out.mono ?_
  rintro e w2 ⟨rfl, x2⟩
  have HX2 := Lib.hid (HX1.out.trans x2)
  clear x2 HX1
  go_wp2_with fail
  refine (HPl _ HX2.out).out.mono ?_
  rintro e w3 ⟨d, rfl, hT3⟩
  have HOff := Lib.hid (off_many (A := []) (B := []) hT3.out)
  have HCr0 := Lib.hid (crash_many (A := []) (B := []) hT3.out (HS0.out.fit (by decide)) HE.out (.slice none 0 0) [] (fun _ _ => picks_nil _ _) rfl)
  clear HPl HLg HLg2 HX2
  obtain ⟨o0, ho0⟩ : ∃ o, o = D0.off := ⟨_, rfl⟩
  rw [← ho0] at HOff HD1
  clear ho0
  rcases o0 with _ | _
  case' false =>
    obtain rfl : D1 = D0 := HD1.out
    go_wp2_with fail
    refine HOff.out.mono ?_
    rintro e w4 ⟨rfl, hw⟩
    obtain rfl := hw.symm
    clear hw HCr0
    have h4 := hT3.out
  case' true =>
    go_wp2_with fail
    refine HOff.out.mono ?_
    rintro e w4 ⟨rfl, hw⟩
    obtain rfl := hw.symm
    clear hw
    go_wp2_with fail
    refine HCr0.out.mono ?_
    rintro e w4 ⟨rfl, h4⟩
    obtain rfl : D1 = D0.crash [] := HD1.out
    generalize D0.crash [] = D1 at *
  all_goals
    have HSy := Lib.hid (sync_many (A := []) (B := []) h4 (HR.out.1.fit (by decide)) HQ.out.1)
    clear h4 HOff HS0 HD1 hT3
    go_wp2_with fail
    refine HSy.out.mono ?_
    rintro e w5 ⟨rfl, h5⟩
    have HPe := Lib.hid (pending_many (A := []) (B := []) h5 (HR.out.2.1.fit (by decide)))
    rw [HQ.out.2.2.2.2] at HPe
    have HCo := Lib.hid (copy_many (A := []) (B := []) h5 (HR.out.2.1.fit (by decide)))
    clear h5 HSy
    go_wp2_with fail
    refine HPe.out.mono ?_
    rintro e w6 ⟨rfl, hw⟩
    obtain rfl := hw.symm
    clear hw HPe
    go_wp2_with fail
    refine HCo.out.mono ?_
    rintro e w6 ⟨c, rfl, h6⟩
    have HCr := Lib.hid (crash_many (A := []) (B := [.disk c D2]) h6 (HR.out.2.1.fit (by decide)) HE.out _ ks (fun M hM => picks_in HB.out h6.is_ext hM) HQ.out.2.1)
    clear h6 HCo
    go_wp2_with fail
    refine HCr.out.mono ?_
    rintro e w7 ⟨rfl, h7⟩
    have HSa := Lib.hid (same_true (A := []) (B := [.disk c D2]) (A' := [.disk d D3]) (B' := []) h7 h7 HE.out HR.out.2.2.1 HR.out.2.1 HQ.out.2.2.1.symm)
    have HT7 := Lib.hid h7
    clear h7 HCr
    go_wp2_with fail
    refine HSa.out.mono ?_
    rintro e w8 ⟨rfl, x8⟩
    have HT8 := Lib.hid (HT7.out.ext x8)
    clear x8 HT7 HSa
    go_wp2_with fail
    go_loopw [9] (fun iv wr => Hid (∃ k : Nat, k ≤ n ∧ iv = .int .i64 k ∧ Things w wr [.disk d (softD D3 (l2.take k)), .disk c D2])) (fun iv _ => n - (intOf iv).toNat)
    case atStart => exact ⟨0, Nat.zero_le _, rfl, HT8.out⟩
    case round =>
      obtain ⟨k, hk, rfl, ht⟩ := hrel.out
      clear hrel HT8
      by_cases hlt : k < n
      · obtain ⟨x, hxk⟩ : ∃ x, l2[k]? = some x := ⟨_, List.getElem?_eq_getElem (by have := HL.out; omega)⟩
        obtain ⟨hok, g, o, pv, rfl, hp, hcs⟩ := HC.out k x hxk
        have HLD := Lib.hid (range_act (x := x) (pv := pv) (o := o + k * 7) (g := g) (w := wr) fun j u hj => (ht.is_ext.cell (lt_of_cell (hcs j u hj))).trans (hcs j u hj))
        have c0 : wr.cell? ⟨g, o + k * 7, none⟩ = some (.int .i64 x.kind) := HLD.out 0 _ rfl
        have HD := Lib.hid (do_many (A := []) (B := [.disk c D2]) ht ((HR.out.2.2.2 k).fit (by omega)) HE.out x (HF.out.at hxk hok) pv hp)
        have HN := Lib.hid (softD_next (D := D3) hxk)
        have HSo := Lib.hid (show ∀ D : Dk, D.softA x = if (decide (1 ≤ x.kind % 16) && decide (x.kind % 16 ≤ 6)) then (D.doA x).2 else D from fun D => rfl)
        have hand := i64_and15 x.kind
        obtain ⟨kk, hkk⟩ : ∃ kk, kk = x.kind % 16 := ⟨_, rfl⟩
        rw [← hkk] at hand HSo
        have HT := Lib.hid ht
        clear ht hok hp hcs hxk hkk
        generalize x.kind = kd at *
        generalize x.p = xp at *
        generalize x.q = xq at *
        generalize x.text = xt at *
        generalize x.long = lg at *
        generalize x.time = tm at *
        by_cases s1 : 1 ≤ kk
        · have d1 : decide (1 ≤ kk) = true := decide_eq_true s1
          by_cases s2 : kk ≤ 6
          · have d2 : decide (kk ≤ 6) = true := decide_eq_true s2
            rw [d1, d2] at HSo
            have HN2 := Lib.hid (HN.out.trans ((HSo.out _).trans (if_pos rfl)))
            rw [← HN2.out] at HD
            clear HN HSo HN2
            go_wp2_with (refine wpList_load_at rfl 69 (.tmp 71) rfl g (o + k * 7) rfl _ _ HLD.out Tryz.underlying69 rfl (by kernel_rfl) ?_; go_frame)
            refine HD.out.mono ?_
            rintro e w9 ⟨rfl, h9⟩
            have HT9 := Lib.hid h9
            clear h9
            go_wp2_with fail
            go_roundw
            case rel => exact ⟨k + 1, by omega, by go_num, HT9.out⟩
            case measure => simp [intOf] <;> omega
          · have d2 : decide (kk ≤ 6) = false := decide_eq_false s2
            rw [d1, d2] at HSo
            have HN2 := Lib.hid (HN.out.trans ((HSo.out _).trans (if_neg (by decide))))
            clear HN HSo HD
            go_wp2_with fail
            go_roundw
            case rel => exact ⟨k + 1, by omega, by go_num, by rw [HN2.out]; exact HT.out⟩
            case measure => simp [intOf] <;> omega
        · have d1 : decide (1 ≤ kk) = false := decide_eq_false s1
          rw [d1, Bool.false_and] at HSo
          have HN2 := Lib.hid (HN.out.trans ((HSo.out _).trans (if_neg (by decide))))
          clear HN HSo HD
          go_wp2_with fail
          go_roundw
          case rel => exact ⟨k + 1, by omega, by go_num, by rw [HN2.out]; exact HT.out⟩
          case measure => simp [intOf] <;> omega
      · obtain rfl : k = n := by omega
        have nlt : decide ((k : Int) < (k : Int)) = false := by simp
        have HTK := Lib.hid (show l2.take k = l2 from by rw [HL.out, List.take_length])
        rw [HTK.out] at ht
        have R4 := HR.out.2.2.2 k
        rw [HTK.out] at R4
        have hl4 := HQ.out.2.2.2.1 k
        rw [HTK.out] at hl4
        generalize softD D3 l2 = D4 at *
        have HR4 := Lib.hid R4
        have HL4 := Lib.hid hl4
        have HCa := Lib.hid (copy_many (A := []) (B := [.disk c D2]) ht (R4.fit (by omega)))
        clear ht R4 hl4
        go_wp2_with fail
        refine HCa.out.mono ?_
        rintro e w9 ⟨ca, rfl, h9⟩
        have HCb := Lib.hid (copy_many (A := []) (B := [.disk c D2, .disk ca D4]) h9 (HR4.out.fit (by omega)))
        clear h9 HCa
        go_wp2_with fail
        refine HCb.out.mono ?_
        rintro e w10 ⟨cb, rfl, h10⟩
        have HT10 := Lib.hid (show Things w w10 [.disk d D4, .disk c D2, .disk ca D4, .disk cb D4] from h10)
        have hsz := h10.is_ext.size
        clear h10 HCb
        obtain ⟨N, hN⟩ : ∃ N, N = D4.log.length := ⟨_, rfl⟩
        have HN4 := Lib.hid hN
        have hN1 : N ≤ 1000 := by have := HR4.out.len; omega
        have HPe := fun wr (x : Ext w10 wr) => Lib.hid (pending_many (A := []) (B := [.disk c D2, .disk ca D4, .disk cb D4]) (HT10.out.ext x) (HR4.out.fit (by omega)))
        rw [← hN] at HPe
        clear hN
        go_wp2_with fail
        go_loopw [13, 14] (fun ov iv wr => Hid (∃ j : Nat, j ≤ N ∧ iv = .int .i64 j ∧ wr.ownsRow w10.heap.size 5 1 ov j ((List.replicate j (1 : UInt8)).map byteV) ∧ Ext w10 wr)) (fun _ iv _ => N - (intOf iv).toNat)
        case atStart => exact ⟨0, Nat.zero_le _, rfl, World.ownsRow_nil _ _ _ _, Ext.refl _⟩
        case round =>
          obtain ⟨j, hj, rfl, ho, hx⟩ := hrel.out
          clear hrel
          have HO := Lib.hid ho
          have HX := Lib.hid hx
          obtain ⟨oa, ocap, rfl, _, hoc1, hoc2, _⟩ := row_slice ho
          unfold maxLen at hoc2
          have hxs := hx.size
          clear ho hx
          by_cases hjl : j < N
          · have HRep := Lib.hid (show (List.replicate (j + 1) (1 : UInt8)).map byteV = (List.replicate j (1 : UInt8)).map byteV ++ [.int .u8 1] from by rw [List.replicate_succ', List.map_append]; rfl)
            go_wp2_with fail
            refine (HPe _ HX.out).out.mono ?_
            rintro e w11 ⟨rfl, hw⟩
            obtain rfl := hw.symm
            clear hw
            go_wp2_with (at_builtin; refine append_one el_byte w10.heap.size _ _ _ (owns_ext HO.out ((Ext.refl _).alloc _)) wr.heap.size (.int .u8 1) (.tmp 84) (.tmp 85) rfl rfl rfl rfl ?c1 rfl (by omega) ?c2 ?_)
            case c1 => rw [cell_alloc_new rfl]; rfl
            case c2 => simp; omega
            intro v4 w12 hown4 hg4 _
            have HR4' := Lib.hid (show w12.ownsRow w10.heap.size 5 1 v4 (j + 1) ((List.replicate (j + 1) (1 : UInt8)).map byteV) ∧ Ext w10 w12 from ⟨by rw [HRep.out, List.map_replicate]; exact hown4, grown_ext (HX.out.alloc _) (Nat.le_refl _) (owns_ext HO.out ((Ext.refl _).alloc _)) hg4⟩)
            clear hown4 hg4
            go_wp2_with fail
            go_roundw
            case rel => exact ⟨j + 1, by omega, by go_num, HR4'.out.1, HR4'.out.2⟩
            case measure => simp [intOf] <;> omega
          · obtain rfl : j = N := by omega
            have njt : decide ((j : Int) < (j : Int)) = false := by simp
            have HPk := Lib.hid (fun (M : List Nat) (hM : ∀ b ∈ M, b < w10.heap.size) => show PicksAt wr M (.slice oa j ocap) (List.replicate j 1) from by
              obtain ⟨a', cap', e, _, _, _, hc⟩ := row_slice HO.out
              cases e
              refine ⟨oa, ocap, by rw [List.length_replicate], by rw [List.length_replicate]; omega, fun i u hu => ?_⟩
              obtain ⟨g, e2, hg1, _, hg2⟩ := hc i (byteV u) (by rw [List.getElem?_map, hu]; rfl)
              exact ⟨g, 0, e2, fun hm => by have := hM g hm; omega, by rw [Nat.zero_add]; exact hg2⟩)
            have HCA := Lib.hid (crash_own (A := [.disk d D4, .disk c D2]) (B := [.disk cb D4]) HT10.out HX.out (HR4.out.fit (by omega)) HE.out _ (List.replicate j 1) HPk.out rfl)
            clear HPk HO
            go_wp2_with fail
            refine (HPe _ HX.out).out.mono ?_
            rintro e w11 ⟨rfl, hw⟩
            obtain rfl := hw.symm
            clear hw
            go_wp2_with fail
            refine HCA.out.mono ?_
            rintro e w12 ⟨rfl, h12⟩
            have hla : (D4.crash (List.replicate j 1)).live = D4.live := by show crashL _ _ _ _ = _; rw [HN4.out]; exact HR4.out.again
            have HRA := Lib.hid (HR4.out.crash (List.replicate j 1))
            have HLA := Lib.hid hla
            have hpa : (D4.crash (List.replicate j 1)).log.length = 0 := rfl
            generalize D4.crash (List.replicate j 1) = DA at *
            have HCB := Lib.hid (crash_many (A := [.disk d D4, .disk c D2, .disk ca DA]) (B := []) h12 (HR4.out.fit (by omega)) HE.out (.slice none 0 0) [] (fun _ _ => picks_nil _ _) rfl)
            clear h12 HCA hla
            go_wp2_with fail
            refine HCB.out.mono ?_
            rintro e w13 ⟨rfl, h13⟩
            have hlb : (D4.crash []).live = D2.live := by show crashL _ _ _ _ = _; rw [crash_nil]; exact HL4.out
            have HRB := Lib.hid (HR4.out.crash [])
            generalize D4.crash [] = DB at *
            have HT13 := Lib.hid (show Things w w13 [.disk d D4, .disk c D2, .disk ca DA, .disk cb DB] from h13)
            have HSA := Lib.hid (same_true (A := [.disk d D4, .disk c D2]) (B := [.disk cb DB]) (A' := []) (B' := [.disk c D2, .disk ca DA, .disk cb DB]) HT13.out HT13.out HE.out HRA.out HR4.out HLA.out.symm)
            have HSB := fun w' (x : Ext w13 w') => Lib.hid (same_true (A := [.disk d D4, .disk c D2, .disk ca DA]) (B := []) (A' := [.disk d D4]) (B' := [.disk ca DA, .disk cb DB]) (HT13.out.ext x) (HT13.out.ext x) HE.out HRB.out HR.out.2.1 hlb.symm)
            have HPA := fun w' (x : Ext w13 w') => Lib.hid (pending_many (A := [.disk d D4, .disk c D2]) (B := [.disk cb DB]) (HT13.out.ext x) (HRA.out.fit (by omega)))
            rw [hpa] at HPA
            clear h13 HCB hlb hpa
            go_wp2_with fail
            refine HSA.out.mono ?_
            rintro e w14 ⟨rfl, x14⟩
            have HX14 := Lib.hid x14
            clear x14 HSA
            go_wp2_with fail
            refine (HSB _ HX14.out).out.mono ?_
            rintro e w15 ⟨rfl, x15⟩
            have HX15 := Lib.hid (HX14.out.trans x15)
            clear x15 HSB
            go_wp2_with fail
            refine (HPA _ HX15.out).out.mono ?_
            rintro e w16 ⟨rfl, hw⟩
            obtain rfl := hw.symm
            clear hw HPA
            have HX16 := Lib.hid (HT13.out.is_ext.trans HX15.out)
            go_wp2_with fail
            refine (AW _ HX16.out).out.mono ?_
            rintro e w17 ⟨rfl, x17⟩
            have HX17 := Lib.hid (HX16.out.trans x17)
            clear x17
            go_wp2_with fail
            go_ret
            exact ⟨rfl, HX17.out⟩

-- BEGUN
set_option maxRecDepth 100000 in
theorem begun {H : Type} {enc : TypeId × Value → H} (W : World) (args : Array Value) (ds : List (DataW H)) (p : List MemPlace) (st : Start enc Rows.diskLastsRow.laid Tryz.f5 W args ds p) :
    Calls Tryz.prog 5 args W fun e W' => e = .returned (.bool true) ∧ Below W.heap.size W W' := by
  obtain ⟨⟨base, hval⟩, hA, hfit, hl, hsh⟩ := st
  rw [Tryz.params5] at hA hval hfit
  obtain ⟨v0, v1, v2, d0, d1, d2, p0, p1, p2, rfl, rfl, rfl, h0, h1, h2⟩ := trodAll_three hA
  have hfit : ((DataW.weightsEach Tryz.prog [51, 51, 22] [d0, d1, d2]).all (· ≤ reachBytes)) = true := hfit
  simp only [DataW.weightsEach, List.append_nil, List.all_append, Bool.and_eq_true] at hfit
  obtain ⟨l, hl2⟩ := open_acts (hval 0 51 v0 rfl rfl) h0 hfit.1
  obtain ⟨m, hm2⟩ := open_acts (hval 1 51 v1 rfl rfl) h1 hfit.2.1
  obtain ⟨ks, hk2⟩ := open_bytes_arg (hval 2 22 v2 rfl rfl) h2 hfit.2.2
  exact walk v0 v1 v2 l m ks W hl2 hm2 hk2 (env_of hsh)

set_option maxRecDepth 100000 in
theorem said : Rows.DiskLastsSaid :=
  OpenClaim.holds_of_wide 5 Tryz.f5 rfl rfl rfl rfl rfl rfl rfl ⟨rfl, rfl, rfl, rfl, rfl⟩ rfl rfl rfl rfl rfl named Tryz.func5 facts
    (of_decide_eq_true (by kernel_rfl)) (by unfold Func.isWrapper; first | (rw [if_pos (by decide +kernel)]; kernel_rfl) | (rw [if_neg (by decide +kernel)]; exact ⟨rfl, rfl⟩))
    (fun os started H enc _ => lifted Rows.diskLastsRow.laid (by kernel_rfl) 5 Tryz.f5 Tryz.func5 Rows.diskLastsSpec rfl (by kernel_rfl) (by kernel_rfl)
      (by rw [Tryz.params5]
          have hall : ([51, 51, 22].all fun t => Tryz.prog.readableRec t && decide (t < Tryz.prog.types.size)) = true := by kernel_rfl
          intro t ht
          have := List.all_eq_true.1 hall t ht
          simpa using this)
      (by intro H ts ds h hl; rw [Tryz.params5] at h; subst h
          match ds, hl with
          | [d1, d2, d3], _ => rfl)
      Rows.diskLastsRow.domain os started H enc #[.slice none 0 0, .slice none 0 0, .slice none 0 0] (by kernel_rfl) (by kernel_rfl) (by kernel_rfl)
      (World.shaped_of_ZipB (by kernel_rfl) (by kernel_rfl)) (laidMet_laidAll _ (by kernel_rfl) (by kernel_rfl))
      begun)

theorem card : Rows.DiskLastsCardSaid :=
  Claim7.holds_tied_plain_at .later [] Rows.diskLastsCard.laidKinds true Rows.diskLastsCard.stood.harness Rows.diskLastsCard.stood.looks said (fun _ h => by cases h) (by kernel_rfl) (fun _ h => by cases h) diskLasts_row_tie rfl ⟨rfl, rfl⟩ (by kernel_rfl) rfl
    (fun f fn hf hfn => by
      obtain rfl : f = 5 := Option.some.inj ((show Tryz.prog.funcNamed Rows.diskLastsRow.func = some 5 by kernel_rfl).symm.trans hf) |>.symm
      obtain rfl : fn = Tryz.f5 := (Option.some.inj (Tryz.func5.symm.trans hfn)).symm
      exact ⟨by kernel_rfl, fun j t ht => by
        rw [Tryz.params5] at ht
        have hm : t ∈ [51, 51, 22] := by simpa using Array.mem_of_getElem? ht
        have hall : ([51, 51, 22].all fun u => !Tryz.prog.wantsStandIn u) = true := by kernel_rfl
        exact (show Tryz.prog.wantsStandIn t = false by simpa using List.all_eq_true.1 hall t hm)⟩)
    (by kernel_rfl)
#print axioms card
end Go.Proofs.YtldppmjjgljinaaGreatDoor.lawDiskLasts
