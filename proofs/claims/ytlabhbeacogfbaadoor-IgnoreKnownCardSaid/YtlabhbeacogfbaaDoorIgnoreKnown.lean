/- IgnoreKnown: the chapter's examples hold: the statement IgnoreKnownCardSaid, with no condition of its own. -/
import Derived.Test.YtlabhbeacogfbaaDoorPathEnv
import Derived.Test.YtlabhbeacogfbaaDoorKnownL
import Derived.Test.YtlabhbeacogfbaaDoorLawB
namespace Go.Proofs.YtlabhbeacogfbaaDoor.lawIgnoreKnown
open Go.ChangeShapes Go.WideShapes Go.ChangeAt Go.RowKit
open Go.ChangeMaps (open_string)

set_option maxRecDepth 100000 in
set_option maxHeartbeats 6400000 in
theorem walk (w : World) (E : Env w) : Calls Tryd.prog 8 #[] w fun e w' => e = .returned (.bool true) ∧ Below w.heap.size w w' := by
  have W := fun w E => Lib.hid (works_any w E)
  obtain ⟨s7, s8, t7, q7, q8, z7, z8, ht7, K7, K8⟩ := big7
  obtain ⟨s10, s11, q10, q11, z10, z11, K10, K11⟩ := big10
  have Q7 := Lib.hid q7
  have Q10 := Lib.hid q10
  have KK := Lib.hid (And.intro K7 (And.intro K8 (And.intro K10 K11)))
  clear q7 q10 K7 K8 K10 K11
  go_enter Tryd.func8, Tryd.ntmps8
  go_wp2_with fail
  refine ((Lib.hid (parse_ok known1 (texts_two (w := w)) (by intro f hf; simp only [List.mem_cons, List.not_mem_nil, or_false] at hf; rcases hf with rfl | rfl <;> decide) (by decide) (E.ext ((Ext.refl w).alloc _)))).out).mono ?_
  rintro e w1 ⟨l1, rfl, L1, x1⟩
  have y1 := ((Ext.refl w).alloc (.cells #[.string ⟨#[105]⟩, .string ⟨#[47, 47, 32, 97, 108, 108, 10, 33, 107, 101, 101, 112, 46, 116, 109, 112, 10, 32, 32, 42, 46, 116, 109, 112, 9, 10, 10]⟩, .string ⟨#[105]⟩, .string ⟨#[91]⟩] 42 (0, 0))).trans x1
  have X1 := y1
  go_wp2_with fail
  refine ((Lib.hid (len_at L1.out (by decide))).out).mono ?_
  rintro e w2 ⟨rfl, x2⟩
  have y2 := x2
  have X2 := X1.trans y2
  replace L1 := Lib.hid (L1.out.ext y2)
  have HB := Lib.hid (⟨((Ext.refl w2).alloc _).alloc _, ((Ext.refl _).alloc _).block (by simp) |>.trans (heap_alloc_new w2 _), by have := heap_alloc_new (w2.alloc (.cells #[.string ⟨#[120, 46, 116, 109, 112]⟩, .string ⟨#[107, 101, 101, 112, 46, 116, 109, 112]⟩, .string ⟨#[100, 47, 107, 101, 101, 112, 46, 116, 109, 112]⟩, .string ⟨#[120]⟩, .string ⟨#[120, 46, 116, 109, 112, 47, 121]⟩, .string ⟨#[47, 47, 120, 46, 116, 109, 112]⟩] 9 (0, 0))) (.cells #[.bool true, .bool false, .bool false, .bool false, .bool true, .bool false] 4 (0, 0)); rwa [show (w2.alloc (.cells #[.string ⟨#[120, 46, 116, 109, 112]⟩, .string ⟨#[107, 101, 101, 112, 46, 116, 109, 112]⟩, .string ⟨#[100, 47, 107, 101, 101, 112, 46, 116, 109, 112]⟩, .string ⟨#[120]⟩, .string ⟨#[120, 46, 116, 109, 112, 47, 121]⟩, .string ⟨#[47, 47, 120, 46, 116, 109, 112]⟩] 9 (0, 0))).heap.size = w2.heap.size + 1 from by simp] at this⟩ : Ext w2 ((w2.alloc (.cells #[.string ⟨#[120, 46, 116, 109, 112]⟩, .string ⟨#[107, 101, 101, 112, 46, 116, 109, 112]⟩, .string ⟨#[100, 47, 107, 101, 101, 112, 46, 116, 109, 112]⟩, .string ⟨#[120]⟩, .string ⟨#[120, 46, 116, 109, 112, 47, 121]⟩, .string ⟨#[47, 47, 120, 46, 116, 109, 112]⟩] 9 (0, 0))).alloc (.cells #[.bool true, .bool false, .bool false, .bool false, .bool true, .bool false] 4 (0, 0))) ∧ ((w2.alloc (.cells #[.string ⟨#[120, 46, 116, 109, 112]⟩, .string ⟨#[107, 101, 101, 112, 46, 116, 109, 112]⟩, .string ⟨#[100, 47, 107, 101, 101, 112, 46, 116, 109, 112]⟩, .string ⟨#[120]⟩, .string ⟨#[120, 46, 116, 109, 112, 47, 121]⟩, .string ⟨#[47, 47, 120, 46, 116, 109, 112]⟩] 9 (0, 0))).alloc (.cells #[.bool true, .bool false, .bool false, .bool false, .bool true, .bool false] 4 (0, 0))).heap[w2.heap.size]? = some (.cells #[.string ⟨#[120, 46, 116, 109, 112]⟩, .string ⟨#[107, 101, 101, 112, 46, 116, 109, 112]⟩, .string ⟨#[100, 47, 107, 101, 101, 112, 46, 116, 109, 112]⟩, .string ⟨#[120]⟩, .string ⟨#[120, 46, 116, 109, 112, 47, 121]⟩, .string ⟨#[47, 47, 120, 46, 116, 109, 112]⟩] 9 (0, 0)) ∧ ((w2.alloc (.cells #[.string ⟨#[120, 46, 116, 109, 112]⟩, .string ⟨#[107, 101, 101, 112, 46, 116, 109, 112]⟩, .string ⟨#[100, 47, 107, 101, 101, 112, 46, 116, 109, 112]⟩, .string ⟨#[120]⟩, .string ⟨#[120, 46, 116, 109, 112, 47, 121]⟩, .string ⟨#[47, 47, 120, 46, 116, 109, 112]⟩] 9 (0, 0))).alloc (.cells #[.bool true, .bool false, .bool false, .bool false, .bool true, .bool false] 4 (0, 0))).heap[w2.heap.size + 1]? = some (.cells #[.bool true, .bool false, .bool false, .bool false, .bool true, .bool false] 4 (0, 0)))
  go_wp2_with fail
  go_loopw [5] (fun iv wr => Hid (∃ k : Nat, k ≤ 6 ∧ iv = .int .i64 k ∧ Ext w2 wr ∧ wr.heap[w2.heap.size]? = some (.cells #[.string ⟨#[120, 46, 116, 109, 112]⟩, .string ⟨#[107, 101, 101, 112, 46, 116, 109, 112]⟩, .string ⟨#[100, 47, 107, 101, 101, 112, 46, 116, 109, 112]⟩, .string ⟨#[120]⟩, .string ⟨#[120, 46, 116, 109, 112, 47, 121]⟩, .string ⟨#[47, 47, 120, 46, 116, 109, 112]⟩] 9 (0, 0)) ∧ wr.heap[w2.heap.size + 1]? = some (.cells #[.bool true, .bool false, .bool false, .bool false, .bool true, .bool false] 4 (0, 0)))) (fun iv _ => 6 - (intOf iv).toNat)
  case atStart => exact ⟨0, by omega, rfl, HB.out.1, HB.out.2.1, HB.out.2.2⟩
  case round =>
    obtain ⟨k, hk, rfl, hx, hb1, hb2⟩ := hrel.out
    clear hrel HB
    have HX := Lib.hid hx
    have HB1 := Lib.hid hb1
    have HB2 := Lib.hid hb2
    have X0 := X2.trans hx
    have L := Lib.hid (L1.out.ext hx)
    by_cases e0 : k = 0
    · subst e0
      have c1 : wr.cell? ⟨w2.heap.size, 0, none⟩ = some (.string ⟨#[120, 46, 116, 109, 112]⟩) := cell_of_block hb1
      have HM := Lib.hid (match_is knownm0 (by decide) L.out (E.ext X0))
      clear hb1 hb2 hx
      go_wp2_with fail
      refine (HM.out).mono ?_
      rintro e v1 ⟨rfl, z1⟩
      have hb3 := (z1.block (lt_of_block HB2.out)).trans HB2.out
      have HR := Lib.hid (⟨HX.out.trans z1, (z1.block (lt_of_block HB1.out)).trans HB1.out, hb3⟩ : Ext w2 v1 ∧ _ ∧ _)
      have c2 : v1.cell? ⟨w2.heap.size + 1, 0, none⟩ = some (.bool true) := cell_of_block hb3
      clear hb3 z1
      go_wp2_with fail
      go_roundw
      case rel => exact ⟨1, by omega, rfl, HR.out.1, HR.out.2.1, HR.out.2.2⟩
      case measure => simp [intOf]
    by_cases e1 : k = 1
    · subst e1
      have c1 : wr.cell? ⟨w2.heap.size, 1, none⟩ = some (.string ⟨#[107, 101, 101, 112, 46, 116, 109, 112]⟩) := cell_of_block hb1
      have HM := Lib.hid (match_is knownm1 (by decide) L.out (E.ext X0))
      clear hb1 hb2 hx
      go_wp2_with fail
      refine (HM.out).mono ?_
      rintro e v1 ⟨rfl, z1⟩
      have hb3 := (z1.block (lt_of_block HB2.out)).trans HB2.out
      have HR := Lib.hid (⟨HX.out.trans z1, (z1.block (lt_of_block HB1.out)).trans HB1.out, hb3⟩ : Ext w2 v1 ∧ _ ∧ _)
      have c2 : v1.cell? ⟨w2.heap.size + 1, 1, none⟩ = some (.bool false) := cell_of_block hb3
      clear hb3 z1
      go_wp2_with fail
      go_roundw
      case rel => exact ⟨2, by omega, rfl, HR.out.1, HR.out.2.1, HR.out.2.2⟩
      case measure => simp [intOf]
    by_cases e2 : k = 2
    · subst e2
      have c1 : wr.cell? ⟨w2.heap.size, 2, none⟩ = some (.string ⟨#[100, 47, 107, 101, 101, 112, 46, 116, 109, 112]⟩) := cell_of_block hb1
      have HM := Lib.hid (match_is knownm2 (by decide) L.out (E.ext X0))
      clear hb1 hb2 hx
      go_wp2_with fail
      refine (HM.out).mono ?_
      rintro e v1 ⟨rfl, z1⟩
      have hb3 := (z1.block (lt_of_block HB2.out)).trans HB2.out
      have HR := Lib.hid (⟨HX.out.trans z1, (z1.block (lt_of_block HB1.out)).trans HB1.out, hb3⟩ : Ext w2 v1 ∧ _ ∧ _)
      have c2 : v1.cell? ⟨w2.heap.size + 1, 2, none⟩ = some (.bool false) := cell_of_block hb3
      clear hb3 z1
      go_wp2_with fail
      go_roundw
      case rel => exact ⟨3, by omega, rfl, HR.out.1, HR.out.2.1, HR.out.2.2⟩
      case measure => simp [intOf]
    by_cases e3 : k = 3
    · subst e3
      have c1 : wr.cell? ⟨w2.heap.size, 3, none⟩ = some (.string ⟨#[120]⟩) := cell_of_block hb1
      have HM := Lib.hid (match_is knownm3 (by decide) L.out (E.ext X0))
      clear hb1 hb2 hx
      go_wp2_with fail
      refine (HM.out).mono ?_
      rintro e v1 ⟨rfl, z1⟩
      have hb3 := (z1.block (lt_of_block HB2.out)).trans HB2.out
      have HR := Lib.hid (⟨HX.out.trans z1, (z1.block (lt_of_block HB1.out)).trans HB1.out, hb3⟩ : Ext w2 v1 ∧ _ ∧ _)
      have c2 : v1.cell? ⟨w2.heap.size + 1, 3, none⟩ = some (.bool false) := cell_of_block hb3
      clear hb3 z1
      go_wp2_with fail
      go_roundw
      case rel => exact ⟨4, by omega, rfl, HR.out.1, HR.out.2.1, HR.out.2.2⟩
      case measure => simp [intOf]
    by_cases e4 : k = 4
    · subst e4
      have c1 : wr.cell? ⟨w2.heap.size, 4, none⟩ = some (.string ⟨#[120, 46, 116, 109, 112, 47, 121]⟩) := cell_of_block hb1
      have HM := Lib.hid (match_is knownm4 (by decide) L.out (E.ext X0))
      clear hb1 hb2 hx
      go_wp2_with fail
      refine (HM.out).mono ?_
      rintro e v1 ⟨rfl, z1⟩
      have hb3 := (z1.block (lt_of_block HB2.out)).trans HB2.out
      have HR := Lib.hid (⟨HX.out.trans z1, (z1.block (lt_of_block HB1.out)).trans HB1.out, hb3⟩ : Ext w2 v1 ∧ _ ∧ _)
      have c2 : v1.cell? ⟨w2.heap.size + 1, 4, none⟩ = some (.bool true) := cell_of_block hb3
      clear hb3 z1
      go_wp2_with fail
      go_roundw
      case rel => exact ⟨5, by omega, rfl, HR.out.1, HR.out.2.1, HR.out.2.2⟩
      case measure => simp [intOf]
    by_cases e5 : k = 5
    · subst e5
      have c1 : wr.cell? ⟨w2.heap.size, 5, none⟩ = some (.string ⟨#[47, 47, 120, 46, 116, 109, 112]⟩) := cell_of_block hb1
      have HM := Lib.hid (match_is knownm5 (by decide) L.out (E.ext X0))
      clear hb1 hb2 hx
      go_wp2_with fail
      refine (HM.out).mono ?_
      rintro e v1 ⟨rfl, z1⟩
      have hb3 := (z1.block (lt_of_block HB2.out)).trans HB2.out
      have HR := Lib.hid (⟨HX.out.trans z1, (z1.block (lt_of_block HB1.out)).trans HB1.out, hb3⟩ : Ext w2 v1 ∧ _ ∧ _)
      have c2 : v1.cell? ⟨w2.heap.size + 1, 5, none⟩ = some (.bool false) := cell_of_block hb3
      clear hb3 z1
      go_wp2_with fail
      go_roundw
      case rel => exact ⟨6, by omega, rfl, HR.out.1, HR.out.2.1, HR.out.2.2⟩
      case measure => simp [intOf]
    obtain rfl : k = 6 := by omega
    clear hb1 hb2 HB1 HB2 L hx
    have X3 := X0
    go_wp2_with fail
    refine ((Lib.hid (parse_ok known2 (texts_two (w := wr)) (by intro f hf; simp only [List.mem_cons, List.not_mem_nil, or_false] at hf; rcases hf with rfl | rfl <;> decide) (by decide) (E.ext (X3.alloc _)))).out).mono ?_
    rintro e w4 ⟨l2, rfl, L2, x4⟩
    have y4 := ((Ext.refl wr).alloc (.cells #[.string ⟨#[105]⟩, .string ⟨#[35, 105, 110, 99, 108, 117, 100, 101, 32, 106, 10, 33, 98]⟩, .string ⟨#[106]⟩, .string ⟨#[97, 10, 98]⟩] 42 (0, 0))).trans x4
    have X4 := X3.trans y4
    go_wp2_with fail
    refine ((Lib.hid (lines_at L2.out (by decide))).out).mono ?_
    rintro e w5 ⟨v2, rfl, R2, x5⟩
    have y5 := x5
    have X5 := X4.trans y5
    replace L2 := Lib.hid (L2.out.ext y5)
    have HJ := Lib.hid (joined_any v2 _ w5 R2.out (by decide) (by decide))
    rw [knownj] at HJ
    go_wp2_with fail
    refine ((HJ).out).mono ?_
    rintro e w6 ⟨rfl, x6⟩
    have y6 := x6
    have X6 := X5.trans y6
    replace L2 := Lib.hid (L2.out.ext y6)
    go_wp2_with fail
    refine ((Lib.hid (match_is knownb (by decide) L2.out (E.ext X6))).out).mono ?_
    rintro e w7 ⟨rfl, x7⟩
    have y7 := x7
    have X7 := X6.trans y7
    replace L2 := Lib.hid (L2.out.ext y7)
    go_wp2_with fail
    refine ((Lib.hid (parse_err known3 (texts_one (w := w7)) (by intro f hf; simp only [List.mem_cons, List.not_mem_nil, or_false] at hf; rcases hf with rfl <;> decide) (by decide) (E.ext (X7.alloc _)))).out).mono ?_
    rintro e w8 ⟨rfl, _, x8⟩
    have y8 := ((Ext.refl w7).alloc (.cells #[.string ⟨#[105]⟩, .string ⟨#[35, 105, 110, 99, 108, 117, 100, 101, 32, 105]⟩] 42 (0, 0))).trans x8
    have X8 := X7.trans y8
    go_wp2_with fail
    refine ((Lib.hid (parse_err known4 (texts_one (w := w8)) (by intro f hf; simp only [List.mem_cons, List.not_mem_nil, or_false] at hf; rcases hf with rfl <;> decide) (by decide) (E.ext (X8.alloc _)))).out).mono ?_
    rintro e w9 ⟨rfl, _, x9⟩
    have y9 := ((Ext.refl w8).alloc (.cells #[.string ⟨#[105]⟩, .string ⟨#[35, 105, 110, 99, 108, 117, 100, 101, 32, 107]⟩] 42 (0, 0))).trans x9
    have X9 := X8.trans y9
    go_wp2_with fail
    refine ((Lib.hid (parse_err known5 (texts_one (w := w9)) (by intro f hf; simp only [List.mem_cons, List.not_mem_nil, or_false] at hf; rcases hf with rfl <;> decide) (by decide) (E.ext (X9.alloc _)))).out).mono ?_
    rintro e w10 ⟨rfl, _, x10⟩
    have y10 := ((Ext.refl w9).alloc (.cells #[.string ⟨#[105]⟩, .string ⟨#[91]⟩] 42 (0, 0))).trans x10
    have X10 := X9.trans y10
    go_wp2_with fail
    refine ((Lib.hid (parse_err known6 (texts_nil w10) (fun f hf => by cases hf) (by decide) (E.ext X10))).out).mono ?_
    rintro e w11 ⟨rfl, _, x11⟩
    have y11 := x11
    have X11 := X10.trans y11
    go_wp2_with fail
    go_loopw [20, 21] (fun sv iv wr11 => Hid (∃ k : Nat, k ≤ 64 ∧ iv = .int .i64 k ∧ sv = .string (bsL (rep k [97, 10])) ∧ Ext w11 wr11)) (fun _ iv _ => 64 - (intOf iv).toNat)
    case atStart => exact ⟨0, by omega, rfl, rfl, Ext.refl _⟩
    case round =>
      obtain ⟨k11, hk11, rfl, rfl, hx11⟩ := hrel.out
      clear hrel
      have HX11 := Lib.hid hx11
      by_cases hlt11 : k11 < 64
      · have hz : (bsL (rep k11 [97, 10])).size ≤ 1024 := by
          rw [← len_toList, bsL_toList, rep_len]; simp only [List.length_cons, List.length_nil]; omega
        have HS := Lib.hid (show bsL (rep (k11 + 1) [97, 10]) = bsL (rep k11 [97, 10]) ++ ⟨#[97, 10]⟩ from ba_ext (by rw [toList_append, bsL_toList, bsL_toList, rep_succ, show (⟨#[97, 10]⟩ : ByteArray).toList = [97, 10] from toList_mk _]))
        clear hx11
        generalize bsL (rep k11 [97, 10]) = s at *
        go_wp2_with fail
        go_roundw
        case rel => exact ⟨k11 + 1, by omega, by go_num, by rw [HS.out], HX11.out⟩
        case measure => simp [intOf] <;> omega
      · obtain rfl : k11 = 64 := by omega
        have Y11 := hx11
        clear hx11 HX11
        have X12 := X11.trans Y11
        rw [Q7.out]
        go_wp2_with fail
        refine ((Lib.hid (parse_ok KK.out.1 (texts_one (w := wr)) (by intro f hf; rw [List.mem_singleton.1 hf]; exact ⟨by show (⟨#[105]⟩ : ByteArray).size ≤ maxLen; decide, by show s7.size < _; omega⟩) (by decide) (E.ext (X12.alloc _)))).out).mono ?_
        rintro e w13 ⟨l7, rfl, L7, x13⟩
        have y13 := ((Ext.refl wr).alloc (.cells #[.string ⟨#[105]⟩, .string s7] 42 (0, 0))).trans x13
        have X13 := X12.trans y13
        go_wp2_with fail
        refine ((Lib.hid (parse_err KK.out.2.1 (texts_one (w := w13)) (by intro f hf; rw [List.mem_singleton.1 hf]; exact ⟨by show (⟨#[105]⟩ : ByteArray).size ≤ maxLen; decide, by show s8.size < _; omega⟩) (by decide) (E.ext (X13.alloc _)))).out).mono ?_
        rintro e w14 ⟨rfl, _, x14⟩
        have y14 := ((Ext.refl w13).alloc (.cells #[.string ⟨#[105]⟩, .string s8] 42 (0, 0))).trans x14
        have X14 := X13.trans y14
        replace L7 := Lib.hid (L7.out.ext y14)
        go_wp2_with fail
        refine ((Lib.hid (parse_ok known9 (texts_two (w := w14)) (by intro f hf; simp only [List.mem_cons, List.not_mem_nil, or_false] at hf; rcases hf with rfl | rfl <;> decide) (by decide) (E.ext (X14.alloc _)))).out).mono ?_
        rintro e w15 ⟨l9, rfl, L9, x15⟩
        have y15 := ((Ext.refl w14).alloc (.cells #[.string ⟨#[105]⟩, .string ⟨#[35, 105, 110, 99, 108, 117, 100, 101, 32, 106, 10, 35, 105, 110, 99, 108, 117, 100, 101, 32, 106]⟩, .string ⟨#[106]⟩, .string ⟨#[97]⟩] 42 (0, 0))).trans x15
        have X15 := X14.trans y15
        replace L7 := Lib.hid (L7.out.ext y15)
        go_wp2_with fail
        go_loopw [20, 28] (fun sv iv wr15 => Hid (∃ k : Nat, k ≤ 64 ∧ iv = .int .i64 k ∧ sv = .string (bsL (rep k [35, 105, 110, 99, 108, 117, 100, 101, 32, 106, 10])) ∧ Ext w15 wr15)) (fun _ iv _ => 64 - (intOf iv).toNat)
        case atStart => exact ⟨0, by omega, rfl, rfl, Ext.refl _⟩
        case round =>
          obtain ⟨k15, hk15, rfl, rfl, hx15⟩ := hrel.out
          clear hrel
          have HX15 := Lib.hid hx15
          by_cases hlt15 : k15 < 64
          · have hz : (bsL (rep k15 [35, 105, 110, 99, 108, 117, 100, 101, 32, 106, 10])).size ≤ 1024 := by
              rw [← len_toList, bsL_toList, rep_len]; simp only [List.length_cons, List.length_nil]; omega
            have HS := Lib.hid (show bsL (rep (k15 + 1) [35, 105, 110, 99, 108, 117, 100, 101, 32, 106, 10]) = bsL (rep k15 [35, 105, 110, 99, 108, 117, 100, 101, 32, 106, 10]) ++ ⟨#[35, 105, 110, 99, 108, 117, 100, 101, 32, 106, 10]⟩ from ba_ext (by rw [toList_append, bsL_toList, bsL_toList, rep_succ, show (⟨#[35, 105, 110, 99, 108, 117, 100, 101, 32, 106, 10]⟩ : ByteArray).toList = [35, 105, 110, 99, 108, 117, 100, 101, 32, 106, 10] from toList_mk _]))
            clear hx15
            generalize bsL (rep k15 [35, 105, 110, 99, 108, 117, 100, 101, 32, 106, 10]) = s at *
            go_wp2_with fail
            go_roundw
            case rel => exact ⟨k15 + 1, by omega, by go_num, by rw [HS.out], HX15.out⟩
            case measure => simp [intOf] <;> omega
          · obtain rfl : k15 = 64 := by omega
            have Y15 := hx15
            clear hx15 HX15
            have X16 := X15.trans Y15
            replace L7 := Lib.hid (L7.out.ext Y15)
            replace L9 := Lib.hid (L9.out.ext Y15)
            rw [Q10.out]
            go_wp2_with fail
            refine ((Lib.hid (parse_ok KK.out.2.2.1 (texts_two (w := wr)) (by intro f hf; rcases List.mem_cons.1 hf with rfl | hf; exact ⟨by show (⟨#[105]⟩ : ByteArray).size ≤ maxLen; decide, by show s10.size < _; omega⟩; rw [List.mem_singleton.1 hf]; decide) (by decide) (E.ext (X16.alloc _)))).out).mono ?_
            rintro e w17 ⟨l10, rfl, L10, x17⟩
            have y17 := ((Ext.refl wr).alloc (.cells #[.string ⟨#[105]⟩, .string s10, .string ⟨#[106]⟩, .string ⟨#[47, 47, 32, 110, 111, 110, 101]⟩] 42 (0, 0))).trans x17
            have X17 := X16.trans y17
            replace L7 := Lib.hid (L7.out.ext y17)
            replace L9 := Lib.hid (L9.out.ext y17)
            go_wp2_with fail
            refine ((Lib.hid (parse_err KK.out.2.2.2 (texts_two (w := w17)) (by intro f hf; rcases List.mem_cons.1 hf with rfl | hf; exact ⟨by show (⟨#[105]⟩ : ByteArray).size ≤ maxLen; decide, by show s11.size < _; omega⟩; rw [List.mem_singleton.1 hf]; decide) (by decide) (E.ext (X17.alloc _)))).out).mono ?_
            rintro e w18 ⟨rfl, _, x18⟩
            have y18 := ((Ext.refl w17).alloc (.cells #[.string ⟨#[105]⟩, .string s11, .string ⟨#[106]⟩, .string ⟨#[47, 47, 32, 110, 111, 110, 101]⟩] 42 (0, 0))).trans x18
            have X18 := X17.trans y18
            replace L7 := Lib.hid (L7.out.ext y18)
            replace L9 := Lib.hid (L9.out.ext y18)
            replace L10 := Lib.hid (L10.out.ext y18)
            go_wp2_with fail
            refine ((Lib.hid (len_at L10.out (by decide))).out).mono ?_
            rintro e w19 ⟨rfl, x19⟩
            have y19 := x19
            have X19 := X18.trans y19
            replace L7 := Lib.hid (L7.out.ext y19)
            replace L9 := Lib.hid (L9.out.ext y19)
            replace L10 := Lib.hid (L10.out.ext y19)
            have HN1 := Lib.hid (ilmatch_nil ⟨#[97]⟩ w19)
            go_wp2_with fail
            refine (HN1.out).mono ?_
            rintro e v1 ⟨rfl, hv1⟩
            obtain rfl := hv1.symm
            have LL7 := Lib.hid (len_at L7.out (by omega))
            rw [ht7] at LL7
            go_wp2_with fail
            refine ((LL7).out).mono ?_
            rintro e w20 ⟨rfl, x20⟩
            have y20 := x20
            have X20 := X19.trans y20
            replace L7 := Lib.hid (L7.out.ext y20)
            replace L9 := Lib.hid (L9.out.ext y20)
            replace L10 := Lib.hid (L10.out.ext y20)
            go_wp2_with fail
            refine ((Lib.hid (len_at L9.out (by decide))).out).mono ?_
            rintro e w21 ⟨rfl, x21⟩
            have y21 := x21
            have X21 := X20.trans y21
            replace L7 := Lib.hid (L7.out.ext y21)
            replace L9 := Lib.hid (L9.out.ext y21)
            replace L10 := Lib.hid (L10.out.ext y21)
            have HN2 := Lib.hid (illen_nil w21)
            go_wp2_with fail
            refine (HN2.out).mono ?_
            rintro e v2 ⟨rfl, hv2⟩
            obtain rfl := hv2.symm
            have HN3 := Lib.hid (illines_nil w21)
            go_wp2_with fail
            refine (HN3.out).mono ?_
            rintro e v3 ⟨rfl, hv3⟩
            obtain rfl := hv3.symm
            go_wp2_with fail
            refine (W _ (E.ext X21)).out.mono ?_
            rintro e wr1 ⟨rfl, xr1⟩
            have Xr1 := X21.trans xr1
            have XE := Xr1
            go_wp2_with fail
            go_ret
            exact ⟨rfl, Xr1⟩

-- BEGUN
set_option maxRecDepth 100000 in
theorem begun {H : Type} {enc : TypeId × Value → H} (W : World) (args : Array Value) (ds : List (DataW H)) (p : List MemPlace) (st : Start enc Rows.ignoreKnownRow.laid Tryd.f8 W args ds p) :
    Calls Tryd.prog 8 args W fun e W' => e = .returned (.bool true) ∧ Below W.heap.size W W' := by
  obtain ⟨⟨base, hval⟩, hA, hfit, hl, hsh⟩ := st
  rw [Tryd.params8] at hA hval hfit
  have hn : args = #[] := by
    cases h : args.toList with
    | nil => simpa using h
    | cons a l => rw [h] at hA; cases ds <;> simp [DataW.TrodAll] at hA
  subst hn
  exact walk W (env_of hsh)

set_option maxRecDepth 100000 in
theorem said : Rows.IgnoreKnownSaid :=
  OpenClaim.holds_of_wide 8 Tryd.f8 rfl rfl rfl rfl rfl rfl rfl ⟨rfl, rfl, rfl, rfl, rfl⟩ rfl rfl rfl rfl rfl (by kernel_rfl) Tryd.func8 (by kernel_rfl)
    (of_decide_eq_true (by kernel_rfl)) (by unfold Func.isWrapper; first | (rw [if_pos (by decide +kernel)]; kernel_rfl) | (rw [if_neg (by decide +kernel)]; exact ⟨rfl, rfl⟩))
    (fun os started H enc _ => lifted Rows.ignoreKnownRow.laid (by kernel_rfl) 8 Tryd.f8 Tryd.func8 Rows.ignoreKnownSpec rfl (by kernel_rfl) (by kernel_rfl)
      (by rw [Tryd.params8]
          have hall : ([].all fun t => Tryd.prog.readableRec t && decide (t < Tryd.prog.types.size)) = true := by kernel_rfl
          intro t ht
          have := List.all_eq_true.1 hall t ht
          simpa using this)
      (by intro H ts ds h hl; rw [Tryd.params8] at h; subst h
          match ds, hl with
          | [], _ => rfl)
      Rows.ignoreKnownRow.domain os started H enc #[] (by kernel_rfl) (by kernel_rfl) (by kernel_rfl)
      (World.shaped_of_ZipB (by kernel_rfl) (by kernel_rfl)) (laidMet_laidAll _ (by kernel_rfl) (by kernel_rfl))
      begun)

theorem card : Rows.IgnoreKnownCardSaid :=
  Claim7.holds_tied_plain_at .later [] Rows.ignoreKnownCard.laidKinds true Rows.ignoreKnownCard.stood.harness false said (fun _ h => by cases h) (by kernel_rfl) (fun _ h => by cases h) ignoreKnown_row_tie rfl ⟨rfl, rfl⟩ (by kernel_rfl) rfl
    (fun f fn hf hfn => by
      obtain rfl : f = 8 := Option.some.inj ((show Tryd.prog.funcNamed Rows.ignoreKnownRow.func = some 8 by kernel_rfl).symm.trans hf) |>.symm
      obtain rfl : fn = Tryd.f8 := (Option.some.inj (Tryd.func8.symm.trans hfn)).symm
      exact ⟨by kernel_rfl, fun j t ht => by
        rw [Tryd.params8] at ht
        have hm : t ∈ [] := by simpa using Array.mem_of_getElem? ht
        have hall : ([].all fun u => !Tryd.prog.wantsStandIn u) = true := by kernel_rfl
        exact (show Tryd.prog.wantsStandIn t = false by simpa using List.all_eq_true.1 hall t hm)⟩)
    (by kernel_rfl)
#print axioms card
end Go.Proofs.YtlabhbeacogfbaaDoor.lawIgnoreKnown
