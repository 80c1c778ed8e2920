/- Contracts of caravan/path: padded, Conflict. -/
import Derived.Test.YtgojagdjlebnnaaDoorPathC
import Derived.Test.YtgojagdjlebnnaaDoorPathB2
namespace Go.Proofs.YtgojagdjlebnnaaDoor
open Go.RowKit


def itoaS (n : Int) : ByteArray := ⟨(Lib.itoa n).toArray⟩
def padS (n : Int) (d : Nat) : ByteArray := ⟨(Lib.repeatL [48] (d - (itoaS n).size)).toArray⟩ ++ itoaS n

set_option maxHeartbeats 400000 in
theorem padded_any (n d : Int) (w : World) (h0 : 0 ≤ n) (h1 : n ≤ 9223372036854775807) (d0 : 0 ≤ d) (d1 : d ≤ 100) (hl : (itoaS n).size ≤ 100) (E : Env w) :
    Calls Tryd.prog 43 #[.int .i64 n, .int .i64 d] w fun e w' => e = .returned (.string (padS n d.toNat)) ∧ Ext w w' := by
  obtain ⟨d, rfl⟩ := Int.eq_ofNat_of_zero_le d0
  rw [Int.toNat_natCast]
  unfold padS
  have HF : ∀ w, Env w → Hid (Calls Tryd.prog 63 #[.int .i64 n, .int .i64 10] w fun e w' => e = .returned (.string (itoaS n)) ∧ Ext w w') := fun w E =>
    (Tryd.strconv_FormatInt_10 n (by omega) h1 w E.pow10).mono fun e w' ⟨he, k, os, hw⟩ => ⟨he, by rw [hw]; exact ((Ext.refl w).drewN k).grow os⟩
  generalize itoaS n = s at *
  go_enter Tryd.func43, Tryd.ntmps43
  go_wp2_with fail
  refine ((HF _ E).out).mono ?_
  rintro e w1 ⟨rfl, x1⟩
  go_wp2_with fail
  rw [show max 0 ((d : Int) - s.size) = ((d - s.size : Nat) : Int) from by omega]
  have hr : (⟨(Lib.repeatL [48] (d - s.size)).toArray⟩ : ByteArray).size ≤ 100 := by
    rw [Lib.size_eq]; simp only [Lib.repeatL_length, List.length_cons, List.length_nil]; omega
  have HR : ∀ w, Hid (Calls Tryd.prog 64 #[.string ⟨#[48]⟩, .int .i64 ((d - s.size : Nat) : Int)] w fun e w' => e = .returned (.string ⟨(Lib.repeatL [48] (d - s.size)).toArray⟩) ∧ Ext w w') := fun w =>
    Tryd.strings_Repeat ⟨#[48]⟩ (d - s.size) w (by omega) (by show 1 * _ ≤ _; omega)
  generalize hrr : (⟨(Lib.repeatL [48] (d - s.size)).toArray⟩ : ByteArray) = r at *
  have HRR := Lib.hid hrr
  clear hrr
  refine ((HR _).out).mono ?_
  rintro e w2 ⟨rfl, x2⟩
  go_wp2_with fail
  go_ret
  exact ⟨ret_str (by rw [HRR.out]), x1.trans x2⟩

theorem padS_le (n : Int) (d : Nat) (h : (itoaS n).size ≤ 100) (h2 : d ≤ 100) : (padS n d).size ≤ 200 := by
  unfold padS
  rw [ByteArray.size_append, Lib.size_eq]; simp only [Lib.repeatL_length, List.length_cons, List.length_nil]; omega
theorem padded10 (n : Int) (w : World) (h0 : 0 ≤ n) (h1 : n ≤ 9223372036854775807) (hl : (itoaS n).size ≤ 100) (E : Env w) :
    Calls Tryd.prog 43 #[.int .i64 n, .int .i64 10] w fun e w' => e = .returned (.string (padS n 10)) ∧ Ext w w' := padded_any n 10 w h0 h1 (by decide) (by decide) hl E
theorem padded2 (n : Int) (w : World) (h0 : 0 ≤ n) (h1 : n ≤ 9223372036854775807) (hl : (itoaS n).size ≤ 100) (E : Env w) :
    Calls Tryd.prog 43 #[.int .i64 n, .int .i64 2] w fun e w' => e = .returned (.string (padS n 2)) ∧ Ext w w' := padded_any n 2 w h0 h1 (by decide) (by decide) hl E

def markS : ByteArray := ⟨#[46, 115, 121, 110, 99, 45, 99, 111, 110, 102, 108, 105, 99, 116, 45]⟩
def extS (b : ByteArray) : ByteArray := if 0 < Lib.lastIndexByte b 46 ∧ (b.size : Int) - Lib.lastIndexByte b 46 ≤ 8 then b.extract (Lib.lastIndexByte b 46).toNat b.size else ⟨#[]⟩
def stemS (b : ByteArray) : ByteArray :=
  let st := b.extract 0 (b.size - (extS b).size)
  st.extract 0 (min (st.size : Int) (20 - (extS b).size)).toNat
def conflictS (p : ByteArray) (t d : Int) : ByteArray :=
  besideS (parentS p) (stemS (baseS p) ++ markS ++ padS t 10 ++ ⟨#[45]⟩ ++ padS d 2 ++ extS (baseS p))

theorem baseS_le (s : ByteArray) : (baseS s).size ≤ s.size := by
  unfold baseS; simp
theorem extS_le (b : ByteArray) : (extS b).size ≤ 8 ∧ (extS b).size ≤ b.size := by
  have h := lastIndexByte_bd b 46
  unfold extS
  split
  · rename_i h2; simp; omega
  · exact ⟨by decide, Nat.zero_le _⟩

/-- The test at the head of Conflict. -/
def conflictOk (p : ByteArray) (t d : Int) : Bool := mayB p && decide (0 ≤ t) && decide (t ≤ 4294967295) && decide (1 ≤ d) && decide (d ≤ 16)

set_option maxHeartbeats 800000 in
theorem conflict_no (p : ByteArray) (t d : Int) (w : World) (hs : p.size < 4294967281) (E : Env w) (h : conflictOk p t d = false) :
    Calls Tryd.prog 14 #[.string p, .int .i64 t, .int .i64 d] w fun e w' => e = .returned (.tuple #[.string ⟨#[]⟩, .bool false]) ∧ Ext w w' := by
  have HM := Lib.hid (may_any p w hs E)
  unfold conflictOk at h
  generalize mayB p = b at *
  cases b
  · clear h
    go_enter Tryd.func14, Tryd.ntmps14
    go_wp2_with fail
    refine HM.out.mono ?_
    rintro e w1 ⟨rfl, x1⟩
    go_wp2_with fail
    go_ret2
    exact ⟨rfl, x1⟩
  · have h' : t < 0 ∨ 4294967295 < t ∨ d < 1 ∨ 16 < d := by
      simp at h; omega
    clear h
    by_cases c1 : t < 0
    · clear h'
      go_enter Tryd.func14, Tryd.ntmps14
      go_wp2_with fail
      refine HM.out.mono ?_
      rintro e w1 ⟨rfl, x1⟩
      go_wp2_with fail
      go_ret2
      exact ⟨rfl, x1⟩
    by_cases c2 : 4294967295 < t
    · clear h'
      go_enter Tryd.func14, Tryd.ntmps14
      go_wp2_with fail
      refine HM.out.mono ?_
      rintro e w1 ⟨rfl, x1⟩
      go_wp2_with fail
      go_ret2
      exact ⟨rfl, x1⟩
    by_cases c3 : d < 1
    · clear h'
      go_enter Tryd.func14, Tryd.ntmps14
      go_wp2_with fail
      refine HM.out.mono ?_
      rintro e w1 ⟨rfl, x1⟩
      go_wp2_with fail
      go_ret2
      exact ⟨rfl, x1⟩
    have c4 : 16 < d := by omega
    clear h'
    go_enter Tryd.func14, Tryd.ntmps14
    go_wp2_with fail
    refine HM.out.mono ?_
    rintro e w1 ⟨rfl, x1⟩
    go_wp2_with fail
    go_ret2
    exact ⟨rfl, x1⟩

set_option maxHeartbeats 1600000 in
theorem conflict_yes (p : ByteArray) (t d : Int) (w : World) (hs : p.size < 4294967281) (E : Env w) (h : conflictOk p t d = true) (ht : (itoaS t).size ≤ 100) (hd' : (itoaS d).size ≤ 100) :
    Calls Tryd.prog 14 #[.string p, .int .i64 t, .int .i64 d] w fun e w' => e = .returned (.tuple #[.string (conflictS p t d), .bool true]) ∧ Ext w w' := by
  have HM := Lib.hid (may_any p w hs E)
  unfold conflictOk at h
  simp only [Bool.and_eq_true, decide_eq_true_eq] at h
  obtain ⟨⟨⟨⟨hm, t0⟩, t1⟩, d0⟩, d1⟩ := h
  rw [hm] at HM
  clear hm
  have HSp := fun w => Lib.hid (split_any p w (by omega))
  have hb := baseS_le p
  have hpar := parentS_le p
  have HFIN := Lib.hid (show besideS (parentS p) (stemS (baseS p) ++ markS ++ padS t 10 ++ ⟨#[45]⟩ ++ padS d 2 ++ extS (baseS p)) = conflictS p t d from rfl)
  have hd := lastIndexByte_bd (baseS p) 46
  have HL := fun w => Lib.hid (Tryd.strings_LastIndexByte (baseS p) 46 (by omega) w)
  have HP1 := fun w E => Lib.hid (padded10 t w t0 (by omega) ht E)
  have HP2 := fun w E => Lib.hid (padded2 d w (by omega) (by omega) hd' E)
  have p1 := padS_le t 10 ht (by decide)
  have p2 := padS_le d 2 hd' (by decide)
  generalize padS t 10 = q1 at *
  generalize padS d 2 = q2 at *
  unfold stemS extS at HFIN
  generalize parentS p = P at *
  generalize baseS p = b at *
  generalize Lib.lastIndexByte b 46 = i at *
  obtain ⟨i0, i1⟩ := hd
  by_cases hc : 0 < i ∧ (b.size : Int) - i ≤ 8
  · rw [if_pos hc] at HFIN
    obtain ⟨c1, c2⟩ := hc
    go_enter Tryd.func14, Tryd.ntmps14
    go_wp2_with fail
    refine HM.out.mono ?_
    rintro e w1 ⟨rfl, x1⟩
    go_wp2_with fail
    refine (HSp _).out.mono ?_
    rintro e w1' ⟨rfl, n, rfl⟩
    go_wp2_with fail
    refine (HL _).out.mono ?_
    rintro e w1' ⟨rfl, rfl⟩
    go_wp2_with fail
    refine (HP1 _ (E.ext (x1.drewN n))).out.mono ?_
    rintro e w2 ⟨rfl, x2⟩
    go_wp2_with fail
    refine (HP2 _ (E.ext ((x1.drewN n).trans x2))).out.mono ?_
    rintro e w3 ⟨rfl, x3⟩
    go_wp2_with fail
    refine (beside_any _ _ _ ?hsz).mono ?_
    case hsz => simp [size_mk]; omega
    rintro e w' ⟨rfl, rfl⟩
    go_wp2_with fail
    go_ret2
    exact ⟨ret_strb (by rw [← HFIN.out]; simp [markS]), ((x1.drewN n).trans x2).trans x3⟩
  · rw [if_neg hc] at HFIN
    have hc' : i ≤ 0 ∨ 8 < (b.size : Int) - i := by omega
    by_cases c1 : 0 < i
    · have c2 : 8 < (b.size : Int) - i := by omega
      clear hc hc'
      go_enter Tryd.func14, Tryd.ntmps14
      go_wp2_with fail
      refine HM.out.mono ?_
      rintro e w1 ⟨rfl, x1⟩
      go_wp2_with fail
      refine (HSp _).out.mono ?_
      rintro e w1' ⟨rfl, n, rfl⟩
      go_wp2_with fail
      refine (HL _).out.mono ?_
      rintro e w1' ⟨rfl, rfl⟩
      go_wp2_with fail
      refine (HP1 _ (E.ext (x1.drewN n))).out.mono ?_
      rintro e w2 ⟨rfl, x2⟩
      go_wp2_with fail
      refine (HP2 _ (E.ext ((x1.drewN n).trans x2))).out.mono ?_
      rintro e w3 ⟨rfl, x3⟩
      go_wp2_with fail
      refine (beside_any _ _ _ ?hsz).mono ?_
      case hsz => simp [size_mk]; omega
      rintro e w' ⟨rfl, rfl⟩
      go_wp2_with fail
      go_ret2
      exact ⟨ret_strb (by rw [← HFIN.out]; simp [markS, size_mk]), ((x1.drewN n).trans x2).trans x3⟩
    · clear hc hc'
      go_enter Tryd.func14, Tryd.ntmps14
      go_wp2_with fail
      refine HM.out.mono ?_
      rintro e w1 ⟨rfl, x1⟩
      go_wp2_with fail
      refine (HSp _).out.mono ?_
      rintro e w1' ⟨rfl, n, rfl⟩
      go_wp2_with fail
      refine (HL _).out.mono ?_
      rintro e w1' ⟨rfl, rfl⟩
      go_wp2_with fail
      refine (HP1 _ (E.ext (x1.drewN n))).out.mono ?_
      rintro e w2 ⟨rfl, x2⟩
      go_wp2_with fail
      refine (HP2 _ (E.ext ((x1.drewN n).trans x2))).out.mono ?_
      rintro e w3 ⟨rfl, x3⟩
      go_wp2_with fail
      refine (beside_any _ _ _ ?hsz).mono ?_
      case hsz => simp [size_mk]; omega
      rintro e w' ⟨rfl, rfl⟩
      go_wp2_with fail
      go_ret2
      exact ⟨ret_strb (by rw [← HFIN.out]; simp [markS, size_mk]), ((x1.drewN n).trans x2).trans x3⟩
end Go.Proofs.YtgojagdjlebnnaaDoor
