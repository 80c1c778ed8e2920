/- Contracts of caravan/path: digits, IsTemp, IsConflict. -/
import Derived.Test.YtgojagdjlebnnaaDoorPathD
namespace Go.Proofs.YtgojagdjlebnnaaDoor
open Go.RowKit

def isDig (c : UInt8) : Bool := !(decide ((c.toNat : Int) < 48) || decide (57 < (c.toNat : Int)))
def digB (l : List UInt8) (n : Nat) : Bool := decide (n ≤ l.length) && (l.take n).all isDig

set_option maxHeartbeats 400000 in
theorem digits_any (s : ByteArray) (n : Nat) (w : World) (hs : s.size ≤ maxLen) (hn : n ≤ 100) :
    Calls Tryd.prog 60 #[.string s, .int .i64 n] w fun e w' => e = .returned (.bool (digB s.toList n)) ∧ w' = w := by
  unfold maxLen at hs
  by_cases h1 : n ≤ s.size
  · go_enter Tryd.func60, Tryd.ntmps60
    go_wp2
    go_loop [11] (fun i => ∃ k : Nat, k ≤ n ∧ i = .int .i64 k ∧ Hid ((s.toList.take k).all isDig = true)) (fun i => n - (intOf i).toNat)
    case atStart => exact ⟨0, Nat.zero_le _, rfl, rfl⟩
    case round =>
      obtain ⟨k, hk, rfl, H⟩ := hrel
      by_cases hlt : k < n
      · have HT := Lib.hid (take_snoc s k (by omega))
        have hks : k < s.size := by omega
        cases hb : isDig s[k]
        · have HF := Lib.hid (show digB s.toList n = false from by
            unfold digB
            have : (s.toList.take n).all isDig = false := by
              rw [List.all_eq_false]
              refine ⟨s[k], ?_, by simp [hb]⟩
              rw [List.mem_take_iff_getElem]
              exact ⟨k, by rw [len_toList]; omega, by have := getElem_toList s k hks; rw [List.getElem?_eq_some_iff] at this; exact this.2⟩
            rw [this, Bool.and_false])
          have hb' := hb
          clear hb
          simp only [isDig, Bool.not_eq_false', Bool.or_eq_true, decide_eq_true_eq] at hb'
          go_wp2
          all_goals (first | (go_ret; exact ⟨ret_bool HF.out.symm, rfl⟩) | (exfalso; simp at *; omega))
        · have H2 := Lib.hid hb
          have hb' := hb
          clear hb
          simp only [isDig, Bool.not_eq_true', Bool.or_eq_false_iff, decide_eq_false_iff_not] at hb'
          obtain ⟨b1, b2⟩ := hb'
          go_wp2
          go_round
          case rel => exact ⟨k + 1, by omega, by go_num, by show (s.toList.take (k + 1)).all isDig = true; rw [HT.out, List.all_append, H.out]; simp [H2.out]⟩
          case measure => simp [intOf]; omega
      · obtain rfl : k = n := by omega
        have HF := Lib.hid (show digB s.toList k = true from by unfold digB; rw [H.out, len_toList]; simp [h1])
        go_wp2
        go_ret
        exact ⟨ret_bool HF.out.symm, rfl⟩
  · have HF := Lib.hid (show digB s.toList n = false from by unfold digB; rw [len_toList]; simp [h1])
    go_enter Tryd.func60, Tryd.ntmps60
    go_wp2
    go_ret
    exact ⟨ret_bool HF.out.symm, rfl⟩

theorem digits10 (s : ByteArray) (w : World) (hs : s.size ≤ maxLen) : Calls Tryd.prog 60 #[.string s, .int .i64 10] w fun e w' => e = .returned (.bool (digB s.toList 10)) ∧ w' = w := digits_any s 10 w hs (by decide)
theorem digits2 (s : ByteArray) (w : World) (hs : s.size ≤ maxLen) : Calls Tryd.prog 60 #[.string s, .int .i64 2] w fun e w' => e = .returned (.bool (digB s.toList 2)) ∧ w' = w := digits_any s 2 w hs (by decide)
def isTempB (s : ByteArray) : Bool := Lib.hasPrefix (baseS s).toList [126, 116, 126]
theorem isTemp_any (s : ByteArray) (w : World) (hs : s.size < 4611686018427387904) :
    Calls Tryd.prog 36 #[.string s] w fun e w' => e = .returned (.bool (isTempB s)) ∧ ∃ n, w' = w.drewN n := by
  have HS := Lib.hid (split_any s w hs)
  have HP := fun w => Lib.hid (Tryd.strings_HasPrefix (baseS s) ⟨#[126, 116, 126]⟩ w)
  have HF := Lib.hid (show Lib.hasPrefix (baseS s).data.toList (⟨#[126, 116, 126]⟩ : ByteArray).data.toList = isTempB s from by unfold isTempB; rw [Lib.toList_data])
  generalize isTempB s = r at *
  generalize Lib.hasPrefix (baseS s).data.toList (⟨#[126, 116, 126]⟩ : ByteArray).data.toList = q at *
  generalize baseS s = b at *
  generalize parentS s = p at *
  go_enter Tryd.func36, Tryd.ntmps36
  go_wp2_with fail
  refine HS.out.mono ?_
  rintro e w1 ⟨rfl, n, rfl⟩
  go_wp2_with fail
  refine (HP _).out.mono ?_
  rintro e w2 ⟨rfl, rfl⟩
  go_wp2_with fail
  go_ret
  exact ⟨ret_bool HF.out, n, rfl⟩

def markL : List UInt8 := [46, 115, 121, 110, 99, 45, 99, 111, 110, 102, 108, 105, 99, 116, 45]
def okTail (r : List UInt8) : Bool := digB r 10 && Lib.hasPrefix (r.drop 10) [45] && digB (r.drop 11) 2
def confAt (l : List UInt8) : Bool := markL.isPrefixOf l && okTail (l.drop 15)
def confL : List UInt8 → Bool
  | [] => false
  | c :: l => confAt (c :: l) || confL l
theorem conf_none : ∀ (l : List UInt8), (∀ j, Lib.occAt l markL j = false) → confL l = false
  | [], _ => rfl
  | c :: l, h => by
    unfold confL confAt
    rw [show markL.isPrefixOf (c :: l) = false from h 0, conf_none l (fun j => h (j + 1))]; rfl
theorem conf_first : ∀ (i : Nat) (l : List UInt8), (∀ j, j < i → Lib.occAt l markL j = false) → i < l.length → confL l = (okTail ((l.drop i).drop 15) && markL.isPrefixOf (l.drop i) || confL (l.drop (i + 1)))
  | 0, c :: l, _, _ => by show (confAt (c :: l) || confL l) = _; rw [confAt, Bool.and_comm]; rfl
  | i + 1, c :: l, h, hi => by
    have := conf_first i l (fun j hj => h (j + 1) (by omega)) (by simpa using hi)
    show (confAt (c :: l) || confL l) = _
    unfold confAt
    rw [show markL.isPrefixOf (c :: l) = false from h 0 (by omega), Bool.false_and, Bool.false_or, this]; rfl
theorem index_cases : ∀ (l : List UInt8), (Lib.index l markL = -1 ∧ ∀ j, Lib.occAt l markL j = false) ∨ ∃ i : Nat, Lib.index l markL = i ∧ i + 15 ≤ l.length ∧ Lib.occAt l markL i = true ∧ ∀ j, j < i → Lib.occAt l markL j = false
  | [] => .inl ⟨rfl, fun j => by cases j <;> rfl⟩
  | c :: l => by
    cases h : markL.isPrefixOf (c :: l)
    · rcases index_cases l with ⟨h1, h2⟩ | ⟨i, h1, h2, h3, h4⟩
      · refine .inl ⟨by unfold Lib.index; rw [h, h1]; rfl, fun j => ?_⟩
        cases j with
        | zero => exact h
        | succ j => exact h2 j
      · refine .inr ⟨i + 1, ?_, by simp; omega, h3, fun j hj => ?_⟩
        · unfold Lib.index
          rw [h, h1, if_neg (by simp), if_neg (by intro hh; simp at hh; try omega)]; rfl
        · cases j with
          | zero => exact h
          | succ j => exact h4 j (by omega)
    · refine .inr ⟨0, by unfold Lib.index; rw [h]; rfl, ?_, h, fun j hj => absurd hj (Nat.not_lt_zero _)⟩
      have := Lib.occAt_room (s := c :: l) (sub := markL) (i := 0) h
      rcases this with h1 | h1
      · simpa [markL] using h1
      · cases h1
def sizeV : Value → Nat
  | .string b => b.size
  | _ => 0
theorem mark_toList : (⟨#[46, 115, 121, 110, 99, 45, 99, 111, 110, 102, 108, 105, 99, 116, 45]⟩ : ByteArray).data.toList = markL := rfl
theorem ext_to (s : ByteArray) (k : Nat) : (s.extract k s.size).toList = s.toList.drop k := by
  rw [toList_extract, List.take_of_length_le (by rw [List.length_drop, len_toList]; exact Nat.le_refl _)]

set_option maxHeartbeats 1000000 in
set_option maxRecDepth 100000 in
theorem isConflict_any (s : ByteArray) (w : World) (hs : s.size < 4294967281) (E : Env w) :
    Calls Tryd.prog 38 #[.string s] w fun e w' => e = .returned (.bool (confL (baseS s).toList)) ∧ Ext w w' := by
  obtain ⟨m, hm⟩ := E.maxlen
  have HS := Lib.hid (split_any s w (by omega))
  have hbs := baseS_le s
  obtain ⟨R, hR⟩ : ∃ R, R = confL (baseS s).toList := ⟨_, rfl⟩
  rw [← hR]
  generalize baseS s = b at *
  generalize parentS s = p at *
  go_enter Tryd.func38, Tryd.ntmps38
  go_wp2_with fail
  refine HS.out.mono ?_
  rintro e w1 ⟨rfl, n, rfl⟩
  have HMX := Lib.hid (show (w.drewN n).cell? ⟨0, 0, none⟩ = some (.int .i64 m) from hm)
  have HR := Lib.hid hR
  clear hR hm
  go_wp2_with fail
  go_loop [4] (fun bv => Hid (∃ b' : ByteArray, bv = .string b' ∧ b'.size ≤ s.size ∧ R = confL b'.toList)) (fun bv => sizeV bv)
  case atStart => exact ⟨b, rfl, hbs, HR.out⟩
  case round =>
    obtain ⟨b', rfl, hb', hr⟩ := hrel.out
    clear hrel
    have HI := Lib.hid (Tryd.strings_Index b' ⟨#[46, 115, 121, 110, 99, 45, 99, 111, 110, 102, 108, 105, 99, 116, 45]⟩ m (w.drewN n) (by omega) HMX.out)
    have HR2 := Lib.hid hr
    clear hr
    rw [mark_toList, ← Lib.toList_data] at HI
    rcases index_cases b'.toList with ⟨h1, h2⟩ | ⟨i, h1, h2, h3, h4⟩
    · rw [h1] at HI
      have HF := Lib.hid (HR2.out.trans (conf_none _ h2))
      clear h1 h2
      go_wp2_with fail
      refine HI.out.mono ?_
      rintro e w2 ⟨rfl, rfl⟩
      go_wp2_with fail
      go_ret
      exact ⟨ret_bool HF.out.symm, (Ext.refl w).drewN n⟩
    · rw [h1] at HI
      rw [len_toList] at h2
      have hcf := conf_first i b'.toList h4 (by rw [len_toList]; omega)
      rw [show markL.isPrefixOf (b'.toList.drop i) = true from h3, Bool.and_true, List.drop_drop] at hcf
      obtain ⟨r, hrr⟩ : ∃ r, r = b'.extract (i + 15) b'.size := ⟨_, rfl⟩
      have hrl : r.toList = b'.toList.drop (i + 15) := by rw [hrr, ext_to]
      have hrz : r.size ≤ b'.size := by rw [hrr]; simp
      have hnl : (b'.extract (i + 1) b'.size).toList = b'.toList.drop (i + 1) := ext_to _ _
      rw [← hrl, ← hnl, ← HR2.out] at hcf
      have HCF := Lib.hid hcf
      have HRR := Lib.hid hrr.symm
      have HD1 := fun w => Lib.hid (digits10 r w (by unfold maxLen; omega))
      have HP := fun w => Lib.hid (Tryd.strings_HasPrefix (r.extract 10 r.size) ⟨#[45]⟩ w)
      have HD2 := fun w => Lib.hid (digits2 (r.extract 11 r.size) w (by unfold maxLen; simp; omega))
      rw [← Lib.toList_data, ext_to] at HP
      rw [ext_to] at HD2
      have hok : okTail r.toList = (digB r.toList 10 && Lib.hasPrefix (r.toList.drop 10) [45] && digB (r.toList.drop 11) 2) := rfl
      have hz1 : digB r.toList 10 = true → 10 ≤ r.size := fun h => by unfold digB at h; simp [len_toList] at h; exact h.1
      have hz2 : Lib.hasPrefix (r.toList.drop 10) [45] = true → 11 ≤ r.size := fun h => by
        have := (List.isPrefixOf_iff_prefix.1 (show ([45] : List UInt8).isPrefixOf (r.toList.drop 10) = true from h)).length_le; rw [List.length_drop, len_toList] at this; simp at this; omega
      rw [hok] at hcf
      clear HCF h1 h3 h4 hrl hnl hok
      have hfold := hrr.symm
      clear hrr
      obtain ⟨x, hx⟩ : ∃ x, x = digB r.toList 10 := ⟨_, rfl⟩
      obtain ⟨y, hy⟩ : ∃ y, y = Lib.hasPrefix (r.toList.drop 10) [45] := ⟨_, rfl⟩
      obtain ⟨z, hz⟩ : ∃ z, z = digB (r.toList.drop 11) 2 := ⟨_, rfl⟩
      rw [← hx] at hz1 HD1 hcf
      rw [← hy] at hz2 hcf
      rw [show Lib.hasPrefix (r.toList.drop 10) (⟨#[45]⟩ : ByteArray).data.toList = y from hy.symm] at HP
      rw [← hz] at HD2 hcf
      clear hx hy hz
      cases x
      · rw [Bool.false_and, Bool.false_and, Bool.false_or] at hcf
        have HCF := Lib.hid hcf
        clear hcf hz1 hz2 HP HD2
        go_wp2_with fail
        refine HI.out.mono ?_
        rintro e w2 ⟨rfl, hw2⟩
        obtain rfl := hw2.symm
        clear hw2
        go_wp2_with fail
        refine (HD1 _).out.mono ?_
        rintro e w3 ⟨rfl, hw3⟩
        obtain rfl := hw3.symm
        clear hw3
        go_wp2_with fail
        go_round
        case rel => exact ⟨b'.extract (i + 1) b'.size, rfl, by simp; omega, HCF.out⟩
        case measure => simp [sizeV]; omega
      · replace hz1 := hz1 rfl
        rw [Bool.true_and] at hcf
        cases y
        · rw [Bool.false_and, Bool.false_or] at hcf
          have HCF := Lib.hid hcf
          clear hcf hz2 HD2
          go_wp2_with fail
          refine HI.out.mono ?_
          rintro e w2 ⟨rfl, hw2⟩
          obtain rfl := hw2.symm
          clear hw2
          go_wp2_with fail
          refine (HD1 _).out.mono ?_
          rintro e w3 ⟨rfl, hw3⟩
          obtain rfl := hw3.symm
          clear hw3
          go_wp2_with fail
          refine (HP _).out.mono ?_
          rintro e w4 ⟨rfl, hw4⟩
          obtain rfl := hw4.symm
          clear hw4
          go_wp2_with fail
          go_round
          case rel => exact ⟨b'.extract (i + 1) b'.size, rfl, by simp; omega, HCF.out⟩
          case measure => simp [sizeV]; omega
        · replace hz2 := hz2 rfl
          rw [Bool.true_and] at hcf
          cases z
          · rw [Bool.false_or] at hcf
            have HCF := Lib.hid hcf
            clear hcf
            go_wp2_with fail
            refine HI.out.mono ?_
            rintro e w2 ⟨rfl, hw2⟩
            obtain rfl := hw2.symm
            clear hw2
            go_wp2_with fail
            refine (HD1 _).out.mono ?_
            rintro e w3 ⟨rfl, hw3⟩
            obtain rfl := hw3.symm
            clear hw3
            go_wp2_with fail
            refine (HP _).out.mono ?_
            rintro e w4 ⟨rfl, hw4⟩
            obtain rfl := hw4.symm
            clear hw4
            go_wp2_with fail
            refine (HD2 _).out.mono ?_
            rintro e w5 ⟨rfl, hw5⟩
            obtain rfl := hw5.symm
            clear hw5
            go_wp2_with fail
            go_round
            case rel => exact ⟨b'.extract (i + 1) b'.size, rfl, by simp; omega, HCF.out⟩
            case measure => simp [sizeV]; omega
          · rw [Bool.true_or] at hcf
            have HCF := Lib.hid hcf
            clear hcf
            go_wp2_with fail
            refine HI.out.mono ?_
            rintro e w2 ⟨rfl, hw2⟩
            obtain rfl := hw2.symm
            clear hw2
            go_wp2_with fail
            refine (HD1 _).out.mono ?_
            rintro e w3 ⟨rfl, hw3⟩
            obtain rfl := hw3.symm
            clear hw3
            go_wp2_with fail
            refine (HP _).out.mono ?_
            rintro e w4 ⟨rfl, hw4⟩
            obtain rfl := hw4.symm
            clear hw4
            go_wp2_with fail
            refine (HD2 _).out.mono ?_
            rintro e w5 ⟨rfl, hw5⟩
            obtain rfl := hw5.symm
            clear hw5
            go_wp2_with fail
            go_ret
            exact ⟨ret_bool HCF.out.symm, (Ext.refl w).drewN n⟩
end Go.Proofs.YtgojagdjlebnnaaDoor
