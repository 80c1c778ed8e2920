/- Contracts of the small functions of caravan/glob and caravan/caravanref07, 08: folding, a byte that is written, what a text begins with, ranges. -/
import Derived.Test.YtlabhbeacogfbaaDoorGlobS
import Derived.Test.YtlabhbeacogfbaaDoorRefA
import Derived.Test.YtlabhbeacogfbaaDoorShelf
namespace Go.Proofs.YtlabhbeacogfbaaDoor
open Go.RowKit

theorem lower_any (c : UInt8) (w : World) : Calls Tryd.prog 91 #[.int .u8 c.toNat] w fun e w' => e = .returned (.int .u8 (lowerC c).toNat) ∧ w' = w := by
  have hc := c.toNat_lt
  cases h : decide (65 ≤ c.toNat) && decide (c.toNat ≤ 90)
  · have HF : lowerC c = c := by rw [lowerC, h]; rfl
    rw [HF]
    clear HF
    go_enter Tryd.func91, Tryd.ntmps91
    go_wp2
    all_goals (first | (go_ret; exact ⟨rfl, rfl⟩) | (exfalso; simp at *; omega))
  · have HF : (lowerC c).toNat = c.toNat + 32 := by
      rw [lowerC, h]
      simp at h
      rw [if_pos rfl, UInt8.toNat_add]
      have : (32 : UInt8).toNat = 32 := rfl
      omega
    rw [HF]
    clear HF
    go_enter Tryd.func91, Tryd.ntmps91
    go_wp2
    all_goals (first | (go_ret; exact ⟨ret_int (by simp at *; omega), rfl⟩) | (go_ret; exact ⟨rfl, rfl⟩) | (exfalso; simp at *; omega))
theorem upper_any (c : UInt8) (w : World) : Calls Tryd.prog 94 #[.int .u8 c.toNat] w fun e w' => e = .returned (.int .u8 (upperC c).toNat) ∧ w' = w := by
  have hc := c.toNat_lt
  cases h : decide (97 ≤ c.toNat) && decide (c.toNat ≤ 122)
  · have HF : upperC c = c := by rw [upperC, h]; rfl
    rw [HF]
    clear HF
    go_enter Tryd.func94, Tryd.ntmps94
    go_wp2
    all_goals (first | (go_ret; exact ⟨rfl, rfl⟩) | (exfalso; simp at *; omega))
  · have HF : (upperC c).toNat = c.toNat - 32 := by
      rw [upperC, h]
      simp at h
      rw [if_pos rfl, UInt8.toNat_sub]
      have : (32 : UInt8).toNat = 32 := rfl
      omega
    rw [HF]
    clear HF
    go_enter Tryd.func94, Tryd.ntmps94
    go_wp2
    all_goals (first | (go_ret; exact ⟨ret_int (by simp at *; omega), rfl⟩) | (go_ret; exact ⟨rfl, rfl⟩) | (exfalso; simp at *; omega))

theorem other_any (c : UInt8) (w : World) : Calls Tryd.prog 99 #[.int .u8 c.toNat] w fun e w' => e = .returned (.int .u8 (otherC c).toNat) ∧ w' = w := by
  have hc := c.toNat_lt
  cases h : decide (97 ≤ c.toNat) && decide (c.toNat ≤ 122)
  · cases h2 : decide (65 ≤ c.toNat) && decide (c.toNat ≤ 90)
    · have HF : otherC c = c := by rw [otherC, h, h2]; rfl
      rw [HF]
      clear HF
      go_enter Tryd.func99, Tryd.ntmps99
      go_wp2
      all_goals (first | (go_ret; exact ⟨rfl, rfl⟩) | (exfalso; simp at *; omega))
    · have HF : (otherC c).toNat = c.toNat + 32 := by
        rw [otherC, h, h2]
        simp at h2
        rw [if_neg (by decide), if_pos rfl, UInt8.toNat_add]
        have : (32 : UInt8).toNat = 32 := rfl
        omega
      rw [HF]
      clear HF
      go_enter Tryd.func99, Tryd.ntmps99
      go_wp2
      all_goals (first | (go_ret; exact ⟨ret_int (by simp at *; omega), rfl⟩) | (go_ret; exact ⟨rfl, rfl⟩) | (exfalso; simp at *; omega))
  · have HF : (otherC c).toNat = c.toNat - 32 := by
      rw [otherC, h]
      simp at h
      rw [if_pos rfl, UInt8.toNat_sub]
      have : (32 : UInt8).toNat = 32 := rfl
      omega
    rw [HF]
    clear HF
    go_enter Tryd.func99, Tryd.ntmps99
    go_wp2
    all_goals (first | (go_ret; exact ⟨ret_int (by simp at *; omega), rfl⟩) | (go_ret; exact ⟨rfl, rfl⟩) | (exfalso; simp at *; omega))

/-- The head of a text that is not empty. -/
theorem toList_cons (s : ByteArray) (h : 0 < s.size) : s.toList = s[0] :: (s.extract 1 s.size).toList := by
  rw [toList_extract, ← len_toList, List.take_of_length_le (by simp)]
  have h2 := getElem_toList s 0 h
  cases h3 : s.toList with
  | nil => rw [h3] at h2; cases h2
  | cons a t => rw [h3] at h2; simp at h2; rw [h2]; rfl
theorem toList_nil (s : ByteArray) (h : s.size = 0) : s.toList = [] := by
  rw [← List.length_eq_zero_iff, len_toList, h]

theorem toList_cons2 (s : ByteArray) (h : 1 < s.size) : s.toList = s[0] :: s[1] :: (s.extract 2 s.size).toList := by
  have h0 := getElem_toList s 0 (by omega)
  have h1 := getElem_toList s 1 h
  rw [toList_extract, List.take_of_length_le (by simp [len_toList])]
  cases h3 : s.toList with
  | nil => rw [h3] at h0; cases h0
  | cons a t => cases t with
    | nil => rw [h3] at h1; cases h1
    | cons b t => rw [h3] at h0 h1; simp at h0 h1; rw [h0, h1]; rfl

/-- What 'written' answers. -/
def wrS (s : ByteArray) : UInt8 × ByteArray × Bool :=
  match writtenL s.toList with
  | none => (0, ⟨#[]⟩, false)
  | some (c, r) => (c, bsL r, true)
/-- What 'one' answers. -/
def oneS (s : ByteArray) : UInt8 × Nat :=
  match writtenL s.toList with
  | none => (0, 0)
  | some (c, r) => (c, s.size - r.length)

/-- The cases of what is written ahead in a text. -/
theorem written_cases (s : ByteArray) :
    (s.size = 0 ∧ writtenL s.toList = none) ∨
    (∃ h : 0 < s.size, s[0] = 47 ∧ writtenL s.toList = none) ∨
    (∃ h : 0 < s.size, s[0] ≠ 47 ∧ s[0] ≠ 92 ∧ writtenL s.toList = some (s[0], (s.extract 1 s.size).toList)) ∨
    (∃ h : 0 < s.size, s[0] = 92 ∧ s.size = 1 ∧ writtenL s.toList = none) ∨
    (∃ h : 1 < s.size, s[0]'(by omega) = 92 ∧ s[1] = 47 ∧ writtenL s.toList = none) ∨
    (∃ h : 1 < s.size, s[0]'(by omega) = 92 ∧ s[1] ≠ 47 ∧ writtenL s.toList = some (s[1], (s.extract 2 s.size).toList)) := by
  by_cases h0 : s.size = 0
  · left; exact ⟨h0, by rw [toList_nil s h0]; rfl⟩
  · have hp : 0 < s.size := by omega
    by_cases h1 : s[0] = 92
    · by_cases h2 : s.size = 1
      · right; right; right; left
        exact ⟨hp, h1, h2, by rw [toList_cons s hp, h1, toList_nil (s.extract 1 s.size) (by simp; omega)]; rfl⟩
      · have hq : 1 < s.size := by omega
        have e : s.toList = (92 : UInt8) :: (s[1]'hq :: (s.extract 2 s.size).toList) := by rw [toList_cons2 s hq, h1]
        by_cases h3 : s[1] = 47
        · right; right; right; right; left
          exact ⟨hq, h1, h3, by rw [e, h3]; rfl⟩
        · right; right; right; right; right
          refine ⟨hq, h1, h3, ?_⟩
          rw [e]; simp [writtenL, h3]
    · by_cases h2 : s[0] = 47
      · right; left; exact ⟨hp, h2, by rw [toList_cons s hp, h2]; rfl⟩
      · right; right; left
        refine ⟨hp, h2, h1, ?_⟩
        rw [toList_cons s hp]; simp [writtenL, h1, h2]

theorem one_any (s : ByteArray) (w : World) (hs : s.size ≤ maxLen) :
    Calls Tryd.prog 73 #[.string s] w fun e w' => e = .returned (.tuple #[.int .u8 (oneS s).1.toNat, .int .i64 (oneS s).2]) ∧ w' = w := by
  unfold maxLen at hs
  rcases written_cases s with ⟨h0, h⟩ | ⟨h0, h1, h⟩ | ⟨h0, h1, h2, h⟩ | ⟨h0, h1, h2, h⟩ | ⟨h0, h1, h2, h⟩ | ⟨h0, h1, h2, h⟩
  · have HF : oneS s = (0, 0) := by rw [oneS, h]
    rw [HF]
    clear h HF
    go_enter Tryd.func73, Tryd.ntmps73
    go_wp2
    all_goals (first | (go_ret2; exact ⟨rfl, rfl⟩) | (exfalso; subst_vars; simp at *; done) | (exfalso; simp at *; omega))
  · have HF : oneS s = (0, 0) := by rw [oneS, h]
    rw [HF]
    clear h HF
    have n0 : ((s.size : Int) == 0) = false := beq_eq_false_iff_ne.2 (by omega)
    go_enter Tryd.func73, Tryd.ntmps73
    go_wp2
    all_goals (first | (go_ret2; exact ⟨rfl, rfl⟩) | (exfalso; subst_vars; simp at *; done) | (exfalso; simp at *; omega))
  · have HF : oneS s = (s[0], 1) := by rw [oneS, h]; simp only; congr 1; rw [len_toList]; simp; omega
    rw [HF]
    clear h HF
    have e1 : ((s[0].toNat : Int) == 47) = false := toNat_ne h1
    have e2 : ((s[0].toNat : Int) == 92) = false := toNat_ne h2
    have n0 : ((s.size : Int) == 0) = false := beq_eq_false_iff_ne.2 (by omega)
    go_enter Tryd.func73, Tryd.ntmps73
    go_wp2
    all_goals (first | (go_ret2; exact ⟨rfl, rfl⟩) | (exfalso; subst_vars; simp at *; done) | (exfalso; simp at *; omega))
  · have HF : oneS s = (0, 0) := by rw [oneS, h]
    rw [HF]
    clear h HF
    have n0 : ((s.size : Int) == 0) = false := beq_eq_false_iff_ne.2 (by omega)
    go_enter Tryd.func73, Tryd.ntmps73
    go_wp2
    all_goals (first | (go_ret2; exact ⟨rfl, rfl⟩) | (exfalso; subst_vars; simp at *; done) | (exfalso; simp at *; omega))
  · have HF : oneS s = (0, 0) := by rw [oneS, h]
    rw [HF]
    clear h HF
    have n0 : ((s.size : Int) == 0) = false := beq_eq_false_iff_ne.2 (by omega)
    go_enter Tryd.func73, Tryd.ntmps73
    go_wp2
    all_goals (first | (go_ret2; exact ⟨rfl, rfl⟩) | (exfalso; subst_vars; simp at *; done) | (exfalso; simp at *; omega))
  · have HF : oneS s = (s[1], 2) := by rw [oneS, h]; simp only; congr 1; rw [len_toList]; simp; omega
    rw [HF]
    clear h HF
    have e2 : ((s[1].toNat : Int) == 47) = false := toNat_ne h2
    have n0 : ((s.size : Int) == 0) = false := beq_eq_false_iff_ne.2 (by omega)
    go_enter Tryd.func73, Tryd.ntmps73
    go_wp2
    all_goals (first | (go_ret2; exact ⟨rfl, rfl⟩) | (exfalso; subst_vars; simp at *; done) | (exfalso; simp at *; omega))

theorem begins07_any (s p : ByteArray) (w : World) :
    Calls Tryd.prog 58 #[.string s, .string p] w fun e w' => e = .returned (.bool (Lib.hasPrefix s.toList p.toList)) ∧ w' = w := by
  by_cases h : p.size ≤ s.size
  · have HF : Lib.hasPrefix s.toList p.toList = ((s.extract 0 p.size).toList == p.toList) := by
      rw [toList_extract, List.drop_zero, Nat.sub_zero, Lib.hasPrefix, Bool.eq_iff_iff, List.isPrefixOf_iff_prefix, beq_iff_eq, List.prefix_iff_eq_take, len_toList]
      exact eq_comm
    rw [HF]
    clear HF
    go_enter Tryd.func58, Tryd.ntmps58
    go_wp2
    all_goals (first | (go_ret; exact ⟨rfl, rfl⟩) | (exfalso; simp at *; omega))
  · have HF : Lib.hasPrefix s.toList p.toList = false := by
      rw [Lib.hasPrefix, Bool.eq_false_iff]
      intro h2
      have := (List.isPrefixOf_iff_prefix.1 h2).length_le
      rw [len_toList, len_toList] at this
      omega
    rw [HF]
    clear HF
    go_enter Tryd.func58, Tryd.ntmps58
    go_wp2
    all_goals (first | (go_ret; exact ⟨rfl, rfl⟩) | (exfalso; simp at *; omega))

theorem begins08_any (s p : ByteArray) (w : World) :
    Calls Tryd.prog 53 #[.string s, .string p] w fun e w' => e = .returned (.bool (Lib.hasPrefix s.toList p.toList)) ∧ w' = w := by
  by_cases h : p.size ≤ s.size
  · have HF : Lib.hasPrefix s.toList p.toList = ((s.extract 0 p.size).toList == p.toList) := by
      rw [toList_extract, List.drop_zero, Nat.sub_zero, Lib.hasPrefix, Bool.eq_iff_iff, List.isPrefixOf_iff_prefix, beq_iff_eq, List.prefix_iff_eq_take, len_toList]
      exact eq_comm
    rw [HF]
    clear HF
    go_enter Tryd.func53, Tryd.ntmps53
    go_wp2
    all_goals (first | (go_ret; exact ⟨rfl, rfl⟩) | (exfalso; simp at *; omega))
  · have HF : Lib.hasPrefix s.toList p.toList = false := by
      rw [Lib.hasPrefix, Bool.eq_false_iff]
      intro h2
      have := (List.isPrefixOf_iff_prefix.1 h2).length_le
      rw [len_toList, len_toList] at this
      omega
    rw [HF]
    clear HF
    go_enter Tryd.func53, Tryd.ntmps53
    go_wp2
    all_goals (first | (go_ret; exact ⟨rfl, rfl⟩) | (exfalso; simp at *; omega))

set_option maxHeartbeats 1000000 in
theorem written_any (s : ByteArray) (w : World) (hs : s.size ≤ maxLen) :
    Calls Tryd.prog 79 #[.string s] w fun e w' => e = .returned (.tuple #[.int .u8 (wrS s).1.toNat, .string (wrS s).2.1, .bool (wrS s).2.2]) ∧ ∃ n, w' = w.drewN n := by
  unfold maxLen at hs
  rcases written_cases s with ⟨h0, h⟩ | ⟨h0, h1, h⟩ | ⟨h0, h1, h2, h⟩ | ⟨h0, h1, h2, h⟩ | ⟨h0, h1, h2, h⟩ | ⟨h0, h1, h2, h⟩
  · have HF : wrS s = (0, ⟨#[]⟩, false) := by rw [wrS, h]
    rw [HF]
    clear h HF
    go_enter Tryd.func79, Tryd.ntmps79
    go_wp2
    all_goals (first | (go_ret3; exact ⟨rfl, 0, rfl⟩) | (exfalso; simp at *; omega) | (go_quiet (fail); go_wp2_with fail; go_ret3; exact ⟨rfl, _, rfl⟩))
  · have HF : wrS s = (0, ⟨#[]⟩, false) := by rw [wrS, h]
    rw [HF]
    clear h HF
    have e2 : ((s[0].toNat : Int) == 92) = false := by rw [h1]; rfl
    have n0 : ((s.size : Int) == 0) = false := beq_eq_false_iff_ne.2 (by omega)
    go_enter Tryd.func79, Tryd.ntmps79
    go_wp2
    all_goals (first | (go_ret3; exact ⟨rfl, 0, rfl⟩) | (exfalso; simp at *; omega) | (go_quiet (fail); go_wp2_with fail; go_ret3; exact ⟨rfl, _, rfl⟩))
  · have HF : wrS s = (s[0], s.extract 1 s.size, true) := by rw [wrS, h]; simp only; congr 2; exact ba_ext (bsL_toList _)
    rw [HF]
    clear h HF
    have e1 : ((s[0].toNat : Int) == 47) = false := toNat_ne h1
    have e2 : ((s[0].toNat : Int) == 92) = false := toNat_ne h2
    have n0 : ((s.size : Int) == 0) = false := beq_eq_false_iff_ne.2 (by omega)
    go_enter Tryd.func79, Tryd.ntmps79
    go_wp2
    all_goals (first | (go_ret3; exact ⟨rfl, 0, rfl⟩) | (exfalso; simp at *; omega) | (go_quiet (fail); go_wp2_with fail; go_ret3; exact ⟨rfl, _, rfl⟩))
  · have HF : wrS s = (0, ⟨#[]⟩, false) := by rw [wrS, h]
    rw [HF]
    clear h HF
    have e3 : ((↑(s.size - 1) : Int) == 0) = true := by rw [beq_iff_eq]; omega
    go_enter Tryd.func79, Tryd.ntmps79
    go_wp2
    all_goals (first | (go_ret3; exact ⟨rfl, 0, rfl⟩) | (exfalso; simp at *; omega) | (go_quiet (fail); go_wp2_with fail; go_ret3; exact ⟨rfl, _, rfl⟩))
  · have HF : wrS s = (0, ⟨#[]⟩, false) := by rw [wrS, h]
    rw [HF]
    clear h HF
    have hx : (s.extract 1 s.size)[0]'(by simp; omega) = s[1] := by simp [ByteArray.getElem_extract]
    have e1 : (((s.extract 1 s.size)[0]'(by simp; omega)).toNat : Int) = 47 := by rw [hx, h2]; rfl
    have e2 : ((((s.extract 1 s.size)[0]'(by simp; omega)).toNat : Int) == 47) = true := by rw [e1]; rfl
    clear hx e1
    go_enter Tryd.func79, Tryd.ntmps79
    go_wp2
    all_goals (first | (go_ret3; exact ⟨rfl, 0, rfl⟩) | (exfalso; simp at *; omega))
  · have HF : wrS s = (s[1], s.extract 2 s.size, true) := by rw [wrS, h]; simp only; congr 2; exact ba_ext (bsL_toList _)
    rw [HF]
    clear h HF
    have hx : (s.extract 1 s.size)[0]'(by simp; omega) = s[1] := by simp [ByteArray.getElem_extract]
    have e1 : (((s.extract 1 s.size)[0]'(by simp; omega)).toNat : Int) ≠ 47 := by rw [hx]; intro e; exact h2 (UInt8.toNat_inj.1 (by simp; omega))
    have e2 : ((((s.extract 1 s.size)[0]'(by simp; omega)).toNat : Int) == 47) = false := beq_eq_false_iff_ne.2 e1
    have e3 : ((↑(s.size - 1) : Int) == 0) = false := beq_eq_false_iff_ne.2 (by omega)
    have HX := Lib.hid hx
    clear hx e1
    go_enter Tryd.func79, Tryd.ntmps79
    go_wp2
    go_quiet (fail)
    go_wp2_with fail
    go_ret3
    refine ⟨congrArg Ending.returned (congrArg Value.tuple ?_), _, rfl⟩
    have hy : (s.extract 1 s.size).extract 1 (s.size - 1) = s.extract 2 s.size := by
      apply ba_ext
      rw [toList_extract, toList_extract, toList_extract, List.drop_take, List.drop_drop]
      rw [List.take_take]
      congr 1
      omega
    simp only [← HX.out, ← hy]
    rfl
end Go.Proofs.YtlabhbeacogfbaaDoor
