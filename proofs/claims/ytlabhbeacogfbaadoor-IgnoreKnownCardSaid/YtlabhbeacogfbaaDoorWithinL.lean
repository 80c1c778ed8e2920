/- What lies within what a pattern matches is matched, too; the plain law. -/
import Derived.Test.YtlabhbeacogfbaaDoorLawB
namespace Go.Proofs.YtlabhbeacogfbaaDoor
open Go.RowKit

theorem matchL_within (p : Pat) (s n : Txt) (h : matchL p s = true) (hl : (s ++ 47 :: n).length ≤ 160) : matchL p (s ++ 47 :: n) = true := by
  unfold matchL at *
  rw [Bool.and_eq_true, decide_eq_true_eq, List.any_eq_true] at h
  rw [Bool.and_eq_true, decide_eq_true_eq, List.any_eq_true]
  obtain ⟨_, a, ha, h⟩ := h
  rw [Bool.and_eq_true, List.any_eq_true] at h
  obtain ⟨h1, b, hb, h⟩ := h
  rw [Bool.and_eq_true, Bool.and_eq_true, decide_eq_true_eq] at h
  obtain ⟨⟨hab, he⟩, hw⟩ := h
  rw [List.mem_range] at ha hb
  refine ⟨hl, a, List.mem_range.2 (by simp; omega), ?_⟩
  rw [Bool.and_eq_true, List.any_eq_true]
  refine ⟨?_, b, List.mem_range.2 (by simp; omega), ?_⟩
  · unfold startL at *
    rcases Nat.eq_zero_or_pos a with h0 | h0
    · subst h0; rfl
    · rw [List.getElem?_append_left (by omega)]; exact h1
  · rw [Bool.and_eq_true, Bool.and_eq_true, decide_eq_true_eq]
    refine ⟨⟨hab, ?_⟩, ?_⟩
    · unfold endL at *
      rcases Nat.lt_or_ge b s.length with hlt | hge
      · rw [List.getElem?_append_left hlt]
        rw [Bool.or_eq_true] at he ⊢
        rcases he with he | he
        · rw [beq_iff_eq] at he; omega
        · exact .inr he
      · obtain rfl : b = s.length := by omega
        rw [List.getElem?_append_right (Nat.le_refl _), Nat.sub_self]
        simp
    · rw [List.take_append_of_le_length (by omega)]; exact hw

theorem firstL_one (t s : Txt) (p : Pat) (hp : patL t = .ok p) : firstL [t] s = if matchL p s then (!p.marks.neg, !p.marks.neg && p.marks.del) else (false, false) := by
  rw [firstL, hp]; rfl

theorem within_same (t n : Txt) (s q : ByteArray) (b : Bool) (hq : q.toList = s.toList ++ 47 :: n) (h : matchesL [t] s = (true, b)) (hm : mayB q = true) : matchesL [t] q = (true, b) := by
  have hl : (s.toList ++ 47 :: n).length ≤ 160 := by
    rw [← hq]
    rw [mayB_list] at hm
    unfold mayL at hm
    simp only [Bool.and_eq_true, decide_eq_true_eq] at hm
    exact hm.1.1
  unfold matchesL at *
  rw [if_pos hm]
  split at h
  · cases hp : patL t with
    | error k => rw [firstL, hp] at h; simp [firstL] at h
    | ok p =>
      rw [firstL_one _ _ _ hp] at h
      rw [firstL_one _ _ _ hp, hq]
      cases hmt : matchL p s.toList with
      | false => rw [hmt] at h; simp at h
      | true => rw [matchL_within p _ n hmt hl]; rw [hmt] at h; exact h
  · simp at h

theorem parse_fine {fs : List (ByteArray × ByteArray)} {name : ByteArray} {ts : List Txt} (h : parseL (fsL fs) name.toList = .ok ts) : ts.length ≤ 64 ∧ ∀ t ∈ ts, ∃ p, patL t = .ok p := by
  unfold parseL at h
  split at h
  · cases h
  · rename_i st hr
    cases h
    have := readL_fine _ _ _ _ _ _ (by simp) (by simp) hr
    exact ⟨this.len, this.pat⟩
end Go.Proofs.YtlabhbeacogfbaaDoor
