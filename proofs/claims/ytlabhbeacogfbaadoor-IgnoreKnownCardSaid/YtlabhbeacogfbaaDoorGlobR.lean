/- One range of a class, by places of a text. Plain; no walk. -/
import Derived.Test.YtlabhbeacogfbaaDoorGlobA
namespace Go.Proofs.YtlabhbeacogfbaaDoor
open Go.RowKit

theorem writtenL_suffix {s : List UInt8} {c : UInt8} {r : List UInt8} (h : writtenL s = some (c, r)) : r = s.drop (s.length - r.length) := by
  unfold writtenL at h
  split at h
  · cases h
  · split at h
    · split at h
      · cases h
      · split at h
        · cases h
        · cases h; rw [show (List.length (_ :: _ :: r)) - r.length = 2 from by simp; omega]; rfl
    · split at h
      · cases h
      · cases h; rw [show (List.length (_ :: r)) - r.length = 1 from by simp]; rfl

/-- What 'one' answers, in places. -/
theorem one_cases (u : ByteArray) : (oneS u = (0, 0) ∧ writtenL u.toList = none) ∨ ∃ c n, oneS u = (c, n) ∧ 0 < n ∧ n ≤ u.size ∧ writtenL u.toList = some (c, u.toList.drop n) := by
  unfold oneS
  cases h : writtenL u.toList with
  | none => left; exact ⟨rfl, rfl⟩
  | some x =>
    obtain ⟨c, r⟩ := x
    right
    have h1 := writtenL_lt h
    have h2 := writtenL_suffix h
    rw [len_toList] at h1 h2
    refine ⟨c, u.size - r.length, rfl, by omega, by omega, ?_⟩
    rw [← h2]

theorem drop_cons (s : ByteArray) (k : Nat) (h : k < s.size) : s.toList.drop k = s[k] :: s.toList.drop (k + 1) := by
  have h2 := getElem_toList s k h
  rw [List.getElem?_eq_some_iff] at h2
  obtain ⟨h3, h4⟩ := h2
  rw [List.drop_eq_getElem_cons h3, h4]
theorem ext_toList (s : ByteArray) (k : Nat) : (s.extract k s.size).toList = s.toList.drop k := by
  rw [toList_extract, List.take_of_length_le (by simp [len_toList])]

/-- Is there a dash, and behind it no bracket? -/
def dashAt (s : ByteArray) (k : Nat) : Prop := ∃ h : k + 1 < s.size, s[k] = 45 ∧ s[k + 1] ≠ 93

theorem rangeL_plain {l : List UInt8} {f : UInt8} {r : List UInt8} (h : writtenL l = some (f, r)) (hd : ∀ d u, r = 45 :: d :: u → d = 93) : rangeL l = some ((f, f), r) := by
  unfold rangeL
  rw [h]
  split
  · rename_i h2; cases h2
  · rename_i f' d u h2
    cases h2
    rw [hd d u rfl]; rfl
  · rename_i h2; cases h2; rfl
theorem rangeL_dash {l : List UInt8} {f d : UInt8} {u : List UInt8} (h : writtenL l = some (f, 45 :: d :: u)) (hd : d ≠ 93) :
    rangeL l = match writtenL (d :: u) with | none => none | some (t, r) => if decide (t.toNat < f.toNat) then none else some ((f, t), r) := by
  unfold rangeL
  rw [h]
  simp only [beq_iff_eq, hd, if_false]
  cases writtenL (d :: u) with
  | none => rfl
  | some x => rfl

theorem range_cases (s : ByteArray) (k : Nat) :
    (oneS (s.extract k s.size) = (0, 0) ∧ rangeL (s.toList.drop k) = none) ∨
    ∃ f n, oneS (s.extract k s.size) = (f, n) ∧ 0 < n ∧ k + n ≤ s.size ∧
      ((¬ dashAt s (k + n) ∧ rangeL (s.toList.drop k) = some ((f, f), s.toList.drop (k + n))) ∨
       (dashAt s (k + n) ∧
         ((oneS (s.extract (k + n + 1) s.size) = (0, 0) ∧ rangeL (s.toList.drop k) = none) ∨
          ∃ t m, oneS (s.extract (k + n + 1) s.size) = (t, m) ∧ 0 < m ∧ k + n + 1 + m ≤ s.size ∧
            ((t.toNat < f.toNat ∧ rangeL (s.toList.drop k) = none) ∨ (¬ t.toNat < f.toNat ∧ rangeL (s.toList.drop k) = some ((f, t), s.toList.drop (k + n + 1 + m))))))) := by
  rcases one_cases (s.extract k s.size) with ⟨h1, h2⟩ | ⟨f, n, h1, h2, h3, h4⟩
  · left
    refine ⟨h1, ?_⟩
    rw [ext_toList] at h2
    unfold rangeL
    rw [h2]
  · right
    have hk : k + n ≤ s.size := by simp at h3; omega
    refine ⟨f, n, h1, h2, hk, ?_⟩
    rw [ext_toList, List.drop_drop] at h4
    by_cases hd : dashAt s (k + n)
    · right
      refine ⟨hd, ?_⟩
      obtain ⟨hl, d1, d2⟩ := hd
      have e : s.toList.drop (k + n) = 45 :: s[k + n + 1] :: s.toList.drop (k + n + 2) := by
        rw [drop_cons s (k + n) (by omega), drop_cons s (k + n + 1) hl, d1]
      rw [e] at h4
      have hr := rangeL_dash h4 d2
      rw [← drop_cons s (k + n + 1) hl] at hr
      rcases one_cases (s.extract (k + n + 1) s.size) with ⟨g1, g2⟩ | ⟨t, m, g1, g2, g3, g4⟩
      · left
        rw [ext_toList] at g2
        exact ⟨g1, by rw [hr, g2]⟩
      · right
        rw [ext_toList, List.drop_drop] at g4
        refine ⟨t, m, g1, g2, by simp at g3; omega, ?_⟩
        rw [hr, g4]
        by_cases ht : t.toNat < f.toNat
        · left; exact ⟨ht, by simp [ht]⟩
        · right; exact ⟨ht, by simp [ht]⟩
    · left
      refine ⟨hd, rangeL_plain h4 ?_⟩
      intro d u hdu
      by_cases hl : k + n + 1 < s.size
      · rw [drop_cons s (k + n) (by omega), drop_cons s (k + n + 1) hl] at hdu
        simp only [List.cons.injEq] at hdu
        obtain ⟨q1, q2, _⟩ := hdu
        rw [← q2]
        by_cases q : s[k + n + 1] = 93
        · exact q
        · exact absurd ⟨hl, q1, q⟩ hd
      · have := congrArg List.length hdu
        simp [len_toList] at this
        omega
end Go.Proofs.YtlabhbeacogfbaaDoor
