/- What lies within a directory stands right behind it: the plain law. No program in sight. -/
import Derived.Test.YtldppmjjgljinaaGreatDoorPathH
import Derived.Test.YtldppmjjgljinaaGreatDoorCmpL
namespace Go.Proofs.YtldppmjjgljinaaGreatDoor

theorem cmpL_prefix : ∀ (d : List UInt8) (c : UInt8) (r : List UInt8), cmpL d (d ++ c :: r) = -1
  | [], _, _ => rfl
  | x :: xs, c, r => by
    show cmpL (x :: xs) (x :: (xs ++ c :: r)) = -1
    rw [cmpL, if_pos rfl, cmpL_prefix xs c r]

theorem cmpL_between : ∀ (d q r : List UInt8), cmpL d q = -1 → cmpL q (d ++ 47 :: r) = -1 → ∃ r', q = d ++ 47 :: r'
  | [], [], _, h, _ => by simp [cmpL] at h
  | [], y :: ys, r, _, h => by
    by_cases hy : y = 47
    · exact ⟨ys, by rw [hy]; rfl⟩
    · have : cmpL (y :: ys) (47 :: r) = 1 := by simp [cmpL, hy]
      have h' : cmpL (y :: ys) (47 :: r) = -1 := h
      rw [this] at h'; simp at h'
  | x :: xs, [], _, h, _ => by simp [cmpL] at h
  | x :: xs, y :: ys, r, h1, h2 => by
    by_cases e : x = y
    · subst e
      have h1' : cmpL xs ys = -1 := by simpa [cmpL] using h1
      have h2' : cmpL ys (xs ++ 47 :: r) = -1 := by
        have : cmpL (x :: ys) (x :: (xs ++ 47 :: r)) = -1 := h2
        simpa [cmpL] using this
      obtain ⟨r', hr⟩ := cmpL_between xs ys r h1' h2'
      exact ⟨r', by rw [hr]; rfl⟩
    · exfalso
      have h3 : cmpL (y :: ys) (x :: (xs ++ 47 :: r)) = -1 := h2
      have a1 : cmpL (x :: xs) (y :: ys) = cmpL [x] [y] := by simp [cmpL, e]
      have e' : ¬ y = x := fun h => e h.symm
      have a2 : cmpL (y :: ys) (x :: (xs ++ 47 :: r)) = cmpL [y] [x] := by simp [cmpL, e']
      have a3 := cmpL_anti [x] [y]
      rw [a1] at h1
      rw [a2, a3, h1] at h3
      simp at h3

theorem mayB_ne {s : ByteArray} (h : mayB s = true) : s.toList ≠ [] := by
  intro e
  rw [mayB_list, e] at h
  simp [mayL, piecesL, splitAux, nameB] at h

theorem hasPrefix_iff (p d : List UInt8) : Lib.hasPrefix p d = true ↔ ∃ r, p = d ++ r := by
  rw [← Lib.hasPrefix_of_take]
  simp only [Bool.and_eq_true, decide_eq_true_eq, beq_iff_eq]
  constructor
  · rintro ⟨_, h⟩
    exact ⟨p.drop d.length, (List.take_append_drop d.length p).symm.trans (by rw [h])⟩
  · rintro ⟨r, rfl⟩
    simp

theorem within_form {p d : ByteArray} (hd : mayB d = true) (h : withinB p d = true) : ∃ r, p.toList = d.toList ++ 47 :: r := by
  unfold withinB at h
  have hne := mayB_ne hd
  have he : d.toList.isEmpty = false := by cases hl : d.toList with | nil => exact absurd hl hne | cons a b => rfl
  rw [he, hd] at h
  simp only [Bool.and_eq_true, Bool.false_or, Bool.true_and] at h
  obtain ⟨r, hr⟩ := (hasPrefix_iff _ _).1 h.2
  exact ⟨r, by rw [hr]; simp⟩

theorem behind_less (d p : ByteArray) (hd : mayB d = true) (h : withinB p d = true) : cmpL d.toList p.toList = -1 := by
  obtain ⟨r, hr⟩ := within_form hd h
  rw [hr]; exact cmpL_prefix _ _ _

theorem behind_between (d p q : ByteArray) (hd : mayB d = true) (h : withinB p d = true) (hq : mayB q = true) (h1 : cmpL d.toList q.toList < 0) (h2 : cmpL q.toList p.toList < 0) : withinB q d = true := by
  obtain ⟨r, hr⟩ := within_form hd h
  have e1 : cmpL d.toList q.toList = -1 := by rcases cmpL_vals d.toList q.toList with h | h | h <;> omega
  have e2 : cmpL q.toList p.toList = -1 := by rcases cmpL_vals q.toList p.toList with h | h | h <;> omega
  rw [hr] at e2
  obtain ⟨r', hr'⟩ := cmpL_between _ _ _ e1 e2
  unfold withinB
  rw [hq, hd, (hasPrefix_iff _ _).2 ⟨r', by rw [hr']; simp⟩]
  simp
end Go.Proofs.YtldppmjjgljinaaGreatDoor
