/- The order of texts, as a plain function on lists of bytes. No program in sight. What lies within a directory stands right behind it: the plain law. No program in sight. -/
import Derived.Test.YtldppmjjgljinaaGreatDoorBase
import Derived.Test.YtldppmjjgljinaaGreatDoorPathH
namespace Go.Proofs.YtldppmjjgljinaaGreatDoor

def cmpL : List UInt8 → List UInt8 → Int
  | [], [] => 0
  | [], _ :: _ => -1
  | _ :: _, [] => 1
  | x :: xs, y :: ys => if x = y then cmpL xs ys else if x = 47 then -1 else if y = 47 then 1 else if x.toNat < y.toNat then -1 else 1

def rankL (l : List UInt8) (i : Nat) : Int := match l[i]? with
  | none => 0
  | some c => if c = 47 then 1 else 2 + c.toNat

theorem cmpL_same {l m : List UInt8} {k : Nat} {x : UInt8} (h1 : l[k]? = some x) (h2 : m[k]? = some x) : cmpL (l.drop k) (m.drop k) = cmpL (l.drop (k + 1)) (m.drop (k + 1)) := by
  obtain ⟨a1, b1⟩ := List.getElem?_eq_some_iff.1 h1
  obtain ⟨a2, b2⟩ := List.getElem?_eq_some_iff.1 h2
  rw [List.drop_eq_getElem_cons a1, List.drop_eq_getElem_cons a2, b1, b2]
  simp [cmpL]
theorem cmpL_diff {l m : List UInt8} {k : Nat} {x y : UInt8} (h1 : l[k]? = some x) (h2 : m[k]? = some y) (h : x ≠ y) : cmpL (l.drop k) (m.drop k) = if x = 47 then -1 else if y = 47 then 1 else if x.toNat < y.toNat then -1 else 1 := by
  obtain ⟨a1, b1⟩ := List.getElem?_eq_some_iff.1 h1
  obtain ⟨a2, b2⟩ := List.getElem?_eq_some_iff.1 h2
  rw [List.drop_eq_getElem_cons a1, List.drop_eq_getElem_cons a2, b1, b2]
  simp [cmpL, h]
theorem cmpL_left {l m : List UInt8} {k : Nat} (h1 : l.length ≤ k) (h2 : k < m.length) : cmpL (l.drop k) (m.drop k) = -1 := by
  rw [List.drop_of_length_le h1, List.drop_eq_getElem_cons h2]; rfl
theorem cmpL_right {l m : List UInt8} {k : Nat} (h1 : k < l.length) (h2 : m.length ≤ k) : cmpL (l.drop k) (m.drop k) = 1 := by
  rw [List.drop_of_length_le h2, List.drop_eq_getElem_cons h1]; rfl
theorem cmpL_both {l m : List UInt8} {k : Nat} (h1 : l.length ≤ k) (h2 : m.length ≤ k) : cmpL (l.drop k) (m.drop k) = 0 := by
  rw [List.drop_of_length_le h2, List.drop_of_length_le h1]; rfl

theorem cmpL_self : ∀ l : List UInt8, cmpL l l = 0
  | [] => rfl
  | x :: xs => by simp [cmpL, cmpL_self xs]
theorem cmpL_vals : ∀ l m : List UInt8, cmpL l m = -1 ∨ cmpL l m = 0 ∨ cmpL l m = 1
  | [], [] => by simp [cmpL]
  | [], _ :: _ => by simp [cmpL]
  | _ :: _, [] => by simp [cmpL]
  | x :: xs, y :: ys => by
    unfold cmpL
    split
    · exact cmpL_vals xs ys
    · split <;> (try split) <;> (try split) <;> simp
theorem cmpL_zero : ∀ l m : List UInt8, cmpL l m = 0 → l = m
  | [], [], _ => rfl
  | [], _ :: _, h => by simp [cmpL] at h
  | _ :: _, [], h => by simp [cmpL] at h
  | x :: xs, y :: ys, h => by
    unfold cmpL at h
    split at h
    · rename_i e; rw [e, cmpL_zero xs ys h]
    · split at h
      · simp at h
      · split at h
        · simp at h
        · split at h <;> simp at h
theorem cmpL_anti : ∀ l m : List UInt8, cmpL m l = -cmpL l m
  | [], [] => rfl
  | [], _ :: _ => rfl
  | _ :: _, [] => rfl
  | x :: xs, y :: ys => by
    unfold cmpL
    by_cases e : x = y
    · simp [e, cmpL_anti xs ys]
    · have e' : ¬ y = x := fun h => e h.symm
      have hn : x.toNat ≠ y.toNat := fun h => e (UInt8.toNat_inj.1 h)
      rw [if_neg e, if_neg e']
      by_cases c1 : x = 47
      · have c2 : ¬ y = 47 := fun h => e (c1.trans h.symm)
        rw [if_neg c2, if_pos c1, if_pos c1]; rfl
      · by_cases c2 : y = 47
        · simp [c1, c2]
        · rw [if_neg c1, if_neg c2, if_neg c1, if_neg c2]
          by_cases c3 : x.toNat < y.toNat
          · rw [if_pos c3, if_neg (by omega)]; rfl
          · rw [if_neg c3, if_pos (by omega)]
theorem cmpL_trans : ∀ l m n : List UInt8, cmpL l m = -1 → cmpL m n = -1 → cmpL l n = -1
  | [], [], _, h, _ => by simp [cmpL] at h
  | [], _ :: _, [], _, h => by simp [cmpL] at h
  | [], _ :: _, _ :: _, _, _ => rfl
  | _ :: _, [], _, h, _ => by simp [cmpL] at h
  | _ :: _, _ :: _, [], _, h => by simp [cmpL] at h
  | x :: xs, y :: ys, z :: zs, h1, h2 => by
    unfold cmpL at h1 h2 ⊢
    have key : ∀ a b : UInt8, a = b ↔ a.toNat = b.toNat := fun a b => UInt8.toNat_inj.symm
    by_cases e1 : x = y
    · by_cases e2 : y = z
      · rw [if_pos e1] at h1
        rw [if_pos e2] at h2
        rw [if_pos (e1.trans e2)]
        exact cmpL_trans xs ys zs h1 h2
      · subst e1
        rw [if_neg e2] at h2 ⊢
        exact h2
    · by_cases e2 : y = z
      · subst e2
        rw [if_neg e1] at h1 ⊢
        exact h1
      · rw [if_neg e1] at h1
        rw [if_neg e2] at h2
        by_cases c1 : x = 47
        · have : ¬ x = z := by
            intro h
            have cy : ¬ y = 47 := fun h' => e1 (c1.trans h'.symm)
            rw [if_neg cy, if_pos (h.symm.trans c1)] at h2
            simp at h2
          rw [if_neg this, if_pos c1]
        · rw [if_neg c1] at h1
          by_cases c2 : y = 47
          · rw [if_pos c2] at h1; simp at h1
          · rw [if_neg c2] at h1 h2
            by_cases c3 : z = 47
            · rw [if_pos c3] at h2; simp at h2
            · rw [if_neg c3] at h2
              have l1 : x.toNat < y.toNat := by
                apply Classical.byContradiction; intro h; rw [if_neg h] at h1; simp at h1
              have l2 : y.toNat < z.toNat := by
                apply Classical.byContradiction; intro h; rw [if_neg h] at h2; simp at h2
              have : ¬ x = z := by rw [key]; omega
              rw [if_neg this, if_neg c1, if_neg c3, if_pos (by omega)]
end Go.Proofs.YtldppmjjgljinaaGreatDoor

namespace Go.Proofs.YtldppmjjgljinaaGreatDoor

theorem cmpL_prefix : ∀ (d : List UInt8) (c : UInt8) (r : List UInt8), cmpL d (d ++ c :: r) = -1
  | [], _, _ => rfl
  | x :: xs, c, r => by
    show cmpL (x :: xs) (x :: (xs ++ c :: r)) = -1
    rw [cmpL, if_pos rfl, cmpL_prefix xs c r]

theorem cmpL_between : ∀ (d q r : List UInt8), cmpL d q = -1 → cmpL q (d ++ 47 :: r) = -1 → ∃ r', q = d ++ 47 :: r'
  | [], [], _, h, _ => by simp [cmpL] at h
  | [], y :: ys, r, _, h => by
    by_cases hy : y = 47
    · exact ⟨ys, by rw [hy]; rfl⟩
    · have : cmpL (y :: ys) (47 :: r) = 1 := by simp [cmpL, hy]
      have h' : cmpL (y :: ys) (47 :: r) = -1 := h
      rw [this] at h'; simp at h'
  | x :: xs, [], _, h, _ => by simp [cmpL] at h
  | x :: xs, y :: ys, r, h1, h2 => by
    by_cases e : x = y
    · subst e
      have h1' : cmpL xs ys = -1 := by simpa [cmpL] using h1
      have h2' : cmpL ys (xs ++ 47 :: r) = -1 := by
        have : cmpL (x :: ys) (x :: (xs ++ 47 :: r)) = -1 := h2
        simpa [cmpL] using this
      obtain ⟨r', hr⟩ := cmpL_between xs ys r h1' h2'
      exact ⟨r', by rw [hr]; rfl⟩
    · exfalso
      have h3 : cmpL (y :: ys) (x :: (xs ++ 47 :: r)) = -1 := h2
      have a1 : cmpL (x :: xs) (y :: ys) = cmpL [x] [y] := by simp [cmpL, e]
      have e' : ¬ y = x := fun h => e h.symm
      have a2 : cmpL (y :: ys) (x :: (xs ++ 47 :: r)) = cmpL [y] [x] := by simp [cmpL, e']
      have a3 := cmpL_anti [x] [y]
      rw [a1] at h1
      rw [a2, a3, h1] at h3
      simp at h3

theorem mayB_ne {s : ByteArray} (h : mayB s = true) : s.toList ≠ [] := by
  intro e
  rw [mayB_list, e] at h
  simp [mayL, piecesL, splitAux, nameB] at h

theorem hasPrefix_iff (p d : List UInt8) : Lib.hasPrefix p d = true ↔ ∃ r, p = d ++ r := by
  rw [← Lib.hasPrefix_of_take]
  simp only [Bool.and_eq_true, decide_eq_true_eq, beq_iff_eq]
  constructor
  · rintro ⟨_, h⟩
    exact ⟨p.drop d.length, (List.take_append_drop d.length p).symm.trans (by rw [h])⟩
  · rintro ⟨r, rfl⟩
    simp

theorem within_form {p d : ByteArray} (hd : mayB d = true) (h : withinB p d = true) : ∃ r, p.toList = d.toList ++ 47 :: r := by
  unfold withinB at h
  have hne := mayB_ne hd
  have he : d.toList.isEmpty = false := by cases hl : d.toList with | nil => exact absurd hl hne | cons a b => rfl
  rw [he, hd] at h
  simp only [Bool.and_eq_true, Bool.false_or, Bool.true_and] at h
  obtain ⟨r, hr⟩ := (hasPrefix_iff _ _).1 h.2
  exact ⟨r, by rw [hr]; simp⟩

theorem behind_less (d p : ByteArray) (hd : mayB d = true) (h : withinB p d = true) : cmpL d.toList p.toList = -1 := by
  obtain ⟨r, hr⟩ := within_form hd h
  rw [hr]; exact cmpL_prefix _ _ _

theorem behind_between (d p q : ByteArray) (hd : mayB d = true) (h : withinB p d = true) (hq : mayB q = true) (h1 : cmpL d.toList q.toList < 0) (h2 : cmpL q.toList p.toList < 0) : withinB q d = true := by
  obtain ⟨r, hr⟩ := within_form hd h
  have e1 : cmpL d.toList q.toList = -1 := by rcases cmpL_vals d.toList q.toList with h | h | h <;> omega
  have e2 : cmpL q.toList p.toList = -1 := by rcases cmpL_vals q.toList p.toList with h | h | h <;> omega
  rw [hr] at e2
  obtain ⟨r', hr'⟩ := cmpL_between _ _ _ e1 e2
  unfold withinB
  rw [hq, hd, (hasPrefix_iff _ _).2 ⟨r', by rw [hr']; simp⟩]
  simp
end Go.Proofs.YtldppmjjgljinaaGreatDoor
