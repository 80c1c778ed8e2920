/- The order of texts, as a plain function on lists of bytes. No program in sight. -/
import Derived.Test.YtgojagdjlebnnaaDoorBase
namespace Go.Proofs.YtgojagdjlebnnaaDoor

def cmpL : List UInt8 → List UInt8 → Int
  | [], [] => 0
  | [], _ :: _ => -1
  | _ :: _, [] => 1
  | x :: xs, y :: ys => if x = y then cmpL xs ys else if x = 47 then -1 else if y = 47 then 1 else if x.toNat < y.toNat then -1 else 1

def rankL (l : List UInt8) (i : Nat) : Int := match l[i]? with
  | none => 0
  | some c => if c = 47 then 1 else 2 + c.toNat

theorem cmpL_same {l m : List UInt8} {k : Nat} {x : UInt8} (h1 : l[k]? = some x) (h2 : m[k]? = some x) : cmpL (l.drop k) (m.drop k) = cmpL (l.drop (k + 1)) (m.drop (k + 1)) := by
  obtain ⟨a1, b1⟩ := List.getElem?_eq_some_iff.1 h1
  obtain ⟨a2, b2⟩ := List.getElem?_eq_some_iff.1 h2
  rw [List.drop_eq_getElem_cons a1, List.drop_eq_getElem_cons a2, b1, b2]
  simp [cmpL]
theorem cmpL_diff {l m : List UInt8} {k : Nat} {x y : UInt8} (h1 : l[k]? = some x) (h2 : m[k]? = some y) (h : x ≠ y) : cmpL (l.drop k) (m.drop k) = if x = 47 then -1 else if y = 47 then 1 else if x.toNat < y.toNat then -1 else 1 := by
  obtain ⟨a1, b1⟩ := List.getElem?_eq_some_iff.1 h1
  obtain ⟨a2, b2⟩ := List.getElem?_eq_some_iff.1 h2
  rw [List.drop_eq_getElem_cons a1, List.drop_eq_getElem_cons a2, b1, b2]
  simp [cmpL, h]
theorem cmpL_left {l m : List UInt8} {k : Nat} (h1 : l.length ≤ k) (h2 : k < m.length) : cmpL (l.drop k) (m.drop k) = -1 := by
  rw [List.drop_of_length_le h1, List.drop_eq_getElem_cons h2]; rfl
theorem cmpL_right {l m : List UInt8} {k : Nat} (h1 : k < l.length) (h2 : m.length ≤ k) : cmpL (l.drop k) (m.drop k) = 1 := by
  rw [List.drop_of_length_le h2, List.drop_eq_getElem_cons h1]; rfl
theorem cmpL_both {l m : List UInt8} {k : Nat} (h1 : l.length ≤ k) (h2 : m.length ≤ k) : cmpL (l.drop k) (m.drop k) = 0 := by
  rw [List.drop_of_length_le h2, List.drop_of_length_le h1]; rfl
end Go.Proofs.YtgojagdjlebnnaaDoor
