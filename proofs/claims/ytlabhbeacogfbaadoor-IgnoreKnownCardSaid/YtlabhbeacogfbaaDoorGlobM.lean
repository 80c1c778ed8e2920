/- Where elements may come to their end, place by place; rows of bools in memory. Plain; no walk. -/
import Derived.Test.YtlabhbeacogfbaaDoorGlobD
namespace Go.Proofs.YtlabhbeacogfbaaDoor
open Go.RowKit

/-- May elements that begin at a have come to their end at i? -/
def endsL (f : Bool) (es : List GE) (s : List UInt8) (a i : Nat) : Bool := decide (a ≤ i) && wholeL f es ((s.take i).drop a)

theorem endsL_nil (f : Bool) (s : List UInt8) (a i : Nat) (hi : i ≤ s.length) : endsL f [] s a i = (i == a) := by
  rw [Bool.eq_iff_iff, endsL, wholeL_nil, Bool.and_eq_true, decide_eq_true_eq, List.isEmpty_iff_length_eq_zero, beq_iff_eq, List.length_drop, List.length_take]
  omega
theorem take_drop_snoc (s : List UInt8) (a i : Nat) (c : UInt8) (hi : 0 < i) (ha : a ≤ i - 1) (hc : s[i - 1]? = some c) : (s.take i).drop a = (s.take (i - 1)).drop a ++ [c] := by
  obtain ⟨k, rfl⟩ : ∃ k, i = k + 1 := ⟨i - 1, by omega⟩
  rw [Nat.add_sub_cancel] at *
  obtain ⟨hk, e⟩ := List.getElem?_eq_some_iff.1 hc
  rw [List.take_succ_eq_append_getElem hk, e, List.drop_append_of_le_length (by rw [List.length_take]; omega)]
theorem drop_take_self (s : List UInt8) (i : Nat) : (s.take i).drop i = [] := List.drop_of_length_le (by rw [List.length_take]; omega)
theorem endsL_many (f : Bool) (es : List GE) (e : GE) (h : e.many = true) (s : List UInt8) (a i : Nat) (c : UInt8) (hi : 0 < i) (hc : s[i - 1]? = some c) :
    endsL f (es ++ [e]) s a i = (endsL f es s a i || endsL f (es ++ [e]) s a (i - 1) && e.holds f c) := by
  unfold endsL
  by_cases h1 : a ≤ i - 1
  · rw [take_drop_snoc s a i c hi h1 hc, wholeL_snoc_many f es e h, show decide (a ≤ i) = true from by simp; omega, show decide (a ≤ i - 1) = true from by simpa using h1]
    simp
  · by_cases h2 : a = i
    · subst h2
      rw [drop_take_self, wholeL_snoc_nil, h, show decide (a ≤ a - 1) = false from by simp; omega]
      simp
    · rw [show decide (a ≤ i) = false from by simp; omega, show decide (a ≤ i - 1) = false from by simp; omega]
      rfl
theorem endsL_many_zero (f : Bool) (es : List GE) (e : GE) (h : e.many = true) (s : List UInt8) (a : Nat) : endsL f (es ++ [e]) s a 0 = endsL f es s a 0 := by
  unfold endsL
  rw [List.take_zero, List.drop_nil, wholeL_snoc_nil, h]; simp
theorem endsL_one (f : Bool) (es : List GE) (e : GE) (h : e.many = false) (s : List UInt8) (a i : Nat) (c : UInt8) (hi : 0 < i) (hc : s[i - 1]? = some c) :
    endsL f (es ++ [e]) s a i = (endsL f es s a (i - 1) && e.holds f c) := by
  unfold endsL
  by_cases h1 : a ≤ i - 1
  · rw [take_drop_snoc s a i c hi h1 hc, wholeL_snoc_one f es e h, show decide (a ≤ i) = true from by simp; omega, show decide (a ≤ i - 1) = true from by simpa using h1]
    simp
  · by_cases h2 : a = i
    · subst h2
      rw [drop_take_self, wholeL_snoc_nil, h, show decide (a ≤ a - 1) = false from by simp; omega]
      simp
    · rw [show decide (a ≤ i) = false from by simp; omega, show decide (a ≤ i - 1) = false from by simp; omega]
      rfl
theorem endsL_one_zero (f : Bool) (es : List GE) (e : GE) (h : e.many = false) (s : List UInt8) (a : Nat) : endsL f (es ++ [e]) s a 0 = false := by
  unfold endsL
  rw [List.take_zero, List.drop_nil, wholeL_snoc_nil, h]; simp

/-- A row of n bools, of which the first k are laid. -/
def blA (n k : Nat) (f : Nat → Bool) : Array Value := ((List.range n).map fun i => Value.bool (decide (i < k) && f i)).toArray
theorem blA_size (n k : Nat) (f : Nat → Bool) : (blA n k f).size = n := by simp [blA]
theorem blA_get (n k : Nat) (f : Nat → Bool) (i : Nat) (hi : i < n) : (blA n k f)[i]? = some (.bool (decide (i < k) && f i)) := by
  simp [blA, List.getElem?_range hi]
theorem blA_at (n k : Nat) (f : Nat → Bool) (i : Nat) (hi : i < n) (hk : i < k) : (blA n k f)[i]? = some (.bool (f i)) := by
  rw [blA_get n k f i hi, show decide (i < k) = true from by simpa using hk]; rfl
theorem blA_ext (n k : Nat) (f : Nat → Bool) (A : Array Value) (hs : A.size = n) (h : ∀ i, i < n → A[i]? = some (.bool (decide (i < k) && f i))) : A = blA n k f := by
  apply Array.ext_getElem?
  intro i
  by_cases hi : i < n
  · rw [h i hi, blA_get n k f i hi]
  · rw [Array.getElem?_eq_none (by omega), Array.getElem?_eq_none (by rw [blA_size]; omega)]
theorem blA_set (n k : Nat) (f : Nat → Bool) (hk : k < n) : (blA n k f).setIfInBounds k (.bool (f k)) = blA n (k + 1) f := by
  refine blA_ext _ _ _ _ (by rw [Array.size_setIfInBounds, blA_size]) fun i hi => ?_
  rw [Array.getElem?_setIfInBounds]
  by_cases e : k = i
  · subst e
    rw [if_pos rfl, if_pos (by rw [blA_size]; exact hk)]; simp
  · rw [if_neg e, blA_get n k f i hi, show decide (i < k + 1) = decide (i < k) from by rw [decide_eq_decide]; omega]
theorem blA_made (n : Nat) (f : Nat → Bool) : madeCells #[.bool false] n = blA n 0 f := by
  refine blA_ext _ _ _ _ (size_madeCells _ _) fun i hi => ?_
  simp [madeCells, hi, Nat.mod_one]
theorem blA_full (n k : Nat) (f : Nat → Bool) (g : Nat → Bool) (hk : n ≤ k) (h : ∀ i, i < n → f i = g i) : blA n k f = blA n n g := by
  refine blA_ext _ _ _ _ (blA_size _ _ _) fun i hi => ?_
  rw [blA_get n k f i hi, h i hi]
  simp [hi]; omega

/-- May a match that begins at a end? -/
def rowL (p : Pat) (s : List UInt8) (a : Nat) : Bool := startL p.rooted s a && (List.range (s.length + 1)).any fun b => endsL p.marks.fold p.es s a b && endL s b
theorem matchL_rows (p : Pat) (s : List UInt8) : matchL p s = (decide (s.length ≤ 160) && (List.range (s.length + 1)).any (rowL p s)) := by
  unfold matchL
  have h : (fun a => startL p.rooted s a && (List.range (s.length + 1)).any fun b => decide (a ≤ b) && endL s b && wholeL p.marks.fold p.es ((s.take b).drop a)) = rowL p s := by
    funext a
    unfold rowL
    have h2 : (fun b => decide (a ≤ b) && endL s b && wholeL p.marks.fold p.es ((s.take b).drop a)) = fun b => endsL p.marks.fold p.es s a b && endL s b := by
      funext b
      unfold endsL
      cases decide (a ≤ b) <;> cases endL s b <;> simp
    rw [h2]
  rw [h]

/-- None of the first n. -/
def NoneOf (n : Nat) (f : Nat → Bool) : Prop := ∀ i, i < n → f i = false
theorem NoneOf.zero (f : Nat → Bool) : NoneOf 0 f := fun i hi => absurd hi (Nat.not_lt_zero i)
theorem NoneOf.succ {n : Nat} {f : Nat → Bool} (h : NoneOf n f) (k : f n = false) : NoneOf (n + 1) f := fun i hi => by
  rcases Nat.lt_or_ge i n with h1 | h1
  · exact h i h1
  · rwa [show i = n from by omega]
theorem NoneOf.any {n : Nat} {f : Nat → Bool} (h : NoneOf n f) : (List.range n).any f = false := by
  rw [List.any_eq_false]
  intro i hi
  rw [h i (List.mem_range.1 hi)]
  decide
theorem any_of {n i : Nat} {f : Nat → Bool} (hi : i < n) (h : f i = true) : (List.range n).any f = true := List.any_eq_true.2 ⟨i, List.mem_range.2 hi, h⟩
end Go.Proofs.YtlabhbeacogfbaaDoor
