/- Patterns, by definition: what a text says, what an element holds of. Plain lists; no program. -/
import Derived.Test.YtlabhbeacogfbaaDoorBase
namespace Go.Proofs.YtlabhbeacogfbaaDoor
open Go.RowKit

/-- One element of a pattern. -/
inductive GE where
  | all | some | any
  | set (neg : Bool) (rs : List (UInt8 × UInt8))
  | byt (c : UInt8)

def GE.many : GE → Bool
  | .all => true
  | .some => true
  | _ => false

def lowerC (c : UInt8) : UInt8 := if decide (65 ≤ c.toNat) && decide (c.toNat ≤ 90) then c + 32 else c
def upperC (c : UInt8) : UInt8 := if decide (97 ≤ c.toNat) && decide (c.toNat ≤ 122) then c - 32 else c
def otherC (c : UInt8) : UInt8 := if decide (97 ≤ c.toNat) && decide (c.toNat ≤ 122) then c - 32 else if decide (65 ≤ c.toNat) && decide (c.toNat ≤ 90) then c + 32 else c
def inR (rs : List (UInt8 × UInt8)) (c : UInt8) : Bool := rs.any fun r => decide (r.1.toNat ≤ c.toNat) && decide (c.toNat ≤ r.2.toNat)

def GE.holds (fold : Bool) : GE → UInt8 → Bool
  | .all, _ => true
  | .some, c => c != 47
  | .any, c => c != 47
  | .set neg rs, c => c != 47 && (neg != (inR rs c || fold && (inR rs (lowerC c) || inR rs (upperC c))))
  | .byt b, c => c == b || fold && lowerC c == lowerC b

/-- The byte that stands first, perhaps behind a backslash; and what is behind it. -/
def writtenL : List UInt8 → Option (UInt8 × List UInt8)
  | [] => none
  | c :: t => if c == 92 then (match t with
      | [] => none
      | d :: u => if d == 47 then none else some (d, u))
    else if c == 47 then none else some (c, t)

/-- One range of a class. -/
def rangeL (s : List UInt8) : Option ((UInt8 × UInt8) × List UInt8) :=
  match writtenL s with
  | none => none
  | some (f, 45 :: d :: u) => if d == 93 then some ((f, f), 45 :: d :: u) else
      match writtenL (d :: u) with
      | none => none
      | some (t, r) => if decide (t.toNat < f.toNat) then none else some ((f, t), r)
  | some (f, r) => some ((f, f), r)

def rangesL : Nat → List (UInt8 × UInt8) → List UInt8 → Option (List (UInt8 × UInt8) × List UInt8)
  | 0, _, _ => none
  | n + 1, acc, s => match s with
    | [] => none
    | c :: t => if c == 93 then (if acc.isEmpty then none else some (acc, t)) else
      match rangeL (c :: t) with
      | none => none
      | some (r, u) => rangesL n (acc ++ [r]) u

def negL : List UInt8 → Bool × List UInt8
  | 33 :: t => (true, t)
  | s => (false, s)

def classL (s : List UInt8) : Option (GE × List UInt8) :=
  match rangesL (s.length + 1) [] (negL s).2 with
  | none => none
  | some (rs, r) => some (.set (negL s).1 rs, r)

/-- The first element of a text that is not empty. -/
def elementL : List UInt8 → Option (GE × List UInt8)
  | 42 :: 42 :: t => some (.all, t)
  | 42 :: t => some (.some, t)
  | 63 :: t => some (.any, t)
  | 47 :: t => some (.byt 47, t)
  | 91 :: t => classL t
  | s => match writtenL s with
    | none => none
    | some (c, r) => some (.byt c, r)

def elementsL : Nat → List GE → List UInt8 → Option (List GE)
  | 0, _, _ => none
  | n + 1, acc, s => if s.isEmpty then some acc else
    match elementL s with
    | none => none
    | some (e, r) => elementsL n (acc ++ [e]) r

/-- The marks ahead of a pattern. -/
structure Marks where
  neg : Bool
  del : Bool
  fold : Bool

/-- The mark that stands first: 1 (!), 2 ((?d)), 3 ((?i)), and how long it is. -/
def markL (s : List UInt8) : Option (Nat × Nat) :=
  if [33].isPrefixOf s then some (1, 1)
  else if [40, 63, 105, 41].isPrefixOf s then some (3, 4)
  else if [40, 63, 100, 41].isPrefixOf s then some (2, 4)
  else none

def Marks.get (m : Marks) (k : Nat) : Bool := if k == 1 then m.neg else if k == 2 then m.del else m.fold
def Marks.put (m : Marks) (k : Nat) : Marks := if k == 1 then { m with neg := true } else if k == 2 then { m with del := true } else { m with fold := true }

def marksL : Nat → Marks → List UInt8 → Option (Marks × List UInt8)
  | 0, _, _ => none
  | n + 1, m, s => match markL s with
    | none => some (m, s)
    | some (k, l) => if m.get k then none else marksL n (m.put k) (s.drop l)

structure Pat where
  marks : Marks
  rooted : Bool
  es : List GE

def rootL : List UInt8 → Bool × List UInt8
  | 47 :: t => (true, t)
  | s => (false, s)

/-- What a text says; or the number of an error. -/
def patL (s : List UInt8) : Except Nat Pat :=
  if s.length > 128 then .error 3
  else match marksL (s.length + 1) ⟨false, false, false⟩ s with
    | none => .error 4
    | some (m, r) => if (rootL r).2.isEmpty then .error 4 else
      match elementsL (s.length + 1) [] (rootL r).2 with
      | none => .error 4
      | some es => .ok ⟨m, (rootL r).1, es⟩

/-- Do all elements match the whole of a text? -/
def wholeL (fold : Bool) : List GE → List UInt8 → Bool
  | [], s => s.isEmpty
  | e :: es, s => go e es (wholeL fold es) s
where
  go (e : GE) (es : List GE) (rest : List UInt8 → Bool) : List UInt8 → Bool
  | [] => e.many && rest []
  | c :: t => if e.many then rest (c :: t) || e.holds fold c && go e es rest t else e.holds fold c && rest t

/-- May a match begin here? -/
def startL (rooted : Bool) (s : List UInt8) (a : Nat) : Bool := a == 0 || !rooted && s[a - 1]? == some 47
/-- May a match end here? -/
def endL (s : List UInt8) (b : Nat) : Bool := b == s.length || s[b]? == some 47

def matchL (p : Pat) (s : List UInt8) : Bool :=
  decide (s.length ≤ 160) && (List.range (s.length + 1)).any fun a => startL p.rooted s a &&
    (List.range (s.length + 1)).any fun b => decide (a ≤ b) && endL s b && wholeL p.marks.fold p.es ((s.take b).drop a)

theorem writtenL_lt {s : List UInt8} {c : UInt8} {r : List UInt8} (h : writtenL s = some (c, r)) : r.length < s.length := by
  unfold writtenL at h
  split at h
  · cases h
  · split at h
    · split at h
      · cases h
      · split at h
        · cases h
        · cases h; simp; omega
    · split at h
      · cases h
      · cases h; simp
theorem rangeL_lt {s : List UInt8} {x : UInt8 × UInt8} {r : List UInt8} (h : rangeL s = some (x, r)) : r.length < s.length := by
  unfold rangeL at h
  split at h
  · cases h
  · rename_i h1
    have := writtenL_lt h1
    split at h
    · cases h; exact this
    · split at h
      · cases h
      · rename_i h2
        have h3 := writtenL_lt h2
        split at h
        · cases h
        · cases h; simp at this h3; omega
  · rename_i h1
    have := writtenL_lt h1
    cases h; exact this
theorem rangesL_lt {n : Nat} {acc rs : List (UInt8 × UInt8)} {s r : List UInt8} (h : rangesL n acc s = some (rs, r)) : r.length < s.length := by
  induction n generalizing acc s with
  | zero => cases h
  | succ n ih =>
    unfold rangesL at h
    split at h
    · cases h
    · split at h
      · split at h
        · cases h
        · cases h; simp
      · split at h
        · cases h
        · rename_i h2
          have := rangeL_lt h2
          have := ih h
          omega
theorem negL_le (s : List UInt8) : (negL s).2.length ≤ s.length := by
  unfold negL; split <;> simp
theorem classL_lt {s r : List UInt8} {e : GE} (h : classL s = some (e, r)) : r.length < s.length := by
  unfold classL at h
  split at h
  · cases h
  · rename_i h2
    have := rangesL_lt h2
    have := negL_le s
    cases h; omega
theorem elementL_lt {s r : List UInt8} {e : GE} (h : elementL s = some (e, r)) : r.length < s.length := by
  unfold elementL at h
  split at h
  · cases h; simp; omega
  · cases h; simp
  · cases h; simp
  · cases h; simp
  · have := classL_lt h; simp; omega
  · split at h
    · cases h
    · rename_i h2
      have := writtenL_lt h2
      cases h; exact this

theorem wholeL_nil (f : Bool) (s : List UInt8) : wholeL f [] s = s.isEmpty := rfl
theorem wholeL_cons_nil (f : Bool) (e : GE) (es : List GE) : wholeL f (e :: es) [] = (e.many && wholeL f es []) := rfl
theorem wholeL_many (f : Bool) (e : GE) (es : List GE) (c : UInt8) (t : List UInt8) (h : e.many = true) : wholeL f (e :: es) (c :: t) = (wholeL f es (c :: t) || e.holds f c && wholeL f (e :: es) t) := by
  simp only [wholeL, wholeL.go, h, if_true]
theorem wholeL_one (f : Bool) (e : GE) (es : List GE) (c : UInt8) (t : List UInt8) (h : e.many = false) : wholeL f (e :: es) (c :: t) = (e.holds f c && wholeL f es t) := by
  simp only [wholeL, wholeL.go, h]
  simp

/-- What matches two rows of elements is two texts, one behind the other. -/
theorem wholeL_append (f : Bool) (es fs : List GE) (s : List UInt8) : wholeL f (es ++ fs) s = true ↔ ∃ a b, s = a ++ b ∧ wholeL f es a = true ∧ wholeL f fs b = true := by
  induction es generalizing s with
  | nil =>
    constructor
    · intro h; exact ⟨[], s, rfl, rfl, h⟩
    · rintro ⟨a, b, rfl, h1, h2⟩
      have : a = [] := by simpa [wholeL_nil] using h1
      subst this; exact h2
  | cons e es ih =>
    induction s with
    | nil =>
      rw [List.cons_append, wholeL_cons_nil]
      constructor
      · intro h
        obtain ⟨h1, h2⟩ := Bool.and_eq_true_iff.1 h
        obtain ⟨a, b, hab, h3, h4⟩ := (ih []).1 h2
        have : a = [] ∧ b = [] := by simpa using hab.symm
        obtain ⟨rfl, rfl⟩ := this
        exact ⟨[], [], rfl, by rw [wholeL_cons_nil, h1, h3]; rfl, h4⟩
      · rintro ⟨a, b, hab, h3, h4⟩
        have : a = [] ∧ b = [] := by simpa using hab.symm
        obtain ⟨rfl, rfl⟩ := this
        rw [wholeL_cons_nil] at h3
        obtain ⟨h1, h2⟩ := Bool.and_eq_true_iff.1 h3
        rw [h1, (ih []).2 ⟨[], [], rfl, h2, h4⟩]; rfl
    | cons c t iht =>
      rw [List.cons_append]
      cases hm : e.many
      · rw [wholeL_one f e _ c t hm]
        constructor
        · intro h
          obtain ⟨h1, h2⟩ := Bool.and_eq_true_iff.1 h
          obtain ⟨a, b, rfl, h3, h4⟩ := (ih t).1 h2
          exact ⟨c :: a, b, rfl, by rw [wholeL_one f e _ c a hm, h1, h3]; rfl, h4⟩
        · rintro ⟨a, b, hab, h3, h4⟩
          match a, hab, h3 with
          | [], hab, h3 => rw [wholeL_cons_nil, hm] at h3; cases h3
          | d :: a, hab, h3 =>
            rw [List.cons_append, List.cons.injEq] at hab
            obtain ⟨rfl, rfl⟩ := hab
            rw [wholeL_one f e _ c a hm] at h3
            obtain ⟨h1, h2⟩ := Bool.and_eq_true_iff.1 h3
            rw [h1, (ih _).2 ⟨a, b, rfl, h2, h4⟩]; rfl
      · rw [wholeL_many f e _ c t hm]
        constructor
        · intro h
          rcases Bool.or_eq_true_iff.1 h with h | h
          · obtain ⟨a, b, hab, h3, h4⟩ := (ih _).1 h
            refine ⟨a, b, hab, ?_, h4⟩
            cases a with
            | nil => rw [wholeL_cons_nil, hm, h3]; rfl
            | cons d a => rw [wholeL_many f e _ d a hm, h3]; rfl
          · obtain ⟨h1, h2⟩ := Bool.and_eq_true_iff.1 h
            obtain ⟨a, b, rfl, h3, h4⟩ := iht.1 h2
            exact ⟨c :: a, b, rfl, by rw [wholeL_many f e _ c a hm, h1, h3]; simp, h4⟩
        · rintro ⟨a, b, hab, h3, h4⟩
          match a, hab, h3 with
          | [], hab, h3 =>
            rw [wholeL_cons_nil] at h3
            obtain ⟨h1, h2⟩ := Bool.and_eq_true_iff.1 h3
            rw [(ih (c :: t)).2 ⟨[], b, hab, h2, h4⟩]; rfl
          | d :: a, hab, h3 =>
            rw [List.cons_append, List.cons.injEq] at hab
            obtain ⟨rfl, rfl⟩ := hab
            rw [wholeL_many f e _ c a hm] at h3
            rcases Bool.or_eq_true_iff.1 h3 with h | h
            · have := (ih _).2 ⟨c :: a, b, rfl, h, h4⟩
              rw [List.cons_append] at this
              rw [this]; rfl
            · obtain ⟨h1, h2⟩ := Bool.and_eq_true_iff.1 h
              have := iht.2 ⟨a, b, rfl, h2, h4⟩
              rw [List.cons_append] at this
              rw [h1, this]; simp

theorem wholeL_single_many (f : Bool) (e : GE) (h : e.many = true) (s : List UInt8) : wholeL f [e] s = s.all (e.holds f) := by
  induction s with
  | nil => rw [wholeL_cons_nil, h]; rfl
  | cons c t ih => rw [wholeL_many f e [] c t h, ih, wholeL_nil, List.all_cons]; simp
theorem wholeL_single_one (f : Bool) (e : GE) (h : e.many = false) (s : List UInt8) : wholeL f [e] s = true ↔ ∃ c, s = [c] ∧ e.holds f c = true := by
  match s with
  | [] => rw [wholeL_cons_nil, h]; simp
  | [c] => rw [wholeL_one f e [] c [] h]; simp [wholeL_nil]
  | c :: d :: t => rw [wholeL_one f e [] c _ h]; simp [wholeL_nil]

/-- One element more: how far elements reach, from the left. -/
theorem wholeL_snoc_nil (f : Bool) (es : List GE) (e : GE) : wholeL f (es ++ [e]) [] = (e.many && wholeL f es []) := by
  rw [Bool.eq_iff_iff, wholeL_append]
  constructor
  · rintro ⟨a, b, hab, h1, h2⟩
    have : a = [] ∧ b = [] := by simpa using hab.symm
    obtain ⟨rfl, rfl⟩ := this
    rw [wholeL_cons_nil] at h2
    obtain ⟨h3, _⟩ := Bool.and_eq_true_iff.1 h2
    rw [h3, h1]; rfl
  · intro h
    obtain ⟨h1, h2⟩ := Bool.and_eq_true_iff.1 h
    exact ⟨[], [], rfl, h2, by rw [wholeL_cons_nil, h1]; rfl⟩
theorem wholeL_snoc_many (f : Bool) (es : List GE) (e : GE) (h : e.many = true) (s : List UInt8) (c : UInt8) :
    wholeL f (es ++ [e]) (s ++ [c]) = (wholeL f es (s ++ [c]) || wholeL f (es ++ [e]) s && e.holds f c) := by
  rw [Bool.eq_iff_iff, Bool.or_eq_true, Bool.and_eq_true, wholeL_append, wholeL_append]
  constructor
  · rintro ⟨a, b, hab, h1, h2⟩
    rw [wholeL_single_many f e h] at h2
    rcases List.eq_nil_or_concat b with rfl | ⟨b', d, rfl⟩
    · left; rw [hab, List.append_nil]; exact h1
    · right
      rw [List.concat_eq_append, ← List.append_assoc] at hab
      obtain ⟨h3, h4⟩ := List.append_inj' hab rfl
      obtain rfl : c = d := by simpa using h4
      rw [List.concat_eq_append, List.all_append, Bool.and_eq_true] at h2
      exact ⟨⟨a, b', h3, h1, by rw [wholeL_single_many f e h]; exact h2.1⟩, by simpa using h2.2⟩
  · rintro (h1 | ⟨⟨a, b, rfl, h1, h2⟩, h3⟩)
    · exact ⟨s ++ [c], [], by simp, h1, by rw [wholeL_single_many f e h]; rfl⟩
    · rw [wholeL_single_many f e h] at h2
      exact ⟨a, b ++ [c], by simp, h1, by rw [wholeL_single_many f e h, List.all_append, h2]; simp [h3]⟩
theorem wholeL_snoc_one (f : Bool) (es : List GE) (e : GE) (h : e.many = false) (s : List UInt8) (c : UInt8) :
    wholeL f (es ++ [e]) (s ++ [c]) = (wholeL f es s && e.holds f c) := by
  rw [Bool.eq_iff_iff, Bool.and_eq_true, wholeL_append]
  constructor
  · rintro ⟨a, b, hab, h1, h2⟩
    obtain ⟨d, rfl, h3⟩ := (wholeL_single_one f e h b).1 h2
    obtain ⟨h4, h5⟩ := List.append_inj' hab rfl
    obtain rfl : c = d := by simpa using h5
    subst h4
    exact ⟨h1, h3⟩
  · rintro ⟨h1, h2⟩
    exact ⟨s, [c], rfl, h1, (wholeL_single_one f e h _).2 ⟨c, rfl, h2⟩⟩

/-- Folding, in the document's words. -/
theorem fold_byte (c b : UInt8) : (c == b || lowerC c == lowerC b) = (c == b || otherC c == b) := by
  rw [Bool.eq_iff_iff]
  simp only [Bool.or_eq_true, beq_iff_eq, ← UInt8.toNat_inj, lowerC, otherC]
  have hc := c.toNat_lt
  have hb := b.toNat_lt
  have hs : (c - 32).toNat = (224 + c.toNat) % 256 := by rw [UInt8.toNat_sub]; rfl
  repeat' split
  all_goals (simp at *; try omega)
theorem fold_in (rs : List (UInt8 × UInt8)) (c : UInt8) : (inR rs c || (inR rs (lowerC c) || inR rs (upperC c))) = (inR rs c || inR rs (otherC c)) := by
  unfold lowerC upperC otherC
  cases h1 : decide (97 ≤ c.toNat) && decide (c.toNat ≤ 122) <;> cases h2 : decide (65 ≤ c.toNat) && decide (c.toNat ≤ 90)
  · simp
  · simp; cases inR rs c <;> simp
  · simp
  · exfalso; simp at h1 h2; omega
end Go.Proofs.YtlabhbeacogfbaaDoor
