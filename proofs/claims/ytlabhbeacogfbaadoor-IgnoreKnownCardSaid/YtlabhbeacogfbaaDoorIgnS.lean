/- What stands between the newlines of a text; lines without blanks at their ends; files that are read within one another. Plain; no walk. (Its first part is Pieces' text, for another byte.) -/
import Derived.Test.YtlabhbeacogfbaaDoorRefX
import Derived.Lib.SlTrimSet
namespace Go.Proofs.YtlabhbeacogfbaaDoor
open Go.RowKit

def nlOf (s : ByteArray) : List ByteArray := Lib.splitB ⟨#[10]⟩ 0 (Lib.countB s ⟨#[10]⟩) s

def splitNl (cur : List UInt8) : List UInt8 → List (List UInt8)
  | [] => [cur]
  | c :: cs => if c = 10 then cur :: splitNl [] cs else splitNl (cur ++ [c]) cs
def nlL (l : List UInt8) : List (List UInt8) := splitNl [] l

theorem splitNl_ne : ∀ (l cur : List UInt8), splitNl cur l ≠ []
  | [], _ => by simp [splitNl]
  | c :: cs, cur => by
    unfold splitNl
    split
    · simp
    · exact splitNl_ne cs _
theorem splitNl_no : ∀ (l cur : List UInt8), 10 ∉ l → splitNl cur l = [cur ++ l]
  | [], cur, _ => by simp [splitNl]
  | c :: cs, cur, h => by
    have hc : ¬ c = 10 := fun e => h (by simp [e])
    unfold splitNl
    rw [if_neg hc, splitNl_no cs _ (fun hm => h (by simp [hm]))]
    simp
theorem splitNl_at : ∀ (a cur b : List UInt8), splitNl cur (a ++ 10 :: b) = splitNl cur a ++ splitNl [] b
  | [], cur, b => by simp [splitNl]
  | c :: cs, cur, b => by
    show splitNl cur (c :: (cs ++ 10 :: b)) = _
    by_cases hc : c = 10
    · have e1 : splitNl cur (c :: (cs ++ 10 :: b)) = cur :: splitNl [] (cs ++ 10 :: b) := by rw [splitNl, if_pos hc]
      have e2 : splitNl cur (c :: cs) = cur :: splitNl [] cs := by rw [splitNl, if_pos hc]
      rw [e1, e2, splitNl_at cs [] b]; rfl
    · have e1 : splitNl cur (c :: (cs ++ 10 :: b)) = splitNl (cur ++ [c]) (cs ++ 10 :: b) := by rw [splitNl, if_neg hc]
      have e2 : splitNl cur (c :: cs) = splitNl (cur ++ [c]) cs := by rw [splitNl, if_neg hc]
      rw [e1, e2, splitNl_at cs _ b]

/-- With a slash at i, the first one. -/
theorem index_nl : ∀ (l : List UInt8), (Lib.index l [10] = -1 ∧ 10 ∉ l) ∨ (∃ a b, l = a ++ 10 :: b ∧ 10 ∉ a ∧ Lib.index l [10] = a.length)
  | [] => .inl ⟨rfl, by simp⟩
  | c :: cs => by
    by_cases hc : c = 10
    · subst hc
      exact .inr ⟨[], cs, rfl, by simp, by simp [Lib.index, List.isPrefixOf]⟩
    · have hp : List.isPrefixOf [10] (c :: cs) = false := by
        simp only [List.isPrefixOf, Bool.and_eq_false_iff, beq_eq_false_iff_ne]
        exact .inl (fun e => hc e.symm)
      have e : Lib.index (c :: cs) [10] = if Lib.index cs [10] == -1 then -1 else Lib.index cs [10] + 1 := by
        rw [Lib.index, if_neg (by rw [hp]; simp)]
      rcases index_nl cs with ⟨h1, h2⟩ | ⟨a, b, h1, h2, h3⟩
      · refine .inl ⟨by rw [e, h1]; rfl, ?_⟩
        intro hm
        rcases List.mem_cons.1 hm with h | h
        · exact hc h.symm
        · exact h2 h
      · refine .inr ⟨c :: a, b, by rw [h1]; rfl, ?_, ?_⟩
        · intro hm
          rcases List.mem_cons.1 hm with h | h
          · exact hc h.symm
          · exact h2 h
        · rw [e, h3, if_neg (by rw [beq_iff_eq]; omega)]
          simp

theorem splitK_nl : ∀ (k : Nat) (l : List UInt8), l.count 10 ≤ k → Lib.splitK [10] 0 k l = nlL l
  | 0, l, h => by
    have : 10 ∉ l := List.count_eq_zero.1 (by omega)
    unfold nlL
    rw [splitNl_no l [] this]; rfl
  | k + 1, l, h => by
    unfold Lib.splitK
    rcases index_nl l with ⟨h1, h2⟩ | ⟨a, b, h1, h2, h3⟩
    · rw [h1, if_pos (by rfl)]
      unfold nlL
      rw [splitNl_no l [] h2]; rfl
    · rw [h3, if_neg (by rw [beq_iff_eq]; omega)]
      have e1 : (l.take (((a.length : Nat) : Int).toNat + 0)) = a := by rw [h1]; simp
      have e2 : (l.drop (((a.length : Nat) : Int).toNat + [(10 : UInt8)].length)) = b := by
        rw [h1]; simp
      rw [e1, e2]
      have hc : b.count 10 ≤ k := by
        rw [h1, List.count_append, List.count_cons_self] at h
        omega
      rw [splitK_nl k b hc, h1]
      unfold nlL
      rw [splitNl_at, splitNl_no a [] h2]; rfl

theorem nlOf_toList (s : ByteArray) : (nlOf s).map (·.toList) = nlL s.toList := by
  have h := Lib.splitB_data ⟨#[10]⟩ 0 (Lib.countB s ⟨#[10]⟩) s
  have e : Lib.countB s ⟨#[10]⟩ = s.data.toList.count 10 := Lib.count_one 10 _
  unfold nlOf
  rw [show (fun x : ByteArray => x.toList) = fun x => x.data.toList from funext Lib.toList_data, h, Lib.toList_data]
  exact splitK_nl _ _ (by rw [e]; exact Nat.le_refl _)


abbrev Txt := List UInt8
def blankB (c : UInt8) : Bool := c == 32 || c == 9
def trimT (l : Txt) : Txt := Lib.trimS l [32, 9]
/-- The lines of a text, without blanks and tabs at their ends. -/
def linesL (l : Txt) : List Txt := (nlL l).map trimT

/-- The first file of a name. -/
def findL : List (Txt × Txt) → Txt → Option Txt
  | [], _ => none
  | f :: fs, n => if f.1 == n then some f.2 else findL fs n

/-- What is known while files are read: patterns, and how many lines have included a file. -/
structure RSt where
  pats : List Txt
  inc : Nat

def inclT : Txt := [35, 105, 110, 99, 108, 117, 100, 101, 32]

def lineL (rd : Txt → RSt → Except Nat RSt) (st : RSt) (s : Txt) : Except Nat RSt :=
  if s.isEmpty || Lib.hasPrefix s [47, 47] then .ok st
  else if Lib.hasPrefix s inclT then rd (s.drop 9) ⟨st.pats, st.inc + 1⟩
  else if st.pats.length == 64 then .error 3
  else match patL s with
    | .error k => .error k
    | .ok _ => .ok ⟨st.pats ++ [s], st.inc⟩

def foldL (f : RSt → Txt → Except Nat RSt) : RSt → List Txt → Except Nat RSt
  | st, [] => .ok st
  | st, s :: l => match f st s with
    | .error k => .error k
    | .ok st' => foldL f st' l

/-- Reading a file within others; the number says how deep it may still go. -/
def readL (fs : List (Txt × Txt)) : Nat → Txt → List Txt → RSt → Except Nat RSt
  | 0, _, _, _ => .error 3
  | n + 1, name, within, st => match findL fs name with
    | none => .error 5
    | some t => if within.contains name then .error 22
      else if decide (4 < within.length + 1) || decide (64 < st.inc) then .error 3
      else foldL (lineL fun nm st => readL fs n nm (within ++ [name]) st) st (linesL t)

/-- The patterns of a file; or an error. -/
def parseL (fs : List (Txt × Txt)) (name : Txt) : Except Nat (List Txt) := match readL fs 5 name [] ⟨[], 0⟩ with
  | .error k => .error k
  | .ok st => .ok st.pats

/-- What a state must be for all to go on well. -/
structure RSt.fine (st : RSt) : Prop where
  inc : st.inc ≤ 64
  len : st.pats.length ≤ 64
  pat : ∀ t ∈ st.pats, ∃ p, patL t = .ok p
theorem foldL_fine {f : RSt → Txt → Except Nat RSt} (hf : ∀ st s st', st.fine → f st s = .ok st' → st'.fine) : ∀ (l : List Txt) (st st' : RSt), st.fine → foldL f st l = .ok st' → st'.fine
  | [], st, st', h, e => by cases e; exact h
  | s :: l, st, st', h, e => by
    unfold foldL at e
    split at e
    · cases e
    · rename_i st1 h1
      exact foldL_fine hf l st1 st' (hf _ _ _ h h1) e
theorem lineL_fine {rd : Txt → RSt → Except Nat RSt} (hrd : ∀ n st st', st.pats.length ≤ 64 → (∀ t ∈ st.pats, ∃ p, patL t = .ok p) → rd n st = .ok st' → st'.fine) (st : RSt) (s : Txt) (st' : RSt) (h : st.fine) (e : lineL rd st s = .ok st') : st'.fine := by
  unfold lineL at e
  split at e
  · cases e; exact h
  · split at e
    · exact hrd _ ⟨st.pats, st.inc + 1⟩ st' h.len h.pat e
    · split at e
      · cases e
      · rename_i h64
        split at e
        · cases e
        · rename_i p hp
          cases e
          refine ⟨h.inc, ?_, fun t ht => ?_⟩
          · have := h.len
            have : st.pats.length ≠ 64 := by simpa using h64
            simp; omega
          · rcases List.mem_append.1 ht with h1 | h1
            · exact h.pat t h1
            · rw [List.mem_singleton.1 h1]; exact ⟨p, hp⟩
theorem readL_fine (fs : List (Txt × Txt)) : ∀ (n : Nat) (name : Txt) (within : List Txt) (st st' : RSt), st.pats.length ≤ 64 → (∀ t ∈ st.pats, ∃ p, patL t = .ok p) → readL fs n name within st = .ok st' → st'.fine
  | 0, _, _, _, _, _, _, e => by cases e
  | n + 1, name, within, st, st', h1, h2, e => by
    unfold readL at e
    split at e
    · cases e
    · split at e
      · cases e
      · split at e
        · cases e
        · rename_i hi
          refine foldL_fine (fun st s st' hs e => lineL_fine (fun nm st st' a b c => readL_fine fs n nm (within ++ [name]) st st' a b c) st s st' hs e) _ _ _ ⟨?_, h1, h2⟩ e
          simp at hi
          omega
theorem nlOf_lines (s : ByteArray) : (nlOf s).map (fun x => trimT x.toList) = linesL s.toList := by
  unfold linesL
  rw [← nlOf_toList, List.map_map]; rfl
end Go.Proofs.YtlabhbeacogfbaaDoor
