/- One file's patterns ahead of another's; the plain law. -/
import Derived.Test.YtlabhbeacogfbaaDoorWithinL
namespace Go.Proofs.YtlabhbeacogfbaaDoor
open Go.RowKit

/-- A line that includes nothing. -/
def noIncl (s : Txt) : Prop := (s.isEmpty || Lib.hasPrefix s [47, 47]) = true ∨ Lib.hasPrefix s inclT = false

theorem noIncl_of {rd : Txt → RSt → Except Nat RSt} (hrd : ∀ n st, ∃ k, rd n st = .error k) : ∀ (ls : List Txt) (st st' : RSt), foldL (lineL rd) st ls = .ok st' → ∀ s ∈ ls, noIncl s
  | [], _, _, _, s, hs => by cases hs
  | l :: ls, st, st', h, s, hs => by
    unfold foldL at h
    split at h
    · cases h
    · rename_i st1 h1
      rcases List.mem_cons.1 hs with rfl | hs
      · unfold lineL at h1
        split at h1
        · rename_i hq; exact .inl hq
        · split at h1
          · obtain ⟨k, hk⟩ := hrd (s.drop 9) ⟨st.pats, st.inc + 1⟩
            rw [hk] at h1; cases h1
          · rename_i hq; exact .inr (by simpa using hq)
      · exact noIncl_of hrd ls st1 st' h s hs

theorem shift {rd rd' : Txt → RSt → Except Nat RSt} : ∀ (ls : List Txt), (∀ s ∈ ls, noIncl s) → ∀ (p q : List Txt) (i j : Nat) (st st' : RSt), foldL (lineL rd) ⟨p, i⟩ ls = .ok st → foldL (lineL rd') ⟨q, j⟩ ls = .ok st' → ∃ r, st = ⟨p ++ r, i⟩ ∧ st' = ⟨q ++ r, j⟩
  | [], _, p, q, i, j, st, st', h, h' => by cases h; cases h'; exact ⟨[], by simp, by simp⟩
  | l :: ls, hn, p, q, i, j, st, st', h, h' => by
    have hl := hn l List.mem_cons_self
    have ih := fun p q => shift (rd := rd) (rd' := rd') ls (fun s hs => hn s (List.mem_cons_of_mem _ hs)) p q i j st st'
    unfold foldL at h h'
    unfold lineL at h h'
    by_cases hs : (l.isEmpty || Lib.hasPrefix l [47, 47]) = true
    · rw [if_pos hs] at h h'
      exact ih p q h h'
    · rw [if_neg hs] at h h'
      have hi : ¬ (Lib.hasPrefix l inclT = true) := by
        rcases hl with hl | hl
        · exact absurd hl hs
        · rw [hl]; simp
      rw [if_neg hi] at h h'
      simp only at h h'
      split at h
      · cases h
      · split at h'
        · cases h'
        · rename_i _ st1 h1 _ st2 h2
          split at h1
          · cases h1
          · split at h2
            · cases h2
            · cases hp : patL l with
              | error k => rw [hp] at h1; cases h1
              | ok pp =>
                rw [hp] at h1 h2
                cases h1
                cases h2
                obtain ⟨r, e1, e2⟩ := ih (p ++ [l]) (q ++ [l]) h h'
                exact ⟨l :: r, by rw [e1]; simp, by rw [e2]; simp⟩

/-- One file alone: none of its lines includes. -/
theorem alone {n t : Txt} {ts : List Txt} (h : parseL [(n, t)] n = .ok ts) : (∀ s ∈ linesL t, noIncl s) ∧ ∃ rd i, foldL (lineL rd) ⟨[], 0⟩ (linesL t) = .ok ⟨ts, i⟩ := by
  unfold parseL at h
  split at h
  · cases h
  · rename_i st hr
    cases h
    unfold readL at hr
    have hf : findL [(n, t)] n = some t := by simp [findL]
    rw [hf] at hr
    have h0 : ([] : List Txt).contains n = false := by simp
    simp only [h0, List.length_nil, List.nil_append] at hr
    have h1 : (decide (4 < 0 + 1) || decide (64 < 0)) = false := by decide
    rw [h1] at hr
    simp only [Bool.false_eq_true, if_false] at hr
    refine ⟨noIncl_of (fun nm st => ?_) _ _ _ hr, _, st.inc, hr⟩
    unfold readL
    by_cases he : n = nm
    · subst he
      rw [hf]; simp
    · have : findL [(n, t)] nm = none := by
        have hb : (n == nm) = false := by simpa using he
        simp [findL, hb]
      rw [this]; exact ⟨5, rfl⟩

theorem incl_lines (two : Txt) : linesL ([35, 105, 110, 99, 108, 117, 100, 101, 32, 97, 10] ++ two) = [35, 105, 110, 99, 108, 117, 100, 101, 32, 97] :: linesL two := by
  unfold linesL nlL
  have e : ([35, 105, 110, 99, 108, 117, 100, 101, 32, 97, 10] ++ two : Txt) = [35, 105, 110, 99, 108, 117, 100, 101, 32, 97] ++ 10 :: two := rfl
  rw [e, splitNl_at, splitNl_no _ _ (by decide)]
  rfl

theorem first_parts {one two : Txt} {xs bs cs : List Txt} (ha : parseL [([97], one)] [97] = .ok xs) (hb : parseL [([97], one), ([98], [35, 105, 110, 99, 108, 117, 100, 101, 32, 97, 10] ++ two)] [98] = .ok bs) (hc : parseL [([99], two)] [99] = .ok cs) : bs = xs ++ cs := by
  obtain ⟨na, rda, ia, fa⟩ := alone ha
  obtain ⟨nc, rdc, ic, fc⟩ := alone hc
  unfold parseL at hb
  split at hb
  · cases hb
  · rename_i st hr
    cases hb
    unfold readL at hr
    rw [show findL [([97], one), ([98], [35, 105, 110, 99, 108, 117, 100, 101, 32, 97, 10] ++ two)] [98] = some ([35, 105, 110, 99, 108, 117, 100, 101, 32, 97, 10] ++ two) from rfl] at hr
    simp only [show ([] : List Txt).contains [98] = false from rfl, List.length_nil, List.nil_append, show (decide (4 < 0 + 1) || decide (64 < 0)) = false from rfl, Bool.false_eq_true, if_false, incl_lines] at hr
    unfold foldL at hr
    split at hr
    · cases hr
    · rename_i st1 h1
      have h2 : readL [([97], one), ([98], [35, 105, 110, 99, 108, 117, 100, 101, 32, 97, 10] ++ two)] 4 [97] [[98]] ⟨[], 1⟩ = .ok st1 := h1
      unfold readL at h2
      rw [show findL [([97], one), ([98], [35, 105, 110, 99, 108, 117, 100, 101, 32, 97, 10] ++ two)] [97] = some one from rfl] at h2
      simp only [show ([[98]] : List Txt).contains [97] = false from rfl, show (decide (4 < ([[98]] : List Txt).length + 1) || decide (64 < 1)) = false from rfl, Bool.false_eq_true, if_false] at h2
      obtain ⟨r, e1, e2⟩ := shift _ na _ _ _ _ _ _ fa h2
      cases e1
      subst e2
      obtain ⟨r2, e3, e4⟩ := shift _ nc _ _ _ _ _ _ fc hr
      cases e3
      rw [e4]; simp

theorem firstL_app (xs cs : List Txt) (s : Txt) (hf : ∀ t ∈ xs, ∃ p, patL t = .ok p) : (firstL xs s = (false, false) ∧ firstL (xs ++ cs) s = firstL cs s) ∨ firstL (xs ++ cs) s = firstL xs s := by
  induction xs with
  | nil => exact .inl ⟨rfl, rfl⟩
  | cons t xs ih =>
    obtain ⟨p, hp⟩ := hf t List.mem_cons_self
    rw [List.cons_append]
    cases hm : matchL p s with
    | true => exact .inr (by rw [firstL_hit hp hm, firstL_hit hp hm])
    | false =>
      rw [firstL_miss hp hm, firstL_miss hp hm]
      exact ih fun t ht => hf t (List.mem_cons_of_mem _ ht)
theorem matchesL_app (xs cs : List Txt) (s : ByteArray) (hf : ∀ t ∈ xs, ∃ p, patL t = .ok p) : (matchesL xs s = (false, false) ∧ matchesL (xs ++ cs) s = matchesL cs s) ∨ matchesL (xs ++ cs) s = matchesL xs s := by
  unfold matchesL
  split
  · exact firstL_app xs cs _ hf
  · exact .inr rfl

theorem parse_uni {v : Value} {fs : List (ByteArray × ByteArray)} {name : ByteArray} {w : World} (hT : TextsAt w v fs) (hfs : ∀ f ∈ fs, f.1.size ≤ maxLen ∧ f.2.size < 4294967281) (hn : name.size ≤ maxLen) (E : Env w) :
    Calls Tryd.prog 10 #[v, .string name] w fun e w' => ∃ (lp : Value) (k : Nat), e = .returned (.tuple #[lp, .int .i64 (k : Nat)]) ∧ Hid (Ext w w' ∧ (k = 0 → ∃ ll ts, lp = .pointer (some ⟨ll, 0, none⟩) ∧ parseL (fsL fs) name.toList = .ok ts ∧ IsList w' ll ts)) := by
  cases hp : parseL (fsL fs) name.toList with
  | error k => exact (parse_err hp hT hfs hn E).mono fun e w' ⟨h1, h2, h3⟩ => ⟨_, k, h1, h3, fun h => absurd h h2⟩
  | ok ts => exact (parse_ok hp hT hfs hn E).mono fun e w' ⟨ll, h1, h2, h3⟩ => ⟨_, 0, h1, h3, fun _ => ⟨ll, ts, rfl, rfl, h2.out⟩⟩
end Go.Proofs.YtlabhbeacogfbaaDoor
