/- The patterns' lines as one file have the same patterns; the plain law. -/
import Derived.Test.YtlabhbeacogfbaaDoorFirstL
namespace Go.Proofs.YtlabhbeacogfbaaDoor
open Go.RowKit

theorem dropWhile_twice (p : UInt8 → Bool) (l : List UInt8) : (l.dropWhile p).dropWhile p = l.dropWhile p := by
  induction l with
  | nil => rfl
  | cons x l ih =>
    cases h : p x with
    | true => rw [List.dropWhile_cons_of_pos h, ih]
    | false => rw [List.dropWhile_cons_of_neg (by simp [h]), List.dropWhile_cons_of_neg (by simp [h])]
theorem trimT_twice (l : Txt) : trimT (trimT l) = trimT l := by
  unfold trimT Lib.trimS Lib.trimLeftS Lib.trimRightS
  generalize (fun x : UInt8 => [32, 9].contains x) = p
  generalize hd : l.reverse.dropWhile p = d
  have hdd : d.dropWhile p = d := by rw [← hd, dropWhile_twice]
  have key : (d.reverse.dropWhile p).reverse.dropWhile p = (d.reverse.dropWhile p).reverse := by
    have h1 : d = (d.reverse.dropWhile p).reverse ++ (d.reverse.takeWhile p).reverse := by
      rw [← List.reverse_append, List.takeWhile_append_dropWhile, List.reverse_reverse]
    cases hc : (d.reverse.dropWhile p).reverse with
    | nil => rfl
    | cons x r =>
      rw [hc] at h1
      have hx : p x = false := by
        cases h : p x with
        | false => rfl
        | true =>
          rw [h1, List.cons_append, List.dropWhile_cons_of_pos h] at hdd
          have := congrArg List.length hdd
          have h2 := (List.dropWhile_sublist (l := r ++ (d.reverse.takeWhile p).reverse) p).length_le
          simp only [List.length_cons] at this
          omega
      rw [List.dropWhile_cons_of_neg (by simp [hx])]
  rw [key, List.reverse_reverse, dropWhile_twice]
theorem trimT_mem {l : Txt} {c : UInt8} (h : c ∈ trimT l) : c ∈ l := by
  unfold trimT Lib.trimS Lib.trimLeftS Lib.trimRightS at h
  have h1 := (List.dropWhile_sublist _).subset h
  have h2 := List.mem_reverse.1 h1
  have h3 := (List.dropWhile_sublist _).subset h2
  exact List.mem_reverse.1 h3

theorem splitNl_clean : ∀ (l cur : List UInt8), 10 ∉ cur → ∀ x ∈ splitNl cur l, 10 ∉ x
  | [], cur, h, x, hx => by
    simp [splitNl] at hx; subst hx; exact h
  | c :: cs, cur, h, x, hx => by
    unfold splitNl at hx
    split at hx
    · rcases List.mem_cons.1 hx with rfl | hx
      · exact h
      · exact splitNl_clean cs [] (by simp) x hx
    · rename_i hc
      refine splitNl_clean cs (cur ++ [c]) (fun hm => ?_) x hx
      rcases List.mem_append.1 hm with hm | hm
      · exact h hm
      · exact hc (List.mem_singleton.1 hm).symm
def lineOk (t : Txt) : Prop := 10 ∉ t ∧ trimT t = t
theorem linesL_ok (l : Txt) : ∀ s ∈ linesL l, lineOk s := by
  intro s hs
  obtain ⟨x, hx, rfl⟩ := List.mem_map.1 hs
  exact ⟨fun h => splitNl_clean l [] (by simp) x hx (trimT_mem h), trimT_twice x⟩

def clean (t : Txt) : Prop := lineOk t ∧ (t.isEmpty || Lib.hasPrefix t [47, 47]) = false ∧ Lib.hasPrefix t inclT = false
theorem foldL_clean {rd : Txt → RSt → Except Nat RSt} (hrd : ∀ n st st', (∀ t ∈ st.pats, clean t) → rd n st = .ok st' → ∀ t ∈ st'.pats, clean t) : ∀ (ls : List Txt), (∀ s ∈ ls, lineOk s) → ∀ st st', (∀ t ∈ st.pats, clean t) → foldL (lineL rd) st ls = .ok st' → ∀ t ∈ st'.pats, clean t
  | [], _, st, st', h, e => by cases e; exact h
  | l :: ls, hl, st, st', h, e => by
    unfold foldL at e
    split at e
    · cases e
    · rename_i st1 h1
      refine foldL_clean hrd ls (fun s hs => hl s (List.mem_cons_of_mem _ hs)) st1 st' ?_ e
      unfold lineL at h1
      split at h1
      · cases h1; exact h
      · rename_i hq
        split at h1
        · exact hrd _ ⟨st.pats, st.inc + 1⟩ st1 h h1
        · rename_i hi
          split at h1
          · cases h1
          · split at h1
            · cases h1
            · cases h1
              intro t ht
              rcases List.mem_append.1 ht with ht | ht
              · exact h t ht
              · obtain rfl := List.mem_singleton.1 ht
                exact ⟨hl _ List.mem_cons_self, by simpa using hq, by simpa using hi⟩
theorem readL_clean (fs : List (Txt × Txt)) : ∀ (n : Nat) (name : Txt) (within : List Txt) (st st' : RSt), (∀ t ∈ st.pats, clean t) → readL fs n name within st = .ok st' → ∀ t ∈ st'.pats, clean t
  | 0, _, _, _, _, _, e => by cases e
  | n + 1, name, within, st, st', h, e => by
    unfold readL at e
    split at e
    · cases e
    · split at e
      · cases e
      · split at e
        · cases e
        · exact foldL_clean (fun nm st st' a b => readL_clean fs n nm (within ++ [name]) st st' a b) _ (linesL_ok _) st st' h e
theorem parse_clean {fs : List (Txt × Txt)} {name : Txt} {ts : List Txt} (h : parseL fs name = .ok ts) : ∀ t ∈ ts, clean t := by
  unfold parseL at h
  split at h
  · cases h
  · rename_i st hr
    cases h
    exact readL_clean _ _ _ _ _ _ (by simp) hr

theorem lines_join : ∀ (ts : List Txt), (∀ t ∈ ts, clean t) → linesL (joinL ts) = ts ++ [[]]
  | [], _ => rfl
  | t :: ts, h => by
    have ih := lines_join ts fun x hx => h x (List.mem_cons_of_mem _ hx)
    have hc := (h t List.mem_cons_self).1
    unfold linesL nlL at *
    have e : joinL (t :: ts) = t ++ 10 :: joinL ts := by simp [joinL]
    rw [e, splitNl_at, splitNl_no _ _ hc.1, List.map_append, ih]
    simp [hc.2]
theorem fold_all {rd : Txt → RSt → Except Nat RSt} : ∀ (ts : List Txt), (∀ t ∈ ts, clean t ∧ ∃ p, patL t = .ok p) → ∀ ps i, ps.length + ts.length ≤ 64 → foldL (lineL rd) ⟨ps, i⟩ (ts ++ [[]]) = .ok ⟨ps ++ ts, i⟩
  | [], _, ps, i, _ => by simp [foldL, lineL]
  | t :: ts, h, ps, i, hl => by
    obtain ⟨hc, p, hp⟩ := h t List.mem_cons_self
    have h64 : ¬ ((ps.length == 64) = true) := by
      simp only [List.length_cons] at hl
      simp; omega
    rw [List.cons_append, foldL]
    have e : lineL rd ⟨ps, i⟩ t = .ok ⟨ps ++ [t], i⟩ := by
      unfold lineL
      rw [if_neg (by rw [hc.2.1]; simp), if_neg (by rw [hc.2.2]; simp)]
      simp only
      rw [if_neg h64, hp]
    rw [e]
    simp only
    rw [fold_all ts (fun x hx => h x (List.mem_cons_of_mem _ hx)) (ps ++ [t]) i (by simp at hl ⊢; omega)]
    simp
theorem again {n : Txt} {ts : List Txt} (hc : ∀ t ∈ ts, clean t) (hp : ∀ t ∈ ts, ∃ p, patL t = .ok p) (hl : ts.length ≤ 64) : parseL [(n, joinL ts)] n = .ok ts := by
  unfold parseL
  rw [show readL [(n, joinL ts)] 5 n [] ⟨[], 0⟩ = .ok ⟨ts, 0⟩ from ?_]
  unfold readL
  have hf : findL [(n, joinL ts)] n = some (joinL ts) := by simp [findL]
  rw [hf]
  have h0 : ([] : List Txt).contains n = false := by simp
  simp only [h0, List.length_nil, List.nil_append, show (decide (4 < 0 + 1) || decide (64 < 0)) = false from rfl, Bool.false_eq_true, if_false]
  rw [lines_join ts hc, fold_all ts (fun t ht => ⟨hc t ht, hp t ht⟩) [] 0 (by simpa using hl)]
  rfl

theorem patL_le {t : Txt} {p : Pat} (h : patL t = .ok p) : t.length ≤ 128 := by
  unfold patL at h
  split at h
  · cases h
  · omega
theorem firstL_del {ts : List Txt} {s : Txt} {a b : Bool} (h : firstL ts s = (a, b)) (hb : b = true) : a = true := by
  induction ts with
  | nil => cases h; cases hb
  | cons t ts ih =>
    unfold firstL at h
    split at h
    · exact ih h
    · split at h
      · obtain ⟨rfl, rfl⟩ := Prod.mk.inj h
        simp only [Bool.and_eq_true] at hb
        exact hb.1
      · exact ih h
theorem matchesL_says {ts : List Txt} {s : ByteArray} {a b : Bool} (h : matchesL ts s = (a, b)) : (b = true → a = true) ∧ (a = true → mayB s = true) := by
  unfold matchesL at h
  split at h
  · rename_i hm
    exact ⟨firstL_del h, fun _ => hm⟩
  · cases h; exact ⟨fun h => (by cases h), fun h => (by cases h)⟩
end Go.Proofs.YtlabhbeacogfbaaDoor
