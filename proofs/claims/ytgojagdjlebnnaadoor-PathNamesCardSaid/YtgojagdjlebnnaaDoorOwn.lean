/- Append of one element to a slice of the call's own: the kit's law in the form that the walks of this seat use; lists of texts in memory. -/
import Derived.Test.YtgojagdjlebnnaaDoorBase
import Derived.OwnWalk
import Derived.Laws.OwnMore
namespace Go.Proofs.YtgojagdjlebnnaaDoor
open Go.RowKit

/-- What the table of types says of a slice type t over one-cell elements e. -/
structure Elem (P : Program) (t e : TypeId) (z : Value) (bytes : Nat) : Prop where
  ut : P.underlying t = some (.slice e)
  info : (P.info? e).map (fun i => (i.zero, i.size, i.bytes)) = some (some z, 1, bytes)
  one : z.cells.size = 1
  few : bytes ≤ 1024

/-- A slice value that heads a row of its own. -/
def IsRow (w : World) (base n : Nat) (v : Value) : Prop := ∃ g cap, v = .slice (some ⟨g, 0, none⟩) n cap ∧ base ≤ g ∧ g < w.heap.size ∧ n ≤ cap ∧ cap ≤ maxLen

theorem append_one {P : Program} {ops : Array Oper} {rest : List Oper} {o : Oper} {a : Act} {Q : Exit → Act → World → Prop} {w : World} {t e : TypeId} {z : Value} {bytes : Nat} (el : Elem P t e z bytes)
    (base : Nat) (v : Value) (n : Nat) (xs : List Value) (hown : w.ownsRow base e 1 v n xs) (g : Nat) (u : Value) (s x : Operand)
    (hgd : o.guard = none) (ho : o.op = .call { callee := .builtin .append, args := #[s, x], argTypes := #[t, t] })
    (hs : a.eval s = v) (hx : a.eval x = .slice (some ⟨g, 0, none⟩) 1 1) (hnew : w.cell? ⟨g, 0, none⟩ = some u) (h1 : u.oneCell' = true) (hn : n ≤ 68719476736) (hbase : base ≤ w.heap.size)
    (h : ∀ v' w', w'.ownsRow base e 1 v' (n + 1) (xs ++ [u]) → w.grownBy w' v.ownBlock → IsRow w' base (n + 1) v' → wpList P ops Q rest (a.put o.dst v') w') : wpList P ops Q (o :: rest) a w := by
  obtain ⟨i, hi, hz, hsz, hby⟩ := info_parts el.info
  have hf := el.few
  refine wpList_append_own w hgd s x t ho base e i z 1 bytes el.ut hi hz hsz hby el.one (by decide) v n xs hs hown ⟨g, 0, none⟩ 1 1 [u] hx rfl ?_ ?_ ?_ ?_ hbase ?_
  · intro j u' hj
    match j, hj with
    | 0, hj => simp at hj; subst hj; exact hnew
  · intro u' hu; simp at hu; subst hu; exact h1
  · unfold maxLen; omega
  · have : (n + 1) * bytes ≤ (n + 1) * 1024 := Nat.mul_le_mul_left _ hf
    omega
  · intro v' w' hown' hg hnil
    refine h v' w' hown' hg ?_
    rcases hown'.2 with ⟨_, h0⟩ | ⟨g', cap, cur, hv, hb, hh, hc, hm, _⟩
    · omega
    · refine ⟨g', cap, hv, hb, ?_, hc, hm⟩
      rcases Nat.lt_or_ge g' w'.heap.size with hlt | hge
      · exact hlt
      · rw [Array.getElem?_eq_none hge] at hh; cases hh

/-- A slice value that reads as these cells; nil or in a block of the heap. -/
def CellsAt (w : World) (v : Value) (xs : List Value) : Prop :=
  (v = .slice none 0 0 ∧ xs = []) ∨ ∃ g cap, v = .slice (some ⟨g, 0, none⟩) xs.length cap ∧ g < w.heap.size ∧ xs.length ≤ cap ∧ cap ≤ maxLen ∧ ∀ (j : Nat) u, xs[j]? = some u → w.cell? ⟨g, j, none⟩ = some u
theorem CellsAt.ext {w w' : World} {v : Value} {xs : List Value} (h : CellsAt w v xs) (k : Ext w w') : CellsAt w' v xs := by
  rcases h with h | ⟨g, cap, h1, h2, h3, h4, h5⟩
  · exact .inl h
  · exact .inr ⟨g, cap, h1, Nat.lt_of_lt_of_le h2 k.size, h3, h4, fun j u hj => (k.cell h2).trans (h5 j u hj)⟩
theorem CellsAt.of_owns {w : World} {base : Nat} {e : TypeId} {v : Value} {xs : List Value} (h : w.ownsRow base e 1 v xs.length xs) : CellsAt w v xs := by
  rcases h.2 with ⟨h1, h2⟩ | ⟨g, cap, cur, hv, hb, hh, hc, hm, hs, ht⟩
  · exact .inl ⟨h1, List.length_eq_zero_iff.1 h2⟩
  · refine .inr ⟨g, cap, hv, ?_, hc, hm, fun j u hj => ?_⟩
    · rcases Nat.lt_or_ge g w.heap.size with hlt | hge
      · exact hlt
      · rw [Array.getElem?_eq_none hge] at hh; cases hh
    · subst hv
      have hj' : j < xs.length := (List.getElem?_eq_some_iff.1 hj).1
      rw [h.cellAt j (by omega), hj]
end Go.Proofs.YtgojagdjlebnnaaDoor
