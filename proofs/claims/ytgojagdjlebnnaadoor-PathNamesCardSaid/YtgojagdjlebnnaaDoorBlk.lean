/- Blocks of cells in a world: what a cell of one holds; a block that a call made. -/
import Derived.Test.YtgojagdjlebnnaaDoorTailQ
import Derived.Laws.Tables
namespace Go.Proofs.YtgojagdjlebnnaaDoor
open Go.RowKit

theorem cellB {w : World} {b k : Nat} {cs : Array Value} {t : TypeId} {m : Nat × Nat} (h : w.heap[b]? = some (.cells cs t m)) : w.cell? ⟨b, k, none⟩ = cs[k]? := by
  unfold World.cell?
  simp [h]
theorem frozenB {w : World} {b k : Nat} {cs : Array Value} {t : TypeId} (h : w.heap[b]? = some (.cells cs t (0, 0))) : w.frozen? ⟨b, k, none⟩ = false := by
  unfold World.frozen?
  simp [h]
theorem ltB {w : World} {b : Nat} {o : Obj} (h : w.heap[b]? = some o) : b < w.heap.size := (Array.getElem?_eq_some_iff.1 h).1
theorem setCellB {w : World} {b k : Nat} {cs : Array Value} {t : TypeId} {m : Nat × Nat} {u : Value} (h : w.heap[b]? = some (.cells cs t m)) : (w.setCell ⟨b, k, none⟩ u).heap[b]? = some (.cells (cs.setIfInBounds k u) t m) := by
  unfold World.setCell
  simp [Array.getElem?_modify, h]
theorem setCellO {w : World} {b b' k : Nat} {u : Value} (h : b' ≠ b) : (w.setCell ⟨b, k, none⟩ u).heap[b']? = w.heap[b']? := by
  unfold World.setCell
  simp [Array.getElem?_modify, Ne.symm h]
/-- A region that draws its order, in a world of a class that was laid ahead of it. -/
theorem wp_region_after0 {P : Program} {id : Nat} {Q : Exit → Act → World → Prop} {a : Act} {w : World} {l : List Oper} (y : After w) (hm : P.follows .mixedOrders = true) (hB : Region.lexB .any l.toArray = true)
    (h : wpQuiet P l.toArray (fun w' => ∃ x : After w, w' = x.v) (fun a' => ∀ w', (∃ x : After w, w' = x.v) → Q .normal a' w') l a) : (Code.region id l.toArray true).wp P Q a y.v :=
  wp_region_quiet (C := fun w' => ∃ x : After w, w' = x.v) hm hB ⟨⟨_, y.x.drew⟩, rfl⟩ (by simpa using h)
theorem wp_region_after_tail0 {P : Program} {id : Nat} {Q : Exit → Act → World → Prop} {a : Act} {w : World} {l : List Oper} (y : After w) (n : Nat) (hm : P.follows .mixedOrders = true) (hB : Region.lexTailB .any l.toArray n = true)
    (h : wpQuiet P l.toArray (fun w' => ∃ x : After w, w' = x.v) (fun a' => ∀ w', (∃ x : After w, w' = x.v) → wpList P l.toArray Q (l.drop n) a' w') (l.take n) a) : (Code.region id l.toArray true).wp P Q a y.v :=
  wp_region_quiet_tail (C := fun w' => ∃ x : After w, w' = x.v) n hm hB ⟨⟨_, y.x.drew⟩, rfl⟩ h
theorem After.at {w : World} {b k : Nat} {cs : Array Value} {t : TypeId} {m : Nat × Nat} (h : w.heap[b]? = some (.cells cs t m)) (v : After w) : v.v.cell? ⟨b, k, none⟩ = cs[k]? := cellB ((v.x.block (ltB h)).trans h)
theorem After.free {w : World} {b k : Nat} {cs : Array Value} {t : TypeId} (h : w.heap[b]? = some (.cells cs t (0, 0))) (v : After w) : v.v.frozen? ⟨b, k, none⟩ = false := frozenB ((v.x.block (ltB h)).trans h)
/-- A value of an array's or struct's type that is built: its cells as given. -/
theorem wpList_buildAs {P : Program} {ops : Array Oper} {rest : List Oper} {o : Oper} {a : Act} {w : World} {Q : Exit → Act → World → Prop} (cells : Array Value) (hg : o.guard = none) (t : TypeId) (parts : Array (Nat × Operand)) (ho : o.op = .build t parts)
    (hf : P.built t (parts.map fun (i, x) => (i, a.eval x)).toList = some cells) (h : wpList P ops Q rest (a.put o.dst (.agg cells)) w) : wpList P ops Q (o :: rest) a w :=
  wpList_build hg t parts ho (by rw [hf]; rfl) (by rw [hf]; exact h)
theorem Ext.setRow {w w' : World} (h : Ext w w') {g : Nat} (hg : w.heap.size ≤ g) (cs : Array Value) : Ext w (w'.setRow g cs) :=
  Below.trans h ⟨rfl, rfl, rfl, by rw [setRow_size]; exact Nat.le_refl _, fun k hk => setRow_other _ _ _ _ (by omega)⟩
end Go.Proofs.YtgojagdjlebnnaaDoor
