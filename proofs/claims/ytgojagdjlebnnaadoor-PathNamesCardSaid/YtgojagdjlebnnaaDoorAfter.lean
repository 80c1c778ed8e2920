/- A region that draws its order, whose operations read and whose callees leave all that was there as it was (they may make new blocks): one walk of the lexical order serves every order. -/
import Derived.Test.YtgojagdjlebnnaaDoorBase
namespace Go.Proofs.YtgojagdjlebnnaaDoor
open Go.RowKit

/-- A world that has at most new blocks. -/
structure After (w : World) where
  v : World
  x : Ext w v
instance (w : World) : Nonempty (After w) := ⟨⟨w, Ext.refl w⟩⟩

theorem wp_region_after {P : Program} {id : Nat} {Q : Exit → Act → World → Prop} {a : Act} {w : World} {l : List Oper} (hm : P.follows .mixedOrders = true) (hB : Region.lexB .any l.toArray = true)
    (h : wpQuiet P l.toArray (fun w' => ∃ x : After w, w' = x.v) (fun a' => ∀ w', (∃ x : After w, w' = x.v) → Q .normal a' w') l a) : (Code.region id l.toArray true).wp P Q a w :=
  wp_region_quiet (C := fun w' => ∃ x : After w, w' = x.v) hm hB ⟨⟨_, (Ext.refl w).drew⟩, rfl⟩ (by simpa using h)

theorem After.of {P : Program} {f : FuncId} {args : Array Value} {v : Value} {w : World} {x : After w} (h : Calls P f args x.v fun e w' => e = .returned v ∧ Ext x.v w') :
    Calls P f args x.v fun e w'' => e = .returned v ∧ ∃ y : After w, w'' = y.v :=
  h.mono fun _ w'' ⟨he, hx⟩ => ⟨he, ⟨w'', x.x.trans hx⟩, rfl⟩
theorem After.same {P : Program} {f : FuncId} {args : Array Value} {v : Value} {w : World} {x : After w} (h : Calls P f args x.v fun e w' => e = .returned v ∧ w' = x.v) :
    Calls P f args x.v fun e w'' => e = .returned v ∧ ∃ y : After w, w'' = y.v :=
  h.mono fun _ _ ⟨he, hx⟩ => ⟨he, x, hx⟩
theorem After.draws {P : Program} {f : FuncId} {args : Array Value} {v : Value} {w : World} {x : After w} (h : Calls P f args x.v fun e w' => e = .returned v ∧ ∃ n, w' = x.v.drewN n) :
    Calls P f args x.v fun e w'' => e = .returned v ∧ ∃ y : After w, w'' = y.v :=
  h.mono fun _ w'' ⟨he, n, hx⟩ => ⟨he, ⟨w'', hx ▸ x.x.drewN n⟩, rfl⟩
theorem After.cell {w : World} {b o : Nat} {u : Value} (h : w.cell? ⟨b, o, none⟩ = some u) (x : After w) : x.v.cell? ⟨b, o, none⟩ = some u := (x.x.cell (lt_of_cell h)).trans h
end Go.Proofs.YtgojagdjlebnnaaDoor
