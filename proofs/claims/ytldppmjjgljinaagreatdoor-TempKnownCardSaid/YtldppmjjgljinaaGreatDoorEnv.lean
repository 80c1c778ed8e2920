/- The library's variables that the walks of this seat read. -/
import Derived.Test.YtldppmjjgljinaaGreatDoorBase
namespace Go.Proofs.YtldppmjjgljinaaGreatDoor
open Go.RowKit

/-- The library's variables that the walks read. -/
structure Env (w : World) : Prop where
  maxlen : ∃ m, w.cell? ⟨2, 0, none⟩ = some (.int .i64 m)
theorem Env.ext {w w' : World} (h : Env w) (k : Ext w w') : Env w' :=
  ⟨let ⟨m, hm⟩ := h.maxlen; ⟨m, by rw [k.cell (lt_of_cell hm)]; exact hm⟩⟩
end Go.Proofs.YtldppmjjgljinaaGreatDoor
