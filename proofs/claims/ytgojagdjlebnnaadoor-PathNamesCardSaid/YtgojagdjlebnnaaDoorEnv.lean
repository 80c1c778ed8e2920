/- The library's variables that the walks of this seat read. -/
import Derived.Test.YtgojagdjlebnnaaDoorBase
import Derived.Lib.ItoaMem
namespace Go.Proofs.YtgojagdjlebnnaaDoor
open Go.RowKit

/-- The library's variables that the walks read. -/
structure Env (w : World) : Prop where
  maxlen : ∃ m, w.cell? ⟨0, 0, none⟩ = some (.int .i64 m)
  pow10 : Lib.TabIs Tryd.prog w "internal/strconv.uint64pow10" .u64 Lib.pow10Tab
theorem Env.ext {w w' : World} (h : Env w) (k : Ext w w') : Env w' :=
  ⟨let ⟨m, hm⟩ := h.maxlen; ⟨m, by rw [k.cell (lt_of_cell hm)]; exact hm⟩, Go.Joins.tab_stays (g := 3) (by kernel_rfl) h.pow10 k (Nat.le_refl _)⟩

end Go.Proofs.YtgojagdjlebnnaaDoor
