/- The environment of the library's variables, out of the world's shape. -/
import Derived.Test.YtlabhbeacogfbaaDoorLift
import Derived.Test.YtlabhbeacogfbaaDoorPathB
namespace Go.Proofs.YtlabhbeacogfbaaDoor
open Go.RowKit

theorem maxlen_of_shaped {W : World} (h : W.ShapedOpen Tryd.prog) : ∃ m, W.cell? ⟨0, 0, none⟩ = some (.int .i64 m) :=
  cell_of_shapedOpen_int (P := Tryd.prog) (g := 0) (t := 3) (zero := #[.int .i64 0]) h (of_decide_eq_true (by kernel_rfl)) (by kernel_rfl) rfl (by kernel_rfl) (by kernel_rfl) Tryd.underlying3

theorem env_of {W : World} (hs : W.ShapedOpen Tryd.prog) : Env W := ⟨maxlen_of_shaped hs⟩
end Go.Proofs.YtlabhbeacogfbaaDoor
