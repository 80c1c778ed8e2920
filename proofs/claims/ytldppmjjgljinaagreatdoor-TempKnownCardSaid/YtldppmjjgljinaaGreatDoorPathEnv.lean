/- The environment of the library's variables, out of the world's shape. -/
import Derived.Test.YtldppmjjgljinaaGreatDoorLift
import Derived.Test.YtldppmjjgljinaaGreatDoorPathB
namespace Go.Proofs.YtldppmjjgljinaaGreatDoor
open Go.RowKit

theorem maxlen_of_shaped {W : World} (h : W.ShapedOpen Tryz.prog) : ∃ m, W.cell? ⟨2, 0, none⟩ = some (.int .i64 m) :=
  cell_of_shapedOpen_int (P := Tryz.prog) (g := 2) (t := 3) (zero := #[.int .i64 0]) h (of_decide_eq_true (by kernel_rfl)) (by kernel_rfl) rfl (by kernel_rfl) (by kernel_rfl) Tryz.underlying3

theorem env_of {W : World} (hs : W.ShapedOpen Tryz.prog) : Env W := ⟨maxlen_of_shaped hs⟩
end Go.Proofs.YtldppmjjgljinaaGreatDoor
