/- The environment of the library's variables, out of the row's condition and the world's shape. -/
import Derived.Test.YtgojagdjlebnnaaDoorLift
import Derived.Test.YtgojagdjlebnnaaDoorPathB
namespace Go.Proofs.YtgojagdjlebnnaaDoor
open Go.RowKit

theorem maxlen_of_shaped {W : World} (h : W.ShapedOpen Tryd.prog) : ∃ m, W.cell? ⟨0, 0, none⟩ = some (.int .i64 m) :=
  cell_of_shapedOpen_int (P := Tryd.prog) (g := 0) (t := 3) (zero := #[.int .i64 0]) h (of_decide_eq_true (by kernel_rfl)) (by kernel_rfl) rfl (by kernel_rfl) (by kernel_rfl) Tryd.underlying3

theorem env_of {laid : List (String × DataW Unit)} {W : World} (hl : laidMet Tryd.prog laid W) (hs : W.ShapedOpen Tryd.prog) (hm : ("internal/strconv.uint64pow10", (Lib.tabData .u64 Lib.pow10Tab : DataW Unit)) ∈ laid) : Env W :=
  ⟨maxlen_of_shaped hs, let ⟨_, h, _⟩ := hl; tabIs_of_mem (g := 3) (t := 119) (e := 81) (n := 20) (by kernel_rfl) (by kernel_rfl) (by kernel_rfl) (by kernel_rfl) (by kernel_rfl) (by kernel_rfl) h hm⟩

theorem pow10_tab : (Lib.tabData .u64 Lib.pow10Tab : DataW Unit) = Rows.laid_internal_strconv_uint64pow10 := by kernel_rfl
theorem pow10_mem {laid : List (String × DataW Unit)} (i : Nat) (h : laid[i]? = some ("internal/strconv.uint64pow10", Rows.laid_internal_strconv_uint64pow10)) : ("internal/strconv.uint64pow10", (Lib.tabData .u64 Lib.pow10Tab : DataW Unit)) ∈ laid := by
  rw [pow10_tab]; exact List.mem_of_getElem? h
end Go.Proofs.YtgojagdjlebnnaaDoor
