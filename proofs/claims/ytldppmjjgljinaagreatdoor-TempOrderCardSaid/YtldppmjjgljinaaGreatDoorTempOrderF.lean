/- Closed facts of the row of TempOrder, reckoned by the kernel. -/
import Derived.Test.YtldppmjjgljinaaGreatDoorPathEnv
namespace Go.Proofs.YtldppmjjgljinaaGreatDoor.lawTempOrder
set_option maxRecDepth 100000
theorem facts : joinedFacts Tryz.pinned.checked.prog 8 Tryz.f8 Rows.tempOrderSpec Rows.tempOrderRow = true := by kernel_rfl
theorem named : Tryz.pinned.checked.prog.funcNamed Rows.tempOrderRow.func = some 8 := by kernel_rfl
end Go.Proofs.YtldppmjjgljinaaGreatDoor.lawTempOrder
