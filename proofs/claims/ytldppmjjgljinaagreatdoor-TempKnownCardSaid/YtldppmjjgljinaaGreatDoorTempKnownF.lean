/- Closed facts of the row of TempKnown, reckoned by the kernel. -/
import Derived.Test.YtldppmjjgljinaaGreatDoorPathEnv
namespace Go.Proofs.YtldppmjjgljinaaGreatDoor.lawTempKnown
set_option maxRecDepth 100000
theorem facts : joinedFacts Tryz.pinned.checked.prog 11 Tryz.f11 Rows.tempKnownSpec Rows.tempKnownRow = true := by kernel_rfl
theorem named : Tryz.pinned.checked.prog.funcNamed Rows.tempKnownRow.func = some 11 := by kernel_rfl
end Go.Proofs.YtldppmjjgljinaaGreatDoor.lawTempKnown
