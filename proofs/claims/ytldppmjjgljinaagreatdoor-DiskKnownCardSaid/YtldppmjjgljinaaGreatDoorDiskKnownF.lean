/- Closed facts of the row of DiskKnown, reckoned by the kernel. -/
import Derived.Test.YtldppmjjgljinaaGreatDoorPathEnv
namespace Go.Proofs.YtldppmjjgljinaaGreatDoor.lawDiskKnown
set_option maxRecDepth 100000
theorem facts : joinedFacts Tryz.pinned.checked.prog 10 Tryz.f10 Rows.diskKnownSpec Rows.diskKnownRow = true := by kernel_rfl
theorem named : Tryz.pinned.checked.prog.funcNamed Rows.diskKnownRow.func = some 10 := by kernel_rfl
end Go.Proofs.YtldppmjjgljinaaGreatDoor.lawDiskKnown
