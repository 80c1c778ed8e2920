/- Closed facts of the row of DiskPlays, reckoned by the kernel. -/
import Derived.Test.YtldppmjjgljinaaGreatDoorPathEnv
namespace Go.Proofs.YtldppmjjgljinaaGreatDoor.lawDiskPlays
set_option maxRecDepth 100000
theorem facts : joinedFacts Tryz.pinned.checked.prog 7 Tryz.f7 Rows.diskPlaysSpec Rows.diskPlaysRow = true := by kernel_rfl
theorem named : Tryz.pinned.checked.prog.funcNamed Rows.diskPlaysRow.func = some 7 := by kernel_rfl
end Go.Proofs.YtldppmjjgljinaaGreatDoor.lawDiskPlays
