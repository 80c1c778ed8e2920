/- Closed facts of the row of DiskWhole, reckoned by the kernel. -/
import Derived.Test.YtldppmjjgljinaaGreatDoorPathEnv
namespace Go.Proofs.YtldppmjjgljinaaGreatDoor.lawDiskWhole
set_option maxRecDepth 100000
theorem facts : joinedFacts Tryz.pinned.checked.prog 4 Tryz.f4 Rows.diskWholeSpec Rows.diskWholeRow = true := by kernel_rfl
theorem named : Tryz.pinned.checked.prog.funcNamed Rows.diskWholeRow.func = some 4 := by kernel_rfl
end Go.Proofs.YtldppmjjgljinaaGreatDoor.lawDiskWhole
