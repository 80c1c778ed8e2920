/- Closed facts of the row of DiskCopies, reckoned by the kernel. -/
import Derived.Test.YtldppmjjgljinaaGreatDoorPathEnv
namespace Go.Proofs.YtldppmjjgljinaaGreatDoor.lawDiskCopies
set_option maxRecDepth 100000
theorem facts : joinedFacts Tryz.pinned.checked.prog 6 Tryz.f6 Rows.diskCopiesSpec Rows.diskCopiesRow = true := by kernel_rfl
theorem named : Tryz.pinned.checked.prog.funcNamed Rows.diskCopiesRow.func = some 6 := by kernel_rfl
end Go.Proofs.YtldppmjjgljinaaGreatDoor.lawDiskCopies
