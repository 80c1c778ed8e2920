/- Closed facts of the row of DiskLasts, reckoned by the kernel. -/
import Derived.Test.YtldppmjjgljinaaGreatDoorPathEnv
namespace Go.Proofs.YtldppmjjgljinaaGreatDoor.lawDiskLasts
set_option maxRecDepth 100000
theorem facts : joinedFacts Tryz.pinned.checked.prog 5 Tryz.f5 Rows.diskLastsSpec Rows.diskLastsRow = true := by kernel_rfl
theorem named : Tryz.pinned.checked.prog.funcNamed Rows.diskLastsRow.func = some 5 := by kernel_rfl
end Go.Proofs.YtldppmjjgljinaaGreatDoor.lawDiskLasts
