/- Closed facts of the row of TempResumes, reckoned by the kernel. -/
import Derived.Test.YtldppmjjgljinaaGreatDoorPathEnv
namespace Go.Proofs.YtldppmjjgljinaaGreatDoor.lawTempResumes
set_option maxRecDepth 100000
theorem facts : joinedFacts Tryz.pinned.checked.prog 3 Tryz.f3 Rows.tempResumesSpec Rows.tempResumesRow = true := by kernel_rfl
theorem named : Tryz.pinned.checked.prog.funcNamed Rows.tempResumesRow.func = some 3 := by kernel_rfl
end Go.Proofs.YtldppmjjgljinaaGreatDoor.lawTempResumes
