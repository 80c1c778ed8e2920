/- Closed facts of the card of WalkLess, reckoned by the kernel, a declaration each. -/
import Derived.Test.YtodickpibbbiiaaGreatDoorRows
import Derived.Test.YtodickpibbbiiaaGreatDoorTie
import Derived.Test.YtodickpibbbiiaaGreatDoorCards
import Derived.SevenTiedAt
namespace Go.Proofs.YtodickpibbbiiaaGreatDoor.lawWalkLess
set_option maxRecDepth 100000
theorem card1 : Rows.walkLessRow.wfByText (OpenSpec.ofChange Rows.walkLessSpec) = true := by kernel_rfl
theorem card2 : Tryz.pinned.checked.prog.mainIs = some (Rows.walkLessCard.stood.harness.1, Rows.walkLessCard.stood.harness.2.toList) := by kernel_rfl
theorem card3 : Rows.walkLessCard.stood.looks = Tryz.pinned.checked.prog.looks [] := by kernel_rfl
theorem card4 : ([22, 9, 23].all fun u => !Tryz.pinned.checked.prog.wantsStandIn u) = true := by kernel_rfl
theorem card5 : false = Rows.walkLessRow.goesBy Tryz.pinned.checked.prog := by kernel_rfl
end Go.Proofs.YtodickpibbbiiaaGreatDoor.lawWalkLess
