/- Closed facts of the card of WalkItems, reckoned by the kernel, a declaration each. -/
import Derived.Test.YtodickpibbbiiaaGreatDoorRows
import Derived.Test.YtodickpibbbiiaaGreatDoorTie
import Derived.Test.YtodickpibbbiiaaGreatDoorCards
import Derived.SevenTiedAt
namespace Go.Proofs.YtodickpibbbiiaaGreatDoor.lawWalkItems
set_option maxRecDepth 100000
theorem card1:Rows.walkItemsRow.wfByText (OpenSpec.ofChange Rows.walkItemsSpec)=true:=by kernel_rfl
theorem card2:Tryz.pinned.checked.prog.mainIs=some (Rows.walkItemsCard.stood.harness.1,Rows.walkItemsCard.stood.harness.2.toList):=by kernel_rfl
theorem card3:Rows.walkItemsCard.stood.looks=Tryz.pinned.checked.prog.looks []:=by kernel_rfl
theorem card4:([22,9,9,3].all fun u=>!Tryz.pinned.checked.prog.wantsStandIn u)=true:=by kernel_rfl
theorem card5:false=Rows.walkItemsRow.goesBy Tryz.pinned.checked.prog:=by kernel_rfl
end Go.Proofs.YtodickpibbbiiaaGreatDoor.lawWalkItems
