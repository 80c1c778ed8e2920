/- Closed facts of the card of WalkAll, reckoned by the kernel, a declaration each. -/
import Derived.Test.YtodickpibbbiiaaGreatDoorRows
import Derived.Test.YtodickpibbbiiaaGreatDoorTie
import Derived.Test.YtodickpibbbiiaaGreatDoorCards
import Derived.SevenTiedAt
namespace Go.Proofs.YtodickpibbbiiaaGreatDoor.lawWalkAll
set_option maxRecDepth 100000
theorem card1:Rows.walkAllRow.wfByText (OpenSpec.ofChange Rows.walkAllSpec)=true:=by kernel_rfl
theorem card2:Tryz.pinned.checked.prog.mainIs=some (Rows.walkAllCard.stood.harness.1,Rows.walkAllCard.stood.harness.2.toList):=by kernel_rfl
theorem card3:Rows.walkAllCard.stood.looks=Tryz.pinned.checked.prog.looks []:=by kernel_rfl
theorem card4:([22,9,23].all fun u=>!Tryz.pinned.checked.prog.wantsStandIn u)=true:=by kernel_rfl
theorem card5:false=Rows.walkAllRow.goesBy Tryz.pinned.checked.prog:=by kernel_rfl
end Go.Proofs.YtodickpibbbiiaaGreatDoor.lawWalkAll
