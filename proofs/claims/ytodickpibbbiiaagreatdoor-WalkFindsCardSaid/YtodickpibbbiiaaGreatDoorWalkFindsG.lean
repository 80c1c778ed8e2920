/- Closed facts of the card of WalkFinds, reckoned by the kernel, a declaration each. -/
import Derived.Test.YtodickpibbbiiaaGreatDoorRows
import Derived.Test.YtodickpibbbiiaaGreatDoorTie
import Derived.Test.YtodickpibbbiiaaGreatDoorCards
import Derived.SevenTiedAt
namespace Go.Proofs.YtodickpibbbiiaaGreatDoor.lawWalkFinds
set_option maxRecDepth 100000
theorem card1:Rows.walkFindsRow.wfByText (OpenSpec.ofChange Rows.walkFindsSpec)=true:=by kernel_rfl
theorem card2:Tryz.pinned.checked.prog.mainIs=some (Rows.walkFindsCard.stood.harness.1,Rows.walkFindsCard.stood.harness.2.toList):=by kernel_rfl
theorem card3:Rows.walkFindsCard.stood.looks=Tryz.pinned.checked.prog.looks []:=by kernel_rfl
theorem card4:([22,9,23].all fun u=>!Tryz.pinned.checked.prog.wantsStandIn u)=true:=by kernel_rfl
theorem card5:false=Rows.walkFindsRow.goesBy Tryz.pinned.checked.prog:=by kernel_rfl
end Go.Proofs.YtodickpibbbiiaaGreatDoor.lawWalkFinds
