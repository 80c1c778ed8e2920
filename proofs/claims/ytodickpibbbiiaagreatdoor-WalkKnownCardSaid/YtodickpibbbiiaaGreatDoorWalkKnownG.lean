/- Closed facts of the card of WalkKnown, reckoned by the kernel, a declaration each. -/
import Derived.Test.YtodickpibbbiiaaGreatDoorRows
import Derived.Test.YtodickpibbbiiaaGreatDoorTie
import Derived.Test.YtodickpibbbiiaaGreatDoorCards
import Derived.SevenTiedAt
namespace Go.Proofs.YtodickpibbbiiaaGreatDoor.lawWalkKnown
set_option maxRecDepth 100000
theorem card1:Rows.walkKnownRow.wfByText (OpenSpec.ofChange Rows.walkKnownSpec)=true:=by kernel_rfl
theorem card2:Tryz.pinned.checked.prog.mainIs=some (Rows.walkKnownCard.stood.harness.1,Rows.walkKnownCard.stood.harness.2.toList):=by kernel_rfl
theorem card3:Rows.walkKnownCard.stood.looks=Tryz.pinned.checked.prog.looks []:=by kernel_rfl
theorem card4:([].all fun u=>!Tryz.pinned.checked.prog.wantsStandIn u)=true:=by kernel_rfl
theorem card5:false=Rows.walkKnownRow.goesBy Tryz.pinned.checked.prog:=by kernel_rfl
end Go.Proofs.YtodickpibbbiiaaGreatDoor.lawWalkKnown
