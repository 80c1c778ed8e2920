/- Closed facts of the card of TempPlays, reckoned by the kernel, a declaration each. -/
import Derived.Test.YtldppmjjgljinaaGreatDoorRows
import Derived.Test.YtldppmjjgljinaaGreatDoorTie
import Derived.Test.YtldppmjjgljinaaGreatDoorCards
import Derived.SevenTiedAt
namespace Go.Proofs.YtldppmjjgljinaaGreatDoor.lawTempPlays
set_option maxRecDepth 100000
theorem card1:Rows.tempPlaysRow.wfByText (OpenSpec.ofChange Rows.tempPlaysSpec)=true:=by kernel_rfl
theorem card2:Tryz.pinned.checked.prog.mainIs=some (Rows.tempPlaysCard.stood.harness.1,Rows.tempPlaysCard.stood.harness.2.toList):=by kernel_rfl
theorem card3:Rows.tempPlaysCard.stood.looks=Tryz.pinned.checked.prog.looks []:=by kernel_rfl
theorem card4:([31,83,84].all fun u=>!Tryz.pinned.checked.prog.wantsStandIn u)=true:=by kernel_rfl
theorem card5:false=Rows.tempPlaysRow.goesBy Tryz.pinned.checked.prog:=by kernel_rfl
end Go.Proofs.YtldppmjjgljinaaGreatDoor.lawTempPlays
