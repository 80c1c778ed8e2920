/- Closed facts of the card of ArchiveBack, reckoned by the kernel, a declaration each. -/
import Derived.Test.YtodickpibbbiiaaGreatDoorRows
import Derived.Test.YtodickpibbbiiaaGreatDoorTie
import Derived.Test.YtodickpibbbiiaaGreatDoorCards
import Derived.SevenTiedAt
namespace Go.Proofs.YtodickpibbbiiaaGreatDoor.lawArchiveBack
set_option maxRecDepth 100000
theorem card1:Rows.archiveBackRow.wfByText (OpenSpec.ofChange Rows.archiveBackSpec)=true:=by kernel_rfl
theorem card2:Tryz.pinned.checked.prog.mainIs=some (Rows.archiveBackCard.stood.harness.1,Rows.archiveBackCard.stood.harness.2.toList):=by kernel_rfl
theorem card3:Rows.archiveBackCard.stood.looks=Tryz.pinned.checked.prog.looks []:=by kernel_rfl
theorem card4:([9,9,2,2].all fun u=>!Tryz.pinned.checked.prog.wantsStandIn u)=true:=by kernel_rfl
theorem card5:false=Rows.archiveBackRow.goesBy Tryz.pinned.checked.prog:=by kernel_rfl
end Go.Proofs.YtodickpibbbiiaaGreatDoor.lawArchiveBack
