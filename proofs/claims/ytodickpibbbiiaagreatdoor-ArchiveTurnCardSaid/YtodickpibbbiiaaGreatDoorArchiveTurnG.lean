/- Closed facts of the card of ArchiveTurn, reckoned by the kernel, a declaration each. -/
import Derived.Test.YtodickpibbbiiaaGreatDoorRows
import Derived.Test.YtodickpibbbiiaaGreatDoorTie
import Derived.Test.YtodickpibbbiiaaGreatDoorCards
import Derived.SevenTiedAt
namespace Go.Proofs.YtodickpibbbiiaaGreatDoor.lawArchiveTurn
set_option maxRecDepth 100000
theorem card1:Rows.archiveTurnRow.wfByText (OpenSpec.ofChange Rows.archiveTurnSpec)=true:=by kernel_rfl
theorem card2:Tryz.pinned.checked.prog.mainIs=some (Rows.archiveTurnCard.stood.harness.1,Rows.archiveTurnCard.stood.harness.2.toList):=by kernel_rfl
theorem card3:Rows.archiveTurnCard.stood.looks=Tryz.pinned.checked.prog.looks []:=by kernel_rfl
theorem card4:([100].all fun u=>!Tryz.pinned.checked.prog.wantsStandIn u)=true:=by kernel_rfl
theorem card5:false=Rows.archiveTurnRow.goesBy Tryz.pinned.checked.prog:=by kernel_rfl
end Go.Proofs.YtodickpibbbiiaaGreatDoor.lawArchiveTurn
