/- Closed facts of the card of ArchiveGoes, reckoned by the kernel, a declaration each. -/
import Derived.Test.YtodickpibbbiiaaGreatDoorRows
import Derived.Test.YtodickpibbbiiaaGreatDoorTie
import Derived.Test.YtodickpibbbiiaaGreatDoorCards
import Derived.SevenTiedAt
namespace Go.Proofs.YtodickpibbbiiaaGreatDoor.lawArchiveGoes
set_option maxRecDepth 100000
theorem card1:Rows.archiveGoesRow.wfByText (OpenSpec.ofChange Rows.archiveGoesSpec)=true:=by kernel_rfl
theorem card2:Tryz.pinned.checked.prog.mainIs=some (Rows.archiveGoesCard.stood.harness.1,Rows.archiveGoesCard.stood.harness.2.toList):=by kernel_rfl
theorem card3:Rows.archiveGoesCard.stood.looks=Tryz.pinned.checked.prog.looks []:=by kernel_rfl
theorem card4:([89,90,2].all fun u=>!Tryz.pinned.checked.prog.wantsStandIn u)=true:=by kernel_rfl
theorem card5:false=Rows.archiveGoesRow.goesBy Tryz.pinned.checked.prog:=by kernel_rfl
end Go.Proofs.YtodickpibbbiiaaGreatDoor.lawArchiveGoes
