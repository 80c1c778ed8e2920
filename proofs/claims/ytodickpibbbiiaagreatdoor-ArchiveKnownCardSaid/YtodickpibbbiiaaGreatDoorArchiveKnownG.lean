/- Closed facts of the card of ArchiveKnown, reckoned by the kernel, a declaration each. -/
import Derived.Test.YtodickpibbbiiaaGreatDoorRows
import Derived.Test.YtodickpibbbiiaaGreatDoorTie
import Derived.Test.YtodickpibbbiiaaGreatDoorCards
import Derived.SevenTiedAt
namespace Go.Proofs.YtodickpibbbiiaaGreatDoor.lawArchiveKnown
set_option maxRecDepth 100000
theorem card1:Rows.archiveKnownRow.wfByText (OpenSpec.ofChange Rows.archiveKnownSpec)=true:=by kernel_rfl
theorem card2:Tryz.pinned.checked.prog.mainIs=some (Rows.archiveKnownCard.stood.harness.1,Rows.archiveKnownCard.stood.harness.2.toList):=by kernel_rfl
theorem card3:Rows.archiveKnownCard.stood.looks=Tryz.pinned.checked.prog.looks []:=by kernel_rfl
theorem card4:([].all fun u=>!Tryz.pinned.checked.prog.wantsStandIn u)=true:=by kernel_rfl
theorem card5:false=Rows.archiveKnownRow.goesBy Tryz.pinned.checked.prog:=by kernel_rfl
end Go.Proofs.YtodickpibbbiiaaGreatDoor.lawArchiveKnown
