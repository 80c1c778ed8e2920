/- Closed facts of the row of ArchiveTurn, reckoned by the kernel, a declaration each. -/
import Derived.Test.YtodickpibbbiiaaGreatDoorRows
import Derived.Test.YtodickpibbbiiaaGreatDoorTie
import Derived.Stop.Joined
namespace Go.Proofs.YtodickpibbbiiaaGreatDoor.lawArchiveTurn
set_option maxRecDepth 100000
theorem an {a b:Bool} (ha:a=true) (hb:b=true):(a&&b)=true:=by rw [ha,hb];rfl
theorem fact1:(Rows.archiveTurnRow.wf (OpenSpec.ofChange Rows.archiveTurnSpec))=true:=by kernel_rfl
theorem fact2:(laidOutB Tryz.pinned.checked.prog)=true:=by kernel_rfl
theorem fact3:(mapsRowed Tryz.pinned.checked.prog)=true:=by kernel_rfl
theorem fact4:(Tryz.f10.params.all (Tryz.pinned.checked.prog.readableRec ·))=true:=by kernel_rfl
theorem fact5:(namedTie Tryz.pinned.checked.prog Rows.archiveTurnRow.named Rows.archiveTurnSpec.vars)=true:=by kernel_rfl
theorem fact6:((Rows.archiveTurnRow.stops==[]))=true:=by kernel_rfl
theorem fact7:((Tryz.pinned.checked.prog.stops==[]))=true:=by kernel_rfl
theorem fact8:((Rows.archiveTurnRow.knobs==[]))=true:=by kernel_rfl
theorem fact9:((Tryz.pinned.checked.prog.stopKnobs==[]))=true:=by kernel_rfl
theorem fact10:((Rows.archiveTurnRow.inPlace==Tryz.pinned.checked.prog.inPlace 10))=true:=by kernel_rfl
theorem fact11:((Rows.archiveTurnRow.unfollowed==Tryz.pinned.checked.prog.unfollowed 10))=true:=by kernel_rfl
theorem fact12:((Rows.archiveTurnRow.recurses==Tryz.pinned.checked.prog.recurses 10))=true:=by kernel_rfl
theorem fact13:((Rows.archiveTurnRow.named==Tryz.pinned.checked.prog.varsNamed 10))=true:=by kernel_rfl
theorem fact14:((Rows.archiveTurnRow.maps==(Tryz.f10.params.toList++Rows.archiveTurnSpec.plain.varTypes Tryz.pinned.checked.prog).any (Tryz.pinned.checked.prog.mapsRec ·)))=true:=by kernel_rfl
theorem fact15:((Rows.archiveTurnRow.ifaces==(Tryz.f10.params.toList++Rows.archiveTurnSpec.plain.varTypes Tryz.pinned.checked.prog).any (Tryz.pinned.checked.prog.ifacesRec ·)))=true:=by kernel_rfl
theorem fact16:((Rows.archiveTurnRow.mapsOut==Tryz.pinned.checked.prog.mapsAmong Tryz.f10.resultTypes.toList))=true:=by kernel_rfl
theorem fact17:((Rows.archiveTurnRow.loops==(Tryz.f10.params.toList++Rows.archiveTurnSpec.plain.varTypes Tryz.pinned.checked.prog).any (Tryz.pinned.checked.prog.loopsFrom ·)))=true:=by kernel_rfl
theorem fact18:((Rows.archiveTurnRow.wideKeys==(Tryz.f10.params.toList++Rows.archiveTurnSpec.plain.varTypes Tryz.pinned.checked.prog++Tryz.f10.resultTypes.toList).any (Tryz.pinned.checked.prog.wideKeysFrom ·)))=true:=by kernel_rfl
theorem fact19:(Rows.archiveTurnSpec.vars.all (Tryz.pinned.checked.prog.varReadable ·))=true:=by kernel_rfl
theorem fact20:(Tryz.f10.resultTypes.all (fun t=>Tryz.pinned.checked.prog.readableRec t&&decide (t<Tryz.pinned.checked.prog.types.size)))=true:=by kernel_rfl
theorem fact21:((Rows.archiveTurnRow.ifacesOut==Tryz.f10.resultTypes.toList.any (Tryz.pinned.checked.prog.ifacesRec ·)))=true:=by kernel_rfl
theorem fact22:((Rows.archiveTurnRow.loopsOut==Tryz.f10.resultTypes.toList.any (Tryz.pinned.checked.prog.loopsFrom ·)))=true:=by kernel_rfl
theorem fact23:((Rows.archiveTurnRow.plainKeys==Tryz.pinned.checked.prog.plainKeys))=true:=by kernel_rfl
theorem fact24:(Rows.archiveTurnRow.shortTexts.isNone)=true:=by kernel_rfl
theorem fact25:(Tryz.pinned.checked.prog.stopsHeard)=true:=by kernel_rfl
theorem fact26:(Tryz.pinned.checked.prog.mayEnter)=true:=by kernel_rfl
theorem fact27:((Rows.archiveTurnRow.lifted==Tryz.pinned.checked.prog.liftsFinal))=true:=by kernel_rfl
theorem fact28:((Tryz.pinned.checked.prog.make==some Rows.archiveTurnRow.make))=true:=by kernel_rfl
theorem fact29:((Rows.archiveTurnRow.kinds==(if Rows.archiveTurnRow.domain.isEmpty then [] else Tryz.f10.params.toList.map fun t=>match Tryz.pinned.checked.prog.underlying t with | some (.int k)=>some k | _=>none)))=true:=by kernel_rfl
theorem fact30:((Rows.archiveTurnRow.pinned==Rows.archiveTurnRow.pinnedBy))=true:=by kernel_rfl
theorem fact31:((Rows.archiveTurnRow.veiled==(Tryz.f10.params.toList++Rows.archiveTurnSpec.plain.varTypes Tryz.pinned.checked.prog++Tryz.f10.resultTypes.toList).any (Tryz.pinned.checked.prog.veiledRec ·)))=true:=by kernel_rfl
theorem fact32:(Rows.archiveTurnRow.veiledFits Tryz.pinned.checked.prog Tryz.f10.params.toList (Tryz.f10.params.toList++Rows.archiveTurnSpec.plain.varTypes Tryz.pinned.checked.prog++Tryz.f10.resultTypes.toList))=true:=by kernel_rfl
theorem facts:joinedFacts Tryz.pinned.checked.prog 10 Tryz.f10 Rows.archiveTurnSpec Rows.archiveTurnRow=true:=an (an (an (an (an (an (an (an (an (an (an (an (an (an (an (an (an (an (an (an (an (an (an (an (an (an (an (an (an (an (an fact1 fact2) fact3) fact4) fact5) fact6) fact7) fact8) fact9) fact10) fact11) fact12) fact13) fact14) fact15) fact16) fact17) fact18) fact19) fact20) fact21) fact22) fact23) fact24) fact25) fact26) fact27) fact28) fact29) fact30) fact31) fact32
theorem named:Tryz.pinned.checked.prog.funcNamed Rows.archiveTurnRow.func=some 10:=by kernel_rfl
end Go.Proofs.YtodickpibbbiiaaGreatDoor.lawArchiveTurn
