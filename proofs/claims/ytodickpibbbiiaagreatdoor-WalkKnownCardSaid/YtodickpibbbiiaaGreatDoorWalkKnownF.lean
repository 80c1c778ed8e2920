/- Closed facts of the row of WalkKnown, reckoned by the kernel, a declaration each. -/
import Derived.Test.YtodickpibbbiiaaGreatDoorRows
import Derived.Test.YtodickpibbbiiaaGreatDoorTie
import Derived.Stop.Joined
namespace Go.Proofs.YtodickpibbbiiaaGreatDoor.lawWalkKnown
set_option maxRecDepth 100000
theorem an {a b:Bool} (ha:a=true) (hb:b=true):(a&&b)=true:=by rw [ha,hb];rfl
theorem fact1:(Rows.walkKnownRow.wf (OpenSpec.ofChange Rows.walkKnownSpec))=true:=by kernel_rfl
theorem fact2:(laidOutB Tryz.pinned.checked.prog)=true:=by kernel_rfl
theorem fact3:(mapsRowed Tryz.pinned.checked.prog)=true:=by kernel_rfl
theorem fact4:(Tryz.f4.params.all (Tryz.pinned.checked.prog.readableRec ·))=true:=by kernel_rfl
theorem fact5:(namedTie Tryz.pinned.checked.prog Rows.walkKnownRow.named Rows.walkKnownSpec.vars)=true:=by kernel_rfl
theorem fact6:((Rows.walkKnownRow.stops==[]))=true:=by kernel_rfl
theorem fact7:((Tryz.pinned.checked.prog.stops==[]))=true:=by kernel_rfl
theorem fact8:((Rows.walkKnownRow.knobs==[]))=true:=by kernel_rfl
theorem fact9:((Tryz.pinned.checked.prog.stopKnobs==[]))=true:=by kernel_rfl
theorem fact10:((Rows.walkKnownRow.inPlace==Tryz.pinned.checked.prog.inPlace 4))=true:=by kernel_rfl
theorem fact11:((Rows.walkKnownRow.unfollowed==Tryz.pinned.checked.prog.unfollowed 4))=true:=by kernel_rfl
theorem fact12:((Rows.walkKnownRow.recurses==Tryz.pinned.checked.prog.recurses 4))=true:=by kernel_rfl
theorem fact13:((Rows.walkKnownRow.named==Tryz.pinned.checked.prog.varsNamed 4))=true:=by kernel_rfl
theorem fact14:((Rows.walkKnownRow.maps==(Tryz.f4.params.toList++Rows.walkKnownSpec.plain.varTypes Tryz.pinned.checked.prog).any (Tryz.pinned.checked.prog.mapsRec ·)))=true:=by kernel_rfl
theorem fact15:((Rows.walkKnownRow.ifaces==(Tryz.f4.params.toList++Rows.walkKnownSpec.plain.varTypes Tryz.pinned.checked.prog).any (Tryz.pinned.checked.prog.ifacesRec ·)))=true:=by kernel_rfl
theorem fact16:((Rows.walkKnownRow.mapsOut==Tryz.pinned.checked.prog.mapsAmong Tryz.f4.resultTypes.toList))=true:=by kernel_rfl
theorem fact17:((Rows.walkKnownRow.loops==(Tryz.f4.params.toList++Rows.walkKnownSpec.plain.varTypes Tryz.pinned.checked.prog).any (Tryz.pinned.checked.prog.loopsFrom ·)))=true:=by kernel_rfl
theorem fact18:((Rows.walkKnownRow.wideKeys==(Tryz.f4.params.toList++Rows.walkKnownSpec.plain.varTypes Tryz.pinned.checked.prog++Tryz.f4.resultTypes.toList).any (Tryz.pinned.checked.prog.wideKeysFrom ·)))=true:=by kernel_rfl
theorem fact19:(Rows.walkKnownSpec.vars.all (Tryz.pinned.checked.prog.varReadable ·))=true:=by kernel_rfl
theorem fact20:(Tryz.f4.resultTypes.all (fun t=>Tryz.pinned.checked.prog.readableRec t&&decide (t<Tryz.pinned.checked.prog.types.size)))=true:=by kernel_rfl
theorem fact21:((Rows.walkKnownRow.ifacesOut==Tryz.f4.resultTypes.toList.any (Tryz.pinned.checked.prog.ifacesRec ·)))=true:=by kernel_rfl
theorem fact22:((Rows.walkKnownRow.loopsOut==Tryz.f4.resultTypes.toList.any (Tryz.pinned.checked.prog.loopsFrom ·)))=true:=by kernel_rfl
theorem fact23:((Rows.walkKnownRow.plainKeys==Tryz.pinned.checked.prog.plainKeys))=true:=by kernel_rfl
theorem fact24:(Rows.walkKnownRow.shortTexts.isNone)=true:=by kernel_rfl
theorem fact25:(Tryz.pinned.checked.prog.stopsHeard)=true:=by kernel_rfl
theorem fact26:(Tryz.pinned.checked.prog.mayEnter)=true:=by kernel_rfl
theorem fact27:((Rows.walkKnownRow.lifted==Tryz.pinned.checked.prog.liftsFinal))=true:=by kernel_rfl
theorem fact28:((Tryz.pinned.checked.prog.make==some Rows.walkKnownRow.make))=true:=by kernel_rfl
theorem fact29:((Rows.walkKnownRow.kinds==(if Rows.walkKnownRow.domain.isEmpty then [] else Tryz.f4.params.toList.map fun t=>match Tryz.pinned.checked.prog.underlying t with | some (.int k)=>some k | _=>none)))=true:=by kernel_rfl
theorem fact30:((Rows.walkKnownRow.pinned==Rows.walkKnownRow.pinnedBy))=true:=by kernel_rfl
theorem fact31:((Rows.walkKnownRow.veiled==(Tryz.f4.params.toList++Rows.walkKnownSpec.plain.varTypes Tryz.pinned.checked.prog++Tryz.f4.resultTypes.toList).any (Tryz.pinned.checked.prog.veiledRec ·)))=true:=by kernel_rfl
theorem fact32:(Rows.walkKnownRow.veiledFits Tryz.pinned.checked.prog Tryz.f4.params.toList (Tryz.f4.params.toList++Rows.walkKnownSpec.plain.varTypes Tryz.pinned.checked.prog++Tryz.f4.resultTypes.toList))=true:=by kernel_rfl
theorem facts:joinedFacts Tryz.pinned.checked.prog 4 Tryz.f4 Rows.walkKnownSpec Rows.walkKnownRow=true:=an (an (an (an (an (an (an (an (an (an (an (an (an (an (an (an (an (an (an (an (an (an (an (an (an (an (an (an (an (an (an fact1 fact2) fact3) fact4) fact5) fact6) fact7) fact8) fact9) fact10) fact11) fact12) fact13) fact14) fact15) fact16) fact17) fact18) fact19) fact20) fact21) fact22) fact23) fact24) fact25) fact26) fact27) fact28) fact29) fact30) fact31) fact32
theorem named:Tryz.pinned.checked.prog.funcNamed Rows.walkKnownRow.func=some 4:=by kernel_rfl
end Go.Proofs.YtodickpibbbiiaaGreatDoor.lawWalkKnown
