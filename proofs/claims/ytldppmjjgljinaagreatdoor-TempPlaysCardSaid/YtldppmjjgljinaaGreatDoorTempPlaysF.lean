/- Closed facts of the row of TempPlays, reckoned by the kernel, a declaration each. -/
import Derived.Test.YtldppmjjgljinaaGreatDoorRows
import Derived.Test.YtldppmjjgljinaaGreatDoorTie
import Derived.Stop.Joined
namespace Go.Proofs.YtldppmjjgljinaaGreatDoor.lawTempPlays
set_option maxRecDepth 100000
theorem an {a b:Bool} (ha:a=true) (hb:b=true):(a&&b)=true:=by rw [ha,hb];rfl
theorem fact1:(Rows.tempPlaysRow.wf (OpenSpec.ofChange Rows.tempPlaysSpec))=true:=by kernel_rfl
theorem fact2:(laidOutB Tryz.pinned.checked.prog)=true:=by kernel_rfl
theorem fact3:(mapsRowed Tryz.pinned.checked.prog)=true:=by kernel_rfl
theorem fact4:(Tryz.f9.params.all (Tryz.pinned.checked.prog.readableRec ·))=true:=by kernel_rfl
theorem fact5:(namedTie Tryz.pinned.checked.prog Rows.tempPlaysRow.named Rows.tempPlaysSpec.vars)=true:=by kernel_rfl
theorem fact6:((Rows.tempPlaysRow.stops==[]))=true:=by kernel_rfl
theorem fact7:((Tryz.pinned.checked.prog.stops==[]))=true:=by kernel_rfl
theorem fact8:((Rows.tempPlaysRow.knobs==[]))=true:=by kernel_rfl
theorem fact9:((Tryz.pinned.checked.prog.stopKnobs==[]))=true:=by kernel_rfl
theorem fact10:((Rows.tempPlaysRow.inPlace==Tryz.pinned.checked.prog.inPlace 9))=true:=by kernel_rfl
theorem fact11:((Rows.tempPlaysRow.unfollowed==Tryz.pinned.checked.prog.unfollowed 9))=true:=by kernel_rfl
theorem fact12:((Rows.tempPlaysRow.recurses==Tryz.pinned.checked.prog.recurses 9))=true:=by kernel_rfl
theorem fact13:((Rows.tempPlaysRow.named==Tryz.pinned.checked.prog.varsNamed 9))=true:=by kernel_rfl
theorem fact14:((Rows.tempPlaysRow.maps==(Tryz.f9.params.toList++Rows.tempPlaysSpec.plain.varTypes Tryz.pinned.checked.prog).any (Tryz.pinned.checked.prog.mapsRec ·)))=true:=by kernel_rfl
theorem fact15:((Rows.tempPlaysRow.ifaces==(Tryz.f9.params.toList++Rows.tempPlaysSpec.plain.varTypes Tryz.pinned.checked.prog).any (Tryz.pinned.checked.prog.ifacesRec ·)))=true:=by kernel_rfl
theorem fact16:((Rows.tempPlaysRow.mapsOut==Tryz.pinned.checked.prog.mapsAmong Tryz.f9.resultTypes.toList))=true:=by kernel_rfl
theorem fact17:((Rows.tempPlaysRow.loops==(Tryz.f9.params.toList++Rows.tempPlaysSpec.plain.varTypes Tryz.pinned.checked.prog).any (Tryz.pinned.checked.prog.loopsFrom ·)))=true:=by kernel_rfl
theorem fact18:((Rows.tempPlaysRow.wideKeys==(Tryz.f9.params.toList++Rows.tempPlaysSpec.plain.varTypes Tryz.pinned.checked.prog++Tryz.f9.resultTypes.toList).any (Tryz.pinned.checked.prog.wideKeysFrom ·)))=true:=by kernel_rfl
theorem fact19:(Rows.tempPlaysSpec.vars.all (Tryz.pinned.checked.prog.varReadable ·))=true:=by kernel_rfl
theorem fact20:(Tryz.f9.resultTypes.all (fun t=>Tryz.pinned.checked.prog.readableRec t&&decide (t<Tryz.pinned.checked.prog.types.size)))=true:=by kernel_rfl
theorem fact21:((Rows.tempPlaysRow.ifacesOut==Tryz.f9.resultTypes.toList.any (Tryz.pinned.checked.prog.ifacesRec ·)))=true:=by kernel_rfl
theorem fact22:((Rows.tempPlaysRow.loopsOut==Tryz.f9.resultTypes.toList.any (Tryz.pinned.checked.prog.loopsFrom ·)))=true:=by kernel_rfl
theorem fact23:((Rows.tempPlaysRow.plainKeys==Tryz.pinned.checked.prog.plainKeys))=true:=by kernel_rfl
theorem fact24:(Rows.tempPlaysRow.shortTexts.isNone)=true:=by kernel_rfl
theorem fact25:(Tryz.pinned.checked.prog.stopsHeard)=true:=by kernel_rfl
theorem fact26:(Tryz.pinned.checked.prog.mayEnter)=true:=by kernel_rfl
theorem fact27:((Rows.tempPlaysRow.lifted==Tryz.pinned.checked.prog.liftsFinal))=true:=by kernel_rfl
theorem fact28:((Tryz.pinned.checked.prog.make==some Rows.tempPlaysRow.make))=true:=by kernel_rfl
theorem fact29:((Rows.tempPlaysRow.kinds==(if Rows.tempPlaysRow.domain.isEmpty then [] else Tryz.f9.params.toList.map fun t=>match Tryz.pinned.checked.prog.underlying t with | some (.int k)=>some k | _=>none)))=true:=by kernel_rfl
theorem fact30:((Rows.tempPlaysRow.pinned==Rows.tempPlaysRow.pinnedBy))=true:=by kernel_rfl
theorem fact31:((Rows.tempPlaysRow.veiled==(Tryz.f9.params.toList++Rows.tempPlaysSpec.plain.varTypes Tryz.pinned.checked.prog++Tryz.f9.resultTypes.toList).any (Tryz.pinned.checked.prog.veiledRec ·)))=true:=by kernel_rfl
theorem fact32:(Rows.tempPlaysRow.veiledFits Tryz.pinned.checked.prog Tryz.f9.params.toList (Tryz.f9.params.toList++Rows.tempPlaysSpec.plain.varTypes Tryz.pinned.checked.prog++Tryz.f9.resultTypes.toList))=true:=by kernel_rfl
theorem facts:joinedFacts Tryz.pinned.checked.prog 9 Tryz.f9 Rows.tempPlaysSpec Rows.tempPlaysRow=true:=an (an (an (an (an (an (an (an (an (an (an (an (an (an (an (an (an (an (an (an (an (an (an (an (an (an (an (an (an (an (an fact1 fact2) fact3) fact4) fact5) fact6) fact7) fact8) fact9) fact10) fact11) fact12) fact13) fact14) fact15) fact16) fact17) fact18) fact19) fact20) fact21) fact22) fact23) fact24) fact25) fact26) fact27) fact28) fact29) fact30) fact31) fact32
theorem named:Tryz.pinned.checked.prog.funcNamed Rows.tempPlaysRow.func=some 9:=by kernel_rfl
end Go.Proofs.YtldppmjjgljinaaGreatDoor.lawTempPlays
