/- A part of the proof. No condition. -/
import Derived.Test.YtpbehfbomkochaaGreatDoorCards
import Derived.ProofKit
import Derived.MakeChecks
set_option linter.all false
namespace Go.Proofs.YtpbehfbomkochaaGreatDoor
open ChangeShapes WideShapes ChangeAt RowKit
open Go.Proofs.Tryz
theorem agQ: (Rows.topBootRow.wf (OpenSpec.ofChange Rows.topBootSpec)&&namedTie prog Rows.topBootRow.named Rows.topBootSpec.vars&&(Rows.topBootRow.stops== [])&&(prog.stops== [])&&(Rows.topBootRow.knobs== [])&&(prog.stopKnobs== []))=true:=by kernel_rfl
theorem agR: (laidOutB prog&&mapsRowed prog&&Tryz.f3.params.all (prog.readableRec ·))=true:=by kernel_rfl
theorem agS: (Rows.topBootRow.inPlace==prog.inPlace 3)=true:=by kernel_rfl
theorem agT: (Rows.topBootRow.unfollowed==prog.unfollowed 3)=true:=by kernel_rfl
theorem agU: (Rows.topBootRow.recurses==prog.recurses 3)=true:=by kernel_rfl
theorem agV: (Rows.topBootRow.named==prog.varsNamed 3)=true:=by kernel_rfl
theorem agW: ((Rows.topBootRow.maps==(Tryz.f3.params.toList++Rows.topBootSpec.plain.varTypes prog).any (prog.mapsRec ·))&&(Rows.topBootRow.ifaces==(Tryz.f3.params.toList++Rows.topBootSpec.plain.varTypes prog).any (prog.ifacesRec ·))&&(Rows.topBootRow.mapsOut==prog.mapsAmong Tryz.f3.resultTypes.toList))=true:=by kernel_rfl
theorem agX: ((Rows.topBootRow.loops==(Tryz.f3.params.toList++Rows.topBootSpec.plain.varTypes prog).any (prog.loopsFrom ·))&&(Rows.topBootRow.wideKeys==(Tryz.f3.params.toList++Rows.topBootSpec.plain.varTypes prog++Tryz.f3.resultTypes.toList).any (prog.wideKeysFrom ·)))=true:=by kernel_rfl
theorem agY: (Rows.topBootSpec.vars.all (prog.varReadable ·)&&Tryz.f3.resultTypes.all (fun t=>prog.readableRec t&&decide (t<prog.types.size))&&(Rows.topBootRow.ifacesOut==Tryz.f3.resultTypes.toList.any (prog.ifacesRec ·))&&(Rows.topBootRow.loopsOut==Tryz.f3.resultTypes.toList.any (prog.loopsFrom ·)))=true:=by kernel_rfl
theorem agq: (Rows.topBootRow.plainKeys==prog.plainKeys)=true:=by kernel_rfl
theorem agr: (Rows.topBootRow.shortTexts.isNone&&prog.stopsHeard)=true:=by kernel_rfl
theorem ags:prog.mayEnter=true:=by kernel_rfl
theorem agt: (Rows.topBootRow.lifted==prog.liftsFinal)=true:=by kernel_rfl
theorem agu: (prog.make==some Rows.topBootRow.make)=true:=by kernel_rfl
theorem agv: (Rows.topBootRow.kinds==(if Rows.topBootRow.domain.isEmpty then[] else Tryz.f3.params.toList.map fun t=>match prog.underlying t with|some (.int k)=>some k|_=>none))=true:=by kernel_rfl
theorem agw: (Rows.topBootRow.pinned==Rows.topBootRow.pinnedBy)=true:=by kernel_rfl
theorem agx: ((Rows.topBootRow.veiled==(Tryz.f3.params.toList++Rows.topBootSpec.plain.varTypes prog++Tryz.f3.resultTypes.toList).any (prog.veiledRec ·))&&Rows.topBootRow.veiledFits prog Tryz.f3.params.toList (Tryz.f3.params.toList++Rows.topBootSpec.plain.varTypes prog++Tryz.f3.resultTypes.toList))=true:=by kernel_rfl
theorem af9:prog.funcNamed Rows.topBootRow.func=some 3:=by kernel_rfl
theorem age:Tryz.f3.isInstance prog Rows.topBootRow.origin Rows.topBootRow.targs:=of_decide_eq_true (by kernel_rfl)
theorem agf:Tryz.f3.isWrapper prog Rows.topBootRow.wrapper Rows.topBootRow.mainSum:=by
 unfold Func.isWrapper
 first
 |(rw[if_pos (by decide+kernel)];kernel_rfl)
 |(rw[if_neg (by decide+kernel)];exact⟨rfl,rfl⟩)
theorem afR:Rows.topBootRow.wfByText (OpenSpec.ofChange Rows.topBootSpec)=true:=by kernel_rfl
theorem agh:prog.mainIs=some (true, "0be1cf4e26bd9add8b1e2e9a459f5b46557c09359674b2eecf05079668f48b43".toList):=by kernel_rfl
theorem af0:true=prog.looks []:=by kernel_rfl
theorem agi:false=Rows.topBootRow.goesBy prog:=by kernel_rfl
theorem af1: ([3,22].all fun u=>!prog.wantsStandIn u)=true:=by kernel_rfl
end Go.Proofs.YtpbehfbomkochaaGreatDoor
