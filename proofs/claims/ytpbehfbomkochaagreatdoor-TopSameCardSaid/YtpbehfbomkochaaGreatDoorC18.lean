/- A part of the proof. No condition. -/
import Derived.Test.YtpbehfbomkochaaGreatDoorCards
import Derived.ProofKit
import Derived.MakeChecks
set_option linter.all false
namespace Go.Proofs.YtpbehfbomkochaaGreatDoor
open ChangeShapes WideShapes ChangeAt RowKit
open Go.Proofs.Tryz
theorem Sk: (Rows.topSameRow.wf (OpenSpec.ofChange Rows.topSameSpec)&&namedTie prog Rows.topSameRow.named Rows.topSameSpec.vars&&(Rows.topSameRow.stops== [])&&(prog.stops== [])&&(Rows.topSameRow.knobs== [])&&(prog.stopKnobs== []))=true:=by kernel_rfl
theorem Sm: (laidOutB prog&&mapsRowed prog&&Tryz.f4.params.all (prog.readableRec ·))=true:=by kernel_rfl
theorem Sn: (Rows.topSameRow.inPlace==prog.inPlace 4)=true:=by kernel_rfl
theorem Sp: (Rows.topSameRow.unfollowed==prog.unfollowed 4)=true:=by kernel_rfl
theorem Sq: (Rows.topSameRow.recurses==prog.recurses 4)=true:=by kernel_rfl
theorem Sr: (Rows.topSameRow.named==prog.varsNamed 4)=true:=by kernel_rfl
theorem Ss: ((Rows.topSameRow.maps==(Tryz.f4.params.toList++Rows.topSameSpec.plain.varTypes prog).any (prog.mapsRec ·))&&(Rows.topSameRow.ifaces==(Tryz.f4.params.toList++Rows.topSameSpec.plain.varTypes prog).any (prog.ifacesRec ·))&&(Rows.topSameRow.mapsOut==prog.mapsAmong Tryz.f4.resultTypes.toList))=true:=by kernel_rfl
theorem Su: ((Rows.topSameRow.loops==(Tryz.f4.params.toList++Rows.topSameSpec.plain.varTypes prog).any (prog.loopsFrom ·))&&(Rows.topSameRow.wideKeys==(Tryz.f4.params.toList++Rows.topSameSpec.plain.varTypes prog++Tryz.f4.resultTypes.toList).any (prog.wideKeysFrom ·)))=true:=by kernel_rfl
theorem Sv: (Rows.topSameSpec.vars.all (prog.varReadable ·)&&Tryz.f4.resultTypes.all (fun t=>prog.readableRec t&&decide (t<prog.types.size))&&(Rows.topSameRow.ifacesOut==Tryz.f4.resultTypes.toList.any (prog.ifacesRec ·))&&(Rows.topSameRow.loopsOut==Tryz.f4.resultTypes.toList.any (prog.loopsFrom ·)))=true:=by kernel_rfl
theorem Pj: (Rows.topSameRow.plainKeys==prog.plainKeys)=true:=by kernel_rfl
theorem Pk: (Rows.topSameRow.shortTexts.isNone&&prog.stopsHeard)=true:=by kernel_rfl
theorem Pm:prog.mayEnter=true:=by kernel_rfl
theorem Pn: (Rows.topSameRow.lifted==prog.liftsFinal)=true:=by kernel_rfl
theorem Po: (prog.make==some Rows.topSameRow.make)=true:=by kernel_rfl
theorem Pp: (Rows.topSameRow.kinds==(if Rows.topSameRow.domain.isEmpty then[] else Tryz.f4.params.toList.map fun t=>match prog.underlying t with|some (.int k)=>some k|_=>none))=true:=by kernel_rfl
theorem Pq: (Rows.topSameRow.pinned==Rows.topSameRow.pinnedBy)=true:=by kernel_rfl
theorem Pr: ((Rows.topSameRow.veiled==(Tryz.f4.params.toList++Rows.topSameSpec.plain.varTypes prog++Tryz.f4.resultTypes.toList).any (prog.veiledRec ·))&&Rows.topSameRow.veiledFits prog Tryz.f4.params.toList (Tryz.f4.params.toList++Rows.topSameSpec.plain.varTypes prog++Tryz.f4.resultTypes.toList))=true:=by kernel_rfl
theorem IL:prog.funcNamed Rows.topSameRow.func=some 4:=by kernel_rfl
theorem KW:Tryz.f4.isInstance prog Rows.topSameRow.origin Rows.topSameRow.targs:=of_decide_eq_true (by kernel_rfl)
theorem KX:Tryz.f4.isWrapper prog Rows.topSameRow.wrapper Rows.topSameRow.mainSum:=by
 unfold Func.isWrapper
 first
 |(rw[if_pos (by decide+kernel)];kernel_rfl)
 |(rw[if_neg (by decide+kernel)];exact⟨rfl,rfl⟩)
theorem Ek:Rows.topSameRow.wfByText (OpenSpec.ofChange Rows.topSameSpec)=true:=by kernel_rfl
theorem K0:prog.mainIs=some (true, "0be1cf4e26bd9add8b1e2e9a459f5b46557c09359674b2eecf05079668f48b43".toList):=by kernel_rfl
theorem Gw:true=prog.looks []:=by kernel_rfl
theorem K6:false=Rows.topSameRow.goesBy prog:=by kernel_rfl
theorem Gx: ([26,22].all fun u=>!prog.wantsStandIn u)=true:=by kernel_rfl
end Go.Proofs.YtpbehfbomkochaaGreatDoor
