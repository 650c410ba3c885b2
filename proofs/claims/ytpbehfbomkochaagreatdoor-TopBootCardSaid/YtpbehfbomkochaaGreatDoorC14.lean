/- A part of the proof. No condition. -/
import Derived.Test.YtpbehfbomkochaaGreatDoorCards
import Derived.Test.YtpbehfbomkochaaGreatDoorTie
import Derived.ChangeOld
import Derived.Carry
import Derived.Lay
import Derived.MakeChecks
import Derived.Shelf.Vars
import Derived.Test.YtpbehfbomkochaaGreatDoorC13
set_option linter.all false
namespace Go.Proofs.Yq
open ChangeShapes WideShapes ChangeAt RowKit Ev
open Tryz
theorem aef:ownKnob prog.godebug=none:=by kernel_rfl
theorem laidOut:laidOutB prog=true:=by kernel_rfl
theorem KV{P:Program}{f:FuncId}{fn:Func}{s:ChangeSpec}{c:OpenClaim}(h1: (c.wf (OpenSpec.ofChange s)&&namedTie P c.named s.vars&&(c.stops== [])&&(P.stops== [])&&(c.knobs== [])&&(P.stopKnobs== []))=true)(h2: (laidOutB P&&mapsRowed P&&fn.params.all (P.readableRec ·))=true)
  (h3: (c.inPlace==P.inPlace f)=true) (h4: (c.unfollowed==P.unfollowed f)=true) (h5: (c.recurses==P.recurses f)=true) (h6: (c.named==P.varsNamed f)=true)
  (h7: ((c.maps==(fn.params.toList++s.plain.varTypes P).any (P.mapsRec ·))&&(c.ifaces==(fn.params.toList++s.plain.varTypes P).any (P.ifacesRec ·))&&(c.mapsOut==P.mapsAmong fn.resultTypes.toList))=true)
  (h8: ((c.loops==(fn.params.toList++s.plain.varTypes P).any (P.loopsFrom ·))&&(c.wideKeys==(fn.params.toList++s.plain.varTypes P++fn.resultTypes.toList).any (P.wideKeysFrom ·)))=true)
  (h9: (s.vars.all (P.varReadable ·)&&fn.resultTypes.all (fun t=>P.readableRec t&&decide (t<P.types.size))&&(c.ifacesOut==fn.resultTypes.toList.any (P.ifacesRec ·))&&(c.loopsOut==fn.resultTypes.toList.any (P.loopsFrom ·)))=true)
  (h10: (c.plainKeys==P.plainKeys)=true) (h11: (c.shortTexts.isNone&&P.stopsHeard)=true) (h12:P.mayEnter=true) (h13: (c.lifted==P.liftsFinal)=true) (h14: (P.make==some c.make)=true)
  (h15: (c.kinds==(if c.domain.isEmpty then[] else fn.params.toList.map fun t=>match P.underlying t with|some (.int k)=>some k|_=>none))=true) (h16: (c.pinned==c.pinnedBy)=true)
  (h17: ((c.veiled==(fn.params.toList++s.plain.varTypes P++fn.resultTypes.toList).any (P.veiledRec ·))&&c.veiledFits P fn.params.toList (fn.params.toList++s.plain.varTypes P++fn.resultTypes.toList))=true):joinedFacts P f fn s c=true:=by
 simp only[bI] at h1 h2 h7 h8 h9 h11 h17;obtain⟨⟨⟨⟨⟨a1,a2⟩,a3⟩,a4⟩,a5⟩,a6⟩:=h1;obtain⟨⟨b1,b2⟩,b3⟩:=h2;obtain⟨⟨d1,d2⟩,d3⟩:=h7;obtain⟨e1,e2⟩:=h8;obtain⟨⟨⟨g1,g2⟩,g3⟩,g4⟩:=h9;obtain⟨i1,i2⟩:=h11;obtain⟨j1,j2⟩:=h17;unfold joinedFacts;simp only[bI]
 repeat' apply And.intro
 all_goals assumption
theorem Ej{H:Type}{enc:TypeId×Value->H}{C:Checked}{os:Os}{f:FuncId}{fn:Func}{s:ChangeSpec}{conds:List PathCond}{apart:Bool}{X:World->Array Value->Prop}(w0:World)(args:Array Value)(fuel:Nat)(hos:w0.os=os)
  (hsh: (w0.forCall (fun _ _=>0) ⟨#[],args,[]⟩).Shaped C.prog)
  (hok:Input.okWideB C.prog (w0.forCall (fun _ _=>0) ⟨#[],args,[]⟩) f ⟨#[],args,[]⟩=true)
  (hpre:s.preB enc C.prog fn conds apart (w0.forCall (fun _ _=>0) ⟨#[],args,[]⟩).memory args fuel=true)
  (hsz:s.sizedB enc C.prog fn apart (w0.forCall (fun _ _=>0) ⟨#[],args,[]⟩).memory args fuel=true)
  (hx:X (w0.forCall (fun _ _=>0) ⟨#[],args,[]⟩).memory args):
  ∃(w:World) (tape:Tape) (i:Input),w.os=os/\(w.forCall tape i).Shaped C.prog/\i.vars= []/\Input.okWide C.prog (w.forCall tape i) .any w.heap.size f i/\
   ((s.pre enc C.prog fn conds apart (w.forCall tape i).memory i.args/\X (w.forCall tape i).memory i.args)/\sizedMet enc C.prog fn (OpenSpec.ofChange s) apart (w.forCall tape i).memory i.args)/\({}:Assume).holds C.prog (lone (Frame.enter C.prog f i.args .normal) [] (w.forCall tape i)):=
 ⟨w0,fun _ _=>0,⟨#[],args,[]⟩,hos,hsh,(Input.okWide_of_okWideB (base:=0) hok).1,(Input.okWide_of_okWideB hok).2,⟨⟨ChangeSpec.pre_of_preB hpre,hx⟩,sizedMet_of_sizedB hsz⟩,by simp only[Assume.holds];exact⟨by simp,by simp,fun _=>Modest.zero,by simp,by simp⟩⟩
theorem abc{α:Type}:∀{l:List α},l.length=11->∃a b c d e f g h i j k,l= [a,b,c,d,e,f,g,h,i,j,k]
 | [a,b,c,d,e,f,g,h,i,j,k],_=>⟨a,b,c,d,e,f,g,h,i,j,k,rfl⟩
section
variable {H:Type} {enc:TypeId×Value->H} {w:World} {base:Nat} {spare:Nat->Bool} {held:Bool}
theorem Ph{fuel:Nat}{cs:List Value}{x:DataW H×List MemPlace}(h:DataW.trod enc prog w base spare held fuel 26 cs=some x):∃c:cT,cs=(bd c).toList:=by
 obtain⟨hl,hf⟩:=o8 underlying26 h;have h3:prog.cellsOf 3=1:=by kernel_rfl
 have h2:prog.cellsOf 2=1:=by kernel_rfl
 obtain⟨c0,c1,c2,c3,c4,c5,c6,c7,c8,c9,c10,rfl⟩:=abc (hl.trans (by kernel_rfl));obtain⟨n0,y0,f0⟩:∃n y,DataW.trod enc prog w base spare held n 3 (([c0,c1,c2,c3,c4,c5,c6,c7,c8,c9,c10].drop 0).take (prog.cellsOf 3))=some y:=hf 0 _ rfl;obtain⟨n1,y1,f1⟩:∃n y,DataW.trod enc prog w base spare held n 3 (([c0,c1,c2,c3,c4,c5,c6,c7,c8,c9,c10].drop 1).take (prog.cellsOf 3))=some y:=hf 1 _ rfl;obtain⟨n2,y2,f2⟩:∃n y,DataW.trod enc prog w base spare held n 2 (([c0,c1,c2,c3,c4,c5,c6,c7,c8,c9,c10].drop 2).take (prog.cellsOf 2))=some y:=hf 2 _ rfl;obtain⟨n3,y3,f3⟩:∃n y,DataW.trod enc prog w base spare held n 2 (([c0,c1,c2,c3,c4,c5,c6,c7,c8,c9,c10].drop 3).take (prog.cellsOf 2))=some y:=hf 3 _ rfl;obtain⟨n4,y4,f4⟩:∃n y,DataW.trod enc prog w base spare held n 2 (([c0,c1,c2,c3,c4,c5,c6,c7,c8,c9,c10].drop 4).take (prog.cellsOf 2))=some y:=hf 4 _ rfl;obtain⟨n5,y5,f5⟩:∃n y,DataW.trod enc prog w base spare held n 2 (([c0,c1,c2,c3,c4,c5,c6,c7,c8,c9,c10].drop 5).take (prog.cellsOf 2))=some y:=hf 5 _ rfl;obtain⟨n6,y6,f6⟩:∃n y,DataW.trod enc prog w base spare held n 2 (([c0,c1,c2,c3,c4,c5,c6,c7,c8,c9,c10].drop 6).take (prog.cellsOf 2))=some y:=hf 6 _ rfl;obtain⟨n7,y7,f7⟩:∃n y,DataW.trod enc prog w base spare held n 2 (([c0,c1,c2,c3,c4,c5,c6,c7,c8,c9,c10].drop 7).take (prog.cellsOf 2))=some y:=hf 7 _ rfl;obtain⟨n8,y8,f8⟩:∃n y,DataW.trod enc prog w base spare held n 2 (([c0,c1,c2,c3,c4,c5,c6,c7,c8,c9,c10].drop 8).take (prog.cellsOf 2))=some y:=hf 8 _ rfl;obtain⟨n9,y9,f9⟩:∃n y,DataW.trod enc prog w base spare held n 3 (([c0,c1,c2,c3,c4,c5,c6,c7,c8,c9,c10].drop 9).take (prog.cellsOf 3))=some y:=hf 9 _ rfl;obtain⟨n10,y10,f10⟩:∃n y,DataW.trod enc prog w base spare held n 2 (([c0,c1,c2,c3,c4,c5,c6,c7,c8,c9,c10].drop 10).take (prog.cellsOf 2))=some y:=hf 10 _ rfl;rw[h3] at f0 f1 f9;rw[h2] at f2 f3 f4 f5 f6 f7 f8 f10;obtain⟨t0,e0⟩:=da underlying3 f0;obtain⟨t1,e1⟩:=da underlying3 f1;obtain⟨t2,e2⟩:=da underlying2 f2;obtain⟨t3,e3⟩:=da underlying2 f3;obtain⟨t4,e4⟩:=da underlying2 f4;obtain⟨t5,e5⟩:=da underlying2 f5;obtain⟨t6,e6⟩:=da underlying2 f6;obtain⟨t7,e7⟩:=da underlying2 f7;obtain⟨t8,e8⟩:=da underlying2 f8;obtain⟨t9,e9⟩:=da underlying3 f9;obtain⟨t10,e10⟩:=da underlying2 f10;simp at e0 e1 e2 e3 e4 e5 e6 e7 e8 e9 e10;subst e0 e1 e2 e3 e4 e5 e6 e7 e8 e9 e10;exact⟨(t0,t1,t2,t3,t4,t5,t6,t7,t8,t9,t10,()),rfl⟩
end
theorem cell0{W:World}(h:W.ShapedOpen prog):∃m,W.cell? ⟨0,0,none⟩=some (.int .i64 m):=
 cell_of_shapedOpen_int (P:=prog) (g:=0) (t:=3) (zero:=#[.int .i64 0]) h (of_decide_eq_true (by kernel_rfl)) (by kernel_rfl) rfl (by kernel_rfl) (by kernel_rfl) underlying3
end Go.Proofs.Yq
