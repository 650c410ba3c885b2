/- A part of the proof. No condition. -/
import Derived.Test.YtpbehfbomkochaaGreatDoorC03
set_option linter.all false
namespace Go.Proofs.Yq
open RowKit Ev
open Tryz
noncomputable section
def ac4:=Wn.F 4 329 [.st [.i,.b],.st [.i,.b]] [.one .b]
theorem ZB:aZ prog 329 _ _ ac4:=Wn.k
def CP:=Wn.n ZB
def sK:List (Arg WI):=[.k (.p 0 0),.d (.one .i)]
def lp:List (BS WI):=[.f [.k (.fn 322 [.p 1 0,.p 2 0]),.d .i,.d .i,.d .b],.f [.k (.fn 315 [.p 3 0,.p 4 0])],.f [.d .b],.f [.d .i,.d .i,.d .i,.d .i,.d .i],.f [.d .i,.d .i,.d .i,.d .i,.d .i]]
def wL:List (Arg WI):=[.d (.st [.i,.b])]
theorem Wo(a:aP.T sK)(g:cf.T lp):ec CP.C 9 328 sK lp wL lp a g=true:=by kernel_rfl
def Mx:aP.T sK->cf.T lp->aP.T wL×cf.T lp:=eS CP.C 9 328 sK lp wL lp
theorem My:dS prog 328 sK lp wL lp Mx:=cA CP.c Wo
def Fz:lI WI:=v8 328 sK lp wL lp Mx:: []
theorem za:Fz.ok prog:=⟨px My,trivial⟩
def FB:Cx WI:=xQ prog Zw (uy prog) cls CP.T Fz
theorem Jr:iO FB:=pr (cl:=cls) mM yU nA wz CP.ok za
def pE:List (Arg WI):=[.k (.fn 322 [.p 0 0,.p 1 0])]
def iW:List (BS WI):=[.f [.k (.fn 315 [.p 2 0,.p 3 0])],.f [.d .b],.f [.d .i,.d .i,.d .i,.d .i,.d .i],.f [.d .i,.d .i,.d .i,.d .i,.d .i]]
def ru:List (Arg WI):=[.d (.one .i),.d (.one .i),.d (.one .b)]
theorem Qy(a:aP.T pE)(g:cf.T iW):ec FB 9 321 pE iW ru iW a g=true:=by kernel_rfl
def Hq:aP.T pE->cf.T iW->aP.T ru×cf.T iW:=eS FB 9 321 pE iW ru iW
theorem Js:dS prog 321 pE iW ru iW Hq:=cA Jr Qy
def Hs:lI WI:=v8 321 pE iW ru iW Hq::Fz
theorem FC:Hs.ok prog:=⟨px Js,za⟩
def AV:Cx WI:=xQ prog Zw (uy prog) cls CP.T Hs
theorem FD:iO AV:=pr (cl:=cls) mM yU nA wz CP.ok FC
theorem ac5(a:Ts WI [.st [.i,.i,.i,.i,.i],.st [.i,.i,.i,.i,.i]]):GR AV 9 297 [.st [.i,.i,.i,.i,.i],.st [.i,.i,.i,.i,.i]] [.st [.i,.i,.i,.i,.i],.one .i] a=true:=by kernel_rfl
def ac6:Ts WI [.st [.i,.i,.i,.i,.i],.st [.i,.i,.i,.i,.i]]->Ts WI [.st [.i,.i,.i,.i,.i],.one .i]:=qY AV 9 297 [.st [.i,.i,.i,.i,.i],.st [.i,.i,.i,.i,.i]] [.st [.i,.i,.i,.i,.i],.one .i]
theorem ZC:aZ prog 297 [.st [.i,.i,.i,.i,.i],.st [.i,.i,.i,.i,.i]] [.st [.i,.i,.i,.i,.i],.one .i] ac6:=Ax FD (by kernel_rfl) ac5
def CQ:=CP.n ZC
def sM:List (Arg WI):=[.k (.p 0 0),.d (.one .i)]
def lq:List (BS WI):=[.f [.k (.fn 322 [.p 1 0,.p 2 0]),.d .i,.d .i,.d .b],.f [.k (.fn 338 [.p 3 0,.p 4 0])],.f [.d .b],.f [.d .i,.d .i,.d .i,.d .i,.d .i],.f [.d .i,.d .i,.d .i,.d .i,.d .i,.d .i]]
def wM:List (Arg WI):=[.d (.st [.i,.b])]
theorem Wp(a:aP.T sM)(g:cf.T lq):ec CQ.C 9 328 sM lq wM lq a g=true:=by kernel_rfl
def Mz:aP.T sM->cf.T lq->aP.T wM×cf.T lq:=eS CQ.C 9 328 sM lq wM lq
theorem MC:dS prog 328 sM lq wM lq Mz:=cA CQ.c Wp
def FE:lI WI:=v8 328 sM lq wM lq Mz:: []
theorem afB:FE.ok prog:=⟨px MC,trivial⟩
def FF:Cx WI:=xQ prog Zw (uy prog) cls CQ.T FE
theorem Jt:iO FF:=pr (cl:=cls) mM yU nA wz CQ.ok afB
def pF:List (Arg WI):=[.k (.fn 322 [.p 0 0,.p 1 0])]
def iX:List (BS WI):=[.f [.k (.fn 338 [.p 2 0,.p 3 0])],.f [.d .b],.f [.d .i,.d .i,.d .i,.d .i,.d .i],.f [.d .i,.d .i,.d .i,.d .i,.d .i,.d .i]]
def rv:List (Arg WI):=[.d (.one .i),.d (.one .i),.d (.one .b)]
theorem Qz(a:aP.T pF)(g:cf.T iX):ec FF 9 321 pF iX rv iX a g=true:=by kernel_rfl
def Ht:aP.T pF->cf.T iX->aP.T rv×cf.T iX:=eS FF 9 321 pF iX rv iX
theorem Ju:dS prog 321 pF iX rv iX Ht:=cA Jt Qz
def Hu:lI WI:=v8 321 pF iX rv iX Ht::FE
theorem FG:Hu.ok prog:=⟨px Ju,afB⟩
def AW:Cx WI:=xQ prog Zw (uy prog) cls CQ.T Hu
theorem FH:iO AW:=pr (cl:=cls) mM yU nA wz CQ.ok FG
theorem ac7(a:Ts WI [.st [.i,.i,.i,.i,.i],.st [.i,.i,.i,.i,.i,.i]]):GR AW 9 327 [.st [.i,.i,.i,.i,.i],.st [.i,.i,.i,.i,.i,.i]] [.st [.i,.i,.i,.i,.i],.one .i] a=true:=by kernel_rfl
def ac8:Ts WI [.st [.i,.i,.i,.i,.i],.st [.i,.i,.i,.i,.i,.i]]->Ts WI [.st [.i,.i,.i,.i,.i],.one .i]:=qY AW 9 327 [.st [.i,.i,.i,.i,.i],.st [.i,.i,.i,.i,.i,.i]] [.st [.i,.i,.i,.i,.i],.one .i]
theorem ZD:aZ prog 327 [.st [.i,.i,.i,.i,.i],.st [.i,.i,.i,.i,.i,.i]] [.st [.i,.i,.i,.i,.i],.one .i] ac8:=Ax FH (by kernel_rfl) ac7
def Wq:=CQ.n ZD
end
end Go.Proofs.Yq
