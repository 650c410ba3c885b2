/- A part of the proof. No condition. -/
import Derived.Maps.OwnSet
import Derived.Laws.AppendOwn
import Derived.OwnWalk
import Derived.Test.YtpbehfbomkochaaGreatDoorC04
set_option maxRecDepth 100000
set_option maxHeartbeats 2000000
set_option linter.all false
namespace Go.Proofs.Yq
open RowKit Ev
open Tryz
noncomputable section
def ac9:=Wq.F 9 319 [.st [.i,.i,.i,.i,.i],.st [.i,.i,.i,.i,.i],.one .i,.one .i] [.st [.i,.i,.i,.i,.i],.one .i]
theorem ZE:aZ prog 319 _ _ ac9:=Wq.k
def Wr:=Wq.n ZE
def Ws:=Wr.F 9 258 [.st [.i,.i,.i,.i,.i],.st [.i,.i,.i,.i,.i]] [.st [.i,.i,.i,.i,.i],.one .i]
theorem Tp:aZ prog 258 _ _ Ws:=Wr.k
def dc:=Wr.n Tp
def ZF:List (Arg WI):=[.d (.one .i)]
def ZG:List (BS WI):=[]
def R87:List (Arg WI):=[.k (.p 0 0)]
def J87:List (BS WI):=[.f [.d .i,.d .i]]
theorem s87(a:aP.T ZF)(g:cf.T ZG):ec dc.C 9 87 ZF ZG R87 J87 a g=true:=by kernel_rfl
def G87:aP.T ZF->cf.T ZG->aP.T R87×cf.T J87:=eS dc.C 9 87 ZF ZG R87 J87
theorem ZH:dS prog 87 ZF ZG R87 J87 G87:=cA dc.c s87
def MD:List (Arg WI):=[.k (.p 0 0)]
def AX:List (BS WI):=[.f [.d .i,.d .i]]
def QA:List (Arg WI):=[]
theorem ada(a:aP.T MD)(g:cf.T AX):ec dc.C 9 102 MD AX QA AX a g=true:=by kernel_rfl
def Wu:aP.T MD->cf.T AX->aP.T QA×cf.T AX:=eS dc.C 9 102 MD AX QA AX
theorem Wv:dS prog 102 MD AX QA AX Wu:=cA dc.c ada
def MF:List (Arg WI):=[.k (.p 0 0)]
def AY:List (BS WI):=[.f [.d .i,.d .i]]
def QB:List (Arg WI):=[.d (.one .b)]
theorem adb(a:aP.T MF)(g:cf.T AY):ec dc.C 9 145 MF AY QB AY a g=true:=by kernel_rfl
def Ww:aP.T MF->cf.T AY->aP.T QB×cf.T AY:=eS dc.C 9 145 MF AY QB AY
theorem Wx:dS prog 145 MF AY QB AY Ww:=cA dc.c adb
def ZI:List (Arg WI):=[.d (.one .i)]
def ZJ:List (BS WI):=[]
def R88:List (Arg WI):=[.k (.p 0 0)]
def J88:List (BS WI):=[.f [.d .i,.d .i]]
theorem s88(a:aP.T ZI)(g:cf.T ZJ):ec dc.C 9 88 ZI ZJ R88 J88 a g=true:=by kernel_rfl
def G88:aP.T ZI->cf.T ZJ->aP.T R88×cf.T J88:=eS dc.C 9 88 ZI ZJ R88 J88
theorem ZK:dS prog 88 ZI ZJ R88 J88 G88:=cA dc.c s88
def MG:List (Arg WI):=[.k (.p 0 0),.d (.one .i)]
def AZ:List (BS WI):=[.f [.d .i,.d .i]]
def QC:List (Arg WI):=[.d (.one .b)]
theorem ade(a:aP.T MG)(g:cf.T AZ):ec dc.C 9 104 MG AZ QC AZ a g=true:=by kernel_rfl
def Wy:aP.T MG->cf.T AZ->aP.T QC×cf.T AZ:=eS dc.C 9 104 MG AZ QC AZ
theorem Wz:dS prog 104 MG AZ QC AZ Wy:=cA dc.c ade
def MH:List (Arg WI):=[]
def MI:List (BS WI):=[]
def QD:List (Arg WI):=[.k (.p 0 0)]
def QE:List (BS WI):=[.f [.d .b,.d .i,.d (.n .u64)]]
theorem adf(a:aP.T MH)(g:cf.T MI):ec dc.C 9 248 MH MI QD QE a g=true:=by kernel_rfl
def WA:aP.T MH->cf.T MI->aP.T QD×cf.T QE:=eS dc.C 9 248 MH MI QD QE
theorem WB:dS prog 248 MH MI QD QE WA:=cA dc.c adf
def ZL:List (Arg WI):=[]
def ZM:List (BS WI):=[]
def R89:List (Arg WI):=[.k (.p 0 0)]
def J89:List (BS WI):=[.f [.d .i,.d .i,.d .i,.d .i,.d .i,.d .i,.d .i,.d .i,.d .i,.d .i]]
theorem s89(a:aP.T ZL)(g:cf.T ZM):ec dc.C 9 89 ZL ZM R89 J89 a g=true:=by kernel_rfl
def G89:aP.T ZL->cf.T ZM->aP.T R89×cf.T J89:=eS dc.C 9 89 ZL ZM R89 J89
theorem ZN:dS prog 89 ZL ZM R89 J89 G89:=cA dc.c s89
def MJ:List (Arg WI):=[.k (.p 0 0),.d (.one .i),.d (.one .i)]
def A0:List (BS WI):=[.f [.d .i,.d .i,.d .i,.d .i,.d .i,.d .i,.d .i,.d .i,.d .i,.d .i]]
def QG:List (Arg WI):=[]
theorem adg(a:aP.T MJ)(g:cf.T A0):ec dc.C 9 150 MJ A0 QG A0 a g=true:=by kernel_rfl
def WC:aP.T MJ->cf.T A0->aP.T QG×cf.T A0:=eS dc.C 9 150 MJ A0 QG A0
theorem WD:dS prog 150 MJ A0 QG A0 WC:=cA dc.c adg
def MK:List (Arg WI):=[.k (.p 0 0),.d (.one .i),.d (.one .i)]
def A1:List (BS WI):=[.f [.d .i,.d .i,.d .i,.d .i,.d .i,.d .i,.d .i,.d .i,.d .i,.d .i]]
def QH:List (Arg WI):=[.d (.one .b)]
theorem adh(a:aP.T MK)(g:cf.T A1):ec dc.C 9 263 MK A1 QH A1 a g=true:=by kernel_rfl
def WE:aP.T MK->cf.T A1->aP.T QH×cf.T A1:=eS dc.C 9 263 MK A1 QH A1
theorem WG:dS prog 263 MK A1 QH A1 WE:=cA dc.c adh
def ML:List (Arg WI):=[.k (.p 0 0),.d (.one .i)]
def A2:List (BS WI):=[.f [.d .i,.d .i,.d .i,.d .i,.d .i,.d .i,.d .i,.d .i,.d .i,.d .i]]
def QI:List (Arg WI):=[.d (.one .i),.d (.one .i),.d (.one .b)]
theorem adi(a:aP.T ML)(g:cf.T A2):ec dc.C 9 264 ML A2 QI A2 a g=true:=by kernel_rfl
def WH:aP.T ML->cf.T A2->aP.T QI×cf.T A2:=eS dc.C 9 264 ML A2 QI A2
theorem WJ:dS prog 264 ML A2 QI A2 WH:=cA dc.c adi
def MM:List (Arg WI):=[.k (.p 0 0),.d (.one .i),.d (.one .i)]
def A3:List (BS WI):=[.f [.d .i,.d .i,.d .i,.d .i,.d .i,.d .i,.d .i,.d .i,.d .i,.d .i]]
def QJ:List (Arg WI):=[]
theorem adj(a:aP.T MM)(g:cf.T A3):ec dc.C 9 261 MM A3 QJ A3 a g=true:=by kernel_rfl
def WK:aP.T MM->cf.T A3->aP.T QJ×cf.T A3:=eS dc.C 9 261 MM A3 QJ A3
theorem WL:dS prog 261 MM A3 QJ A3 WK:=cA dc.c adj
def MN:List (Arg WI):=[.k (.p 0 0),.d (.one .i),.d (.one .i)]
def A4:List (BS WI):=[.f [.d .i,.d .i,.d .i,.d .i,.d .i,.d .i,.d .i,.d .i,.d .i,.d .i]]
def QK:List (Arg WI):=[.d (.one .b)]
theorem adk(a:aP.T MN)(g:cf.T A4):ec dc.C 9 262 MN A4 QK A4 a g=true:=by kernel_rfl
def WM:aP.T MN->cf.T A4->aP.T QK×cf.T A4:=eS dc.C 9 262 MN A4 QK A4
theorem WN:dS prog 262 MN A4 QK A4 WM:=cA dc.c adk
def MO:List (Arg WI):=[.k (.p 0 0),.d (.one .i),.d (.one .i),.d (.one .i),.d (.one .i)]
def A5:List (BS WI):=[.f [.d .i,.d .i,.d .i,.d .i,.d .i,.d .i,.d .i,.d .i,.d .i,.d .i]]
def QL:List (Arg WI):=[.d (.st [.i,.i,.i,.i]),.d (.one .i),.d (.one .b)]
theorem adl(a:aP.T MO)(g:cf.T A5):ec dc.C 9 265 MO A5 QL A5 a g=true:=by kernel_rfl
def WO:aP.T MO->cf.T A5->aP.T QL×cf.T A5:=eS dc.C 9 265 MO A5 QL A5
theorem WQ:dS prog 265 MO A5 QL A5 WO:=cA dc.c adl
def ZO:List (Arg WI):=[.d (.one .i)]
def ZP:List (BS WI):=[]
def R85:List (Arg WI):=[.k (.p 0 0)]
def J85:List (BS WI):=[.f [.d .i,.d .b,.d .i,.d .i,.d .i,.d .i,.d .i]]
theorem s85(a:aP.T ZO)(g:cf.T ZP):ec dc.C 9 85 ZO ZP R85 J85 a g=true:=by kernel_rfl
def G85:aP.T ZO->cf.T ZP->aP.T R85×cf.T J85:=eS dc.C 9 85 ZO ZP R85 J85
theorem ZQ:dS prog 85 ZO ZP R85 J85 G85:=cA dc.c s85
def ZR:List (Arg WI):=[.k (.p 0 0),.d (.st [.i,.i,.i,.i,.i])]
def QM:List (BS WI):=[.f [.d .i,.d .b,.d .i,.d .i,.d .i,.d .i,.d .i]]
def R90:List (Arg WI):=[.d (.one .i)]
theorem s90(a:aP.T ZR)(g:cf.T QM):ec dc.C 9 90 ZR QM R90 QM a g=true:=by kernel_rfl
def G90:aP.T ZR->cf.T QM->aP.T R90×cf.T QM:=eS dc.C 9 90 ZR QM R90 QM
theorem ZS:dS prog 90 ZR QM R90 QM G90:=cA dc.c s90
def ZT:List (Arg WI):=[.k (.p 0 0),.d (.st [.i,.i]),.d (.one .i)]
def QN:List (BS WI):=[.f [.d .i,.d .b,.d .i,.d .i,.d .i,.d .i,.d .i]]
def R46:List (Arg WI):=[.d (.one .i)]
theorem s46(a:aP.T ZT)(g:cf.T QN):ec dc.C 9 46 ZT QN R46 QN a g=true:=by kernel_rfl
def G46:aP.T ZT->cf.T QN->aP.T R46×cf.T QN:=eS dc.C 9 46 ZT QN R46 QN
theorem ZU:dS prog 46 ZT QN R46 QN G46:=cA dc.c s46
def MP:List (Arg WI):=[.k (.p 0 0),.d (.st [.i,.i,.i,.i,.i]),.d (.one .i),.d (.one .i)]
def A6:List (BS WI):=[.f [.d .i,.d .b,.d .i,.d .i,.d .i,.d .i,.d .i]]
def QO:List (Arg WI):=[.d (.one .i)]
theorem adm(a:aP.T MP)(g:cf.T A6):ec dc.C 9 303 MP A6 QO A6 a g=true:=by kernel_rfl
def WR:aP.T MP->cf.T A6->aP.T QO×cf.T A6:=eS dc.C 9 303 MP A6 QO A6
theorem WS:dS prog 303 MP A6 QO A6 WR:=cA dc.c adm
def MQ:List (Arg WI):=[.k (.p 0 0),.d (.st [.i,.i,.i,.i,.i])]
def A7:List (BS WI):=[.f [.d .i,.d .b,.d .i,.d .i,.d .i,.d .i,.d .i]]
def QP:List (Arg WI):=[.d (.one .i)]
theorem adn(a:aP.T MQ)(g:cf.T A7):ec dc.C 9 260 MQ A7 QP A7 a g=true:=by kernel_rfl
def WT:aP.T MQ->cf.T A7->aP.T QP×cf.T A7:=eS dc.C 9 260 MQ A7 QP A7
theorem WU:dS prog 260 MQ A7 QP A7 WT:=cA dc.c adn
def sN:List (Arg WI):=[.k (.p 0 0),.d (.one .i)]
def afi:List (BS WI):=[.f [.d .b,.d .i,.d (.n .u64)]]
def QQ:List (Arg WI):=[.d (.one .i)]
theorem ado(a:aP.T sN)(g:cf.T afi):GX dc.C 9 200 sN afi QQ afi [[false,true,true,false,false,true,true],[false,true,false,true],[false,true,false,false,false,false,true,true],[false,false,false,false,true,true]] a g=true:=by kernel_rfl
theorem WV(a:aP.T sN)(g:cf.T afi): (j0 dc.C 9 200 (aP.enc sN a) (cf.enc afi g)).conds [false,true,true,false,false,true,true]≠[false,true,true,false,false,true,true]:=qZ 5 6 (a:=decide (((AU (((g.1.2.1:ae),(a.2.1:ae),()):ae×ae×Unit)).1:ae).val>0)) (b:=decide (((AU (((g.1.2.1:ae),(a.2.1:ae),()):ae×ae×Unit)).1:ae).val<0)) (by kernel_rfl) (by kernel_rfl) (fun h1 h2=>by simp at h1 h2;omega)
theorem WW(a:aP.T sN)(g:cf.T afi): (j0 dc.C 9 200 (aP.enc sN a) (cf.enc afi g)).conds [false,true,false,true]≠[false,true,false,true]:=qZ 1 3 (a:=(decide ((aeV (0-((AU (((g.1.2.1:ae),(a.2.1:ae),()):ae×ae×Unit)).1:ae).val)).val<0)==false)) (b:=decide ((aeV (0-((AU (((g.1.2.1:ae),(a.2.1:ae),()):ae×ae×Unit)).1:ae).val)).val<0)) (by kernel_rfl) (by kernel_rfl) (fun h1 h2=>by simp at h1 h2;omega)
theorem WX(a:aP.T sN)(g:cf.T afi): (j0 dc.C 9 200 (aP.enc sN a) (cf.enc afi g)).conds [false,true,false,false,false,false,true,true]≠[false,true,false,false,false,false,true,true]:=qZ 6 7 (a:=decide (((AU (((g.1.2.1:ae),(a.2.1:ae),()):ae×ae×Unit)).1:ae).val>0)) (b:=decide (((AU (((g.1.2.1:ae),(a.2.1:ae),()):ae×ae×Unit)).1:ae).val<0)) (by kernel_rfl) (by kernel_rfl) (fun h1 h2=>by simp at h1 h2;omega)
theorem WY(a:aP.T sN)(g:cf.T afi): (j0 dc.C 9 200 (aP.enc sN a) (cf.enc afi g)).conds [false,false,false,false,true,true]≠[false,false,false,false,true,true]:=qZ 4 5 (a:=decide (((AU (((g.1.2.1:ae),(a.2.1:ae),()):ae×ae×Unit)).1:ae).val>0)) (b:=decide (((AU (((g.1.2.1:ae),(a.2.1:ae),()):ae×ae×Unit)).1:ae).val<0)) (by kernel_rfl) (by kernel_rfl) (fun h1 h2=>by simp at h1 h2;omega)
def WZ:aP.T sN->cf.T afi->aP.T QQ×cf.T afi:=eS dc.C 9 200 sN afi QQ afi
theorem W0:dS prog 200 sN afi QQ afi WZ:=LH dc.c ado (fun a g q hq=>by
 simp only[List.mem_cons,List.not_mem_nil,or_false] at hq;rcases hq with rfl|rfl|rfl|rfl
 ·exact WV a g
 ·exact WW a g
 ·exact WX a g
 ·exact WY a g)
end
end Go.Proofs.Yq
namespace Go.Ev
open RowKit Go.Sort
variable {Ω:Type} [jX Ω] [Inhabited Ω]
def rowAt(g:Nat)(l:List (Slot Ω))(x:ko.T l):Array Value:=(ai (fun _=>g) (ko.enc l x)).toArray
def zc{l:List (Slot Ω)}(x:ko.T l):cf.T [BS.f l]:=((x,()):ko.T l×Unit)
def ZV{l:List (Slot Ω)}(y:cf.T [BS.f l]):ko.T l:=(show ko.T l×Unit from y).1
theorem ZW{l:List (Slot Ω)}(y:cf.T [BS.f l]):cf.enc [BS.f l] y= [ko.enc l (ZV y)]:=rfl
theorem adp{l:List (Slot Ω)}(x:ko.T l):cf.enc [BS.f l] (zc x)= [ko.enc l x]:=rfl
theorem dS.obj{P:Program}{f:FuncId}{α ρ:List (Arg Ω)}{l l':List (Slot Ω)}{G:aP.T α->cf.T [BS.f l]->aP.T ρ×cf.T [BS.f l']}(h:dS P f α [.f l] ρ [.f l'] G)
  (h1:∀v,(aP.Aw ρ v).Z9 1=true) (h2:∀x,Z8 1 (ko.enc l' x)=true) (p1:∀x,(ko.enc l x).all MV.plain=true) (p2:∀x,(ko.enc l' x).all MV.plain=true)
  (a:aP.T α) (x:ko.T l) (g:Nat) (w:World) (hb:w.aI g=some (rowAt g l x)):
  Calls P f (aE (fun _=>g) (aP.enc α a)).toArray w fun e w'=>e= .returned ((aP.Aw ρ (G a (zc x)).1).av (fun _=>g))/\w'.aI g=some (rowAt g l' (ZV (G a (zc x)).2))/\bN (fun y=>y=g) w w':=by
 have h:=h a (zc x);rw[adp,ZW] at h;obtain⟨y,hy⟩:∃y,ZV (G a (zc x)).2=y:=⟨_,rfl⟩;rw[hy] at h ⊢;have hs:EE (fun _=>g) (fun _ y=>y=g) w [ko.enc l x]:=by
  refine⟨fun i j y hi hj _ _=>?_,fun k cs hk=>?_⟩
  ·simp at hi hj;omega
  ·cases k with
   |zero=>
    simp at hk;subst hk;refine Holds.of_flat (gv.2 (iA (p1 x))) (fun y=>Iff.rfl) ?_;have:ck (fun _=>g) (ko.enc l x)=none:=by unfold ck;rw[jq (p1 x)];rfl
    rw[this];exact⟨[],by rw[List.append_nil];exact hb,rfl⟩
   |succ k=>simp at hk
 refine(h _ _ w hs).mono ?_;rintro e w' ⟨r',hg,rfl,hr⟩;have hr0:r' 0=g:=hg.2 0 (by simp);have e1:∀k,k<1->(fun _:Nat=>g) k=r' k:=fun k hk=>by
  have:k=0:=by omega
  subst this;exact hr0.symm
 refine⟨?_,?_,?_⟩
 ·rw[MV.il (n:=1) e1 _ (h1 _)]
 ·have hrow:=hr.uw 0 (ko.enc l' y) rfl (gv.2 (iA (p2 _)));have:ck r' (ko.enc l' y)=none:=by unfold ck;rw[jq (p2 _)];rfl
  rw[this,hr0,<-bV (n:=1) e1 _ (h2 _)] at hrow;exact hrow.whole
 ·obtain⟨fp,hp⟩:=hr;refine⟨hp.os,hp.tape,hp.output,hp.size,fun y hy hn=>hp.dK y hy ?_⟩;rintro⟨k,hk,hyk⟩;exact hn hyk
theorem dS.fresh{P:Program}{f:FuncId}{α:List (Arg Ω)}{l':List (Slot Ω)}{G:aP.T α->cf.T ([]:List (BS Ω))->aP.T [Arg.k (Ω:=Ω) (.p 0 0)]×cf.T [BS.f l']}(h:dS P f α [] [.k (.p 0 0)] [.f l'] G)
  (h2:∀x,Z8 1 (ko.enc l' x)=true) (p2:∀x,(ko.enc l' x).all MV.plain=true) (a:aP.T α) (r:Nat->Nat) (w:World):
  Calls P f (aE r (aP.enc α a)).toArray w fun e w'=>∃g,e= .returned (.pointer (some ⟨g,0,none⟩))/\w'.aI g=some (rowAt g l' (ZV (G a ()).2))/\w.heap.size<=g/\Below w.heap.size w w':=by
 have h:=h a ();rw[ZW] at h;obtain⟨y,hy⟩:∃y,ZV (G a ()).2=y:=⟨_,rfl⟩;rw[hy] at h ⊢;have hs:EE r (fun _ _=>False) w ([]:Hp Ω):=⟨fun i j y hi _ _ _=>by simp at hi,fun k cs hk=>by simp at hk⟩;refine(h r _ w hs).mono ?_;rintro e w' ⟨r',hg,rfl,hr⟩;refine⟨r' 0,rfl,?_,?_,?_⟩
 ·have hrow:=hr.uw 0 (ko.enc l' y) rfl (gv.2 (iA (p2 _)));have:ck r' (ko.enc l' y)=none:=by unfold ck;rw[jq (p2 _)];rfl
  have e1:∀k,k<1->(fun _:Nat=>r' 0) k=r' k:=fun k hk=>by
   have:k=0:=by omega
   subst this;rfl
  rw[this,<-bV (n:=1) e1 _ (h2 _)] at hrow;exact hrow.whole
 ·obtain⟨fp,hp⟩:=hr;have hh:=(hp.holds 0 (ko.enc l' y) rfl).flat (gv.2 (iA (p2 _)));rcases hp.own 0 _ (r' 0) rfl ((hh.1 _).2 rfl) with⟨k,hk,_⟩|h1
  ·simp[cf.enc] at hk
  ·exact h1
 ·obtain⟨fp,hp⟩:=hr;exact⟨hp.os,hp.tape,hp.output,hp.size,fun y hy=>hp.dK y hy (by rintro⟨k,hk,_⟩;simp[cf.enc] at hk)⟩
end Go.Ev
namespace Go.Proofs.Yq
open RowKit Ev
open Tryz
noncomputable section
abbrev bR:=ae×ae×ae×ae×ae×Unit
def xT(s:bR):Value:= .agg #[.int .i64 s.1.val,.int .i64 s.2.1.val,.int .i64 s.2.2.1.val,.int .i64 s.2.2.2.1.val,.int .i64 s.2.2.2.2.1.val]
abbrev fX:=ae×ae×Unit
def FI(s:fX):Value:= .agg #[.int .i64 s.1.val,.int .i64 s.2.1.val]
abbrev oJ:=ae×ae×ae×ae×Unit
def ZX(s:oJ):Value:= .agg #[.int .i64 s.1.val,.int .i64 s.2.1.val,.int .i64 s.2.2.1.val,.int .i64 s.2.2.2.1.val]
abbrev sO:=ae×ae×Unit
def oK(s:sO):Array Value:=#[.int .i64 s.1.val,.int .i64 s.2.1.val]
abbrev A8:=ae×ae×Unit
def wN(s:A8):Array Value:=#[.int .i64 s.1.val,.int .i64 s.2.1.val]
abbrev wO:=Bool×ae×Int×Unit
def j5(s:wO):Array Value:=#[.bool s.1,.int .i64 s.2.1.val,.int .u64 s.2.2.1]
abbrev dB:=ae×ae×ae×ae×ae×ae×ae×ae×ae×ae×Unit
def iK(s:dB):Array Value:=#[.int .i64 s.1.val,.int .i64 s.2.1.val,.int .i64 s.2.2.1.val,.int .i64 s.2.2.2.1.val,.int .i64 s.2.2.2.2.1.val,.int .i64 s.2.2.2.2.2.1.val,.int .i64 s.2.2.2.2.2.2.1.val,.int .i64 s.2.2.2.2.2.2.2.1.val,.int .i64 s.2.2.2.2.2.2.2.2.1.val,.int .i64 s.2.2.2.2.2.2.2.2.2.1.val]
abbrev lr:=ae×Bool×ae×ae×ae×ae×ae×Unit
def gj(s:lr):Array Value:=#[.int .i64 s.1.val,.bool s.2.1,.int .i64 s.2.2.1.val,.int .i64 s.2.2.2.1.val,.int .i64 s.2.2.2.2.1.val,.int .i64 s.2.2.2.2.2.1.val,.int .i64 s.2.2.2.2.2.2.1.val]
def jE(x0:ae):sO:=
 let y: (Unit×Unit)×(sO×Unit):=G87 (((x0,())):ae×Unit) ()
 y.2.1
theorem zd(x0:ae)(w:World):Calls prog 87 #[.int .i64 x0.val] w fun e w'=>∃g,e= .returned (.pointer (some ⟨g,0,none⟩))/\w'.aI g=some (oK (jE x0))/\w.heap.size<=g/\Below w.heap.size w w':=by have key:=dS.fresh ZH (fun _=>rfl) (fun _=>rfl) (((x0,())):ae×Unit) id w;unfold jE;generalize G87=G at key ⊢;exact key
def iY(s:sO):sO:=
 let y: (Unit)×(sO×Unit):=Wu ((((),())):Unit×Unit) (zc s)
 (y.2.1)
theorem FJ(g:Nat)(w:World)(s:sO)(hb:w.aI g=some (oK s)):Calls prog 102 #[.pointer (some ⟨g,0,none⟩)] w fun e w'=>e= .returned (.tuple #[])/\w'.aI g=some (oK (iY s))/\bN (fun y=>y=g) w w':=by have key:=dS.obj Wv (fun _=>rfl) (fun _=>rfl) (fun _=>rfl) (fun _=>rfl) ((((),())):Unit×Unit) s g w hb;unfold iY;generalize Wu=G at key ⊢;exact key
def eV(s:sO):Bool×sO:=
 let y: (Bool×Unit)×(sO×Unit):=Ww ((((),())):Unit×Unit) (zc s)
 (y.1.1,y.2.1)
theorem FK(g:Nat)(w:World)(s:sO)(hb:w.aI g=some (oK s)):Calls prog 145 #[.pointer (some ⟨g,0,none⟩)] w fun e w'=>e= .returned (.bool (eV s).1)/\w'.aI g=some (oK (eV s).2)/\bN (fun y=>y=g) w w':=by have key:=dS.obj Wx (fun _=>rfl) (fun _=>rfl) (fun _=>rfl) (fun _=>rfl) ((((),())):Unit×Unit) s g w hb;unfold eV;generalize Ww=G at key ⊢;exact key
def gD(x0:ae):A8:=
 let y: (Unit×Unit)×(A8×Unit):=G88 (((x0,())):ae×Unit) ()
 y.2.1
theorem zg(x0:ae)(w:World):Calls prog 88 #[.int .i64 x0.val] w fun e w'=>∃g,e= .returned (.pointer (some ⟨g,0,none⟩))/\w'.aI g=some (wN (gD x0))/\w.heap.size<=g/\Below w.heap.size w w':=by have key:=dS.fresh ZK (fun _=>rfl) (fun _=>rfl) (((x0,())):ae×Unit) id w;unfold gD;generalize G88=G at key ⊢;exact key
def cI(s:A8)(x0:ae):Bool×A8:=
 let y: (Bool×Unit)×(A8×Unit):=Wy ((((),x0,())):Unit×ae×Unit) (zc s)
 (y.1.1,y.2.1)
theorem Jv(g:Nat)(w:World)(s:A8)(x0:ae)(hb:w.aI g=some (wN s)):Calls prog 104 #[.pointer (some ⟨g,0,none⟩),.int .i64 x0.val] w fun e w'=>e= .returned (.bool (cI s x0).1)/\w'.aI g=some (wN (cI s x0).2)/\bN (fun y=>y=g) w w':=by have key:=dS.obj Wz (fun _=>rfl) (fun _=>rfl) (fun _=>rfl) (fun _=>rfl) ((((),x0,())):Unit×ae×Unit) s g w hb;unfold cI;generalize Wy=G at key ⊢;exact key
def gF:wO:=
 let y: (Unit×Unit)×(wO×Unit):=WA (((())):Unit) ()
 y.2.1
theorem Jw(w:World):Calls prog 248 #[] w fun e w'=>∃g,e= .returned (.pointer (some ⟨g,0,none⟩))/\w'.aI g=some (j5 (gF))/\w.heap.size<=g/\Below w.heap.size w w':=by have key:=dS.fresh WB (fun _=>rfl) (fun _=>rfl) (((())):Unit) id w;unfold gF;generalize WA=G at key ⊢;exact key
def gW(s:wO)(x0:ae):ae×wO:=
 let y: (ae×Unit)×(wO×Unit):=WZ ((((),x0,())):Unit×ae×Unit) (zc s)
 (y.1.1,y.2.1)
theorem FN(g:Nat)(w:World)(s:wO)(x0:ae)(hb:w.aI g=some (j5 s)):Calls prog 200 #[.pointer (some ⟨g,0,none⟩),.int .i64 x0.val] w fun e w'=>e= .returned (.int .i64 (gW s x0).1.val)/\w'.aI g=some (j5 (gW s x0).2)/\bN (fun y=>y=g) w w':=by have key:=dS.obj W0 (fun _=>rfl) (fun _=>rfl) (fun _=>rfl) (fun _=>rfl) ((((),x0,())):Unit×ae×Unit) s g w hb;unfold gW;generalize WZ=G at key ⊢;exact key
def gG:dB:=
 let y: (Unit×Unit)×(dB×Unit):=G89 (((())):Unit) ()
 y.2.1
theorem zh(w:World):Calls prog 89 #[] w fun e w'=>∃g,e= .returned (.pointer (some ⟨g,0,none⟩))/\w'.aI g=some (iK (gG))/\w.heap.size<=g/\Below w.heap.size w w':=by have key:=dS.fresh ZN (fun _=>rfl) (fun _=>rfl) (((())):Unit) id w;unfold gG;generalize G89=G at key ⊢;exact key
def oL(s:dB)(x0:ae)(x1:ae):dB:=
 let y: (Unit)×(dB×Unit):=WC ((((),x0,x1,())):Unit×ae×ae×Unit) (zc s)
 (y.2.1)
theorem FO(g:Nat)(w:World)(s:dB)(x0:ae)(x1:ae)(hb:w.aI g=some (iK s)):Calls prog 150 #[.pointer (some ⟨g,0,none⟩),.int .i64 x0.val,.int .i64 x1.val] w fun e w'=>e= .returned (.tuple #[])/\w'.aI g=some (iK (oL s x0 x1))/\bN (fun y=>y=g) w w':=by have key:=dS.obj WD (fun _=>rfl) (fun _=>rfl) (fun _=>rfl) (fun _=>rfl) ((((),x0,x1,())):Unit×ae×ae×Unit) s g w hb;unfold oL;generalize WC=G at key ⊢;exact key
def dE(s:dB)(x0:ae)(x1:ae):Bool×dB:=
 let y: (Bool×Unit)×(dB×Unit):=WE ((((),x0,x1,())):Unit×ae×ae×Unit) (zc s)
 (y.1.1,y.2.1)
theorem xU(g:Nat)(w:World)(s:dB)(x0:ae)(x1:ae)(hb:w.aI g=some (iK s)):Calls prog 263 #[.pointer (some ⟨g,0,none⟩),.int .i64 x0.val,.int .i64 x1.val] w fun e w'=>e= .returned (.bool (dE s x0 x1).1)/\w'.aI g=some (iK (dE s x0 x1).2)/\bN (fun y=>y=g) w w':=by have key:=dS.obj WG (fun _=>rfl) (fun _=>rfl) (fun _=>rfl) (fun _=>rfl) ((((),x0,x1,())):Unit×ae×ae×Unit) s g w hb;unfold dE;generalize WE=G at key ⊢;exact key
def dV(s:dB)(x0:ae):ae×ae×Bool×dB:=
 let y: (ae×ae×Bool×Unit)×(dB×Unit):=WH ((((),x0,())):Unit×ae×Unit) (zc s)
 (y.1.1,y.1.2.1,y.1.2.2.1,y.2.1)
theorem CR(g:Nat)(w:World)(s:dB)(x0:ae)(hb:w.aI g=some (iK s)):Calls prog 264 #[.pointer (some ⟨g,0,none⟩),.int .i64 x0.val] w fun e w'=>e= .returned (.tuple #[.int .i64 (dV s x0).1.val,.int .i64 (dV s x0).2.1.val,.bool (dV s x0).2.2.1])/\w'.aI g=some (iK (dV s x0).2.2.2)/\bN (fun y=>y=g) w w':=by have key:=dS.obj WJ (fun _=>rfl) (fun _=>rfl) (fun _=>rfl) (fun _=>rfl) ((((),x0,())):Unit×ae×Unit) s g w hb;unfold dV;generalize WH=G at key ⊢;exact key
def eB(s:dB)(x0:ae)(x1:ae):dB:=
 let y: (Unit)×(dB×Unit):=WK ((((),x0,x1,())):Unit×ae×ae×Unit) (zc s)
 (y.2.1)
theorem xV(g:Nat)(w:World)(s:dB)(x0:ae)(x1:ae)(hb:w.aI g=some (iK s)):Calls prog 261 #[.pointer (some ⟨g,0,none⟩),.int .i64 x0.val,.int .i64 x1.val] w fun e w'=>e= .returned (.tuple #[])/\w'.aI g=some (iK (eB s x0 x1))/\bN (fun y=>y=g) w w':=by have key:=dS.obj WL (fun _=>rfl) (fun _=>rfl) (fun _=>rfl) (fun _=>rfl) ((((),x0,x1,())):Unit×ae×ae×Unit) s g w hb;unfold eB;generalize WK=G at key ⊢;exact key
def iZ(s:dB)(x0:ae)(x1:ae):Bool×dB:=
 let y: (Bool×Unit)×(dB×Unit):=WM ((((),x0,x1,())):Unit×ae×ae×Unit) (zc s)
 (y.1.1,y.2.1)
theorem FP(g:Nat)(w:World)(s:dB)(x0:ae)(x1:ae)(hb:w.aI g=some (iK s)):Calls prog 262 #[.pointer (some ⟨g,0,none⟩),.int .i64 x0.val,.int .i64 x1.val] w fun e w'=>e= .returned (.bool (iZ s x0 x1).1)/\w'.aI g=some (iK (iZ s x0 x1).2)/\bN (fun y=>y=g) w w':=by have key:=dS.obj WN (fun _=>rfl) (fun _=>rfl) (fun _=>rfl) (fun _=>rfl) ((((),x0,x1,())):Unit×ae×ae×Unit) s g w hb;unfold iZ;generalize WM=G at key ⊢;exact key
def cR(s:dB)(x0:ae)(x1:ae)(x2:ae)(x3:ae):oJ×ae×Bool×dB:=
 let y: (oJ×ae×Bool×Unit)×(dB×Unit):=WO ((((),x0,x1,x2,x3,())):Unit×ae×ae×ae×ae×Unit) (zc s)
 (y.1.1,y.1.2.1,y.1.2.2.1,y.2.1)
theorem wP(g:Nat)(w:World)(s:dB)(x0:ae)(x1:ae)(x2:ae)(x3:ae)(hb:w.aI g=some (iK s)):Calls prog 265 #[.pointer (some ⟨g,0,none⟩),.int .i64 x0.val,.int .i64 x1.val,.int .i64 x2.val,.int .i64 x3.val] w fun e w'=>e= .returned (.tuple #[ZX (cR s x0 x1 x2 x3).1,.int .i64 (cR s x0 x1 x2 x3).2.1.val,.bool (cR s x0 x1 x2 x3).2.2.1])/\w'.aI g=some (iK (cR s x0 x1 x2 x3).2.2.2)/\bN (fun y=>y=g) w w':=by have key:=dS.obj WQ (fun _=>rfl) (fun _=>rfl) (fun _=>rfl) (fun _=>rfl) ((((),x0,x1,x2,x3,())):Unit×ae×ae×ae×ae×Unit) s g w hb;unfold cR;generalize WO=G at key ⊢;exact key
def dC(x0:ae):lr:=
 let y: (Unit×Unit)×(lr×Unit):=G85 (((x0,())):ae×Unit) ()
 y.2.1
theorem zi(x0:ae)(w:World):Calls prog 85 #[.int .i64 x0.val] w fun e w'=>∃g,e= .returned (.pointer (some ⟨g,0,none⟩))/\w'.aI g=some (gj (dC x0))/\w.heap.size<=g/\Below w.heap.size w w':=by have key:=dS.fresh ZQ (fun _=>rfl) (fun _=>rfl) (((x0,())):ae×Unit) id w;unfold dC;generalize G85=G at key ⊢;exact key
def eg(s:lr)(x0:bR):ae×lr:=
 let y: (ae×Unit)×(lr×Unit):=G90 ((((),x0,())):Unit×bR×Unit) (zc s)
 (y.1.1,y.2.1)
theorem zj(g:Nat)(w:World)(s:lr)(x0:bR)(hb:w.aI g=some (gj s)):Calls prog 90 #[.pointer (some ⟨g,0,none⟩),xT x0] w fun e w'=>e= .returned (.int .i64 (eg s x0).1.val)/\w'.aI g=some (gj (eg s x0).2)/\bN (fun y=>y=g) w w':=by have key:=dS.obj ZS (fun _=>rfl) (fun _=>rfl) (fun _=>rfl) (fun _=>rfl) ((((),x0,())):Unit×bR×Unit) s g w hb;unfold eg;generalize G90=G at key ⊢;exact key
def ja(s:lr)(x0:fX)(x1:ae):ae×lr:=
 let y: (ae×Unit)×(lr×Unit):=G46 ((((),x0,x1,())):Unit×fX×ae×Unit) (zc s)
 (y.1.1,y.2.1)
theorem FQ(g:Nat)(w:World)(s:lr)(x0:fX)(x1:ae)(hb:w.aI g=some (gj s)):Calls prog 46 #[.pointer (some ⟨g,0,none⟩),FI x0,.int .i64 x1.val] w fun e w'=>e= .returned (.int .i64 (ja s x0 x1).1.val)/\w'.aI g=some (gj (ja s x0 x1).2)/\bN (fun y=>y=g) w w':=by have key:=dS.obj ZU (fun _=>rfl) (fun _=>rfl) (fun _=>rfl) (fun _=>rfl) ((((),x0,x1,())):Unit×fX×ae×Unit) s g w hb;unfold ja;generalize G46=G at key ⊢;exact key
def gH(s:lr)(x0:bR)(x1:ae)(x2:ae):ae×lr:=
 let y: (ae×Unit)×(lr×Unit):=WR ((((),x0,x1,x2,())):Unit×bR×ae×ae×Unit) (zc s)
 (y.1.1,y.2.1)
theorem CS(g:Nat)(w:World)(s:lr)(x0:bR)(x1:ae)(x2:ae)(hb:w.aI g=some (gj s)):Calls prog 303 #[.pointer (some ⟨g,0,none⟩),xT x0,.int .i64 x1.val,.int .i64 x2.val] w fun e w'=>e= .returned (.int .i64 (gH s x0 x1 x2).1.val)/\w'.aI g=some (gj (gH s x0 x1 x2).2)/\bN (fun y=>y=g) w w':=by have key:=dS.obj WS (fun _=>rfl) (fun _=>rfl) (fun _=>rfl) (fun _=>rfl) ((((),x0,x1,x2,())):Unit×bR×ae×ae×Unit) s g w hb;unfold gH;generalize WR=G at key ⊢;exact key
def gX(s:lr)(x0:bR):ae×lr:=
 let y: (ae×Unit)×(lr×Unit):=WT ((((),x0,())):Unit×bR×Unit) (zc s)
 (y.1.1,y.2.1)
theorem FR(g:Nat)(w:World)(s:lr)(x0:bR)(hb:w.aI g=some (gj s)):Calls prog 260 #[.pointer (some ⟨g,0,none⟩),xT x0] w fun e w'=>e= .returned (.int .i64 (gX s x0).1.val)/\w'.aI g=some (gj (gX s x0).2)/\bN (fun y=>y=g) w w':=by have key:=dS.obj WU (fun _=>rfl) (fun _=>rfl) (fun _=>rfl) (fun _=>rfl) ((((),x0,())):Unit×bR×Unit) s g w hb;unfold gX;generalize WT=G at key ⊢;exact key
end
end Go.Proofs.Yq
namespace Go.Proofs.Yq
open ChangeShapes WideShapes ChangeAt RowKit Ev
open Tryz
noncomputable section
@[go_sem ↓ high] theorem aeH (a:Addr):loadVar 50 a=jQ 50 a:=rfl
@[go_sem ↓ high] theorem aeI (a:Addr) (v:Value):storeVar 50 a v=jR 50 a v:=rfl
@[go_sem ↓ high] theorem aes (a:Addr):loadVar 286 a=jQ 286 a:=rfl
@[go_sem ↓ high] theorem aet (a:Addr) (v:Value):storeVar 286 a v=jR 286 a v:=rfl
@[go_sem] theorem adq:Er 50 10:=aV 50 10 _ underlying50 rfl (by kernel_rfl)
@[go_sem] theorem abk:Er 286 3:=aV 286 3 _ underlying286 rfl (by kernel_rfl)
@[go_sem] theorem abl:Es 50 10:=aX 50 10 (by kernel_rfl)
@[go_sem] theorem ZY:Es 286 3:=aX 286 3 (by kernel_rfl)
theorem ZZ:PS 50 10:=iM underlying50 rfl (by kernel_rfl)
theorem putRow{w:World}{g:Nat}{cs cs0:Array Value}(h:w.aI g=some cs0)(hs:cs.size=cs0.size): (w.setCells g 0 cs.toList).aI g=some cs:=by rw[bp g cs.toList 0 w _ h (by simp[hs])];rw[Array.toArray_toList,fT hs]
structure bE where
 node:ae
 boot:ae
 heard:ae
 has:Bool
 e:bR
 at_:ae
def aJ(x:bE):Array Value:=#[.int .i64 x.node.val,.int .i64 x.boot.val,.int .i64 x.heard.val,.bool x.has,.int .i64 x.e.1.val,.int .i64 x.e.2.1.val,.int .i64 x.e.2.2.1.val,.int .i64 x.e.2.2.2.1.val,.int .i64 x.e.2.2.2.2.1.val,.int .i64 x.at_.val]
def i0:ae:=⟨0,by decide⟩
def bc:bR:=(i0,i0,i0,i0,i0,())
def cr:bE:=⟨i0,i0,i0,false,bc,i0⟩
@[go_sem] theorem bo (x:bE): (aJ x).size=10:=by simp[aJ]
@[go_sem] theorem Z0 (x:bE):bK (aJ x)=true:=by simp[bK,aJ,Value.oneCell']
@[go_sem] theorem Z1 (x:bE): (aJ x).extract 0 10=aJ x:=by have:=bo x;rw[<-this,Array.extract_size]
theorem ew: (#[.int .i64 0,.int .i64 0,.int .i64 0,.bool false,.int .i64 0,.int .i64 0,.int .i64 0,.int .i64 0,.int .i64 0,.int .i64 0]:Array Value)=aJ cr:=rfl
structure de where
 boot:ae
 left:Bool
 win:wO
def aeW(x:de)(a:Nat):Array Value:=#[.int .i64 x.boot.val,.bool x.left,.pointer (some ⟨a,0,none⟩)]
structure bh where
 gY:ae
 ents:List (Int×bE)
 livs:List (Int×de)
def dM(l:List (Int×bE)):List (Int×Value):=l.map fun p=>(p.1,.agg (aJ p.2))
def cW(l:List (Int×de))(ws:List Nat):List (Int×Value):=(l.zip ws).map fun p=>(p.1.1,.agg (aeW p.1.2 p.2))
def lx(l:List (Int×de))(ws:List Nat):List (Nat×aj):=(l.zip ws).map fun p=>(p.2,.row (j5 p.1.2.win))
def nY(s:bh)(me ml:Nat)(ws:List Nat)(g:Nat):List (Nat×aj):=
 (g,.row #[.int .i64 s.gY.val,.map (some me),.map (some ml)]):: (me,.ql (dM s.ents)):: (ml,.ql (cW s.livs ws))::lx s.livs ws
def eW(s:bh):aj:=⟨fun g F w=>∃me ml ws,ws.length=s.livs.length/\Sep w (nY s me ml ws g) F,fun g F w ⟨me,ml,ws,_,h⟩ x hx=>h.lt x hx,fun g F w w' ⟨me,ml,ws,h0,h⟩ e=>⟨me,ml,ws,h0,h.loc e⟩⟩
def bJ{α:Type}(l:List (Int×α))(k:Int):Option α:=(l.find? (fun p=>p.1==k)).map (·.2)
theorem kQ(l:List (Int×bE))(k:Int):nW (dM l) k=(bJ l k).map fun x=> .agg (aJ x):=by unfold nW dM bJ;rw[List.find?_map];simp only[Function.comp_def,Option.map_map]
theorem bL{P:Program}{w:World}{ops:Array Oper}{rest:List Oper}{o:Oper}{a:Act}{Q:Exit->Act->World->Prop}(hg:o.guard=none)(m x:Operand)(t:TypeId)(hop:o.op=Op.lookup t m x true)
  (kt et:TypeId) (ht:P.underlying t=some (.map kt et)) (hk:P.underlying kt=some (.int .i64)) (z:Value) (hz: (zeroValue et).run P w= .ok z w) (b:Nat) (l:List (Int×Value)) (him:dr w b l)
  (hm:a.eval m= .map (some b)) (k:Int) (hx:a.eval x= .int .i64 k) (hK:wpList P ops Q rest (a.put o.dst (.tuple #[(nW l k).getD z,.bool (nW l k).isSome])) w):wpList P ops Q (o::rest) a w:=by
 refine wpList_plain hg fun K' hK'=>?_;have hrun:=him.look ht hk hz k true;rw[if_pos rfl] at hrun;unfold Oper.wp;simp only[execOp,hop,hm,hx,hrun,Sem.run_bind,Result.andThen_ok,Sem.run_pure];exact hK' _ _ hK
theorem nD(w:World): (zeroValue 50).run prog w= .ok (.agg (aJ cr)) w:=by kernel_rfl
theorem dh:prog.underlying 129=some (.map 3 50):=by kernel_rfl
theorem dy:prog.underlying 3=some (.int .i64):=by kernel_rfl
theorem A9(s:bh)(g:Nat)(F:Nat->Prop)(w:World)(n:Int)(h: (eW s).rep g F w):Calls prog 148 #[.pointer (some ⟨g,0,none⟩),.int .i64 n] w fun e w'=>
  e= .returned (.tuple #[.agg (aJ ((bJ s.ents n).getD cr)),.bool (bJ s.ents n).isSome])/\Below w.heap.size w w':=by
 obtain⟨me,ml,ws,h0,hs⟩:=h;have hb:=hs.row (i:=0) rfl;obtain⟨F1,h1,_⟩:=hs.get (i:=1) rfl;have him:dr w me (dM s.ents):=h1.2;have hc:w.cell? ⟨g,1,none⟩=some (.map (some me)):=by rw[ao hb];rfl
 have hgl:g<w.heap.size:=ab hb;have HIM:Hid (dr (w.alloc (.cells (aJ cr) 50)) me (dM s.ents)):=him.congr ((bZ _ w).alloc (nL _) _ |>.block me him.lt);have hv: (nW (dM s.ents) n).getD (.agg (aJ cr))= .agg (aJ ((bJ s.ents n).getD cr))/\(nW (dM s.ents) n).isSome=(bJ s.ents n).isSome:=by rw[kQ];cases bJ s.ents n <;> exact⟨rfl,rfl⟩
 have HV:=qD hv;clear him h1 hs hb hv;have hz:=ew;go_enter func148,ntmps148;go_wp2_with (at_lookup;refine bL rfl _ _ 129 rfl 3 50 dh dy _ (nD _) me _ HIM.o rfl n rfl ?_;rw[HV.o.1,HV.o.2]);refine bodyPost_ret (aA (fn:=Tryz.f148) rfl rfl (ZZ (putRow (cs0:=aJ cr) ?_ (by simp[bo])) (bo _))) rfl ⟨rfl,?_⟩
 ·rw[ay _ _ _ _ _ (by omega)];simp[af,aq]
 ·exact aa (aa (((bZ _ _).alloc (nL _) _).alloc (by simp) _) (by omega) _ _) (nL _) _ _
section
section
variable {P:Program} {w:World} {ops:Array Oper} {rest:List Oper} {o:Oper} {a:Act} {Q:Exit->Act->World->Prop}
theorem eC(hg:o.guard=none)(m x v:Operand)(t:TypeId)(hop:o.op=Op.mapUpdate t m x v)(kt et:TypeId)(ht:P.underlying t=some (.map kt et))(hk:P.underlying kt=some (.int .i64))(b:Nat)(l:List (Int×Value))(him:dr w b l)
  (hm:a.eval m= .map (some b)) (k:Int) (hx:a.eval x= .int .i64 k) (val:Value) (hv:a.eval v=val) (hK:∀w',dr w' b (qk l k val)->bN (fun y=>y=b) w w'->w'.heap.size=w.heap.size->wpList P ops Q rest (a.put o.dst undef) w'):wpList P ops Q (o::rest) a w:=by
 refine wpList_plain hg fun K' hK'=>?_;obtain⟨w',hrun,h1,h2,h3⟩:=him.put ht hk k val;unfold Oper.wp;simp only[execOp,hop,hm,hx,hv,hrun,Sem.run_bind,Result.andThen_ok,Sem.run_pure];exact hK' _ _ (hK w' h1 h2 h3)
theorem afd(hg:o.guard=none)(m x:Operand)(t k':TypeId)(hop:o.op=Op.call {callee:=Callee.builtin Builtin.delete,args:=#[m,x],argTypes:=#[t,k']})(kt et:TypeId)(ht:P.underlying t=some (.map kt et))(hk:P.underlying kt=some (.int .i64))(b:Nat)(l:List (Int×Value))(him:dr w b l)
  (hm:a.eval m= .map (some b)) (k:Int) (hx:a.eval x= .int .i64 k) (hK:∀w',dr w' b (AE l k)->bN (fun y=>y=b) w w'->w'.heap.size=w.heap.size->wpList P ops Q rest (a.put o.dst (.tuple #[])) w'):wpList P ops Q (o::rest) a w:=by
 refine wpList_plain hg fun K' hK'=>?_;obtain⟨w',hrun,h1,h2,h3⟩:=him.del ht hk k #[t,k'] rfl o.type;unfold Oper.wp;simp[execOp,hop,resolve,invoke,builtin,hm,hx,hrun,Result.andThen];exact hK' _ _ (hK w' h1 h2 h3)
end
def dG{α:Type}(l:List (Int×α))(k:Int)(v:α):List (Int×α):=l.map (fun p=>if p.1==k then(k,v) else p)
def we{α:Type}(l:List (Int×α))(k:Int):Bool:=l.any (fun p=>p.1==k)
def eX{α:Type}(l:List (Int×α))(k:Int)(v:α):List (Int×α):=if we l k then dG l k v else l++ [(k,v)]
def sP{α:Type}(l:List (Int×α))(k:Int):List (Int×α):=l.filter (fun p=>!(p.1==k))
theorem zk{α:Type}{l:List (Int×α)}{k:Int}:we l k=(bJ l k).isSome:=by
 unfold we bJ;rw[Option.isSome_map];induction l with
 |nil=>rfl
 |cons p l ih=>
  simp only[List.any_cons,List.find?];cases (p.1==k)
  ·simpa using ih
  ·rfl
theorem Jx(l:List (Int×bE))(k:Int)(x:bE):sE (dM l) k (.agg (aJ x))=dM (dG l k x):=by unfold sE dM dG;rw[List.map_map,List.map_map];apply List.map_congr_left;intro p _;simp only[Function.comp_def];split <;> rfl
theorem Jy(l:List (Int×bE))(k:Int):wg (dM l) k=we l k:=by unfold wg dM we;rw[List.any_map];rfl
theorem kR(l:List (Int×bE))(k:Int)(x:bE):qk (dM l) k (.agg (aJ x))=dM (eX l k x):=by
 unfold qk eX;rw[Jy,Jx];split
 ·rfl
 ·simp[dM]
theorem sQ(l:List (Int×bE))(k:Int):AE (dM l) k=dM (sP l k):=by unfold AE dM sP;rw[List.filter_map];rfl
@[go_sem ↓ high] theorem adr (a:Addr):loadVar 37 a=jQ 37 a:=rfl
@[go_sem ↓ high] theorem ads (a:Addr) (v:Value):storeVar 37 a v=jR 37 a v:=rfl
@[go_sem] theorem W1:Er 37 5:=aV 37 5 _ underlying37 rfl (by kernel_rfl)
@[go_sem] theorem QR:Es 37 5:=aX 37 5 (by kernel_rfl)
def aB(s:bR):Array Value:=#[.int .i64 s.1.val,.int .i64 s.2.1.val,.int .i64 s.2.2.1.val,.int .i64 s.2.2.2.1.val,.int .i64 s.2.2.2.2.1.val]
@[go_sem] theorem cc (x:bR): (aB x).size=5:=by simp[aB]
@[go_sem] theorem Z2 (x:bR):bK (aB x)=true:=by simp[bK,aB,Value.oneCell']
@[go_sem] theorem Z3 (x:bR): (aB x).extract 0 5=aB x:=by have:=cc x;rw[<-this,Array.extract_size]
def ry(e:bR):Bool:=(F84 ((e,()):bR×Unit)).1
theorem Ba(e:bR)(w:World):Calls prog 84 #[.agg (aB e)] w fun r w'=>r= .returned (.bool (ry e))/\Below w.heap.size w w':=by have key:=YP.2 ((e,()):bR×Unit) id w;unfold ry;generalize F84=G at key ⊢;exact key
def p7(t:ae):Bool:=(Wc ((t,()):ae×Unit)).1
theorem rz(t:ae)(w:World):Calls prog 198 #[.int .i64 t.val] w fun r w'=>r= .returned (.bool (p7 t))/\Below w.heap.size w w':=by have key:=Tl.2 ((t,()):ae×Unit) id w;unfold p7;generalize Wc=G at key ⊢;exact key
def iD(s:bh)(n:Int)(e:bR)(t:ae):Int×bh:=
 match bJ s.ents n with
 |none=>(7,s)
 |some x=>if ry e&&p7 t then(0,{s with ents:=eX s.ents n {x with has:=true,e:=e,at_:=t}}) else(1,s)
theorem eW.ents{s:bh}{g:Nat}{F:Nat->Prop}{w w':World}{me ml:Nat}{ws:List Nat}(h0:ws.length=s.livs.length)(hs:Sep w (nY s me ml ws g) F){l:List (Int×bE)}(him:dr w' me (dM l))(hc:bN (fun y=>y=me) w w'):
  ∃F',(eW {s with ents:=l}).rep g F' w'/\(∀x,F' x->F x∨w.heap.size<=x)/\bN F w w':=by
 obtain⟨F',h1,h2,h3⟩:=hs.qS (i:=1) (p':=(me,.ql (dM l))) rfl (fun F1 h1 _=>⟨F1,⟨h1.1,him⟩,fun x hx=> .inl hx,hc.mono fun g hg=> .inl ((h1.1 g).2 hg)⟩);exact⟨F',⟨me,ml,ws,h0,h1⟩,h2,h3⟩
theorem QS(s:bh)(g:Nat)(F:Nat->Prop)(w:World)(n:Int)(e:bR)(t:ae)(h: (eW s).rep g F w):Calls prog 259 #[.pointer (some ⟨g,0,none⟩),.int .i64 n,.agg (aB e),.int .i64 t.val] w fun r w'=>
  r= .returned (.int .i64 (iD s n e t).1)/\∃F',(eW (iD s n e t).2).rep g F' w'/\(∀x,F' x->F x∨w.heap.size<=x)/\bN F w w':=by
 obtain⟨me,ml,ws,h0,hs⟩:=h;have hb:=hs.row (i:=0) rfl;obtain⟨F1,h1,_⟩:=hs.get (i:=1) rfl;have him:dr w me (dM s.ents):=h1.2;have hc:w.cell? ⟨g,1,none⟩=some (.map (some me)):=by rw[ao hb];rfl
 have hgl:g<w.heap.size:=ab hb;have HB0:Hid (Below w.heap.size w (w.alloc (.cells (aB e) 37))):=(bZ _ w).alloc (nL _) _;have HIM:Hid (dr (w.alloc (.cells (aB e) 37)) me (dM s.ents)):=him.congr (HB0.o.block me him.lt);have HIM0:=qD him;have HC0:=qD hc;have HS:=qD hs;have H0:=qD h0;have hgi:=kQ s.ents n;have hz:=ew;clear him h1 hs hb h0;cases hk:bJ s.ents n with
 |none=>
  have HF:Hid (iD s n e t=(7,s)):=by unfold Hid iD;rw[hk]
  rw[hk] at hgi;clear hk;go_enter func259,ntmps259;go_wp2_with (at_lookup;refine bL rfl _ _ 129 rfl 3 50 dh dy _ (nD _) me _ HIM.o rfl n rfl ?_;rw[hgi]);go_ret;rw[HF.o];have hbb:=qD (aa (HB0.o.alloc (by simp) (.cells (aJ cr) 50)) (show w.heap.size<=w.heap.size+1 by omega) 0 (aJ cr).toList);exact⟨rfl,F,⟨me,ml,ws,H0.o,HS.o.more hbb.o⟩,fun x hx=> .inl hx,bN.bH hbb.o⟩
 |some x=>
  rw[hk] at hgi;have hxC:∀y,(some (Value.agg (aJ x))).getD y= .agg (aJ x):=fun _=>rfl;go_enter func259,ntmps259;go_wp2_with (at_lookup;refine bL rfl _ _ 129 rfl 3 50 dh dy _ (nD _) me _ HIM.o rfl n rfl ?_;rw[hgi]);have l0:w.heap.size<w.heap.size+1+1:=by omega
  obtain⟨w1,hw1⟩:∃w1,w1=(((w.alloc (.cells (aB e) 37)).alloc (.cells (aJ cr) 50)).setCells (w.heap.size+1) 0 (aJ x).toList):=⟨_,rfl⟩;rw[<-hw1];have B1:Hid (Below w.heap.size w w1):=by rw[hw1];exact aa (HB0.o.alloc (by simp) _) (by omega) _ _
  have k1:w1.aI (w.heap.size+1)=some (aJ x):=by rw[hw1];exact putRow (cs0:=aJ cr) (by simp[af,aq]) (by simp[bo])
  have k2:w1.aI w.heap.size=some (aB e):=by rw[hw1,ay _ _ _ _ _ (by omega)];simp[af,aq]
  have K1:=qD k1;have K2:=qD k2;clear hw1 k1 k2 HB0 HIM hz hgi hc;have HM:=qD (Ba e w1);have HT:=qD (rz t);cases hm:ry e with
  |false=>
   have HF:Hid (iD s n e t=(1,s)):=by unfold Hid iD;rw[hk,hm];rfl
   rw[hm] at HM;clear hk hm;refine HM.o.mono ?_;rintro r w2 ⟨rfl,hb2⟩;have B2:=qD (B1.o.trans (hb2.mono B1.o.size));clear hb2;go_wp2_with fail;go_ret;rw[HF.o];exact⟨rfl,F,⟨me,ml,ws,H0.o,HS.o.more B2.o⟩,fun x hx=> .inl hx,bN.bH B2.o⟩
  |true=>
   rw[hm] at HM;refine HM.o.mono ?_;rintro r w2 ⟨rfl,hb2⟩;have B2:=qD (B1.o.trans (hb2.mono B1.o.size));have K12:=qD ((ah hb2 (ab K1.o)).trans K1.o);have K22:=qD ((ah hb2 (ab K2.o)).trans K2.o);clear hb2 K1 K2 B1 HM;go_wp2_with fail;have HT2:=qD (HT.o w2);clear HT;cases ht:p7 t with
   |false=>
    have HF:Hid (iD s n e t=(1,s)):=by unfold Hid iD;rw[hk,hm,ht];rfl
    rw[ht] at HT2;clear hk hm ht;refine HT2.o.mono ?_;rintro r w3 ⟨rfl,hb3⟩;have B3:=qD (B2.o.trans (hb3.mono B2.o.size));clear hb3;go_wp2_with fail;go_ret;rw[HF.o];exact⟨rfl,F,⟨me,ml,ws,H0.o,HS.o.more B3.o⟩,fun x hx=> .inl hx,bN.bH B3.o⟩
   |true=>
    have HF:Hid (iD s n e t=(0,{s with ents:=eX s.ents n {x with has:=true,e:=e,at_:=t}})):=by unfold Hid iD;rw[hk,hm,ht];rfl
    rw[ht] at HT2;clear hk hm ht;refine HT2.o.mono ?_;rintro r w3 ⟨rfl,hb3⟩;have B3:=qD (B2.o.trans (hb3.mono B2.o.size));have k1:=(ah hb3 (ab K12.o)).trans K12.o;have k2:=(ah hb3 (ab K22.o)).trans K22.o;clear hb3 K12 K22 B2;go_upto_region 8 with(fail);have c3:w3.cell? ⟨w.heap.size+1,3,none⟩=some (.bool x.has):=by rw[ao k1];rfl
    have c9:w3.cell? ⟨w.heap.size+1,9,none⟩=some (.int .i64 x.at_.val):=by rw[ao k1];rfl
    have f3:w3.frozen? ⟨w.heap.size+1,3,none⟩=false:=ax k1 _;have f9:w3.frozen? ⟨w.heap.size+1,9,none⟩=false:=ax k1 _;have kA: ((w3.setCell ⟨w.heap.size+1,3,none⟩ (.bool true)).drew).aI (w.heap.size+1)=some ((aJ x).setIfInBounds 3 (.bool true)):=by rw[uX,bw,if_pos rfl,k1];rfl
    have kB: (((w3.setCell ⟨w.heap.size+1,3,none⟩ (.bool true)).drew).setCells (w.heap.size+1) 4 (aB e).toList).aI (w.heap.size+1)=some (BD 4 (aB e).toList.toArray ((aJ x).setIfInBounds 3 (.bool true))):=bp _ _ _ _ _ kA (by simp[aJ,aB]);have d9: (((w3.setCell ⟨w.heap.size+1,3,none⟩ (.bool true)).drew).setCells (w.heap.size+1) 4 (aB e).toList).cell? ⟨w.heap.size+1,9,none⟩=some (.int .i64 x.at_.val):=by rw[ao kB];rfl
    have KB:=qD kB;clear kA kB
    go_region
    all_goals go_upto_region 9 with(fail)
    obtain⟨w4,hw4⟩:∃w4,w4=((((w3.setCell ⟨w.heap.size+1,3,none⟩ (.bool true)).drew).setCells (w.heap.size+1) 4 (aB e).toList).setCell ⟨w.heap.size+1,9,none⟩ (.int .i64 t.val)):=⟨_,rfl⟩;rw[<-hw4];have B4:Hid (Below w.heap.size w w4):=by rw[hw4];exact(aa ((B3.o.setCell (by simp) _).drew) (by omega) _ _).setCell (by simp) _
    have k4:w4.aI (w.heap.size+1)=some (aJ {x with has:=true,e:=e,at_:=t}):=by rw[hw4,bw,if_pos rfl,KB.o];rfl
    have c4:w4.cell? ⟨g,1,none⟩=some (.map (some me)):=(B4.o.cell (p:=⟨g,1,none⟩) hgl).trans HC0.o;have l4:w.heap.size+1<w4.heap.size:=ab k4;have g4:g<w4.heap.size:=by omega
    clear hw4 KB B3 k1 k2 c3 c9 f3 f9 d9;refine ar 6 ?_;simp only[tA,tD,tC,tE]
    repeat quiet_step (fail)
    refine wpQuiet_nil ?_;intro w5 hb5;have B5:=qD (B4.o.trans (hb5.mono B4.o.size));clear hb5;refine eC rfl _ _ _ 129 rfl 3 50 dh dy me _ (HIM0.o.congr (B5.o.block me HIM0.o.lt)) rfl n rfl (.agg (aJ {x with has:=true,e:=e,at_:=t})) rfl ?_;intro w6 him6 hc6 hz6;rw[kR] at him6;have H6:=qD (eW.ents H0.o (HS.o.more B5.o) him6 hc6);clear him6 hc6 hz6;go_wp2_with fail;go_ret;rw[HF.o];obtain⟨F',h1,h2,h3⟩:=H6.o;exact⟨rfl,F',h1,fun y hy=>(h2 y hy).imp id (fun h=>nT B5.o.size h),(bN.bH B5.o).trans h3 (fun _ h=> .inl h)⟩
end
def lookW(l:List (Int×de))(ws:List Nat)(k:Int):Option (de×Nat):=((l.zip ws).find? (fun p=>p.1.1==k)).map fun p=>(p.1.2,p.2)
theorem mO(l:List (Int×de))(ws:List Nat)(k:Int):nW (cW l ws) k=(lookW l ws k).map fun x=> .agg (aeW x.1 x.2):=by unfold nW cW lookW;rw[List.find?_map];simp only[Function.comp_def,Option.map_map]
theorem js:∀{l:List (Int×de)} {ws:List Nat} {k:Int},ws.length=l.length->(lookW l ws k).map (·.1)=bJ l k
 | [],[],k,_=>rfl
 | [],_::_,k,h=>by simp at h
 |_::_,[],k,h=>by simp at h
 |p::l,a::ws,k,h=>by
  have ih:=js (l:=l) (ws:=ws) (k:=k) (by simpa using h);unfold lookW bJ at ih ⊢;simp only[List.zip_cons_cons,List.find?];cases (p.1==k)
  ·exact ih
  ·rfl
theorem mP:∀{l:List (Int×de)} {ws:List Nat},ws.length=l.length->(cW l ws).map (·.1)=l.map (·.1)
 | [],[],_=>rfl
 | [],_::_,h=>by simp at h
 |_::_,[],h=>by simp at h
 |p::l,a::ws,h=>by have ih:=mP (l:=l) (ws:=ws) (by simpa using h);unfold cW at ih ⊢;simp only[List.zip_cons_cons,List.map_cons,ih]
theorem mQ{α:Type}{k:Int}{v:α}:∀{l:List (Int×α)},(∀p∈l,p.1≠k)->dG l k v=l
 | [],_=>rfl
 |p::l,h=>by
  have hp: (p.1==k)=false:=by simpa using h p List.mem_cons_self
  unfold dG;simp only[List.map_cons,hp,Bool.false_eq_true,if_false];congr 1;exact mQ (l:=l) fun q hq=>h q (List.mem_cons_of_mem _ hq)
theorem kS{k:Int}{x y:de}{a:Nat}:∀{l:List (Int×de)} {ws:List Nat},ws.length=l.length->(l.map (·.1)).Nodup->lookW l ws k=some (x,a)->
  sE (cW l ws) k (.agg (aeW y a))=cW (dG l k y) ws/\∃i,(lx l ws)[i]? =some (a,.row (j5 x.win))/\lx (dG l k y) ws=(lx l ws).set i (a,.row (j5 y.win))
 | [],[],_,_,h=>by cases h
 | [],_::_,hl,_,_=>by simp at hl
 |_::_,[],hl,_,_=>by simp at hl
 |p::l,b::ws,hl,hn,h=>by
  simp only[List.map_cons,List.nodup_cons] at hn;unfold lookW at h;simp only[List.zip_cons_cons,List.find?] at h;by_cases hp: (p.1==k)=true
  ·rw[hp] at h;simp only[Option.map_some,oI,Prod.mk.injEq] at h;obtain⟨h1,h2⟩:=h;subst h1 h2;have hpk:=eq_of_beq hp;have hno:∀q∈l,q.1≠k:=fun q hq e=>hn.1 (by rw[hpk,<-e];exact List.mem_map_of_mem hq);have e1:dG (p::l) k y=(k,y)::l:=by show(if p.1==k then(k,y) else p)::dG l k y=_;rw[if_pos hp,mQ hno]
   refine⟨?_,0,rfl,?_⟩
   ·rw[e1];show(if p.1==k then(k,Value.agg (aeW y b)) else(p.1,Value.agg (aeW p.2 b)))::sE (cW l ws) k (.agg (aeW y b))=(k,Value.agg (aeW y b))::cW l ws;rw[if_pos hp];congr 1;have:sE (cW l ws) k (.agg (aeW y b))=dG (cW l ws) k (.agg (aeW y b)):=rfl;rw[this,mQ];intro q hq e;have:q.1∈(cW l ws).map (·.1):=List.mem_map_of_mem hq;rw[mP (by simpa using hl)] at this;obtain⟨z,hz,hze⟩:=List.mem_map.1 this;exact hno z hz (by rw[hze,e])
   ·rw[e1];rfl
  ·have hp': (p.1==k)=false:=by simpa using hp
   rw[hp'] at h;obtain⟨h1,i,h2,h3⟩:=kS (l:=l) (ws:=ws) (x:=x) (y:=y) (a:=a) (k:=k) (by simpa using hl) hn.2 h;have e1:dG (p::l) k y=p::dG l k y:=by show(if p.1==k then(k,y) else p)::dG l k y=_;rw[if_neg hp]
   refine⟨?_,i+1,h2,?_⟩
   ·rw[e1];show(if p.1==k then(k,Value.agg (aeW y a)) else(p.1,Value.agg (aeW p.2 b)))::sE (cW l ws) k (.agg (aeW y a))=(p.1,Value.agg (aeW p.2 b))::cW (dG l k y) ws;rw[if_neg hp,h1]
   ·rw[e1];show(b,aj.row (j5 p.2.win))::lx (dG l k y) ws=((b,aj.row (j5 p.2.win))::lx l ws).set (i+1) _;rw[h3];rfl
theorem rA{α:Type}(l:List (Int×α))(k:Int)(v:α): (dG l k v).length=l.length:=by simp[dG]
theorem Jz{l:List (Int×de)}{ws:List Nat}{k:Int}(h: (lookW l ws k).isSome=true):wg (cW l ws) k=true:=by unfold wg cW;rw[List.any_map];unfold lookW at h;rw[Option.isSome_map,List.find?_isSome] at h;exact List.any_eq_true.2 h
theorem JA{l:List (Int×de)}{ws:List Nat}{k:Int}{x y:de}{a:Nat}(hl:ws.length=l.length)(hn: (l.map (·.1)).Nodup)(h:lookW l ws k=some (x,a)):qk (cW l ws) k (.agg (aeW y a))=cW (dG l k y) ws:=by unfold qk;rw[Jz (by rw[h];rfl),if_pos rfl,(kS hl hn h).1]
def iv(s:bh)(n:Int):Bool×bh:=
 match bJ s.livs n with
 |none=>(false,s)
 |some x=>(true,{s with livs:=dG s.livs n {x with left:=true},ents:=sP s.ents n})
@[go_sem] theorem cF (x:de) (a:Nat): (aeW x a).size=3:=by simp[aeW]
@[go_sem] theorem XX (x:de) (a:Nat):bK (aeW x a)=true:=by simp[bK,aeW,Value.oneCell']
@[go_sem] theorem XY (x:de) (a:Nat): (aeW x a).extract 0 3=aeW x a:=by have:=cF x a;rw[<-this,Array.extract_size]
def cM:Array Value:=#[.int .i64 0,.bool false,.pointer none]
@[go_sem] theorem dz:cM.size=3:=by simp[cM]
@[go_sem] theorem XZ:bK cM=true:=by simp[bK,cM,Value.oneCell']
@[go_sem] theorem X0:cM.extract 0 3=cM:=by have:=dz;rw[<-this,Array.extract_size]
theorem oM: (#[.int .i64 0,.bool false,.pointer none]:Array Value)=cM:=rfl
theorem nG(w:World): (zeroValue 286).run prog w= .ok (.agg cM) w:=by kernel_rfl
theorem jb:prog.underlying 130=some (.map 3 286):=by kernel_rfl
theorem eW.Z7{s:bh}{g:Nat}{F:Nat->Prop}{w w':World}{me ml:Nat}{ws:List Nat}(h0:ws.length=s.livs.length)(hs:Sep w (nY s me ml ws g) F){l:List (Int×de)}(hlen:l.length=s.livs.length)(hwin:lx l ws=lx s.livs ws)(him:dr w' ml (cW l ws))(hc:bN (fun y=>y=ml) w w'):
  ∃F',Sep w' (nY {s with livs:=l} me ml ws g) F'/\(∀x,F' x->F x∨w.heap.size<=x)/\bN F w w':=by
 obtain⟨F',h1,h2,h3⟩:=hs.qS (i:=2) (p':=(ml,.ql (cW l ws))) rfl (fun F1 h1 _=>⟨F1,⟨h1.1,him⟩,fun x hx=> .inl hx,hc.mono fun g hg=> .inl ((h1.1 g).2 hg)⟩);refine⟨F',?_,h2,h3⟩;show Sep w' ((g,_):: (me,_):: (ml,.ql (cW l ws))::lx l ws) F';rw[hwin];exact h1
theorem JB(s:bh)(g:Nat)(F:Nat->Prop)(w:World)(n:Int)(h: (eW s).rep g F w):Calls prog 205 #[.pointer (some ⟨g,0,none⟩),.int .i64 n] w fun r w'=>
  r= .returned (.bool (iv s n).1)/\∃F',(eW (iv s n).2).rep g F' w'/\(∀x,F' x->F x∨w.heap.size<=x)/\bN F w w':=by
 obtain⟨me,ml,ws,h0,hs⟩:=h;have hb:=hs.row (i:=0) rfl;obtain⟨F1,h1,_⟩:=hs.get (i:=1) rfl;obtain⟨F2,h2,_⟩:=hs.get (i:=2) rfl;have HIM1:Hid (dr w me (dM s.ents)):=h1.2;have HIM2:Hid (dr w ml (cW s.livs ws)):=h2.2;have hc1:w.cell? ⟨g,1,none⟩=some (.map (some me)):=by rw[ao hb];rfl
 have hc2:w.cell? ⟨g,2,none⟩=some (.map (some ml)):=by rw[ao hb];rfl
 have HC1:=qD hc1;have HC2:=qD hc2;have hgl:g<w.heap.size:=ab hb;have HS:=qD hs;have H0:=qD h0;have hgi:=mO s.livs ws n;have HLW:=qD (js (k:=n) h0);have HND:Hid ((s.livs.map (·.1)).Nodup):=by
  have:=HIM2.o.nodup
  rwa [mP h0] at this
 have hz:=oM;clear h1 h2 hs hb h0;cases hk:lookW s.livs ws n with
 |none=>
  have HF:Hid (iv s n=(false,s)):=by unfold Hid iv;rw[<-HLW.o,hk];rfl
  rw[hk] at hgi;clear hk;go_enter func205,ntmps205;go_wp2_with (at_lookup;refine bL rfl _ _ 130 rfl 3 286 jb dy _ (nG _) ml _ HIM2.o rfl n rfl ?_;rw[hgi]);go_ret;rw[HF.o];have hbb:=qD (aa ((bZ _ w).alloc (nL _) (.cells cM 286)) (nL w.heap.size) 0 cM.toList);exact⟨rfl,F,⟨me,ml,ws,H0.o,HS.o.more hbb.o⟩,fun x hx=> .inl hx,bN.bH hbb.o⟩
 |some xa=>
  obtain⟨x,a⟩:=xa;have HF:Hid (iv s n=(true,{s with livs:=dG s.livs n {x with left:=true},ents:=sP s.ents n})):=by unfold Hid iv;rw[<-HLW.o,hk];rfl
  have HK:=qD hk;rw[hk] at hgi;clear hk;go_enter func205,ntmps205;go_upto_region 5 with(at_lookup;refine bL rfl _ _ 130 rfl 3 286 jb dy _ (nG _) ml _ HIM2.o rfl n rfl ?_;rw[hgi]);obtain⟨w1,hw1⟩:∃w1,w1=((w.alloc (.cells cM 286)).setCells w.heap.size 0 (aeW x a).toList):=⟨_,rfl⟩;rw[<-hw1];have B1:Hid (Below w.heap.size w w1):=by rw[hw1];exact aa ((bZ _ w).alloc (nL _) _) (nL _) _ _
  have k1:w1.aI w.heap.size=some (aeW x a):=by rw[hw1];exact putRow (cs0:=cM) (by simp[af,aq]) (by simp[cF,dz])
  have c1:w1.cell? ⟨w.heap.size,1,none⟩=some (.bool x.left):=by rw[ao k1];rfl
  have f1:=ax k1 1;have K1:=qD k1;clear hw1 k1 hc1 hc2 hz hgi;go_upto_region 6 with(fail);obtain⟨w2,hw2⟩:∃w2,w2=w1.setCell ⟨w.heap.size,1,none⟩ (.bool true):=⟨_,rfl⟩;rw[<-hw2];have B2:Hid (Below w.heap.size w w2):=by rw[hw2];exact B1.o.setCell (nL _) _
  have k2:w2.aI w.heap.size=some (aeW {x with left:=true} a):=by rw[hw2,bw,if_pos rfl,K1.o];rfl
  have c2:w2.cell? ⟨g,2,none⟩=some (.map (some ml)):=(B2.o.cell (p:=⟨g,2,none⟩) hgl).trans HC2.o;have l2:w.heap.size<w2.heap.size:=ab k2;have g2:g<w2.heap.size:=by omega
  clear hw2 K1 B1 c1 f1;refine ar 6 ?_;simp only[tA,tD,tC,tE]
  repeat quiet_step (fail)
  refine wpQuiet_nil ?_;intro w3 hb3;have B3:=qD (B2.o.trans (hb3.mono B2.o.size));clear hb3;refine eC rfl _ _ _ 130 rfl 3 286 jb dy ml _ (HIM2.o.congr (B3.o.block ml HIM2.o.lt)) rfl n rfl (.agg (aeW {x with left:=true} a)) rfl ?_;intro w4 him4 hc4 hz4;rw[JA H0.o HND.o HK.o] at him4;have hwin:lx (dG s.livs n {x with left:=true}) ws=lx s.livs ws:=by
   obtain⟨_,i,e1,e2⟩:=kS (y:={x with left:=true}) H0.o HND.o HK.o;rw[e2];apply List.ext_getElem?;intro j;by_cases hj:i=j
   ·subst hj;have hlt:=(gS.1 e1).1;rw[List.getElem?_set_self hlt,e1]
   ·rw[List.getElem?_set_ne hj]
  have H4:=qD (eW.Z7 (l:=dG s.livs n {x with left:=true}) H0.o (HS.o.more B3.o) (rA _ _ _) hwin him4 hc4);clear him4 hc4 hz4 hwin k2 c2 l2 g2 B2;obtain⟨F4,s4,u4,v4⟩:=H4.o;obtain⟨G1,i4,_⟩:=s4.get (i:=1) rfl;have HI4:Hid (dr w4 me (dM s.ents)):=i4.2;have hb4:=s4.row (i:=0) rfl;have c4:w4.cell? ⟨g,1,none⟩=some (.map (some me)):=by rw[ao hb4];rfl
  have S4:=qD s4;have U4:=qD u4;have V4:=qD v4;clear s4 u4 v4 i4 H4 hb4;go_wp2_with (at_delete;refine afd rfl _ _ 129 3 rfl 3 50 dh dy me _ HI4.o rfl n rfl ?_;intro w5 him5 hc5 hz5;rw[sQ] at him5;have H5:=qD (eW.ents (s:={s with livs:=dG s.livs n {x with left:=true}}) ((rA s.livs n _).symm ▸ H0.o) S4.o him5 hc5);clear him5 hc5 hz5);go_ret;rw[HF.o];obtain⟨F5,h1,h2,h3⟩:=H5.o;refine⟨rfl,F5,h1,fun y hy=>?_,((bN.bH B3.o).trans V4.o (fun _ h=> .inl h)).trans h3 (fun y h=>(U4.o y h).imp id (fun h=>nT B3.o.size h))⟩;rcases h2 y hy with h|h
  ·exact(U4.o y h).imp id (fun h=>nT B3.o.size h)
  ·exact .inr (nT B3.o.size (nT V4.o.size h))
def ue(a b:ae):Bool:=(VV ((a,b,()):ae×ae×Unit)).1
theorem CT(a b:ae)(w:World):Calls prog 247 #[.int .i64 a.val,.int .i64 b.val] w fun r w'=>r= .returned (.bool (ue a b))/\Below w.heap.size w w':=by have key:=Tg.2 ((a,b,()):ae×ae×Unit) id w;unfold ue;generalize VV=G at key ⊢;exact key
theorem wQ:PS 286 3:=iM underlying286 rfl (by kernel_rfl)
structure lT (s:bh) (g:Nat) (F:Nat->Prop) (w:World) (me ml:Nat) (ws:List Nat):Prop where
 h0:ws.length=s.livs.length
 hs:Sep w (nY s me ml ws g) F
theorem lT.row{s:bh}{g:Nat}{F:Nat->Prop}{w:World}{me ml:Nat}{ws:List Nat}(h:lT s g F w me ml ws):w.aI g=some #[.int .i64 s.gY.val,.map (some me),.map (some ml)]:=h.hs.row (i:=0) rfl
theorem lT.c0{s:bh}{g:Nat}{F:Nat->Prop}{w:World}{me ml:Nat}{ws:List Nat}(h:lT s g F w me ml ws):w.cell? ⟨g,0,none⟩=some (.int .i64 s.gY.val):=by rw[ao h.row];rfl
theorem lT.c1{s:bh}{g:Nat}{F:Nat->Prop}{w:World}{me ml:Nat}{ws:List Nat}(h:lT s g F w me ml ws):w.cell? ⟨g,1,none⟩=some (.map (some me)):=by rw[ao h.row];rfl
theorem lT.c2{s:bh}{g:Nat}{F:Nat->Prop}{w:World}{me ml:Nat}{ws:List Nat}(h:lT s g F w me ml ws):w.cell? ⟨g,2,none⟩=some (.map (some ml)):=by rw[ao h.row];rfl
theorem lT.lt{s:bh}{g:Nat}{F:Nat->Prop}{w:World}{me ml:Nat}{ws:List Nat}(h:lT s g F w me ml ws):g<w.heap.size:=ab h.row
theorem lT.i1{s:bh}{g:Nat}{F:Nat->Prop}{w:World}{me ml:Nat}{ws:List Nat}(h:lT s g F w me ml ws):dr w me (dM s.ents):=by obtain⟨F1,h1,_⟩:=h.hs.get (i:=1) rfl;exact h1.2
theorem lT.i2{s:bh}{g:Nat}{F:Nat->Prop}{w:World}{me ml:Nat}{ws:List Nat}(h:lT s g F w me ml ws):dr w ml (cW s.livs ws):=by obtain⟨F1,h1,_⟩:=h.hs.get (i:=2) rfl;exact h1.2
theorem lT.more{s:bh}{g:Nat}{F:Nat->Prop}{w w':World}{me ml:Nat}{ws:List Nat}(h:lT s g F w me ml ws)(hb:Below w.heap.size w w'):lT s g F w' me ml ws:=⟨h.h0,h.hs.more hb⟩
theorem lT.nodup{s:bh}{g:Nat}{F:Nat->Prop}{w:World}{me ml:Nat}{ws:List Nat}(h:lT s g F w me ml ws): (s.livs.map (·.1)).Nodup:=by
 have:=h.i2.nodup
 rwa [mP h.h0] at this
theorem lT.ents{s:bh}{g:Nat}{F:Nat->Prop}{w w':World}{me ml:Nat}{ws:List Nat}(h:lT s g F w me ml ws){l:List (Int×bE)}(him:dr w' me (dM l))(hc:bN (fun y=>y=me) w w'):
  ∃F',lT {s with ents:=l} g F' w' me ml ws/\(∀x,F' x->F x∨w.heap.size<=x)/\bN F w w':=by
 obtain⟨F',h1,h2,h3⟩:=h.hs.qS (i:=1) (p':=(me,.ql (dM l))) rfl (fun F1 h1 _=>⟨F1,⟨h1.1,him⟩,fun x hx=> .inl hx,hc.mono fun g hg=> .inl ((h1.1 g).2 hg)⟩);exact⟨F',⟨h.h0,h1⟩,h2,h3⟩
def QT(s:bh)(n:Int)(boot:ae):Prop:=∃x,bJ s.livs n=some x/\(x.boot.val=boot.val/\x.left=true∨x.boot.val≠boot.val/\ue x.boot boot=false)
theorem JC(s:bh)(g:Nat)(F:Nat->Prop)(w:World)(n boot:ae)(me ml:Nat)(ws:List Nat)(h:lT s g F w me ml ws)(ho:QT s n.val boot):Calls prog 199 #[.pointer (some ⟨g,0,none⟩),.int .i64 n.val,.int .i64 boot.val] w fun r w'=>
  r= .returned (.tuple #[.agg cM,.int .i64 9])/\Below w.heap.size w w':=by
 obtain⟨x,hx,hcase⟩:=ho;have hgi:=mO s.livs ws n.val;have hlw:=js (k:=n.val) h.h0;rw[hx] at hlw;obtain⟨a,hk⟩:∃a,lookW s.livs ws n.val=some (x,a):=by
  cases hq:lookW s.livs ws n.val with
  |none=>rw[hq] at hlw;cases hlw
  |some y=>obtain⟨y,a⟩:=y;rw[hq] at hlw;cases hlw;exact⟨a,rfl⟩
 rw[hk] at hgi;have hc2:=h.c2;have hgl:=h.lt;have hz:=oM;have hW:Hid (Below w.heap.size w (w.alloc (.cells cM 286))/\dr (w.alloc (.cells cM 286)) ml (cW s.livs ws)):=⟨(bZ _ w).alloc (nL _) _,h.i2.congr (((bZ _ w).alloc (nL _) _).block ml h.i2.lt)⟩;clear h hx hlw hk;obtain⟨w1,hw1⟩:∃w1,w1=(((w.alloc (.cells cM 286)).alloc (.cells cM 286)).setCells (w.heap.size+1) 0 (aeW x a).toList):=⟨_,rfl⟩;have B1:Hid (Below w.heap.size w w1):=by rw[hw1];exact aa (hW.o.1.alloc (by simp) _) (by omega) _ _
 have k1:w1.aI (w.heap.size+1)=some (aeW x a):=by rw[hw1];exact putRow (cs0:=cM) (by simp[af,aq]) (by simp[cF,dz])
 have k2:w1.aI w.heap.size=some cM:=by rw[hw1,ay _ _ _ _ _ (by omega)];simp[af,aq]
 have d0:w1.cell? ⟨w.heap.size+1,0,none⟩=some (.int .i64 x.boot.val):=by rw[ao k1];rfl
 have d1:w1.cell? ⟨w.heap.size+1,1,none⟩=some (.bool x.left):=by rw[ao k1];rfl
 have HW1:=qD hw1;clear hw1;have bld:∀w,(Instr.build 286 #[]).run prog w= .ok (.agg cM) w:=fun w=>by kernel_rfl
 rcases hcase with⟨g1,g2⟩|⟨g1,g2⟩
 ·have g3: (x.boot.val==boot.val)=true:=by simpa using g1
  rw[g2] at d1;go_enter func199,ntmps199;go_upto_region 2 with(at_lookup;refine bL rfl _ _ 130 rfl 3 286 jb dy _ (nG _) ml _ hW.o.2 rfl n.val rfl ?_;rw[hgi]);rw[<-HW1.o];go_wp2_with fail;exact bodyPost_ret (aA (fn:=Tryz.f199) rfl rfl (wQ (putRow k2 rfl) (dz))) rfl ⟨rfl,aa B1.o (nL _) _ _⟩
 ·have g3: (x.boot.val==boot.val)=false:=by simpa using g1
  have HL:=qD (CT x.boot boot);have HL2:=qD g2;have l1:w.heap.size+1<w1.heap.size:=ab k1;clear g2;go_enter func199,ntmps199;go_upto_region 2 with(at_lookup;refine bL rfl _ _ 130 rfl 3 286 jb dy _ (nG _) ml _ hW.o.2 rfl n.val rfl ?_;rw[hgi]);rw[<-HW1.o];go_wp2_with (go_at_call 247;refine(HL.o _).mono ?_;rintro r w2 ⟨rfl,hb2⟩;rw[HL2.o];have B2:=qD (B1.o.trans (hb2.mono B1.o.size));have k22:=(ah hb2 (by omega)).trans k2;clear hb2);exact bodyPost_ret (aA (fn:=Tryz.f199) rfl rfl (wQ (putRow k22 rfl) (dz))) rfl ⟨rfl,aa B2.o (nL _) _ _⟩
theorem FU(s:bh)(g:Nat)(F:Nat->Prop)(w:World)(n boot:ae)(me ml:Nat)(ws:List Nat)(h:lT s g F w me ml ws)(x:de)(a:Nat)(hk:lookW s.livs ws n.val=some (x,a))(g1:x.boot.val=boot.val)(g2:x.left=false):
  Calls prog 199 #[.pointer (some ⟨g,0,none⟩),.int .i64 n.val,.int .i64 boot.val] w fun r w'=>r= .returned (.tuple #[.agg (aeW x a),.int .i64 0])/\Below w.heap.size w w':=by
 have hgi:=mO s.livs ws n.val;rw[hk] at hgi;have hc2:=h.c2;have hgl:=h.lt;have hz:=oM;have hW:Hid (Below w.heap.size w (w.alloc (.cells cM 286))/\dr (w.alloc (.cells cM 286)) ml (cW s.livs ws)):=⟨(bZ _ w).alloc (nL _) _,h.i2.congr (((bZ _ w).alloc (nL _) _).block ml h.i2.lt)⟩;clear h hk;obtain⟨w1,hw1⟩:∃w1,w1=(((w.alloc (.cells cM 286)).alloc (.cells cM 286)).setCells (w.heap.size+1) 0 (aeW x a).toList):=⟨_,rfl⟩;have B1:Hid (Below w.heap.size w w1):=by rw[hw1];exact aa (hW.o.1.alloc (by simp) _) (by omega) _ _
 have k1:w1.aI (w.heap.size+1)=some (aeW x a):=by rw[hw1];exact putRow (cs0:=cM) (by simp[af,aq]) (by simp[cF,dz])
 have k2:w1.aI w.heap.size=some cM:=by rw[hw1,ay _ _ _ _ _ (by omega)];simp[af,aq]
 have d0:w1.cell? ⟨w.heap.size+1,0,none⟩=some (.int .i64 x.boot.val):=by rw[ao k1];rfl
 have d1:w1.cell? ⟨w.heap.size+1,1,none⟩=some (.bool false):=by rw[ao k1,<-g2];rfl
 have HW1:=qD hw1;clear hw1 g2;have g3: (x.boot.val==boot.val)=true:=by simpa using g1
 go_enter func199,ntmps199;go_upto_region 2 with(at_lookup;refine bL rfl _ _ 130 rfl 3 286 jb dy _ (nG _) ml _ hW.o.2 rfl n.val rfl ?_;rw[hgi]);rw[<-HW1.o];go_wp2_with fail;exact bodyPost_ret (aA (fn:=Tryz.f199) rfl rfl (wQ (putRow k2 (by simp[cF,dz])) (cF _ _))) rfl ⟨rfl,aa B1.o (nL _) _ _⟩
end
end Go.Proofs.Yq
namespace Go.Ev
open RowKit Go.Sort
def aW{α:Type}(c:α->Array Value)(l:List α):List Value:=(l.map fun x=>(c x).toList).flatten
theorem wR{α:Type}(c:α->Array Value)(l:List α)(x:α):aW c (l++ [x])=aW c l++(c x).toList:=by simp[aW]
theorem cJ{α:Type}{c:α->Array Value}{m:Nat}(hc:∀x,(c x).size=m):∀l:List α,(aW c l).length=l.length*m
 | []=>by simp[aW]
 |x::l=>by have:=cJ hc l;unfold aW at this ⊢;simp only[List.map_cons,List.flatten_cons,List.length_append,this,Array.length_toList,hc,List.length_cons,Nat.add_mul,Nat.one_mul];omega
theorem eZ{α:Type}{c:α->Array Value}{m:Nat}(hc:∀x,(c x).size=m):∀(l:List α) (i j:Nat) (x:α),l[i]? =some x->j<m->(aW c l)[i*m+j]? =(c x)[j]?
 | [],i,j,x,h,_=>by simp at h
 |y::l,0,j,x,h,hj=>by simp at h;subst h;unfold aW;simp only[List.map_cons,List.flatten_cons,Nat.zero_mul,Nat.zero_add];rw[List.getElem?_append_left (by simp[hc,hj]),Array.getElem?_toList]
 |y::l,i+1,j,x,h,hj=>by have:=eZ hc l i j x (by simpa using h) hj;unfold aW at this ⊢;simp only[List.map_cons,List.flatten_cons];rw[List.getElem?_append_right (by simp[hc,Nat.add_mul];omega),<-this];congr 1;simp[hc,Nat.add_mul];omega
def Own{α:Type}(w:World)(base:Nat)(e:TypeId)(m:Nat)(c:α->Array Value)(v:Value)(l:List α):Prop:=w.ownsRow base e m v l.length (aW c l)
theorem Own.nil{α:Type}(w:World)(base:Nat)(e:TypeId)(m:Nat)(c:α->Array Value):Own w base e m c (.slice none 0 0) []:=World.ownsRow_nil w base e m
theorem Own.grown{α:Type}{w w':World}{base:Nat}{e:TypeId}{m:Nat}{c:α->Array Value}{v:Value}{l:List α}(h:Own w base e m c v l)(hb:Below w.heap.size w w'):Own w' base e m c v l:=by
 refine⟨h.1,?_⟩;rcases h.2 with h2|⟨g,cap,cur,h1,h2,h3,h4⟩
 ·exact .inl h2
 ·exact .inr ⟨g,cap,cur,h1,h2,(hb.block g (Array.getElem?_eq_some_iff.1 h3).1).trans h3,h4⟩
theorem Own.mh{α:Type}{S:Nat->Prop}{w w':World}{base:Nat}{e:TypeId}{m:Nat}{c:α->Array Value}{v:Value}{l:List α}(h:Own w base e m c v l)(hb:bN S w w')(hS:∀x,S x->x<base):Own w' base e m c v l:=by
 refine⟨h.1,?_⟩;rcases h.2 with h2|⟨g,cap,cur,h1,h2,h3,h4⟩
 ·exact .inl h2
 ·exact .inr ⟨g,cap,cur,h1,h2,(hb.dK g (Array.getElem?_eq_some_iff.1 h3).1 (fun hs=>by have:=hS g hs;omega)).trans h3,h4⟩
theorem Own.mono{α:Type}{w:World}{b b':Nat}{e:TypeId}{m:Nat}{c:α->Array Value}{v:Value}{l:List α}(h:Own w b e m c v l)(hb:b'<=b):Own w b' e m c v l:=by
 refine⟨h.1,?_⟩;rcases h.2 with h2|⟨g,cap,cur,h1,h2,h3,h4⟩
 ·exact .inl h2
 ·exact .inr ⟨g,cap,cur,h1,nT hb h2,h3,h4⟩
theorem Own.at_{α:Type}{w:World}{base:Nat}{e:TypeId}{m:Nat}{c:α->Array Value}{v:Value}{l:List α}(h:Own w base e m c v l)(hl:0<l.length):∃g cap cur,v= .slice (some ⟨g,0,none⟩) l.length cap/\base<=g/\w.heap[g]? =some (.cells cur e (0,0))/\l.length<=cap/\cap<=maxLen/\cur.size=cap*m/\cur.toList.take (l.length*m)=aW c l:=by
 rcases h.2 with⟨_,h2⟩|h2
 ·omega
 ·exact h2
theorem Own.len{α:Type}{w:World}{base:Nat}{e:TypeId}{m:Nat}{c:α->Array Value}{v:Value}{l:List α}(h:Own w base e m c v l):∃a cap,v= .slice a l.length cap:=by
 rcases h.2 with⟨h1,h2⟩|⟨g,cap,cur,h1,_⟩
 ·exact⟨none,0,by rw[h2];exact h1⟩
 ·exact⟨_,_,h1⟩
theorem Own.cell{α:Type}{w:World}{base:Nat}{e:TypeId}{m:Nat}{c:α->Array Value}{g k cap:Nat}{l:List α}(h:Own w base e m c (.slice (some ⟨g,0,none⟩) k cap) l)(hc:∀x,(c x).size=m){i j:Nat}{x:α}(hi:l[i]? =some x)(hj:j<m):w.cell? ⟨g,i*m+j,none⟩=(c x)[j]?:=by
 have h1:=eZ hc l i j x hi hj;rw[<-h1];have hlt:i*m+j<(aW c l).length:=by
  rw[cJ hc];have:=(gS.1 hi).1
  calc i*m+j<i*m+m:=by omega
   _=(i+1)*m:=by rw[Nat.add_mul,Nat.one_mul]
   _<=l.length*m:=nR _ this
 have:=h.cells (g:=g) rfl (i*m+j) _ (gE hlt);rw[Addr.add_lit,Nat.zero_add] at this;rw[this,gE hlt]
theorem Own.aI{α:Type}{w:World}{base:Nat}{e:TypeId}{m:Nat}{c:α->Array Value}{v:Value}{l:List α}(h:Own w base e m c v l)(hc:∀x,(c x).size=m)(hl:0<l.length):∃g cap cur,v= .slice (some ⟨g,0,none⟩) l.length cap/\base<=g/\g<w.heap.size/\w.aI g=some cur/\∀i x,l[i]? =some x->i*m+m<=cur.size/\cur.extract (i*m) (i*m+m)=c x:=by
 obtain⟨g,cap,cur,rfl,h2,h3,h4,h5,h6,h7⟩:=h.at_ hl;refine⟨g,cap,cur,rfl,h2,(Array.getElem?_eq_some_iff.1 h3).1,iL.2 ⟨e,h3⟩,fun i x hi=>?_⟩;have hlt:=(gS.1 hi).1;have hle:i*m+m<=l.length*m:=by
  calc i*m+m=(i+1)*m:=by rw[Nat.add_mul,Nat.one_mul]
   _<=l.length*m:=nR _ hlt
 have hsz:l.length*m<=cur.size:=by rw[h6];exact nR _ h4
 refine⟨by omega,?_⟩;apply Array.ext_getElem?;intro j;by_cases hj:j<m
 ·rw[<-eZ hc l i j x hi hj,<-h7,List.getElem?_take,if_pos (by omega),Array.getElem?_toList,Array.getElem?_extract,if_pos (by omega)]
 ·rw[Array.getElem?_eq_none (by simp;omega),Array.getElem?_eq_none (by rw[hc];omega)]
theorem Sep.QU{w w':World}:∀{L:List (Nat×aj)} {F:Nat->Prop} {i:Nat} {p p':Nat×aj},Sep w L F->L[i]? =some p->
  (∀F1,p.2.rep p.1 F1 w->p'.2.rep p'.1 F1 w'/\bN F1 w w')->Sep w' (L.set i p') F/\bN F w w'
 | [],F,i,p,p',h,hi,_=>by simp at hi
 |q::L,F,0,p,p',⟨F1,F2,h1,h2,h3,h4⟩,hi,hu=>by simp at hi;subst hi;obtain⟨u1,u3⟩:=hu F1 h1;exact⟨⟨F1,F2,u1,h2.loc fun x hx=>u3.dK x (h2.lt x hx) (fun h=>h3 x h hx),h3,h4⟩,u3.mono fun g hg=> .inl ((h4 g).2 (.inl hg))⟩
 |q::L,F,i+1,p,p',⟨F1,F2,h1,h2,h3,h4⟩,hi,hu=>by obtain⟨v1,v3⟩:=Sep.QU h2 (by simpa using hi) hu;exact⟨⟨F1,F2,q.2.loc _ _ _ _ h1 fun x hx=>v3.dK x (q.2.lt _ _ _ h1 x hx) (fun h=>h3 x hx h),v1,h3,h4⟩,v3.mono fun g hg=> .inl ((h4 g).2 (.inr hg))⟩
theorem Below.grownBy{n:Nat}{w0 w w':World}{v:Value}(h:Below n w0 w)(hn:n<=w0.heap.size)(hg:w.grownBy w' v.ownBlock)(hv:∀k,v.ownBlock=some k->n<=k):Below n w0 w':=
 ⟨hg.os.trans h.os,hg.tape.trans h.tape,hg.output.trans h.output,nT h.size hg.size,fun g hgn=>by have hle:=h.size;exact(hg.block g (by omega) (fun e=>by have:=hv g e.symm;omega)).trans (h.block g hgn)⟩
theorem Own.dK{α:Type}{S:Nat->Prop}{w w':World}{base:Nat}{e:TypeId}{m:Nat}{c:α->Array Value}{v:Value}{l:List α}(h:Own w base e m c v l)(hb:bN S w w')(hS:∀k,v.ownBlock=some k->¬S k):Own w' base e m c v l:=by
 refine⟨h.1,?_⟩;rcases h.2 with h2|⟨g,cap,cur,h1,h2,h3,h4⟩
 ·exact .inl h2
 ·exact .inr ⟨g,cap,cur,h1,h2,(hb.dK g (Array.getElem?_eq_some_iff.1 h3).1 (hS g (by rw[h1];rfl))).trans h3,h4⟩
theorem zl{w w':World}{v:Value}(h:w.grownBy w' v.ownBlock):bN (fun k=>v.ownBlock=some k) w w':=
 ⟨h.os,h.tape,h.output,h.size,fun g hg hn=>h.block g hg (fun e=>hn e.symm)⟩
theorem Own.ge{α:Type}{w:World}{base:Nat}{e:TypeId}{m:Nat}{c:α->Array Value}{v:Value}{l:List α}(h:Own w base e m c v l):∀k,v.ownBlock=some k->base<=k:=fun k hk=>(World.ownsRow.lt h k hk).1
theorem Own.lt{α:Type}{w:World}{base:Nat}{e:TypeId}{m:Nat}{c:α->Array Value}{v:Value}{l:List α}(h:Own w base e m c v l):∀k,v.ownBlock=some k->k<w.heap.size:=fun k hk=>(World.ownsRow.lt h k hk).2
section
variable {P:Program} {w:World} {ops:Array Oper} {rest:List Oper} {o:Oper} {a:Act} {Q:Exit->Act->World->Prop}
theorem dN(hgd:o.guard=none)(x:Operand)(t e:TypeId)(hop:o.op=Op.buildSlice t 1 #[(0,x)])(ht:P.underlying t=some (.slice e)){z:Value}{m bytes:Nat}(hi: (P.info? e).map (fun i=>(i.zero,i.size,i.bytes))=some (some z,m,bytes))(hzs:z.cells.size=m)(h0:0<m)(hm:m<=16777216)
  (v:Value) (hx:a.eval x=v) (cs:Array Value) (hv:v.cells=cs) (hcs:cs.size=m) (hK:wpList P ops Q rest (a.put o.dst (.slice (some ⟨w.heap.size,0,none⟩) 1 1)) (w.alloc (.cells cs e))):wpList P ops Q (o::rest) a w:=by
 obtain⟨i,h1,h2,h3,h4⟩:=info_parts hi;refine wpList_plain hgd fun K' hK'=>?_;have hf:Instr.fill (fun i=>some (i*m,m)) ((Array.range (1*m)).map (fun j=>z.cells[j%z.cells.size]!)) [(0,v)]=some cs:=by simp only[Instr.fill];rw[if_neg (by simp[hv,hcs]),hv];have:=nj cs.toList (0*m) 0 ((Array.range (1*m)).map (fun j=>z.cells[j%z.cells.size]!)) (by simp[hcs]);rw[<-Array.foldl_toList,Array.toList_zipIdx,this,Nat.zero_mul,fT (by simp[hcs])]
 have hrun: (Instr.buildSlice t 1 #[(0,v)]).run P w= .ok (.slice (some ⟨w.heap.size,0,none⟩) 1 1) (w.alloc (.cells cs e)):=by simp only[Instr.buildSlice,Sem.run_bind,run_underlying ht,Result.andThen_ok,sizeOf,zeroValue,typeInfo,h1,h2,h3,Sem.run_pure,run_program];rw[if_neg (by omega),if_neg (by omega)];simp only[Sem.run_pure,Result.andThen_ok,Sem.run_bind,typeInfo,h1,h2,h3,run_program,hf,newRow,run_newObj];rfl
 unfold Oper.wp;simp only[execOp,hop,hrun,hx,Sem.run_bind,Result.andThen_ok,Sem.run_pure,List.map_toArray,List.map_cons,List.map_nil];exact hK' _ _ hK
theorem lU{α:Type}{c:α->Array Value}(hgd:o.guard=none)(s x:Operand)(t e:TypeId)(ho:o.op= .call {callee:= .builtin .append,args:=#[s,x],argTypes:=#[t,t]})(ht:P.underlying t=some (.slice e)){z:Value}{m bytes:Nat}(hi: (P.info? e).map (fun i=>(i.zero,i.size,i.bytes))=some (some z,m,bytes))(hzs:z.cells.size=m)(h0:0<m)
  {base:Nat} {v:Value} {l:List α} (hs:a.eval s=v) (hown:Own w base e m c v l) (hb:base<=w.heap.size) (g k:Nat) (hx:a.eval x= .slice (some ⟨g,0,none⟩) 1 k) (y:α) (hy:w.aI g=some (c y)) (hc:∀x,(c x).size=m) (h1:∀u∈(c y).toList,u.oneCell'=true) (hl:l.length<=1000000) (hby:bytes<=100000000)
  (hK:∀v' w',Own w' base e m c v' (l++ [y])->w.grownBy w' v.ownBlock->v'≠ .slice none 0 0->wpList P ops Q rest (a.put o.dst v') w'):wpList P ops Q (o::rest) a w:=by
 obtain⟨i,i1,i2,i3,i4⟩:=info_parts hi;have hcell:∀j u,(c y).toList[j]? =some u->w.cell? ((⟨g,0,none⟩:Addr).add j)=some u:=fun j u hu=>by rw[Addr.add_lit,Nat.zero_add,ao hy];rw[Array.getElem?_toList] at hu;simpa using hu
 refine wpList_append_own w hgd s x t ho base e i z m bytes ht i1 i2 i3 i4 hzs h0 v l.length (aW c l) hs hown ⟨g,0,none⟩ 1 k (c y).toList hx (by simp[hc]) hcell h1 (by simp only[maxLen];omega) ?_ hb ?_
 ·calc (l.length+1)*bytes<=1000001*100000000:=Nat.mul_le_mul (by omega) hby
   _<=140737488355328:=by decide
 ·intro v' w' r1 r2 r3;refine hK v' w' ?_ r2 (fun hn=>by have:=(r3.1 hn).2;omega);unfold Own;rw[wR];simpa using r1
end
end Go.Ev
namespace Go.Proofs.Yq
open ChangeShapes WideShapes ChangeAt RowKit Ev
open Tryz
open YtpbehfbomkochaaGreatDoor
def uA(s:bh):Prop:=∀p∈s.ents,0<=p.1/\p.1<64
theorem zm:∀(n:Nat) (l:List Nat),l.Nodup->(∀x∈l,x<n)->l.length<=n
 |0,[],_,_=>nL _
 |0,x::l,_,h=>absurd (h x List.mem_cons_self) (by omega)
 |n+1,l,hn,h=>by
  have h1:=zm n (l.erase n) (hn.erase n) (fun x hx=>by have h2:=(hn.mem_erase_iff).1 hx;have:=h x h2.2;have:=h2.1;omega);have:l.length<=(l.erase n).length+1:=by rw[List.length_erase];split <;> omega
  omega
theorem count_le{l:List Int}(n:Nat)(hn:l.Nodup)(h:∀x∈l,0<=x/\x<(n:Int)):l.length<=n:=by
 have h1: (l.map Int.toNat).Nodup:=by refine List.pairwise_map.2 (hn.imp_of_mem ?_);intro a b ha hb hne he;have:=h a ha;have:=h b hb;omega
 have:=zm n _ h1 (fun x hx=>by obtain⟨y,hy,rfl⟩:=List.mem_map.1 hx;have:=h y hy;omega);simpa using this
def wS(s:bh):List Int:=(s.ents.map (·.1)).mergeSort (fun x y=>decide (x<=y))
def dm(s:bh):List bE:=(wS s).map fun k=>(bJ s.ents k).getD cr
theorem JD{a b:List Int}(h:a.Perm b):a.mergeSort (fun x y=>decide (x<=y))=b.mergeSort (fun x y=>decide (x<=y)):=by
 have tr:∀a b c:Int,decide (a<=b)=true->decide (b<=c)=true->decide (a<=c)=true:=fun a b c h1 h2=>by simp at*;omega
 have to:∀a b:Int,(decide (a<=b)||decide (b<=a))=true:=fun a b=>by simp;omega
 refine List.Perm.eq_of_pairwise (le:=fun x y=>decide (x<=y)=true) (fun x y _ _ h1 h2=>by simp at h1 h2;omega) (List.pairwise_mergeSort tr to a) (List.pairwise_mergeSort tr to b) ?_;exact((List.mergeSort_perm a _).trans h).trans (List.mergeSort_perm b _).symm
theorem Bb{P:Program}{w:World}{ops:Array Oper}{rest:List Oper}{o:Oper}{a:Act}{Q:Exit->Act->World->Prop}(hg:o.guard=none)(m x:Operand)(t:TypeId)(hop:o.op=Op.lookup t m x false)
  (kt et:TypeId) (ht:P.underlying t=some (.map kt et)) (hk:P.underlying kt=some (.int .i64)) (z:Value) (hz: (zeroValue et).run P w= .ok z w) (b:Nat) (l:List (Int×Value)) (him:dr w b l)
  (hm:a.eval m= .map (some b)) (k:Int) (hx:a.eval x= .int .i64 k) (hK:wpList P ops Q rest (a.put o.dst ((nW l k).getD z)) w):wpList P ops Q (o::rest) a w:=by
 refine wpList_plain hg fun K' hK'=>?_;have hrun:=him.look ht hk hz k false;rw[if_neg (by decide)] at hrun;unfold Oper.wp;simp only[execOp,hop,hm,hx,hrun,Sem.run_bind,Result.andThen_ok,Sem.run_pure];exact hK' _ _ hK
theorem MR: (prog.info? 50).map (fun i=>(i.zero,i.size,i.bytes))=some (some (.agg (aJ cr)),10,80):=by kernel_rfl
theorem Hv:prog.underlying 43=some (.slice 50):=by kernel_rfl
theorem JE(l:List (Int×bE))(k:Int): (nW (dM l) k).getD (.agg (aJ cr))= .agg (aJ ((bJ l k).getD cr)):=by rw[kQ];cases bJ l k <;> rfl
theorem JF(x:bE):∀u∈(aJ x).toList,u.oneCell'=true:=by intro u hu;simp only[aJ,List.mem_cons,List.not_mem_nil,or_false] at hu;rcases hu with h|h|h|h|h|h|h|h|h|h <;> subst h <;> rfl
theorem rB(s:bh)(g:Nat)(F:Nat->Prop)(w:World)(hB:uA s)(h: (eW s).rep g F w):Calls prog 29 #[.pointer (some ⟨g,0,none⟩)] w fun r w'=>
  ∃v,r= .returned v/\Own w' w.heap.size 50 10 aJ v (dm s)/\(v= .slice none 0 0↔dm s= [])/\Below w.heap.size w w':=by
 obtain⟨me,ml,ws,h0,hs⟩:=h;have hb:=hs.row (i:=0) rfl;obtain⟨F1,h1,_⟩:=hs.get (i:=1) rfl;have him:dr w me (dM s.ents):=h1.2;have hc:w.cell? ⟨g,1,none⟩=some (.map (some me)):=by rw[ao hb];rfl
 have hgl:g<w.heap.size:=ab hb;have hk: (dM s.ents).map (·.1)=s.ents.map (·.1):=by unfold dM;rw[List.map_map];rfl
 have hlen: (dM s.ents).length<=64:=by have h1:=count_le 64 him.nodup (by intro x hx;rw[hk] at hx;obtain⟨p,hp,rfl⟩:=List.mem_map.1 hx;exact hB p hp);simpa using h1
 have HS:=qD (LJ him (fun p hp=>by obtain⟨q,hq,rfl⟩:=List.mem_map.1 hp;have:=hB q hq;show _<=q.1/\q.1<=_;omega) (by omega));have HLEN:=qD hlen;have HK:=qD hk;have HM:=qD him;clear him h1 hs hb hlen hk;go_enter func29,ntmps29;go_wp2_with (first
  |(go_at_call 61;refine(Ua (some me) _).mono ?_;rintro r w1 ⟨rfl,rfl⟩)
  |(go_at_call 60;refine HS.o.mono ?_;rintro r w1 ⟨v,ss,rfl,hp,hrow,hnil,hb1⟩;have HP:=qD hp;have HR:=qD hrow;have B1:=qD hb1;clear hp hrow hnil hb1;obtain⟨ka,kc,hv⟩:∃a cap,v= .slice a ss.length cap:=(by rcases HR.o.2 with⟨h1,h2⟩|⟨_,_,_,h1,_⟩;exact⟨none,0,by rw[h2];exact h1⟩;exact⟨_,_,h1⟩);subst hv))
 have HKS:Hid (ss.mergeSort (fun x y=>decide (x<=y))=wS s):=JD (HP.o.trans (by rw[HK.o]));rw[HKS.o] at HR;obtain⟨ks,hks⟩:∃ks,ks=wS s:=⟨_,rfl⟩;have HAL:Hid (dm s=ks.map fun k=>(bJ s.ents k).getD cr):=by rw[hks];exact rfl
 have hkl:ks.length=ss.length:=by rw[hks,<-HKS.o,List.length_mergeSort]
 have hN:ss.length<=64:=by have h1:=HP.o.length_eq;rw[List.length_map] at h1;have:=HLEN.o;omega
 rw[<-hks] at HR;have HRK:Hid (∀i k,ks[i]? =some k->∃g,ka=some ⟨g,0,none⟩/\g<w1.heap.size/\w1.cell? ⟨g,i,none⟩=some (.int .i64 k)):=by
  intro i k hi;have hlt:=(gS.1 hi).1;rcases HR.o.2 with⟨h1,h2⟩|⟨gk,cap,cur,h1,h2,h3,h4,h5,h6,h7⟩
  ·omega
  ·cases h1;refine⟨gk,rfl,(Array.getElem?_eq_some_iff.1 h3).1,?_⟩;have:=HR.o.cells (g:=gk) rfl i (.int .i64 k) (by rw[List.getElem?_map,hi];rfl);rw[Addr.add_lit,Nat.zero_add] at this;exact this
 have B01:Hid (Below w.heap.size w w1):=((bZ _ w).alloc (nL _) _).trans (B1.o.mono (by simp));have l1:w.heap.size<w1.heap.size:=by have:=B1.o.size;simp at this;omega
 clear HKS hks HP HR B1 HLEN HK HS
 go_loopw [3,5,15] (fun v x5 i wr=>∃k:Nat,k<=ks.length/\i= .int .i64 k/\Own wr w1.heap.size 50 10 aJ v ((ks.take k).map fun k=>(bJ s.ents k).getD cr)/\(v= .slice none 0 0↔k=0)/\Below w1.heap.size w1 wr) (fun _ _ i _=>ks.length-(intOf i).toNat)
 case atStart=>exact⟨0,by omega,rfl,Own.nil _ _ _ _ _,by simp,bZ _ _⟩
 case round=>
  obtain⟨k,hk,rfl,hown,hnil,hbr⟩:=hrel;have HO:=qD hown;have HN:=qD hnil;have BR:=qD hbr;have B0R:=qD (B01.o.trans (hbr.mono B01.o.size));clear hown hnil hbr;have hcr:wr.cell? ⟨g,1,none⟩=some (.map (some me)):=(B0R.o.cell (p:=⟨g,1,none⟩) hgl).trans hc;by_cases hlt:k<ks.length
  ·obtain⟨kk,hkk⟩:∃kk,ks[k]? =some kk:=⟨_,gE hlt⟩;obtain⟨gk,rfl,hgk,hck⟩:=HRK.o k kk hkk;have hck2:=(BR.o.cell (p:=⟨gk,k,none⟩) hgk).trans hck;have HKK:=qD hkk;clear hck hkk;go_upto_region 7 with(fail);go_wp2_with (first
    |(at_lookup;refine Bb rfl _ _ 129 rfl 3 50 dh dy _ (nD _) me _ (HM.o.congr (B0R.o.block me HM.o.lt)) rfl kk rfl ?_;rw[JE])
    |(refine dN rfl _ 43 50 rfl Hv MR rfl (by decide) (by decide) _ rfl (aJ ((bJ s.ents kk).getD cr)) rfl (bo _) ?_)
    |(at_builtin;refine lU rfl _ _ 43 50 rfl Hv MR rfl (by decide) rfl (HO.o.grown ((bZ _ _).alloc (nL _) _)) (by have:=BR.o.size;simp;omega) wr.heap.size 1 rfl ((bJ s.ents kk).getD cr) (by simp[af,aq]) bo (JF _) (by simp;omega) (by decide) ?_;intro v' w2 ho2 hg2 hn2))
   go_roundw
   case rel=>
    refine⟨k+1,by omega,by go_num,?_,by simp[hn2],Below.grownBy (BR.o.alloc BR.o.size _) (nL _) hg2 HO.o.ge⟩;rw[List.take_succ_eq_append_getElem hlt,List.map_append];have:ks[k]=kk:=by have:=HKK.o;rw[gE hlt] at this;exact Option.some.inj this
    rw[this];exact ho2
   case measure=>simp[intOf];omega
  ·have hkn:k=ks.length:=by omega
   have HKN:=qD (show k=ss.length by omega);have HL:Hid (((ks.take k).map fun k=>(bJ s.ents k).getD cr)=dm s):=by rw[hkn,List.take_length,HAL.o];exact rfl
   have HNE:Hid (u3= .slice none 0 0↔dm s= []):=by have h1:=HN.o;show _↔_;rw[h1,hkn,HAL.o,List.map_eq_nil_iff,List.length_eq_zero_iff]
   rw[HL.o] at HO;go_wp2;go_ret;exact⟨_,rfl,HO.o.mono (by omega),HNE.o,B0R.o⟩
end Go.Proofs.Yq
namespace Go.Proofs.Yq
open RowKit Ev
open Tryz
noncomputable section
abbrev rC:=ae×ae×ae×ae×ae×ae×ae×ae×ae×ae×ae×ae×ae×ae×ae×Unit
def aD(s:rC):Array Value:=#[.int .i64 s.1.val,.int .i64 s.2.1.val,.int .i64 s.2.2.1.val,.int .i64 s.2.2.2.1.val,.int .i64 s.2.2.2.2.1.val,.int .i64 s.2.2.2.2.2.1.val,.int .i64 s.2.2.2.2.2.2.1.val,.int .i64 s.2.2.2.2.2.2.2.1.val,.int .i64 s.2.2.2.2.2.2.2.2.1.val,.int .i64 s.2.2.2.2.2.2.2.2.2.1.val,.int .i64 s.2.2.2.2.2.2.2.2.2.2.1.val,.int .i64 s.2.2.2.2.2.2.2.2.2.2.2.1.val,.int .i64 s.2.2.2.2.2.2.2.2.2.2.2.2.1.val,.int .i64 s.2.2.2.2.2.2.2.2.2.2.2.2.2.1.val,.int .i64 s.2.2.2.2.2.2.2.2.2.2.2.2.2.2.1.val]
def MU(s:rC):Value:= .agg (aD s)
@[go_sem] theorem bG (x:rC): (aD x).size=15:=by simp[aD]
@[go_sem] theorem aaa (x:rC):bK (aD x)=true:=by simp[bK,aD,Value.oneCell']
@[go_sem] theorem aab (x:rC): (aD x).extract 0 15=aD x:=by have:=bG x;rw[<-this,Array.extract_size]
abbrev cT:=ae×ae×ae×ae×ae×ae×ae×ae×ae×ae×ae×Unit
def bd(s:cT):Array Value:=#[.int .i64 s.1.val,.int .i64 s.2.1.val,.int .i64 s.2.2.1.val,.int .i64 s.2.2.2.1.val,.int .i64 s.2.2.2.2.1.val,.int .i64 s.2.2.2.2.2.1.val,.int .i64 s.2.2.2.2.2.2.1.val,.int .i64 s.2.2.2.2.2.2.2.1.val,.int .i64 s.2.2.2.2.2.2.2.2.1.val,.int .i64 s.2.2.2.2.2.2.2.2.2.1.val,.int .i64 s.2.2.2.2.2.2.2.2.2.2.1.val]
def j6(s:cT):Value:= .agg (bd s)
@[go_sem] theorem zn (x:cT): (bd x).size=11:=by simp[bd]
@[go_sem] theorem aac (x:cT):bK (bd x)=true:=by simp[bK,bd,Value.oneCell']
@[go_sem] theorem aad (x:cT): (bd x).extract 0 11=bd x:=by have:=zn x;rw[<-this,Array.extract_size]
def sR(x0:fX):Bool:=
 let y:Bool×Unit:=F45 ((x0,()):fX×Unit)
 y.1
theorem MW(x0:fX)(w:World):Calls prog 45 #[FI x0] w fun e w'=>e= .returned (.bool (sR x0))/\Below w.heap.size w w':=by have key:=YO.2 ((x0,()):fX×Unit) id w;unfold sR;generalize F45=G at key ⊢;exact key
def mj(x0:bR)(x1:fX):Bool:=
 let y:Bool×Unit:=Vc ((x0,x1,()):bR×fX×Unit)
 y.1
theorem wT(x0:bR)(x1:fX)(w:World):Calls prog 114 #[xT x0,FI x1] w fun e w'=>e= .returned (.bool (mj x0 x1))/\Below w.heap.size w w':=by have key:=S8.2 ((x0,x1,()):bR×fX×Unit) id w;unfold mj;generalize Vc=G at key ⊢;exact key
def gZ(x0:fX)(x1:ae):bR×ae:=
 let y:bR×ae×Unit:=F40 ((x0,x1,()):fX×ae×Unit)
 (y.1,y.2.1)
theorem FV(x0:fX)(x1:ae)(w:World):Calls prog 40 #[FI x0,.int .i64 x1.val] w fun e w'=>e= .returned (.tuple #[xT (gZ x0 x1).1,.int .i64 (gZ x0 x1).2.val])/\Below w.heap.size w w':=by have key:=YQ.2 ((x0,x1,()):fX×ae×Unit) id w;unfold gZ;generalize F40=G at key ⊢;exact key
def wU(x0:ae)(x1:ae)(x2:ae):ae:=
 let y:ae×Unit:=Vz ((x0,x1,x2,()):ae×ae×ae×Unit)
 y.1
theorem MX(x0:ae)(x1:ae)(x2:ae)(w:World):Calls prog 301 #[.int .i64 x0.val,.int .i64 x1.val,.int .i64 x2.val] w fun e w'=>e= .returned (.int .i64 (wU x0 x1 x2).val)/\Below w.heap.size w w':=by have key:=S9.2 ((x0,x1,x2,()):ae×ae×ae×Unit) id w;unfold wU;generalize Vz=G at key ⊢;exact key
def wV(x0:bR)(x1:ae)(x2:ae)(x3:ae)(x4:ae):bR×ae:=
 let y:bR×ae×Unit:=VB ((x0,x1,x2,x3,x4,()):bR×ae×ae×ae×ae×Unit)
 (y.1,y.2.1)
theorem MY(x0:bR)(x1:ae)(x2:ae)(x3:ae)(x4:ae)(w:World):Calls prog 296 #[xT x0,.int .i64 x1.val,.int .i64 x2.val,.int .i64 x3.val,.int .i64 x4.val] w fun e w'=>e= .returned (.tuple #[xT (wV x0 x1 x2 x3 x4).1,.int .i64 (wV x0 x1 x2 x3 x4).2.val])/\Below w.heap.size w w':=by have key:=Ta.2 ((x0,x1,x2,x3,x4,()):bR×ae×ae×ae×ae×Unit) id w;unfold wV;generalize VB=G at key ⊢;exact key
def fM(x0:bR)(x1:bR):bR×ae:=
 let y:bR×ae×Unit:=Ws ((x0,x1,()):bR×bR×Unit)
 (y.1,y.2.1)
theorem CU(x0:bR)(x1:bR)(w:World):Calls prog 258 #[xT x0,xT x1] w fun e w'=>e= .returned (.tuple #[xT (fM x0 x1).1,.int .i64 (fM x0 x1).2.val])/\Below w.heap.size w w':=by have key:=Tp.2 ((x0,x1,()):bR×bR×Unit) id w;unfold fM;generalize Ws=G at key ⊢;exact key
def sS(x0:ae)(x1:ae):ae:=
 let y:ae×Unit:=VF ((x0,x1,()):ae×ae×Unit)
 y.1
theorem CV(x0:ae)(x1:ae)(w:World):Calls prog 108 #[.int .i64 x0.val,.int .i64 x1.val] w fun e w'=>e= .returned (.int .i64 (sS x0 x1).val)/\Below w.heap.size w w':=by have key:=Tb.2 ((x0,x1,()):ae×ae×Unit) id w;unfold sS;generalize VF=G at key ⊢;exact key
def mR(x0:ae)(x1:ae)(x2:ae):ae×ae:=
 let y:ae×ae×Unit:=VH ((x0,x1,x2,()):ae×ae×ae×Unit)
 (y.1,y.2.1)
theorem FW(x0:ae)(x1:ae)(x2:ae)(w:World):Calls prog 110 #[.int .i64 x0.val,.int .i64 x1.val,.int .i64 x2.val] w fun e w'=>e= .returned (.tuple #[.int .i64 (mR x0 x1 x2).1.val,.int .i64 (mR x0 x1 x2).2.val])/\Below w.heap.size w w':=by have key:=Tc.2 ((x0,x1,x2,()):ae×ae×ae×Unit) id w;unfold mR;generalize VH=G at key ⊢;exact key
def ey(x0:oJ)(x1:ae)(x2:ae):ae×ae×ae:=
 let y:ae×ae×ae×Unit:=VN ((x0,x1,x2,()):oJ×ae×ae×Unit)
 (y.1,y.2.1,y.2.2.1)
theorem CW(x0:oJ)(x1:ae)(x2:ae)(w:World):Calls prog 302 #[ZX x0,.int .i64 x1.val,.int .i64 x2.val] w fun e w'=>e= .returned (.tuple #[.int .i64 (ey x0 x1 x2).1.val,.int .i64 (ey x0 x1 x2).2.1.val,.int .i64 (ey x0 x1 x2).2.2.val])/\Below w.heap.size w w':=by have key:=Td.2 ((x0,x1,x2,()):oJ×ae×ae×Unit) id w;unfold ey;generalize VN=G at key ⊢;exact key
def sT(x0:ae)(x1:ae)(x2:ae)(x3:ae):ae:=
 let y:ae×Unit:=VQ ((x0,x1,x2,x3,()):ae×ae×ae×ae×Unit)
 y.1
theorem wW(x0:ae)(x1:ae)(x2:ae)(x3:ae)(w:World):Calls prog 156 #[.int .i64 x0.val,.int .i64 x1.val,.int .i64 x2.val,.int .i64 x3.val] w fun e w'=>e= .returned (.int .i64 (sT x0 x1 x2 x3).val)/\Below w.heap.size w w':=by have key:=Te.2 ((x0,x1,x2,x3,()):ae×ae×ae×ae×Unit) id w;unfold sT;generalize VQ=G at key ⊢;exact key
def eh(x0:ae):Bool:=
 let y:Bool×Unit:=F82 ((x0,()):ae×Unit)
 y.1
theorem iE(x0:ae)(w:World):Calls prog 82 #[.int .i64 x0.val] w fun e w'=>e= .returned (.bool (eh x0))/\Below w.heap.size w w':=by have key:=Zj.2 ((x0,()):ae×Unit) id w;unfold eh;generalize F82=G at key ⊢;exact key
def aeZ(x0:ae):ae:=
 let y:ae×Unit:=VS ((x0,()):ae×Unit)
 y.1
theorem qt(x0:ae)(w:World):Calls prog 115 #[.int .i64 x0.val] w fun e w'=>e= .returned (.int .i64 (aeZ x0).val)/\Below w.heap.size w w':=by have key:=Tf.2 ((x0,()):ae×Unit) id w;unfold aeZ;generalize VS=G at key ⊢;exact key
def gI(x0:rC):Bool:=
 let y:Bool×Unit:=V1 ((x0,()):rC×Unit)
 y.1
theorem zo(x0:rC)(w:World):Calls prog 141 #[MU x0] w fun e w'=>e= .returned (.bool (gI x0))/\Below w.heap.size w w':=by have key:=Th.2 ((x0,()):rC×Unit) id w;unfold gI;generalize V1=G at key ⊢;exact key
def fP(x0:ae):Bool:=
 let y:Bool×Unit:=V3 ((x0,()):ae×Unit)
 y.1
theorem ly(x0:ae)(w:World):Calls prog 101 #[.int .i64 x0.val] w fun e w'=>e= .returned (.bool (fP x0))/\Below w.heap.size w w':=by have key:=Ti.2 ((x0,()):ae×Unit) id w;unfold fP;generalize V3=G at key ⊢;exact key
def uf(x0:cT):Bool:=
 let y:Bool×Unit:=F83 ((x0,()):cT×Unit)
 y.1
theorem Hw(x0:cT)(w:World):Calls prog 83 #[j6 x0] w fun e w'=>e= .returned (.bool (uf x0))/\Below w.heap.size w w':=by have key:=Zp.2 ((x0,()):cT×Unit) id w;unfold uf;generalize F83=G at key ⊢;exact key
def p8(x0:rC):ae:=
 let y:ae×Unit:=V6 ((x0,()):rC×Unit)
 y.1
theorem Bc(x0:rC)(w:World):Calls prog 146 #[MU x0] w fun e w'=>e= .returned (.int .i64 (p8 x0).val)/\Below w.heap.size w w':=by have key:=Tj.2 ((x0,()):rC×Unit) id w;unfold p8;generalize V6=G at key ⊢;exact key
def ae3(x0:cT):Bool:=
 let y:Bool×Unit:=F80 ((x0,()):cT×Unit)
 y.1
theorem uQ(x0:cT)(w:World):Calls prog 80 #[j6 x0] w fun e w'=>e= .returned (.bool (ae3 x0))/\Below w.heap.size w w':=by have key:=Zr.2 ((x0,()):cT×Unit) id w;unfold ae3;generalize F80=G at key ⊢;exact key
def afg(x0:ae)(x1:ae)(x2:ae):ae:=
 let y:ae×Unit:=V9 ((x0,x1,x2,()):ae×ae×ae×Unit)
 y.1
theorem Hx(x0:ae)(x1:ae)(x2:ae)(w:World):Calls prog 109 #[.int .i64 x0.val,.int .i64 x1.val,.int .i64 x2.val] w fun e w'=>e= .returned (.int .i64 (afg x0 x1 x2).val)/\Below w.heap.size w w':=by have key:=Tk.2 ((x0,x1,x2,()):ae×ae×ae×Unit) id w;unfold afg;generalize V9=G at key ⊢;exact key
def CX(x0:fX)(x1:fX):ae:=
 let y:ae×Unit:=Wf ((x0,x1,()):fX×fX×Unit)
 y.1
theorem QV(x0:fX)(x1:fX)(w:World):Calls prog 144 #[FI x0,FI x1] w fun e w'=>e= .returned (.int .i64 (CX x0 x1).val)/\Below w.heap.size w w':=by have key:=Tm.2 ((x0,x1,()):fX×fX×Unit) id w;unfold CX;generalize Wf=G at key ⊢;exact key
def wX(x0:ae)(x1:ae):ae:=
 let y:ae×Unit:=Wk ((x0,x1,()):ae×ae×Unit)
 y.1
theorem MZ(x0:ae)(x1:ae)(w:World):Calls prog 254 #[.int .i64 x0.val,.int .i64 x1.val] w fun e w'=>e= .returned (.int .i64 (wX x0 x1).val)/\Below w.heap.size w w':=by have key:=Tn.2 ((x0,x1,()):ae×ae×Unit) id w;unfold wX;generalize Wk=G at key ⊢;exact key
def CY(x0:ae)(x1:ae):ae:=
 let y:ae×Unit:=Wm ((x0,x1,()):ae×ae×Unit)
 y.1
theorem QW(x0:ae)(x1:ae)(w:World):Calls prog 255 #[.int .i64 x0.val,.int .i64 x1.val] w fun e w'=>e= .returned (.int .i64 (CY x0 x1).val)/\Below w.heap.size w w':=by have key:=To.2 ((x0,x1,()):ae×ae×Unit) id w;unfold CY;generalize Wm=G at key ⊢;exact key
def jS(x0:fX):Bool:=
 let y:Bool×Unit:=F91 ((x0,()):fX×Unit)
 y.1
theorem qu(x0:fX)(w:World):Calls prog 91 #[FI x0] w fun e w'=>e= .returned (.bool (jS x0))/\Below w.heap.size w w':=by have key:=Zv.2 ((x0,()):fX×Unit) id w;unfold jS;generalize F91=G at key ⊢;exact key
def CZ(x0:fX):ae:=
 let y:ae×Unit:=F93 ((x0,()):fX×Unit)
 y.1
theorem QX(x0:fX)(w:World):Calls prog 93 #[FI x0] w fun e w'=>e= .returned (.int .i64 (CZ x0).val)/\Below w.heap.size w w':=by have key:=Zx.2 ((x0,()):fX×Unit) id w;unfold CZ;generalize F93=G at key ⊢;exact key
end
end Go.Proofs.Yq
namespace Go.Proofs.Yq
open ChangeShapes WideShapes ChangeAt RowKit Ev
open Tryz
def orI(a b:Int):Int:=if a=0 then b else a
theorem aae(g:Nat)(a b:ae)(w:World)(h:w.aI g=some #[.int .i64 a.val,.int .i64 b.val]):Calls prog 253 #[.slice (some ⟨g,0,none⟩) 2 2] w fun r w'=>r= .returned (.int .i64 (orI a.val b.val))/\w'=w:=by
 unfold orI;have c0:w.cell? ⟨g,0,none⟩=some (.int .i64 a.val):=by rw[ao h];rfl
 have c1:w.cell? ⟨g,1,none⟩=some (.int .i64 b.val):=by rw[ao h];rfl
 obtain⟨A,hA⟩:∃A,A=a.val:=⟨_,rfl⟩;obtain⟨B,hB⟩:∃B,B=b.val:=⟨_,rfl⟩;rw[<-hA,<-hB];rw[<-hA] at c0;rw[<-hB] at c1;clear h hA hB;obtain⟨V,hV⟩:∃V,V=(if A=0 then B else A):=⟨_,rfl⟩;rw[<-hV];have HV:=qD hV;clear hV;go_enter func253,ntmps253;go_wp2_with fail
 go_loop [5,8] (fun x5 i=>∃k:Nat,k<=2/\i= .int .i64 k/\Hid (1<=k->A=0)/\Hid (2<=k->B=0)) (fun _ i=>2-(intOf i).toNat)
 case atStart=>exact⟨0,by omega,rfl,fun h=>by omega,fun h=>by omega⟩
 case round=>
  obtain⟨k,hk,rfl,h1,h2⟩:=hrel;by_cases hk0:k=0
  ·subst hk0;by_cases hA:A=0
   ·have HA:=qD hA;go_wp2
    go_round
    case rel=>exact⟨1,by omega,by go_num,fun _=>HA.o,fun h=>by omega⟩
    case measure=>simp[intOf]
   ·have HR:Hid (V=A):=by have:=HV.o;rw[if_neg hA] at this;exact this
    go_wp2;go_ret;rw[HR.o];exact⟨rfl,rfl⟩
  ·by_cases hk1:k=1
   ·subst hk1;have HA:=qD (h1.o (by omega));by_cases hB:B=0
    ·have HB:=qD hB;go_wp2
     go_round
     case rel=>exact⟨2,by omega,by go_num,fun _=>HA.o,fun h=>HB.o⟩
     case measure=>simp[intOf]
    ·have HR:Hid (V=B):=by have:=HV.o;rw[if_pos HA.o] at this;exact this
     go_wp2;go_ret;rw[HR.o];exact⟨rfl,rfl⟩
   ·have hk2:k=2:=by omega
    subst hk2;have HR:Hid (V=0):=by have:=HV.o;rw[if_pos (h1.o (by omega)),h2.o (by omega)] at this;exact this
    go_wp2;go_ret;rw[HR.o];exact⟨rfl,rfl⟩
noncomputable def Na(x y:bE):Int:=orI (wX x.heard y.heard).val (CY x.node y.node).val
theorem QY(x y:bE)(w:World):Calls prog 252 #[.agg (aJ x),.agg (aJ y)] w fun r w'=>r= .returned (.int .i64 (Na x y))/\Below w.heap.size w w':=by
 have H1:=qD (MZ x.heard y.heard);have H2:=qD (QW x.node y.node);have H3:=qD (fun g w h=>aae g (wX x.heard y.heard) (CY x.node y.node) w h);go_enter func252,ntmps252;go_upto_region 1 with(fail);obtain⟨w1,hw1⟩:∃w1,w1=(w.alloc (.cells (aJ x) 50)).alloc (.cells (aJ y) 50):=⟨_,rfl⟩;rw[<-hw1];have B1:Hid (Below w.heap.size w w1):=by rw[hw1];exact((bZ _ w).alloc (nL _) _).alloc (by simp) _
 have k1:w1.aI w.heap.size=some (aJ x):=by rw[hw1];simp[af,aq]
 have k2:w1.aI (w.heap.size+1)=some (aJ y):=by rw[hw1];simp[af,aq]
 have c1:w1.cell? ⟨w.heap.size,2,none⟩=some (.int .i64 x.heard.val):=by rw[ao k1];rfl
 have c2:w1.cell? ⟨w.heap.size+1,2,none⟩=some (.int .i64 y.heard.val):=by rw[ao k2];rfl
 have c3:w1.cell? ⟨w.heap.size,0,none⟩=some (.int .i64 x.node.val):=by rw[ao k1];rfl
 have c4:w1.cell? ⟨w.heap.size+1,0,none⟩=some (.int .i64 y.node.val):=by rw[ao k2];rfl
 have l1:w.heap.size+1<w1.heap.size:=ab k2;have l2:w.heap.size<w1.heap.size:=by omega
 clear hw1 k1 k2;refine ar 10 ?_;simp only[tA,tD,tC,tE]
 repeat quiet_step (first|(go_at_call 254;exact Calls.regrown_of (H1.o _))|(go_at_call 255;exact Calls.regrown_of (H2.o _)))
 refine wpQuiet_nil ?_;intro w2 hb2;have B2:=qD (B1.o.trans (hb2.mono B1.o.size));clear hb2 c1 c2 c3 c4 H1 H2;obtain⟨P,hP⟩:∃P,P=wX x.heard y.heard:=⟨_,rfl⟩;obtain⟨R,hR⟩:∃R,R=CY x.node y.node:=⟨_,rfl⟩;have HC:Hid (Na x y=orI P.val R.val):=by unfold Hid Na;rw[hP,hR]
 rw[<-hP,<-hR] at H3 ⊢;clear hP hR;go_wp2_with (go_at_call 253;refine(H3.o _ _ (by simp[af,aq])).mono ?_;rintro r w3 ⟨rfl,rfl⟩);go_ret;rw[HC.o];exact⟨rfl,B2.o.alloc B2.o.size _⟩
def sU(c:bE->bE->Int)(m:bE):List bE->bE
 | []=>m
 |x::l=>sU c (if c x m<0 then x else m) l
theorem zr(c:bE->bE->Int)(x:bE):∀(l:List bE) (m:bE),sU c m (l++ [x])=if c x (sU c m l)<0 then x else sU c m l
 | [],m=>rfl
 |y::l,m=>by simp only[List.cons_append,sU];exact zr c x l _
def QZ(c:bE->bE->Int)(l:List bE):bE:=sU c (l.headD cr) (l.drop 1)
noncomputable def Q0(l:List bE):bE:=QZ Na l
theorem Q7(cE:bE->bE->Int)(hce:∀x y w,Calls prog 252 #[.agg (aJ x),.agg (aJ y)] w fun r w'=>r= .returned (.int .i64 (cE x y))/\Below w.heap.size w w')(v:Value)(base:Nat)(l:List bE)(w:World)(ho:Own w base 50 10 aJ v l)(hl:0<l.length)(hm:l.length<=1000000):Calls prog 251 #[v,.func (.func 252) #[] #[]] w fun r w'=>r= .returned (.agg (aJ (QZ cE l)))/\Below w.heap.size w w':=by
 obtain⟨g,cap,cur,rfl,h2,hgl,hb,hcur⟩:=ho.aI bo hl;obtain⟨x0,hx0⟩:∃x,l[0]? =some x:=⟨_,gE hl⟩;obtain⟨e0,e1⟩:=hcur 0 x0 hx0;simp only[Nat.zero_mul,Nat.zero_add] at e0 e1;have HCUR:=qD hcur;have HX0:=qD hx0;have HB:=qD hb;have HE:=qD hce;clear hce;clear ho hcur hx0;go_enter func251,ntmps251;go_wp2_with fail;obtain⟨m1,hm1⟩:∃m1:Nat->bE,m1=fun k=>sU cE x0 ((l.drop 1).take (k-1)):=⟨_,rfl⟩;have M1:Hid (m1 1=x0):=by rw[hm1];show _=_;simp only[Nat.sub_self,tD,sU]
 have MS:Hid (∀k x,1<=k->l[k]? =some x->m1 (k+1)=if cE x (m1 k)<0 then x else m1 k):=by
  intro k x hk hx;rw[hm1];obtain⟨j,rfl⟩:∃j,k=j+1:=⟨k-1,by omega⟩;have hj: (l.drop 1)[j]? =some x:=by rw[List.getElem?_drop,Nat.add_comm 1 j];exact hx
  show sU cE x0 ((l.drop 1).take (j+1+1-1))=if cE x (sU cE x0 ((l.drop 1).take (j+1-1)))<0 then x else sU cE x0 ((l.drop 1).take (j+1-1))
  rw[Nat.add_sub_cancel,Nat.add_sub_cancel,List.take_add_one,hj,Option.toList_some,zr]
 have ME:Hid (m1 l.length=QZ cE l):=by
  rw[hm1];show sU cE x0 ((l.drop 1).take (l.length-1))=sU cE (l.headD cr) (l.drop 1);rw[List.take_of_length_le (by simp)];have h:=HX0.o;cases l with
  |nil=>cases h
  |cons y l=>cases h;rfl
 clear hm1
 go_loopw [6] (fun i wr=>∃k:Nat,1<=k/\k<=l.length/\i= .int .i64 k/\Below w.heap.size w wr/\wr.aI (w.heap.size+1)=some (aJ (m1 k))/\wr.aI w.heap.size=some (aJ cr)) (fun i _=>l.length-(intOf i).toNat)
 case atStart=>
  refine⟨1,by omega,by omega,rfl,aa (((bZ _ w).alloc (nL _) _).alloc (by simp) _) (by omega) _ _,?_,?_⟩
  ·rw[M1.o];exact putRow (cs0:=aJ cr) (by simp[af,aq,ew]) (by simp[bo])
  ·rw[ay _ _ _ _ _ (by omega)];simp[af,aq,ew]
 case round=>
  obtain⟨k,hk1,hk,rfl,hbr,hkr,hz⟩:=hrel;have BR:=qD hbr;have KZ:=qD hz;have l1:w.heap.size+1<wr.heap.size:=ab hkr;have l2:g<wr.heap.size:=by omega
  have hbg:wr.aI g=some cur:=(ah hbr hgl).trans HB.o;have ne1:¬g=w.heap.size+1:=by omega
  clear hbr hz hb;by_cases hlt:k<l.length
  ·obtain⟨x,hx⟩:∃x,l[k]? =some x:=⟨_,gE hlt⟩;obtain⟨f0,f1⟩:=HCUR.o k x hx;have HN:=qD (MS.o k x hk1 hx);have HE2:=qD (HE.o x (m1 k));clear hx e0 e1;go_upto_region 7 with(fail);refine ar 6 ?_;simp only[tA,tD,tC,tE]
   repeat quiet_step (fail)
   refine wpQuiet_nil ?_;intro w2 hb2;have B2:=qD (BR.o.trans (hb2.mono BR.o.size));have k2:=(ah hb2 l1).trans hkr;have kz2:=qD ((ah hb2 (by omega)).trans KZ.o);have g2:=(ah hb2 l2).trans hbg;clear hb2 hkr hbg;obtain⟨C,hC⟩:∃C,C=cE x (m1 k):=⟨_,rfl⟩;rw[<-hC] at HE2 HN;clear hC;by_cases hc:C<0
   ·rw[if_pos hc] at HN;go_wp2_with (go_at_call 252;refine(HE2.o _).mono ?_;rintro r w3 ⟨rfl,hb3⟩;have B3:=qD (B2.o.trans (hb3.mono B2.o.size));have k3:=(ah hb3 (ab k2)).trans k2;have kz3:=qD ((ah hb3 (ab kz2.o)).trans kz2.o);have g3:=(ah hb3 (ab g2)).trans g2;have l3:=ab k3;have l4:=ab g3;clear hb3 k2 g2);go_roundw
    case rel=>
     refine⟨k+1,by omega,by omega,by go_num,aa B3.o (by omega) _ _,?_,?_⟩
     ·rw[HN.o];exact putRow k3 (by simp[bo])
     ·rw[ay _ _ _ _ _ (by omega)];exact kz3.o
    case measure=>simp[intOf];omega
   ·rw[if_neg hc] at HN;go_wp2_with (go_at_call 252;refine(HE2.o _).mono ?_;rintro r w3 ⟨rfl,hb3⟩;have B3:=qD (B2.o.trans (hb3.mono B2.o.size));have k3:=(ah hb3 (ab k2)).trans k2;have kz3:=qD ((ah hb3 (ab kz2.o)).trans kz2.o);have g3:=(ah hb3 (ab g2)).trans g2;have l3:=ab k3;have l4:=ab g3;clear hb3 k2 g2);go_roundw
    case rel=>exact⟨k+1,by omega,by omega,by go_num,B3.o,by rw[HN.o];exact k3,kz3.o⟩
    case measure=>simp[intOf];omega
  ·have hkl:k=l.length:=by omega
   have HK:Hid (m1 k=QZ cE l):=by rw[hkl];exact ME.o
   have kz:=KZ.o;clear hkl e0 e1;go_wp2_with fail;refine bodyPost_ret (cL (fn:=Tryz.f251) rfl rfl (ZZ (putRow (cs0:=aJ cr) KZ.o (by simp[bo])) (bo (m1 k)))) rfl ⟨by rw[HK.o],aa BR.o (nL _) _ _⟩
theorem W2(v:Value)(base:Nat)(l:List bE)(w:World)(ho:Own w base 50 10 aJ v l)(hl:0<l.length)(hm:l.length<=1000000):Calls prog 251 #[v,.func (.func 252) #[] #[]] w fun r w'=>r= .returned (.agg (aJ (Q0 l)))/\Below w.heap.size w w':=
 Q7 Na QY v base l w ho hl hm
theorem Q8(x:bE)(w:World): (Instr.field 50 (.agg (aJ x)) 0).run prog w= .ok (.int .i64 x.node.val) w:=by kernel_rfl
noncomputable def sV(s:bh):ae:=(Q0 (dm s)).node
theorem wY(s:bh): (dm s).length=s.ents.length:=by simp[dm,wS]
theorem JG(s:bh)(g:Nat)(F:Nat->Prop)(w:World)(hB:uA s)(hm:0<s.ents.length)(hn:s.ents.length<=1000000)(h: (eW s).rep g F w):Calls prog 201 #[.pointer (some ⟨g,0,none⟩)] w fun r w'=>
  r= .returned (.int .i64 (sV s).val)/\Below w.heap.size w w':=by
 have HA:=qD (rB s g F w hB h);have HL:=qD (wY s);have HM:=qD (W2);have hfl:=Q8;have HE:Hid (sV s=(Q0 (dm s)).node):=rfl;rw[HE.o];generalize Q0=mL at*;clear h HE;go_enter func201,ntmps201;go_wp2_with (first
  |(go_at_call 29;refine HA.o.mono ?_;rintro r w1 ⟨v,rfl,ho,hn,hb⟩;have HO:=qD ho;have B1:=qD hb;clear ho hn hb)
  |(go_at_call 251;refine(HM.o _ _ _ _ HO.o (by rw[HL.o];omega) (by rw[HL.o];omega)).mono ?_;rintro r w2 ⟨rfl,hb2⟩;have B2:=qD (B1.o.trans (hb2.mono B1.o.size));clear hb2))
 go_ret;exact⟨rfl,B2.o⟩
@[go_sem ↓ high] theorem adt (ps:Array (Nat×Value)):Instr.build 286 ps=iS 286 ps:=rfl
@[go_sem ↓ high] theorem aeu (ps:Array (Nat×Value)):Instr.build 50 ps=iS 50 ps:=rfl
def fa(s:bh)(n:ae):List (Int×bE):=match bJ s.ents n.val with
 |none=>s.ents
 |some e=>eX s.ents n.val ⟨n,e.boot,e.heard,false,bc,i0⟩
theorem pG{s':bh}{w w5 w6:World}{F:Nat->Prop}{me ml g a:Nat}{ws:List Nat}{W:wO}{vs:List Value}(h:∃F',Sep w5 (nY s' me ml ws g) F'/\(∀x,F' x->F x∨w.heap.size<x)/\bN F w w5)(hb:Below w5.heap.size w5 w6)(ha:w6.aI a=some (j5 W))(hl:w5.heap.size<=a)(hx:w.heap.size<w5.heap.size)(hF:∀y,F y->y<w.heap.size):
  ∃F',Sep (w6.setCells w.heap.size 0 vs) ((a,.row (j5 W))::nY s' me ml ws g) F'/\(∀x,F' x->F x∨w.heap.size<=x)/\bN F w (w6.setCells w.heap.size 0 vs):=by
 obtain⟨F',h1,h2,h3⟩:=h;have hne:∀y,F' y->y≠w.heap.size:=fun y hy e=>by
  rcases h2 y hy with h|h
  ·have:=hF y h;omega
  ·omega
 refine⟨fun x=>x=a∨F' x,⟨fun x=>x=a,F',⟨fun x=>Iff.rfl,?_⟩,?_,?_,fun x=>Iff.rfl⟩,fun x hx2=>?_,?_⟩
 ·rw[ay _ _ _ _ _ (by omega)];exact ha
 ·exact(h1.more hb).loc fun x hx2=>cC _ _ _ _ _ (hne x hx2)
 ·intro x hx2 hx3;have:=h1.lt x hx3;omega
 ·rcases hx2 with h|h
  ·right;omega
  ·exact(h2 x h).imp id (fun h=>by omega)
 ·exact(h3.trans (bN.bH (S:=F) hb) (fun _ h=> .inl h)).trans (bN.setCells _ _ _ _) (fun y h=> .inr (by omega))
theorem JH(s:bh)(g:Nat)(F:Nat->Prop)(w:World)(n boot:ae)(me ml:Nat)(ws:List Nat)(h:lT s g F w me ml ws)(hcase:bJ s.livs n.val=none∨∃x,bJ s.livs n.val=some x/\x.boot.val≠boot.val/\ue x.boot boot=true):
  Calls prog 199 #[.pointer (some ⟨g,0,none⟩),.int .i64 n.val,.int .i64 boot.val] w fun r w'=>∃a,r= .returned (.tuple #[.agg (aeW ⟨boot,false,gF⟩ a),.int .i64 0])/\
   ∃F',Sep w' ((a,.row (j5 gF))::nY {s with ents:=fa s n} me ml ws g) F'/\(∀x,F' x->F x∨w.heap.size<=x)/\bN F w w':=by
 have hgi:=mO s.livs ws n.val;have hlw:=js (k:=n.val) h.h0;have hc2:=h.c2;have hgl:=h.lt;have hz:=oM;have hz5:=ew;have hW:Hid (Below w.heap.size w (w.alloc (.cells cM 286))/\dr (w.alloc (.cells cM 286)) ml (cW s.livs ws)):=⟨(bZ _ w).alloc (nL _) _,h.i2.congr (((bZ _ w).alloc (nL _) _).block ml h.i2.lt)⟩;have HT:=qD h;have HWN:=qD (fun w=>Jw w);have bldL:∀(a:Nat) w,(iS 286 #[(0,.int .i64 boot.val),(2,.pointer (some ⟨a,0,none⟩))]).run prog w= .ok (.agg (aeW ⟨boot,false,gF⟩ a)) w:=fun a w=>by kernel_rfl
 have bldE:∀(x y:ae) w,(iS 50 #[(0,.int .i64 n.val),(1,.int .i64 x.val),(2,.int .i64 y.val)]).run prog w= .ok (.agg (aJ ⟨n,x,y,false,bc,i0⟩)) w:=fun x y w=>by kernel_rfl
 clear h;rcases hcase with hx|⟨x,hx,g1,g2⟩
 ·rw[hx] at hlw;have hk:lookW s.livs ws n.val=none:=by cases hq:lookW s.livs ws n.val with|none=>rfl|some y=>rw[hq] at hlw;cases hlw
  rw[hk] at hgi;clear hx hlw hk;go_enter func199,ntmps199;go_upto_region 8 with(at_lookup;refine bL rfl _ _ 130 rfl 3 286 jb dy _ (nG _) ml _ hW.o.2 rfl n.val rfl ?_;rw[hgi]);obtain⟨w2,hw2⟩:∃w2,w2=(((w.alloc (.cells cM 286)).alloc (.cells cM 286)).setCells (w.heap.size+1) 0 cM.toList):=⟨_,rfl⟩;rw[<-hw2];have hfacts:Hid (w2.cell? ⟨g,1,none⟩=some (.map (some me)))/\g<w2.heap.size/\Hid (dr w2 me (dM s.ents))/\Hid (Below w.heap.size w w2)/\Hid (w2.aI w.heap.size=some cM):=by
   have B:Below w.heap.size w w2:=by rw[hw2];exact aa (hW.o.1.alloc (by simp) _) (by omega) _ _
   refine⟨(B.cell (p:=⟨g,1,none⟩) hgl).trans HT.o.c1,nU hgl B.size,HT.o.i1.congr (B.block me HT.o.i1.lt),B,?_⟩;show _=_;rw[hw2,ay _ _ _ _ _ (by omega)];simp[af,aq]
  clear hw2 hc2 hgi;obtain⟨c1,gl,i1,B2,k22⟩:Hid (w2.cell? ⟨g,1,none⟩=some (.map (some me)))/\g<w2.heap.size/\Hid (dr w2 me (dM s.ents))/\Hid (Below w.heap.size w w2)/\Hid (w2.aI w.heap.size=some cM):=hfacts;have hc1:=c1.o;have hge:=kQ s.ents n.val;have l0:w.heap.size<w2.heap.size:=ab k22.o;cases he:bJ s.ents n.val with
  |none=>
   rw[he] at hge;have HE:Hid (fa s n=s.ents):=by unfold Hid fa;rw[he]
   clear he;go_upto_region 11 with(at_lookup;refine bL rfl _ _ 129 rfl 3 50 dh dy _ (nD _) me _ i1.o rfl n.val rfl ?_;rw[hge]);obtain⟨w3,hw3⟩:∃w3,w3=((w2.alloc (.cells (aJ cr) 50)).setCells w2.heap.size 0 (aJ cr).toList):=⟨_,rfl⟩;rw[<-hw3];have hb3:Below w2.heap.size w2 w3:=by rw[hw3];exact aa ((bZ _ _).alloc (nL _) _) (nL _) _ _
   have H3:Hid (∃F',Sep w3 (nY {s with ents:=fa s n} me ml ws g) F'/\(∀x,F' x->F x∨w.heap.size<x)/\bN F w w3):=⟨F,by rw[HE.o];exact HT.o.hs.more (B2.o.trans (hb3.mono B2.o.size)),fun x hx=> .inl hx,bN.bH (B2.o.trans (hb3.mono B2.o.size))⟩;have k3:=(ah hb3 l0).trans k22.o;have K3:=qD k3;have l3:w.heap.size<w3.heap.size:=ab k3;clear hw3 hb3 k3 hge hc1;go_wp2_with (go_at_call 248;refine(HWN.o _).mono ?_;rintro r w6 ⟨a',rfl,ha',hle,hb6⟩;have kA:=qD ha';have kL:=qD hle;have B6:=qD hb6;have k6:=(ah hb6 l3).trans K3.o;clear hb6 ha' hle);refine bodyPost_ret (aA (fn:=Tryz.f199) rfl rfl (wQ (putRow k6 (by simp[cF,dz])) (cF ⟨boot,false,gF⟩ a'))) rfl ⟨a',rfl,?_⟩;exact pG H3.o B6.o kA.o kL.o (by omega) HT.o.hs.lt
  |some e=>
   rw[he] at hge;have HE:Hid (fa s n=eX s.ents n.val ⟨n,e.boot,e.heard,false,bc,i0⟩):=by unfold Hid fa;rw[he]
   clear he;go_upto_region 9 with(at_lookup;refine bL rfl _ _ 129 rfl 3 50 dh dy _ (nD _) me _ i1.o rfl n.val rfl ?_;rw[hge]);obtain⟨w3,hw3⟩:∃w3,w3=((w2.alloc (.cells (aJ cr) 50)).setCells w2.heap.size 0 (aJ e).toList):=⟨_,rfl⟩;rw[<-hw3];have hb3:Below w2.heap.size w2 w3:=by rw[hw3];exact aa ((bZ _ _).alloc (nL _) _) (nL _) _ _
   have ke:w3.aI w2.heap.size=some (aJ e):=by rw[hw3];exact putRow (cs0:=aJ cr) (by simp[af,aq]) (by simp[bo])
   have e1:w3.cell? ⟨w2.heap.size,1,none⟩=some (.int .i64 e.boot.val):=by rw[ao ke];rfl
   have e2:w3.cell? ⟨w2.heap.size,2,none⟩=some (.int .i64 e.heard.val):=by rw[ao ke];rfl
   have c3:w3.cell? ⟨g,1,none⟩=some (.map (some me)):=(hb3.cell (p:=⟨g,1,none⟩) gl).trans hc1;have B3:=qD (B2.o.trans (hb3.mono B2.o.size));have m3:w2.heap.size<w3.heap.size:=ab ke;have g3:g<w3.heap.size:=by omega
   have K3:=qD ((ah hb3 l0).trans k22.o);clear hw3 hb3 ke hge hc1;go_upto_region 10 with(fail);refine ar 11 ?_;simp only[tA,tD,tC,tE]
   repeat quiet_step (fail)
   refine wpQuiet_nil ?_;intro w4 hb4;have B4:=qD (B3.o.trans (hb4.mono B3.o.size));have K4:=qD ((ah hb4 (ab K3.o)).trans K3.o);clear hb4;refine eC rfl _ _ _ 129 rfl 3 50 dh dy me _ (HT.o.i1.congr (B4.o.block me HT.o.i1.lt)) rfl n.val rfl (.agg (aJ ⟨n,e.boot,e.heard,false,bc,i0⟩)) rfl ?_;intro w5 him5 hc5 hz5;rw[kR] at him5;have K5:=qD ((hc5.aI (ab K4.o) (fun h=>by have h1:=HT.o.i1.lt;rw[<-h] at h1;omega)).trans K4.o);have H3:Hid (∃F',Sep w5 (nY {s with ents:=fa s n} me ml ws g) F'/\(∀x,F' x->F x∨w.heap.size<x)/\bN F w w5):=by obtain⟨F',h1,h2,h3⟩:=(HT.o.more B4.o).ents him5 hc5;rw[HE.o];exact⟨F',h1.hs,fun x hx=>(h2 x hx).imp id (fun h=>nU (ab K4.o) h),(bN.bH B4.o).trans h3 (fun _ h=> .inl h)⟩
   have l5:w.heap.size<w5.heap.size:=ab K5.o;clear him5 hc5 hz5 e1 e2 c3 m3 g3;go_wp2_with (go_at_call 248;refine(HWN.o _).mono ?_;rintro r w6 ⟨a',rfl,ha',hle,hb6⟩;have kA:=qD ha';have kL:=qD hle;have B6:=qD hb6;have k6:=(ah hb6 l5).trans K5.o;clear hb6 ha' hle);refine bodyPost_ret (aA (fn:=Tryz.f199) rfl rfl (wQ (putRow k6 (by simp[cF,dz])) (cF ⟨boot,false,gF⟩ a'))) rfl ⟨a',rfl,?_⟩;exact pG H3.o B6.o kA.o kL.o (by omega) HT.o.hs.lt
 ·rw[hx] at hlw;obtain⟨a,hk⟩:∃a,lookW s.livs ws n.val=some (x,a):=by
   cases hq:lookW s.livs ws n.val with
   |none=>rw[hq] at hlw;cases hlw
   |some y=>obtain⟨y,a⟩:=y;rw[hq] at hlw;cases hlw;exact⟨a,rfl⟩
  rw[hk] at hgi;have g3: (x.boot.val==boot.val)=false:=by simpa using g1
  have HL:=qD (CT x.boot boot);have HL2:=qD g2;clear hx hlw hk g2;obtain⟨w1,hw1⟩:∃w1,w1=(((w.alloc (.cells cM 286)).alloc (.cells cM 286)).setCells (w.heap.size+1) 0 (aeW x a).toList):=⟨_,rfl⟩;have B1:Hid (Below w.heap.size w w1):=by rw[hw1];exact aa (hW.o.1.alloc (by simp) _) (by omega) _ _
  have k1:w1.aI (w.heap.size+1)=some (aeW x a):=by rw[hw1];exact putRow (cs0:=cM) (by simp[af,aq]) (by simp[cF,dz])
  have k2:Hid (w1.aI w.heap.size=some cM):=by rw[hw1,ay _ _ _ _ _ (by omega)];show _=_;simp[af,aq]
  have d0:w1.cell? ⟨w.heap.size+1,0,none⟩=some (.int .i64 x.boot.val):=by rw[ao k1];rfl
  have d1:w1.cell? ⟨w.heap.size+1,1,none⟩=some (.bool x.left):=by rw[ao k1];rfl
  have HW1:=qD hw1;clear hw1 k1;go_enter func199,ntmps199;go_upto_region 2 with(at_lookup;refine bL rfl _ _ 130 rfl 3 286 jb dy _ (nG _) ml _ hW.o.2 rfl n.val rfl ?_;rw[hgi]);rw[<-HW1.o];clear HW1 hgi hc2;go_upto_region 8 with(go_at_call 247;refine(HL.o _).mono ?_;rintro r w2 ⟨rfl,hb2⟩;rw[HL2.o];have B2:=qD (B1.o.trans (hb2.mono B1.o.size));have k22:=qD ((ah hb2 (ab k2.o)).trans k2.o);clear hb2);have hfacts:Hid (w2.cell? ⟨g,1,none⟩=some (.map (some me)))/\g<w2.heap.size/\Hid (dr w2 me (dM s.ents))/\Hid (Below w.heap.size w w2)/\Hid (w2.aI w.heap.size=some cM):=
   ⟨(B2.o.cell (p:=⟨g,1,none⟩) hgl).trans HT.o.c1,nU hgl B2.o.size,HT.o.i1.congr (B2.o.block me HT.o.i1.lt),B2.o,k22.o⟩
  clear B1 k2 d0 d1 B2 k22;obtain⟨c1,gl,i1,B2,k22⟩:Hid (w2.cell? ⟨g,1,none⟩=some (.map (some me)))/\g<w2.heap.size/\Hid (dr w2 me (dM s.ents))/\Hid (Below w.heap.size w w2)/\Hid (w2.aI w.heap.size=some cM):=hfacts;have hc1:=c1.o;have hge:=kQ s.ents n.val;have l0:w.heap.size<w2.heap.size:=ab k22.o;cases he:bJ s.ents n.val with
  |none=>
   rw[he] at hge;have HE:Hid (fa s n=s.ents):=by unfold Hid fa;rw[he]
   clear he;go_upto_region 11 with(at_lookup;refine bL rfl _ _ 129 rfl 3 50 dh dy _ (nD _) me _ i1.o rfl n.val rfl ?_;rw[hge]);obtain⟨w3,hw3⟩:∃w3,w3=((w2.alloc (.cells (aJ cr) 50)).setCells w2.heap.size 0 (aJ cr).toList):=⟨_,rfl⟩;rw[<-hw3];have hb3:Below w2.heap.size w2 w3:=by rw[hw3];exact aa ((bZ _ _).alloc (nL _) _) (nL _) _ _
   have H3:Hid (∃F',Sep w3 (nY {s with ents:=fa s n} me ml ws g) F'/\(∀x,F' x->F x∨w.heap.size<x)/\bN F w w3):=⟨F,by rw[HE.o];exact HT.o.hs.more (B2.o.trans (hb3.mono B2.o.size)),fun x hx=> .inl hx,bN.bH (B2.o.trans (hb3.mono B2.o.size))⟩;have k3:=(ah hb3 l0).trans k22.o;have K3:=qD k3;have l3:w.heap.size<w3.heap.size:=ab k3;clear hw3 hb3 k3 hge hc1;go_wp2_with (go_at_call 248;refine(HWN.o _).mono ?_;rintro r w6 ⟨a',rfl,ha',hle,hb6⟩;have kA:=qD ha';have kL:=qD hle;have B6:=qD hb6;have k6:=(ah hb6 l3).trans K3.o;clear hb6 ha' hle);refine bodyPost_ret (aA (fn:=Tryz.f199) rfl rfl (wQ (putRow k6 (by simp[cF,dz])) (cF ⟨boot,false,gF⟩ a'))) rfl ⟨a',rfl,?_⟩;exact pG H3.o B6.o kA.o kL.o (by omega) HT.o.hs.lt
  |some e=>
   rw[he] at hge;have HE:Hid (fa s n=eX s.ents n.val ⟨n,e.boot,e.heard,false,bc,i0⟩):=by unfold Hid fa;rw[he]
   clear he;go_upto_region 9 with(at_lookup;refine bL rfl _ _ 129 rfl 3 50 dh dy _ (nD _) me _ i1.o rfl n.val rfl ?_;rw[hge]);obtain⟨w3,hw3⟩:∃w3,w3=((w2.alloc (.cells (aJ cr) 50)).setCells w2.heap.size 0 (aJ e).toList):=⟨_,rfl⟩;rw[<-hw3];have hb3:Below w2.heap.size w2 w3:=by rw[hw3];exact aa ((bZ _ _).alloc (nL _) _) (nL _) _ _
   have ke:w3.aI w2.heap.size=some (aJ e):=by rw[hw3];exact putRow (cs0:=aJ cr) (by simp[af,aq]) (by simp[bo])
   have e1:w3.cell? ⟨w2.heap.size,1,none⟩=some (.int .i64 e.boot.val):=by rw[ao ke];rfl
   have e2:w3.cell? ⟨w2.heap.size,2,none⟩=some (.int .i64 e.heard.val):=by rw[ao ke];rfl
   have c3:w3.cell? ⟨g,1,none⟩=some (.map (some me)):=(hb3.cell (p:=⟨g,1,none⟩) gl).trans hc1;have B3:=qD (B2.o.trans (hb3.mono B2.o.size));have m3:w2.heap.size<w3.heap.size:=ab ke;have g3:g<w3.heap.size:=by omega
   have K3:=qD ((ah hb3 l0).trans k22.o);clear hw3 hb3 ke hge hc1;go_upto_region 10 with(fail);refine ar 11 ?_;simp only[tA,tD,tC,tE]
   repeat quiet_step (fail)
   refine wpQuiet_nil ?_;intro w4 hb4;have B4:=qD (B3.o.trans (hb4.mono B3.o.size));have K4:=qD ((ah hb4 (ab K3.o)).trans K3.o);clear hb4;refine eC rfl _ _ _ 129 rfl 3 50 dh dy me _ (HT.o.i1.congr (B4.o.block me HT.o.i1.lt)) rfl n.val rfl (.agg (aJ ⟨n,e.boot,e.heard,false,bc,i0⟩)) rfl ?_;intro w5 him5 hc5 hz5;rw[kR] at him5;have K5:=qD ((hc5.aI (ab K4.o) (fun h=>by have h1:=HT.o.i1.lt;rw[<-h] at h1;omega)).trans K4.o);have H3:Hid (∃F',Sep w5 (nY {s with ents:=fa s n} me ml ws g) F'/\(∀x,F' x->F x∨w.heap.size<x)/\bN F w w5):=by obtain⟨F',h1,h2,h3⟩:=(HT.o.more B4.o).ents him5 hc5;rw[HE.o];exact⟨F',h1.hs,fun x hx=>(h2 x hx).imp id (fun h=>nU (ab K4.o) h),(bN.bH B4.o).trans h3 (fun _ h=> .inl h)⟩
   have l5:w.heap.size<w5.heap.size:=ab K5.o;clear him5 hc5 hz5 e1 e2 c3 m3 g3;go_wp2_with (go_at_call 248;refine(HWN.o _).mono ?_;rintro r w6 ⟨a',rfl,ha',hle,hb6⟩;have kA:=qD ha';have kL:=qD hle;have B6:=qD hb6;have k6:=(ah hb6 l5).trans K5.o;clear hb6 ha' hle);refine bodyPost_ret (aA (fn:=Tryz.f199) rfl rfl (wQ (putRow k6 (by simp[cF,dz])) (cF ⟨boot,false,gF⟩ a'))) rfl ⟨a',rfl,?_⟩;exact pG H3.o B6.o kA.o kL.o (by omega) HT.o.hs.lt
end Go.Proofs.Yq
namespace Go.Ev
open RowKit Go.Sort
theorem Sep.tail{w:World}{p:Nat×aj}{L:List (Nat×aj)}{F:Nat->Prop}(h:Sep w (p::L) F):∃F',Sep w L F'/\∀x,F' x->F x:=by obtain⟨F1,F2,h1,h2,h3,h4⟩:=h;exact⟨F2,h2,fun x hx=>(h4 x).2 (.inr hx)⟩
theorem Sep.flip{w:World}{p q:Nat×aj}{L:List (Nat×aj)}{F:Nat->Prop}(h:Sep w (p::q::L) F):Sep w (q::p::L) F:=by
 obtain⟨F1,F2,h1,⟨G1,G2,g1,g2,g3,g4⟩,h3,h4⟩:=h;refine⟨G1,fun x=>F1 x∨G2 x,g1,⟨F1,G2,h1,g2,fun x hx hx2=>h3 x hx ((g4 x).2 (.inr hx2)),fun x=>Iff.rfl⟩,fun x hx hx2=>?_,fun x=>?_⟩
 ·rcases hx2 with h|h
  ·exact h3 x h ((g4 x).2 (.inl hx))
  ·exact g3 x hx h
 ·rw[h4,g4];constructor
  ·rintro(h|h|h)
   ·exact .inr (.inl h)
   ·exact .inl h
   ·exact .inr (.inr h)
  ·rintro(h|h|h)
   ·exact .inr (.inl h)
   ·exact .inl h
   ·exact .inr (.inr h)
theorem Sep.zt{w:World}{p:Nat×aj}{L L':List (Nat×aj)}{F:Nat->Prop}(h:Sep w (p::L) F)(hL:∀F2,Sep w L F2->∃F',Sep w L' F'/\∀x,F' x->F2 x):∃F',Sep w (p::L') F'/\∀x,F' x->F x:=by obtain⟨F1,F2,h1,h2,h3,h4⟩:=h;obtain⟨F',g1,g2⟩:=hL F2 h2;exact⟨fun x=>F1 x∨F' x,⟨F1,F',h1,g1,fun x hx hx2=>h3 x hx (g2 x hx2),fun x=>Iff.rfl⟩,fun x hx=>(h4 x).2 (hx.imp id (g2 x))⟩
theorem Sep.Hy{w:World}{p q:Nat×aj}:∀{L:List (Nat×aj)} {F:Nat->Prop} {i:Nat},Sep w (p::L) F->L[i]? =some q->∃F',Sep w (L.set i p) F'/\∀x,F' x->F x
 | [],F,i,h,hi=>by simp at hi
 |r::L,F,0,h,hi=>by obtain⟨F',h1,h2⟩:=h.flip.tail;exact⟨F',h1,h2⟩
 |r::L,F,i+1,h,hi=>h.flip.zt fun F2 h2=>Sep.Hy h2 (by simpa using hi)
theorem Sep.snoc{w:World}{p:Nat×aj}:∀{L:List (Nat×aj)} {F:Nat->Prop},Sep w (p::L) F->∃F',Sep w (L++ [p]) F'/\∀x,F' x->F x
 | [],F,h=>⟨F,h,fun x hx=>hx⟩
 |r::L,F,h=>h.flip.zt fun F2 h2=>Sep.snoc h2
end Go.Ev
namespace Go.Proofs.Yq
open ChangeShapes WideShapes ChangeAt RowKit Ev
open Tryz
noncomputable section
theorem zu{k:Int}{x y:de}{a:Nat}:∀{l:List (Int×de)} {ws:List Nat},lookW l ws k=some (x,a)->lookW (dG l k y) ws k=some (y,a)
 | [],ws,h=>by cases h
 |_::_,[],h=>by simp[lookW] at h
 |p::l,b::ws,h=>by
  unfold lookW at h ⊢;by_cases hp: (p.1==k)=true
  ·simp only[List.zip_cons_cons,List.find?,hp,Option.map_some,oI,Prod.mk.injEq] at h;simp only[dG,List.map_cons,if_pos hp,List.zip_cons_cons,List.find?,BEq.rfl,Option.map_some,h.2]
  ·have hp': (p.1==k)=false:=by simpa using hp
   simp only[List.zip_cons_cons,List.find?,hp'] at h;simp only[dG,List.map_cons,hp',Bool.false_eq_true,if_false,List.zip_cons_cons,List.find?];exact zu (l:=l) (ws:=ws) h
theorem zw{k:Int}{x y:de}{a b:Nat}:∀{l:List (Int×de)} {ws:List Nat},ws.length=l.length->(l.map (·.1)).Nodup->lookW l ws k=some (x,a)->
  ∃ws' i,ws'.length=l.length/\sE (cW l ws) k (.agg (aeW y b))=cW (dG l k y) ws'/\(lx l ws)[i]? =some (a,.row (j5 x.win))/\lx (dG l k y) ws'=(lx l ws).set i (b,.row (j5 y.win))/\lookW (dG l k y) ws' k=some (y,b)
 | [],[],_,_,h=>by cases h
 | [],_::_,hl,_,_=>by simp at hl
 |_::_,[],hl,_,_=>by simp at hl
 |p::l,c::ws,hl,hn,h=>by
  simp only[List.map_cons,List.nodup_cons] at hn;unfold lookW at h;simp only[List.zip_cons_cons,List.find?] at h;by_cases hp: (p.1==k)=true
  ·rw[hp] at h;simp only[Option.map_some,oI,Prod.mk.injEq] at h;obtain⟨h1,h2⟩:=h;subst h1 h2;have hpk:=eq_of_beq hp;have hno:∀q∈l,q.1≠k:=fun q hq e=>hn.1 (by rw[hpk,<-e];exact List.mem_map_of_mem hq);have e1:dG (p::l) k y=(k,y)::l:=by show(if p.1==k then(k,y) else p)::dG l k y=_;rw[if_pos hp,mQ hno]
   refine⟨b::ws,0,hl,?_,rfl,?_,?_⟩
   ·rw[e1];show(if p.1==k then(k,Value.agg (aeW y b)) else(p.1,Value.agg (aeW p.2 c)))::sE (cW l ws) k (.agg (aeW y b))=(k,Value.agg (aeW y b))::cW l ws;rw[if_pos hp];congr 1;have:sE (cW l ws) k (.agg (aeW y b))=dG (cW l ws) k (.agg (aeW y b)):=rfl;rw[this,mQ];intro q hq e;have:q.1∈(cW l ws).map (·.1):=List.mem_map_of_mem hq;rw[mP (by simpa using hl)] at this;obtain⟨z,hz,hze⟩:=List.mem_map.1 this;exact hno z hz (by rw[hze,e])
   ·rw[e1];rfl
   ·rw[e1];unfold lookW;simp only[List.zip_cons_cons,List.find?,BEq.rfl,Option.map_some]
  ·have hp': (p.1==k)=false:=by simpa using hp
   rw[hp'] at h;obtain⟨ws',i,h0,h1,h2,h3,h4⟩:=zw (l:=l) (ws:=ws) (x:=x) (y:=y) (a:=a) (b:=b) (k:=k) (by simpa using hl) hn.2 h;have e1:dG (p::l) k y=p::dG l k y:=by show(if p.1==k then(k,y) else p)::dG l k y=_;rw[if_neg hp]
   refine⟨c::ws',i+1,by simp[h0],?_,h2,?_,?_⟩
   ·rw[e1];show(if p.1==k then(k,Value.agg (aeW y b)) else(p.1,Value.agg (aeW p.2 c)))::sE (cW l ws) k (.agg (aeW y b))=(p.1,Value.agg (aeW p.2 c))::cW (dG l k y) ws';rw[if_neg hp,h1]
   ·rw[e1];show(c,aj.row (j5 p.2.win))::lx (dG l k y) ws'=((c,aj.row (j5 p.2.win))::lx l ws).set (i+1) _;rw[h3];rfl
   ·rw[e1];unfold lookW at h4 ⊢;simp only[List.zip_cons_cons,List.find?,hp'];exact h4
theorem wZ{α β:Type}{l:List α}{m:List β}(h:m.length=l.length)(x:α)(y:β): (l++ [x]).zip (m++ [y])=l.zip m++ [(x,y)]:=by rw[List.zip_append h.symm];rfl
theorem Q9{k:Int}{y:de}{b:Nat}{l:List (Int×de)}{ws:List Nat}(hl:ws.length=l.length)(h:lookW l ws k=none):
  cW l ws++ [(k,.agg (aeW y b))]=cW (l++ [(k,y)]) (ws++ [b])/\lx (l++ [(k,y)]) (ws++ [b])=lx l ws++ [(b,.row (j5 y.win))]/\lookW (l++ [(k,y)]) (ws++ [b]) k=some (y,b):=by
 refine⟨?_,?_,?_⟩
 ·unfold cW;rw[wZ hl,List.map_append];rfl
 ·unfold lx;rw[wZ hl,List.map_append];rfl
 ·unfold lookW at h ⊢;rw[wZ hl,List.find?_append];have: (l.zip ws).find? (fun p=>p.1.1==k)=none:=by simpa using h
  rw[this];simp
theorem xd{l:List (Int×de)}{ws:List Nat}{k:Int}(hl:ws.length=l.length):wg (cW l ws) k=(lookW l ws k).isSome/\we l k=(lookW l ws k).isSome:=by
 have h2:we l k=(lookW l ws k).isSome:=by rw[zk,<-js hl,Option.isSome_map]
 refine⟨?_,h2⟩;have h3: (nW (cW l ws) k).isSome=wg (cW l ws) k:=(zk (l:=cW l ws) (k:=k)).symm;rw[<-h3,mO,Option.isSome_map]
def j7(s:bh)(n boot:ae):Option (de×List (Int×bE)):=
 match bJ s.livs n.val with
 |some x=>if x.boot.val=boot.val then(if x.left then none else some (x,s.ents)) else(if ue x.boot boot then some (⟨boot,false,gF⟩,fa s n) else none)
 |none=>some (⟨boot,false,gF⟩,fa s n)
def C0(s:bh)(es:List (Int×bE))(l':List (Int×de))(me ml:Nat)(ws ws':List Nat)(g:Nat):List (Nat×aj):=
 (g,.row #[.int .i64 s.gY.val,.map (some me),.map (some ml)]):: (me,.ql (dM es)):: (ml,.ql (cW s.livs ws))::lx l' ws'
theorem JI{w:World}{s:bh}{es:List (Int×bE)}{n:Int}{me ml:Nat}{ws:List Nat}{g a:Nat}{F:Nat->Prop}(y:de)(h0:ws.length=s.livs.length)(hk:lookW s.livs ws n=none)(hs:Sep w ((a,.row (j5 y.win))::nY {s with ents:=es} me ml ws g) F):
  ∃ws' F',ws'.length=(eX s.livs n y).length/\Sep w (C0 s es (eX s.livs n y) me ml ws ws' g) F'/\qk (cW s.livs ws) n (.agg (aeW y a))=cW (eX s.livs n y) ws'/\lookW (eX s.livs n y) ws' n=some (y,a)/\∀y,F' y->F y:=by
 obtain⟨h1,h2⟩:=xd (k:=n) h0;rw[hk] at h1 h2;obtain⟨e1,e2,e3⟩:=Q9 (y:=y) (b:=a) h0 hk;have ep:eX s.livs n y=s.livs++ [(n,y)]:=by unfold eX;rw[h2];rfl
 obtain⟨F2,s2,f2⟩:=hs.snoc;refine⟨ws++ [a],F2,by rw[ep];simp[h0],?_,?_,by rw[ep];exact e3,f2⟩
 ·unfold C0;rw[ep,e2];exact s2
 ·unfold qk;rw[h1,ep];exact e1
theorem JJ{w:World}{s:bh}{es:List (Int×bE)}{n:Int}{me ml:Nat}{ws:List Nat}{g a b:Nat}{F:Nat->Prop}(y z:de)(h0:ws.length=s.livs.length)(hn: (s.livs.map (·.1)).Nodup)(hk:lookW s.livs ws n=some (z,b))(hs:Sep w ((a,.row (j5 y.win))::nY {s with ents:=es} me ml ws g) F):
  ∃ws' F',ws'.length=(eX s.livs n y).length/\Sep w (C0 s es (eX s.livs n y) me ml ws ws' g) F'/\qk (cW s.livs ws) n (.agg (aeW y a))=cW (eX s.livs n y) ws'/\lookW (eX s.livs n y) ws' n=some (y,a)/\∀y,F' y->F y:=by
 obtain⟨h1,h2⟩:=xd (k:=n) h0;rw[hk] at h1 h2;have ep:eX s.livs n y=dG s.livs n y:=by unfold eX;rw[h2];rfl
 obtain⟨ws',i,e0,e1,e2,e3,e4⟩:=zw (y:=y) (b:=a) h0 hn hk;obtain⟨F2,s2,f2⟩:=hs.Hy (i:=i+3) (q:=(b,.row (j5 z.win))) (by simpa[nY] using e2);refine⟨ws',F2,by rw[ep,rA];exact e0,?_,?_,by rw[ep];exact e4,f2⟩
 ·unfold C0;rw[ep,e3];exact s2
 ·unfold qk;rw[h1,ep];exact e1
theorem Nb(s:bh)(g:Nat)(F:Nat->Prop)(w:World)(n boot:ae)(me ml:Nat)(ws:List Nat)(h:lT s g F w me ml ws)(ho:j7 s n boot=none):Calls prog 199 #[.pointer (some ⟨g,0,none⟩),.int .i64 n.val,.int .i64 boot.val] w fun r w'=>
  r= .returned (.tuple #[.agg cM,.int .i64 9])/\Below w.heap.size w w':=by
 refine JC s g F w n boot me ml ws h ?_;unfold j7 at ho;cases hx:bJ s.livs n.val with
 |none=>rw[hx] at ho;cases ho
 |some x=>
  rw[hx] at ho;refine⟨x,hx,?_⟩;simp only at ho;by_cases hb:x.boot.val=boot.val
  ·rw[if_pos hb] at ho;cases hl:x.left with
   |true=>exact .inl ⟨hb,rfl⟩
   |false=>rw[hl] at ho;cases ho
  ·rw[if_neg hb] at ho;cases hl:ue x.boot boot with
   |true=>rw[hl] at ho;cases ho
   |false=>exact .inr ⟨hb,rfl⟩
theorem Nc(s:bh)(g:Nat)(F:Nat->Prop)(w:World)(n boot:ae)(me ml:Nat)(ws:List Nat)(h:lT s g F w me ml ws)(x:de)(es:List (Int×bE))(ho:j7 s n boot=some (x,es)):Calls prog 199 #[.pointer (some ⟨g,0,none⟩),.int .i64 n.val,.int .i64 boot.val] w fun r w'=>
  ∃a ws' F',r= .returned (.tuple #[.agg (aeW x a),.int .i64 0])/\ws'.length=(eX s.livs n.val x).length/\Sep w' (C0 s es (eX s.livs n.val x) me ml ws ws' g) F'/\qk (cW s.livs ws) n.val (.agg (aeW x a))=cW (eX s.livs n.val x) ws'/\lookW (eX s.livs n.val x) ws' n.val=some (x,a)/\(∀y,F' y->F y∨w.heap.size<=y)/\bN F w w':=by
 have hno:=h.nodup;have new:∀(hc:bJ s.livs n.val=none∨∃x,bJ s.livs n.val=some x/\x.boot.val≠boot.val/\ue x.boot boot=true),x=⟨boot,false,gF⟩->es=fa s n->Calls prog 199 #[.pointer (some ⟨g,0,none⟩),.int .i64 n.val,.int .i64 boot.val] w fun r w'=>
  ∃a ws' F',r= .returned (.tuple #[.agg (aeW x a),.int .i64 0])/\ws'.length=(eX s.livs n.val x).length/\Sep w' (C0 s es (eX s.livs n.val x) me ml ws ws' g) F'/\qk (cW s.livs ws) n.val (.agg (aeW x a))=cW (eX s.livs n.val x) ws'/\lookW (eX s.livs n.val x) ws' n.val=some (x,a)/\(∀y,F' y->F y∨w.heap.size<=y)/\bN F w w':=by
  rintro hc rfl rfl;refine(JH s g F w n boot me ml ws h hc).mono ?_;rintro r w' ⟨a,hr,F',hs,hF,hC⟩;generalize gF=W at*;cases hk:lookW s.livs ws n.val with
  |none=>
   obtain⟨ws',F2,t1,t2,t3,t4,t5⟩:=JI ⟨boot,false,W⟩ h.h0 hk hs;exact⟨a,ws',F2,hr,t1,t2,t3,t4,fun y hy=>hF y (t5 y hy),hC⟩
  |some y=>
   obtain⟨y,b⟩:=y;obtain⟨ws',F2,t1,t2,t3,t4,t5⟩:=JJ ⟨boot,false,W⟩ y h.h0 hno hk hs;exact⟨a,ws',F2,hr,t1,t2,t3,t4,fun y hy=>hF y (t5 y hy),hC⟩
 unfold j7 at ho;cases hx:bJ s.livs n.val with
 |none=>
  rw[hx] at ho;simp only[oI,Prod.mk.injEq] at ho;exact new (.inl hx) ho.1.symm ho.2.symm
 |some y=>
  rw[hx] at ho;simp only at ho;by_cases hb:y.boot.val=boot.val
  ·rw[if_pos hb] at ho;cases hl:y.left with
   |true=>rw[hl] at ho;cases ho
   |false=>
    rw[hl] at ho;simp only[Bool.false_eq_true,if_false,oI,Prod.mk.injEq] at ho;obtain⟨rfl,rfl⟩:=ho;have hlw:=js (k:=n.val) h.h0;rw[hx] at hlw;obtain⟨a,hk⟩:∃a,lookW s.livs ws n.val=some (y,a):=by
     cases hq:lookW s.livs ws n.val with
     |none=>rw[hq] at hlw;cases hlw
     |some z=>obtain⟨z,a⟩:=z;rw[hq] at hlw;cases hlw;exact⟨a,rfl⟩
    obtain⟨h1,h2⟩:=xd (k:=n.val) h.h0;rw[hk] at h1 h2;have ep:eX s.livs n.val y=dG s.livs n.val y:=by unfold eX;rw[h2];rfl
    obtain⟨e1,i,e2,e3⟩:=kS (y:=y) h.h0 hno hk;refine(FU s g F w n boot me ml ws h y a hk hb hl).mono ?_;rintro r w' ⟨hr,hB⟩;refine⟨a,ws,F,hr,by rw[ep,rA];exact h.h0,?_,?_,by rw[ep];exact zu hk,fun y hy=> .inl hy,bN.bH hB⟩
    ·unfold C0;rw[ep,e3];have: (lx s.livs ws).set i (a,aj.row (j5 y.win))=lx s.livs ws:=by
      apply List.ext_getElem?;intro j;by_cases hj:i=j
      ·subst hj;have hlt:=(gS.1 e2).1;rw[List.getElem?_set_self hlt,e2]
      ·rw[List.getElem?_set_ne hj]
     rw[this];exact h.hs.more hB
    ·unfold qk;rw[h1,ep];exact e1
  ·rw[if_neg hb] at ho;cases hl:ue y.boot boot with
   |false=>rw[hl] at ho;cases ho
   |true=>
    rw[hl] at ho;simp only[if_true,oI,Prod.mk.injEq] at ho;exact new (.inr ⟨y,hx,hb,hl⟩) ho.1.symm ho.2.symm
theorem C8{k:Int}{x:de}{a:Nat}(W:wO):∀{l:List (Int×de)} {ws:List Nat},ws.length=l.length->(l.map (·.1)).Nodup->lookW l ws k=some (x,a)->cW (dG l k {x with win:=W}) ws=cW l ws
 | [],[],_,_,h=>by cases h
 | [],_::_,hl,_,_=>by simp at hl
 |_::_,[],hl,_,_=>by simp at hl
 |p::l,c::ws,hl,hn,h=>by
  simp only[List.map_cons,List.nodup_cons] at hn;unfold lookW at h;simp only[List.zip_cons_cons,List.find?] at h;by_cases hp: (p.1==k)=true
  ·rw[hp] at h;simp only[Option.map_some,oI,Prod.mk.injEq] at h;obtain⟨h1,h2⟩:=h;subst h1 h2;have hpk:=eq_of_beq hp;have hno:∀q∈l,q.1≠k:=fun q hq e=>hn.1 (by rw[hpk,<-e];exact List.mem_map_of_mem hq);have e1:dG (p::l) k {p.2 with win:=W}=(k,{p.2 with win:=W})::l:=by show(if p.1==k then(k,_) else p)::dG l k _=_;rw[if_pos hp,mQ hno]
   rw[e1];show(k,Value.agg (aeW p.2 c))::cW l ws=(p.1,Value.agg (aeW p.2 c))::cW l ws;rw[hpk]
  ·have hp': (p.1==k)=false:=by simpa using hp
   rw[hp'] at h;have ih:=C8 (l:=l) (ws:=ws) (k:=k) (x:=x) (a:=a) W (by simpa using hl) hn.2 h;have e1:dG (p::l) k {x with win:=W}=p::dG l k {x with win:=W}:=by show(if p.1==k then(k,_) else p)::dG l k _=_;rw[if_neg hp]
   rw[e1];show(p.1,Value.agg (aeW p.2 c))::cW (dG l k {x with win:=W}) ws=(p.1,Value.agg (aeW p.2 c))::cW l ws;rw[ih]
def isNode(n:ae):Bool:=decide (0<=n.val)&&decide (n.val<64)
theorem sW(n:ae)(w:World):Calls prog 197 #[.int .i64 n.val] w fun r w'=>r= .returned (.bool (isNode n))/\w'=w:=by
 unfold isNode;by_cases h1:0<=n.val
 ·by_cases h2:n.val<64
  ·have e1:decide (0<=n.val)=true:=by simpa using h1
   have e2:decide (n.val<64)=true:=by simpa using h2
   rw[e1,e2];go_enter func197,ntmps197;go_wp2;go_ret;exact⟨rfl,rfl⟩
  ·have e1:decide (0<=n.val)=true:=by simpa using h1
   have e2:decide (n.val<64)=false:=by simpa using h2
   rw[e1,e2];go_enter func197,ntmps197;go_wp2;go_ret;exact⟨rfl,rfl⟩
 ·have e1:decide (0<=n.val)=false:=by simpa using h1
  rw[e1];go_enter func197,ntmps197;go_wp2;go_ret;exact⟨rfl,rfl⟩
def xe(s:bh):Prop:=uA s/\1<=s.gY.val
def qv(s:bh)(n seq:ae)(x:de)(es:List (Int×bE)):bh:={s with ents:=es,livs:=dG (eX s.livs n.val x) n.val {x with win:=(gW x.win seq).2}}
def kb(s:bh)(n boot now:ae):bh:=
 let s2:bh:=if (bJ s.ents n.val).isNone&&decide (s.gY.val<=s.ents.length) then{s with ents:=sP s.ents (sV s).val} else s
 let x:=(bJ s.ents n.val).getD cr
 {s2 with ents:=eX s2.ents n.val {x with node:=n,boot:=boot,heard:=now}}
def eo(s:bh)(n boot seq now:ae):Int×bh:=
 if isNode n&&eh boot&&eh seq&&p7 now then
  match j7 s n boot with
  |none=>(9,s)
  |some (x,es)=>if (gW x.win seq).1.val=0 then(0,kb (qv s n seq x es) n boot now) else((gW x.win seq).1.val,qv s n seq x es)
 else(1,s)
theorem Nd(s:bh)(g:Nat)(F:Nat->Prop)(w:World)(n boot seq now:ae)(hok: (isNode n&&eh boot&&eh seq&&p7 now)=false):
  Calls prog 157 #[.pointer (some ⟨g,0,none⟩),.int .i64 n.val,.int .i64 boot.val,.int .i64 seq.val,.int .i64 now.val] w fun r w'=>r= .returned (.int .i64 1)/\Below w.heap.size w w':=by
 have H1:=qD (sW n);have H2:=qD (iE boot);have H3:=qD (iE seq);have H4:=qD (rz now);revert H1 H2 H3 H4 hok;generalize isNode n=b1;generalize eh boot=b2;generalize eh seq=b3;generalize p7 now=b4;intro hok H1 H2 H3 H4;cases b1 with
 |false=>
  clear hok H2 H3 H4;go_enter func157,ntmps157;go_wp2_with (go_at_call 197;refine(H1.o _).mono ?_;rintro r w1 ⟨rfl,rfl⟩);go_ret;exact⟨rfl,bZ _ _⟩
 |true=>
  cases b2 with
  |false=>
   clear hok H3 H4;go_enter func157,ntmps157;go_wp2_with (first|(go_at_call 197;refine(H1.o _).mono ?_;rintro r w1 ⟨rfl,rfl⟩)|(go_at_call 82;refine qH (H2.o _) fun w2 B2=>?_));go_ret;exact⟨rfl,B2.o⟩
  |true=>
   cases b3 with
   |false=>
    clear hok H4;go_enter func157,ntmps157;go_wp2_with (first|(go_at_call 197;refine(H1.o _).mono ?_;rintro r w1 ⟨rfl,rfl⟩)|(go_at_call 82;refine qH (H2.o _) fun w2 B2=>?_;clear H2)|(go_at_call 82;refine(H3.o _).mono ?_;rintro r w3 ⟨rfl,hb3⟩;have B3:=qD (B2.o.trans (hb3.mono B2.o.size));clear hb3));go_ret;exact⟨rfl,B3.o⟩
   |true=>
    have:b4=false:=by simpa using hok
    subst this;clear hok;go_enter func157,ntmps157;go_wp2_with (first|(go_at_call 197;refine(H1.o _).mono ?_;rintro r w1 ⟨rfl,rfl⟩)|(go_at_call 82;refine qH (H2.o _) fun w2 B2=>?_;clear H2)|(go_at_call 82;refine(H3.o _).mono ?_;rintro r w3 ⟨rfl,hb3⟩;have B3:=qD (B2.o.trans (hb3.mono B2.o.size));clear hb3)|(go_at_call 198;refine(H4.o _).mono ?_;rintro r w4 ⟨rfl,hb4⟩;have B4:=qD (B3.o.trans (hb4.mono B3.o.size));clear hb4));go_ret;exact⟨rfl,B4.o⟩
theorem Nf(s:bh)(g:Nat)(F:Nat->Prop)(w:World)(n boot seq now:ae)(me ml:Nat)(ws:List Nat)(h:lT s g F w me ml ws)(hok: (isNode n&&eh boot&&eh seq&&p7 now)=true)(hx:j7 s n boot=none):
  Calls prog 157 #[.pointer (some ⟨g,0,none⟩),.int .i64 n.val,.int .i64 boot.val,.int .i64 seq.val,.int .i64 now.val] w fun r w'=>r= .returned (.int .i64 9)/\Below w.heap.size w w':=by
 have H1:=qD (sW n);have H2:=qD (iE boot);have H3:=qD (iE seq);have H4:=qD (rz now);have HT:=qD h;have HG:Hid (∀w,lT s g F w me ml ws->Calls prog 199 #[.pointer (some ⟨g,0,none⟩),.int .i64 n.val,.int .i64 boot.val] w fun r w'=>r= .returned (.tuple #[.agg cM,.int .i64 9])/\Below w.heap.size w w'):=fun w h=>Nb s g F w n boot me ml ws h hx;have hgl:=h.lt;simp only[bI] at hok;obtain⟨⟨⟨h1,h2⟩,h3⟩,h4⟩:=hok;rw[h1] at H1;rw[h2] at H2;rw[h3] at H3;rw[h4] at H4;clear h hx h1 h2 h3 h4;go_enter func157,ntmps157;go_wp2_with (first|(go_at_call 197;refine(H1.o _).mono ?_;rintro r w1 ⟨rfl,rfl⟩)|(go_at_call 82;refine qH (H2.o _) fun w2 B2=>?_;clear H2)|(go_at_call 82;refine(H3.o _).mono ?_;rintro r w3 ⟨rfl,hb3⟩;have B3:=qD (B2.o.trans (hb3.mono B2.o.size));clear hb3)|(go_at_call 198;refine(H4.o _).mono ?_;rintro r w4 ⟨rfl,hb4⟩;have B4:=qD (B3.o.trans (hb4.mono B3.o.size));clear hb4)|(go_at_call 199;refine(HG.o _ (HT.o.more B4.o)).mono ?_;rintro r w5 ⟨rfl,hb5⟩;have B5:=qD (B4.o.trans (hb5.mono B4.o.size));clear hb5));go_ret;exact⟨rfl,aa (B5.o.alloc B5.o.size _) B5.o.size _ _⟩
theorem Ng{w w':World}{s:bh}{es:List (Int×bE)}{l':List (Int×de)}{me ml g:Nat}{ws ws':List Nat}{F:Nat->Prop}(hs:Sep w (C0 s es l' me ml ws ws' g) F)(him:dr w' ml (cW l' ws'))(hc:bN (fun y=>y=ml) w w'):
  Sep w' (nY {s with ents:=es,livs:=l'} me ml ws' g) F/\bN F w w':=
 hs.QU (i:=2) (p:=(ml,.ql (cW s.livs ws))) (p':=(ml,.ql (cW l' ws'))) rfl (fun F1 h1=>⟨⟨h1.1,him⟩,hc.mono fun g hg=> .inl ((h1.1 g).2 hg)⟩)
theorem Nh{w w':World}{s:bh}{me ml g a:Nat}{ws:List Nat}{F:Nat->Prop}{n:Int}{x:de}(W:wO)(h:lT s g F w me ml ws)(hk:lookW s.livs ws n=some (x,a))(hb:w'.aI a=some (j5 W))(hc:bN (fun y=>y=a) w w'):
  lT {s with livs:=dG s.livs n {x with win:=W}} g F w' me ml ws/\bN F w w':=by
 obtain⟨e1,i,e2,e3⟩:=kS (y:={x with win:=W}) h.h0 h.nodup hk;have e4:=C8 W h.h0 h.nodup hk;obtain⟨h1,h2⟩:=h.hs.QU (i:=i+3) (p:=(a,.row (j5 x.win))) (p':=(a,.row (j5 W))) (by simpa[nY] using e2) (fun F1 h1=>⟨⟨h1.1,hb⟩,hc.mono fun g hg=> .inl ((h1.1 g).2 hg)⟩);refine⟨⟨by rw[rA];exact h.h0,?_⟩,h2⟩;show Sep w' ((g,_):: (me,_):: (ml,.ql (cW (dG s.livs n {x with win:=W}) ws))::lx (dG s.livs n {x with win:=W}) ws) F;rw[e4,e3];exact h1
theorem Ni{w:World}{s:bh}{me ml g a:Nat}{ws:List Nat}{F:Nat->Prop}{n:Int}{x:de}(h:lT s g F w me ml ws)(hk:lookW s.livs ws n=some (x,a)):w.aI a=some (j5 x.win)/\F a:=by obtain⟨e1,i,e2,e3⟩:=kS (y:=x) h.h0 h.nodup hk;obtain⟨F1,h1,h2⟩:=h.hs.get (i:=i+3) (p:=(a,.row (j5 x.win))) (by simpa[nY] using e2);exact⟨h1.2,h2 a ((h1.1 a).2 rfl)⟩
theorem lT.mS{s:bh}{g:Nat}{F:Nat->Prop}{w w':World}{me ml:Nat}{ws:List Nat}(h:lT s g F w me ml ws){l:List (Int×bE)}(him:dr w' me (dM l))(hc:bN (fun y=>y=me) w w'):lT {s with ents:=l} g F w' me ml ws/\bN F w w':=by obtain⟨h1,h2⟩:=h.hs.QU (i:=1) (p:=(me,.ql (dM s.ents))) (p':=(me,.ql (dM l))) rfl (fun F1 h1=>⟨⟨h1.1,him⟩,hc.mono fun g hg=> .inl ((h1.1 g).2 hg)⟩);exact⟨⟨h.h0,h1⟩,h2⟩
structure Hr (s:bh) (g:Nat) (F:Nat->Prop) (w w':World) (me ml:Nat) (ws:List Nat) (G:Nat->Prop):Prop where
 tb:lT s g G w' me ml ws
 hG:∀y,G y->F y∨w.heap.size<=y
 hC:bN F w w'
theorem Hr.below{s:bh}{g:Nat}{F G:Nat->Prop}{w w1 w2:World}{me ml:Nat}{ws:List Nat}(h:Hr s g F w w1 me ml ws G)(hb:Below w1.heap.size w1 w2):Hr s g F w w2 me ml ws G:=
 ⟨h.tb.more hb,h.hG,h.hC.trans (bN.bH (S:=F) hb) (fun _ h=> .inl h)⟩
theorem Hr.step{s s':bh}{g:Nat}{F G:Nat->Prop}{w w1 w2:World}{me ml:Nat}{ws:List Nat}(h:Hr s g F w w1 me ml ws G)(hb:lT s' g G w2 me ml ws/\bN G w1 w2):Hr s' g F w w2 me ml ws G:=
 ⟨hb.1,h.hG,h.hC.trans hb.2 h.hG⟩
theorem Hr.loc{s:bh}{g:Nat}{F G:Nat->Prop}{w w1 w2:World}{me ml:Nat}{ws:List Nat}(h:Hr s g F w w1 me ml ws G){S:Nat->Prop}(hb:bN S w1 w2)(hS:∀x,S x->¬G x/\w.heap.size<=x):Hr s g F w w2 me ml ws G:=
 ⟨⟨h.tb.h0,h.tb.hs.loc fun x hx=>hb.dK x (h.tb.hs.lt x hx) (fun hs=>(hS x hs).1 hx)⟩,h.hG,h.hC.trans hb (fun x hx=> .inr (hS x hx).2)⟩
theorem Nj(s:bh)(g:Nat)(F:Nat->Prop)(w:World)(n boot seq now:ae)(me ml:Nat)(ws:List Nat)(h:lT s g F w me ml ws)(hinv:xe s)(hok: (isNode n&&eh boot&&eh seq&&p7 now)=true)(x:de)(es:List (Int×bE))(hx:j7 s n boot=some (x,es))(heb:uA {s with ents:=es}):
  Calls prog 157 #[.pointer (some ⟨g,0,none⟩),.int .i64 n.val,.int .i64 boot.val,.int .i64 seq.val,.int .i64 now.val] w fun r w'=>r= .returned (.int .i64 (eo s n boot seq now).1)/\∃F',(eW (eo s n boot seq now).2).rep g F' w'/\(∀x,F' x->F x∨w.heap.size<=x)/\bN F w w':=by
 have H1:=qD (sW n);have H2:=qD (iE boot);have H3:=qD (iE seq);have H4:=qD (rz now);have HT:=qD h;have hgl:=h.lt;have HG:=qD (fun w h=>Nc s g F w n boot me ml ws h x es hx);have HW:=qD (fun a w hb=>FN a w x.win seq hb);have HF:Hid (eo s n boot seq now=if (gW x.win seq).1.val=0 then(0,kb (qv s n seq x es) n boot now) else((gW x.win seq).1.val,qv s n seq x es)):=by unfold Hid eo;rw[if_pos hok,hx]
 have HH:Hid (qv s n seq x es= {s with ents:=es,livs:=dG (eX s.livs n.val x) n.val {x with win:=(gW x.win seq).2}}):=rfl;rw[HF.o];simp only[bI] at hok;obtain⟨⟨⟨h1,h2⟩,h3⟩,h4⟩:=hok;rw[h1] at H1;rw[h2] at H2;rw[h3] at H3;rw[h4] at H4;revert HF HW HH;generalize gW x.win seq=wr;intro HW HF HH;clear h hx h1 h2 h3 h4 HF;obtain⟨er,W⟩:=wr;revert HH;generalize qv s n seq x es=s9;intro HH;obtain⟨res,hres⟩:∃res:Int×bh,res=(if er.val=0 then(0,kb s9 n boot now) else(er.val,s9)):=⟨_,rfl⟩;have HRES:=qD hres;show Calls _ _ _ _ fun r w'=>r= .returned (.int .i64 ((if er.val=0 then(0,kb s9 n boot now) else(er.val,s9)):Int×bh).1)/\∃F',(eW ((if er.val=0 then(0,kb s9 n boot now) else(er.val,s9)):Int×bh).2).rep g F' _/\_;rw[<-hres];clear hres;have hz:=oM;have hz5:=ew;go_enter func157,ntmps157;go_upto_region 6 with(first|(go_at_call 197;refine(H1.o _).mono ?_;rintro r w1 ⟨rfl,rfl⟩)|(go_at_call 82;refine qH (H2.o _) fun w2 B2=>?_;clear H2)|(go_at_call 82;refine(H3.o _).mono ?_;rintro r w3 ⟨rfl,hb3⟩;have B3:=qD (B2.o.trans (hb3.mono B2.o.size));clear hb3)|(go_at_call 198;refine(H4.o _).mono ?_;rintro r w4 ⟨rfl,hb4⟩;have B4:=qD (B3.o.trans (hb4.mono B3.o.size));clear hb4)|(go_at_call 199;refine(HG.o _ (HT.o.more B4.o)).mono ?_;rintro r w5 ⟨a,ws',G,rfl,q1,q2,q3,q4,q5,q6⟩;have Q1:=qD q1;have Q2:=qD q2;have Q3:=qD q3;have Q4:=qD q4;have Q5:=qD q5;have Q6:=qD q6;clear q1 q2 q3 q4 q5 q6));obtain⟨w6,hw6⟩:∃w6,w6=((w5.alloc (.cells cM 286)).setCells w5.heap.size 0 (aeW x a).toList):=⟨_,rfl⟩;rw[<-hw6];have hb6:Below w5.heap.size w5 w6:=by rw[hw6];exact aa ((bZ _ w5).alloc (nL _) _) (nL _) _ _
 have k6:w6.aI w5.heap.size=some (aeW x a):=by rw[hw6];exact putRow (cs0:=cM) (by simp[af,aq]) (by simp[cF,dz])
 have hrow:=Q2.o.row (i:=0) rfl;have e6:w6.cell? ⟨g,2,none⟩=some (.map (some ml)):=by rw[hb6.cell (p:=⟨g,2,none⟩) (ab hrow),ao hrow];rfl
 have g6:g<w6.heap.size:=nU (ab hrow) hb6.size;have s6:=qD (Q2.o.more hb6);have C6:Hid (bN F w1 w6):=((bN.bH B4.o).trans Q6.o (fun _ h=> .inl h)).trans (bN.bH (S:=F) hb6) (fun _ h=> .inl h);have QF:Hid (∀y,G y->F y∨w1.heap.size<=y):=fun y hy=>(Q5.o y hy).imp id (fun h=>nT B4.o.size h);have NG:Hid (¬G w5.heap.size):=fun h=>by have:=Q2.o.lt _ h;omega
 have L5:Hid (w1.heap.size<=w5.heap.size):=nT B4.o.size Q6.o.size;have l6:w5.heap.size<w6.heap.size:=ab k6;clear hw6 hb6 hz hrow H1 H3 H4 HG HT B2 B3 Q2 Q5 Q6;refine ar 6 ?_;simp only[tA,tD,tC,tE]
 repeat quiet_step (fail)
 refine wpQuiet_nil ?_;intro w7 hb7;have k7:=qD ((ah hb7 l6).trans k6);have s7:=qD (s6.o.more hb7);have C7:Hid (bN F w1 w7):=C6.o.trans (bN.bH (S:=F) hb7) (fun _ h=> .inl h);have i7:Hid (dr w7 ml (cW s.livs ws)):=by obtain⟨F1,h1,_⟩:=s7.o.get (i:=2) (p:=(ml,.ql (cW s.livs ws))) rfl;exact h1.2
 clear hb7 s6 C6 k6 l6 e6 g6;refine eC rfl _ _ _ 130 rfl 3 286 jb dy ml _ i7.o rfl n.val rfl (.agg (aeW x a)) rfl ?_;intro w8 him8 hc8 hz8;rw[Q3.o] at him8;obtain⟨s8,c8⟩:=Ng s7.o him8 hc8;have R8:Hid (Hr {s with ents:=es,livs:=eX s.livs n.val x} g F w1 w8 me ml ws' G):=⟨⟨Q1.o,s8⟩,QF.o,C7.o.trans c8 QF.o⟩;have k8:w8.aI w5.heap.size=some (aeW x a):=by rw[c8.aI (ab k7.o) NG.o];exact k7.o
 have e8:w8.cell? ⟨w5.heap.size,2,none⟩=some (.pointer (some ⟨a,0,none⟩)):=by rw[ao k8];rfl
 obtain⟨b8,ga⟩:=Ni R8.o.tb Q4.o;have HW8:=qD (HW.o a w8 b8);have l8:=ab k8;have GA:=qD ga;clear him8 hc8 hz8 s8 c8 s7 C7 i7 k7 k8 Q3 Q1 HW b8 ga;go_upto_region 8 with(go_at_call 200;refine HW8.o.mono ?_;rintro r w9 ⟨rfl,hb9,hc9⟩;have R9:=qD (R8.o.step (Nh W R8.o.tb Q4.o hb9 hc9));clear hb9 hc9);clear e8 l8 R8 HW8;have R9':Hid (Hr s9 g F w1 w9 me ml ws' G):=by rw[HH.o];exact R9.o
 have HM:Hid (s9.gY=s.gY/\s9.ents=es):=by rw[HH.o];exact⟨rfl,rfl⟩
 clear R9 HH;by_cases he:er.val=0
 ·have HR:Hid (res=(0,kb s9 n boot now)):=by rw[HRES.o];show _=_;rw[if_pos he]
  rw[he];clear he HRES;have L9:Hid (w1.heap.size<=w9.heap.size):=R9'.o.hC.size;have g9:g<w9.heap.size:=nU hgl R9'.o.hC.size;have e9:w9.cell? ⟨g,1,none⟩=some (.map (some me)):=R9'.o.tb.c1;have i9:Hid (dr w9 me (dM s9.ents)):=R9'.o.tb.i1;have hge:=kQ s9.ents n.val;obtain⟨y,hy⟩:∃y,y=(bJ s9.ents n.val).getD cr:=⟨_,rfl⟩;have hv: (nW (dM s9.ents) n.val).getD (.agg (aJ cr))= .agg (aJ y)/\(nW (dM s9.ents) n.val).isSome=(bJ s9.ents n.val).isSome:=by rw[hy,hge];cases bJ s9.ents n.val <;> exact⟨rfl,rfl⟩
  have HV:=qD hv;have HY:=qD hy;clear hv hge hy;go_upto_region 11 with(at_lookup;refine bL rfl _ _ 129 rfl 3 50 dh dy _ (nD _) me _ i9.o rfl n.val rfl ?_;rw[HV.o.1,HV.o.2]);obtain⟨w10,hw10⟩:∃w10,w10=((w9.alloc (.cells (aJ cr) 50)).setCells w9.heap.size 0 (aJ y).toList):=⟨_,rfl⟩;rw[<-hw10];have hb10:Below w9.heap.size w9 w10:=by rw[hw10];exact aa ((bZ _ _).alloc (nL _) _) (nL _) _ _
  have k10:w10.aI w9.heap.size=some (aJ y):=by rw[hw10];exact putRow (cs0:=aJ cr) (by simp[af,aq]) (by simp[bo])
  have R10:=qD (R9'.o.below hb10);have NG2:Hid (¬G w9.heap.size):=fun h=>by have:=R9'.o.tb.hs.lt _ h;omega
  have K10:=qD k10;have g10:g<w10.heap.size:=nU g9 hb10.size;have e10:w10.cell? ⟨g,1,none⟩=some (.map (some me)):=R10.o.tb.c1;have e11:w10.cell? ⟨g,0,none⟩=some (.int .i64 s9.gY.val):=R10.o.tb.c0;clear hw10 hb10 R9' i9 HV e9 g9 k10;cases ht: (bJ s9.ents n.val).isSome with
  |true=>
   have HE:Hid (kb s9 n boot now= {s9 with ents:=eX s9.ents n.val {y with node:=n,boot:=boot,heard:=now}}):=by
    unfold Hid kb;have: (bJ s9.ents n.val).isNone=false:=by
     cases hq:bJ s9.ents n.val with
     |none=>rw[hq] at ht;cases ht
     |some q=>rfl
    rw[this,<-HY.o];rfl
   clear ht;refine ar 12 ?_;simp only[tA,tD,tC,tE]
   repeat (first|go_big_quiet_skip|quiet_step (fail))
   refine wpQuiet_nil ?_;intro w11 hb11;have R11:=qD (R10.o.below hb11);have k11:=(ah hb11 (ab K10.o)).trans K10.o;have f0:w11.cell? ⟨w9.heap.size,0,none⟩=some (.int .i64 y.node.val):=by rw[ao k11];rfl
   have f1:w11.cell? ⟨w9.heap.size,1,none⟩=some (.int .i64 y.boot.val):=by rw[ao k11];rfl
   have f2:w11.cell? ⟨w9.heap.size,2,none⟩=some (.int .i64 y.heard.val):=by rw[ao k11];rfl
   have fz0:=ax k11 0;have fz1:=ax k11 1;have fz2:=ax k11 2;clear hb11 R10 K10 e10 e11 g10;go_upto_region 14 with(fail);obtain⟨w12,hw12⟩:∃w12,w12=(((w11.setCell ⟨w9.heap.size,0,none⟩ (.int .i64 n.val)).setCell ⟨w9.heap.size,1,none⟩ (.int .i64 boot.val)).setCell ⟨w9.heap.size,2,none⟩ (.int .i64 now.val)):=⟨_,rfl⟩;rw[<-hw12];have c12:bN (fun x=>x=w9.heap.size) w11 w12:=by rw[hw12];exact((bN.setCell _ _ _ _).trans (bN.setCell _ _ _ _) (fun _ h=> .inl h)).trans (bN.setCell _ _ _ _) (fun _ h=> .inl h)
   have k12:Hid (w12.aI w9.heap.size=some (aJ {y with node:=n,boot:=boot,heard:=now})):=by show _=_;rw[hw12,bw,if_pos rfl,bw,if_pos rfl,bw,if_pos rfl,k11];rfl
   have R12:=qD (R11.o.loc c12 (fun x hx=>by rw[hx];exact⟨NG2.o,L9.o⟩));have k12':=k12.o;have e12:w12.cell? ⟨g,1,none⟩=some (.map (some me)):=R12.o.tb.c1;have g12:g<w12.heap.size:=ab R12.o.tb.row;have l12:=ab k12';clear hw12 c12 R11 k11;refine ar 6 ?_;simp only[tA,tD,tC,tE]
   repeat quiet_step (fail)
   refine wpQuiet_nil ?_;intro w13 hb13;have R13:=qD (R12.o.below hb13);clear hb13 R12 k12' e12 g12 l12 k12;refine eC rfl _ _ _ 129 rfl 3 50 dh dy me _ R13.o.tb.i1 rfl n.val rfl (.agg (aJ {y with node:=n,boot:=boot,heard:=now})) rfl ?_;intro w14 him14 hc14 hz14;rw[kR] at him14;have R14:=qD (R13.o.step (R13.o.tb.mS him14 hc14));clear him14 hc14 hz14 R13;go_wp2_with fail;go_ret;rw[HR.o,HE.o];exact⟨rfl,G,⟨me,ml,ws',R14.o.tb.h0,R14.o.tb.hs⟩,R14.o.hG,R14.o.hC⟩
  |false=>
   have hlen:∀p:Regrown,(Builtin.len_ #[129] 3 #[.map (some me)]).run prog (Sort.grow (redrawn w10 p.d) p.os)= .ok (goInt s9.ents.length) (Sort.grow (redrawn w10 p.d) p.os):=fun p=>by have:=(R10.o.tb.i1.congr ((below_regrown w10 p.d p.os).block me R10.o.tb.i1.lt)).len (P:=prog) (t:=129) dh 3;rw[this];unfold dM;rw[List.length_map]
   refine ar 12 ?_;simp only[tA,tD,tC,tE]
   repeat (first|go_big_quiet_skip|quiet_step (fail))
   refine wpQuiet_nil ?_;intro w11 hb11;have R11:=qD (R10.o.below hb11);have k11:=(ah hb11 (ab K10.o)).trans K10.o;clear hb11 R10 K10 e10 e11 g10 hlen;have hno: (bJ s9.ents n.val).isNone=true:=by
    cases hq:bJ s9.ents n.val with
    |none=>rfl
    |some q=>rw[hq] at ht;cases ht
   by_cases hm:s9.gY.val<=(s9.ents.length:Int)
   ·have HE:Hid (kb s9 n boot now= {s9 with ents:=eX (sP s9.ents (sV s9).val) n.val {y with node:=n,boot:=boot,heard:=now}}):=by
     unfold Hid kb;have:decide (s9.gY.val<=(s9.ents.length:Int))=true:=by simpa using hm
     rw[hno,this,<-HY.o];rfl
    have hlen64:s9.ents.length<=64:=by
     have hnd:=R11.o.tb.i1.nodup;have hk: (dM s9.ents).map (·.1)=s9.ents.map (·.1):=by unfold dM;rw[List.map_map];rfl
     rw[hk] at hnd;have:=count_le 64 hnd (fun x hx=>by obtain⟨p,hp,rfl⟩:=List.mem_map.1 hx;rw[HM.o.2] at hp;exact heb p hp);simpa using this
    have HB9:uA s9:=fun p hp=>heb p (by rw[HM.o.2] at hp;exact hp);have hpos:0<s9.ents.length:=by have h1:=hinv.2;rw[<-HM.o.1] at h1;omega
    have HEL:Hid (∀w',Below w11.heap.size w11 w'->Calls prog 201 #[.pointer (some ⟨g,0,none⟩)] w' fun r w''=>r= .returned (.int .i64 (sV s9).val)/\Below w'.heap.size w' w''):=fun w' hb=>JG s9 g G w' HB9 hpos (by omega) ⟨me,ml,ws',(R11.o.tb.more hb).h0,(R11.o.tb.more hb).hs⟩;clear hno ht HB9 hpos hlen64;revert HEL HE;generalize sV s9=el;intro HE HEL;have K11:=qD k11;go_upto_region 12 with(fail);have e11:w11.cell? ⟨g,1,none⟩=some (.map (some me)):=R11.o.tb.c1;have g11:g<w11.heap.size:=ab R11.o.tb.row;refine ar 6 ?_;simp only[tA,tD,tC,tE]
    repeat quiet_step ((go_at_call 201;exact Calls.regrown_of (HEL.o _ (below_regrown _ _ _))))
    refine wpQuiet_nil ?_;intro wA hbA;have RA:=qD (R11.o.below hbA);have KA:=qD ((ah hbA (ab K11.o)).trans K11.o);clear hbA R11 K11 k11 e11 g11 HEL;refine afd rfl _ _ 129 3 rfl 3 50 dh dy me _ RA.o.tb.i1 rfl el.val rfl ?_;intro wB himB hcB hzB;rw[sQ] at himB;obtain⟨tB,cB⟩:=RA.o.tb.mS himB hcB;have RB:=qD (RA.o.step ⟨tB,cB⟩);have kB:wB.aI w9.heap.size=some (aJ y):=by rw[cB.aI (ab KA.o) NG2.o];exact KA.o
    have f0:wB.cell? ⟨w9.heap.size,0,none⟩=some (.int .i64 y.node.val):=by rw[ao kB];rfl
    have f1:wB.cell? ⟨w9.heap.size,1,none⟩=some (.int .i64 y.boot.val):=by rw[ao kB];rfl
    have f2:wB.cell? ⟨w9.heap.size,2,none⟩=some (.int .i64 y.heard.val):=by rw[ao kB];rfl
    have fz0:=ax kB 0;have fz1:=ax kB 1;have fz2:=ax kB 2;clear himB hcB hzB tB cB RA KA;go_upto_region 14 with(fail);obtain⟨w12,hw12⟩:∃w12,w12=(((wB.setCell ⟨w9.heap.size,0,none⟩ (.int .i64 n.val)).setCell ⟨w9.heap.size,1,none⟩ (.int .i64 boot.val)).setCell ⟨w9.heap.size,2,none⟩ (.int .i64 now.val)):=⟨_,rfl⟩;rw[<-hw12];have c12:bN (fun x=>x=w9.heap.size) wB w12:=by rw[hw12];exact((bN.setCell _ _ _ _).trans (bN.setCell _ _ _ _) (fun _ h=> .inl h)).trans (bN.setCell _ _ _ _) (fun _ h=> .inl h)
    have k12:Hid (w12.aI w9.heap.size=some (aJ {y with node:=n,boot:=boot,heard:=now})):=by show _=_;rw[hw12,bw,if_pos rfl,bw,if_pos rfl,bw,if_pos rfl,kB];rfl
    have R12:=qD (RB.o.loc c12 (fun x hx=>by rw[hx];exact⟨NG2.o,L9.o⟩));have k12':=k12.o;have e12:w12.cell? ⟨g,1,none⟩=some (.map (some me)):=R12.o.tb.c1;have g12:g<w12.heap.size:=ab R12.o.tb.row;have l12:=ab k12';clear hw12 c12 RB kB;refine ar 6 ?_;simp only[tA,tD,tC,tE]
    repeat quiet_step (fail)
    refine wpQuiet_nil ?_;intro w13 hb13;have R13:=qD (R12.o.below hb13);clear hb13 R12 k12' e12 g12 l12 k12;refine eC rfl _ _ _ 129 rfl 3 50 dh dy me _ R13.o.tb.i1 rfl n.val rfl (.agg (aJ {y with node:=n,boot:=boot,heard:=now})) rfl ?_;intro w14 him14 hc14 hz14;rw[kR] at him14;have R14:=qD (R13.o.step (R13.o.tb.mS him14 hc14));clear him14 hc14 hz14 R13;go_wp2_with fail;go_ret;rw[HR.o,HE.o];exact⟨rfl,G,⟨me,ml,ws',R14.o.tb.h0,R14.o.tb.hs⟩,R14.o.hG,R14.o.hC⟩
   ·have HE:Hid (kb s9 n boot now= {s9 with ents:=eX s9.ents n.val {y with node:=n,boot:=boot,heard:=now}}):=by
     unfold Hid kb;have:decide (s9.gY.val<=(s9.ents.length:Int))=false:=by simpa using hm
     rw[hno,this,<-HY.o];rfl
    clear hno ht;have f0:w11.cell? ⟨w9.heap.size,0,none⟩=some (.int .i64 y.node.val):=by rw[ao k11];rfl
    have f1:w11.cell? ⟨w9.heap.size,1,none⟩=some (.int .i64 y.boot.val):=by rw[ao k11];rfl
    have f2:w11.cell? ⟨w9.heap.size,2,none⟩=some (.int .i64 y.heard.val):=by rw[ao k11];rfl
    have fz0:=ax k11 0;have fz1:=ax k11 1;have fz2:=ax k11 2;go_upto_region 14 with(fail);obtain⟨w12,hw12⟩:∃w12,w12=(((w11.setCell ⟨w9.heap.size,0,none⟩ (.int .i64 n.val)).setCell ⟨w9.heap.size,1,none⟩ (.int .i64 boot.val)).setCell ⟨w9.heap.size,2,none⟩ (.int .i64 now.val)):=⟨_,rfl⟩;rw[<-hw12];have c12:bN (fun x=>x=w9.heap.size) w11 w12:=by rw[hw12];exact((bN.setCell _ _ _ _).trans (bN.setCell _ _ _ _) (fun _ h=> .inl h)).trans (bN.setCell _ _ _ _) (fun _ h=> .inl h)
    have k12:Hid (w12.aI w9.heap.size=some (aJ {y with node:=n,boot:=boot,heard:=now})):=by show _=_;rw[hw12,bw,if_pos rfl,bw,if_pos rfl,bw,if_pos rfl,k11];rfl
    have R12:=qD (R11.o.loc c12 (fun x hx=>by rw[hx];exact⟨NG2.o,L9.o⟩));have k12':=k12.o;have e12:w12.cell? ⟨g,1,none⟩=some (.map (some me)):=R12.o.tb.c1;have g12:g<w12.heap.size:=ab R12.o.tb.row;have l12:=ab k12';clear hw12 c12 R11 k11;refine ar 6 ?_;simp only[tA,tD,tC,tE]
    repeat quiet_step (fail)
    refine wpQuiet_nil ?_;intro w13 hb13;have R13:=qD (R12.o.below hb13);clear hb13 R12 k12' e12 g12 l12 k12;refine eC rfl _ _ _ 129 rfl 3 50 dh dy me _ R13.o.tb.i1 rfl n.val rfl (.agg (aJ {y with node:=n,boot:=boot,heard:=now})) rfl ?_;intro w14 him14 hc14 hz14;rw[kR] at him14;have R14:=qD (R13.o.step (R13.o.tb.mS him14 hc14));clear him14 hc14 hz14 R13;go_wp2_with fail;go_ret;rw[HR.o,HE.o];exact⟨rfl,G,⟨me,ml,ws',R14.o.tb.h0,R14.o.tb.hs⟩,R14.o.hG,R14.o.hC⟩
 ·have HR:Hid (res=(er.val,s9)):=by rw[HRES.o];show _=_;rw[if_neg he]
  go_wp2;go_ret;rw[HR.o];exact⟨rfl,G,⟨me,ml,ws',R9'.o.tb.h0,R9'.o.tb.hs⟩,R9'.o.hG,R9'.o.hC⟩
theorem xf{s:bh}{l:List (Int×bE)}{k:Int}{x:bE}(h:∀p∈l,0<=p.1/\p.1<64)(hk:0<=k/\k<64):uA {s with ents:=eX l k x}:=by
 intro p hp;show 0<=p.1/\p.1<64;have hp:p∈eX l k x:=hp;unfold eX at hp;split at hp
 ·obtain⟨q,hq,rfl⟩:=List.mem_map.1 hp;split
  ·exact hk
  ·exact h q hq
 ·rcases List.mem_append.1 hp with hp|hp
  ·exact h p hp
  ·simp at hp;subst hp;exact hk
theorem nH{n:ae}(h:isNode n=true):0<=n.val/\n.val<64:=by unfold isNode at h;simpa using h
theorem ug{s:bh}{n boot:ae}{x:de}{es:List (Int×bE)}(h:uA s)(hn:isNode n=true)(hx:j7 s n boot=some (x,es)):uA {s with ents:=es}:=by
 have hb:uA {s with ents:=fa s n}:=by
  unfold fa;split
  ·exact h
  ·exact xf h (nH hn)
 unfold j7 at hx;split at hx
 ·split at hx
  ·split at hx
   ·cases hx
   ·simp only[oI,Prod.mk.injEq] at hx;rw[<-hx.2];exact h
  ·split at hx
   ·simp only[oI,Prod.mk.injEq] at hx;rw[<-hx.2];exact hb
   ·cases hx
 ·simp only[oI,Prod.mk.injEq] at hx;rw[<-hx.2];exact hb
theorem Nk{s:bh}{l:List (Int×bE)}{k:Int}(h:∀p∈l,0<=p.1/\p.1<64):uA {s with ents:=sP l k}:=by intro p hp;have hp:p∈sP l k:=hp;unfold sP at hp;exact h p (List.mem_filter.1 hp).1
theorem Nl{s:bh}{n boot now:ae}(h:xe s)(hn:isNode n=true):xe (kb s n boot now):=by
 unfold kb;split
 ·exact⟨xf (s:=s) (Nk (s:=s) h.1) (nH hn),h.2⟩
 ·exact⟨xf (s:=s) h.1 (nH hn),h.2⟩
theorem C9{s:bh}{n boot seq now:ae}(h:xe s):xe (eo s n boot seq now).2:=by
 unfold eo;split
 ·rename_i hok;simp only[bI] at hok;obtain⟨⟨⟨h1,h2⟩,h3⟩,h4⟩:=hok;split
  ·exact h
  ·rename_i x es hx;have hi:xe (qv s n seq x es):=⟨ug h.1 h1 hx,h.2⟩;split
   ·exact Nl hi h1
   ·exact hi
 ·exact h
theorem Da(s:bh)(g:Nat)(F:Nat->Prop)(w:World)(n boot seq now:ae)(hinv:xe s)(h: (eW s).rep g F w):
  Calls prog 157 #[.pointer (some ⟨g,0,none⟩),.int .i64 n.val,.int .i64 boot.val,.int .i64 seq.val,.int .i64 now.val] w fun r w'=>r= .returned (.int .i64 (eo s n boot seq now).1)/\∃F',(eW (eo s n boot seq now).2).rep g F' w'/\(∀x,F' x->F x∨w.heap.size<=x)/\bN F w w':=by
 obtain⟨me,ml,ws,h0,hs⟩:=h;have tb:lT s g F w me ml ws:=⟨h0,hs⟩;cases hok: (isNode n&&eh boot&&eh seq&&p7 now) with
 |false=>
  have hf:eo s n boot seq now=(1,s):=by unfold eo;rw[hok];rfl
  rw[hf];exact(Nd s g F w n boot seq now hok).mono fun r w' hr=>⟨hr.1,F,⟨me,ml,ws,h0,hs.more hr.2⟩,fun x hx=> .inl hx,bN.bH hr.2⟩
 |true=>
  cases hx:j7 s n boot with
  |none=>
   have hf:eo s n boot seq now=(9,s):=by unfold eo;rw[hok,hx];rfl
   rw[hf];exact(Nf s g F w n boot seq now me ml ws tb hok hx).mono fun r w' hr=>⟨hr.1,F,⟨me,ml,ws,h0,hs.more hr.2⟩,fun x hx=> .inl hx,bN.bH hr.2⟩
  |some p=>
   obtain⟨x,es⟩:=p;have h1:isNode n=true:=by simp only[bI] at hok;exact hok.1.1.1
   exact Nj s g F w n boot seq now me ml ws tb hinv hok x es hx (ug hinv.1 h1 hx)
def Db(now m:Int)(x:bE):Bool:=decide (m<=now)&&decide (x.heard.val<=now-m)
def BC(now m:Int)(es:List (Int×bE)):List bE->List (Int×bE)
 | []=>es
 |x::l=>BC now m (if Db now m x then sP es x.node.val else es) l
theorem Dc(now m:Int)(x:bE):∀(l:List bE) (es:List (Int×bE)),BC now m es (l++ [x])=if Db now m x then sP (BC now m es l) x.node.val else BC now m es l
 | [],es=>rfl
 |y::l,es=>by simp only[List.cons_append,BC];exact Dc now m x l _
def lA(s:bh)(now silent:ae):bh:={s with ents:=BC now.val (max 1 silent.val) s.ents (dm s)}
def mn(x:ae):Array Value:=#[.int .i64 x.val]
theorem pH(x:ae): (mn x).size=1:=rfl
theorem xg(x:ae):∀u∈(mn x).toList,u.oneCell'=true:=by intro u hu;simp[mn] at hu;subst hu;rfl
theorem zx: (prog.info? 3).map (fun i=>(i.zero,i.size,i.bytes))=some (some (.int .i64 0),1,8):=by kernel_rfl
theorem mT:prog.underlying 124=some (.slice 3):=by kernel_rfl
theorem JK(s:bh)(g:Nat)(F:Nat->Prop)(w:World)(now silent:ae)(hB:uA s)(h: (eW s).rep g F w):Calls prog 103 #[.pointer (some ⟨g,0,none⟩),.int .i64 now.val,.int .i64 silent.val] w fun r w'=>
  (∃v,r= .returned v)/\∃F',(eW (lA s now silent)).rep g F' w'/\(∀x,F' x->F x∨w.heap.size<=x)/\bN F w w':=by
 have HA:=qD (rB s g F w hB h);obtain⟨me,ml,ws,h0,hs⟩:=h;have TB:Hid (lT s g F w me ml ws):=⟨h0,hs⟩;have hlen64:s.ents.length<=64:=by
  have hnd:=TB.o.i1.nodup;have hk: (dM s.ents).map (·.1)=s.ents.map (·.1):=by unfold dM;rw[List.map_map];rfl
  rw[hk] at hnd;have:=count_le 64 hnd (fun x hx=>by obtain⟨p,hp,rfl⟩:=List.mem_map.1 hx;exact hB p hp);simpa using this
 have hal: (dm s).length=s.ents.length:=wY s;obtain⟨l,hl⟩:∃l,l=dm s:=⟨_,rfl⟩;rw[<-hl] at HA hal;have HEV:Hid (lA s now silent= {s with ents:=BC now.val (max 1 silent.val) s.ents l}):=by unfold Hid lA;rw[hl]
 have hgl:=TB.o.lt;rw[HEV.o];obtain⟨t,htt⟩:∃t,t=now.val:=⟨_,rfl⟩;obtain⟨m,hmm⟩:∃m,m=max 1 silent.val:=⟨_,rfl⟩;have ht1:-9223372036854775808<=t/\t<=9223372036854775807:=by rw[htt];exact now.2
 have hm1:1<=m/\m<=9223372036854775807:=by have:=silent.2;rw[hmm];omega
 have hl64:l.length<=64:=by omega
 rw[<-htt,<-hmm];have HMM:=qD hmm;have hz5:=ew;clear hl hal hmm htt HEV hB h0 hs hlen64;go_enter func103,ntmps103;go_wp2_with (go_at_call 29;refine HA.o.mono ?_;rintro r w1 ⟨v,rfl,ho,hn,hb⟩;have HO:=qD ho;have B1:=qD hb;obtain⟨va,vc,hv⟩:=ho.len;subst hv;clear ho hn hb)
 go_loopw [2,7,9,13] (fun x2 x7 x9 i wr=>∃(k:Nat) (sv:Int) (outl:List ae),k<=l.length/\i= .int .i64 k/\x2= .int .i64 sv/\Hid (m=max 1 sv)/\Hid (Own wr w1.heap.size 3 1 mn x7 outl/\outl.length<=k)/\Hid (lT {s with ents:=BC t m s.ents (l.take k)} g F wr me ml ws)/\Hid (bN F w wr)/\Hid (Own wr w.heap.size 50 10 aJ (.slice va l.length vc) l)/\w1.heap.size<=wr.heap.size) (fun _ _ _ i _=>l.length-(intOf i).toNat)
 case atStart=>exact⟨0,silent.val,[],by omega,rfl,rfl,HMM,⟨Own.nil _ _ _ _ _,nL _⟩,TB.o.more B1.o,bN.bH B1.o,HO,nL _⟩
 case round=>
  obtain⟨k,sv,outl,hk,rfl,rfl,HM,HU,HT,HC,HR,hsz⟩:=hrel;by_cases hlt:k<l.length
  ·obtain⟨g0,cap,cur,hv,h2,hg0,hb,hcur⟩:=HR.o.aI bo (by omega);cases hv;obtain⟨x,hx⟩:∃x,l[k]? =some x:=⟨_,gE hlt⟩;obtain⟨f0,f1⟩:=hcur k x hx;have HX:Hid (l.take (k+1)=l.take k++ [x]):=by show _=_;rw[List.take_add_one,hx];rfl
   clear hcur hx h2;go_upto_region 6 with(fail);rw[<-HM.o];obtain⟨w2,hw2⟩:∃w2,w2=((wr.alloc (.cells (aJ cr) 50)).setCells wr.heap.size 0 (aJ x).toList):=⟨_,rfl⟩;rw[<-hw2];have hb2:Below wr.heap.size wr w2:=by rw[hw2];exact aa ((bZ _ _).alloc (nL _) _) (nL _) _ _
   have k2:w2.aI wr.heap.size=some (aJ x):=by rw[hw2];exact putRow (cs0:=aJ cr) (by simp[af,aq]) (by simp[bo])
   have c2:w2.cell? ⟨wr.heap.size,2,none⟩=some (.int .i64 x.heard.val):=by rw[ao k2];rfl
   have c0:w2.cell? ⟨wr.heap.size,0,none⟩=some (.int .i64 x.node.val):=by rw[ao k2];rfl
   have K2:=qD k2;have T2:=qD (HT.o.more hb2);have C2:Hid (bN F w w2):=HC.o.trans (bN.bH (S:=F) hb2) (fun _ h=> .inl h);have R2:=qD (HR.o.grown hb2);have U2:Hid (Own w2 w1.heap.size 3 1 mn u7 outl/\outl.length<=k):=⟨HU.o.1.grown hb2,HU.o.2⟩;have S2:Hid (w1.heap.size<=w2.heap.size):=nT hsz hb2.size;have UN:Hid (∀k,u7.ownBlock=some k->k<wr.heap.size):=HU.o.1.lt;have UG:Hid (∀k,u7.ownBlock=some k->w1.heap.size<=k):=HU.o.1.ge;have G0:Hid (g0<w1.heap.size):=(HO.o.lt g0 rfl);have W01:Hid (w.heap.size<=w1.heap.size):=B1.o.size;have HS:=Dc t m x (l.take k) s.ents;rw[<-HX.o] at HS;have ME:Hid (m=max 1 m):=by show _=_;omega
   have l2:=ab k2;clear hw2 hb2 HM HU HT HC HR HX hb f0 f1 k2;by_cases a1:m<=t
   ·by_cases a2:x.heard.val<=t-m
    ·have HO2:Hid (BC t m s.ents (l.take (k+1))=sP (BC t m s.ents (l.take k)) x.node.val):=by
      have:Db t m x=true:=by unfold Db;simp[a1,a2]
      rw[this] at HS;exact HS
     clear HS;go_upto_region 7 with(fail);clear c2;have UL2:Hid (outl.length<=k):=U2.o.2;have UL:Hid (outl.length<=1000000):=by have:=U2.o.2;show _<=_;omega
     go_upto_region 8 with(first|(refine dN rfl _ 124 3 rfl mT zx rfl (by decide) (by decide) _ rfl (mn x.node) rfl rfl ?_)|(at_builtin;refine lU rfl _ _ 124 3 rfl mT zx rfl (by decide) rfl (U2.o.1.grown ((bZ _ _).alloc (nL _) _)) (by have:=S2.o;simp;omega) w2.heap.size 1 rfl x.node (by simp[af,aq]) pH (xg _) UL.o (by decide) ?_;intro v' w3 ho3 hg3 hn3));have hg3': (w2.alloc (.cells (mn x.node) 3)).grownBy w3 u7.ownBlock:=hg3;have c3:bN (fun k=>u7.ownBlock=some k) w2 w3:=(bN.bH (S:=fun k=>u7.ownBlock=some k) ((bZ _ w2).alloc (nL _) (.cells (mn x.node) 3))).trans (zl hg3') (fun _ h=> .inl h);have T3:Hid (lT {s with ents:=BC t m s.ents (l.take k)} g F w3 me ml ws):=⟨T2.o.h0,T2.o.hs.loc fun y hy=>c3.dK y (T2.o.hs.lt y hy) (fun e=>by have h1:=UG.o y e;have h2:=TB.o.hs.lt y hy;have h3:=W01.o;omega)⟩;have C3:Hid (bN F w w3):=C2.o.trans c3 (fun y e=> .inr (nT W01.o (UG.o y e)));have K3:Hid (w3.aI wr.heap.size=some (aJ x)):=by show _=_;rw[c3.aI (ab K2.o) (fun e=>by have:=UN.o _ e;omega)];exact K2.o
     have R3:Hid (Own w3 w.heap.size 50 10 aJ (.slice (some ⟨g0,0,none⟩) l.length vc) l):=R2.o.dK c3 (fun k hk e=>by have hk:g0=k:=Option.some.inj hk;subst hk;have:=UG.o _ e;have:=G0.o;omega);have S3:Hid (w1.heap.size<=w3.heap.size):=nT S2.o c3.size;have U3:=qD ho3;have k3:=K3.o;have c30:w3.cell? ⟨wr.heap.size,0,none⟩=some (.int .i64 x.node.val):=by rw[ao k3];rfl
     have l3:=ab k3;have g3:g<w3.heap.size:=ab T3.o.row;have e3:w3.cell? ⟨g,1,none⟩=some (.map (some me)):=T3.o.c1;clear ho3 hg3 hn3 hg3' c3 T2 C2 R2 S2 U2 K2 c0 l2 k3 UN UG;refine ar 6 ?_;simp only[tA,tD,tC,tE]
     repeat quiet_step (fail)
     refine wpQuiet_nil ?_;intro w4 hb4;have T4:=qD (T3.o.more hb4);have C4:Hid (bN F w w4):=C3.o.trans (bN.bH (S:=F) hb4) (fun _ h=> .inl h);have R4:=qD (R3.o.grown hb4);have U4:=qD (U3.o.grown hb4);have S4:Hid (w1.heap.size<=w4.heap.size):=nT S3.o hb4.size;clear hb4 T3 C3 R3 U3 S3 K3 c30 l3 g3 e3;refine afd rfl _ _ 129 3 rfl 3 50 dh dy me _ T4.o.i1 rfl x.node.val rfl ?_;intro w5 him5 hc5 hz5';rw[sQ] at him5;have FM:Hid (F me):=by obtain⟨F1,h1,h2⟩:=T4.o.hs.get (i:=1) (p:=(me,.ql (dM (BC t m s.ents (l.take k))))) rfl;exact h2 me ((h1.1 me).2 rfl)
     have ME2:Hid (me<w.heap.size):=TB.o.hs.lt me FM.o;have T5:Hid (lT {s with ents:=BC t m s.ents (l.take (k+1))} g F w5 me ml ws):=by rw[HO2.o];exact(T4.o.mS him5 hc5).1
     have C5:Hid (bN F w w5):=C4.o.trans (T4.o.mS him5 hc5).2 (fun _ h=> .inl h);have R5:=qD (R4.o.mh hc5 (fun y e=>by have:=ME2.o;omega));have U5:=qD (U4.o.mh hc5 (fun y e=>by have:=ME2.o;have:=W01.o;omega));have S5:Hid (w1.heap.size<=w5.heap.size):=by show _<=_;rw[hz5'];exact S4.o
     clear him5 hc5 hz5' T4 C4 R4 U4 S4;go_wp2_with fail;go_roundw
     case rel=>exact⟨k+1,m,outl++ [x.node],by omega,by go_num,rfl,ME,⟨U5.o,by have:=UL2.o;simp;omega⟩,T5.o,C5.o,R5.o,S5.o⟩
     case measure=>simp[intOf];omega
    ·have HO2:Hid (BC t m s.ents (l.take (k+1))=BC t m s.ents (l.take k)):=by
      have:Db t m x=false:=by unfold Db;simp[a1,a2]
      rw[this] at HS;exact HS
     clear HS;go_wp2_with fail;go_roundw
     case rel=>exact⟨k+1,m,outl,by omega,by go_num,rfl,ME,⟨U2.o.1,by have:=U2.o.2;omega⟩,by rw[HO2.o];exact T2.o,C2,R2,S2.o⟩
     case measure=>simp[intOf];omega
   ·have HO2:Hid (BC t m s.ents (l.take (k+1))=BC t m s.ents (l.take k)):=by
     have:Db t m x=false:=by unfold Db;simp[a1]
     rw[this] at HS;exact HS
    clear HS;go_wp2_with fail;go_roundw
    case rel=>exact⟨k+1,m,outl,by omega,by go_num,rfl,ME,⟨U2.o.1,by have:=U2.o.2;omega⟩,by rw[HO2.o];exact T2.o,C2,R2,S2.o⟩
    case measure=>simp[intOf];omega
  ·have hkl:k=l.length:=by omega
   have HL:Hid (l.take k=l):=by show _=_;rw[hkl,List.take_length]
   clear hkl;go_wp2_with fail;go_ret;rw[HL.o] at HT;exact⟨⟨_,rfl⟩,F,⟨me,ml,ws,HT.o.h0,HT.o.hs⟩,fun x hx=> .inl hx,HC.o⟩
def Bd(gY:ae):ae:=if gY.val<1 then⟨1,by decide⟩ else if gY.val<64 then gY else⟨64,by decide⟩
def xh(gY:ae):bh:=⟨Bd gY,[],[]⟩
theorem qw(gY:ae): (Bd gY).val=max 1 (min gY.val 64):=by
 unfold Bd;split
 ·show(1:Int)=_;omega
 ·split
  ·omega
  ·show(64:Int)=_;omega
theorem Nn(gY:ae):xe (xh gY):=⟨fun p hp=>(by cases hp),by show 1<=(Bd gY).val;rw[qw];omega⟩
theorem Hz(gY:ae)(w:World):Calls prog 86 #[.int .i64 gY.val] w fun r w'=>∃g F',r= .returned (.pointer (some ⟨g,0,none⟩))/\(eW (xh gY)).rep g F' w'/\(∀x,F' x->w.heap.size<=x)/\Below w.heap.size w w':=by
 have hc:=qw gY;have HR:Hid (∀w:World,(eW (xh gY)).rep (w.heap.size+2) (fun x=>x=w.heap.size+2∨x=w.heap.size∨x=w.heap.size+1) (((w.alloc (.map #[] 0)).alloc (.map #[] 0)).alloc (.cells #[.int .i64 (max 1 (min gY.val 64)),.map (some w.heap.size),.map (some (w.heap.size+1))] 132))):=by
  intro w;refine⟨w.heap.size,w.heap.size+1,[],rfl,fun x=>x=w.heap.size+2,fun x=>x=w.heap.size∨x=w.heap.size+1,⟨fun x=>Iff.rfl,?_⟩,⟨fun x=>x=w.heap.size,fun x=>x=w.heap.size+1,⟨fun x=>Iff.rfl,?_⟩,⟨fun x=>x=w.heap.size+1,fun x=>False,⟨fun x=>Iff.rfl,?_⟩,fun x h=>h,fun x h h2=>h2,fun x=>(by simp)⟩,fun x h h2=>by omega,fun x=>Iff.rfl⟩,fun x h h2=>by omega,fun x=>by omega⟩
  ·rw[<-qw];simp[af,aq,xh]
  ·have h1:dr (((w.alloc (.map #[] 0)).alloc (.map #[] 0)).alloc (.cells #[.int .i64 (max 1 (min gY.val 64)),.map (some w.heap.size),.map (some (w.heap.size+1))] 132)) w.heap.size []:=
    (dr.made w).congr ((@heap_alloc_old _ _ _ (by simp;omega)).trans (@heap_alloc_old _ _ _ (by simp)))
   exact h1
  ·have h1:=dr.made (w.alloc (.map #[] 0));rw[World.size_alloc] at h1;have h2:dr (((w.alloc (.map #[] 0)).alloc (.map #[] 0)).alloc (.cells #[.int .i64 (max 1 (min gY.val 64)),.map (some w.heap.size),.map (some (w.heap.size+1))] 132)) (w.heap.size+1) []:=
    h1.congr (@heap_alloc_old _ _ _ (by simp))
   exact h2
 have hb:∀(a:Int) (x y:Nat) w,(Instr.build 132 #[(0,.int .i64 a),(1,.map (some x)),(2,.map (some y))]).run prog w= .ok (.agg #[.int .i64 a,.map (some x),.map (some y)]) w:=fun a x y w=>by kernel_rfl
 have m1:∀w,(Instr.makeMap 129 none).run prog w= .ok (.map (some w.heap.size)) (w.alloc (.map #[] 0)):=fun w=>by kernel_rfl
 have m2:∀w,(Instr.makeMap 130 none).run prog w= .ok (.map (some w.heap.size)) (w.alloc (.map #[] 0)):=fun w=>by kernel_rfl
 go_enter func86,ntmps86;go_wp2;go_ret;exact⟨_,_,rfl,HR.o w,fun x hx=>by omega,(((bZ _ _).alloc (nL _) _).alloc (by simp) _).alloc (by simp;omega) _⟩
end
end Go.Proofs.Yq
