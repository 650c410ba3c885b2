/- A part of the proof. No condition. -/
import Derived.Deep.Slices
import Derived.HandedShaped
import Derived.LaidLaws
import Derived.Test.YtpbehfbomkochaaGreatDoorC12
set_option maxRecDepth 100000
set_option maxHeartbeats 1000000
set_option linter.all false
namespace Go.Proofs.Yq
open ChangeShapes WideShapes ChangeAt RowKit Ev
open Tryz
noncomputable section
def KH(b:List UInt8):Prop:=∃f:bX,b=(nJ f).getD []/\(f.kind=k1∨f.kind=k5)
theorem OV(f:bX):cX (xn f) 4 1=oN (dW f.kind.val 1):=by
 obtain⟨R,hR⟩:∃R,xn f=97::108::105::49:: (dW f.kind.val 1++R):=by unfold xn;generalize dW (nZ (Ih f)).val 4=S;unfold Ih;exact⟨_,by simp only[List.append_assoc,List.cons_append,List.nil_append];rfl⟩
 unfold cX;rw[hR];show oN ((dW f.kind.val 1++R).take 1)=_;have hl: (dW f.kind.val 1).length=1:=di _ _;rw[List.take_append_of_le_length (by omega),List.take_of_length_le (by omega)]
theorem OW{b:List UInt8}(h:KH b): (cY b).2.val≠0∨(cY b).1.kind.val=1∨(cY b).1.kind.val=5:=by
 obtain⟨f,hb,hk⟩:=h;rw[hb];clear hb;unfold nJ;split
 ·rw[Option.getD_some];have hp: (parse (xn f)).kind.val=1∨(parse (xn f)).kind.val=5:=by
   show(cX (xn f) 4 1).val=1∨(cX (xn f) 4 1).val=5;rw[OV];rcases hk with e|e <;> rw[e]
   ·left;decide+kernel
   ·right;decide+kernel
  unfold cY;split
  ·left;show(4:Int)≠0;decide
  ·split
   ·left;show(5:Int)≠0;decide
   ·split
    ·left;show(6:Int)≠0;decide
    ·split
     ·right;exact hp
     ·left;show(5:Int)≠0;decide
 ·left;rw[Option.getD_none];unfold cY;rw[if_pos (by decide)];show(4:Int)≠0;decide
theorem XJ(x:ak)(n:Int)(e:bR)(t now:ae): (mU x n e t now).f=x.f:=by unfold mU;split <;> rfl
theorem KI(x:ak)(f:bX)(at_ now fine:ae)(h:f.kind.val=1∨f.kind.val=5): (takeN x f at_ now fine).f=x.f/\qd x f at_ now fine= []:=by
 unfold takeN qd;rcases h with h|h
 ·rw[if_neg (by omega),if_neg (by omega),if_neg (by omega),if_neg (by omega),if_neg (by omega)];exact⟨rfl,rfl⟩
 ·rw[if_pos (by omega),if_neg (by omega)];exact⟨XJ _ _ _ _ _,rfl⟩
theorem KJ(x:ak)(b:List UInt8)(at_ now fine:ae)(h:KH b): (nS x b at_ now fine).f=x.f/\ae7 x b at_ now fine= []:=by
 unfold nS ae7;split
 ·split
  ·exact⟨rfl,rfl⟩
  ·rename_i h0;have hk:=(OW h).resolve_left (fun e=>e (by omega));unfold hrN hrO;split
   ·exact⟨rfl,rfl⟩
   ·split
    ·exact⟨rfl,rfl⟩
    ·split
     ·exact⟨rfl,rfl⟩
     ·exact KI _ _ _ _ _ hk
 ·exact⟨rfl,rfl⟩
theorem OX{α:Type}{l:List α}{i:Nat}{x:α}(h:l[i]? =some x):l.set i x=l:=by obtain⟨hi,rfl⟩:=gS.1 h;exact List.set_getElem_self hi
def Ee(m:bf):Prop:=KH m.data/\m.afn.val<=33554432
theorem OY{s:aF}{m:bf}{l:List bf}(ha:s.a=m::l)(hm:KH m.data)(hg:m.afn.val<=(wG s.w).val): (jf s 0).1=0/\(jf s 0).2.a=l/\(jf s 0).2.w=aU s.w/\(jf s 0).2.on=s.on/\(jf s 0).2.n.map (·.f)=s.n.map (·.f):=by
 have h1:dJ s.a 0=some m:=by rw[ha];rfl
 have h2:eM s.a 0=l:=by unfold eM;rw[h1,ha];rfl
 unfold jf;rw[h1];simp only;rw[if_neg (by omega),h2];refine⟨rfl,?_⟩;simp only;split
 ·unfold jd;split
  ·exact⟨rfl,rfl,rfl,rfl⟩
  ·rename_i x hx;obtain⟨e1,e2⟩:=KJ x m.data m.at_ (ff (aU s.w) (nI m.to.val.toNat)) (dk (aU s.w) (nI m.to.val.toNat) (wG s.w)) hm;have e3:∀(t:aF) (i:Nat) (g:ae),gi t i g []=t:=fun _ _ _=>rfl;rw[e2,e3];refine⟨rfl,rfl,rfl,?_⟩;show(s.n.set _ _).map (·.f)=_;rw[List.map_set,e1];have hx': (s.n.map (·.f))[m.to.val.toNat]? =some x.f:=by rw[List.getElem?_map];exact congrArg (Option.map (·.f)) hx
   exact OX hx'
 ·exact⟨rfl,rfl,rfl,rfl⟩
theorem aR.new{c:cT}(hm:ae3 c=true):aR (aeY c):=by
 obtain⟨h0,h1⟩:=Bm c hm;refine⟨N7 h0 h1,?_,?_,?_,fun m hm=>(by cases hm),fun m hm=>(by cases hm),?_,?_⟩
 ·show(uD _).length=(jW c _).length;rw[oT,kT]
 ·show(List.replicate _ true).length=(jW c _).length;rw[List.length_replicate,kT]
 ·intro x hx;obtain⟨k,_,rfl⟩:=List.mem_map.1 hx;exact cw.new _ _ _ _
 ·show(0:Nat)<=512;omega
 ·show uf c=true;rw[<-D4];exact hm
theorem Ef{s:bh}(h:s.ents= []):dm s= []:=by
 have:wS s= []:=by unfold wS;rw[h];simp
 unfold dm;rw[this];rfl
theorem Bx(x:ak): (aeT x).f=x.f:=by unfold aeT;split <;> rfl
theorem OZ(x:ak): (aeT x).t=x.t:=by unfold aeT;split <;> rfl
theorem uW(x:ak): (aeT x).tm=x.tm:=by unfold aeT;split <;> rfl
theorem XK(x:ak)(now:ae): (fQ x now).f=x.f:=by
 unfold fQ;split
 ·split
  ·exact(Bx {x with told:=(Ga x).1}).trans rfl
  ·rfl
 ·rfl
theorem Se(x:ak)(now:ae): (fQ x now).tm=x.tm:=by
 unfold fQ;split
 ·split
  ·exact(uW {x with told:=(Ga x).1}).trans rfl
  ·rfl
 ·rfl
theorem XL(x:ak)(now fine:ae): (jv x now fine).f=x.f:=by
 unfold jv;split
 ·split
  ·dsimp only;simp only[Bx]
  ·simp only[Bx]
 ·rfl
theorem Sf(x:ak)(now fine:ae): (jv x now fine).tm=x.tm:=by
 unfold jv;split
 ·split
  ·dsimp only;simp only[uW]
  ·simp only[uW]
 ·rfl
theorem TD(x:ak)(now:ae): (uC x now).f=x.f:=by simp only[uC]
theorem O4(x:ak)(now:ae): (uC x now).tm=(cI x.tm now).2:=by simp only[uC]
theorem aa7(x:ak)(now:ae): (NV x now).f=x.f:=(XK (Lc x now) now).trans ((Bx (uC x now)).trans (TD x now))
theorem XM(x:ak)(now:ae): (NV x now).tm=(cI x.tm now).2:=(Se (Lc x now) now).trans ((uW (uC x now)).trans (O4 x now))
theorem II(x:ak)(now fine:ae): (fR x now fine).f=x.f:=by
 unfold fR;split
 ·split
  ·exact(XL (NV x now) now fine).trans (aa7 x now)
  ·exact TD x now
 ·rfl
theorem O5{x:ak}{now fine:ae}(h:fP now=true): (fR x now fine).tm=(cI x.tm now).2:=by
 unfold fR;rw[if_pos h];split
 ·exact(Sf (NV x now) now fine).trans (XM x now)
 ·exact O4 x now
theorem O6{x:ak}{now fine:ae}(h: (cI x.tm now).1=false):gQ x now fine= []:=by unfold gQ;rw[h];split <;> rfl
theorem KK{x:ak}{now fine:ae}(h0:fP now=true)(h1: (cI x.tm now).1=true)(h2: (eV (iY x.b)).1=true)(h3:x.t.ents= []):gQ x now fine= [(kG (uC x now) now (Dy x),fine)]:=by
 have he: (uC x now).t.ents= []:=by show(lA x.t now _).ents= [];unfold lA;rw[Ef h3];exact h3
 have h4:dm (uC x now).t= []:=Ef he;have h5:ju (Lc x now) now fine= []/\(NV x now)=Lc x now:=by
  have: (Ga (Lc x now)).2=false:=by
   have e1:dm (Lc x now).t= []:=by have e2: (Lc x now).t=(uC x now).t:=OZ (uC x now);rw[e2];exact h4
   unfold Ga;rw[e1];rfl
  unfold NV ju fQ;rw[if_neg (by rw[this];decide),if_neg (by rw[this];decide)];exact⟨rfl,rfl⟩
 have h6:lD (NV x now) now fine= []:=by
  have: (tn (NV x now)).2=false:=by
   have e1:dm (Lc x now).t= []:=by have e2: (Lc x now).t=(uC x now).t:=OZ (uC x now);rw[e2];exact h4
   rw[h5.2];unfold tn Dv;rw[e1];rfl
  unfold lD;rw[if_neg (by rw[this];decide)]
 unfold gQ;rw[if_pos h0,if_pos h1,h5.1,h6];unfold dA kg;have h7: (eV (uC x now).b).1=true:=by simp only[uC];exact h2
 rw[if_pos h7];simp only[List.append_nil]
def g1:ae:=wG (eK aw0)
def y1(j:Nat):ak:=fR (kJ dv j) (ff tI (nI j)) (dk tI (nI j) g1)
theorem rU{s:aF}{i:Nat}{b:List UInt8}(hw:s.w=tI)(hon:s.on=List.replicate 5 true)(hi:i<5)(hb:KH b)(hl:s.a.length<=20):∀k,k<=5->(sendAll s i b g1 k).a.length=s.a.length+(if i<k then k-1 else k)/\∀m∈(sendAll s i b g1 k).a,m∈s.a∨Ee m
 |0,_=>⟨rfl,fun m hm=> .inl hm⟩
 |k+1,hk=>by
  obtain⟨h1,h2⟩:=rU hw hon hi hb hl k (by omega);have hs:=gL s i b g1 k;rw[kI];generalize sendAll s i b g1 k=t at*;have hbl:b.length<=1000:=by obtain⟨f,hf,_⟩:=hb;rw[hf];exact DV f
  by_cases he:k=i
  ·subst he;rw[uq];refine⟨?_,h2⟩;rw[h1,if_neg (by omega),if_pos (by omega)];rfl
  ·have hon':t.on[k]? =some true:=by rw[hs.on,hon,List.getElem?_replicate,if_pos (by omega)]
   have hp:ig t.a (jT t i b g1 k)=true:=by
    unfold ig;have:t.a.length<512:=by rw[h1];split <;> omega
    have h3: (jT t i b g1 k).data.length<=1000:=hbl;simp[this,h3]
   rw[zP he hon',if_pos hp];have hpf:kH t.a (jT t i b g1 k)=t.a++ [jT t i b g1 k]:=by unfold kH;rw[if_pos hp]
   refine⟨?_,fun m hm=>?_⟩
   ·show(kH t.a (jT t i b g1 k)).length=_;rw[hpf,List.length_append,h1];show _+1=_;split <;> split <;> omega
   ·have hm':m∈kH t.a (jT t i b g1 k):=hm;rw[hpf] at hm';rcases List.mem_append.1 hm' with hm'|hm'
    ·exact h2 m hm'
    ·right;rw[List.mem_singleton.1 hm'];refine⟨hb,?_⟩;show(aeV (g1.val+(jc t.w i k).val)).val<=_;rw[hs.w,hw];have e1:g1.val=16777217:=aa4;have e2:=XI hi (show k<5 by omega);have e3:=(jc tI i k).2;rw[fh (by omega)];omega
structure TE (i:Nat) (s:aF):Prop where
 w:s.w=tI
 on:s.on=List.replicate 5 true
 l:s.n.length=5
 n:∀j,j<5->s.n[j]? =some (if j<i then y1 j else kJ dv j)
 len:s.a.length=4*i
 soft:∀m∈s.a,Ee m
theorem IJ(j:Nat): (kJ dv j).tm=gD dv.2.2.2.2.2.2.2.2.1:=by simp only[kJ,lZ,gN]
theorem XN(j:Nat): (kJ dv j).b=jE dv.2.2.2.2.2.2.2.2.2.1:=by simp only[kJ,lZ,gN]
theorem XO(j:Nat): (kJ dv j).t.ents= []:=by simp only[kJ,lZ,gN,xh]
theorem O7(j:Nat): (kJ dv j).f=(eg (dC dv.2.2.2.2.2.2.2.2.2.2.1) (o3 j)).2:=by simp only[kJ,lZ,gN]
theorem O8{j:Nat}(hj:j<5)(fine:ae):∃f:bX,gQ (kJ dv j) (ff tI (nI j)) fine= [(f,fine)]/\(f.kind=k1∨f.kind=k5):=by
 refine⟨kG (uC (kJ dv j) (ff tI (nI j))) (ff tI (nI j)) (Dy (kJ dv j)),KK (Ed hj) (by rw[IJ];exact Sb hj) (by rw[XN];exact Sd) (XO j),?_⟩;unfold Dy;split
 ·exact .inr rfl
 ·exact .inl rfl
theorem TE.step{i:Nat}{s:aF}(h:TE i s)(hi:i<5):TE (i+1) (fB g1 s i):=by
 have hx:=h.n i hi;rw[if_neg (by omega)] at hx;have hon:s.on[i]? =some true:=by rw[h.on,List.getElem?_replicate,if_pos hi]
 obtain⟨f,ho,hk⟩:=O8 hi (dk tI (nI i) g1);have ht:fB g1 s i=sendAll {s with n:=s.n.set i (y1 i)} i ((nJ f).getD []) g1 5:=by unfold fB;rw[hx];simp only;rw[if_pos hon,h.w,ho];show sendAll _ i _ g1 (s.n.set i _).length=_;rw[List.length_set,h.l];rfl
 have hb:KH ((nJ f).getD []):=⟨f,rfl,hk⟩;have hal:s.a.length<=20:=by rw[h.len];omega
 obtain⟨h1,h2⟩:=rU (s:={s with n:=s.n.set i (y1 i)}) (i:=i) h.w h.on hi hb hal 5 (nL _);have hs:=gL {s with n:=s.n.set i (y1 i)} i ((nJ f).getD []) g1 5;rw[ht];generalize sendAll {s with n:=s.n.set i (y1 i)} i ((nJ f).getD []) g1 5=t at*;refine⟨hs.w.trans h.w,hs.on.trans h.on,?_,fun j hj=>?_,?_,fun m hm=>?_⟩
 ·rw[hs.n];show(s.n.set _ _).length=_;rw[List.length_set];exact h.l
 ·rw[hs.n];show(s.n.set i (y1 i))[j]? =_;by_cases he:i=j
  ·subst he;rw[List.getElem?_set_self (by rw[h.l];exact hi),if_pos (by omega)]
  ·rw[List.getElem?_set_ne he,h.n j hj];by_cases h3:j<i
   ·rw[if_pos h3,if_pos (by omega)]
   ·rw[if_neg h3,if_neg (by omega)]
 ·rw[h1,if_pos hi];show s.a.length+_=_;rw[h.len];omega
 ·rcases h2 m hm with h3|h3
  ·exact h.soft m h3
  ·exact h3
theorem TE.all{s:aF}(h:TE 0 s):∀i,i<=5->TE i (cz g1 s i)
 |0,_=>h
 |i+1,hi=>by rw[je];exact(TE.all h i (by omega)).step (by omega)
structure TF (A:List bf) (i:Nat) (s:aF):Prop where
 w:s.w=KG
 on:s.on=List.replicate 5 true
 l:s.n.length=5
 n:∀j,i<=j->j<5->s.n[j]? =some (y1 j)
 a:s.a=A
 f:∀j,j<5->(s.n.map (·.f))[j]? =some (kJ dv j).f
theorem aa8(j:Nat): (y1 j).f=(kJ dv j).f:=II _ _ _
theorem TF.step{A:List bf}{g:ae}{i:Nat}{s:aF}(h:TF A i s)(hi:i<5):TF A (i+1) (fB g s i):=by
 have hx:=h.n i (nL _) hi;have hon:s.on[i]? =some true:=by rw[h.on,List.getElem?_replicate,if_pos hi]
 have hd: (cI (y1 i).tm (ff KG (nI i))).1=false:=by have: (y1 i).tm=(cI (kJ dv i).tm (ff tI (nI i))).2:=O5 (Ed hi);rw[this,IJ];exact Sc hi
 have ht:fB g s i= {s with n:=s.n.set i (fR (y1 i) (ff KG (nI i)) (dk KG (nI i) g))}:=by unfold fB;rw[hx];simp only;rw[if_pos hon,h.w,O6 hd];rfl
 have hf:=II (y1 i) (ff KG (nI i)) (dk KG (nI i) g);rw[ht];generalize fR (y1 i) (ff KG (nI i)) (dk KG (nI i) g)=y at*;refine⟨h.w,h.on,(List.length_set ..).trans h.l,fun j h1 h2=>?_,h.a,fun j hj=>?_⟩
 ·show(s.n.set i y)[j]? =_;rw[List.getElem?_set_ne (by omega)];exact h.n j (by omega) h2
 ·show((s.n.set i y).map (·.f))[j]? =_;rw[List.map_set,hf,aa8];by_cases he:i=j
  ·subst he;rw[List.getElem?_set_self (by rw[List.length_map,h.l];exact hi)]
  ·rw[List.getElem?_set_ne he];exact h.f j hj
theorem TF.all{A:List bf}{g:ae}{s:aF}(h:TF A 0 s):∀i,i<=5->TF A i (cz g s i)
 |0,_=>h
 |i+1,hi=>by rw[je];exact(TF.all h i (by omega)).step (by omega)
structure TG (A:List bf) (k:Nat) (s:aF):Prop where
 t:s.w.time.val=2
 p:s.w.p=aw0.p
 on:s.on=List.replicate 5 true
 a:s.a=A.drop k
 f:∀j,j<5->(s.n.map (·.f))[j]? =some (kJ dv j).f
theorem TG.step{A:List bf}{k:Nat}{s:aF}(h:TG A k s)(hi:aR s)(hA:∀m∈A,Ee m)(hk:k<A.length): (jf s 0).1=0/\TG A (k+1) (jf s 0).2:=by
 have ha:s.a=A[k]::A.drop (k+1):=by rw[h.a];exact List.drop_eq_getElem_cons hk
 have hm:=hA A[k] (List.getElem_mem hk);have hg:33554432<=(wG s.w).val:=by have h1:=hi.w.s0;have h2:=hi.w.s1;have e: (lF s.w).val=min (s.w.steps.val+1) 16777215:=fh (by omega);unfold wG;rw[h.t,fh (by omega)];omega
 obtain⟨h0,h1,h2,h3,h4⟩:=OY ha hm.1 (by have:=hm.2;omega);exact⟨h0,by rw[h2];exact h.t,by rw[h2];exact h.p,h3.trans h.on,h1,fun j hj=>by rw[h4];exact h.f j hj⟩
theorem TG.all{A:List bf}{s:aF}(h:TG A 0 s)(hi:aR s)(hA:∀m∈A,Ee m):∀k,k<=A.length->TG A k (nP k s)
 |0,_=>h
 |k+1,hk=>((TG.all h hi hA k (by omega)).step (hi.nP k) hA (by omega)).2
theorem KL:Yb (aeY dv):=by
 have hinv:=aR.new Ec;have hn0: (aeY dv).n.length=5:=kT _ _;have t1:fk (aeY dv)=(0,cz g1 {aeY dv with w:=tI} 5):=by unfold fk;rw[hn0,if_pos (show ix (aeY dv).w=true from aa5)];rfl
 have s0:TE 0 {aeY dv with w:=tI}:=⟨rfl,rfl,hn0,fun j hj=>by rw[if_neg (by omega)];show(jW dv 5)[j]? =_;unfold jW;rw[List.getElem?_map,List.getElem?_range hj];rfl,rfl,fun m hm=>by cases hm⟩;have s1:=s0.all 5 (nL _);generalize cz g1 {aeY dv with w:=tI} 5=T1 at*;have t2:fk T1=(0,cz (wG (eK tI)) {T1 with w:=KG} 5):=by unfold fk;rw[s1.l,s1.w,if_pos aa6];rfl
 have u0:TF T1.a 0 {T1 with w:=KG}:=⟨rfl,s1.on,s1.l,fun j _ hj=>by rw[s1.n j hj,if_pos hj],rfl,fun j hj=>by rw[List.getElem?_map];show Option.map _ (T1.n[j]?)=_;rw[s1.n j hj,if_pos hj];exact congrArg some (aa8 j)⟩;have u1:=u0.all (g:=wG (eK tI)) 5 (nL _);generalize cz (wG (eK tI)) {T1 with w:=KG} 5=T2 at*;have e1:lH 1 (aeY dv)=T1:=congrArg (·.2) t1;have e2:lH 2 (aeY dv)=T2:=by show(fk (lH 1 (aeY dv))).2=_;rw[e1,t2]
 have hA:T2.a.length=20:=by rw[u1.a,s1.len]
 have hS:∀m∈T2.a,Ee m:=by rw[u1.a];exact s1.soft
 have v0:TG T2.a 0 T2:=⟨by rw[u1.w];kernel_rfl,by rw[u1.w];rfl,u1.on,rfl,u1.f⟩;have i2:aR T2:=by rw[<-e2];exact hinv.lH 2
 have vk:=v0.all i2 hS;refine⟨hinv,fun k hk=>?_,by rw[e2];exact hA,fun k hk=>?_,?_,fun k hk=>?_⟩
 ·rcases nO k 1 with h|h
  ·have:k=0:=by omega
   subst this;show(fk (aeY dv)).1=0;rw[t1]
  ·have:k=1:=by omega
   subst this;rw[e1,t2]
 ·rw[e2];exact((vk k (by omega)).step (i2.nP k) hS (by omega)).1
 ·rw[e2];have h3:=(vk 20 (by omega)).f 3 (by omega);rw[List.getElem?_map] at h3;obtain⟨x,hx,hf⟩:=Option.map_eq_some_iff.1 h3;refine⟨x,hx,(i2.nP 20).nd x (jA hx),?_⟩;rw[hf,O7];exact(TC (j:=3) (by omega)).1.trans rfl
 ·rw[e2];have h3:=vk 20 (by omega);have hfk:=h3.f k hk;rw[List.getElem?_map] at hfk;obtain⟨x,hx,hf⟩:=Option.map_eq_some_iff.1 hfk;refine⟨by rw[h3.on,List.getElem?_replicate,if_pos hk],x,hx,(i2.nP 20).nd x (jA hx),?_⟩;have hp:uB (nP 20 T2).w k=Dz k:=by have:=(Bu dv k (show k<5 from hk)).1;rw[<-this];unfold uB ia;rw[h3.p];rfl
  rw[hf,hp,O7];exact(TC hk).2
theorem O9(w:World)(m:Int)(hm:w.cell? ⟨0,0,none⟩=some (.int .i64 m)):Calls prog 6 #[] w fun e w'=>e= .returned (.bool true)/\Below w.heap.size w w':=OU w m hm KL
theorem Sh(c:cT)(w:World)(hm:ae3 c=false):Calls prog 8 #[j6 c] w fun e w'=>e= .returned (.pointer none)/\Below w.heap.size w w':=by
 have HN:=qD (fun w=>RV c w hm);have b0: (w.alloc (.cells (bd c) 26)).aI w.heap.size=some (bd c):=by simp[af,aq]
 have B0:Hid (Below w.heap.size w (w.alloc (.cells (bd c) 26))):=(bZ _ w).alloc (nL _) _;clear hm;unfold j6 at*;go_enter func8,ntmps8;go_wp2_with (go_at_call 19;refine qHG (HN.o _) fun w1 B1=>?_);go_ret;exact⟨rfl,B0.o.trans (B1.o.mono (by simp))⟩
theorem Si(c:cT)(w:World)(hm:ae3 c=true):Calls prog 8 #[j6 c] w fun e w'=>∃g p,e= .returned (.pointer (some ⟨g,0,none⟩))/\aS (aeY c) p/\Mem w (fun _=>False) (aG (aeY c) p g) w':=by have HN:=qD (fun w=>IE c w hm);have M0:Hid (Mem w (fun _=>False) [(w.heap.size,.row (bd c))] (w.alloc (.cells (bd c) 26))):=(Mem.none w).alloc;have b0:=M0.o.row (i:=0) rfl;clear hm;generalize aeY c=T at*;unfold j6 at*;go_enter func8,ntmps8;go_wp2_with (go_at_call 19;refine(HN.o _).mono ?_;rintro r w1 ⟨g,p0,rfl,hk0,hM⟩;obtain⟨p,hk,hM3⟩:=Tw (A:=[(w.heap.size,.row (bd c))]) (Mem.perm (Mem.ur M0.o (Gk (A:=[]) hk0 hM)) (List.Perm.swap _ _ _));have HK:=qD hk;have M3:=qD hM3;clear hM hk hM3 hk0);go_ret;exact⟨g,p,rfl,HK.o,M3.o.au⟩
def ae5(e:ae):cT:=(F7 (iN 4 (by decide),iN 4 (by decide),iN 10 (by decide),iN 2 (by decide),e,iN 5 (by decide),())).1
theorem agd(e:ae)(w:World):Calls prog 7 #[.int .i64 4,.int .i64 4,.int .i64 10,.int .i64 2,.int .i64 e.val,.int .i64 5] w fun r w'=>r= .returned (.agg (bd (ae5 e)))/\Below w.heap.size w w':=by have key:=ok7.2 (iN 4 (by decide),iN 4 (by decide),iN 10 (by decide),iN 2 (by decide),e,iN 5 (by decide),()) id w;unfold ae5;generalize F7=G at key ⊢;exact key
theorem agN(e:ae): (ae5 e).2.2.2.2.2.2.2.2.1.val=IntKind.i64.wrap (1+IntKind.i64.wrap (Int.tmod (IntKind.u64.wrap e.val) 6)):=by kernel_rfl
theorem afZ(e:ae): (ae5 e).1.val=5:=by kernel_rfl
theorem ag6(e:ae): (ae5 e).2.1.val=5:=by kernel_rfl
theorem ag7(e:ae): (ae5 e).2.2.1.val=10:=by kernel_rfl
theorem ag8(e:ae): (ae5 e).2.2.2.1.val=2:=by kernel_rfl
theorem ag9(e:ae): (ae5 e).2.2.2.2.1.val=1:=by kernel_rfl
theorem aha(e:ae): (ae5 e).2.2.2.2.2.1.val=10:=by kernel_rfl
theorem ahb(e:ae): (ae5 e).2.2.2.2.2.2.1.val=50:=by kernel_rfl
theorem ahc(e:ae): (ae5 e).2.2.2.2.2.2.2.1.val=30:=by kernel_rfl
theorem agO(e:ae): (ae5 e).2.2.2.2.2.2.2.2.2.1.val=6:=by kernel_rfl
theorem agP(e:ae): (ae5 e).2.2.2.2.2.2.2.2.2.2.1.val=1000000000000:=by kernel_rfl
theorem ahd(e:ae):1<=(ae5 e).2.2.2.2.2.2.2.2.1.val/\(ae5 e).2.2.2.2.2.2.2.2.1.val<=6:=by
 rw[agN];have h0:0<=IntKind.u64.wrap e.val:=by simp only[IntKind.wrap,IntKind.bits,IntKind.signed];have:=Int.emod_nonneg e.val (b:=18446744073709551616) (by decide);simpa using this
 have h1:=Int.tmod_nonneg 6 h0;have h2: (IntKind.u64.wrap e.val).tmod 6<6:=Int.tmod_lt_of_pos _ (by decide);generalize (IntKind.u64.wrap e.val).tmod 6=x at*;have e1:IntKind.i64.wrap x=x:=uG (by omega);have e2:IntKind.i64.wrap (1+x)=1+x:=uG (by omega);rw[e1,e2];omega
theorem afQ(e:ae):ae3 (ae5 e)=true:=by
 rw[aaW];unfold Kv D2;have h9:=ahd e;simp only[afZ,ag6,ag7,ag8,ag9,aha,ahb,ahc,agO,agP];generalize (ae5 e).2.2.2.2.2.2.2.2.1.val=x at*;have hx:jg x 1 1000=true:=by unfold jg;simp;omega
 rw[hx];decide+kernel
def TH(w:World)(a:Option Addr)(l:List (cU×Sl)):Prop:=
 l.length<=9223372036854775807/\(l= []∨∃g o,a=some ⟨g,o,none⟩/\∀k t,l[k]? =some t->w.rangeAt g (o+k*15) (az t.1 t.2).toList)
theorem TH.grown{w w':World}{a:Option Addr}{l:List (cU×Sl)}(h:TH w a l)(hb:Below w.heap.size w w'):TH w' a l:=by
 obtain⟨h0,rfl|⟨g,o,h1,h2⟩⟩:=h
 ·exact⟨h0,.inl rfl⟩
 ·refine⟨h0,.inr ⟨g,o,h1,fun k t ht q u hu=>?_⟩⟩;have h3:=h2 k t ht q u hu;exact(hb.cell (p:=⟨g,o+k*15+q,none⟩) (World.block_lt_of_cell? _ _ h3)).trans h3
def lG(l:List (cU×Sl)):Bool:=decide (l.length<=150)&&l.all fun t=>decide (t.2.n<=1100)
def l9:cU:=⟨i0,i0,i0,eO,eO,bc,i0,0,[]⟩
theorem Eg{l:List (cU×Sl)}{k:Nat}{t:cU×Sl}(h:l[k]? =some t)(hb:150<=k∨1100<t.2.n):lG l=false:=by
 have hk:=(gS.1 h).1;unfold lG;rcases hb with hb|hb
 ·have:¬l.length<=150:=by omega
  simp[this]
 ·have: (l.all fun t=>decide (t.2.n<=1100))=false:=by rw[List.all_eq_false];exact⟨t,List.mem_of_getElem? h,by simp;omega⟩
  rw[this,Bool.and_false]
theorem KM{l:List (cU×Sl)}(h:∀(k:Nat) (t:cU×Sl),l[k]? =some t->k<150/\t.2.n<=1100):lG l=true:=by
 unfold lG;have h1:l.length<=150:=by
  rcases nO 150 l.length with h2|h2
  ·have:=(h 150 _ (gE h2)).1;omega
  ·exact h2
 have h2: (l.all fun t=>decide (t.2.n<=1100))=true:=by rw[List.all_eq_true];intro t ht;obtain⟨k,hk⟩:=List.mem_iff_getElem?.1 ht;simpa using(h k t hk).2
 rw[h2];simp[h1]
theorem Gu(a:Option Addr)(c:Nat)(l:List (cU×Sl))(w:World)(h:TH w a l):Calls prog 16 #[.slice a l.length c] w fun e w'=>e= .returned (.bool (lG l))/\Below w.heap.size w w':=by
 have H:=qD h;have hl:=h.1;obtain⟨rb,hrb⟩:∃b,b=lG l:=⟨_,rfl⟩;rw[<-hrb];have HRB:=qD hrb;clear h hrb;go_enter func16,ntmps16;go_upto_region 2 with(fail)
 go_loopw [7] (fun i wr=>∃k:Nat,k<=l.length/\i= .int .i64 k/\Hid (Below w.heap.size w wr)/\Hid (∀j t,j<k->l[j]? =some t->j<150/\t.2.n<=1100)) (fun i _=>l.length-(intOf i).toNat)
 case atStart=>exact⟨0,by omega,rfl,bZ _ _,fun j t hj=>by omega⟩
 case round=>
  obtain⟨k,hk2,rfl,B,HP⟩:=hrel;by_cases hlt:k<l.length
  ·have hlti: (k:Int)<l.length:=by omega
   obtain⟨t,ht⟩:∃t,l[k]? =some t:=⟨_,gE hlt⟩;obtain⟨_,hnil|⟨g,o,rfl,hex⟩⟩:=H.o.grown B.o
   ·rw[hnil] at hlt;exact absurd hlt (by simp)
   ·have HX:=qD (hex k t ht);have HTT:=qD ht;clear hex ht;go_upto_region 4 with((with_reducible show wpList _ _ _ (⟨some 11,_,_,_,_,_⟩::_) _ _);refine wpList_load_mid rfl 40 _ rfl g (o+k*15) rfl (az t.1 t.2).toList _ HX.o underlying40 rfl (by kernel_rfl) ?_;rw[Array.toArray_toList]);have HZ:#[.int .i64 0,.int .i64 0,.int .i64 0,.int .i64 0,.int .i64 0,.int .i64 0,.int .i64 0,.int .i64 0,.int .i64 0,.int .i64 0,.int .i64 0,.int .i64 0,.int .i64 0,.int .u8 0,.slice none 0 0]=az l9 gO:=rfl;rw[HZ];clear HZ HX;have M2:Hid (Mem w (fun _=>False) [(wr.heap.size,.row (az t.1 t.2))] ((wr.alloc (.cells (az l9 gO) 40)).setCells wr.heap.size 0 (az t.1 t.2).toList)):=(((Mem.none w).below B.o).alloc (cs:=az l9 gO) (t:=40)).bC (i:=0) (cs':=az t.1 t.2) rfl (by simp[tu]);generalize (wr.alloc (.cells (az l9 gO) 40)).setCells wr.heap.size 0 (az t.1 t.2).toList=w2 at*;generalize wr.heap.size=gt at*;have c8:w2.cell? ⟨gt,14,none⟩=some (.slice t.2.a t.2.n t.2.c):=M2.o.cell (i:=0) (k:=14) rfl rfl;clear B H;by_cases h150: (150:Int)<=k
    ·have hrf:rb=false:=by rw[HRB.o];exact Eg HTT.o (.inl (by omega))
     subst hrf;go_wp2;go_ret;exact⟨rfl,M2.o.mh.below⟩
    ·by_cases hn: (1100:Int)<t.2.n
     ·have hrf:rb=false:=by rw[HRB.o];exact Eg HTT.o (.inr (by omega))
      subst hrf;go_wp2;go_ret;exact⟨rfl,M2.o.mh.below⟩
     ·go_wp2;go_roundw
      case rel=>exact⟨k+1,by omega,by go_num,M2.o.mh.below,fun j t' hj ht'=>by
       rcases nO j k with h|h
       ·exact HP.o j t' h ht'
       ·have:j=k:=by omega
        subst this;rw[HTT.o] at ht';cases ht';exact⟨by omega,by omega⟩⟩
      case measure=>simp[intOf];omega
  ·have hkn:k=l.length:=by omega
   subst hkn;have hrt:rb=true:=by rw[HRB.o];exact KM fun k t ht=>HP.o k t (gS.1 ht).1 ht
   subst hrt;go_wp2;go_ret;exact⟨rfl,B.o⟩
theorem Pc(a:Option Addr)(c:Nat)(l:List (cU×Sl))(w:World)(h:TH w a l):Calls prog 5 #[.slice a l.length c] w fun e w'=>e= .returned (.bool (lG l))/\Below w.heap.size w w':=by have H:=qD (Gu a c l w h);clear h;go_enter func5,ntmps5;go_wp2_with (go_at_call 16;refine qHG H.o fun w1 B1=>?_);go_ret;exact⟨rfl,B1.o⟩
theorem aa9(s:aF)(g:Nat)(t:cU)(v:Sl)(F:Nat->Prop)(w:World)(hi:aR s)(hr:Rd w (.slice v.a v.n v.c) t.data)(hrn:t.data≠[]->∀ad,v.a=some ad->¬F ad.block/\ad.block<w.heap.size)(h: (fA s).rep g F w):Calls prog 9 #[.pointer (some ⟨g,0,none⟩),.agg (az t v)] w fun r w'=>(r= .returned (.int .i64 (Bq s t).1)/\(Bq s t).2.n.length=s.n.length)/\kE (fA (Bq s t).2) g F w w':=by obtain⟨p,hk,hs⟩:=h;refine(XC s p g t v F w hk hi hr hrn hs).mono ?_;rintro r w' ⟨p',⟨rfl,hk',hpk⟩,hM⟩;refine⟨⟨rfl,by rw[hk'.n,hpk,hk.n]⟩,?_⟩;obtain⟨F',h1,h2,h3⟩:=hM;exact⟨F',⟨p',hk',h1⟩,h2,h3⟩
theorem Pd{s:aF}{g k:Nat}{F:Nat->Prop}{w:World}{x:ak}(h: (fA s).rep g F w)(hx:s.n[k]? =some x)(hi:cw x):∃b,(Calls prog 10 #[.pointer (some ⟨g,0,none⟩),.int .i64 (k:Int)] w fun e w'=>e= .returned (.pointer (some ⟨b,0,none⟩))/\w'=w)/\
  (Calls prog 11 #[.pointer (some ⟨b,0,none⟩)] w fun r w'=>∃v,r= .returned (.agg (dF x.f.2.1 x.f.2.2 v))/\Own w' w.heap.size 50 10 aJ v (dm x.t)/\Below w.heap.size w w')/\(dm x.t).length<=64:=by
 obtain⟨p,hk,hs⟩:=h;have hjk:k<p.k:=by rw[<-hk.n];exact(gS.1 hx).1
 obtain⟨b,hb⟩:∃b,p.ns[k]? =some b:=⟨_,gE (by rw[hk.ns];exact hjk)⟩;obtain⟨F1,h1⟩:=(Mem.start hs).rep (DW hx hb);obtain⟨a,ha,h2⟩:=id h1;obtain⟨F2,h3⟩:=(Mem.start h2).rep (i:=2) rfl;exact⟨b,rO s p g k b F w hk hb hs,qz x b F1 w hi h1,Bi hi.t.1 h3⟩
theorem Pe{s:aF}{g:Nat}{F:Nat->Prop}{w:World}(h: (fA s).rep g F w):Calls prog 14 #[.pointer (some ⟨g,0,none⟩)] w fun e w'=>e= .returned (.int .i64 s.a.length)/\w'=w:=by obtain⟨p,hk,hs⟩:=h;exact Iv s p g F w hs
theorem IK{s:aF}{g:Nat}{F:Nat->Prop}{w:World}(h: (fA s).rep g F w):Calls prog 15 #[.pointer (some ⟨g,0,none⟩)] w fun e w'=>e= .returned (.int .i64 s.w.time.val)/\w'=w:=by obtain⟨p,hk,hs⟩:=h;exact Of s p g F w hs
def KN(s:aF)(l:List (cU×Sl)):aF:=l.foldl (fun s t=>(Bq s t.1).2) s
theorem KO(s:aF)(l:List (cU×Sl))(t:cU×Sl):KN s (l++ [t])=(Bq (KN s l) t.1).2:=by unfold KN;rw[List.foldl_append];rfl
theorem aR.run{s:aF}(h:aR s)(l:List (cU×Sl)):aR (KN s l):=by
 induction l generalizing s with
 |nil=>exact h
 |cons t l ih=>exact ih (h.do_ t.1)
def InD(w:World)(l:List (cU×Sl)):Prop:=∀t∈l,Rd w (.slice t.2.a t.2.n t.2.c) t.1.data
theorem Rd.lt{w:World}{a:Option Addr}{n c:Nat}{b:List UInt8}(h:Rd w (.slice a n c) b)(hb:b≠[]):∀ad,a=some ad->ad.block<w.heap.size:=by obtain⟨a',c',h1,_,h3⟩:=h;injection h1 with e1 e2 e3;subst e1;obtain⟨x,r,rfl⟩:=List.exists_cons_of_ne_nil hb;obtain⟨g,o,h4,h5⟩:=h3 0 x rfl;intro ad ha;rw[h4] at ha;cases ha;exact World.block_lt_of_cell? _ _ h5
section
variable {H:Type} {enc:TypeId×Value->H} {w:World} {base:Nat} {spare:Nat->Bool} {held:Bool}
def aba(n:Int)(h: (Lit.int .i64 n).wf=true):ae:=⟨n,bounds_i64 h⟩
theorem KP{fuel:Nat}{cs:List Value}{x:DataW H×List MemPlace}(h:DataW.trod enc prog w base spare held fuel 38 cs=some x):∃(v:Sl) (b:List UInt8),cs= [.slice v.a v.n v.c]/\Rd w (.slice v.a v.n v.c) b:=by
 rcases open_ints underlying38 underlying5 (by kernel_rfl) h with⟨rfl,_⟩|⟨a,len,cap,zs,rfl,_,hl,hm,hz,_,hcell,hwz⟩
 ·exact⟨⟨none,0,0⟩,[],rfl,none,0,rfl,nL _,fun q x hx=>by cases hx⟩
 ·have hzl:len<=zs.length:=by rw[hz];split <;> omega
  refine⟨⟨some a,len,cap⟩,(zs.take len).map fun z=>UInt8.ofNat z.toNat,rfl,some a,cap,by simp[Nat.min_eq_left hzl],by simp;omega,fun q x hx=>?_⟩;rw[List.getElem?_map] at hx;obtain⟨z,hz1,rfl⟩:=Option.map_eq_some_iff.1 hx;have hq:q<len:=by have:=(gS.1 hz1).1;simp at this;omega
  have hz2:zs[q]? =some z:=by rw[List.getElem?_take_of_lt hq] at hz1;exact hz1
  obtain⟨g,o,sp⟩:=a;have hc0:=hcell 0 (by omega);have hsp:sp=none:=by simpa[Addr.add] using World.cell?_spot hc0
  subst hsp;have hc:=hcell q (by omega);have hb:=bounds_u8 (hwz z (List.mem_of_getElem? hz2));refine⟨g,o,rfl,?_⟩;have e1:zs.getD q 0=z:=by rw[List.getD_eq_getElem?_getD,hz2];rfl
  rw[e1] at hc;have e2: ((UInt8.ofNat z.toNat).toNat:Int)=z:=by rw[UInt8.toNat_ofNat',nM (by omega)];omega
  rw[e2];have e3: (⟨g,o,none⟩:Addr).add q=⟨g,o+q,none⟩:=Addr.add_mid g o q;rw[e3] at hc;exact hc
theorem o8{t:TypeId}{fs:Array Field}{fuel:Nat}{cs:List Value}{x:DataW H×List MemPlace}(ht:prog.underlying t=some (.struct fs))(h:DataW.trod enc prog w base spare held fuel t cs=some x):cs.length=prog.cellsOf t/\∀(i:Nat) (f:Field),fs[i]? =some f->∃n y,DataW.trod enc prog w base spare held n f.type ((cs.drop f.offset).take (prog.cellsOf f.type))=some y:=by obtain⟨xs,n,_,_,hl,hx,hf⟩:=DataW.trod_struct ht h;refine⟨hl,fun i f hi=>⟨n,xs[i]'(by rw[hx];exact(Array.getElem?_eq_some_iff.1 hi).1),?_⟩⟩;rw[hf i f hi,gE]
theorem da{t:TypeId}{fuel:Nat}{cs:List Value}{x:DataW H×List MemPlace}(ht:prog.underlying t=some (.int .i64))(h:DataW.trod enc prog w base spare held fuel t cs=some x):∃y:ae,cs= [.int .i64 y.val]:=by obtain⟨n,h1,_,h3⟩:=DataW.trod_int ht h;exact⟨aba n h3,h1⟩
theorem aec{α:Type}:∀{l:List α},l.length=2->∃a b,l= [a,b]
 | [a,b],_=>⟨a,b,rfl⟩
theorem By{fuel:Nat}{cs:List Value}{x:DataW H×List MemPlace}(h:DataW.trod enc prog w base spare held fuel 33 cs=some x):∃p:fX,cs=(bg p).toList:=by
 obtain⟨hl,hf⟩:=o8 underlying33 h;have h2:cs.length=2:=hl.trans (by kernel_rfl);have hc:prog.cellsOf 2=1:=by kernel_rfl
 obtain⟨a,b,rfl⟩:=aec h2;obtain⟨n0,y0,f0⟩:∃n y,DataW.trod enc prog w base spare held n 2 (([a,b].drop 0).take (prog.cellsOf 2))=some y:=hf 0 _ rfl;obtain⟨n1,y1,f1⟩:∃n y,DataW.trod enc prog w base spare held n 2 (([a,b].drop 1).take (prog.cellsOf 2))=some y:=hf 1 _ rfl;rw[hc] at f0 f1;obtain⟨u,hu⟩:=da underlying2 f0;obtain⟨v,hv⟩:=da underlying2 f1;simp at hu hv;subst hu hv;exact⟨(u,v,()),rfl⟩
theorem aed{α:Type}:∀{l:List α},l.length=3->∃a b c,l= [a,b,c]
 | [a,b,c],_=>⟨a,b,c,rfl⟩
theorem aee{α:Type}:∀{l:List α},l.length=5->∃a b c d e,l= [a,b,c,d,e]
 | [a,b,c,d,e],_=>⟨a,b,c,d,e,rfl⟩
theorem abb{α:Type}:∀{l:List α},l.length=15->∃a b c d e f g h i j k m n o p,l= [a,b,c,d,e,f,g,h,i,j,k,m,n,o,p]
 | [a,b,c,d,e,f,g,h,i,j,k,m,n,o,p],_=>⟨a,b,c,d,e,f,g,h,i,j,k,m,n,o,p,rfl⟩
theorem Pf{fuel:Nat}{cs:List Value}{x:DataW H×List MemPlace}(h:DataW.trod enc prog w base spare held fuel 35 cs=some x):∃u v z:ae,cs= [.int .i64 u.val,.int .i64 v.val,.int .i64 z.val]:=by
 obtain⟨hl,hf⟩:=o8 underlying35 h;have hc:prog.cellsOf 2=1:=by kernel_rfl
 obtain⟨a,b,c,rfl⟩:=aed (hl.trans (by kernel_rfl));obtain⟨n0,y0,f0⟩:∃n y,DataW.trod enc prog w base spare held n 2 (([a,b,c].drop 0).take (prog.cellsOf 2))=some y:=hf 0 _ rfl;obtain⟨n1,y1,f1⟩:∃n y,DataW.trod enc prog w base spare held n 2 (([a,b,c].drop 1).take (prog.cellsOf 2))=some y:=hf 1 _ rfl;obtain⟨n2,y2,f2⟩:∃n y,DataW.trod enc prog w base spare held n 2 (([a,b,c].drop 2).take (prog.cellsOf 2))=some y:=hf 2 _ rfl;rw[hc] at f0 f1 f2;obtain⟨u,hu⟩:=da underlying2 f0;obtain⟨v,hv⟩:=da underlying2 f1;obtain⟨z,hz⟩:=da underlying2 f2;simp at hu hv hz;subst hu hv hz;exact⟨u,v,z,rfl⟩
theorem Pg{fuel:Nat}{cs:List Value}{x:DataW H×List MemPlace}(h:DataW.trod enc prog w base spare held fuel 37 cs=some x):∃p:bR,cs=(aB p).toList:=by
 obtain⟨hl,hf⟩:=o8 underlying37 h;have hc:prog.cellsOf 33=2:=by kernel_rfl
 have hc2:prog.cellsOf 35=3:=by kernel_rfl
 obtain⟨a,b,c,d,e,rfl⟩:=aee (hl.trans (by kernel_rfl));obtain⟨n0,y0,f0⟩:∃n y,DataW.trod enc prog w base spare held n 33 (([a,b,c,d,e].drop 0).take (prog.cellsOf 33))=some y:=hf 0 _ rfl;obtain⟨n1,y1,f1⟩:∃n y,DataW.trod enc prog w base spare held n 35 (([a,b,c,d,e].drop 2).take (prog.cellsOf 35))=some y:=hf 1 _ rfl;rw[hc] at f0;rw[hc2] at f1;obtain⟨q,hq⟩:=By f0;obtain⟨u,v,z,hm⟩:=Pf f1;simp[bg] at hq hm;obtain⟨rfl,rfl⟩:=hq;obtain⟨rfl,rfl,rfl⟩:=hm;exact⟨(q.1,q.2.1,u,v,z,()),rfl⟩
theorem KR{fuel:Nat}{cs:List Value}{x:DataW H×List MemPlace}(h:DataW.trod enc prog w base spare held fuel 40 cs=some x):∃(t:cU) (v:Sl),cs=(az t v).toList/\Rd w (.slice v.a v.n v.c) t.data:=by
 obtain⟨hl,hf⟩:=o8 underlying40 h;have hc3:prog.cellsOf 3=1:=by kernel_rfl
 have hc33:prog.cellsOf 33=2:=by kernel_rfl
 have hc37:prog.cellsOf 37=5:=by kernel_rfl
 have hc5:prog.cellsOf 5=1:=by kernel_rfl
 have hc38:prog.cellsOf 38=1:=by kernel_rfl
 obtain⟨c1,c2,c3,c4,c5,c6,c7,c8,c9,c10,c11,c12,c13,c14,c15,rfl⟩:=abb (hl.trans (by kernel_rfl));obtain⟨n0,y0,f0⟩:∃n y,DataW.trod enc prog w base spare held n 3 (([c1,c2,c3,c4,c5,c6,c7,c8,c9,c10,c11,c12,c13,c14,c15].drop 0).take (prog.cellsOf 3))=some y:=hf 0 _ rfl;obtain⟨n1,y1,f1⟩:∃n y,DataW.trod enc prog w base spare held n 3 (([c1,c2,c3,c4,c5,c6,c7,c8,c9,c10,c11,c12,c13,c14,c15].drop 1).take (prog.cellsOf 3))=some y:=hf 1 _ rfl;obtain⟨n2,y2,f2⟩:∃n y,DataW.trod enc prog w base spare held n 3 (([c1,c2,c3,c4,c5,c6,c7,c8,c9,c10,c11,c12,c13,c14,c15].drop 2).take (prog.cellsOf 3))=some y:=hf 2 _ rfl;obtain⟨n3,y3,f3⟩:∃n y,DataW.trod enc prog w base spare held n 33 (([c1,c2,c3,c4,c5,c6,c7,c8,c9,c10,c11,c12,c13,c14,c15].drop 3).take (prog.cellsOf 33))=some y:=hf 3 _ rfl;obtain⟨n4,y4,f4⟩:∃n y,DataW.trod enc prog w base spare held n 33 (([c1,c2,c3,c4,c5,c6,c7,c8,c9,c10,c11,c12,c13,c14,c15].drop 5).take (prog.cellsOf 33))=some y:=hf 4 _ rfl;obtain⟨n5,y5,f5⟩:∃n y,DataW.trod enc prog w base spare held n 37 (([c1,c2,c3,c4,c5,c6,c7,c8,c9,c10,c11,c12,c13,c14,c15].drop 7).take (prog.cellsOf 37))=some y:=hf 5 _ rfl;obtain⟨n6,y6,f6⟩:∃n y,DataW.trod enc prog w base spare held n 3 (([c1,c2,c3,c4,c5,c6,c7,c8,c9,c10,c11,c12,c13,c14,c15].drop 12).take (prog.cellsOf 3))=some y:=hf 6 _ rfl;obtain⟨n7,y7,f7⟩:∃n y,DataW.trod enc prog w base spare held n 5 (([c1,c2,c3,c4,c5,c6,c7,c8,c9,c10,c11,c12,c13,c14,c15].drop 13).take (prog.cellsOf 5))=some y:=hf 7 _ rfl;obtain⟨n8,y8,f8⟩:∃n y,DataW.trod enc prog w base spare held n 38 (([c1,c2,c3,c4,c5,c6,c7,c8,c9,c10,c11,c12,c13,c14,c15].drop 14).take (prog.cellsOf 38))=some y:=hf 8 _ rfl;rw[hc3] at f0 f1 f2 f6;rw[hc33] at f3 f4;rw[hc37] at f5;rw[hc5] at f7;rw[hc38] at f8;obtain⟨t0,h0⟩:=da underlying3 f0;obtain⟨t1,h1⟩:=da underlying3 f1;obtain⟨t2,h2⟩:=da underlying3 f2;obtain⟨t3,h3⟩:=By f3;obtain⟨t4,h4⟩:=By f4;obtain⟨t5,h5⟩:=Pg f5;obtain⟨t6,h6⟩:=da underlying3 f6;obtain⟨z,h7,_,hz⟩:=DataW.trod_int underlying5 f7;obtain⟨v,bs,h8,hr⟩:=KP f8;have hzb:=bounds_u8 hz;have hz2: ((UInt8.ofNat z.toNat).toNat:Int)=z:=by rw[UInt8.toNat_ofNat',nM (by omega)];omega
 refine⟨⟨t0,t1,t2,t3,t4,t5,t6,UInt8.ofNat z.toNat,bs⟩,v,?_,hr⟩;simp[bg,aB] at h0 h1 h2 h3 h4 h5 h6 h7 h8;simp[az,h0,h1,h2,h3,h4,h5,h6,h7,h8];omega
instance:Inhabited (cU×Sl):=⟨(⟨i0,i0,i0,eO,eO,bc,i0,0,[]⟩,gO)⟩
theorem Eh{fuel:Nat}{a:Option Addr}{len cap:Nat}{x:DataW H×List MemPlace}(h:DataW.trod enc prog w base spare held fuel 22 [.slice a len cap]=some x):∃l:List (cU×Sl),len=l.length/\TH w a l/\InD w l:=by
 rcases Go.Deep.open_slice underlying22 h with⟨hcs,_⟩|⟨ad,len',cap',m,n,D,Pl,hcs,_,hl,hm,hmm,_,hx⟩
 ·simp at hcs;obtain⟨rfl,rfl,rfl⟩:=hcs;exact⟨[],rfl,⟨by simp,.inl rfl⟩,fun t ht=>by cases ht⟩
 ·simp at hcs;obtain⟨rfl,rfl,rfl⟩:=hcs;have hc:prog.cellsOf 40=15:=by kernel_rfl
  rw[hc] at hx;have hlm:len<=m:=by rw[hmm];split <;> omega
  obtain⟨T,hT⟩:=Go.Deep.choose_lt (α:=cU×Sl) (n:=len) (p:=fun i t=>w.cells? base (ad.add (i*15)) 15=some (az t.1 t.2).toList/\Rd w (.slice t.2.a t.2.n t.2.c) t.1.data) (fun i hi=>by obtain⟨cs',h1,h2⟩:=hx i (by omega);obtain⟨t,v,rfl,hr⟩:=KR h2;exact⟨(t,v),h1,hr⟩);have hg:∃g o,len=0∨ad=⟨g,o,none⟩:=by
   obtain⟨g,o,sp⟩:=ad;by_cases h0:len=0
   ·exact⟨g,o,.inl h0⟩
   ·obtain⟨_,_,hcl⟩:=World.cells?_some (hT 0 (by omega)).1;have h1:=hcl 0 (by omega);have h2:w.cell? ⟨g,o,sp⟩=some (az (T 0).1 (T 0).2)[0]! :=by simpa[Addr.add,az] using h1
    exact⟨g,o,.inr (by have h3:sp=none:=World.cell?_spot h2;rw[h3])⟩
  obtain⟨g,o,hgo⟩:=hg;refine⟨(List.range len).map T,by simp,⟨by have e:maxLen=9223372036854775807:=rfl;simp only[List.length_map,List.length_range];omega,?_⟩,fun t ht=>?_⟩
  ·by_cases h0:len=0
   ·left;simp[h0]
   ·right;obtain rfl:=hgo.resolve_left h0;refine⟨g,o,rfl,fun k t ht q u hu=>?_⟩;rw[List.getElem?_map] at ht;obtain⟨k',hk,rfl⟩:=Option.map_eq_some_iff.1 ht;obtain⟨hk1,hk2⟩:=gS.1 hk;simp at hk1 hk2;subst hk2;obtain⟨_,hlen,hcl⟩:=World.cells?_some (hT k hk1).1;have hq:q<15:=by have:=(gS.1 hu).1;rw[hlen] at this;exact this
    have:=hcl q hq;rw[Addr.add_mid,Addr.add_mid] at this;rw[this];exact hu
  ·obtain⟨k,hk,rfl⟩:=List.mem_map.1 ht;exact(hT k (List.mem_range.1 hk)).2
end
end
end Go.Proofs.Yq
namespace Go.Proofs.Yq
open ChangeShapes WideShapes ChangeAt RowKit
open Tryz
theorem Ei{H:Type}{enc:TypeId×Value->H}{a:Assume}{C:Checked}{os:Os}{f:FuncId}{fn:Func}{s:ChangeSpec}{conds:List PathCond}{apart fresh handsOn again:Bool}{X:World->Array Value->Prop}
  (own:ownKnob C.prog.godebug=none) (started:os.Started) (noInit:C.prog.inits.idxOf? f=none) (hfn:C.prog.funcs[f]? =some fn)
  (witness:∃(w:World) (tape:Tape) (i:Input),w.os=os/\(w.forCall tape i).Shaped C.prog/\i.vars= []/\Input.okWide C.prog (w.forCall tape i) .any w.heap.size f i/\
   ((s.pre enc C.prog fn conds apart (w.forCall tape i).memory i.args/\X (w.forCall tape i).memory i.args)/\sizedMet enc C.prog fn (OpenSpec.ofChange s) apart (w.forCall tape i).memory i.args)/\a.holds C.prog (lone (Frame.enter C.prog f i.args .normal) [] (w.forCall tape i)))
  (contract:∀(W:World) (base:Nat) (args:Array Value) (ds gs:List (DataW H)) (before:List MemPlace),
   (∀(j:Nat) t v,fn.params[j]? =some t->args[j]? =some v->Value.okWide C.prog W .any base t v)->
   DataW.Whole enc C.prog fn.params.toList s.vars apart W args.toList ds gs before->W.ShapedOpen C.prog->
   Calls C.prog f args W fun e W'=>∃v,e= .returned v/\s.post enc C.prog fn apart fresh handsOn again W args v W'):
  ReturnsInHanded a C os f .any (fun w args=>(s.pre enc C.prog fn conds apart w args/\X w args)/\sizedMet enc C.prog fn (OpenSpec.ofChange s) apart w args) (s.post enc C.prog fn apart fresh handsOn again):=by
 refine returnsInHanded_of_calls own started noInit witness ?_;intro w tape i _ hsh _ hok hpre _;obtain⟨_,_,_,fn',hfn',_,_,_,_,hval⟩:=hok;obtain rfl:fn'=fn:=Option.some.inj (hfn'.symm.trans hfn);obtain⟨⟨⟨ds,gs,before,hw,_⟩,_⟩,_⟩:=hpre;refine(contract (w.forCall tape i) w.heap.size i.args ds gs before hval (DataW.Whole.of_heap (w':=w.forCall tape i) (by rfl) hw) hsh).mono fun e W' ⟨v,he,hp⟩=>?_;subst he;exact ChangeSpec.post_blind hp
end Go.Proofs.Yq
