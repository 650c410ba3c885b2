/- A part of the proof. No condition. -/
import Derived.Scope
import Derived.Maps.OwnOps
import Derived.Shelf.SlIterI.Nil
import Derived.Shelf.SortM.Plain
import Derived.Shelf.SortM.SortNone
import Derived.Test.YtpbehfbomkochaaGreatDoorProg
import Derived.Laws.StructEq
import Derived.Test.YtpbehfbomkochaaGreatDoorC00
set_option linter.unusedVariables false
set_option linter.unusedSectionVars false
set_option linter.unusedSimpArgs false
namespace Go.Ev
open RowKit Go.Sort
section
variable {Ω:Type} [jX Ω]
def tT(cx:Cx Ω)(fe:Fe Ω)(ops:Array Oper):List Oper->List (MV Ω)->Hp Ω->Tree (List (Tr Ω)×St Ω)
 | [],tm,H=> .leaf ([],(tm,H))
 |o::rest,tm,H=>match jO ops o tm with
  | .yes=>(vG cx fe o.op o.type (cG tm) H).bind fun e=>(tT cx fe ops rest (km tm o.dst e.x) (e.ac.app H)).map fun y=>(e::y.1,y.2)
  | .no=>(tT cx fe ops rest (km tm o.dst (.c undef)) H).map fun y=>(⟨.c undef,.no⟩::y.1,y.2)
  | .sym d b want=> .ite (b==want)
   ((vG cx fe o.op o.type (cG (tm.set d (.c (.bool want)))) H).bind fun e=>(tT cx fe ops rest (km (tm.set d (.c (.bool want))) o.dst e.x) (e.ac.app H)).map fun y=>(e::y.1,y.2))
   ((tT cx fe ops rest (km (tm.set d (.c (.bool (!want)))) o.dst (.c undef)) H).map fun y=>(⟨.c undef,.no⟩::y.1,y.2))
def SE(cx:Cx Ω)(fe:Fe Ω)(ops:Array Oper)(tmf:Nat->List (MV Ω))(Hf:Nat->Hp Ω)(tr:Nat->Tr Ω)(W:Nat->Bool)(j:Nat):Prop:=
 ∃o tm',ops[j]? =some o/\(∀r,aE r tm'=aE r (tmf j))/\(∀r (a:Act),a.tmps=(aE r (tmf j)).toArray->Region.wanted o (yielded ops a.tmps)=W j)/\
  (W j=true->(vG cx fe o.op o.type (cG tm') (Hf j)).pick=some (tr j))/\(W j=false->tr j=⟨.c undef,.no⟩)/\tmf (j+1)=km tm' o.dst (tr j).x/\Hf (j+1)=(tr j).ac.app (Hf j)
theorem qU{tm:List (MV Ω)}{d:Tmp}{b c:Bool}(h:tm[d]? =some (.v (.bool b)))(e:b=c)(r:Nat->Nat):aE r (tm.set d (.c (.bool c)))=aE r tm:=by subst e;exact lQ h r
theorem yw{cx:Cx Ω}{fe:Fe Ω}{ops:Array Oper}:∀(l:List Oper) (k:Nat) (tm:List (MV Ω)) (H:Hp Ω) (trs:List (Tr Ω)) (s':St Ω),(tT cx fe ops l tm H).pick=some (trs,s')->(∀j,l[j]? =ops[k+j]?)->
  ∃(tmf:Nat->List (MV Ω)) (Hf:Nat->Hp Ω) (tr:Nat->Tr Ω) (W:Nat->Bool),tmf k=tm/\Hf k=H/\tmf (k+l.length)=s'.1/\Hf (k+l.length)=s'.2/\(∀j,trs[j]? =if j<l.length then some (tr (k+j)) else none)/\
   ∀j,k<=j->j<k+l.length->SE cx fe ops tmf Hf tr W j
 | [],k,tm,H,trs,s',h,hl=>by have h:=aw h;cases h;exact⟨fun _=>tm,fun _=>H,fun _=>⟨.c undef,.no⟩,fun _=>true,rfl,rfl,rfl,rfl,fun j=>by simp,fun j h1 h2=>by simp at h2;omega⟩
 |o::l,k,tm,H,trs,s',h,hl=>by
  have h0:ops[k]? =some o:=by simpa using(hl 0).symm
  have hl':∀j,l[j]? =ops[k+1+j]?:=fun j=>by have:=hl (j+1);simpa[Nat.add_assoc,Nat.add_comm 1 j] using this
  have gen:∀(tm':List (MV Ω)) (e:Tr Ω) (b:Bool) (y:List (Tr Ω)×St Ω),(tT cx fe ops l (km tm' o.dst e.x) (e.ac.app H)).pick=some y->(trs,s')=(e::y.1,y.2)->(∀r,aE r tm'=aE r tm)->
    (∀r (a:Act),a.tmps=(aE r tm).toArray->Region.wanted o (yielded ops a.tmps)=b)->(b=true->(vG cx fe o.op o.type (cG tm') H).pick=some e)->(b=false->e=⟨.c undef,.no⟩)->
    ∃(tmf:Nat->List (MV Ω)) (Hf:Nat->Hp Ω) (tr:Nat->Tr Ω) (W:Nat->Bool),tmf k=tm/\Hf k=H/\tmf (k+(o::l).length)=s'.1/\Hf (k+(o::l).length)=s'.2/\(∀j,trs[j]? =if j<(o::l).length then some (tr (k+j)) else none)/\
     ∀j,k<=j->j<k+(o::l).length->SE cx fe ops tmf Hf tr W j:=by
   intro tm' e b y hy he hc hw h1 h2;cases he;obtain⟨tmf,Hf,tr,W,q1,q2,q3,q4,q5,q6⟩:=yw l (k+1) _ _ y.1 y.2 hy hl';refine⟨fun j=>if j=k then tm else tmf j,fun j=>if j=k then H else Hf j,fun j=>if j=k then e else tr j,fun j=>if j=k then b else W j,by simp,by simp,?_,?_,?_,?_⟩
   ·simp only[List.length_cons];rw[if_neg (by omega),show k+(l.length+1)=k+1+l.length by omega];exact q3
   ·simp only[List.length_cons];rw[if_neg (by omega),show k+(l.length+1)=k+1+l.length by omega];exact q4
   ·intro j;cases j with
    |zero=>simp
    |succ j=>
     simp only[List.getElem?_cons_succ,List.length_cons,q5 j];by_cases hj:j<l.length
     ·rw[if_pos hj,if_pos (by omega),if_neg (by omega),show k+(j+1)=k+1+j by omega]
     ·rw[if_neg hj,if_neg (by omega)]
   ·intro j hj1 hj2;by_cases e1:j=k
    ·subst e1;refine⟨o,tm',h0,?_,?_,?_,?_,?_,?_⟩
     ·simpa using hc
     ·simpa using hw
     ·simpa using h1
     ·simpa using h2
     ·simp[q1]
     ·simp[q2]
    ·obtain⟨o',tm'',a1,a2,a3,a4,a5,a6,a7⟩:=q6 j (by omega) (by simp at hj2;omega);refine⟨o',tm'',a1,?_,?_,?_,?_,?_,?_⟩
     ·simpa[e1] using a2
     ·simpa[e1] using a3
     ·simpa[e1] using a4
     ·simpa[e1] using a5
     ·simp only[e1,if_false];rw[if_neg (by omega)];exact a6
     ·simp only[e1,if_false];rw[if_neg (by omega)];exact a7
  unfold tT at h;cases hv:jO ops o tm with
  |yes=>
   rw[hv] at h;obtain⟨e,h1,h2⟩:=Tree.ct _ _ _ h;obtain⟨y,h3,h4⟩:=Tree.fD _ _ _ h2;exact gen tm e true y h3 h4.symm (fun _=>rfl) (fun r a ha=>by have:=fK (ops:=ops) (o:=o) ha;rw[hv] at this;exact this) (fun _=>h1) (fun h=>by cases h)
  |no=>
   rw[hv] at h;obtain⟨y,h3,h4⟩:=Tree.fD _ _ _ h;exact gen tm ⟨.c undef,.no⟩ false y h3 h4.symm (fun _=>rfl) (fun r a ha=>by have:=fK (ops:=ops) (o:=o) ha;rw[hv] at this;exact this) (fun h=>by cases h) (fun _=>rfl)
  |sym d b want=>
   rw[hv] at h;have hd:tm[d]? =some (.v (.bool b)):=by have:=fK (ops:=ops) (o:=o) (r:=fun _=>0) (a:=⟨(aE (fun _=>0) tm).toArray,[]⟩) (tm:=tm) rfl;rw[hv] at this;exact this.2
   have hwt:∀q,(b==want)=q->∀r (a:Act),a.tmps=(aE r tm).toArray->Region.wanted o (yielded ops a.tmps)=q:=fun q hq r a ha=>by have:=fK (ops:=ops) (o:=o) ha;rw[hv] at this;rw[this.1,hq]
   cases hq:b==want
   ·simp only[hq,Tree.pick] at h;obtain⟨y,h3,h4⟩:=Tree.fD _ _ _ h;exact gen _ ⟨.c undef,.no⟩ false y h3 h4.symm (qU hd (by cases b <;> cases want <;> simp_all)) (hwt _ hq) (fun h=>by cases h) (fun _=>rfl)
   ·simp only[hq,Tree.pick] at h;obtain⟨e,h1,h2⟩:=Tree.ct _ _ _ h;obtain⟨y,h3,h4⟩:=Tree.fD _ _ _ h2;exact gen _ e true y h3 h4.symm (qU hd (by simpa using hq)) (hwt _ hq) (fun _=>h1) (fun h=>by cases h)
section
variable (r:Nat->Nat) (tm0:List (MV Ω)) (H0:Hp Ω) (dst:Nat->Option Tmp) (tr:Nat->Tr Ω)
def xO(l:List Value)(d:Option Tmp)(v:Value):List Value:=
 match d with
 |some d=>l.set d v
 |none=>l
def vH(D:Nat->Bool):Nat->List Value
 |0=>aE r tm0
 |n+1=>if D n then xO (vH D n) (dst n) ((tr n).x.av r) else vH D n
def hV(D:Nat->Bool):Nat->Nat->Option (List (MV Ω))
 |0=>fun k=>H0[k]?
 |n+1=>if D n then(tr n).ac.qS (hV D n) else hV D n
end
section
variable {r:Nat->Nat} {tm0:List (MV Ω)} {H0:Hp Ω} {dst:Nat->Option Tmp} {tr:Nat->Tr Ω} {D D':Nat->Bool}
theorem Lt(l:List Value)(d:Option Tmp)(v:Value): (xO l d v).length=l.length:=by cases d <;> simp[xO]
theorem pj:∀n,(vH r tm0 dst tr D n).length=tm0.length
 |0=>rZ _ _
 |n+1=>by
  unfold vH;split
  ·rw[Lt,pj n]
  ·exact pj n
theorem kY{l:List Value}{d:Option Tmp}{v:Value}{t:Nat}(h:d≠some t): (xO l d v)[t]? =l[t]?:=by
 cases d with
 |none=>rfl
 |some d=>exact List.getElem?_set_ne (fun e=>h (by rw[e]))
theorem pn{l:List Value}{v:Value}{t:Nat}: (xO l (some t) v)[t]? =if t<l.length then some v else none:=by
 simp only[xO];by_cases h:t<l.length
 ·rw[if_pos h,List.getElem?_set_self h]
 ·rw[if_neg h,nE (by simp;omega)]
theorem mG{t:Nat}:∀n,(∀i,i<n->D i≠D' i->dst i≠some t)->(vH r tm0 dst tr D n)[t]? =(vH r tm0 dst tr D' n)[t]?
 |0,_=>rfl
 |n+1,h=>by
  have ih:=mG n (fun i hi=>h i (by omega));unfold vH;by_cases e:D n=D' n
  ·rw[e];split
   ·by_cases ed:dst n=some t
    ·rw[ed,pn,pn,pj,pj]
    ·rw[kY ed,kY ed,ih]
   ·exact ih
  ·have hd:=h n (by omega) e;split <;> split <;> simp only[kY hd,ih]
theorem Cb{j t:Nat}(hj:D j=true)(hd:dst j=some t):∀n,j<n->(∀i,j<i->i<n->D i=true->dst i≠some t)->(vH r tm0 dst tr D n)[t]? =if t<tm0.length then some ((tr j).x.av r) else none
 |0,h,_=>by omega
 |n+1,h,hi=>by
  unfold vH;by_cases e:j=n
  ·subst e;rw[if_pos hj,hd,pn,pj]
  ·have ih:=Cb hj hd n (by omega) (fun i h1 h2=>hi i h1 (by omega));split
   ·rename_i hn;rw[kY (hi n (by omega) (by omega) hn),ih]
   ·exact ih
theorem kO{h:Nat->Option (List (MV Ω))}{a:Ac Ω}{k:Nat}(hh:a.nn k=false):a.qS h k=h k:=by
 cases a with
 |nw s b=>simp only[Ac.nn] at hh;simp only[Ac.qS];rw[if_neg (fun e=>by subst e;simp at hh)]
 |wr s b=>simp only[Ac.nn] at hh;simp only[Ac.qS];rw[if_neg (fun e=>by subst e;simp at hh)]
 |call m=>exact iQ hh
 |_=>rfl
theorem Cc{h h':Nat->Option (List (MV Ω))}{a:Ac Ω}{k:Nat}(hh:a.nn k=true):a.qS h k=a.qS h' k:=by
 cases a with
 |nw s b=>simp only[Ac.nn] at hh;have e:=nQ hh;subst e;simp[Ac.qS]
 |wr s b=>simp only[Ac.nn] at hh;have e:=nQ hh;subst e;simp[Ac.qS]
 |call m=>exact lP hh
 |_=>cases hh
theorem ot{k:Nat}:∀n,(∀i,i<n->D i≠D' i->(tr i).ac.nn k=false)->hV H0 tr D n k=hV H0 tr D' n k
 |0,_=>rfl
 |n+1,h=>by
  have ih:=ot n (fun i hi=>h i (by omega));unfold hV;by_cases e:D n=D' n
  ·rw[e];split
   ·by_cases ed: (tr n).ac.nn k=true
    ·exact Cc ed
    ·rw[kO (by simpa using ed),kO (by simpa using ed),ih]
   ·exact ih
  ·have hd:=h n (by omega) e;split <;> split <;> simp only[kO hd,ih]
theorem GM{j k:Nat}(hj:D j=true)(hd: (tr j).ac.nn k=true){h':Nat->Option (List (MV Ω))}:∀n,j<n->(∀i,j<i->i<n->D i=true->(tr i).ac.nn k=false)->hV H0 tr D n k=(tr j).ac.qS h' k
 |0,h,_=>by omega
 |n+1,h,hi=>by
  unfold hV;by_cases e:j=n
  ·subst e;rw[if_pos hj];exact Cc hd
  ·have ih:=GM hj hd (h':=h') n (by omega) (fun i h1 h2=>hi i h1 (by omega));split
   ·rename_i hn;rw[kO (hi n (by omega) (by omega) hn),ih]
   ·exact ih
theorem Aq{k:Nat}{cs:List (MV Ω)}:∀n,hV H0 tr D n k=some cs->H0[k]? =some cs∨∃i,i<n/\D i=true/\((tr i).ac= .nw k cs∨(tr i).ac= .wr k cs∨∃m,(tr i).ac= .call m/\(k,cs)∈m)
 |0,h=> .inl h
 |n+1,h=>by
  unfold hV at h;split at h
  ·rename_i hn;by_cases ed: (tr n).ac.nn k=true
   ·right;refine⟨n,by omega,hn,?_⟩;cases ha: (tr n).ac with
    |nw s b=>rw[ha] at ed h;have e:=nQ ed;subst e;simp[Ac.qS] at h;rw[h];exact .inl rfl
    |wr s b=>rw[ha] at ed h;have e:=nQ ed;subst e;simp[Ac.qS] at h;rw[h];exact .inr (.inl rfl)
    |call m=>
     rw[ha] at ed h;have h:ir (hV H0 tr D n) m k=some cs:=h;rw[lP (h':=fun _=>none) ed] at h;rcases nt h with h|h
     ·cases h
     ·exact .inr (.inr ⟨m,rfl,h⟩)
    |no=>rw[ha] at ed;cases ed
    |rds s=>rw[ha] at ed;cases ed
   ·rw[kO (by simpa using ed)] at h;rcases Aq n h with h|⟨i,h1,h2,h3⟩
    ·exact .inl h
    ·exact .inr ⟨i,by omega,h2,h3⟩
  ·rcases Aq n h with h|⟨i,h1,h2,h3⟩
   ·exact .inl h
   ·exact .inr ⟨i,by omega,h2,h3⟩
theorem SF{r':Nat->Nat}(h0:aE r' tm0=aE r tm0):∀n,(∀i,i<n->D i=true->(tr i).x.av r'=(tr i).x.av r)->vH r' tm0 dst tr D n=vH r tm0 dst tr D n
 |0,_=>h0
 |n+1,h=>by
  have ih:=SF h0 n (fun i hi=>h i (by omega));unfold vH;split
  ·rename_i hn;rw[ih,h n (by omega) hn]
  ·exact ih
end
end
section
variable {Ω:Type} [jX Ω]
theorem yx{a:Ac Ω}{k:Nat}(h:a.nn k=true):a.nr k=true:=by cases a <;> first|exact h|cases h
theorem yy{a:Ac Ω}{m:List (Nat×List (MV Ω))}(h:a.pY (.call m)=false){k:Nat}(hk:oo k m=true):a.nr k=false:=by obtain⟨c,hc⟩:=vA hk;have:=List.any_eq_false.1 h (k,c) hc;simpa using this
theorem TT{a b:Ac Ω}(h:a.pY b=false){k:Nat}(hk:b.nr k=true):a.nn k=false:=by
 have up:∀s,a.nr s=false->a.nn s=false:=fun s hs=>by
  cases hh:a.nn s with
  |false=>rfl
  |true=>rw[yx hh] at hs;cases hs
 cases b with
 |no=>cases hk
 |rds ks=>
  have:=List.any_eq_false.1 h k (BZ hk);simpa using this
 |nw s b=>
  have e:=nQ hk;subst e;exact up _ h
 |wr s b=>
  have e:=nQ hk;subst e;exact up _ h
 |call m=>exact up _ (yy h hk)
theorem TU{a b:Ac Ω}(h:a.pY b=false){k:Nat}(hk:a.nr k=true):b.nn k=false:=by
 cases b with
 |no=>rfl
 |rds s=>rfl
 |nw s b=>
  cases hh:Nat.beq s k with
  |false=>exact hh
  |true=>have e:=nQ hh;subst e;simp only[Ac.pY,hk] at h;cases h
 |wr s b=>
  cases hh:Nat.beq s k with
  |false=>exact hh
  |true=>have e:=nQ hh;subst e;simp only[Ac.pY,hk] at h;cases h
 |call m=>
  cases hh:oo k m with
  |false=>exact hh
  |true=>rw[yy h hh] at hk;cases hk
section
variable {r:Nat->Nat} {tm0:List (MV Ω)} {H0:Hp Ω} {tr:Nat->Tr Ω} {D D':Nat->Bool} {ops:Array Oper} {cx:Cx Ω} {fe:Fe Ω} {tmf:Nat->List (MV Ω)} {Hf:Nat->Hp Ω} {W:Nat->Bool}
def kZ(ops:Array Oper)(i:Nat):Option Tmp:=(ops[i]?).bind (·.dst)
theorem Ar(h0:tmf 0=tm0){N:Nat}(hs:∀j,j<N->SE cx fe ops tmf Hf tr W j):∀n,n<=N->vH r tm0 (kZ ops) tr (fun _=>true) n=aE r (tmf n)
 |0,_=>by rw[h0];rfl
 |n+1,hn=>by
  obtain⟨o,tm',a1,a2,a3,a4,a5,a6,a7⟩:=hs n (by omega);have ih:=Ar h0 hs n (by omega);unfold vH;rw[if_pos rfl,ih,a6,<-a2 r];unfold kZ;rw[a1];simp only[Option.bind_some];cases o.dst with
  |none=>rfl
  |some d=>simp[xO,km,sc]
theorem Cd{j:Nat}:∀n,j<=n->vH r tm0 (kZ ops) tr (fun i=>decide (i<j)) n=vH r tm0 (kZ ops) tr (fun i=>decide (i<j)) j
 |0,h=>by
  have:j=0:=by omega
  subst this;rfl
 |n+1,h=>by
  by_cases e:j=n+1
  ·rw[e]
  ·conv=>lhs;unfold vH
   rw[if_neg (by simp;omega)];exact Cd n (by omega)
theorem Lu(h0:tmf 0=tm0){N j:Nat}(hj:j<=N)(hs:∀j,j<N->SE cx fe ops tmf Hf tr W j):vH r tm0 (kZ ops) tr (fun i=>decide (i<j)) N=aE r (tmf j):=by rw[Cd N hj,<-Ar (r:=r) h0 hs j hj];apply List.ext_getElem?;intro t;exact mG j (fun i hi hne=>absurd (by simp[hi]) hne)
theorem PE{H:Hp Ω}{a:Ac Ω}(h:∀s b,a= .nw s b->s=H.length)(hw:∀k l,a= .wr k l->k<H.length)(hm:∀m,a= .call m->∀p∈m,p.1<H.length)(k:Nat): (a.app H)[k]? =a.qS (fun k=>H[k]?) k:=by
 cases a with
 |nw s b=>
  obtain rfl:=h s b rfl;simp only[Ac.app,Ac.qS];by_cases e:k=H.length
  ·subst e;simp
  ·rw[if_neg e];by_cases e2:k<H.length
   ·rw[List.getElem?_append_left e2]
   ·rw[nE (by simp;omega),nE (by omega)]
 |wr s b=>
  simp only[Ac.app,Ac.qS];by_cases e:k=s
  ·subst e;rw[if_pos rfl,List.getElem?_set_self (hw _ _ rfl)]
  ·rw[if_neg e,List.getElem?_set_ne (by omega)]
 |call m=>exact vD m H (hm m rfl) k
 |_=>rfl
theorem EU(h0:Hf 0=H0){N:Nat}(hs:∀j,j<N->SE cx fe ops tmf Hf tr W j)(hn:∀j,j<N->∀s b,(tr j).ac= .nw s b->s=(Hf j).length)(hw:∀j,j<N->∀k l,(tr j).ac= .wr k l->k<(Hf j).length)(hm:∀j,j<N->∀m,(tr j).ac= .call m->∀p∈m,p.1<(Hf j).length):
  ∀n,n<=N->∀k,hV H0 tr (fun _=>true) n k=(Hf n)[k]?
 |0,_,k=>by rw[h0];rfl
 |n+1,hle,k=>by obtain⟨o,tm',a1,a2,a3,a4,a5,a6,a7⟩:=hs n (by omega);have ih:=EU h0 hs hn hw hm n (by omega);unfold hV;rw[if_pos rfl,a7,PE (hn n (by omega)) (hw n (by omega)) (hm n (by omega))];congr 1;funext k;exact ih k
theorem GN{j:Nat}:∀n,j<=n->hV H0 tr (fun i=>decide (i<j)) n=hV H0 tr (fun i=>decide (i<j)) j
 |0,h=>by
  have:j=0:=by omega
  subst this;rfl
 |n+1,h=>by
  by_cases e:j=n+1
  ·rw[e]
  ·conv=>lhs;unfold hV
   rw[if_neg (by simp;omega)];exact GN n (by omega)
theorem PF(h0:Hf 0=H0){N j:Nat}(hj:j<=N)(hs:∀j,j<N->SE cx fe ops tmf Hf tr W j)(hn:∀j,j<N->∀s b,(tr j).ac= .nw s b->s=(Hf j).length)(hw:∀j,j<N->∀k l,(tr j).ac= .wr k l->k<(Hf j).length)(hm:∀j,j<N->∀m,(tr j).ac= .call m->∀p∈m,p.1<(Hf j).length)(k:Nat):
  hV H0 tr (fun i=>decide (i<j)) N k=(Hf j)[k]?:=by
 rw[GN N hj,<-EU h0 hs hn hw hm j hj k];exact ot j (fun i hi hne=>absurd (by simp[hi]) hne)
theorem As{o:Oper}{t:Nat}(h:Operand.tmp t∈o.op.operands):t∈o.looksAt ops:=
 List.mem_append_left _ (List.mem_filterMap.2 ⟨.tmp t,by simpa using h,rfl⟩)
theorem EV{o:Oper}{g:Nat}{w:Bool}{t:Nat}(hg:o.guard=some (g,w))(ht: (ops[g]?).bind (·.dst)=some t):t∈o.looksAt ops:=by unfold Oper.looksAt;rw[hg];simp only[];rw[ht];simp
theorem Ce{o:Oper}{a b:Act}(h:∀t,t∈o.looksAt ops->a.tmps[t]? =b.tmps[t]?):Region.wanted o (yielded ops a.tmps)=Region.wanted o (yielded ops b.tmps):=by
 unfold Region.wanted;cases hg:o.guard with
 |none=>rfl
 |some gw=>
  obtain⟨g,want⟩:=gw;have:yielded ops a.tmps g=yielded ops b.tmps g:=by
   unfold yielded;cases ht: (ops[g]?).bind (·.dst) with
   |none=>rfl
   |some t=>
    simp only[Option.bind_some];rw[h t (EV hg ht)]
  simp only[this]
theorem IY{o:Oper}{a b:Act}(h:∀t,t∈o.looksAt ops->a.tmps[t]? =b.tmps[t]?):∀x∈o.op.operands,a.eval x=b.eval x:=by
 intro x hx;cases x with
 |tmp t=>
  simp only[Act.eval];have:=h t (As hx);simp[this]
 |_=>rfl
structure Off (ops:Array Oper) (tr:Nat->Tr Ω) (o:Oper) (j i:Nat):Prop where
 look:∀d,kZ ops i=some d->d ∉ o.looksAt ops
 dst:∀d,kZ ops i=some d->o.dst≠some d
 mem:∀k,(tr j).ac.nr k=true->(tr i).ac.nn k=false
theorem vI{j N:Nat}{o:Oper}(ho:ops[j]? =some o)(hj:j<N)(hDj:D j=false)(hD'j:D' j=true)(hDo:∀i,i≠j->D' i=D i)(hoff:∀i,i<N->i≠j->D i≠decide (i<j)->Off ops tr o j i):
  vH r tm0 (kZ ops) tr D' N=xO (vH r tm0 (kZ ops) tr D N) o.dst ((tr j).x.av r):=by
 apply List.ext_getElem?;intro t;have hdj:kZ ops j=o.dst:=by unfold kZ;rw[ho];rfl
 by_cases e:o.dst=some t
 ·rw[Cb hD'j (hdj.trans e) N hj (fun i h1 h2 h3 hc=>?_),e,pn,pj];have hi:i≠j:=by omega
  rw[hDo i hi] at h3;exact(hoff i h2 hi (by rw[h3];simp;omega)).dst t hc e
 ·rw[kY e];refine mG N (fun i hi hne=>?_);by_cases ei:i=j
  ·subst ei;rw[hdj];exact e
  ·exact absurd (hDo i ei) hne
theorem po{j N:Nat}{o:Oper}(hj:j<N)(hDj:D j=false)(hD'j:D' j=true)(hDo:∀i,i≠j->D' i=D i)(hoff:∀i,i<N->i≠j->D i≠decide (i<j)->Off ops tr o j i)(k:Nat):
  hV H0 tr D' N k=(tr j).ac.qS (hV H0 tr D N) k:=by
 by_cases e: (tr j).ac.nn k=true
 ·refine GM hD'j e N hj (fun i h1 h2 h3=>?_);have hi:i≠j:=by omega
  rw[hDo i hi] at h3;exact(hoff i h2 hi (by rw[h3];simp;omega)).mem k (yx e)
 ·rw[kO (by simpa using e)];refine ot N (fun i hi hne=>?_);by_cases ei:i=j
  ·subst ei;simpa using e
  ·exact absurd (hDo i ei) hne
structure PG (r:Nat->Nat) (E:lN) (w0:World) (tm0:List (MV Ω)) (H0:Hp Ω) (ops:Array Oper) (tr:Nat->Tr Ω) (D:Nat->Bool) (N:Nat) (a:Act) (w:World):Prop where
 tmps:a.tmps=(vH r tm0 (kZ ops) tr D N).toArray
 defers:a.defers= []
 rel:dL r E w0 w (hV H0 tr D N)
theorem Cf{a:Act}{l:List Value}(h:a.tmps=l.toArray)(d:Option Tmp)(v:Value): (a.put d v).tmps=(xO l d v).toArray:=by
 cases d with
 |none=>exact h
 |some d=>simp[Act.put,xO,h]
theorem step_done(ok:iO cx)(hfe:vx cx.P fe){N:Nat}(hN:N=ops.size)(h0:tmf 0=tm0)(hH0:Hf 0=H0)(hs:∀j,j<N->SE cx fe ops tmf Hf tr W j)(hn:∀j,j<N->∀s b,(tr j).ac= .nw s b->s=(Hf j).length/\Z8 (Hf j).length b=true)(hw:∀j,j<N->∀k l,(tr j).ac= .wr k l->k<(Hf j).length)(hm:∀j,j<N->∀m,(tr j).ac= .call m->∀p∈m,p.1<(Hf j).length)
  (hsel:Region.noSelect ops=true) {j:Nat} {o:Oper} (hj:j<N) (ho:ops[j]? =some o) (hDj:D j=false) (hD'j:D' j=true) (hDo:∀i,i≠j->D' i=D i) (hoff:∀i,i<N->i≠j->D i≠decide (i<j)->Off ops tr o j i)
  (hlow:∀s b,(tr j).ac= .nw s b->Ao (fun k=>!Nat.beq k s) tm0=true/\(∀(k:Nat) (cs:List (MV Ω)),H0[k]? =some cs->Ao (fun k=>!Nat.beq k s) cs=true)/\H0.length<=s/\
   ∀i,i<N->D i=true->(tr i).x.rf (fun k=>!Nat.beq k s)=true/\True/\∀q cs,((tr i).ac= .nw q cs∨(tr i).ac= .wr q cs∨∃m,(tr i).ac= .call m/\(q,cs)∈m)->q≠s/\Ao (fun k=>!Nat.beq k s) cs=true)
  {r:Nat->Nat} {E:lN} {w0 w:World} {a:Act} (hE:E.n<=H0.length) (hd:PG r E w0 tm0 H0 ops tr D N a w) {Q:Exit->Act->World->Prop} {K:Act->World->Prop}
  (hK:∀r' a' w',(∀k,k<H0.length->r' k=r k)->PG r' E w0 tm0 H0 ops tr D' N a' w'->K a' w'):wpOp cx.P ops Q j K a w:=by
 obtain⟨o',tm',a1,a2,a3,a4,a5,a6,a7⟩:=hs j hj;rw[ho] at a1;cases a1;have hlook:∀t,t∈o.looksAt ops->a.tmps[t]? =(aE r tm').toArray[t]?:=fun t ht=>by
  rw[hd.tmps,List.getElem?_toArray,List.getElem?_toArray,a2 r,<-Lu (r:=r) h0 (Nat.le_of_lt hj) hs];refine mG N (fun i hi hne hc=>?_);by_cases ei:i=j
  ·subst ei;exact hne (by rw[hDj];simp)
  ·exact(hoff i hi ei hne).look t hc ht
 have hwant:Region.wanted o (yielded ops a.tmps)=W j:=by rw[Ce (b:=⟨(aE r tm').toArray,[]⟩) hlook];exact a3 r _ (by rw[a2 r])
 have hselo:∀cs b,o.op≠ .select cs b:=fun cs b=>Region.noSelect_spec hsel j o cs b ho;have hexec:execOp a.eval o=execOp (Act.eval ⟨(aE r tm').toArray,[]⟩) o:=execOp_congr o hselo (IY (b:=⟨(aE r tm').toArray,[]⟩) hlook);have hev:∀x,(Act.eval ⟨(aE r tm').toArray,[]⟩) x=(cG tm' x).av r:=fun x=>kV (a:=⟨(aE r tm').toArray,[]⟩) rfl x;have fin:∀(w':World),dL r E w0 w' (hV H0 tr D' N)->K (a.put o.dst ((tr j).x.av r)) w':=fun w' hr=>by refine hK r _ w' (fun _ _=>rfl) ⟨?_,put_defers hd.defers _ _,hr⟩;rw[vI ho hj hDj hD'j hDo hoff];exact Cf hd.tmps _ _
 have same: (tr j).ac= .no∨(∃k,(tr j).ac= .rds k)->hV H0 tr D' N=hV H0 tr D N:=fun h=>by funext k;rw[po hj hDj hD'j hDo hoff k];rcases h with h|⟨_,h⟩ <;> rw[h] <;> rfl
 have hblk:∀k,(tr j).ac.nr k=true->hV H0 tr D N k=(Hf j)[k]?:=fun k hk=>by
  rw[<-PF hH0 (Nat.le_of_lt hj) hs (fun j hj s b h=>(hn j hj s b h).1) hw hm k];refine ot N (fun i hi hne=>?_);by_cases ei:i=j
  ·subst ei;exact absurd (by rw[hDj];simp) hne
  ·exact(hoff i hi ei hne).mem k hk
 unfold wpOp;rw[ho];simp only[];rw[hwant];cases hWj:W j
 ·
  have e:=a5 hWj;have:=fin w (by rw[same (.inl (by rw[e]))];exact hd.rel);rw[e] at this;exact this
 ·rw[if_pos rfl];left;have h4:=a4 hWj;have newb:∀(s:Nat) (b:List (MV Ω)) (X:MV Ω) (v:Value) (cs:Array Value) (ty:TypeId),(dX b&&jY b)=true->tr j=⟨X,.nw s b⟩->cs=(ai r b).toArray->(∀r',r' s=w.heap.size->(∀k,k≠s->r' k=r k)->v=X.av r')->K (a.put o.dst v) (w.alloc (.cells cs ty (0,0))):=by
   intro s b X v cs ty hfl htr hcs hv;have hac: (tr j).ac= .nw s b:=by rw[htr]
   obtain⟨l1,l2,l3,l4⟩:=hlow s b hac;obtain⟨n1,n2⟩:=hn j hj s b hac;have hr':∀k,(!Nat.beq k s)=true->(fun k=>if k=s then w.heap.size else r k) k=r k:=fun k hk=>by
    have:k≠s:=by rintro rfl;simp at hk
    show(if k=s then _ else _)=_;rw[if_neg this]
   have hnone:hV H0 tr D N s=none:=by
    cases hq:hV H0 tr D N s with
    |none=>rfl
    |some cs=>
     rcases Aq N hq with h|⟨i,i1,i2,i3⟩
     ·have:=(gS.1 h).1;omega
     ·exact absurd rfl ((l4 i i1 i2).2.2 s cs i3).1
   have hsc:ai (fun k=>if k=s then w.heap.size else r k) b=ai r b:=bV (n:=s) (fun k hk=>by show(if k=s then _ else _)=_;rw[if_neg (by omega)]) b (by rw[n1];exact n2);refine hK (fun k=>if k=s then w.heap.size else r k) _ _ (fun k hk=>by show(if k=s then _ else _)=_;rw[if_neg (by omega)]) ⟨?_,put_defers hd.defers _ _,?_⟩
   ·rw[vI ho hj hDj hD'j hDo hoff,SF (r:=r) (mD hr' tm0 l1) N (fun i hi hDi=>MV.GK hr' _ (l4 i hi hDi).1)];rw[Cf hd.tmps,hv (fun k=>if k=s then w.heap.size else r k) (by simp) (fun k hk=>by simp[hk]),htr]
   ·have:=dL.alloc hd.rel hnone (b:=b) (cs:=cs) (ty:=ty) (by simp only[bI] at hfl;exact hfl.1) (by simp only[bI] at hfl;exact hfl.2) (fun k c hk=>by
     rcases Aq N hk with h|⟨i,i1,i2,i3⟩
     ·exact l2 k c h
     ·exact((l4 i i1 i2).2.2 k c i3).2) (by rw[hsc];exact hcs)
    have e:hV H0 tr D' N=fun k=>if k=s then some b else hV H0 tr D N k:=by funext k;rw[po hj hDj hD'j hDo hoff k,hac];rfl
    rw[e];exact this
  have other:∀x,(oh cx o.op o.type (cG tm') []).pick=some x->tr j=⟨x,.no⟩->o.wp cx.P a w K Q:=fun x hx htr=>by
   have hq:∀w',Rel r ⟨0,fun _=>False⟩ w w' ([]:Hp Ω)->Oper.quietAt cx.P o a (fun w'=>Rel r ⟨0,fun _=>False⟩ w w' ([]:Hp Ω)) w' (x.av r):=fun w' hr=>by have:=qg ok (a:=⟨(aE r tm').toArray,[]⟩) hev hx hr;unfold Oper.quietAt at this ⊢;rw[hexec];exact this
   refine Oper.wp_of_quiet (C:=fun w'=>Rel r ⟨0,fun _=>False⟩ w w' ([]:Hp Ω)) (K:=fun a'=>a'=a.put o.dst (x.av r)) ⟨fun _ _=>False,⟨fun i j ci cj g hi=>by simp at hi,fun k cs hk=>by simp at hk,fun k cs g hk=>by simp at hk,rfl,rfl,rfl,nL _,fun _ _ _=>rfl,fun _ _=>rfl⟩⟩ ?_ ⟨x.av r,hq,rfl⟩;rintro a' w' hr rfl;have:=fin w' (by rw[same (.inl (by rw[htr]))];obtain⟨fp,hr⟩:=hr;exact hd.rel.below ⟨hr.os,hr.tape,hr.output,hr.size,fun k hk=>hr.dK k hk (fun h=>h)⟩);rw[htr] at this;exact this
  obtain⟨dst,op,type,pos,after,guard⟩:=o;cases op <;> simp only[vG] at h4
  case load t x=>
   unfold B9 at h4;split at h4
   ·rename_i k off hx;split at h4
    ·rename_i l hk;split at h4
     ·rename_i y hy;have htr:=(aw h4).symm;have hb:hV H0 tr D N k=some l:=by rw[hblk k (by rw[htr];simp[Ac.nr,xN]),(bU hk).1]
      have hl:=ni hy (hd.rel.row hb (bU hk).2);refine jM (v:=y.av r) (w':=w) ?_ ?_
      ·rw[hexec];simp only[execOp,hev,hx];exact yq (by simp only[Instr.loadAt,MV.av,Instr.sureAddr,Sem.run_bind,Sem.run_pure,Result.andThen_ok,hl])
      ·have:=fin w (by rw[same (.inr ⟨[k],by rw[htr]⟩)];exact hd.rel);rw[htr] at this;exact this
     ·cases h4
    ·cases h4
   ·cases h4
  case store t ad x=>
   unfold yv at h4;split at h4
   ·rename_i k off n had hsz;split at h4
    ·rename_i l hx hk;have hx: (cG tm' x).sz=n:=by simpa using hx
     split at h4
     ·rename_i l' hp;have htr:=(aw h4).symm;have hb:hV H0 tr D N k=some l:=by rw[hblk k (by rw[htr];simp[Ac.nr]),(bU hk).1]
      obtain⟨p1,p2,p3⟩:=kN hp r;obtain⟨tail,hbt,-⟩:=hd.rel.row hb (bU hk).2;have hst:=qR hsz (o:=off) hbt (jm r (cG tm' x)) (by rw[MV.aeX,hx]) (by rw[<-hx];simp;omega) (MV.uY r _ p1);refine BX (w':=w.setCells (r k) off ((cG tm' x).cells r)) ?_ ?_
      ·rw[hexec];simp only[execOp,Instr.storeAt,hev,had,MV.av,Instr.sureAddr,Sem.run_bind,Sem.run_pure,Result.andThen_ok,hst]
      ·have e:hV H0 tr D' N=fun i=>if i=k then some l' else hV H0 tr D N i:=by funext i;rw[po hj hDj hD'j hDo hoff i,htr];rfl
       have:=fin (w.setCells (r k) off ((cG tm' x).cells r)) (by rw[e];exact dL.store hd.rel hb (bU hk).2 hp);rw[htr] at this;exact this
     ·cases h4
    ·cases h4
   ·cases h4
  case alloc elem=>
   split at h4
   ·rename_i z hz;split at h4
    ·rename_i hfl;have htr:=(aw h4).symm;obtain⟨cs,hc,hrun⟩:=IX ok hz w;refine jM (v:= .pointer (some ⟨w.heap.size,0,none⟩)) (w':=w.alloc (.cells cs elem (0,0))) ?_ (newb _ _ _ _ _ _ hfl htr (hc r) (fun r' h1 h2=>by simp[MV.av,h1]));rw[hexec];exact nm hrun
    ·cases h4
   ·cases h4
  case box elem x=>
   split at h4
   ·rename_i h1;rw[bI] at h1;obtain⟨h1,hfl⟩:=h1;have htr:=(aw h4).symm;have hc: ((cG tm' x).av r).cells=(ai r (cG tm' x).flat).toArray:=by rw[jm,o9 r _ h1]
    refine jM (v:= .pointer (some ⟨w.heap.size,0,none⟩)) (w':=w.alloc (.cells ((cG tm' x).av r).cells elem (0,0))) ?_ (newb _ _ _ _ _ _ hfl htr hc (fun r' h1 h2=>by simp[MV.av,h1]));rw[hexec];simp only[execOp,hev];exact nm (PC w)
   ·cases h4
  case buildSlice t len parts=>
   split at h4
   ·rename_i b hb;split at h4
    ·rename_i hfl;have htr:=(aw h4).symm;obtain⟨elem,hrun⟩:=PD ok hb r w;have hpe: (parts.map fun(x:Nat×Operand)=>(x.1,(Act.eval ⟨(aE r tm').toArray,[]⟩) x.2))=((parts.toList.map fun(x:Nat×Operand)=>(x.1,cG tm' x.2)).map fun(x:Nat×MV Ω)=>(x.1,x.2.av r)).toArray:=by apply Array.toList_inj.1;simp[hev]
     refine jM (v:= .slice (some ⟨w.heap.size,0,none⟩) len len) (w':=w.alloc (.cells (ai r b).toArray elem (0,0))) ?_ (newb _ _ _ _ _ _ hfl htr rfl (fun r' h1 h2=>by simp[MV.av,h1]));rw[hexec];show((do pure (Next.value (<-Instr.buildSlice t len (parts.map fun(x:Nat×Operand)=>(x.1,(Act.eval ⟨(aE r tm').toArray,[]⟩) x.2)))):Sem Next)).run cx.P w=_;rw[hpe];exact nm hrun
    ·cases h4
   ·cases h4
  case call c=>
   unfold Ca at h4;split at h4
   ·rename_i f hb;split at h4
    ·rename_i g cap hg;split at h4
     ·rename_i args ks hnorm;split at h4
      ·rename_i m hget;have hml:=vF hget;have hrun:∀hc:dP cx.P g=true,(execOp a.eval {dst:=dst,op:=Op.call c,type:=type,pos:=pos,after:=after,guard:=guard}).run cx.P w= .ok (.enter g (aE (fun i=>r (ks.getD i 0)) args).toArray) w:=fun hc=>by
        have hargs:c.args.map (Act.eval ⟨(aE r tm').toArray,[]⟩)=(aE r (c.args.toList.map (cG tm'))).toArray:=by
         apply Array.toList_inj.1;have:c.args.toList.map (Act.eval ⟨(aE r tm').toArray,[]⟩)=aE r (c.args.toList.map (cG tm')):=by rw[fC r (c.args.toList.map (cG tm')),List.map_map];exact List.map_congr_left fun x _=>hev x
         simp[this]
        rw[hexec];simp only[execOp,resolve,hb,Sem.run_bind,hev,hg,MV.av,Deferred.ofValue,Sem.run_pure,Result.andThen_ok,Go.invoke,hargs];rw[nh hc];congr 2;rw[yu hnorm (r:=r) (fun i k hk=>by simp[hk]),kh];simp
       have hpres: (∀k,k∈ks->(tr j).ac.nr k=true)->∀(i:Nat) (cs:List (MV Ω)),m[i]? =some cs->∃k,ks[i]? =some k/\hV H0 tr D N k=some cs:=fun hnear i cs hi=>by obtain⟨k,k1,k2⟩:=tS hget i cs hi;exact⟨k,k1,by rw[hblk k (hnear k (List.mem_of_getElem? k1)),k2]⟩
       split at h4
       ·rename_i hsc;have hsat:∀fp,Aa r fp E w0 w (hV H0 tr D N)->(∀k,k∈ks->(tr j).ac.nr k=true)->∀(i:Nat) (cs:List (MV Ω)),m[i]? =some cs->Holds (fun i=>r (ks.getD i 0)) (fp (ks.getD i 0)) w (r (ks.getD i 0)) cs:=fun fp hp hnear i cs hi=>by
         obtain⟨k,k1,k2⟩:=hpres hnear i cs hi;have hb2:=hp.holds k cs k2;have e1:ks.getD i 0=k:=by simp[k1]
         rw[e1];exact hb2.cells (bV (r:=r) (r':=fun i=>r (ks.getD i 0)) (n:=0) (fun k hk=>by omega) cs (dn hsc i cs hi)) (iy (r:=r) (r':=fun i=>r (ks.getD i 0)) (n:=0) (fun k hk=>by omega) cs (dn hsc i cs hi))
        have hlies: (∀k,k∈ks->(tr j).ac.nr k=true)->BG (fun i=>r (ks.getD i 0)) w m:=fun hnear i cs hi hf=>by obtain⟨fp,hp⟩:=hd.rel;exact((hsat fp hp hnear i cs hi).flat hf).2
        split at h4
        ·rename_i hpf;obtain⟨x,hx,h5⟩:=Tree.ct _ _ _ h4;split at h5
         ·rename_i hx0;have htr:=(aw h5).symm;have hnear:∀k,k∈ks->(tr j).ac.nr k=true:=fun k hk=>by rw[htr];exact vE hk
          have hc:=ok.S g args m x hpf hx _ w (hlies hnear);unfold Oper.wp;rw[hrun (ok.call g hpf)];refine hc.mono ?_;rintro e w' ⟨rfl,hbl⟩;have:=fin w' (by rw[same (.inr ⟨ks,by rw[htr]⟩)];exact hd.rel.below hbl);rw[htr] at this;rw[MV.il (r:=r) (r':=fun i=>r (ks.getD i 0)) (n:=0) (fun k hk=>by omega) x hx0];exact this
         ·cases h5
        ·split at h4
         ·rename_i hcn;simp only[bI] at hcn;obtain⟨hcall,hnd⟩:=hcn;obtain⟨y,hy,h5⟩:=Tree.ct _ _ _ h4;split at h5
          ·rename_i hchk;simp only[bI] at hchk;obtain⟨⟨y1,y2⟩,y3⟩:=hchk;have y3:=nQ y3;have htr:=(aw h5).symm;have hnear:∀k,k∈ks->(tr j).ac.nr k=true:=fun k hk=>by
            rw[htr];obtain⟨i,hi⟩:=List.getElem?_of_mem hk;have hil:i<y.2.length:=by rw[y3,hml];exact(gS.1 hi).1
            exact vB (c:=y.2[i]) (List.mem_of_getElem? (i:=i) (by rw[List.getElem?_zip_eq_some];exact⟨hi,gE hil⟩))
           have hk:∀(i k:Nat),ks[i]? =some k->∃c,hV H0 tr D N k=some c:=fun i k hi=>by
            have hil:i<m.length:=by rw[hml];exact(gS.1 hi).1
            obtain⟨k',k1,k2⟩:=hpres hnear i m[i] (gE hil);rw[hi] at k1;cases k1;exact⟨_,k2⟩
           have hgd:∀i (hi:i<m.length),ks.getD i 0=ks[i]'(by omega):=fun i hi=>by simp[gE (l:=ks) (i:=i) (by omega)]
           obtain⟨fp,hp⟩:=hd.rel;have hsits:EE (fun i=>r (ks.getD i 0)) (fun i=>fp (ks.getD i 0)) w m:=⟨fun i i' x hi hi' h1 h2=>by have e1:=gE (l:=ks) (i:=i) (by omega);have e2:=gE (l:=ks) (i:=i') (by omega);obtain⟨c1,hc1⟩:=hk i _ e1;obtain⟨c2,hc2⟩:=hk i' _ e2;have h1:fp (ks.getD i 0) x:=h1;have h2:fp (ks.getD i' 0) x:=h2;rw[hgd i hi] at h1;rw[hgd i' hi'] at h2;have:=hp.yf _ _ _ _ x hc1 hc2 h1 h2;exact jN hnd i i' _ e1 (by rw[e2,this]),hsat fp hp hnear⟩;have hc:jK cx.P g args m y:=by
            split at hy
            ·rename_i he;exact ok.T g args m y he hy
            ·exact hfe g args m y hy
           have hc:=hc (fun i=>r (ks.getD i 0)) _ w hsits;unfold Oper.wp;rw[hrun (ok.cl g hcall)];refine hc.mono ?_;rintro e w' ⟨r'',hg2,rfl,hrel⟩;have hr'':∀(i k:Nat),ks[i]? =some k->r'' i=r k:=fun i k hi=>by
            have hil:i<m.length:=by rw[hml];exact(gS.1 hi).1
            rw[hg2.2 i hil];show r (ks.getD i 0)=r k;simp[hi]
           have hnew:=dL.call hp (jN hnd) hk (by rw[y3,hml]) y2 hr'' (fun x=>⟨fun⟨i,hi,hx⟩=>⟨i,_,gE (by omega),by have hx:fp (ks.getD i 0) x:=hx;rw[hgd i hi] at hx;exact hx⟩,fun⟨i,k,hi,hx⟩=>⟨i,by rw[hml];exact(gS.1 hi).1,by
            have:ks.getD i 0=k:=by simp[hi]
            show fp (ks.getD i 0) x;rw[this];exact hx⟩⟩) hrel
           have e:hV H0 tr D' N=ir (hV H0 tr D N) (ks.zip y.2):=by funext i;rw[po hj hDj hD'j hDo hoff i,htr];rfl
           have:=fin w' (by rw[e];exact hnew);rw[htr] at this;show K (a.put dst (y.1.av r'')) w';rw[MV.il (r:=r) (r':=r'') (n:=0) (fun k hk=>by omega) y.1 y1];exact this
          ·cases h5
         ·cases h4
       ·cases h4
      ·cases h4
     ·cases h4
    ·cases h4
   ·obtain⟨x,hx,htr⟩:=Tree.fD _ _ _ h4;exact other x hx htr.symm
  all_goals
   obtain⟨x,hx,htr⟩:=Tree.fD _ _ _ h4;exact other x hx htr.symm
end
end
section
variable {Ω:Type} [jX Ω]
mutual
theorem MV.yA{p:Nat->Bool}{n:Nat}(e:∀k,k<n->p k=true):∀x:MV Ω,x.Z9 n=true->x.rf p=true
 | .c x,_=>rfl
 | .v x,_=>rfl
 | .i x,_=>rfl
 | .w a,_=>rfl
 | .p k _,h=>by simp only[MV.Z9,decide_eq_true_eq] at h;exact e k h
 | .s k _ _ _,h=>by simp only[MV.Z9,decide_eq_true_eq] at h;exact e k h
 | .t l,h=>by simp only[MV.rf];exact fv e l (by simpa[MV.Z9] using h)
 | .ag l,h=>by simp only[MV.rf];exact fv e l (by simpa[MV.Z9] using h)
 | .fn f l,h=>by simp only[MV.rf];exact fv e l (by simpa[MV.Z9] using h)
 | .z k q _ _,h=>by simp only[MV.Z9,bI,decide_eq_true_eq] at h;simp only[MV.rf,e k h.1,e q h.2,Bool.and_self]
 | .g _,_=>rfl
 | .r q _,h=>by simp only[MV.Z9,decide_eq_true_eq] at h;exact e q h
theorem fv{p:Nat->Bool}{n:Nat}(e:∀k,k<n->p k=true):∀l:List (MV Ω),Z8 n l=true->Ao p l=true
 | [],_=>rfl
 |x::l,h=>by simp only[Z8,bI] at h;simp only[Ao,MV.yA e x h.1,fv e l h.2,Bool.and_self]
end
def SG(acc:List Nat)(o:Oper):Nat:=
 o.after.toList.foldl (fun s e=>match Region.binds .any e with|true=>s|||(2^e.on|||acc.getD e.on 0)|false=>s) 0
def yB:List Oper->List Nat->List Nat
 | [],acc=>acc
 |o::l,acc=>yB l (acc++ [SG acc o])
theorem yC(acc:List Nat)(i:Nat):∀(l:List Edge) (s:Nat),(l.foldl (fun s e=>match Region.binds .any e with|true=>s|||(2^e.on|||acc.getD e.on 0)|false=>s) s).testBit i=true->
  s.testBit i=true∨∃e∈l,Region.binds .any e=true/\(i=e.on∨(acc.getD e.on 0).testBit i=true)
 | [],s,h=> .inl h
 |e::l,s,h=>by
  simp only[List.foldl_cons] at h;rcases yC acc i l _ h with h|⟨e',h1,h2,h3⟩
  ·cases hb:Region.binds .any e with
   |false=>rw[hb] at h;exact .inl h
   |true=>
    rw[hb] at h;simp only[Nat.testBit_or,Bool.or_eq_true] at h;rcases h with h|h|h
    ·exact .inl h
    ·right;refine⟨e,by simp,hb,.inl ?_⟩;rw[Nat.testBit_two_pow] at h;have h:=of_decide_eq_true h;exact h.symm
    ·exact .inr ⟨e,by simp,hb,.inr h⟩
  ·exact .inr ⟨e',by simp[h1],h2,h3⟩
theorem nu{ops:Array Oper}{D:Nat->Bool}(hc:∀j o,ops[j]? =some o->D j=true->∀e∈o.after,Region.binds .any e=true->D e.on=true):
  ∀(l:List Oper) (acc:List Nat),(∀j,l[j]? =ops[acc.length+j]?)->(∀j,j<acc.length->D j=true->∀i,(acc.getD j 0).testBit i=true->D i=true)->
   ∀j,D j=true->∀i,((yB l acc).getD j 0).testBit i=true->D i=true
 | [],acc,_,h,j,hj,i,hi=>by
  by_cases hl:j<acc.length
  ·exact h j hl hj i hi
  ·simp[yB,nE (show acc.length<=j by omega)] at hi
 |o::l,acc,hl,h,j,hj,i,hi=>by
  refine nu hc l (acc++ [SG acc o]) (fun k=>by have:=hl (k+1);simp only[List.length_append,List.length_singleton];simpa[Nat.add_assoc,Nat.add_comm 1 k] using this) ?_ j hj i hi;intro q hq hDq p hp;by_cases hq2:q<acc.length
  ·refine h q hq2 hDq p ?_;simpa[List.getElem?_append_left hq2] using hp
  ·have e:q=acc.length:=by simp at hq;omega
   subst e;simp at hp;have ho:ops[acc.length]? =some o:=by have:=hl 0;simpa using this.symm
   rcases yC acc p _ 0 hp with hp|⟨e',h1,h2,h3⟩
   ·simp at hp
   ·have hD:=hc _ o ho hDq e' (by simpa using h1) h2;rcases h3 with rfl|h3
    ·exact hD
    ·by_cases hl2:e'.on<acc.length
     ·exact h e'.on hl2 hD p h3
     ·simp[nE (show acc.length<=e'.on by omega)] at h3
theorem Cg{ops:Array Oper}{D:Nat->Bool}(hc:∀j o,ops[j]? =some o->D j=true->∀e∈o.after,Region.binds .any e=true->D e.on=true)
  {j:Nat} {o:Oper} (ho:ops[j]? =some o) (hr:∀e∈o.after,Region.binds .any e=true->D e.on=true) {i:Nat} (hi: ((yB ops.toList []).getD j 0).testBit i=true) (hne:i≠j):D i=true:=by
 have key:=nu (D:=fun k=>D k||Nat.beq k j) (ops:=ops) (fun q o' hq hDq e he hb=>by
  simp only[Bool.or_eq_true] at hDq ⊢;rcases hDq with hDq|hDq
  ·exact .inl (hc q o' hq hDq e he hb)
  ·have e1:=nQ hDq;subst e1;rw[ho] at hq;cases hq;exact .inl (hr e he hb)) ops.toList [] (fun k=>by simp) (fun k hk=>by simp at hk) j (by simp) i hi
 simp only[Bool.or_eq_true] at key;rcases key with h|h
 ·exact h
 ·exact absurd (nQ h) hne
def GO:Nat->List Oper->Bool
 |_,[]=>true
 |k,o::l=>o.after.all (fun e=>!Region.binds .any e||decide (e.on<k))&&GO (k+1) l
theorem vJ:∀{k:Nat} {l:List Oper},GO k l=true->∀(j:Nat) (o:Oper),l[j]? =some o->∀e∈o.after,Region.binds .any e=true->e.on<k+j
 |k,[],_,j,o,h,_,_,_=>by simp at h
 |k,o'::l,hd,j,o,h,e,he,hb=>by
  simp only[GO,bI] at hd;cases j with
  |zero=>
   simp at h;subst h;have:=(Array.all_eq_true_iff_forall_mem.1 hd.1) e he;simpa[hb] using this
  |succ j=>
   have:=vJ hd.2 j o (by simpa using h) e he hb;omega
def Tr.free(s:Nat)(e:Tr Ω):Bool:=
 e.x.rf (fun k=>!Nat.beq k s)&&(match e.ac with
  | .nw _ b=>Ao (fun k=>!Nat.beq k s) b
  | .wr _ b=>Ao (fun k=>!Nat.beq k s) b
  | .call m=>m.all fun p=>Ao (fun k=>!Nat.beq k s) p.2
  |_=>true)
def GP(ops:Array Oper)(m:Nat)(i:Nat)(oi oj:Oper)(ei ej:Tr Ω):Bool:=
 m.testBit i||(oi.apart ops oj&& !(ei.ac.pY ej.ac)&&(match ei.ac with
  | .nw s _=>ej.free s
  |_=>true))
def pq(ops:Array Oper)(ms:List Nat)(i:Nat)(oi:Oper)(ei:Tr Ω):Nat->List Oper->List (Tr Ω)->Bool
 |j,o::l,e::m=>GP ops (ms.getD j 0) i oi o ei e&&pq ops ms i oi ei (j+1) l m
 |_,_,_=>true
def uI(ops:Array Oper)(ms:List Nat):Nat->List Oper->List (Tr Ω)->Bool
 |i,o::l,e::m=>pq ops ms i o e (i+1) l m&&uI ops ms (i+1) l m
 |_,_,_=>true
theorem ow{ops:Array Oper}{ms:List Nat}{i:Nat}{oi:Oper}{ei:Tr Ω}:∀{k:Nat} {l:List Oper} {m:List (Tr Ω)},pq ops ms i oi ei k l m=true->∀(j:Nat) (o:Oper) (e:Tr Ω),l[j]? =some o->m[j]? =some e->GP ops (ms.getD (k+j) 0) i oi o ei e=true
 |k,[],_,_,j,o,e,h,_=>by simp at h
 |k,_::_,[],_,j,o,e,_,h=>by simp at h
 |k,o'::l,e'::m,hp,j,o,e,h1,h2=>by
  simp only[pq,bI] at hp;cases j with
  |zero=>simp at h1 h2;subst h1;subst h2;exact hp.1
  |succ j=>
   have:=ow hp.2 j o e (by simpa using h1) (by simpa using h2)
   rwa [show k+(j+1)=k+1+j by omega]
theorem qV{ops:Array Oper}{ms:List Nat}:∀{k:Nat} {l:List Oper} {m:List (Tr Ω)},uI ops ms k l m=true->∀(i j:Nat) (oi oj:Oper) (ei ej:Tr Ω),i<j->l[i]? =some oi->l[j]? =some oj->m[i]? =some ei->m[j]? =some ej->GP ops (ms.getD (k+j) 0) (k+i) oi oj ei ej=true
 |k,[],_,_,i,j,_,_,_,_,_,h,_,_,_=>by simp at h
 |k,_::_,[],_,i,j,_,_,_,_,_,_,_,h,_=>by simp at h
 |k,o'::l,e'::m,hp,i,j,oi,oj,ei,ej,hij,h1,h2,h3,h4=>by
  simp only[uI,bI] at hp;obtain⟨j,rfl⟩:∃q,j=q+1:=⟨j-1,by omega⟩;cases i with
  |zero=>
   simp at h1 h3;subst h1;subst h3;have:=ow hp.1 j oj ej (by simpa using h2) (by simpa using h4)
   rwa [show k+(j+1)=k+1+j by omega]
  |succ i=>
   have:=qV hp.2 i j oi oj ei ej (by omega) (by simpa using h1) (by simpa using h2) (by simpa using h3) (by simpa using h4)
   rwa [show k+(j+1)=k+1+j by omega,show k+(i+1)=k+1+i by omega]
def Ch:Nat->List (Tr Ω)->Bool
 |_,[]=>true
 |n,e::m=>match e.ac with
  | .nw s b=>Nat.beq s n&&Z8 n b&&e.x.Z9 (n+1)&&Ch (n+1) m
  | .wr k l=>decide (k<n)&&Z8 n l&&e.x.Z9 n&&Ch n m
  | .call q=>(q.all fun p=>decide (p.1<n)&&Z8 n p.2)&&e.x.Z9 n&&Ch n m
  |_=>e.x.Z9 n&&Ch n m
def Lv(Hf:Nat->Hp Ω)(tr:Nat->Tr Ω)(j:Nat):Prop:=
 (∀s b,(tr j).ac= .nw s b->s=(Hf j).length/\Z8 (Hf j).length b=true/\(Hf (j+1)).length=(Hf j).length+1)/\(∀k l,(tr j).ac= .wr k l->k<(Hf j).length/\Z8 (Hf j).length l=true)/\(∀m,(tr j).ac= .call m->∀p∈m,p.1<(Hf j).length/\Z8 (Hf j).length p.2=true)/\
  (tr j).x.Z9 (Hf (j+1)).length=true/\(Hf j).length<=(Hf (j+1)).length
theorem yD{Hf:Nat->Hp Ω}{tr:Nat->Tr Ω}:∀(m:List (Tr Ω)) (k n:Nat),Ch n m=true->n=(Hf k).length->(∀j,j<m.length->m[j]? =some (tr (k+j)))->(∀j,j<m.length->Hf (k+j+1)=(tr (k+j)).ac.app (Hf (k+j)))->∀j,j<m.length->Lv Hf tr (k+j)
 | [],_,_,_,_,_,_,j,h=>by simp at h
 |e::m,k,n,hs,hn,he,ha,j,hj=>by
  have e0:e=tr k:=by simpa using he 0 (by simp)
  have a0:Hf (k+1)=(tr k).ac.app (Hf k):=by simpa using ha 0 (by simp)
  have rest:∀n',Ch n' m=true->n'=(Hf (k+1)).length->∀j,j<m.length->Lv Hf tr (k+1+j):=fun n' h1 h2 j hj=>yD m (k+1) n' h1 h2 (fun q hq=>by
    have:=he (q+1) (by simp;omega);rw[show k+1+q=k+(q+1) by omega];simpa using this)
   (fun q hq=>by
    have:=ha (q+1) (by simp;omega)
    rwa [show k+(q+1)=k+1+q by omega] at this) j hj
  have both:Lv Hf tr k/\∀j,j<m.length->Lv Hf tr (k+1+j):=by
   unfold Ch at hs;cases hac:e.ac with
   |nw s b=>
    rw[hac] at hs;simp only[bI] at hs;obtain⟨⟨⟨h1,h2⟩,h3⟩,h4⟩:=hs;have h1:=nQ h1;have hlen: (Hf (k+1)).length=(Hf k).length+1:=by rw[a0,<-e0,hac];simp[Ac.app]
    refine⟨⟨fun s' b' h=>?_,fun k' l h=>?_,fun m h=>(by rw[<-e0,hac] at h;cases h),by rw[hlen,<-hn,<-e0];exact h3,by omega⟩,rest (n+1) h4 (by rw[hlen,hn])⟩
    ·rw[<-e0,hac] at h;cases h;exact⟨by rw[h1,hn],by rw[<-hn];exact h2,hlen⟩
    ·rw[<-e0,hac] at h;cases h
   |wr q l=>
    rw[hac] at hs;simp only[bI,decide_eq_true_eq] at hs;obtain⟨⟨⟨h1,h2⟩,h3⟩,h4⟩:=hs;have hlen: (Hf (k+1)).length=(Hf k).length:=by rw[a0,<-e0,hac];simp[Ac.app]
    refine⟨⟨fun s' b' h=>?_,fun k' l' h=>?_,fun m h=>(by rw[<-e0,hac] at h;cases h),by rw[hlen,<-hn,<-e0];exact h3,by omega⟩,rest n h4 (by rw[hlen,hn])⟩
    ·rw[<-e0,hac] at h;cases h
    ·rw[<-e0,hac] at h;cases h;exact⟨by rw[<-hn];exact h1,by rw[<-hn];exact h2⟩
   |no=>
    rw[hac] at hs;simp only[bI] at hs;have hlen: (Hf (k+1)).length=(Hf k).length:=by rw[a0,<-e0,hac];simp[Ac.app]
    exact⟨⟨fun s' b' h=>(by rw[<-e0,hac] at h;cases h),fun k' l' h=>(by rw[<-e0,hac] at h;cases h),fun m h=>(by rw[<-e0,hac] at h;cases h),by rw[hlen,<-hn,<-e0];exact hs.1,by omega⟩,rest n hs.2 (by rw[hlen,hn])⟩
   |call q=>
    rw[hac] at hs;simp only[bI] at hs;obtain⟨⟨h1,h2⟩,h3⟩:=hs;have hlen: (Hf (k+1)).length=(Hf k).length:=by rw[a0,<-e0,hac];exact vC q _
    refine⟨⟨fun s' b' h=>(by rw[<-e0,hac] at h;cases h),fun k' l' h=>(by rw[<-e0,hac] at h;cases h),fun m' h p hp=>?_,by rw[hlen,<-hn,<-e0];exact h2,by omega⟩,rest n h3 (by rw[hlen,hn])⟩;rw[<-e0,hac] at h;cases h;have:=List.all_eq_true.1 h1 p hp;simp only[bI,decide_eq_true_eq] at this;exact⟨by rw[<-hn];exact this.1,by rw[<-hn];exact this.2⟩
   |rds q=>
    rw[hac] at hs;simp only[bI] at hs;have hlen: (Hf (k+1)).length=(Hf k).length:=by rw[a0,<-e0,hac];simp[Ac.app]
    exact⟨⟨fun s' b' h=>(by rw[<-e0,hac] at h;cases h),fun k' l' h=>(by rw[<-e0,hac] at h;cases h),fun m h=>(by rw[<-e0,hac] at h;cases h),by rw[hlen,<-hn,<-e0];exact hs.1,by omega⟩,rest n hs.2 (by rw[hlen,hn])⟩
  cases j with
  |zero=>exact both.1
  |succ j=>
   have:=both.2 j (by simp at hj;omega)
   rwa [show k+1+j=k+(j+1) by omega] at this
def Lw(cx:Cx Ω)(fe:Fe Ω)(ops:Array Oper)(tm:List (MV Ω))(H:Hp Ω):Tree (St Ω):=
 match Z8 H.length tm&&ij H.length H&&GO 0 ops.toList&&Region.noSelect ops with
 |true=>(tT cx fe ops ops.toList tm H).bind fun y=>match uI ops (yB ops.toList []) 0 ops.toList y.1&&Ch H.length y.1 with
  |true=> .leaf y.2
  |false=> .bad
 |false=> .bad
theorem yE{p q:Nat->Bool}{i:Nat}:∀{l:List Nat},i∈l->p i=true->q i=false->(∀x,q x=true->p x=true)->l.countP q<l.countP p
 | [],h,_,_,_=>by simp at h
 |x::l,h,hp,hq,hi=>by
  simp only[List.countP_cons];have mono:∀l:List Nat,l.countP q<=l.countP p:=fun l=>List.countP_mono_left (fun x _ hx=>hi x hx);by_cases e:x=i
  ·subst e;rw[if_neg (by simp[hq]),if_pos hp];have:=mono l;omega
  ·have ih:=yE (l:=l) (by simpa[Ne.symm e] using h) hp hq hi;by_cases hx:q x=true
   ·rw[if_pos hx,if_pos (hi x hx)];omega
   ·rw[if_neg hx];split <;> omega
theorem vK{listed:Array Bool}{N i:Nat}(h:listed.size=N)(hi:i<N):listed.getD i true=listed.getD i false:=by simp[h,hi]
theorem EW{cx:Cx Ω}(ok:iO cx){fe:Fe Ω}(hfe:vx cx.P fe){ops:Array Oper}{s s':St Ω}(h: (Lw cx fe ops s.1 s.2).pick=some s'){r0:Nat->Nat}{E:lN}{w0:World}{a:Act}{w:World}{Q:Exit->Act->World->Prop}
  (ha:At r0 E w0 s a w) (hE:E.n<=s.2.length) (hQ:∀r' a' w',Grow r0 s.2 r' s'.2->At r' E w0 s' a' w'->Q .normal a' w'):
  wpAny cx.P .any ops Q ops.size (Array.replicate ops.size false) a w:=by
 obtain⟨tm0,H0⟩:=s;unfold Lw at h;split at h
 ·rename_i hchk;simp only[bI] at hchk;obtain⟨⟨⟨c1,c2⟩,c3⟩,c4⟩:=hchk;obtain⟨⟨trs,s2⟩,h1,h2⟩:=Tree.ct _ _ _ h;split at h2
  ·rename_i hp;simp only[bI] at hp;obtain⟨p1,p2⟩:=hp;have e2:=aw h2;simp only at e2;subst e2;obtain⟨tmf,Hf,tr,W,q1,q2,q3,q4,q5,q6⟩:=yw ops.toList 0 tm0 H0 trs s2 h1 (fun j=>by simp);obtain⟨N,hN⟩:∃N,N=ops.size:=⟨_,rfl⟩;have hlen:ops.toList.length=N:=by rw[hN];simp
   rw[hlen] at q3 q4 q5 q6;simp only[Nat.zero_add] at q3 q4 q5 q6;have hs:∀j,j<N->SE cx fe ops tmf Hf tr W j:=fun j hj=>q6 j (by omega) hj;have htl:trs.length=N:=by
    have h5:=q5 N;rw[if_neg (by omega)] at h5;have h6:trs.length<=N:=by
     rcases nO N trs.length with h|h
     ·rw[gE h] at h5;cases h5
     ·exact h
    rcases nO trs.length N with h|h
    ·have:=q5 trs.length;rw[if_pos h,nE (nL _)] at this;cases this
    ·omega
   have htr:∀j,j<N->trs[j]? =some (tr j):=fun j hj=>by rw[q5 j,if_pos hj]
   have hsc:∀j,j<N->Lv Hf tr j:=fun j hj=>by
    have:=yD (Hf:=Hf) (tr:=tr) trs 0 H0.length p2 (by rw[q2]) (fun j hj=>by rw[Nat.zero_add];exact htr j (by omega)) (fun j hj=>by obtain⟨o,tm',_,_,_,_,_,_,a7⟩:=hs j (by omega);rw[Nat.zero_add];exact a7) j (by omega)
    rwa [Nat.zero_add] at this
   have hmono:∀d i,i+d<=N->(Hf i).length<=(Hf (i+d)).length:=by
    intro d;induction d with
    |zero=>intro i _;exact nL _
    |succ d ih=>intro i hi;exact nT (ih i (by omega)) (hsc (i+d) (by omega)).2.2.2.2
   have hmono':∀i j,i<=j->j<=N->(Hf i).length<=(Hf j).length:=fun i j h1 h2=>by
    have:=hmono (j-i) i (by omega)
    rwa [show i+(j-i)=j by omega] at this
   have hH00: (Hf 0).length=H0.length:=by rw[q2]
   have hpair:∀i j oi oj,i<j->ops[i]? =some oi->ops[j]? =some oj->((yB ops.toList []).getD j 0).testBit i=true∨(oi.apart ops oj=true/\(tr i).ac.pY (tr j).ac=false/\∀s b,(tr i).ac= .nw s b->(tr j).free s=true):=fun i j oi oj hij hi hj=>by
    have hjN:j<N:=by rw[hN];exact(Array.getElem?_eq_some_iff.1 hj).1
    have:=qV p1 i j oi oj (tr i) (tr j) hij (by simpa using hi) (by simpa using hj) (htr i (by omega)) (htr j hjN);rw[Nat.zero_add,Nat.zero_add] at this;unfold GP at this;simp only[Bool.or_eq_true,bI,Bool.not_eq_true'] at this;rcases this with h|⟨⟨h1,h2⟩,h3⟩
    ·exact .inl h
    ·refine .inr ⟨h1,h2,fun s b hb=>?_⟩;rw[hb] at h3;exact h3
   have main:∀fuel (listed:Array Bool) (a:Act) (w:World) (r:Nat->Nat),listed.size=N->(∀j o,ops[j]? =some o->listed.getD j false=true->∀e∈o.after,Region.binds .any e=true->listed.getD e.on false=true)->
     (∀k,k<H0.length->r k=r0 k)->PG r E w0 tm0 H0 ops tr (fun i=>listed.getD i false) N a w->(List.range N).countP (fun i=>!listed.getD i true)<=fuel->wpAny cx.P .any ops Q fuel listed a w:=by
    intro fuel;have allQ:∀(listed:Array Bool) (a:Act) (w:World) (r:Nat->Nat),listed.size=N->(∀i,i<N->listed.getD i false=true)->(∀k,k<H0.length->r k=r0 k)->PG r E w0 tm0 H0 ops tr (fun i=>listed.getD i false) N a w->Q .normal a w:=by
     intro listed a w r hls hall hr hd;refine hQ r a w ⟨?_,hr⟩ ⟨?_,hd.defers,hd.rel.TR (fun k=>?_)⟩
     ·rw[<-q4,<-hH00];exact hmono' 0 N (by omega) (nL _)
     ·rw[hd.tmps,<-q3];apply congrArg;rw[<-Ar (r:=r) q1 hs N (nL _)];apply List.ext_getElem?;intro t;exact mG N (fun i hi hne=>absurd (hall i hi) hne)
     ·rw[<-q4,<-EU q2 hs (fun j hj s b h=>((hsc j hj).1 s b h).1) (fun j hj k l h=>((hsc j hj).2.1 k l h).1) (fun j hj m h p hp=>((hsc j hj).2.2.1 m h p hp).1) N (nL _) k];exact ot N (fun i hi hne=>absurd (hall i hi) hne)
    have allOf:∀listed:Array Bool,listed.size=N->(List.range N).countP (fun i=>!listed.getD i true)=0->∀i,i<N->listed.getD i false=true:=by intro listed hls hc i hi;have:=List.countP_eq_zero.1 hc i (by simpa using hi);simp[hls,hi] at this ⊢;exact this
    induction fuel with
    |zero=>
     intro listed a w r hls hcl hr hd hc;have hall:=allOf listed hls (by omega);refine⟨?_,allQ listed a w r hls hall hr hd⟩;apply List.eq_nil_iff_forall_not_mem.2;intro i hi;obtain⟨h1,o,h2,h3⟩:=mem_ready.1 hi;have hiN:i<N:=by rw[hN];exact(Array.getElem?_eq_some_iff.1 h2).1
     rw[vK hls hiN,hall i hiN] at h1;cases h1
    |succ fuel ih=>
     intro listed a w r hls hcl hr hd hc;refine⟨fun hnil=>?_,fun j hj=>?_⟩
     ·refine allQ listed a w r hls ?_ hr hd;intro i;induction i using Nat.strongRecOn with
      |_ i ihs=>
       intro hi;cases hq:listed.getD i false with
       |true=>rfl
       |false=>
        exfalso;obtain⟨o,tm',ho,_⟩:=hs i hi;have:i∈Region.ready .any ops listed:=mem_ready.2 ⟨by rw[vK hls hi];exact hq,o,ho,fun e he hb=>by have hlt:=vJ c3 i o (by simpa using ho) e he hb;exact ihs e.on (by omega) (by omega)⟩;rw[hnil] at this;cases this
     ·obtain⟨h1,o,ho,hdep⟩:=mem_ready.1 hj;have hjN:j<N:=by rw[hN];exact(Array.getElem?_eq_some_iff.1 ho).1
      have hDj:listed.getD j false=false:=getD_both h1;have unord:∀i,i<N->i≠j->listed.getD i false≠decide (i<j)->∀oi,ops[i]? =some oi->
        (i<j->(oi.apart ops o=true/\(tr i).ac.pY (tr j).ac=false))/\(j<i->(o.apart ops oi=true/\(tr j).ac.pY (tr i).ac=false/\∀s b,(tr j).ac= .nw s b->(tr i).free s=true)):=by
       intro i hi hne hD oi hoi;refine⟨fun hij=>?_,fun hij=>?_⟩
       ·rcases hpair i j oi o hij hoi ho with h|h
        ·have:=Cg (D:=fun i=>listed.getD i false) hcl ho hdep h hne;exact absurd (by rw[this];simp[hij]) hD
        ·exact⟨h.1,h.2.1⟩
       ·rcases hpair j i o oi hij ho hoi with h|h
        ·have hDi:listed.getD i false=true:=by
          cases hq:listed.getD i false with
          |true=>rfl
          |false=>exact absurd (by rw[hq];simp;omega) hD
         have:=nu (D:=fun i=>listed.getD i false) hcl ops.toList [] (fun k=>by simp) (fun k hk=>by simp at hk) i hDi j h;rw[hDj] at this;cases this
        ·exact h
      have hoff:∀i,i<N->i≠j->listed.getD i false≠decide (i<j)->Off ops tr o j i:=by
       intro i hi hne hD;obtain⟨oi,tm',hoi,_⟩:=hs i hi;obtain⟨u1,u2⟩:=unord i hi hne hD oi hoi;have hdi:kZ ops i=oi.dst:=by unfold kZ;rw[hoi];rfl
       rcases Nat.lt_or_gt_of_ne hne with hlt|hgt
       ·obtain⟨ap,to⟩:=u1 hlt;obtain⟨b1,b2,b3⟩:=Oper.apart_spec ap;exact⟨fun d h=>b1 d (hdi ▸ h),fun d h=>b2 d (hdi ▸ h),fun k hk=>TT to hk⟩
       ·obtain⟨ap,to,_⟩:=u2 hgt;obtain⟨b1,b2,b3⟩:=Oper.apart_spec ap;exact⟨fun d h=>b3 d (hdi ▸ h),fun d h hc=>b2 d hc (hdi ▸ h),fun k hk=>TU to hk⟩
      refine step_done ok hfe hN q1 q2 hs (fun j hj s b h=>⟨((hsc j hj).1 s b h).1,((hsc j hj).1 s b h).2.1⟩) (fun j hj k l h=>((hsc j hj).2.1 k l h).1) (fun j hj m h p hp=>((hsc j hj).2.2.1 m h p hp).1) c4 hjN ho (D:=fun i=>listed.getD i false) (D':=fun i=>(listed.setIfInBounds j true).getD i false) hDj ?_ ?_ hoff ?_ hE hd ?_
      ·simp[hls,hjN]
      ·intro i hi;exact getD_set_ne false (Ne.symm hi)
      ·intro s b hb;obtain⟨n1,n2,n3⟩:=(hsc j hjN).1 s b hb;have hns:H0.length<=s:=by rw[n1,<-hH00];exact hmono' 0 j (by omega) (by omega)
       have lows:∀n,n<=s->∀k,k<n->(!Nat.beq k s)=true:=fun n hn k hk=>by
        cases hq:Nat.beq k s with
        |false=>rfl
        |true=>have:=nQ hq;omega
       refine⟨fv (lows _ hns) tm0 c1,fun k cs hk=>fv (lows _ hns) cs (dn c2 k cs hk),hns,fun i hi hDi=>?_⟩;have hne:i≠j:=by rintro rfl;rw[hDj] at hDi;cases hDi
       obtain⟨s1,s2,sm,s3,s4⟩:=hsc i hi;rcases Nat.lt_or_gt_of_ne hne with hlt|hgt
       ·have hle: (Hf (i+1)).length<=s:=by rw[n1];exact hmono' (i+1) j (by omega) (by omega)
        refine⟨MV.yA (lows _ hle) _ s3,trivial,fun q cs hq=>?_⟩;rcases hq with hq|hq|⟨m,hq,hmm⟩
        ·obtain⟨t1,t2,t3⟩:=s1 q cs hq;exact⟨by omega,fv (lows _ (by omega)) cs t2⟩
        ·obtain⟨t1,t2⟩:=s2 q cs hq;exact⟨by omega,fv (lows _ (by omega)) cs t2⟩
        ·obtain⟨t1,t2⟩:=sm m hq (q,cs) hmm;simp only at t1 t2;exact⟨by omega,fv (lows _ (by omega)) cs t2⟩
       ·obtain⟨oi,tm',hoi,_⟩:=hs i hi;obtain⟨ap,to,fr⟩:=(unord i hi hne (by rw[hDi];simp;omega) oi hoi).2 hgt;have hfr:=fr s b hb;unfold Tr.free at hfr;simp only[bI] at hfr;refine⟨hfr.1,trivial,fun q cs hq=>?_⟩;have hgt':s<(Hf i).length:=by have:=hmono' (j+1) i (by omega) (by omega);omega
        rcases hq with hq|hq|⟨m,hq,hmm⟩
        ·obtain⟨t1,t2,t3⟩:=s1 q cs hq;refine⟨by omega,?_⟩;rw[hq] at hfr;exact hfr.2
        rotate_left
        ·refine⟨fun e=>?_,?_⟩
         ·subst e;rw[hb,hq] at to;have:=List.any_eq_false.1 to (q,cs) hmm;simp[Ac.nr] at this
         ·rw[hq] at hfr;exact List.all_eq_true.1 hfr.2 (q,cs) hmm
        ·refine⟨fun e=>?_,by rw[hq] at hfr;exact hfr.2⟩;subst e;rw[hb,hq] at to;simp[Ac.pY,Ac.nr] at to
      ·intro r' a' w' hr' hd';refine ih _ a' w' r' (by simp[hls]) ?_ (fun k hk=>(hr' k hk).trans (hr k hk)) hd' ?_
       ·intro q oq hoq hDq e he hb;by_cases eq:q=j
        ·subst eq;rw[ho] at hoq;cases hoq;exact getD_set_true (hdep e he hb)
        ·rw[getD_set_ne false (Ne.symm eq)] at hDq;exact getD_set_true (hcl q oq hoq hDq e he hb)
       ·have:=yE (p:=fun i=>!listed.getD i true) (q:=fun i=>!(listed.setIfInBounds j true).getD i true) (i:=j) (l:=List.range N) (by simpa using hjN) (by simp[h1]) (by simp[hls,hjN]) (fun x hx=>by
         by_cases ex:x=j
         ·subst ex;simp[h1]
         ·rw[getD_set_ne true (Ne.symm ex)] at hx;exact hx)
        omega
   refine main ops.size _ a w r0 (by simp[hN]) (fun j o _ hf=>by rw[getD_replicate_false] at hf;cases hf) (fun _ _=>rfl) ⟨?_,ha.defers,?_⟩ ?_
   ·rw[ha.tmps];apply congrArg;have:∀n,vH r0 tm0 (kZ ops) tr (fun i=>(Array.replicate ops.size false).getD i false) n=aE r0 tm0:=by
     intro n;induction n with
     |zero=>rfl
     |succ n ihn=>unfold vH;rw[if_neg (fun hc=>by have hc: (Array.replicate ops.size false).getD n false=true:=hc;rw[getD_replicate_false] at hc;cases hc),ihn]
    exact(this N).symm
   ·have:∀n,hV H0 tr (fun i=>(Array.replicate ops.size false).getD i false) n=fun k=>H0[k]?:=by
     intro n;induction n with
     |zero=>rfl
     |succ n ihn=>unfold hV;rw[if_neg (fun hc=>by have hc: (Array.replicate ops.size false).getD n false=true:=hc;rw[getD_replicate_false] at hc;cases hc),ihn]
    rw[this N];exact dL.TQ ha.rel
   ·rw[hN];exact nT List.countP_le_length (by simp)
  ·cases h2
 ·cases h
end
section
variable {Ω:Type} [jX Ω]
def mH(pf:FuncId->Bool):List Oper->Nat
 | []=>0
 |o::l=>match Ap pf o.op with
  |true=>mH pf l+1
  |false=>0
def vL(cx:Cx Ω)(fe:Fe Ω)(ops:Array Oper)(draw:Bool)(tm:List (MV Ω))(H:Hp Ω):Tree (St Ω):=
 match draw with
 |false=>mF cx fe ops ops.toList tm H
 |true=>match decide (mH cx.pf ops.toList=ops.size) with
  |true=>match Region.lexB .any ops with
   |true=>(Ps cx ops ops.toList tm H).map fun tm'=>(tm',H)
   |false=> .bad
  |false=>match Region.lexTailB .any ops (mH cx.pf ops.toList) with
   |true=>(Ps cx ops (ops.toList.take (mH cx.pf ops.toList)) tm H).bind fun tm'=>mF cx fe ops (ops.toList.drop (mH cx.pf ops.toList)) tm' H
   |false=>Lw cx fe ops tm H
theorem xP{cx:Cx Ω}(ok:iO cx){fe:Fe Ω}(hfe:vx cx.P fe){id:Nat}{ops:Array Oper}{draw:Bool}{E:lN}{w0:World}{Q:Exit->Act->World->Prop}
  {s s':St Ω} {r:Nat->Nat} {a:Act} {w:World} (h: (vL cx fe ops draw s.1 s.2).pick=some s') (ha:At r E w0 s a w) (hE:E.n<=s.2.length)
   (hQ:∀r' a' w',Grow r s.2 r' s'.2->At r' E w0 s' a' w'->Q .normal a' w'): (Code.region id ops draw).wp cx.P Q a w:=by
 obtain⟨tm,H⟩:=s;unfold vL at h;split at h
 ·exact wp_region_list (kX ok hfe _ _ _ _ r a w h ha hE hQ)
 ·split at h
  ·split at h
   ·rename_i hB;obtain⟨tm',h1,rfl⟩:=Tree.fD _ _ _ h;refine wp_region_quiet (C:=fun w'=>Rel r E w0 w' H) ok.mixed hB ha.rel.drawn ?_;exact qT ok _ _ tm' a h1 ha.tmps ha.defers (fun a' ht hd w' hr=>hQ r a' w' (Grow.refl r H) ⟨ht,hd,hr⟩)
   ·cases h
  ·split at h
   ·rename_i hB;obtain⟨tm',h1,h2⟩:=Tree.ct _ _ _ h;have e:ops=ops.toList.toArray:=by simp
    rw[e];refine jJ (C:=fun w'=>Rel r E w0 w' H) (mH cx.pf ops.toList) ok.mixed (by rw[<-e];exact hB) ha.rel.drawn ?_;rw[<-e];exact qT ok _ _ tm' a h1 ha.tmps ha.defers (fun a' ht hd w' hr=>kX ok hfe _ _ _ _ r a' w' h2 ⟨ht,hd,hr⟩ hE hQ)
   ·exact wp_region_any ok.mixed (EW ok hfe (s:=(tm,H)) h ⟨ha.tmps,ha.defers,ha.rel.drawn⟩ hE hQ)
section
variable {β:Type}
def fN(n:Nat)(k:Nat->β):β:=
 match n with
 |0=>k 0
 |m+1=>k (m+1)
def TV(x:Value)(k:Value->β):β:=
 match x with
 | .int t (.ofNat n)=>fN n fun n=>k (.int t (.ofNat n))
 | .int t (.negSucc n)=>fN n fun n=>k (.int t (.negSucc n))
 | .bool true=>k (.bool true)
 | .bool false=>k (.bool false)
 |x=>k x
mutual
def fV(x:MV Ω)(k:MV Ω->β):β:=
 match x with
 | .c x=>TV x fun x=>k (.c x)
 | .v x=>k (.v x)
 | .i x=>k (.i x)
 | .w a=>k (.w a)
 | .p b o=>fN b fun b=>fN o fun o=>k (.p b o)
 | .s b o l c=>fN b fun b=>fN o fun o=>fN l fun l=>fN c fun c=>k (.s b o l c)
 | .t l=>fL l fun l=>k (.t l)
 | .ag l=>fL l fun l=>k (.ag l)
 | .fn f l=>fL l fun l=>k (.fn f l)
 | .z b q o l=>fN b fun b=>fN q fun q=>fN o fun o=>k (.z b q o l)
 | .g x=>k (.g x)
 | .r q n=>fN q fun q=>fN n fun n=>k (.r q n)
def fL(l:List (MV Ω))(k:List (MV Ω)->β):β:=
 match l with
 | []=>k []
 |x::l=>fV x fun x=>fL l fun l=>k (x::l)
end
def fH(H:Hp Ω)(k:Hp Ω->β):β:=
 match H with
 | []=>k []
 |b::H=>fL b fun b=>fH H fun H=>k (b::H)
def fS(s:St Ω)(k:St Ω->β):β:=
 match s with
 |(tm,H)=>fL tm fun tm=>fH H fun H=>k (tm,H)
theorem Ci(n:Nat)(k:Nat->β):fN n k=k n:=by cases n <;> rfl
theorem PH(x:Value)(k:Value->β):TV x k=k x:=by unfold TV;split <;> first|rfl|exact Ci _ _
mutual
theorem SH:∀(x:MV Ω) (k:MV Ω->β),fV x k=k x
 | .c x,k=>by simp only[fV,PH]
 | .v _,_=>rfl
 | .i _,_=>rfl
 | .w _,_=>rfl
 | .p _ _,k=>by simp only[fV,Ci]
 | .s _ _ _ _,k=>by simp only[fV,Ci]
 | .t l,k=>by simp only[fV];rw[yF l]
 | .ag l,k=>by simp only[fV];rw[yF l]
 | .fn f l,k=>by simp only[fV];rw[yF l]
 | .z _ _ _ _,k=>by simp only[fV,Ci]
 | .g _,_=>rfl
 | .r _ _,k=>by simp only[fV,Ci]
theorem yF:∀(l:List (MV Ω)) (k:List (MV Ω)->β),fL l k=k l
 | [],_=>rfl
 |x::l,k=>by simp only[fL];rw[SH x,yF l]
end
theorem Lx:∀(H:Hp Ω) (k:Hp Ω->β),fH H k=k H
 | [],_=>rfl
 |b::H,k=>by simp only[fH];rw[yF b,Lx H]
theorem SI(s:St Ω)(k:St Ω->β):fS s k=k s:=by obtain⟨tm,H⟩:=s;simp only[fS,yF,Lx]
end
inductive Ex where
 |normal
 |exit (id:Nat)
 |ret
 |goto (l:Nat)
def Ex.to:Ex->Exit
 | .goto l=> .goto l
 | .normal=> .normal
 | .exit id=> .exit id
 | .ret=> .ret
def GQ(f:St Ω->Tree (Ex×St Ω)):Nat->St Ω->Tree (Ex×St Ω)
 |0,_=> .bad
 |n+1,s=>(f s).bind fun y=>match y.1 with
  | .normal=>GQ f n y.2
  |e=> .leaf (e,y.2)
def Au(f:Code->St Ω->Tree (Ex×St Ω))(x:Code):Nat->Code->St Ω->Tree (Ex×St Ω)
 |0,_,_=> .bad
 |m+1,c,s=>(f c s).bind fun y=>match y.1 with
  | .goto l=>match findLabel x l with
   |some rest=>Au f x m rest y.2
   |none=> .leaf (.goto l,y.2)
  |e=> .leaf (e,y.2)
def jumps(P:Program)(x:Code)(Q:Exit->Act->World->Prop):Nat->Code->Act->World->Prop
 |0,_,_,_=>False
 |m+1,c,a,w=>c.wp P (fun e a' w'=>match e with
  | .goto l=>match findLabel x l with
   |some rest=>jumps P x Q m rest a' w'
   |none=>Q (.goto l) a' w'
  |e=>Q e a' w') a w
theorem EZ{P:Program}{x:Code}{Q:Exit->Act->World->Prop}{m:Nat}{a:Act}{w:World}(h:jumps P x Q m x a w): (Code.scope x).wp P Q a w:=by
 intro b k cs;have key:∀m c a w,jumps P x Q m c a w->∃e a' w',Q e a' w'/\Arrives P (lone (b.at a (.code c:: .inScope x::k)) cs w) b k cs e a' w':=by
  intro m;induction m with
  |zero=>intro c a w h;exact h.elim
  |succ m ih=>
   intro c a w h;obtain⟨e,a₁,w₁,hq,harr⟩:=h b (.inScope x::k) cs;cases e with
   |normal=>exact⟨.normal,a₁,w₁,hq,Steps.trans harr (.one step_inScope)⟩
   |exit id=>exact⟨.exit id,a₁,w₁,hq,fun k' hk=>harr k' (by simp[exitTo,hk])⟩
   |goto l=>
    simp only at hq;cases hf:findLabel x l with
    |some rest=>
     rw[hf] at hq;obtain⟨e₂,a₂,w₂,hq₂,harr₂⟩:=ih rest a₁ w₁ hq;exact⟨e₂,a₂,w₂,hq₂,.of_steps (harr _ (by simp[gotoIn,hf])) harr₂⟩
    |none=>
     rw[hf] at hq;exact⟨.goto l,a₁,w₁,hq,fun k' hk=>harr k' (by simp[gotoIn,hf,hk])⟩
   |ret=>exact⟨_,a₁,w₁,hq,harr⟩
   |panic ch=>exact⟨_,a₁,w₁,hq,harr⟩
   |outgrown=>exact⟨_,a₁,w₁,hq,harr⟩
 obtain⟨e,a',w',hq,harr⟩:=key m x a w h;exact⟨e,a',w',hq,.of_steps (.one step_scope) harr⟩
def uJ(s:St Ω)(c:Operand)(b:Bool):St Ω:=
 match c with
 | .tmp d=>(s.1.set d (.c (.bool b)),s.2)
 |_=>s
theorem yG{r:Nat->Nat}{E:lN}{w0 w:World}{s:St Ω}{a:Act}(h:At r E w0 s a w){c:Operand}{b:Bool}(e:cG s.1 c= .v (.bool b)):At r E w0 (uJ s c b) a w:=by
 cases c with
 |tmp d=>
  have hd:s.1[d]? =some (.v (.bool b)):=by
   simp only[cG] at e;cases hq:s.1[d]? with
   |none=>rw[hq] at e;cases e
   |some x=>rw[hq] at e;simp only[Option.getD_some] at e;rw[e]
  exact⟨by rw[h.tmps];exact congrArg List.toArray (lQ hd r).symm,h.defers,h.rel⟩
 |_=>exact h
def jZ(cx:Cx Ω)(fe:Fe Ω):Nat->Code->St Ω->Tree (Ex×St Ω)
 |0,_,_=> .bad
 |n+1,c,s=>match c with
  | .skip=> .leaf (.normal,s)
  | .label _=> .leaf (.normal,s)
  | .region _ ops draw=>(vL cx fe ops draw s.1 s.2).bind fun s'=>fS s' fun s'=> .leaf (.normal,s')
  | .seq x y=>(jZ cx fe n x s).bind fun z=>match z.1 with
   | .normal=>jZ cx fe n y z.2
   |e=> .leaf (e,z.2)
  | .cond c x y=>match cG s.1 c with
   | .c (.bool true)=>jZ cx fe n x s
   | .c (.bool false)=>jZ cx fe n y s
   | .v (.bool b)=> .ite b (jZ cx fe n x (uJ s c true)) (jZ cx fe n y (uJ s c false))
   |_=> .bad
  | .block id x=>(jZ cx fe n x s).bind fun z=>match z.1 with
   | .exit i=>match decide (i=id) with
    |true=> .leaf (.normal,z.2)
    |false=> .leaf (.exit i,z.2)
   |e=> .leaf (e,z.2)
  | .loop x=>GQ (jZ cx fe n x) 130 s
  | .scope x=>Au (jZ cx fe n) x 64 x s
  | .exit id=> .leaf (.exit id,s)
  | .goto l=> .leaf (.goto l,s)
  | .ret=> .leaf (.ret,s)
  |_=> .bad
def Av(r:Nat->Nat)(E:lN)(w0:World)(s:St Ω)(y:Ex×St Ω)(ex:Exit)(a':Act)(w':World):Prop:=
 ex=y.1.to/\∃r',Grow r s.2 r' y.2.2/\At r' E w0 y.2 a' w'
theorem vM{P:Program}{f:St Ω->Tree (Ex×St Ω)}{c:Code}{E:lN}{w0:World}(hf:∀s y,(f s).pick=some y->∀r a w,At r E w0 s a w->E.n<=s.2.length->c.wp P (Av r E w0 s y) a w):
  ∀(n:Nat) (s:St Ω) (y:Ex×St Ω),(GQ f n s).pick=some y->∀r a w,At r E w0 s a w->E.n<=s.2.length->Code.rounds P c (Av r E w0 s y) n a w
 |0,s,y,h,_,_,_,_,_=>by cases h
 |n+1,s,y,h,r,a,w,ha,hE=>by
  unfold GQ at h;obtain⟨z,h1,h2⟩:=Tree.ct _ _ _ h;refine Go.wp_mono (hf s z h1 r a w ha hE) ?_;rintro ex a' w' ⟨rfl,r',hg,hat⟩;obtain⟨ze,zs⟩:=z;cases ze with
  |normal=>
   have ih:=vM hf n zs y h2 r' a' w' hat (nT hE hg.1);have mono:∀(m:Nat) (b:Act) (u:World),Code.rounds P c (Av r' E w0 zs y) m b u->Code.rounds P c (Av r E w0 s y) m b u:=by
    intro m;induction m with
    |zero=>intro b u h;exact h
    |succ m ihm=>
     intro b u hh;refine Go.wp_mono hh ?_;intro e b' u' hq;cases e with
     |normal=>exact ihm b' u' hq
     |_=>
      obtain⟨e1,r2,g2,k2⟩:=hq;exact⟨e1,r2,hg.trans g2,k2⟩
   exact mono n a' w' ih
  |exit id=>obtain rfl:=aw h2;exact⟨rfl,r',hg,hat⟩
  |goto l=>obtain rfl:=aw h2;exact⟨rfl,r',hg,hat⟩
  |ret=>obtain rfl:=aw h2;exact⟨rfl,r',hg,hat⟩
theorem tU{P:Program}{f:Code->St Ω->Tree (Ex×St Ω)}{x:Code}{E:lN}{w0:World}(hf:∀c s y,(f c s).pick=some y->∀r a w,At r E w0 s a w->E.n<=s.2.length->c.wp P (Av r E w0 s y) a w):
  ∀(m:Nat) (c:Code) (s:St Ω) (y:Ex×St Ω),(Au f x m c s).pick=some y->∀r a w,At r E w0 s a w->E.n<=s.2.length->∀(r0:Nat->Nat) (s0:St Ω),Grow r0 s0.2 r s.2->jumps P x (Av r0 E w0 s0 y) m c a w
 |0,c,s,y,h,_,_,_,_,_,_,_,_=>by cases h
 |m+1,c,s,y,h,r,a,w,ha,hE,r0,s0,hg0=>by
  unfold Au at h;obtain⟨z,h1,h2⟩:=Tree.ct _ _ _ h;refine Go.wp_mono (hf c s z h1 r a w ha hE) ?_;rintro ex a' w' ⟨rfl,r',hg,hat⟩;obtain⟨ze,zs⟩:=z;cases ze with
  |goto l=>
   show(match findLabel x l with|some rest=>jumps P x (Av r0 E w0 s0 y) m rest a' w'|none=>Av r0 E w0 s0 y (.goto l) a' w');simp only at h2;cases hl:findLabel x l with
   |some rest=>
    rw[hl] at h2;exact tU hf m rest zs y h2 r' a' w' hat (nT hE hg.1) r0 s0 (hg0.trans hg)
   |none=>
    rw[hl] at h2;obtain rfl:=aw h2;exact⟨rfl,r',hg0.trans hg,hat⟩
  |normal=>obtain rfl:=aw h2;exact⟨rfl,r',hg0.trans hg,hat⟩
  |exit id=>obtain rfl:=aw h2;exact⟨rfl,r',hg0.trans hg,hat⟩
  |ret=>obtain rfl:=aw h2;exact⟨rfl,r',hg0.trans hg,hat⟩
theorem Cj{cx:Cx Ω}(ok:iO cx){fe:Fe Ω}(hfe:vx cx.P fe){E:lN}{w0:World}:∀(n:Nat) (c:Code) (s:St Ω) (y:Ex×St Ω),(jZ cx fe n c s).pick=some y->
  ∀(r:Nat->Nat) (a:Act) (w:World),At r E w0 s a w->E.n<=s.2.length->c.wp cx.P (Av r E w0 s y) a w:=by
 intro n;induction n with
 |zero=>intro c s y h;cases h
 |succ n ih=>
  intro c s y h r a w ha hE;unfold jZ at h;cases c with
  |skip=>obtain rfl:=aw h;exact wp_skip ⟨rfl,r,Grow.refl _ _,ha⟩
  |label l=>obtain rfl:=aw h;exact wp_label ⟨rfl,r,Grow.refl _ _,ha⟩
  |region id ops draw=>
   obtain⟨s',h1,h2⟩:=Tree.ct _ _ _ h;rw[SI] at h2;obtain rfl:=aw h2;exact xP ok hfe h1 ha hE (fun r' a' w' hg hat=>⟨rfl,r',hg,hat⟩)
  |seq x z=>
   obtain⟨q,h1,h2⟩:=Tree.ct _ _ _ h;refine wp_seq (Go.wp_mono (ih x s q h1 r a w ha hE) ?_);rintro ex a' w' ⟨rfl,r',hg,hat⟩;obtain⟨qe,qs⟩:=q;cases qe with
   |normal=>
    refine Go.wp_mono (ih z qs y h2 r' a' w' hat (nT hE hg.1)) ?_;rintro ex b u ⟨rfl,r2,g2,k2⟩;exact⟨rfl,r2,hg.trans g2,k2⟩
   |exit id=>obtain rfl:=aw h2;exact⟨rfl,r',hg,hat⟩
   |goto l=>obtain rfl:=aw h2;exact⟨rfl,r',hg,hat⟩
   |ret=>obtain rfl:=aw h2;exact⟨rfl,r',hg,hat⟩
  |cond c x z=>
   simp only at h;have he:=kV ha.tmps c;split at h
   ·rename_i e;rw[e] at he;exact wp_cond_true he (ih x s y h r a w ha hE)
   ·rename_i e;rw[e] at he;exact wp_cond_false he (ih z s y h r a w ha hE)
   ·rename_i b e;rw[e] at he;have hs:∀b,(uJ s c b).2=s.2:=fun b=>by cases c <;> rfl
    cases b
    ·have:=ih z _ y h r a w (yG ha e) (by rw[hs];exact hE);refine wp_cond_false he (Go.wp_mono this ?_);rintro ex b u ⟨e1,r2,g2,k2⟩;exact⟨e1,r2,by rw[hs] at g2;exact g2,k2⟩
    ·have:=ih x _ y h r a w (yG ha e) (by rw[hs];exact hE);refine wp_cond_true he (Go.wp_mono this ?_);rintro ex b u ⟨e1,r2,g2,k2⟩;exact⟨e1,r2,by rw[hs] at g2;exact g2,k2⟩
   ·cases h
  |block id x=>
   obtain⟨q,h1,h2⟩:=Tree.ct _ _ _ h;refine wp_block (Go.wp_mono (ih x s q h1 r a w ha hE) ?_);rintro ex a' w' ⟨rfl,r',hg,hat⟩;obtain⟨qe,qs⟩:=q;cases qe with
   |normal=>obtain rfl:=aw h2;exact⟨rfl,r',hg,hat⟩
   |exit i=>
    simp only[] at h2;split at h2
    ·rename_i e;have e:i=id:=by simpa using e
     obtain rfl:=aw h2;show(if i=id then _ else _);rw[if_pos e];exact⟨rfl,r',hg,hat⟩
    ·rename_i e;have e:¬i=id:=by simpa using e
     obtain rfl:=aw h2;show(if i=id then _ else _);rw[if_neg e];exact⟨rfl,r',hg,hat⟩
   |goto l=>obtain rfl:=aw h2;exact⟨rfl,r',hg,hat⟩
   |ret=>obtain rfl:=aw h2;exact⟨rfl,r',hg,hat⟩
  |loop x=>exact wp_loop_rounds 130 (vM (ih x) 130 s y h r a w ha hE)
  |scope x=>exact EZ (m:=64) (tU ih 64 x s y h r a w ha hE r s (Grow.refl _ _))
  |exit id=>obtain rfl:=aw h;exact wp_exit ⟨rfl,r,Grow.refl _ _,ha⟩
  |goto l=>obtain rfl:=aw h;exact wp_goto ⟨rfl,r,Grow.refl _ _,ha⟩
  |ret=>obtain rfl:=aw h;exact wp_ret ⟨rfl,r,Grow.refl _ _,ha⟩
  |_=>cases h
def SJ(P:Program)(tm:List (MV Ω))(H:Hp Ω):ResultVar->Tree (MV Ω)
 | .tmp t=> .leaf ((tm[t]?).getD (.c undef))
 | .cell a t=>vh P t ((tm[a]?).getD (.c undef)) H
def E0(P:Program)(tm:List (MV Ω))(H:Hp Ω):List ResultVar->Tree (List (MV Ω))
 | []=> .leaf []
 |x::l=>(SJ P tm H x).bind fun y=>(E0 P tm H l).map (y:: ·)
def sx(P:Program)(fn:Func)(tm:List (MV Ω))(H:Hp Ω):Tree (MV Ω):=
 (E0 P tm H fn.results.toList).map fun l=>match l with
  | [x]=>x
  |l=> .t l
def trim(n:Nat)(x:MV Ω)(H:Hp Ω):Hp Ω:=
 match x.Z9 n&&ij n (H.take n) with
 |true=>H.take n
 |false=>H
def mI(b:Bool)(x y:ae):ae:=match b with|true=>x|false=>y
def mB(b x y:Bool):Bool:=match b with|true=>x|false=>y
def mZ(b:Bool)(x y:Int):Int:=match b with|true=>x|false=>y
def mW(b:Bool)(x y:Ω):Ω:=match b with|true=>x|false=>y
def eqC:Value->Value->Bool
 | .int .i64 n,.int .i64 m=>decide (n=m)
 | .int .u8 n,.int .u8 m=>decide (n=m)
 | .bool true,.bool true=>true
 | .bool false,.bool false=>true
 |_,_=>false
theorem Ly{x y:Value}(h:eqC x y=true):x=y:=by
 unfold eqC at h;split at h
 ·rw[of_decide_eq_true h]
 ·rw[of_decide_eq_true h]
 ·rfl
 ·rfl
 ·cases h
def SK:MV Ω->Option Bool
 | .c (.bool b)=>some b
 | .v (.bool b)=>some b
 |_=>none
def XU:MV Ω->Option (IntKind×Int)
 | .c (.int k n)=>some (k,n)
 | .v (.int k n)=>some (k,n)
 |_=>none
theorem qW{x:MV Ω}{b:Bool}(h:SK x=some b)(r:Nat->Nat):x.av r= .bool b/\x.cells r= [.bool b]:=by
 unfold SK at h;split at h
 ·cases h;exact⟨rfl,rfl⟩
 ·cases h;exact⟨rfl,rfl⟩
 ·cases h
theorem qX{x:MV Ω}{k:IntKind}{n:Int}(h:XU x=some (k,n))(r:Nat->Nat):x.av r= .int k n/\x.cells r= [.int k n]:=by
 unfold XU at h;split at h
 ·cases h;exact⟨rfl,rfl⟩
 ·cases h;exact⟨rfl,rfl⟩
 ·cases h
theorem yH{x:MV Ω}{y:ae}(h:x.i64=some y)(r:Nat->Nat):x.cells r= [.int .i64 y.val]:=by
 unfold MV.i64 at h;split at h
 ·cases h;rfl
 ·split at h
  ·cases h;rfl
  ·cases h
 ·cases h
def E4(b:Bool)(X Y:MV Ω):Option (MV Ω):=match X.i64,Y.i64 with
 |some p,some q=>some (.i (mI b p q))
 |_,_=>match SK X,SK Y with
  |some p,some q=>some (.v (.bool (mB b p q)))
  |_,_=>match XU X,XU Y with
   |some (k,p),some (k',q)=>match decide (k=k') with
    |true=>some (.v (.int k (mZ b p q)))
    |false=>none
   |_,_=>none
mutual
def dY(b:Bool):MV Ω->MV Ω->Option (MV Ω)
 | .w x,.w y=>some (.w (mW b x y))
 | .p k o,.p k' o'=>match Nat.beq k k'&&Nat.beq o o' with|true=>some (.p k o)|false=>none
 | .s k o l c,.s k' o' l' c'=>match Nat.beq k k'&&Nat.beq o o'&&Nat.beq l l'&&Nat.beq c c' with|true=>some (.s k o l c)|false=>none
 | .t l,.t m=>(jo b l m).map .t
 | .ag l,.ag m=>(jo b l m).map .ag
 | .fn f l,.fn g m=>match Nat.beq f g with|true=>(jo b l m).map (.fn f)|false=>none
 | .r q n,.r q' n'=>match Nat.beq q q'&&Nat.beq n n' with|true=>some (.r q n)|false=>none
 | .c x,.c y=>match eqC x y with
  |true=>some (.c x)
  |false=>match(MV.c x:MV Ω).i64,(MV.c y:MV Ω).i64 with
   |some p,some q=>some (.i (mI b p q))
   |_,_=>match SK (MV.c x:MV Ω),SK (MV.c y:MV Ω) with
    |some p,some q=>some (.v (.bool (mB b p q)))
    |_,_=>none
 |X,Y=>E4 b X Y
def jo(b:Bool):List (MV Ω)->List (MV Ω)->Option (List (MV Ω))
 | [],[]=>some []
 |x::l,y::m=>match dY b x y,jo b l m with
  |some z,some n=>some (z::n)
  |_,_=>none
 |_,_=>none
end
def zY{α:Type}(b:Bool)(x y:α):α:=match b with|true=>x|false=>y
theorem SL{b:Bool}{X Y:MV Ω}{p q:ae}(h1:X.i64=some p)(h2:Y.i64=some q)(r:Nat->Nat): (MV.i (mI b p q):MV Ω).av r=(zY b X Y).av r/\(MV.i (mI b p q):MV Ω).cells r=(zY b X Y).cells r:=by
 cases b
 ·exact⟨(mC h2 r).symm,(yH h2 r).symm⟩
 ·exact⟨(mC h1 r).symm,(yH h1 r).symm⟩
theorem SM{b:Bool}{X Y:MV Ω}{p q:Bool}(h1:SK X=some p)(h2:SK Y=some q)(r:Nat->Nat): (MV.v (.bool (mB b p q)):MV Ω).av r=(zY b X Y).av r/\(MV.v (.bool (mB b p q)):MV Ω).cells r=(zY b X Y).cells r:=by
 cases b
 ·exact⟨(qW h2 r).1.symm,(qW h2 r).2.symm⟩
 ·exact⟨(qW h1 r).1.symm,(qW h1 r).2.symm⟩
theorem Yf{b:Bool}{X Y:MV Ω}{k:IntKind}{p q:Int}(h1:XU X=some (k,p))(h2:XU Y=some (k,q))(r:Nat->Nat): (MV.v (.int k (mZ b p q)):MV Ω).av r=(zY b X Y).av r/\(MV.v (.int k (mZ b p q)):MV Ω).cells r=(zY b X Y).cells r:=by
 cases b
 ·exact⟨(qX h2 r).1.symm,(qX h2 r).2.symm⟩
 ·exact⟨(qX h1 r).1.symm,(qX h1 r).2.symm⟩
theorem fF{b:Bool}{X Y Z:MV Ω}(h:E4 b X Y=some Z)(r:Nat->Nat):Z.av r=(zY b X Y).av r/\Z.cells r=(zY b X Y).cells r:=by
 unfold E4 at h;split at h
 ·rename_i p q h1 h2;cases h;exact SL h1 h2 r
 ·split at h
  ·rename_i p q h1 h2;cases h;exact SM h1 h2 r
  ·split at h
   ·rename_i k p k' q h1 h2;split at h
    ·rename_i e;have e:=of_decide_eq_true e;subst e;cases h;exact Yf h1 h2 r
    ·cases h
   ·cases h
mutual
theorem tV{b:Bool}:∀(X Y Z:MV Ω),dY b X Y=some Z->∀r,Z.av r=(zY b X Y).av r/\Z.cells r=(zY b X Y).cells r
 | .w x,Y,Z,h,r=>by
  cases Y with
  |w y=>
   simp only[dY,oI] at h;subst h;cases b <;> exact⟨rfl,rfl⟩
  |_=>simp only[dY] at h;exact fF h r
 | .p k o,Y,Z,h,r=>by
  cases Y with
  |p k' o'=>
   simp only[dY] at h;split at h
   ·rename_i e;simp only[bI] at e;obtain⟨e1,e2⟩:=e;have e1:=nQ e1;have e2:=nQ e2;subst e1;subst e2;cases h;cases b <;> exact⟨rfl,rfl⟩
   ·cases h
  |_=>simp only[dY] at h;exact fF h r
 | .s k o l c,Y,Z,h,r=>by
  cases Y with
  |s k' o' l' c'=>
   simp only[dY] at h;split at h
   ·rename_i e;simp only[bI] at e;obtain⟨⟨⟨e1,e2⟩,e3⟩,e4⟩:=e;have e1:=nQ e1;have e2:=nQ e2;have e3:=nQ e3;have e4:=nQ e4;subst e1;subst e2;subst e3;subst e4;cases h;cases b <;> exact⟨rfl,rfl⟩
   ·cases h
  |_=>simp only[dY] at h;exact fF h r
 | .t l,Y,Z,h,r=>by
  cases Y with
  |t m=>
   simp only[dY] at h;cases hq:jo b l m with
   |none=>rw[hq] at h;cases h
   |some n=>
    rw[hq] at h;cases h;obtain⟨h1,h2⟩:=jP l m n hq r;cases b <;> exact⟨by simp only[MV.av,h1];rfl,by simp only[MV.cells,h1];rfl⟩
  |_=>simp only[dY] at h;exact fF h r
 | .ag l,Y,Z,h,r=>by
  cases Y with
  |ag m=>
   simp only[dY] at h;cases hq:jo b l m with
   |none=>rw[hq] at h;cases h
   |some n=>
    rw[hq] at h;cases h;obtain⟨h1,h2⟩:=jP l m n hq r;cases b <;> exact⟨by simp only[MV.av,h2];rfl,by simp only[MV.cells,h2];rfl⟩
  |_=>simp only[dY] at h;exact fF h r
 | .fn f l,Y,Z,h,r=>by
  cases Y with
  |fn g m=>
   simp only[dY] at h;split at h
   ·rename_i e;have e:=nQ e;subst e;cases hq:jo b l m with
    |none=>rw[hq] at h;cases h
    |some n=>
     rw[hq] at h;cases h;obtain⟨h1,h2⟩:=jP l m n hq r;cases b <;> exact⟨by simp only[MV.av,h1];rfl,by simp only[MV.cells,h1];rfl⟩
   ·cases h
  |_=>simp only[dY] at h;exact fF h r
 | .c x,Y,Z,h,r=>by
  cases Y with
  |c y=>
   simp only[dY] at h;split at h
   ·rename_i e;have e:=Ly e;subst e;cases h;cases b <;> exact⟨rfl,rfl⟩
   ·split at h
    ·rename_i p q h1 h2;cases h;exact SL h1 h2 r
    ·split at h
     ·rename_i p q h1 h2;cases h;exact SM h1 h2 r
     ·cases h
  |_=>simp only[dY] at h;exact fF h r
 | .z _ _ _ _,Y,Z,h,r=>by cases Y <;> (simp only[dY] at h;exact fF h r)
 | .g _,Y,Z,h,r=>by cases Y <;> (simp only[dY] at h;exact fF h r)
 | .r q n,Y,Z,h,r=>by
  cases Y with
  |r q' n'=>
   simp only[dY] at h;split at h
   ·cases h;cases b <;> exact⟨rfl,rfl⟩
   ·cases h
  |_=>simp only[dY] at h;exact fF h r
 | .v x,Y,Z,h,r=>by cases Y <;> (simp only[dY] at h;exact fF h r)
 | .i x,Y,Z,h,r=>by cases Y <;> (simp only[dY] at h;exact fF h r)
theorem jP{b:Bool}:∀(l m n:List (MV Ω)),jo b l m=some n->∀r,aE r n=aE r (zY b l m)/\ai r n=ai r (zY b l m)
 | [],[],n,h,r=>by simp only[jo,oI] at h;subst h;cases b <;> exact⟨rfl,rfl⟩
 | [],_::_,_,h,_=>by simp[jo] at h
 |_::_,[],_,h,_=>by simp[jo] at h
 |x::l,y::m,n,h,r=>by
  simp only[jo] at h;split at h
  ·rename_i z n' h1 h2;cases h;obtain⟨a1,a2⟩:=tV x y z h1 r;obtain⟨b1,b2⟩:=jP l m n' h2 r;cases b
   ·exact⟨by simp only[aE,a1,b1];rfl,by simp only[ai,a2,b2];rfl⟩
   ·exact⟨by simp only[aE,a1,b1];rfl,by simp only[ai,a2,b2];rfl⟩
  ·cases h
end
def eqO:Option (Nat×Nat)->Option (Nat×Nat)->Bool
 |none,none=>true
 |some (a,b),some (c,d)=>Nat.beq a c&&Nat.beq b d
 |_,_=>false
theorem Lz{x y:Option (Nat×Nat)}(h:eqO x y=true):x=y:=by
 unfold eqO at h;split at h
 ·rfl
 ·rw[bI] at h;rw[nQ h.1,nQ h.2]
 ·cases h
def E5(b:Bool)(x y:List (MV Ω)):Option (List (MV Ω)):=
 match gB x,gB y with
 |none,none=>match jo b x y with
  |some z=>match dX z&&(eqO (dq z) (dq x)&&eqO (dq z) (dq y)) with
   |true=>some z
   |false=>none
  |none=>none
 |some γ,some δ=>match Gh.merge b γ δ with
  |some z=>some [.g z]
  |none=>none
 |_,_=>none
def qh(b:Bool):Hp Ω->Hp Ω->Option (Hp Ω)
 | [],[]=>some []
 |x::l,y::m=>match E5 b x y,qh b l m with
  |some z,some n=>some (z::n)
  |_,_=>none
 |_,_=>none
def ox(c' c:List (MV Ω)):Prop:=∀r F w g,Holds r F w g c->Holds r F w g c'
theorem ox.refl(c:List (MV Ω)):ox c c:=fun _ _ _ _ h=>h
theorem Ck{b:Bool}{x y z:List (MV Ω)}(h:E5 b x y=some z):ox z (zY b x y):=by
 unfold E5 at h;split at h
 ·rename_i g1 g2;split at h
  ·rename_i z' hz;split at h
   ·rename_i he;cases h;simp only[bI] at he;obtain⟨e1,e2,e3⟩:=he;have e2:=Lz e2;have e3:=Lz e3;have hm:=jP x y z hz;intro r F w g hh;cases b
    ·exact hh.same ((gv.1 e1).trans g2.symm) (hm r).2 e3
    ·exact hh.same ((gv.1 e1).trans g1.symm) (hm r).2 e2
   ·cases h
  ·cases h
 ·rename_i γ δ g1 g2;split at h
  ·rename_i z hz;cases h;have hm:=Gh.EC hz;intro r F w g hh;cases b
   ·unfold Holds at hh ⊢;rw[show gB (zY false x y)=some δ from g2] at hh;show(Gh.rep z).rep g F w;rw[hm];exact hh
   ·unfold Holds at hh ⊢;rw[show gB (zY true x y)=some γ from g1] at hh;show(Gh.rep z).rep g F w;rw[hm];exact hh
  ·cases h
 ·cases h
def ux(y' y:MV Ω×Hp Ω):Prop:=(∀r,y'.1.av r=y.1.av r)/\y'.2.length=y.2.length/\∀(k:Nat) (c':List (MV Ω)),y'.2[k]? =some c'->∃c,y.2[k]? =some c/\ox c' c
theorem tW{b:Bool}:∀(l m n:Hp Ω),qh b l m=some n->n.length=(zY b l m).length/\∀(k:Nat) (c':List (MV Ω)),n[k]? =some c'->∃c,(zY b l m)[k]? =some c/\ox c' c
 | [],[],n,h=>by simp only[qh,oI] at h;subst h;cases b <;> exact⟨rfl,fun k c hk=>by simp at hk⟩
 | [],_::_,_,h=>by simp[qh] at h
 |_::_,[],_,h=>by simp[qh] at h
 |x::l,y::m,n,h=>by
  simp only[qh] at h;split at h
  ·rename_i z n' h1 h2;cases h;have a:=Ck h1;obtain⟨b1,b2⟩:=tW l m n' h2;cases b
   ·refine⟨by simp only[List.length_cons,b1];rfl,fun k c' hk=>?_⟩;cases k with
    |zero=>simp at hk;subst hk;exact⟨y,rfl,a⟩
    |succ k=>exact b2 k c' (by simpa using hk)
   ·refine⟨by simp only[List.length_cons,b1];rfl,fun k c' hk=>?_⟩;cases k with
    |zero=>simp at hk;subst hk;exact⟨x,rfl,a⟩
    |succ k=>exact b2 k c' (by simpa using hk)
  ·cases h
def oy:Tree (MV Ω×Hp Ω)->Tree (MV Ω×Hp Ω)
 | .leaf y=> .leaf y
 | .bad=> .bad
 | .ite b t e=>match oy t,oy e with
  | .leaf y1,.leaf y2=>match dY b y1.1 y2.1,qh b y1.2 y2.2 with
   |some x,some H=> .leaf (x,H)
   |_,_=> .ite b (.leaf y1) (.leaf y2)
  |t',e'=> .ite b t' e'
theorem ux.refl(y:MV Ω×Hp Ω):ux y y:=⟨fun _=>rfl,rfl,fun k c h=>⟨c,h,ox.refl c⟩⟩
theorem ux.trans{a b c:MV Ω×Hp Ω}(h:ux a b)(k:ux b c):ux a c:=⟨fun r=>(h.1 r).trans (k.1 r),h.2.1.trans k.2.1,fun i c' hi=>by obtain⟨c1,h1,h2⟩:=h.2.2 i c' hi;obtain⟨c2,h3,h4⟩:=k.2.2 i c1 h1;exact⟨c2,h3,fun r F w g hh=>h2 r F w g (h4 r F w g hh)⟩⟩
theorem oA:∀(t:Tree (MV Ω×Hp Ω)) (y':MV Ω×Hp Ω),(oy t).pick=some y'->∃y,t.pick=some y/\ux y' y
 | .leaf y,y',h=>⟨y,rfl,by obtain rfl:=aw h;exact ux.refl _⟩
 | .bad,_,h=>by cases h
 | .ite b t e,y',h=>by
  have it:=oA t;have ie:=oA e;have plain: (Tree.ite b (oy t) (oy e)).pick=some y'->∃y,(Tree.ite b t e).pick=some y/\ux y' y:=fun h=>by
   cases b
   ·exact ie y' h
   ·exact it y' h
  unfold oy at h;split at h
  ·rename_i y1 y2 e1 e2;split at h
   ·rename_i x H h1 h2;obtain rfl:=aw h;have hv:=tV _ _ _ h1;obtain⟨l1,l2⟩:=tW _ _ _ h2;cases b
    ·obtain⟨y,hy,hs⟩:=ie y2 (by rw[e2];rfl);exact⟨y,hy,ux.trans ⟨fun r=>(hv r).1,l1,l2⟩ hs⟩
    ·obtain⟨y,hy,hs⟩:=it y1 (by rw[e1];rfl);exact⟨y,hy,ux.trans ⟨fun r=>(hv r).1,l1,l2⟩ hs⟩
   ·rw[<-e1,<-e2] at h;exact plain h
  ·exact plain h
theorem jK.same{P:Program}{f:FuncId}{args:List (MV Ω)}{H:Hp Ω}{y y':MV Ω×Hp Ω}(h:jK P f args H y)(hs:ux y' y):jK P f args H y':=by
 intro r fp w hi;refine(h r fp w hi).mono ?_;rintro e w' ⟨r',hg,he,fp',hr⟩;have src:∀k c',y'.2[k]? =some c'->∃c,y.2[k]? =some c:=fun k c' hk=>by obtain⟨c,h1,_⟩:=hs.2.2 k c' hk;exact⟨c,h1⟩
 refine⟨r',⟨by rw[hs.2.1];exact hg.1,hg.2⟩,by rw[he,hs.1 r'],fp',⟨fun i j ci cj g hi hj=>?_,fun k c' hk=>?_,fun k c' g hk=>?_,hr.os,hr.tape,hr.output,hr.size,hr.dK,hr.ty⟩⟩
 ·obtain⟨_,h1⟩:=src i ci hi;obtain⟨_,h2⟩:=src j cj hj;exact hr.yf i j _ _ g h1 h2
 ·obtain⟨c,h1,h2⟩:=hs.2.2 k c' hk;exact h2 _ _ _ _ (hr.holds k c h1)
 ·obtain⟨_,h1⟩:=src k c' hk;exact hr.own k _ g h1
theorem vx.merge{P:Program}{fe:Fe Ω}(h:vx P fe):vx P (fun f args H=>oy (fe f args H)):=fun f args H y hy=>by obtain⟨y0,h1,h2⟩:=oA _ _ hy;exact(h f args H y0 h1).same h2
def j0(cx:Cx Ω):Nat->FuncId->List (MV Ω)->Hp Ω->Tree (MV Ω×Hp Ω)
 |0,_,_,_=> .bad
 |n+1,f,args,H=>match cx.P.funcs[f]? with
  |none=> .bad
  |some fn=>match fn.body with
   |none=> .bad
   |some c=>fS (args,H) fun s=>(jZ cx (fun f args H=>oy (j0 cx n f args H)) 1000 c (s.1++List.replicate (fn.ntmps-s.1.length) (.c undef),s.2)).bind fun y=>match y.1 with
    | .exit _=> .bad
    | .goto _=> .bad
    |_=>(sx cx.P fn y.2.1 y.2.2).bind fun x=>fV x fun x=>fH (trim s.2.length x y.2.2) fun H'=> .leaf (x,H')
theorem Rel.take{r:Nat->Nat}{E:lN}{w0 w:World}{H:Hp Ω}(h:Rel r E w0 w H)(n:Nat):Rel r E w0 w (H.take n):=by
 obtain⟨fp,h⟩:=h;have src:∀k c,(H.take n)[k]? =some c->H[k]? =some c:=fun k c hk=>by
  have:k<(H.take n).length:=(gS.1 hk).1;simp at this
  rwa [List.getElem?_take,if_pos (by omega)] at hk
 exact⟨fp,⟨fun i j ci cj g hi hj=>h.yf i j ci cj g (src i ci hi) (src j cj hj),fun k c hk=>h.holds k c (src k c hk),fun k c g hk=>h.own k c g (src k c hk),h.os,h.tape,h.output,h.size,h.dK,h.ty⟩⟩
theorem LA{r:Nat->Nat}{E:lN}{w0 w:World}{H:Hp Ω}(h:Rel r E w0 w H)(n:Nat)(x:MV Ω):Rel r E w0 w (trim n x H):=by
 unfold trim;split
 ·exact h.take n
 ·exact h
theorem LB(n:Nat)(x:MV Ω)(H:Hp Ω)(h:n<=H.length):n<=(trim n x H).length:=by
 unfold trim;split
 ·simp;omega
 ·exact h
def yI(tmps:Array Value):ResultVar->Sem Value
 | .tmp t=>pure (tmps.getD t undef)
 | .cell a t=>do loadVar t (<-asAddr (tmps.getD a undef))
def Yg(vs:Array Value):Value:=if h:vs.size=1 then vs[0] else .tuple vs
theorem E6(fn:Func)(tmps:Array Value):results fn tmps=(do let vs <-fn.results.mapM (yI tmps);pure (Yg vs)):=by
 unfold results;have e: (fun x:ResultVar=>(match x with| .tmp t=>pure (tmps.getD t undef)| .cell a t=>do loadVar t (<-asAddr (tmps.getD a undef)):Sem Value))=yI tmps:=by funext x;cases x <;> rfl
 rw[<-e];rfl
theorem vN{P:Program}{r:Nat->Nat}{w:World}{tm:List (MV Ω)}{H:Hp Ω}(hl:BG r w H){tmps:Array Value}(ht:tmps=(aE r tm).toArray):
  ∀(l:List ResultVar) (xs:List (MV Ω)),(E0 P tm H l).pick=some xs->(l.mapM (m:=Sem) (yI tmps)).run P w= .ok (aE r xs) w
 | [],xs,h=>by obtain rfl:=aw h;rfl
 |v::l,xs,h=>by
  obtain⟨y,h1,h2⟩:=Tree.ct _ _ _ h;obtain⟨ys,h3,rfl⟩:=Tree.fD _ _ _ h2;have ih:=vN hl ht l ys h3;have hget:∀t,tmps.getD t undef=(((tm[t]?).getD (.c undef))).av r:=fun t=>by
   have:tmps.getD t undef=((aE r tm)[t]?).getD undef:=by rw[ht];simp
   rw[this,mu];cases tm[t]? <;> rfl
  have hv: (yI tmps v).run P w= .ok (y.av r) w:=by
   cases v with
   |tmp t=>obtain rfl:=aw h1;simp only[yI,hget,Sem.run_pure]
   |cell a t=>
    simp only[SJ,vh] at h1;split at h1
    ·rename_i k o e;split at h1
     ·rename_i aI hk;have:=ni (Tree.eF h1) (hl k aI (bU hk).1 (bU hk).2);simp only[yI,hget,e,MV.av,asAddr,Sem.run_bind,Sem.run_pure,Result.andThen_ok,this]
     ·cases h1
    ·cases h1
  simp only[List.mapM_cons,Sem.run_bind,hv,Result.andThen_ok,ih,Sem.run_pure,aE]
theorem vO{P:Program}{fn:Func}{r:Nat->Nat}{w:World}{tm:List (MV Ω)}{H:Hp Ω}(hl:BG r w H){tmps:Array Value}(ht:tmps=(aE r tm).toArray){x:MV Ω}(h: (sx P fn tm H).pick=some x):
  (results fn tmps).run P w= .ok (x.av r) w:=by
 obtain⟨xs,h1,h2⟩:=Tree.fD _ _ _ h;have:=vN hl ht _ xs h1;rw[E6,Array.mapM_eq_mapM_toList];simp only[Sem.run_bind,Sem.run_map,this,Result.andThen_ok,Sem.run_pure];congr 1;subst h2
 match xs with
 | []=>rfl
 | [y]=>rfl
 |x::y::l=>rfl
theorem mJ{cx:Cx Ω}(ok:iO cx):∀n,vx cx.P (j0 cx n)
 |0=>fun f args H y h=>by cases h
 |n+1=>fun f args H y h=>by
  intro r fp w hl;unfold j0 at h;split at h
  ·cases h
  ·rename_i fn hf;split at h
   ·cases h
   ·rename_i c hb;rw[SI] at h;obtain⟨z,h1,h2⟩:=Tree.ct _ _ _ h;have hrel:=hl.rel;have hat:At r ⟨H.length,fE fp H⟩ w (args++List.replicate (fn.ntmps-args.length) (.c undef),H) {tmps:=(aE r args).toArray++Array.replicate (fn.ntmps-(aE r args).toArray.size) undef,defers:=[]} w:=by refine⟨?_,rfl,hrel⟩;apply Array.toList_inj.1;simp only[kh,Array.toList_append,Array.toList_replicate,List.size_toArray,rZ];congr 1;rw[fC,List.map_replicate];rfl
    refine calls_of_wp hf hb (Go.wp_mono (Cj ok (vx.merge (mJ ok n)) 1000 c _ z h1 r _ w hat (nL _)) ?_);rintro ex a' w' ⟨rfl,r',hg,hat'⟩;obtain⟨ze,zs⟩:=z;have fin: ((sx cx.P fn zs.1 zs.2).bind fun x=>fV x fun x=>fH (trim H.length x zs.2) fun H'=> .leaf (x,H')).pick=some y->
      a'.defers= []/\∃v,(results fn a'.tmps).run cx.P w'= .ok v w'/\(∃r',Grow r H r' y.2/\Ending.returned v= .returned (y.1.av r')/\Rel r' ⟨H.length,fE fp H⟩ w w' y.2):=fun h2=>by
     obtain⟨x,h3,h4⟩:=Tree.ct _ _ _ h2;rw[SH,Lx] at h4;obtain rfl:=aw h4;exact⟨hat'.defers,x.av r',vO hat'.rel.uw hat'.tmps h3,r',⟨LB _ _ _ hg.1,hg.2⟩,rfl,LA hat'.rel _ _⟩
    cases ze with
    |normal=>exact fin h2
    |ret=>exact fin h2
    |exit id=>cases h2
    |goto l=>cases h2
theorem vP{cx:Cx Ω}(ok:iO cx){d:Nat}{f:FuncId}{l:List (MV Ω)}{n c:Nat}{x:MV Ω}(h: (j0 cx d f [.s 0 0 n c] [l]).pick=some (x,[l]))(hx:x.Z9 0=true)(hl:Z8 0 l=true)(hf:dX l=true)(he:jY l=true):Yd cx.P f l n c x:=by
 intro r w b hb;have hc:ai (fun _=>b) l=ai r l:=bV (r:=r) (n:=0) (fun k hk=>by omega) l hl;refine(mJ ok d f [.s 0 0 n c] [l] _ h (fun _=>b) (fun _ g=>g=b) w ⟨fun i j g hi hj _ _=>by simp at hi hj;omega,fun k cs hk=>?_⟩).mono ?_
 ·cases k with
  |zero=>
   simp at hk;subst hk;exact Holds.of_flat hf (fun _=>Iff.rfl) (by rw[ng he];exact⟨[],by rw[hc,List.append_nil];exact hb,rfl⟩)
  |succ k=>simp at hk
 ·rintro e w' ⟨r',hg,rfl,hr⟩;have h0:r' 0=b:=hg.2 0 (by simp);have h1:=(hr.row (k:=0) rfl hf);rw[ng he,h0,bV (r:=r) (r':=r') (n:=0) (fun k hk=>by omega) l hl] at h1;have h1:=h1.whole;obtain⟨fp,hr⟩:=hr;refine⟨by rw[MV.il (r:=r) (r':=r') (n:=0) (fun k hk=>by omega) x hx],hr.os,hr.tape,hr.output,hr.size,fun g hgl=>?_⟩;by_cases e:g=b
  ·subst e;have h2:=hr.ty g hgl;obtain⟨t1,g1⟩:=iL.1 hb;obtain⟨t2,g2⟩:=iL.1 h1;unfold sg at h2;rw[g1,g2] at h2;simp at h2;rw[g1,g2,h2]
  ·exact hr.dK g hgl (fun⟨k,_,hk⟩=>e hk)
theorem vQ{cx:Cx Ω}(ok:iO cx){n:Nat}{f:FuncId}{args:List (MV Ω)}{x:MV Ω}{H':Hp Ω}(h: (j0 cx n f args []).pick=some (x,H'))(hx:x.Z9 0=true)(r:Nat->Nat)(w:World):
  Calls cx.P f (aE r args).toArray w fun e w'=>e= .returned (x.av r)/\Below w.heap.size w w':=by
 refine(mJ ok n f args [] _ h r (fun _ _=>False) w ⟨fun i j g hi=>by simp at hi,fun k cs hk=>by simp at hk⟩).mono ?_;rintro e w' ⟨r',hg,rfl,fp,hr⟩;exact⟨by rw[MV.il (r:=r) (r':=r') (n:=0) (fun k hk=>by omega) x hx],hr.os,hr.tape,hr.output,hr.size,fun k hk=>hr.dK k hk (fun⟨i,hi,_⟩=>by simp at hi)⟩
end
end Go.Ev
namespace Go.Ev
open RowKit Go.Sort
section
variable {Ω:Type} [jX Ω] [Inhabited Ω]
inductive B where
 |i
 |b
 |w
 |n (k:IntKind)
 |q
def B.T(Ω:Type):B->Type
 | .i=>ae
 | .b=>Bool
 | .w=>Ω
 | .n _=>Int
 | .q=>Nat
def Bs(Ω:Type):List B->Type
 | []=>Unit
 |t::l=>t.T Ω×Bs Ω l
inductive Ty where
 |one (t:B)
 |st (l:List B)
def Ty.T(Ω:Type):Ty->Type
 | .one t=>t.T Ω
 | .st l=>Bs Ω l
def Ts(Ω:Type):List Ty->Type
 | []=>Unit
 |t::l=>t.T Ω×Ts Ω l
def B.iJ: (t:B)->t.T Ω
 | .i=>(default:ae)
 | .b=>false
 | .w=>(default:Ω)
 | .n _=>(0:Int)
 | .q=>(0:Nat)
def Bs.iJ: (l:List B)->Bs Ω l
 | []=>()
 |t::l=>(t.iJ,Bs.iJ l)
def Ty.iJ: (t:Ty)->t.T Ω
 | .one t=>t.iJ
 | .st l=>Bs.iJ l
def Ts.iJ: (l:List Ty)->Ts Ω l
 | []=>()
 |t::l=>(t.iJ,Ts.iJ l)
def B.enc: (t:B)->t.T Ω->MV Ω
 | .i,x=> .i x
 | .b,x=> .v (.bool x)
 | .w,x=> .w x
 | .n k,x=> .v (.int k x)
 | .q,x=> .v (.pointer (some ⟨x,0,none⟩))
def Bs.enc: (l:List B)->Bs Ω l->List (MV Ω)
 | [],_=>[]
 |t::l,x=>t.enc x.1::Bs.enc l x.2
def Ty.enc: (t:Ty)->t.T Ω->MV Ω
 | .one t,x=>t.enc x
 | .st l,x=> .ag (Bs.enc l x)
def Ts.enc: (l:List Ty)->Ts Ω l->List (MV Ω)
 | [],_=>[]
 |t::l,x=>t.enc x.1::Ts.enc l x.2
def TW:MV Ω->Option Bool
 | .c (.bool b)=>some b
 | .v (.bool b)=>some b
 |_=>none
def TX(k:IntKind):MV Ω->Option Int
 | .c (.int k' n)=>match decide (k'=k) with|true=>some n|false=>none
 | .v (.int k' n)=>match decide (k'=k) with|true=>some n|false=>none
 |_=>none
def TY:MV Ω->Option Nat
 | .v (.pointer (some ⟨g,0,none⟩))=>some g
 |_=>none
def TZ:MV Ω->Option Ω
 | .w a=>some a
 |_=>none
def B.dec: (t:B)->MV Ω->Option (t.T Ω)
 | .i,x=>x.i64
 | .b,x=>TW x
 | .w,x=>(TZ x:Option Ω)
 | .n k,x=>TX k x
 | .q,x=>TY x
def Bs.dec: (l:List B)->List (MV Ω)->Option (Bs Ω l)
 | [],[]=>some ()
 |t::l,x::m=>match t.dec x,Bs.dec l m with
  |some a,some b=>some (a,b)
  |_,_=>none
 |_,_=>none
def Ty.dec: (t:Ty)->MV Ω->Option (t.T Ω)
 | .one t,x=>t.dec x
 | .st l,.ag m=>Bs.dec l m
 | .st _,_=>none
def Ts.dec: (l:List Ty)->List (MV Ω)->Option (Ts Ω l)
 | [],[]=>some ()
 |t::l,x::m=>match t.dec x,Ts.dec l m with
  |some a,some b=>some (a,b)
  |_,_=>none
 |_,_=>none
def Ts.Aw(l:List Ty)(x:Ts Ω l):MV Ω:=
 match Ts.enc l x with
 | [y]=>y
 |m=> .t m
def Ts.PI(l:List Ty)(x:MV Ω):Option (Ts Ω l):=
 match l,x with
 | [t],x=>Ts.dec [t] [x]
 |l,.t m=>Ts.dec l m
 |_,_=>none
theorem B.dZ(r:Nat->Nat):∀(t:B) (x:MV Ω) (a:t.T Ω),t.dec x=some a->x.av r=(t.enc a).av r/\x.cells r=(t.enc a).cells r
 | .i,x,a,h=>by
  have h:x.i64=some a:=h;unfold MV.i64 at h;split at h
  ·cases h;exact⟨rfl,rfl⟩
  ·split at h
   ·cases h;exact⟨rfl,rfl⟩
   ·cases h
  ·cases h
 | .b,x,a,h=>by
  have h:TW x=some a:=h;unfold TW at h;split at h
  ·cases h;exact⟨rfl,rfl⟩
  ·cases h;exact⟨rfl,rfl⟩
  ·cases h
 | .w,x,a,h=>by
  have h: (TZ x:Option Ω)=some a:=h;unfold TZ at h;split at h
  ·cases h;exact⟨rfl,rfl⟩
  ·cases h
 | .n k,x,a,h=>by
  have h:TX k x=some a:=h;unfold TX at h;split at h
  ·split at h
   ·rename_i e;have e:=of_decide_eq_true e;subst e;cases h;exact⟨rfl,rfl⟩
   ·cases h
  ·split at h
   ·rename_i e;have e:=of_decide_eq_true e;subst e;cases h;exact⟨rfl,rfl⟩
   ·cases h
  ·cases h
 | .q,x,a,h=>by
  have h:TY x=some a:=h;unfold TY at h;split at h
  ·cases h;exact⟨rfl,rfl⟩
  ·cases h
theorem Bs.dZ(r:Nat->Nat):∀(l:List B) (m:List (MV Ω)) (a:Bs Ω l),Bs.dec l m=some a->ai r m=ai r (Bs.enc l a)
 | [],[],a,h=>rfl
 | [],_::_,a,h=>by cases h
 |_::_,[],a,h=>by cases h
 |t::l,x::m,a,h=>by
  unfold Bs.dec at h;split at h
  ·rename_i a1 b1 h1 h2;cases h;simp only[ai,Bs.enc,(B.dZ r t x a1 h1).2,Bs.dZ r l m b1 h2]
  ·cases h
theorem Ty.dZ(r:Nat->Nat)(t:Ty)(x:MV Ω)(a:t.T Ω)(h:t.dec x=some a):x.av r=(t.enc a).av r:=by
 cases t with
 |one t=>exact(B.dZ r t x a h).1
 |st l=>
  cases x with
  |ag m=>simp only[MV.av,Ty.enc,Bs.dZ r l m a h]
  |_=>cases h
theorem Ts.dZ(r:Nat->Nat):∀(l:List Ty) (m:List (MV Ω)) (a:Ts Ω l),Ts.dec l m=some a->aE r m=aE r (Ts.enc l a)
 | [],[],a,h=>rfl
 | [],_::_,a,h=>by cases h
 |_::_,[],a,h=>by cases h
 |t::l,x::m,a,h=>by
  unfold Ts.dec at h;split at h
  ·rename_i a1 b1 h1 h2;cases h;simp only[aE,Ts.enc,Ty.dZ r t x a1 h1,Ts.dZ r l m b1 h2]
  ·cases h
theorem Ts.yJ(r:Nat->Nat)(l:List Ty)(x:MV Ω)(a:Ts Ω l)(h:Ts.PI l x=some a):x.av r=(Ts.Aw l a).av r:=by
 cases l with
 |nil=>
  cases x with
  |t m=>
   have h:Ts.dec [] m=some a:=h;have:=Ts.dZ r [] m a h;simp only[MV.av,this];rfl
  |_=>cases h
 |cons t l=>
  cases l with
  |nil=>
   have h:Ts.dec [t] [x]=some a:=h;have:=Ts.dZ r [t] [x] a h;simp only[aE,Ts.enc,List.cons.injEq] at this;exact this.1
  |cons t' l=>
   cases x with
   |t m=>
    have h:Ts.dec (t::t'::l) m=some a:=h;have:=Ts.dZ r (t::t'::l) m a h;simp only[MV.av,this];rfl
   |_=>cases h
def qY(cx:Cx Ω)(n:Nat)(f:FuncId)(τ ρ:List Ty)(a:Ts Ω τ):Ts Ω ρ:=
 match(j0 cx n f (Ts.enc τ a) []).pick with
 |some y=>match Ts.PI ρ y.1 with
  |some v=>v
  |none=>Ts.iJ ρ
 |none=>Ts.iJ ρ
def GR(cx:Cx Ω)(n:Nat)(f:FuncId)(τ ρ:List Ty)(a:Ts Ω τ):Bool:=
 (j0 cx n f (Ts.enc τ a) []).all fun y=>y.1.Z9 0&&(Ts.PI ρ y.1).isSome
def aZ(P:Program)(f:FuncId)(τ ρ:List Ty)(F:Ts Ω τ->Ts Ω ρ):Prop:=
 dP P f=true/\∀(a:Ts Ω τ) (r:Nat->Nat) (w:World),Calls P f (aE r (Ts.enc τ a)).toArray w fun e w'=>e= .returned ((Ts.Aw ρ (F a)).av r)/\Below w.heap.size w w'
theorem Ax{cx:Cx Ω}(ok:iO cx){n:Nat}{f:FuncId}{τ ρ:List Ty}(hc:dP cx.P f=true)(h:∀a,GR cx n f τ ρ a=true):aZ cx.P f τ ρ (qY cx n f τ ρ):=by refine⟨hc,fun a r w=>?_⟩;obtain⟨y,h1,h2⟩:=Tree.gU _ (h a);simp only[bI] at h2;obtain⟨v,hv⟩:=Option.isSome_iff_exists.1 h2.2;refine(vQ ok (x:=y.1) (H':=y.2) h1 h2.1 r w).mono ?_;rintro e w' ⟨rfl,hb⟩;refine⟨?_,hb⟩;unfold qY;rw[h1];simp only[hv];rw[Ts.yJ r ρ y.1 v hv]
def Tree.sy{α:Type}(p:α->Bool):List Bool->Tree α->Bool
 | [],.bad=>true
 |true::q,.ite _ x y=>Tree.sy p q x&&y.all p
 |false::q,.ite _ x y=>x.all p&&Tree.sy p q y
 |_,t=>t.all p
def Tree.conds{α:Type}:List Bool->Tree α->List Bool
 |true::q,.ite b x _=>b::Tree.conds q x
 |false::q,.ite b _ y=>b::Tree.conds q y
 |_,_=>[]
theorem Tree.oB{α:Type}{p:α->Bool}:∀(q:List Bool) (t:Tree α),t.sy p q=true->t.conds q≠q->∃a,t.pick=some a/\p a=true
 | [],.bad,_,hc=>absurd rfl hc
 | [],.leaf a,h,_=>Tree.gU _ h
 | [],.ite b x y,h,_=>Tree.gU _ h
 |true::q,.ite b x y,h,hc=>by
  simp only[Tree.sy,bI] at h;cases b
  ·exact Tree.gU y h.2
  ·exact Tree.oB q x h.1 (fun e=>hc (by simp only[Tree.conds,e]))
 |false::q,.ite b x y,h,hc=>by
  simp only[Tree.sy,bI] at h;cases b
  ·exact Tree.oB q y h.2 (fun e=>hc (by simp only[Tree.conds,e]))
  ·exact Tree.gU x h.1
 |true::_,.leaf a,h,_=>Tree.gU _ h
 |false::_,.leaf a,h,_=>Tree.gU _ h
 |true::_,.bad,h,_=>by cases h
 |false::_,.bad,h,_=>by cases h
def Ay(cx:Cx Ω)(n:Nat)(f:FuncId)(τ ρ:List Ty)(q:List Bool)(a:Ts Ω τ):Bool:=
 (j0 cx n f (Ts.enc τ a) []).sy (fun y=>y.1.Z9 0&&(Ts.PI ρ y.1).isSome) q
theorem LC{cx:Cx Ω}(ok:iO cx){n:Nat}{f:FuncId}{τ ρ:List Ty}{q:List Bool}(hc:dP cx.P f=true)(h:∀a,Ay cx n f τ ρ q a=true)(hq:∀a,(j0 cx n f (Ts.enc τ a) []).conds q≠q):aZ cx.P f τ ρ (qY cx n f τ ρ):=by refine⟨hc,fun a r w=>?_⟩;obtain⟨y,h1,h2⟩:=Tree.oB q _ (h a) (hq a);simp only[bI] at h2;obtain⟨v,hv⟩:=Option.isSome_iff_exists.1 h2.2;refine(vQ ok (x:=y.1) (H':=y.2) h1 h2.1 r w).mono ?_;rintro e w' ⟨rfl,hb⟩;refine⟨?_,hb⟩;unfold qY;rw[h1];simp only[hv];rw[Ts.yJ r ρ y.1 v hv]
structure Entry (Ω:Type) [jX Ω] where
 f:FuncId
 s:List (MV Ω)->Hp Ω->Tree (MV Ω)
def Entry.ok(P:Program)(e:Entry Ω):Prop:=dP P e.f=true/\∀args H x,(e.s args H).pick=some x->Lf P e.f args H x
def entry(f:FuncId)(τ ρ:List Ty)(F:Ts Ω τ->Ts Ω ρ):Entry Ω:=
 ⟨f,fun args _=>match Ts.dec τ args with
  |some a=> .leaf (Ts.Aw ρ (F a))
  |none=> .bad⟩
theorem eb{P:Program}{f:FuncId}{τ ρ:List Ty}{F:Ts Ω τ->Ts Ω ρ}(h:aZ P f τ ρ F): (entry f τ ρ F).ok P:=by
 refine⟨h.1,fun args H x hx=>?_⟩;simp only[entry] at hx;split at hx
 ·rename_i a ha;obtain rfl:=aw hx;intro r w _;rw[Ts.dZ r τ args a ha];exact h.2 a r w
 ·cases hx
abbrev vR(Ω:Type) [jX Ω]:=List (Entry Ω)
def vR.look:vR Ω->FuncId->Option (Entry Ω)
 | [],_=>none
 |e::l,f=>match Nat.beq e.f f with
  |true=>some e
  |false=>vR.look l f
def vR.ok(P:Program):vR Ω->Prop
 | []=>True
 |e::l=>e.ok P/\vR.ok P l
theorem vR.look_ok{P:Program}:∀{T:vR Ω} {f:FuncId} {e:Entry Ω},T.ok P->T.look f=some e->e.ok P/\e.f=f
 | [],f,e,_,h=>by cases h
 |a::l,f,e,hok,h=>by
  unfold vR.look at h;split at h
  ·rename_i hb;simp only[oI] at h;subst h;exact⟨hok.1,nQ hb⟩
  ·exact vR.look_ok hok.2 h
def vR.pf(T:vR Ω)(f:FuncId):Bool:=match T.look f with|some _=>true|none=>false
def vR.S(T:vR Ω)(f:FuncId)(args:List (MV Ω))(H:Hp Ω):Tree (MV Ω):=match T.look f with|some e=>e.s args H|none=> .bad
structure la (Ω:Type) [jX Ω] where
 f:FuncId
 s:List (MV Ω)->Nat->Nat->Tree (MV Ω)
def la.ok(P:Program)(e:la Ω):Prop:=dP P e.f=true/\∀l n c x,(e.s l n c).pick=some x->Yd P e.f l n c x
def la.entry(e:la Ω):Entry Ω:=
 ⟨e.f,fun args H=>match args with
  | [.s k 0 n c]=>match dJ H k with
   |some l=>match jY l with
    |true=>e.s l n c
    |false=> .bad
   |none=> .bad
  |_=> .bad⟩
theorem la.eb{P:Program}{e:la Ω}(h:e.ok P):e.entry.ok P:=by
 refine⟨h.1,fun args H x hx=>?_⟩;simp only[la.entry] at hx;split at hx
 ·rename_i k n c;split at hx
  ·rename_i l hl;split at hx
   ·rename_i he;intro r w hlies;have hb:=hlies k l (bU hl).1 (bU hl).2;rw[ng he] at hb;exact h.2 l n c x hx r w (r k) hb.whole
   ·cases hx
  ·cases hx
 ·cases hx
structure sB (Ω:Type) [jX Ω] where
 f:FuncId
 s:List (MV Ω)->Hp Ω->Tree (MV Ω×Hp Ω)
def sB.ok(P:Program)(e:sB Ω):Prop:=∀args H y,(e.s args H).pick=some y->jK P e.f args H y
abbrev lI(Ω:Type) [jX Ω]:=List (sB Ω)
def lI.look:lI Ω->FuncId->Option (sB Ω)
 | [],_=>none
 |e::l,f=>match Nat.beq e.f f with
  |true=>some e
  |false=>lI.look l f
def lI.ok(P:Program):lI Ω->Prop
 | []=>True
 |e::l=>e.ok P/\lI.ok P l
theorem lI.look_ok{P:Program}:∀{T:lI Ω} {f:FuncId} {e:sB Ω},T.ok P->T.look f=some e->e.ok P/\e.f=f
 | [],f,e,_,h=>by cases h
 |a::l,f,e,hok,h=>by
  unfold lI.look at h;split at h
  ·rename_i hb;simp only[oI] at h;subst h;exact⟨hok.1,nQ hb⟩
  ·exact lI.look_ok hok.2 h
def lI.ef(T:lI Ω)(f:FuncId):Bool:=match T.look f with|some _=>true|none=>false
def lI.T(T:lI Ω)(f:FuncId)(args:List (MV Ω))(H:Hp Ω):Tree (MV Ω×Hp Ω):=match T.look f with|some e=>e.s args H|none=> .bad
def Az(l:List FuncId)(f:FuncId):Bool:=match l with
 | []=>false
 |g::l=>Nat.beq g f||Az l f
def PJ(P:Program):List FuncId->Prop
 | []=>True
 |g::l=>dP P g=true/\PJ P l
theorem GS{P:Program}:∀{l:List FuncId} {f:FuncId},PJ P l->Az l f=true->dP P f=true
 |g::l,f,h,hf=>by
  simp only[Az,Bool.or_eq_true] at hf;rcases hf with hf|hf
  ·rw[<-nQ hf];exact h.1
  ·exact GS h.2 hf
def xQ(P:Program)(Z:TypeId->Option (List (MV Ω)))(Q:TypeId->List Value->List Value->Option Bool)(cl:List FuncId)(T:vR Ω)(U:lI Ω):Cx Ω:=⟨P,T.pf,T.S,Az cl,U.ef,U.T,Z,Q⟩
theorem pr{P:Program}{Z:TypeId->Option (List (MV Ω))}{Q:TypeId->List Value->List Value->Option Bool}{cl:List FuncId}{cl:List FuncId}{T:vR Ω}{U:lI Ω}(hm:P.follows .mixedOrders=true)
  (hZ:∀t l,Z t=some l->∃v i,P.info? t=some i/\i.zero=some v/\∀r,v.cells.toList=ai r l)
  (hQ:∀t xs ys q,Q t xs ys=some q->∀w,∀x y:Operand,(eqGuard .eql t x y (.agg xs.toArray) (.agg ys.toArray)).run P w= .ok () w/\(Op.equal t (.agg xs.toArray) (.agg ys.toArray)).run P w= .ok q w)
  (hcl:PJ P cl) (hT:T.ok P) (hU:U.ok P):iO (xQ P Z Q cl T U) where
 mixed:=hm
 S:=fun f args H x hp h=>by
  simp only[xQ,vR.S] at h;split at h
  ·rename_i e he;obtain⟨h1,rfl⟩:=vR.look_ok hT he;exact h1.2 args H x h
  ·cases h
 call:=fun f hp=>by
  simp only[xQ,vR.pf] at hp;split at hp
  ·rename_i e he;obtain⟨h1,rfl⟩:=vR.look_ok hT he;exact h1.1
  ·cases hp
 cl:=fun f hf=>GS hcl hf
 T:=fun f args H y hp h=>by
  simp only[xQ,lI.T] at h;split at h
  ·rename_i e he;obtain⟨h1,rfl⟩:=lI.look_ok hU he;exact h1 args H y h
  ·cases h
 Z:=hZ
 Q:=hQ
end
section
variable {Ω:Type} [jX Ω]
mutual
def MV.fO(ρ:Nat->Nat):MV Ω->MV Ω
 | .p k o=> .p (ρ k) o
 | .s k o l c=> .s (ρ k) o l c
 | .z k q o l=> .z (ρ k) (ρ q) o l
 | .r q n=> .r (ρ q) n
 | .t l=> .t (fm ρ l)
 | .ag l=> .ag (fm ρ l)
 | .fn f l=> .fn f (fm ρ l)
 | .i x=> .i x
 | .c x=> .c x
 | .v x=> .v x
 | .w a=> .w a
 | .g x=> .g x
def fm(ρ:Nat->Nat):List (MV Ω)->List (MV Ω)
 | []=>[]
 |x::l=>x.fO ρ::fm ρ l
end
mutual
theorem MV.vS(ρ r:Nat->Nat):∀x:MV Ω,(x.fO ρ).av r=x.av (fun k=>r (ρ k))
 | .p k o=>rfl
 | .s k o l c=>rfl
 | .z k q o l=>rfl
 | .r q n=>rfl
 | .t l=>by simp only[MV.fO,MV.av,kP ρ r l]
 | .ag l=>by simp only[MV.fO,MV.av,nv ρ r l]
 | .fn f l=>by simp only[MV.fO,MV.av,kP ρ r l]
 | .i x=>rfl
 | .c x=>rfl
 | .v x=>rfl
 | .w a=>rfl
 | .g x=>rfl
theorem kP(ρ r:Nat->Nat):∀l:List (MV Ω),aE r (fm ρ l)=aE (fun k=>r (ρ k)) l
 | []=>rfl
 |x::l=>by simp only[fm,aE,MV.vS ρ r x,kP ρ r l]
theorem MV.IZ(ρ r:Nat->Nat):∀x:MV Ω,(x.fO ρ).cells r=x.cells (fun k=>r (ρ k))
 | .p k o=>rfl
 | .s k o l c=>rfl
 | .z k q o l=>rfl
 | .r q n=>rfl
 | .t l=>by simp only[MV.fO,MV.cells,kP ρ r l]
 | .ag l=>by simp only[MV.fO,MV.cells,nv ρ r l]
 | .fn f l=>by simp only[MV.fO,MV.cells,kP ρ r l]
 | .i x=>rfl
 | .c x=>rfl
 | .v x=>rfl
 | .w a=>rfl
 | .g x=>rfl
theorem nv(ρ r:Nat->Nat):∀l:List (MV Ω),ai r (fm ρ l)=ai (fun k=>r (ρ k)) l
 | []=>rfl
 |x::l=>by simp only[fm,ai,MV.IZ ρ r x,nv ρ r l]
end
theorem vT(ρ:Nat->Nat)(l:List (MV Ω)):gB (fm ρ l)=gB l:=by
 cases l with
 |nil=>rfl
 |cons x l=>cases x <;> rfl
theorem yK(ρ r:Nat->Nat):∀l:List (MV Ω),ck r (fm ρ l)=ck (fun k=>r (ρ k)) l
 | []=>rfl
 |x::l=>by have ih:=yK ρ r l;cases x <;> first|rfl|exact ih
theorem Holds.fO{ρ r:Nat->Nat}{F:Nat->Prop}{w:World}{g:Nat}{cs:List (MV Ω)}:Holds r F w g (fm ρ cs)↔Holds (fun k=>r (ρ k)) F w g cs:=by unfold Holds;rw[vT,nv,yK]
def fO(ks:List Nat)(n:Nat)(i:Nat):Nat:=match ks[i]? with
 |some k=>k
 |none=>n+(i-ks.length)
def vU(ρ:Nat->Nat):List Nat->Hp Ω->Hp Ω->Hp Ω
 |k::ks,c::m,H=>vU ρ ks m (H.set k (fm ρ c))
 |_,_,H=>H
theorem vV(ρ:Nat->Nat):∀(ks:List Nat) (m H:Hp Ω),(vU ρ ks m H).length=H.length
 | [],_,H=>rfl
 |_::_,[],H=>rfl
 |k::ks,c::m,H=>by simp only[vU];rw[vV ρ ks m];simp
theorem Cl{ρ:Nat->Nat}:∀{ks:List Nat} {m H:Hp Ω},kW ks=true->(∀k∈ks,k<H.length)->ks.length<=m.length->∀k,
  (∀i:Nat,ks[i]? =some k->(vU ρ ks m H)[k]? =(m[i]?).map (fm ρ))/\((∀i:Nat,ks[i]?≠some k)->(vU ρ ks m H)[k]? =H[k]?)
 | [],m,H,_,_,_,k=>⟨fun i hi=>by simp at hi,fun _=>rfl⟩
 |q::ks,[],H,_,_,hl,k=>by simp at hl
 |q::ks,c::m,H,hn,hk,hl,k=>by
  have hn':=hn;simp only[kW,bI,Bool.not_eq_true'] at hn';have ih:=Cl (ρ:=ρ) (ks:=ks) (m:=m) (H:=H.set q (fm ρ c)) hn'.2 (fun j hj=>by simp;exact hk j (List.mem_cons_of_mem _ hj)) (by simpa using hl) k;have hq:q<H.length:=hk q List.mem_cons_self;have nq:∀i:Nat,ks[i]?≠some q:=fun i hi=>by have:=vE (List.mem_of_getElem? hi);rw[hn'.1] at this;cases this
  refine⟨fun i hi=>?_,fun hno=>?_⟩
  ·cases i with
   |zero=>
    simp at hi;subst hi;show(vU ρ ks m (H.set q (fm ρ c)))[q]? =_;rw[ih.2 nq];simp[hq]
   |succ i=>exact ih.1 i (by simpa using hi)
  ·have h1:k≠q:=fun e=>hno 0 (by rw[e];rfl);show(vU ρ ks m (H.set q (fm ρ c)))[k]? =_;rw[ih.2 (fun i hi=>hno (i+1) (by simpa using hi)),List.getElem?_set_ne (by omega)]
theorem fw{ks:List Nat}{n i k:Nat}(h:ks[i]? =some k):fO ks n i=k:=by unfold fO;rw[h]
theorem ny{ks:List Nat}{n i:Nat}(h:ks.length<=i):fO ks n i=n+(i-ks.length):=by unfold fO;rw[nE h]
theorem GU{ks:List Nat}{n:Nat}(hn:kW ks=true)(hk:∀k∈ks,k<n){i j:Nat}(h:fO ks n i=fO ks n j):i=j:=by
 rcases nO i ks.length with hi|hi <;> rcases nO j ks.length with hj|hj
 ·have e1:=gE hi;have e2:=gE hj;rw[fw e1,fw e2] at h;exact jN hn i j _ e1 (by rw[e2,h])
 ·have e1:=gE hi;rw[fw e1,ny hj] at h;have:=hk _ (List.getElem_mem hi);omega
 ·have e2:=gE hj;rw[fw e2,ny hi] at h;have:=hk _ (List.getElem_mem hj);omega
 ·rw[ny hi,ny hj] at h;omega
def behind(ks:List Nat)(y:MV Ω×Hp Ω)(H:Hp Ω):MV Ω×Hp Ω:=(y.1.fO (fO ks H.length),vU (fO ks H.length) ks y.2 H++(y.2.drop ks.length).map (fm (fO ks H.length)))
theorem jK.frame{P:Program}{f:FuncId}{args args':List (MV Ω)}{m H:Hp Ω}{y:MV Ω×Hp Ω}(h:jK P f args m y){ks:List Nat}(hn:kW ks=true)(hk:∀k∈ks,k<H.length)(hl:m.length=ks.length)(hly:m.length<=y.2.length)(hsc:ij H.length H=true)
  (ha:∀r,aE r args'=aE r (fm (fO ks H.length) args)) (hs:∀(i k:Nat) (c:List (MV Ω)),ks[i]? =some k->m[i]? =some c->∃c',H[k]? =some c'/\ox (fm (fO ks H.length) c) c'):
  jK P f args' H (behind ks y H):=by
 intro r fp w hsits;have hlt:∀(i k:Nat),ks[i]? =some k->k<H.length:=fun i k hi=>hk k (List.mem_of_getElem? hi);rw[ha r,kP];refine(h _ (fun i=>fp (fO ks H.length i)) w ⟨fun i j g hi hj h1 h2=>?_,fun i c hc=>?_⟩).mono ?_
 ·have e1:=gE (l:=ks) (i:=i) (by omega);have e2:=gE (l:=ks) (i:=j) (by omega);refine GU hn hk (hsits.1 _ _ g ?_ ?_ h1 h2)
  ·rw[fw e1];exact hlt i _ e1
  ·rw[fw e2];exact hlt j _ e2
 ·have hil:i<ks.length:=by rw[<-hl];exact(gS.1 hc).1
  have e1:=gE hil;obtain⟨c',h1,h2⟩:=hs i _ c e1 hc;have:=h2 _ _ _ _ (hsits.2 _ c' h1);have:=Holds.fO.1 this;rw[<-fw (n:=H.length) e1] at this;exact this
 ·rintro e w' ⟨r2,hg,rfl,fps,hr⟩
  let r':Nat->Nat:=fun k=>if k<H.length then r k else r2 (ks.length+(k-H.length))
  have hr2:r2=fun i=>r' (fO ks H.length i):=by
   funext i;rcases nO i ks.length with hi|hi
   ·have e1:=gE hi;rw[fw e1];show r2 i=if _ then _ else _
    rw[if_pos (hlt i _ e1),hg.2 i (by omega)];show r (fO ks H.length i)=_;rw[fw e1]
   ·rw[ny hi];show r2 i=if _ then _ else _
    rw[if_neg (by omega)];congr 1;omega
  have way:∀(k:Nat) (c':List (MV Ω)),(behind ks y H).2[k]? =some c'->(∃(i:Nat) (c:List (MV Ω)),fO ks H.length i=k/\y.2[i]? =some c/\c'=fm (fO ks H.length) c)∨(k<H.length/\(∀i:Nat,ks[i]?≠some k)/\H[k]? =some c'):=fun k c' hk'=>by
   have hsl: (vU (fO ks H.length) ks y.2 H).length=H.length:=vV _ _ _ _;rcases nO k H.length with h1|h1
   ·have hk2: (vU (fO ks H.length) ks y.2 H)[k]? =some c':=by rw[<-hk'];exact(List.getElem?_append_left (by omega)).symm
    obtain⟨g1,g2⟩:=Cl (ρ:=fO ks H.length) (ks:=ks) (m:=y.2) (H:=H) hn hk (by omega) k;by_cases hin:∃i:Nat,ks[i]? =some k
    ·obtain⟨i,hi⟩:=hin;rw[g1 i hi] at hk2;cases hq:y.2[i]? with
     |none=>rw[hq] at hk2;cases hk2
     |some c=>
      rw[hq] at hk2;simp only[Option.map_some,oI] at hk2;exact .inl ⟨i,c,fw hi,hq,hk2.symm⟩
    ·have hno:∀i:Nat,ks[i]?≠some k:=fun i hi=>hin ⟨i,hi⟩;rw[g2 hno] at hk2;exact .inr ⟨h1,hno,hk2⟩
   ·have hk2: ((y.2.drop ks.length).map (fm (fO ks H.length)))[k-H.length]? =some c':=by rw[<-hk'];show _=(vU (fO ks H.length) ks y.2 H++(y.2.drop ks.length).map (fm (fO ks H.length)))[k]?;rw[List.getElem?_append_right (by omega),hsl]
    rw[List.getElem?_map,List.getElem?_drop] at hk2;cases hq:y.2[ks.length+(k-H.length)]? with
    |none=>rw[hq] at hk2;cases hk2
    |some c=>
     rw[hq] at hk2;simp only[Option.map_some,oI] at hk2;exact .inl ⟨_,c,by rw[ny (by omega)];omega,hq,hk2.symm⟩
  let fpn:Nat->Nat->Prop:=fun k g=>(∃i,fO ks H.length i=k/\fps i g)∨((k<H.length/\∀i:Nat,ks[i]?≠some k)/\fp k g)
  have noin:∀k,(k<H.length/\∀i:Nat,ks[i]?≠some k)->∀i,fO ks H.length i≠k:=fun k hkk i hi=>by
   rcases nO i ks.length with h1|h1
   ·have e1:=gE h1;rw[fw e1] at hi;exact hkk.2 i (by rw[e1,hi])
   ·rw[ny h1] at hi;omega
  have e1:∀i,fpn (fO ks H.length i)=fps i:=fun i=>by
   funext g;apply propext;constructor
   ·rintro(⟨j,j1,j2⟩|⟨j1,_⟩)
    ·rw[<-GU hn hk j1];exact j2
    ·exact absurd rfl (noin _ j1 i)
   ·exact fun hg=> .inl ⟨i,rfl,hg⟩
  have e2:∀k,(k<H.length/\∀i:Nat,ks[i]?≠some k)->fpn k=fp k:=fun k hkk=>by
   funext g;apply propext;constructor
   ·rintro(⟨j,j1,j2⟩|⟨_,j2⟩)
    ·exact absurd j1 (noin k hkk j)
    ·exact j2
   ·exact fun hg=> .inr ⟨hkk,hg⟩
  have subS:∀g,fE (fun i=>fp (fO ks H.length i)) m g->fE fp H g:=fun g ⟨i,hi,hg⟩=>by
   have e:=gE (l:=ks) (i:=i) (by omega);refine⟨ks[i],hlt i _ e,?_⟩;have hg:fp (fO ks H.length i) g:=hg
   rwa [fw e] at hg
  have notS:∀k g,(k<H.length/\∀i:Nat,ks[i]?≠some k)->fp k g->¬fE (fun i=>fp (fO ks H.length i)) m g:=fun k g hkk hg ⟨i,hi,hg2⟩=>by have e:=gE (l:=ks) (i:=i) (by omega);have hg2:fp (fO ks H.length i) g:=hg2;rw[fw e] at hg2;have:=hsits.1 _ _ g (hlt i _ e) hkk.1 hg2 hg;exact hkk.2 i (by rw[e,this])
  have hltH:∀k g,k<H.length->fp k g->g<w.heap.size:=fun k g hk hg=>(hsits.2 k _ (gE hk)).lt hg;refine⟨r',⟨by simp[behind,vV],fun k hk=>if_pos hk⟩,?_,fpn,⟨fun i j ci cj g hi hj fi fj=>?_,fun k c hk=>?_,fun k c g hk hg=>?_,hr.os,hr.tape,hr.output,hr.size,fun g hg hn=>hr.dK g hg fun ho=>hn (subS g ho),hr.ty⟩⟩
  ·show Ending.returned (y.1.av r2)= .returned ((y.1.fO (fO ks H.length)).av r');rw[MV.vS,<-hr2]
  ·rcases way i ci hi with⟨a,ca,a1,a2,a3⟩|⟨a1,a2,a3⟩ <;> rcases way j cj hj with⟨b,cb,b1,b2,b3⟩|⟨b1,b2,b3⟩
   ·rw[<-a1,e1 a] at fi;rw[<-b1,e1 b] at fj;rw[<-a1,<-b1,hr.yf a b ca cb g a2 b2 fi fj]
   ·rw[<-a1,e1 a] at fi;rw[e2 j ⟨b1,b2⟩] at fj;rcases hr.own a ca g a2 fi with h1|h1
    ·exact absurd h1 (notS j g ⟨b1,b2⟩ fj)
    ·have:=hltH j g b1 fj;omega
   ·rw[<-b1,e1 b] at fj;rw[e2 i ⟨a1,a2⟩] at fi;rcases hr.own b cb g b2 fj with h1|h1
    ·exact absurd h1 (notS i g ⟨a1,a2⟩ fi)
    ·have:=hltH i g a1 fi;omega
   ·rw[e2 i ⟨a1,a2⟩] at fi;rw[e2 j ⟨b1,b2⟩] at fj;exact hsits.1 i j g a1 b1 fi fj
  ·rcases way k c hk with⟨a,ca,a1,a2,rfl⟩|⟨a1,a2,a3⟩
   ·have hh:=hr.holds a ca a2;rw[hr2] at hh;rw[<-a1,e1 a];exact Holds.fO.2 hh
   ·rw[e2 k ⟨a1,a2⟩];have hh:=hsits.2 k c a3;have hrk:r' k=r k:=if_pos a1;rw[hrk];refine(hh.loc fun x hx=>hr.dK x (hltH k x a1 hx) (notS k x ⟨a1,a2⟩ hx)).cells ?_ ?_
    ·exact bV (n:=H.length) (fun j hj=>if_pos hj) c (dn hsc k c a3)
    ·exact iy (n:=H.length) (fun j hj=>if_pos hj) c (dn hsc k c a3)
  ·rcases way k c hk with⟨a,ca,a1,a2,rfl⟩|⟨a1,a2,a3⟩
   ·rw[<-a1,e1 a] at hg;rcases hr.own a ca g a2 hg with h1|h1
    ·exact .inl (subS g h1)
    ·exact .inr h1
   ·rw[e2 k ⟨a1,a2⟩] at hg;exact .inl ⟨k,a1,hg⟩
end
section
variable {Ω:Type} [jX Ω] [Inhabited Ω]
inductive Slot (Ω:Type) [jX Ω] where
 |d (t:B)
 |k (x:MV Ω)
def Slot.T:Slot Ω->Type
 | .d t=>t.T Ω
 | .k _=>Unit
def ko.T:List (Slot Ω)->Type
 | []=>Unit
 |s::l=>s.T×ko.T l
inductive BS (Ω:Type) [jX Ω] where
 |f (l:List (Slot Ω))
 |o (k:jX.K Ω)
def BS.T:BS Ω->Type
 | .f l=>ko.T l
 | .o k=>jX.KT k
def cf.T:List (BS Ω)->Type
 | []=>Unit
 |b::l=>b.T×cf.T l
inductive Arg (Ω:Type) [jX Ω] where
 |d (t:Ty)
 |k (x:MV Ω)
def Arg.T:Arg Ω->Type
 | .d t=>t.T Ω
 | .k _=>Unit
def aP.T:List (Arg Ω)->Type
 | []=>Unit
 |a::l=>a.T×aP.T l
def Slot.enc: (s:Slot Ω)->s.T->MV Ω
 | .d t,x=>t.enc x
 | .k x,_=>x
def ko.enc: (l:List (Slot Ω))->ko.T l->List (MV Ω)
 | [],_=>[]
 |s::l,x=>s.enc x.1::ko.enc l x.2
def BS.enc: (b:BS Ω)->b.T->List (MV Ω)
 | .f l,x=>ko.enc l x
 | .o k,x=>[.g (some (jX.omk k x))]
def cf.enc: (l:List (BS Ω))->cf.T l->Hp Ω
 | [],_=>[]
 |b::l,x=>b.enc x.1::cf.enc l x.2
def Arg.enc: (a:Arg Ω)->a.T->MV Ω
 | .d t,x=>t.enc x
 | .k x,_=>x
def aP.enc: (l:List (Arg Ω))->aP.T l->List (MV Ω)
 | [],_=>[]
 |a::l,x=>a.enc x.1::aP.enc l x.2
def aP.Aw(l:List (Arg Ω))(x:aP.T l):MV Ω:=
 match aP.enc l x with
 | [y]=>y
 |m=> .t m
def dS(P:Program)(f:FuncId)(α:List (Arg Ω))(η:List (BS Ω))(ρ:List (Arg Ω))(η':List (BS Ω))(F:aP.T α->cf.T η->aP.T ρ×cf.T η'):Prop:=
 ∀(a:aP.T α) (h:cf.T η),jK P f (aP.enc α a) (cf.enc η h) (aP.Aw ρ (F a h).1,cf.enc η' (F a h).2)
abbrev Sub:=List (Nat×Nat)
def Sub.look:Sub->Nat->Option Nat
 | [],_=>none
 |p::σ,i=>match Nat.beq p.1 i with
  |true=>some p.2
  |false=>Sub.look σ i
def vW(σ:Sub)(i k:Nat):Option Sub:=match σ.look i with
 |some k'=>match Nat.beq k k' with
  |true=>some σ
  |false=>none
 |none=>some ((i,k)::σ)
def Fits(σ:Sub)(ρ:Nat->Nat):Prop:=∀i k,σ.look i=some k->ρ i=k
theorem nz{σ τ:Sub}{i k:Nat}(h:vW σ i k=some τ){ρ:Nat->Nat}(hf:Fits τ ρ):Fits σ ρ/\ρ i=k:=by
 unfold vW at h;split at h
 ·rename_i k' hk;split at h
  ·rename_i e;cases h;rw[nQ e];exact⟨hf,hf i k' hk⟩
  ·cases h
 ·rename_i hn;cases h;have h1:ρ i=k:=hf i k (by simp[Sub.look]);refine⟨fun j q hj=>?_,h1⟩;by_cases e:i=j
  ·subst e;rw[hn] at hj;cases hj
  ·refine hf j q ?_;show(match Nat.beq i j with|true=>some k|false=>σ.look j)=some q;cases hb:Nat.beq i j with
   |true=>exact absurd (nQ hb) e
   |false=>exact hj
def eqK:Value->Value->Bool
 | .pointer none,.pointer none=>true
 | .slice none 0 0,.slice none 0 0=>true
 | .nilFunc,.nilFunc=>true
 |x,y=>eqC x y
theorem T0{x y:Value}(h:eqK x y=true):x=y:=by
 unfold eqK at h;split at h
 ·rfl
 ·rfl
 ·rfl
 ·exact Ly h
mutual
def afh(σ:Sub):MV Ω->MV Ω->Option Sub
 | .p i o,.p k o'=>match Nat.beq o o' with|true=>vW σ i k|false=>none
 | .s i o l c,.s k o' l' c'=>match Nat.beq o o'&&(Nat.beq l l'&&Nat.beq c c') with|true=>vW σ i k|false=>none
 | .z i j o l,.z k q o' l'=>match Nat.beq o o'&&Nat.beq l l' with|true=>(vW σ i k).bind fun σ=>vW σ j q|false=>none
 | .fn f l,.fn g m=>match Nat.beq f g with|true=>AA σ l m|false=>none
 | .ag l,.ag m=>AA σ l m
 | .t l,.t m=>AA σ l m
 | .c x,.c y=>match eqK x y with|true=>some σ|false=>none
 |_,_=>none
def AA(σ:Sub):List (MV Ω)->List (MV Ω)->Option Sub
 | [],[]=>some σ
 |x::l,y::m=>(afh σ x y).bind fun σ=>AA σ l m
 |_,_=>none
end
mutual
theorem sC{ρ:Nat->Nat}:∀(x y:MV Ω) (σ τ:Sub),afh σ x y=some τ->Fits τ ρ->Fits σ ρ/\∀r,y.av r=(x.fO ρ).av r/\y.cells r=(x.fO ρ).cells r
 | .p i o,y,σ,τ,h,hf=>by
  cases y <;> simp only[afh] at h <;> try (cases h;done)
  split at h
  ·rename_i e;obtain⟨h1,h2⟩:=nz h hf;rw[<-nQ e];exact⟨h1,fun r=>by simp only[MV.fO,MV.av,MV.cells,h2,and_self]⟩
  ·cases h
 | .s i o l c,y,σ,τ,h,hf=>by
  cases y <;> simp only[afh] at h <;> try (cases h;done)
  split at h
  ·rename_i e;simp only[bI] at e;obtain⟨h1,h2⟩:=nz h hf;rw[<-nQ e.1,<-nQ e.2.1,<-nQ e.2.2];exact⟨h1,fun r=>by simp only[MV.fO,MV.av,MV.cells,h2,and_self]⟩
  ·cases h
 | .z i j o l,y,σ,τ,h,hf=>by
  cases y <;> simp only[afh] at h <;> try (cases h;done)
  split at h
  ·rename_i e;simp only[bI] at e;rename_i k q o' l' _;cases hb:vW σ i k with
   |none=>rw[hb] at h;cases h
   |some σ'=>rw[hb] at h;obtain⟨h1,h2⟩:=nz h hf;obtain⟨h3,h4⟩:=nz hb h1;rw[<-nQ e.1,<-nQ e.2];exact⟨h3,fun r=>by simp only[MV.fO,MV.av,MV.cells,h2,h4,and_self]⟩
  ·cases h
 | .fn f l,y,σ,τ,h,hf=>by
  cases y <;> simp only[afh] at h <;> try (cases h;done)
  split at h
  ·rename_i e;obtain⟨h1,h2⟩:=pv l _ σ τ h hf;rw[<-nQ e];exact⟨h1,fun r=>by simp only[MV.fO,MV.av,MV.cells,(h2 r).1,and_self]⟩
  ·cases h
 | .ag l,y,σ,τ,h,hf=>by
  cases y <;> simp only[afh] at h <;> try (cases h;done)
  obtain⟨h1,h2⟩:=pv l _ σ τ h hf;exact⟨h1,fun r=>by simp only[MV.fO,MV.av,MV.cells,(h2 r).2,and_self]⟩
 | .t l,y,σ,τ,h,hf=>by
  cases y <;> simp only[afh] at h <;> try (cases h;done)
  obtain⟨h1,h2⟩:=pv l _ σ τ h hf;exact⟨h1,fun r=>by simp only[MV.fO,MV.av,MV.cells,(h2 r).1,and_self]⟩
 | .c x,y,σ,τ,h,hf=>by
  cases y <;> simp only[afh] at h <;> try (cases h;done)
  split at h
  ·rename_i e;cases h;rw[T0 e];exact⟨hf,fun r=>⟨rfl,rfl⟩⟩
  ·cases h
 | .i _,y,σ,τ,h,hf=>by cases y <;> simp[afh] at h
 | .v _,y,σ,τ,h,hf=>by cases y <;> simp[afh] at h
 | .w _,y,σ,τ,h,hf=>by cases y <;> simp[afh] at h
 | .g _,y,σ,τ,h,hf=>by cases y <;> simp[afh] at h
 | .r _ _,y,σ,τ,h,hf=>by cases y <;> simp[afh] at h
theorem pv{ρ:Nat->Nat}:∀(l m:List (MV Ω)) (σ τ:Sub),AA σ l m=some τ->Fits τ ρ->Fits σ ρ/\∀r,aE r m=aE r (fm ρ l)/\ai r m=ai r (fm ρ l)
 | [],[],σ,τ,h,hf=>by simp only[AA,oI] at h;subst h;exact⟨hf,fun r=>⟨rfl,rfl⟩⟩
 | [],_::_,σ,τ,h,hf=>by simp[AA] at h
 |_::_,[],σ,τ,h,hf=>by simp[AA] at h
 |x::l,y::m,σ,τ,h,hf=>by
  simp only[AA] at h;cases hv:afh σ x y with
  |none=>rw[hv] at h;cases h
  |some σ'=>rw[hv] at h;obtain⟨h1,h2⟩:=pv l m σ' τ h hf;obtain⟨h3,h4⟩:=sC x y σ σ' hv h1;exact⟨h3,fun r=>by simp only[fm,aE,ai,(h2 r).1,(h2 r).2,(h4 r).1,(h4 r).2,and_self]⟩
end
def LF(σ:Sub)(t:B)(y:MV Ω):Option (Sub×t.T Ω):=match t.dec y with
 |some a=>some (σ,a)
 |none=>none
def Cm(σ:Sub)(x y:MV Ω):Option (Sub×Unit):=match afh σ x y with
 |some τ=>some (τ,())
 |none=>none
def Slot.sD(σ:Sub): (s:Slot Ω)->MV Ω->Option (Sub×s.T)
 | .d t,y=>LF σ t y
 | .k x,y=>Cm σ x y
theorem B.lR(ρ:Nat->Nat)(t:B)(a:t.T Ω): (t.enc a).fO ρ=t.enc a:=by cases t <;> rfl
theorem Slot.dQ{ρ r:Nat->Nat}{σ:Sub}:∀{s:Slot Ω} {y:MV Ω} {τ:Sub×s.T},s.sD σ y=some τ->Fits τ.1 ρ->Fits σ ρ/\y.cells r=((s.enc τ.2).fO ρ).cells r
 | .d t,y,τ,h,hf=>by
  have h:LF σ t y=some τ:=h;unfold LF at h;split at h
  ·rename_i a hd;cases h;refine⟨hf,?_⟩;show y.cells r=((t.enc a).fO ρ).cells r;rw[B.lR];exact(B.dZ r t y a hd).2
  ·cases h
 | .k x,y,τ,h,hf=>by
  have h:Cm σ x y=some τ:=h;unfold Cm at h;split at h
  ·rename_i a hd;cases h;obtain⟨h1,h2⟩:=sC x y σ a hd hf;exact⟨h1,(h2 r).2⟩
  ·cases h
def MV.plain:MV Ω->Bool
 | .g _=>false
 | .r _ _=>false
 |_=>true
theorem pw{σ τ:Sub}{x y:MV Ω}(h:afh σ x y=some τ):x.plain=true/\y.plain=true:=by cases x <;> cases y <;> first|exact⟨rfl,rfl⟩|(simp[afh] at h)
theorem I0{t:B}{y:MV Ω}{a:t.T Ω}(h:t.dec y=some a):y.plain=true:=by
 cases y with
 |g x=>exfalso;cases t <;> cases h
 |r q n=>exfalso;cases t <;> cases h
 |_=>rfl
theorem I1(t:B)(a:t.T Ω): (t.enc a).plain=true:=by cases t <;> rfl
theorem iA{l:List (MV Ω)}(h:l.all MV.plain=true):gB l=none:=by
 cases l with
 |nil=>rfl
 |cons x l=>cases x <;> first|rfl|(simp[MV.plain] at h)
theorem jq:∀{l:List (MV Ω)},l.all MV.plain=true->dq l=none
 | [],_=>rfl
 |x::l,h=>by simp only[List.all_cons,bI] at h;rw[eu (fun q n e=>by subst e;simp[MV.plain] at h),jq h.2]
theorem vX(ρ:Nat->Nat):∀l:List (MV Ω),dq l=none->dq (fm ρ l)=none
 | [],_=>rfl
 |x::l,h=>by have ih:=vX ρ l;cases x <;> first|exact ih h|(simp[dq] at h)
def ko.sD(σ:Sub): (l:List (Slot Ω))->List (MV Ω)->Option (Sub×ko.T l)
 | [],[]=>some (σ,())
 |s::l,y::m=>match s.sD σ y with
  |some τ=>match ko.sD τ.1 l m with
   |some υ=>some (υ.1,(τ.2,υ.2))
   |none=>none
  |none=>none
 |_,_=>none
theorem Slot.pw{σ:Sub}:∀{s:Slot Ω} {y:MV Ω} {τ:Sub×s.T},s.sD σ y=some τ->y.plain=true/\(s.enc τ.2).plain=true
 | .d t,y,τ,h=>by
  have h:LF σ t y=some τ:=h;unfold LF at h;split at h
  ·rename_i a hd;cases h;exact⟨I0 hd,I1 t a⟩
  ·cases h
 | .k x,y,τ,h=>by
  have h:Cm σ x y=some τ:=h;unfold Cm at h;split at h
  ·rename_i a hd;cases h;exact⟨(Go.Ev.pw hd).2,(Go.Ev.pw hd).1⟩
  ·cases h
theorem ko.dQ{ρ:Nat->Nat}:∀{l:List (Slot Ω)} {m:List (MV Ω)} {σ:Sub} {τ:Sub×ko.T l},ko.sD σ l m=some τ->Fits τ.1 ρ->
  Fits σ ρ/\m.all MV.plain=true/\(ko.enc l τ.2).all MV.plain=true/\∀r,ai r m=ai r (fm ρ (ko.enc l τ.2))
 | [],[],σ,τ,h,hf=>by have h:some (σ,())=some τ:=h;cases h;exact⟨hf,rfl,rfl,fun r=>rfl⟩
 | [],_::_,σ,τ,h,hf=>by cases h
 |_::_,[],σ,τ,h,hf=>by cases h
 |s::l,y::m,σ,τ,h,hf=>by
  unfold ko.sD at h;split at h
  ·rename_i τ1 h1;split at h
   ·rename_i υ h2;cases h;obtain⟨a1,a2,a3,a4⟩:=ko.dQ h2 hf;have b:=fun r=>Slot.dQ (r:=r) h1 a1;obtain⟨c1,c2⟩:=Slot.pw h1;refine⟨(b id).1,?_,?_,fun r=>?_⟩
    ·simp only[List.all_cons,c1,a2,Bool.and_self]
    ·show((s.enc τ1.2)::ko.enc l υ.2).all MV.plain=true;simp only[List.all_cons,c2,a3,Bool.and_self]
    ·show y.cells r++ai r m=((s.enc τ1.2).fO ρ).cells r++ai r (fm ρ (ko.enc l υ.2));rw[(b r).2,a4 r]
   ·cases h
  ·cases h
def T6(σ:Sub)(k:jX.K Ω):List (MV Ω)->Option (Sub×jX.KT k)
 | [.g (some x)]=>match jX.TJ k x with
  |some a=>some (σ,a)
  |none=>none
 |_=>none
def BS.sD(σ:Sub): (b:BS Ω)->List (MV Ω)->Option (Sub×b.T)
 | .f l,m=>ko.sD σ l m
 | .o k,m=>T6 σ k m
theorem BS.dQ{ρ:Nat->Nat}{σ:Sub}:∀{b:BS Ω} {m:List (MV Ω)} {τ:Sub×b.T},b.sD σ m=some τ->Fits τ.1 ρ->Fits σ ρ/\ox (fm ρ (b.enc τ.2)) m
 | .f l,m,τ,h,hf=>by
  have h:ko.sD σ l m=some τ:=h;obtain⟨h1,h2,h3,h4⟩:=ko.dQ h hf;refine⟨h1,fun r F w g hh=>hh.same ?_ (h4 r).symm ?_⟩
  ·show gB (fm ρ (ko.enc l τ.2))=_;rw[vT,iA h3,iA h2]
  ·show dq (fm ρ (ko.enc l τ.2))=_;rw[vX _ _ (jq h3),jq h2]
 | .o k,m,τ,h,hf=>by
  have h:T6 σ k m=some τ:=h;unfold T6 at h;split at h
  ·rename_i x _;split at h
   ·rename_i a hd;cases h;refine⟨hf,fun r F w g hh=>?_⟩;have e:=jX.ye k x a hd;show(jX.Ez (jX.omk k a)).rep g F w;rw[<-e];exact hh
   ·cases h
  ·cases h
def cf.sD(H:Hp Ω)(σ:Sub)(i:Nat): (l:List (BS Ω))->Option (Sub×cf.T l)
 | []=>some (σ,())
 |b::l=>match σ.look i with
  |some k=>match H[k]? with
   |some m=>match b.sD σ m with
    |some τ=>match cf.sD H τ.1 (i+1) l with
     |some υ=>some (υ.1,(τ.2,υ.2))
     |none=>none
    |none=>none
   |none=>none
  |none=>none
theorem cf.dQ{H:Hp Ω}{ρ:Nat->Nat}:∀{l:List (BS Ω)} {σ:Sub} {i:Nat} {τ:Sub×cf.T l},cf.sD H σ i l=some τ->Fits τ.1 ρ->
  Fits σ ρ/\∀(j:Nat) (c:List (MV Ω)),(cf.enc l τ.2)[j]? =some c->∃c',H[ρ (i+j)]? =some c'/\ox (fm ρ c) c'
 | [],σ,i,τ,h,hf=>by have h:some (σ,())=some τ:=h;cases h;refine⟨hf,fun j c hj=>?_⟩;have hj: ([]:Hp Ω)[j]? =some c:=hj;simp at hj
 |b::l,σ,i,τ,h,hf=>by
  unfold cf.sD at h;split at h
  ·rename_i k hk;split at h
   ·rename_i m hm;split at h
    ·rename_i τ1 h1;split at h
     ·rename_i υ h2;cases h;obtain⟨a1,a2⟩:=cf.dQ h2 hf;obtain⟨b1,b2⟩:=BS.dQ h1 a1;refine⟨b1,fun j c hj=>?_⟩;have hj: (b.enc τ1.2::cf.enc l υ.2)[j]? =some c:=hj;cases j with
      |zero=>
       simp only[List.getElem?_cons_zero,oI] at hj;subst hj;exact⟨m,by rw[Nat.add_zero,b1 i k hk];exact hm,b2⟩
      |succ j=>
       simp only[List.getElem?_cons_succ] at hj;obtain⟨c',c1,c2⟩:=a2 j c hj;exact⟨c',by rw[show i+(j+1)=i+1+j by omega];exact c1,c2⟩
     ·cases h
    ·cases h
   ·cases h
  ·cases h
def T7(σ:Sub)(t:Ty)(y:MV Ω):Option (Sub×t.T Ω):=match t.dec y with
 |some a=>some (σ,a)
 |none=>none
def Arg.sD(σ:Sub): (s:Arg Ω)->MV Ω->Option (Sub×s.T)
 | .d t,y=>T7 σ t y
 | .k x,y=>Cm σ x y
theorem Bs.lR(ρ:Nat->Nat):∀(l:List B) (a:Bs Ω l),fm ρ (Bs.enc l a)=Bs.enc l a
 | [],_=>rfl
 |t::l,a=>by simp only[Bs.enc,fm,B.lR,Bs.lR ρ l]
theorem Ty.lR(ρ:Nat->Nat)(t:Ty)(a:t.T Ω): (t.enc a).fO ρ=t.enc a:=by
 cases t with
 |one t=>exact B.lR ρ t a
 |st l=>exact congrArg MV.ag (Bs.lR ρ l a)
theorem Arg.dQ{ρ r:Nat->Nat}{σ:Sub}:∀{s:Arg Ω} {y:MV Ω} {τ:Sub×s.T},s.sD σ y=some τ->Fits τ.1 ρ->Fits σ ρ/\y.av r=((s.enc τ.2).fO ρ).av r
 | .d t,y,τ,h,hf=>by
  have h:T7 σ t y=some τ:=h;unfold T7 at h;split at h
  ·rename_i a hd;cases h;refine⟨hf,?_⟩;show y.av r=((t.enc a).fO ρ).av r;rw[Ty.lR];exact Ty.dZ r t y a hd
  ·cases h
 | .k x,y,τ,h,hf=>by
  have h:Cm σ x y=some τ:=h;unfold Cm at h;split at h
  ·rename_i a hd;cases h;obtain⟨h1,h2⟩:=sC x y σ a hd hf;exact⟨h1,(h2 r).1⟩
  ·cases h
def aP.sD(σ:Sub): (l:List (Arg Ω))->List (MV Ω)->Option (Sub×aP.T l)
 | [],[]=>some (σ,())
 |s::l,y::m=>match s.sD σ y with
  |some τ=>match aP.sD τ.1 l m with
   |some υ=>some (υ.1,(τ.2,υ.2))
   |none=>none
  |none=>none
 |_,_=>none
theorem aP.dQ{ρ:Nat->Nat}:∀{l:List (Arg Ω)} {m:List (MV Ω)} {σ:Sub} {τ:Sub×aP.T l},aP.sD σ l m=some τ->Fits τ.1 ρ->
  Fits σ ρ/\∀r,aE r m=aE r (fm ρ (aP.enc l τ.2))
 | [],[],σ,τ,h,hf=>by have h:some (σ,())=some τ:=h;cases h;exact⟨hf,fun r=>rfl⟩
 | [],_::_,σ,τ,h,hf=>by cases h
 |_::_,[],σ,τ,h,hf=>by cases h
 |s::l,y::m,σ,τ,h,hf=>by
  unfold aP.sD at h;split at h
  ·rename_i τ1 h1;split at h
   ·rename_i υ h2;cases h;obtain⟨a1,a4⟩:=aP.dQ h2 hf;have b:=fun r=>Arg.dQ (r:=r) h1 a1;refine⟨(b id).1,fun r=>?_⟩;show y.av r::aE r m=((s.enc τ1.2).fO ρ).av r::aE r (fm ρ (aP.enc l υ.2));rw[(b r).2,a4 r]
   ·cases h
  ·cases h
def I2(σ:Sub)(i:Nat):Nat->Option (List Nat)
 |0=>some []
 |n+1=>match σ.look i with
  |some k=>match I2 σ (i+1) n with
   |some l=>some (k::l)
   |none=>none
  |none=>none
def Cn(ks:List Nat):Sub->Bool
 | []=>true
 |p::σ=>(match ks[p.1]? with|some k=>Nat.beq k p.2|none=>false)&&Cn ks σ
theorem qi{ks:List Nat}{n:Nat}:∀{σ:Sub},Cn ks σ=true->Fits σ (fO ks n)/\∀i k,σ.look i=some k->ks[i]? =some k
 | [],_=>⟨fun i k h=>by simp[Sub.look] at h,fun i k h=>by simp[Sub.look] at h⟩
 |p::σ,h=>by
  simp only[Cn,bI] at h;have ih:=qi (n:=n) h.2;have h1:∀i k,Sub.look (p::σ) i=some k->ks[i]? =some k:=fun i k hk=>by
   unfold Sub.look at hk;split at hk
   ·rename_i e;cases hk;have e:=nQ e;have h0:=h.1;split at h0
    ·rename_i k' hk';rw[<-nQ h0,<-e];exact hk'
    ·cases h0
   ·exact ih.2 i k hk
  exact⟨fun i k hk=>fw (h1 i k hk),h1⟩
theorem vY{σ:Sub}:∀{n i:Nat} {ks:List Nat},I2 σ i n=some ks->ks.length=n
 |0,i,ks,h=>by simp only[I2,oI] at h;subst h;rfl
 |n+1,i,ks,h=>by
  unfold I2 at h;split at h
  ·split at h
   ·rename_i l hl;cases h;simp[vY hl]
   ·cases h
  ·cases h
theorem cf.gC:∀(l:List (BS Ω)) (x:cf.T l),(cf.enc l x).length=l.length
 | [],_=>rfl
 |b::l,x=>by show(b.enc x.1::cf.enc l x.2).length=_;simp[cf.gC l]
def GV(n:Nat):List Nat->Bool
 | []=>true
 |k::l=>Nat.blt k n&&GV n l
theorem vZ{n:Nat}:∀{l:List Nat},GV n l=true->∀k∈l,k<n
 | [],_,k,hk=>by simp at hk
 |a::l,h,k,hk=>by
  simp only[GV,bI] at h;rcases List.mem_cons.1 hk with rfl|hk
  ·exact of_decide_eq_true (by simpa[Nat.blt_eq] using h.1)
  ·exact vZ h.2 k hk
def AB(α:List (Arg Ω))(η:List (BS Ω))(ρ:List (Arg Ω))(η':List (BS Ω))(F:aP.T α->cf.T η->aP.T ρ×cf.T η')(args:List (MV Ω))(H:Hp Ω):Tree (MV Ω×Hp Ω):=
 match aP.sD [] α args with
 |some τ=>match cf.sD H τ.1 0 η with
  |some υ=>match I2 υ.1 0 η.length with
   |some ks=>match Cn ks υ.1&&(kW ks&&(GV H.length ks&&(ij H.length H&&Nat.ble η.length η'.length))) with
    |true=> .leaf (behind ks (aP.Aw ρ (F τ.2 υ.2).1,cf.enc η' (F τ.2 υ.2).2) H)
    |false=> .bad
   |none=> .bad
  |none=> .bad
 |none=> .bad
def v8(f:FuncId)(α:List (Arg Ω))(η:List (BS Ω))(ρ:List (Arg Ω))(η':List (BS Ω))(F:aP.T α->cf.T η->aP.T ρ×cf.T η'):sB Ω:=⟨f,AB α η ρ η' F⟩
theorem px{P:Program}{f:FuncId}{α:List (Arg Ω)}{η:List (BS Ω)}{ρ:List (Arg Ω)}{η':List (BS Ω)}{F:aP.T α->cf.T η->aP.T ρ×cf.T η'}(h:dS P f α η ρ η' F): (v8 f α η ρ η' F).ok P:=by
 intro args H y hy;have hy: (AB α η ρ η' F args H).pick=some y:=hy;unfold AB at hy;split at hy
 ·rename_i τ h1;split at hy
  ·rename_i υ h2;split at hy
   ·rename_i ks h3;split at hy
    ·rename_i hb;simp only[bI] at hb;obtain⟨c1,c2,c3,c4,c5⟩:=hb;obtain rfl:=aw hy;obtain⟨f1,f2⟩:=qi (n:=H.length) c1;obtain⟨g1,g2⟩:=cf.dQ h2 f1;have g3:=aP.dQ h1 g1;have hlen:=vY h3;refine(h τ.2 υ.2).frame c2 (vZ c3) (by rw[cf.gC,hlen]) (by rw[cf.gC,cf.gC];exact Nat.le_of_ble_eq_true c5) c4 g3.2 ?_;intro i k c hi hc;obtain⟨c',e1,e2⟩:=g2 i c hc;rw[Nat.zero_add,fw hi] at e1;exact⟨c',e1,e2⟩
    ·cases hy
   ·cases hy
  ·cases hy
 ·cases hy
theorem jK.narrow{P:Program}{f:FuncId}{args:List (MV Ω)}{H:Hp Ω}{y z:MV Ω×Hp Ω}(h:jK P f args H y){ks:List Nat}{n:Nat}(hn:kW ks=true)(hid:∀i,i<H.length->ks[i]? =some i)
  (hl:H.length<=z.2.length) (hzl:z.2.length=ks.length) (h1:∀r,y.1.av r=(z.1.fO (fO ks n)).av r) (h2:∀(i k:Nat) (c:List (MV Ω)),ks[i]? =some k->z.2[i]? =some c->∃c',y.2[k]? =some c'/\ox (fm (fO ks n) c) c'):jK P f args H z:=by
 intro r fp w hs;refine(h r fp w hs).mono ?_;rintro e w' ⟨r',hg,rfl,fps,hr⟩;have get:∀(i:Nat) (c:List (MV Ω)),z.2[i]? =some c->∃k c',ks[i]? =some k/\fO ks n i=k/\y.2[k]? =some c'/\ox (fm (fO ks n) c) c':=fun i c hi=>by
  have hil:i<ks.length:=by rw[<-hzl];exact(gS.1 hi).1
  have e1:=gE hil;obtain⟨c',a1,a2⟩:=h2 i _ c e1 hi;exact⟨_,c',e1,fw e1,a1,a2⟩
 refine⟨fun i=>r' (fO ks n i),⟨hl,fun k hk=>?_⟩,?_,fun i=>fps (fO ks n i),⟨fun i j ci cj g hi hj fi fj=>?_,fun k c hk=>?_,fun k c g hk hg=>?_,hr.os,hr.tape,hr.output,hr.size,hr.dK,hr.ty⟩⟩
 ·show r' (fO ks n k)=r k;rw[fw (hid k hk)];exact hg.2 k hk
 ·show Ending.returned (y.1.av r')= .returned (z.1.av fun i=>r' (fO ks n i));rw[h1 r',MV.vS]
 ·obtain⟨ki,ci',a1,a2,a3,a4⟩:=get i ci hi;obtain⟨kj,cj',b1,b2,b3,b4⟩:=get j cj hj;rw[a2] at fi;rw[b2] at fj;have:=hr.yf ki kj _ _ g a3 b3 fi fj;subst this;exact jN hn i j _ a1 b1
 ·obtain⟨ki,ci',a1,a2,a3,a4⟩:=get k c hk;rw[a2];have:=a4 _ _ _ _ (hr.holds ki ci' a3);rw[<-a2] at this;have:=Holds.fO.1 this;rw[a2] at this;exact this
 ·obtain⟨ki,ci',a1,a2,a3,a4⟩:=get k c hk;rw[a2] at hg;exact hr.own ki ci' g a3 hg
def GW:Nat->Sub
 |0=>[]
 |n+1=>(n,n)::GW n
def Arg.iJ: (a:Arg Ω)->a.T
 | .d t=>t.iJ
 | .k _=>()
def aP.iJ: (l:List (Arg Ω))->aP.T l
 | []=>()
 |a::l=>(a.iJ,aP.iJ l)
def Slot.iJ: (s:Slot Ω)->s.T
 | .d t=>t.iJ
 | .k _=>()
def ko.iJ: (l:List (Slot Ω))->ko.T l
 | []=>()
 |s::l=>(s.iJ,ko.iJ l)
def BS.iJ: (b:BS Ω)->b.T
 | .f l=>ko.iJ l
 | .o k=>jX.kd k
def cf.iJ: (l:List (BS Ω))->cf.T l
 | []=>()
 |b::l=>(b.iJ,cf.iJ l)
def Co(n:Nat)(x:MV Ω):List (MV Ω):=match n,x with
 |1,x=>[x]
 |_,.t m=>m
 |_,_=>[]
def AD(n:Nat)(x:MV Ω):Bool:=match n,x with
 |1,_=>true
 |_,.t _=>true
 |_,_=>false
def LG(n:Nat)(ρ:List (Arg Ω))(η':List (BS Ω))(y:MV Ω×Hp Ω):Option (aP.T ρ×cf.T η'):=
 match AD ρ.length y.1 with
 |true=>match aP.sD (GW n) ρ (Co ρ.length y.1) with
  |some τ=>match cf.sD y.2 τ.1 0 η' with
   |some υ=>match I2 υ.1 0 η'.length with
    |some ks=>match Cn ks υ.1&&(kW ks&&Nat.ble n η'.length) with
     |true=>some (τ.2,υ.2)
     |false=>none
    |none=>none
   |none=>none
  |none=>none
 |false=>none
theorem E8{l:List (MV Ω)}{n:Nat}{x:MV Ω}(hl:l.length=n)(h:AD n x=true){r:Nat->Nat}{ρ:Nat->Nat}(e:aE r (Co n x)=aE r (fm ρ l)):x.av r=((match l with| [y]=>y|m=> .t m).fO ρ).av r:=by
 subst hl
 match l,h,e with
 | [y],h,e=>
  simp only[List.length_cons,List.length_nil,Co,fm,aE,List.cons.injEq] at e;exact e.1
 | [],h,e=>
  cases x <;> simp[AD] at h
  simp only[List.length_nil,Co] at e;simp only[MV.fO,MV.av,e]
 |a::b::l,h,e=>
  cases x <;> simp[AD] at h
  simp only[List.length_cons,Co] at e;simp only[MV.fO,MV.av,e]
theorem aP.gC:∀(l:List (Arg Ω)) (x:aP.T l),(aP.enc l x).length=l.length
 | [],_=>rfl
 |b::l,x=>by show(b.enc x.1::aP.enc l x.2).length=_;simp[aP.gC l]
theorem wa:∀(n i:Nat),i<n->(GW n).look i=some i
 |0,i,h=>by omega
 |n+1,i,h=>by
  show(match Nat.beq n i with|true=>some n|false=>(GW n).look i)=some i;cases hb:Nat.beq n i with
  |true=>rw[nQ hb]
  |false=>
   have:n≠i:=fun e=>by subst e;simp at hb
   exact wa n i (by omega)
theorem yL{P:Program}{f:FuncId}{args:List (MV Ω)}{H:Hp Ω}{ρ:List (Arg Ω)}{η':List (BS Ω)}{y:MV Ω×Hp Ω}{v:aP.T ρ×cf.T η'}(h:jK P f args H y)(hd:LG H.length ρ η' y=some v):jK P f args H (aP.Aw ρ v.1,cf.enc η' v.2):=by
 unfold LG at hd;split at hd
 ·rename_i ht;split at hd
  ·rename_i τ h1;split at hd
   ·rename_i υ h2;split at hd
    ·rename_i ks h3;split at hd
     ·rename_i hb;cases hd;simp only[bI] at hb;obtain⟨c1,c2,c3⟩:=hb;obtain⟨f1,f2⟩:=qi (n:=0) c1;obtain⟨g1,g2⟩:=cf.dQ h2 f1;have g3:=aP.dQ h1 g1;have hlen:=vY h3;have hid:∀i,i<H.length->ks[i]? =some i:=fun i hi=>by
       have e:=wa H.length i hi;have e2:=g3.1 i i e;have hi2:i<ks.length:=by rw[hlen];exact nU hi (Nat.le_of_ble_eq_true c3)
       have e3:=gE hi2;rw[e3,<-fw (n:=0) e3,e2]
      refine h.narrow (n:=0) c2 hid ?_ ?_ ?_ ?_
      ·show _<=(cf.enc η' υ.2).length;rw[cf.gC];exact Nat.le_of_ble_eq_true c3
      ·show(cf.enc η' υ.2).length=_;rw[cf.gC,hlen]
      ·intro r;exact E8 (aP.gC ρ τ.2) ht (g3.2 r)
      ·intro i k c hi hc;obtain⟨c',e1,e2⟩:=g2 i c hc;rw[Nat.zero_add,fw hi] at e1;exact⟨c',e1,e2⟩
     ·cases hd
    ·cases hd
   ·cases hd
  ·cases hd
 ·cases hd
def eS(cx:Cx Ω)(n:Nat)(f:FuncId)(α:List (Arg Ω))(η:List (BS Ω))(ρ:List (Arg Ω))(η':List (BS Ω))(a:aP.T α)(h:cf.T η):aP.T ρ×cf.T η':=
 match(j0 cx n f (aP.enc α a) (cf.enc η h)).pick with
 |some y=>match LG η.length ρ η' y with
  |some v=>v
  |none=>(aP.iJ ρ,cf.iJ η')
 |none=>(aP.iJ ρ,cf.iJ η')
def ec(cx:Cx Ω)(n:Nat)(f:FuncId)(α:List (Arg Ω))(η:List (BS Ω))(ρ:List (Arg Ω))(η':List (BS Ω))(a:aP.T α)(h:cf.T η):Bool:=
 (j0 cx n f (aP.enc α a) (cf.enc η h)).all fun y=>(LG η.length ρ η' y).isSome
theorem cA{cx:Cx Ω}(ok:iO cx){n:Nat}{f:FuncId}{α:List (Arg Ω)}{η:List (BS Ω)}{ρ:List (Arg Ω)}{η':List (BS Ω)}(h:∀a g,ec cx n f α η ρ η' a g=true):dS cx.P f α η ρ η' (eS cx n f α η ρ η'):=by intro a g;obtain⟨y,h1,h2⟩:=Tree.gU _ (h a g);obtain⟨v,hv⟩:=Option.isSome_iff_exists.1 h2;have e:=mJ ok n f _ _ y h1;have:=yL e (v:=v) (by rw[cf.gC];exact hv);unfold eS;rw[h1];simp only[hv];exact this
def oC(b:Bool):List (List Bool)->List (List Bool)
 | []=>[]
 |(c::q)::l=>match b,c with
  |true,true=>q::oC b l
  |false,false=>q::oC b l
  |_,_=>oC b l
 | []::l=>oC b l
def we:List (List Bool)->Bool
 | []=>false
 | []::_=>true
 |_::l=>we l
def Tree.Cp{α:Type}(p:α->Bool):List (List Bool)->Tree α->Bool
 |qs,.bad=>we qs
 |_,.leaf a=>p a
 |qs,.ite _ x y=>Tree.Cp p (oC true qs) x&&Tree.Cp p (oC false qs) y
theorem iu{b:Bool}:∀{l:List (List Bool)} {q:List Bool},q∈oC b l->(b::q)∈l
 | [],q,h=>by simp[oC] at h
 | []::l,q,h=>List.mem_cons_of_mem _ (iu (l:=l) h)
 |(c::q')::l,q,h=>by
  cases b <;> cases c
  ·rcases List.mem_cons.1 h with rfl|h
   ·exact List.mem_cons_self
   ·exact List.mem_cons_of_mem _ (iu h)
  ·exact List.mem_cons_of_mem _ (iu (l:=l) h)
  ·exact List.mem_cons_of_mem _ (iu (l:=l) h)
  ·rcases List.mem_cons.1 h with rfl|h
   ·exact List.mem_cons_self
   ·exact List.mem_cons_of_mem _ (iu h)
theorem Cq:∀{l:List (List Bool)},we l=true->[]∈l
 | [],h=>by cases h
 | []::l,_=>List.mem_cons_self
 |(_::_)::l,h=>List.mem_cons_of_mem _ (Cq (l:=l) h)
theorem Tree.qj{α:Type}{p:α->Bool}:∀(qs:List (List Bool)) (t:Tree α),t.Cp p qs=true->(∀q∈qs,t.conds q≠q)->∃a,t.pick=some a/\p a=true
 |qs,.bad,h,hc=>absurd rfl (hc [] (Cq h))
 |qs,.leaf a,h,_=>⟨a,rfl,h⟩
 |qs,.ite b x y,h,hc=>by
  simp only[Tree.Cp,bI] at h;cases b
  ·exact Tree.qj _ y h.2 fun q hq e=>hc (false::q) (iu hq) (by simp only[Tree.conds,e])
  ·exact Tree.qj _ x h.1 fun q hq e=>hc (true::q) (iu hq) (by simp only[Tree.conds,e])
def GX(cx:Cx Ω)(n:Nat)(f:FuncId)(α:List (Arg Ω))(η:List (BS Ω))(ρ:List (Arg Ω))(η':List (BS Ω))(qs:List (List Bool))(a:aP.T α)(h:cf.T η):Bool:=
 (j0 cx n f (aP.enc α a) (cf.enc η h)).Cp (fun y=>(LG η.length ρ η' y).isSome) qs
theorem LH{cx:Cx Ω}(ok:iO cx){n:Nat}{f:FuncId}{α:List (Arg Ω)}{η:List (BS Ω)}{ρ:List (Arg Ω)}{η':List (BS Ω)}{qs:List (List Bool)}(h:∀a g,GX cx n f α η ρ η' qs a g=true)(hq:∀a g,∀q∈qs,(j0 cx n f (aP.enc α a) (cf.enc η g)).conds q≠q):dS cx.P f α η ρ η' (eS cx n f α η ρ η'):=by intro a g;obtain⟨y,h1,h2⟩:=Tree.qj qs _ (h a g) (hq a g);obtain⟨v,hv⟩:=Option.isSome_iff_exists.1 h2;have e:=mJ ok n f _ _ y h1;have:=yL e (v:=v) (by rw[cf.gC];exact hv);unfold eS;rw[h1];simp only[hv];exact this
theorem qZ{α:Type}{t:Tree α}{q:List Bool}(i j:Nat){a b:Bool}(hi: (t.conds q)[i]? =some a)(hj: (t.conds q)[j]? =some b)(h:q[i]? =some a->q[j]? =some b->False):t.conds q≠q:=fun e=>by rw[e] at hi hj;exact h hi hj
end
end Go.Ev
namespace Go.Ev
open RowKit Go.Sort
structure bN (S:Nat->Prop) (w w':World):Prop where
 os:w'.os=w.os
 tape:w'.tape=w.tape
 output:w'.output=w.output
 size:w.heap.size<=w'.heap.size
 dK:∀g,g<w.heap.size->¬S g->w'.heap[g]? =w.heap[g]?
theorem bN.refl(S:Nat->Prop)(w:World):bN S w w:=⟨rfl,rfl,rfl,nL _,fun _ _ _=>rfl⟩
theorem bN.bH{S:Nat->Prop}{w w':World}(h:Below w.heap.size w w'):bN S w w':=⟨h.os,h.tape,h.output,h.size,fun g hg _=>h.block g hg⟩
theorem bN.trans{S T:Nat->Prop}{w w1 w2:World}(h:bN S w w1)(k:bN T w1 w2)(hT:∀g,T g->S g∨w.heap.size<=g):bN S w w2:=
 ⟨k.os.trans h.os,k.tape.trans h.tape,k.output.trans h.output,nT h.size k.size,fun g hg hn=>(k.dK g (nU hg h.size) (fun ht=>by rcases hT g ht with h1|h1;exact hn h1;omega)).trans (h.dK g hg hn)⟩
theorem bN.mono{S T:Nat->Prop}{w w':World}(h:bN S w w')(hST:∀g,S g->T g∨w.heap.size<=g):bN T w w':=
 ⟨h.os,h.tape,h.output,h.size,fun g hg hn=>h.dK g hg (fun hs=>by rcases hST g hs with h1|h1;exact hn h1;omega)⟩
theorem bN.below{w w':World}(h:bN (fun _=>False) w w'):Below w.heap.size w w':=⟨h.os,h.tape,h.output,h.size,fun g hg=>h.dK g hg id⟩
theorem bN.aI{S:Nat->Prop}{w w':World}(h:bN S w w'){g:Nat}(hg:g<w.heap.size)(hn:¬S g):w'.aI g=w.aI g:=by rw[eR,eR,h.dK g hg hn]
theorem bN.setCell(w:World)(g k:Nat)(v:Value):bN (fun x=>x=g) w (w.setCell ⟨g,k,none⟩ v):=by refine⟨rfl,rfl,rfl,by simp[World.setCell],fun x hx hn=>Below.heap_setCell w ⟨g,k,none⟩ v x hn⟩
theorem bN.setCells(w:World)(g o:Nat)(vs:List Value):bN (fun x=>x=g) w (w.setCells g o vs):=
 ⟨(ez g vs o w).1,(ez g vs o w).2.1,(ez g vs o w).2.2,by simp,fun x hx hn=>cC g vs o w x hn⟩
def aj.row(cs:Array Value):aj:=⟨fun g F w=>(∀x,F x↔x=g)/\w.aI g=some cs,fun g F w h x hx=>by rw[(h.1 x).1 hx];exact ab h.2,fun g F w w' h e=>⟨h.1,by rw[eR,e g ((h.1 g).2 rfl),<-eR];exact h.2⟩⟩
def Sep(w:World):List (Nat×aj)->(Nat->Prop)->Prop
 | [],F=>∀x,¬F x
 |p::L,F=>∃F1 F2,p.2.rep p.1 F1 w/\Sep w L F2/\(∀x,F1 x->¬F2 x)/\∀x,F x↔F1 x∨F2 x
theorem Sep.lt{w:World}:∀{L:List (Nat×aj)} {F:Nat->Prop},Sep w L F->∀x,F x->x<w.heap.size
 | [],F,h,x,hx=>absurd hx (h x)
 |p::L,F,⟨F1,F2,h1,h2,h3,h4⟩,x,hx=>by
  rcases(h4 x).1 hx with h|h
  ·exact p.2.lt _ _ _ h1 x h
  ·exact Sep.lt h2 x h
theorem Sep.loc{w w':World}:∀{L:List (Nat×aj)} {F:Nat->Prop},Sep w L F->(∀x,F x->w'.heap[x]? =w.heap[x]?)->Sep w' L F
 | [],F,h,_=>h
 |p::L,F,⟨F1,F2,h1,h2,h3,h4⟩,e=>⟨F1,F2,p.2.loc _ _ _ _ h1 fun x hx=>e x ((h4 x).2 (.inl hx)),Sep.loc h2 fun x hx=>e x ((h4 x).2 (.inr hx)),h3,h4⟩
theorem Sep.get{w:World}:∀{L:List (Nat×aj)} {F:Nat->Prop} {i:Nat} {p:Nat×aj},Sep w L F->L[i]? =some p->∃F1,p.2.rep p.1 F1 w/\∀x,F1 x->F x
 | [],F,i,p,h,hi=>by simp at hi
 |q::L,F,0,p,⟨F1,F2,h1,h2,h3,h4⟩,hi=>by simp at hi;subst hi;exact⟨F1,h1,fun x hx=>(h4 x).2 (.inl hx)⟩
 |q::L,F,i+1,p,⟨F1,F2,h1,h2,h3,h4⟩,hi=>by obtain⟨G,g1,g2⟩:=Sep.get h2 (by simpa using hi);exact⟨G,g1,fun x hx=>(h4 x).2 (.inr (g2 x hx))⟩
theorem Sep.qS{w w':World}:∀{L:List (Nat×aj)} {F:Nat->Prop} {i:Nat} {p p':Nat×aj},Sep w L F->L[i]? =some p->
  (∀F1,p.2.rep p.1 F1 w->(∀x,F1 x->F x)->∃F1',p'.2.rep p'.1 F1' w'/\(∀x,F1' x->F1 x∨w.heap.size<=x)/\bN F1 w w')->
  ∃F',Sep w' (L.set i p') F'/\(∀x,F' x->F x∨w.heap.size<=x)/\bN F w w'
 | [],F,i,p,p',h,hi,_=>by simp at hi
 |q::L,F,0,p,p',⟨F1,F2,h1,h2,h3,h4⟩,hi,hu=>by
  simp at hi;subst hi;obtain⟨F1',u1,u2,u3⟩:=hu F1 h1 (fun x hx=>(h4 x).2 (.inl hx));refine⟨fun x=>F1' x∨F2 x,⟨F1',F2,u1,h2.loc fun x hx=>u3.dK x (h2.lt x hx) (fun h=>h3 x h hx),fun x hx hx2=>?_,fun x=>Iff.rfl⟩,fun x hx=>?_,u3.mono fun g hg=> .inl ((h4 g).2 (.inl hg))⟩
  ·rcases u2 x hx with h|h
   ·exact h3 x h hx2
   ·have:=h2.lt x hx2;omega
  ·rcases hx with hx|hx
   ·rcases u2 x hx with h|h
    ·exact .inl ((h4 x).2 (.inl h))
    ·exact .inr h
   ·exact .inl ((h4 x).2 (.inr hx))
 |q::L,F,i+1,p,p',⟨F1,F2,h1,h2,h3,h4⟩,hi,hu=>by
  obtain⟨F2',v1,v2,v3⟩:=Sep.qS h2 (by simpa using hi) (fun G hG hs=>hu G hG fun x hx=>(h4 x).2 (.inr (hs x hx)));refine⟨fun x=>F1 x∨F2' x,⟨F1,F2',q.2.loc _ _ _ _ h1 fun x hx=>v3.dK x (q.2.lt _ _ _ h1 x hx) (fun h=>h3 x hx h),v1,fun x hx hx2=>?_,fun x=>Iff.rfl⟩,fun x hx=>?_,v3.mono fun g hg=> .inl ((h4 g).2 (.inr hg))⟩
  ·rcases v2 x hx2 with h|h
   ·exact h3 x hx h
   ·have:=q.2.lt _ _ _ h1 x hx;omega
  ·rcases hx with hx|hx
   ·exact .inl ((h4 x).2 (.inl hx))
   ·rcases v2 x hx with h|h
    ·exact .inl ((h4 x).2 (.inr h))
    ·exact .inr h
theorem Sep.call{α:Type}{P:Program}{f:FuncId}{args:Array Value}{w:World}{L:List (Nat×aj)}{F:Nat->Prop}{i:Nat}{p:Nat×aj}{p':α->Nat×aj}{R:α->Ending->Prop}(h:Sep w L F)(hi:L[i]? =some p)
  (hc:∀F1,p.2.rep p.1 F1 w->Calls P f args w fun e w'=>∃a,R a e/\∃F1',(p' a).2.rep (p' a).1 F1' w'/\(∀x,F1' x->F1 x∨w.heap.size<=x)/\bN F1 w w'):
  Calls P f args w fun e w'=>∃a,R a e/\∃F',Sep w' (L.set i (p' a)) F'/\(∀x,F' x->F x∨w.heap.size<=x)/\bN F w w':=by
 induction L generalizing F i with
 |nil=>simp at hi
 |cons q L ih=>
  obtain⟨F1,F2,h1,h2,h3,h4⟩:=h;cases i with
  |zero=>
   simp at hi;subst hi;refine(hc F1 h1).mono ?_;rintro e w' ⟨a,ha,F1',u1,u2,u3⟩;have hs:Sep w (q::L) F:=⟨F1,F2,h1,h2,h3,h4⟩;refine⟨a,ha,fun x=>F1' x∨F2 x,⟨F1',F2,u1,h2.loc fun x hx=>u3.dK x (h2.lt x hx) (fun h=>h3 x h hx),fun x hx hx2=>?_,fun x=>Iff.rfl⟩,fun x hx=>?_,u3.mono fun g hg=> .inl ((h4 g).2 (.inl hg))⟩
   ·rcases u2 x hx with h|h
    ·exact h3 x h hx2
    ·have:=h2.lt x hx2;omega
   ·rcases hx with hx|hx
    ·rcases u2 x hx with h|h
     ·exact .inl ((h4 x).2 (.inl h))
     ·exact .inr h
    ·exact .inl ((h4 x).2 (.inr hx))
  |succ i=>
   refine(ih h2 (by simpa using hi)).mono ?_;rintro e w' ⟨a,ha,F2',v1,v2,v3⟩;refine⟨a,ha,fun x=>F1 x∨F2' x,⟨F1,F2',q.2.loc _ _ _ _ h1 fun x hx=>v3.dK x (q.2.lt _ _ _ h1 x hx) (fun h=>h3 x hx h),v1,fun x hx hx2=>?_,fun x=>Iff.rfl⟩,fun x hx=>?_,v3.mono fun g hg=> .inl ((h4 g).2 (.inr hg))⟩
   ·rcases v2 x hx2 with h|h
    ·exact h3 x hx h
    ·have:=q.2.lt _ _ _ h1 x hx;omega
   ·rcases hx with hx|hx
    ·exact .inl ((h4 x).2 (.inl hx))
    ·rcases v2 x hx with h|h
     ·exact .inl ((h4 x).2 (.inr h))
     ·exact .inr h
theorem Sep.push{w w':World}{L:List (Nat×aj)}{F:Nat->Prop}(h:Sep w L F)(hb:Below w.heap.size w w'){p:Nat×aj}{G:Nat->Prop}(hp:p.2.rep p.1 G w')(hG:∀x,G x->w.heap.size<=x):Sep w' (p::L) (fun x=>G x∨F x):=
 ⟨G,F,hp,h.loc fun x hx=>hb.block x (h.lt x hx),fun x hx hx2=>by have:=h.lt x hx2;have:=hG x hx;omega,fun x=>Iff.rfl⟩
theorem Sep.more{w w':World}{L:List (Nat×aj)}{F:Nat->Prop}(h:Sep w L F)(hb:Below w.heap.size w w'):Sep w' L F:=h.loc fun x hx=>hb.block x (h.lt x hx)
theorem Sep.row{w:World}{L:List (Nat×aj)}{F:Nat->Prop}{i g:Nat}{cs:Array Value}(h:Sep w L F)(hi:L[i]? =some (g,aj.row cs)):w.aI g=some cs:=by obtain⟨F1,h1,_⟩:=h.get hi;exact h1.2
theorem Sep.apart{w:World}:∀{L:List (Nat×aj)} {F:Nat->Prop} {i j:Nat} {g k:Nat} {cs ds:Array Value},Sep w L F->L[i]? =some (g,aj.row cs)->L[j]? =some (k,aj.row ds)->i≠j->g≠k
 | [],F,i,j,g,k,cs,ds,h,hi,hj,hne=>by simp at hi
 |q::L,F,0,0,g,k,cs,ds,h,hi,hj,hne=>absurd rfl hne
 |q::L,F,0,j+1,g,k,cs,ds,⟨F1,F2,h1,h2,h3,h4⟩,hi,hj,hne=>by simp at hi;subst hi;obtain⟨G,g1,g2⟩:=h2.get (by simpa using hj);intro e;subst e;exact h3 _ ((h1.1 _).2 rfl) (g2 _ ((g1.1 _).2 rfl))
 |q::L,F,i+1,0,g,k,cs,ds,⟨F1,F2,h1,h2,h3,h4⟩,hi,hj,hne=>by simp at hj;subst hj;obtain⟨G,g1,g2⟩:=h2.get (by simpa using hi);intro e;subst e;exact h3 _ ((h1.1 _).2 rfl) (g2 _ ((g1.1 _).2 rfl))
 |q::L,F,i+1,j+1,g,k,cs,ds,⟨F1,F2,h1,h2,h3,h4⟩,hi,hj,hne=>h2.apart (by simpa using hi) (by simpa using hj) (by omega)
def aj.nV(L:Nat->List (Nat×aj)):aj:=⟨fun g F w=>Sep w (L g) F,fun g F w h=>h.lt,fun g F w w' h e=>h.loc e⟩
end Go.Ev
namespace Go.Ev
open RowKit Go.Sort MapKept
def nW(l:List (Int×Value))(k:Int):Option Value:=(l.find? (fun p=>p.1==k)).map (·.2)
def wg(l:List (Int×Value))(k:Int):Bool:=l.any (fun p=>p.1==k)
def sE(l:List (Int×Value))(k:Int)(v:Value):List (Int×Value):=l.map (fun p=>if p.1==k then(k,v) else p)
def qk(l:List (Int×Value))(k:Int)(v:Value):List (Int×Value):=if wg l k then sE l k v else l++ [(k,v)]
def AE(l:List (Int×Value))(k:Int):List (Int×Value):=l.filter (fun p=>!(p.1==k))
def Eo(es:Array MapEntry):List (Value×Value):=es.toList.map fun e=>(e.key,e.val)
def Ep(l:List (Int×Value)):List (Value×Value):=l.map fun p=>(Value.int .i64 p.1,p.2)
def dr(w:World)(b:Nat)(l:List (Int×Value)):Prop:=∃es clock,w.heap[b]? =some (.map es clock)/\Stamped es clock/\Eo es=Ep l
theorem dr.lt{w:World}{b:Nat}{l:List (Int×Value)}(h:dr w b l):b<w.heap.size:=by obtain⟨es,c,h1,h2,h3⟩:=h;exact(Array.getElem?_eq_some_iff.1 h1).1
theorem dr.congr{w w':World}{b:Nat}{l:List (Int×Value)}(h:dr w b l)(e:w'.heap[b]? =w.heap[b]?):dr w' b l:=by obtain⟨es,c,h1,h2,h3⟩:=h;exact⟨es,c,e.trans h1,h2,h3⟩
def aj.ql(l:List (Int×Value)):aj:=⟨fun g F w=>(∀x,F x↔x=g)/\dr w g l,fun g F w h x hx=>by rw[(h.1 x).1 hx];exact h.2.lt,fun g F w w' h e=>⟨h.1,h.2.congr (e g ((h.1 g).2 rfl))⟩⟩
def K8(k:Int):List (Int×Value)->Nat->Option (Nat×Value)
 | [],_=>none
 |p::l,i=>if p.1==k then some (i,p.2) else K8 k l (i+1)
theorem GY(k:Int):∀(l:List (Int×Value)) (i:Nat),(K8 k l i).map (·.2)=nW l k
 | [],_=>rfl
 |p::l,i=>by
  unfold K8 nW;by_cases h: (p.1==k)=true
  ·rw[if_pos h];simp only[List.find?,h];rfl
  ·rw[if_neg h];have h2: (p.1==k)=false:=by simpa using h
   simp only[List.find?,h2];exact GY k l (i+1)
theorem wh{k:Int}:∀{l:List (Int×Value)} {i j:Nat} {v:Value},K8 k l i=some (j,v)->∃d,j=i+d/\l[d]? =some (k,v)/\∀e,e<d->∀p,l[e]? =some p->p.1≠k
 | [],_,_,_,h=>by cases h
 |p::l,i,j,v,h=>by
  unfold K8 at h;by_cases hp: (p.1==k)=true
  ·rw[if_pos hp] at h;cases h;refine⟨0,rfl,?_,fun e he=>by omega⟩;have:=eq_of_beq hp;rw[<-this];rfl
  ·rw[if_neg hp] at h;obtain⟨d,h1,h2,h3⟩:=wh h;refine⟨d+1,by omega,by simpa using h2,fun e he q hq=>?_⟩;cases e with
   |zero=>simp at hq;subst hq;simpa using hp
   |succ e=>exact h3 e (by omega) q (by simpa using hq)
theorem wi{k:Int}:∀{l:List (Int×Value)} {i:Nat},K8 k l i=none->∀p∈l,p.1≠k
 | [],_,_,p,hp=>by simp at hp
 |q::l,i,h,p,hp=>by
  unfold K8 at h;by_cases hq: (q.1==k)=true
  ·rw[if_pos hq] at h;cases h
  ·rw[if_neg hq] at h;rcases List.mem_cons.1 hp with rfl|hp
   ·simpa using hq
   ·exact wi h p hp
theorem py(k:Int):∀(es:List MapEntry) (l:List (Int×Value)) (i:Nat),es.map (fun e=>(e.key,e.val))=Ep l->Instr.findNow (.int .i64) (.int .i64 k) es i=some (K8 k l i)
 | [],[],_,_=>rfl
 | [],_::_,_,h=>by simp[Ep] at h
 |_::_,[],_,h=>by simp[Ep] at h
 |e::es,p::l,i,h=>by
  simp only[Ep,List.map_cons,List.cons.injEq,Prod.mk.injEq] at h;obtain⟨⟨h1,h2⟩,h3⟩:=h;unfold Instr.findNow K8;rw[h1];show(match(if IntKind.i64=IntKind.i64 then some (k==p.1) else none) with|some true=>_|some false=>_|none=>_)=_;rw[if_pos rfl];by_cases hp: (p.1==k)=true
  ·have e1: (k==p.1)=true:=by have:=eq_of_beq hp;subst this;simp
   rw[e1,if_pos hp,h2]
  ·have e1: (k==p.1)=false:=by
    cases hx: (k==p.1)
    ·rfl
    ·have:=eq_of_beq hx;subst this;simp at hp
   rw[e1,if_neg hp];exact py k es l (i+1) h3
section
variable {P:Program} {w:World} {b:Nat} {l:List (Int×Value)} {t kt et:TypeId}
theorem dr.look(h:dr w b l)(hm:P.underlying t=some (.map kt et))(hk:P.underlying kt=some (.int .i64)){z:Value}(hz: (zeroValue et).run P w= .ok z w)(k:Int)(c:Bool):
  (Instr.lookup t (.map (some b)) (.int .i64 k) c).run P w= .ok (if c then .tuple #[(nW l k).getD z,.bool (nW l k).isSome] else(nW l k).getD z) w:=by
 obtain⟨es,clock,hb,hs,he⟩:=h;have hf:=py k es.toList l 0 he;unfold Instr.lookup;simp only[Sem.run_bind,run_underlying hm w,Result.andThen_ok,Go.MapKept.run_getObj_map hb,Sem.run_pure,run_checkKey hk (show IsKey (.int .i64) (.int .i64 k) from rfl),run_findKey hk hf];rw[<-GY k l 0];cases ha:K8 k l 0 with
 |none=>simp only[Sem.run_bind,hz,Result.andThen_ok,Sem.run_pure];cases c <;> rfl
 |some p=>obtain⟨j,v⟩:=p;simp only[Sem.run_pure,Result.andThen_ok];cases c <;> rfl
theorem dr.len(h:dr w b l)(hm:P.underlying t=some (.map kt et))(ty:TypeId): (Builtin.len_ #[t] ty #[.map (some b)]).run P w= .ok (goInt l.length) w:=by
 obtain⟨es,clock,hb,hs,he⟩:=h;have hl:es.size=l.length:=by have:=congrArg List.length he;simpa[Eo,Ep] using this
 simp[Builtin.len_,Sem.run_bind,run_underlying hm w,Result.andThen,Go.MapKept.run_getObj_map hb,hl]
theorem E9{es:Array MapEntry}{k:Int}{d:Nat}{v v':Value}{l:List (Int×Value)}(he:Eo es=Ep l)(hd:l[d]? =some (k,v))(hu:∀e p,e≠d->l[e]? =some p->p.1≠k)(f:MapEntry->MapEntry)(hf:∀e,es[d]? =some e->(f e).key= .int .i64 k/\(f e).val=v'):
  Eo (es.modify d f)=Ep (sE l k v'):=by
 apply List.ext_getElem?;intro i;have hi:=congrArg (fun m=>m[i]?) he;simp only[Eo,Ep,sE,List.getElem?_map,Array.getElem?_toList,Array.getElem?_modify] at hi ⊢;by_cases h:d=i
 ·subst h;simp only[if_true,hd,Option.map_some,BEq.rfl] at hi ⊢;cases hx:es[d]? with
  |none=>rw[hx] at hi;cases hi
  |some e=>
   obtain⟨h1,h2⟩:=hf e hx;simp[h1,h2]
 ·simp only[h,if_false];rw[hi];cases hp:l[i]? with
  |none=>rfl
  |some p=>
   have hpk:=hu i p (by omega) hp;simp[hpk]
theorem PK{es:Array MapEntry}{clock:Nat}(hs:Stamped es clock){l:List (Int×Value)}(he:Eo es=Ep l): (l.map (·.1)).Nodup:=by
 have h1:=hs.2.2;have h2:es.toList.map (·.key)=(l.map (·.1)).map (Value.int .i64):=by have:=congrArg (List.map Prod.fst) he;simpa[Eo,Ep,Function.comp_def] using this
 rw[h2] at h1;exact(List.pairwise_map.1 h1).imp fun hne e=>hne (by rw[e])
theorem dr.nodup(h:dr w b l): (l.map (·.1)).Nodup:=by obtain⟨es,clock,hb,hs,he⟩:=h;exact PK hs he
theorem dr.put(h:dr w b l)(hm:P.underlying t=some (.map kt et))(hk:P.underlying kt=some (.int .i64))(k:Int)(v:Value):
  ∃w',(Instr.mapUpdate t (.map (some b)) (.int .i64 k) v).run P w= .ok () w'/\dr w' b (qk l k v)/\bN (fun y=>y=b) w w'/\w'.heap.size=w.heap.size:=by
 have hlt:=h.lt;have hnd:=h.nodup;obtain⟨es,clock,hb,hs,he⟩:=h;have hf:=py k es.toList l 0 he;have mh:∀o,bN (fun y=>y=b) w {w with heap:=w.heap.setIfInBounds b o}:=fun o=>⟨rfl,rfl,rfl,by simp,fun g hg hn=>(heap_set (o':=o) hb).2 g hn⟩;cases ha:K8 k l 0 with
 |none=>
  rw[ha] at hf;have hno:=wi ha;refine⟨{w with heap:=w.heap.setIfInBounds b (.map (es.push {key:= .int .i64 k,val:=v,born:=clock}) (clock+1))},?_,⟨_,_,(heap_set hb).1,stamped_push hs ?_,?_⟩,mh _,by simp⟩
  ·unfold Instr.mapUpdate;simp only[Sem.run_bind,run_underlying hm w,Result.andThen_ok,Go.MapKept.run_getObj_map hb,run_checkKey hk (show IsKey (.int .i64) (.int .i64 k) from rfl),run_findKey hk hf,run_setObj_map _ hb]
  ·intro x hx hxk;have: (x.key,x.val)∈Eo es:=List.mem_map.2 ⟨x,hx,rfl⟩;rw[he] at this;obtain⟨p,hp,hpe⟩:=List.mem_map.1 this;simp only[Prod.mk.injEq] at hpe;rw[hxk] at hpe;have:=hpe.1;simp only[Value.int.injEq,true_and] at this;exact hno p hp this
  ·have:wg l k=false:=by unfold wg;rw[List.any_eq_false];intro p hp;simpa using hno p hp
   unfold qk;rw[this];simp only[Eo,Ep,Array.toList_push,List.map_append,List.map_cons,List.map_nil,Bool.false_eq_true,if_false] at he ⊢;rw[he]
 |some q=>
  obtain⟨j,u⟩:=q;rw[ha] at hf;obtain⟨d,hjd,hd,_⟩:=wh ha;have hj:j=d:=by omega
  subst hj;have hkey:∀e,es[j]? =some e->e.key= .int .i64 k:=fun e hx=>by have hi:=congrArg (fun m=>m[j]?) he;simp only[Eo,Ep,List.getElem?_map,Array.getElem?_toList,hx,hd,Option.map_some,oI,Prod.mk.injEq] at hi;exact hi.1
  have hks: (((es[j]?).map (·.key)).getD (.int .i64 k))= .int .i64 k:=by
   cases hx:es[j]? with
   |none=>rfl
   |some e=>exact hkey e hx
  refine⟨{w with heap:=w.heap.setIfInBounds b (.map (es.modify j fun e=>{e with key:= .int .i64 k,val:=v}) clock)},?_,⟨_,_,(heap_set hb).1,stamped_modify hs j _ (fun _ _=>rfl) (fun e _ hx=>(hkey e hx).symm),?_⟩,mh _,by simp⟩
  ·unfold Instr.mapUpdate;simp only[Sem.run_bind,run_underlying hm w,Result.andThen_ok,Go.MapKept.run_getObj_map hb,run_checkKey hk (show IsKey (.int .i64) (.int .i64 k) from rfl),run_findKey hk hf,hks,run_keyThatStays (d:= .int .i64) (show IsKey (.int .i64) (.int .i64 k) from rfl),run_setObj_map _ hb]
  ·have:wg l k=true:=by unfold wg;rw[List.any_eq_true];exact⟨(k,u),List.mem_of_getElem? hd,by simp⟩
   unfold qk;rw[this,if_pos rfl];refine E9 he hd (fun e p hne hp=>?_) _ (fun e hx=>⟨rfl,rfl⟩);intro hpk;have h1: (l.map (·.1))[e]? =some k:=by rw[List.getElem?_map,hp,Option.map_some,hpk]
   have h2: (l.map (·.1))[j]? =some k:=by rw[List.getElem?_map,hd];rfl
   have l1:=(gS.1 h1).1;have l2:=(gS.1 h2).1;exact hne ((List.getElem_inj hnd).1 ((gS.1 h1).2.trans (gS.1 h2).2.symm))
theorem yM{k:Int}:∀{l:List (Int×Value)} {d:Nat} {v:Value},l[d]? =some (k,v)->(∀e p,e≠d->l[e]? =some p->p.1≠k)->AE l k=l.eraseIdx d
 | [],d,v,h,_=>by simp at h
 |q::l,0,v,h,hu=>by
  simp at h;subst h;have hall:∀p∈l,p.1≠k:=fun p hp=>by obtain⟨e,he⟩:=List.getElem?_of_mem hp;exact hu (e+1) p (by omega) (by simpa using he)
  unfold AE;simp only[List.filter_cons,BEq.rfl,Bool.not_true,Bool.false_eq_true,if_false,List.eraseIdx_cons_zero];exact List.filter_eq_self.2 fun p hp=>by simpa using hall p hp
 |q::l,d+1,v,h,hu=>by
  have hq:q.1≠k:=hu 0 q (by omega) rfl;have ih:=yM (l:=l) (d:=d) (v:=v) (by simpa using h) (fun e p hne hp=>hu (e+1) p (by omega) (by simpa using hp));unfold AE at ih ⊢;have hq2: (!(q.1==k))=true:=by simpa using hq
  simp only[List.filter_cons,hq2,if_true,List.eraseIdx_cons_succ,ih]
theorem qm{α β:Type}(f:α->β):∀(l:List α) (j:Nat),(l.map f).eraseIdx j=(l.eraseIdx j).map f
 | [],j=>by simp
 |x::l,0=>rfl
 |x::l,j+1=>by simp only[List.map_cons,List.eraseIdx_cons_succ,qm f l j]
theorem LI{k:Int}{l:List (Int×Value)}(h:∀p∈l,p.1≠k):AE l k=l:=by unfold AE;exact List.filter_eq_self.2 fun p hp=>by simpa using h p hp
theorem T8{l:List (Int×Value)}(hnd: (l.map (·.1)).Nodup){j:Nat}{k:Int}{u:Value}(hd:l[j]? =some (k,u)):∀e p,e≠j->l[e]? =some p->p.1≠k:=fun e p hne hp hpk=>by
 have h1: (l.map (·.1))[e]? =some k:=by rw[List.getElem?_map,hp,Option.map_some,hpk]
 have h2: (l.map (·.1))[j]? =some k:=by rw[List.getElem?_map,hd];rfl
 exact hne ((List.getElem_inj hnd).1 ((gS.1 h1).2.trans (gS.1 h2).2.symm))
theorem dr.del(h:dr w b l)(hm:P.underlying t=some (.map kt et))(hk:P.underlying kt=some (.int .i64))(k:Int)(ts:Array TypeId)(hts:ts[0]? =some t)(ty:TypeId):
  ∃w',(Builtin.delete_ ts ty #[.map (some b),.int .i64 k]).run P w= .ok (.tuple #[]) w'/\dr w' b (AE l k)/\bN (fun y=>y=b) w w'/\w'.heap.size=w.heap.size:=by
 have hnd:=h.nodup;obtain⟨es,clock,hb,hs,he⟩:=h;have hf:=py k es.toList l 0 he;have mh:∀o,bN (fun y=>y=b) w {w with heap:=w.heap.setIfInBounds b o}:=fun o=>⟨rfl,rfl,rfl,by simp,fun g hg hn=>(heap_set (o':=o) hb).2 g hn⟩;cases ha:K8 k l 0 with
 |none=>
  rw[ha] at hf;refine⟨{w with heap:=w.heap.setIfInBounds b (.map es clock)},?_,⟨_,_,(heap_set hb).1,hs,by rw[LI (wi ha)];exact he⟩,mh _,by simp⟩;simp[Builtin.delete_,hts,Sem.run_bind,run_underlying hm w,Go.MapKept.run_getObj_map hb,run_checkKey hk (show IsKey (.int .i64) (.int .i64 k) from rfl),run_findKey hk hf,run_setObj_map _ hb]
 |some q=>
  obtain⟨j,u⟩:=q;rw[ha] at hf;obtain⟨d,hjd,hd,_⟩:=wh ha;have hj:j=d:=by omega
  subst hj;refine⟨{w with heap:=w.heap.setIfInBounds b (.map (es.eraseIdxIfInBounds j) clock)},?_,⟨_,_,(heap_set hb).1,stamped_erase hs j,?_⟩,mh _,by simp⟩
  ·simp[Builtin.delete_,hts,Sem.run_bind,run_underlying hm w,Go.MapKept.run_getObj_map hb,run_checkKey hk (show IsKey (.int .i64) (.int .i64 k) from rfl),run_findKey hk hf,run_setObj_map _ hb]
  ·rw[yM hd (T8 hnd hd)];have h1:Eo (es.eraseIdxIfInBounds j)=(Eo es).eraseIdx j:=by
    unfold Eo;have: (es.eraseIdxIfInBounds j).toList=es.toList.eraseIdx j:=by
     unfold Array.eraseIdxIfInBounds;split
     ·simp
     ·rename_i hx;rw[List.eraseIdx_of_length_le (by simpa using hx)]
    rw[this,qm]
   rw[h1,he];unfold Ep;rw[qm]
theorem dr.made(w:World):dr (w.alloc (.map #[] 0)) w.heap.size []:=⟨#[],0,heap_alloc_new w _,stamped_empty 0,rfl⟩
end
end Go.Ev
namespace Go.Proofs
open RowKit Maps Go.Sort Shelf
open Tryz
def Tryz.yN:Go.Shelf.Ren:=⟨fun|7=>61|10=>118|n=>n,fun|23=>129|26=>3|3=>50|28=>127|0=>0|27=>126|33=>72|4=>4|n=>n,fun|n=>n⟩
theorem Tryz.SN:Go.Proofs.SlLaysZI.n7 prog Tryz.yN:=by
 constructor
 case f7=>exact⟨Tryz.f61.name,by decide,func61.trans (congrArg some (by kernel_rfl))⟩
 case f10=>exact⟨Tryz.f118.name,by decide,func118.trans (congrArg some (by kernel_rfl))⟩
 all_goals (intros;kernel_rfl)
def Tryz.tX:Go.Shelf.Ren:=⟨fun|6=>60|8=>116|9=>117|11=>160|13=>162|12=>161|23=>219|24=>220|14=>210|15=>211|16=>212|17=>213|18=>214|19=>215|20=>216|21=>217|22=>218|25=>269|26=>270|27=>271|28=>272|29=>273|30=>274|31=>305|n=>n,fun|26=>3|28=>127|24=>124|0=>0|3=>3|37=>190|48=>219|50=>59|4=>4|40=>295|39=>294|45=>223|5=>5|9=>9|51=>342|55=>346|57=>376|58=>377|33=>72|n=>n,fun|n=>n⟩
theorem Tryz.PL:Go.Proofs.SlLaysZI.n6 prog Tryz.tX:=by
 constructor
 case f6=>exact⟨Tryz.f60.name,by decide,func60.trans (congrArg some (by kernel_rfl))⟩
 case f8=>exact⟨Tryz.f116.name,by decide,func116.trans (congrArg some (by kernel_rfl))⟩
 case f11=>exact⟨Tryz.f160.name,by decide,func160.trans (congrArg some (by kernel_rfl))⟩
 all_goals (intros;kernel_rfl)
def Tryz.I3:Go.Shelf.Ren:=⟨fun|5=>117|8=>162|7=>161|19=>219|20=>220|10=>210|11=>211|12=>212|13=>213|14=>214|15=>215|16=>216|17=>217|18=>218|30=>269|31=>270|32=>271|33=>272|34=>273|35=>274|40=>305|n=>n,fun|23=>124|25=>3|3=>3|32=>190|22=>124|0=>0|44=>219|46=>59|4=>4|36=>295|35=>294|41=>223|5=>5|9=>9|53=>342|57=>346|63=>376|64=>377|n=>n,fun|n=>n⟩
theorem Tryz.SO:Go.Proofs.SlLaysM.n5 prog Tryz.I3:=by
 constructor
 case f5=>exact⟨Tryz.f117.name,by decide,func117.trans (congrArg some (by kernel_rfl))⟩
 case f7=>exact⟨Tryz.f161.name,by decide,func161.trans (congrArg some (by kernel_rfl))⟩
 case f10=>exact⟨Tryz.f210.name,by decide,func210.trans (congrArg some (by kernel_rfl))⟩
 case f11=>exact⟨Tryz.f211.name,by decide,func211.trans (congrArg some (by kernel_rfl))⟩
 case f12=>exact⟨Tryz.f212.name,by decide,func212.trans (congrArg some (by kernel_rfl))⟩
 case f13=>exact⟨Tryz.f213.name,by decide,func213.trans (congrArg some (by kernel_rfl))⟩
 case f14=>exact⟨Tryz.f214.name,by decide,func214.trans (congrArg some (by kernel_rfl))⟩
 case f15=>exact⟨Tryz.f215.name,by decide,func215.trans (congrArg some (by kernel_rfl))⟩
 case f16=>exact⟨Tryz.f216.name,by decide,func216.trans (congrArg some (by kernel_rfl))⟩
 case f17=>exact⟨Tryz.f217.name,by decide,func217.trans (congrArg some (by kernel_rfl))⟩
 case f18=>exact⟨Tryz.f218.name,by decide,func218.trans (congrArg some (by kernel_rfl))⟩
 case f30=>exact⟨Tryz.f269.name,by decide,func269.trans (congrArg some (by kernel_rfl))⟩
 case f33=>exact⟨Tryz.f272.name,by decide,func272.trans (congrArg some (by kernel_rfl))⟩
 case f34=>exact⟨Tryz.f273.name,by decide,func273.trans (congrArg some (by kernel_rfl))⟩
 case f35=>exact⟨Tryz.f274.name,by decide,func274.trans (congrArg some (by kernel_rfl))⟩
 case f40=>exact⟨Tryz.f305.name,by decide,func305.trans (congrArg some (by kernel_rfl))⟩
 all_goals (intros;kernel_rfl)
theorem Tryz.T9(m:Nat):AnyZI.SortsIn prog Tryz.tX Fence.wide m:=
 ⟨fun aI off cap ss W hH hblk hsz=>callsIn_wide.2 (AnyM.slices_Sort_int Tryz.SO aI off cap ss W hH hblk hsz),
  fun p cap W=>callsIn_wide.2 (AnyM.slices_Sort_int_none Tryz.SO p cap W)⟩
namespace YtpbehfbomkochaaGreatDoor
open Go.Ev Go.WideElems
theorem Ua(mb:Option Nat)(W:World):Calls prog 61 #[.map mb] W fun e w'=>e= .returned (.func (.func 118) #[] #[.pointer (some ⟨W.heap.size,0,none⟩)])/\w'=W.alloc (.cells #[.map mb] 129):=
 (callsIn_wide (n:=5)).1 (AnyZI.keys_in Tryz.SN Fence.wide 5 trivial rfl mb W)
theorem tY:∀{a b:List Int},a.map (Value.int .i64)=b.map (Value.int .i64)->a=b
 | [],[],_=>rfl
 | [],_::_,h=>by simp at h
 |_::_,[],h=>by simp at h
 |x::a,y::b,h=>by simp only[List.map_cons,List.cons.injEq,Value.int.injEq,true_and] at h;rw[h.1,tY h.2]
theorem keys_eq(es:List MapEntry)(ks:List Int)(R:MapEntry->Lit×DataW Unit)(h2:es.map (fun x=>x.key)=ks.map (Value.int .i64))(h3:∀x∈es,Value.int .i64 (Go.intOf (R x).1)=x.key): (es.map R).map (fun p=>Go.intOf p.1)=ks:=by rw[List.map_map];refine tY ?_;rw[<-h2,List.map_map];exact List.map_congr_left h3
def pz(v:Value):Option (DataW Unit×List MemPlace):=some (.nil,[])
theorem Ub{k:Int}(h:-9223372036854775808<=k/\k<=9223372036854775807): (Lit.int .i64 k).wf=true:=by simp[Lit.wf,IntKind.min,IntKind.max,IntKind.signed,IntKind.bits];omega
theorem PM{w:World}{b:Nat}{l:List (Int×Value)}(h:dr w b l)(hr:∀p∈l,-9223372036854775808<=p.1/\p.1<=9223372036854775807)(hl:l.length<=maxLen)(hk:prog.underlying 3=some (.int .i64)):
  ∃D:DataW Unit,w.ownsMap prog 3 pz b l.length D/\(intKeys D).Perm (l.map (·.1))/\Maps.size D=l.length:=by
 obtain⟨es,clock,hb,hs,he⟩:=h;have hsz:es.size=l.length:=by have:=congrArg List.length he;simpa[Eo,Ep] using this
 have hkey:∀x∈es.toList,∃p∈l,x.key= .int .i64 p.1:=fun x hx=>by have: (x.key,x.val)∈Eo es:=List.mem_map.2 ⟨x,hx,rfl⟩;rw[he] at this;obtain⟨p,hp,hpe⟩:=List.mem_map.1 this;simp only[Prod.mk.injEq] at hpe;exact⟨p,hp,hpe.1.symm⟩
 have hrd:∀x∈es.toList,∃p∈l,x.key= .int .i64 p.1/\WideElems.rd prog 3 pz x=some (.int .i64 p.1,.nil):=fun x hx=>by obtain⟨p,hp,hpe⟩:=hkey x hx;refine⟨p,hp,hpe,?_⟩;unfold WideElems.rd;rw[hpe,Go.Maps.keyOf_int_mk hk (Ub (hr p hp))];rfl
 refine⟨_,⟨es,clock,hb,⟨by rw[hsz];exact hl,hs,fun x hx=>?_⟩,by rw[hsz];exact nL _,rfl⟩,?_,?_⟩
 ·obtain⟨p,hp,_,h2⟩:=hrd x hx;exact⟨_,h2⟩
 ·show(((es.toList.map (rg prog 3 pz)).foldr DataW.insert []).map fun p=>Go.intOf p.1).Perm _;refine((Go.WideShapes.sorted_perm _).map _).trans ?_;have h2:es.toList.map (fun x=>x.key)=(l.map (·.1)).map (Value.int .i64):=by have:=congrArg (List.map Prod.fst) he;simpa[Eo,Ep,Function.comp_def] using this
  have h3:∀x∈es.toList,Value.int .i64 (Go.intOf (rg prog 3 pz x).1)=x.key:=fun x hx=>by obtain⟨p,hp,hpe,h4⟩:=hrd x hx;unfold rg;rw[h4,hpe];rfl
  generalize rg prog 3 pz=R at h3 ⊢;have h1: (es.toList.map R).map (fun p=>Go.intOf p.1)=l.map (·.1):=keys_eq es.toList _ R h2 h3;rw[h1]
 ·show((es.toList.map (rg prog 3 pz)).foldr DataW.insert []).length=_;rw[(Go.WideShapes.sorted_perm _).length_eq,List.length_map,<-hsz,Array.length_toList]
theorem GZ:1000000<=maxLen:=Nat.le_of_ble_eq_true (by decide+kernel)
theorem LJ{w:World}{b:Nat}{l:List (Int×Value)}(h:dr w b l)(hr:∀p∈l,-9223372036854775808<=p.1/\p.1<=9223372036854775807)(hl:l.length<=1000000):
  Calls prog 60 #[.func (.func 118) #[] #[.pointer (some ⟨w.heap.size,0,none⟩)]] (w.alloc (.cells #[.map (some b)] 129)) fun e w'=>∃(v:Value) (ss:List Int),e= .returned v/\ss.Perm (l.map (·.1))/\
   w'.ownsRow (w.heap.size+1) 3 1 v ss.length ((ss.mergeSort (fun x y=>decide (x<=y))).map encZ)/\(v= .slice none 0 0↔ss= [])/\Below (w.heap.size+1) (w.alloc (.cells #[.map (some b)] 129)) w':=by
 obtain⟨D,hown,hkeys,hsize⟩:=PM h hr (nT hl GZ) (by kernel_rfl);refine(callsIn_wide (n:=5)).1 ?_;have hbl:=hown.lt;have hseq:SeqGives Fence.wide 2 prog 118 #[.pointer (some ⟨w.heap.size,0,none⟩)] encZ (fun ss=>ss.Perm (intKeys D)) (Maps.size D) (w.alloc (.cells #[.map (some b)] 129)):=
  AnyZI.keys_gives (ρ:=Tryz.yN) {Tryz.SN with} Fence.wide _ trivial rfl (by omega) w.heap.size b l.length D _ (by simp) (by simp) (by obtain⟨es,clock,hb,Ft,hs,hD⟩:=hown;exact⟨es,clock,(Below.heap_alloc _ _ b hbl).trans hb,Ft,hs,hD⟩)
 have cS:=AnyZI.sorted_in Tryz.PL Fence.wide 5 trivial trivial trivial trivial rfl (by omega) (Tryz.T9 _) (enters_of func117 (by kernel_rfl) rfl) 118 #[.pointer (some ⟨w.heap.size,0,none⟩)] trivial (enters_of func118 (by kernel_rfl) rfl) _ _ (by rw[hsize];exact nT hl GZ) (by rw[hsize];omega) _ hseq;refine cS.mono ?_;rintro e w' ⟨v,ss,he,hS,hrow,hnil,hb⟩;simp only[World.size_alloc] at hrow hb;exact⟨v,ss,he,hS.trans hkeys,hrow,hnil,hb⟩
end YtpbehfbomkochaaGreatDoor
end Go.Proofs
namespace Go.Ev
open RowKit Go.Sort
def G3(P:Program)(t:TypeId)(cs:Array Value)(off:Nat):Option Value:=
 match P.underlying t,iz P t with
 |some d,some n=>match d.isRow with
  |true=>match decide (off+n<=cs.size) with
   |true=>some (.agg (cs.extract off (off+n)))
   |false=>none
  |false=>cs[off]?
 |_,_=>none
theorem yO{P:Program}{t:TypeId}{cs:Array Value}{off:Nat}{v:Value}(h:G3 P t cs off=some v)(w:World): (part t cs off).run P w= .ok v w:=by
 unfold G3 at h;split at h
 ·rename_i d n hd hn;split at h
  ·rename_i hr;split at h
   ·cases h;simp only[part,Sem.run_bind,mz hd,Result.andThen_ok];rw[if_pos hr];simp only[Sem.run_bind,dw hn,Result.andThen_ok,Sem.run_pure]
   ·cases h
  ·rename_i hr;simp only[part,Sem.run_bind,mz hd,Result.andThen_ok];rw[if_neg (by simp[hr]),h];rfl
 ·cases h
def I4(P:Program)(eq:TypeId->Value->Value->Option Bool)(xs ys:Array Value):List Field->Option Bool
 | []=>some true
 |f::l=>match f.name== "_" with
  |true=>I4 P eq xs ys l
  |false=>match G3 P f.type xs f.offset,G3 P f.type ys f.offset with
   |some a,some b=>match eq f.type a b,I4 P eq xs ys l with
    |some p,some q=>some (p&&q)
    |_,_=>none
   |_,_=>none
def eqV(P:Program):Nat->TypeId->Value->Value->Option Bool
 |0,_,_,_=>none
 |d+1,t,x,y=>match P.underlying t,x,y with
  |some .bool,.bool a,.bool b=>some (a==b)
  |some (.int _),.int k a,.int k' b=>match decide (k=k') with
   |true=>some (a==b)
   |false=>none
  |some (.struct fs),.agg xs,.agg ys=>match P.stoodInHeld t with
   |true=>none
   |false=>I4 P (eqV P d) xs ys fs.toList
  |_,_,_=>none
theorem wj{P:Program}{E:TypeId->Value->Value->Sem Bool}{eq:TypeId->Value->Value->Option Bool}(h:∀t x y b,eq t x y=some b->∀w,(E t x y).run P w= .ok b w)(xs ys:Array Value):∀(l:List Field) (b:Bool),I4 P eq xs ys l=some b->∀w:World,
  (forIn l ((none,()):Option Bool×Unit) (fun f (__s:Option Bool×Unit)=>(if f.name≠ "_" then do
    let __do_lift <-part f.type xs f.offset
    let __do_lift_1 <-part f.type ys f.offset
    let __do_lift <-E f.type __do_lift __do_lift_1
    if (!__do_lift)=true then pure (ForInStep.done (some false,())) else pure (ForInStep.yield (none,()))
   else pure (ForInStep.yield (none,())):Sem (ForInStep (Option Bool×Unit))))).run P w= .ok (if b then(none,()) else(some false,())) w
 | [],b,h1,w=>by simp only[I4,oI] at h1;subst h1;rfl
 |f::l,b,h1,w=>by
  unfold I4 at h1;rw[List.forIn_cons];split at h1
  ·rename_i hn;have hn:f.name= "_":=by simpa using hn
   have ih:=wj h xs ys l b h1 w;simp only[hn,ne_eq,not_true_eq_false,if_false,Sem.run_bind,Sem.run_pure,Result.andThen_ok];exact ih
  ·rename_i hn;have hn:¬f.name= "_":=by simpa using hn
   split at h1
   ·rename_i a c h2 h3;split at h1
    ·rename_i p q h4 h5;simp only[oI] at h1;subst h1;have ih:=wj h xs ys l q h5 w;simp only[ne_eq,hn,not_false_eq_true,if_true,Sem.run_bind,yO h2,Result.andThen_ok,yO h3,h _ _ _ _ h4];cases p
     ·simp only[Bool.not_false,if_true,Sem.run_pure,Result.andThen_ok,Bool.false_and,Bool.false_eq_true,if_false]
     ·simp only[Bool.not_true,Bool.false_eq_true,if_false,Sem.run_pure,Result.andThen_ok,Bool.true_and];exact ih
    ·cases h1
   ·cases h1
theorem G4{P:Program}:∀(d k:Nat) (t:TypeId) (x y:Value) (b:Bool),eqV P d t x y=some b->∀w,(Op.equalIn (d+k) t x y).run P w= .ok b w
 |0,_,_,_,_,_,h,_=>by cases h
 |d+1,k,t,x,y,b,h,w=>by
  rw[show d+1+k=(d+k)+1 by omega];unfold eqV at h;split at h
  ·rename_i a c hu;cases h;simp[Op.equalIn,run_underlying hu]
  ·rename_i k1 k2 a k3 c hu;split at h
   ·rename_i e;have e:=of_decide_eq_true e;cases h;simp[Op.equalIn,run_underlying hu,e]
   ·cases h
  ·rename_i fs xs ys hu;split at h
   ·cases h
   ·rename_i hst;have ih:=wj (P:=P) (E:=Op.equalIn (d+k)) (fun t x y b h w=>G4 d k t x y b h w) xs ys fs.toList b h w;simp only[Op.equalIn,Sem.run_bind,run_underlying hu,Result.andThen_ok,run_program,hst,Bool.false_eq_true,if_false];rw[<-Array.forIn_toList];have ih':=ih;simp only[ne_eq] at ih' ⊢;rw[ih'];cases b <;> rfl
  ·cases h
def uy(P:Program)(t:TypeId)(xs ys:List Value):Option Bool:=
 match P.eqGuardType P.depth t with
 |true=>none
 |false=>eqV P 6 t (.agg xs.toArray) (.agg ys.toArray)
theorem nA{P:Program}(t:TypeId)(xs ys:List Value)(q:Bool)(h:uy P t xs ys=some q)(w:World)(x y:Operand):
  (eqGuard .eql t x y (.agg xs.toArray) (.agg ys.toArray)).run P w= .ok () w/\(Op.equal t (.agg xs.toArray) (.agg ys.toArray)).run P w= .ok q w:=by
 unfold uy at h;split at h
 ·cases h
 ·rename_i hg;exact⟨run_eqGuard_agg w .eql t x y _ _ hg,G4 6 9994 t _ _ q h w⟩
end Go.Ev
