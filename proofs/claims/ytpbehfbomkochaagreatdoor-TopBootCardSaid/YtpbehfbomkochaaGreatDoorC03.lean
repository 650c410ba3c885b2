/- A part of the proof. No condition. -/
import Derived.Test.YtpbehfbomkochaaGreatDoorC02
set_option maxRecDepth 100000
set_option maxHeartbeats 4000000
set_option linter.all false
namespace Go
section
variable {P:Program} {ops:Array Oper} {md:Region.Mode} {c:Nat} {A B:World->Prop}
def Oper.mN(P:Program)(C:World->Prop)(w:World)(v:Value):Result Next->Prop
 | .ok (.value u) w'=>C w'/\u=v
 | .ok .skip w'=>C w'/\v=undef
 | .ok (.enter f args) w'=>w'=w/\Calls P f args w (fun e w''=>e= .returned v/\C w'')
 |_=>False
def Fs(P:Program)(c:Nat)(A B:World->Prop)(i:Nat)(s:Sem Next)(v:Value):Prop:=
 if i=c then ∀w,A w->Oper.mN P B w v (s.run P w) else(∀w,A w->Oper.quietUpon P A w v (s.run P w))/\∀w,B w->Oper.quietUpon P B w v (s.run P w)
def qp(P:Program)(ops:Array Oper)(c:Nat)(A B:World->Prop)(i:Nat)(K:Act->Prop)(a:Act):Prop:=
 match ops[i]? with
 |none=>K a
 |some o=>if Region.wanted o (yielded ops a.tmps) then ∃v,Fs P c A B i (execOp a.eval o) v/\K (a.put o.dst v) else i≠c/\K (a.put o.dst undef)
theorem Jk{i:Nat}{a:Act}{K K':Act->Prop}(h:∀a,K a->K' a)(hh:qp P ops c A B i K a):qp P ops c A B i K' a:=by
 unfold qp at*;split
 ·exact h _ (by simpa[*] using hh)
 ·rename_i o ho;simp only[ho] at hh;split
  ·rename_i hw;simp only[hw,if_true] at hh;exact hh.imp fun v hv=>⟨hv.1,h _ hv.2⟩
  ·rename_i hw;simp only[hw] at hh;exact⟨hh.1,h _ hh.2⟩
def ik(P:Program)(ops:Array Oper)(c:Nat)(A B:World->Prop)(i:Nat)(o:Oper)(v:Value)(a:Act):Prop:=
 (Region.wanted o (yielded ops a.tmps)=true/\Fs P c A B i (execOp a.eval o) v)∨
 (Region.wanted o (yielded ops a.tmps)=false/\i≠c/\v=undef)
theorem ik.qOp{i:Nat}{o:Oper}{v:Value}{a:Act}(hi:ops[i]? =some o)(hy:ik P ops c A B i o v a){K:Act->Prop}(h:K (a.put o.dst v)):qp P ops c A B i K a:=by
 unfold qp;simp only[hi];rcases hy with⟨hw,hv⟩|⟨hw,hc,rfl⟩
 ·simp only[hw,if_true];exact⟨v,hv,h⟩
 ·simp only[hw,Bool.false_eq_true,if_false];exact⟨hc,h⟩
theorem ik.of_same{i:Nat}{o:Oper}{v:Value}{a a':Act}(hy:ik P ops c A B i o v a)(he:execOp a'.eval o=execOp a.eval o)
  (hw:Region.wanted o (yielded ops a'.tmps)=Region.wanted o (yielded ops a.tmps)):ik P ops c A B i o v a':=by
 unfold ik at*;rw[he,hw];exact hy
theorem wF{i:Nat}{o:Oper}{a:Act}{K:Act->Prop}(hi:ops[i]? =some o)(h:qp P ops c A B i K a):∃v,ik P ops c A B i o v a/\K (a.put o.dst v):=by
 unfold qp at h;simp only[hi] at h;by_cases hw:Region.wanted o (yielded ops a.tmps)=true
 ·simp only[hw,if_true] at h;obtain⟨v,h1,h2⟩:=h;exact⟨v,.inl ⟨hw,h1⟩,h2⟩
 ·simp only[hw] at h;exact⟨undef,.inr ⟨by simpa using hw,h.1,rfl⟩,h.2⟩
theorem Ms{i j:Nat}{oi oj:Oper}{v:Value}(hj:ops[j]? =some oj)(hap:oi.apart ops oj=true)
  (hsi:∀cs b,oi.op≠ .select cs b) (hsj:∀cs b,oj.op≠ .select cs b) {K:Act->Prop} {a:Act}
  (hy:ik P ops c A B i oi v a) (h:qp P ops c A B j K (a.put oi.dst v)):
  qp P ops c A B j (fun a'=>ik P ops c A B i oi v a'/\K (a'.put oi.dst v)) a:=by
 obtain⟨h1,h2,h3⟩:=Oper.apart_spec hap;have dK:∀(a:Act),ik P ops c A B i oi v a->∀u,ik P ops c A B i oi v (a.put oj.dst u):=fun a hy u=>
  hy.of_same (execOp_put oi hsi a oj.dst u h3) (wanted_put oi a oj.dst u h3)
 unfold qp at*;simp only[hj] at*;rw[wanted_put oj a oi.dst v h1] at h;split
 ·rename_i hw;simp only[hw,if_true] at h;obtain⟨u,hu,hn⟩:=h;refine⟨u,?_,dK a hy u,by rw[<-Act.put_comm a v u h2];exact hn⟩
  rwa [execOp_put oj hsj a oi.dst v h1] at hu
 ·rename_i hw;simp only[hw] at h;exact⟨h.1,dK a hy _,by rw[<-Act.put_comm a v undef h2];exact h.2⟩
def rn(P:Program)(md:Region.Mode)(ops:Array Oper)(c:Nat)(A B:World->Prop)(n:Nat)(L:Array Bool->Act->Prop):Nat->Array Bool->Act->Prop
 |0,listed,a=>L listed a
 |f+1,listed,a=>
  Region.ready md ops listed≠[]/\∀i∈Region.ready md ops listed,i<n/\qp P ops c A B i (rn P md ops c A B n L f (listed.setIfInBounds i true)) a
def La(c:Nat)(A B:World->Prop)(listed:Array Bool)(w:World):Prop:=if listed.getD c false=true then B w else A w
theorem AR{i:Nat}{a:Act}{K:Act->Prop}{K':Act->World->Prop}{Q':Exit->Act->World->Prop}{w:World}{listed:Array Bool}(hin:i<ops.size)(hsz:c<listed.size)(hun:listed.getD i true=false)(hC:La c A B listed w)(h:∀a w',La c A B (listed.setIfInBounds i true) w'->K a->K' a w')(hh:qp P ops c A B i K a):wpOp P ops Q' i K' a w:=by
 unfold qp at hh;unfold wpOp;split
 ·rename_i ho;exact absurd (Array.getElem?_eq_none_iff.1 ho) (by omega)
 ·rename_i o ho;simp only[ho] at hh;have same:i≠c->La c A B (listed.setIfInBounds i true) w:=fun hic=>by
   unfold La at hC ⊢
   rwa [getD_set_ne false hic]
  split
  ·rename_i hw;simp only[hw,if_true] at hh;obtain⟨v,h1,h2⟩:=hh;refine .inl ?_;unfold Fs at h1;by_cases hic:i=c
   ·subst hic;rw[if_pos rfl] at h1;have hA:A w:=by
     unfold La at hC
     rwa [if_neg (by rw[getD_both hun];simp)] at hC
    have hB:∀w',B w'->La i A B (listed.setIfInBounds i true) w':=fun w' hb=>by unfold La;rw[if_pos (by simp[Array.getD,hsz])];exact hb
    have h3:=h1 w hA;unfold Oper.wp;generalize (execOp a.eval o).run P w=r at*;cases r with
    |ok n w'=>
     cases n <;> simp only[Oper.mN] at h3 <;> simp only[Oper.upon]
     case value u=>
      obtain⟨e1,e2⟩:=h3;rw[e2];exact h _ _ (hB _ e1) h2
     case skip=>
      obtain⟨e1,e2⟩:=h3;rw[<-e2];exact h _ _ (hB _ e1) h2
     case enter f args=>
      obtain⟨e1,hc⟩:=h3;rw[e1];exact hc.mono fun e w'' ⟨he,hw''⟩=>by subst he;exact h _ _ (hB _ hw'') h2
    |halt x w'=>simp only[Oper.mN] at h3
   ·rw[if_neg hic] at h1;obtain⟨C,hCw,hCC,h3⟩:∃C:World->Prop,C w/\(∀w',C w'->La c A B (listed.setIfInBounds i true) w')/\Oper.quietUpon P C w v ((execOp a.eval o).run P w):=by
     unfold La at hC ⊢;rw[getD_set_ne false hic];by_cases hl:listed.getD c false=true
     ·rw[if_pos hl] at hC;exact⟨B,hC,fun w' hw'=>by rw[if_pos hl];exact hw',h1.2 w hC⟩
     ·rw[if_neg hl] at hC;exact⟨A,hC,fun w' hw'=>by rw[if_neg hl];exact hw',h1.1 w hC⟩
    unfold Oper.wp;generalize (execOp a.eval o).run P w=r at*;cases r with
    |ok n w'=>
     cases n <;> simp only[Oper.quietUpon] at h3 <;> simp only[Oper.upon]
     case value u=>
      obtain⟨e1,e2⟩:=h3;rw[e1,e2];exact h _ _ (same hic) h2
     case skip=>
      obtain⟨e1,e2⟩:=h3;rw[e1,<-e2];exact h _ _ (same hic) h2
     case enter f args=>
      obtain⟨e1,hc⟩:=h3;rw[e1];exact hc.mono fun e w'' ⟨he,hw''⟩=>by subst he;exact h _ _ (hCC _ hw'') h2
    |halt x w'=>simp only[Oper.quietUpon] at h3
  ·rename_i hw;simp only[hw] at hh;exact h _ _ (same hh.1) hh.2
theorem xR{n i:Nat}{oi:Oper}{v:Value}{L:Array Bool->Act->Prop}(hi:ops[i]? =some oi)(hsel:∀(j:Nat) (o:Oper) cs b,ops[j]? =some o->o.op≠ .select cs b)
  (hs:Region.sinkB md ops n=true) (hc:Region.chainB md ops n=true) (hn:n<ops.size) (hin:i<n)
  (hdone:∀listed a,L listed a->∀j∈Region.ready md ops listed,n<=j):
  ∀(f:Nat) (listed:Array Bool) (a:Act),HeadInv md ops n listed->
   (∀j oj,ops[j]? =some oj->j≠i->listed.getD j true=false->(∀e∈oj.after,Region.binds md e=true->e.on≠i)->oi.apart ops oj=true)->
   i∈Region.ready md ops listed->ik P ops c A B i oi v a->
   rn P md ops c A B n L f (listed.setIfInBounds i true) (a.put oi.dst v)->rn P md ops c A B n L (f+1) listed a:=by
 intro f;induction f with
 |zero=>
  intro listed a inv _ hr hy H;have hun:=(mem_ready.1 hr).1;refine⟨fun h=>(by rw[h] at hr;cases hr),fun j hj=>?_⟩;have hjn:j<n:=by
   rcases nO j n with h|h
   ·exact h
   ·exact absurd hj (tail_waits hs hc hn inv _ i rfl hin hun j h)
  refine⟨hjn,?_⟩;by_cases hji:j=i
  ·subst hji;exact hy.qOp hi H
  ·have:=hdone _ _ H j (ready_mono hj hji);omega
 |succ f ih=>
  intro listed a inv hfree hr hy H;have hun:=(mem_ready.1 hr).1;refine⟨fun h=>(by rw[h] at hr;cases hr),fun j hj=>?_⟩;have hjn:j<n:=by
   rcases nO j n with h|h
   ·exact h
   ·exact absurd hj (tail_waits hs hc hn inv _ i rfl hin hun j h)
  refine⟨hjn,?_⟩;by_cases hji:j=i
  ·subst hji;exact hy.qOp hi H
  ·have h1:=(H.2 j (ready_mono hj hji)).2;obtain⟨hjun,oj,hoj,hall⟩:=mem_ready.1 hj;have hnot:∀e∈oj.after,Region.binds md e=true->e.on≠i:=fun e he hb heq=>by have h1:=hall e he hb;rw[heq,getD_both hun] at h1;cases h1
   have h2:=Ms hoj (hfree j oj hoj hji hjun hnot) (fun cs b=>hsel i oi cs b hi) (fun cs b=>hsel j oj cs b hoj) hy h1;have hfree':∀k ok,ops[k]? =some ok->k≠i->(listed.setIfInBounds j true).getD k true=false->
     (∀e∈ok.after,Region.binds md e=true->e.on≠i)->oi.apart ops ok=true:=fun k ok hk hki hun hno=>by
    refine hfree k ok hk hki ?_ hno;by_cases hjk:j=k
    ·subst hjk;exact hjun
    ·rw[getD_set_ne true hjk] at hun;exact hun
   refine Jk (fun a' h3=>ih (listed.setIfInBounds j true) a' (inv.set hj hjn) hfree' (ready_mono hr (Ne.symm hji)) h3.1 ?_) h2;rw[Array.setIfInBounds_comm _ _ hji];exact h3.2
def ln(P:Program)(ops:Array Oper)(c:Nat)(A B:World->Prop)(Q:Act->Prop):Nat->List Oper->Act->Prop
 |_,[],a=>Q a
 |k,o::rest,a=>if Region.wanted o (yielded ops a.tmps) then ∃v,Fs P c A B k (execOp a.eval o) v/\ln P ops c A B Q (k+1) rest (a.put o.dst v) else k≠c/\ln P ops c A B Q (k+1) rest (a.put o.dst undef)
theorem ud{n g:Nat}{Lq:Act->Prop}(hsel:Region.noSelect ops=true)(hs:Region.sinkB md ops n=true)(hc:Region.chainB md ops n=true)(hn:n<ops.size):
  ∀(l:List Oper) (k:Nat) (listed:Array Bool) (a:Act),(∀j,j<l.length->l[j]? =ops[k+j]?)->k+l.length=n->HeadInv md ops n listed->
  Region.lexHead md ops g l.length k listed=true->ln P ops c A B Lq k l a->
  rn P md ops c A B n (fun listed' a'=>Region.seqB md ops g n listed'=true/\Lq a') l.length listed a
 | [],k,listed,a,_,hk,inv,hB,h=>by
  have:k=n:=by simpa using hk
  subst this;exact⟨by simpa[Region.lexHead] using hB,h⟩
 |o::l,k,listed,a,hl,hk,inv,hB,h=>by
  have h0:ops[k]? =some o:=by simpa using(hl 0 (by simp)).symm
  simp only[List.length_cons,Region.lexHead,bI] at hB;obtain⟨⟨hr,hf⟩,hB'⟩:=hB;have hkn:k<n:=by simp only[List.length_cons] at hk;omega
  have hr':k∈Region.ready md ops listed:=by simpa using hr
  have hst:qp P ops c A B k (ln P ops c A B Lq (k+1) l) a:=by unfold qp;simp only[h0];exact h
  obtain⟨v,hy,hK⟩:=wF h0 hst;exact xR h0 (Region.noSelect_spec hsel) hs hc hn hkn (fun listed' a' hL=>seqB_ready hL.1) l.length listed a inv (Region.free_spec h0 hf) hr' hy
   (ud hsel hs hc hn l (k+1) _ _ (fun j hj=>by have:=hl (j+1) (by simp;omega);simpa[Nat.add_assoc,Nat.add_comm 1 j] using this) (by simp only[List.length_cons] at hk;omega) (inv.set hr' hkn) hB' hK)
theorem oG{n g:Nat}{L:Array Bool->Act->Prop}{Q':Exit->Act->World->Prop}(hcn:c<n)(hs:Region.sinkB md ops n=true)(hc:Region.chainB md ops n=true)(hn:n<ops.size)
  (hL:∀listed a w,B w->L listed a->wpAny P md ops Q' g listed a w) (hready:∀listed a,L listed a->n∈Region.ready md ops listed):
  ∀(f:Nat) (listed:Array Bool) (a:Act) (w:World),HeadInv md ops n listed->La c A B listed w->rn P md ops c A B n L f listed a->wpAny P md ops Q' (f+g) listed a w
 |0,listed,a,w,inv,hw,h=>by
  rw[Nat.zero_add];refine hL _ _ _ ?_ h;cases hl:listed.getD c false with
  |true=>unfold La at hw;rwa [if_pos hl] at hw
  |false=>
   have hsz:c<listed.size:=by rw[inv.size];omega
   exact absurd (hready _ _ h) (tail_waits hs hc hn inv _ c rfl hcn (getD_in hsz hl) n (nL _))
 |f+1,listed,a,w,inv,hw,h=>by rw[show f+1+g=(f+g)+1 by omega];refine⟨fun h0=>absurd h0 h.1,fun i hi=>?_⟩;have hin:=(h.2 i hi).1;refine AR (listed:=listed) (by omega) (by rw[inv.size];omega) (mem_ready.1 hi).1 hw (fun a' w' hw' h'=>?_) (h.2 i hi).2;exact oG hcn hs hc hn hL hready f _ a' w' (inv.set hi hin) hw' h'
theorem afm{id:Nat}{Q:Exit->Act->World->Prop}{a:Act}{w:World}{l:List Oper}(c n:Nat)(A B:World->Prop)(hm:P.follows .mixedOrders=true)(hcn:c<n)(hB:Region.lexTailB .any l.toArray n=true)
  (hA:A {w with drawn:=w.drawn+1}) (h:ln P l.toArray c A B (fun a'=>∀w',B w'->wpList P l.toArray Q (l.drop n) a' w') 0 (l.take n) a): (Code.region id l.toArray true).wp P Q a w:=by
 simp only[Region.lexTailB,bI,decide_eq_true_eq] at hB;obtain⟨⟨⟨⟨hsel,hn⟩,hs⟩,hc⟩,hlex⟩:=hB;have hn':n<l.length:=by simpa using hn
 have htl: (l.take n).length=n:=by simp;omega
 have hdl: (l.drop n).length=l.toArray.size-n:=by simp
 have inv0:HeadInv .any l.toArray n (Array.replicate l.toArray.size false):=
  ⟨by simp,fun j oj _ hl=>(by rw[getD_replicate_false] at hl;cases hl),fun t _ ht=>getD_in (by simpa using ht) (getD_replicate_false _ _)⟩
 have H:=ud (md:= .any) (c:=c) (A:=A) (B:=B) (g:=l.toArray.size-n) hsel hs hc hn (l.take n) 0 _ a (fun j hj=>by
  have hj':j<n:=by rw[htl] at hj;exact hj
  simp[hj']) (by simpa using htl) inv0 (by rw[htl];exact hlex) h
 refine wp_region_any hm ?_;have:=oG (Q':=Q) (g:=l.toArray.size-n) hcn hs hc hn (fun listed a' w' hw' hL=>by
  have:=wpAny_of_seq (md:= .any) (Q':=Q) (l.drop n) n listed a' w' (fun j=>by simp[List.getElem?_drop]) (by rw[hdl];exact hL.1) (hL.2 w' hw')
  rwa [hdl] at this) (fun listed a' hL=>by have h1:=hL.1;obtain⟨g,hg⟩:∃g,l.toArray.size-n=g+1:=⟨l.toArray.size-n-1,by omega⟩;rw[hg] at h1;simp only[Region.seqB,bI,decide_eq_true_eq] at h1;rw[h1.1];simp) _ _ _ _ inv0 (by unfold La;rw[if_neg (by rw[getD_replicate_false];simp)];exact hA) H
 rw[htl,show n+(l.toArray.size-n)=l.toArray.size by omega] at this;exact this
theorem Oper.p6{w:World}{v:Value}{r:Result Next}{C:World->Prop}(h:Oper.quietUpon P (fun w'=>w'=w) w v r)(hC:C w):Oper.quietUpon P C w v r:=by
 cases r with
 |ok n w'=>
  cases n <;> simp only[Oper.quietUpon] at h ⊢<;> try exact h
  exact⟨h.1,h.2.mono fun e w'' ⟨he,hw⟩=>⟨he,by rw[hw];exact hC⟩⟩
 |halt x w'=>exact h
theorem Fu{Q:Act->Prop}{a:Act}{o:Oper}{rest:List Oper}{k:Nat}(hk:k≠c)
  (h:∀K:Act->Prop,(∀a,ln P ops c A B Q (k+1) rest a->K a)->if Region.wanted o (yielded ops a.tmps) then(∃v,(∀w,Oper.quietUpon P (fun w'=>w'=w) w v ((execOp a.eval o).run P w))/\K (a.put o.dst v)) else K (a.put o.dst undef)):ln P ops c A B Q k (o::rest) a:=by
 have h:=h _ (fun _ h=>h);unfold ln;split
 ·rename_i hw;rw[if_pos hw] at h;obtain⟨v,h1,h2⟩:=h;refine⟨v,?_,h2⟩;unfold Fs;rw[if_neg hk];exact⟨fun w hw=>Oper.p6 (h1 w) hw,fun w hw=>Oper.p6 (h1 w) hw⟩
 ·rename_i hw;rw[if_neg hw] at h;exact⟨hk,h⟩
theorem CM{Q:Act->Prop}{a:Act}{o:Oper}{rest:List Oper}{k:Nat}(hk:k≠c)
  (h:∀K:Act->Prop,(∀a,ln P ops c A B Q (k+1) rest a->K a)->if Region.wanted o (yielded ops a.tmps) then(∃v,((∀w,A w->Oper.quietUpon P A w v ((execOp a.eval o).run P w))/\∀w,B w->Oper.quietUpon P B w v ((execOp a.eval o).run P w))/\K (a.put o.dst v)) else K (a.put o.dst undef)):ln P ops c A B Q k (o::rest) a:=by
 have h:=h _ (fun _ h=>h);unfold ln;split
 ·rename_i hw;rw[if_pos hw] at h;obtain⟨v,h1,h2⟩:=h;refine⟨v,?_,h2⟩;unfold Fs;rw[if_neg hk];exact h1
 ·rename_i hw;rw[if_neg hw] at h;exact⟨hk,h⟩
theorem yY{Q:Act->Prop}{a:Act}{o:Oper}{rest:List Oper}(hw:Region.wanted o (yielded ops a.tmps)=true)
  (h:∀K:Act->Prop,(∀a,ln P ops c A B Q (c+1) rest a->K a)->∃v,(∀w,A w->Oper.mN P B w v ((execOp a.eval o).run P w))/\K (a.put o.dst v)):ln P ops c A B Q c (o::rest) a:=by
 obtain⟨v,h1,h2⟩:=h _ (fun _ h=>h);unfold ln;rw[if_pos hw];refine⟨v,?_,h2⟩;unfold Fs;rw[if_pos rfl];exact h1
theorem yZ{Q:Act->Prop}{a:Act}{k:Nat}(h:Q a):ln P ops c A B Q k [] a:=h
end
attribute [go_sem] Oper.mN
end Go
namespace Go.Proofs.Yq
open ChangeShapes WideShapes ChangeAt RowKit
open Tryz
attribute [go_sem] dD fI
theorem oH{w:World}{g:Nat}{cs:Array Value}(h:w.aI g=some (bP 0))(hs:cs.size=16): (w.setCells g 0 cs.toList).aI g=some cs:=by rw[bp g cs.toList 0 w _ h (by simp[aQ,hs])];rw[Array.toArray_toList,fT (by rw[hs,aQ])]
theorem setCell_grow(w:World)(d:Nat)(os:Array Obj)(g k:Nat)(v:Value)(h:g<w.heap.size): (Sort.grow (redrawn w d) os).setCell ⟨g,k,none⟩ v=Sort.grow (redrawn (w.setCell ⟨g,k,none⟩ v) d) os:=by
 simp only[Sort.grow,redrawn,World.setCell];congr 1;apply Array.ext_getElem?;intro i;rw[Array.getElem?_modify,Array.getElem?_append,Array.getElem?_append,Array.getElem?_modify,Array.size_modify];by_cases hi:i<w.heap.size
 ·rw[if_pos hi,if_pos hi]
 ·rw[if_neg hi,if_neg hi,if_neg (by omega)]
theorem Jl{x:Nat}(h:x<BB): (#[.int .u64 (x:Nat),.int .u64 0,.int .u64 0,.int .u64 0,.int .u64 0,.int .u64 0,.int .u64 0,.int .u64 0,.int .u64 0,.int .u64 0,.int .u64 0,.int .u64 0,.int .u64 0,.int .u64 0,.int .u64 0,.int .u64 0]:Array Value)=bP x:=by
 refine uL rfl fun i hi=>?_;cases i with
 |zero=>show some (Value.int .u64 (x:Nat))=some (Value.int .u64 (lim x 0:Nat));rw[show lim x 0=x by unfold lim;rw[Nat.pow_zero,Nat.div_one,nM h]]
 |succ i=>
  rw[show lim x (i+1)=0 from j4 (k:=1) (by rw[Nat.pow_one];exact h) (by omega)]
  match i,hi with
  |0,_=>rfl
  |1,_=>rfl
  |2,_=>rfl
  |3,_=>rfl
  |4,_=>rfl
  |5,_=>rfl
  |6,_=>rfl
  |7,_=>rfl
  |8,_=>rfl
  |9,_=>rfl
  |10,_=>rfl
  |11,_=>rfl
  |12,_=>rfl
  |13,_=>rfl
  |14,_=>rfl
  |i+15,h9=>omega
def S6(a b:Nat)(w:World):World:=(((((w.alloc (.cells (bP a) 198)).alloc (.cells (bP b) 198)).alloc (.cells (bP 0) 198)).alloc (.cells (bP 0) 198)).alloc (.cells (bP 0) 198)).alloc (.cells (bP 0) 198)
structure Et (a b:Nat) (w0 w:World) (Q:Nat):Prop where
 below:Below w0.heap.size w0 w
 ba:w.aI w0.heap.size=some (bP a)
 bb:w.aI (w0.heap.size+1)=some (bP b)
 rq:w.aI (w0.heap.size+1+1)=some (bP 0)
 rr:w.aI (w0.heap.size+1+1+1)=some (bP 0)
 q:w.aI (w0.heap.size+1+1+1+1)=some (bP Q)
 r:w.aI (w0.heap.size+1+1+1+1+1)=some (bP 0)
 size:w0.heap.size+6<=w.heap.size
theorem Fv(a b:Nat)(w:World):Et a b w (S6 a b w) 0:=by
 unfold S6;refine⟨?_,?_,?_,?_,?_,?_,?_,?_⟩
 ·exact((((((bZ _ w).alloc (nL _) _).alloc (by simp) _).alloc (by simp;omega) _).alloc (by simp;omega) _).alloc (by simp;omega) _).alloc (by simp;omega) _
 all_goals simp[af,aq,go_sem]
theorem Et.drewN{a b:Nat}{w0 w:World}{Q:Nat}(h:Et a b w0 w Q)(n:Nat):Et a b w0 (w.drewN n) Q:=
 ⟨below_drewN h.below n,h.ba,h.bb,h.rq,h.rr,h.q,h.r,h.size⟩
theorem Et.more{a b:Nat}{w0 w w':World}{Q:Nat}(h:Et a b w0 w Q)(hb:Below w.heap.size w w'):Et a b w0 w' Q:=by have hs:=h.size;exact⟨h.below.trans (hb.mono (by omega)),(ah hb (by omega)).trans h.ba,(ah hb (by omega)).trans h.bb,(ah hb (by omega)).trans h.rq,(ah hb (by omega)).trans h.rr,(ah hb (by omega)).trans h.q,(ah hb (by omega)).trans h.r,nT hs hb.size⟩
theorem Et.sa{a b:Nat}{w0 w:World}{Q:Nat}(h:Et a b w0 w Q)(ha:a<BB^16):fG w w0.heap.size 0 a:=dp h.ba ha
theorem Et.sb{a b:Nat}{w0 w:World}{Q:Nat}(h:Et a b w0 w Q)(hb:b<BB^16):fG w (w0.heap.size+1) 0 b:=dp h.bb hb
theorem Et.ret{a b:Nat}{w0 w:World}{Q:Nat}(h:Et a b w0 w Q){x y:Nat}:
  ((w.setCells (w0.heap.size+1+1) 0 (bP x).toList).setCells (w0.heap.size+1+1+1) 0 (bP y).toList).aI (w0.heap.size+1+1)=some (bP x)/\((w.setCells (w0.heap.size+1+1) 0 (bP x).toList).setCells (w0.heap.size+1+1+1) 0 (bP y).toList).aI (w0.heap.size+1+1+1)=some (bP y)/\
  Below w0.heap.size w0 ((w.setCells (w0.heap.size+1+1) 0 (bP x).toList).setCells (w0.heap.size+1+1+1) 0 (bP y).toList):=by
 refine⟨?_,?_,aa (aa h.below (by omega) _ _) (by omega) _ _⟩
 ·rw[ay _ _ _ _ _ (by omega)];exact oH h.rq (aQ _)
 ·exact oH ((ay _ _ _ _ _ (by omega)).trans h.rr) (aQ _)
theorem Jm(a b:Nat)(w:World)(ha:a<BB^16)(hb:b<BB^16)(hlt:a<b):Calls prog 240 #[.agg (bP a),.agg (bP b)] w fun e w'=>e= .returned (.tuple #[.agg (bP 0),.agg (bP a)])/\Below w.heap.size w w':=by
 have S:=qD (Fv a b w);have HA:=qD (lS _ 0 a _ 0 b (S6 a b w) (S.o.sa ha) (S.o.sb hb));rw[AO hlt] at HA;have k1:=S.o.ba;have k5:=S.o.q;have k3:=S.o.rq;have k4:=S.o.rr;go_enter func240,ntmps240;go_wp2_with (go_at_call 289;refine(HA.o).mono ?_;rintro e w1 ⟨rfl,n,rfl⟩)
 go_region
 all_goals go_wp2_with fail
 obtain⟨r1,r2,r3⟩:=(S.o.drewN (n+1)).ret (x:=0) (y:=a);exact bodyPost_ret (rV (fn:=Tryz.f240) rfl rfl (oE r1 (aQ _)) rfl (oE r2 (aQ _))) rfl ⟨rfl,r3⟩
structure xS (a b:Nat) (w0 w:World) (f:Nat->Nat):Prop where
 below:Below w0.heap.size w0 w
 ba:w.aI w0.heap.size=some (bP a)
 bb:w.aI (w0.heap.size+1)=some (bP b)
 rq:w.aI (w0.heap.size+1+1)=some (bP 0)
 rr:w.aI (w0.heap.size+1+1+1)=some (bP 0)
 q:Part w (w0.heap.size+1+1+1+1) f
 r:w.aI (w0.heap.size+1+1+1+1+1)=some (bP 0)
 size:w0.heap.size+6<=w.heap.size
theorem Part.more{w w':World}{g:Nat}{f:Nat->Nat}(h:Part w g f)(e:w'.aI g=w.aI g):Part w' g f:=by obtain⟨cs,h1,h2⟩:=h;exact⟨cs,e.trans h1,h2⟩
theorem xS.start{a b:Nat}{w0 w:World}(h:Et a b w0 w 0):xS a b w0 w (fun _=>0):=⟨h.below,h.ba,h.bb,h.rq,h.rr,Part.zero h.q,h.r,h.size⟩
theorem xS.more{a b:Nat}{w0 w w':World}{f:Nat->Nat}(h:xS a b w0 w f)(hb:Below w.heap.size w w'):xS a b w0 w' f:=by have hs:=h.size;exact⟨h.below.trans (hb.mono (by omega)),(ah hb (by omega)).trans h.ba,(ah hb (by omega)).trans h.bb,(ah hb (by omega)).trans h.rq,(ah hb (by omega)).trans h.rr,h.q.more (ah hb (by omega)),(ah hb (by omega)).trans h.r,nT hs hb.size⟩
theorem xS.Yj{a b:Nat}{w0 w:World}{f:Nat->Nat}(h:xS a b w0 w f){g k:Nat}{v:Value}(hg:w0.heap.size+6<=g):xS a b w0 (w.setCell ⟨g,k,none⟩ v) f:=
 ⟨h.below.setCell (by show _<=g;omega) _,cH h.ba (by omega),cH h.bb (by omega),cH h.rq (by omega),cH h.rr (by omega),h.q.more (by rw[bw,if_neg (by omega)]),cH h.r (by omega),by simpa[World.setCell] using h.size⟩
theorem xS.store{a b:Nat}{w0 w:World}{f:Nat->Nat}(h:xS a b w0 w f){k:Nat}(hk:k<16)(x:Nat):xS a b w0 (w.setCell ⟨w0.heap.size+1+1+1+1,k,none⟩ (.int .u64 (x:Nat))) (fun i=>if i=k then x else f i):=
 ⟨h.below.setCell (by simp;omega) _,cH h.ba (by omega),cH h.bb (by omega),cH h.rq (by omega),cH h.rr (by omega),h.q.set hk x,cH h.r (by omega),by simpa[World.setCell] using h.size⟩
theorem xS.congr{a b:Nat}{w0 w:World}{f f':Nat->Nat}(h:xS a b w0 w f)(e:∀i,i<16->f i=f' i):xS a b w0 w f':=⟨h.below,h.ba,h.bb,h.rq,h.rr,h.q.congr e,h.r,h.size⟩
theorem xS.S6{a b Q:Nat}{w0 w:World}{f:Nat->Nat}(h:xS a b w0 w f)(e:∀i,i<16->f i=lim Q i):Et a b w0 w Q:=⟨h.below,h.ba,h.bb,h.rq,h.rr,h.q.done e,h.r,h.size⟩
theorem Fw(a b:Nat)(w:World)(ha:a<BB^16)(hb:b<BB)(h0:0<b)(hle:b<=a):Calls prog 240 #[.agg (bP a),.agg (bP b)] w fun e w'=>e= .returned (.tuple #[.agg (bP (a/b)),.agg (bP (a%b))])/\Below w.heap.size w w':=by
 have hb16:b<BB^16:=nU hb (by rw[<-Nat.pow_one BB];exact Nat.pow_le_pow_right dx (by omega));have S:=qD (Fv a b w);have HA:=qD (lS _ 0 a _ 0 b (S6 a b w) (S.o.sa ha) (S.o.sb hb16));have hc:=uM hle;generalize pT a b=c at*;obtain⟨m,hm⟩:∃m,ku a 16=m:=⟨_,rfl⟩;have hml:m<=16:=by rw[<-hm];exact sF _ _
 have HM:Hid (a<BB^m):=by rw[<-hm];exact eT 16 ha
 have hl0:Hid (lim b 0=b):=by unfold lim;unfold Hid;rw[Nat.pow_zero,Nat.div_one,nM hb]
 have hn:ku b 16=1:=by
  have h1:=Qs hb16 h0;rcases nO 1 (ku b 16) with h2|h2
  ·have h3:=pA (afo b 16 h1);have h4:BB^1<=BB^(ku b 16-1):=Nat.pow_le_pow_right dx (by omega);rw[Nat.pow_one] at h4;omega
  ·omega
 have HP1:Hid (∀(w:World) g (h:fG w g 0 a),Calls prog 244 #[.pointer (some ⟨g,0,none⟩)] w fun e w'=>e= .returned (.int .i64 (m:Nat))/\w=w'):=fun w g h=>by have:=iB g 0 a w h;rwa [hm] at this
 have HP2:Hid (∀(w:World) g (h:fG w g 0 b),Calls prog 244 #[.pointer (some ⟨g,0,none⟩)] w fun e w'=>e= .returned (.int .i64 1)/\w=w'):=fun w g h=>by have:=iB g 0 b w h;rwa [hn] at this
 have HQ:Hid (∀k,(a/BB^(k+1)%b*BB+lim a k)/b=lim (a/b) k/\(a/BB^(k+1)%b*BB+lim a k)%b=a/BB^k%b):=fun k=>yX a b k h0;have HLT:Hid (∀k,a/BB^k%b<b):=fun k=>Nat.mod_lt _ h0;have HB:=qD hb;have HA16:=qD ha;have HB16:=qD hb16;clear hm hn hb ha hb16 hle h0;go_enter func240,ntmps240;go_wp2_with (go_at_call 289;refine(HA.o).mono ?_;rintro e w1 ⟨rfl,n,rfl⟩);refine(HP1.o _ _ ((S.o.drewN n).sa HA16.o)).mono ?_;rintro e w1 ⟨rfl,rfl⟩;go_wp2_with fail;refine(HP2.o _ _ ((S.o.drewN n).sb HB16.o)).mono ?_;rintro e w1 ⟨rfl,rfl⟩;go_wp2_with fail
 go_loopw [10,11] (fun left i wr=>∃k x:Nat,k<=m/\i= .int .i64 ((k:Int)-1)/\left= .int .u64 (x:Nat)/\Hid (x=a/BB^k%b)/\xS a b w wr (fun p=>if k<=p then lim (a/b) p else 0)) (fun _ i _=>(intOf i+1).toNat)
 case atStart=>
  refine⟨m,0,by omega,rfl,rfl,by unfold Hid;rw[Nat.div_eq_of_lt HM.o,Nat.zero_mod],(xS.start (S.o.drewN n)).congr fun p hp=>?_⟩;split
  ·rw[j4 (Nat.lt_of_le_of_lt (Nat.div_le_self _ _) HM.o) (by assumption)]
  ·rfl
 case round=>
  obtain⟨k,x,hk,rfl,rfl,hx,hmid⟩:=hrel;have HMID:=qD hmid;by_cases hk0:0<k
  ·obtain⟨j,rfl⟩:∃j,k=j+1:=⟨k-1,by omega⟩;rw[show(((j+1:Nat):Int)-1)=(j:Int) by omega];have hc1:wr.cell? ⟨w.heap.size,j,none⟩=some (.int .u64 (lim a j:Nat)):=by rw[ao hmid.ba,fx a j (by omega)]
   have hc2:wr.cell? ⟨w.heap.size+1,0,none⟩=some (.int .u64 (b:Nat)):=by rw[ao hmid.bb,fx b 0 (by omega),hl0.o]
   have l0:w.heap.size<wr.heap.size:=by have:=hmid.size;omega
   have l1:w.heap.size+1<wr.heap.size:=by have:=hmid.size;omega
   have i1: (0:Int)<=(j:Int):=by omega
   have i2: (j:Int)<16:=by omega
   obtain⟨y,hy⟩:∃y,y=a/BB^j%b:=⟨_,rfl⟩;obtain⟨z,hz⟩:∃z,z=lim (a/b) j:=⟨_,rfl⟩;have HX:Hid (∀w,Calls prog 290 #[.int .u64 (x:Nat),.int .u64 (lim a j:Nat),.int .u64 (b:Nat)] w fun e w'=>e= .returned (.tuple #[.int .u64 (z:Nat),.int .u64 (y:Nat)])/\Below w.heap.size w w'):=fun w=>by have h1:=yW x (lim a j) b w (cD _ _) HB.o (by rw[hx.o];exact HLT.o _);rw[hx.o,(HQ.o j).1,(HQ.o j).2,<-hx.o,<-hy,<-hz] at h1;exact h1.mono fun e w' ⟨h2,n,h3⟩=>⟨h2,by rw[h3];exact below_drewN (bZ _ _) n⟩
   have HY:=qD hy;have HZ:=qD hz;have hd:wr.cell? ⟨w.heap.size+1+1+1+1,j,none⟩=some (.int .u64 0):=by
    have:=HMID.o.q.cell (show j<16 by omega)
    rwa [if_neg (by omega)] at this
   have hf:=HMID.o.q.frozen j;have l4:w.heap.size+1+1+1+1<wr.heap.size:=by have:=HMID.o.size;omega
   clear hmid hy hz HA HP1 HP2;go_wp2_with fail;refine afm 12 13 (fun w'=>∃p:Regrown,w'=Sort.grow (redrawn wr p.d) p.os) (fun w'=>∃p:Regrown,w'=Sort.grow (redrawn (wr.setCell ⟨w.heap.size+1+1+1+1,j,none⟩ (.int .u64 (z:Nat))) p.d) p.os) (by kernel_rfl) (by decide) (by kernel_rfl) ⟨⟨wr.drawn+1,#[]⟩,by rw[Sort.grow_empty];rfl⟩ ?_;simp only[tA,tD,tC,tE]
   repeat
    refine CM (by decide) (fun K hK=>?_);go_simp
    first
     |(refine hK _ ?_;clear hK K)
     |(refine⟨_,⟨fun p=>Calls.regrown_of (HX.o _),fun p=>Calls.regrown_of (HX.o _)⟩,hK _ ?_⟩;clear hK K)
   refine yY rfl (fun K hK=>?_);go_simp;refine⟨⟨undef,fun p=>⟨⟨p,setCell_grow wr p.d p.os _ j _ l4⟩,rfl⟩⟩,hK _ ?_⟩;clear hK K;refine yZ ?_;rintro w1 ⟨p,rfl⟩;have M1:Hid (xS a b w (Sort.grow (redrawn (wr.setCell ⟨w.heap.size+1+1+1+1,j,none⟩ (.int .u64 (z:Nat))) p.d) p.os) (fun q=>if j<=q then lim (a/b) q else 0)):=by
    refine((HMID.o.store (show j<16 by omega) z).more (below_regrown _ _ _)).congr fun q hq=>?_;by_cases hpj:q=j
    ·subst hpj;rw[if_pos rfl,if_pos (by omega),HZ.o]
    ·rw[if_neg hpj];by_cases h9:j+1<=q
     ·rw[if_pos h9,if_pos (by omega)]
     ·rw[if_neg h9,if_neg (by omega)]
   obtain⟨w1,hw1⟩:∃w1,w1=Sort.grow (redrawn (wr.setCell ⟨w.heap.size+1+1+1+1,j,none⟩ (.int .u64 (z:Nat))) p.d) p.os:=⟨_,rfl⟩;rw[<-hw1] at M1 ⊢;clear hw1;go_wp2_with fail;go_roundw
   case rel=>exact⟨j,y,by omega,by go_num,rfl,HY.o,M1.o⟩
   case measure=>simp[intOf]
  ·have hk1:k=0:=by omega
   subst hk1;have S2:Hid (Et a b w wr (a/b)):=hmid.S6 fun i hi=>by rw[if_pos (by omega)]
   have k5:=S2.o.q;have k3:=S2.o.rq;have k4:=S2.o.rr;have HX:Hid (x=a%b):=by unfold Hid;rw[hx.o,Nat.pow_zero,Nat.div_one]
   have hsm:pZ (x:Int)=bP x:=Jl (by rw[HX.o,<-nM (Nat.mod_lt a (show 0<b by have:=HLT.o 0;omega))];exact Nat.lt_trans (Nat.mod_lt _ (by have:=HLT.o 0;omega)) HB.o);clear hmid HMID hx HA HP1 HP2;go_wp2_with fail;rw[HX.o];obtain⟨r1,r2,r3⟩:=S2.o.ret (x:=a/b) (y:=a%b);exact bodyPost_ret (rV (fn:=Tryz.f240) rfl rfl (oE r1 (aQ _)) rfl (oE r2 (aQ _))) rfl ⟨rfl,r3⟩
attribute [go_sem] dD fI
structure mi (a b V:Nat) (w0 w:World) (vb:Nat) (f g:Nat->Nat):Prop where
 uP:xS a b w0 w f
 bv:w.aI vb=some (bP V)
 u:dI 17 w (vb+1) g
 ge:w0.heap.size+6<=vb
 size:vb+2<=w.heap.size
theorem mi.more{a b V vb:Nat}{w0 w w':World}{f g:Nat->Nat}(h:mi a b V w0 w vb f g)(hb:Below w.heap.size w w'):mi a b V w0 w' vb f g:=by have hs:=h.size;exact⟨h.uP.more hb,(ah hb (by omega)).trans h.bv,h.u.below hb (by omega),h.ge,nT hs hb.size⟩
theorem mi.congr{a b V vb:Nat}{w0 w:World}{f f' g g':Nat->Nat}(h:mi a b V w0 w vb f g)(e:∀i,i<16->f i=f' i)(e':∀i,i<17->g i=g' i):mi a b V w0 w vb f' g':=
 ⟨h.uP.congr e,h.bv,h.u.congr e',h.ge,h.size⟩
theorem mi.store{a b V vb:Nat}{w0 w:World}{f g:Nat->Nat}(h:mi a b V w0 w vb f g){k:Nat}(hk:k<17)(x:Nat):mi a b V w0 (w.setCell ⟨vb+1,k,none⟩ (.int .u64 (x:Nat))) vb f (fun i=>if i=k then x else g i):=by have hg:=h.ge;exact⟨h.uP.Yj (by omega),cH h.bv (by omega),h.u.set hk x,h.ge,by simpa[World.setCell] using h.size⟩
theorem mi.UE{a b V vb:Nat}{w0 w:World}{f g:Nat->Nat}(h:mi a b V w0 w vb f g){k:Nat}(hk:k<16)(x:Nat):mi a b V w0 (w.setCell ⟨w0.heap.size+1+1+1+1,k,none⟩ (.int .u64 (x:Nat))) vb (fun i=>if i=k then x else f i) g:=by have hg:=h.ge;exact⟨h.uP.store hk x,cH h.bv (by omega),h.u.Yj (by omega),h.ge,by simpa[World.setCell] using h.size⟩
theorem mi.step{a b V vb:Nat}{w0 w w':World}{f g g':Nat->Nat}(h:mi a b V w0 w vb f g)(hb:Below (vb+1) w w')(hp:dI 17 w' (vb+1) g')(hs:w'.heap.size=w.heap.size):mi a b V w0 w' vb f g':=by
 have hg:=h.ge;exact⟨⟨h.uP.below.trans (hb.mono (by omega)),(ah hb (by omega)).trans h.uP.ba,(ah hb (by omega)).trans h.uP.bb,(ah hb (by omega)).trans h.uP.rq,(ah hb (by omega)).trans h.uP.rr,h.uP.q.more (ah hb (by omega)),(ah hb (by omega)).trans h.uP.r,by rw[hs];exact h.uP.size⟩,
  (ah hb (by omega)).trans h.bv,hp,h.ge,by rw[hs];exact h.size⟩
theorem AS{w:World}{g n:Nat}{cs:Array Value}(h:w.aI g=some (bP n))(hs:cs.size=16)(_: (bP n).size=16): (w.setCells g 0 cs.toList).aI g=some cs:=by rw[bp g cs.toList 0 w _ h (by simp[aQ,hs])];rw[Array.toArray_toList,fT (by rw[hs,aQ])]
structure pU (w0 w:World):Prop where
 below:Below w0.heap.size w0 w
 rq:w.aI (w0.heap.size+1+1)=some (bP 0)
 rr:w.aI (w0.heap.size+1+1+1)=some (bP 0)
 size:w0.heap.size+1+1+1+1+1<w.heap.size
theorem pU.more{w0 w w':World}(h:pU w0 w)(hb:Below w.heap.size w w'):pU w0 w':=by have hs:=h.size;exact⟨h.below.trans (hb.mono (by omega)),(ah hb (by omega)).trans h.rq,(ah hb (by omega)).trans h.rr,nU hs hb.size⟩
theorem pU.set{w0 w:World}(h:pU w0 w)(o:Nat)(vs:List Value):pU w0 (w.setCells (w0.heap.size+1+1+1+1+1) o vs):=
 ⟨aa h.below (by omega) _ _,(ay _ _ _ _ _ (by omega)).trans h.rq,(ay _ _ _ _ _ (by omega)).trans h.rr,by simpa using h.size⟩
theorem pU.drewN{w0 w:World}(h:pU w0 w)(n:Nat):pU w0 (w.drewN n):=⟨below_drewN h.below n,h.rq,h.rr,h.size⟩
theorem pU.drew{w0 w:World}(h:pU w0 w):pU w0 w.drew:=h.drewN 1
theorem pU.ret{w0 w:World}(h:pU w0 w){x y:Nat}:
  ((w.setCells (w0.heap.size+1+1) 0 (bP x).toList).setCells (w0.heap.size+1+1+1) 0 (bP y).toList).aI (w0.heap.size+1+1)=some (bP x)/\((w.setCells (w0.heap.size+1+1) 0 (bP x).toList).setCells (w0.heap.size+1+1+1) 0 (bP y).toList).aI (w0.heap.size+1+1+1)=some (bP y)/\
  Below w0.heap.size w0 ((w.setCells (w0.heap.size+1+1) 0 (bP x).toList).setCells (w0.heap.size+1+1+1) 0 (bP y).toList):=by
 refine⟨?_,?_,aa (aa h.below (by omega) _ _) (by omega) _ _⟩
 ·rw[ay _ _ _ _ _ (by omega)];exact oH h.rq (aQ _)
 ·exact oH ((ay _ _ _ _ _ (by omega)).trans h.rr) (aQ _)
theorem Qt(z:Value)(i:Nat)(hi:i<17): (#[z,z,z,z,z,z,z,z,z,z,z,z,z,z,z,z,z]:Array Value)[i]? =some z:=by rw[show(#[z,z,z,z,z,z,z,z,z,z,z,z,z,z,z,z,z]:Array Value)=Array.replicate 17 z from rfl];simp[hi]
theorem dI.UF{w:World}{g:Nat}(h:w.aI g=some #[.int .u64 0,.int .u64 0,.int .u64 0,.int .u64 0,.int .u64 0,.int .u64 0,.int .u64 0,.int .u64 0,.int .u64 0,.int .u64 0,.int .u64 0,.int .u64 0,.int .u64 0,.int .u64 0,.int .u64 0,.int .u64 0,.int .u64 0]):dI 17 w g (fun _=>0):=
 ⟨_,h,rfl,fun i hi=>Qt _ i hi⟩
structure Yo (a b l m s U V:Nat):Prop where
 ha:a<BB^16
 hm:a<BB^m
 m16:m<=16
 lm:l+2<=m
 hs:s<64
 hu:a*2^s=U
 hv:b*2^s=V
 v0:0<V
 vl:V<BB^(l+2)
 vt:0<lim V (l+1)
 st:U/BB^(m-(l+2)+1)<V
theorem Yp{a b:Nat}(ha:a<BB^16)(hb:b<BB^16)(hle:b<=a)(h2:BB<=b):∃l m s:Nat,ku b 16=l+2/\ku a 16=m/\((64:Int)-(Lib.bitLen (lim b (l+1)):Int))=(s:Int)/\Yo a b l m s (a*2^s) (b*2^s):=by
 have hb0:0<b:=nU dx h2;have hp:2<=ku b 16:=by
  rcases nO (ku b 16) 2 with h|h
  ·have h3:=eT 16 hb;have h4:BB^(ku b 16)<=BB^1:=Nat.pow_le_pow_right dx (by omega);rw[Nat.pow_one] at h4;omega
  ·exact h
 obtain⟨l,hl⟩:∃l,ku b 16=l+2:=⟨ku b 16-2,by omega⟩;have ht:=afo b 16 (by omega);rw[hl,show l+2-1=l+1 by omega] at ht;obtain⟨s,hs,hsi,hY1,hY2⟩:=bitLen_spec (Nat.pos_of_ne_zero ht) (cD b (l+1));have hbl:=eT 16 hb;rw[hl] at hbl;have e1:b/BB^(l+1)=lim b (l+1):=uN hbl;have hvl:b*2^s<BB^(l+2):=by
  have h5:b<(lim b (l+1)+1)*BB^(l+1):=by rw[<-e1,nC];exact Nat.lt_mul_div_succ b (aC _)
  have h6:b*2^s<(lim b (l+1)+1)*BB^(l+1)*2^s:=Nat.mul_lt_mul_of_pos_right h5 (Nat.two_pow_pos s);have h7: (lim b (l+1)+1)*2^s<=BB:=by
   have h8:BB=2^s*2^(64-s):=by rw[<-Nat.pow_add,show s+(64-s)=64 by omega];rfl
   rw[h8] at hY2 ⊢;have h9:lim b (l+1)<2^(64-s):=by rw[nC] at hY2;exact Nat.lt_of_mul_lt_mul_left hY2
   rw[nC];exact Nat.mul_le_mul_left _ h9
  have h10: (lim b (l+1)+1)*BB^(l+1)*2^s=(lim b (l+1)+1)*2^s*BB^(l+1):=by simp only[nC,Nat.mul_left_comm]
  have h11: (lim b (l+1)+1)*2^s*BB^(l+1)<=BB*BB^(l+1):=nR _ h7;rw[show l+2=l+1+1 from rfl,Nat.pow_succ' (n:=l+1)];omega
 refine⟨l,ku a 16,s,hl,rfl,hsi,⟨ha,eT 16 ha,sF _ _,by rw[<-hl];exact CL ha hb hle hb0,hs,rfl,rfl,Nat.mul_pos hb0 (Nat.two_pow_pos s),hvl,?_,?_⟩⟩
 ·have h12:lim (b*2^s) (l+1)=b*2^s/BB^(l+1):=(uN hvl).symm;rw[h12,Nat.div_pos_iff];refine⟨aC _,?_⟩;have h13:BB^(l+1)<=b:=pA ht;exact nT h13 (Nat.le_mul_of_pos_right _ (Nat.two_pow_pos s))
 ·exact Fq (eT 16 ha) hs (by omega) (by rw[<-hl];exact CL ha hb hle hb0) (by rw[show l+2-1=l+1 by omega];exact hY1) hbl
theorem Fx(a b:Nat)(w:World)(ha:a<BB^16)(hb:b<BB^16)(h2:BB<=b)(hle:b<=a):Calls prog 240 #[.agg (bP a),.agg (bP b)] w fun e w'=>e= .returned (.tuple #[.agg (bP (a/b)),.agg (bP (a%b))])/\Below w.heap.size w w':=by
 have S:=qD (Fv a b w);have HA:=qD (lS _ 0 a _ 0 b (S6 a b w) (S.o.sa ha) (S.o.sb hb));have hc:=uM hle;generalize pT a b=c at*;obtain⟨l,m,s,hn,hm,hsi,hN⟩:=Yp ha hb hle h2;obtain⟨U,hU⟩:∃U,a*2^s=U:=⟨_,rfl⟩;obtain⟨V,hV⟩:∃V,b*2^s=V:=⟨_,rfl⟩;rw[hU,hV] at hN;have HN:=qD hN;have HP1:Hid (∀(w:World) g (h:fG w g 0 a),Calls prog 244 #[.pointer (some ⟨g,0,none⟩)] w fun e w'=>e= .returned (.int .i64 (m:Nat))/\w=w'):=fun w g h=>by have:=iB g 0 a w h;rwa [hm] at this
 obtain⟨n,hnl⟩:∃n,l+2=n:=⟨_,rfl⟩;have HP2:Hid (∀(w:World) g (h:fG w g 0 b),Calls prog 244 #[.pointer (some ⟨g,0,none⟩)] w fun e w'=>e= .returned (.int .i64 (n:Nat))/\w=w'):=fun w g h=>by have:=iB g 0 b w h;rwa [hn,hnl] at this
 have HLZ:Hid (∀w,Calls prog 291 #[.int .u64 (lim b (l+1):Nat)] w fun e w'=>e= .returned (.int .i64 (s:Nat))/\w'=w):=fun w=>by
  have:=Tryz.bits_LeadingZeros64 (lim b (l+1):Nat) w (by omega) (by have:=uK b (l+1);omega)
  rwa [Int.toNat_natCast,hsi] at this
 have HUP:Hid (∀w b' (h:fG w b' 0 b),Calls prog 292 #[.pointer (some ⟨b',0,none⟩),.int .i64 (s:Nat)] w fun e w'=>e= .returned (.agg (bP V))/\Below w.heap.size w w'):=fun w b' h=>by
  have:=LS b' 0 b s w h (by have:=hN.hs;omega)
  rwa [hV] at this
 have HA16:=qD ha;have HB16:=qD hb;have hn1:¬((n:Int)=1):=by omega
 have hnm: (n:Int)-1=((l+1:Nat):Int):=by omega
 have hnw:IntKind.i64.wrap ((l+1:Nat):Int)=((l+1:Nat):Int):=IntKind.eG (by omega) (by have:=hN.m16;have:=hN.lm;omega);have hl0: (0:Int)<=((l+1:Nat):Int):=by omega
 have hl1: ((l+1:Nat):Int)<16:=by have:=hN.m16;have:=hN.lm;omega
 have HNL:=qD hnl;have hlb: (S6 a b w).cell? ⟨w.heap.size+1,l+1,none⟩=some (.int .u64 (lim b (l+1):Nat)):=by rw[ao S.o.bb,fx b (l+1) (by omega)]
 clear hm hn hb ha hle h2 hsi hU hV hN hnl;go_enter func240,ntmps240;go_wp2_with (go_at_call 289;refine(HA.o).mono ?_;rintro e w1 ⟨rfl,nd,rfl⟩);refine(HP1.o _ _ ((S.o.drewN nd).sa HA16.o)).mono ?_;rintro e w1 ⟨rfl,rfl⟩;go_wp2_with fail;refine(HP2.o _ _ ((S.o.drewN nd).sb HB16.o)).mono ?_;rintro e w1 ⟨rfl,rfl⟩;go_wp2_with (go_at_call 291;refine(HLZ.o _).mono ?_;rintro e w1 ⟨rfl,rfl⟩);refine(HUP.o _ _ ((S.o.drewN nd).sb HB16.o)).mono ?_;rintro e w1 ⟨rfl,hb1⟩;have S1:=qD ((S.o.drewN nd).more hb1);have hz1:=S1.o.size;clear hb1 HA HP1 HP2 HLZ HUP hlb;go_wp2_with fail
 go_loopw [15,53] (fun x15 i wr=>∃k:Nat,k<=16/\i= .int .i64 k/\Hid (mi a b V w wr w1.heap.size (fun _=>0) (xI a s k))) (fun _ i _=>16-(intOf i).toNat)
 case atStart=>
  refine⟨0,by omega,rfl,?_⟩;have M0:=xS.start S1.o;refine⟨M0.more ((aa ((bZ _ _).alloc (nL _) _) (nL _) _ _).alloc (by simp) _),?_,(dI.UF ?_).congr fun i hi=>(Mo _ _ _).symm,hz1,by simp⟩
  ·rw[af,if_neg (by simp)];exact oH (by simp[af,aq]) (aQ _)
  ·rw[af,if_pos (by simp)];rfl
 case round=>
  obtain⟨k,hk,rfl,hL⟩:=hrel;by_cases hk16:k<16
  ·have hcu:wr.cell? ⟨w1.heap.size+1,k,none⟩=some (.int .u64 (xI a s k k:Nat)):=hL.o.u.cell (by omega);have hfu:=hL.o.u.frozen k;have hca:wr.cell? ⟨w.heap.size,k,none⟩=some (.int .u64 (lim a k:Nat)):=by rw[ao hL.o.uP.ba,fx a k hk16]
   have l0:w.heap.size<wr.heap.size:=by have:=hL.o.uP.size;omega
   have lu:w1.heap.size+1<wr.heap.size:=by have:=hL.o.size;omega
   have i1: (0:Int)<=(k:Int):=by omega
   have i2: (k:Int)<16:=by omega
   have i3: (k:Int)<17:=by omega
   have hs0: (0:Int)<=(s:Int):=by omega
   have hs64:s<64:=HN.o.hs;obtain⟨x,hx⟩:∃x,lim a k*2^s%BB=x:=⟨_,rfl⟩;have hs1:IntKind.u64.wrap ((lim a k:Nat)*2^s)=(x:Int):=by rw[pC,hx]
   have HX2:Hid (x<BB/\x%2^s=0):=⟨by rw[<-hx];exact Nat.mod_lt _ dx,by rw[<-hx];exact AP _ _ HN.o.hs⟩;have HGL:=qD (UC (a:=a) (i:=k) HN.o.hs);obtain⟨y,hy⟩:∃y,xI a s k k=y:=⟨_,rfl⟩;have HAT:Hid (xI a s (k+1) k=y+x):=by unfold Hid;rw[UB,hx,hy]
   rw[hy] at hcu HGL;have hor:bits .or .u64 (y:Int) (x:Int)=((y+x:Nat):Int):=UD y x s HN.o.hs HGL.o HX2.o.1 HX2.o.2;obtain⟨z,hz⟩:∃z,y+x=z:=⟨_,rfl⟩;rw[hz] at hor HAT;clear hx hy hz;have hkw:IntKind.i64.wrap ((k:Int)+1)=((k+1:Nat):Int):=by rw[show((k:Int)+1)=((k+1:Nat):Int) by omega];exact IntKind.eG (by omega) (by omega)
   go_wp2_with fail;refine ar 10 ?_;simp only[tA,tD,tC,tE]
   repeat quiet_step (fail)
   refine wpQuiet_nil ?_;intro w2 hb2;have L2:=qD (hL.o.more hb2);have hcu2:=L2.o.u.cell (show k<17 by omega);have hfu2:=L2.o.u.frozen k;have hcu3:=L2.o.u.cell (show k+1<17 by omega);have hfu3:=L2.o.u.frozen (k+1);have hca2:w2.cell? ⟨w.heap.size,k,none⟩=some (.int .u64 (lim a k:Nat)):=by rw[ao L2.o.uP.ba,fx a k hk16]
   have hne1:¬w1.heap.size+1=w.heap.size:=by omega
   have hne2:¬w.heap.size=w1.heap.size+1:=by omega
   have l0':w.heap.size<w2.heap.size:=by have:=L2.o.uP.size;omega
   have lu':w1.heap.size+1<w2.heap.size:=by have:=L2.o.size;omega
   clear hb2 hcu hfu hca hL;by_cases hsp:0<s
   ·go_wp2_with fail;go_roundw
    case rel=>
     rw[show((lim a k:Nat):Int)/2^(64-s)=((lim a k/2^(64-s):Nat):Int) by simp];refine⟨k+1,by omega,by go_num,((L2.o.store (show k<17 by omega) z).store (show k+1<17 by omega) _).congr (fun _ _=>rfl) fun p hp=>?_⟩;by_cases h1:p=k+1
     ·subst h1;rw[if_pos rfl,(wE a s k).1]
     ·rw[if_neg h1];by_cases h3:p=k
      ·subst h3;rw[if_pos rfl,HAT.o]
      ·rw[if_neg h3];by_cases h4:p<k
       ·rw[Hl h4]
       ·rw[(uO (show k+1<p by omega)).1,(uO (show k+1<p by omega)).2]
    case measure=>simp[intOf];omega
   ·have HS0:Hid (s=0):=by unfold Hid;omega
    go_wp2_with fail;go_roundw
    case rel=>
     refine⟨k+1,by omega,by go_num,(L2.o.store (show k<17 by omega) z).congr (fun _ _=>rfl) fun p hp=>?_⟩;by_cases h1:p=k+1
     ·subst h1;rw[if_neg (by omega),(wE a s k).1,(wE a s k).2,HS0.o];exact(Nat.div_eq_of_lt (cD a k)).symm
     ·by_cases h3:p=k
      ·subst h3;rw[if_pos rfl,HAT.o]
      ·rw[if_neg h3];by_cases h4:p<k
       ·rw[Hl h4]
       ·rw[(uO (show k+1<p by omega)).1,(uO (show k+1<p by omega)).2]
    case measure=>simp[intOf];omega
  ·have hk2:k=16:=by omega
   have L0:Hid (mi a b V w wr w1.heap.size (fun _=>0) (fun p=>lim U p)):=hL.o.congr (fun _ _=>rfl) fun p hp=>by rw[hk2,Mp HA16.o HN.o.hs hp,HN.o.hu]
   have hmn:IntKind.i64.wrap ((m:Int)-(n:Int))=((m-n:Nat):Int):=by have h5:=HN.o.lm;have h6:=HN.o.m16;have h7:=HNL.o;rw[show((m:Int)-(n:Int))=((m-n:Nat):Int) by omega];exact IntKind.eG (by omega) (by omega)
   clear hL hk2;go_wp2_with fail;have HMN:Hid (m-n+n=m/\m<=16):=⟨by have:=HN.o.lm;have:=HNL.o;omega,HN.o.m16⟩;have HLN:Hid (∀k,Hm U V k<V):=fun k=>Nat.mod_lt _ HN.o.v0;clear hn1 hnm hnw hl0 hl1 hk hk16
   go_loopw [16] (fun j wr=>∃k:Nat,k<=m-n+1/\j= .int .i64 ((k:Int)-1)/\Hid (mi a b V w wr w1.heap.size (fun p=>if k<=p then lim (U/V) p else 0) (fun p=>if p<k then lim U p else lim (Hm U V k) (p-k)))) (fun j _=>(intOf j+1).toNat)
   case atStart=>
    refine⟨m-n+1,by omega,by congr 1;omega,L0.o.congr (fun p hp=>?_) fun p hp=>?_⟩
    ·have h5:=HN.o.st;rw[HNL.o] at h5;split
     ·rename_i h6;refine(j4 (k:=m-n+1) ?_ h6).symm;rw[Nat.div_lt_iff_lt_mul HN.o.v0];rw[Nat.div_lt_iff_lt_mul (aC _)] at h5;rw[nC];exact h5
     ·rfl
    ·have h5:=HN.o.st;rw[HNL.o] at h5;split
     ·rfl
     ·unfold Hm;rw[nM h5,Qr,show m-n+1+(p-(m-n+1))=p by omega]
   case round=>
    clear L0;obtain⟨k,hk,rfl,hL⟩:=hrel;by_cases hk0:0<k
    ·obtain⟨j,rfl⟩:∃j,k=j+1:=⟨k-1,by omega⟩;rw[show(((j+1:Nat):Int)-1)=(j:Int) by omega];have hjl:j+n<=16:=by have:=HMN.o;omega
     obtain⟨jn,hjn⟩:∃jn,j+n=jn:=⟨_,rfl⟩;obtain⟨e,he⟩:∃e,jn+1=e:=⟨_,rfl⟩;have hjw1:IntKind.i64.wrap ((j:Int)+(n:Int))=(jn:Int):=by rw[show((j:Int)+(n:Int))=(jn:Int) by omega];exact IntKind.eG (by omega) (by omega)
     have hjw2:IntKind.i64.wrap ((jn:Int)+1)=(e:Int):=by rw[show((jn:Int)+1)=(e:Int) by omega];exact IntKind.eG (by omega) (by omega)
     have i1: (0:Int)<=(j:Int):=by omega
     have i2: (j:Int)<16:=by have:=HNL.o;omega
     have i3: (0:Int)<=(e:Int):=by omega
     have i4: (j:Int)<=(e:Int):=by omega
     have i5: (e:Int)<=17:=by omega
     have i6:j<=e:=by omega
     have i7:e<=17:=by omega
     have i8: (0:Int)<=(n:Int):=by omega
     have i9: (n:Int)<=16:=by omega
     have i10:n<=16:=by omega
     have hej:e-j=n+1:=by omega
     have hj17:¬17=j:=by have:=HNL.o;omega
     clear hjl hjn he;go_wp2_with fail;refine afm 9 10 (fun w'=>∃q:Nat,w'=wr.drewN q) (fun w'=>mi a b V w w' w1.heap.size (fun p=>if j+1<=p then lim (U/V) p else 0) (fun p=>if p<j then lim U p else lim (Hm U V j) (p-j))) (by kernel_rfl) (by decide) (by kernel_rfl) ⟨1,rfl⟩ ?_;simp only[tA,tD,tC,tE]
     repeat
      refine Fu (by decide) (fun K hK=>?_);go_simp;refine hK _ ?_;clear hK K
     refine yY rfl (fun K hK=>?_);go_simp;refine⟨.int .u64 (lim (U/V) j:Nat),fun q=>?_,hK _ ?_⟩
     ·obtain⟨n1,n2,n3⟩:=Mq U V j HN.o.v0;have hLq:mi a b V w (wr.drewN q) w1.heap.size (fun p=>if j+1<=p then lim (U/V) p else 0) (fun p=>if p<j+1 then lim U p else lim (Hm U V (j+1)) (p-(j+1))):=hL.o.more (below_drewN (bZ _ _) q);have hnl:=HNL.o;have hu:UV (wr.drewN q) (w1.heap.size+1) j w1.heap.size 17 (l+2) (fun p=>if p<j+1 then lim U p else lim (Hm U V (j+1)) (p-(j+1))) (Hm U V (j+1)*BB+lim U j) V:=by
       refine⟨hLq.u,by omega,fun i hi=>?_,fun i hi=>?_,by omega⟩
       ·rw[Mr _ _ _ (cD U j)];show(if j+i<j+1 then lim U (j+i) else lim (Hm U V (j+1)) (j+i-(j+1)))=_;by_cases h0:i=0
        ·subst h0;rw[if_pos (by omega),if_pos rfl,Nat.add_zero]
        ·rw[if_neg (by omega),if_neg h0];congr 1;omega
       ·rw[ao hLq.bv,fx V i (by omega)]
      have hst:=Mn l _ V (w1.heap.size+1) j w1.heap.size (17-j) 16 17 _ (wr.drewN q) n1 HN.o.vl HN.o.vt (by omega) hu;rw[n2,n3,hnl] at hst;refine hst.mono fun e' w' ⟨h1,h2,h3,h4⟩=>⟨h1,(hLq.step h3 h2 h4).congr (fun _ _=>rfl) fun p hp=>?_⟩;by_cases h5:p<j
      ·rw[if_neg (by omega),if_pos (by omega),if_pos h5]
      ·rw[if_neg h5];by_cases h6:p<j+(n+1)
       ·rw[if_pos (by omega)]
       ·have h7:=HN.o.vl;rw[hnl] at h7;rw[if_neg (by omega),if_neg (by omega),j4 (Nat.lt_trans (HLN.o (j+1)) h7) (by omega),j4 (Nat.lt_trans (HLN.o j) h7) (by omega)]
     clear hK K;refine yZ ?_;intro w2 hb2;have HL2:=qD hb2;have hd:w2.cell? ⟨w.heap.size+1+1+1+1,j,none⟩=some (.int .u64 0):=by
      have:=hb2.uP.q.cell (show j<16 by omega)
      rwa [if_neg (by omega)] at this
     have hf:=hb2.uP.q.frozen j;clear hb2 hL;go_wp2_with fail;go_roundw
     case rel=>
      refine⟨j,by omega,by go_num,(HL2.o.UE (show j<16 by omega) _).congr (fun p hp=>?_) (fun _ _=>rfl)⟩;by_cases hpj:p=j
      ·subst hpj;rw[if_pos rfl,if_pos (by omega)]
      ·rw[if_neg hpj];by_cases h9:j+1<=p
       ·rw[if_pos h9,if_pos (by omega)]
       ·rw[if_neg h9,if_neg (by omega)]
     case measure=>simp[intOf]
    ·have hk1:k=0:=by omega
     subst hk1;have HQ:Hid (U/V=a/b):=by unfold Hid;rw[<-HN.o.hu,<-HN.o.hv,Nat.mul_div_mul_right _ _ (Nat.two_pow_pos s)]
     have HR:Hid (U%V=a%b*2^s):=by unfold Hid;rw[<-HN.o.hu,<-HN.o.hv,Nat.mul_mod_mul_right]
     obtain⟨R,hR⟩:∃R,a%b*2^s=R:=⟨_,rfl⟩;have L1:Hid (mi a b V w wr w1.heap.size (fun p=>lim (a/b) p) (fun p=>lim R p)):=hL.o.congr (fun p hp=>by rw[if_pos (by omega),HQ.o]) (fun p hp=>by rw[if_neg (by omega)];unfold Hm;rw[Nat.pow_zero,Nat.div_one,HR.o,Nat.sub_zero,hR]);have HR2:Hid (R<BB^16/\R/2^s=a%b):=by
      refine⟨?_,?_⟩
      ·rw[<-hR,<-HR.o];have h5:=HN.o.vl;refine Nat.lt_trans (Nat.mod_lt _ HN.o.v0) (nU h5 (Nat.pow_le_pow_right dx ?_));have:=HN.o.lm;have:=HN.o.m16;omega
      ·rw[<-hR,Nat.mul_div_cancel _ (Nat.two_pow_pos s)]
     clear hL HR HQ hR hk hk0;go_wp2_with fail;refine ar 2 ?_;simp only[tA,tD,tC,tE]
     repeat quiet_step (fail)
     refine wpQuiet_nil ?_;intro w2 hb2;have L2:=qD (L1.o.more hb2);clear hb2;obtain⟨t,ht⟩:=iL.1 L2.o.uP.r;have HC2:Hid (∀(j:Nat) (v:Value),(bP R).toList[j]? =some v->w2.cell? ((⟨w1.heap.size+1,0,none⟩:Addr).add j)=some v):=by
      intro j v hj;have hja: (⟨w1.heap.size+1,0,none⟩:Addr).add j=⟨w1.heap.size+1,j,none⟩:=by
       simp only[Addr.add,Nat.zero_add]
       try (split <;> simp_all)
      rw[hja];have hjl:j<16:=by
       rcases nO j 16 with h|h
       ·exact h
       ·rw[nE (by simpa[aQ] using h)] at hj;cases hj
      rw[<-hj,Array.getElem?_toList,fx _ _ hjl];exact L2.o.u.cell (by omega)
     have L16: (bP R).toList.length=16:=by simp[aQ]
     refine wpList_copy_splice rfl (.tmp 96) (.tmp 97) 320 320 rfl 59 (by kernel_rfl) (by kernel_rfl) (some ⟨w.heap.size+1+1+1+1+1,0,none⟩) (some ⟨w1.heap.size+1,0,none⟩) 16 16 16 17 (by rfl) (by rfl) (w.heap.size+1+1+1+1+1) 0 (bP 0).toList t (by rw[Array.toArray_toList];exact ht) (bP R).toList (by rw[L16];rfl) (fun _=>⟨rfl,_,rfl,fun j v hj=>HC2.o j v hj⟩) (by rw[L16];simp[aQ]) (by intro v hv;simp[bP] at hv;obtain⟨_,_,rfl⟩:=hv;rfl) (w.heap.size+1+1+1+1+1) w2 (bZ _ _) (nL _) ?_;intro w3 hg3 hb3;have hkr:w3.aI (w.heap.size+1+1+1+1+1)=some (bP R):=by have:=Ew hg3.o;rw[this];simp[splice,aQ,List.drop_eq_nil_of_le,L16]
     have hsz:=L2.o.uP.size;have hge:=L2.o.ge;have hl5:w.heap.size+1+1+1+1+1<w3.heap.size:=ab hkr;have F3:Hid (pU w w3):=⟨L2.o.uP.below.trans (hb3.mono (by omega)),(ah hb3 (by omega)).trans L2.o.uP.rq,(ah hb3 (by omega)).trans L2.o.uP.rr,hl5⟩;have hkq:w3.aI (w.heap.size+1+1+1+1)=some (bP (a/b)):=(ah hb3 (by omega)).trans (L2.o.uP.q.done (fun _ _=>rfl));have HDN:=qD (CG (w.heap.size+1+1+1+1+1) 0 R s w3 (dp hkr HR2.o.1) HN.o.hs);rw[HR2.o.2] at HDN;clear hb3 hg3 HC2 ht hsz hge;go_wp2_with (go_at_call 294;refine HDN.o.mono ?_;rintro e w4 ⟨rfl,hb4⟩;have F4:=qD (F3.o.more hb4);have hkq4:=(ah hb4 (by omega)).trans hkq;have hkr4:=(ah hb4 hl5).trans hkr;clear hb4);have hkq5: (w4.setCells (w.heap.size+1+1+1+1+1) 0 (bP (a%b)).toList).aI (w.heap.size+1+1+1+1)=some (bP (a/b)):=(ay _ _ _ _ _ (by omega)).trans hkq4;have hkr5: (w4.setCells (w.heap.size+1+1+1+1+1) 0 (bP (a%b)).toList).aI (w.heap.size+1+1+1+1+1)=some (bP (a%b)):=AS hkr4 (aQ _) (aQ _);have F5:Hid (pU w (w4.setCells (w.heap.size+1+1+1+1+1) 0 (bP (a%b)).toList)):=F4.o.set _ _;have hk35:=F5.o.rq;have hk45:=F5.o.rr;obtain⟨w5,hw5⟩:∃w5,w5=w4.setCells (w.heap.size+1+1+1+1+1) 0 (bP (a%b)).toList:=⟨_,rfl⟩;rw[<-hw5] at hkq5 hkr5 F5 hk35 hk45 ⊢;clear hw5 hkq4 hkr4;have x1:¬w.heap.size+1+1+1+1+1=w.heap.size+1+1:=by omega
     have x2:¬w.heap.size+1+1+1+1+1=w.heap.size+1+1+1:=by omega
     have x3:¬w.heap.size+1+1+1+1=w.heap.size+1+1:=by omega
     have x4:¬w.heap.size+1+1+1+1=w.heap.size+1+1+1:=by omega
     have x5:¬w.heap.size+1+1=w.heap.size+1+1+1:=by omega
     have x6:¬w.heap.size+1+1+1=w.heap.size+1+1:=by omega
     have y1:¬w.heap.size+1+1+1=w.heap.size:=by omega
     have y2:¬w.heap.size+1+1=w.heap.size:=by omega
     have y3:¬w.heap.size+1=w.heap.size:=by omega
     go_region
     all_goals go_wp2_with fail
     obtain⟨r1,r2,r3⟩:=F5.o.drew.ret (x:=a/b) (y:=a%b);exact bodyPost_ret (rV (fn:=Tryz.f240) rfl rfl (oE r1 (aQ _)) rfl (oE r2 (aQ _))) rfl ⟨rfl,r3⟩
theorem wH(a b:Nat)(w:World)(ha:a<BB^16)(hb:b<BB^16)(h0:0<b):Calls prog 240 #[.agg (bP a),.agg (bP b)] w fun e w'=>e= .returned (.tuple #[.agg (bP (a/b)),.agg (bP (a%b))])/\Below w.heap.size w w':=by
 rcases nO a b with h|h
 ·rw[Nat.div_eq_of_lt h,nM h];exact Jm a b w ha hb h
 ·rcases nO b BB with h1|h1
  ·exact Fw a b w ha h1 h0 h
  ·exact Fx a b w ha hb h1 h
attribute [go_sem] dD fI
def Fy(a b:WI):Nat:=if (a.neg != b.neg)&&(a.abs%b.abs != 0) then a.abs/b.abs+1 else a.abs/b.abs
def afc(a b:WI):WI×Int:=
 if a.over||b.over then(rh false 0,2) else if b.abs=0 then(rh false 0,1) else(rh (a.neg != b.neg) (Fy a b),0)
theorem CN:0<mK:=by obtain⟨k,hk⟩:∃k,k=1023:=⟨_,rfl⟩;rw[<-G9 hk];exact Nat.two_pow_pos _
theorem pD:wc (rh false 0)=eE false false 0:=LM CN
theorem Qu(a b:WI):Fy a b<BB^16:=by
 have h1:a.abs<mK:=by
  unfold WI.abs;split
  ·rename_i n h;exact a.ok n h
  ·exact CN
 have h2:=AI;have h3:a.abs/b.abs<=a.abs:=Nat.div_le_self _ _;unfold Fy;split <;> omega
theorem Jn(a b:WI)(w:World)(h:a.over=true∨b.over=true):Calls prog 192 #[.agg (wc a),.agg (wc b)] w fun e w'=>e= .returned (.tuple #[.agg (wc (afc a b).1),.int .i64 (afc a b).2])/\Below w.heap.size w w':=by
 obtain⟨k1,k2,k3,b0⟩:=jD a b w;have B0:=qD b0;clear b0;have HN:Hid (afc a b=(rh false 0,2)):=by unfold Hid afc;rw[if_pos (by rcases h with h|h <;> simp[h])]
 have hcase:a.over=true∨(a.over=false/\b.over=true):=by
  cases ha:a.over
  ·right;refine⟨rfl,?_⟩;rcases h with h|h
   ·rw[ha] at h;cases h
   ·exact h
  ·left;rfl
 clear k1 k2 h;rcases hcase with ho|⟨ho,ho'⟩
 all_goals
  go_enter func192,ntmps192;go_wp2_with fail;rw[HN.o,pD];exact bodyPost_ret (aA (fn:=Tryz.f192) rfl rfl (fW (ee k3 (bT _ _ _)) (bT _ _ _))) rfl ⟨rfl,aa B0.o (by omega) _ _⟩
theorem Jo(a b:WI)(w:World)(ha:a.over=false)(hb:b.over=false)(h:b.abs=0):Calls prog 192 #[.agg (wc a),.agg (wc b)] w fun e w'=>e= .returned (.tuple #[.agg (wc (afc a b).1),.int .i64 (afc a b).2])/\Below w.heap.size w w':=by
 obtain⟨k1,k2,k3,b0⟩:=jD a b w;have B0:=qD b0;clear b0;have HN:Hid (afc a b=(rh false 0,1)):=by unfold Hid afc;rw[if_neg (by simp[ha,hb]),if_pos h]
 have he:j8 b.abs 0=true:=by rw[iC b.bQ (show 0<BB^16 by decide+kernel),h];rfl
 clear k1 k2 h;go_enter func192,ntmps192;go_wp2_with fail;rw[HN.o,pD];exact bodyPost_ret (aA (fn:=Tryz.f192) rfl rfl (fW (ee k3 (bT _ _ _)) (bT _ _ _))) rfl ⟨rfl,aa B0.o (by omega) _ _⟩
theorem CO(w1:World)(d r:Nat)(w2:World)(h:w2=((((w1.alloc (.cells (bP 0) 198)).alloc (.cells (bP 0) 198)).setCells w1.heap.size 0 (bP d).toList).setCells (w1.heap.size+1) 0 (bP r).toList)):
  Below w1.heap.size w1 w2/\w2.aI w1.heap.size=some (bP d)/\w2.aI (w1.heap.size+1)=some (bP r):=by
 subst h;refine⟨aa (aa (((bZ _ _).alloc (nL _) _).alloc (by simp) _) (nL _) _ _) (by omega) _ _,?_,?_⟩
 ·rw[ay _ _ _ _ _ (by omega)];exact oH (by simp[af,aq]) (aQ _)
 ·exact oH ((ay _ _ _ _ _ (by omega)).trans (by simp[af,aq])) (aQ _)
theorem Mt(a b:WI)(w:World)(ha:a.over=false)(hb:b.over=false)(h:¬b.abs=0):Calls prog 192 #[.agg (wc a),.agg (wc b)] w fun e w'=>e= .returned (.tuple #[.agg (wc (afc a b).1),.int .i64 (afc a b).2])/\Below w.heap.size w w':=by
 obtain⟨k1,k2,k3,b0⟩:=jD a b w;have B0:=qD b0;have K1:=qD k1;have K2:=qD k2;have K3:=qD k3;have HN:Hid (afc a b=(rh (a.neg != b.neg) (Fy a b),0)):=by unfold Hid afc;rw[if_neg (by simp[ha,hb]),if_neg h]
 have he:j8 b.abs 0=false:=by rw[iC b.bQ (show 0<BB^16 by decide+kernel)];simpa using h
 have HD:=qD (fun w=>wH a.abs b.abs w a.bQ b.bQ (Nat.pos_of_ne_zero h));have HMD:=qD (fun w=>lg (a.neg != b.neg) (Fy a b) (Qu a b) w);have HR:Hid (a.abs%b.abs<BB^16):=Nat.lt_of_le_of_lt (Nat.mod_le _ _) a.bQ;have HQ:Hid (a.abs/b.abs<BB^16):=Nat.lt_of_le_of_lt (Nat.div_le_self _ _) a.bQ;have h11:pZ 1=bP 1:=wq 1 (by decide);have HER:Hid (j8 (a.abs%b.abs) 0=decide (a.abs%b.abs=0)):=iC HR.o (show 0<BB^16 by decide+kernel);obtain⟨q,hq⟩:∃q,a.abs/b.abs=q:=⟨_,rfl⟩;obtain⟨r,hr⟩:∃r,a.abs%b.abs=r:=⟨_,rfl⟩;obtain⟨d,hdq⟩:∃d,Fy a b=d:=⟨_,rfl⟩;have HDQ:Hid (d=if (a.neg != b.neg)&&(r != 0) then q+1 else q):=by unfold Hid;rw[<-hdq];unfold Fy;rw[hq,hr]
 rw[hq] at HD HQ;rw[hr] at HD HR HER;rw[hdq] at HMD HN;clear b0 h hq hr hdq k1 k2 k3;have hcase: (((a.neg != b.neg)=false/\(a.neg==b.neg)=true)∨((a.neg != b.neg)=true/\(a.neg==b.neg)=false/\j8 r 0=true))/\d=q∨(a.neg != b.neg)=true/\(a.neg==b.neg)=false/\j8 r 0=false/\d=q+1:=by
  have h1:=HDQ.o;cases hx: (a.neg != b.neg)
  ·left;refine⟨.inl ⟨rfl,?_⟩,?_⟩
   ·simpa[bne] using hx
   ·rw[h1,hx];rfl
  ·have hy: (a.neg==b.neg)=false:=by simpa[bne] using hx
   by_cases hz:r=0
   ·left;refine⟨.inr ⟨rfl,hy,by rw[HER.o,hz];rfl⟩,?_⟩;rw[h1,hz];simp
   ·right;refine⟨rfl,hy,by rw[HER.o];simpa using hz,?_⟩;rw[h1,hx];rw[if_pos (by simpa using hz)]
 clear HDQ HER;have HC:=qD hcase;clear hcase;go_enter func192,ntmps192;go_wp2_with fail;refine(HD.o _).mono ?_;rintro e w1 ⟨rfl,hb1⟩;have hk1:w1.aI w.heap.size=some (wc a):=(ah hb1 (by simp;omega)).trans K1.o;have hk2:w1.aI (w.heap.size+1)=some (wc b):=(ah hb1 (by simp)).trans K2.o;have hk3:w1.aI (w.heap.size+1+1)=some (eE false false 0):=(ah hb1 (by simp)).trans K3.o;have l2:w.heap.size+1+1<w1.heap.size:=ab hk3;have B1:=qD (B0.o.trans (hb1.mono (by simp;omega)));clear hb1 HD he;go_upto_region 6 with(fail);obtain⟨w2,hw2⟩:∃w2,w2=((((w1.alloc (.cells (bP 0) 198)).alloc (.cells (bP 0) 198)).setCells w1.heap.size 0 (bP q).toList).setCells (w1.heap.size+1) 0 (bP r).toList):=⟨_,rfl⟩;rw[<-hw2];obtain⟨hb2,kq,kr⟩:=CO w1 q r w2 hw2;have c1:w2.cell? ⟨w.heap.size,0,none⟩=some (.bool a.neg):=by rw[ao ((ah hb2 (by omega)).trans hk1)];exact AK a
 have c2:w2.cell? ⟨w.heap.size+1,0,none⟩=some (.bool b.neg):=by rw[ao ((ah hb2 (by omega)).trans hk2)];exact AK b
 have k3:w2.aI (w.heap.size+1+1)=some (eE false false 0):=(ah hb2 l2).trans hk3;have B2:=qD (B1.o.trans (hb2.mono (by omega)));have q1:w1.heap.size+1<w2.heap.size:=ab kr;have q0:w1.heap.size<w2.heap.size:=by omega
 have n2:w.heap.size+1+1<w2.heap.size:=by omega
 clear hw2 hb2 hk1 hk2 hk3 K1 K2 K3 B0 B1;have hcase:=HC.o;clear HC;rcases hcase with⟨⟨g1,g2⟩|⟨g1,g2,g3⟩,rfl⟩|⟨g1,g2,g3,rfl⟩
 ·rw[g1] at HMD HN;go_wp2_with (go_at_call 242;refine(HMD.o _).mono ?_;rintro e w3 ⟨rfl,hb3⟩;have B3:=qD (B2.o.trans (hb3.mono (by omega)));have k33:=(ah hb3 n2).trans k3;clear hb3);rw[HN.o];exact bodyPost_ret (aA (fn:=Tryz.f192) rfl rfl (fW (ee k33 (cP _)) (cP _))) rfl ⟨rfl,aa B3.o (by omega) _ _⟩
 ·rw[g1] at HMD HN;go_wp2_with (go_at_call 242;refine(HMD.o _).mono ?_;rintro e w3 ⟨rfl,hb3⟩;have B3:=qD (B2.o.trans (hb3.mono (by omega)));have k33:=(ah hb3 n2).trans k3;clear hb3);rw[HN.o];exact bodyPost_ret (aA (fn:=Tryz.f192) rfl rfl (fW (ee k33 (cP _)) (cP _))) rfl ⟨rfl,aa B3.o (by omega) _ _⟩
 ·rw[g1] at HMD HN;have h1b:1<BB^16:=by decide+kernel
  have HAD:Hid (∀W,W=w2.alloc (.cells (bP 1) 198)->Calls prog 241 #[.pointer (some ⟨w1.heap.size,0,none⟩),.pointer (some ⟨w2.heap.size,0,none⟩)] W fun e w'=>e= .returned (.tuple #[.agg (bP (q+1)),.int .u64 (pS q 1 16:Nat)])/\Below W.heap.size W w'):=fun W hW=>by subst hW;exact AH _ _ _ _ _ _ _ (dp (by rw[af,if_neg (by omega)];exact kq) HQ.o) (dp (by simp[af,aq]) h1b)
  have x1:¬w.heap.size+1+1=w1.heap.size:=by omega
  have x2:¬w1.heap.size=w.heap.size+1+1:=by omega
  go_wp2_with (go_at_call 241;refine(HAD.o _ rfl).mono ?_;rintro e w4 ⟨rfl,hb4⟩;have kq4:w4.aI w1.heap.size=some (bP q):=(ah hb4 (by simp;omega)).trans (by rw[af,if_neg (by omega)];exact kq);have k34:w4.aI (w.heap.size+1+1)=some (eE false false 0):=(ah hb4 (by simp;omega)).trans (by rw[af,if_neg (by omega)];exact k3);have B4:=qD ((B2.o.alloc (by omega) (.cells (bP 1) 198)).trans (hb4.mono (by simp;omega)));have n4:w1.heap.size<w4.heap.size:=ab kq4;clear hb4);refine(HMD.o _).mono ?_;rintro e w5 ⟨rfl,hb5⟩;have k35:w5.aI (w.heap.size+1+1)=some (eE false false 0):=(ah hb5 (by simp;omega)).trans ((ay _ _ _ _ _ (by omega)).trans k34);have B5:=qD ((aa B4.o (show w.heap.size<=w1.heap.size by omega) 0 (bP (q+1)).toList).trans (hb5.mono (by simp;omega)));clear hb5;go_wp2_with fail;rw[HN.o];exact bodyPost_ret (aA (fn:=Tryz.f192) rfl rfl (fW (ee k35 (cP _)) (cP _))) rfl ⟨rfl,aa B5.o (by omega) _ _⟩
theorem Mu(a b:WI)(w:World):Calls prog 192 #[.agg (wc a),.agg (wc b)] w fun e w'=>e= .returned (.tuple #[.agg (wc (afc a b).1),.int .i64 (afc a b).2])/\Below w.heap.size w w':=by
 by_cases h:a.over=true∨b.over=true
 ·exact Jn a b w h
 ·have ha:a.over=false:=by cases hx:a.over;rfl;exact absurd (.inl hx) h
  have hb:b.over=false:=by cases hx:b.over;rfl;exact absurd (.inr hx) h
  by_cases hz:b.abs=0
  ·exact Jo a b w ha hb hz
  ·exact Mt a b w ha hb hz
attribute [go_sem] dD fI
def wI(n:Nat):Nat->Nat->Nat
 |0,x=>x
 |f+1,x=>if (x+n/x)/2<x then wI n f ((x+n/x)/2) else x
def rp(n:Nat):Nat:=2^((eJ n+1)/2)
def wJ(n:Nat):Nat:=wI n (rp n) (rp n)
def iV(a:WI):WI×Int:=
 if a.over then(rh false 0,2) else if a.neg then(rh false 0,1) else if a.abs=0 then(a,0) else(rh false (wJ a.abs),0)
theorem wK{n:Nat}(h:n<mK)(hn:n<BB^16):0<rp n/\rp n<=BB^8/\(eJ n+1)/2<1024:=by have h1:=(AL hn).2 h;obtain⟨K,hK⟩:∃K,K=512:=⟨_,rfl⟩;have h2:2^K=BB^8*2^0:=sH 8 0 K (by omega);refine⟨Nat.two_pow_pos _,?_,by omega⟩;rw[Nat.pow_zero,Nat.mul_one] at h2;rw[<-h2];exact Nat.pow_le_pow_right (by omega) (by omega)
structure Lb (n x:Nat):Prop where
 pos:0<x
 le:x<=BB^8
 eq:∃f,x<=f/\wJ n=wI n f x
theorem Lb.start{n:Nat}(h:n<mK)(hn:n<BB^16):Lb n (rp n):=⟨(wK h hn).1,(wK h hn).2.1,_,nL _,rfl⟩
theorem Lb.sum{n x:Nat}(h:Lb n x)(hw:n<mK):x+n/x<BB^16:=by
 have h1:=h.le;have h2:n/x<=n:=Nat.div_le_self _ _;have h3:BB^8+mK<BB^16:=by decide+kernel
 omega
theorem Lb.done{n x:Nat}(h:Lb n x)(hy:¬(x+n/x)/2<x):wJ n=x:=by
 obtain⟨f,h1,h2⟩:=h.eq;cases f with
 |zero=>have:=h.pos;omega
 |succ f=>rw[h2];unfold wI;rw[if_neg hy]
theorem Lb.next{n x:Nat}(h:Lb n x)(h0:0<n)(hy: (x+n/x)/2<x):Lb n ((x+n/x)/2):=by
 obtain⟨f,h1,h2⟩:=h.eq;have hp:=h.pos;have hl:=h.le;refine⟨?_,by omega,?_⟩
 ·by_cases hx:x=1
  ·subst hx;rw[Nat.div_one];omega
  ·have:=Nat.zero_le (n/x);generalize n/x=d at*;omega
 ·cases f with
  |zero=>omega
  |succ f=>exact⟨f,by omega,by rw[h2];rw[wI];rw[if_pos hy]⟩
theorem Hn{x:Int}(h0:0<=x)(h1:x<100000):IntKind.i64.wrap x=x:=by simp[Go.IntKind.wrap,Go.IntKind.bits,Go.IntKind.signed];omega
theorem AT(w1:World)(d:Nat)(w2:World)(h:w2=((w1.alloc (.cells (bP 0) 198)).setCells w1.heap.size 0 (bP d).toList)):
  Below w1.heap.size w1 w2/\w2.aI w1.heap.size=some (bP d):=by
 subst h;refine⟨aa ((bZ _ _).alloc (nL _) _) (nL _) _ _,?_⟩;exact oH (by simp[af,aq]) (aQ _)
structure Rt (a:WI) (x:Nat) (w0 w:World) (xb:Nat):Prop where
 below:Below w0.heap.size w0 w
 ba:w.aI w0.heap.size=some (wc a)
 rr:w.aI (w0.heap.size+1)=some (eE false false 0)
 bx:w.aI xb=some (bP x)
 ge:w0.heap.size+1<xb
theorem Rt.lt{a:WI}{x:Nat}{w0 w:World}{xb:Nat}(h:Rt a x w0 w xb):xb<w.heap.size:=ab h.bx
theorem Rt.more{a:WI}{x:Nat}{w0 w w':World}{xb:Nat}(h:Rt a x w0 w xb)(hb:Below w.heap.size w w'):Rt a x w0 w' xb:=by have h1:=h.lt;have h2:=h.ge;exact⟨h.below.trans (hb.mono (by omega)),(ah hb (by omega)).trans h.ba,(ah hb (by omega)).trans h.rr,(ah hb h1).trans h.bx,h2⟩
theorem Rt.Yj{a:WI}{x:Nat}{w0 w:World}{xb:Nat}(h:Rt a x w0 w xb){g:Nat}(hg:xb<g)(vs:List Value):Rt a x w0 (w.setCells g 0 vs) xb:=by have h2:=h.ge;exact⟨aa h.below (by omega) _ _,(ay _ _ _ _ _ (by omega)).trans h.ba,(ay _ _ _ _ _ (by omega)).trans h.rr,(ay _ _ _ _ _ (by omega)).trans h.bx,h2⟩
theorem Rt.put{a:WI}{x y:Nat}{w0 w:World}{xb:Nat}(h:Rt a x w0 w xb):Rt a y w0 (w.setCells xb 0 (bP y).toList) xb:=by have h2:=h.ge;exact⟨aa h.below (by omega) _ _,(ay _ _ _ _ _ (by omega)).trans h.ba,(ay _ _ _ _ _ (by omega)).trans h.rr,AS h.bx (aQ _) (aQ _),h2⟩
theorem Qv{x y:Nat}(hx:x<BB^16)(hy:y<BB^16)(h:bP x=bP y):x=y:=by
 have h1:j8 x y=true:=(yR x y).2 fun i hi=>by have h2:=fx x i hi;rw[h,fx y i hi] at h2;simp only[oI,Value.int.injEq,true_and] at h2;omega
 rw[iC hx hy] at h1;simpa using h1
open Classical in
noncomputable def UH(w:World)(g:Nat):Nat:=if h:∃x,x<BB^16/\w.aI g=some (bP x) then Classical.choose h else 0
theorem Ho{w:World}{g x:Nat}(hx:x<BB^16)(h:w.aI g=some (bP x)):UH w g=x:=by have he:∃x,x<BB^16/\w.aI g=some (bP x):=⟨x,hx,h⟩;unfold UH;rw[dif_pos he];obtain⟨h1,h2⟩:=Classical.choose_spec he;exact(Qv hx h1 (Option.some.inj (h.symm.trans h2))).symm
theorem qq(a:WI)(w:World)(h:a.over=true∨a.over=false/\(a.neg=true∨a.neg=false/\a.abs=0)):Calls prog 287 #[.agg (wc a)] w fun e w'=>e= .returned (.tuple #[.agg (wc (iV a).1),.int .i64 (iV a).2])/\Below w.heap.size w w':=by
 have k1: ((w.alloc (.cells (wc a) 200)).alloc (.cells (eE false false 0) 200)).aI (w.heap.size+1)=some (eE false false 0):=by simp[af,aq]
 have B0:Hid (Below w.heap.size w ((w.alloc (.cells (wc a) 200)).alloc (.cells (eE false false 0) 200))):=((bZ _ _).alloc (nL _) _).alloc (by simp) _;rcases h with h|⟨h,h1|⟨h1,h2⟩⟩
 ·have HN:Hid (iV a=(rh false 0,2)):=by unfold Hid iV;rw[if_pos h]
  go_enter func287,ntmps287;go_wp2_with fail;rw[HN.o,pD];exact bodyPost_ret (aA (fn:=Tryz.f287) rfl rfl (fW (ee k1 (bT _ _ _)) (bT _ _ _))) rfl ⟨rfl,aa B0.o (by omega) _ _⟩
 ·have HN:Hid (iV a=(rh false 0,1)):=by unfold Hid iV;rw[if_neg (by simp[h]),if_pos h1]
  go_enter func287,ntmps287;go_wp2_with fail;rw[HN.o,pD];exact bodyPost_ret (aA (fn:=Tryz.f287) rfl rfl (fW (ee k1 (bT _ _ _)) (bT _ _ _))) rfl ⟨rfl,aa B0.o (by omega) _ _⟩
 ·have HN:Hid (iV a=(a,0)):=by unfold Hid iV;rw[if_neg (by simp[h]),if_neg (by simp[h1]),if_pos h2]
  have he:j8 a.abs 0=true:=by rw[iC a.bQ (show 0<BB^16 by decide+kernel),h2];rfl
  clear h2;go_enter func287,ntmps287;go_wp2_with fail;rw[HN.o];exact bodyPost_ret (aA (fn:=Tryz.f287) rfl rfl (fW (ee k1 (cP _)) (cP _))) rfl ⟨rfl,aa B0.o (by omega) _ _⟩
theorem Jp(a:WI)(w:World)(ho:a.over=false)(hn:a.neg=false)(h:¬a.abs=0):Calls prog 287 #[.agg (wc a)] w fun e w'=>e= .returned (.tuple #[.agg (wc (iV a).1),.int .i64 (iV a).2])/\Below w.heap.size w w':=by
 have HN:Hid (iV a=(rh false (wJ a.abs),0)):=by unfold Hid iV;rw[if_neg (by simp[ho]),if_neg (by simp[hn]),if_neg h]
 have he:j8 a.abs 0=false:=by rw[iC a.bQ (show 0<BB^16 by decide+kernel)];simpa using h
 have h11:pZ 1=bP 1:=wq 1 (by decide);have k1: ((w.alloc (.cells (wc a) 200)).alloc (.cells (eE false false 0) 200)).aI w.heap.size=some (wc a):=by simp[af,aq]
 have k2: ((w.alloc (.cells (wc a) 200)).alloc (.cells (eE false false 0) 200)).aI (w.heap.size+1)=some (eE false false 0):=by simp[af,aq]
 have B0:Hid (Below w.heap.size w ((w.alloc (.cells (wc a) 200)).alloc (.cells (eE false false 0) 200))):=((bZ _ _).alloc (nL _) _).alloc (by simp) _;have H0:=qD (Nat.pos_of_ne_zero h);have HW:=qD a.pB;have HA:=qD a.bQ;have HR:=qD (wK a.pB a.bQ);obtain⟨m,hm⟩:∃m,eJ a.abs=m:=⟨_,rfl⟩;obtain⟨k,hk⟩:∃k,(m+1)/2=k:=⟨_,rfl⟩;have HX0:Hid (rp a.abs=2^k):=by unfold Hid rp;rw[hm,hk]
 rw[hm,hk] at HR;have hmw:IntKind.i64.wrap ((m:Int)+1)=((m+1:Nat):Int):=by rw[show((m:Int)+1)=((m+1:Nat):Int) by omega];have:=HR.o.2.2;exact Hn (by omega) (by omega)
 have HB:Hid (∀(W:World) g (h:fG W g 2 a.abs),Calls prog 288 #[.pointer (some ⟨g,2,none⟩)] W fun e w'=>e= .returned (.int .i64 (m:Nat))/\W=w'):=fun W g h=>by have:=wu g 2 a.abs W h;rwa [hm] at this
 have hkw:IntKind.i64.wrap ((k:Nat):Int)=((k:Nat):Int):=Hn (by omega) (by have:=HR.o.2.2;omega);have hkd: ((m+1:Nat):Int)/2=(k:Int):=by omega
 have hkt:Int.tdiv ((m+1:Nat):Int) 2=(k:Int):=by rw[Int.tdiv_eq_ediv_of_nonneg (by omega)];exact hkd
 have hq:wrap64 (Int.tdiv ((m:Int)+1) 2)=(k:Int):=by have h9:Int.tdiv ((m:Int)+1) 2=(k:Int):=hkt;rw[h9];rw[<-hkw];simp[wrap64,Go.IntKind.wrap,Go.IntKind.bits,Go.IntKind.signed];omega
 have HUP:Hid (∀(W:World) g (h:fG W g 0 1),Calls prog 292 #[.pointer (some ⟨g,0,none⟩),.int .i64 (k:Nat)] W fun e w'=>e= .returned (.agg (bP (rp a.abs)))/\Below W.heap.size W w'):=fun W g h=>by
  have:=LS g 0 1 k W h HR.o.2.2
  rwa [Nat.one_mul,<-HX0.o] at this
 have h1b:1<BB^16:=by decide+kernel
 have H1:=qD h1b;clear h hm hk h1b hkw hkd hkt;go_enter func287,ntmps287;go_wp2_with fail;obtain⟨w1,hw1⟩:∃w1,w1=((((w.alloc (.cells (wc a) 200)).alloc (.cells (eE false false 0) 200)).alloc (.cells (bP 0) 198)).setCells (w.heap.size+1+1) 0 (bP 1).toList):=⟨_,rfl⟩;rw[<-hw1];obtain⟨o1,o2⟩:=AT ((w.alloc (.cells (wc a) 200)).alloc (.cells (eE false false 0) 200)) 1 w1 (by rw[hw1];simp);simp only[World.size_alloc] at o1 o2;have e1:w1.aI w.heap.size=some (wc a):=(ah o1 (by omega)).trans k1;have e2:w1.aI (w.heap.size+1)=some (eE false false 0):=(ah o1 (by omega)).trans k2;have B1:=qD (B0.o.trans (o1.mono (by omega)));have z1:w.heap.size+1+1<w1.heap.size:=ab o2;have O2:=qD o2;have E1:=qD e1;have E2:=qD e2;clear hw1 o1 k1 k2 B0 o2 e1 e2;refine(HB.o _ _ (bA E1.o a.bQ)).mono ?_;rintro e w2 ⟨rfl,rfl⟩;go_wp2_with fail;refine(HUP.o _ _ (dp O2.o H1.o)).mono ?_;rintro e w2 ⟨rfl,hb2⟩;have R2:Hid (w2.aI w.heap.size=some (wc a)/\w2.aI (w.heap.size+1)=some (eE false false 0)/\Below w.heap.size w w2/\w.heap.size+1+1<w2.heap.size):=⟨(ah hb2 (by omega)).trans E1.o,(ah hb2 (by omega)).trans E2.o,B1.o.trans (hb2.mono (by omega)),nU z1 hb2.size⟩;have HD:Hid (∀x,0<x->x<=BB^8->∀w,Calls prog 240 #[.agg (bP a.abs),.agg (bP x)] w fun e w'=>e= .returned (.tuple #[.agg (bP (a.abs/x)),.agg (bP (a.abs%x))])/\Below w.heap.size w w'):=fun x h1 h2 w=>wH a.abs x w HA.o (Nat.lt_of_le_of_lt h2 (by decide+kernel)) h1;clear hb2 HB HUP O2 E1 E2 B1 z1 HX0 HR H1 hq;go_wp2_with fail
 go_loopw [6,7,8,9] (fun x6 x7 x8 x9 wr=>∃x:Nat,Hid (Lb a.abs x)/\Hid (Rt a x w wr w2.heap.size)) (fun _ _ _ _ wr=>UH wr w2.heap.size)
 case atStart=>
  refine⟨_,Lb.start HW.o HA.o,?_⟩;obtain⟨o1,o2⟩:=AT w2 (rp a.abs) _ rfl;have hz:=R2.o.2.2.2;exact⟨R2.o.2.2.1.trans (o1.mono (by omega)),(ah o1 (by omega)).trans R2.o.1,(ah o1 (by omega)).trans R2.o.2.1,o2,by omega⟩
 case round=>
  clear R2;obtain⟨x,hx,hr⟩:=hrel;have k1:=hr.o.ba;have kx:=hr.o.bx;have l1:=hr.o.lt;have l2:=hr.o.ge;have HXB:Hid (x<BB^16):=Nat.lt_of_le_of_lt hx.o.le (by decide+kernel);obtain⟨xb,hxb⟩:∃xb,w2.heap.size=xb:=⟨_,rfl⟩;rw[hxb] at hr kx l1 l2 ⊢;go_wp2_with fail;refine(HD.o x hx.o.pos hx.o.le _).mono ?_;rintro e w3 ⟨rfl,hb3⟩;have R3:=qD (hr.o.more hb3);have l3:xb<w3.heap.size:=R3.o.lt;clear hb3 k1 kx l1;go_upto_region 10 with(fail);obtain⟨w4,hw4⟩:∃w4,w4=((((w3.alloc (.cells (bP 0) 198)).alloc (.cells (bP 0) 198)).setCells w3.heap.size 0 (bP (a.abs/x)).toList).setCells (w3.heap.size+1) 0 (bP (a.abs%x)).toList):=⟨_,rfl⟩;rw[<-hw4];obtain⟨o4,kq,_⟩:=CO w3 _ _ w4 hw4;have R4:=qD (R3.o.more o4);have kx4:=R4.o.bx;obtain⟨q,hq⟩:∃q,a.abs/x=q:=⟨_,rfl⟩;have HQ:Hid (q<BB^16):=by unfold Hid;rw[<-hq];exact Nat.lt_of_le_of_lt (Nat.div_le_self _ _) HA.o
  have HSM:Hid (x+q<BB^16):=by unfold Hid;rw[<-hq];exact hx.o.sum HW.o
  have HDN:Hid (wJ a.abs=wJ a.abs/\(¬(x+q)/2<x->wJ a.abs=x)/\((x+q)/2<x->Lb a.abs ((x+q)/2))):=by
   refine⟨rfl,fun h=>?_,fun h=>?_⟩
   ·rw[<-hq] at h;exact hx.o.done h
   ·rw[<-hq] at h ⊢;exact hx.o.next H0.o h
  have m4:w3.heap.size<w4.heap.size:=ab (by rw[hq] at kq;exact kq);rw[hq] at kq ⊢;have KQ:=qD kq;have KX4:=qD kx4;clear hw4 o4 hq kq kx4 R3 HD;go_wp2_with fail;refine(AH _ _ _ _ _ _ _ (dp KX4.o HXB.o) (dp KQ.o HQ.o)).mono ?_;rintro e w5 ⟨rfl,hb5⟩;have R5:=qD (R4.o.more hb5);clear hb5 KQ KX4 R4;go_upto_region 11 with(fail);obtain⟨w6,hw6⟩:∃w6,w6=((w5.alloc (.cells (bP 0) 198)).setCells w5.heap.size 0 (bP (x+q)).toList):=⟨_,rfl⟩;rw[<-hw6];obtain⟨o6,ky⟩:=AT w5 _ w6 hw6;have R6:=qD (R5.o.more o6);have l5:xb<w5.heap.size:=R5.o.lt;have KY:=qD ky;clear hw6 o6 ky R5;go_wp2_with fail;refine(CG _ _ _ 1 _ (dp KY.o HSM.o) (by omega)).mono ?_;rintro e w7 ⟨rfl,hb7⟩;have R7:=qD (R6.o.more hb7);have ky7:w7.aI w5.heap.size=some (bP (x+q)):=(ah hb7 (ab KY.o)).trans KY.o;clear hb7 R6 KY;go_upto_region 12 with(fail);obtain⟨y,hy⟩:∃y,(x+q)/2=y:=⟨_,rfl⟩;rw[hy] at HDN;obtain⟨w8,hw8⟩:∃w8,w8=w7.setCells w5.heap.size 0 (bP y).toList:=⟨_,rfl⟩;have R8:Hid (Rt a x w w8 xb):=by rw[hw8];exact R7.o.Yj l5 _
  have ky8:w8.aI w5.heap.size=some (bP y):=by rw[hw8];exact AS ky7 (aQ _) (aQ _)
  have HY:Hid (y<BB^16):=by unfold Hid;rw[<-hy];exact Nat.lt_of_le_of_lt (Nat.div_le_self _ _) HSM.o
  rw[hy,<-hw8];have HCM:=qD (lS _ 0 y _ 0 x w8 (dp ky8 HY.o) (dp R8.o.bx HXB.o));have kx8:=R8.o.bx;have hne1:¬w5.heap.size=xb:=by omega
  have hne2:¬xb=w5.heap.size:=by omega
  clear hw8 hy R7 ky7;by_cases hyx:y<x
  ·rw[AO hyx] at HCM;have HNX:=qD (HDN.o.2.2 hyx);have HLT:=qD hyx;clear hyx;go_wp2_with (go_at_call 289;refine(HCM.o).mono ?_;rintro e w9 ⟨rfl,nd,rfl⟩);go_roundw
   case rel=>exact⟨y,HNX.o,(R8.o.more (below_drewN (bZ _ _) nd)).put⟩
   case measure=>
    have hp:Rt a y w ((w8.drewN nd).setCells xb 0 (bP y).toList) xb:=(R8.o.more (below_drewN (bZ _ _) nd)).put;rw[Ho HY.o hp.bx,Ho HXB.o hr.o.bx];exact HLT.o
  ·have hc:=uM (Nat.le_of_not_lt hyx);have HFN:=qD (HDN.o.2.1 hyx);have HMD:=qD (fun w=>lg false x HXB.o w);generalize pT y x=c at*;clear hyx;go_wp2_with (go_at_call 289;refine(HCM.o).mono ?_;rintro e w9 ⟨rfl,nd,rfl⟩);refine(HMD.o _).mono ?_;rintro e w9 ⟨rfl,hb9⟩;have R9:=qD ((R8.o.more (below_drewN (bZ _ _) nd)).more hb9);have k9:=R9.o.rr;clear hb9;go_wp2_with fail;rw[HN.o,HFN.o];exact bodyPost_ret (aA (fn:=Tryz.f287) rfl rfl (fW (ee k9 (cP _)) (cP _))) rfl ⟨rfl,aa R9.o.below (by omega) _ _⟩
theorem Jq(a:WI)(w:World):Calls prog 287 #[.agg (wc a)] w fun e w'=>e= .returned (.tuple #[.agg (wc (iV a).1),.int .i64 (iV a).2])/\Below w.heap.size w w':=by
 cases h1:a.over
 ·cases h2:a.neg
  ·by_cases h3:a.abs=0
   ·exact qq a w (.inr ⟨h1,.inr ⟨h2,h3⟩⟩)
   ·exact Jp a w h1 h2 h3
  ·exact qq a w (.inr ⟨h1,.inl h2⟩)
 ·exact qq a w (.inl h1)
end Go.Proofs.Yq
namespace Go.Proofs.Yq
open RowKit Ev
open Tryz
noncomputable section
theorem Qw(a b:WI):-9223372036854775808<=(afc a b).2/\(afc a b).2<=9223372036854775807:=by
 unfold afc;split
 ·exact⟨by decide,by decide⟩
 ·split
  ·exact⟨by decide,by decide⟩
  ·exact⟨show(-9223372036854775808:Int)<=0 by decide,show(0:Int)<=9223372036854775807 by decide⟩
theorem Mv(a:WI):-9223372036854775808<=(iV a).2/\(iV a).2<=9223372036854775807:=by
 unfold iV;split
 ·exact⟨by decide,by decide⟩
 ·split
  ·exact⟨by decide,by decide⟩
  ·split <;> exact⟨show(-9223372036854775808:Int)<=0 by decide,show(0:Int)<=9223372036854775807 by decide⟩
def Yr:Ts WI [.one .w,.one .w]->Ts WI [.one .w,.one .i]:=fun a:Ts WI [.one .w,.one .w]=>(((afc a.1 a.2.1).1,(⟨(afc a.1 a.2.1).2,Qw a.1 a.2.1⟩:ae),()):Ts WI [.one .w,.one .i])
def S7:Ts WI [.one .w]->Ts WI [.one .w,.one .i]:=fun a:Ts WI [.one .w]=>(((iV a.1).1,(⟨(iV a.1).2,Mv a.1⟩:ae),()):Ts WI [.one .w,.one .i])
theorem UI:aZ prog 192 [.one .w,.one .w] [.one .w,.one .i] Yr:=
 ⟨by kernel_rfl,fun(a:WI×WI×Unit) r w=>by have h:=Mu a.1 a.2.1 w;rw[j9 r,j9 r,j9 r] at h;exact h⟩
theorem Qx:aZ prog 287 [.one .w] [.one .w,.one .i] S7:=
 ⟨by kernel_rfl,fun(a:WI×Unit) r w=>by have h:=Jq a.1 w;rw[j9 r,j9 r] at h;exact h⟩
structure Sg where
 T:vR WI
 ok:T.ok prog
def Sg.C(s:Sg):Cx WI:=xQ prog Zw (uy prog) cls s.T []
theorem Sg.c(s:Sg):iO s.C:=pr (cl:=cls) mM yU nA wz s.ok trivial
def Sg.F(s:Sg)(k:Nat)(n:FuncId)(A R:List Ty):Ts WI A->Ts WI R:=qY s.C k n A R
theorem Sg.k(s:Sg){k:Nat}{n:FuncId}{A R:List Ty}(hc:dP prog n=true:=by kernel_rfl)(h:∀a,GR s.C k n A R a=true:=by intro a;kernel_rfl):aZ prog n A R (s.F k n A R):=Ax s.c hc h
def Sg.n(s:Sg){n:FuncId}{A R:List Ty}{F:Ts WI A->Ts WI R}(h:aZ prog n A R F):Sg:=⟨entry n A R F::s.T,eb h,s.ok⟩
def S0:Sg:=⟨entry 192 _ _ Yr::entry 287 _ _ S7::Yn,eb UI,eb Qx,Qi⟩
def abX:=S0.F 4 191 [.one .w,.one .i] [.one .i,.one .i]
theorem Ys:aZ prog 191 _ _ abX:=S0.k
def UJ:=S0.n Ys
def abY:=UJ.F 4 236 [.one .w,.one .w] [.one .w,.one .i]
theorem Yt:aZ prog 236 _ _ abY:=UJ.k
def UK:=UJ.n Yt
def abZ:=UK.F 4 153 [.one .i,.one .i,.one .i] [.one .i,.one .i]
theorem Yu:aZ prog 153 _ _ abZ:=UK.k
def UM:=UK.n Yu
def ab0:=UM.F 4 182 [.one .i,.one .i,.one .i] [.one .i,.one .i]
theorem Yv:aZ prog 182 _ _ ab0:=UM.k
def UO:=UM.n Yv
def ab1:=UO.F 4 354 [.one .w,.one .w] [.one .i]
theorem Yw:aZ prog 354 _ _ ab1:=UO.k
def UP:=UO.n Yw
def ab2:=UP.F 4 348 [.one .w,.one .w] [.one .i,.one .i]
theorem Yx:aZ prog 348 _ _ ab2:=UP.k
def UQ:=UP.n Yx
def ab3:=UQ.F 4 347 [.one .w,.one .w] [.one .i,.one .i]
theorem Yy:aZ prog 347 _ _ ab3:=UQ.k
def UR:=UQ.n Yy
def ab4:=UR.F 4 346 [.one .w,.one .w] [.one .i,.one .i]
theorem Yz:aZ prog 346 _ _ ab4:=UR.k
def US:=UR.n Yz
def ab5:=US.F 4 237 [.one .w] [.one .i,.one .i]
theorem YA:aZ prog 237 _ _ ab5:=US.k
def UT:=US.n YA
def ab6:=UT.F 4 286 [.one .w] [.one .i,.one .i]
theorem YB:aZ prog 286 _ _ ab6:=UT.k
def UU:=UT.n YB
def ab7:=UU.F 4 188 [.one .i] [.one .i]
theorem YC:aZ prog 188 _ _ ab7:=UU.k
def UW:=UU.n YC
def ab8:=UW.F 4 235 [.one .i] [.one .i]
theorem YD:aZ prog 235 _ _ ab8:=UW.k
def UX:=UW.n YD
def ab9:=UX.F 4 352 [.one .i] [.one .b]
theorem YE:aZ prog 352 _ _ ab9:=UX.k
def UY:=UX.n YE
def aca:=UY.F 4 340 [.st [.i,.i,.i]] [.one .b]
theorem YF:aZ prog 340 _ _ aca:=UY.k
def UZ:=UY.n YF
def acb:=UZ.F 4 330 [.st [.i,.i,.i]] [.st [.i,.i,.i]]
theorem YG:aZ prog 330 _ _ acb:=UZ.k
def U0:=UZ.n YG
def acd:=U0.F 4 208 [.one .i,.one .i] [.one .w]
theorem YH:aZ prog 208 _ _ acd:=U0.k
def U1:=U0.n YH
def ace:=U1.F 4 178 [.one .w,.one .w,.one .w] [.one .w]
theorem YI:aZ prog 178 _ _ ace:=U1.k
def U6:=U1.n YI
def acf:=U6.F 4 209 [.one .w,.one .w,.one .w] [.one .b]
theorem YJ:aZ prog 209 _ _ acf:=U6.k
def U7:=U6.n YJ
def acg:=U7.F 4 136 [.st [.i,.i,.i]] [.one .w]
theorem YK:aZ prog 136 _ _ acg:=U7.k
def U8:=U7.n YK
def ach:=U8.F 4 331 [.st [.i,.i,.i],.st [.i,.i]] [.one .w]
theorem YL:aZ prog 331 _ _ ach:=U8.k
def U9:=U8.n YL
def aci:=U9.F 4 206 [.one .i,.one .i,.one .i] [.one .w]
theorem YM:aZ prog 206 _ _ aci:=U9.k
def Va:=U9.n YM
def acj:=Va.F 4 159 [.st [.i,.i,.i],.st [.i,.i]] [.one .b]
theorem YN:aZ prog 159 _ _ acj:=Va.k
def Vb:=Va.n YN
def F94:=Vb.F 4 94 [.st [.i,.i],.one .i] [.one .b]
theorem ack:aZ prog 94 _ _ F94:=Vb.k
def S94:=Vb.n ack
def F45:=S94.F 4 45 [.st [.i,.i]] [.one .b]
theorem YO:aZ prog 45 _ _ F45:=S94.k
def S45:=S94.n YO
def F84:=S45.F 4 84 [.st [.i,.i,.i,.i,.i]] [.one .b]
theorem YP:aZ prog 84 _ _ F84:=S45.k
def S84:=S45.n YP
def Vc:=S84.F 4 114 [.st [.i,.i,.i,.i,.i],.st [.i,.i]] [.one .b]
theorem S8:aZ prog 114 _ _ Vc:=S84.k
def Vd:=S84.n S8
def F81:=Vd.F 4 81 [.one .i] [.one .b]
theorem acm:aZ prog 81 _ _ F81:=Vd.k
def S81:=Vd.n acm
def F40:=S81.F 4 40 [.st [.i,.i],.one .i] [.st [.i,.i,.i,.i,.i],.one .i]
theorem YQ:aZ prog 40 _ _ F40:=S81.k
def S40:=S81.n YQ
def F95:=S40.F 4 95 [.st [.i,.i,.i,.i,.i],.st [.i,.i]] [.st [.i,.i,.i,.i,.i],.one .i]
theorem acn:aZ prog 95 _ _ F95:=S40.k
def S95:=S40.n acn
def aco:=S95.F 4 137 [.st [.i,.i,.i,.i,.i]] [.one .i]
theorem YR:aZ prog 137 _ _ aco:=S95.k
def Ve:=S95.n YR
def acp:=Ve.F 4 180 [.st [.i,.i,.i,.i,.i]] [.one .i]
theorem YS:aZ prog 180 _ _ acp:=Ve.k
def Vf:=Ve.n YS
def acq:=Vf.F 4 335 [.st [.i,.i,.i,.i,.i],.st [.i,.i]] [.one .i,.one .i]
theorem YT:aZ prog 335 _ _ acq:=Vf.k
def Vg:=Vf.n YT
def acr:=Vg.F 4 140 [.st [.i,.i,.i,.i,.i],.st [.i,.i,.i,.i,.i]] [.st [.i,.i,.i,.i,.i],.one .i]
theorem YU:aZ prog 140 _ _ acr:=Vg.k
def Vh:=Vg.n YU
def F96:=Vh.F 4 96 [.st [.i,.i,.i,.i,.i],.one .i] [.st [.i,.i,.i,.i,.i],.one .i]
theorem acs:aZ prog 96 _ _ F96:=Vh.k
def XW:=Vh.n acs
theorem acu(a:Ts WI [.st [.i,.i,.i,.i,.i],.one .i,.one .i]):Ay XW.C 4 313 [.st [.i,.i,.i,.i,.i],.one .i,.one .i] [.st [.i,.i,.i,.i,.i],.one .i] [true,true,false,true,true] a=true:=by kernel_rfl
def acv:Ts WI [.st [.i,.i,.i,.i,.i],.one .i,.one .i]->Ts WI [.st [.i,.i,.i,.i,.i],.one .i]:=qY XW.C 4 313 [.st [.i,.i,.i,.i,.i],.one .i,.one .i] [.st [.i,.i,.i,.i,.i],.one .i]
theorem YV:aZ prog 313 [.st [.i,.i,.i,.i,.i],.one .i,.one .i] [.st [.i,.i,.i,.i,.i],.one .i] acv:=
 LC XW.c (by kernel_rfl) acu (fun a h=>by
  have h3: ((j0 XW.C 4 313 (Ts.enc [.st [.i,.i,.i,.i,.i],.one .i,.one .i] a) []).conds [true,true,false,true,true])[3]? =some (decide ((a.2.2.1:ae).val>0)==true):=by kernel_rfl
  have h4: ((j0 XW.C 4 313 (Ts.enc [.st [.i,.i,.i,.i,.i],.one .i,.one .i] a) []).conds [true,true,false,true,true])[4]? =some (decide ((a.2.2.1:ae).val=0)):=by kernel_rfl
  rw[h] at h3 h4;simp at h3 h4;omega)
def Vi:=XW.n YV
def acw:=Vi.F 4 350 [.st [.i,.i],.one .i] [.one .b]
theorem YW:aZ prog 350 _ _ acw:=Vi.k
def Vj:=Vi.n YW
def acx:=Vj.F 4 323 [.st [.i,.i,.i,.i,.i]] [.st [.w,.w,.w,.w,.w,.w,.w],.one .i]
theorem YX:aZ prog 323 _ _ acx:=Vj.k
def Vk:=Vj.n YX
def acy:=Vk.F 4 337 [.st [.i,.i,.i,.i,.i,.i]] [.one .b]
theorem YY:aZ prog 337 _ _ acy:=Vk.k
def Vl:=Vk.n YY
def acz:=Vl.F 4 351 [.st [.i,.i,.i,.i,.i,.i]] [.st [.w,.w,.w,.w,.w,.w,.w],.one .i]
theorem YZ:aZ prog 351 _ _ acz:=Vl.k
def Vm:=Vl.n YZ
def acA:=Vm.F 4 333 [.st [.w,.w,.w,.w,.w,.w,.w],.st [.w,.w,.w,.w,.w,.w,.w],.one .i] [.st [.w,.w,.w,.w,.w,.w,.w],.one .i]
theorem Y0:aZ prog 333 _ _ acA:=Vm.k
def Vn:=Vm.n Y0
def acB:=Vn.F 4 343 [.st [.w,.w,.w,.w,.w,.w,.w]] [.one .b]
theorem Y1:aZ prog 343 _ _ acB:=Vn.k
def Vo:=Vn.n Y1
def acC:=Vo.F 4 342 [.st [.w,.w,.w,.w,.w,.w,.w],.one .w] [.one .w]
theorem Y2:aZ prog 342 _ _ acC:=Vo.k
def Vp:=Vo.n Y2
def acD:=Vp.F 4 334 [.st [.w,.w,.w,.w,.w,.w,.w]] [.st [.i,.i,.i,.i,.i],.one .i]
theorem Y3:aZ prog 334 _ _ acD:=Vp.k
def Vq:=Vp.n Y3
def acE:=Vq.F 4 324 [.st [.w,.w,.w,.w,.w,.w,.w],.st [.w,.w,.w,.w,.w,.w,.w],.one .i,.one .i] [.st [.i,.i,.i,.i,.i],.one .i]
theorem Y4:aZ prog 324 _ _ acE:=Vq.k
def Vr:=Vq.n Y4
def acF:=Vr.F 4 316 [.st [.i,.i,.i,.i,.i],.st [.i,.i,.i,.i,.i],.one .i] [.st [.i,.i,.i,.i,.i],.one .i]
theorem Y5:aZ prog 316 _ _ acF:=Vr.k
def Vs:=Vr.n Y5
def acG:=Vs.F 4 339 [.st [.i,.i,.i,.i,.i],.st [.i,.i,.i,.i,.i,.i],.one .i] [.st [.i,.i,.i,.i,.i],.one .i]
theorem Y6:aZ prog 339 _ _ acG:=Vs.k
def Vt:=Vs.n Y6
def acH:=Vt.F 4 325 [.one .i,.one .i] [.one .b]
theorem Y7:aZ prog 325 _ _ acH:=Vt.k
def Vu:=Vt.n Y7
def acI:=Vu.F 4 336 [.one .i,.one .i,.one .i,.one .i,.one .i] [.one .i,.one .i,.one .i]
theorem Y8:aZ prog 336 _ _ acI:=Vu.k
def Vv:=Vu.n Y8
def acJ:=Vv.F 4 326 [.st [.i,.i,.i,.i,.i],.st [.i,.i,.i,.i,.i],.one .i,.one .i] [.st [.i,.i,.i,.i,.i,.i],.one .i]
theorem Y9:aZ prog 326 _ _ acJ:=Vv.k
def Vw:=Vv.n Y9
def acK:=Vw.F 4 320 [.st [.i,.i,.i,.i,.i],.one .i] [.st [.i,.i,.i,.i,.i],.one .i]
theorem Za:aZ prog 320 _ _ acK:=Vw.k
def Vx:=Vw.n Za
def acL:=Vx.F 4 312 [.one .i] [.one .b]
theorem Zb:aZ prog 312 _ _ acL:=Vx.k
def Vy:=Vx.n Zb
def Vz:=Vy.F 4 301 [.one .i,.one .i,.one .i] [.one .i]
theorem S9:aZ prog 301 _ _ Vz:=Vy.k
def VA:=Vy.n S9
def VB:=VA.F 4 296 [.st [.i,.i,.i,.i,.i],.one .i,.one .i,.one .i,.one .i] [.st [.i,.i,.i,.i,.i],.one .i]
theorem Ta:aZ prog 296 _ _ VB:=VA.k
def VC:=VA.n Ta
def acM:=VC.F 4 152 [.one .i,.one .i,.one .i] [.one .b]
theorem Zc:aZ prog 152 _ _ acM:=VC.k
def VD:=VC.n Zc
def acN:=VD.F 4 151 [.one .i,.one .i,.one .i] [.one .i]
theorem Zd:aZ prog 151 _ _ acN:=VD.k
def VE:=VD.n Zd
def VF:=VE.F 4 108 [.one .i,.one .i] [.one .i]
theorem Tb:aZ prog 108 _ _ VF:=VE.k
def VG:=VE.n Tb
def VH:=VG.F 4 110 [.one .i,.one .i,.one .i] [.one .i,.one .i]
theorem Tc:aZ prog 110 _ _ VH:=VG.k
def VI:=VG.n Tc
def acO:=VI.F 4 317 [.one .i,.one .i] [.one .i,.one .i,.one .i]
theorem Ze:aZ prog 317 _ _ acO:=VI.k
def VJ:=VI.n Ze
def acP:=VJ.F 4 238 [.one .i] [.one .b]
theorem Zf:aZ prog 238 _ _ acP:=VJ.k
def VK:=VJ.n Zf
def acQ:=VK.F 4 190 [.one .i,.one .i,.one .i] [.st [.i,.i,.i,.i,.i]]
theorem Zg:aZ prog 190 _ _ acQ:=VK.k
def VL:=VK.n Zg
def acR:=VL.F 4 318 [.st [.i,.i],.st [.i,.i]] [.st [.i,.i]]
theorem Zh:aZ prog 318 _ _ acR:=VL.k
def VM:=VL.n Zh
def VN:=VM.F 4 302 [.st [.i,.i,.i,.i],.one .i,.one .i] [.one .i,.one .i,.one .i]
theorem Td:aZ prog 302 _ _ VN:=VM.k
def VO:=VM.n Td
def acS:=VO.F 4 196 [.one .i] [.one .b]
theorem Zi:aZ prog 196 _ _ acS:=VO.k
def VP:=VO.n Zi
def VQ:=VP.F 4 156 [.one .i,.one .i,.one .i,.one .i] [.one .i]
theorem Te:aZ prog 156 _ _ VQ:=VP.k
def VR:=VP.n Te
def F82:=VR.F 4 82 [.one .i] [.one .b]
theorem Zj:aZ prog 82 _ _ F82:=VR.k
def S82:=VR.n Zj
def VS:=S82.F 4 115 [.one .i] [.one .i]
theorem Tf:aZ prog 115 _ _ VS:=S82.k
def VT:=S82.n Tf
def AU:=VT.F 4 249 [.one .i,.one .i] [.one .i]
theorem Zk:aZ prog 249 _ _ AU:=VT.k
def VU:=VT.n Zk
def VV:=VU.F 4 247 [.one .i,.one .i] [.one .b]
theorem Tg:aZ prog 247 _ _ VV:=VU.k
def VW:=VU.n Tg
theorem VX(x:Int):¬(aeV ((aeV (2*x)).val+1)).val=0:=by show ¬IntKind.i64.wrap (IntKind.i64.wrap (2*x)+1)=0;rw[oc,oc];split <;> split <;> omega
def acT:=VW.F 4 185 [.one .i,.one .i] [.one .b]
theorem Zl:aZ prog 185 _ _ acT:=VW.k
def VY:=VW.n Zl
def acU:=VY.F 4 184 [.one .i] [.one .b]
theorem Zm:aZ prog 184 _ _ acU:=VY.k
def VZ:=VY.n Zm
def acV:=VZ.F 4 183 [.st [.i,.i,.i,.i,.i,.i,.i,.i,.i,.i,.i,.i,.i,.i,.i]] [.st [.i,.i,.i,.i,.i,.i,.i,.i,.i,.i,.i,.i,.i,.i,.i],.one .b]
theorem Zn:aZ prog 183 _ _ acV:=VZ.k
def V0:=VZ.n Zn
def V1:=V0.F 4 141 [.st [.i,.i,.i,.i,.i,.i,.i,.i,.i,.i,.i,.i,.i,.i,.i]] [.one .b]
theorem Th:aZ prog 141 _ _ V1:=V0.k
def V2:=V0.n Th
def V3:=V2.F 4 101 [.one .i] [.one .b]
theorem Ti:aZ prog 101 _ _ V3:=V2.k
def Mw:=V2.n Ti
def acW:=Mw.F 4 134 [.one .i,.one .i,.one .i] [.one .b]
theorem Zo:aZ prog 134 _ _ acW:=Mw.k
def V5:=Mw.n Zo
def F83:=V5.F 4 83 [.st [.i,.i,.i,.i,.i,.i,.i,.i,.i,.i,.i]] [.one .b]
theorem Zp:aZ prog 83 _ _ F83:=V5.k
def S83:=V5.n Zp
def V6:=S83.F 4 146 [.st [.i,.i,.i,.i,.i,.i,.i,.i,.i,.i,.i,.i,.i,.i,.i]] [.one .i]
theorem Tj:aZ prog 146 _ _ V6:=S83.k
def V7:=S83.n Tj
def acX:=V7.F 4 133 [.one .i,.one .i,.one .i] [.one .b]
theorem Zq:aZ prog 133 _ _ acX:=V7.k
def V8:=V7.n Zq
def F80:=V8.F 4 80 [.st [.i,.i,.i,.i,.i,.i,.i,.i,.i,.i,.i]] [.one .b]
theorem Zr:aZ prog 80 _ _ F80:=V8.k
def Zs:=V8.n Zr
theorem acY(a:Ts WI [.one .i,.one .i,.one .i]):Ay Zs.C 4 109 [.one .i,.one .i,.one .i] [.one .i] [true] a=true:=by kernel_rfl
def V9:Ts WI [.one .i,.one .i,.one .i]->Ts WI [.one .i]:=qY Zs.C 4 109 [.one .i,.one .i,.one .i] [.one .i]
theorem Tk:aZ prog 109 [.one .i,.one .i,.one .i] [.one .i] V9:=
 LC Zs.c (by kernel_rfl) acY (fun a h=>by
  have h3: ((j0 Zs.C 4 109 (Ts.enc [.one .i,.one .i,.one .i] a) []).conds [true])[0]? =some (decide ((aeV ((aeV (2*(a.2.2.1:ae).val)).val+1)).val=0)):=by kernel_rfl
  rw[h] at h3;simp at h3;exact VX _ h3)
def Wa:=Zs.n Tk
def acZ:=Wa.F 4 197 [.one .i] [.one .b]
theorem Zt:aZ prog 197 _ _ acZ:=Wa.k
def Wb:=Wa.n Zt
def Wc:=Wb.F 4 198 [.one .i] [.one .b]
theorem Tl:aZ prog 198 _ _ Wc:=Wb.k
def Wd:=Wb.n Tl
def ac0:=Wd.F 4 138 [.one .i,.one .i] [.one .b]
theorem Zu:aZ prog 138 _ _ ac0:=Wd.k
def We:=Wd.n Zu
def F91:=We.F 4 91 [.st [.i,.i]] [.one .b]
theorem Zv:aZ prog 91 _ _ F91:=We.k
def S91:=We.n Zv
def F93:=S91.F 4 93 [.st [.i,.i]] [.one .i]
theorem Zx:aZ prog 93 _ _ F93:=S91.k
def S93:=S91.n Zx
def Wf:=S93.F 4 144 [.st [.i,.i],.st [.i,.i]] [.one .i]
theorem Tm:aZ prog 144 _ _ Wf:=S93.k
def Wg:=S93.n Tm
def ac1:=Wg.F 4 274 [.one .i] [.one .b]
theorem Zy:aZ prog 274 _ _ ac1:=Wg.k
def Wh:=Wg.n Zy
def ac2:=Wh.F 4 216 [.one .i,.one .i] [.one .b]
theorem Zz:aZ prog 216 _ _ ac2:=Wh.k
def Wi:=Wh.n Zz
def ac3:=Wi.F 4 295 [.one .i] [.one .b]
theorem ZA:aZ prog 295 _ _ ac3:=Wi.k
def Wj:=Wi.n ZA
def Wk:=Wj.F 4 254 [.one .i,.one .i] [.one .i]
theorem Tn:aZ prog 254 _ _ Wk:=Wj.k
def Wl:=Wj.n Tn
def Wm:=Wl.F 4 255 [.one .i,.one .i] [.one .i]
theorem To:aZ prog 255 _ _ Wm:=Wl.k
def Wn:=Wl.n To
end
end Go.Proofs.Yq
