/- A part of the proof. No condition. -/
import Derived.Deep.QuietTactic
import Derived.StillTail
import Derived.Lib.QuietBelow
import Derived.Lib.Hide
import Derived.KernelRfl
import Derived.Deep.MidRow
import Derived.WalkKit
import Derived.Below
set_option linter.unusedVariables false
set_option linter.unusedSectionVars false
set_option linter.unusedSimpArgs false
namespace Go
open RowKit
theorem RowKit.Hid.o{p:Prop}(h:Hid p):p:=h.out
theorem qD{p:Prop}(h:p):Hid p:=Lib.hid h
theorem gE{α:Type}{l:List α}{i:Nat}(h:i<l.length):l[i]? =some l[i]:=List.getElem?_eq_getElem h
theorem gS{α:Type}{l:List α}{i:Nat}{a:α}:l[i]? =some a↔∃h:i<l.length,l[i]=a:=List.getElem?_eq_some_iff
theorem tA{α:Type}{n:Nat}{a:α}{l:List α}: (a::l).take (n+1)=a::l.take n:=List.take_succ_cons
theorem tC{α:Type}{n:Nat}{a:α}{l:List α}: (a::l).drop (n+1)=l.drop n:=List.drop_succ_cons
theorem tD{α:Type}{l:List α}:l.take 0= []:=List.take_zero
theorem tE{α:Type}{l:List α}:l.drop 0=l:=List.drop_zero
theorem nL(n:Nat):n<=n:=Nat.le_refl n
theorem bI(a b:Bool): ((a&&b)=true)=(a=true/\b=true):=Bool.and_eq_true a b
theorem oI{α:Type}(a b:α): (some a=some b)=(a=b):=Option.some.injEq a b
theorem bZ(B:Nat)(w:World):Below B w w:=Below.refl B w
theorem nQ{n m:Nat}(h:Nat.beq n m=true):n=m:=Nat.eq_of_beq_eq_true h
theorem nM{a b:Nat}(h:a<b):a%b=a:=Nat.mod_eq_of_lt h
theorem nT{n m k:Nat}(h:n<=m)(h2:m<=k):n<=k:=Nat.le_trans h h2
theorem nU{n m k:Nat}(h:n<m)(h2:m<=k):n<k:=Nat.lt_of_lt_of_le h h2
theorem nR{n m:Nat}(k:Nat)(h:n<=m):n*k<=m*k:=Nat.mul_le_mul_right k h
theorem nC(n m:Nat):n*m=m*n:=Nat.mul_comm n m
theorem nO(a b:Nat):a<b∨b<=a:=Nat.lt_or_ge a b
theorem nE{α:Type}{l:List α}{i:Nat}(h:l.length<=i):l[i]? =none:=List.getElem?_eq_none h
theorem qH{P:Program}{f:FuncId}{args:Array Value}{v:Value}{w:World}{Q:Ending->World->Prop}(hc:Calls P f args w fun e w'=>e= .returned v/\Below w.heap.size w w')(k:∀w',Hid (Below w.heap.size w w')->Q (.returned v) w'):Calls P f args w Q:=
 hc.mono (by rintro e w' ⟨rfl,hb⟩;exact k w' hb)
end Go
namespace Go
section
variable {P:Program} {ops:Array Oper} {md:Region.Mode} {C:World->Prop}
def qJ(P:Program)(md:Region.Mode)(ops:Array Oper)(C:World->Prop)(n:Nat)(L:Array Bool->Act->Prop):Nat->Array Bool->Act->Prop
 |0,listed,a=>L listed a
 |f+1,listed,a=>
  Region.ready md ops listed≠[]/\∀i∈Region.ready md ops listed,i<n/\qOp P ops C i (qJ P md ops C n L f (listed.setIfInBounds i true)) a
theorem oa{n g:Nat}{L:Array Bool->Act->Prop}{Q':Exit->Act->World->Prop}(hL:∀listed a w,C w->L listed a->wpAny P md ops Q' g listed a w):
  ∀(f:Nat) (listed:Array Bool) (a:Act) (w:World),C w->qJ P md ops C n L f listed a->wpAny P md ops Q' (f+g) listed a w
 |0,listed,a,w,hw,h=>by rw[Nat.zero_add];exact hL _ _ _ hw h
 |f+1,listed,a,w,hw,h=>by rw[show f+1+g=(f+g)+1 by omega];exact⟨fun h0=>absurd h0 h.1,fun i hi=>wpOp_of_qOp hw (fun a' w' hw' h'=>oa hL f _ a' w' hw' h') (h.2 i hi).2⟩
theorem xJ{n i:Nat}{oi:Oper}{v:Value}{L:Array Bool->Act->Prop}(hi:ops[i]? =some oi)(hsel:∀(j:Nat) (o:Oper) cs b,ops[j]? =some o->o.op≠ .select cs b)
  (hs:Region.sinkB md ops n=true) (hc:Region.chainB md ops n=true) (hn:n<ops.size) (hin:i<n)
  (hdone:∀listed a,L listed a->∀j∈Region.ready md ops listed,n<=j):
  ∀(f:Nat) (listed:Array Bool) (a:Act),HeadInv md ops n listed->
   (∀j oj,ops[j]? =some oj->j≠i->listed.getD j true=false->(∀e∈oj.after,Region.binds md e=true->e.on≠i)->oi.apart ops oj=true)->
   i∈Region.ready md ops listed->YieldsIn P ops C oi v a->
   qJ P md ops C n L f (listed.setIfInBounds i true) (a.put oi.dst v)->qJ P md ops C n L (f+1) listed a:=by
 intro f;induction f with
 |zero=>
  intro listed a inv _ hr hy H;have hun:=(mem_ready.1 hr).1;refine⟨fun h=>(by rw[h] at hr;cases hr),fun j hj=>?_⟩;have hjn:j<n:=by
   rcases nO j n with h|h
   ·exact h
   ·exact absurd hj (tail_waits hs hc hn inv _ i rfl hin hun j h)
  refine⟨hjn,?_⟩;by_cases hji:j=i
  ·subst hji;exact hy.qOp hi H
  ·have:=hdone _ _ H j (ready_mono hj hji);omega
 |succ f ih=>
  intro listed a inv hfree hr hy H;have hun:=(mem_ready.1 hr).1;refine⟨fun h=>(by rw[h] at hr;cases hr),fun j hj=>?_⟩;have hjn:j<n:=by
   rcases nO j n with h|h
   ·exact h
   ·exact absurd hj (tail_waits hs hc hn inv _ i rfl hin hun j h)
  refine⟨hjn,?_⟩;by_cases hji:j=i
  ·subst hji;exact hy.qOp hi H
  ·have h1:=(H.2 j (ready_mono hj hji)).2;obtain⟨hjun,oj,hoj,hall⟩:=mem_ready.1 hj;have hnot:∀e∈oj.after,Region.binds md e=true->e.on≠i:=fun e he hb heq=>by have h1:=hall e he hb;rw[heq,getD_both hun] at h1;cases h1
   have h2:=qOp_put hoj (hfree j oj hoj hji hjun hnot) (fun cs b=>hsel i oi cs b hi) (fun cs b=>hsel j oj cs b hoj) hy h1;have hfree':∀k ok,ops[k]? =some ok->k≠i->(listed.setIfInBounds j true).getD k true=false->
     (∀e∈ok.after,Region.binds md e=true->e.on≠i)->oi.apart ops ok=true:=fun k ok hk hki hun hno=>by
    refine hfree k ok hk hki ?_ hno;by_cases hjk:j=k
    ·subst hjk;exact hjun
    ·rw[getD_set_ne true hjk] at hun;exact hun
   refine qOp_mono (fun a' h3=>ih (listed.setIfInBounds j true) a' (inv.set hj hjn) hfree' (ready_mono hr (Ne.symm hji)) h3.1 ?_) h2;rw[Array.setIfInBounds_comm _ _ hji];exact h3.2
theorem tK{n g:Nat}{Lq:Act->Prop}(hsel:Region.noSelect ops=true)(hs:Region.sinkB md ops n=true)(hc:Region.chainB md ops n=true)(hn:n<ops.size):
  ∀(l:List Oper) (k:Nat) (listed:Array Bool) (a:Act),(∀j,j<l.length->l[j]? =ops[k+j]?)->k+l.length=n->HeadInv md ops n listed->
  Region.lexHead md ops g l.length k listed=true->wpQuiet P ops C Lq l a->
  qJ P md ops C n (fun listed' a'=>Region.seqB md ops g n listed'=true/\Lq a') l.length listed a
 | [],k,listed,a,_,hk,_,hB,h=>by
  have:k=n:=by simpa using hk
  subst this;exact⟨by simpa[Region.lexHead] using hB,h⟩
 |o::l,k,listed,a,hl,hk,inv,hB,h=>by
  have h0:ops[k]? =some o:=by simpa using(hl 0 (by simp)).symm
  simp only[List.length_cons,Region.lexHead,bI] at hB;obtain⟨⟨hr,hf⟩,hB'⟩:=hB;have hkn:k<n:=by simp only[List.length_cons] at hk;omega
  have hr':k∈Region.ready md ops listed:=by simpa using hr
  have hst:qOp P ops C k (wpQuiet P ops C Lq l) a:=by unfold qOp;simp only[h0];exact h
  obtain⟨v,hy,hK⟩:=yieldsIn_of_qOp h0 hst;exact xJ h0 (Region.noSelect_spec hsel) hs hc hn hkn (fun listed' a' hL=>seqB_ready hL.1) l.length listed a inv (Region.free_spec h0 hf) hr' hy
   (tK hsel hs hc hn l (k+1) _ _ (fun j hj=>by have:=hl (j+1) (by simp;omega);simpa[Nat.add_assoc,Nat.add_comm 1 j] using this) (by simp only[List.length_cons] at hk;omega) (inv.set hr' hkn) hB' hK)
theorem jC{Q Q':Act->Prop}(h:∀a,Q a->Q' a):∀{l:List Oper} {a:Act},wpQuiet P ops C Q l a->wpQuiet P ops C Q' l a
 | [],a,hh=>h a hh
 |o::l,a,hh=>by
  unfold wpQuiet at hh ⊢;split
  ·rename_i hw;rw[if_pos hw] at hh;exact Oper.quiet_mono (fun a' h'=>jC h h') hh
  ·rename_i hw;rw[if_neg hw] at hh;exact jC h hh
theorem jJ{id:Nat}{Q:Exit->Act->World->Prop}{a:Act}{w:World}{l:List Oper}(n:Nat)(hm:P.follows .mixedOrders=true)(hB:Region.lexTailB .any l.toArray n=true)(hC:C {w with drawn:=w.drawn+1})
  (h:wpQuiet P l.toArray C (fun a'=>∀w',C w'->wpList P l.toArray Q (l.drop n) a' w') (l.take n) a): (Code.region id l.toArray true).wp P Q a w:=by
 simp only[Region.lexTailB,bI,decide_eq_true_eq] at hB;obtain⟨⟨⟨⟨hsel,hn⟩,hs⟩,hc⟩,hlex⟩:=hB;have hn':n<l.length:=by simpa using hn
 have htl: (l.take n).length=n:=by simp;omega
 have hdl: (l.drop n).length=l.toArray.size-n:=by simp
 have inv0:HeadInv .any l.toArray n (Array.replicate l.toArray.size false):=
  ⟨by simp,fun j oj _ hl=>(by rw[getD_replicate_false] at hl;cases hl),fun t _ ht=>getD_in (by simpa using ht) (getD_replicate_false _ _)⟩
 have H:=tK (md:= .any) (C:=C) (g:=l.toArray.size-n) hsel hs hc hn (l.take n) 0 _ a (fun j hj=>by
  have hj':j<n:=by rw[htl] at hj;exact hj
  simp[hj']) (by simpa using htl) inv0 (by rw[htl];exact hlex) h
 refine wp_region_any hm ?_;have:=oa (Q':=Q) (g:=l.toArray.size-n) (fun listed a' w' hw' hL=>by
  have:=wpAny_of_seq (md:= .any) (Q':=Q) (l.drop n) n listed a' w' (fun j=>by simp[List.getElem?_drop]) (by rw[hdl];exact hL.1) (hL.2 w' hw')
  rwa [hdl] at this) _ _ _ _ hC H
 rw[htl,show n+(l.toArray.size-n)=l.toArray.size by omega] at this;exact this
theorem ar{id:Nat}{Q:Exit->Act->World->Prop}{a:Act}{w:World}{l:List Oper}(n:Nat)
  (h:wpQuiet P l.toArray (fun w'=>∃p:Regrown,w'=Sort.grow (redrawn w p.d) p.os) (fun a'=>∀w',RowKit.Below w.heap.size w w'->wpList P l.toArray Q (l.drop n) a' w') (l.take n) a) (hm:P.follows .mixedOrders=true:=by kernel_rfl) (hB:Region.lexTailB .any l.toArray n=true:=by kernel_rfl): (Code.region id l.toArray true).wp P Q a w:=by
 refine jJ (C:=fun w'=>∃p:Regrown,w'=Sort.grow (redrawn w p.d) p.os) n hm hB ⟨⟨w.drawn+1,#[]⟩,by rw[Sort.grow_empty];rfl⟩ ?_;refine jC ?_ h;rintro a' ha' w' ⟨p,rfl⟩;exact ha' _ (below_regrown w p.d p.os)
theorem aY{id:Nat}{Q:Exit->Act->World->Prop}{a:Act}{w:World}{l:List Oper}
  (h:wpQuiet P l.toArray (fun w'=>∃p:Regrown,w'=Sort.grow (redrawn w p.d) p.os) (fun a'=>∀w',RowKit.Below w.heap.size w w'->Q .normal a' w') l a) (hm:P.follows .mixedOrders=true:=by kernel_rfl) (hB:Region.lexB .any l.toArray=true:=by kernel_rfl): (Code.region id l.toArray true).wp P Q a w:=by
 refine wp_region_quiet_below hm hB ?_;refine jC ?_ h;rintro a' ha' w' ⟨p,rfl⟩;exact ha' _ (below_regrown w p.d p.os)
end
end Go
namespace Go
open RowKit Go.Sort
def World.aI(w:World)(g:Nat):Option (Array Value):=match w.heap[g]? with
 |some (.cells cs _ (0,0))=>some cs
 |_=>none
def Obj.row:Obj->Option (Array Value)
 | .cells cs _ (0,0)=>some cs
 |_=>none
@[go_sem] theorem aq (cs:Array Value) (t:TypeId):Obj.row (.cells cs t (0,0))=some cs:=rfl
theorem eR(w:World)(g:Nat):w.aI g=(w.heap[g]?).bind Obj.row:=by
 unfold World.aI;cases w.heap[g]? with
 |none=>rfl
 |some o=>unfold Obj.row;split <;> simp_all
theorem iL{w:World}{g:Nat}{cs:Array Value}:w.aI g=some cs↔∃t,w.heap[g]? =some (.cells cs t (0,0)):=by
 unfold World.aI;constructor
 ·intro h;split at h
  ·rename_i h';injection h with h;subst h;exact⟨_,h'⟩
  ·cases h
 ·rintro⟨t,h⟩;rw[h];rfl
theorem Ew{w:World}{g:Nat}{cs:Array Value}{t:TypeId}(h:w.heap[g]? =some (.cells cs t (0,0))):w.aI g=some cs:=iL.2 ⟨t,h⟩
theorem ab{w:World}{g:Nat}{cs:Array Value}(h:w.aI g=some cs):g<w.heap.size:=by obtain⟨t,h⟩:=iL.1 h;exact(Array.getElem?_eq_some_iff.1 h).1
theorem ao{w:World}{g:Nat}{cs:Array Value}(h:w.aI g=some cs)(i:Nat):w.cell? ⟨g,i,none⟩=cs[i]?:=by obtain⟨t,h⟩:=iL.1 h;simp[World.cell?,h]
theorem ax{w:World}{g:Nat}{cs:Array Value}(h:w.aI g=some cs)(i:Nat):w.frozen? ⟨g,i,none⟩=false:=by obtain⟨t,h⟩:=iL.1 h;simp[World.frozen?,h]
@[go_sem] theorem af (w:World) (o:Obj) (g:Nat): (w.alloc o).aI g=if g=w.heap.size then o.row else w.aI g:=by rw[eR,eR];show((w.heap.push o)[g]?).bind Obj.row=_;rw[Array.getElem?_push];split <;> rfl
@[go_sem] theorem uX (w:World) (g:Nat):w.drew.aI g=w.aI g:=rfl
@[go_sem] theorem XQ (w:World) (n g:Nat): (w.drewN n).aI g=w.aI g:=rfl
theorem Px(o:Obj)(i:Nat)(v:Value):Obj.row (match o with| .cells c elem frozen=> .cells (c.setIfInBounds i v) elem frozen|o=>o)=(Obj.row o).map (·.setIfInBounds i v):=by
 unfold Obj.row;cases o <;> try rfl
 rename_i c e fr;obtain⟨a,b⟩:=fr;cases a <;> cases b <;> rfl
@[go_sem] theorem bw (w:World) (g' i:Nat) (v:Value) (g:Nat): (w.setCell ⟨g',i,none⟩ v).aI g=if g'=g then(w.aI g).map (·.setIfInBounds i v) else w.aI g:=by
 rw[eR,eR];simp only[World.setCell,Array.getElem?_modify,Option.isSome_none,Bool.false_eq_true,if_false];split
 ·rename_i h;subst h;cases h:w.heap[g']? with
  |none=>rfl
  |some o=>simp only[Option.map_some,Option.bind_some];exact Px o i v
 ·rfl
@[go_sem] theorem Yc (w:World) (d:Nat) (os:Array Obj) (g:Nat) (h:g<w.heap.size): (grow (redrawn w d) os).aI g=w.aI g:=by rw[eR,eR];simp[grow,redrawn,Array.getElem?_append,h]
@[go_sem] theorem XR (w:World) (d:Nat) (os:Array Obj) (b i:Nat) (h:b<w.heap.size): (grow (redrawn w d) os).cell? ⟨b,i,none⟩=w.cell? ⟨b,i,none⟩:=
 (below_regrown w d os).cell (p:=⟨b,i,none⟩) h
@[go_sem] theorem Sw (w:World) (d:Nat) (os:Array Obj) (b i:Nat) (h:b<w.heap.size): (grow (redrawn w d) os).frozen? ⟨b,i,none⟩=w.frozen? ⟨b,i,none⟩:=
 (below_regrown w d os).frozen (p:=⟨b,i,none⟩) h
theorem ah{B:Nat}{w w':World}(h:Below B w w'){g:Nat}(hg:g<B):w'.aI g=w.aI g:=by rw[eR,eR,h.block g hg]
def BD(o:Nat)(cs cur:Array Value):Array Value:=cur.extract 0 o++cs++cur.extract (o+cs.size) cur.size
theorem fT{cs cur:Array Value}(h:cs.size=cur.size):BD 0 cs cur=cs:=by unfold BD;rw[h];simp
theorem qK{o:Nat}{cs cur:Array Value}(h:o+cs.size<=cur.size)(i:Nat): (BD o cs cur)[i]? =if o<=i/\i<o+cs.size then cs[i-o]? else cur[i]?:=by
 unfold BD;rw[Array.getElem?_append,Array.getElem?_append];have e1: (cur.extract 0 o).size=o:=by simp;omega
 have e2: (cur.extract 0 o++cs).size=o+cs.size:=by rw[Array.size_append,e1]
 rw[e2,e1];by_cases h1:i<o
 ·rw[if_pos (by omega),if_pos h1,if_neg (by omega),Array.getElem?_extract,if_pos (by omega)];simp
 ·by_cases h2:i<o+cs.size
  ·rw[if_pos (by omega),if_neg h1,if_pos ⟨by omega,h2⟩]
  ·rw[if_neg (by omega),if_neg (by omega),Array.getElem?_extract];by_cases h3:i<cur.size
   ·rw[if_pos (by omega)];congr 1;omega
   ·rw[if_neg (by omega),Array.getElem?_eq_none (by omega)]
@[simp,go_sem] theorem xK (b:Nat):∀(vs:List Value) (o:Nat) (w:World),(w.setCells b o vs).heap.size=w.heap.size
 | [],_,_=>rfl
 |v::r,o,w=>by rw[World.setCells,xK b r (o+1)];simp[World.setCell]
theorem cC(b:Nat):∀(vs:List Value) (o:Nat) (w:World) (g:Nat),g≠b->(w.setCells b o vs).heap[g]? =w.heap[g]?
 | [],_,_,_,_=>rfl
 |v::r,o,w,g,h=>by rw[World.setCells,cC b r (o+1) _ g h];exact Below.heap_setCell w ⟨b,o,none⟩ v g h
theorem ez(b:Nat):∀(vs:List Value) (o:Nat) (w:World),(w.setCells b o vs).os=w.os/\(w.setCells b o vs).tape=w.tape/\(w.setCells b o vs).output=w.output
 | [],_,_=>⟨rfl,rfl,rfl⟩
 |v::r,o,w=>by rw[World.setCells];exact ez b r (o+1) _
theorem aa{B:Nat}{w w':World}(h:Below B w w'){b:Nat}(hb:B<=b)(o:Nat)(vs:List Value):Below B w (w'.setCells b o vs):=
 h.trans ⟨(ez b vs o w').1,(ez b vs o w').2.1,(ez b vs o w').2.2,by simp,fun k hk=>cC b vs o w' k (by omega)⟩
theorem bp(b:Nat):∀(vs:List Value) (o:Nat) (w:World) (cur:Array Value),w.aI b=some cur->o+vs.length<=cur.size->(w.setCells b o vs).aI b=some (BD o vs.toArray cur)
 | [],o,w,cur,h,hs=>by rw[World.setCells,h];congr 1;apply Array.ext_getElem?;intro i;rw[qK (by simpa using hs),if_neg (by simp)]
 |v::r,o,w,cur,h,hs=>by
  have h1: (w.setCell ⟨b,o,none⟩ v).aI b=some (cur.setIfInBounds o v):=by rw[bw,if_pos rfl,h];rfl
  simp only[List.length_cons] at hs;rw[World.setCells,bp b r (o+1) _ _ h1 (by simp;omega)];congr 1;apply Array.ext_getElem?;intro i;rw[qK (by simp;omega),qK (by simp;omega)];simp only[List.size_toArray,List.length_cons];by_cases h0:i=o
  ·subst h0;rw[if_neg (by omega),if_pos (by omega),Array.getElem?_setIfInBounds_self_of_lt (by omega)];simp
  ·by_cases h2:o+1<=i/\i<o+1+r.length
   ·rw[if_pos h2,if_pos (by omega)];obtain⟨j,rfl⟩:∃j,i=o+1+j:=⟨i-(o+1),by omega⟩;rw[show o+1+j-(o+1)=j by omega,show o+1+j-o=j+1 by omega];simp
   ·rw[if_neg h2,if_neg (by omega),Array.getElem?_setIfInBounds_ne (by omega)]
theorem ay(b:Nat)(vs:List Value)(o:Nat)(w:World)(g:Nat)(h:g≠b): (w.setCells b o vs).aI g=w.aI g:=by rw[eR,eR,cC b vs o w g h]
def Ey(w:World)(b o:Nat)(vs:List Value):Option (Array Value):=(w.setCells b o vs).aI b
def TI(w:World)(b o:Nat)(vs:List Value):Option (Array Value)->Option (Array Value)
 |some cur=>if o+vs.length<=cur.size then some (BD o vs.toArray cur) else Ey w b o vs
 |none=>Ey w b o vs
@[go_sem] theorem XS (w:World) (b o:Nat) (vs:List Value) (cur:Array Value):TI w b o vs (some cur)=if o+vs.length<=cur.size then some (BD o vs.toArray cur) else Ey w b o vs:=rfl
@[go_sem] theorem Le (w:World) (b o:Nat) (vs:List Value): (w.setCells b o vs).aI b=TI w b o vs (w.aI b):=by
 unfold TI;split
 ·rename_i cur h;split
  ·rename_i hs;exact bp b vs o w cur h hs
  ·rfl
 ·rfl
@[go_sem] theorem XT {cs cur:Array Value} (h:cs.size=cur.size):BD 0 cs cur=cs:=fT h
@[go_sem] theorem uv (w:World) (b o:Nat) (vs:List Value) (g:Nat) (h:g≠b): (w.setCells b o vs).aI g=w.aI g:=ay b vs o w g h
@[go_sem] theorem En (w:World) (b o:Nat) (vs:List Value) (g i:Nat) (h:¬g=b): (w.setCells b o vs).cell? ⟨g,i,none⟩=w.cell? ⟨g,i,none⟩:=
 World.cell?_setCells_out b vs o w ⟨g,i,none⟩ (fun e _=>absurd e h)
@[go_sem] theorem K7 (w:World) (b o:Nat) (vs:List Value) (a:Addr): (w.setCells b o vs).frozen? a=w.frozen? a:=World.frozen?_setCells b vs o w a
section
variable {P:Program}
def qL(P:Program)(t:TypeId)(a:Addr)(w:World):Result Value:=(loadVar t a).run P w
def uF(P:Program)(t:TypeId)(n:Nat)(g o:Nat)(w:World):Option (Array Value)->Result Value
 |some cs=>if o+n<=cs.size then .ok (.agg (cs.extract o (o+n))) w else qL P t ⟨g,o,none⟩ w
 |none=>qL P t ⟨g,o,none⟩ w
theorem aV(t:TypeId)(n:Nat)(d:TypeDesc)(hu:P.underlying t=some d)(hd:d.isRow=true)(hi: (P.info? t).map (·.size)=some n)(g o:Nat)(w:World):
  (loadVar t ⟨g,o,none⟩).run P w=uF P t n g o w (w.aI g):=by
 unfold uF;split
 ·rename_i cs h;split
  ·rename_i hs;obtain⟨ty,hg⟩:=iL.1 h;have hr:=World.rangeAt_of_block (w:=w) hg o n;have:=run_loadVar_mid (P:=P) w g o t (cs.extract o (o+n)).toList d hr hu hd (by rw[hi];simp;omega);simp only[Array.toArray_toList] at this;exact this
  ·rfl
 ·rfl
def bK(cs:Array Value):Bool:=cs.all (·.oneCell')
theorem iM{t:TypeId}{n:Nat}{d:TypeDesc}(hu:P.underlying t=some d)(hd:d.isRow=true)(hi: (P.info? t).map (·.size)=some n){g:Nat}{w:World}{cs:Array Value}(hb:w.aI g=some cs)(hs:cs.size=n):
  (loadVar t ⟨g,0,none⟩).run P w= .ok (.agg cs) w:=by
 rw[aV t n d hu hd hi,hb];subst hs;show(if 0+cs.size<=cs.size then Result.ok (Value.agg (cs.extract 0 (0+cs.size))) w else qL P t ⟨g,0,none⟩ w)=_;rw[if_pos (by omega)];simp
set_option linter.unusedSimpArgs false
theorem cL{fn:Func}{p:Tmp}{ty:TypeId}(h:fn.results= #[.cell p ty]){tmps:Array Value}{w:World}{a:Addr}{v:Value}(hp:tmps.getD p undef= .pointer (some a))(hl: (loadVar ty a).run P w= .ok v w):
  (results fn tmps).run P w= .ok v w:=by
 simp only[results,h];have hp':tmps[p]?.getD undef= .pointer (some a):=by simpa using hp
 simp[Sem.run_bind,Result.andThen,asAddr,hp',hl]
theorem aA{fn:Func}{p u:Tmp}{ty:TypeId}(h:fn.results= #[.cell p ty,.tmp u]){tmps:Array Value}{w:World}{a:Addr}{v:Value}(hp:tmps.getD p undef= .pointer (some a))(hl: (loadVar ty a).run P w= .ok v w):
  (results fn tmps).run P w= .ok (.tuple #[v,tmps.getD u undef]) w:=by
 simp only[results,h];have hp':tmps[p]?.getD undef= .pointer (some a):=by simpa using hp
 simp[Sem.run_bind,Result.andThen,asAddr,hp',hl]
theorem rV{fn:Func}{p q:Tmp}{ty tz:TypeId}(h:fn.results= #[.cell p ty,.cell q tz]){tmps:Array Value}{w:World}{a b:Addr}{v u:Value}(hp:tmps.getD p undef= .pointer (some a))(hl: (loadVar ty a).run P w= .ok v w)
  (hq:tmps.getD q undef= .pointer (some b)) (hm: (loadVar tz b).run P w= .ok u w):
  (results fn tmps).run P w= .ok (.tuple #[v,u]) w:=by
 simp only[results,h];have hp':tmps[p]?.getD undef= .pointer (some a):=by simpa using hp
 have hq':tmps[q]?.getD undef= .pointer (some b):=by simpa using hq
 simp[Sem.run_bind,Result.andThen,asAddr,hp',hl,hq',hm]
def rW(P:Program)(t:TypeId)(a:Addr)(v:Value)(w:World):Result Unit:=(storeVar t a v).run P w
def qM(P:Program)(t:TypeId)(n:Nat)(g o:Nat)(cs:Array Value)(w:World):Option (Array Value)->Result Unit
 |some cur=>if cs.size=n/\o+n<=cur.size/\bK cs=true then .ok () (w.setCells g o cs.toList) else rW P t ⟨g,o,none⟩ (.agg cs) w
 |none=>rW P t ⟨g,o,none⟩ (.agg cs) w
theorem aX(t:TypeId)(n:Nat)(hi: (P.info? t).map (·.size)=some n)(g o:Nat)(cs:Array Value)(w:World):
  (storeVar t ⟨g,o,none⟩ (.agg cs)).run P w=qM P t n g o cs w (w.aI g):=by
 unfold qM;split
 ·rename_i cur h;split
  ·rename_i hs;obtain⟨rfl,h2,h3⟩:=hs;refine run_storeVar_mid (P:=P) w g o t cs (fun j hj=>⟨?_,ax h _⟩) hi h3;rw[ao h,Array.getElem?_eq_getElem (by omega)];rfl
  ·rfl
 ·rfl
end
theorem kU{W w1:World}(hb:Below W.heap.size W w1)(n:Nat)(hn:n<=W.heap.size): (∀g,g<n->w1.aI g=W.aI g)/\(∀b o,b<n->w1.cell? ⟨b,o,none⟩=W.cell? ⟨b,o,none⟩)/\(∀b o,b<n->w1.frozen? ⟨b,o,none⟩=W.frozen? ⟨b,o,none⟩)/\n<=w1.heap.size:=
 ⟨fun _ h=>ah hb (nU h hn),fun b o h=>hb.cell (p:=⟨b,o,none⟩) (nU h hn),fun b o h=>hb.frozen (p:=⟨b,o,none⟩) (nU h hn),nT hn hb.size⟩
@[go_sem] theorem aeg (n:Nat): (n=n+1+1)=False:=by simp;omega
@[go_sem] theorem aeh (n:Nat): (n=n+1+1+1)=False:=by simp;omega
@[go_sem] theorem aei (n:Nat): (n=n+1+1+1+1)=False:=by simp;omega
@[go_sem] theorem aej (n:Nat): (n=n+1+1+1+1+1)=False:=by simp;omega
@[go_sem] theorem aek (n:Nat): (n=n+1+1+1+1+1+1)=False:=by simp;omega
@[go_sem] theorem ael (n:Nat): (n=n+1+1+1+1+1+1+1)=False:=by simp;omega
@[go_sem] theorem aem (n:Nat): (n=n+1+1+1+1+1+1+1+1)=False:=by simp;omega
@[go_sem] theorem aen (n:Nat): (n=n+1+1+1+1+1+1+1+1+1)=False:=by simp;omega
@[go_sem] theorem abK (n:Nat): (n=n+1+1+1+1+1+1+1+1+1+1)=False:=by simp;omega
@[go_sem] theorem abL (n:Nat): (n=n+1+1+1+1+1+1+1+1+1+1+1)=False:=by simp;omega
@[go_sem] theorem abM (n:Nat): (n=n+1+1+1+1+1+1+1+1+1+1+1+1)=False:=by simp;omega
end Go
namespace Go.Ev
open RowKit Go.Sort
section
structure aj where
 rep:Nat->(Nat->Prop)->World->Prop
 lt:∀g F w,rep g F w->∀x,F x->x<w.heap.size
 loc:∀g F w w',rep g F w->(∀x,F x->w'.heap[x]? =w.heap[x]?)->rep g F w'
def aj.non:aj:=⟨fun _ F _=>∀x,¬F x,fun _ _ _ h x hx=>absurd hx (h x),fun _ _ _ _ h _=>h⟩
class jX (Ω:Type) where
 cells:Ω->List Value
 len:Nat
 aeX:∀a,(cells a).length=len
 one:∀a v,v∈cells a->v.oneCell'=true
 Obj:Type
 Ez:Obj->aj
 EA:Bool->Obj->Obj->Option Obj
 tL:∀b x y z,EA b x y=some z->Ez z=Ez (bif b then x else y)
 K:Type
 KT:K->Type
 kd: (k:K)->KT k
 omk: (k:K)->KT k->Obj
 TJ: (k:K)->Obj->Option (KT k)
 ye:∀k x a,TJ k x=some a->Ez x=Ez (omk k a)
def Gh(Ω:Type) [jX Ω]:Type:=Option (jX.Obj Ω)
section
variable {Ω:Type} [jX Ω]
def Gh.rep:Gh Ω->aj
 |none=>aj.non
 |some x=>jX.Ez x
def Gh.merge(b:Bool):Gh Ω->Gh Ω->Option (Gh Ω)
 |none,none=>some none
 |some x,some y=>match jX.EA b x y with
  |some z=>some (some z)
  |none=>none
 |_,_=>none
def Gh.zY(b:Bool)(x y:Gh Ω):Gh Ω:=match b with|true=>x|false=>y
theorem Gh.EC{b:Bool}{x y z:Gh Ω}(h:Gh.merge b x y=some z):z.rep=(Gh.zY b x y).rep:=by
 unfold Gh.merge at h;split at h
 ·cases h;cases b <;> rfl
 ·split at h
  ·rename_i z' hz;cases h;have:=jX.tL b _ _ _ hz;cases b <;> exact this
  ·cases h
 ·cases h
end
end
section
structure ae where
 val:Int
 ok:-9223372036854775808<=val/\val<=9223372036854775807
theorem oc(n:Int):IntKind.i64.wrap n=if n%18446744073709551616>=9223372036854775808 then n%18446744073709551616-18446744073709551616 else n%18446744073709551616:=by simp[IntKind.wrap,IntKind.bits,IntKind.signed]
theorem Gz(n:Int):-9223372036854775808<=IntKind.i64.wrap n/\IntKind.i64.wrap n<=9223372036854775807:=by rw[oc];split <;> omega
def aeV(n:Int):ae:=⟨IntKind.i64.wrap n,Gz n⟩
theorem uG{n:Int}(h:-9223372036854775808<=n/\n<=9223372036854775807):IntKind.i64.wrap n=n:=by rw[oc];split <;> omega
theorem ae.wrap(x:ae):IntKind.i64.wrap x.val=x.val:=uG x.ok
theorem ae.ext'{x y:ae}(h:x.val=y.val):x=y:=by cases x;cases y;simp at h;subst h;rfl
instance:Inhabited ae:=⟨⟨0,by decide⟩⟩
inductive MV (Ω:Type) [jX Ω] where
 |i (x:ae)
 |c (x:Value)
 |v (x:Value)
 |w (a:Ω)
 |p (k off:Nat)
 |s (k off len cap:Nat)
 |t (l:List (MV Ω))
 |ag (l:List (MV Ω))
 |fn (f:FuncId) (cap:List (MV Ω))
 |z (k q off len:Nat)
 |g (x:Gh Ω)
 |r (q sz:Nat)
section
variable {Ω:Type} [jX Ω]
mutual
def MV.av(r:Nat->Nat):MV Ω->Value
 | .c x=>x
 | .v x=>x
 | .i x=> .int .i64 x.val
 | .w a=> .agg (jX.cells a).toArray
 | .p k o=> .pointer (some ⟨r k,o,none⟩)
 | .s k o l c=> .slice (some ⟨r k,o,none⟩) l c
 | .t l=> .tuple (aE r l).toArray
 | .ag l=> .agg (ai r l).toArray
 | .fn f cap=> .func (.func f) #[] (aE r cap).toArray
 | .z k q o l=> .slice (some ⟨r k,o,none⟩) l (r q)
 | .g _=> .agg #[]
 | .r _ _=> .agg #[]
def aE(r:Nat->Nat):List (MV Ω)->List Value
 | []=>[]
 |x::l=>x.av r::aE r l
def MV.cells(r:Nat->Nat):MV Ω->List Value
 | .c x=>x.cells.toList
 | .v x=>x.cells.toList
 | .i x=>[.int .i64 x.val]
 | .w a=>jX.cells a
 | .p k o=>[.pointer (some ⟨r k,o,none⟩)]
 | .s k o l c=>[.slice (some ⟨r k,o,none⟩) l c]
 | .t l=>[.tuple (aE r l).toArray]
 | .ag l=>ai r l
 | .fn f cap=>[.func (.func f) #[] (aE r cap).toArray]
 | .z k q o l=>[.slice (some ⟨r k,o,none⟩) l (r q)]
 | .g _=>[]
 | .r _ _=>[]
def ai(r:Nat->Nat):List (MV Ω)->List Value
 | []=>[]
 |x::l=>x.cells r++ai r l
end
mutual
def MV.sz:MV Ω->Nat
 | .c x=>x.cells.size
 | .v x=>x.cells.size
 | .w a=>jX.len Ω
 | .ag l=>xH l
 | .g _=>0
 | .r _ _=>0
 |_=>1
def xH:List (MV Ω)->Nat
 | []=>0
 |x::l=>x.sz+xH l
end
mutual
def MV.one:MV Ω->Bool
 | .c x=>x.cells.all (·.oneCell')
 | .v x=>x.cells.all (·.oneCell')
 | .t _=>false
 | .ag l=>rX l
 | .g _=>false
 | .r _ _=>false
 |_=>true
def rX:List (MV Ω)->Bool
 | []=>true
 |x::l=>x.one&&rX l
end
mutual
def MV.Z9(n:Nat):MV Ω->Bool
 | .p k _=>decide (k<n)
 | .s k _ _ _=>decide (k<n)
 | .t l=>Z8 n l
 | .ag l=>Z8 n l
 | .fn _ l=>Z8 n l
 | .z k q _ _=>decide (k<n)&&decide (q<n)
 | .r q _=>decide (q<n)
 |_=>true
def Z8(n:Nat):List (MV Ω)->Bool
 | []=>true
 |x::l=>x.Z9 n&&Z8 n l
end
mutual
theorem MV.aeX(r:Nat->Nat):∀x:MV Ω,(x.cells r).length=x.sz
 | .c x=>by simp[MV.cells,MV.sz]
 | .v x=>by simp[MV.cells,MV.sz]
 | .i _=>rfl
 | .w a=>by simp[MV.cells,MV.sz,jX.aeX]
 | .p _ _=>rfl
 | .s _ _ _ _=>rfl
 | .t _=>rfl
 | .ag l=>by simp only[MV.cells,MV.sz];exact cV r l
 | .fn _ _=>rfl
 | .z _ _ _ _=>rfl
 | .g _=>rfl
 | .r _ _=>rfl
theorem cV(r:Nat->Nat):∀l:List (MV Ω),(ai r l).length=xH l
 | []=>rfl
 |x::l=>by simp only[ai,xH,List.length_append,MV.aeX r x,cV r l]
end
mutual
theorem MV.uY(r:Nat->Nat):∀x:MV Ω,x.one=true->∀v∈x.cells r,v.oneCell'=true
 | .c x,h,v,hv=>by simp only[MV.one,Array.all_eq_true_iff_forall_mem] at h;exact h v (by simpa[MV.cells] using hv)
 | .v x,h,v,hv=>by simp only[MV.one,Array.all_eq_true_iff_forall_mem] at h;exact h v (by simpa[MV.cells] using hv)
 | .w a,_,v,hv=>jX.one a v hv
 | .i _,_,v,hv=>by simp[MV.cells] at hv;subst hv;rfl
 | .p _ _,_,v,hv=>by simp[MV.cells] at hv;subst hv;rfl
 | .s _ _ _ _,_,v,hv=>by simp[MV.cells] at hv;subst hv;rfl
 | .t _,h,_,_=>by simp[MV.one] at h
 | .ag l,h,v,hv=>rY r l (by simpa[MV.one] using h) v (by simpa[MV.cells] using hv)
 | .fn _ _,_,v,hv=>by simp[MV.cells] at hv;subst hv;rfl
 | .z _ _ _ _,_,v,hv=>by simp[MV.cells] at hv;subst hv;rfl
 | .g _,h,_,_=>by simp[MV.one] at h
 | .r _ _,h,_,_=>by simp[MV.one] at h
theorem rY(r:Nat->Nat):∀l:List (MV Ω),rX l=true->∀v∈ai r l,v.oneCell'=true
 | [],_,_,hv=>by simp[ai] at hv
 |x::l,h,v,hv=>by
  simp only[rX,bI] at h;simp only[ai,List.mem_append] at hv;rcases hv with hv|hv
  ·exact MV.uY r x h.1 v hv
  ·exact rY r l h.2 v hv
end
mutual
theorem MV.il{r r':Nat->Nat}{n:Nat}(e:∀k,k<n->r' k=r k):∀x:MV Ω,x.Z9 n=true->x.av r'=x.av r
 | .c x,_=>rfl
 | .v x,_=>rfl
 | .w a,_=>rfl
 | .i _,_=>rfl
 | .p k _,h=>by simp only[MV.Z9,decide_eq_true_eq] at h;simp only[MV.av,e k h]
 | .s k _ _ _,h=>by simp only[MV.Z9,decide_eq_true_eq] at h;simp only[MV.av,e k h]
 | .t l,h=>by simp only[MV.av,fo e l (by simpa[MV.Z9] using h)]
 | .ag l,h=>by simp only[MV.av,bV e l (by simpa[MV.Z9] using h)]
 | .fn f l,h=>by simp only[MV.av,fo e l (by simpa[MV.Z9] using h)]
 | .z k q _ _,h=>by simp only[MV.Z9,bI,decide_eq_true_eq] at h;simp only[MV.av,e k h.1,e q h.2]
 | .g _,_=>rfl
 | .r _ _,_=>rfl
theorem fo{r r':Nat->Nat}{n:Nat}(e:∀k,k<n->r' k=r k):∀l:List (MV Ω),Z8 n l=true->aE r' l=aE r l
 | [],_=>rfl
 |x::l,h=>by simp only[Z8,bI] at h;simp only[aE,MV.il e x h.1,fo e l h.2]
theorem MV.BE{r r':Nat->Nat}{n:Nat}(e:∀k,k<n->r' k=r k):∀x:MV Ω,x.Z9 n=true->x.cells r'=x.cells r
 | .c x,_=>rfl
 | .v x,_=>rfl
 | .w a,_=>rfl
 | .i _,_=>rfl
 | .p k _,h=>by simp only[MV.Z9,decide_eq_true_eq] at h;simp only[MV.cells,e k h]
 | .s k _ _ _,h=>by simp only[MV.Z9,decide_eq_true_eq] at h;simp only[MV.cells,e k h]
 | .t l,h=>by simp only[MV.cells,fo e l (by simpa[MV.Z9] using h)]
 | .ag l,h=>by simp only[MV.cells,bV e l (by simpa[MV.Z9] using h)]
 | .fn f l,h=>by simp only[MV.cells,fo e l (by simpa[MV.Z9] using h)]
 | .z k q _ _,h=>by simp only[MV.Z9,bI,decide_eq_true_eq] at h;simp only[MV.cells,e k h.1,e q h.2]
 | .g _,_=>rfl
 | .r _ _,_=>rfl
theorem bV{r r':Nat->Nat}{n:Nat}(e:∀k,k<n->r' k=r k):∀l:List (MV Ω),Z8 n l=true->ai r' l=ai r l
 | [],_=>rfl
 |x::l,h=>by simp only[Z8,bI] at h;simp only[ai,MV.BE e x h.1,bV e l h.2]
end
theorem fC(r:Nat->Nat):∀l:List (MV Ω),aE r l=l.map (MV.av r)
 | []=>rfl
 |x::l=>by simp[aE,fC r l]
theorem mu(r:Nat->Nat)(l:List (MV Ω))(i:Nat): (aE r l)[i]? =(l[i]?).map (MV.av r):=by rw[fC];simp
theorem rZ(r:Nat->Nat)(l:List (MV Ω)): (aE r l).length=l.length:=by rw[fC];simp
theorem sc(r:Nat->Nat)(l:List (MV Ω))(i:Nat)(x:MV Ω):aE r (l.set i x)=(aE r l).set i (x.av r):=by rw[fC,fC,List.map_set]
theorem kh(r:Nat->Nat)(l m:List (MV Ω)):aE r (l++m)=aE r l++aE r m:=by rw[fC,fC,fC,List.map_append]
theorem dT(r:Nat->Nat):∀l m:List (MV Ω),ai r (l++m)=ai r l++ai r m
 | [],_=>rfl
 |x::l,m=>by simp only[List.cons_append,ai,dT r l m,List.append_assoc]
def MV.flat:MV Ω->List (MV Ω)
 | .ag l=>l
 | .c (.agg cs)=>cs.toList.map .c
 | .v (.agg cs)=>cs.toList.map .v
 |x=>[x]
theorem kM{x:Value}(h:x.oneCell'=true):x.cells.toList= [x]:=by cases x <;> first|rfl|(simp[Value.oneCell'] at h)
theorem uZ(r:Nat->Nat):∀l:List Value,l.all (·.oneCell')=true->ai r (l.map (MV.c (Ω:=Ω)))=l
 | [],_=>rfl
 |x::l,h=>by simp only[List.all_cons,bI] at h;simp only[List.map_cons,ai,MV.cells,kM h.1,uZ r l h.2];rfl
theorem BF(r:Nat->Nat):∀l:List Value,l.all (·.oneCell')=true->ai r (l.map (MV.v (Ω:=Ω)))=l
 | [],_=>rfl
 |x::l,h=>by simp only[List.all_cons,bI] at h;simp only[List.map_cons,ai,MV.cells,kM h.1,BF r l h.2];rfl
theorem o9(r:Nat->Nat)(x:MV Ω)(h:x.one=true):ai r x.flat=x.cells r:=by
 unfold MV.flat;split
 ·rfl
 ·rename_i cs;rw[uZ]
  ·rfl
  ·simpa[MV.one,Value.cells] using h
 ·rename_i cs;rw[BF]
  ·rfl
  ·simpa[MV.one,Value.cells] using h
 ·simp[ai]
theorem jm(r:Nat->Nat)(x:MV Ω): (x.av r).cells=(x.cells r).toArray:=by cases x <;> simp[MV.av,MV.cells,Value.cells]
def MV.fits(x:MV Ω)(n:Nat):Bool:=match x with
 | .r _ _=>false
 |x=>Nat.ble x.sz n
theorem af7{x:MV Ω}{n:Nat}(h:x.fits n=true):x.sz<=n:=by
 unfold MV.fits at h;split at h
 ·cases h
 ·exact Nat.le_of_ble_eq_true h
def gT:List (MV Ω)->Nat->Option (List (MV Ω))
 |l,0=>some l
 | [],_+1=>none
 |x::l,n+1=>match x.fits (n+1) with|true=>gT l (n+1-x.sz)|false=>none
def fU:List (MV Ω)->Nat->Option (List (MV Ω))
 |_,0=>some []
 | [],_+1=>none
 |x::l,n+1=>match x.fits (n+1) with|true=>(fU l (n+1-x.sz)).map (x:: ·)|false=>none
theorem gu(r:Nat->Nat):∀(l:List (MV Ω)) (n:Nat) (m:List (MV Ω)),gT l n=some m->n<=xH l/\ai r m=(ai r l).drop n
 |l,0,m,h=>by cases l <;> · simp only[gT,oI] at h;subst h;simp
 | [],_+1,_,h=>by simp[gT] at h
 |x::l,n+1,m,h=>by
  unfold gT at h;split at h
  ·rename_i hx;have hx:=af7 hx;obtain⟨h1,h2⟩:=gu r l _ m h;refine⟨by simp only[xH];omega,?_⟩;rw[h2];simp only[ai];rw[List.drop_append,MV.aeX,List.drop_eq_nil_of_le (as:=x.cells r) (by rw[MV.aeX];exact hx),List.nil_append]
  ·cases h
theorem im(r:Nat->Nat):∀(l:List (MV Ω)) (n:Nat) (m:List (MV Ω)),fU l n=some m->n<=xH l/\xH m=n/\ai r m=(ai r l).take n
 |l,0,m,h=>by cases l <;> · simp only[fU,oI] at h;subst h;simp[xH,ai]
 | [],_+1,_,h=>by simp[fU] at h
 |x::l,n+1,m,h=>by
  unfold fU at h;split at h
  ·rename_i hx;have hx:=af7 hx;cases ht:fU l (n+1-x.sz) with
   |none=>rw[ht] at h;cases h
   |some m'=>rw[ht] at h;simp only[Option.map_some,oI] at h;subst h;obtain⟨h1,h2,h3⟩:=im r l _ m' ht;refine⟨by simp only[xH];omega,by simp only[xH];omega,?_⟩;simp only[ai];rw[h3,List.take_append,MV.aeX,List.take_of_length_le (l:=x.cells r) (by rw[MV.aeX];exact hx)]
  ·cases h
inductive Tree (α:Type) where
 |leaf (a:α)
 |ite (b:Bool) (x y:Tree α)
 |bad
namespace Tree
variable {α β:Type}
def pick:Tree α->Option α
 |leaf a=>some a
 |ite b x y=>bif b then x.pick else y.pick
 |bad=>none
def bind:Tree α->(α->Tree β)->Tree β
 |leaf a,f=>f a
 |ite b x y,f=>ite b (x.bind f) (y.bind f)
 |bad,_=>bad
def map(f:α->β):Tree α->Tree β
 |leaf a=>leaf (f a)
 |ite b x y=>ite b (x.map f) (y.map f)
 |bad=>bad
def all(p:α->Bool):Tree α->Bool
 |leaf a=>p a
 |ite _ x y=>x.all p&&y.all p
 |bad=>false
def ofOption:Option α->Tree α
 |some a=>leaf a
 |none=>bad
theorem ct(f:α->Tree β):∀(t:Tree α) (b:β),(t.bind f).pick=some b->∃a,t.pick=some a/\(f a).pick=some b
 |leaf a,b,h=>⟨a,rfl,h⟩
 |ite c x y,b,h=>by
  cases c
  ·exact ct f y b h
  ·exact ct f x b h
 |bad,_,h=>by cases h
theorem fD(f:α->β):∀(t:Tree α) (b:β),(t.map f).pick=some b->∃a,t.pick=some a/\f a=b
 |leaf a,b,h=>⟨a,rfl,by simpa[map,pick] using h⟩
 |ite c x y,b,h=>by
  cases c
  ·exact fD f y b h
  ·exact fD f x b h
 |bad,_,h=>by cases h
theorem gU{p:α->Bool}:∀(t:Tree α),t.all p=true->∃a,t.pick=some a/\p a=true
 |leaf a,h=>⟨a,rfl,h⟩
 |ite b x y,h=>by
  simp only[all,bI] at h;cases b
  ·exact gU y h.2
  ·exact gU x h.1
 |bad,h=>by cases h
theorem eF{o:Option α}{a:α}(h: (ofOption o).pick=some a):o=some a:=by
 cases o with
 |none=>cases h
 |some x=>simpa[ofOption,pick] using h
end Tree
def _root_.Go.Sem.Sx{α:Type}(P:Program):Sem α->Option α
 | .pure a=>some a
 | .program k=>(k P).Sx P
 | .mark _ k=>k.Sx P
 |_=>none
theorem zZ{α:Type}(P:Program):∀(s:Sem α) (a:α),s.Sx P=some a->∀w,s.run P w= .ok a w
 | .pure a,b,h,w=>by simp only[Sem.Sx,oI] at h;subst h;rfl
 | .program k,b,h,w=>by simp only[Sem.Sx] at h;simp only[Sem.run];exact zZ P _ b h w
 | .mark _ k,b,h,w=>by simp only[Sem.Sx] at h;simp only[Sem.run];exact zZ P _ b h w
 | .load ..,_,h,_| .store ..,_,h,_| .new ..,_,h,_| .shape ..,_,h,_| .freeze ..,_,h,_| .frozen ..,_,h,_| .getObj ..,_,h,_| .setObj ..,_,h,_| .choose ..,_,h,_| .sys ..,_,h,_| .halt ..,_,h,_=>by simp[Sem.Sx] at h
end
end
end Go.Ev
namespace Go.Ev
open RowKit Go.Sort
variable {Ω:Type} [jX Ω]
abbrev Hp(Ω:Type) [jX Ω]:=List (List (MV Ω))
def gB:List (MV Ω)->Option (Gh Ω)
 | .g x::_=>some x
 |_=>none
def dX:List (MV Ω)->Bool
 | .g _::_=>false
 |_=>true
theorem gv{l:List (MV Ω)}:dX l=true↔gB l=none:=by unfold dX gB;split <;> simp
def dq:List (MV Ω)->Option (Nat×Nat)
 | []=>none
 | .r q n::_=>some (q,n)
 |_::l=>dq l
def jY(l:List (MV Ω)):Bool:=match dq l with|none=>true|some _=>false
theorem ED{l:List (MV Ω)}:jY l=true↔dq l=none:=by unfold jY;split <;> simp_all
theorem eu{x:MV Ω}{l:List (MV Ω)}(h:∀q n,x≠ .r q n):dq (x::l)=dq l:=by cases x <;> first|rfl|exact absurd rfl (h _ _)
theorem lM:∀{l m:List (MV Ω)},dq l=none->dq (l++m)=dq m
 | [],m,_=>rfl
 |x::l,m,h=>by
  have hx:∀q n,x≠ .r q n:=fun q n e=>by subst e;cases h
  rw[eu hx] at h;rw[List.cons_append,eu hx,lM h]
theorem sd:∀{l:List (MV Ω)} {n:Nat} {m:List (MV Ω)},fU l n=some m->dq m=none
 |l,0,m,h=>by cases l <;> · simp only[fU,oI] at h;subst h;rfl
 | [],_+1,_,h=>by simp[fU] at h
 |x::l,n+1,m,h=>by
  unfold fU at h;split at h
  ·rename_i hx;cases hq:fU l (n+1-x.sz) with
   |none=>rw[hq] at h;cases h
   |some m'=>rw[hq] at h;cases h;rw[eu (fun q n e=>by subst e;cases hx),sd hq]
  ·cases h
theorem se:∀{l:List (MV Ω)} {n:Nat} {m:List (MV Ω)},gT l n=some m->dq m=dq l
 |l,0,m,h=>by cases l <;> · simp only[gT,oI] at h;subst h;rfl
 | [],_+1,_,h=>by simp[gT] at h
 |x::l,n+1,m,h=>by
  unfold gT at h;split at h
  ·rename_i hx;rw[eu (fun q n e=>by subst e;cases hx),se h]
  ·cases h
theorem sf:∀{l:List (MV Ω)},rX l=true->dq l=none
 | [],_=>rfl
 |x::l,h=>by simp only[rX,bI] at h;rw[eu (fun q n e=>by subst e;simp[MV.one] at h),sf h.2]
theorem u5{f:Value->MV Ω}(hf:∀x q n,f x≠ .r q n):∀l:List Value,dq (l.map f)=none
 | []=>rfl
 |x::l=>by rw[List.map_cons,eu (hf x),u5 hf l]
theorem IN{x:MV Ω}(h:x.one=true):dq x.flat=none:=by
 unfold MV.flat;split
 ·exact sf (by simpa[MV.one] using h)
 ·exact u5 (fun x q n e=>by cases e) _
 ·exact u5 (fun x q n e=>by cases e) _
 ·rw[eu (fun q n e=>by subst e;simp[MV.one] at h)];rfl
def ck(r:Nat->Nat)(l:List (MV Ω)):Option Nat:=(dq l).map fun p=>r p.1*p.2
theorem mw{r:Nat->Nat}{l m:List (MV Ω)}(h:dq l=dq m):ck r l=ck r m:=by unfold ck;rw[h]
theorem iy{r r':Nat->Nat}{n:Nat}(e:∀k,k<n->r' k=r k):∀l:List (MV Ω),Z8 n l=true->ck r' l=ck r l
 | [],_=>rfl
 |x::l,h=>by
  simp only[Z8,bI] at h;have ih:=iy e l h.2;by_cases hx:∃q m,x= .r q m
  ·obtain⟨q,m,rfl⟩:=hx;have:=h.1;simp only[MV.Z9,decide_eq_true_eq] at this;show some (r' q*m)=some (r q*m);rw[e q this]
  ·rw[mw (eu (fun q m e=>hx ⟨q,m,e⟩)),mw (r:=r) (eu (fun q m e=>hx ⟨q,m,e⟩)),ih]
theorem ng{r:Nat->Nat}{l:List (MV Ω)}(h:jY l=true):ck r l=none:=by unfold ck;rw[ED.1 h];rfl
def jk(w:World)(g:Nat)(vs:List Value)(o:Option Nat):Prop:=∃tail,w.aI g=some (vs++tail).toArray/\(match o with|none=>tail= []|some n=>vs.length<=n/\n<=vs.length+tail.length)
theorem jk.congr{w w':World}{g:Nat}{vs:List Value}{o:Option Nat}(h:jk w g vs o)(e:w'.aI g=w.aI g):jk w' g vs o:=by obtain⟨t,h1,h2⟩:=h;exact⟨t,e.trans h1,h2⟩
theorem jk.whole{w:World}{g:Nat}{vs:List Value}(h:jk w g vs none):w.aI g=some vs.toArray:=by obtain⟨t,h1,h2⟩:=h;rw[show t= [] from h2,List.append_nil] at h1;exact h1
theorem jk.lt{w:World}{g:Nat}{vs:List Value}{o:Option Nat}(h:jk w g vs o):g<w.heap.size:=by obtain⟨t,h1,h2⟩:=h;exact ab h1
def Holds(r:Nat->Nat)(F:Nat->Prop)(w:World)(g:Nat)(cs:List (MV Ω)):Prop:=
 match gB cs with
 |some x=>(Gh.rep x).rep g F w
 |none=>(∀x,F x↔x=g)/\jk w g (ai r cs) (ck r cs)
theorem Holds.flat{r:Nat->Nat}{F:Nat->Prop}{w:World}{g:Nat}{cs:List (MV Ω)}(h:Holds r F w g cs)(hf:dX cs=true): (∀x,F x↔x=g)/\jk w g (ai r cs) (ck r cs):=by unfold Holds at h;rw[gv.1 hf] at h;exact h
theorem Holds.of_flat{r:Nat->Nat}{F:Nat->Prop}{w:World}{g:Nat}{cs:List (MV Ω)}(hf:dX cs=true)(h1:∀x,F x↔x=g)(h2:jk w g (ai r cs) (ck r cs)):Holds r F w g cs:=by unfold Holds;rw[gv.1 hf];exact⟨h1,h2⟩
theorem Holds.lt{r:Nat->Nat}{F:Nat->Prop}{w:World}{g:Nat}{cs:List (MV Ω)}(h:Holds r F w g cs){x:Nat}(hx:F x):x<w.heap.size:=by
 unfold Holds at h;split at h
 ·exact aj.lt _ _ _ _ h x hx
 ·rw[(h.1 x).1 hx];exact h.2.lt
theorem Holds.loc{r:Nat->Nat}{F:Nat->Prop}{w w':World}{g:Nat}{cs:List (MV Ω)}(h:Holds r F w g cs)(e:∀x,F x->w'.heap[x]? =w.heap[x]?):Holds r F w' g cs:=by
 unfold Holds at h ⊢;split at h
 ·exact aj.loc _ _ _ _ _ h e
 ·exact⟨h.1,h.2.congr (by rw[eR,eR,e g ((h.1 g).2 rfl)])⟩
theorem Holds.cells{r r':Nat->Nat}{F:Nat->Prop}{w:World}{g:Nat}{cs:List (MV Ω)}(h:Holds r F w g cs)(e:ai r' cs=ai r cs)(e2:ck r' cs=ck r cs):Holds r' F w g cs:=by
 unfold Holds at h ⊢;split at h
 ·exact h
 ·rw[e,e2];exact h
theorem Holds.same{r:Nat->Nat}{F:Nat->Prop}{w:World}{g:Nat}{cs cs':List (MV Ω)}(h:Holds r F w g cs)(e1:gB cs'=gB cs)(e2:ai r cs'=ai r cs)(e3:dq cs'=dq cs):Holds r F w g cs':=by unfold Holds at h ⊢;rw[e1,e2,mw e3];exact h
def BG(r:Nat->Nat)(w:World)(H:Hp Ω):Prop:=∀k cs,H[k]? =some cs->dX cs=true->jk w (r k) (ai r cs) (ck r cs)
def dJ(H:Hp Ω)(k:Nat):Option (List (MV Ω)):=match H[k]? with
 |some l=>match dX l with
  |true=>some l
  |false=>none
 |none=>none
theorem bU{H:Hp Ω}{k:Nat}{l:List (MV Ω)}(h:dJ H k=some l):H[k]? =some l/\dX l=true:=by
 unfold dJ at h;split at h
 ·rename_i l' h1;split at h
  ·rename_i h2;cases h;exact⟨h1,h2⟩
  ·cases h
 ·cases h
def sg(w:World)(g:Nat):Option TypeId:=match w.heap[g]? with
 |some (.cells _ t _)=>some t
 |_=>none
theorem uH{w w':World}{g:Nat}(h:w'.heap[g]? =w.heap[g]?):sg w' g=sg w g:=by unfold sg;rw[h]
theorem z8(w:World)(a:Addr)(v:Value)(g:Nat):sg (w.setCell a v) g=sg w g:=by
 unfold sg;simp only[World.setCell,Array.getElem?_modify];split
 ·rename_i h;split at h
  ·cases hq:w.heap[g]? with
   |none=>rw[hq] at h;cases h
   |some o=>
    rw[hq] at h;cases o <;> simp at h
    simp[h.2.1]
  ·rw[h]
 ·rename_i h;split at h
  ·cases hq:w.heap[g]? with
   |none=>rfl
   |some o=>
    rw[hq] at h;cases o with
    |cells c e f=>exact absurd rfl (h _ _ _)
    |_=>rfl
  ·split
   ·rename_i hh;exact absurd hh (h _ _ _)
   ·rfl
theorem ma(b:Nat):∀(vs:List Value) (o:Nat) (w:World) (g:Nat),sg (w.setCells b o vs) g=sg w g
 | [],_,_,_=>rfl
 |v::r,o,w,g=>by rw[World.setCells,ma b r (o+1),z8]
structure lN where
 n:Nat
 S:Nat->Prop
structure Aa (r:Nat->Nat) (fp:Nat->Nat->Prop) (E:lN) (w0 w:World) (h:Nat->Option (List (MV Ω))):Prop where
 yf:∀i j ci cj g,h i=some ci->h j=some cj->fp i g->fp j g->i=j
 holds:∀k cs,h k=some cs->Holds r (fp k) w (r k) cs
 own:∀k cs g,h k=some cs->fp k g->E.S g∨w0.heap.size<=g
 os:w.os=w0.os
 tape:w.tape=w0.tape
 output:w.output=w0.output
 size:w0.heap.size<=w.heap.size
 dK:∀g,g<w0.heap.size->¬E.S g->w.heap[g]? =w0.heap[g]?
 ty:∀g,g<w0.heap.size->sg w g=sg w0 g
def dL(r:Nat->Nat)(E:lN)(w0 w:World)(h:Nat->Option (List (MV Ω))):Prop:=∃fp,Aa r fp E w0 w h
def Rel(r:Nat->Nat)(E:lN)(w0 w:World)(H:Hp Ω):Prop:=dL r E w0 w (fun k=>H[k]?)
theorem dL.row{r:Nat->Nat}{E:lN}{w0 w:World}{h:Nat->Option (List (MV Ω))}(hr:dL r E w0 w h){k:Nat}{cs:List (MV Ω)}(hk:h k=some cs)(hf:dX cs=true):jk w (r k) (ai r cs) (ck r cs):=by obtain⟨fp,hp⟩:=hr;exact((hp.holds k cs hk).flat hf).2
theorem Rel.uw{r:Nat->Nat}{E:lN}{w0 w:World}{H:Hp Ω}(h:Rel r E w0 w H):BG r w H:=fun k cs hk hf=>dL.row h hk hf
theorem dL.size{r:Nat->Nat}{E:lN}{w0 w:World}{h:Nat->Option (List (MV Ω))}(hr:dL r E w0 w h):w0.heap.size<=w.heap.size:=by obtain⟨fp,hp⟩:=hr;exact hp.size
theorem Aa.below{r:Nat->Nat}{fp:Nat->Nat->Prop}{E:lN}{w0 w w':World}{h:Nat->Option (List (MV Ω))}(hr:Aa r fp E w0 w h)(hb:Below w.heap.size w w'):Aa r fp E w0 w' h:=
 ⟨hr.yf,fun k cs hk=>(hr.holds k cs hk).loc fun x hx=>hb.block x ((hr.holds k cs hk).lt hx),hr.own,
  hb.os.trans hr.os,hb.tape.trans hr.tape,hb.output.trans hr.output,nT hr.size hb.size,
  fun g hg hn=>(hb.block g (nU hg hr.size)).trans (hr.dK g hg hn),fun g hg=>(uH (hb.block g (nU hg hr.size))).trans (hr.ty g hg)⟩
theorem dL.below{r:Nat->Nat}{E:lN}{w0 w w':World}{h:Nat->Option (List (MV Ω))}(hr:dL r E w0 w h)(hb:Below w.heap.size w w'):dL r E w0 w' h:=by obtain⟨fp,hp⟩:=hr;exact⟨fp,hp.below hb⟩
theorem Rel.below{r:Nat->Nat}{E:lN}{w0 w w':World}{H:Hp Ω}(h:Rel r E w0 w H)(hb:Below w.heap.size w w'):Rel r E w0 w' H:=dL.below h hb
theorem Rel.drawn{r:Nat->Nat}{E:lN}{w0 w:World}{H:Hp Ω}(h:Rel r E w0 w H):Rel r E w0 {w with drawn:=w.drawn+1} H:=
 h.below ⟨rfl,rfl,rfl,nL _,fun _ _=>rfl⟩
def fE(fp:Nat->Nat->Prop)(H:Hp Ω)(g:Nat):Prop:=∃k,k<H.length/\fp k g
structure Cx (Ω:Type) [jX Ω] where
 P:Program
 pf:FuncId->Bool
 S:FuncId->List (MV Ω)->Hp Ω->Tree (MV Ω)
 cl:FuncId->Bool
 ef:FuncId->Bool
 T:FuncId->List (MV Ω)->Hp Ω->Tree (MV Ω×Hp Ω)
 Z:TypeId->Option (List (MV Ω))
 Q:TypeId->List Value->List Value->Option Bool
def dP(P:Program)(f:FuncId):Bool:=
 match P.funcs[f]? with
 |none=>false
 |some fn=>!(fn.name== "runtime.NumGoroutine")&&fn.body.isSome
theorem nh{P:Program}{f:FuncId}(h:dP P f=true)(args:Array Value)(w:World): (callFunc f args).run P w= .ok (.enter f args) w:=by
 unfold dP at h;cases hf:P.funcs[f]? with
 |none=>rw[hf] at h;cases h
 |some fn=>
  rw[hf] at h;simp only[bI,Bool.not_eq_true'] at h;obtain⟨h1,h2⟩:=h;obtain⟨c,hc⟩:=Option.isSome_iff_exists.1 h2;have h3:fn.body.isNone=false:=by rw[hc];rfl
  simp only[callFunc,Sem.run_bind,run_program,Result.andThen_ok,hf,h1,h3,Bool.false_eq_true,if_false];rfl
def Lf(P:Program)(f:FuncId)(args:List (MV Ω))(H:Hp Ω)(x:MV Ω):Prop:=
 ∀(r:Nat->Nat) (w:World),BG r w H->Calls P f (aE r args).toArray w fun e w'=>e= .returned (x.av r)/\Below w.heap.size w w'
def Grow(r:Nat->Nat)(H:Hp Ω)(r':Nat->Nat)(H':Hp Ω):Prop:=H.length<=H'.length/\∀k,k<H.length->r' k=r k
def EE(r:Nat->Nat)(fp:Nat->Nat->Prop)(w:World)(H:Hp Ω):Prop:=
 (∀i j g,i<H.length->j<H.length->fp i g->fp j g->i=j)/\∀k cs,H[k]? =some cs->Holds r (fp k) w (r k) cs
def jK(P:Program)(f:FuncId)(args:List (MV Ω))(H:Hp Ω)(y:MV Ω×Hp Ω):Prop:=
 ∀(r:Nat->Nat) (fp:Nat->Nat->Prop) (w:World),EE r fp w H->
  Calls P f (aE r args).toArray w fun e w'=>∃r',Grow r H r' y.2/\e= .returned (y.1.av r')/\Rel r' ⟨H.length,fE fp H⟩ w w' y.2
theorem EE.rel{r:Nat->Nat}{fp:Nat->Nat->Prop}{w:World}{H:Hp Ω}(h:EE r fp w H):Rel r ⟨H.length,fE fp H⟩ w w H:=
 ⟨fp,⟨fun i j ci cj g hi hj=>h.1 i j g (gS.1 hi).1 (gS.1 hj).1,h.2,fun k cs g hk hg=> .inl ⟨k,(gS.1 hk).1,hg⟩,rfl,rfl,rfl,nL _,fun _ _ _=>rfl,fun _ _=>rfl⟩⟩
def Yd(P:Program)(f:FuncId)(l:List (MV Ω))(n c:Nat)(x:MV Ω):Prop:=
 ∀(r:Nat->Nat) (w:World) (b:Nat),w.aI b=some (ai r l).toArray->Calls P f #[.slice (some ⟨b,0,none⟩) n c] w fun e w'=>e= .returned (x.av r)/\Below w.heap.size w w'
structure iO (cx:Cx Ω):Prop where
 mixed:cx.P.follows .mixedOrders=true
 S:∀f args H x,cx.pf f=true->(cx.S f args H).pick=some x->Lf cx.P f args H x
 call:∀f,cx.pf f=true->dP cx.P f=true
 cl:∀f,cx.cl f=true->dP cx.P f=true
 T:∀f args H y,cx.ef f=true->(cx.T f args H).pick=some y->jK cx.P f args H y
 Z:∀t l,cx.Z t=some l->∃v i,cx.P.info? t=some i/\i.zero=some v/\∀r,v.cells.toList=ai r l
 Q:∀t xs ys q,cx.Q t xs ys=some q->∀w,∀x y:Operand,
  (eqGuard .eql t x y (.agg xs.toArray) (.agg ys.toArray)).run cx.P w= .ok () w/\(Op.equal t (.agg xs.toArray) (.agg ys.toArray)).run cx.P w= .ok q w
def cG(tm:List (MV Ω)):Operand->MV Ω
 | .tmp t=>(tm[t]?).getD (.c undef)
 | .const v=> .c v
 | .global g=> .v (.pointer (some ⟨g,0,none⟩))
 | .func f=> .fn f []
theorem kV{r:Nat->Nat}{tm:List (MV Ω)}{a:Act}(h:a.tmps=(aE r tm).toArray)(x:Operand):a.eval x=(cG tm x).av r:=by
 cases x with
 |tmp t=>
  simp only[Act.eval,cG,h];have: (aE r tm).toArray.getD t undef=((aE r tm)[t]?).getD undef:=by simp
  rw[this,mu];cases tm[t]? <;> rfl
 |const v=>rfl
 |global g=>rfl
 |func f=>rfl
def tag(b:Bool)(x:Value):MV Ω:=match b with|true=> .c x|false=> .v x
theorem Lg(r:Nat->Nat)(b:Bool)(x:Value): (tag (Ω:=Ω) b x).av r=x:=by cases b <;> rfl
def lO(P:Program)(s:Sem Value)(b:Bool):Tree (MV Ω):=
 match s.Sx P with
 |some x=> .leaf (tag b x)
 |none=> .bad
def MV.raw:MV Ω->Option (Value×Bool)
 | .c x=>some (x,true)
 | .v x=>some (x,false)
 | .i x=>some (.int .i64 x.val,false)
 |_=>none
theorem jL{x:MV Ω}{y:Value}{b:Bool}(h:x.raw=some (y,b))(r:Nat->Nat):x.av r=y:=by
 cases x <;> simp[MV.raw] at h
 ·exact h.1
 ·exact h.1
 ·exact h.1
def EF:List (MV Ω)->Option (List Value×Bool)
 | []=>some ([],true)
 |x::l=>match x.raw,EF l with
  |some (y,b),some (m,c)=>some (y::m,b&&c)
  |_,_=>none
theorem pe(r:Nat->Nat):∀{l:List (MV Ω)} {m:List Value} {b:Bool},EF l=some (m,b)->aE r l=m
 | [],m,b,h=>by simp[EF] at h;rw[h.1];rfl
 |x::l,m,b,h=>by
  unfold EF at h;split at h
  ·rename_i y b1 m1 c1 h1 h2;simp only[oI,Prod.mk.injEq] at h;simp only[aE,jL h1 r,pe r h2];exact h.1
  ·cases h
def MV.lone:MV Ω->Bool
 | .c x=>x.oneCell'
 | .v x=>x.oneCell'
 | .i _=>true
 | .p _ _=>true
 | .s _ _ _ _=>true
 | .fn _ _=>true
 |_=>false
theorem qf{x:MV Ω}(h:x.lone=true)(r:Nat->Nat):x.cells r= [x.av r]:=by
 cases x <;> simp[MV.lone] at h <;> simp[MV.cells,MV.av]
 ·have:=kM h;simpa using this
 ·have:=kM h;simpa using this
def shut:List (MV Ω)->MV Ω
 | [.w a]=> .w a
 |l=> .ag l
theorem yg(r:Nat->Nat)(l:List (MV Ω)): (shut l).av r= .agg (ai r l).toArray:=by
 unfold shut;split
 ·simp[MV.av,ai,MV.cells]
 ·rfl
def tM(P:Program)(t:TypeId)(l:List (MV Ω))(off:Nat):Option (MV Ω):=
 match P.underlying t,(P.info? t).map (·.size) with
 |some d,some n=>
  if d.isRow then((gT l off).bind (fU · n)).map shut
  else match gT l off with
   |some (x::_)=>if x.lone then some x else none
   |_=>none
 |_,_=>none
theorem pX{l:List Value}{o n:Nat}(h:o+n<=l.length): (l.drop o).take n=(l.toArray.extract o (o+n)).toList:=by simp[List.take_drop]
theorem yh{P:Program}{t:TypeId}{n:Nat}(h: (P.info? t).map (·.size)=some n)(w:World): (sizeOf t).run P w= .ok n w:=by
 cases hq:P.info? t with
 |none=>simp[hq] at h
 |some i=>
  have hs:i.size=n:=by simpa[hq] using h
  simp[sizeOf,typeInfo,hq,hs]
theorem mz{P:Program}{t:TypeId}{d:TypeDesc}(h:P.underlying t=some d)(w:World): (isAgg t).run P w= .ok d.isRow w:=by unfold isAgg;rw[Sem.run_bind,run_underlying h w];cases d <;> rfl
theorem u6{l m:List Value}{o n:Nat}(h:o+n<=l.length): (l++m).toArray.extract o (o+n)=l.toArray.extract o (o+n):=by apply Array.toList_inj.1;simp only[Array.toList_extract,List.extract_eq_take_drop];rw[List.drop_append_of_le_length (by omega),List.take_append_of_le_length (by simp;omega)]
theorem ni{P:Program}{t:TypeId}{l:List (MV Ω)}{off:Nat}{x:MV Ω}(h:tM P t l off=some x){r:Nat->Nat}{w:World}{g:Nat}{ex:Option Nat}(hb:jk w g (ai r l) ex):
  (loadVar t ⟨g,off,none⟩).run P w= .ok (x.av r) w:=by
 obtain⟨tail,hb,-⟩:=hb;unfold tM at h;split at h
 ·rename_i d n hd hn;split at h
  ·rename_i hrow;cases h1:gT l off with
   |none=>rw[h1] at h;cases h
   |some m=>
    rw[h1] at h;simp only[Option.bind_some] at h;cases h2:fU m n with
    |none=>rw[h2] at h;cases h
    |some m'=>
     rw[h2] at h;simp only[Option.map_some,oI] at h;subst h;obtain⟨a1,a2⟩:=gu r l off m h1;obtain⟨b1,b2,b3⟩:=im r m n m' h2;have hlen:off+n<=(ai r l).length:=by
      have: (ai r m).length=(ai r l).length-off:=by rw[a2,List.length_drop]
      rw[cV] at this;rw[cV] at this ⊢;omega
     rw[aV t n d hd hrow hn,hb];show(if off+n<=(ai r l++tail).toArray.size then _ else _)=_;rw[if_pos (by simp;omega),yg,b3,a2,pX hlen,u6 hlen]
  ·rename_i hrow;split at h
   ·rename_i y rest h1;split at h
    ·rename_i hl;simp only[oI] at h;subst h;obtain⟨a1,a2⟩:=gu r l off _ h1;have hc:w.cell? ⟨g,off,none⟩=some (y.av r):=by
      rw[ao hb];have: (ai r l)[off]? =((ai r l).drop off)[0]?:=by simp
      have hlt:off<(ai r l).length:=by
       have h2: (ai r l).drop off≠[]:=by rw[<-a2];simp[ai,qf hl]
       rcases nO off (ai r l).length with h3|h3
       ·exact h3
       ·exact absurd (List.drop_eq_nil_of_le h3) h2
      rw[List.getElem?_toArray,List.getElem?_append_left hlt,this,<-a2];simp[ai,qf hl]
     simp only[loadVar,Sem.run_bind,mz hd,Result.andThen_ok];rw[if_neg (by simpa using hrow)];simp only[run_load,hc]
    ·cases h
   ·cases h
 ·cases h
theorem yi{P:Program}{t:TypeId}{l:List (MV Ω)}{off:Nat}{x:MV Ω}(h:tM P t l off=some x)(r:Nat->Nat)(w:World):
  (part t (ai r l).toArray off).run P w= .ok (x.av r) w:=by
 unfold tM at h;split at h
 ·rename_i d n hd hn;split at h
  ·rename_i hrow;cases h1:gT l off with
   |none=>rw[h1] at h;cases h
   |some m=>
    rw[h1] at h;simp only[Option.bind_some] at h;cases h2:fU m n with
    |none=>rw[h2] at h;cases h
    |some m'=>
     rw[h2] at h;simp only[Option.map_some,oI] at h;subst h;obtain⟨a1,a2⟩:=gu r l off m h1;obtain⟨b1,b2,b3⟩:=im r m n m' h2;have hlen:off+n<=(ai r l).length:=by
      have: (ai r m).length=(ai r l).length-off:=by rw[a2,List.length_drop]
      rw[cV] at this;rw[cV] at this ⊢;omega
     simp only[part,Sem.run_bind,mz hd,Result.andThen_ok];rw[if_pos hrow];simp only[Sem.run_bind,yh hn,Result.andThen_ok,Sem.run_pure,yg,b3,a2,pX hlen]
  ·rename_i hrow;split at h
   ·rename_i y rest h1;split at h
    ·rename_i hl;simp only[oI] at h;subst h;obtain⟨a1,a2⟩:=gu r l off _ h1;have hc: (ai r l).toArray[off]? =some (y.av r):=by
      have: (ai r l)[off]? =((ai r l).drop off)[0]?:=by simp
      rw[List.getElem?_toArray,this,<-a2];simp[ai,qf hl]
     simp only[part,Sem.run_bind,mz hd,Result.andThen_ok];rw[if_neg (by simpa using hrow),hc];rfl
    ·cases h
   ·cases h
 ·cases h
end Go.Ev
namespace Go.Ev
open RowKit Go.Sort
section
variable {Ω:Type} [jX Ω]
def qN(l:List (MV Ω))(off:Nat)(x:MV Ω):Option (List (MV Ω)):=
 match fU l off,gT l off with
 |some pre,some rest=>match gT rest x.sz with
  |some post=>if x.one then some (pre++x.flat++post) else none
  |none=>none
 |_,_=>none
theorem kN{l l':List (MV Ω)}{off:Nat}{x:MV Ω}(h:qN l off x=some l')(r:Nat->Nat):
  x.one=true/\off+x.sz<=(ai r l).length/\ai r l'=(ai r l).take off++x.cells r++(ai r l).drop (off+x.sz):=by
 unfold qN at h;split at h
 ·rename_i pre rest h1 h2;split at h
  ·rename_i post h3;split at h
   ·rename_i ho;simp only[oI] at h;subst h;obtain⟨a1,a2,a3⟩:=im r _ _ _ h1;obtain⟨b1,b2⟩:=gu r _ _ _ h2;obtain⟨c1,c2⟩:=gu r _ _ _ h3;refine⟨ho,?_,?_⟩
    ·have: (ai r rest).length=(ai r l).length-off:=by rw[b2,List.length_drop]
     rw[cV,cV] at this;rw[cV];omega
    ·rw[dT,dT,a3,o9 r x ho,c2,b2,List.drop_drop]
   ·cases h
  ·cases h
 ·cases h
theorem u9(off:Nat)(c l:List Value)(h:off+c.length<=l.length):BD off c.toArray l.toArray=(l.take off++c++l.drop (off+c.length)).toArray:=by unfold BD;apply Array.toList_inj.1;simp only[Array.toList_append,Array.toList_extract,List.extract_eq_take_drop];simp;rw[List.take_of_length_le (by simp)]
theorem BH{l l':List (MV Ω)}{off:Nat}{x:MV Ω}(h:qN l off x=some l')(r:Nat->Nat):
  (ai r l').toArray=BD off (x.cells r).toArray (ai r l).toArray:=by
 obtain⟨h1,h2,h3⟩:=kN h r;rw[h3,u9 _ _ _ (by rw[MV.aeX];exact h2),MV.aeX]
def MV.TK:MV Ω->Option Value
 | .c x=>if x.oneCell' then some x else none
 | .v x=>if x.oneCell' then some x else none
 | .i x=>some (.int .i64 x.val)
 |_=>none
def yj:List (MV Ω)->Option (List Value)
 | []=>some []
 |x::l=>match x.TK,yj l with
  |some y,some m=>some (y::m)
  |_,_=>none
theorem EG{x:MV Ω}{y:Value}(h:x.TK=some y)(r:Nat->Nat):x.cells r= [y]:=by
 cases x <;> simp[MV.TK] at h
 ·subst h;rfl
 ·obtain⟨h1,rfl⟩:=h;exact kM h1
 ·obtain⟨h1,rfl⟩:=h;exact kM h1
theorem od(r:Nat->Nat):∀{l:List (MV Ω)} {m:List Value},yj l=some m->ai r l=m
 | [],m,h=>by simp[yj] at h;rw[h];rfl
 |x::l,m,h=>by
  unfold yj at h;split at h
  ·rename_i y m' h1 h2;simp only[oI] at h;simp only[ai,EG h1 r,od r h2];exact h
  ·cases h
def Py(cx:Cx Ω)(neg:Bool)(t:TypeId)(l m:List (MV Ω)):Tree (MV Ω):=
 match yj l,yj m with
 |some xs,some ys=>match cx.Q t xs ys with
  |some q=> .leaf (.v (.bool (match neg with|true=>!q|false=>q)))
  |none=> .bad
 |_,_=> .bad
def Sy(k:IntKind)(m n:Int):Tree (MV Ω):= .ite (decide (n=0)) .bad (.leaf (.v (.int k (k.wrap (m.tdiv n)))))
def Sz(k:IntKind)(m n:Int):Tree (MV Ω):= .ite (decide (n=0)) .bad (.leaf (.v (.int k (m.tmod n))))
def SA(k:IntKind)(m n:Int):Tree (MV Ω):= .ite (decide (n<0)) .bad (.leaf (.v (.int k (k.wrap (m*2^min n.toNat k.bits)))))
def SB(k:IntKind)(m n:Int):Tree (MV Ω):= .ite (decide (n<0)) .bad (.leaf (.v (.int k (m.fdiv (2^min n.toNat k.bits)))))
def Lh(P:Program)(op:BinOp)(t:TypeId)(x y:Operand)(a b:Value)(g:Bool):Tree (MV Ω):=
 lO P (do eqGuard op t x y a b;binOp op t a b) g
def EH(P:Program)(op:BinOp)(t:TypeId)(x y:Operand)(a b:Value):Tree (MV Ω):=
 match op,a,b with
 | .quo,.int k m,.int k' n=>match decide (k=k') with|true=>Sy k m n|false=> .bad
 | .rem,.int k m,.int k' n=>match decide (k=k') with|true=>Sz k m n|false=> .bad
 | .shl,.int k m,.int _ n=>SA k m n
 | .shr,.int k m,.int _ n=>SB k m n
 |op,a,b=>Lh P op t x y a b false
def MV.i64:MV Ω->Option ae
 | .i x=>some x
 | .c (.int .i64 n)=>if h:-9223372036854775808<=n/\n<=9223372036854775807 then some ⟨n,h⟩ else none
 |_=>none
theorem mC{x:MV Ω}{y:ae}(h:x.i64=some y)(r:Nat->Nat):x.av r= .int .i64 y.val:=by
 unfold MV.i64 at h;split at h
 ·simp only[oI] at h;subst h;rfl
 ·split at h
  ·simp only[oI] at h;subst h;rfl
  ·cases h
 ·cases h
def EI:MV Ω->MV Ω->Option (ae×ae×Bool)
 | .i x,.i y=>some (x,y,false)
 | .i x,Y=>(Y.i64).map fun y=>(x,y,true)
 |X,.i y=>(X.i64).map fun x=>(x,y,false)
 |_,_=>none
theorem afP{X Y:MV Ω}{x y:ae}{g:Bool}(h:EI X Y=some (x,y,g))(r:Nat->Nat):X.av r= .int .i64 x.val/\Y.av r= .int .i64 y.val:=by
 unfold EI at h;split at h
 ·simp only[oI,Prod.mk.injEq] at h;obtain⟨rfl,rfl,_⟩:=h;exact⟨rfl,rfl⟩
 ·cases hy:MV.i64 Y with
  |none=>rw[hy] at h;cases h
  |some z=>rw[hy] at h;simp only[Option.map_some,oI,Prod.mk.injEq] at h;obtain⟨rfl,rfl,_⟩:=h;exact⟨rfl,mC hy r⟩
 ·cases hy:MV.i64 X with
  |none=>rw[hy] at h;cases h
  |some z=>rw[hy] at h;simp only[Option.map_some,oI,Prod.mk.injEq] at h;obtain⟨rfl,rfl,_⟩:=h;exact⟨mC hy r,rfl⟩
 ·cases h
theorem Pz(x:ae)(n:Int):-9223372036854775808<=x.val.tmod n/\x.val.tmod n<=9223372036854775807:=by
 have h:=x.ok;have h1: (x.val.tmod n).natAbs<=x.val.natAbs:=by rw[Int.natAbs_tmod];exact Nat.mod_le _ _
 by_cases h0:0<=x.val
 ·omega
 ·have h2:x.val.tmod n= -((-x.val).tmod n):=by rw[Int.neg_tmod];simp
  have h3:0<=(-x.val).tmod n:=Int.tmod_nonneg n (by omega);omega
theorem GC(x:ae)(k:Nat):-9223372036854775808<=x.val.fdiv (2^k)/\x.val.fdiv (2^k)<=9223372036854775807:=by
 have h:=x.ok;have hp: (0:Int)<2^k:=Int.pow_pos (by omega);rw[Int.fdiv_eq_ediv_of_nonneg _ (by omega)];constructor
 ·rw[Int.le_ediv_iff_mul_le hp];have: (-9223372036854775808:Int)*2^k<=-9223372036854775808*1:=Int.mul_le_mul_of_nonpos_left (by omega) (by omega);omega
 ·have:x.val/2^k<=x.val.natAbs:=by rw[Int.ediv_le_iff_le_mul hp];have: (x.val.natAbs:Int)*1<=x.val.natAbs*2^k:=Int.mul_le_mul_of_nonneg_left (by omega) (by omega);omega
  by_cases h0:0<=x.val
  ·omega
  ·have:x.val/2^k<0:=Int.ediv_neg_of_neg_of_pos (by omega) hp;omega
def vd(g:Bool)(b:Bool)(t:Tree (MV Ω)):Tree (MV Ω):=
 match g with
 |true=>match b with
  |true=> .bad
  |false=>t
 |false=> .ite b .bad t
theorem BJ{g b:Bool}{t:Tree (MV Ω)}{X:MV Ω}(h: (vd g b t).pick=some X):b=false/\t.pick=some X:=by cases g <;> cases b <;> first|exact⟨rfl,h⟩|cases h
def GD(op:BinOp)(x y:ae)(g:Bool):Tree (MV Ω):=
 match op with
 | .add=> .leaf (.i (aeV (x.val+y.val)))
 | .sub=> .leaf (.i (aeV (x.val-y.val)))
 | .mul=> .leaf (.i (aeV (x.val*y.val)))
 | .quo=>vd g (decide (y.val=0)) (.leaf (.i (aeV (x.val.tdiv y.val))))
 | .rem=>vd g (decide (y.val=0)) (.leaf (.i ⟨x.val.tmod y.val,Pz x y.val⟩))
 | .and=> .leaf (.i (aeV (BitVec.ofInt 64 x.val&&& BitVec.ofInt 64 y.val).toNat))
 | .or=> .leaf (.i (aeV (BitVec.ofInt 64 x.val|||BitVec.ofInt 64 y.val).toNat))
 | .xor=> .leaf (.i (aeV (BitVec.ofInt 64 x.val^^^BitVec.ofInt 64 y.val).toNat))
 | .shl=>vd g (decide (y.val<0)) (.leaf (.i (aeV (x.val*2^min y.val.toNat 64))))
 | .shr=>vd g (decide (y.val<0)) (.leaf (.i ⟨x.val.fdiv (2^min y.val.toNat 64),GC x _⟩))
 | .eql=> .leaf (.v (.bool (x.val==y.val)))
 | .neq=> .leaf (.v (.bool (x.val != y.val)))
 | .lss=> .leaf (.v (.bool (decide (x.val<y.val))))
 | .leq=> .leaf (.v (.bool (decide (x.val<=y.val))))
 | .gtr=> .leaf (.v (.bool (decide (x.val>y.val))))
 | .geq=> .leaf (.v (.bool (decide (x.val>=y.val))))
 |_=> .bad
theorem vf{P:Program}{op:BinOp}{t:TypeId}{a b:Operand}{x y:ae}{g:Bool}{X:MV Ω}(h: (GD op x y g).pick=some X)(r:Nat->Nat)(w:World):
  (do eqGuard op t a b (.int .i64 x.val) (.int .i64 y.val);binOp op t (.int .i64 x.val) (.int .i64 y.val)).run P w= .ok (X.av r) w:=by
 unfold GD at h;cases op <;> simp only[Tree.pick,oI] at h <;> first
  |(subst h;rfl)
  |(subst h;simp[eqGuard,binOp,Op.intArith,Op.intBits,Op.intCmp,MV.av,aeV];done)
  |(obtain⟨h1,h2⟩:=BJ h
    simp only[Tree.pick,oI] at h2;subst h2;simp only[decide_eq_false_iff_not] at h1;simp[eqGuard,binOp,Op.intDiv,Op.shift,IntKind.bits,h1,MV.av,aeV];done)
  |cases h
def BK:Option TypeDesc->Bool
 |some (.pointer _)=>true
 |_=>false
def isFun:Option TypeDesc->Bool
 |some (.func _ _ _)=>true
 |_=>false
def SC(op:BinOp)(x:ae)(n:Int):Tree (MV Ω):=
 match op,decide (n<0) with
 | .shl,false=> .leaf (.i (aeV (x.val*2^min n.toNat 64)))
 | .shr,false=> .leaf (.i ⟨x.val.fdiv (2^min n.toNat 64),GC x _⟩)
 |_,_=> .bad
def abN:BinOp->Bool
 | .shl| .shr=>true
 |_=>false
def Li(cx:Cx Ω)(op:BinOp)(t:TypeId)(x y:Operand)(X Y:MV Ω):Tree (MV Ω):=
 match X,Y with
 | .ag l,.ag m=>match op with
  | .eql=>Py cx false t l m
  | .neq=>Py cx true t l m
  |_=> .bad
 | .p k o,.c (.pointer none)=>match op,BK (cx.P.underlying t) with
  | .eql,true=> .leaf (.c (.bool false))
  | .neq,true=> .leaf (.c (.bool true))
  |_,_=> .bad
 | .fn f l,.c .nilFunc=>match op,isFun (cx.P.underlying t) with
  | .eql,true=> .leaf (.c (.bool false))
  | .neq,true=> .leaf (.c (.bool true))
  |_,_=> .bad
 | .i a,.c (.int k n)=>match abN op with
  |true=>SC op a n
  |false=>match(MV.c (Ω:=Ω) (.int k n)).i64 with
   |some b=>GD op a b true
   |none=> .bad
 |X,Y=>match EI X Y with
  |some (a,b,g)=>GD op a b g
  |none=>match X.raw,Y.raw with
   |some (a,g),some (b,true)=>Lh cx.P op t x y a b g
   |some (a,g),some (b,false)=>EH cx.P op t x y a b
   |_,_=> .bad
theorem vg{α:Type}{a b:α}(h: (Tree.leaf a).pick=some b):a=b:=by simpa[Tree.pick] using h
theorem fu{P:Program}{s:Sem Value}{g:Bool}{x:MV Ω}(h: (lO P s g).pick=some x)(r:Nat->Nat)(w:World):s.run P w= .ok (x.av r) w:=by
 unfold lO at h;split at h
 ·rename_i y hy;simp only[Tree.pick,oI] at h;subst h;rw[Lg];exact zZ P s y hy w
 ·cases h
section
variable {P:Program} {op:BinOp} {t:TypeId} {x y:Operand}
theorem qO{α:Type}{b:Bool}{T:Tree α}{a:α}(h: (Tree.ite b .bad T).pick=some a):b=false/\T.pick=some a:=by
 cases b
 ·exact⟨rfl,h⟩
 ·cases h
theorem EJ{k:IntKind}{m n:Int}{X:MV Ω}(h: (Sy k m n).pick=some X)(r:Nat->Nat)(w:World):
  (do eqGuard .quo t x y (.int k m) (.int k n);binOp .quo t (.int k m) (.int k n)).run P w= .ok (X.av r) w:=by
 obtain⟨h1,h2⟩:=qO h;simp only[Tree.pick,oI] at h2;subst h2;have h1:¬n=0:=by simpa using h1
 simp[eqGuard,binOp,Op.intDiv,h1,MV.av]
theorem EK{k:IntKind}{m n:Int}{X:MV Ω}(h: (Sz k m n).pick=some X)(r:Nat->Nat)(w:World):
  (do eqGuard .rem t x y (.int k m) (.int k n);binOp .rem t (.int k m) (.int k n)).run P w= .ok (X.av r) w:=by
 obtain⟨h1,h2⟩:=qO h;simp only[Tree.pick,oI] at h2;subst h2;have h1:¬n=0:=by simpa using h1
 simp[eqGuard,binOp,Op.intDiv,h1,MV.av]
theorem EL{k yk:IntKind}{m n:Int}{X:MV Ω}(h: (SA k m n).pick=some X)(r:Nat->Nat)(w:World):
  (do eqGuard .shl t x y (.int k m) (.int yk n);binOp .shl t (.int k m) (.int yk n)).run P w= .ok (X.av r) w:=by
 obtain⟨h1,h2⟩:=qO h;simp only[Tree.pick,oI] at h2;subst h2;have h1:¬n<0:=by simpa using h1
 simp[eqGuard,binOp,Op.shift,h1,MV.av]
theorem EM{k yk:IntKind}{m n:Int}{X:MV Ω}(h: (SB k m n).pick=some X)(r:Nat->Nat)(w:World):
  (do eqGuard .shr t x y (.int k m) (.int yk n);binOp .shr t (.int k m) (.int yk n)).run P w= .ok (X.av r) w:=by
 obtain⟨h1,h2⟩:=qO h;simp only[Tree.pick,oI] at h2;subst h2;have h1:¬n<0:=by simpa using h1
 simp[eqGuard,binOp,Op.shift,h1,MV.av]
theorem BL{a b:Value}{X:MV Ω}(h: (EH P op t x y a b).pick=some X)(r:Nat->Nat)(w:World):
  (do eqGuard op t x y a b;binOp op t a b).run P w= .ok (X.av r) w:=by
 unfold EH at h;split at h
 ·rename_i k m k' n;split at h
  ·rename_i e;have e:k=k':=by simpa using e
   subst e;exact EJ h r w
  ·cases h
 ·rename_i k m k' n;split at h
  ·rename_i e;have e:k=k':=by simpa using e
   subst e;exact EK h r w
  ·cases h
 ·exact EL h r w
 ·exact EM h r w
 ·exact fu h r w
theorem BM(a b:Value):eqGuard .neq t x y a b=eqGuard .eql t x y a b:=rfl
theorem ym{cx:Cx Ω}(ok:iO cx){neg:Bool}{l m:List (MV Ω)}{X:MV Ω}(h: (Py cx neg t l m).pick=some X)(r:Nat->Nat)(w:World):
  (do eqGuard (match neg with|true=>BinOp.neq|false=> .eql) t x y (.agg (ai r l).toArray) (.agg (ai r m).toArray);binOp (match neg with|true=>BinOp.neq|false=> .eql) t (.agg (ai r l).toArray) (.agg (ai r m).toArray)).run cx.P w= .ok (X.av r) w:=by
 unfold Py at h;split at h
 ·rename_i xs ys h1 h2;split at h
  ·rename_i q hq;simp only[Tree.pick,oI] at h;subst h;rw[od r h1,od r h2];obtain⟨k1,k2⟩:=ok.Q t xs ys q hq w x y;cases neg
   ·simp only[Sem.run_bind,k1,Result.andThen_ok,binOp,k2,Sem.run_pure,MV.av]
   ·simp only[Sem.run_bind,BM,k1,Result.andThen_ok,binOp,k2,Sem.run_pure,MV.av]
  ·cases h
 ·cases h
theorem BN{a:Addr}{e:TypeId}(d:Nat)(hd:P.underlying t=some (.pointer e))(w:World): (Op.equalIn (d+1) t (.pointer (some a)) (.pointer none)).run P w= .ok false w:=by simp[Op.equalIn,run_underlying hd]
theorem yn{a:Addr}(h:BK (P.underlying t)=true)(w:World): (Op.equal t (.pointer (some a)) (.pointer none)).run P w= .ok false w:=by
 cases hd:P.underlying t with
 |none=>rw[hd] at h;cases h
 |some d=>
  rw[hd] at h;cases d <;> simp[BK] at h
  exact BN 9999 hd w
theorem TL{a:Addr}(h:BK (P.underlying t)=true)(w:World): (do eqGuard .eql t x y (.pointer (some a)) (.pointer none);binOp .eql t (.pointer (some a)) (.pointer none)).run P w= .ok (.bool false) w:=by have e1:eqGuard .eql t x y (.pointer (some a)) (.pointer none)=pure ():=rfl;have e2:binOp .eql t (.pointer (some a)) (.pointer none)=(do pure (.bool (<-Op.equal t (.pointer (some a)) (.pointer none)))):=rfl;rw[e1,e2];simp only[Sem.run_bind,Sem.run_pure,Result.andThen_ok,yn h]
theorem TM{a:Addr}(h:BK (P.underlying t)=true)(w:World): (do eqGuard .neq t x y (.pointer (some a)) (.pointer none);binOp .neq t (.pointer (some a)) (.pointer none)).run P w= .ok (.bool true) w:=by have e1:eqGuard .neq t x y (.pointer (some a)) (.pointer none)=pure ():=rfl;have e2:binOp .neq t (.pointer (some a)) (.pointer none)=(do pure (.bool (!(<-Op.equal t (.pointer (some a)) (.pointer none))))):=rfl;rw[e1,e2];simp only[Sem.run_bind,Sem.run_pure,Result.andThen_ok,yn h,Bool.not_false]
theorem BO{f:Fn}{as cs:Array Value}(d:Nat){x1 x2 x3}(hd:P.underlying t=some (.func x1 x2 x3))(w:World): (Op.equalIn (d+1) t (.func f as cs) .nilFunc).run P w= .ok false w:=by simp[Op.equalIn,run_underlying hd]
theorem yo{f:Fn}{as cs:Array Value}(h:isFun (P.underlying t)=true)(w:World): (Op.equal t (.func f as cs) .nilFunc).run P w= .ok false w:=by
 cases hd:P.underlying t with
 |none=>rw[hd] at h;cases h
 |some d=>
  rw[hd] at h;cases d <;> simp[isFun] at h
  exact BO 9999 hd w
theorem TN{f:Fn}{as cs:Array Value}(h:isFun (P.underlying t)=true)(w:World): (do eqGuard .eql t x y (.func f as cs) .nilFunc;binOp .eql t (.func f as cs) .nilFunc).run P w= .ok (.bool false) w:=by have e1:eqGuard .eql t x y (.func f as cs) .nilFunc=pure ():=rfl;have e2:binOp .eql t (.func f as cs) .nilFunc=(do pure (.bool (<-Op.equal t (.func f as cs) .nilFunc))):=rfl;rw[e1,e2];simp only[Sem.run_bind,Sem.run_pure,Result.andThen_ok,yo h]
theorem TO{f:Fn}{as cs:Array Value}(h:isFun (P.underlying t)=true)(w:World): (do eqGuard .neq t x y (.func f as cs) .nilFunc;binOp .neq t (.func f as cs) .nilFunc).run P w= .ok (.bool true) w:=by have e1:eqGuard .neq t x y (.func f as cs) .nilFunc=pure ():=rfl;have e2:binOp .neq t (.func f as cs) .nilFunc=(do pure (.bool (!(<-Op.equal t (.func f as cs) .nilFunc)))):=rfl;rw[e1,e2];simp only[Sem.run_bind,Sem.run_pure,Result.andThen_ok,yo h,Bool.not_false]
theorem EN{cx:Cx Ω}(ok:iO cx){X Y Z:MV Ω}(h: (Li cx op t x y X Y).pick=some Z)(r:Nat->Nat)(w:World):
  (do eqGuard op t x y (X.av r) (Y.av r);binOp op t (X.av r) (Y.av r)).run cx.P w= .ok (Z.av r) w:=by
 unfold Li at h;split at h
 ·split at h
  ·exact ym ok h r w
  ·exact ym ok h r w
  ·cases h
 ·split at h
  ·rename_i e;simp only[Tree.pick,oI] at h;subst h;exact TL e w
  ·rename_i e;simp only[Tree.pick,oI] at h;subst h;exact TM e w
  ·cases h
 ·split at h
  ·rename_i e;simp only[Tree.pick,oI] at h;subst h;exact TN e w
  ·rename_i e;simp only[Tree.pick,oI] at h;subst h;exact TO e w
  ·cases h
 ·rename_i a k n;split at h
  ·unfold SC at h;split at h
   ·rename_i hn _;obtain rfl:=vg h;have hn:¬n<0:=by first|simpa using hn|(rename_i hn2;simpa using hn2)
    simp[eqGuard,binOp,Op.shift,IntKind.bits,hn,MV.av,aeV]
   ·rename_i hn _;obtain rfl:=vg h;have hn:¬n<0:=by first|simpa using hn|(rename_i hn2;simpa using hn2)
    simp[eqGuard,binOp,Op.shift,IntKind.bits,hn,MV.av]
   ·cases h
  ·split at h
   ·rename_i b hb;rw[show(MV.i a:MV Ω).av r= .int .i64 a.val from rfl,mC hb r];exact vf h r w
   ·cases h
 ·split at h
  ·rename_i a b g hb;obtain⟨e1,e2⟩:=afP hb r;rw[e1,e2];exact vf h r w
  ·split at h
   ·rename_i a g b h1 h2;rw[jL h1 r,jL h2 r];exact fu h r w
   ·rename_i a g b h1 h2;rw[jL h1 r,jL h2 r];exact BL h r w
   ·cases h
end
end
section
variable {Ω:Type} [jX Ω]
def iz(P:Program)(t:TypeId):Option Nat:=(P.info? t).map (·.size)
def Ab(P:Program)(t:TypeId)(x:MV Ω)(f:Nat):Tree (MV Ω):=
 match x,P.underlying t with
 | .ag l,some (.struct fs)=>match fs[f]? with
  |some fd=> .ofOption (tM P fd.type l fd.offset)
  |none=> .bad
 |_,_=> .bad
def oe(P:Program)(t:TypeId)(x:MV Ω)(f:Nat):Tree (MV Ω):=
 match x,P.underlying t with
 | .p k o,some (.struct fs)=>match fs[f]? with
  |some fd=>match iz P fd.type with
   |some (_+1)=> .leaf (.p k (o+fd.offset))
   |_=> .bad
  |none=> .bad
 |_,_=> .bad
def Ad(P:Program)(t:TypeId)(x i:MV Ω):Tree (MV Ω):=
 match x,i,P.underlying t with
 | .ag l,.c (.int _ n),some (.array len elem)=>match iz P elem,decide (0<=n/\n<len) with
  |some s,true=> .ofOption (tM P elem l (n.toNat*s))
  |_,_=> .bad
 | .ag _,_,_=> .bad
 |x,i,_=>match x.raw,i.raw with
  |some (a,true),some (b,g)=>lO P (Instr.index t a b) g
  |_,_=> .bad
def og(P:Program)(t:TypeId)(x i:MV Ω):Tree (MV Ω):=
 match x,i,P.underlying t with
 | .p k o,.c (.int _ n),some (.array len elem)=>match iz P elem,decide (0<=n/\n<len) with
  |some s,true=> .leaf (.p k (o+n.toNat*s))
  |_,_=> .bad
 | .s k o len _,.c (.int _ n),some (.slice elem)=>match iz P elem,decide (0<=n/\n<len) with
  |some s,true=> .leaf (.p k (o+n.toNat*s))
  |_,_=> .bad
 | .z k _ o len,.c (.int _ n),some (.slice elem)=>match iz P elem,decide (0<=n/\n<len) with
  |some s,true=> .leaf (.p k (o+n.toNat*s))
  |_,_=> .bad
 |_,_,_=> .bad
def yp(P:Program)(fs:Array Field):List (Nat×MV Ω)->List (MV Ω)->Option (List (MV Ω))
 | [],l=>some l
 |(i,x)::rest,l=>match fs[i]? with
  |none=>none
  |some fd=>match iz P fd.type with
   |none=>none
   |some s=>if x.sz=s then(qN l fd.offset x).bind (yp P fs rest) else none
def tN(s:Nat):List (Nat×MV Ω)->List (MV Ω)->Option (List (MV Ω))
 | [],l=>some l
 |(i,x)::rest,l=>if x.sz=s then(qN l (i*s) x).bind (tN s rest) else none
def qP(cx:Cx Ω)(t:TypeId):Option (List (MV Ω)):=
 match cx.Z t with
 |some l=>some l
 |none=>match(cx.P.info? t).bind (·.zero) with
  |some v=>if v.cells.all (·.oneCell') then some (v.cells.toList.map .c) else none
  |none=>none
def Ae(cx:Cx Ω)(t:TypeId)(parts:List (Nat×MV Ω)):Tree (MV Ω):=
 match qP cx t,cx.P.underlying t with
 |some z,some (.struct fs)=>match fs.all (fun f=>(iz cx.P f.type).isSome) with
  |true=> .ofOption ((yp cx.P fs parts z).map .ag)
  |false=> .bad
 |some z,some (.array _ elem)=>match iz cx.P elem with
  |some s=> .ofOption ((tN s parts z).map .ag)
  |none=> .bad
 |_,_=> .bad
def bounds(n:Nat)(cap:Nat)(lo hi:Option (MV Ω)):Option (Nat×Nat):=
 match(match hi with|none=>some n|some (.c (.int _ h))=>(match decide (0<=h/\h<=cap) with|true=>some h.toNat|false=>none)|_=>none) with
 |none=>none
 |some h=>match lo with
  |none=>some (0,h)
  |some (.c (.int _ l))=>(match decide (0<=l/\l<=h) with|true=>some (l.toNat,h)|false=>none)
  |_=>none
def Af(P:Program)(t:TypeId)(x:MV Ω)(lo hi mx:Option (MV Ω)):Tree (MV Ω):=
 match mx with
 |some _=> .bad
 |none=>match x,P.underlying t with
  | .p k o,some (.array n elem)=>match iz P elem,bounds n n lo hi with
   |some s,some (l,h)=>match decide (n=l) with
    |true=> .leaf (.s k o (h-l) (n-l))
    |false=> .leaf (.s k (o+l*s) (h-l) (n-l))
   |_,_=> .bad
  | .s k o len cap,some (.slice elem)=>match iz P elem,bounds len cap lo hi with
   |some s,some (l,h)=>match decide (cap=l) with
    |true=> .leaf (.s k o (h-l) (cap-l))
    |false=> .leaf (.s k (o+l*s) (h-l) (cap-l))
   |_,_=> .bad
  |_,_=> .bad
def PA:Option TypeDesc->Bool
 |some (.slice _)=>true
 |_=>false
def Lj:List (MV Ω)->Option (List ae)
 | []=>some []
 |x::l=>match x.i64,Lj l with
  |some y,some m=>some (y::m)
  |_,_=>none
theorem sh(r:Nat->Nat):∀{l:List (MV Ω)} {m:List ae},Lj l=some m->aE r l=m.map fun x=> .int .i64 x.val
 | [],m,h=>by simp[Lj] at h;rw[h];rfl
 |x::l,m,h=>by
  unfold Lj at h;split at h
  ·rename_i y m' h1 h2;simp only[oI] at h;subst h;simp only[aE,mC h1 r,sh r h2,List.map_cons]
  ·cases h
def Lk(x y:ae):ae:=if y.val<x.val then y else x
def Ll(x y:ae):ae:=if y.val>x.val then y else x
def anyI:List (MV Ω)->Bool
 | []=>false
 | .i _::_=>true
 |_::l=>anyI l
theorem GF{P:Program}(w:World):∀(l:List ae) (x:ae),((l.map fun x=>Value.int .i64 x.val).foldlM Builtin.min2 (.int .i64 x.val)).run P w= .ok (.int .i64 (l.foldl Lk x).val) w
 | [],x=>rfl
 |y::l,x=>by have ih:=GF (P:=P) w l (Lk x y);simp only[List.map_cons,List.foldlM_cons,List.foldl_cons,Sem.run_bind];rw[show(Builtin.min2 (.int .i64 x.val) (.int .i64 y.val)).run P w= .ok (.int .i64 (Lk x y).val) w by unfold Lk;simp only[Builtin.min2,Sem.run_pure];split <;> rfl];exact ih
theorem GG{P:Program}(w:World):∀(l:List ae) (x:ae),((l.map fun x=>Value.int .i64 x.val).foldlM Builtin.max2 (.int .i64 x.val)).run P w= .ok (.int .i64 (l.foldl Ll x).val) w
 | [],x=>rfl
 |y::l,x=>by have ih:=GG (P:=P) w l (Ll x y);simp only[List.map_cons,List.foldlM_cons,List.foldl_cons,Sem.run_bind];rw[show(Builtin.max2 (.int .i64 x.val) (.int .i64 y.val)).run P w= .ok (.int .i64 (Ll x y).val) w by unfold Ll;simp only[Builtin.max2,Sem.run_pure];split <;> rfl];exact ih
def Ag(f:ae->ae->ae)(l:List (MV Ω)):Tree (MV Ω):=
 match Lj l with
 |some (x::m)=> .leaf (.i (m.foldl f x))
 |_=> .bad
def sj(P:Program)(b:Builtin)(ts:Array TypeId)(ty:TypeId)(args:List (MV Ω)):Tree (MV Ω):=
 match b,args with
 | .len,[.s k o l c]=>match PA (ts[0]?.bind P.underlying) with
  |true=> .leaf (.c (.int .i64 l))
  |false=> .bad
 | .len,[.z k q o l]=>match PA (ts[0]?.bind P.underlying) with
  |true=> .leaf (.c (.int .i64 l))
  |false=> .bad
 | .len,l=>match EF l with|some (vs,g)=>lO P (Builtin.len_ ts ty vs.toArray) g|none=> .bad
 | .min,l=>match anyI l with
  |true=>Ag Lk l
  |false=>match EF l with|some (vs,g)=>lO P (Builtin.min_ ts ty vs.toArray) g|none=> .bad
 | .max,l=>match anyI l with
  |true=>Ag Ll l
  |false=>match EF l with|some (vs,g)=>lO P (Builtin.max_ ts ty vs.toArray) g|none=> .bad
 |_,_=> .bad
def EO(c a b:MV Ω):Tree (MV Ω):=
 match c with
 | .c (.bool true)=> .leaf a
 | .c (.bool false)=> .leaf b
 | .v (.bool q)=> .ite q (.leaf a) (.leaf b)
 |_=> .bad
def vh(P:Program)(t:TypeId)(x:MV Ω)(H:Hp Ω):Tree (MV Ω):=
 match x with
 | .p k o=>match dJ H k with
  |some l=> .ofOption (tM P t l o)
  |none=> .bad
 |_=> .bad
def SD(x:MV Ω):Tree (MV Ω):=
 match x with
 | .p k o=> .leaf (.p k o)
 | .fn f l=> .leaf (.fn f l)
 |_=> .bad
def sk(x:MV Ω)(i:Nat):Tree (MV Ω):=
 match x with
 | .t l=> .ofOption l[i]?
 |_=> .bad
def Ye(fn:Fn)(first:List Operand)(cap:List (MV Ω)):Tree (MV Ω):=
 match fn,first with
 | .func f,[]=> .leaf (.fn f cap)
 |_,_=> .bad
def Ah(P:Program)(f:Value->Sem Value)(x:MV Ω):Tree (MV Ω):=
 match x.raw with
 |some (a,g)=>lO P (f a) g
 |none=> .bad
def GH:Option TypeDesc->Bool
 |some (.int .i64)=>true
 |_=>false
def EP(P:Program)(s d:TypeId)(x:MV Ω):Tree (MV Ω):=
 match x,GH (P.underlying d),P.underlying s with
 | .i x,true,some _=> .leaf (.i x)
 | .v (.int _ n),true,some _=> .leaf (.i (aeV n))
 |x,_,_=>Ah P (convert s d) x
def TP(P:Program)(op:UnOp)(x:MV Ω):Tree (MV Ω):=
 match op,x with
 | .neg,.i x=> .leaf (.i (aeV (0-x.val)))
 |op,x=>Ah P (Op.unary op) x
def Lm(cx:Cx Ω)(c:Call)(ty:TypeId)(ρ:Operand->MV Ω)(H:Hp Ω):Tree (MV Ω):=
 match c.callee with
 | .builtin b=>sj cx.P b c.argTypes ty (c.args.toList.map ρ)
 | .value f=>match ρ f with
  | .fn g cap=>match cx.pf g with
   |true=>cx.S g (c.args.toList.map ρ++cap) H
   |false=> .bad
  |_=> .bad
 |_=> .bad
def oh(cx:Cx Ω)(op:Op)(ty:TypeId)(ρ:Operand->MV Ω)(H:Hp Ω):Tree (MV Ω):=
 match op with
 | .move x=> .leaf (ρ x)
 | .assign x=> .leaf (ρ x)
 | .pick c a b=>EO (ρ c) (ρ a) (ρ b)
 | .load t a=>vh cx.P t (ρ a) H
 | .nilCheck x=>SD (ρ x)
 | .makeFunc fn first cap=>Ye fn first.toList (cap.toList.map ρ)
 | .extract t i=>sk (ρ t) i
 | .fieldAddr t x f=>oe cx.P t (ρ x) f
 | .field t x f=>Ab cx.P t (ρ x) f
 | .index t x i=>Ad cx.P t (ρ x) (ρ i)
 | .indexAddr t x i=>og cx.P t (ρ x) (ρ i)
 | .build t parts=>Ae cx t (parts.toList.map fun(i,x)=>(i,ρ x))
 | .slice t x lo hi mx=>Af cx.P t (ρ x) (lo.map ρ) (hi.map ρ) (mx.map ρ)
 | .binOp op t x y _=>Li cx op t x y (ρ x) (ρ y)
 | .unOp op _ x=>TP cx.P op (ρ x)
 | .convert s d x=>EP cx.P s d (ρ x)
 | .call c=>Lm cx c ty ρ H
 |_=> .bad
section
variable {P:Program} {t:TypeId}
theorem dw{n:Nat}(h:iz P t=some n)(w:World): (sizeOf t).run P w= .ok n w:=yh h w
theorem aw{α:Type}{a b:α}(h: (Tree.leaf a).pick=some b):a=b:=by simpa[Tree.pick] using h
theorem Ai{x X:MV Ω}{f:Nat}(h: (Ab P t x f).pick=some X)(r:Nat->Nat)(w:World): (Instr.field t (x.av r) f).run P w= .ok (X.av r) w:=by
 unfold Ab at h;split at h
 ·rename_i l fs hd;split at h
  ·rename_i fd hf;have:=yi (Tree.eF h) r w;simp only[Instr.field,Sem.run_bind,run_underlying hd,Result.andThen_ok,hf];simpa[MV.av,asAgg] using this
  ·cases h
 ·cases h
theorem addr_add(g o n:Nat): (⟨g,o,none⟩:Addr).add n=⟨g,o+n,none⟩:=by unfold Addr.add;split <;> simp_all
theorem sn{x X:MV Ω}{f:Nat}(h: (oe P t x f).pick=some X)(r:Nat->Nat)(w:World): (Instr.fieldAt t (x.av r) f).run P w= .ok (X.av r) w:=by
 unfold oe at h;split at h
 ·rename_i k o fs hd;split at h
  ·rename_i fd hf;split at h
   ·rename_i n hn;obtain rfl:=aw h;simp[Instr.fieldAt,run_underlying hd,hf,MV.av,Instr.sureAddr,fieldPlace,dw hn,addr_add]
   ·cases h
  ·cases h
 ·cases h
theorem Aj{x i X:MV Ω}(h: (Ad P t x i).pick=some X)(r:Nat->Nat)(w:World): (Instr.index t (x.av r) (i.av r)).run P w= .ok (X.av r) w:=by
 unfold Ad at h;split at h
 ·rename_i l k n len elem hd;split at h
  ·rename_i s hs hb;have hb:0<=n/\n<len:=by simpa using hb
   have:=yi (Tree.eF h) r w;simp only[Instr.index,MV.av,asIntOf,Sem.run_bind,Sem.run_pure,Result.andThen_ok,run_underlying hd];rw[if_pos hb];simp only[Sem.run_bind,dw hs,Result.andThen_ok];exact this
  ·cases h
 ·cases h
 ·split at h
  ·rename_i a b g h1 h2;rw[jL h1 r,jL h2 r];exact fu h r w
  ·cases h
theorem su{x i X:MV Ω}(h: (og P t x i).pick=some X)(r:Nat->Nat)(w:World): (Instr.indexAt t (x.av r) (i.av r)).run P w= .ok (X.av r) w:=by
 unfold og at h;split at h
 ·rename_i k o kk n len elem hd;split at h
  ·rename_i s hs hb;have hb:0<=n/\n<len:=by simpa using hb
   obtain rfl:=aw h;simp[Instr.indexAt,MV.av,asIntOf,Sem.run_bind,run_underlying hd,Instr.sureAddr,hb,dw hs,addr_add]
  ·cases h
 ·rename_i k o len cap kk n elem hd;split at h
  ·rename_i s hs hb;have hb:0<=n/\n<len:=by simpa using hb
   obtain rfl:=aw h;simp[Instr.indexAt,MV.av,asIntOf,Sem.run_bind,run_underlying hd,Instr.sureAddr,hb,dw hs,addr_add]
  ·cases h
 ·rename_i k q o len kk n elem hd;split at h
  ·rename_i s hs hb;have hb:0<=n/\n<len:=by simpa using hb
   obtain rfl:=aw h;simp[Instr.indexAt,MV.av,asIntOf,Sem.run_bind,run_underlying hd,Instr.sureAddr,hb,dw hs,addr_add]
  ·cases h
 ·cases h
theorem BP{c a b X:MV Ω}(h: (EO c a b).pick=some X)(r:Nat->Nat)(w:World):
  (do pure (Next.value (if <-asBool (c.av r) then a.av r else b.av r))).run P w= .ok (.value (X.av r)) w:=by
 unfold EO at h;split at h
 ·obtain rfl:=aw h;rfl
 ·obtain rfl:=aw h;rfl
 ·rename_i q;cases q
  ·obtain rfl:=aw h;rfl
  ·obtain rfl:=aw h;rfl
 ·cases h
theorem BQ{x X:MV Ω}{H:Hp Ω}(h: (vh P t x H).pick=some X){r:Nat->Nat}{w:World}(hl:BG r w H): (Instr.loadAt t (x.av r)).run P w= .ok (X.av r) w:=by
 unfold vh at h;split at h
 ·rename_i k o;split at h
  ·rename_i l hk;have:=ni (Tree.eF h) (hl k l (bU hk).1 (bU hk).2);simp only[Instr.loadAt,MV.av,Instr.sureAddr,Sem.run_bind,Sem.run_pure,Result.andThen_ok,this]
  ·cases h
 ·cases h
theorem vi{x X:MV Ω}{i:Nat}(h: (sk x i).pick=some X)(r:Nat->Nat)(w:World): (Instr.extract (x.av r) i).run P w= .ok (X.av r) w:=by
 unfold sk at h;split at h
 ·rename_i l;have:=Tree.eF h;have e: (aE r l).toArray[i]? =some (X.av r):=by rw[List.getElem?_toArray,mu,this];rfl
  simp only[Instr.extract,MV.av,e];rfl
 ·cases h
theorem tO{f:Value->Sem Value}{x X:MV Ω}(h: (Ah P f x).pick=some X)(r:Nat->Nat)(w:World): (f (x.av r)).run P w= .ok (X.av r) w:=by
 unfold Ah at h;split at h
 ·rename_i a g h1;rw[jL h1 r];exact fu h r w
 ·cases h
theorem BT{s d:TypeId}{dd:TypeDesc}(h:GH (P.underlying d)=true)(hs:P.underlying s=some dd)(k:IntKind)(n:Int)(w:World): (convert s d (.int k n)).run P w= .ok (.int .i64 (IntKind.i64.wrap n)) w:=by
 cases hd:P.underlying d with
 |none=>rw[hd] at h;cases h
 |some e=>
  rw[hd] at h;cases e with
  |int kk=>
   cases kk <;> simp[GH] at h
   simp[convert,run_underlying hs,run_underlying hd,Conv.intToInt]
  |_=>simp[GH] at h
theorem BU{s d:TypeId}{x X:MV Ω}(h: (EP P s d x).pick=some X)(r:Nat->Nat)(w:World): (convert s d (x.av r)).run P w= .ok (X.av r) w:=by
 unfold EP at h;split at h
 ·rename_i y dd hd hs;obtain rfl:=aw h;rw[show(MV.i y:MV Ω).av r= .int .i64 y.val from rfl,BT hd hs,y.wrap]
 ·rename_i k n dd hd hs;obtain rfl:=aw h;exact BT hd hs k n w
 ·exact tO (f:=convert s d) h r w
theorem IP{op:UnOp}{x X:MV Ω}(h: (TP P op x).pick=some X)(r:Nat->Nat)(w:World): (Op.unary op (x.av r)).run P w= .ok (X.av r) w:=by
 unfold TP at h;split at h
 ·obtain rfl:=aw h;rfl
 ·exact tO (f:=Op.unary op) h r w
theorem iq{cx:Cx Ω}(ok:iO cx){l:List (MV Ω)}(h:qP cx t=some l)(w:World):∃v,(zeroValue t).run cx.P w= .ok v w/\∀r,v.cells=(ai r l).toArray:=by
 unfold qP at h;split at h
 ·rename_i l' hz;simp only[oI] at h;subst h;obtain⟨v,i,h1,h2,h3⟩:=ok.Z t _ hz;refine⟨v,by simp[zeroValue,typeInfo,h1,h2],fun r=>?_⟩;rw[<-h3 r]
 ·split at h
  ·rename_i v hv;split at h
   ·rename_i h1;simp only[oI] at h;subst h;cases hi:cx.P.info? t with
    |none=>rw[hi] at hv;cases hv
    |some i=>
     rw[hi] at hv;simp only[Option.bind_some] at hv;refine⟨v,by simp[zeroValue,typeInfo,hi,hv],fun r=>?_⟩;rw[uZ r _ (by simpa using h1)]
   ·cases h
  ·cases h
theorem nj(c:List Value):∀(off j:Nat) (cs:Array Value),off+j+c.length<=cs.size->
  (c.zipIdx j).foldl (fun(cs:Array Value) (x:Value×Nat)=>cs.setIfInBounds (off+x.2) x.1) cs=BD (off+j) c.toArray cs:=by
 induction c with
 |nil=>
  intro off j cs h;simp[BD];rw[Nat.max_eq_right (by simpa using h)];simp
 |cons x c ih=>
  intro off j cs h;simp only[List.zipIdx_cons,List.foldl_cons];have h':off+(j+1)+c.length<=cs.size:=by simp only[List.length_cons] at h;omega
  rw[ih off (j+1) _ (by simpa using h')];apply Array.ext_getElem?;intro i;rw[qK (by simp;omega),qK (by simp at h ⊢;omega)];by_cases e:i=off+j
  ·subst e;rw[if_neg (by omega),if_pos (by simp),Array.getElem?_setIfInBounds_self_of_lt (by simp at h;omega)];simp
  ·rw[Array.getElem?_setIfInBounds_ne (by omega)];by_cases e2:off+(j+1)<=i/\i<off+(j+1)+c.toArray.size
   ·rw[if_pos e2,if_pos (by simp at e2 ⊢;omega)];rw[List.getElem?_toArray,List.getElem?_toArray,show i-(off+j)=(i-(off+(j+1)))+1 by omega];rfl
   ·rw[if_neg e2,if_neg (by simp at e2 ⊢;omega)]
theorem vj{fs:Array Field}{place:Nat->Option (Nat×Nat)}(hp:∀i fd s,fs[i]? =some fd->iz P fd.type=some s->place i=some (fd.offset,s))(r:Nat->Nat):
  ∀(parts:List (Nat×MV Ω)) (l l':List (MV Ω)),yp P fs parts l=some l'->
   Instr.fill place (ai r l).toArray (parts.map fun(i,x)=>(i,x.av r))=some (ai r l').toArray
 | [],l,l',h=>by simp only[yp,oI] at h;subst h;rfl
 |(i,x)::rest,l,l',h=>by
  unfold yp at h;split at h
  ·cases h
  ·rename_i fd hf;split at h
   ·cases h
   ·rename_i s hs;split at h
    ·rename_i hx;cases hput:qN l fd.offset x with
     |none=>rw[hput] at h;cases h
     |some m=>
      rw[hput] at h;simp only[Option.bind_some] at h;obtain⟨p1,p2,p3⟩:=kN hput r;have hc: (x.av r).cells=(x.cells r).toArray:=jm r x;have hcs: (x.av r).cells.size=x.sz:=by rw[hc];simp[MV.aeX]
      simp only[List.map_cons,Instr.fill,hp i fd s hf hs];rw[if_neg (by rw[hcs];simp[hx];rw[<-hx];omega)];have:=nj (x.cells r) fd.offset 0 (ai r l).toArray (by rw[MV.aeX];simpa using p2);rw[hc];have e2: ((x.cells r).toArray.zipIdx.foldl (fun cs (c,j)=>cs.setIfInBounds (fd.offset+j) c) (ai r l).toArray)=BD fd.offset (x.cells r).toArray (ai r l).toArray:=by rw[<-Array.foldl_toList];simpa using this
      rw[e2,<-BH hput r];exact vj hp r rest m l' h
    ·cases h
theorem nk{s:Nat}(r:Nat->Nat):∀(parts:List (Nat×MV Ω)) (l l':List (MV Ω)),tN s parts l=some l'->
   Instr.fill (fun i=>some (i*s,s)) (ai r l).toArray (parts.map fun(x:Nat×MV Ω)=>(x.1,x.2.av r))=some (ai r l').toArray
 | [],l,l',h=>by simp only[tN,oI] at h;subst h;rfl
 |(i,x)::rest,l,l',h=>by
  unfold tN at h;split at h
  ·rename_i hx;cases hput:qN l (i*s) x with
   |none=>rw[hput] at h;cases h
   |some m=>
    rw[hput] at h;simp only[Option.bind_some] at h;obtain⟨p1,p2,p3⟩:=kN hput r;have hc: (x.av r).cells=(x.cells r).toArray:=jm r x;have hcs: (x.av r).cells.size=x.sz:=by rw[hc];simp[MV.aeX]
    simp only[List.map_cons,Instr.fill];rw[hx] at p2;rw[if_neg (by rw[hcs,hx];simp;omega)];have:=nj (x.cells r) (i*s) 0 (ai r l).toArray (by rw[MV.aeX,hx];simpa using p2);rw[hc];have e2: ((x.cells r).toArray.zipIdx.foldl (fun cs (c,j)=>cs.setIfInBounds (i*s+j) c) (ai r l).toArray)=BD (i*s) (x.cells r).toArray (ai r l).toArray:=by rw[<-Array.foldl_toList];simpa using this
    rw[e2,<-BH hput r];exact nk r rest m l' h
  ·cases h
theorem tP{P:Program}(w:World):∀(l:List Field),(l.all fun f=>(iz P f.type).isSome)=true->
  ∃ps:List (Nat×Nat),(l.mapM (m:=Sem) fun f=>do pure (f.offset,<-sizeOf f.type)).run P w= .ok ps w/\∀(i:Nat) fd s,l[i]? =some fd->iz P fd.type=some s->ps[i]? =some (fd.offset,s)
 | [],_=>⟨[],rfl,fun i fd s h=>by simp at h⟩
 |f::l,h=>by
  simp only[List.all_cons,bI] at h;obtain⟨ps,h1,h2⟩:=tP w l h.2;obtain⟨n,hn⟩:=Option.isSome_iff_exists.1 h.1;refine⟨(f.offset,n)::ps,?_,fun i fd s hi hs=>?_⟩
  ·simp only[List.mapM_cons,Sem.run_bind,dw hn,Result.andThen_ok,Sem.run_pure,h1]
  ·cases i with
   |zero=>
    simp only[List.getElem?_cons_zero,oI] at hi;subst hi;rw[hn] at hs;simp only[oI] at hs;subst hs;rfl
   |succ i=>exact h2 i fd s (by simpa using hi) hs
theorem Ak{cx:Cx Ω}(ok:iO cx){parts:List (Nat×MV Ω)}{X:MV Ω}(h: (Ae cx t parts).pick=some X)(r:Nat->Nat)(w:World):
  (Instr.build t (parts.map fun(i,x)=>(i,x.av r)).toArray).run cx.P w= .ok (X.av r) w:=by
 unfold Ae at h;split at h
 ·rename_i z fs hz hd;split at h
  ·rename_i hall;have h:=Tree.eF h;cases hf:yp cx.P fs parts z with
   |none=>rw[hf] at h;cases h
   |some l'=>
    rw[hf] at h;simp only[Option.map_some,oI] at h;subst h;obtain⟨v,hv,hc⟩:=iq ok hz w;obtain⟨ps,hps,hpl⟩:=tP (P:=cx.P) w fs.toList (by simpa using hall);have hfill:=vj (P:=cx.P) (fs:=fs) (place:=fun i=>ps.toArray[i]?) (fun i fd s hi hs=>by have:=hpl i fd s (by simpa using hi) hs;simpa using this) r parts z l' hf;have hm: (fs.mapM (m:=Sem) fun f=>do pure (f.offset,<-sizeOf f.type)).run cx.P w= .ok ps.toArray w:=by rw[Array.mapM_eq_mapM_toList];simp only[Sem.run_map,hps,Result.andThen_ok]
    simp only[Instr.build,Sem.run_bind,hv,Result.andThen_ok,run_underlying hd,hm,hc r];rw[hfill];rfl
  ·cases h
 ·rename_i z n elem hz hd;split at h
  ·rename_i s hs;have h:=Tree.eF h;cases hf:tN s parts z with
   |none=>rw[hf] at h;cases h
   |some l'=>rw[hf] at h;simp only[Option.map_some,oI] at h;subst h;obtain⟨v,hv,hc⟩:=iq ok hz w;have hfill:=nk r parts z l' hf;simp only[Instr.build,Sem.run_bind,hv,Result.andThen_ok,run_underlying hd,dw hs,hc r];rw[hfill];rfl
  ·cases h
 ·cases h
theorem tQ{sl:Bool}{n cap l hh:Nat}{lo hi:Option (MV Ω)}(h:bounds n cap lo hi=some (l,hh))(r:Nat->Nat)(w:World):
  (Instr.sliceBounds sl n cap (lo.map (MV.av r)) (hi.map (MV.av r)) none).run P w= .ok (l,hh,cap) w:=by
 unfold bounds at h;split at h
 ·cases h
 ·rename_i h' hh';have k1: (match hi.map (MV.av r),(none:Option Value) with
    |some v,some _=>Instr.sliceBound v cap .slice3B
    |some v,none=>Instr.sliceBound v cap (if sl then .sliceAcap else .sliceAlen)
    |none,none=>pure n
    |none,some _=>stuck "Slice: max without high").run P w= .ok h' w:=by
   split at hh'
   ·simp only[oI] at hh';subst hh';rfl
   ·rename_i kk q;split at hh'
    ·rename_i hb;simp only[oI] at hh';subst hh';have hb:0<=q/\q<=cap:=by simpa using hb
     simp[MV.av,Instr.sliceBound,asIntOf,hb]
    ·cases hh'
   ·cases hh'
  have k2: (match lo.map (MV.av r) with
    |some v=>Instr.sliceBound v h' (if (none:Option Value).isSome then .slice3C else .sliceB)
    |none=>pure 0).run P w= .ok l w/\h'=hh:=by
   split at h
   ·simp only[oI,Prod.mk.injEq] at h;obtain⟨rfl,rfl⟩:=h;exact⟨rfl,rfl⟩
   ·rename_i kk q;split at h
    ·rename_i hb;simp only[oI,Prod.mk.injEq] at h;obtain⟨rfl,rfl⟩:=h;have hb:0<=q/\q<=h':=by simpa using hb
     refine⟨?_,rfl⟩;simp[MV.av,Instr.sliceBound,asIntOf,hb]
    ·cases h
   ·cases h
  obtain⟨k2,rfl⟩:=k2;unfold Instr.sliceBounds;cases hi <;> cases lo <;> simp only[Option.map_some,Option.map_none] at k1 k2 ⊢<;> simp only[Sem.run_bind,Sem.run_pure,Result.andThen_ok,k1,k2] <;> (simp at k1 k2;subst_vars;first|rfl|simp[k2])
theorem Al{x X:MV Ω}{lo hi mx:Option (MV Ω)}(h: (Af P t x lo hi mx).pick=some X)(r:Nat->Nat)(w:World):
  (Instr.sliceAt t (x.av r) (lo.map (MV.av r)) (hi.map (MV.av r)) (mx.map (MV.av r))).run P w= .ok (X.av r) w:=by
 unfold Af at h;split at h
 ·cases h
 ·split at h
  ·rename_i k o n elem hd;split at h
   ·rename_i s l hh hs hb;have hb:=tQ (sl:=false) hb r w (P:=P);split at h
    ·rename_i e;have e:n=l:=by simpa using e
     obtain rfl:=aw h;subst e;simp[Instr.sliceAt,run_underlying hd,MV.av,Instr.sureAddr,hb,dw hs]
    ·rename_i e;have e:¬n=l:=by simpa using e
     obtain rfl:=aw h;simp[Instr.sliceAt,run_underlying hd,MV.av,Instr.sureAddr,hb,dw hs,e,addr_add]
   ·cases h
  ·rename_i k o len cap elem hd;split at h
   ·rename_i s l hh hs hb;have hb:=tQ (sl:=true) hb r w (P:=P);split at h
    ·rename_i e;have e:cap=l:=by simpa using e
     obtain rfl:=aw h;subst e;simp[Instr.sliceAt,Instr.slice,run_underlying hd,MV.av,hb,dw hs]
    ·rename_i e;have e:¬cap=l:=by simpa using e
     obtain rfl:=aw h;simp[Instr.sliceAt,Instr.slice,run_underlying hd,MV.av,hb,dw hs,e,addr_add]
   ·cases h
  ·cases h
theorem vq{b:Builtin}{ts:Array TypeId}{ty:TypeId}{cs:Array Bool}{args:List (MV Ω)}{X:MV Ω}(h: (sj P b ts ty args).pick=some X)(r:Nat->Nat)(w:World):
  (builtin b ts ty cs (aE r args).toArray).run P w= .ok (.value (X.av r)) w:=by
 unfold sj at h;split at h
 ·rename_i k o l c;split at h
  ·rename_i hs;obtain rfl:=aw h;cases h0:ts[0]? with
   |none=>rw[h0] at hs;cases hs
   |some t0=>
    rw[h0] at hs;simp only[Option.bind_some] at hs;cases hd:P.underlying t0 with
    |none=>rw[hd] at hs;cases hs
    |some d=>
     rw[hd] at hs;cases d <;> simp[PA] at hs
     simp[builtin,Builtin.len_,h0,aE,MV.av,run_underlying hd,goInt]
  ·cases h
 ·rename_i k o l c;split at h
  ·rename_i hs;obtain rfl:=aw h;cases h0:ts[0]? with
   |none=>rw[h0] at hs;cases hs
   |some t0=>
    rw[h0] at hs;simp only[Option.bind_some] at hs;cases hd:P.underlying t0 with
    |none=>rw[hd] at hs;cases hs
    |some d=>
     rw[hd] at hs;cases d <;> simp[PA] at hs
     simp[builtin,Builtin.len_,h0,aE,MV.av,run_underlying hd,goInt]
  ·cases h
 ·split at h
  ·rename_i vs g hv;have:=fu h r w;rw[pe r hv];simp only[builtin,Sem.run_bind,this,Result.andThen_ok,Sem.run_pure]
  ·cases h
 ·split at h
  ·unfold Ag at h;split at h
   ·rename_i x m hv;obtain rfl:=aw h;have:=GF (P:=P) w m x;rw[sh r hv];simp only[builtin,Builtin.min_,List.map_cons,Sem.run_bind,this,Result.andThen_ok,Sem.run_pure];rfl
   ·cases h
  ·split at h
   ·rename_i vs g hv;have:=fu h r w;rw[pe r hv];simp only[builtin,Sem.run_bind,this,Result.andThen_ok,Sem.run_pure]
   ·cases h
 ·split at h
  ·unfold Ag at h;split at h
   ·rename_i x m hv;obtain rfl:=aw h;have:=GG (P:=P) w m x;rw[sh r hv];simp only[builtin,Builtin.max_,List.map_cons,Sem.run_bind,this,Result.andThen_ok,Sem.run_pure];rfl
   ·cases h
  ·split at h
   ·rename_i vs g hv;have:=fu h r w;rw[pe r hv];simp only[builtin,Sem.run_bind,this,Result.andThen_ok,Sem.run_pure]
   ·cases h
 ·cases h
end
theorem yq{P:Program}{s:Sem Value}{v:Value}{w:World}(h:s.run P w= .ok v w): (do pure (Next.value (<-s)):Sem Next).run P w= .ok (.value v) w:=by simp only[Sem.run_bind,h,Result.andThen_ok,Sem.run_pure]
theorem qg{cx:Cx Ω}(ok:iO cx){o:Oper}{a:Act}{ρ:Operand->MV Ω}{r:Nat->Nat}(hev:∀x,a.eval x=(ρ x).av r){H:Hp Ω}{X:MV Ω}(h: (oh cx o.op o.type ρ H).pick=some X)
  {E:lN} {w0 w:World} (hr:Rel r E w0 w H):Oper.quietAt cx.P o a (fun w'=>Rel r E w0 w' H) w (X.av r):=by
 have val:∀s:Sem Value,execOp a.eval o=(do pure (Next.value (<-s)))->s.run cx.P w= .ok (X.av r) w->Oper.quietAt cx.P o a (fun w'=>Rel r E w0 w' H) w (X.av r):=fun s he hs=>by unfold Oper.quietAt;rw[he,yq hs];exact⟨rfl,rfl⟩
 obtain⟨dst,op,type,pos,after,guard⟩:=o;have hmap:∀l:List Operand,l.map a.eval=aE r (l.map ρ):=fun l=>by rw[fC,List.map_map];exact List.map_congr_left fun x _=>hev x
 have harr:∀l:Array Operand,l.map a.eval=(aE r (l.toList.map ρ)).toArray:=fun l=>by apply Array.toList_inj.1;simp[hmap]
 cases op <;> simp only[oh] at h <;> try (cases h;done)
 case move x=>
  obtain rfl:=aw h;unfold Oper.quietAt;simp only[execOp,hev];exact⟨rfl,rfl⟩
 case assign x=>
  obtain rfl:=aw h;unfold Oper.quietAt;simp only[execOp,hev];exact⟨rfl,rfl⟩
 case pick c x y=>
  unfold Oper.quietAt;have:=BP h r w (P:=cx.P);simp only[execOp,hev,this];exact⟨rfl,rfl⟩
 case load t x=>exact val _ rfl (by rw[hev];exact BQ h hr.uw)
 case nilCheck x=>
  unfold SD at h;unfold Oper.quietAt;split at h
  ·rename_i k o e;obtain rfl:=aw h;simp only[execOp,hev,e,MV.av];exact⟨rfl,rfl⟩
  ·rename_i f l e;obtain rfl:=aw h;simp only[execOp,hev,e,MV.av];exact⟨rfl,rfl⟩
  ·cases h
 case makeFunc fn first cap=>
  unfold Ye at h;split at h
  ·rename_i f hf;obtain rfl:=aw h;refine val _ rfl ?_;have hf:first= #[]:=by apply Array.toList_inj.1;simpa using hf
   subst hf;simp only[Instr.makeFunc,harr,MV.av];rfl
  ·cases h
 case extract t i=>exact val _ rfl (by rw[hev];exact vi h r w)
 case fieldAddr t x f=>exact val _ rfl (by rw[hev];exact sn h r w)
 case field t x f=>exact val _ rfl (by rw[hev];exact Ai h r w)
 case index t x i=>exact val _ rfl (by rw[hev,hev];exact Aj h r w)
 case indexAddr t x i=>exact val _ rfl (by rw[hev,hev];exact su h r w)
 case build t parts=>
  refine val _ rfl ?_;have e: (parts.map fun(x:Nat×Operand)=>(x.1,a.eval x.2))=(((parts.toList.map fun(x:Nat×Operand)=>(x.1,ρ x.2))).map fun(x:Nat×MV Ω)=>(x.1,x.2.av r)).toArray:=by apply Array.toList_inj.1;simp[hev]
  change (Instr.build t (parts.map fun(x:Nat×Operand)=>(x.1,a.eval x.2))).run cx.P w=_
  rw[e];exact Ak ok h r w
 case slice t x lo hi mx=>
  refine val _ rfl ?_;have em:∀q:Option Operand,q.map a.eval=(q.map ρ).map (MV.av r):=fun q=>by cases q <;> simp[hev]
  rw[em,em,em,hev];exact Al h r w
 case binOp op t x y yt=>
  refine val _ rfl ?_;have:=EN ok h r w;rw[hev,hev];exact this
 case unOp op xt x=>exact val _ rfl (by rw[hev];exact IP h r w)
 case convert s d x=>exact val _ rfl (by rw[hev];exact BU h r w)
 case call c=>
  unfold Lm at h;unfold Oper.quietAt;split at h
  ·rename_i b hb;have this:=fun cs=>vq (cs:=cs) h r w;simp only[execOp,resolve,hb,Sem.run_bind,Sem.run_pure,Result.andThen_ok,Go.invoke];rw[harr,this _];exact⟨rfl,rfl⟩
  ·rename_i f hb;split at h
   ·rename_i g cap hg;split at h
    ·rename_i hpf;have hc:=ok.S g _ H X hpf h r w hr.uw;have hrun: (execOp a.eval {dst:=dst,op:=Op.call c,type:=type,pos:=pos,after:=after,guard:=guard}).run cx.P w= .ok (.enter g (aE r (c.args.toList.map ρ++cap)).toArray) w:=by simp only[execOp,resolve,hb,Sem.run_bind,hev,hg,MV.av,Deferred.ofValue,Sem.run_pure,Result.andThen_ok,Go.invoke];rw[nh (ok.call g hpf)];congr 2;rw[kh,harr];simp
     rw[hrun];exact⟨rfl,hc.mono fun e w'' ⟨h1,h2⟩=>⟨h1,hr.below h2⟩⟩
    ·cases h
   ·cases h
  ·cases h
end
section
variable {Ω:Type} [jX Ω]
def ij(n:Nat):Hp Ω->Bool
 | []=>true
 |b::H=>Z8 n b&&ij n H
theorem dn{n:Nat}:∀{H:Hp Ω},ij n H=true->∀(k:Nat) (cs:List (MV Ω)),H[k]? =some cs->Z8 n cs=true
 | [],_,k,cs,h=>by simp at h
 |b::H,hs,k,cs,h=>by
  simp only[ij,bI] at hs;cases k with
  |zero=>simp at h;subst h;exact hs.1
  |succ k=>exact dn hs.2 k cs (by simpa using h)
def vu(H:Hp Ω)(tm:List (MV Ω))(b:List (MV Ω))(x:MV Ω):Tree (MV Ω×Hp Ω):=
 match(dX b&&jY b)&&(Z8 H.length tm&&ij H.length H&&Z8 H.length b) with
 |true=> .leaf (x,H++ [b])
 |false=> .bad
def GI(P:Program)(t:TypeId)(a x:MV Ω)(H:Hp Ω):Tree (MV Ω×Hp Ω):=
 match a,iz P t with
 | .p k o,some n=>match decide (x.sz=n),dJ H k with
  |true,some l=>match qN l o x with
   |some l'=> .leaf (.c undef,H.set k l')
   |none=> .bad
  |_,_=> .bad
 |_,_=> .bad
def qQ(cx:Cx Ω)(t:TypeId)(len:Nat)(parts:List (Nat×MV Ω))(tm:List (MV Ω))(H:Hp Ω):Tree (MV Ω×Hp Ω):=
 match cx.P.underlying t with
 |some (.slice elem)=>match iz cx.P elem,qP cx elem with
  |some s,some z=>match decide (0<len*s/\len*s<=2^24/\xH z=s) with
   |true=>match tN s parts (List.replicate len z).flatten with
    |some b=>vu H tm b (.s H.length 0 len len)
    |none=> .bad
   |false=> .bad
  |_,_=> .bad
 |_=> .bad
def dead:List (MV Ω):=[.g none]
def iP(H:Hp Ω)(k o n:Nat):Option (List (MV Ω)):=match dJ H k with
 |some l=>(gT l o).bind (fU · n)
 |none=>none
def Ln(H:Hp Ω)(sz:Nat):MV Ω->Option (Nat×List (MV Ω))
 | .s k o m _=>(iP H k o (m*sz)).map fun l=>(m,l)
 | .z k _ o m=>(iP H k o (m*sz)).map fun l=>(m,l)
 |_=>none
def om(H H1:Hp Ω)(tm:List (MV Ω))(sz n:Nat)(cs:List (MV Ω)):Tree (MV Ω×Hp Ω):=
 match(dX cs&&rX cs)&&(Z8 H.length tm&&ij H.length H1&&Z8 H.length cs) with
 |true=> .leaf (.z H.length (H.length+1) 0 n,H1++ [cs++ [.r (H.length+1) sz],dead])
 |false=> .bad
def vw(cx:Cx Ω)(ts:List TypeId)(args:List (MV Ω))(tm:List (MV Ω))(H:Hp Ω):Tree (MV Ω×Hp Ω):=
 match ts,args with
 | [t,t'],[s,x]=>match Nat.beq t t',cx.P.underlying t with
  |true,some (.slice elem)=>match cx.P.info? elem,qP cx elem with
   |some i,some z=>match Ln H i.size x with
    |some (m,xs)=>match s with
     | .c (.slice none 0 0)=>match decide (0<m/\m*i.bytes<=140737488355328/\m<=140737488355328/\xH z=i.size) with
      |true=>om H H tm i.size m xs
      |false=> .bad
     | .s k 0 n c=>match decide (c<n+m/\(n+m)*i.bytes<=140737488355328/\n+m<=140737488355328/\xH z=i.size),iP H k 0 (n*i.size) with
      |true,some ys=>om H H tm i.size (n+m) (ys++xs)
      |_,_=> .bad
     | .z k q 0 n=>match decide ((n+m)*i.bytes<=140737488355328/\n+m<=140737488355328/\0<i.size/\xH z=i.size),dJ H k,iP H k 0 (n*i.size) with
      |true,some l,some ys=>match dq l with
       |some (q',sz')=>match Nat.beq q q'&&Nat.beq sz' i.size with
        |true=>om H (H.set k dead) tm i.size (n+m) (ys++xs)
        |false=> .bad
       |none=> .bad
      |_,_,_=> .bad
     |_=> .bad
    |none=>match x with
     | .c (.slice none 0 0)=>match s with
      | .c (.slice none 0 0)=> .leaf (s,H)
      | .s k 0 n c=>match decide (n<=c) with
       |true=> .leaf (s,H)
       |false=> .bad
      | .z k q 0 n=>match decide (0<i.size),dJ H k,iP H k 0 (n*i.size) with
       |true,some l,some _=>match dq l with
        |some (q',sz')=>match Nat.beq q q'&&Nat.beq sz' i.size with
         |true=> .leaf (s,H)
         |false=> .bad
        |none=> .bad
       |_,_,_=> .bad
      |_=> .bad
     |_=> .bad
   |_,_=> .bad
  |_,_=> .bad
 |_,_=> .bad
abbrev Fe(Ω:Type) [jX Ω]:=FuncId->List (MV Ω)->Hp Ω->Tree (MV Ω×Hp Ω)
def GJ(cx:Cx Ω)(fe:Fe Ω)(c:Call)(ty:TypeId)(ρ:Operand->MV Ω)(tm:List (MV Ω))(H:Hp Ω):Tree (MV Ω×Hp Ω):=
 match c.callee with
 | .value f=>match ρ f with
  | .fn g cap=>match cx.pf g with
   |true=>(cx.S g (c.args.toList.map ρ++cap) H).map fun x=>(x,H)
   |false=>match cx.cl g&&Z8 H.length tm with
    |true=>match cx.ef g with
     |true=>cx.T g (c.args.toList.map ρ++cap) H
     |false=>fe g (c.args.toList.map ρ++cap) H
    |false=> .bad
  |_=> .bad
 | .builtin .append=>vw cx c.argTypes.toList (c.args.toList.map ρ) tm H
 |_=> .bad
def BV(cx:Cx Ω)(fe:Fe Ω)(op:Op)(ty:TypeId)(ρ:Operand->MV Ω)(tm:List (MV Ω))(H:Hp Ω):Tree (MV Ω×Hp Ω):=
 match op with
 | .alloc elem=>match qP cx elem with
  |some z=>vu H tm z (.p H.length 0)
  |none=> .bad
 | .box elem x=>match(ρ x).one with
  |true=>vu H tm (ρ x).flat (.p H.length 0)
  |false=> .bad
 | .store t a x=>GI cx.P t (ρ a) (ρ x) H
 | .buildSlice t len parts=>qQ cx t len (parts.toList.map fun(x:Nat×Operand)=>(x.1,ρ x.2)) tm H
 | .call c=>GJ cx fe c ty ρ tm H
 |_=> .bad
def vx(P:Program)(fe:Fe Ω):Prop:=∀f args H y,(fe f args H).pick=some y->jK P f args H y
def yr(r:Nat->Nat)(E:lN)(w0:World)(H:Hp Ω)(tm:List (MV Ω))(y:MV Ω×Hp Ω)(v:Value)(w':World):Prop:=
 ∃r',Grow r H r' y.2/\Rel r' E w0 w' y.2/\aE r' tm=aE r tm/\v=y.1.av r'
theorem BW{l l':List (MV Ω)}{o:Nat}{x:MV Ω}(h:qN l o x=some l')(hl:dX l=true):dX l'=true/\dq l'=dq l:=by
 unfold qN at h;split at h
 ·rename_i pre rest h1 h2;split at h
  ·rename_i post h3;split at h
   ·rename_i ho;cases h;refine⟨?_,?_⟩;rotate_left
    ·rw[List.append_assoc,lM (sd h1),lM (IN ho),se h3,se h2]
    cases o with
    |zero=>
     have e1:pre= []:=by cases l <;> · simp only[fU,oI] at h1;exact h1.symm
     have e2:rest=l:=by cases l <;> · simp only[gT,oI] at h2;exact h2.symm
     subst e1;subst e2;cases hx:x.flat with
     |nil=>
      have hz:x.sz=0:=by have:=o9 (fun k=>k) x ho;rw[hx] at this;rw[<-MV.aeX (fun k=>k) x,<-this];rfl
      rw[hz] at h3;have:post=rest:=by cases rest <;> · simp only[gT,oI] at h3;exact h3.symm
      subst this;simpa using hl
     |cons y m=>
      have hy:∀γ,y≠ .g γ:=by
       intro γ e;subst e;unfold MV.flat at hx;split at hx
       ·simp only[MV.one] at ho;rw[hx] at ho;simp[rX,MV.one] at ho
       ·rename_i cs;cases hc:cs.toList <;> rw[hc] at hx <;> simp at hx
       ·rename_i cs;cases hc:cs.toList <;> rw[hc] at hx <;> simp at hx
       ·simp only[List.cons.injEq] at hx;rw[hx.1] at ho;simp[MV.one] at ho
      show dX (y::_)=true;unfold dX;split
      ·rename_i γ _ e;simp only[List.cons.injEq] at e;exact absurd e.1 (hy γ)
      ·rfl
    |succ o=>
     cases l with
     |nil=>simp[fU] at h1
     |cons y l=>
      unfold fU at h1;split at h1
      ·cases hq:fU l (o+1-y.sz) with
       |none=>rw[hq] at h1;cases h1
       |some m=>
        rw[hq] at h1;cases h1;cases y <;> first|rfl|exact hl
      ·cases h1
   ·cases h
  ·cases h
 ·cases h
theorem IQ{r:Nat->Nat}{w:World}{g o:Nat}{l l':List (MV Ω)}{x:MV Ω}(h:jk w g (ai r l) (ck r l))(hp:qN l o x=some l')(hf:dX l=true):jk (w.setCells g o (x.cells r)) g (ai r l') (ck r l'):=by
 obtain⟨tail,h1,h2⟩:=h;obtain⟨p1,p2,p3⟩:=kN hp r;have hlen: (ai r l').length=(ai r l).length:=by rw[p3];simp[MV.aeX];omega
 refine⟨tail,?_,by rw[mw (BW hp hf).2,hlen];exact h2⟩;rw[bp _ _ _ _ _ h1 (by rw[MV.aeX];simp;omega),p3];congr 1;rw[u9 _ _ _ (by rw[MV.aeX];simp;omega),MV.aeX];congr 1;rw[List.take_append_of_le_length (by omega),List.drop_append_of_le_length (by omega),List.append_assoc];simp
theorem dL.Lo{r:Nat->Nat}{E:lN}{w0 w:World}{h:Nat->Option (List (MV Ω))}(hr:dL r E w0 w h){s:Nat}(hs:h s=none){b:List (MV Ω)}{cs:Array Value}{ty:TypeId}(hf:dX b=true)
  (hc:∀k c,h k=some c->ai (fun k=>if k=s then w.heap.size else r k) c=ai r c/\ck (fun k=>if k=s then w.heap.size else r k) c=ck r c) (hx:jY b=true) (hb:cs=(ai (fun k=>if k=s then w.heap.size else r k) b).toArray):
  dL (fun k=>if k=s then w.heap.size else r k) E w0 (w.alloc (.cells cs ty (0,0))) (fun k=>if k=s then some b else h k):=by
 obtain⟨fp,hr⟩:=hr;have old:∀g,g<w.heap.size->(w.alloc (.cells cs ty (0,0))).heap[g]? =w.heap[g]?:=fun g hg=>Below.heap_alloc _ _ _ hg;refine⟨fun k g=>if k=s then g=w.heap.size else fp k g,⟨fun i j ci cj g hi hj fi fj=>?_,fun k c hk=>?_,fun k c g hk hg=>?_,hr.os,hr.tape,hr.output,by have:=hr.size;simp;omega,fun g hg hn=>?_,fun g hg=>?_⟩⟩
 ·by_cases a1:i=s <;> by_cases a2:j=s
  ·omega
  ·simp only[a1,a2,if_true,if_false] at fi fj hj;have:=(hr.holds j cj hj).lt fj;omega
  ·simp only[a1,a2,if_true,if_false] at fi fj hi;have:=(hr.holds i ci hi).lt fi;omega
  ·simp only[a1,a2,if_false] at fi fj hi hj;exact hr.yf i j ci cj g hi hj fi fj
 ·by_cases a1:k=s
  ·simp only[a1,if_true,oI] at hk ⊢;subst hk;refine Holds.of_flat hf (fun x=>Iff.rfl) ?_;rw[ng hx];refine⟨[],?_,rfl⟩;rw[af,if_pos rfl,aq,hb,List.append_nil]
  ·simp only[a1,if_false] at hk ⊢;exact((hr.holds k c hk).loc fun x hx=>old x ((hr.holds k c hk).lt hx)).cells (hc k c hk).1 (hc k c hk).2
 ·by_cases a1:k=s
  ·simp only[a1,if_true] at hg;right;rw[hg];exact hr.size
  ·simp only[a1,if_false] at hk hg;exact hr.own k c g hk hg
 ·exact(old g (nU hg hr.size)).trans (hr.dK g hg hn)
 ·exact(uH (old g (nU hg hr.size))).trans (hr.ty g hg)
theorem dL.store{r:Nat->Nat}{E:lN}{w0 w:World}{h:Nat->Option (List (MV Ω))}(hr:dL r E w0 w h){k o:Nat}{l l':List (MV Ω)}{x:MV Ω}(hk:h k=some l)(hf:dX l=true)(hp:qN l o x=some l'):
  dL r E w0 (w.setCells (r k) o (x.cells r)) (fun i=>if i=k then some l' else h i):=by
 obtain⟨fp,hr⟩:=hr;have hos:=ez (r k) (x.cells r) o w;have hfl:=(hr.holds k l hk).flat hf;have src:∀i c,(if i=k then some l' else h i)=some c->∃c',h i=some c':=fun i c hi=>by
  by_cases a:i=k
  ·rw[a];exact⟨l,hk⟩
  ·rw[if_neg a] at hi;exact⟨c,hi⟩
 have old:∀g,g≠r k->(w.setCells (r k) o (x.cells r)).heap[g]? =w.heap[g]?:=fun g hg=>cC _ _ _ _ _ hg;refine⟨fp,⟨fun i j ci cj g hi hj fi fj=>?_,fun j cs hj=>?_,fun j c g h1 h2=>?_,hos.1.trans hr.os,hos.2.1.trans hr.tape,hos.2.2.trans hr.output,by simpa using hr.size,fun g hg hn=>?_,fun g hg=>(ma _ _ _ _ _).trans (hr.ty g hg)⟩⟩
 ·obtain⟨_,h1⟩:=src i ci hi;obtain⟨_,h2⟩:=src j cj hj;exact hr.yf i j _ _ g h1 h2 fi fj
 ·by_cases e:j=k
  ·simp only[e,if_true,oI] at hj ⊢;subst hj;exact Holds.of_flat (BW hp hf).1 hfl.1 (IQ hfl.2 hp hf)
  ·simp only[e,if_false] at hj;exact(hr.holds j cs hj).loc fun y hy=>old y fun he=>e (hr.yf j k _ _ y hj hk hy ((hfl.1 y).2 he))
 ·obtain⟨_,h3⟩:=src j c h1;exact hr.own j _ g h3 h2
 ·rw[old g (fun he=>?_)]
  ·exact hr.dK g hg hn
  ·rcases hr.own k l g hk ((hfl.1 g).2 he) with h1|h1
   ·exact hn h1
   ·omega
theorem dL.congr{r:Nat->Nat}{E:lN}{w0 w:World}{h h':Nat->Option (List (MV Ω))}(hr:dL r E w0 w h)(e:∀k,h' k=h k):dL r E w0 w h':=by have:h'=h:=funext e;rw[this];exact hr
theorem Am{r:Nat->Nat}{E:lN}{w0 w:World}{H:Hp Ω}(hr:Rel r E w0 w H){tm b:List (MV Ω)}{x:MV Ω}{y:MV Ω×Hp Ω}(h: (vu H tm b x).pick=some y)(ty:TypeId)(cs:Array Value)(hcs:∀r,cs=(ai r b).toArray∨Z8 H.length b=true)(hcs':cs=(ai r b).toArray)
  (hE:E.n<=H.length) (v:Value) (hv:∀r',(∀k,k<H.length->r' k=r k)->r' H.length=w.heap.size->v=x.av r'):yr r E w0 H tm y v (w.alloc (.cells cs ty (0,0))):=by
 unfold vu at h;split at h
 ·rename_i hs;simp only[bI] at hs;obtain⟨s0,⟨s1,s2⟩,s3⟩:=hs;obtain rfl:=aw h;have e:∀k,k<H.length->(fun k=>if k=H.length then w.heap.size else r k) k=r k:=fun k hk=>by show(if k=H.length then _ else _)=_;rw[if_neg (by omega)]
  refine⟨fun k=>if k=H.length then w.heap.size else r k,⟨by simp,e⟩,?_,fo e tm s1,hv _ e (by simp)⟩;refine(dL.Lo (cs:=cs) hr (s:=H.length) (by simp) s0.1 (fun k c hk=>⟨bV e c (dn s2 k c hk),iy e c (dn s2 k c hk)⟩) s0.2 (by rw[hcs',bV e b s3])).congr fun k=>?_;by_cases hk:k=H.length
  ·subst hk;simp
  ·simp only[if_neg hk];rcases nO k H.length with h1|h1
   ·rw[List.getElem?_append_left h1]
   ·rw[nE (by simp;omega),nE (by omega)]
 ·cases h
theorem qR{P:Program}{t:TypeId}{n:Nat}(hi:iz P t=some n){w:World}{g o:Nat}{cur:Array Value}(hb:w.aI g=some cur){v:Value}{cs:List Value}(hv:v.cells=cs.toArray)(hn:cs.length=n)(ho:o+n<=cur.size)(h1:∀v∈cs,v.oneCell'=true):
  (storeVar t ⟨g,o,none⟩ v).run P w= .ok () (w.setCells g o cs):=by
 have:=run_storeCells_cells (P:=P) g o cs 0 w (fun j hj=>by rw[ao hb,Array.getElem?_eq_getElem (by omega)];rfl) (fun j hj=>ax hb _) h1;simp only[storeVar,Sem.run_bind,dw hi,Result.andThen_ok,hv];rw[if_neg (by simp[hn])];simpa using this
theorem IT{r:Nat->Nat}{E:lN}{w0 w:World}{H:Hp Ω}(hr:Rel r E w0 w H){k o:Nat}{l l':List (MV Ω)}{x:MV Ω}(hk:H[k]? =some l)(hf:dX l=true)(hp:qN l o x=some l'):Rel r E w0 (w.setCells (r k) o (x.cells r)) (H.set k l'):=by
 refine(dL.store (h:=fun k=>H[k]?) hr hk hf hp).congr fun j=>?_;by_cases e:j=k
 ·subst e;rw[if_pos rfl,List.getElem?_set_self (gS.1 hk).1]
 ·rw[if_neg e,List.getElem?_set_ne (by omega)]
theorem An{z:List Value}{s:Nat}(hz:z.length=s)(hs:0<s):∀(n i:Nat),i<n*s->(List.replicate n z).flatten[i]? =z[i%s]?
 |0,i,h=>by simp at h
 |n+1,i,h=>by
  rw[List.replicate_succ,List.flatten_cons];by_cases hi:i<s
  ·rw[List.getElem?_append_left (by omega),nM hi]
  ·rw[List.getElem?_append_right (by omega),hz,An hz hs n (i-s) (by rw[Nat.add_mul,Nat.one_mul] at h;omega)];congr 1;rw[<-Nat.mod_eq_sub_mod (by omega)]
theorem sw(r:Nat->Nat)(z:List (MV Ω)):∀n,ai r (List.replicate n z).flatten=(List.replicate n (ai r z)).flatten
 |0=>rfl
 |n+1=>by rw[List.replicate_succ,List.replicate_succ,List.flatten_cons,List.flatten_cons,dT,sw r z n]
theorem nm{P:Program}{s:Sem Value}{v:Value}{w w':World}(h:s.run P w= .ok v w'): (do pure (Next.value (<-s)):Sem Next).run P w= .ok (.value v) w':=by simp only[Sem.run_bind,h,Result.andThen_ok,Sem.run_pure]
theorem jM{P:Program}{o:Oper}{a:Act}{w w':World}{v:Value}{K:Act->World->Prop}{Q:Exit->Act->World->Prop}(h: (execOp a.eval o).run P w= .ok (.value v) w')(hK:K (a.put o.dst v) w'):o.wp P a w K Q:=by unfold Oper.wp;rw[h];exact hK
theorem BX{P:Program}{o:Oper}{a:Act}{w w':World}{K:Act->World->Prop}{Q:Exit->Act->World->Prop}(h: (execOp a.eval o).run P w= .ok .skip w')(hK:K (a.put o.dst undef) w'):o.wp P a w K Q:=by unfold Oper.wp;rw[h];exact hK
theorem Rel.trans{r r':Nat->Nat}{E:lN}{w0 w w':World}{H H':Hp Ω}{fp:Nat->Nat->Prop}(h:Aa r fp E w0 w (fun k=>H[k]?))(k:Rel r' ⟨H.length,fE fp H⟩ w w' H'):Rel r' E w0 w' H':=by
 obtain⟨fp',k⟩:=k;have old:∀g,fE fp H g->E.S g∨w0.heap.size<=g:=fun g ⟨i,hi,hg⟩=>h.own i _ g (gE hi) hg;refine⟨fp',⟨k.yf,k.holds,fun i c g hi hg=>?_,k.os.trans h.os,k.tape.trans h.tape,k.output.trans h.output,nT h.size k.size,fun g hg hn=>?_,fun g hg=>(k.ty g (nU hg h.size)).trans (h.ty g hg)⟩⟩
 ·rcases k.own i c g hi hg with h1|h1
  ·exact old g h1
  ·exact .inr (nT h.size h1)
 ·refine(k.dK g (nU hg h.size) fun ho=>?_).trans (h.dK g hg hn);rcases old g ho with h1|h1
  ·exact hn h1
  ·omega
theorem Aa.abO{r:Nat->Nat}{E:lN}{w0 w:World}{H:Hp Ω}{fp:Nat->Nat->Prop}(h:Aa r fp E w0 w (fun k=>H[k]?)):EE r fp w H:=
 ⟨fun i j g hi hj=>h.yf i j _ _ g (gE hi) (gE hj),h.holds⟩
theorem dL.add{r r':Nat->Nat}{E:lN}{w0 w w':World}{h:Nat->Option (List (MV Ω))}(hr:dL r E w0 w h){s:Nat}{b:List (MV Ω)}(hb:Below w.heap.size w w')(hf:dX b=true)(hs:r' s=w.heap.size)
  (hc:∀k c,h k=some c->k≠s/\r' k=r k/\ai r' c=ai r c/\ck r' c=ck r c) (hrow:jk w' w.heap.size (ai r' b) (ck r' b)):
  dL r' E w0 w' (fun k=>if k=s then some b else h k):=by
 obtain⟨fp,hr⟩:=hr;have old:∀g,g<w.heap.size->w'.heap[g]? =w.heap[g]?:=fun g hg=>hb.block g hg;refine⟨fun k g=>if k=s then g=w.heap.size else fp k g,⟨fun i j ci cj g hi hj fi fj=>?_,fun k c hk=>?_,fun k c g hk hg=>?_,hb.os.trans hr.os,hb.tape.trans hr.tape,hb.output.trans hr.output,nT hr.size hb.size,fun g hg hn=>?_,fun g hg=>?_⟩⟩
 ·by_cases a1:i=s <;> by_cases a2:j=s
  ·omega
  ·simp only[a1,a2,if_true,if_false] at fi fj hj;have:=(hr.holds j cj hj).lt fj;omega
  ·simp only[a1,a2,if_true,if_false] at fi fj hi;have:=(hr.holds i ci hi).lt fi;omega
  ·simp only[a1,a2,if_false] at fi fj hi hj;exact hr.yf i j ci cj g hi hj fi fj
 ·by_cases a1:k=s
  ·simp only[a1,if_true,oI] at hk ⊢;subst hk;rw[hs];exact Holds.of_flat hf (fun x=>Iff.rfl) hrow
  ·simp only[a1,if_false] at hk ⊢;obtain⟨_,c1,c2,c3⟩:=hc k c hk;rw[c1];exact((hr.holds k c hk).loc fun x hx=>old x ((hr.holds k c hk).lt hx)).cells c2 c3
 ·by_cases a1:k=s
  ·simp only[a1,if_true] at hg;right;rw[hg];exact hr.size
  ·simp only[a1,if_false] at hk hg;exact hr.own k c g hk hg
 ·exact(old g (nU hg hr.size)).trans (hr.dK g hg hn)
 ·exact(uH (old g (nU hg hr.size))).trans (hr.ty g hg)
theorem dL.ph{r r':Nat->Nat}{E:lN}{w0 w:World}{h:Nat->Option (List (MV Ω))}(hr:dL r E w0 w h){s:Nat}
  (hc:∀k c,k≠s->h k=some c->r' k=r k/\ai r' c=ai r c/\ck r' c=ck r c):dL r' E w0 w (fun k=>if k=s then some dead else h k):=by
 obtain⟨fp,hr⟩:=hr;refine⟨fun k g=>k≠s/\fp k g,⟨fun i j ci cj g hi hj fi fj=>?_,fun k c hk=>?_,fun k c g hk hg=>?_,hr.os,hr.tape,hr.output,hr.size,hr.dK,hr.ty⟩⟩
 ·simp only[fi.1,fj.1,if_false] at hi hj;exact hr.yf i j ci cj g hi hj fi.2 fj.2
 ·by_cases a1:k=s
  ·simp only[a1,if_true,oI] at hk;subst hk;exact fun x hx=>hx.1 a1
  ·simp only[a1,if_false] at hk;obtain⟨c1,c2,c3⟩:=hc k c a1 hk;have e: (fun g=>k≠s/\fp k g)=fp k:=by funext g;exact propext ⟨fun h=>h.2,fun h=>⟨a1,h⟩⟩
   rw[c1,e];exact(hr.holds k c hk).cells c2 c3
 ·simp only[hg.1,if_false] at hk;exact hr.own k c g hk hg.2
theorem dL.mv{r r':Nat->Nat}{E:lN}{w0 w w':World}{h:Nat->Option (List (MV Ω))}(hr:dL r E w0 w h){k s:Nat}{l b:List (MV Ω)}(hk:h k=some l)(hf:dX l=true)(hs:h s=none)(hfb:dX b=true)
  (hw:∀g,g≠r k->w'.heap[g]? =w.heap[g]?) (hos:w'.os=w.os/\w'.tape=w.tape/\w'.output=w.output) (hsz:w'.heap.size=w.heap.size) (hty:sg w' (r k)=sg w (r k)) (hrs:r' s=r k)
  (hc:∀j c,j≠k->h j=some c->r' j=r j/\ai r' c=ai r c/\ck r' c=ck r c) (hrow:jk w' (r k) (ai r' b) (ck r' b)):
  dL r' E w0 w' (fun j=>if j=s then some b else if j=k then some dead else h j):=by
 obtain⟨fp,hr⟩:=hr;have hks:k≠s:=fun e=>by rw[e,hs] at hk;cases hk
 have hfl:=((hr.holds k l hk).flat hf).1;refine⟨fun j g=>if j=s then g=r k else j≠k/\fp j g,⟨fun i j ci cj g hi hj fi fj=>?_,fun j c hj=>?_,fun j c g hj hg=>?_,hos.1.trans hr.os,hos.2.1.trans hr.tape,hos.2.2.trans hr.output,by rw[hsz];exact hr.size,fun g hg hn=>?_,fun g hg=>?_⟩⟩
 ·by_cases a1:i=s <;> by_cases a2:j=s
  ·omega
  ·simp only[a1,a2,if_true,if_false] at fi fj hj;simp only[fj.1,if_false] at hj;exact absurd (hr.yf j k cj l g hj hk fj.2 ((hfl g).2 fi)) fj.1
  ·simp only[a1,a2,if_true,if_false] at fi fj hi;simp only[fi.1,if_false] at hi;exact absurd (hr.yf i k ci l g hi hk fi.2 ((hfl g).2 fj)) fi.1
  ·simp only[a1,a2,if_false] at fi fj hi hj;simp only[fi.1,if_false] at hi;simp only[fj.1,if_false] at hj;exact hr.yf i j ci cj g hi hj fi.2 fj.2
 ·by_cases a1:j=s
  ·simp only[a1,if_true,oI] at hj ⊢;subst hj;rw[hrs];exact Holds.of_flat hfb (fun x=>Iff.rfl) hrow
  ·simp only[a1,if_false] at hj ⊢;by_cases a2:j=k
   ·simp only[a2,if_true,oI] at hj;subst hj;exact fun x hx=>hx.1 a2
   ·simp only[a2,if_false] at hj;obtain⟨c1,c2,c3⟩:=hc j c a2 hj;have e: (fun g=>j≠k/\fp j g)=fp j:=by funext g;exact propext ⟨fun h=>h.2,fun h=>⟨a2,h⟩⟩
    rw[c1,e];exact((hr.holds j c hj).loc fun x hx=>hw x fun he=>a2 (hr.yf j k c l x hj hk hx ((hfl x).2 he))).cells c2 c3
 ·by_cases a1:j=s
  ·simp only[a1,if_true] at hg;exact hr.own k l g hk ((hfl g).2 hg)
  ·simp only[a1,if_false] at hj hg;simp only[hg.1,if_false] at hj;exact hr.own j c g hj hg.2
 ·refine(hw g fun he=>?_).trans (hr.dK g hg hn);rcases hr.own k l g hk ((hfl g).2 he) with h1|h1
  ·exact hn h1
  ·omega
 ·refine Eq.trans ?_ (hr.ty g hg);by_cases e:g=r k
  ·rw[e,hty]
  ·exact uH (hw g e)
theorem kl{H:Hp Ω}{k o n:Nat}{ys:List (MV Ω)}(h:iP H k o n=some ys){r:Nat->Nat}{w:World}(hl:BG r w H):
  dq ys=none/\(ai r ys).length=n/\∀(j:Nat) (u:Value),(ai r ys)[j]? =some u->w.cell? ⟨r k,o+j,none⟩=some u:=by
 unfold iP at h;split at h
 ·rename_i l hk;cases h1:gT l o with
  |none=>rw[h1] at h;cases h
  |some m=>
   rw[h1] at h;simp only[Option.bind_some] at h;obtain⟨a1,a2⟩:=gu r l o m h1;obtain⟨b1,b2,b3⟩:=im r m n ys h;obtain⟨tail,hb,-⟩:=hl k l (bU hk).1 (bU hk).2;refine⟨sd h,by rw[cV,b2],fun j u hj=>?_⟩;rw[ao hb,List.getElem?_toArray];rw[b3,a2] at hj;rw[List.getElem?_take] at hj;split at hj
   ·rw[List.getElem?_drop] at hj;rw[List.getElem?_append_left (gS.1 hj).1];exact hj
   ·cases hj
 ·cases h
theorem ER{H:Hp Ω}{sz:Nat}{x:MV Ω}{m:Nat}{xs:List (MV Ω)}(h:Ln H sz x=some (m,xs)){r:Nat->Nat}{w:World}(hl:BG r w H):
  dq xs=none/\(ai r xs).length=m*sz/\∃a c,x.av r= .slice (some a) m c/\∀(j:Nat) (u:Value),(ai r xs)[j]? =some u->w.cell? (a.add j)=some u:=by
 unfold Ln at h;split at h
 ·rename_i k o m' c;cases hq:iP H k o (m'*sz) with
  |none=>rw[hq] at h;cases h
  |some l=>
   rw[hq] at h;cases h;obtain⟨h1,h2,h3⟩:=kl hq hl;exact⟨h1,h2,⟨r k,o,none⟩,c,rfl,fun j u hj=>by rw[Addr.add_lit];exact h3 j u hj⟩
 ·rename_i k q o m';cases hq:iP H k o (m'*sz) with
  |none=>rw[hq] at h;cases h
  |some l=>
   rw[hq] at h;cases h;obtain⟨h1,h2,h3⟩:=kl hq hl;exact⟨h1,h2,⟨r k,o,none⟩,r q,rfl,fun j u hj=>by rw[Addr.add_lit];exact h3 j u hj⟩
 ·cases h
theorem IV{l:List (MV Ω)}{q n:Nat}(h:dX l=true):dX (l++ [.r q n])=true:=by
 cases l with
 |nil=>rfl
 |cons x l=>cases x <;> first|rfl|exact h
theorem vy{r:Nat->Nat}{E:lN}{w0 w':World}{H H1:Hp Ω}{tm cs:List (MV Ω)}{sz n G cap:Nat}{y:MV Ω×Hp Ω}(h: (om H H1 tm sz n cs).pick=some y)(hl1:H1.length=H.length)
  (hrel:∀r' b,(∀k,k<H.length->r' k=r k)->r' H.length=G->r' (H.length+1)=cap->b=cs++ [.r (H.length+1) sz]->dX b=true->ai r' b=ai r cs->ck r' b=some (cap*sz)->(∀(k:Nat) (c:List (MV Ω)),H1[k]? =some c->ai r' c=ai r c/\ck r' c=ck r c)->dL r' E w0 w' (fun k=>if k=H.length then some b else H1[k]?)):
  yr r E w0 H tm y (.slice (some ⟨G,0,none⟩) n cap) w':=by
 unfold om at h;split at h
 ·rename_i hs;simp only[bI] at hs;obtain⟨⟨f1,f2⟩,⟨s1,s2⟩,s3⟩:=hs;obtain rfl:=aw h
  let r':Nat->Nat:=fun j=>if j=H.length then G else if j=H.length+1 then cap else r j
  have e:∀k,k<H.length->r' k=r k:=fun k hk=>by show(if k=H.length then _ else if k=H.length+1 then _ else _)=_;rw[if_neg (by omega),if_neg (by omega)]
  have e1:r' H.length=G:=if_pos rfl;have e2:r' (H.length+1)=cap:=by show(if H.length+1=H.length then _ else if H.length+1=H.length+1 then _ else _)=_;rw[if_neg (by omega),if_pos rfl]
  have hb:ai r' (cs++ [.r (H.length+1) sz])=ai r cs:=by rw[dT,bV e cs s3];show _++([]++ [])=_;simp
  have hq:ck r' (cs++ [.r (H.length+1) sz])=some (cap*sz):=by unfold ck;rw[lM (sf f2)];show some (r' (H.length+1)*sz)=_;rw[e2]
  have old:∀k c,H1[k]? =some c->ai r' c=ai r c/\ck r' c=ck r c:=fun k c hk=>⟨bV e c (dn s2 k c hk),iy e c (dn s2 k c hk)⟩;have h1:=hrel r' _ e e1 e2 rfl (IV f1) hb hq old;refine⟨r',⟨by simp[hl1],e⟩,?_,fo e tm s1,by simp[MV.av,e1,e2]⟩;refine(dL.ph (r':=r') (s:=H.length+1) h1 (fun _ _ _ _=>⟨rfl,rfl,rfl⟩)).congr fun k=>?_;by_cases k1:k=H.length+1
  ·rw[if_pos k1,k1,List.getElem?_append_right (by omega)];simp[hl1]
  ·rw[if_neg k1];by_cases k2:k=H.length
   ·rw[if_pos k2,k2,List.getElem?_append_right (by omega)];simp[hl1]
   ·rw[if_neg k2];rcases nO k H.length with h2|h2
    ·rw[List.getElem?_append_left (by omega)]
    ·rw[nE (by simp;omega),nE (by omega)]
 ·cases h
theorem vz{r:Nat->Nat}{E:lN}{w0 w:World}{H H1:Hp Ω}{tm cs:List (MV Ω)}{sz n cap:Nat}{y:MV Ω×Hp Ω}(h: (om H H1 tm sz n cs).pick=some y)(hl1:H1.length=H.length)(hr:Rel r E w0 w H1){e:TypeId}{vs zs:List Value}(hvs:vs=ai r cs)(hlen:vs.length=n*sz)(hn:n<=cap)(hz:zs.length=(cap-n)*sz){arr:Array Value}(harr:arr=(vs++zs).toArray):
  yr r E w0 H tm y (.slice (some ⟨w.heap.size,0,none⟩) n cap) (w.drew.alloc (.cells arr e)):=by
 refine vy h hl1 fun r' b e0 e1 e2 hb hf hc hq old=>?_;have hbl:Below w.heap.size w (w.drew.alloc (.cells arr e)):=⟨rfl,rfl,rfl,by simp,fun k hk=>Below.heap_alloc _ _ _ hk⟩;refine dL.add (h:=fun k=>H1[k]?) hr hbl hf e1 (fun k c hk=>?_) ?_
 ·have hk':k<H.length:=by rw[<-hl1];exact(gS.1 hk).1
  exact⟨by omega,e0 k hk',(old k c hk).1,(old k c hk).2⟩
 ·rw[hc,hq];refine⟨zs,?_,?_⟩
  ·rw[af,if_pos (by rfl),<-hvs,<-harr];rfl
  ·rw[<-hvs,hlen,hz];constructor
   ·exact nR _ hn
   ·rw[<-Nat.add_mul];apply nR;omega
theorem xL{P:Program}(w:World)(t ty e:TypeId)(i:TypeInfo)(ht:P.underlying t=some (.slice e))(hi:P.info? e=some i)
  (g sLen sCap:Nat) (cur:Array Value) (hg:w.aI g=some cur) (a:Addr) (m c:Nat) (news:List Value) (hl:news.length=m*i.size) (hnews:∀(j:Nat) (u:Value),news[j]? =some u->w.cell? (a.add j)=some u) (h1:∀u∈news,u.oneCell'=true)
  (hroom:sLen+m<=sCap) (hfit:sLen*i.size+news.length<=cur.size):
  (Builtin.append_ #[t,t] ty #[.slice (some ⟨g,0,none⟩) sLen sCap,.slice (some a) m c]).run P w= .ok (.slice (some ⟨g,0,none⟩) (sLen+m) sCap) (w.setCells g (sLen*i.size) news):=by
 have hf:=run_firstCells_some (P:=P) w i.size m a m c news hl hnews;have hst:=run_storeCells_cells (P:=P) g (sLen*i.size) news 0 w (fun j hj=>by rw[ao hg,Array.getElem?_eq_getElem (by omega)];rfl) (fun j hj=>ax hg _) h1;simp only[Nat.add_zero] at hst;simp[Builtin.append_,run_underlying ht,sizeOf,typeInfo,hi,Builtin.lenOf,hroom,hf,Addr.add_lit,hst]
theorem tR:∀{l m:List (MV Ω)},rX (l++m)=true->rX l=true/\rX m=true
 | [],m,h=>⟨rfl,h⟩
 |x::l,m,h=>by rw[List.cons_append] at h;simp only[rX,bI] at h ⊢;obtain⟨a,b⟩:=tR h.2;exact⟨⟨h.1,a⟩,b⟩
theorem IW{H H1:Hp Ω}{tm cs:List (MV Ω)}{sz n:Nat}{y:MV Ω×Hp Ω}(h: (om H H1 tm sz n cs).pick=some y):rX cs=true:=by
 unfold om at h;split at h
 ·rename_i hs;simp only[bI] at hs;exact hs.1.2
 ·cases h
theorem xM{cx:Cx Ω}(ok:iO cx){ts:List TypeId}{args tm:List (MV Ω)}{H:Hp Ω}{y:MV Ω×Hp Ω}(h: (vw cx ts args tm H).pick=some y){r:Nat->Nat}{E:lN}{w0 w:World}(hr:Rel r E w0 w H)(ty:TypeId):
  ∃v w',(Builtin.append_ ts.toArray ty (aE r args).toArray).run cx.P w= .ok v w'/\yr r E w0 H tm y v w':=by
 unfold vw at h;split at h
 ·rename_i t t' s x;split at h
  ·rename_i elem et ht;obtain rfl:=nQ et;split at h
   ·rename_i i z hi hz;obtain⟨zv,hzv,hzc⟩:=iq ok hz w;have hz0:∃zz,i.zero=some zz/\zz.cells.toList=ai r z:=by
     simp only[zeroValue,typeInfo,Sem.run_bind,run_program,Result.andThen_ok,hi] at hzv;cases hiz:i.zero with
     |none=>simp[hiz] at hzv
     |some zz=>
      simp[hiz] at hzv;exact⟨zz,rfl,by rw[hzv,hzc r]⟩
    obtain⟨zz,hzz,hzcells⟩:=hz0;have zlen:∀k,xH z=i.size->(Builtin.zeroCells zz.cells k).toList.length=k*i.size:=fun k hk=>by
     have:zz.cells.size=i.size:=by have:=congrArg List.length hzcells;rw[cV,hk] at this;simpa using this
     simp[Builtin.zeroCells,this]
    split at h
    ·rename_i m xs hsrc;obtain⟨x1,x2,ad,c,x3,x4⟩:=ER hsrc hr.uw;split at h
     ·
      split at h
      ·rename_i hd;obtain⟨d1,d2,d3,d4⟩:0<m/\m*i.bytes<=140737488355328/\m<=140737488355328/\xH z=i.size:=by simpa using hd
       have hrun:=run_append_nil (P:=cx.P) w t ty elem i zz ht hi hzz ad m c _ x2 x4 d1 (by omega) (by omega);rw[<-x3] at hrun;exact⟨_,_,hrun,vz h rfl hr (vs:=ai r xs) (zs:=(Builtin.zeroCells zz.cells (grownCap w m 0 elem-m)).toList) rfl x2 (grownCap_ge w m 0 elem) (zlen _ d4) (by apply Array.toList_inj.1;simp)⟩
      ·cases h
     ·rename_i k n cap;split at h
      ·rename_i ys hd hys;obtain⟨d1,d2,d3,d4⟩:cap<n+m/\(n+m)*i.bytes<=140737488355328/\n+m<=140737488355328/\xH z=i.size:=by simpa using hd
       obtain⟨y1,y2,y3⟩:=kl hys hr.uw;have hrun:=run_append_grow (P:=cx.P) w t ty elem i zz ht hi hzz ⟨r k,0,none⟩ n cap _ y2 (fun j u hj=>by rw[Addr.add_lit];exact y3 j u hj) ad m c _ x2 x4 d1 (by omega) (growslice_fits d1 d2);rw[<-x3] at hrun;refine⟨_,_,hrun,vz h rfl hr (vs:=ai r ys++ai r xs) (zs:=(Builtin.zeroCells zz.cells (grownCap w (n+m) cap elem-(n+m))).toList) (dT r ys xs).symm (by rw[List.length_append,y2,x2,Nat.add_mul]) (grownCap_ge w (n+m) cap elem) (zlen _ d4) (by apply Array.toList_inj.1;simp)⟩
      ·cases h
     ·rename_i k q n;split at h
      ·rename_i l ys hd hk hys;obtain⟨d2,d3,d5,d4⟩: (n+m)*i.bytes<=140737488355328/\n+m<=140737488355328/\0<i.size/\xH z=i.size:=by simpa using hd
       obtain⟨y1,y2,y3⟩:=kl hys hr.uw;split at h
       ·rename_i q' sz' hrest;split at h
        ·rename_i hq;simp only[bI] at hq;obtain rfl:=nQ hq.1;obtain rfl:=nQ hq.2;have hlen: (ai r ys++ai r xs).length=(n+m)*i.size:=by rw[List.length_append,y2,x2,Nat.add_mul]
         by_cases hroom:n+m<=r q
         ·obtain⟨tail,hb,hbt⟩:=hr.uw k l (bU hk).1 (bU hk).2;rw[show ck r l=some (r q*i.size) by unfold ck;rw[hrest];rfl] at hbt;obtain⟨t1,t2⟩:=hbt;have hfit: (n+m)*i.size<=r q*i.size:=nR _ hroom;have hone:∀u∈ai r xs,u.oneCell'=true:=rY r xs (tR (IW h)).2;have hcur:n*i.size+(ai r xs).length<=((ai r l++tail).toArray).size:=by rw[x2,<-Nat.add_mul];simp;omega
          have hrun:=xL (P:=cx.P) w t ty elem i ht hi (r k) n (r q) _ hb ad m c _ x2 x4 hone hroom hcur;rw[<-x3] at hrun;refine⟨_,_,hrun,vy h (by simp) fun r' b e0 e1 e2 hbb hf hc hq' old=>?_⟩;have hos:=ez (r k) (ai r xs) (n*i.size) w;have hkl:=(gS.1 (bU hk).1).1;have hold:∀(j:Nat) (c':List (MV Ω)),H[j]? =some c'->r' j=r j:=fun j c' hj=>e0 j (gS.1 hj).1;have hys0:ai r ys=(ai r l++tail).take (n*i.size):=by unfold iP at hys;rw[hk] at hys;simp only[show gT l 0=some l by cases l <;> rfl,Option.bind_some] at hys;obtain⟨b1,b2,b3⟩:=im r l _ ys hys;rw[b3,List.take_append_of_le_length (by rw[cV];exact b1)]
          have hrow:jk (w.setCells (r k) (n*i.size) (ai r xs)) (r k) (ai r' b) (ck r' b):=by
           rw[hc,hq',dT];refine⟨(ai r l++tail).drop (n*i.size+(ai r xs).length),?_,?_⟩
           ·rw[bp _ _ _ _ _ hb hcur,u9 _ _ _ (by simpa using hcur),hys0]
           ·rw[hlen];refine⟨hfit,?_⟩;rw[List.length_drop,x2,<-Nat.add_mul,List.length_append];omega
          have hmv:=dL.mv (h:=fun j=>H[j]?) (s:=H.length) (r':=r') hr (bU hk).1 (bU hk).2 (by simp) hf (fun g hg=>cC _ _ _ _ _ hg) hos (by simp) (ma _ _ _ _ _) e1 (fun j c' hjk hj=>?_) hrow
          ·refine hmv.congr fun j=>?_;by_cases j1:j=H.length
           ·rw[if_pos j1,if_pos j1]
           ·rw[if_neg j1,if_neg j1];by_cases j2:j=k
            ·rw[if_pos j2,j2,List.getElem?_set_self hkl]
            ·rw[if_neg j2,List.getElem?_set_ne (by omega)]
          ·refine⟨hold j c' hj,?_⟩;exact old j c' (by rw[List.getElem?_set_ne (by omega)];exact hj)
         ·have hg:r q<n+m:=by omega
          have hrun:=run_append_grow (P:=cx.P) w t ty elem i zz ht hi hzz ⟨r k,0,none⟩ n (r q) _ y2 (fun j u hj=>by rw[Addr.add_lit];exact y3 j u hj) ad m c _ x2 x4 hg (by omega) (growslice_fits hg d2);have hr1:Rel r E w0 w (H.set k dead):=by
           refine(dL.ph (r':=r) (s:=k) hr (fun _ _ _ _=>⟨rfl,rfl,rfl⟩)).congr fun j=>?_;by_cases j2:j=k
           ·rw[if_pos j2,j2,List.getElem?_set_self (gS.1 (bU hk).1).1]
           ·rw[if_neg j2,List.getElem?_set_ne (by omega)]
          rw[<-x3] at hrun;refine⟨_,_,hrun,vz h (by simp) hr1 (vs:=ai r ys++ai r xs) (zs:=(Builtin.zeroCells zz.cells (grownCap w (n+m) (r q) elem-(n+m))).toList) (dT r ys xs).symm hlen (grownCap_ge w (n+m) (r q) elem) (zlen _ d4) (by apply Array.toList_inj.1;simp)⟩
        ·cases h
       ·cases h
      ·cases h
     ·cases h
    ·have same:∀v,v=s.av r->y=(s,H)->yr r E w0 H tm y v w:=fun v hv hy=>by subst hy;exact⟨r,⟨nL _,fun _ _=>rfl⟩,hr,rfl,hv⟩
     have go:∀(b:Option Addr) (n c:Nat),n<=c->(∀a,b=some a->a.spot=none)->(Builtin.append_ #[t,t] ty #[.slice b n c,.slice none 0 0]).run cx.P w= .ok (.slice b n c) w:=fun b n c hn hb=>by
      cases b with
      |none=>simp[Builtin.append_,run_underlying ht,sizeOf,typeInfo,hi,Builtin.lenOf,hn,Builtin.firstCells]
      |some a=>simp[Builtin.append_,run_underlying ht,sizeOf,typeInfo,hi,Builtin.lenOf,hn,Builtin.firstCells,storeCells]
     split at h
     ·split at h
      ·have hy:=(aw h).symm;exact⟨_,_,go none 0 0 (nL _) (fun a h=>by cases h),same _ rfl hy⟩
      ·rename_i k n c;split at h
       ·rename_i hn;have hy:=(aw h).symm;exact⟨_,_,go (some ⟨r k,0,none⟩) n c (by simpa using hn) (fun a h=>by cases h;rfl),same _ rfl hy⟩
       ·cases h
      ·rename_i k q n;split at h
       ·rename_i l ys hd hk hys;have d5:0<i.size:=by simpa using hd
        split at h
        ·rename_i q' sz' hrest;split at h
         ·rename_i hq;simp only[bI] at hq;obtain rfl:=nQ hq.1;obtain rfl:=nQ hq.2;have hy:=(aw h).symm;obtain⟨tail,hb,hbt⟩:=hr.uw k l (bU hk).1 (bU hk).2;rw[show ck r l=some (r q*i.size) by unfold ck;rw[hrest];rfl] at hbt;obtain⟨t1,t2⟩:=hbt;have hle:n*i.size<=(ai r l).length:=by unfold iP at hys;rw[hk] at hys;simp only[show gT l 0=some l by cases l <;> rfl,Option.bind_some] at hys;rw[cV];exact(im r l _ ys hys).1
          exact⟨_,_,go (some ⟨r k,0,none⟩) n (r q) (Nat.le_of_mul_le_mul_right (nT hle t1) d5) (fun a h=>by cases h;rfl),same _ rfl hy⟩
         ·cases h
        ·cases h
       ·cases h
      ·cases h
     ·cases h
   ·cases h
  ·cases h
 ·cases h
theorem ES{cx:Cx Ω}(ok:iO cx){fe:Fe Ω}(hfe:vx cx.P fe){o:Oper}{a:Act}{tm:List (MV Ω)}{r:Nat->Nat}(hev:a.tmps=(aE r tm).toArray){H:Hp Ω}{y:MV Ω×Hp Ω}(h: (BV cx fe o.op o.type (cG tm) tm H).pick=some y)
  {E:lN} {w0 w:World} (hr:Rel r E w0 w H) (hE:E.n<=H.length) {K:Act->World->Prop} {Q:Exit->Act->World->Prop} (hK:∀v w',yr r E w0 H tm y v w'->K (a.put o.dst v) w'):o.wp cx.P a w K Q:=by
 have hev:=fun x=>kV hev x;obtain⟨dst,op,type,pos,after,guard⟩:=o;have hmap:∀l:List Operand,l.map a.eval=aE r (l.map (cG tm)):=fun l=>by rw[fC,List.map_map];exact List.map_congr_left fun x _=>hev x
 have harr:∀l:Array Operand,l.map a.eval=(aE r (l.toList.map (cG tm))).toArray:=fun l=>by apply Array.toList_inj.1;simp[hmap]
 cases op <;> simp only[BV] at h <;> try (cases h;done)
 case alloc elem=>
  split at h
  ·rename_i z hz;obtain⟨v,hv,hc⟩:=iq ok hz w;refine jM (v:= .pointer (some ⟨w.heap.size,0,none⟩)) (w':=w.alloc (.cells v.cells elem (0,0))) ?_ (hK _ _ ?_)
   ·simp only[execOp,Instr.alloc,Sem.run_bind,hv,Result.andThen_ok,newVar,newRow,run_newObj,Sem.run_pure];rfl
   ·exact Am hr h elem v.cells (fun r'=> .inl (hc r')) (hc r) hE _ (fun r' h1 h2=>by simp[MV.av,h2])
  ·cases h
 case box elem x=>
  split at h
  ·rename_i h1;have hc: ((cG tm x).av r).cells=(ai r (cG tm x).flat).toArray:=by rw[jm,o9 r _ h1]
   refine jM (v:= .pointer (some ⟨w.heap.size,0,none⟩)) (w':=w.alloc (.cells ((cG tm x).av r).cells elem (0,0))) ?_ (hK _ _ ?_)
   ·simp only[execOp,Instr.box,Sem.run_bind,newVar,newRow,run_newObj,Sem.run_pure,Result.andThen_ok,hev];rfl
   ·have hs:Z8 H.length (cG tm x).flat=true:=by
     unfold vu at h;split at h
     ·rename_i hs;simp only[bI] at hs;exact hs.2.2
     ·cases h
    exact Am hr h elem _ (fun r'=> .inr hs) hc hE _ (fun r' h1 h2=>by simp[MV.av,h2])
  ·cases h
 case store t ad x=>
  unfold GI at h;split at h
  ·rename_i k off n had hn;split at h
   ·rename_i l hx hk;have hx: (cG tm x).sz=n:=by simpa using hx
    split at h
    ·rename_i l' hp;obtain rfl:=aw h;obtain⟨hk,hf⟩:=bU hk;obtain⟨p1,p2,p3⟩:=kN hp r;obtain⟨tail,hb,-⟩:=hr.uw k l hk hf;have hst:=qR hn hb (jm r (cG tm x)) (by rw[MV.aeX,hx]) (o:=off) (by rw[<-hx];simp;omega) (MV.uY r _ p1);refine BX (w':=w.setCells (r k) off ((cG tm x).cells r)) ?_ (hK _ _ ?_)
     ·simp only[execOp,Instr.storeAt,hev,had,MV.av,Instr.sureAddr,Sem.run_bind,Sem.run_pure,Result.andThen_ok,hst]
     ·exact⟨r,⟨by simp,fun _ _=>rfl⟩,IT hr hk hf hp,rfl,rfl⟩
    ·cases h
   ·cases h
  ·cases h
 case buildSlice t len parts=>
  unfold qQ at h;split at h
  ·rename_i elem hd;split at h
   ·rename_i s z hs hz;split at h
    ·rename_i hc;have hc:0<len*s/\len*s<=2^24/\xH z=s:=by simpa using hc
     obtain⟨c1,c2,c3⟩:=hc;split at h
     ·rename_i b hb;obtain⟨v,hv,hcv⟩:=iq ok hz w;have hs0:0<s:=by
       rcases Nat.eq_zero_or_pos s with e|e
       ·subst e;simp at c1
       ·exact e
      have hzl: (ai r z).length=s:=by rw[cV,c3]
      have hzs:v.cells.size=s:=by rw[hcv r];simpa using hzl
      have hrow: (Array.range (len*s)).map (fun x=>v.cells[x%v.cells.size]!)=(ai r (List.replicate len z).flatten).toArray:=by
       rw[sw];apply Array.ext_getElem?;intro i;by_cases hi:i<len*s
       ·have hm:i%s<s:=Nat.mod_lt _ hs0;have e1: ((List.replicate len (ai r z)).flatten.toArray)[i]? =(ai r z)[i%s]?:=by rw[List.getElem?_toArray];exact An hzl hs0 len i hi
        rw[e1];simp[hi,hzs];rw[hcv r];simp[hzl,hm]
       ·rw[Array.getElem?_eq_none (by simp;omega),Array.getElem?_eq_none];have: ((List.replicate len (ai r z)).flatten).length=len*s:=by simp[hzl]
        simp[hzl];omega
      have hfill:=nk r _ _ _ hb;have hpe: (parts.map fun(x:Nat×Operand)=>(x.1,a.eval x.2)).toList=(parts.toList.map fun(x:Nat×Operand)=>(x.1,cG tm x.2)).map fun(x:Nat×MV Ω)=>(x.1,x.2.av r):=by simp[hev]
      refine jM (v:= .slice (some ⟨w.heap.size,0,none⟩) len len) (w':=w.alloc (.cells (ai r b).toArray elem (0,0))) ?_ (hK _ _ ?_)
      ·show((do pure (Next.value (<-Instr.buildSlice t len (parts.map fun(x:Nat×Operand)=>(x.1,a.eval x.2)))):Sem Next)).run cx.P w=_;refine nm ?_;simp only[Instr.buildSlice,Sem.run_bind,run_underlying hd,Result.andThen_ok,dw hs];rw[if_neg (by omega),if_neg (by omega)];simp only[Sem.run_pure,Result.andThen_ok,Sem.run_bind,hv,hrow,hpe,hfill];rfl
      ·have hsb:Z8 H.length b=true:=by
        unfold vu at h;split at h
        ·rename_i hs;simp only[bI] at hs;exact hs.2.2
        ·cases h
       exact Am hr h elem _ (fun r'=> .inr hsb) rfl hE _ (fun r' h1 h2=>by simp[MV.av,h2])
     ·cases h
    ·cases h
   ·cases h
  ·cases h
 case call c=>
  unfold GJ at h;split at h
  ·rename_i f hb;split at h
   ·rename_i g cap hg;have hrun:∀hcall:dP cx.P g=true,(execOp a.eval {dst:=dst,op:=Op.call c,type:=type,pos:=pos,after:=after,guard:=guard}).run cx.P w= .ok (.enter g (aE r (c.args.toList.map (cG tm)++cap)).toArray) w:=fun hcall=>by simp only[execOp,resolve,hb,Sem.run_bind,hev,hg,MV.av,Deferred.ofValue,Sem.run_pure,Result.andThen_ok,Go.invoke];rw[nh hcall];congr 2;rw[kh,harr];simp
    split at h
    ·rename_i hpf;obtain⟨x,hx,rfl⟩:=Tree.fD _ _ _ h;unfold Oper.wp;rw[hrun (ok.call g hpf)];refine(ok.S g _ H x hpf hx r w hr.uw).mono ?_;rintro e w' ⟨rfl,hbl⟩;exact hK _ _ ⟨r,⟨nL _,fun _ _=>rfl⟩,hr.below hbl,rfl,rfl⟩
    ·split at h
     ·rename_i hcs;simp only[bI] at hcs;obtain⟨hcall,hsc⟩:=hcs;have heff:jK cx.P g (c.args.toList.map (cG tm)++cap) H y:=by
       split at h
       ·rename_i he;exact ok.T g _ H y he h
       ·exact hfe g _ H y h
      unfold Oper.wp;rw[hrun (ok.cl g hcall)];obtain⟨fp,hp⟩:=hr;refine(heff r fp w hp.abO).mono ?_;rintro e w' ⟨r',hgr,rfl,hrel⟩;exact hK _ _ ⟨r',hgr,Rel.trans hp hrel,fo hgr.2 tm hsc,rfl⟩
     ·cases h
   ·cases h
  ·rename_i hb;obtain⟨v,w',hrun,haf⟩:=xM ok h hr type;refine jM (v:=v) (w':=w') ?_ (hK v w' haf);simp only[execOp,resolve,hb,Sem.run_bind,Sem.run_pure,Result.andThen_ok,invoke,builtin,harr];rw[show c.argTypes=c.argTypes.toList.toArray by simp,hrun];rfl
  ·cases h
end
section
variable {Ω:Type} [jX Ω]
mutual
def MV.rf(p:Nat->Bool):MV Ω->Bool
 | .p k _=>p k
 | .s k _ _ _=>p k
 | .z k q _ _=>p k&&p q
 | .r q _=>p q
 | .t l=>Ao p l
 | .ag l=>Ao p l
 | .fn _ l=>Ao p l
 |_=>true
def Ao(p:Nat->Bool):List (MV Ω)->Bool
 | []=>true
 |x::l=>x.rf p&&Ao p l
end
mutual
theorem MV.GK{r r':Nat->Nat}{p:Nat->Bool}(e:∀k,p k=true->r' k=r k):∀x:MV Ω,x.rf p=true->x.av r'=x.av r
 | .c x,_=>rfl
 | .v x,_=>rfl
 | .i x,_=>rfl
 | .w a,_=>rfl
 | .p k _,h=>by simp only[MV.rf] at h;simp only[MV.av,e k h]
 | .s k _ _ _,h=>by simp only[MV.rf] at h;simp only[MV.av,e k h]
 | .z k q _ _,h=>by simp only[MV.rf,bI] at h;simp only[MV.av,e k h.1,e q h.2]
 | .g _,_=>rfl
 | .r _ _,_=>rfl
 | .t l,h=>by simp only[MV.av,mD e l (by simpa[MV.rf] using h)]
 | .ag l,h=>by simp only[MV.av,pg e l (by simpa[MV.rf] using h)]
 | .fn f l,h=>by simp only[MV.av,mD e l (by simpa[MV.rf] using h)]
theorem mD{r r':Nat->Nat}{p:Nat->Bool}(e:∀k,p k=true->r' k=r k):∀l:List (MV Ω),Ao p l=true->aE r' l=aE r l
 | [],_=>rfl
 |x::l,h=>by simp only[Ao,bI] at h;simp only[aE,MV.GK e x h.1,mD e l h.2]
theorem MV.Lp{r r':Nat->Nat}{p:Nat->Bool}(e:∀k,p k=true->r' k=r k):∀x:MV Ω,x.rf p=true->x.cells r'=x.cells r
 | .c x,_=>rfl
 | .v x,_=>rfl
 | .i x,_=>rfl
 | .w a,_=>rfl
 | .p k _,h=>by simp only[MV.rf] at h;simp only[MV.cells,e k h]
 | .s k _ _ _,h=>by simp only[MV.rf] at h;simp only[MV.cells,e k h]
 | .z k q _ _,h=>by simp only[MV.rf,bI] at h;simp only[MV.cells,e k h.1,e q h.2]
 | .g _,_=>rfl
 | .r _ _,_=>rfl
 | .t l,h=>by simp only[MV.cells,mD e l (by simpa[MV.rf] using h)]
 | .ag l,h=>by simp only[MV.cells,pg e l (by simpa[MV.rf] using h)]
 | .fn f l,h=>by simp only[MV.cells,mD e l (by simpa[MV.rf] using h)]
theorem pg{r r':Nat->Nat}{p:Nat->Bool}(e:∀k,p k=true->r' k=r k):∀l:List (MV Ω),Ao p l=true->ai r' l=ai r l
 | [],_=>rfl
 |x::l,h=>by simp only[Ao,bI] at h;simp only[ai,MV.Lp e x h.1,pg e l h.2]
end
theorem BY{r r':Nat->Nat}{p:Nat->Bool}(e:∀k,p k=true->r' k=r k):∀l:List (MV Ω),Ao p l=true->ck r' l=ck r l
 | [],_=>rfl
 |x::l,h=>by
  simp only[Ao,bI] at h;have ih:=BY e l h.2;by_cases hx:∃q m,x= .r q m
  ·obtain⟨q,m,rfl⟩:=hx;have:=h.1;simp only[MV.rf] at this;show some (r' q*m)=some (r q*m);rw[e q this]
  ·rw[mw (eu (fun q m e=>hx ⟨q,m,e⟩)),mw (r:=r) (eu (fun q m e=>hx ⟨q,m,e⟩)),ih]
theorem dL.TQ{r:Nat->Nat}{E:lN}{w0 w:World}{H:Hp Ω}(hr:Rel r E w0 w H):dL r E w0 w (fun k=>H[k]?):=hr
theorem dL.TR{r:Nat->Nat}{E:lN}{w0 w:World}{H:Hp Ω}{h:Nat->Option (List (MV Ω))}(hr:dL r E w0 w h)(e:∀k,h k=H[k]?):Rel r E w0 w H:=hr.congr fun k=>(e k).symm
theorem dL.alloc{r:Nat->Nat}{E:lN}{w0 w:World}{h:Nat->Option (List (MV Ω))}(hr:dL r E w0 w h){s:Nat}(hs:h s=none){b:List (MV Ω)}{cs:Array Value}{ty:TypeId}(hf:dX b=true)(hx:jY b=true)
  (hc:∀k c,h k=some c->Ao (fun k=>!Nat.beq k s) c=true) (hb:cs=(ai (fun k=>if k=s then w.heap.size else r k) b).toArray):
  dL (fun k=>if k=s then w.heap.size else r k) E w0 (w.alloc (.cells cs ty (0,0))) (fun k=>if k=s then some b else h k):=by
 have e:∀k,(!Nat.beq k s)=true->(fun k=>if k=s then w.heap.size else r k) k=r k:=fun k hk=>by
  have:k≠s:=by rintro rfl;simp at hk
  show(if k=s then _ else _)=_;rw[if_neg this]
 exact dL.Lo hr hs hf (fun k c hk=>⟨pg (p:=fun k=>!Nat.beq k s) e c (hc k c hk),BY (p:=fun k=>!Nat.beq k s) e c (hc k c hk)⟩) hx hb
inductive Ac (Ω:Type) [jX Ω] where
 |no
 |rds (ks:List Nat)
 |nw (s:Nat) (b:List (MV Ω))
 |wr (k:Nat) (l:List (MV Ω))
 |call (m:List (Nat×List (MV Ω)))
structure Tr (Ω:Type) [jX Ω] where
 x:MV Ω
 ac:Ac Ω
def bC(H:Hp Ω):List (Nat×List (MV Ω))->Hp Ω
 | []=>H
 |p::m=>bC (H.set p.1 p.2) m
def ir(h:Nat->Option (List (MV Ω))):List (Nat×List (MV Ω))->Nat->Option (List (MV Ω))
 | []=>h
 |p::m=>ir (fun k=>if k=p.1 then some p.2 else h k) m
def Ac.app(H:Hp Ω):Ac Ω->Hp Ω
 | .nw _ b=>H++ [b]
 | .wr k l=>H.set k l
 | .call m=>bC H m
 |_=>H
def Ac.qS(h:Nat->Option (List (MV Ω))):Ac Ω->Nat->Option (List (MV Ω))
 | .nw s b=>fun k=>if k=s then some b else h k
 | .wr s b=>fun k=>if k=s then some b else h k
 | .call m=>ir h m
 |_=>h
def xN(k:Nat):List Nat->Bool
 | []=>false
 |s::l=>Nat.beq s k||xN k l
def oo(k:Nat):List (Nat×List (MV Ω))->Bool
 | []=>false
 |s::l=>Nat.beq s.1 k||oo k l
def Ac.nn(k:Nat):Ac Ω->Bool
 | .nw s _=>Nat.beq s k
 | .wr s _=>Nat.beq s k
 | .call m=>oo k m
 |_=>false
def Ac.nr(k:Nat):Ac Ω->Bool
 | .nw s _=>Nat.beq s k
 | .wr s _=>Nat.beq s k
 | .rds ks=>xN k ks
 | .call m=>oo k m
 |_=>false
def Ac.pY(a:Ac Ω):Ac Ω->Bool
 | .nw s _=>a.nr s
 | .wr s _=>a.nr s
 | .rds ks=>ks.any fun k=>a.nn k
 | .call m=>m.any fun p=>a.nr p.1
 |_=>false
theorem BZ{k:Nat}:∀{l:List Nat},xN k l=true->k∈l
 |s::l,h=>by
  simp only[xN,Bool.or_eq_true] at h;rcases h with h|h
  ·rw[nQ h];simp
  ·exact List.mem_cons_of_mem _ (BZ h)
theorem vA{k:Nat}:∀{l:List (Nat×List (MV Ω))},oo k l=true->∃c,(k,c)∈l
 |s::l,h=>by
  simp only[oo,Bool.or_eq_true] at h;rcases h with h|h
  ·have e:=nQ h;exact⟨s.2,by rw[<-e];exact List.mem_cons_self⟩
  ·obtain⟨c,hc⟩:=vA h;exact⟨c,List.mem_cons_of_mem _ hc⟩
theorem vB{k:Nat}{c:List (MV Ω)}:∀{l:List (Nat×List (MV Ω))},(k,c)∈l->oo k l=true
 |s::l,h=>by
  simp only[oo,Bool.or_eq_true];rcases List.mem_cons.1 h with h|h
  ·left;rw[<-h];simp
  ·exact .inr (vB h)
theorem iQ{k:Nat}:∀{m:List (Nat×List (MV Ω))} {h:Nat->Option (List (MV Ω))},oo k m=false->ir h m k=h k
 | [],h,_=>rfl
 |p::m,h,hh=>by simp only[oo,Bool.or_eq_false_iff] at hh;simp only[ir];rw[iQ hh.2,if_neg (fun e=>by subst e;simp at hh)]
theorem lP{k:Nat}:∀{m:List (Nat×List (MV Ω))} {h h':Nat->Option (List (MV Ω))},oo k m=true->ir h m k=ir h' m k
 |p::m,h,h',hh=>by
  simp only[ir];by_cases e:oo k m=true
  ·exact lP e
  ·have e':oo k m=false:=by simpa using e
   rw[iQ e',iQ e'];simp only[oo,e',Bool.or_false] at hh;rw[if_pos (nQ hh).symm,if_pos (nQ hh).symm]
theorem nt{k:Nat}{c:List (MV Ω)}:∀{m:List (Nat×List (MV Ω))} {h:Nat->Option (List (MV Ω))},ir h m k=some c->h k=some c∨(k,c)∈m
 | [],h,hh=> .inl hh
 |p::m,h,hh=>by
  rcases nt (m:=m) hh with h1|h1
  ·by_cases e:k=p.1
   ·rw[if_pos e] at h1;cases h1;right;rw[e];exact List.mem_cons_self
   ·rw[if_neg e] at h1;exact .inl h1
  ·exact .inr (List.mem_cons_of_mem _ h1)
theorem vC:∀(m:List (Nat×List (MV Ω))) (H:Hp Ω),(bC H m).length=H.length
 | [],H=>rfl
 |p::m,H=>by simp only[bC];rw[vC m];simp
theorem vD:∀(m:List (Nat×List (MV Ω))) (H:Hp Ω),(∀p∈m,p.1<H.length)->∀k,(bC H m)[k]? =ir (fun k=>H[k]?) m k
 | [],H,_,k=>rfl
 |p::m,H,h,k=>by
  simp only[bC,ir];rw[vD m _ (fun q hq=>by simp;exact h q (List.mem_cons_of_mem _ hq))];congr 1;funext q;by_cases e:q=p.1
  ·rw[if_pos e,e,List.getElem?_set_self (h p List.mem_cons_self)]
  ·rw[if_neg e,List.getElem?_set_ne (by omega)]
theorem vE{k:Nat}:∀{l:List Nat},k∈l->xN k l=true
 |s::l,h=>by
  simp only[xN,Bool.or_eq_true];rcases List.mem_cons.1 h with h|h
  ·left;rw[<-h];simp
  ·exact .inr (vE h)
def B7(n:Nat):MV Ω->Option (MV Ω×List Nat)
 | .p k o=>some (.p n o,[k])
 | .s k o l c=>some (.s n o l c,[k])
 | .z k q o l=>some (.z n (n+1) o l,[k,q])
 |x=>match x.Z9 0 with
  |true=>some (x,[])
  |false=>none
def norm(n:Nat):List (MV Ω)->Option (List (MV Ω)×List Nat)
 | []=>some ([],[])
 |x::l=>match B7 n x with
  |some (y,ks)=>match norm (n+ks.length) l with
   |some (m,ks')=>some (y::m,ks++ks')
   |none=>none
  |none=>none
theorem ET{n:Nat}{x y:MV Ω}{ks:List Nat}(h:B7 n x=some (y,ks)){r r':Nat->Nat}(hr:∀(i k:Nat),ks[i]? =some k->r' (n+i)=r k):y.av r'=x.av r:=by
 have gen: (match x.Z9 0 with|true=>some (x,[])|false=>none)=some (y,ks)->y.av r'=x.av r:=fun h=>by
  split at h
  ·rename_i hs;cases h;exact MV.il (n:=0) (fun k hk=>by omega) _ hs
  ·cases h
 cases x with
 |p k o=>
  simp only[B7,oI,Prod.mk.injEq] at h;obtain⟨rfl,rfl⟩:=h;have:=hr 0 k rfl;simp only[MV.av];rw[<-this];rfl
 |s k o l c=>
  simp only[B7,oI,Prod.mk.injEq] at h;obtain⟨rfl,rfl⟩:=h;have:=hr 0 k rfl;simp only[MV.av];rw[<-this];rfl
 |z k q o l=>
  simp only[B7,oI,Prod.mk.injEq] at h;obtain⟨rfl,rfl⟩:=h;have h1:=hr 0 k rfl;have h2:=hr 1 q rfl;simp only[MV.av];rw[<-h1,<-h2];rfl
 |_=>exact gen h
theorem yu{r r':Nat->Nat}:∀{n:Nat} {l m:List (MV Ω)} {ks:List Nat},norm n l=some (m,ks)->(∀(i k:Nat),ks[i]? =some k->r' (n+i)=r k)->aE r' m=aE r l
 |n,[],m,ks,h,_=>by simp only[norm,oI,Prod.mk.injEq] at h;obtain⟨rfl,rfl⟩:=h;rfl
 |n,x::l,m,ks,h,hr=>by
  unfold norm at h;split at h
  ·rename_i y k1 h1;split at h
   ·rename_i m' k2 h2;cases h;simp only[aE];rw[ET h1 (fun i k hk=>hr i k (by rw[List.getElem?_append_left (gS.1 hk).1];exact hk)),yu h2 (fun i k hk=>by
     have:=hr (k1.length+i) k (by rw[List.getElem?_append_right (by omega)];simpa using hk)
     rwa [<-Nat.add_assoc] at this)]
   ·cases h
  ·cases h
def getAll(H:Hp Ω):List Nat->Option (Hp Ω)
 | []=>some []
 |k::ks=>match H[k]?,getAll H ks with
  |some b,some m=>some (b::m)
  |_,_=>none
theorem tS{H:Hp Ω}:∀{ks:List Nat} {m:Hp Ω},getAll H ks=some m->∀(i:Nat) (c:List (MV Ω)),m[i]? =some c->∃k,ks[i]? =some k/\H[k]? =some c
 | [],m,h,i,c,hc=>by simp only[getAll,oI] at h;subst h;simp at hc
 |k::ks,m,h,i,c,hc=>by
  unfold getAll at h;split at h
  ·rename_i b m' h1 h2;cases h;cases i with
   |zero=>simp at hc;subst hc;exact⟨k,rfl,h1⟩
   |succ i=>exact tS h2 i c (by simpa using hc)
  ·cases h
theorem vF{H:Hp Ω}:∀{ks:List Nat} {m:Hp Ω},getAll H ks=some m->m.length=ks.length
 | [],m,h=>by simp only[getAll,oI] at h;subst h;rfl
 |k::ks,m,h=>by
  unfold getAll at h;split at h
  ·rename_i b m' h1 h2;cases h;simp[vF h2]
  ·cases h
def kW:List Nat->Bool
 | []=>true
 |k::l=>!xN k l&&kW l
theorem jN:∀{l:List Nat},kW l=true->∀(i j k:Nat),l[i]? =some k->l[j]? =some k->i=j
 | [],_,i,j,k,h,_=>by simp at h
 |s::l,h,i,j,k,h1,h2=>by
  simp only[kW,bI,Bool.not_eq_true'] at h;have no:∀q,l[q]? =some s->False:=fun q hq=>by
   have hm:=List.mem_of_getElem? hq;have:∀{l:List Nat},s∈l->xN s l=true:=fun{l} hl=>by
    induction l with
    |nil=>cases hl
    |cons x l ih=>
     simp only[xN,Bool.or_eq_true];rcases List.mem_cons.1 hl with e|e
     ·left;rw[e];simp
     ·exact .inr (ih e)
   rw[this hm] at h;cases h.1
  cases i with
  |zero=>
   cases j with
   |zero=>rfl
   |succ j=>simp at h1 h2;subst h1;exact(no j h2).elim
  |succ i=>
   cases j with
   |zero=>simp at h1 h2;subst h2;exact(no i h1).elim
   |succ j=>rw[jN h.2 i j k (by simpa using h1) (by simpa using h2)]
def Lr(cx:Cx Ω)(t:TypeId)(len:Nat)(parts:List (Nat×MV Ω)):Option (List (MV Ω)):=
 match cx.P.underlying t with
 |some (.slice elem)=>match iz cx.P elem,qP cx elem with
  |some s,some z=>match decide (0<len*s/\len*s<=2^24/\xH z=s) with
   |true=>tN s parts (List.replicate len z).flatten
   |false=>none
  |_,_=>none
 |_=>none
def B9(P:Program)(t:TypeId)(x:MV Ω)(H:Hp Ω):Tree (Tr Ω):=
 match x with
 | .p k o=>match dJ H k with
  |some l=>match tM P t l o with
   |some y=> .leaf ⟨y,.rds [k]⟩
   |none=> .bad
  |none=> .bad
 |_=> .bad
def yv(P:Program)(t:TypeId)(a x:MV Ω)(H:Hp Ω):Tree (Tr Ω):=
 match a,iz P t with
 | .p k o,some n=>match decide (x.sz=n),dJ H k with
  |true,some l=>match qN l o x with
   |some l'=> .leaf ⟨.c undef,.wr k l'⟩
   |none=> .bad
  |_,_=> .bad
 |_,_=> .bad
def Ca(cx:Cx Ω)(fe:Fe Ω)(c:Call)(ty:TypeId)(ρ:Operand->MV Ω)(H:Hp Ω):Tree (Tr Ω):=
 match c.callee with
 | .value f=>match ρ f with
  | .fn g cap=>match norm 0 (c.args.toList.map ρ++cap) with
   |some (args,ks)=>match getAll H ks with
    |some m=>match ij 0 m with
     |true=>match cx.pf g with
      |true=>(cx.S g args m).bind fun x=>match x.Z9 0 with
       |true=> .leaf ⟨x,.rds ks⟩
       |false=> .bad
      |false=>match cx.cl g&&kW ks with
       |true=>(match cx.ef g with|true=>cx.T g args m|false=>fe g args m).bind fun y=>match y.1.Z9 0&&ij 0 y.2&&Nat.beq y.2.length m.length with
        |true=> .leaf ⟨y.1,.call (ks.zip y.2)⟩
        |false=> .bad
       |false=> .bad
     |false=> .bad
    |none=> .bad
   |none=> .bad
  |_=> .bad
 |_=>(oh cx (.call c) ty ρ []).map fun x=>⟨x,.no⟩
def vG(cx:Cx Ω)(fe:Fe Ω)(op:Op)(ty:TypeId)(ρ:Operand->MV Ω)(H:Hp Ω):Tree (Tr Ω):=
 match op with
 | .load t a=>B9 cx.P t (ρ a) H
 | .store t a x=>yv cx.P t (ρ a) (ρ x) H
 | .alloc elem=>match qP cx elem with
  |some z=>match dX z&&jY z with
   |true=> .leaf ⟨.p H.length 0,.nw H.length z⟩
   |false=> .bad
  |none=> .bad
 | .box elem x=>match(ρ x).one&&(dX (ρ x).flat&&jY (ρ x).flat) with
  |true=> .leaf ⟨.p H.length 0,.nw H.length (ρ x).flat⟩
  |false=> .bad
 | .buildSlice t len parts=>match Lr cx t len (parts.toList.map fun(x:Nat×Operand)=>(x.1,ρ x.2)) with
  |some b=>match dX b&&jY b with
   |true=> .leaf ⟨.s H.length 0 len len,.nw H.length b⟩
   |false=> .bad
  |none=> .bad
 | .call c=>Ca cx fe c ty ρ H
 |op=>(oh cx op ty ρ []).map fun x=>⟨x,.no⟩
theorem dL.call{r:Nat->Nat}{E:lN}{w0 w w':World}{h:Nat->Option (List (MV Ω))}{fp:Nat->Nat->Prop}(hr:Aa r fp E w0 w h){ks:List Nat}{m':Hp Ω}(hn:∀(i j k:Nat),ks[i]? =some k->ks[j]? =some k->i=j)(hk:∀(i k:Nat),ks[i]? =some k->∃c,h k=some c)(hl:m'.length=ks.length)(hs:ij 0 m'=true)
  {r':Nat->Nat} (hr':∀(i k:Nat),ks[i]? =some k->r' i=r k) {n:Nat} {S:Nat->Prop} (hS:∀g,S g↔∃i k:Nat,ks[i]? =some k/\fp k g) (hrel:Rel r' ⟨n,S⟩ w w' m'):dL r E w0 w' (ir h (ks.zip m')):=by
 obtain⟨fp',hrel⟩:=hrel;have mem:∀k c,(k,c)∈ks.zip m'->∃i:Nat,ks[i]? =some k/\m'[i]? =some c:=fun k c hkc=>by obtain⟨i,hi⟩:=List.getElem?_of_mem hkc;rw[List.getElem?_zip_eq_some] at hi;exact⟨i,hi⟩
 have src:∀k c,ir h (ks.zip m') k=some c->∃c',h k=some c':=fun k c hkc=>by
  rcases nt hkc with h1|h1
  ·exact⟨c,h1⟩
  ·obtain⟨i,i1,i2⟩:=mem k c h1;exact hk i k i1
 have way:∀k c,ir h (ks.zip m') k=some c->(∃i:Nat,ks[i]? =some k/\m'[i]? =some c)∨(h k=some c/\∀i:Nat,ks[i]?≠some k):=fun k c hkc=>by
  by_cases hin:∃i:Nat,ks[i]? =some k
  ·obtain⟨i,hi⟩:=hin;have hil:i<m'.length:=by rw[hl];exact(gS.1 hi).1
   have hz: (k,m'[i])∈ks.zip m':=List.mem_of_getElem? (i:=i) (by rw[List.getElem?_zip_eq_some];exact⟨hi,gE hil⟩);rw[lP (h':=fun _=>none) (vB hz)] at hkc;rcases nt hkc with h1|h1
   ·cases h1
   ·exact .inl (mem k c h1)
  ·have hno:∀i:Nat,ks[i]?≠some k:=fun i hi=>hin ⟨i,hi⟩;have hm:oo k (ks.zip m')=false:=by
    cases hq:oo k (ks.zip m') with
    |false=>rfl
    |true=>
     obtain⟨c',hc'⟩:=vA hq;obtain⟨i,i1,_⟩:=mem k c' hc';exact absurd i1 (hno i)
   rw[iQ hm] at hkc;exact .inr ⟨hkc,hno⟩
 let fpn:Nat->Nat->Prop:=fun k g=>(∃i:Nat,ks[i]? =some k/\fp' i g)∨((∀i:Nat,ks[i]?≠some k)/\fp k g)
 have notS:∀k c g,h k=some c->(∀i:Nat,ks[i]?≠some k)->fp k g->¬S g:=fun k c g hkc hno hg hsg=>by obtain⟨i,k',hi,hg'⟩:=(hS g).1 hsg;obtain⟨c',hc'⟩:=hk i k' hi;have:=hr.yf k k' c c' g hkc hc' hg hg';exact hno i (by rw[this];exact hi)
 have old:∀k c g,h k=some c->(∀i:Nat,ks[i]?≠some k)->fp k g->w'.heap[g]? =w.heap[g]?:=fun k c g hkc hno hg=>
  hrel.dK g ((hr.holds k c hkc).lt hg) (notS k c g hkc hno hg)
 have Sown:∀g,S g->E.S g∨w0.heap.size<=g:=fun g hg=>by obtain⟨i,k,hi,hg'⟩:=(hS g).1 hg;obtain⟨c,hc⟩:=hk i k hi;exact hr.own k c g hc hg'
 refine⟨fpn,⟨fun i j ci cj g hi hj fi fj=>?_,fun k c hkc=>?_,fun k c g hkc hg=>?_,hrel.os.trans hr.os,hrel.tape.trans hr.tape,hrel.output.trans hr.output,nT hr.size hrel.size,fun g hg hn=>?_,fun g hg=>(hrel.ty g (nU hg hr.size)).trans (hr.ty g hg)⟩⟩
 ·rcases way i ci hi with⟨p,p1,p2⟩|⟨p1,p2⟩ <;> rcases way j cj hj with⟨q,q1,q2⟩|⟨q1,q2⟩
  ·rcases fi with⟨a,a1,a2⟩|⟨a1,_⟩
   ·rcases fj with⟨b,b1,b2⟩|⟨b1,_⟩
    ·have e1:=hn a p i a1 p1;have e2:=hn b q j b1 q1;subst e1;subst e2;have:=hrel.yf a b ci cj g p2 q2 a2 b2;subst this;rw[a1] at b1;exact Option.some.inj b1
    ·exact absurd q1 (b1 q)
   ·exact absurd p1 (a1 p)
  ·rcases fi with⟨a,a1,a2⟩|⟨a1,_⟩
   ·rcases fj with⟨b,b1,b2⟩|⟨_,b2⟩
    ·exact absurd b1 (q2 b)
    ·have e1:=hn a p i a1 p1;subst e1;rcases hrel.own a ci g p2 a2 with h1|h1
     ·exact absurd h1 (notS j cj g q1 q2 b2)
     ·have:=(hr.holds j cj q1).lt b2;omega
   ·exact absurd p1 (a1 p)
  ·rcases fj with⟨a,a1,a2⟩|⟨a1,_⟩
   ·rcases fi with⟨b,b1,b2⟩|⟨_,b2⟩
    ·exact absurd b1 (p2 b)
    ·have e1:=hn a q j a1 q1;subst e1;rcases hrel.own a cj g q2 a2 with h1|h1
     ·exact absurd h1 (notS i ci g p1 p2 b2)
     ·have:=(hr.holds i ci p1).lt b2;omega
   ·exact absurd q1 (a1 q)
  ·rcases fi with⟨b,b1,b2⟩|⟨_,b2⟩
   ·exact absurd b1 (p2 b)
   ·rcases fj with⟨a,a1,a2⟩|⟨_,a2⟩
    ·exact absurd a1 (q2 a)
    ·exact hr.yf i j ci cj g p1 q1 b2 a2
 ·rcases way k c hkc with⟨p,p1,p2⟩|⟨p1,p2⟩
  ·have hh:=hrel.holds p c p2;have e:fpn k=fp' p:=by
    funext g;apply propext;constructor
    ·rintro(⟨a,a1,a2⟩|⟨a1,_⟩)
     ·rw[<-hn a p k a1 p1];exact a2
     ·exact absurd p1 (a1 p)
    ·exact fun hg=> .inl ⟨p,p1,hg⟩
   rw[e,<-hr' p k p1];exact hh.cells (bV (r:=r') (r':=r) (n:=0) (fun k hk=>by omega) _ (dn hs p _ p2)) (iy (r:=r') (r':=r) (n:=0) (fun k hk=>by omega) _ (dn hs p _ p2))
  ·have e:fpn k=fp k:=by
    funext g;apply propext;constructor
    ·rintro(⟨a,a1,a2⟩|⟨_,a2⟩)
     ·exact absurd a1 (p2 a)
     ·exact a2
    ·exact fun hg=> .inr ⟨p2,hg⟩
   rw[e];exact(hr.holds k c p1).loc fun x hx=>old k c x p1 p2 hx
 ·rcases way k c hkc with⟨p,p1,p2⟩|⟨p1,p2⟩
  ·rcases hg with⟨a,a1,a2⟩|⟨a1,_⟩
   ·have e1:=hn a p k a1 p1;subst e1;rcases hrel.own a c g p2 a2 with h1|h1
    ·exact Sown g h1
    ·exact .inr (nT hr.size h1)
   ·exact absurd p1 (a1 p)
  ·rcases hg with⟨a,a1,a2⟩|⟨_,a2⟩
   ·exact absurd a1 (p2 a)
   ·exact hr.own k c g p1 a2
 ·refine(hrel.dK g (nU hg hr.size) fun hs=>?_).trans (hr.dK g hg hn);rcases Sown g hs with h1|h1
  ·exact hn h1
  ·omega
theorem IX{cx:Cx Ω}(ok:iO cx){elem:TypeId}{z:List (MV Ω)}(hz:qP cx elem=some z)(w:World):
  ∃cs:Array Value,(∀r,cs=(ai r z).toArray)/\(Instr.alloc elem true (.tuple #[])).run cx.P w= .ok (.pointer (some ⟨w.heap.size,0,none⟩)) (w.alloc (.cells cs elem (0,0))):=by
 obtain⟨v,hv,hc⟩:=iq ok hz w;refine⟨v.cells,hc,?_⟩;simp only[Instr.alloc,Sem.run_bind,hv,Result.andThen_ok,newVar,newRow,run_newObj,Sem.run_pure];rfl
theorem PC{P:Program}{elem:TypeId}{v:Value}(w:World): (Instr.box elem v).run P w= .ok (.pointer (some ⟨w.heap.size,0,none⟩)) (w.alloc (.cells v.cells elem (0,0))):=by simp only[Instr.box,Sem.run_bind,newVar,newRow,run_newObj,Sem.run_pure,Result.andThen_ok];rfl
theorem PD{cx:Cx Ω}(ok:iO cx){t:TypeId}{len:Nat}{parts:List (Nat×MV Ω)}{b:List (MV Ω)}(h:Lr cx t len parts=some b)(r:Nat->Nat)(w:World):
  ∃elem,(Instr.buildSlice t len (parts.map fun(x:Nat×MV Ω)=>(x.1,x.2.av r)).toArray).run cx.P w= .ok (.slice (some ⟨w.heap.size,0,none⟩) len len) (w.alloc (.cells (ai r b).toArray elem (0,0))):=by
 unfold Lr at h;split at h
 ·rename_i elem hd;split at h
  ·rename_i s z hs hz;split at h
   ·rename_i hc;have hc:0<len*s/\len*s<=2^24/\xH z=s:=by simpa using hc
    obtain⟨c1,c2,c3⟩:=hc;obtain⟨v,hv,hcv⟩:=iq ok hz w;have hs0:0<s:=by
     rcases Nat.eq_zero_or_pos s with e|e
     ·subst e;simp at c1
     ·exact e
    have hzl: (ai r z).length=s:=by rw[cV,c3]
    have hzs:v.cells.size=s:=by rw[hcv r];simpa using hzl
    have hrow: (Array.range (len*s)).map (fun x=>v.cells[x%v.cells.size]!)=(ai r (List.replicate len z).flatten).toArray:=by
     rw[sw];apply Array.ext_getElem?;intro i;by_cases hi:i<len*s
     ·have hm:i%s<s:=Nat.mod_lt _ hs0;have e1: ((List.replicate len (ai r z)).flatten.toArray)[i]? =(ai r z)[i%s]?:=by rw[List.getElem?_toArray];exact An hzl hs0 len i hi
      rw[e1];simp[hi,hzs];rw[hcv r];simp[hzl,hm]
     ·rw[Array.getElem?_eq_none (by simp;omega),Array.getElem?_eq_none];simp[hzl];omega
    have hfill:=nk r _ _ _ h;refine⟨elem,?_⟩;simp only[Instr.buildSlice,Sem.run_bind,run_underlying hd,Result.andThen_ok,dw hs];rw[if_neg (by omega),if_neg (by omega)];simp only[Sem.run_pure,Result.andThen_ok,Sem.run_bind,hv,hrow,hfill];rfl
   ·cases h
  ·cases h
 ·cases h
end
section
variable {Ω:Type} [jX Ω]
inductive Wt where
 |yes
 |no
 |sym (d:Tmp) (b want:Bool)
def jO(ops:Array Oper)(o:Oper)(tm:List (MV Ω)):Wt:=
 match o.guard with
 |none=> .yes
 |some (j,want)=>match(ops[j]?).bind (·.dst) with
  |none=> .no
  |some d=>match tm[d]? with
   |some (.c (.bool b))=>match b==want with|true=> .yes|false=> .no
   |some (.v (.bool b))=> .sym d b want
   |_=> .no
def Wt.spec(tm:List (MV Ω)):Wt->Bool->Prop
 | .yes,q=>q=true
 | .no,q=>q=false
 | .sym d b want,q=>q=(b==want)/\tm[d]? =some (.v (.bool b))
theorem fK{ops:Array Oper}{o:Oper}{tm:List (MV Ω)}{r:Nat->Nat}{a:Act}(h:a.tmps=(aE r tm).toArray): (jO ops o tm).spec tm (Region.wanted o (yielded ops a.tmps)):=by
 unfold jO Region.wanted;cases hg:o.guard with
 |none=>exact rfl
 |some jw=>
  obtain⟨j,want⟩:=jw;simp only[];cases hd: (ops[j]?).bind (·.dst) with
  |none=>
   have hy:yielded ops a.tmps j=none:=by unfold yielded;rw[hd];rfl
   rw[hy];rfl
  |some d=>
   have hy:yielded ops a.tmps j=(match(tm[d]?).map (MV.av r) with|some (.bool b)=>some b|_=>none):=by
    unfold yielded;rw[hd,h];simp only[Option.bind_some];rw[List.getElem?_toArray,mu];generalize Option.map (MV.av r) tm[d]? =q;cases q with
    |none=>rfl
    |some v=>cases v <;> rfl
   rw[hy];simp only[];split
   ·rename_i b hb;rw[hb];simp only[Option.map_some,MV.av];cases hbw:b==want
    ·simp only[Wt.spec];simpa using hbw
    ·simp only[Wt.spec];simpa using hbw
   ·rename_i b hb;rw[hb];simp only[Option.map_some,MV.av,Wt.spec];refine⟨?_,hb⟩;cases b <;> cases want <;> rfl
   ·rename_i q h1 h2;simp only[Wt.spec];cases hq:tm[d]? with
    |none=>rfl
    |some X=>
     rw[hq] at h1 h2;cases X with
     |c x=>cases x <;> first|rfl|exact absurd rfl (h1 _)
     |v x=>cases x <;> first|rfl|exact absurd rfl (h2 _)
     |_=>rfl
theorem lQ{tm:List (MV Ω)}{d:Tmp}{b:Bool}(h:tm[d]? =some (.v (.bool b)))(r:Nat->Nat):aE r (tm.set d (.c (.bool b)))=aE r tm:=by
 rw[sc];apply List.ext_getElem?;intro i;by_cases e:i=d
 ·subst e;have hl:i<tm.length:=(gS.1 h).1;rw[List.getElem?_set_self (by rw[rZ];exact hl),mu,h];rfl
 ·rw[List.getElem?_set_ne (by omega)]
def km(tm:List (MV Ω))(d:Option Tmp)(x:MV Ω):List (MV Ω):=
 match d with
 |some d=>tm.set d x
 |none=>tm
theorem mE{r:Nat->Nat}{tm:List (MV Ω)}{a:Act}(h:a.tmps=(aE r tm).toArray)(d:Option Tmp)(x:MV Ω): (a.put d (x.av r)).tmps=(aE r (km tm d x)).toArray:=by
 cases d with
 |none=>exact h
 |some d=>simp[Act.put,km,h,sc]
theorem put_defers{a:Act}(h:a.defers= [])(d:Option Tmp)(v:Value): (a.put d v).defers= []:=by cases d <;> exact h
def Ap(pf:FuncId->Bool):Op->Bool
 | .move _| .assign _| .pick .. | .load .. | .nilCheck _| .makeFunc .. | .extract .. | .fieldAddr .. | .field .. | .index .. | .indexAddr .. | .build .. | .slice .. | .binOp .. | .unOp .. | .convert .. =>true
 | .call c=>match c.callee with
  | .builtin b=>match b with| .len| .min| .max=>true|_=>false
  | .value (.func f)=>pf f
  |_=>false
 |_=>false
def Ps(cx:Cx Ω)(ops:Array Oper):List Oper->List (MV Ω)->Hp Ω->Tree (List (MV Ω))
 | [],tm,_=> .leaf tm
 |o::rest,tm,H=>match jO ops o tm with
  | .yes=>(oh cx o.op o.type (cG tm) H).bind fun x=>Ps cx ops rest (km tm o.dst x) H
  | .no=>Ps cx ops rest (km tm o.dst (.c undef)) H
  | .sym d b want=> .ite (b==want) ((oh cx o.op o.type (cG (tm.set d (.c (.bool want)))) H).bind fun x=>Ps cx ops rest (km (tm.set d (.c (.bool want))) o.dst x) H) (Ps cx ops rest (km (tm.set d (.c (.bool (!want)))) o.dst (.c undef)) H)
theorem GL{tm:List (MV Ω)}{d:Tmp}{b want:Bool}(h:tm[d]? =some (.v (.bool b)))(e: (b==want)=true){r:Nat->Nat}{a:Act}(ht:a.tmps=(aE r tm).toArray):a.tmps=(aE r (tm.set d (.c (.bool want)))).toArray:=by
 have e:b=want:=by simpa using e
 subst e;rw[lQ h,ht]
theorem Ls{tm:List (MV Ω)}{d:Tmp}{b want:Bool}(h:tm[d]? =some (.v (.bool b)))(e: (b==want)=false){r:Nat->Nat}{a:Act}(ht:a.tmps=(aE r tm).toArray):a.tmps=(aE r (tm.set d (.c (.bool (!want))))).toArray:=by
 have e:b= !want:=by cases b <;> cases want <;> simp_all
 subst e;rw[lQ h,ht]
theorem qT{cx:Cx Ω}(ok:iO cx){ops:Array Oper}{E:lN}{w0:World}{H:Hp Ω}{r:Nat->Nat}{Q:Act->Prop}:
  ∀(l:List Oper) (tm tm':List (MV Ω)) (a:Act),(Ps cx ops l tm H).pick=some tm'->a.tmps=(aE r tm).toArray->a.defers= []->
   (∀a',a'.tmps=(aE r tm').toArray->a'.defers= []->Q a')->wpQuiet cx.P ops (fun w'=>Rel r E w0 w' H) Q l a
 | [],tm,tm',a,h,ht,hd,hQ=>by obtain rfl:=aw h;exact hQ a ht hd
 |o::rest,tm,tm',a,h,ht,hd,hQ=>by
  have hw:=fK (ops:=ops) (o:=o) ht;have step:∀tm:List (MV Ω),a.tmps=(aE r tm).toArray->((oh cx o.op o.type (cG tm) H).bind fun x=>Ps cx ops rest (km tm o.dst x) H).pick=some tm'->o.quiet cx.P a (fun w'=>Rel r E w0 w' H) (wpQuiet cx.P ops (fun w'=>Rel r E w0 w' H) Q rest):=fun tm ht h=>by obtain⟨x,h1,h2⟩:=Tree.ct _ _ _ h;exact⟨x.av r,fun w hr=>qg ok (kV ht) h1 hr,qT ok rest _ tm' _ h2 (mE ht _ _) (put_defers hd _ _) hQ⟩
  have skip:∀tm:List (MV Ω),a.tmps=(aE r tm).toArray->(Ps cx ops rest (km tm o.dst (.c undef)) H).pick=some tm'->wpQuiet cx.P ops (fun w'=>Rel r E w0 w' H) Q rest (a.put o.dst undef):=fun tm ht h=>
   qT ok rest _ tm' _ h (mE ht o.dst (.c undef)) (put_defers hd _ _) hQ
  unfold Ps at h;unfold wpQuiet;cases hv:jO ops o tm with
  |yes=>
   rw[hv] at h hw;rw[show Region.wanted o (yielded ops a.tmps)=true from hw];exact step tm ht h
  |no=>
   rw[hv] at h hw;rw[show Region.wanted o (yielded ops a.tmps)=false from hw];exact skip tm ht h
  |sym d b want=>
   rw[hv] at h hw;obtain⟨hw,hb⟩:=hw;rw[hw];cases hq:b==want
   ·simp only[hq,Tree.pick] at h;exact skip _ (Ls hb hq ht) h
   ·simp only[hq,Tree.pick] at h;exact step _ (GL hb hq ht) h
abbrev St(Ω:Type) [jX Ω]:=List (MV Ω)×Hp Ω
def mF(cx:Cx Ω)(fe:Fe Ω)(ops:Array Oper):List Oper->List (MV Ω)->Hp Ω->Tree (St Ω)
 | [],tm,H=> .leaf (tm,H)
 |o::rest,tm,H=>
  match jO ops o tm with
  | .yes=>match Ap cx.pf o.op with
   |true=>(oh cx o.op o.type (cG tm) H).bind fun x=>mF cx fe ops rest (km tm o.dst x) H
   |false=>(BV cx fe o.op o.type (cG tm) tm H).bind fun y=>mF cx fe ops rest (km tm o.dst y.1) y.2
  | .no=>mF cx fe ops rest (km tm o.dst (.c undef)) H
  | .sym d b want=> .ite (b==want) (match Ap cx.pf o.op with
   |true=>(oh cx o.op o.type (cG (tm.set d (.c (.bool want)))) H).bind fun x=>mF cx fe ops rest (km (tm.set d (.c (.bool want))) o.dst x) H
   |false=>(BV cx fe o.op o.type (cG (tm.set d (.c (.bool want)))) (tm.set d (.c (.bool want))) H).bind fun y=>mF cx fe ops rest (km (tm.set d (.c (.bool want))) o.dst y.1) y.2) (mF cx fe ops rest (km (tm.set d (.c (.bool (!want)))) o.dst (.c undef)) H)
structure At (r:Nat->Nat) (E:lN) (w0:World) (s:St Ω) (a:Act) (w:World):Prop where
 tmps:a.tmps=(aE r s.1).toArray
 defers:a.defers= []
 rel:Rel r E w0 w s.2
theorem Grow.refl(r:Nat->Nat)(H:Hp Ω):Grow r H r H:=⟨nL _,fun _ _=>rfl⟩
theorem Grow.trans{r r' r'':Nat->Nat}{H H' H'':Hp Ω}(h:Grow r H r' H')(k:Grow r' H' r'' H''):Grow r H r'' H'':=
 ⟨nT h.1 k.1,fun i hi=>(k.2 i (nU hi h.1)).trans (h.2 i hi)⟩
theorem kX{cx:Cx Ω}(ok:iO cx){fe:Fe Ω}(hfe:vx cx.P fe){ops:Array Oper}{E:lN}{w0:World}{Q:Exit->Act->World->Prop}:
  ∀(l:List Oper) (tm:List (MV Ω)) (H:Hp Ω) (s':St Ω) (r:Nat->Nat) (a:Act) (w:World),(mF cx fe ops l tm H).pick=some s'->At r E w0 (tm,H) a w->E.n<=H.length->
   (∀r' a' w',Grow r H r' s'.2->At r' E w0 s' a' w'->Q .normal a' w')->wpList cx.P ops Q l a w
 | [],tm,H,s',r,a,w,h,ha,hE,hQ=>by obtain rfl:=aw h;exact hQ r a w (Grow.refl r H) ha
 |o::rest,tm,H,s',r,a,w,h,ha,hE,hQ=>by
  have hw:=fK (ops:=ops) (o:=o) ha.tmps;have step:∀tm:List (MV Ω),a.tmps=(aE r tm).toArray->(match Ap cx.pf o.op with
   |true=>(oh cx o.op o.type (cG tm) H).bind fun x=>mF cx fe ops rest (km tm o.dst x) H
   |false=>(BV cx fe o.op o.type (cG tm) tm H).bind fun y=>mF cx fe ops rest (km tm o.dst y.1) y.2).pick=some s'->o.wp cx.P a w (wpList cx.P ops Q rest) Q:=fun tm ht h=>by
   split at h
   ·obtain⟨x,h1,h2⟩:=Tree.ct _ _ _ h;refine Oper.wp_of_quiet (C:=fun w'=>Rel r E w0 w' H) (K:=fun a'=>a'=a.put o.dst (x.av r)) ha.rel ?_ ⟨x.av r,fun w' hr=>qg ok (kV ht) h1 hr,rfl⟩;rintro a' w' hr rfl;exact kX ok hfe rest _ H s' r _ w' h2 ⟨mE ht _ _,put_defers ha.defers _ _,hr⟩ hE hQ
   ·obtain⟨y,h1,h2⟩:=Tree.ct _ _ _ h;refine ES ok hfe ht h1 ha.rel hE ?_;rintro v w' ⟨r',hg,hr,hc,rfl⟩;exact kX ok hfe rest _ y.2 s' r' _ w' h2 ⟨mE (by rw[ht,<-hc]) _ _,put_defers ha.defers _ _,hr⟩ (nT hE hg.1) (fun r'' a' w'' hg' hat=>hQ r'' a' w'' (hg.trans hg') hat)
  have skip:∀tm:List (MV Ω),a.tmps=(aE r tm).toArray->(mF cx fe ops rest (km tm o.dst (.c undef)) H).pick=some s'->wpList cx.P ops Q rest (a.put o.dst undef) w:=fun tm ht h=>
   kX ok hfe rest _ H s' r _ w h ⟨mE ht o.dst (.c undef),put_defers ha.defers _ _,ha.rel⟩ hE hQ
  unfold mF at h;unfold wpList;cases hv:jO ops o tm with
  |yes=>
   rw[hv] at h hw;rw[show Region.wanted o (yielded ops a.tmps)=true from hw,if_pos rfl];exact .inl (step tm ha.tmps h)
  |no=>
   rw[hv] at h hw;rw[show Region.wanted o (yielded ops a.tmps)=false from hw];exact skip tm ha.tmps h
  |sym d b want=>
   rw[hv] at h hw;obtain⟨hw,hb⟩:=hw;rw[hw];cases hq:b==want
   ·simp only[hq,Tree.pick] at h;exact skip _ (Ls hb hq ha.tmps) h
   ·simp only[hq,Tree.pick] at h;rw[if_pos rfl];exact .inl (step _ (GL hb hq ha.tmps) h)
end
end Go.Ev
