/- A part of the proof. No condition. -/
import Derived.Laws.NewBlocks
import Derived.WalkLawsBesides
import Derived.Laws.ComplexArith
import Derived.Test.YtpbehfbomkochaaGreatDoorC06
set_option maxRecDepth 100000
set_option maxHeartbeats 4000000
set_option linter.all false
namespace Go.Proofs.Yq
open ChangeShapes WideShapes ChangeAt RowKit Ev
open Tryz
noncomputable section
theorem Mem.fold{A B:List (Nat×aj)}{p:Nat×aj}{F0:Nat->Prop}{w0 w:World}(h:Mem w0 F0 (A++B) w)(hB:∀F,Sep w B F->p.2.rep p.1 F w):Mem w0 F0 (A++ [p]) w:=by obtain⟨F,h1,h2,h3⟩:=h;obtain⟨F1,F2,k1,k2,k3,k4⟩:=Sep.append.1 h1;exact⟨F,Sep.append.2 ⟨F1,F2,k1,⟨F2,fun _=>False,hB F2 k2,fun x h=>h,fun x _ h=>h,fun x=>by simp⟩,k3,k4⟩,h2,h3⟩
theorem Mem.unfold{A:List (Nat×aj)}{p:Nat×aj}{F0:Nat->Prop}{w0 w:World}(h:Mem w0 F0 (A++ [p]) w):∃F1,p.2.rep p.1 F1 w/\∀B,Sep w B F1->Mem w0 F0 (A++B) w:=by
 obtain⟨F,h1,h2,h3⟩:=h;obtain⟨F1,F2,k1,k2,k3,k4⟩:=Sep.append.1 h1;obtain⟨G1,G2,q0,q2,q3,q4⟩:=k2;refine⟨G1,q0,fun B hB=>⟨F,Sep.append.2 ⟨F1,G1,k1,hB,fun x hx hg=>k3 x hx ((q4 x).2 (.inl hg)),fun x=>?_⟩,h2,h3⟩⟩;rw[k4,q4];have:=q2 x;constructor
 ·rintro(h|h|h)
  ·exact .inl h
  ·exact .inr h
  ·exact absurd h this
 ·rintro(h|h)
  ·exact .inl h
  ·exact .inr (.inl h)
theorem Mem.xW{R:aj}{g:Nat}{F:Nat->Prop}{w w':World}(h:Mem w F [(g,R)] w'):kE R g F w w':=by obtain⟨F',⟨F1,F2,h1,h2,h3,h4⟩,h5,h6⟩:=h;exact⟨F1,h1,fun x hx=>h5 x ((h4 x).2 (.inl hx)),h6⟩
theorem rI{A:List (Nat×aj)}{g gs:Nat}{x:ak}{now fine:ae}{v:Value}{outs:List (bX×ae)}{a:ek}{F0:Nat->Prop}{w0 w:World}(h0:a.s.length=64)(h:Mem w0 F0 ((A++ [(gs,.row (aN g now fine v)),(0,.own 163 16 aM v outs)])++aK x a g) w):Mem w0 F0 (A++ [(gs,cq g x now fine outs)]) w:=by have h1:=dO h0 h;rw[List.append_assoc] at h1;exact Mem.fold h1 (p:=(gs,cq g x now fine outs)) fun F hF=>⟨v,hF⟩
theorem Ip{A:List (Nat×aj)}{g gs:Nat}{x:ak}{now fine:ae}{outs:List (bX×ae)}{F0:Nat->Prop}{w0 w:World}(h:Mem w0 F0 (A++ [(gs,cq g x now fine outs)]) w):∃v a,a.s.length=64/\Mem w0 F0 ((A++ [(gs,.row (aN g now fine v)),(0,.own 163 16 aM v outs)])++aK x a g) w:=by obtain⟨F1,⟨v,hv⟩,h2⟩:=Mem.unfold h;have h3:=h2 _ hv;obtain⟨a,ha,h4⟩:=ic (A:=A++ [(gs,.row (aN g now fine v)),(0,.own 163 16 aM v outs)]) (x:=x) (g:=g) (by rw[List.append_assoc];exact h3);exact⟨v,a,ha,h4⟩
theorem Bi{s:bh}{g:Nat}{F:Nat->Prop}{w:World}(hB:uA s)(h: (eW s).rep g F w): (dm s).length<=64:=by
 obtain⟨me,ml,ws,h0,hs⟩:=h;have TB:lT s g F w me ml ws:=⟨h0,hs⟩;have hnd:=TB.i1.nodup;have hk: (dM s.ents).map (·.1)=s.ents.map (·.1):=by unfold dM;rw[List.map_map];rfl
 rw[hk] at hnd;have:=count_le 64 hnd (fun x hx=>by obtain⟨p,hp,rfl⟩:=List.mem_map.1 hx;exact hB p hp);rw[wY];simpa using this
def Ga(x:ak):ae×Bool:=Dm (dm x.t) x.told
def k6:ae:=⟨6,by decide⟩
def Dt(k:ae)(y:bE):bX:={bW with kind:=k6,who:=k,when_:=y.at_,cx:=y.e.1,cy:=y.e.2.1,pa:=y.e.2.2.1,pb:=y.e.2.2.2.1,pd:=y.e.2.2.2.2.1}
def Du(x:ak)(k:ae):bE:=(bJ x.t.ents k.val).getD cr
def X3(x:ak)(k now:ae):Bool:=decide (k.val≠x.id.val)&&decide ((Du x k).at_.val<=now.val)
def fQ(x:ak)(now:ae):ak:=
 if (Ga x).2 then(if X3 x (Ga x).1 now then aeT {x with told:=(Ga x).1} else{x with told:=(Ga x).1}) else x
def ju(x:ak)(now fine:ae):List (bX×ae):=
 if (Ga x).2 then(if X3 x (Ga x).1 now then dA {x with told:=(Ga x).1} now fine (Dt (Ga x).1 (Du x (Ga x).1)) else[]) else[]
theorem NP(g gs:Nat)(x:ak)(now fine:ae)(outs:List (bX×ae))(F:Nat->Prop)(w:World)(hi:cw x)(hl:outs.length<=1000)(h: (cq g x now fine outs).rep gs F w):Calls prog 106 #[.pointer (some ⟨g,0,none⟩),.pointer (some ⟨gs,0,none⟩)] w fun r w'=>r= .returned (.tuple #[])/\kE (cq g (fQ x now) now fine (outs++ju x now fine)) gs F w w':=by
 obtain⟨y,hy⟩:∃y,y=fQ x now:=⟨_,rfl⟩;obtain⟨os,hos⟩:∃os,os=outs++ju x now fine:=⟨_,rfl⟩;rw[<-hy,<-hos];obtain⟨v,h⟩:=h;obtain⟨a,h0,M⟩:=ic (A:=[(gs,.row (aN g now fine v)),(0,.own 163 16 aM v outs)]) (Mem.start h);have H0:=qD h0;have M0:Hid (Mem w F ([(gs,.row (aN g now fine v)),(0,.own 163 16 aM v outs)]++aK x a g) w.drew):=M.below (Below.drew (bZ _ _));have HB:=qD hi.t.1;obtain⟨F1,hF1⟩:=M0.o.rep (i:=4) rfl;have HA:=qD (rB x.t a.t F1 w.drew HB.o hF1);have HLN:Hid ((dm x.t).length<=1000000):=nT (Bi HB.o hF1) (by decide);have HTL:=qD (fun v base w ho=>Rf v base (dm x.t) x.told w ho HLN.o);have HL:=qD hl;unfold fQ at hy;unfold ju at hos;have HTF:Hid (Ga x=Dm (dm x.t) x.told):=rfl;have HY:=qD hy;have HOS:=qD hos;clear hy hos h0 h M hF1 hi hl;rw[<-HTF.o] at HTL;clear HTF;generalize Ga x=tl at HTL HY HOS;obtain⟨k,b⟩:=tl;go_enter func106,ntmps106;go_upto_region 0 with(fail);refine hJ 14 [(0,true),(1,true),(2,true),(3,true),(5,true),(6,true),(7,true),(8,true),(4,false),(9,false),(10,true),(11,true),(12,true),(13,true)] (fun w'=>w'.cell? ⟨g,14,none⟩=some (.pointer (some ⟨a.t,0,none⟩))/\w'.cell? ⟨g,82,none⟩=some (.int .i64 x.told.val)) (by kernel_rfl) (by kernel_rfl) ⟨tg M0.o (i:=2) rfl,Rh M0.o (i:=2) rfl H0.o⟩ ?_;generalize w.drew=w1 at*;simp only[List.map_cons,List.map_nil,Array.getD_eq_getD_getElem?,List.getElem?_toArray,List.getElem?_cons_zero,List.getElem?_cons_succ,Option.getD_some,tC,tE]
 iterate 8 refine iF rfl (by rintro w' ⟨s1,s2⟩ K hK;go_simp;exact hK.o) ?_
 refine ui (fun K hK=>?_);go_wp2_with (go_at_call 29;refine HA.o.mono ?_;rintro r w2 ⟨v1,rfl,ho,hn,hb2⟩;have M2:=qD (M0.o.below hb2);have O2:=qD ho;clear hb2 ho hn M0 HA);refine hK.o _ _ ⟨tg M2.o (i:=2) rfl,Rh M2.o (i:=2) rfl H0.o⟩ ?_;clear hK;refine ui (fun K hK=>?_);go_wp2_with (go_at_call 147;refine Mem.qB (HTL.o _ _ _ O2.o) M2.o fun w3 M3=>?_;clear M2 O2 HTL);refine hK.o _ _ ⟨tg M3.o (i:=2) rfl,Rh M3.o (i:=2) rfl H0.o⟩ ?_;clear hK
 iterate 4 refine iF rfl (by rintro w' ⟨s1,s2⟩ K hK;go_simp;exact hK.o) ?_
 refine jG ?_;simp only[Act.put,List.setIfInBounds_toArray,List.set_cons_succ,List.set_cons_zero];go_wp2;refine NoPanic.normal ?_;cases b with
 |false=>
  have HY2:Hid (y=x):=by show _=_;rw[HY.o];simp
  have HO2:Hid (os=outs):=by show _=_;rw[HOS.o];simp
  clear HY HOS;go_wp2;exact bodyPost_ret (results_none (fn:=Tryz.f106) rfl _ _ _) rfl ⟨rfl,by rw[HY2.o,HO2.o];exact(dO H0.o M3.o).kF fun F' hF=>⟨v,hF⟩⟩
 |true=>
  have HY2:Hid (y=if X3 x k now then aeT {x with told:=k} else{x with told:=k}):=by show _=_;rw[HY.o,if_pos rfl]
  have HO2:Hid (os=outs++if X3 x k now then dA {x with told:=k} now fine (Dt k (Du x k)) else[]):=by show _=_;rw[HOS.o,if_pos rfl]
  clear HY HOS;have c82:w3.cell? ⟨g,82,none⟩=some (.int .i64 x.told.val):=Rh M3.o (i:=2) rfl H0.o;have z82:=ax (M3.o.row (i:=2) rfl) 82;go_upto_region 3 with(fail);have M4:Hid (Mem w F ([(gs,.row (aN g now fine v)),(0,.own 163 16 aM v outs)]++aK {x with told:=k} a g) (w3.setCell ⟨g,82,none⟩ (.int .i64 k.val))):=M3.o.bO (i:=2) (k:=82) (v:= .int .i64 k.val) rfl (pK (x:=x) (y:={x with told:=k}) H0.o rfl 3 _ rfl);clear M3 c82 z82;generalize (w3.setCell ⟨g,82,none⟩ (.int .i64 k.val))=w4 at*;have c14:w4.cell? ⟨g,14,none⟩=some (.pointer (some ⟨a.t,0,none⟩)):=tg M4.o (i:=2) rfl;obtain⟨F1,hF1⟩:=M4.o.rep (i:=4) rfl;have HG:Hid (Calls prog 148 #[.pointer (some ⟨a.t,0,none⟩),.int .i64 k.val] w4 fun e w'=>e= .returned (.tuple #[.agg (aJ (Du x k)),.bool (bJ x.t.ents k.val).isSome])/\Below w4.heap.size w4 w'):=A9 x.t a.t F1 w4 k.val hF1;clear hF1;have HTB:Hid (X3 x k now=(decide (k.val≠x.id.val)&&decide ((Du x k).at_.val<=now.val))):=rfl;generalize Du x k=q at HG HO2 HTB;generalize X3 x k now=tb at HY2 HO2 HTB;have hz5:=ew;go_upto_region 4 with(go_at_call 148;refine Mem.qB HG.o M4.o fun w5 M5=>?_;clear c14 HG);have M6:Hid (Mem w F ([(w5.heap.size,.row (aJ q)),(gs,.row (aN g now fine v)),(0,.own 163 16 aM v outs)]++aK {x with told:=k} a g) ((w5.alloc (.cells (aJ cr) 50)).setCells w5.heap.size 0 (aJ q).toList)):=M5.o.alloc.bC (i:=0) (cs':=aJ q) rfl (by simp[bo]);generalize ((w5.alloc (.cells (aJ cr) 50)).setCells w5.heap.size 0 (aJ q).toList)=w6 at*;clear M5 M4 hz5
  go_cut [50] from 51 (fun c wr=>c= .bool tb/\Hid (Mem w F ([(w5.heap.size,.row (aJ q)),(gs,.row (aN g now fine v)),(0,.own 163 16 aM v outs)]++aK {x with told:=k} a g) wr))
  case first=>
   have c11:w6.cell? ⟨g,11,none⟩=some (.int .i64 x.id.val):=pW (x:={x with told:=k}) M6.o (i:=3) rfl;have d9:w6.cell? ⟨w5.heap.size,9,none⟩=some (.int .i64 q.at_.val):=M6.o.cell (i:=0) (k:=9) rfl rfl;have d1:w6.cell? ⟨gs,1,none⟩=some (.int .i64 now.val):=M6.o.cell (i:=1) (k:=1) rfl rfl;have l0:=ab (M6.o.row (i:=0) rfl);have l1:=ab (M6.o.row (i:=1) rfl);have l3:=ab (M6.o.row (i:=3) rfl);clear HY2 HO2;by_cases hk:k.val=x.id.val
   ·have HT2:Hid (tb=false):=by show _=_;rw[HTB.o];simp[hk]
    have b1: (k.val != x.id.val)=false:=by simpa using hk
    clear hk HTB;refine aY ?_
    repeat (first|go_big_quiet_skip|quiet_step (fail))
    refine wpQuiet_nil ?_;intro w7 hb7;have M7:=qD (M6.o.below hb7);go_wp2;go_meet
    case rel=>exact⟨by rw[HT2.o],M7⟩
   ·have HT2:Hid (tb=decide (q.at_.val<=now.val)):=by show _=_;rw[HTB.o];simp[hk]
    have b1: (k.val != x.id.val)=true:=by simpa using hk
    clear hk HTB;refine aY ?_
    repeat (first|go_big_quiet_skip|quiet_step (fail))
    refine wpQuiet_nil ?_;intro w7 hb7;have M7:=qD (M6.o.below hb7);go_wp2;go_meet
    case rel=>exact⟨by rw[HT2.o],M7⟩
  case rest=>
   obtain⟨rfl,M7⟩:=hcut;clear M6 HTB;cases tb with
   |false=>
    have HY3:Hid (y= {x with told:=k}):=by show _=_;rw[HY2.o];simp
    have HO3:Hid (os=outs):=by show _=_;rw[HO2.o];simp
    clear HY2 HO2;go_wp2;exact bodyPost_end (results_none (fn:=Tryz.f106) rfl _ _ _) rfl ⟨rfl,by rw[HY3.o,HO3.o];exact(dO H0.o M7.o).au.kF fun F' hF=>⟨v,hF⟩⟩
   |true=>
    have HY3:Hid (y=aeT {x with told:=k}):=by show _=_;rw[HY2.o,if_pos rfl]
    have HO3:Hid (os=outs++dA {x with told:=k} now fine (Dt k q)):=by show _=_;rw[HO2.o,if_pos rfl]
    have he: (aJ q).extract 4 9=aB q.e:=by simp[aJ,aB]
    have d9:wc.cell? ⟨w5.heap.size,9,none⟩=some (.int .i64 q.at_.val):=M7.o.cell (i:=0) (k:=9) rfl rfl;have k0:=M7.o.row (i:=0) rfl;have M8:Hid (Mem w F ([(w5.heap.size,.row (aJ q))]++ [(gs,cq g {x with told:=k} now fine outs)]) wc):=rI (A:=[(w5.heap.size,.row (aJ q))]) H0.o M7.o;have HC:=qD (M8.o.bD (i:=1) (g:=gs) (P:=prog) (f:=105) rfl (fun F1 hF=>rH g gs {x with told:=k} now fine outs F1 wc (Dt k q) HL.o hF));rw[<-HY3.o,<-HO3.o] at HC;clear HY2 HO2 M7;go_wp2_with (first|((with_reducible show wpList _ _ _ (⟨some 57,_,_,_,_,_⟩::_) _ _);refine br _ (.agg (aD (Dt k q).s)) wc rfl (by kernel_rfl) ?_)|(go_at_call 105;refine qHG HC.o fun w8 M9=>?_));exact bodyPost_end (results_none (fn:=Tryz.f106) rfl _ _ _) rfl ⟨rfl,Mem.xW M9.o.au⟩
theorem NQ(after:ae)(P:ae->Prop):∀(l:List ae) (s:Ny),(s.any=true->P s.least)->(s.behind=true->P s.next)->(∀x∈l,P x)->((Pu after s l).any=true->P (Pu after s l).least)/\((Pu after s l).behind=true->P (Pu after s l).next)
 | [],s,h1,h2,_=>⟨h1,h2⟩
 |x::l,s,h1,h2,h3=>by
  have hx:P x:=h3 x (List.mem_cons_self ..);refine NQ after P l (qI after x (qG x s)) ?_ ?_ (fun y hy=>h3 y (List.mem_cons_of_mem _ hy))
  ·unfold qI qG;split <;> split <;> intro h <;> first|exact hx|exact h1 h
  ·unfold qI qG;split <;> split <;> intro h <;> first|exact hx|exact h2 h
theorem J1{l:List ae}{after:ae}{P:ae->Prop}(h: (p9 l after).2=true)(hl:∀x∈l,P x):P (p9 l after).1:=by
 have h0:=NQ after P l nx0 (by intro h;cases h) (by intro h;cases h) hl;unfold p9 nxR at*;split
 ·rename_i hb;exact h0.2 hb
 ·rename_i hb;rw[if_neg hb] at h;exact h0.1 h
theorem NR{s:bh}{y:bE}(h:y∈dm s):∃p∈s.ents,p.2=y:=by
 unfold dm wS at h;obtain⟨k,hk,rfl⟩:=List.mem_map.1 h;have hk2:k∈s.ents.map (·.1):=(List.mergeSort_perm _ _).subset hk;obtain⟨p,hp,rfl⟩:=List.mem_map.1 hk2;unfold bJ;cases hf:s.ents.find? (fun q=>q.1==p.1) with
 |none=>
  have:=List.find?_eq_none.1 hf p hp;simp at this
 |some q=>exact⟨q,List.mem_of_find?_eq_some hf,rfl⟩
theorem NT{x:ak}(hi:cw x){y:bE}(h:y∈dm x.t):0<=y.node.val/\y.node.val<64:=by obtain⟨p,hp,rfl⟩:=NR h;rw[hi.k p hp];exact hi.t.1 p hp
def Dv(x:ak):List ae:=(dm x.t).map (·.node)
def tn(x:ak):ae×Bool:=p9 (Dv x) x.asked
theorem Xa{x:ak}(hi:cw x)(h: (tn x).2=true):0<=(tn x).1.val/\(tn x).1.val<64:=by refine J1 (P:=fun k=>0<=k.val/\k.val<64) h fun k hk=>?_;unfold Dv at hk;obtain⟨y,hy,rfl⟩:=List.mem_map.1 hk;exact NT hi hy
theorem zI{x:ak}{a:ek}{g k b:Nat}{s:dB}(hs:x.s[k]? =some s)(ha:a.s[k]? =some b): (aK x a g)[k+5]? =some (b,.row (iK s)):=by unfold aK NF;simp only[List.getElem?_cons_succ,List.getElem?_map];have h1: (x.s.zip a.s)[k]? =some (s,b):=List.getElem?_zip_eq_some.2 ⟨hs,ha⟩;rw[h1];rfl
theorem Bj{α β:Type}{b:β}{y:α}:∀{l:List α} {m:List β} {k:Nat},m[k]? =some b->(l.zip m).set k (y,b)=(l.set k y).zip m
 | [],m,k,_=>by simp
 |a::l,[],k,h=>by simp at h
 |a::l,c::m,0,h=>by simp at h;subst h;rfl
 |a::l,c::m,k+1,h=>by have:=Bj (l:=l) (m:=m) (k:=k) (y:=y) (by simpa using h);simp only[List.zip_cons_cons,List.set_cons_succ,this]
theorem zJ{x:ak}{a:ek}{g k b:Nat}{s:dB}(ha:a.s[k]? =some b): (aK x a g).set (k+5) (b,.row (iK s))=aK {x with s:=x.s.set k s} a g:=by unfold aK NF;simp only[List.set_cons_succ];rw[<-Bj (y:=s) ha,List.map_set];rfl
theorem Xb{p q:Nat×aj}{x:ak}{a:ek}{g k b:Nat}{s:dB}(hs:x.s[k]? =some s)(ha:a.s[k]? =some b): ([p,q]++aK x a g)[k+7]? =some (b,.row (iK s)):=by show(p::q::aK x a g)[k+5+1+1]? =_;rw[List.getElem?_cons_succ,List.getElem?_cons_succ];exact zI hs ha
theorem Ri{p q:Nat×aj}{x:ak}{a:ek}{g k b:Nat}{s:dB}(ha:a.s[k]? =some b): ([p,q]++aK x a g).set (k+7) (b,.row (iK s))= [p,q]++aK {x with s:=x.s.set k s} a g:=by show(p::q::aK x a g).set (k+5+1+1) _=p::q::_;rw[List.set_cons_succ,List.set_cons_succ,zJ ha];rfl
theorem Iq(x:ak): (aeT x).s=x.s:=by unfold aeT;split <;> rfl
theorem Rj{x:ak}{a:ek}{g i k b:Nat}{L:List (Nat×aj)}{w0 w:World}{F0:Nat->Prop}(h:Mem w0 F0 L w)(hi:L[i]? =some (g,.row (fg x a)))(hs:a.s.length=64)(hk:k<64)(hb:a.s[k]? =some b):w.cell? ⟨g,15+k,none⟩=some (.pointer (some ⟨b,0,none⟩)):=h.cell hi ((Rg x a hs k hk).trans (by rw[hb];rfl))
def k2:ae:=⟨2,by decide⟩
def ae4(k:ae):bX:={bW with kind:=k2,dst:=k}
def uj(x:ak)(k:ae)(fine m:ae):List dB:=x.s.set k.val.toNat (oL ((x.s[k.val.toNat]?).getD gG) fine m)
def jv(x:ak)(now fine:ae):ak:=
 if (tn x).2 then(if kg {x with asked:=(tn x).1} then{aeT {x with asked:=(tn x).1} with s:=uj x (tn x).1 fine (mV {x with asked:=(tn x).1} now (ae4 (tn x).1))} else aeT {x with asked:=(tn x).1}) else x
def lD(x:ak)(now fine:ae):List (bX×ae):=
 if (tn x).2 then dA {x with asked:=(tn x).1} now fine (ae4 (tn x).1) else[]
theorem NU(g gs:Nat)(x:ak)(now fine:ae)(outs:List (bX×ae))(F:Nat->Prop)(w:World)(hi:cw x)(hl:outs.length<=1000)(h: (cq g x now fine outs).rep gs F w):Calls prog 107 #[.pointer (some ⟨g,0,none⟩),.pointer (some ⟨gs,0,none⟩)] w fun r w'=>r= .returned (.tuple #[])/\kE (cq g (jv x now fine) now fine (outs++lD x now fine)) gs F w w':=by
 obtain⟨y,hy⟩:∃y,y=jv x now fine:=⟨_,rfl⟩;obtain⟨os,hos⟩:∃os,os=outs++lD x now fine:=⟨_,rfl⟩;rw[<-hy,<-hos];have HI:=qD hi;have HPI:=qD (fun h=>Xa (x:=x) hi h);obtain⟨v,h⟩:=h;obtain⟨a,h0,M⟩:=ic (A:=[(gs,.row (aN g now fine v)),(0,.own 163 16 aM v outs)]) (Mem.start h);have H0:=qD h0;have M0:=qD M;have HB:=qD hi.t.1;obtain⟨F1,hF1⟩:=M0.o.rep (i:=4) rfl;have HA:=qD (rB x.t a.t F1 w HB.o hF1);have HLN:Hid ((dm x.t).length<=64):=Bi HB.o hF1;have HL:=qD hl;unfold jv at hy;unfold lD at hos;have HY:=qD hy;have HOS:=qD hos;have HNX:Hid (∀v base w,Own w base 3 1 mn v (Dv x)->Calls prog 149 #[v,.int .i64 x.asked.val] w fun r w'=>r= .returned (.tuple #[.int .i64 (tn x).1.val,.bool (tn x).2])/\w'=w):=fun v base w ho=>Ii v base (Dv x) x.asked w ho (by have:=HLN.o;unfold Dv;rw[List.length_map];omega);have HID:Hid (Dv x=(dm x.t).map (·.node)):=rfl;have c14:w.cell? ⟨g,14,none⟩=some (.pointer (some ⟨a.t,0,none⟩)):=tg M0.o (i:=2) rfl;clear hy hos h0 h M hF1 hi hl;generalize tn x=pl at HNX HY HOS HPI;generalize Dv x=ids at HNX HID;generalize dm x.t=al at HA HLN HID;obtain⟨k,b⟩:=pl;have n64:al.length<=64:=HLN.o;have hz5:=ew;go_enter func107,ntmps107;go_wp2_with (go_at_call 29;refine HA.o.mono ?_;rintro r w1 ⟨v1,rfl,ho,hn,hb1⟩;obtain⟨va,vc,hv⟩:=ho.len;subst hv;have M1:Hid (Mem w F ([(0,.own 3 1 mn (.slice none 0 0) []),(0,.own 50 10 aJ (.slice va al.length vc) al),(gs,.row (aN g now fine v)),(0,.own 163 16 aM v outs)]++aK x a g) w1):=Mem.nil (M0.o.ae6 hb1 ho);clear hb1 ho hn M0 HA c14)
 go_loopw [4,17] (fun x4 i wr=>∃j:Nat,j<=al.length/\i= .int .i64 j/\Hid (Mem w F ([(0,.own 3 1 mn x4 ((al.take j).map (·.node))),(0,.own 50 10 aJ (.slice va al.length vc) al),(gs,.row (aN g now fine v)),(0,.own 163 16 aM v outs)]++aK x a g) wr)) (fun _ i _=>al.length-(intOf i).toNat)
 case atStart=>exact⟨0,by omega,rfl,M1⟩
 case round=>
  obtain⟨j,hj,rfl,M⟩:=hrel;have HLJ:Hid (((al.take j).map (·.node)).length=j):=by show _=_;rw[List.length_map,List.length_take,Nat.min_eq_left hj]
  by_cases hlt:j<al.length
  ·obtain⟨q,hq⟩:∃q,al[j]? =some q:=⟨_,gE hlt⟩;obtain⟨g0,cap,cur,hv,h2,hg0,hbk,hcur⟩:=(M.o.own (i:=1) rfl).aI bo (by omega);cases hv;obtain⟨f0,f1⟩:=hcur j q hq;have HX:Hid ((al.take (j+1)).map (·.node)=(al.take j).map (·.node)++ [q.node]):=by show _=_;rw[List.take_add_one,hq];simp
   have HJ9:Hid (j<=999999):=by have:=HLN.o;show _<=_;omega
   clear hcur h2 hq HY HOS HNX HPI;go_upto_region 4 with(fail);have M3:Hid (Mem w F ([(wr.heap.size,.row (aJ q)),(0,.own 3 1 mn u4 ((al.take j).map (·.node))),(0,.own 50 10 aJ (.slice (some ⟨g0,0,none⟩) al.length vc) al),(gs,.row (aN g now fine v)),(0,.own 163 16 aM v outs)]++aK x a g) ((wr.alloc (.cells (aJ cr) 50)).setCells wr.heap.size 0 (aJ q).toList)):=M.o.alloc.bC (i:=0) (cs':=aJ q) rfl (by simp[bo]);generalize ((wr.alloc (.cells (aJ cr) 50)).setCells wr.heap.size 0 (aJ q).toList)=w3 at*;clear M f0 f1 hbk hg0 M1;have c0:w3.cell? ⟨wr.heap.size,0,none⟩=some (.int .i64 q.node.val):=M3.o.cell (i:=0) (k:=0) rfl rfl;have MB:=qD (M3.o.below ((bZ _ w3).alloc (nL _) (.cells (mn q.node) 3)));have EB:Hid ((w3.alloc (.cells (mn q.node) 3)).aI w3.heap.size=some (mn q.node)):=by show _=_;simp[af,aq]
   obtain⟨xa,xc,hxv⟩:=(M3.o.own (i:=1) rfl).len;rw[HLJ.o] at hxv;subst hxv;go_wp2_with (first|(refine dN rfl _ 124 3 rfl mT zx rfl (by decide) (by decide) _ rfl (mn q.node) rfl rfl ?_)|(at_builtin;refine fq rfl _ _ 124 3 rfl mT zx rfl (by decide) (j:=1) j HLJ.o rfl MB.o rfl w3.heap.size 1 rfl q.node EB.o pH xg HJ9.o (by decide) ?_;intro a4 c4 w4 M4 l4;have M5:=qD M4.au;clear M4 l4 MB c0 EB));go_roundw
   case rel=>exact⟨j+1,by omega,by go_num,by rw[HX.o];exact M5⟩
   case measure=>simp[intOf];omega
  ·have hje:j=al.length:=by omega
   subst hje;rw[List.take_length,<-HID.o] at M;have HNX2:=qD (HNX.o _ _ wr (M.o.own (i:=0) rfl));have M2:=qD M.o.au.au;have c83:wr.cell? ⟨g,83,none⟩=some (.int .i64 x.asked.val):=adQ M2.o (i:=2) rfl H0.o;clear M HLJ HLN HNX hz5 M1;go_upto_region 7 with(go_at_call 149;refine HNX2.o.mono ?_;rintro r w2 ⟨rfl,rfl⟩);cases b with
   |false=>
    have HY2:Hid (y=x):=by show _=_;rw[HY.o];simp
    have HO2:Hid (os=outs):=by show _=_;rw[HOS.o];simp
    clear HY HOS c83;go_wp2;exact bodyPost_ret (results_none (fn:=Tryz.f107) rfl _ _ _) rfl ⟨rfl,by rw[HY2.o,HO2.o];exact(dO H0.o M2.o).kF fun F' hF=>⟨v,hF⟩⟩
   |true=>
    obtain⟨x1,hx1⟩:∃x1,x1=({x with asked:=k}:ak):=⟨_,rfl⟩;have HY2:Hid (y=if kg x1 then{aeT x1 with s:=uj x k fine (mV x1 now (ae4 k))} else aeT x1):=by show _=_;rw[hx1,HY.o,if_pos rfl]
    have HO2:Hid (os=outs++dA x1 now fine (ae4 k)):=by show _=_;rw[hx1,HOS.o,if_pos rfl]
    have HX1:=qD hx1;have HK:=qD (HPI.o rfl);have z83:=ax (M2.o.row (i:=2) rfl) 83;clear HY HOS HPI hx1;go_upto_region 9 with(fail);have M3:Hid (Mem w F ([(gs,.row (aN g now fine v)),(0,.own 163 16 aM v outs)]++aK x1 a g) (w2.setCell ⟨g,83,none⟩ (.int .i64 k.val))):=by rw[HX1.o];exact M2.o.bO (i:=2) (k:=83) (v:= .int .i64 k.val) rfl (pK (x:=x) (y:={x with asked:=k}) H0.o rfl 4 _ rfl)
    generalize (w2.setCell ⟨g,83,none⟩ (.int .i64 k.val))=w3 at*;clear M2 c83 z83;have M4:Hid (Mem w F [(gs,cq g x1 now fine outs)] w3):=rI (A:=[]) H0.o M3.o;have HC:=qD (M4.o.bD (i:=0) (g:=gs) (P:=prog) (f:=105) rfl (fun F1 hF=>rH g gs x1 now fine outs F1 w3 (ae4 k) HL.o hF));rw[<-HO2.o] at HC;have HXS:Hid ((aeT x1).s=x.s):=by show _=_;rw[Iq,HX1.o]
    generalize aeT x1=x2 at HC HY2 HXS;generalize mV x1 now (ae4 k)=mk at HC HY2;generalize kg x1=sb at HC HY2;clear HO2 HX1 M3;go_upto_region 10 with(first|((with_reducible show wpList _ _ _ (⟨some 45,_,_,_,_,_⟩::_) _ _);refine br _ (.agg (aD (ae4 k).s)) w3 rfl (by kernel_rfl) ?_)|(go_at_call 105;refine qHG HC.o fun w4 M5=>?_));clear HC M4;cases sb with
    |false=>
     have HY3:Hid (y=x2):=by show _=_;rw[HY2.o];simp
     clear HY2;go_wp2;exact bodyPost_end (results_none (fn:=Tryz.f107) rfl _ _ _) rfl ⟨rfl,by rw[HY3.o];exact Mem.xW M5.o⟩
    |true=>
     have HY3:Hid (y= {x2 with s:=uj x k fine mk}):=by show _=_;rw[HY2.o,if_pos rfl]
     clear HY2;go_upto_region 11 with(fail);obtain⟨v3,a3,ha3,hM6⟩:=Ip (A:=[]) M5.o;have H3:=qD ha3;have M6:Hid (Mem w F ([(gs,.row (aN g now fine v3)),(0,.own 163 16 aM v3 os)]++aK x2 a3 g) w4):=hM6;obtain⟨kn,hkn⟩:∃kn:Nat,k.val=kn:=⟨k.val.toNat,by have:=HK.o;omega⟩;have hk64:kn<64:=by have:=HK.o;omega
     obtain⟨sb,hsb⟩:∃sb,a3.s[kn]? =some sb:=⟨_,gE (by omega)⟩;obtain⟨ss,hss⟩:∃ss,x.s[kn]? =some ss:=⟨_,gE (by have:=HI.o.s;omega)⟩;have c15:=Rj M6.o (i:=2) rfl ha3 hk64 hsb;have d2:w4.cell? ⟨gs,2,none⟩=some (.int .i64 fine.val):=M6.o.cell (i:=0) (k:=2) rfl rfl;have HPS:Hid (uj x k fine mk=x.s.set kn (oL ss fine mk)):=by show _=_;unfold uj;rw[hkn,Int.toNat_natCast,hss];rfl
     rw[hkn];have n1: (kn:Int)<64:=by omega
     have n0: (0:Int)<=kn:=by omega
     have HSA:=qD hsb;have HSS:Hid (x2.s[kn]? =some ss):=by show _=_;rw[HXS.o];exact hss
     have l2:=ab (M6.o.row (i:=2) rfl);have l0:=ab (M6.o.row (i:=0) rfl);clear M5 hsb hss ha3 hkn hM6;refine ar 11 ?_;simp only[tA,tD,tC,tE]
     repeat quiet_step (fail)
     refine wpQuiet_nil ?_;intro w5 hb5;have M7:=qD (M6.o.below hb5);have HC:=qD (M7.o.fY (i:=kn+7) (P:=prog) (f:=150) (Xb HSS.o HSA.o) (fun hb=>FO sb w5 ss fine mk hb));rw[Ri HSA.o] at HC;generalize oL ss fine mk=sp at HC HPS;clear M6 hb5 c15 d2 l0 l2;go_wp2_with (go_at_call 150;refine qHG HC.o fun w6 M8=>?_);exact bodyPost_end (results_none (fn:=Tryz.f107) rfl _ _ _) rfl ⟨rfl,by rw[HY3.o,HPS.o,<-HXS.o];exact Mem.xW (rI (A:=[]) H3.o M8.o)⟩
theorem Mem.qA{R:aj}{g:Nat}{F:Nat->Prop}{w:World}(h:R.rep g F w):Mem w F [(g,R)] w:=
 ⟨F,⟨F,fun _=>False,h,fun x h=>h,fun x _ h=>h,fun x=>by simp⟩,fun x hx=> .inl hx,bN.refl F w⟩
theorem set_perm{α:Type}{q p:α}:∀{L:List α} {i:Nat},L[i]? =some p->(L.set i q).Perm (q::L.eraseIdx i)
 | [],i,h=>by simp at h
 |a::L,0,h=>by simp
 |a::L,i+1,h=>by have:=set_perm (q:=q) (L:=L) (i:=i) (by simpa using h);simp only[List.set_cons_succ,List.eraseIdx_cons_succ];exact(this.cons a).trans (List.Perm.swap _ _ _)
theorem Mem.Bk{α:Type}{P:Program}{f:FuncId}{args:Array Value}{w0 w:World}{F0:Nat->Prop}{L:List (Nat×aj)}{i:Nat}{p:Nat×aj}{N:α->List (Nat×aj)}{p':α->Nat×aj}{E:α->Ending->Prop}(h:Mem w0 F0 L w)(hi:L[i]? =some p)
  (hc:∀F1,p.2.rep p.1 F1 w->Calls P f args w fun e w'=>∃a,E a e/\Mem w F1 (N a++ [p' a]) w'):Calls P f args w fun e w'=>∃a,E a e/\Mem w0 F0 (N a++L.set i (p' a)) w':=by
 have key:=h.call (P:=P) (f:=f) (args:=args) (α:=α) (p':=fun a=>(0,.nV fun _=>N a++ [p' a])) (R:=E) hi (fun F1 hF=>(hc F1 hF).mono (by rintro e w' ⟨a,he,F',h1,h2,h3⟩;exact⟨a,he,F',h1,h2,h3⟩));refine key.mono ?_;rintro e w' ⟨a,he,hm⟩;refine⟨a,he,?_⟩;have h1:=(hm.perm (set_perm hi)).open;have hp: ((N a++ [p' a])++L.eraseIdx i).Perm (N a++L.set i (p' a)):=by rw[List.append_assoc];exact List.Perm.append_left _ (set_perm hi).symm
 exact h1.perm hp
def k7:ae:=⟨7,by decide⟩
def fz:bX:={bW with kind:=k7}
theorem J2(g:Nat)(x:ak)(now fine:ae)(F:Nat->Prop)(w:World)(h: (aO x).rep g F w):Calls prog 59 #[.pointer (some ⟨g,0,none⟩),.int .i64 now.val,.int .i64 fine.val] w fun r w'=>∃v,r= .returned v/\Mem w F ([(0,.own 163 16 aM v (dA x now fine fz))]++ [(g,aO (aeT x))]) w':=by
 obtain⟨y,hy⟩:∃y,y=aeT x:=⟨_,rfl⟩;obtain⟨os,hos⟩:∃os,os=dA x now fine fz:=⟨_,rfl⟩;rw[<-hy,<-hos];have M0:Hid (Mem w F [(w.heap.size,cq g x now fine [])] (w.alloc (.cells (aN g now fine (.slice none 0 0)) 171))):=Mem.fold (A:=[]) (B:=aaD g x now fine (.slice none 0 0) [] w.heap.size) (Mem.nil (Mem.qA h)).alloc (fun F hF=>⟨_,hF⟩);have HC:=qD (M0.o.bD (i:=0) (g:=w.heap.size) (P:=prog) (f:=105) rfl (fun F1 hF=>rH g w.heap.size x now fine [] F1 _ fz (by decide) hF));rw[List.nil_append,<-hy,<-hos] at HC;have hb:∀w,(Instr.build 171 #[(0,.pointer (some ⟨g,0,none⟩)),(1,.int .i64 now.val),(2,.int .i64 fine.val)]).run prog w= .ok (.agg (aN g now fine (.slice none 0 0))) w:=fun w=>by kernel_rfl
 clear h hy hos;go_enter func59,ntmps59;go_upto_region 5 with(first|((with_reducible show wpList _ _ _ (⟨some 13,_,_,_,_,_⟩::_) _ _);refine br _ (.agg (aN g now fine (.slice none 0 0))) _ rfl (by kernel_rfl) ?_)|((with_reducible show wpList _ _ _ (⟨some 16,_,_,_,_,_⟩::_) _ _);refine br _ (.agg (aD fz.s)) _ rfl (by kernel_rfl) ?_)|(go_at_call 105;refine qHG HC.o fun w1 M1=>?_));obtain⟨F1,⟨v,hv⟩,h2⟩:=Mem.unfold (A:=[]) M1.o;have M2:Hid (Mem w F [(w.heap.size,.row (aN g now fine v)),(0,.own 163 16 aM v os),(g,aO y)] w1):=h2 _ hv;obtain⟨va,vc,hve⟩:=(M2.o.own (i:=1) rfl).len;subst hve;have c3:w1.cell? ⟨w.heap.size,3,none⟩=some (.slice va os.length vc):=M2.o.cell (i:=0) (k:=3) rfl rfl;clear M1 HC M0 h2 hv hb;go_wp2;go_ret;exact⟨_,rfl,M2.o.au⟩
theorem Ir(now m:Int):∀(l:List bE) (es:List (Int×bE)) (p:Int×bE),p∈BC now m es l->p∈es
 | [],es,p,h=>h
 |x::l,es,p,h=>by
  have h1:=Ir now m l _ p h;split at h1
  ·exact(List.mem_filter.1 h1).1
  ·exact h1
theorem pM{s:bh}{now silent:ae}{p:Int×bE}(h:p∈(lA s now silent).ents):p∈s.ents:=Ir _ _ _ _ _ h
theorem cw.send{x:ak}(h:cw x):cw (aeT x):=by unfold aeT;split <;> exact⟨h.t,h.k,h.s⟩
theorem cw.tell{x:ak}(h:cw x)(now:ae):cw (fQ x now):=by
 unfold fQ;split
 ·split
  ·exact cw.send ⟨h.t,h.k,h.s⟩
  ·exact⟨h.t,h.k,h.s⟩
 ·exact h
theorem cw.adS{x:ak}(h:cw x)(now fine:ae):cw (jv x now fine):=by
 unfold jv;have h1:cw (aeT {x with asked:=(tn x).1}):=cw.send ⟨h.t,h.k,h.s⟩;generalize aeT {x with asked:=(tn x).1}=z at h1 ⊢;have h2: (uj x (tn x).1 fine (mV {x with asked:=(tn x).1} now (ae4 (tn x).1))).length=64:=by unfold uj;rw[List.length_set];exact h.s
 generalize uj x (tn x).1 fine (mV {x with asked:=(tn x).1} now (ae4 (tn x).1))=ss at h2 ⊢;generalize tn x=pl;generalize kg {x with asked:=pl.1}=sb;obtain⟨k,b⟩:=pl;cases b <;> cases sb
 ·exact h
 ·exact h
 ·exact h1
 ·exact⟨h1.t,h1.k,h2⟩
def k5:ae:=⟨5,by decide⟩
def k1:ae:=⟨1,by decide⟩
def Dw(e:bR):bX:={bW with kind:=k5,cx:=e.1,cy:=e.2.1,pa:=e.2.2.1,pb:=e.2.2.2.1,pd:=e.2.2.2.2.1}
def Dx:bX:={bW with kind:=k1}
def uC(x:ak)(now:ae):ak:={x with b:=iY x.b,t:=lA x.t now x.c.2.2.2.2.2.2.2.1,tm:=(cI x.tm now).2}
def Dy(x:ak):bX:=if x.f.2.1 then Dw x.f.2.2 else Dx
def Lc(x:ak)(now:ae):ak:=aeT (uC x now)
def NV(x:ak)(now:ae):ak:=fQ (Lc x now) now
def fR(x:ak)(now fine:ae):ak:=if fP now then(if (cI x.tm now).1 then jv (NV x now) now fine else uC x now) else x
def gQ(x:ak)(now fine:ae):List (bX×ae):=if fP now then(if (cI x.tm now).1 then(dA (uC x now) now fine (Dy x)++ju (Lc x now) now fine)++lD (NV x now) now fine else[]) else[]
theorem cw.uC{x:ak}(h:cw x)(now:ae):cw (uC x now):=
 ⟨⟨fun p hp=>h.t.1 p (pM hp),h.t.2⟩,fun p hp=>h.k p (pM hp),h.s⟩
theorem cw.tick{x:ak}(h:cw x)(now fine:ae):cw (fR x now fine):=by
 unfold fR NV Lc;split
 ·split
  ·exact(((h.uC now).send).tell now).adS now fine
  ·exact h.uC now
 ·exact h
theorem jx(x:ak)(now fine:ae)(f:bX): (dA x now fine f).length<=1:=by unfold dA;split <;> simp
theorem zK(x:ak)(now fine:ae): (ju x now fine).length<=1:=by
 unfold ju;split
 ·split
  ·exact jx _ _ _ _
  ·simp
 ·simp
theorem aaE{x:ak}{a:ek}{g gs:Nat}{now fine:ae}{v:Value}{F:Nat->Prop}{w0 w:World}(h0:a.s.length=64)(h:Mem w0 F ([(gs,.row (aN g now fine v)),(0,.own 163 16 aM v [])]++aK x a g) w)(f:bX):Calls prog 105 #[.pointer (some ⟨gs,0,none⟩),.agg (aD f.s)] w fun e w'=>(∃v,e= .returned v)/\Mem w0 F [(gs,cq g (aeT x) now fine (dA x now fine f))] w':=by have M0:Mem w0 F [(gs,cq g x now fine [])] w:=rI (A:=[]) h0 h;have key:=M0.bD (i:=0) (g:=gs) (P:=prog) (f:=105) rfl (fun F1 hF=>rH g gs x now fine [] F1 w f (by decide) hF);rw[List.nil_append] at key;refine key.mono ?_;rintro e w' ⟨rfl,h⟩;exact⟨⟨_,rfl⟩,h⟩
theorem NW(g:Nat)(x:ak)(now fine:ae)(F:Nat->Prop)(w:World)(hi:cw x)(h: (aO x).rep g F w):Calls prog 50 #[.pointer (some ⟨g,0,none⟩),.int .i64 now.val,.int .i64 fine.val] w fun r w'=>∃v,r= .returned v/\Mem w F ([(0,.own 163 16 aM v (gQ x now fine))]++ [(g,aO (fR x now fine))]) w':=by
 obtain⟨y,hy⟩:∃y,y=fR x now fine:=⟨_,rfl⟩;obtain⟨os,hos⟩:∃os,os=gQ x now fine:=⟨_,rfl⟩;rw[<-hy,<-hos];have HI:=qD hi;have HTM:=qD (ly now);have HS:Hid (Mem w F [(g,aO x)] w):=Mem.qA h;obtain⟨a,h0,M⟩:=ic (A:=[]) (Mem.qA h);have H0:=qD h0;have M0:Hid (Mem w F (aK x a g) w):=M;unfold fR at hy;unfold gQ at hos;have HY:=qD hy;have HOS:=qD hos;clear h h0 M hy hos hi;generalize fP now=tb at HTM HY HOS;cases tb with
 |false=>
  have HY2:Hid (y=x):=by show _=_;rw[HY.o];simp
  have HO2:Hid (os= []):=by show _=_;rw[HOS.o];simp
  clear HY HOS M0 H0;go_enter func50,ntmps50;go_wp2_with (go_at_call 101;refine Mem.qB (HTM.o _) HS.o fun w1 M1=>?_);go_ret;rw[HY2.o,HO2.o];exact⟨_,rfl,Mem.nil M1.o⟩
 |true=>
  obtain⟨x1,hx1⟩:∃x1,x1=uC x now:=⟨_,rfl⟩;have HX1:Hid (x1= {x with b:=iY x.b,t:=lA x.t now x.c.2.2.2.2.2.2.2.1,tm:=(cI x.tm now).2}):=hx1;have HI1:Hid (cw x1):=by rw[hx1];exact HI.o.uC now
  have HY2:Hid (y=if (cI x.tm now).1 then jv (fQ (aeT x1) now) now fine else x1):=by show _=_;rw[hx1,HY.o,if_pos rfl];rfl
  have HO2:Hid (os=if (cI x.tm now).1 then(dA x1 now fine (Dy x)++ju (aeT x1) now fine)++lD (fQ (aeT x1) now) now fine else[]):=by show _=_;rw[hx1,HOS.o,if_pos rfl];rfl
  have HDU:Hid (∀w g',w.aI g'=some (wN x.tm)->Calls prog 104 #[.pointer (some ⟨g',0,none⟩),.int .i64 now.val] w fun e w'=>e= .returned (.bool (cI x.tm now).1)/\w'.aI g'=some (wN (cI x.tm now).2)/\bN (fun y=>y=g') w w'):=fun w g' hb=>by have key:=Jv g' w x.tm now hb;generalize cI x.tm now=r at key ⊢;exact key
  generalize cI x.tm now=du at HDU HX1 HY2 HO2;clear HY HOS hx1 HS;obtain⟨db,dt⟩:=du;have HBK:Hid (∀w g',w.aI g'=some (oK x.b)->Calls prog 102 #[.pointer (some ⟨g',0,none⟩)] w fun e w'=>e= .returned (.tuple #[])/\w'.aI g'=some (oK (iY x.b))/\bN (fun y=>y=g') w w'):=fun w g' hb=>by have key:=FJ g' w x.b hb;generalize iY x.b=r at key ⊢;exact key
  have HEV:Hid (∀w g' F1,(eW x.t).rep g' F1 w->Calls prog 103 #[.pointer (some ⟨g',0,none⟩),.int .i64 now.val,.int .i64 x.c.2.2.2.2.2.2.2.1.val] w fun e w'=>(∃v,e= .returned v)/\kE (eW (lA x.t now x.c.2.2.2.2.2.2.2.1)) g' F1 w w'):=fun w g' F1 hF=>JK x.t g' F1 w now _ HI.o.t.1 hF;generalize iY x.b=bk at HBK HX1;generalize lA x.t now x.c.2.2.2.2.2.2.2.1=ev at HEV HX1;have c79:w.cell? ⟨g,79,none⟩=some (.pointer (some ⟨a.b,0,none⟩)):=W9 M0.o (i:=0) rfl H0.o;have gg:=ab (M0.o.row (i:=0) rfl);go_enter func50,ntmps50;go_upto_region 3 with(go_at_call 101;refine Mem.qB (HTM.o _) M0.o fun w1 M1=>?_;clear M0 c79 gg);have c79:w1.cell? ⟨g,79,none⟩=some (.pointer (some ⟨a.b,0,none⟩)):=W9 M1.o (i:=0) rfl H0.o;have HC:Hid (Calls prog 102 #[.pointer (some ⟨a.b,0,none⟩)] w1 fun e w'=>e= .returned (.tuple #[])/\Mem w F (aK {x with b:=bk} a g) w'):=M1.o.fY (i:=3) rfl (fun hb=>HBK.o w1 a.b hb);go_upto_region 4 with(go_at_call 102;refine qHG HC.o fun w2 M2=>?_);clear HC M1 c79;have c14:w2.cell? ⟨g,14,none⟩=some (.pointer (some ⟨a.t,0,none⟩)):=tg M2.o (i:=0) rfl;have c7:w2.cell? ⟨g,7,none⟩=some (.int .i64 x.c.2.2.2.2.2.2.2.1.val):=nc7 M2.o (i:=0) rfl;have gg:=ab (M2.o.row (i:=0) rfl);refine ar 10 ?_;simp only[tA,tD,tC,tE]
  repeat quiet_step (fail)
  refine wpQuiet_nil ?_;intro w3 hb3;have M3:=qD (M2.o.below hb3);have HC:Hid (Calls prog 103 #[.pointer (some ⟨a.t,0,none⟩),.int .i64 now.val,.int .i64 x.c.2.2.2.2.2.2.2.1.val] w3 fun e w'=>(∃v,e= .returned v)/\Mem w F (aK {x with b:=bk,t:=ev} a g) w'):=M3.o.bD (i:=2) rfl (fun F1 hF=>HEV.o w3 a.t F1 hF);clear c14 c7 gg hb3 M2;go_upto_region 5 with(go_at_call 103;refine HC.o.mono ?_;rintro r w4 ⟨⟨ve,rfl⟩,hM4⟩;have M4:=qD hM4;clear hM4);clear HC M3;have c80:w4.cell? ⟨g,80,none⟩=some (.pointer (some ⟨a.tm,0,none⟩)):=adP M4.o (i:=0) rfl H0.o;have HC:Hid (Calls prog 104 #[.pointer (some ⟨a.tm,0,none⟩),.int .i64 now.val] w4 fun e w'=>e= .returned (.bool db)/\Mem w F (aK x1 a g) w'):=by rw[HX1.o];exact M4.o.fY (i:=4) rfl (fun hb=>HDU.o w4 a.tm hb)
  cases db with
  |false=>
   have HY3:Hid (y=x1):=by show _=_;rw[HY2.o];simp
   have HO3:Hid (os= []):=by show _=_;rw[HO2.o];simp
   clear HY2 HO2;go_wp2_with (go_at_call 104;refine qHG HC.o fun w5 M5=>?_);go_ret;rw[HY3.o,HO3.o];exact⟨_,rfl,Mem.nil (dO (A:=[]) H0.o M5.o)⟩
  |true=>
   have HY3:Hid (y=jv (fQ (aeT x1) now) now fine):=by show _=_;rw[HY2.o,if_pos rfl]
   have HO3:Hid (os=(dA x1 now fine (Dy x)++ju (aeT x1) now fine)++lD (fQ (aeT x1) now) now fine):=by show _=_;rw[HO2.o,if_pos rfl]
   clear HY2 HO2;go_upto_region 7 with(go_at_call 104;refine qHG HC.o fun w5 M5=>?_);clear HC c80 M4;go_upto_region 8 with((with_reducible show wpList _ _ _ (⟨some 41,_,_,_,_,_⟩::_) _ _);refine br _ (.agg (aN g now fine (.slice none 0 0))) _ rfl (by kernel_rfl) ?_);obtain⟨w6,hw6⟩:∃w6,w6=w5.alloc (.cells #[.pointer (some ⟨g,0,none⟩),.int .i64 now.val,.int .i64 fine.val,.slice none 0 0] 171):=⟨_,rfl⟩;have M6:Hid (Mem w F ([(w5.heap.size,.row (aN g now fine (.slice none 0 0))),(0,.own 163 16 aM (.slice none 0 0) [])]++aK x1 a g) w6):=by rw[hw6];exact(Mem.nil M5.o).alloc
   rw[<-hw6];generalize w5.heap.size=gs at M6 ⊢;clear M5 hw6;have HT:Hid (Dy x=if x1.f.2.1 then Dw x1.f.2.2 else Dx):=by show _=_;rw[HX1.o];rfl
   obtain⟨fr,hfr⟩:∃fr,fr=Dy x:=⟨_,rfl⟩;rw[<-hfr] at HT HO3;have HS2:=qD (fun(w6:World) (h6:Mem w F ([(gs,.row (aN g now fine (.slice none 0 0))),(0,.own 163 16 aM (.slice none 0 0) [])]++aK x1 a g) w6) (f:bX)=>aaE H0.o h6 f);obtain⟨x2,hx2⟩:∃x2,x2=aeT x1:=⟨_,rfl⟩;have HI2:Hid (cw x2):=by rw[hx2];exact HI1.o.send
   rw[<-hx2] at HY3 HO3 HS2;obtain⟨so,hso⟩:∃so:bX->List (bX×ae),so=dA x1 now fine:=⟨_,rfl⟩;have HSL:Hid ((so fr).length<=1):=by rw[hso];exact jx _ _ _ _
   rw[<-hso] at HO3;rw[<-hso] at HS2;clear hso hx2 hfr;have c13:w6.cell? ⟨g,13,none⟩=some (.pointer (some ⟨a.f,0,none⟩)):=NI M6.o (i:=2) rfl;have gg:=ab (M6.o.row (i:=2) rfl);have HV:Hid (Calls prog 27 #[.pointer (some ⟨a.f,0,none⟩)] w6 fun e w'=>e= .returned (.bool x1.f.2.1)/\w'=w6):=Im x1.f a.f w6 (M6.o.row (i:=3) rfl);have HE:Hid (Calls prog 28 #[.pointer (some ⟨a.f,0,none⟩)] w6 fun e w'=>e= .returned (.agg (aB x1.f.2.2))/\Below w6.heap.size w6 w'):=Dp x1.f a.f w6 (M6.o.row (i:=3) rfl);clear HI1 HI HX1;generalize x1.f.2.1=fb at HV HT;generalize x1.f.2.2=fe at HE HT;clear H0;go_upto_if 47 with(go_at_call 27;refine HV.o.mono ?_;rintro r w7 ⟨rfl,rfl⟩)
   go_cut [] from 48 (fun wr=>Hid (Mem w F [(gs,cq g x2 now fine (so fr))] wr))
   case first=>
    clear HY3 HO3 HI2 HSL HV;cases fb with
    |true=>
     have HT2:Hid (fr=Dw fe):=by show _=_;rw[HT.o,if_pos rfl]
     clear HT;go_wp2_with (first|((with_reducible show wpList _ _ _ (⟨some 54,_,_,_,_,_⟩::_) _ _);refine br _ (.agg (aD (Dw fe).s)) _ rfl (by kernel_rfl) ?_)|(go_at_call 28;refine Mem.qB HE.o M6.o fun w7 M7=>?_)|(go_at_call 105;refine(HS2.o _ M7.o (Dw fe)).mono ?_;rintro r w8 ⟨⟨vr,rfl⟩,hM8⟩;have M8:=qD hM8;clear hM8));go_meet
     case rel=>rw[HT2.o];exact M8
    |false=>
     have HT2:Hid (fr=Dx):=by show _=_;rw[HT.o];simp
     clear HT;go_wp2_with (first|((with_reducible show wpList _ _ _ (⟨some 57,_,_,_,_,_⟩::_) _ _);refine br _ (.agg (aD Dx.s)) _ rfl (by kernel_rfl) ?_)|(go_at_call 105;refine(HS2.o _ M6.o Dx).mono ?_;rintro r w8 ⟨⟨vr,rfl⟩,hM8⟩;have M8:=qD hM8;clear hM8));go_meet
     case rel=>rw[HT2.o];exact M8
   case rest=>
    have M8:=hcut;clear M6 HS2 HE HV HT c13 gg fe;generalize so fr=o1 at M8 HO3 HSL;have HTL:Hid (Calls prog 106 #[.pointer (some ⟨g,0,none⟩),.pointer (some ⟨gs,0,none⟩)] wc fun e w'=>e= .returned (.tuple #[])/\Mem w F [(gs,cq g (fQ x2 now) now fine (o1++ju x2 now fine))] w'):=M8.o.bD (i:=0) rfl (fun F1 hF=>NP g gs x2 now fine o1 F1 wc HI2.o (nT HSL.o (by decide)) hF);have HI3:Hid (cw (fQ x2 now)):=HI2.o.tell now;have HSL3:Hid ((o1++ju x2 now fine).length<=2):=by show _<=_;rw[List.length_append];exact Nat.add_le_add HSL.o (zK _ _ _)
    clear HI2 HSL;generalize fQ x2 now=x3 at HTL HI3 HY3 HO3;generalize o1++ju x2 now fine=o2 at HTL HSL3 HO3;go_upto_region 12 with(go_at_call 106;refine qHG HTL.o fun w9 M9=>?_);clear M8 HTL;have HTL:Hid (Calls prog 107 #[.pointer (some ⟨g,0,none⟩),.pointer (some ⟨gs,0,none⟩)] w9 fun e w'=>e= .returned (.tuple #[])/\Mem w F [(gs,cq g (jv x3 now fine) now fine (o2++lD x3 now fine))] w'):=M9.o.bD (i:=0) rfl (fun F1 hF=>NU g gs x3 now fine o2 F1 w9 HI3.o (nT HSL3.o (by decide)) hF);rw[<-HY3.o,<-HO3.o] at HTL;go_upto_region 13 with(go_at_call 107;refine qHG HTL.o fun w10 M10=>?_);clear M9 HTL HY3 HO3 HI3 HSL3;obtain⟨F1,⟨v,hv⟩,h2⟩:=Mem.unfold (A:=[]) M10.o;have M2:Hid (Mem w F [(gs,.row (aN g now fine v)),(0,.own 163 16 aM v os),(g,aO y)] w10):=h2 _ hv;obtain⟨va,vc,hve⟩:=(M2.o.own (i:=1) rfl).len;subst hve;have c3:w10.cell? ⟨gs,3,none⟩=some (.slice va os.length vc):=M2.o.cell (i:=0) (k:=3) rfl rfl;have gl:=ab (M2.o.row (i:=0) rfl);clear M10 h2 hv;go_wp2;go_ret;exact⟨_,rfl,M2.o.au⟩
end
end Go.Proofs.Yq
namespace Go
inductive MT where
 |done
 |q (i:Nat) (r:MT)
 |w (i:Nat) (r:MT)
 |w2 (i:Nat) (ri:MT) (j:Nat) (rj:MT)
section
variable {P:Program} {ops:Array Oper} {md:Region.Mode} {Q:Exit->Act->World->Prop} {S:World->Prop}
def mX(P:Program)(ops:Array Oper)(Q:Exit->Act->World->Prop)(S:World->Prop)(T:Act->World->Prop):MT->Act->World->Prop
 | .done,a,w=>T a w
 | .q i r,a,w=>if Region.wanted (ops.getD i default) (yielded ops a.tmps)=true then ∃v,(∀w',S w'->(execOp a.eval (ops.getD i default)).run P w'= .ok (.value v) w')/\mX P ops Q S T r (a.put (ops.getD i default).dst v) w else mX P ops Q S T r (a.put (ops.getD i default).dst undef) w
 | .w i r,a,w=>wpList P ops (jF (fun a' w'=>S w'/\mX P ops Q S T r a' w') Q) [ops.getD i default] a w
 | .w2 i ri j rj,a,w=>wpList P ops (jF (fun a' w'=>S w'/\mX P ops Q S T ri a' w') Q) [ops.getD i default] a w/\wpList P ops (jF (fun a' w'=>S w'/\mX P ops Q S T rj a' w') Q) [ops.getD j default] a w
def Rk(md:Region.Mode)(ops:Array Oper)(g n:Nat):MT->Nat->Array Bool->Bool
 | .done,0,listed=>Region.seqB md ops g n listed
 | .q i r,f+1,listed=>decide (i<n)&&(Region.ready md ops listed).contains i&&Region.free md ops listed i&&Rk md ops g n r f (listed.setIfInBounds i true)
 | .w i r,f+1,listed=>decide (i<n)&&decide (Region.ready md ops listed= [i])&&Rk md ops g n r f (listed.setIfInBounds i true)
 | .w2 i ri j rj,f+1,listed=>decide (i<n)&&decide (j<n)&&decide (Region.ready md ops listed= [i,j])&&Rk md ops g n ri f (listed.setIfInBounds i true)&&Rk md ops g n rj f (listed.setIfInBounds j true)
 |_,_,_=>false
def Tq(md:Region.Mode)(ops:Array Oper)(n:Nat)(t:MT):Bool:=
 Region.noSelect ops&&decide (n<ops.size)&&Region.sinkB md ops n&&Region.chainB md ops n&&Rk md ops (ops.size-n) n t n (Array.replicate ops.size false)
theorem xp{K:Act->World->Prop}{i:Nat}{a:Act}{w:World}(h0:ops[i]? =some (ops.getD i default))(h:wpList P ops (jF K Q) [ops.getD i default] a w):wpOp P ops Q i K a w:=by
 unfold wpOp;simp only[h0];simp only[wpList] at h;split
 ·rename_i hwn;rw[if_pos hwn] at h;refine h.imp (fun h3=>?_) (fun h3=>⟨h3.1,?_⟩)
  ·unfold Oper.wp at h3 ⊢;generalize (execOp a.eval (ops.getD i default)).run P w=r at*;cases r with
   |ok n w'=>
    cases n <;> simp only[Oper.upon] at h3 ⊢
    case value u=>exact h3
    case skip=>exact h3
    case defer d=>exact h3
    case enter f args=>
     refine Calls.mono h3 fun e w'' he=>?_;cases e with
     |returned u=>exact he
     |panicked c=>exact he
     |outgrown=>exact he
    case row row args=>exact Rows.mono h3 fun u w'' he=>he
   |halt x w'=>cases x <;> simp only[Oper.upon] at h3 ⊢<;> exact h3
  ·exact h3.2
 ·rename_i hwn;rw[if_neg hwn] at h;exact h
theorem rJ{n g:Nat}{T:Act->World->Prop}(hsel:Region.noSelect ops=true)(hs:Region.sinkB md ops n=true)(hc:Region.chainB md ops n=true)(hn:n<ops.size)
  (hQ:∀c d v (a:Act) w,Q (.panic c) (a.put d v) w->Q (.panic c) a w):
  ∀(t:MT) (f:Nat) (listed:Array Bool) (a:Act) (w:World),HeadInv md ops n listed->Rk md ops g n t f listed=true->S w->
  mX P ops Q S T t a w->AnyM P md ops Q S n (fun listed' a' w'=>Region.seqB md ops g n listed'=true/\T a' w') f listed a w
 | .done,0,listed,a,w,inv,hB,hS,h=>⟨hB,h⟩
 | .done,f+1,listed,a,w,inv,hB,hS,h=>by cases hB
 | .q i r,0,listed,a,w,inv,hB,hS,h=>by cases hB
 | .w i r,0,listed,a,w,inv,hB,hS,h=>by cases hB
 | .w2 i ri j rj,0,listed,a,w,inv,hB,hS,h=>by cases hB
 | .q i r,f+1,listed,a,w,inv,hB,hS,h=>by
  simp only[Rk,bI,decide_eq_true_eq] at hB;obtain⟨⟨⟨hin,hr⟩,hf⟩,hB'⟩:=hB;have hr':i∈Region.ready md ops listed:=by simpa using hr
  have h0:ops[i]? =some (ops.getD i default):=by
   have:i<ops.size:=by omega
   simp[this]
  have next:∀v,YieldsIf P ops S (ops.getD i default) v a->mX P ops Q S T r (a.put (ops.getD i default).dst v) w->AnyM P md ops Q S n (fun listed' a' w'=>Region.seqB md ops g n listed'=true/\T a' w') (f+1) listed a w:=fun v hy hk=>
   xi h0 (Region.noSelect_spec hsel) (fun c a w=>hQ c _ _ a w) hs hc hn hin (fun listed' a' w' hL=>seqB_ready hL.1) f listed a w inv (Region.free_spec h0 hf) hr' hy hS
    (rJ hsel hs hc hn hQ r f _ _ w (inv.set hr' hin) hB' hS hk)
  simp only[mX] at h;by_cases hw:Region.wanted (ops.getD i default) (yielded ops a.tmps)=true
  ·rw[if_pos hw] at h;obtain⟨v,h1,h2⟩:=h;exact next v (.inl ⟨hw,h1⟩) h2
  ·rw[if_neg hw] at h;exact next undef (.inr ⟨by simpa using hw,rfl⟩) h
 | .w i r,f+1,listed,a,w,inv,hB,hS,h=>by
  simp only[Rk,bI,decide_eq_true_eq] at hB;obtain⟨⟨hin,hr⟩,hB'⟩:=hB;have hr':i∈Region.ready md ops listed:=by rw[hr];simp
  have h0:ops[i]? =some (ops.getD i default):=by
   have:i<ops.size:=by omega
   simp[this]
  refine⟨(fun h=>(by rw[h] at hr';cases hr')),fun j hj=>?_⟩;rw[hr] at hj;have:j=i:=by simpa using hj
  subst this;refine⟨hin,?_⟩;exact wpOp_mono (fun a' w' h'=>⟨h'.1,rJ hsel hs hc hn hQ r f _ _ w' (inv.set hr' hin) hB' h'.1 h'.2⟩) (xp h0 h)
 | .w2 i ri j rj,f+1,listed,a,w,inv,hB,hS,h=>by
  simp only[Rk,bI,decide_eq_true_eq] at hB;obtain⟨⟨⟨⟨hin,hjn⟩,hr⟩,hBi⟩,hBj⟩:=hB;have hri:i∈Region.ready md ops listed:=by rw[hr];simp
  have hrj:j∈Region.ready md ops listed:=by rw[hr];simp
  have h0:∀k,k<n->ops[k]? =some (ops.getD k default):=fun k hk=>by
   have:k<ops.size:=by omega
   simp[this]
  refine⟨(fun h=>(by rw[h] at hri;cases hri)),fun k hk=>?_⟩;rw[hr] at hk;rcases List.mem_cons.1 hk with rfl|hk
  ·refine⟨hin,?_⟩;exact wpOp_mono (fun a' w' h'=>⟨h'.1,rJ hsel hs hc hn hQ ri f _ _ w' (inv.set hri hin) hBi h'.1 h'.2⟩) (xp (h0 _ hin) h.1)
  ·have:k=j:=by simpa using hk
   subst this;refine⟨hjn,?_⟩;exact wpOp_mono (fun a' w' h'=>⟨h'.1,rJ hsel hs hc hn hQ rj f _ _ w' (inv.set hrj hjn) hBj h'.1 h'.2⟩) (xp (h0 _ hjn) h.2)
theorem aT{id:Nat}{a:Act}{w:World}{l:List Oper}(n:Nat)(t:MT)(S:World->Prop)(hm:P.follows .mixedOrders=true)(hB:Tq .any l.toArray n t=true)(hS:S w.drew)
  (h:mX P l.toArray (NoPanic Q) S (fun a' w'=>wpList P l.toArray (NoPanic Q) (l.drop n) a' w') t a w.drew): (Code.region id l.toArray true).wp P Q a w:=by
 simp only[Tq,bI,decide_eq_true_eq] at hB;obtain⟨⟨⟨⟨hsel,hn⟩,hs⟩,hc⟩,hmix⟩:=hB;have hn':n<l.length:=by simpa using hn
 have hdl: (l.drop n).length=l.toArray.size-n:=by simp
 have inv0:HeadInv .any l.toArray n (Array.replicate l.toArray.size false):=
  ⟨by simp,fun j oj _ hl=>(by rw[getD_replicate_false] at hl;cases hl),fun t _ ht=>getD_in (by simpa using ht) (getD_replicate_false _ _)⟩
 refine wp_region_noPanic ?_;have H:=rJ (Q:=NoPanic Q) (g:=l.toArray.size-n) (T:=fun a' w'=>wpList P l.toArray (NoPanic Q) (l.drop n) a' w') hsel hs hc hn (fun c d v a w h=>h.elim) t _ _ a w.drew inv0 hmix hS h;refine wp_region_any hm ?_;have:=qy (Q:=NoPanic Q) (g:=l.toArray.size-n) (fun listed a' w' hL=>by
  have:=wpAny_of_seq (md:= .any) (Q':=NoPanic Q) (l.drop n) n listed a' w' (fun j=>by simp[List.getElem?_drop]) (by rw[hdl];exact hL.1) hL.2
  rwa [hdl] at this) _ _ _ _ H
 rw[show n+(l.toArray.size-n)=l.toArray.size by omega] at this;exact this
section
variable {i j:Nat} {o:Oper} {r r':MT} {a:Act} {w:World} {T:Act->World->Prop} {l:List Oper}
theorem uT{l:List Oper}{i:Nat}{o:Oper}(h:l[i]? =some o):l.toArray.getD i default=o:=by simp[Array.getD_eq_getD_getElem?,h]
theorem fJ{v:Value}(ho:l[i]? =some o)(hw:Region.wanted o (yielded l.toArray a.tmps)=true)
  (h1:∀w',S w'->∀K:Result Next->Prop,Shut (K (.ok (.value v) w'))->K ((execOp a.eval o).run P w')) (h2:mX P l.toArray Q S T r (a.put o.dst v) w):mX P l.toArray Q S T (.q i r) a w:=by
 unfold mX;rw[uT ho,if_pos hw];exact⟨v,fun w' hS=>h1 w' hS (fun x=>x= .ok (.value v) w') rfl,h2⟩
theorem cO(ho:l[i]? =some o)(h:∀K:Act->World->Prop,Shut (∀a' w',S w'->mX P l.toArray Q S T r a' w'->K a' w')->wpList P l.toArray (jF K Q) [o] a w):mX P l.toArray Q S T (.w i r) a w:=by unfold mX;rw[uT ho];exact h _ (fun a' w' h1 h2=>⟨h1,h2⟩)
theorem zL{o':Oper}(ho:l[i]? =some o)(ho':l[j]? =some o')(h:∀K:Act->World->Prop,Shut (∀a' w',S w'->mX P l.toArray Q S T r a' w'->K a' w')->wpList P l.toArray (jF K Q) [o] a w)
  (h':∀K:Act->World->Prop,Shut (∀a' w',S w'->mX P l.toArray Q S T r' a' w'->K a' w')->wpList P l.toArray (jF K Q) [o'] a w):mX P l.toArray Q S T (.w2 i r j r') a w:=by
 unfold mX;rw[uT ho,uT ho'];exact⟨h _ (fun a' w' h1 h2=>⟨h1,h2⟩),h' _ (fun a' w' h1 h2=>⟨h1,h2⟩)⟩
theorem bY(h:T a w):mX P ops Q S T .done a w:=h
end
def MT.qs:List Nat->MT->MT
 | [],r=>r
 |i::l,r=> .q i (MT.qs l r)
end
end Go
namespace Go.Proofs.Yq
open ChangeShapes WideShapes ChangeAt RowKit Ev
open Tryz
noncomputable section
def aL(f:bX)(at_:ae)(gs:Nat):Array Value:=#[.int .i64 f.kind.val,.int .i64 f.src.val,.int .i64 f.boot.val,.int .i64 f.seq.val,.int .i64 f.stamp.val,.int .i64 f.dst.val,.int .i64 f.t1.val,.int .i64 f.t2.val,.int .i64 f.who.val,.int .i64 f.when_.val,.int .i64 f.cx.val,.int .i64 f.cy.val,.int .i64 f.pa.val,.int .i64 f.pb.val,.int .i64 f.pd.val,.int .i64 at_.val,.pointer (some ⟨gs,0,none⟩)]
theorem pN(f:bX)(at_:ae)(gs:Nat): (aL f at_ gs).size=17:=rfl
def bX.e(f:bX):bR:=(f.cx,f.cy,f.pa,f.pb,f.pd,())
theorem NX(f:bX)(at_:ae)(gs:Nat): (aL f at_ gs).extract 10 15=aB f.e:=by simp[aL,aB,bX.e]
theorem Gb(f:bX)(at_:ae)(gs:Nat): (aL f at_ gs).extract 0 15=aD f.s:=by simp[aL,aD,bX.s]
def uk(x:ak)(f:bX)(now:ae):ak:=
 if f.who.val=x.id.val then(if (uS x f.e f.when_ now).2.val=0 then{x with f:=(gX x.f (uS x f.e f.when_ now).1).2} else x)
 else if (bJ x.t.ents f.who.val).isSome then mU x f.who.val f.e f.when_ now else x
theorem Rl(g gs:Nat)(x:ak)(now fine:ae)(outs:List (bX×ae))(F:Nat->Prop)(w:World)(f:bX)(at_:ae)(h: (cq g x now fine outs).rep gs F w):Calls prog 203 #[.pointer (some ⟨g,0,none⟩),.agg (aL f at_ gs)] w fun r w'=>r= .returned (.tuple #[])/\kE (cq g (uk x f now) now fine outs) gs F w w':=by
 obtain⟨y,hy⟩:∃y,y=uk x f now:=⟨_,rfl⟩;rw[<-hy];obtain⟨v,h⟩:=h;obtain⟨a,h0,M⟩:=ic (A:=[(w.heap.size,.row (aL f at_ gs)),(gs,.row (aN g now fine v)),(0,.own 163 16 aM v outs)]) (Mem.start h).alloc;have H0:=qD h0;have M0:Hid (Mem w F ([(w.heap.size,.row (aL f at_ gs)),(gs,.row (aN g now fine v)),(0,.own 163 16 aM v outs)]++aK x a g) (w.alloc (.cells (aL f at_ gs) 237))):=M;clear h h0 M;generalize hgh:w.heap.size=gh at M0;have HY:=qD hy;unfold uk at HY;clear hy;have he:=NX f at_ gs;have hsz:=pN f at_ gs;go_enter func203,ntmps203;go_upto_region 1 with(fail);generalize (w.alloc (.cells (aL f at_ gs) 237))=w1 at*;clear hgh;have e8:w1.cell? ⟨gh,8,none⟩=some (.int .i64 f.who.val):=M0.o.cell (i:=0) (k:=8) rfl rfl;have c11:w1.cell? ⟨g,11,none⟩=some (.int .i64 x.id.val):=pW M0.o (i:=3) rfl;have l1:=ab (M0.o.row (i:=0) rfl);have l2:=ab (M0.o.row (i:=3) rfl);by_cases hwx:f.who.val=x.id.val
 ·have HY2:Hid (y=if (uS x f.e f.when_ now).2.val=0 then{x with f:=(gX x.f (uS x f.e f.when_ now).1).2} else x):=by show _=_;rw[HY.o,if_pos hwx]
  have hb1: (f.who.val==x.id.val)=true:=by simpa using hwx
  clear HY hwx;refine aY ?_
  repeat quiet_step (fail)
  refine wpQuiet_nil ?_;intro w2 hb2;have M2:=qD (M0.o.below hb2);clear M0 e8 c11 l1 l2 hb2 hb1;have HA:=qD (fun(w':World) (hb:Below w2.heap.size w2 w')=>by obtain⟨F',hF⟩:=NK H0.o (M2.o.below hb);exact F8 x g F' w' f.e f.when_ now hF);generalize uS x f.e f.when_ now=q at HY2 HA;obtain⟨q,qe⟩:=q;have hz:=gK;go_upto_region 2 with(fail)
  go_cut [4,5] from 16 (fun p e wr=>∃b,p= .pointer (some ⟨b,0,none⟩)/\e= .int .i64 qe.val/\Hid (Mem w F ([(b,.row (aB q)),(gh,.row (aL f at_ gs)),(gs,.row (aN g now fine v)),(0,.own 163 16 aM v outs)]++aK x a g) wr))
  case first=>
   clear HY2;refine aT 18 (.qs [0,1,2,3,4,5,6,7,8,9,10,11] (.w2 12 (.qs [13,14,15] (.w 16 (.w 17 .done))) 16 (.w 12 (.qs [13,14,15] (.w 17 .done))))) (fun w'=>Mem w F ([(gh,.row (aL f at_ gs)),(gs,.row (aN g now fine v)),(0,.own 163 16 aM v outs)]++aK x a g) w') (by kernel_rfl) (by kernel_rfl) (M2.o.below (Below.drew (bZ _ _))) ?_;have M3:Hid (Mem w F ([(gh,.row (aL f at_ gs)),(gs,.row (aN g now fine v)),(0,.own 163 16 aM v outs)]++aK x a g) w2.drew):=M2.o.below (Below.drew (bZ _ _));have HA2:=qD (fun w' hb=>HA.o w' ((Below.drew (bZ _ _)).trans hb));have HS3:Hid (w2.heap.size<=w2.drew.heap.size):=(Below.drew (bZ w2.heap.size w2)).size;generalize w2.drew=w3 at*;clear M2 HA;simp only[MT.qs,tC,tE]
   iterate 12 (refine fJ rfl rfl (by rintro w' hM K hK;have e9:w'.cell? ⟨gh,9,none⟩=some (.int .i64 f.when_.val):=hM.cell (i:=0) (k:=9) rfl rfl;have e16:w'.cell? ⟨gh,16,none⟩=some (.pointer (some ⟨gs,0,none⟩)):=hM.cell (i:=0) (k:=16) rfl rfl;have d1:w'.cell? ⟨gs,1,none⟩=some (.int .i64 now.val):=hM.cell (i:=1) (k:=1) rfl rfl;have e0:=hM.row (i:=0) rfl;clear hM;go_simp;exact hK.o) ?_)
   refine zL rfl rfl (fun K hK=>?_) (fun K hK=>?_)
   ·go_wp2_with (go_at_call 256;refine Mem.qB (HA2.o w3 (bZ _ _)) M3.o fun w4 M4=>?_;clear HA2 M3);refine hK.o _ _ M4.o ?_;clear hK
    iterate 3 (refine fJ rfl rfl (by rintro w' hM K hK;clear hM;go_simp;exact hK.o) ?_)
    refine cO rfl (fun K hK=>?_);have M5:=qD (Mem.alloc (cs:=aB bc) (t:=37) M4.o);have Z5:=M5.o.row (i:=0) rfl;go_wp2;refine hK.o _ _ M5.o.au ?_;clear hK;have M6:=M5;have Z6:=Z5;clear M5 Z5 M4;generalize w4.heap.size=bk at M6 Z6 ⊢;generalize (w4.alloc (.cells (aB bc) 37))=w6 at*;refine cO rfl (fun K hK=>?_);have M7:Hid (Mem w F ([(bk,.row (aB q)),(gh,.row (aL f at_ gs)),(gs,.row (aN g now fine v)),(0,.own 163 16 aM v outs)]++aK x a g) (w6.setCells bk 0 (aB q).toList)):=M6.o.bC (i:=0) (cs':=aB q) rfl (by simp[cc]);go_wp2;refine hK.o _ _ M7.o.au ?_;clear hK;refine bY ?_;go_wp2;refine NoPanic.normal ?_;go_wp2;go_meet
    case rel=>exact⟨_,rfl,rfl,M7⟩
   ·have M5:=qD (Mem.alloc (cs:=aB bc) (t:=37) M3.o);go_wp2;refine hK.o _ _ M5.o.au ?_;clear hK;have HA3:=qD (HA2.o (w3.alloc (.cells (aB bc) 37)) ((bZ _ _).alloc HS3.o _));generalize w3.heap.size=bk at M5 ⊢;generalize (w3.alloc (.cells (aB bc) 37))=w4 at*;clear M3 HA2;refine cO rfl (fun K hK=>?_);go_wp2_with (go_at_call 256;refine Mem.qB HA3.o M5.o fun w6 M6=>?_;clear HA3 M5);refine hK.o _ _ M6.o.au ?_;clear hK
    iterate 3 (refine fJ rfl rfl (by rintro w' hM K hK;clear hM;go_simp;exact hK.o) ?_)
    have Z6:=M6.o.row (i:=0) rfl;refine cO rfl (fun K hK=>?_);have M7:Hid (Mem w F ([(bk,.row (aB q)),(gh,.row (aL f at_ gs)),(gs,.row (aN g now fine v)),(0,.own 163 16 aM v outs)]++aK x a g) (w6.setCells bk 0 (aB q).toList)):=M6.o.bC (i:=0) (cs':=aB q) rfl (by simp[cc]);go_wp2;refine hK.o _ _ M7.o.au ?_;clear hK;refine bY ?_;go_wp2;refine NoPanic.normal ?_;go_wp2;go_meet
    case rel=>exact⟨_,rfl,rfl,M7⟩
  case rest=>
   obtain⟨b,rfl,rfl,M7⟩:=hcut;clear M2 HA;have HFM:Hid (∀w g',w.aI g'=some (gj x.f)->Calls prog 260 #[.pointer (some ⟨g',0,none⟩),.agg (aB q)] w fun e w'=>e= .returned (.int .i64 (gX x.f q).1.val)/\w'.aI g'=some (gj (gX x.f q).2)/\bN (fun y=>y=g') w w'):=fun w g' hb=>by have key:=FR g' w x.f q hb;generalize gX x.f q=r at key ⊢;exact key
   have HY3:Hid (y=if qe.val=0 then{x with f:=(gX x.f q).2} else x):=HY2;clear HY2;generalize gX x.f q=mf at HFM HY3;obtain⟨me,mf⟩:=mf;by_cases hq:qe.val=0
   ·have HY4:Hid (y= {x with f:=mf}):=by show _=_;rw[HY3.o,if_pos hq]
    have hq2: (qe.val==0)=true:=by simpa using hq
    have hq3: (qe.val != 0)=false:=by simpa using hq
    clear HY3 hq;go_upto_region 4 with(fail);have c13:wc.cell? ⟨g,13,none⟩=some (.pointer (some ⟨a.f,0,none⟩)):=NI M7.o (i:=4) rfl;have k7:=M7.o.row (i:=0) rfl;have l7:=ab k7;have l8:=ab (M7.o.row (i:=4) rfl);refine ar 5 ?_;simp only[tA,tD,tC,tE]
    repeat quiet_step (fail)
    refine wpQuiet_nil ?_;intro w8 hb8;have M8:=qD (M7.o.below hb8);have HC:=qD (M8.o.fY (i:=5) rfl (fun hb=>HFM.o w8 a.f hb));clear M7 c13 k7 l7 l8 hb8 HFM;go_wp2_with (go_at_call 260;refine qHG HC.o fun w9 M9=>?_);have M10:Hid (Mem w F ([(b,.row (aB q)),(gh,.row (aL f at_ gs)),(gs,.row (aN g now fine v)),(0,.own 163 16 aM v outs)]++aK {x with f:=mf} a g) w9):=M9;exact bodyPost_ret (results_none (fn:=Tryz.f203) rfl _ _ _) rfl ⟨rfl,by rw[HY4.o];exact(dO H0.o M10.o.au.au).kF fun F' hF=>⟨v,hF⟩⟩
   ·have HY4:Hid (y=x):=by show _=_;rw[HY3.o,if_neg hq]
    have hq2: (qe.val==0)=false:=by simpa using hq
    have hq3: (qe.val != 0)=true:=by simpa using hq
    clear HY3 hq HFM;go_wp2;exact bodyPost_ret (results_none (fn:=Tryz.f203) rfl _ _ _) rfl ⟨rfl,by rw[HY4.o];exact(dO H0.o M7.o.au.au).kF fun F' hF=>⟨v,hF⟩⟩
 ·have hb1: (f.who.val==x.id.val)=false:=by simpa using hwx
  have HY2:Hid (y=if (bJ x.t.ents f.who.val).isSome then mU x f.who.val f.e f.when_ now else x):=by show _=_;rw[HY.o,if_neg hwx]
  clear HY hwx;refine aY ?_
  repeat quiet_step (fail)
  refine wpQuiet_nil ?_;intro w2 hb2;have M2:=qD (M0.o.below hb2);clear M0 e8 c11 l1 l2 hb2 hb1;have HG:Hid (∀w',Below w2.heap.size w2 w'->Calls prog 148 #[.pointer (some ⟨a.t,0,none⟩),.int .i64 f.who.val] w' fun e w''=>e= .returned (.tuple #[.agg (aJ (Du x f.who)),.bool (bJ x.t.ents f.who.val).isSome])/\Below w'.heap.size w' w''):=fun w' hb=>by obtain⟨F1,hF1⟩:=(M2.o.below hb).rep (i:=5) rfl;exact A9 x.t a.t F1 w' f.who.val hF1
  have HP:Hid (∀w' F',(aO x).rep g F' w'->Calls prog 202 #[.pointer (some ⟨g,0,none⟩),.int .i64 f.who.val,.agg (aB f.e),.int .i64 f.when_.val,.int .i64 now.val] w' fun r w''=>r= .returned (.tuple #[])/\kE (aO (mU x f.who.val f.e f.when_ now)) g F' w' w''):=fun w' F' hF=>Il x g F' w' f.who.val f.e f.when_ now hF;generalize mU x f.who.val f.e f.when_ now=x2 at HP HY2;generalize Du x f.who=q at HG;generalize (bJ x.t.ents f.who.val).isSome=ib at HG HY2;have hz:=ew;go_upto_region 5 with(fail)
  go_cut [6,7] from 40 (fun p e wr=>e= .bool ib/\Hid (Mem w F ([(gh,.row (aL f at_ gs)),(gs,.row (aN g now fine v)),(0,.own 163 16 aM v outs)]++aK x a g) wr))
  case first=>
   clear HY2 HP;refine aT 13 (.qs [0,1,2,3,4,5,6] (.w2 7 (.qs [8,9,10] (.w 11 (.w 12 .done))) 11 (.w 7 (.qs [8,9,10] (.w 12 .done))))) (fun w'=>Mem w F ([(gh,.row (aL f at_ gs)),(gs,.row (aN g now fine v)),(0,.own 163 16 aM v outs)]++aK x a g) w') (by kernel_rfl) (by kernel_rfl) (M2.o.below (Below.drew (bZ _ _))) ?_;have M3:Hid (Mem w F ([(gh,.row (aL f at_ gs)),(gs,.row (aN g now fine v)),(0,.own 163 16 aM v outs)]++aK x a g) w2.drew):=M2.o.below (Below.drew (bZ _ _));have HG2:=qD (fun w' hb=>HG.o w' ((Below.drew (bZ _ _)).trans hb));have HS3:Hid (w2.heap.size<=w2.drew.heap.size):=(Below.drew (bZ w2.heap.size w2)).size;generalize w2.drew=w3 at*;clear M2 HG;simp only[MT.qs,tC,tE]
   iterate 7 (refine fJ rfl rfl (by rintro w' hM K hK;have c14:w'.cell? ⟨g,14,none⟩=some (.pointer (some ⟨a.t,0,none⟩)):=tg hM (i:=3) rfl;have e8:w'.cell? ⟨gh,8,none⟩=some (.int .i64 f.who.val):=hM.cell (i:=0) (k:=8) rfl rfl;clear hM;go_simp;exact hK.o) ?_)
   refine zL rfl rfl (fun K hK=>?_) (fun K hK=>?_)
   ·go_wp2_with (go_at_call 148;refine Mem.qB (HG2.o w3 (bZ _ _)) M3.o fun w4 M4=>?_;clear HG2 M3);refine hK.o _ _ M4.o ?_;clear hK
    iterate 3 (refine fJ rfl rfl (by rintro w' hM K hK;clear hM;go_simp;exact hK.o) ?_)
    refine cO rfl (fun K hK=>?_);have M6:=qD (Mem.alloc (cs:=aJ cr) (t:=50) M4.o);have Z6:=M6.o.row (i:=0) rfl;go_wp2;refine hK.o _ _ M6.o.au ?_;clear hK M4;generalize w4.heap.size=bk at M6 Z6 ⊢;generalize (w4.alloc (.cells (aJ cr) 50))=w6 at*;refine cO rfl (fun K hK=>?_);have M7:Hid (Mem w F ([(bk,.row (aJ q)),(gh,.row (aL f at_ gs)),(gs,.row (aN g now fine v)),(0,.own 163 16 aM v outs)]++aK x a g) (w6.setCells bk 0 (aJ q).toList)):=M6.o.bC (i:=0) (cs':=aJ q) rfl (by simp[bo]);go_wp2;refine hK.o _ _ M7.o.au ?_;clear hK;refine bY ?_;go_wp2;refine NoPanic.normal ?_;go_wp2;go_meet
    case rel=>exact⟨rfl,M7.o.au⟩
   ·have M5:=qD (Mem.alloc (cs:=aJ cr) (t:=50) M3.o);go_wp2;refine hK.o _ _ M5.o.au ?_;clear hK;have HG3:=qD (HG2.o (w3.alloc (.cells (aJ cr) 50)) ((bZ _ _).alloc HS3.o _));generalize w3.heap.size=bk at M5 ⊢;generalize (w3.alloc (.cells (aJ cr) 50))=w4 at*;clear M3 HG2;refine cO rfl (fun K hK=>?_);go_wp2_with (go_at_call 148;refine Mem.qB HG3.o M5.o fun w6 M6=>?_;clear HG3 M5);refine hK.o _ _ M6.o.au ?_;clear hK
    iterate 3 (refine fJ rfl rfl (by rintro w' hM K hK;clear hM;go_simp;exact hK.o) ?_)
    have Z6:=M6.o.row (i:=0) rfl;refine cO rfl (fun K hK=>?_);have M7:Hid (Mem w F ([(bk,.row (aJ q)),(gh,.row (aL f at_ gs)),(gs,.row (aN g now fine v)),(0,.own 163 16 aM v outs)]++aK x a g) (w6.setCells bk 0 (aJ q).toList)):=M6.o.bC (i:=0) (cs':=aJ q) rfl (by simp[bo]);go_wp2;refine hK.o _ _ M7.o.au ?_;clear hK;refine bY ?_;go_wp2;refine NoPanic.normal ?_;go_wp2;go_meet
    case rel=>exact⟨rfl,M7.o.au⟩
  case rest=>
   obtain⟨rfl,M7⟩:=hcut;clear M2 HG;cases ib with
   |false=>
    have HY3:Hid (y=x):=by show _=_;rw[HY2.o];simp
    clear HY2 HP;go_wp2;exact bodyPost_end (results_none (fn:=Tryz.f203) rfl _ _ _) rfl ⟨rfl,by rw[HY3.o];exact(dO H0.o M7.o.au).kF fun F' hF=>⟨v,hF⟩⟩
   |true=>
    have HY3:Hid (y=x2):=by show _=_;rw[HY2.o,if_pos rfl]
    clear HY2;go_upto_region 7 with(fail);have e8:wc.cell? ⟨gh,8,none⟩=some (.int .i64 f.who.val):=M7.o.cell (i:=0) (k:=8) rfl rfl;have e9:wc.cell? ⟨gh,9,none⟩=some (.int .i64 f.when_.val):=M7.o.cell (i:=0) (k:=9) rfl rfl;have e16:wc.cell? ⟨gh,16,none⟩=some (.pointer (some ⟨gs,0,none⟩)):=M7.o.cell (i:=0) (k:=16) rfl rfl;have d1:wc.cell? ⟨gs,1,none⟩=some (.int .i64 now.val):=M7.o.cell (i:=1) (k:=1) rfl rfl;have e0:=M7.o.row (i:=0) rfl;have l1:=ab e0;have l2:=ab (M7.o.row (i:=1) rfl);refine ar 15 ?_;simp only[tA,tD,tC,tE]
    repeat quiet_step (fail)
    refine wpQuiet_nil ?_;intro w8 hb8;have M8:=qD (dO H0.o (M7.o.below hb8).au);have HC:=qD (M8.o.bD (i:=2) rfl (fun F1 hF=>HP.o w8 F1 hF));clear M7 e8 e9 e16 d1 e0 l1 l2 hb8 HP;go_wp2_with (go_at_call 202;refine qHG HC.o fun w9 M9=>?_);have M10:Hid (Mem w F ([(gs,.row (aN g now fine v)),(0,.own 163 16 aM v outs)]++ [(g,aO x2)]) w9):=M9;exact bodyPost_end (results_none (fn:=Tryz.f203) rfl _ _ _) rfl ⟨rfl,by rw[HY3.o];exact M10.o.kF fun F' hF=>⟨v,hF⟩⟩
theorem rK{A:List (Nat×aj)}{x:ak}{a:ek}{g k b:Nat}{s:dB}(hs:x.s[k]? =some s)(ha:a.s[k]? =some b): (A++aK x a g)[A.length+(k+5)]? =some (b,.row (iK s)):=by rw[List.getElem?_append_right (Nat.le_add_right _ _),Nat.add_sub_cancel_left];exact zI hs ha
theorem oR{A:List (Nat×aj)}{x:ak}{a:ek}{g k b:Nat}{s:dB}(ha:a.s[k]? =some b): (A++aK x a g).set (A.length+(k+5)) (b,.row (iK s))=A++aK {x with s:=x.s.set k s} a g:=by rw[List.set_append_right _ _ (Nat.le_add_right _ _),Nat.add_sub_cancel_left,zJ ha]
def k3:ae:=⟨3,by decide⟩
def k4:ae:=⟨4,by decide⟩
def zM(f:bX):bX:={bW with kind:=k3,dst:=f.src,t1:=p8 f.s}
def um(f:bX)(r a:ae):bX:={bW with kind:=k4,dst:=f.src,t1:=r,t2:=a,when_:=p8 f.s}
theorem J3(f:bX)(w:World): (Instr.build 161 #[(0,.int .i64 3),(5,.int .i64 f.src.val),(6,.int .i64 (p8 f.s).val)]).run prog w= .ok (.agg (aD (zM f).s)) w:=by kernel_rfl
def oS(x:ak)(k:ae):dB:=(x.s[k.val.toNat]?).getD gG
def dU(x:ak)(k:ae)(s:dB):ak:={x with s:=x.s.set k.val.toNat s}
def NY(x:ak)(f:bX)(at_ now fine:ae):ak:=
 if kg (dU x f.src (eB (oS x f.src) at_ f.stamp)) then dU (aeT (dU x f.src (eB (oS x f.src) at_ f.stamp))) f.src (iZ (eB (oS x f.src) at_ f.stamp) fine (mV (dU x f.src (eB (oS x f.src) at_ f.stamp)) now (zM f))).2 else aeT (dU x f.src (eB (oS x f.src) at_ f.stamp))
def NZ(x:ak)(f:bX)(at_ now fine:ae):List (bX×ae):=dA (dU x f.src (eB (oS x f.src) at_ f.stamp)) now fine (zM f)
theorem N0(g gs:Nat)(x:ak)(now fine:ae)(outs:List (bX×ae))(F:Nat->Prop)(w:World)(f:bX)(at_:ae)(hi:cw x)(hkd:f.kind.val=2)(hlo:0<=f.src.val)(hhi:f.src.val<64)(hl:outs.length<=1000)(h: (cq g x now fine outs).rep gs F w):Calls prog 204 #[.pointer (some ⟨g,0,none⟩),.agg (aL f at_ gs)] w fun r w'=>r= .returned (.tuple #[])/\kE (cq g (NY x f at_ now fine) now fine (outs++NZ x f at_ now fine)) gs F w w':=by
 obtain⟨y,hy⟩:∃y,y=NY x f at_ now fine:=⟨_,rfl⟩;obtain⟨os,hos⟩:∃os,os=outs++NZ x f at_ now fine:=⟨_,rfl⟩;rw[<-hy,<-hos];obtain⟨v,h⟩:=h;obtain⟨a,h0,M⟩:=ic (A:=[(w.heap.size,.row (aL f at_ gs)),(gs,.row (aN g now fine v)),(0,.own 163 16 aM v outs)]) (Mem.start h).alloc;have H0:=qD h0;have M0:Hid (Mem w F ([(w.heap.size,.row (aL f at_ gs)),(gs,.row (aN g now fine v)),(0,.own 163 16 aM v outs)]++aK x a g) (w.alloc (.cells (aL f at_ gs) 237))):=M;obtain⟨kn,hkn⟩:∃kn:Nat,f.src.val=kn:=⟨f.src.val.toNat,by omega⟩;have hk64:kn<64:=by omega
 obtain⟨sb,hsb⟩:∃sb,a.s[kn]? =some sb:=⟨_,gE (by omega)⟩;obtain⟨ss,hss⟩:∃ss,x.s[kn]? =some ss:=⟨_,gE (by have:=hi.s;omega)⟩;have HSK:Hid (oS x f.src=ss):=by show _=_;unfold oS;rw[hkn,Int.toNat_natCast,hss];rfl
 have HWS:Hid (∀(z:ak) s,dU z f.src s= {z with s:=z.s.set kn s}):=fun z s=>by unfold dU;rw[hkn,Int.toNat_natCast]
 have HSA:=qD hsb;have HSS:=qD hss;have HL:=qD hl;have HY:=qD hy;have HOS:=qD hos;have HKD:Hid (f.kind.val=2):=hkd;have HKN:=qD hkn;have n1: (kn:Int)<64:=by omega
 have n0: (0:Int)<=kn:=by omega
 clear h h0 M hsb hss hl hy hos hi hkd hlo hhi hkn;generalize hgh:w.heap.size=gh at M0;have hef:=Gb f at_ gs;have hsz:=pN f at_ gs;go_enter func204,ntmps204;go_upto_region 1 with(fail);generalize (w.alloc (.cells (aL f at_ gs) 237))=w1 at*;clear hgh;have M3:Hid (Mem w F ([(gh,.row (aL f at_ gs)),(gs,.row (aN g now fine v)),(0,.own 163 16 aM v outs)]++aK x a g) w1.drew):=M0.o.below (Below.drew (bZ _ _));refine aT 12 (.qs [0,1,2,3,4,5,6,7,8,9] (.w 10 (.w 11 .done))) (fun w'=>Mem w F ([(gh,.row (aL f at_ gs)),(gs,.row (aN g now fine v)),(0,.own 163 16 aM v outs)]++aK x a g) w') (by kernel_rfl) (by kernel_rfl) M3.o ?_;generalize w1.drew=w3 at*;clear M0;simp only[MT.qs,tC,tE]
 iterate 10 (refine fJ rfl rfl (by rintro w' hM K hK;have e1:w'.cell? ⟨gh,1,none⟩=some (.int .i64 f.src.val):=hM.cell (i:=0) (k:=1) rfl rfl;rw[HKN.o] at e1;have e0:=hM.row (i:=0) rfl;have c15:=Rj hM (i:=3) rfl H0.o hk64 HSA.o;clear hM;go_simp;exact hK.o) ?_)
 refine cO rfl (fun K hK=>?_);have M4:=qD (Mem.alloc (cs:=aD bW.s) (t:=161) M3.o);have Z4:=M4.o.row (i:=0) rfl;have hz:=eI;go_wp2;refine hK.o _ _ M4.o.au ?_;clear hK M3;generalize w3.heap.size=gm at M4 Z4 ⊢;generalize (w3.alloc (.cells (aD bW.s) 161))=w4 at*;refine cO rfl (fun K hK=>?_);have M5:Hid (Mem w F ([(gm,.row (aD f.s)),(gh,.row (aL f at_ gs)),(gs,.row (aN g now fine v)),(0,.own 163 16 aM v outs)]++aK x a g) (w4.setCells gm 0 (aD f.s).toList)):=M4.o.bC (i:=0) (cs':=aD f.s) rfl (by simp[bG]);go_wp2;refine hK.o _ _ M5.o.au ?_;clear hK;refine bY ?_;go_wp2;refine NoPanic.normal ?_;generalize (w4.setCells gm 0 (aD f.s).toList)=w5 at*;clear M4 Z4 hz;have e6:w5.cell? ⟨gm,0,none⟩=some (.int .i64 f.kind.val):=M5.o.cell (i:=0) (k:=0) rfl rfl;rw[HKD.o] at e6;obtain⟨sp,hsp⟩:∃sp,sp=eB ss at_ f.stamp:=⟨_,rfl⟩;obtain⟨x1,hx1⟩:∃x1,x1=dU x f.src sp:=⟨_,rfl⟩;have HX1:Hid (x1= {x with s:=x.s.set kn sp}):=by show _=_;rw[hx1,HWS.o]
 have HY2:Hid (y=if kg x1 then dU (aeT x1) f.src (iZ sp fine (mV x1 now (zM f))).2 else aeT x1):=by show _=_;rw[hx1,hsp,HY.o];unfold NY;rw[HSK.o]
 have HO2:Hid (os=outs++dA x1 now fine (zM f)):=by show _=_;rw[hx1,hsp,HOS.o];unfold NZ;rw[HSK.o]
 clear HY HOS HSK;have e14:w5.cell? ⟨gh,15,none⟩=some (.int .i64 at_.val):=M5.o.cell (i:=1) (k:=15) rfl rfl;have e4:w5.cell? ⟨gm,4,none⟩=some (.int .i64 f.stamp.val):=M5.o.cell (i:=0) (k:=4) rfl rfl;have HC:Hid (Calls prog 261 #[.pointer (some ⟨sb,0,none⟩),.int .i64 at_.val,.int .i64 f.stamp.val] w5 fun e w'=>e= .returned (.tuple #[])/\Mem w F ([(gm,.row (aD f.s)),(gh,.row (aL f at_ gs)),(gs,.row (aN g now fine v)),(0,.own 163 16 aM v outs)]++aK x1 a g) w'):=by have key:=M5.o.fY (i:=4+(kn+5)) (P:=prog) (f:=261) (rK (A:=[(gm,.row (aD f.s)),(gh,.row (aL f at_ gs)),(gs,.row (aN g now fine v)),(0,.own 163 16 aM v outs)]) HSS.o HSA.o) (fun hb=>xV sb w5 ss at_ f.stamp hb);rw[<-hsp] at key;rw[HX1.o];refine key.mono ?_;rintro e w' ⟨h1,h2⟩;refine⟨h1,?_⟩;have h3:=oR (A:=[(gm,.row (aD f.s)),(gh,.row (aL f at_ gs)),(gs,.row (aN g now fine v)),(0,.own 163 16 aM v outs)]) (x:=x) (g:=g) (s:=sp) HSA.o;rw[<-h3];exact h2
 clear hsp hx1;go_upto_region 5 with(go_at_call 261;refine qHG HC.o fun w6 M6=>?_);clear HC M5 e14 e4 e6;have HSB:Hid (x1.s[kn]? =some sp):=by show _=_;rw[HX1.o];simp[(gS.1 HSS.o).1]
 obtain⟨fr,hfr⟩:∃fr,fr=zM f:=⟨_,rfl⟩;rw[<-hfr] at HY2 HO2;have HFR:=qD hfr;clear hfr;have HBD:Hid (∀w,(Instr.build 161 #[(0,.int .i64 3),(5,.int .i64 f.src.val),(6,.int .i64 (p8 f.s).val)]).run prog w= .ok (.agg (aD fr.s)) w):=by show ∀w,_;rw[HFR.o];exact J3 f
 have HMK:=qD (Bc f.s);have M7:Hid (Mem w F [(gm,.row (aD f.s)),(gh,.row (aL f at_ gs)),(gs,Dr g x1 a now fine outs)] w6.drew):=Mem.fold (A:=[(gm,.row (aD f.s)),(gh,.row (aL f at_ gs))]) (p:=(gs,Dr g x1 a now fine outs)) (M6.o.below (Below.drew (bZ _ _))) (fun F hF=>⟨v,hF⟩);refine aT 12 (.qs [0,1,2,3,4] (.w 5 (.q 6 (.w 7 (.qs [8,9,10,11] .done))))) (fun w'=>w'.aI gm=some (aD f.s)/\w'.aI gh=some (aL f at_ gs)) (by kernel_rfl) (by kernel_rfl) ⟨M7.o.row (i:=0) rfl,M7.o.row (i:=1) rfl⟩ ?_;generalize w6.drew=w7 at*;clear M6;simp only[MT.qs,tC,tE]
 iterate 5 (refine fJ rfl rfl (by rintro w' ⟨r1,r2⟩ K hK;have e16:w'.cell? ⟨gh,16,none⟩=some (.pointer (some ⟨gs,0,none⟩)):=(ao r2 16).trans rfl;have e1:w'.cell? ⟨gm,1,none⟩=some (.int .i64 f.src.val):=(ao r1 1).trans rfl;go_simp;exact hK.o) ?_)
 refine cO rfl (fun K hK=>?_);go_wp2_with (go_at_call 146;refine Mem.qB (HMK.o _) M7.o fun w8 M8=>?_;clear M7);refine hK.o _ _ ⟨M8.o.row (i:=0) rfl,M8.o.row (i:=1) rfl⟩ ?_;clear hK HMK;refine fJ (v:= .agg (aD fr.s)) rfl rfl (by rintro w' ⟨r1,r2⟩ K hK;exact Eq.mpr (congrArg K (by rw[HFR.o];kernel_rfl)) hK.o) ?_;have HC:Hid (Calls prog 105 #[.pointer (some ⟨gs,0,none⟩),.agg (aD fr.s)] w8 fun e w'=>e= .returned (.tuple #[.int .i64 (mV x1 now fr).val,.bool (kg x1)])/\Mem w F [(gm,.row (aD f.s)),(gh,.row (aL f at_ gs)),(gs,Dr g (aeT x1) a now fine os)] w'):=by have key:=Mem.bD (P:=prog) (f:=105) (args:=#[.pointer (some ⟨gs,0,none⟩),.agg (aD fr.s)]) M8.o (i:=2) (g:=gs) rfl (fun F1 hF=>Ds g gs x1 a H0.o now fine outs F1 w8 fr HL.o hF);rw[<-HO2.o] at key;exact key
 have HXS:Hid ((aeT x1).s=x1.s):=Iq x1;generalize aeT x1=x2 at HC HY2 HXS;generalize mV x1 now fr=mk at HC HY2;generalize kg x1=sb2 at HC HY2;clear HO2 HBD;refine cO rfl (fun K hK=>?_);simp only[Act.put,List.setIfInBounds_toArray,List.set_cons_succ,List.set_cons_zero];go_wp2_with (go_at_call 105;refine qHG HC.o fun w9 M9=>?_);have M10:Hid (Mem w F [(gm,.row (aD f.s)),(gh,.row (aL f at_ gs)),(gs,Dr g x2 a now fine os)] w9):=M9;refine hK.o _ _ ⟨M10.o.row (i:=0) rfl,M10.o.row (i:=1) rfl⟩ ?_;clear hK HC M8 M9
 iterate 4 (refine fJ rfl rfl (by rintro w' ⟨r1,r2⟩ K hK;go_simp;exact hK.o) ?_)
 refine bY ?_;go_wp2;refine NoPanic.normal ?_;cases sb2 with
 |false=>
  have HY3:Hid (y=x2):=by show _=_;rw[HY2.o];simp
  clear HY2;go_wp2;exact bodyPost_end (results_none (fn:=Tryz.f204) rfl _ _ _) rfl ⟨rfl,by rw[HY3.o];exact Mem.xW (Mem.No M10.o.au.au fun F' hF=>⟨F',by obtain⟨G1,G2,q1,q2⟩:=hF;exact⟨G1,G2,NO H0.o q1,q2⟩,fun x hx=>hx⟩)⟩
 |true=>
  obtain⟨F1,⟨v3,hv⟩,h2⟩:=Mem.unfold (A:=[(gm,.row (aD f.s)),(gh,.row (aL f at_ gs))]) M10.o;have M11:Hid (Mem w F ([(gm,.row (aD f.s)),(gh,.row (aL f at_ gs)),(gs,.row (aN g now fine v3)),(0,.own 163 16 aM v3 os)]++aK x2 a g) w9):=h2 _ hv;have HY3:Hid (y= {x2 with s:=x2.s.set kn (iZ sp fine mk).2}):=by show _=_;rw[HY2.o,if_pos rfl,HWS.o]
  have HSS2:Hid (x2.s[kn]? =some sp):=by show _=_;rw[HXS.o];exact HSB.o
  have d2:w9.cell? ⟨gs,2,none⟩=some (.int .i64 fine.val):=M11.o.cell (i:=2) (k:=2) rfl rfl;have e16:w9.cell? ⟨gh,16,none⟩=some (.pointer (some ⟨gs,0,none⟩)):=M11.o.cell (i:=1) (k:=16) rfl rfl;have HC:Hid (Calls prog 262 #[.pointer (some ⟨sb,0,none⟩),.int .i64 fine.val,.int .i64 mk.val] w9 fun e w'=>e= .returned (.bool (iZ sp fine mk).1)/\Mem w F ([(gm,.row (aD f.s)),(gh,.row (aL f at_ gs)),(gs,.row (aN g now fine v3)),(0,.own 163 16 aM v3 os)]++aK y a g) w'):=by have key:=M11.o.fY (i:=4+(kn+5)) (P:=prog) (f:=262) (rK (A:=[(gm,.row (aD f.s)),(gh,.row (aL f at_ gs)),(gs,.row (aN g now fine v3)),(0,.own 163 16 aM v3 os)]) HSS2.o HSA.o) (fun hb=>FP sb w9 sp fine mk hb);rw[HY3.o];generalize iZ sp fine mk=rr at key ⊢;refine key.mono ?_;rintro e w' ⟨h1,h2⟩;refine⟨h1,?_⟩;have h3:=oR (A:=[(gm,.row (aD f.s)),(gh,.row (aL f at_ gs)),(gs,.row (aN g now fine v3)),(0,.own 163 16 aM v3 os)]) (x:=x2) (g:=g) (s:=rr.2) HSA.o;rw[<-h3];exact h2
  generalize (iZ sp fine mk).1=rb at HC;clear HY2 HY3 hv h2 M10 HXS HSB HSS;go_wp2_with (go_at_call 262;refine qHG HC.o fun w10 M12=>?_);exact bodyPost_end (results_none (fn:=Tryz.f204) rfl _ _ _) rfl ⟨rfl,(dO H0.o M12.o.au.au).kF fun F' hF=>⟨v3,hF⟩⟩
def Tt(x:ak)(k:ae)(gr:Bool×dB)(fi:ae×ae×Bool×dB):ak:=if gr.1 then(if fi.2.2.1 then aeT (dU x k fi.2.2.2) else dU x k fi.2.2.2) else dU x k gr.2
def Tu(x:ak)(f:bX)(now fine:ae)(gr:Bool×dB)(fi:ae×ae×Bool×dB):List (bX×ae):=if gr.1 then(if fi.2.2.1 then dA (dU x f.src fi.2.2.2) now fine (um f fi.1 fi.2.1) else[]) else[]
theorem aaF(x:ak)(k:ae)(s:dB)(fi:ae×ae×Bool×dB):Tt x k (false,s) fi=dU x k s:=by simp[Tt]
theorem Xc(x:ak)(k:ae)(s s2:dB)(r a:ae):Tt x k (true,s) (r,a,false,s2)=dU x k s2:=by simp[Tt]
theorem Xd(x:ak)(k:ae)(s s2:dB)(r a:ae):Tt x k (true,s) (r,a,true,s2)=aeT (dU x k s2):=by simp[Tt]
theorem aaG(x:ak)(f:bX)(now fine:ae)(s:dB)(fi:ae×ae×Bool×dB):Tu x f now fine (false,s) fi= []:=by simp[Tu]
theorem Xe(x:ak)(f:bX)(now fine:ae)(s s2:dB)(r a:ae):Tu x f now fine (true,s) (r,a,false,s2)= []:=by simp[Tu]
theorem Xf(x:ak)(f:bX)(now fine:ae)(s s2:dB)(r a:ae):Tu x f now fine (true,s) (r,a,true,s2)=dA (dU x f.src s2) now fine (um f r a):=by simp[Tu]
def J4(x:ak)(f:bX)(at_ now fine:ae):ak:=Tt x f.src (dE (oS x f.src) at_ f.t1) (dV (dE (oS x f.src) at_ f.t1).2 fine)
def J5(x:ak)(f:bX)(at_ now fine:ae):List (bX×ae):=Tu x f now fine (dE (oS x f.src) at_ f.t1) (dV (dE (oS x f.src) at_ f.t1).2 fine)
theorem N1(g gs:Nat)(x:ak)(now fine:ae)(outs:List (bX×ae))(F:Nat->Prop)(w:World)(f:bX)(at_:ae)(hi:cw x)(hkd:f.kind.val=3)(hlo:0<=f.src.val)(hhi:f.src.val<64)(hl:outs.length<=1000)(h: (cq g x now fine outs).rep gs F w):Calls prog 204 #[.pointer (some ⟨g,0,none⟩),.agg (aL f at_ gs)] w fun r w'=>r= .returned (.tuple #[])/\kE (cq g (J4 x f at_ now fine) now fine (outs++J5 x f at_ now fine)) gs F w w':=by
 obtain⟨y,hy⟩:∃y,y=J4 x f at_ now fine:=⟨_,rfl⟩;obtain⟨os,hos⟩:∃os,os=outs++J5 x f at_ now fine:=⟨_,rfl⟩;rw[<-hy,<-hos];obtain⟨v,h⟩:=h;obtain⟨a,h0,M⟩:=ic (A:=[(w.heap.size,.row (aL f at_ gs)),(gs,.row (aN g now fine v)),(0,.own 163 16 aM v outs)]) (Mem.start h).alloc;have H0:=qD h0;have M0:Hid (Mem w F ([(w.heap.size,.row (aL f at_ gs)),(gs,.row (aN g now fine v)),(0,.own 163 16 aM v outs)]++aK x a g) (w.alloc (.cells (aL f at_ gs) 237))):=M;obtain⟨kn,hkn⟩:∃kn:Nat,f.src.val=kn:=⟨f.src.val.toNat,by omega⟩;have hk64:kn<64:=by omega
 obtain⟨sb,hsb⟩:∃sb,a.s[kn]? =some sb:=⟨_,gE (by omega)⟩;obtain⟨ss,hss⟩:∃ss,x.s[kn]? =some ss:=⟨_,gE (by have:=hi.s;omega)⟩;have HSK:Hid (oS x f.src=ss):=by show _=_;unfold oS;rw[hkn,Int.toNat_natCast,hss];rfl
 have HWS:Hid (∀(z:ak) s,dU z f.src s= {z with s:=z.s.set kn s}):=fun z s=>by unfold dU;rw[hkn,Int.toNat_natCast]
 have HSA:=qD hsb;have HSS:=qD hss;have HL:=qD hl;have HY:=qD hy;have HOS:=qD hos;have HKD:Hid (f.kind.val=3):=hkd;have HKN:=qD hkn;have n1: (kn:Int)<64:=by omega
 have n0: (0:Int)<=kn:=by omega
 clear h h0 M hsb hss hl hy hos hi hkd hlo hhi hkn;generalize hgh:w.heap.size=gh at M0;have hef:=Gb f at_ gs;have hsz:=pN f at_ gs;go_enter func204,ntmps204;go_upto_region 1 with(fail);generalize (w.alloc (.cells (aL f at_ gs) 237))=w1 at*;clear hgh;have M3:Hid (Mem w F ([(gh,.row (aL f at_ gs)),(gs,.row (aN g now fine v)),(0,.own 163 16 aM v outs)]++aK x a g) w1.drew):=M0.o.below (Below.drew (bZ _ _));refine aT 12 (.qs [0,1,2,3,4,5,6,7,8,9] (.w 10 (.w 11 .done))) (fun w'=>Mem w F ([(gh,.row (aL f at_ gs)),(gs,.row (aN g now fine v)),(0,.own 163 16 aM v outs)]++aK x a g) w') (by kernel_rfl) (by kernel_rfl) M3.o ?_;generalize w1.drew=w3 at*;clear M0;simp only[MT.qs,tC,tE]
 iterate 10 (refine fJ rfl rfl (by rintro w' hM K hK;have e1:w'.cell? ⟨gh,1,none⟩=some (.int .i64 f.src.val):=hM.cell (i:=0) (k:=1) rfl rfl;rw[HKN.o] at e1;have e0:=hM.row (i:=0) rfl;have c15:=Rj hM (i:=3) rfl H0.o hk64 HSA.o;clear hM;go_simp;exact hK.o) ?_)
 refine cO rfl (fun K hK=>?_);have M4:=qD (Mem.alloc (cs:=aD bW.s) (t:=161) M3.o);have Z4:=M4.o.row (i:=0) rfl;have hz:=eI;go_wp2;refine hK.o _ _ M4.o.au ?_;clear hK M3;generalize w3.heap.size=gm at M4 Z4 ⊢;generalize (w3.alloc (.cells (aD bW.s) 161))=w4 at*;refine cO rfl (fun K hK=>?_);have M5:Hid (Mem w F ([(gm,.row (aD f.s)),(gh,.row (aL f at_ gs)),(gs,.row (aN g now fine v)),(0,.own 163 16 aM v outs)]++aK x a g) (w4.setCells gm 0 (aD f.s).toList)):=M4.o.bC (i:=0) (cs':=aD f.s) rfl (by simp[bG]);go_wp2;refine hK.o _ _ M5.o.au ?_;clear hK;refine bY ?_;go_wp2;refine NoPanic.normal ?_;generalize (w4.setCells gm 0 (aD f.s).toList)=w5 at*;clear M4 Z4 hz;have e6:w5.cell? ⟨gm,0,none⟩=some (.int .i64 f.kind.val):=M5.o.cell (i:=0) (k:=0) rfl rfl;rw[HKD.o] at e6;have HGR:Hid (∀w,w.aI sb=some (iK ss)->Calls prog 263 #[.pointer (some ⟨sb,0,none⟩),.int .i64 at_.val,.int .i64 f.t1.val] w fun e w'=>e= .returned (.bool (dE ss at_ f.t1).1)/\w'.aI sb=some (iK (dE ss at_ f.t1).2)/\bN (fun y=>y=sb) w w'):=fun w hb=>by have key:=xU sb w ss at_ f.t1 hb;generalize dE ss at_ f.t1=r at key ⊢;exact key
 have HY2:Hid (y=J4 x f at_ now fine):=HY;have HO2:Hid (os=outs++J5 x f at_ now fine):=HOS;unfold J4 at HY2;unfold J5 at HO2;rw[HSK.o] at HY2 HO2;generalize dE ss at_ f.t1=gr at HGR HY2 HO2;obtain⟨gb,s1⟩:=gr;dsimp only at HY2 HO2 HGR;clear HY HOS HSK;have e14:w5.cell? ⟨gh,15,none⟩=some (.int .i64 at_.val):=M5.o.cell (i:=1) (k:=15) rfl rfl;have e4:w5.cell? ⟨gm,6,none⟩=some (.int .i64 f.t1.val):=M5.o.cell (i:=0) (k:=6) rfl rfl;have HC:Hid (Calls prog 263 #[.pointer (some ⟨sb,0,none⟩),.int .i64 at_.val,.int .i64 f.t1.val] w5 fun e w'=>e= .returned (.bool gb)/\Mem w F ([(gm,.row (aD f.s)),(gh,.row (aL f at_ gs)),(gs,.row (aN g now fine v)),(0,.own 163 16 aM v outs)]++aK {x with s:=x.s.set kn s1} a g) w'):=by have key:=M5.o.fY (i:=4+(kn+5)) (P:=prog) (f:=263) (rK (A:=[(gm,.row (aD f.s)),(gh,.row (aL f at_ gs)),(gs,.row (aN g now fine v)),(0,.own 163 16 aM v outs)]) HSS.o HSA.o) (fun hb=>HGR.o w5 hb);refine key.mono ?_;rintro e w' ⟨h1,h2⟩;refine⟨h1,?_⟩;have h3:=oR (A:=[(gm,.row (aD f.s)),(gh,.row (aL f at_ gs)),(gs,.row (aN g now fine v)),(0,.own 163 16 aM v outs)]) (x:=x) (g:=g) (s:=s1) HSA.o;rw[<-h3];exact h2
 clear HGR;cases gb with
 |false=>
  have HY3:Hid (y= {x with s:=x.s.set kn s1}):=HY2.o.trans ((aaF _ _ _ _).trans (HWS.o x s1));have HO3:Hid (os=outs):=HO2.o.trans ((congrArg (outs++ ·) (aaG _ _ _ _ _ _)).trans (List.append_nil _));clear HY2 HO2;go_wp2_with (go_at_call 263;refine qHG HC.o fun w6 M6=>?_);exact bodyPost_ret (results_none (fn:=Tryz.f204) rfl _ _ _) rfl ⟨rfl,by rw[HY3.o,HO3.o];exact(dO H0.o M6.o.au.au).kF fun F' hF=>⟨v,hF⟩⟩
 |true=>
  have HFI:Hid (∀w,w.aI sb=some (iK s1)->Calls prog 264 #[.pointer (some ⟨sb,0,none⟩),.int .i64 fine.val] w fun e w'=>e= .returned (.tuple #[.int .i64 (dV s1 fine).1.val,.int .i64 (dV s1 fine).2.1.val,.bool (dV s1 fine).2.2.1])/\w'.aI sb=some (iK (dV s1 fine).2.2.2)/\bN (fun y=>y=sb) w w'):=fun w hb=>by have key:=CR sb w s1 fine hb;generalize dV s1 fine=r at key ⊢;exact key
  generalize dV s1 fine=fi at HFI HY2 HO2;obtain⟨rd,an,fb,s2⟩:=fi;dsimp only at HFI;have HYT:Hid (fb=true->y=aeT (dU x f.src s2)):=fun h=>by subst h;exact HY2.o.trans (Xd _ _ _ _ _ _)
  have HYF:Hid (fb=false->y=dU x f.src s2):=fun h=>by subst h;exact HY2.o.trans (Xc _ _ _ _ _ _)
  have HOT:Hid (fb=true->os=outs++dA (dU x f.src s2) now fine (um f rd an)):=fun h=>by subst h;exact HO2.o.trans (congrArg (outs++ ·) (Xf _ _ _ _ _ _ _ _))
  have HOF:Hid (fb=false->os=outs):=fun h=>by subst h;exact HO2.o.trans ((congrArg (outs++ ·) (Xe _ _ _ _ _ _ _ _)).trans (List.append_nil _))
  clear HY2 HO2;obtain⟨x1,hx1⟩:∃x1,x1=({x with s:=x.s.set kn s1}:ak):=⟨_,rfl⟩;obtain⟨x2,hx2⟩:∃x2,x2=({x with s:=x.s.set kn s2}:ak):=⟨_,rfl⟩;have HS1:Hid (x1.s[kn]? =some s1):=by show _=_;rw[hx1];simp[(gS.1 HSS.o).1]
  have HX12:Hid ({x1 with s:=x1.s.set kn s2}=x2):=by show _=_;rw[hx1,hx2];simp[List.set_set]
  rw[HWS.o x s2,<-hx2] at HYT HYF HOT;rw[<-hx1] at HC;clear hx1 hx2 HSS HWS;go_upto_region 10 with(go_at_call 263;refine qHG HC.o fun w6 M6=>?_);have e16:w6.cell? ⟨gh,16,none⟩=some (.pointer (some ⟨gs,0,none⟩)):=M6.o.cell (i:=1) (k:=16) rfl rfl;have d2:w6.cell? ⟨gs,2,none⟩=some (.int .i64 fine.val):=M6.o.cell (i:=2) (k:=2) rfl rfl;have HC2:Hid (Calls prog 264 #[.pointer (some ⟨sb,0,none⟩),.int .i64 fine.val] w6 fun e w'=>e= .returned (.tuple #[.int .i64 rd.val,.int .i64 an.val,.bool fb])/\Mem w F ([(gm,.row (aD f.s)),(gh,.row (aL f at_ gs)),(gs,.row (aN g now fine v)),(0,.own 163 16 aM v outs)]++aK x2 a g) w'):=by have key:=M6.o.fY (i:=4+(kn+5)) (P:=prog) (f:=264) (rK (A:=[(gm,.row (aD f.s)),(gh,.row (aL f at_ gs)),(gs,.row (aN g now fine v)),(0,.own 163 16 aM v outs)]) HS1.o HSA.o) (fun hb=>HFI.o w6 hb);refine key.mono ?_;rintro e w' ⟨h1,h2⟩;refine⟨h1,?_⟩;have h3:=oR (A:=[(gm,.row (aD f.s)),(gh,.row (aL f at_ gs)),(gs,.row (aN g now fine v)),(0,.own 163 16 aM v outs)]) (x:=x1) (g:=g) (s:=s2) HSA.o;rw[HX12.o] at h3;rw[<-h3];exact h2
  clear HC M5 e14 e4 e6 HFI;cases fb with
  |false=>
   have HY3:Hid (y=x2):=HYF.o rfl;have HO3:Hid (os=outs):=HOF.o rfl;clear HYT HYF HOT HOF;go_wp2_with (go_at_call 264;refine qHG HC2.o fun w7 M7=>?_);exact bodyPost_end (results_none (fn:=Tryz.f204) rfl _ _ _) rfl ⟨rfl,by rw[HY3.o,HO3.o];exact(dO H0.o M7.o.au.au).kF fun F' hF=>⟨v,hF⟩⟩
  |true=>
   have HY3:Hid (y=aeT x2):=HYT.o rfl;have HO3:Hid (os=outs++dA x2 now fine (um f rd an)):=HOT.o rfl;clear HYT HYF HOT HOF;go_upto_region 12 with(go_at_call 264;refine qHG HC2.o fun w7 M7=>?_);clear HC2 M6 e16 d2;have M8:Hid (Mem w F [(gm,.row (aD f.s)),(gh,.row (aL f at_ gs)),(gs,cq g x2 now fine outs)] w7):=rI (A:=[(gm,.row (aD f.s)),(gh,.row (aL f at_ gs))]) H0.o M7.o;have HMK:Hid (∀w,Calls prog 146 #[.agg (aD f.s)] w fun e w'=>e= .returned (.int .i64 (p8 f.s).val)/\Below w.heap.size w w'):=fun w=>Bc f.s w;have M8d:Hid (Mem w F [(gm,.row (aD f.s)),(gh,.row (aL f at_ gs)),(gs,cq g x2 now fine outs)] w7.drew):=M8.o.below (Below.drew (bZ _ _));refine aT 9 (.qs [0,1,2,3,4,5,6] (.w 7 (.q 8 .done))) (fun w'=>w'.aI gm=some (aD f.s)/\w'.aI gh=some (aL f at_ gs)) (by kernel_rfl) (by kernel_rfl) ⟨M8d.o.row (i:=0) rfl,M8d.o.row (i:=1) rfl⟩ ?_;generalize w7.drew=w7d at*;clear M8 M7;simp only[MT.qs,tC,tE]
   iterate 7 (refine fJ rfl rfl (by rintro w' ⟨r1,r2⟩ K hK;have e16:w'.cell? ⟨gh,16,none⟩=some (.pointer (some ⟨gs,0,none⟩)):=(ao r2 16).trans rfl;have e1:w'.cell? ⟨gm,1,none⟩=some (.int .i64 f.src.val):=(ao r1 1).trans rfl;go_simp;exact hK.o) ?_)
   refine cO rfl (fun K hK=>?_);go_wp2_with (go_at_call 146;refine Mem.qB (HMK.o _) M8d.o fun w8 M9=>?_;clear M8d);refine hK.o _ _ ⟨M9.o.row (i:=0) rfl,M9.o.row (i:=1) rfl⟩ ?_;clear hK HMK;refine fJ (v:= .agg (aD (um f rd an).s)) rfl rfl (by rintro w' ⟨r1,r2⟩ K hK;exact Eq.mpr (congrArg K (by kernel_rfl)) hK.o) ?_;refine bY ?_;have HC3:Hid (Calls prog 105 #[.pointer (some ⟨gs,0,none⟩),.agg (aD (um f rd an).s)] w8 fun e w'=>(∃v,e= .returned v)/\Mem w F [(gm,.row (aD f.s)),(gh,.row (aL f at_ gs)),(gs,cq g y now fine os)] w'):=by have key:=Mem.bD (P:=prog) (f:=105) (args:=#[.pointer (some ⟨gs,0,none⟩),.agg (aD (um f rd an).s)]) M9.o (i:=2) (g:=gs) rfl (fun F1 hF=>rH g gs x2 now fine outs F1 w8 (um f rd an) HL.o hF);rw[HY3.o,HO3.o];refine key.mono ?_;rintro e w' ⟨rfl,h2⟩;exact⟨⟨_,rfl⟩,h2⟩
   simp only[Act.put,List.setIfInBounds_toArray,List.set_cons_succ,List.set_cons_zero];go_wp2_with (go_at_call 105;refine HC3.o.mono ?_;rintro r w9 ⟨⟨vr,rfl⟩,hM9⟩;have M10:=qD hM9;clear hM9);refine NoPanic.normal ?_;go_wp2;exact bodyPost_end (results_none (fn:=Tryz.f204) rfl _ _ _) rfl ⟨rfl,Mem.xW M10.o.au.au⟩
def X4(x:ak)(k now:ae)(gf:oJ×ae×Bool×dB):ak:=if gf.2.2.1 then mo (dU x k gf.2.2.2) k.val gf.1 gf.2.1 now else dU x k gf.2.2.2
theorem aaH(x:ak)(k now:ae)(t:oJ)(st:ae)(s:dB):X4 x k now (t,st,false,s)=dU x k s:=by simp[X4]
theorem aaI(x:ak)(k now:ae)(t:oJ)(st:ae)(s:dB):X4 x k now (t,st,true,s)=mo (dU x k s) k.val t st now:=by simp[X4]
def zN(x:ak)(f:bX)(at_ now:ae):ak:=X4 x f.src now (cR (oS x f.src) at_ f.t1 f.t2 f.when_)
theorem J6: (#[.int .i64 0,.int .i64 0,.int .i64 0,.int .i64 0]:Array Value)=lK (i0,i0,i0,i0,()):=rfl
theorem N2(g gs:Nat)(x:ak)(now fine:ae)(outs:List (bX×ae))(F:Nat->Prop)(w:World)(f:bX)(at_:ae)(hi:cw x)(hkd:f.kind.val=4)(hlo:0<=f.src.val)(hhi:f.src.val<64)(hl:outs.length<=1000)(h: (cq g x now fine outs).rep gs F w):Calls prog 204 #[.pointer (some ⟨g,0,none⟩),.agg (aL f at_ gs)] w fun r w'=>r= .returned (.tuple #[])/\kE (cq g (zN x f at_ now) now fine (outs++([]:List (bX×ae)))) gs F w w':=by
 obtain⟨y,hy⟩:∃y,y=zN x f at_ now:=⟨_,rfl⟩;obtain⟨os,hos⟩:∃os,os=outs++([]:List (bX×ae)):=⟨_,rfl⟩;rw[<-hy,<-hos];obtain⟨v,h⟩:=h;obtain⟨a,h0,M⟩:=ic (A:=[(w.heap.size,.row (aL f at_ gs)),(gs,.row (aN g now fine v)),(0,.own 163 16 aM v outs)]) (Mem.start h).alloc;have H0:=qD h0;have M0:Hid (Mem w F ([(w.heap.size,.row (aL f at_ gs)),(gs,.row (aN g now fine v)),(0,.own 163 16 aM v outs)]++aK x a g) (w.alloc (.cells (aL f at_ gs) 237))):=M;obtain⟨kn,hkn⟩:∃kn:Nat,f.src.val=kn:=⟨f.src.val.toNat,by omega⟩;have hk64:kn<64:=by omega
 obtain⟨sb,hsb⟩:∃sb,a.s[kn]? =some sb:=⟨_,gE (by omega)⟩;obtain⟨ss,hss⟩:∃ss,x.s[kn]? =some ss:=⟨_,gE (by have:=hi.s;omega)⟩;have HSK:Hid (oS x f.src=ss):=by show _=_;unfold oS;rw[hkn,Int.toNat_natCast,hss];rfl
 have HWS:Hid (∀(z:ak) s,dU z f.src s= {z with s:=z.s.set kn s}):=fun z s=>by unfold dU;rw[hkn,Int.toNat_natCast]
 have HSA:=qD hsb;have HSS:=qD hss;have HL:=qD hl;have HY:=qD hy;have HOS:=qD hos;have HKD:Hid (f.kind.val=4):=hkd;have HKN:=qD hkn;have n1: (kn:Int)<64:=by omega
 have n0: (0:Int)<=kn:=by omega
 clear h h0 M hsb hss hl hy hos hi hkd hlo hhi hkn;generalize hgh:w.heap.size=gh at M0;have hef:=Gb f at_ gs;have hsz:=pN f at_ gs;go_enter func204,ntmps204;go_upto_region 1 with(fail);generalize (w.alloc (.cells (aL f at_ gs) 237))=w1 at*;clear hgh;have M3:Hid (Mem w F ([(gh,.row (aL f at_ gs)),(gs,.row (aN g now fine v)),(0,.own 163 16 aM v outs)]++aK x a g) w1.drew):=M0.o.below (Below.drew (bZ _ _));refine aT 12 (.qs [0,1,2,3,4,5,6,7,8,9] (.w 10 (.w 11 .done))) (fun w'=>Mem w F ([(gh,.row (aL f at_ gs)),(gs,.row (aN g now fine v)),(0,.own 163 16 aM v outs)]++aK x a g) w') (by kernel_rfl) (by kernel_rfl) M3.o ?_;generalize w1.drew=w3 at*;clear M0;simp only[MT.qs,tC,tE]
 iterate 10 (refine fJ rfl rfl (by rintro w' hM K hK;have e1:w'.cell? ⟨gh,1,none⟩=some (.int .i64 f.src.val):=hM.cell (i:=0) (k:=1) rfl rfl;rw[HKN.o] at e1;have e0:=hM.row (i:=0) rfl;have c15:=Rj hM (i:=3) rfl H0.o hk64 HSA.o;clear hM;go_simp;exact hK.o) ?_)
 refine cO rfl (fun K hK=>?_);have M4:=qD (Mem.alloc (cs:=aD bW.s) (t:=161) M3.o);have Z4:=M4.o.row (i:=0) rfl;have hz:=eI;go_wp2;refine hK.o _ _ M4.o.au ?_;clear hK M3;generalize w3.heap.size=gm at M4 Z4 ⊢;generalize (w3.alloc (.cells (aD bW.s) 161))=w4 at*;refine cO rfl (fun K hK=>?_);have M5:Hid (Mem w F ([(gm,.row (aD f.s)),(gh,.row (aL f at_ gs)),(gs,.row (aN g now fine v)),(0,.own 163 16 aM v outs)]++aK x a g) (w4.setCells gm 0 (aD f.s).toList)):=M4.o.bC (i:=0) (cs':=aD f.s) rfl (by simp[bG]);go_wp2;refine hK.o _ _ M5.o.au ?_;clear hK;refine bY ?_;go_wp2;refine NoPanic.normal ?_;generalize (w4.setCells gm 0 (aD f.s).toList)=w5 at*;clear M4 Z4 hz;have e6:w5.cell? ⟨gm,0,none⟩=some (.int .i64 f.kind.val):=M5.o.cell (i:=0) (k:=0) rfl rfl;rw[HKD.o] at e6;have HGF:Hid (∀w,w.aI sb=some (iK ss)->Calls prog 265 #[.pointer (some ⟨sb,0,none⟩),.int .i64 at_.val,.int .i64 f.t1.val,.int .i64 f.t2.val,.int .i64 f.when_.val] w fun e w'=>e= .returned (.tuple #[.agg (lK (cR ss at_ f.t1 f.t2 f.when_).1),.int .i64 (cR ss at_ f.t1 f.t2 f.when_).2.1.val,.bool (cR ss at_ f.t1 f.t2 f.when_).2.2.1])/\w'.aI sb=some (iK (cR ss at_ f.t1 f.t2 f.when_).2.2.2)/\bN (fun y=>y=sb) w w'):=fun w hb=>by have key:=wP sb w ss at_ f.t1 f.t2 f.when_ hb;generalize cR ss at_ f.t1 f.t2 f.when_=r at key ⊢;exact key
 have HY2:Hid (y=zN x f at_ now):=HY;unfold zN at HY2;rw[HSK.o] at HY2;generalize cR ss at_ f.t1 f.t2 f.when_=gr at HGF HY2;obtain⟨tm,st,fb,s1⟩:=gr;dsimp only at HGF;have HYT:Hid (fb=true->y=mo (dU x f.src s1) f.src.val tm st now):=fun h=>by subst h;exact HY2.o.trans (aaI _ _ _ _ _ _)
 have HYF:Hid (fb=false->y=dU x f.src s1):=fun h=>by subst h;exact HY2.o.trans (aaH _ _ _ _ _ _)
 have HO2:Hid (os=outs):=HOS.o.trans (List.append_nil _);rw[HWS.o x s1] at HYT HYF;clear HY HOS HSK HY2 HWS;have e14:w5.cell? ⟨gh,15,none⟩=some (.int .i64 at_.val):=M5.o.cell (i:=1) (k:=15) rfl rfl;have e4:w5.cell? ⟨gm,6,none⟩=some (.int .i64 f.t1.val):=M5.o.cell (i:=0) (k:=6) rfl rfl;have e5:w5.cell? ⟨gm,7,none⟩=some (.int .i64 f.t2.val):=M5.o.cell (i:=0) (k:=7) rfl rfl;have e7:w5.cell? ⟨gm,9,none⟩=some (.int .i64 f.when_.val):=M5.o.cell (i:=0) (k:=9) rfl rfl;have HC:Hid (Calls prog 265 #[.pointer (some ⟨sb,0,none⟩),.int .i64 at_.val,.int .i64 f.t1.val,.int .i64 f.t2.val,.int .i64 f.when_.val] w5 fun e w'=>e= .returned (.tuple #[.agg (lK tm),.int .i64 st.val,.bool fb])/\Mem w F ([(gm,.row (aD f.s)),(gh,.row (aL f at_ gs)),(gs,.row (aN g now fine v)),(0,.own 163 16 aM v outs)]++aK {x with s:=x.s.set kn s1} a g) w'):=by have key:=M5.o.fY (i:=4+(kn+5)) (P:=prog) (f:=265) (rK (A:=[(gm,.row (aD f.s)),(gh,.row (aL f at_ gs)),(gs,.row (aN g now fine v)),(0,.own 163 16 aM v outs)]) HSS.o HSA.o) (fun hb=>HGF.o w5 hb);refine key.mono ?_;rintro e w' ⟨h1,h2⟩;refine⟨h1,?_⟩;have h3:=oR (A:=[(gm,.row (aD f.s)),(gh,.row (aL f at_ gs)),(gs,.row (aN g now fine v)),(0,.own 163 16 aM v outs)]) (x:=x) (g:=g) (s:=s1) HSA.o;rw[<-h3];exact h2
 clear HGF;have hzt:=J6;obtain⟨x1,hx1⟩:∃x1,x1=({x with s:=x.s.set kn s1}:ak):=⟨_,rfl⟩;rw[<-hx1] at HYT HYF HC;clear hx1;go_upto_region 15 with(go_at_call 265;refine qHG HC.o fun w6 M6=>?_);clear HC M5 e14 e4 e5 e7 e6;have M7:Hid (Mem w F ((w6.heap.size,.row (lK tm)):: ([(gm,.row (aD f.s)),(gh,.row (aL f at_ gs)),(gs,.row (aN g now fine v)),(0,.own 163 16 aM v outs)]++aK x1 a g)) ((w6.alloc (.cells (lK (i0,i0,i0,i0,())) 337)).setCells w6.heap.size 0 (lK tm).toList)):=M6.o.alloc.bC (i:=0) (cs':=lK tm) rfl (by simp[zH]);generalize ((w6.alloc (.cells (lK (i0,i0,i0,i0,())) 337)).setCells w6.heap.size 0 (lK tm).toList)=w7 at*;generalize w6.heap.size=gt at M7 ⊢;clear M6 hzt;cases fb with
 |false=>
  have HY3:Hid (y=x1):=HYF.o rfl;clear HYT HYF;go_wp2;exact bodyPost_end (results_none (fn:=Tryz.f204) rfl _ _ _) rfl ⟨rfl,by rw[HY3.o,HO2.o];exact(dO H0.o M7.o.au.au.au).kF fun F' hF=>⟨v,hF⟩⟩
 |true=>
  have HY3:Hid (y=mo x1 f.src.val tm st now):=HYT.o rfl;clear HYT HYF;go_upto_region 16 with(fail);have e1:w7.cell? ⟨gm,1,none⟩=some (.int .i64 f.src.val):=M7.o.cell (i:=1) (k:=1) rfl rfl;have e16:w7.cell? ⟨gh,16,none⟩=some (.pointer (some ⟨gs,0,none⟩)):=M7.o.cell (i:=2) (k:=16) rfl rfl;have d1:w7.cell? ⟨gs,1,none⟩=some (.int .i64 now.val):=M7.o.cell (i:=3) (k:=1) rfl rfl;have et:=M7.o.row (i:=0) rfl;have lt:=ab et;have lm:=ab (M7.o.row (i:=1) rfl);have lh:=ab (M7.o.row (i:=2) rfl);have ls:=ab (M7.o.row (i:=3) rfl);refine ar 10 ?_;simp only[tA,tD,tC,tE]
  repeat quiet_step (fail)
  refine wpQuiet_nil ?_;intro w8 hb8;have M8:Hid (Mem w F ([(gs,.row (aN g now fine v)),(0,.own 163 16 aM v outs)]++ [(g,aO x1)]) w8):=dO H0.o (M7.o.below hb8).au.au.au;clear M7 e1 e16 d1 et lt lm lh ls hb8;have HC:Hid (Calls prog 266 #[.pointer (some ⟨g,0,none⟩),.int .i64 f.src.val,.agg (lK tm),.int .i64 st.val,.int .i64 now.val] w8 fun e w'=>e= .returned (.tuple #[])/\Mem w F ([(gs,.row (aN g now fine v)),(0,.own 163 16 aM v outs)]++ [(g,aO y)]) w'):=by rw[HY3.o];exact M8.o.bD (i:=2) (g:=g) rfl (fun F1 hF=>NM x1 g F1 w8 f.src.val tm st now hF)
  go_wp2_with (go_at_call 266;refine qHG HC.o fun w9 M10=>?_);exact bodyPost_end (results_none (fn:=Tryz.f204) rfl _ _ _) rfl ⟨rfl,by rw[HO2.o];exact M10.o.kF fun F' hF=>⟨v,hF⟩⟩
def lW(x:ak)(f:bX)(at_ now fine:ae):ak:=if f.kind.val=2 then NY x f at_ now fine else if f.kind.val=3 then J4 x f at_ now fine else zN x f at_ now
def lE(x:ak)(f:bX)(at_ now fine:ae):List (bX×ae):=if f.kind.val=2 then NZ x f at_ now fine else if f.kind.val=3 then J5 x f at_ now fine else[]
theorem Bl(g gs:Nat)(x:ak)(now fine:ae)(outs:List (bX×ae))(F:Nat->Prop)(w:World)(f:bX)(at_:ae)(hi:cw x)(hkd:f.kind.val=2∨f.kind.val=3∨f.kind.val=4)(hlo:0<=f.src.val)(hhi:f.src.val<64)(hl:outs.length<=1000)(h: (cq g x now fine outs).rep gs F w):Calls prog 204 #[.pointer (some ⟨g,0,none⟩),.agg (aL f at_ gs)] w fun r w'=>r= .returned (.tuple #[])/\kE (cq g (lW x f at_ now fine) now fine (outs++lE x f at_ now fine)) gs F w w':=by
 unfold lW lE;rcases hkd with hk|hk|hk
 ·rw[if_pos hk,if_pos hk];exact N0 g gs x now fine outs F w f at_ hi hk hlo hhi hl h
 ·rw[if_neg (by omega),if_pos hk,if_neg (by omega),if_pos hk];exact N1 g gs x now fine outs F w f at_ hi hk hlo hhi hl h
 ·rw[if_neg (by omega),if_neg (by omega),if_neg (by omega),if_neg (by omega)];exact N2 g gs x now fine outs F w f at_ hi hk hlo hhi hl h
@[go_sem] theorem Gc (f:bX) (at_:ae) (gs:Nat): (aL f at_ gs).size=17:=rfl
@[go_sem] theorem aaJ (f:bX) (at_:ae) (gs:Nat):bK (aL f at_ gs)=true:=by simp[bK,aL,Value.oneCell']
@[go_sem] theorem aaK (f:bX) (at_:ae) (gs:Nat): (aL f at_ gs).extract 0 17=aL f at_ gs:=by have:=Gc f at_ gs;rw[<-this,Array.extract_size]
def takeN(x:ak)(f:bX)(at_ now fine:ae):ak:=
 if f.kind.val=5 then mU x f.src.val f.e f.stamp now
 else if f.kind.val=6 then uk x f now
 else if f.kind.val=2∨f.kind.val=3∨f.kind.val=4 then(if f.dst.val=x.id.val then lW x f at_ now fine else x)
 else if f.kind.val=7 then{x with t:=(iv x.t f.src.val).2} else x
def qd(x:ak)(f:bX)(at_ now fine:ae):List (bX×ae):=
 if (f.kind.val=2∨f.kind.val=3∨f.kind.val=4)/\f.dst.val=x.id.val then lE x f at_ now fine else[]
theorem Xg(g gs:Nat)(x:ak)(now fine:ae)(outs:List (bX×ae))(F:Nat->Prop)(w:World)(f:bX)(at_:ae)(hi:cw x)(hkd:f.kind.val=6)(hlo:0<=f.src.val)(hhi:f.src.val<64)(hl:outs.length<=1000)(h: (cq g x now fine outs).rep gs F w):Calls prog 158 #[.pointer (some ⟨g,0,none⟩),.agg (aL f at_ gs)] w fun r w'=>r= .returned (.tuple #[])/\kE (cq g (uk x f now) now fine (outs)) gs F w w':=by
 obtain⟨y,hy⟩:∃y,y=uk x f now:=⟨_,rfl⟩;rw[<-hy];have M0:Hid (Mem w F [(w.heap.size,.row (aL f at_ gs)),(gs,cq g x now fine outs)] (w.alloc (.cells (aL f at_ gs) 237))):=(Mem.qA h).alloc;generalize hgh:w.heap.size=gh at M0;have e0: (w.alloc (.cells (aL f at_ gs) 237)).cell? ⟨gh,0,none⟩=some (.int .i64 f.kind.val):=M0.o.cell (i:=0) (k:=0) rfl rfl;have er:=M0.o.row (i:=0) rfl;rw[hkd] at e0;have HC:Hid (Calls prog 203 #[.pointer (some ⟨g,0,none⟩),.agg (aL f at_ gs)] (w.alloc (.cells (aL f at_ gs) 237)) fun e w'=>e= .returned (.tuple #[])/\Mem w F [(gh,.row (aL f at_ gs)),(gs,cq g y now fine outs)] w'):=by rw[hy];exact M0.o.bD (i:=1) (g:=gs) rfl (fun F1 hF=>Rl g gs x now fine outs F1 _ f at_ hF)
 clear h M0 hi hkd hlo hhi hl hy;go_enter func158,ntmps158;go_upto_region 1 with(fail);generalize (w.alloc (.cells (aL f at_ gs) 237))=w1 at*;clear hgh;go_wp2_with (go_at_call 203;refine qHG HC.o fun w2 M2=>?_);exact bodyPost_end (results_none (fn:=Tryz.f158) rfl _ _ _) rfl ⟨rfl,Mem.xW M2.o.au⟩
theorem Xh(g gs:Nat)(x:ak)(now fine:ae)(outs:List (bX×ae))(F:Nat->Prop)(w:World)(f:bX)(at_:ae)(hi:cw x)(hkd:f.kind.val=5)(hlo:0<=f.src.val)(hhi:f.src.val<64)(hl:outs.length<=1000)(h: (cq g x now fine outs).rep gs F w):Calls prog 158 #[.pointer (some ⟨g,0,none⟩),.agg (aL f at_ gs)] w fun r w'=>r= .returned (.tuple #[])/\kE (cq g (mU x f.src.val f.e f.stamp now) now fine (outs)) gs F w w':=by
 obtain⟨y,hy⟩:∃y,y=mU x f.src.val f.e f.stamp now:=⟨_,rfl⟩;rw[<-hy];obtain⟨v,h⟩:=h;have M0:Hid (Mem w F [(w.heap.size,.row (aL f at_ gs)),(gs,.row (aN g now fine v)),(0,.own 163 16 aM v outs),(g,aO x)] (w.alloc (.cells (aL f at_ gs) 237))):=(Mem.start h).alloc;generalize hgh:w.heap.size=gh at M0;have e0: (w.alloc (.cells (aL f at_ gs) 237)).cell? ⟨gh,0,none⟩=some (.int .i64 f.kind.val):=M0.o.cell (i:=0) (k:=0) rfl rfl;rw[hkd] at e0;have HP:Hid (∀w' F',(aO x).rep g F' w'->Calls prog 202 #[.pointer (some ⟨g,0,none⟩),.int .i64 f.src.val,.agg (aB f.e),.int .i64 f.stamp.val,.int .i64 now.val] w' fun r w''=>r= .returned (.tuple #[])/\kE (aO y) g F' w' w''):=fun w' F' hF=>by rw[hy];exact Il x g F' w' f.src.val f.e f.stamp now hF
 clear h hi hkd hlo hhi hl hy;go_enter func158,ntmps158;go_upto_region 1 with(fail);generalize (w.alloc (.cells (aL f at_ gs) 237))=w1 at*;clear hgh;go_upto_region 3 with(fail);have hef:=NX f at_ gs;have er:=M0.o.row (i:=0) rfl;have e1:w1.cell? ⟨gh,1,none⟩=some (.int .i64 f.src.val):=M0.o.cell (i:=0) (k:=1) rfl rfl;have e4:w1.cell? ⟨gh,4,none⟩=some (.int .i64 f.stamp.val):=M0.o.cell (i:=0) (k:=4) rfl rfl;have e16:w1.cell? ⟨gh,16,none⟩=some (.pointer (some ⟨gs,0,none⟩)):=M0.o.cell (i:=0) (k:=16) rfl rfl;have d1:w1.cell? ⟨gs,1,none⟩=some (.int .i64 now.val):=M0.o.cell (i:=1) (k:=1) rfl rfl;have l1:=ab er;have l2:=ab (M0.o.row (i:=1) rfl);refine ar 15 ?_;simp only[tA,tD,tC,tE]
 repeat quiet_step (fail)
 refine wpQuiet_nil ?_;intro w8 hb8;have M8:=qD (M0.o.below hb8);have HC:=qD (M8.o.bD (i:=3) rfl (fun F1 hF=>HP.o w8 F1 hF));clear M0 e0 e1 e4 e16 d1 er l1 l2 hb8 HP hef;go_wp2_with (go_at_call 202;refine qHG HC.o fun w9 M9=>?_);exact bodyPost_end (results_none (fn:=Tryz.f158) rfl _ _ _) rfl ⟨rfl,M9.o.au.kF fun F' hF=>⟨v,hF⟩⟩
theorem Xi(g gs:Nat)(x:ak)(now fine:ae)(outs:List (bX×ae))(F:Nat->Prop)(w:World)(f:bX)(at_:ae)(hi:cw x)(hkd:f.kind.val=7)(hlo:0<=f.src.val)(hhi:f.src.val<64)(hl:outs.length<=1000)(h: (cq g x now fine outs).rep gs F w):Calls prog 158 #[.pointer (some ⟨g,0,none⟩),.agg (aL f at_ gs)] w fun r w'=>r= .returned (.tuple #[])/\kE (cq g ({x with t:=(iv x.t f.src.val).2}) now fine (outs)) gs F w w':=by
 obtain⟨v,h⟩:=h;obtain⟨a,h0,M⟩:=ic (A:=[(w.heap.size,.row (aL f at_ gs)),(gs,.row (aN g now fine v)),(0,.own 163 16 aM v outs)]) (Mem.start h).alloc;have H0:=qD h0;have M0:Hid (Mem w F ([(w.heap.size,.row (aL f at_ gs)),(gs,.row (aN g now fine v)),(0,.own 163 16 aM v outs)]++aK x a g) (w.alloc (.cells (aL f at_ gs) 237))):=M;generalize hgh:w.heap.size=gh at M0;have e0: (w.alloc (.cells (aL f at_ gs) 237)).cell? ⟨gh,0,none⟩=some (.int .i64 f.kind.val):=M0.o.cell (i:=0) (k:=0) rfl rfl;rw[hkd] at e0;have HLV:Hid (∀w' F',(eW x.t).rep a.t F' w'->Calls prog 205 #[.pointer (some ⟨a.t,0,none⟩),.int .i64 f.src.val] w' fun r w''=>r= .returned (.bool (iv x.t f.src.val).1)/\kE (eW (iv x.t f.src.val).2) a.t F' w' w''):=fun w' F' hF=>JB x.t a.t F' w' f.src.val hF;generalize iv x.t f.src.val=lv at HLV ⊢;obtain⟨lb,lt⟩:=lv;clear h h0 M hi hkd hlo hhi hl;go_enter func158,ntmps158;go_upto_region 1 with(fail);generalize (w.alloc (.cells (aL f at_ gs) 237))=w1 at*;clear hgh;go_upto_region 12 with(fail);have c14:w1.cell? ⟨g,14,none⟩=some (.pointer (some ⟨a.t,0,none⟩)):=tg M0.o (i:=3) rfl;have e1:w1.cell? ⟨gh,1,none⟩=some (.int .i64 f.src.val):=M0.o.cell (i:=0) (k:=1) rfl rfl;have l1:=ab (M0.o.row (i:=0) rfl);have l2:=ab (M0.o.row (i:=3) rfl);refine ar 7 ?_;simp only[tA,tD,tC,tE]
 repeat quiet_step (fail)
 refine wpQuiet_nil ?_;intro w8 hb8;have M8:=qD (M0.o.below hb8);have HC:=qD (M8.o.bD (i:=5) rfl (fun F1 hF=>HLV.o w8 F1 hF));clear M0 e0 e1 c14 l1 l2 hb8 HLV;go_wp2_with (go_at_call 205;refine qHG HC.o fun w9 M9=>?_);have M10:Hid (Mem w F ([(gh,.row (aL f at_ gs)),(gs,.row (aN g now fine v)),(0,.own 163 16 aM v outs)]++aK {x with t:=lt} a g) w9):=M9;exact bodyPost_end (results_none (fn:=Tryz.f158) rfl _ _ _) rfl ⟨rfl,(dO H0.o M10.o.au).kF fun F' hF=>⟨v,hF⟩⟩
theorem Rm(g gs:Nat)(x:ak)(now fine:ae)(outs:List (bX×ae))(F:Nat->Prop)(w:World)(f:bX)(at_:ae)(hi:cw x)(hkd:f.kind.val=2)(hd:f.dst.val=x.id.val)(hlo:0<=f.src.val)(hhi:f.src.val<64)(hl:outs.length<=1000)(h: (cq g x now fine outs).rep gs F w):Calls prog 158 #[.pointer (some ⟨g,0,none⟩),.agg (aL f at_ gs)] w fun r w'=>r= .returned (.tuple #[])/\kE (cq g (lW x f at_ now fine) now fine (outs++lE x f at_ now fine)) gs F w w':=by
 have HRN:Hid (∀F1 w',(cq g x now fine outs).rep gs F1 w'->Calls prog 204 #[.pointer (some ⟨g,0,none⟩),.agg (aL f at_ gs)] w' fun r w''=>r= .returned (.tuple #[])/\kE (cq g (lW x f at_ now fine) now fine (outs++lE x f at_ now fine)) gs F1 w' w''):=fun F1 w' hF=>Bl g gs x now fine outs F1 w' f at_ hi (by omega) hlo hhi hl hF;generalize lW x f at_ now fine=y at HRN ⊢;generalize outs++lE x f at_ now fine=os at HRN ⊢;obtain⟨v,h⟩:=h;obtain⟨a,h0,M⟩:=ic (A:=[(w.heap.size,.row (aL f at_ gs)),(gs,.row (aN g now fine v)),(0,.own 163 16 aM v outs)]) (Mem.start h).alloc;have H0:=qD h0;have M0:Hid (Mem w F ([(w.heap.size,.row (aL f at_ gs)),(gs,.row (aN g now fine v)),(0,.own 163 16 aM v outs)]++aK x a g) (w.alloc (.cells (aL f at_ gs) 237))):=M;generalize hgh:w.heap.size=gh at M0;have e0: (w.alloc (.cells (aL f at_ gs) 237)).cell? ⟨gh,0,none⟩=some (.int .i64 f.kind.val):=M0.o.cell (i:=0) (k:=0) rfl rfl;rw[hkd] at e0;have hb1: (f.dst.val==x.id.val)=true:=by simpa using hd
 clear h h0 M hi hkd hlo hhi hl hd;go_enter func158,ntmps158;go_upto_region 1 with(fail);generalize (w.alloc (.cells (aL f at_ gs) 237))=w1 at*;clear hgh;go_upto_region 9 with(fail);have c11:w1.cell? ⟨g,11,none⟩=some (.int .i64 x.id.val):=pW M0.o (i:=3) rfl;have e5:w1.cell? ⟨gh,5,none⟩=some (.int .i64 f.dst.val):=M0.o.cell (i:=0) (k:=5) rfl rfl;have l1:=ab (M0.o.row (i:=0) rfl);have l2:=ab (M0.o.row (i:=3) rfl);refine aY ?_
 repeat quiet_step (fail)
 refine wpQuiet_nil ?_;intro w8 hb8;have M8:=qD (M0.o.below hb8);clear M0 e0 c11 e5 l1 l2 hb8 hb1;have M9:Hid (Mem w F [(gh,.row (aL f at_ gs)),(gs,cq g x now fine outs)] w8):=rI (A:=[(gh,.row (aL f at_ gs))]) H0.o M8.o;have er:=M9.o.row (i:=0) rfl;have HC:Hid (Calls prog 204 #[.pointer (some ⟨g,0,none⟩),.agg (aL f at_ gs)] w8 fun e w'=>e= .returned (.tuple #[])/\Mem w F [(gh,.row (aL f at_ gs)),(gs,cq g y now fine os)] w'):=M9.o.bD (i:=1) (g:=gs) rfl (fun F1 hF=>HRN.o F1 w8 hF);go_wp2_with (go_at_call 204;refine qHG HC.o fun w9 M10=>?_);exact bodyPost_end (results_none (fn:=Tryz.f158) rfl _ _ _) rfl ⟨rfl,Mem.xW M10.o.au⟩
theorem Rn(g gs:Nat)(x:ak)(now fine:ae)(outs:List (bX×ae))(F:Nat->Prop)(w:World)(f:bX)(at_:ae)(hi:cw x)(hkd:f.kind.val=2)(hd:f.dst.val≠x.id.val)(hlo:0<=f.src.val)(hhi:f.src.val<64)(hl:outs.length<=1000)(h: (cq g x now fine outs).rep gs F w):Calls prog 158 #[.pointer (some ⟨g,0,none⟩),.agg (aL f at_ gs)] w fun r w'=>r= .returned (.tuple #[])/\kE (cq g (x) now fine (outs)) gs F w w':=by
 obtain⟨v,h⟩:=h;obtain⟨a,h0,M⟩:=ic (A:=[(w.heap.size,.row (aL f at_ gs)),(gs,.row (aN g now fine v)),(0,.own 163 16 aM v outs)]) (Mem.start h).alloc;have H0:=qD h0;have M0:Hid (Mem w F ([(w.heap.size,.row (aL f at_ gs)),(gs,.row (aN g now fine v)),(0,.own 163 16 aM v outs)]++aK x a g) (w.alloc (.cells (aL f at_ gs) 237))):=M;generalize hgh:w.heap.size=gh at M0;have e0: (w.alloc (.cells (aL f at_ gs) 237)).cell? ⟨gh,0,none⟩=some (.int .i64 f.kind.val):=M0.o.cell (i:=0) (k:=0) rfl rfl;rw[hkd] at e0;have hb1: (f.dst.val==x.id.val)=false:=by simpa using hd
 clear h h0 M hi hkd hlo hhi hl hd;go_enter func158,ntmps158;go_upto_region 1 with(fail);generalize (w.alloc (.cells (aL f at_ gs) 237))=w1 at*;clear hgh;go_upto_region 9 with(fail);have c11:w1.cell? ⟨g,11,none⟩=some (.int .i64 x.id.val):=pW M0.o (i:=3) rfl;have e5:w1.cell? ⟨gh,5,none⟩=some (.int .i64 f.dst.val):=M0.o.cell (i:=0) (k:=5) rfl rfl;have l1:=ab (M0.o.row (i:=0) rfl);have l2:=ab (M0.o.row (i:=3) rfl);refine aY ?_
 repeat quiet_step (fail)
 refine wpQuiet_nil ?_;intro w8 hb8;have M8:=qD (M0.o.below hb8);clear M0 e0 c11 e5 l1 l2 hb8 hb1;go_wp2;exact bodyPost_end (results_none (fn:=Tryz.f158) rfl _ _ _) rfl ⟨rfl,(dO H0.o M8.o.au).kF fun F' hF=>⟨v,hF⟩⟩
theorem Ro(g gs:Nat)(x:ak)(now fine:ae)(outs:List (bX×ae))(F:Nat->Prop)(w:World)(f:bX)(at_:ae)(hi:cw x)(hkd:f.kind.val=3)(hd:f.dst.val=x.id.val)(hlo:0<=f.src.val)(hhi:f.src.val<64)(hl:outs.length<=1000)(h: (cq g x now fine outs).rep gs F w):Calls prog 158 #[.pointer (some ⟨g,0,none⟩),.agg (aL f at_ gs)] w fun r w'=>r= .returned (.tuple #[])/\kE (cq g (lW x f at_ now fine) now fine (outs++lE x f at_ now fine)) gs F w w':=by
 have HRN:Hid (∀F1 w',(cq g x now fine outs).rep gs F1 w'->Calls prog 204 #[.pointer (some ⟨g,0,none⟩),.agg (aL f at_ gs)] w' fun r w''=>r= .returned (.tuple #[])/\kE (cq g (lW x f at_ now fine) now fine (outs++lE x f at_ now fine)) gs F1 w' w''):=fun F1 w' hF=>Bl g gs x now fine outs F1 w' f at_ hi (by omega) hlo hhi hl hF;generalize lW x f at_ now fine=y at HRN ⊢;generalize outs++lE x f at_ now fine=os at HRN ⊢;obtain⟨v,h⟩:=h;obtain⟨a,h0,M⟩:=ic (A:=[(w.heap.size,.row (aL f at_ gs)),(gs,.row (aN g now fine v)),(0,.own 163 16 aM v outs)]) (Mem.start h).alloc;have H0:=qD h0;have M0:Hid (Mem w F ([(w.heap.size,.row (aL f at_ gs)),(gs,.row (aN g now fine v)),(0,.own 163 16 aM v outs)]++aK x a g) (w.alloc (.cells (aL f at_ gs) 237))):=M;generalize hgh:w.heap.size=gh at M0;have e0: (w.alloc (.cells (aL f at_ gs) 237)).cell? ⟨gh,0,none⟩=some (.int .i64 f.kind.val):=M0.o.cell (i:=0) (k:=0) rfl rfl;rw[hkd] at e0;have hb1: (f.dst.val==x.id.val)=true:=by simpa using hd
 clear h h0 M hi hkd hlo hhi hl hd;go_enter func158,ntmps158;go_upto_region 1 with(fail);generalize (w.alloc (.cells (aL f at_ gs) 237))=w1 at*;clear hgh;go_upto_region 9 with(fail);have c11:w1.cell? ⟨g,11,none⟩=some (.int .i64 x.id.val):=pW M0.o (i:=3) rfl;have e5:w1.cell? ⟨gh,5,none⟩=some (.int .i64 f.dst.val):=M0.o.cell (i:=0) (k:=5) rfl rfl;have l1:=ab (M0.o.row (i:=0) rfl);have l2:=ab (M0.o.row (i:=3) rfl);refine aY ?_
 repeat quiet_step (fail)
 refine wpQuiet_nil ?_;intro w8 hb8;have M8:=qD (M0.o.below hb8);clear M0 e0 c11 e5 l1 l2 hb8 hb1;have M9:Hid (Mem w F [(gh,.row (aL f at_ gs)),(gs,cq g x now fine outs)] w8):=rI (A:=[(gh,.row (aL f at_ gs))]) H0.o M8.o;have er:=M9.o.row (i:=0) rfl;have HC:Hid (Calls prog 204 #[.pointer (some ⟨g,0,none⟩),.agg (aL f at_ gs)] w8 fun e w'=>e= .returned (.tuple #[])/\Mem w F [(gh,.row (aL f at_ gs)),(gs,cq g y now fine os)] w'):=M9.o.bD (i:=1) (g:=gs) rfl (fun F1 hF=>HRN.o F1 w8 hF);go_wp2_with (go_at_call 204;refine qHG HC.o fun w9 M10=>?_);exact bodyPost_end (results_none (fn:=Tryz.f158) rfl _ _ _) rfl ⟨rfl,Mem.xW M10.o.au⟩
theorem Rp(g gs:Nat)(x:ak)(now fine:ae)(outs:List (bX×ae))(F:Nat->Prop)(w:World)(f:bX)(at_:ae)(hi:cw x)(hkd:f.kind.val=3)(hd:f.dst.val≠x.id.val)(hlo:0<=f.src.val)(hhi:f.src.val<64)(hl:outs.length<=1000)(h: (cq g x now fine outs).rep gs F w):Calls prog 158 #[.pointer (some ⟨g,0,none⟩),.agg (aL f at_ gs)] w fun r w'=>r= .returned (.tuple #[])/\kE (cq g (x) now fine (outs)) gs F w w':=by
 obtain⟨v,h⟩:=h;obtain⟨a,h0,M⟩:=ic (A:=[(w.heap.size,.row (aL f at_ gs)),(gs,.row (aN g now fine v)),(0,.own 163 16 aM v outs)]) (Mem.start h).alloc;have H0:=qD h0;have M0:Hid (Mem w F ([(w.heap.size,.row (aL f at_ gs)),(gs,.row (aN g now fine v)),(0,.own 163 16 aM v outs)]++aK x a g) (w.alloc (.cells (aL f at_ gs) 237))):=M;generalize hgh:w.heap.size=gh at M0;have e0: (w.alloc (.cells (aL f at_ gs) 237)).cell? ⟨gh,0,none⟩=some (.int .i64 f.kind.val):=M0.o.cell (i:=0) (k:=0) rfl rfl;rw[hkd] at e0;have hb1: (f.dst.val==x.id.val)=false:=by simpa using hd
 clear h h0 M hi hkd hlo hhi hl hd;go_enter func158,ntmps158;go_upto_region 1 with(fail);generalize (w.alloc (.cells (aL f at_ gs) 237))=w1 at*;clear hgh;go_upto_region 9 with(fail);have c11:w1.cell? ⟨g,11,none⟩=some (.int .i64 x.id.val):=pW M0.o (i:=3) rfl;have e5:w1.cell? ⟨gh,5,none⟩=some (.int .i64 f.dst.val):=M0.o.cell (i:=0) (k:=5) rfl rfl;have l1:=ab (M0.o.row (i:=0) rfl);have l2:=ab (M0.o.row (i:=3) rfl);refine aY ?_
 repeat quiet_step (fail)
 refine wpQuiet_nil ?_;intro w8 hb8;have M8:=qD (M0.o.below hb8);clear M0 e0 c11 e5 l1 l2 hb8 hb1;go_wp2;exact bodyPost_end (results_none (fn:=Tryz.f158) rfl _ _ _) rfl ⟨rfl,(dO H0.o M8.o.au).kF fun F' hF=>⟨v,hF⟩⟩
theorem Rq(g gs:Nat)(x:ak)(now fine:ae)(outs:List (bX×ae))(F:Nat->Prop)(w:World)(f:bX)(at_:ae)(hi:cw x)(hkd:f.kind.val=4)(hd:f.dst.val=x.id.val)(hlo:0<=f.src.val)(hhi:f.src.val<64)(hl:outs.length<=1000)(h: (cq g x now fine outs).rep gs F w):Calls prog 158 #[.pointer (some ⟨g,0,none⟩),.agg (aL f at_ gs)] w fun r w'=>r= .returned (.tuple #[])/\kE (cq g (lW x f at_ now fine) now fine (outs++lE x f at_ now fine)) gs F w w':=by
 have HRN:Hid (∀F1 w',(cq g x now fine outs).rep gs F1 w'->Calls prog 204 #[.pointer (some ⟨g,0,none⟩),.agg (aL f at_ gs)] w' fun r w''=>r= .returned (.tuple #[])/\kE (cq g (lW x f at_ now fine) now fine (outs++lE x f at_ now fine)) gs F1 w' w''):=fun F1 w' hF=>Bl g gs x now fine outs F1 w' f at_ hi (by omega) hlo hhi hl hF;generalize lW x f at_ now fine=y at HRN ⊢;generalize outs++lE x f at_ now fine=os at HRN ⊢;obtain⟨v,h⟩:=h;obtain⟨a,h0,M⟩:=ic (A:=[(w.heap.size,.row (aL f at_ gs)),(gs,.row (aN g now fine v)),(0,.own 163 16 aM v outs)]) (Mem.start h).alloc;have H0:=qD h0;have M0:Hid (Mem w F ([(w.heap.size,.row (aL f at_ gs)),(gs,.row (aN g now fine v)),(0,.own 163 16 aM v outs)]++aK x a g) (w.alloc (.cells (aL f at_ gs) 237))):=M;generalize hgh:w.heap.size=gh at M0;have e0: (w.alloc (.cells (aL f at_ gs) 237)).cell? ⟨gh,0,none⟩=some (.int .i64 f.kind.val):=M0.o.cell (i:=0) (k:=0) rfl rfl;rw[hkd] at e0;have hb1: (f.dst.val==x.id.val)=true:=by simpa using hd
 clear h h0 M hi hkd hlo hhi hl hd;go_enter func158,ntmps158;go_upto_region 1 with(fail);generalize (w.alloc (.cells (aL f at_ gs) 237))=w1 at*;clear hgh;go_upto_region 9 with(fail);have c11:w1.cell? ⟨g,11,none⟩=some (.int .i64 x.id.val):=pW M0.o (i:=3) rfl;have e5:w1.cell? ⟨gh,5,none⟩=some (.int .i64 f.dst.val):=M0.o.cell (i:=0) (k:=5) rfl rfl;have l1:=ab (M0.o.row (i:=0) rfl);have l2:=ab (M0.o.row (i:=3) rfl);refine aY ?_
 repeat quiet_step (fail)
 refine wpQuiet_nil ?_;intro w8 hb8;have M8:=qD (M0.o.below hb8);clear M0 e0 c11 e5 l1 l2 hb8 hb1;have M9:Hid (Mem w F [(gh,.row (aL f at_ gs)),(gs,cq g x now fine outs)] w8):=rI (A:=[(gh,.row (aL f at_ gs))]) H0.o M8.o;have er:=M9.o.row (i:=0) rfl;have HC:Hid (Calls prog 204 #[.pointer (some ⟨g,0,none⟩),.agg (aL f at_ gs)] w8 fun e w'=>e= .returned (.tuple #[])/\Mem w F [(gh,.row (aL f at_ gs)),(gs,cq g y now fine os)] w'):=M9.o.bD (i:=1) (g:=gs) rfl (fun F1 hF=>HRN.o F1 w8 hF);go_wp2_with (go_at_call 204;refine qHG HC.o fun w9 M10=>?_);exact bodyPost_end (results_none (fn:=Tryz.f158) rfl _ _ _) rfl ⟨rfl,Mem.xW M10.o.au⟩
theorem Rr(g gs:Nat)(x:ak)(now fine:ae)(outs:List (bX×ae))(F:Nat->Prop)(w:World)(f:bX)(at_:ae)(hi:cw x)(hkd:f.kind.val=4)(hd:f.dst.val≠x.id.val)(hlo:0<=f.src.val)(hhi:f.src.val<64)(hl:outs.length<=1000)(h: (cq g x now fine outs).rep gs F w):Calls prog 158 #[.pointer (some ⟨g,0,none⟩),.agg (aL f at_ gs)] w fun r w'=>r= .returned (.tuple #[])/\kE (cq g (x) now fine (outs)) gs F w w':=by
 obtain⟨v,h⟩:=h;obtain⟨a,h0,M⟩:=ic (A:=[(w.heap.size,.row (aL f at_ gs)),(gs,.row (aN g now fine v)),(0,.own 163 16 aM v outs)]) (Mem.start h).alloc;have H0:=qD h0;have M0:Hid (Mem w F ([(w.heap.size,.row (aL f at_ gs)),(gs,.row (aN g now fine v)),(0,.own 163 16 aM v outs)]++aK x a g) (w.alloc (.cells (aL f at_ gs) 237))):=M;generalize hgh:w.heap.size=gh at M0;have e0: (w.alloc (.cells (aL f at_ gs) 237)).cell? ⟨gh,0,none⟩=some (.int .i64 f.kind.val):=M0.o.cell (i:=0) (k:=0) rfl rfl;rw[hkd] at e0;have hb1: (f.dst.val==x.id.val)=false:=by simpa using hd
 clear h h0 M hi hkd hlo hhi hl hd;go_enter func158,ntmps158;go_upto_region 1 with(fail);generalize (w.alloc (.cells (aL f at_ gs) 237))=w1 at*;clear hgh;go_upto_region 9 with(fail);have c11:w1.cell? ⟨g,11,none⟩=some (.int .i64 x.id.val):=pW M0.o (i:=3) rfl;have e5:w1.cell? ⟨gh,5,none⟩=some (.int .i64 f.dst.val):=M0.o.cell (i:=0) (k:=5) rfl rfl;have l1:=ab (M0.o.row (i:=0) rfl);have l2:=ab (M0.o.row (i:=3) rfl);refine aY ?_
 repeat quiet_step (fail)
 refine wpQuiet_nil ?_;intro w8 hb8;have M8:=qD (M0.o.below hb8);clear M0 e0 c11 e5 l1 l2 hb8 hb1;go_wp2;exact bodyPost_end (results_none (fn:=Tryz.f158) rfl _ _ _) rfl ⟨rfl,(dO H0.o M8.o.au).kF fun F' hF=>⟨v,hF⟩⟩
theorem Xj(g gs:Nat)(x:ak)(now fine:ae)(outs:List (bX×ae))(F:Nat->Prop)(w:World)(f:bX)(at_:ae)(hi:cw x)(hk2:f.kind.val≠2)(hk3:f.kind.val≠3)(hk4:f.kind.val≠4)(hk5:f.kind.val≠5)(hk6:f.kind.val≠6)(hk7:f.kind.val≠7)(hlo:0<=f.src.val)(hhi:f.src.val<64)(hl:outs.length<=1000)(h: (cq g x now fine outs).rep gs F w):Calls prog 158 #[.pointer (some ⟨g,0,none⟩),.agg (aL f at_ gs)] w fun r w'=>r= .returned (.tuple #[])/\kE (cq g (x) now fine (outs)) gs F w w':=by
 have M0:Hid (Mem w F [(w.heap.size,.row (aL f at_ gs)),(gs,cq g x now fine outs)] (w.alloc (.cells (aL f at_ gs) 237))):=(Mem.qA h).alloc;generalize hgh:w.heap.size=gh at M0;have e0: (w.alloc (.cells (aL f at_ gs) 237)).cell? ⟨gh,0,none⟩=some (.int .i64 f.kind.val):=M0.o.cell (i:=0) (k:=0) rfl rfl;have er:=M0.o.row (i:=0) rfl;have b2: (f.kind.val==2)=false:=by simpa using hk2
 have b3: (f.kind.val==3)=false:=by simpa using hk3
 have b4: (f.kind.val==4)=false:=by simpa using hk4
 have b5: (f.kind.val==5)=false:=by simpa using hk5
 have b6: (f.kind.val==6)=false:=by simpa using hk6
 have b7: (f.kind.val==7)=false:=by simpa using hk7
 clear h hi hk2 hk3 hk4 hk5 hk6 hk7 hlo hhi hl;go_enter func158,ntmps158;go_upto_region 1 with(fail);generalize (w.alloc (.cells (aL f at_ gs) 237))=w1 at*;clear hgh;go_wp2;exact bodyPost_end (results_none (fn:=Tryz.f158) rfl _ _ _) rfl ⟨rfl,Mem.xW M0.o.au⟩
theorem N3(g gs:Nat)(x:ak)(now fine:ae)(outs:List (bX×ae))(F:Nat->Prop)(w:World)(f:bX)(at_:ae)(hi:cw x)(hlo:0<=f.src.val)(hhi:f.src.val<64)(hl:outs.length<=1000)(h: (cq g x now fine outs).rep gs F w):Calls prog 158 #[.pointer (some ⟨g,0,none⟩),.agg (aL f at_ gs)] w fun r w'=>r= .returned (.tuple #[])/\kE (cq g (takeN x f at_ now fine) now fine (outs++qd x f at_ now fine)) gs F w w':=by
 unfold takeN qd;by_cases h5:f.kind.val=5
 ·rw[if_pos h5,if_neg (by omega),List.append_nil];exact Xh g gs x now fine outs F w f at_ hi h5 hlo hhi hl h
 rw[if_neg h5];by_cases h6:f.kind.val=6
 ·rw[if_pos h6,if_neg (by omega),List.append_nil];exact Xg g gs x now fine outs F w f at_ hi h6 hlo hhi hl h
 rw[if_neg h6];by_cases hr:f.kind.val=2∨f.kind.val=3∨f.kind.val=4
 ·rw[if_pos hr];by_cases hd:f.dst.val=x.id.val
  ·rw[if_pos hd,if_pos ⟨hr,hd⟩];rcases hr with hk|hk|hk
   ·exact Rm g gs x now fine outs F w f at_ hi hk hd hlo hhi hl h
   ·exact Ro g gs x now fine outs F w f at_ hi hk hd hlo hhi hl h
   ·exact Rq g gs x now fine outs F w f at_ hi hk hd hlo hhi hl h
  ·rw[if_neg hd,if_neg (fun h=>hd h.2),List.append_nil];rcases hr with hk|hk|hk
   ·exact Rn g gs x now fine outs F w f at_ hi hk hd hlo hhi hl h
   ·exact Rp g gs x now fine outs F w f at_ hi hk hd hlo hhi hl h
   ·exact Rr g gs x now fine outs F w f at_ hi hk hd hlo hhi hl h
 have ho: (if (f.kind.val=2∨f.kind.val=3∨f.kind.val=4)/\f.dst.val=x.id.val then lE x f at_ now fine else[])= []:=if_neg (fun h=>hr h.1);rw[if_neg hr,ho,List.append_nil];by_cases h7:f.kind.val=7
 ·rw[if_pos h7];exact Xi g gs x now fine outs F w f at_ hi h7 hlo hhi hl h
 rw[if_neg h7];exact Xj g gs x now fine outs F w f at_ hi (fun h=>hr (.inl h)) (fun h=>hr (.inr (.inl h))) (fun h=>hr (.inr (.inr h))) h5 h6 h7 hlo hhi hl h
structure qC (s:cZ):Prop where
 n0:1<=s.c.1.val
 n1:s.c.1.val<=64
 hp: (s.p.length:Int)=s.c.1.val
 hm: (s.mv.length:Int)=s.c.1.val
 t0:0<=s.time.val
 t1:s.time.val<=750000
 s0:0<=s.steps.val
 s1:s.steps.val<=16777215
theorem fh{n:Int}(h:-9223372036854775808<=n/\n<=9223372036854775807): (aeV n).val=n:=uG h
def lF(s:cZ):ae:=aeV (min (s.steps.val+1) 16777215)
def aU(s:cZ):cZ:={s with steps:=lF s}
def wG(s:cZ):ae:=aeV (s.time.val*16777216+(lF s).val)
theorem qC.step{s:cZ}(h:qC s):qC (aU s):=by have h1:=h.s0;have h2: (lF s).val=min (s.steps.val+1) 16777215:=fh (by have:=h.s1;omega);exact⟨h.n0,h.n1,h.hp,h.hm,h.t0,h.t1,by show 0<=(lF s).val;omega,by show(lF s).val<=_;omega⟩
theorem rL(s:cZ)(g:Nat)(F:Nat->Prop)(w:World)(hi:qC s)(h: (kD s).rep g F w):Calls prog 48 #[.pointer (some ⟨g,0,none⟩)] w fun e w'=>e= .returned (.int .i64 (wG s).val)/\kE (kD (aU s)) g F w w':=by
 obtain⟨vp,vm,h⟩:=h;have H:=qD (Mem.start h);have h1:=hi.s0;have h2:=hi.s1;have h3:=hi.t0;have h4:=hi.t1;have e1: (lF s).val=min (s.steps.val+1) 16777215:=fh (by omega);have e2: (wG s).val=s.time.val*16777216+(lF s).val:=fh (by omega);rw[e2];have E1:=qD e1;have hb:0<=(lF s).val:=by omega
 have hb2: (lF s).val<=16777215:=by omega
 have c14:=H.o.cell (i:=0) (k:=14) rfl rfl;have z14:=ax (H.o.row (i:=0) rfl) 14;have hgl:g<w.heap.size:=ab (H.o.row (i:=0) rfl);clear h hi e1 e2;go_enter func48,ntmps48;go_upto_region 4 with(fail);rw[<-E1.o];have M:=qD (H.o.bO (i:=0) (k:=14) (v:= .int .i64 (lF s).val) rfl (cs':=eQ (aU s) vp vm) rfl);generalize (w.setCell ⟨g,14,none⟩ (.int .i64 (lF s).val))=w1 at*;clear c14 z14 H hgl;have c14:w1.cell? ⟨g,14,none⟩=some (.int .i64 (lF s).val):=M.o.cell (i:=0) (k:=14) rfl rfl;have c13:w1.cell? ⟨g,13,none⟩=some (.int .i64 s.time.val):=M.o.cell (i:=0) (k:=13) rfl rfl;have k1:IntKind.i64.wrap (s.time.val*16777216)=s.time.val*16777216:=uG (by omega);have k2:IntKind.i64.wrap (s.time.val*16777216+(lF s).val)=s.time.val*16777216+(lF s).val:=uG (by omega)
 go_quiet (fail)
 go_wp2;go_ret;obtain⟨F',q1,q2,q3⟩:=M.o.below (⟨rfl,rfl,rfl,nL _,fun _ _=>rfl⟩:Below w1.heap.size w1 (w1.drewN _));exact⟨rfl,F',⟨vp,vm,q1⟩,q2,q3⟩
theorem aaL: (prog.info? 4).map (fun i=>(i.zero,i.size,i.bytes))=some (some (.bool false),1,1):=by kernel_rfl
theorem Rs:prog.underlying 65=some (.slice 4):=by kernel_rfl
theorem Xk(n:Nat)(hn:n<=64)(w:World): (Instr.makeSlice 65 (.int .i64 (n:Int)) (.int .i64 (n:Int))).run prog w= .ok (.slice (some ⟨w.heap.size,0,none⟩) n n) (w.alloc (.cells (madeCells #[.bool false] n) 4)):=by obtain⟨i,i1,i2,i3,i4⟩:=info_parts aaL;have h:=run_makeSlice (P:=prog) w 65 4 i _ Rs i1 i2 .i64 .i64 n n (by omega) (Int.le_refl _) (by rw[i3];omega) (by rw[i4];omega) (by omega);rw[i3] at h;simpa[Value.cells] using h
theorem Gd:∀n,(madeCells #[.bool false] n).toList=aW jj (List.replicate n false):=by
 intro n;apply List.ext_getElem?;intro i;have h2: (aW jj (List.replicate n false)).length=n*1:=by rw[cJ cK,List.length_replicate]
 by_cases hi:i<n
 ·have h1:=eZ cK (List.replicate n false) i 0 false (by simp[hi]) (by decide);rw[Nat.mul_one,Nat.add_zero] at h1;rw[h1];simp[madeCells,hi,jj,Nat.mod_one]
 ·rw[nE (by simp[madeCells];omega),nE (by omega)]
theorem pO(w:World)(n:Nat)(hn:n<=64)(t:TypeId)(ht:t=4):Own (w.alloc (.cells (madeCells #[.bool false] n) t)) w.heap.size 4 1 jj (.slice (some ⟨w.heap.size,0,none⟩) n n) (List.replicate n false):=by subst ht;unfold Own;rw[List.length_replicate,<-Gd];exact World.ownsRow_lit w _ n (nL _) (by simp only[maxLen];omega) (by rw[size_madeCells,Nat.mul_one])
def N4(s:cZ):cZ:={s with time:=aeV (s.time.val+1),steps:=i0,mv:=List.replicate s.p.length false}
def ix(s:cZ):Bool:=decide (s.time.val<750000)
def eK(s:cZ):cZ:=if ix s then N4 s else s
theorem qC.tick{s:cZ}(h:qC s):qC (eK s):=by
 unfold eK;split
 ·rename_i ht;unfold ix at ht;simp only[decide_eq_true_eq] at ht;have h1:=h.t0;have h2: (aeV (s.time.val+1)).val=s.time.val+1:=fh (by omega);exact⟨h.n0,h.n1,h.hp,by show((List.replicate s.p.length false).length:Int)=_;rw[List.length_replicate];exact h.hp,by show 0<=(aeV (s.time.val+1)).val;omega,by show(aeV (s.time.val+1)).val<=_;omega,by show(0:Int)<=0;omega,by show(0:Int)<=_;omega⟩
 ·exact h
theorem N5(s:cZ)(g:Nat)(F:Nat->Prop)(w:World)(hi:qC s)(h: (kD s).rep g F w):Calls prog 47 #[.pointer (some ⟨g,0,none⟩)] w fun e w'=>e= .returned (.bool (ix s))/\kE (kD (eK s)) g F w w':=by
 obtain⟨vp,vm,h⟩:=h;have H:=qD (Mem.start h);obtain⟨a0,vc,rfl⟩:=(H.o.own (i:=1) rfl).len;have h3:=hi.t0;have h4:=hi.t1;have hn:s.p.length<=64:=by have h5:=hi.hp;have h6:=hi.n1;omega
 have c13:=H.o.cell (i:=0) (k:=13) rfl rfl;have z13:=ax (H.o.row (i:=0) rfl) 13;have c14:=H.o.cell (i:=0) (k:=14) rfl rfl;have z14:=ax (H.o.row (i:=0) rfl) 14;have hgl:g<w.heap.size:=ab (H.o.row (i:=0) rfl);clear h hi;unfold ix eK;by_cases ht:s.time.val<750000
 ·have hd:ix s=true:=by unfold ix;simpa using ht
  have e1: (aeV (s.time.val+1)).val=s.time.val+1:=fh (by omega);have hd2:decide (s.time.val<750000)=true:=by simpa using ht
  rw[if_pos hd,hd2];have E1:=qD e1;have hmk:=Xk s.p.length hn;clear hd hd2 e1;go_enter func47,ntmps47;go_upto_region 4 with(fail);rw[<-E1.o];have M:=qD (((H.o.bO (i:=0) (k:=13) (v:= .int .i64 (aeV (s.time.val+1)).val) rfl rfl).bO (i:=0) (k:=14) (v:= .int .i64 i0.val) rfl rfl));have M:Hid (Mem w F [(g,.row (eQ {s with time:=aeV (s.time.val+1),steps:=i0} (.slice a0 s.p.length vc) vm)),(0,.own 33 2 bg (.slice a0 s.p.length vc) s.p),(0,.own 4 1 jj vm s.mv)] ((w.setCell ⟨g,13,none⟩ (.int .i64 (aeV (s.time.val+1)).val)).setCell ⟨g,14,none⟩ (.int .i64 0))):=M;generalize ((w.setCell ⟨g,13,none⟩ (.int .i64 (aeV (s.time.val+1)).val)).setCell ⟨g,14,none⟩ (.int .i64 0))=w1 at*;clear c14 z14 c13 z13 H hgl;have c11:=M.o.cell (i:=0) (k:=11) rfl rfl;have c12:=M.o.cell (i:=0) (k:=12) rfl rfl;have z12:=ax (M.o.row (i:=0) rfl) 12;have hgl:g<w1.heap.size:=ab (M.o.row (i:=0) rfl);have M2:=qD ((M.o.W8 (i:=2) rfl ((bZ _ w1).alloc (nL _) _) (pO w1 s.p.length hn 4 rfl)).bO (i:=0) (k:=12) (v:= .slice (some ⟨w1.heap.size,0,none⟩) s.p.length s.p.length) rfl (cs':=eQ (N4 s) (.slice a0 s.p.length vc) (.slice (some ⟨w1.heap.size,0,none⟩) s.p.length s.p.length)) rfl);rw[World.setCell_alloc_past _ g 12 _ hgl] at M2;clear M;go_wp2;go_ret;obtain⟨F',q1,q2,q3⟩:=M2.o;exact⟨rfl,F',⟨_,_,q1⟩,q2,q3⟩
 ·have hd:ix s=false:=by unfold ix;simpa using ht
  have hd2:decide (s.time.val<750000)=false:=by simpa using ht
  rw[hd,hd2];clear hd hd2;go_enter func47,ntmps47;go_wp2;go_ret;obtain⟨F',q1,q2,q3⟩:=H.o;exact⟨rfl,F',⟨_,_,q1⟩,q2,q3⟩
theorem xq{s:cZ}{i:Int}(h:ia s i=true):∃(k:Nat) (p:fX),i=k/\k<s.p.length/\s.p[k]? =some p/\uB s i=p:=by
 have h2:=h;unfold ia at h2;simp only[bI,decide_eq_true_eq] at h2;obtain⟨k,hk⟩:∃k:Nat,i=k:=⟨i.toNat,by omega⟩;subst hk;have hkl:k<s.p.length:=by omega
 obtain⟨p,hp⟩:∃p,s.p[k]? =some p:=⟨_,gE hkl⟩;exact⟨k,p,rfl,hkl,hp,by unfold uB;rw[h,Int.toNat_natCast,hp];rfl⟩
def jc(s:cZ)(i j:Int):ae:=if ia s i&&ia s j then CX (uB s i) (uB s j) else i0
theorem Ge(s:cZ)(g:Nat)(F:Nat->Prop)(w:World)(i j:Int)(h: (kD s).rep g F w):Calls prog 99 #[.pointer (some ⟨g,0,none⟩),.int .i64 i,.int .i64 j] w fun e w'=>e= .returned (.int .i64 (jc s i j).val)/\Below w.heap.size w w':=by
 have HI:=qD (pI s g F w i h);have HJ:=qD (pI s g F w j h);obtain⟨vp,vm,h⟩:=h;have H:=qD (Mem.start h);have hgl:g<w.heap.size:=ab (H.o.row (i:=0) rfl);clear h;unfold jc;cases hi:ia s i with
 |false=>
  rw[hi] at HI;clear hi HJ;go_enter func99,ntmps99;go_wp2_with (go_at_call 42;refine HI.o.mono ?_;rintro r w1 ⟨rfl,rfl⟩);go_ret;exact⟨rfl,bZ _ _⟩
 |true=>
  cases hj:ia s j with
  |false=>
   rw[hi] at HI;rw[hj] at HJ;clear hi hj;go_enter func99,ntmps99;go_wp2_with (first|(go_at_call 42;(with_reducible refine HI.o.mono ?_);rintro r w1 ⟨rfl,rfl⟩;clear HI)|(go_at_call 42;refine HJ.o.mono ?_;rintro r w1 ⟨rfl,rfl⟩));go_ret;exact⟨rfl,bZ _ _⟩
  |true=>
   obtain⟨k,p,rfl,hk,hp,ep⟩:=xq hi;obtain⟨m,q,rfl,hm,hq,eq⟩:=xq hj;rw[hi] at HI;rw[hj] at HJ;rw[ep,eq];obtain⟨g0,cap,cur,hv,h2,hg0,hbk,hcur⟩:=(H.o.own (i:=1) rfl).aI aeU (by omega);subst hv;obtain⟨f0,f1⟩:=hcur k p hp;obtain⟨f2,f3⟩:=hcur m q hq;have c11:w.cell? ⟨g,11,none⟩=some (.slice (some ⟨g0,0,none⟩) s.p.length cap):=H.o.cell (i:=0) (k:=11) rfl rfl;have HD:Hid (∀w,Calls prog 144 #[.agg (bg p),.agg (bg q)] w fun e w'=>e= .returned (.int .i64 (CX p q).val)/\Below w.heap.size w w'):=fun w=>QV p q w;revert HD;generalize CX p q=d;intro HD;clear hi hj hp ep hq eq hcur;go_enter func99,ntmps99;go_wp2_with (first|(go_at_call 42;(with_reducible refine HI.o.mono ?_);rintro r w1 ⟨rfl,rfl⟩;clear HI)|(go_at_call 42;refine HJ.o.mono ?_;rintro r w1 ⟨rfl,rfl⟩));refine aY ?_
   repeat quiet_step ((go_at_call 144;exact Calls.regrown_of (HD.o _)))
   refine wpQuiet_nil ?_;intro w1 hb1;go_wp2;go_ret;exact⟨rfl,hb1⟩
def Dz(k:Nat):fX:=(aeV (1000*((k:Int)%8)),aeV (1000*((k:Int)/8)),())
def uD(n:Nat):List fX:=(List.range n).map Dz
theorem J7(n:Nat):uD (n+1)=uD n++ [Dz n]:=by unfold uD;rw[List.range_succ,List.map_append];rfl
theorem oT(n:Nat): (uD n).length=n:=by simp[uD]
theorem N6: (prog.info? 33).map (fun i=>(i.zero,i.size,i.bytes))=some (some (.agg (bg eO)),2,16):=by kernel_rfl
theorem DA:prog.underlying 105=some (.slice 33):=by kernel_rfl
def rM(c:cT):cZ:=⟨c,uD c.1.val.toNat,List.replicate c.1.val.toNat false,i0,i0⟩
theorem N7{c:cT}(h0:1<=c.1.val)(h1:c.1.val<=64):qC (rM c):=
 ⟨h0,h1,by show((uD c.1.val.toNat).length:Int)=c.1.val;rw[oT];omega,by show((List.replicate c.1.val.toNat false).length:Int)=c.1.val;rw[List.length_replicate];omega,by show(0:Int)<=0;decide,by show(0:Int)<=750000;decide,by show(0:Int)<=0;decide,by show(0:Int)<=16777215;decide⟩
theorem Ru(c:cT)(w:World)(h:ae3 c=false):Calls prog 37 #[j6 c] w fun e w'=>e= .returned (.pointer none)/\Below w.heap.size w w':=by
 have HM:Hid (∀w,Calls prog 80 #[.agg (bd c)] w fun e w'=>e= .returned (.bool false)/\Below w.heap.size w w'):=fun w=>by rw[<-h];exact uQ c w
 have B0:Hid (Below w.heap.size w (w.alloc (.cells (bd c) 26))):=(bZ _ w).alloc (nL _) _;clear h;unfold j6;go_enter func37,ntmps37;go_wp2_with (go_at_call 80;refine qHG (HM.o _) fun w1 B1=>?_);go_ret;exact⟨rfl,B0.o.trans (B1.o.mono (by simp))⟩
theorem Rv(c:cT)(w:World)(h:ae3 c=true)(h0:1<=c.1.val)(h1:c.1.val<=64):Calls prog 37 #[j6 c] w fun e w'=>∃g,e= .returned (.pointer (some ⟨g,0,none⟩))/\w.heap.size<=g/\kE (kD (rM c)) g (fun _=>False) w w':=by
 have HM:Hid (∀w,Calls prog 80 #[.agg (bd c)] w fun e w'=>e= .returned (.bool true)/\Below w.heap.size w w'):=fun w=>by rw[<-h];exact uQ c w
 have B0:Hid (Below w.heap.size w (w.alloc (.cells (bd c) 26))):=(bZ _ w).alloc (nL _) _;have z0: (w.alloc (.cells (bd c) 26)).aI w.heap.size=some (bd c):=by simp[af,aq]
 obtain⟨n,hn⟩:∃n:Nat,c.1.val=n:=⟨c.1.val.toNat,by omega⟩;have n0:1<=n:=by omega
 have n1:n<=64:=by omega
 have hmk:=Xk n n1;have HN:=qD hn;clear h h0 h1 hn;unfold j6;go_enter func37,ntmps37;go_upto_region 3 with(go_at_call 80;refine(HM.o _).mono ?_;rintro r w1 ⟨rfl,hb⟩;have B1:=qD (B0.o.trans (hb.mono (by simp)));have z1:=(ah hb (by simp)).trans z0;clear hb);have hl1:=ab z1;have c0:w1.cell? ⟨w.heap.size,0,none⟩=some (.int .i64 n):=by rw[ao z1,<-HN.o];rfl
 refine fc 4 [3] (fun w'=>w'.aI w.heap.size=some (bd c)/\w'.cell? ⟨w.heap.size,0,none⟩=some (.int .i64 n)) (by kernel_rfl) (by kernel_rfl) ⟨z1,c0⟩ ?_;simp only[tA,tD,tC,tE];refine dR rfl rfl (by rintro w' ⟨s1,s2⟩ K hK;go_simp;exact hK.o) ?_;refine dR rfl rfl (by rintro w' ⟨s1,s2⟩ K hK;go_simp;exact hK.o) ?_;refine dR rfl rfl (by rintro w' ⟨s1,s2⟩ K hK;go_simp;exact hK.o) ?_;refine gz rfl (fun K hK=>?_);have O1:Hid (Own (w1.alloc (.cells (madeCells #[.bool false] n) 4)).drew w1.heap.size 4 1 jj (.slice (some ⟨w1.heap.size,0,none⟩) n n) (List.replicate n false)):=pO w1.drew n n1 4 rfl;have M1:Hid (Mem w (fun _=>False) [(0,.own 4 1 jj (.slice (some ⟨w1.heap.size,0,none⟩) n n) (List.replicate n false))] (w1.alloc (.cells (madeCells #[.bool false] n) 4)).drew):=((Mem.none w).below B1.o).push (((bZ _ w1).alloc (nL _) _).drew) ⟨fun x=>Iff.rfl,O1.o.mono (Nat.zero_le _)⟩ (fun x hx=>O1.o.ge x hx);have z2: (w1.alloc (.cells (madeCells #[.bool false] n) 4)).drew.aI w.heap.size=some (bd c):=by rw[uX,af,if_neg (by omega)];exact z1
 go_wp2;generalize (w1.alloc (.cells (madeCells #[.bool false] n) 4)).drew=w2 at*;have c2:w2.cell? ⟨w.heap.size,0,none⟩=some (.int .i64 n):=by rw[ao z2,<-HN.o];rfl
 refine hK.o _ _ ⟨z2,c2⟩ ?_;clear hK z1 c0 O1;refine jG ?_;refine br _ (.agg (eQ ⟨c,[],[],i0,i0⟩ (.slice none 0 0) (.slice (some ⟨w1.heap.size,0,none⟩) n n))) w2 rfl (by kernel_rfl) ?_;go_wp2;refine NoPanic.normal ?_;have M3:Hid (Mem w (fun _=>False) [(w2.heap.size,.row (eQ ⟨c,[],[],i0,i0⟩ (.slice none 0 0) (.slice (some ⟨w1.heap.size,0,none⟩) n n))),(0,.own 4 1 jj (.slice (some ⟨w1.heap.size,0,none⟩) n n) (List.replicate n false))] (w2.alloc (.cells (eQ ⟨c,[],[],i0,i0⟩ (.slice none 0 0) (.slice (some ⟨w1.heap.size,0,none⟩) n n)) 107))):=M1.o.alloc;have c3: (w2.alloc (.cells (eQ ⟨c,[],[],i0,i0⟩ (.slice none 0 0) (.slice (some ⟨w1.heap.size,0,none⟩) n n)) 107)).cell? ⟨w.heap.size,0,none⟩=some (.int .i64 n):=by rw[(((bZ _ w2).alloc (nL _) _)).cell (p:=⟨w.heap.size,0,none⟩) (ab z2)];exact c2
 have GE:Hid (w.heap.size<=w2.heap.size):=M1.o.size;obtain⟨gw,hgw⟩:∃gw,gw=w2.heap.size:=⟨_,rfl⟩;rw[<-hgw] at M3 GE ⊢;generalize (w2.alloc (.cells (eQ ⟨c,[],[],i0,i0⟩ (.slice none 0 0) (.slice (some ⟨w1.heap.size,0,none⟩) n n)) 107))=w3 at*;clear M1 z2 c2 hgw HM B0 B1 z0 hl1;have M4:Hid (Mem w (fun _=>False) [(0,.own 33 2 bg (.slice none 0 0) (uD 0)),(gw,.row (eQ ⟨c,[],[],i0,i0⟩ (.slice none 0 0) (.slice (some ⟨w1.heap.size,0,none⟩) n n))),(0,.own 4 1 jj (.slice (some ⟨w1.heap.size,0,none⟩) n n) (List.replicate n false))] w3):=M3.o.nil;clear M3;generalize (Value.slice (some ⟨w1.heap.size,0,none⟩) n n)=vm at*;go_upto_region 5 with(fail)
 go_loopw [4,16] (fun x4 i wr=>∃(k:Nat) (vp:Value),k<=n/\i= .int .i64 k/\Hid (Mem w (fun _=>False) [(0,.own 33 2 bg vp (uD k)),(gw,.row (eQ ⟨c,[],[],i0,i0⟩ vp vm)),(0,.own 4 1 jj vm (List.replicate n false))] wr)) (fun _ i _=>n-(intOf i).toNat)
 case atStart=>exact⟨0,_,by omega,rfl,M4⟩
 case round=>
  obtain⟨k,vp,hk,rfl,M⟩:=hrel;by_cases hlt:k<n
  ·obtain⟨a0,cp,hvp⟩:=(M.o.own (i:=0) rfl).len;rw[oT] at hvp;subst hvp;have c11:wr.cell? ⟨gw,11,none⟩=some (.slice a0 k cp):=M.o.cell (i:=1) (k:=11) rfl rfl;have z11:=ax (M.o.row (i:=1) rfl) 11;have EX:Hid ((aeV (1000*((k:Int)%8))).val=1000*((k:Int)%8)):=fh (by omega);have EY:Hid ((aeV (1000*((k:Int)/8))).val=1000*((k:Int)/8)):=fh (by omega);have HE:Hid (#[.int .i64 (1000*((k:Int)%8)),.int .i64 (1000*((k:Int)/8))]=bg (Dz k)):=by show _= #[Value.int .i64 (aeV (1000*((k:Int)%8))).val,.int .i64 (aeV (1000*((k:Int)/8))).val];rw[EX.o,EY.o]
   have MB:=qD (M.o.below ((bZ _ wr).alloc (nL _) (.cells (bg (Dz k)) 33)));have EB:Hid ((wr.alloc (.cells (bg (Dz k)) 33)).aI wr.heap.size=some (bg (Dz k))):=by show _=_;simp[af,aq]
   have HL:Hid (k<=999999):=by show _<=_;omega
   clear EX EY;go_upto_region 8 with(first|(refine dN rfl _ 105 33 rfl DA N6 rfl (by decide) (by decide) _ rfl (bg (Dz k)) HE.o rfl ?_)|(at_builtin;refine fq rfl _ _ 105 33 rfl DA N6 rfl (by decide) (j:=0) k (oT k) rfl MB.o rfl wr.heap.size 1 rfl (Dz k) EB.o aeU NB HL.o (by decide) ?_;intro a4 c4 w4 M4 l4;have M5:=qD M4;clear M4 l4 MB c11 z11;have c11:w4.cell? ⟨gw,11,none⟩=some (.slice a0 k cp):=M5.o.cell (i:=1) (k:=11) rfl rfl;have z11:=ax (M5.o.row (i:=1) rfl) 11));have M6:=qD (M5.o.bO (i:=1) (k:=11) (v:= .slice a4 (k+1) c4) (cs':=eQ ⟨c,[],[],i0,i0⟩ (.slice a4 (k+1) c4) vm) rfl rfl);clear M5 c11 z11 M;go_wp2;go_roundw
   case rel=>exact⟨k+1,.slice a4 (k+1) c4,by omega,by go_num,by rw[J7];exact M6⟩
   case measure=>simp[intOf];omega
  ·have hkn:k=n:=by omega
   subst hkn;go_wp2;go_ret;refine⟨gw,rfl,GE.o,(M.o.perm (List.Perm.swap _ _ _)).kF fun F' hF=>⟨vp,vm,?_⟩⟩;have hk2:c.1.val.toNat=k:=by rw[HN.o];omega
   unfold W7 rM;rw[hk2];exact hF
end
end Go.Proofs.Yq
namespace Go
open Ieee
def Gf:Nat:=4706261610602168320
def DB:Nat:=13929633647456944128
theorem Xl:FloatKind.f64.decode Gf= .number false (2^52) (-30):=by decide
theorem Xm:FloatKind.f64.decode DB= .number true (2^52) (-30):=by decide
theorem Xn(s:Bool)(n d:Nat):Toward.cut .zero s n d*2^d<=n:=by
 unfold Toward.cut;simp only[Bool.toNat_false,Nat.add_zero,Nat.one_shiftLeft];by_cases h:d<=n.log2+2
 ·rw[Nat.min_eq_left h];exact Nat.div_mul_le_self _ _
 ·rw[Nat.min_eq_right (by omega)];have h1:n<2^(n.log2+2):=nU (Nat.lt_log2_self) (Nat.pow_le_pow_right (by decide) (by omega));rw[Nat.div_eq_of_lt h1,Nat.zero_mul];exact Nat.zero_le _
theorem Rx(s:Bool)(m:Nat)(i:Int)(h:m*2^(i-min i (-30)).toNat<=2^52*2^(-30-min i (-30)).toNat):Toward.cut .zero s (m<<<i.toNat) (-i).toNat<=2^22:=by
 have h1:=Xn s (m<<<i.toNat) (-i).toNat;rw[Nat.shiftLeft_eq] at h1 ⊢;generalize Toward.cut .zero s (m*2^i.toNat) (-i).toNat=c at*;by_cases h0:i<=-30
 ·obtain⟨d,hd⟩:∃d:Nat,i= -30-(d:Int):=⟨(-30-i).toNat,by omega⟩;have e1:i.toNat=0:=by omega
  have e2: (-i).toNat=30+d:=by omega
  have e3: (i-min i (-30)).toNat=0:=by omega
  have e4: (-30-min i (-30)).toNat=d:=by omega
  rw[e1,e2,Nat.pow_add,<-Nat.mul_assoc,Nat.pow_zero,Nat.mul_one] at h1;rw[e3,e4,Nat.pow_zero,Nat.mul_one] at h;have h2:c*2^30<=2^52:=Nat.le_of_mul_le_mul_right (nT h1 h) (Nat.pow_pos (by decide));omega
 ·have e4: (-30-min i (-30)).toNat=0:=by omega
  rw[e4,Nat.pow_zero,Nat.mul_one] at h;by_cases h2:0<=i
  ·have e1: (-i).toNat=0:=by omega
   have e2: (i-min i (-30)).toNat=i.toNat+30:=by omega
   rw[e1,Nat.pow_zero,Nat.mul_one] at h1;rw[e2,Nat.pow_add,<-Nat.mul_assoc] at h;generalize m*2^i.toNat=q at*;omega
  ·have e1:i.toNat=0:=by omega
   obtain⟨d,hd⟩:∃d,d=(-i).toNat:=⟨_,rfl⟩;have e2: (i-min i (-30)).toNat=30-d:=by omega
   rw[e1,<-hd,Nat.pow_zero,Nat.mul_one] at h1;rw[e2] at h;have h3:c*2^d*2^(30-d)<=2^52:=nT (nR _ h1) h;rw[Nat.mul_assoc,<-Nat.pow_add,show d+(30-d)=30 by omega] at h3;omega
theorem Xo{a b:Int}(h:compare a b= .lt):a<b:=by
 simp only[compare,compareOfLessAndEq] at h;split at h
 ·assumption
 ·split at h <;> cases h
theorem cmp_eq{a b:Int}(h:compare a b= .eq):a=b:=by
 simp only[compare,compareOfLessAndEq] at h;split at h
 ·cases h
 ·split at h
  ·assumption
  ·cases h
theorem Xp{a b:Int}(h:compare a b= .gt):b<a:=by
 simp only[compare,compareOfLessAndEq] at h;split at h
 ·cases h
 ·split at h
  ·cases h
  ·omega
theorem N8(x:Nat)(h1:FloatKind.f64.format.order x Gf=some .lt∨FloatKind.f64.format.order x Gf=some .eq)(h2:FloatKind.f64.format.order x DB=some .gt∨FloatKind.f64.format.order x DB=some .eq):∃n:Int,floatToIntVal .f64 x .i64=some n/\-9223372036854775808<=n/\n<=9223372036854775807:=by
 have d1:=Xl;have d2:=Xm;unfold FloatKind.decode at d1 d2;unfold Format.order at h1 h2;rw[d1] at h1;rw[d2] at h2;unfold floatToIntVal FloatKind.decode;generalize FloatKind.f64.format.read x=d at*;cases d with
 |nan s t=>simp[Datum.order] at h1
 |infinity s=>
  cases s
  ·simp[Datum.order] at h1
  ·simp[Datum.order] at h2
 |number s m i=>
  simp only[Datum.order,oI] at h1 h2;replace h1:=h1.imp Xo cmp_eq;replace h2:=h2.imp Xp cmp_eq;have hm:m*2^(i-min i (-30)).toNat<=2^52*2^(-30-min i (-30)).toNat:=by
   unfold signed at h1 h2;simp only[Nat.shiftLeft_eq] at h1 h2;generalize m*2^(i-min i (-30)).toNat=a at*;generalize 2^52*2^(-30-min i (-30)).toNat=b at*;cases s
   ·simp only[Bool.false_eq_true,if_false] at h1;omega
   ·simp only[if_true] at h2;omega
  have hc:=Rx s m i hm;have ht:Datum.toInt .zero (.number s m i)=some (signed s (Toward.cut .zero s (m<<<i.toNat) (-i).toNat) 0):=rfl;rw[ht];generalize Toward.cut .zero s (m<<<i.toNat) (-i).toNat=c at*;have hs:-4194304<=signed s c 0/\signed s c 0<=4194304:=by
   unfold signed;simp only[Nat.shiftLeft_zero];cases s
   ·simp only[Bool.false_eq_true,if_false];omega
   ·simp only[if_true];omega
  generalize signed s c 0=z at*;refine⟨z,?_,by omega,by omega⟩;have e1:IntKind.i64.min= -9223372036854775808:=by decide
  have e2:IntKind.i64.max=9223372036854775807:=by decide
  simp only[];rw[if_pos ⟨by rw[e1];omega,by rw[e2];omega⟩]
theorem N9(n:Int)(h0:-4194304<=n)(h1:n<=4194304):∃s m e,FloatKind.f64.format.read (floatOfInt .f64 n)= .number s m e:=by
 unfold floatOfInt FloatKind.nearest FloatKind.encode;show ∃s m e,FloatKind.f64.format.read (FloatKind.f64.format.nearest _ _ _)=_;have hm:n.natAbs<=4194304:=by omega
 generalize n.natAbs=m at*;generalize decide (n<0)=s;have key:∀r,r<9218868437227405312->∃s' m' e',FloatKind.f64.format.read (FloatKind.f64.format.word s r)= .number s' m' e':=by
  intro r hr;have e1:FloatKind.f64.format.signWeight=9223372036854775808:=by decide
  have e2:FloatKind.f64.format.binade=4503599627370496:=by decide
  have e3:FloatKind.f64.format.infRung=9218868437227405312:=by decide
  have e4:FloatKind.f64.format.word s r%9223372036854775808=r:=by unfold Format.word;rw[e1];split <;> omega
  unfold Format.read;simp only[e1,e2,e3,e4];by_cases h3:r<4503599627370496
  ·rw[if_pos h3];exact⟨_,_,_,rfl⟩
  ·rw[if_neg h3,if_pos hr];exact⟨_,_,_,rfl⟩
 unfold Format.nearest;by_cases hz:m=0
 ·rw[if_pos hz];exact key 0 (by decide)
 ·rw[if_neg hz];have hlog:m.log2<=22:=by
   rcases nO 22 m.log2 with h|h
   ·have:=Nat.log2_self_le hz;have h3:2^23<=2^m.log2:=Nat.pow_le_pow_right (by decide) h;omega
   ·exact h
  have e1: (FloatKind.f64.format.fractionBits:Int)=52:=rfl;have e2:FloatKind.f64.format.leastPlace= -1074:=by decide
  have e3:FloatKind.f64.format.infRung=9218868437227405312:=by decide
  have e4:FloatKind.f64.format.binade=4503599627370496:=by decide
  have e5:max (0+(m.log2:Int)-FloatKind.f64.format.fractionBits) FloatKind.f64.format.leastPlace=(m.log2:Int)-52:=by rw[e1,e2];omega
  simp only[e5];have e6: ((m.log2:Int)-52-0).toNat=0:=by omega
  have e7: (0-((m.log2:Int)-52)).toNat=52-m.log2:=by omega
  have e8: (((m.log2:Int)-52)-FloatKind.f64.format.leastPlace).toNat=m.log2+1022:=by rw[e2];omega
  rw[e6,e7,e8,e4,e3];have hk:Toward.even.cut s (m<<<(52-m.log2)) 0<=9007199254740992:=by
   have hb:m<<<(52-m.log2)<=9007199254740991:=by rw[Nat.shiftLeft_eq];have h3:m<2^(m.log2+1):=Nat.lt_log2_self;have h4:m*2^(52-m.log2)<2^(m.log2+1)*2^(52-m.log2):=Nat.mul_lt_mul_of_pos_right h3 (Nat.pow_pos (by decide));rw[<-Nat.pow_add,show m.log2+1+(52-m.log2)=53 by omega] at h4;omega
   generalize m<<<(52-m.log2)=q at*;unfold Toward.cut;simp only[Nat.zero_min,Nat.one_shiftLeft,Nat.pow_zero,Nat.div_one,Nat.mod_one];have:∀b:Bool,b.toNat<=1:=fun b=>by cases b <;> decide
   have h3:=this (decide (1<2*0)||(1==2*0&&q%2==1));omega
  have hbig:∀l q:Nat,l<=22->q<=9007199254740992->(l+1022)*4503599627370496+q<9218868437227405312:=fun l q h h'=>Nat.lt_of_le_of_lt (Nat.add_le_add (nR _ (Nat.add_le_add_right h 1022)) h') (by decide);exact key _ (Nat.lt_of_le_of_lt (Nat.min_le_left _ _) (hbig _ _ hlog hk))
theorem Is{x y:Nat}(hx:∃s m e,FloatKind.f64.format.read x= .number s m e)(hy:∃s m e,FloatKind.f64.format.read y= .number s m e):∃r,FloatKind.f64.format.sub x y=some r:=by obtain⟨s,m,e,hx⟩:=hx;obtain⟨s',m',e',hy⟩:=hy;unfold Format.sub;rw[hx,hy];simp only[Datum.opposite,Datum.sum,Option.map_some];exact⟨_,rfl⟩
end Go
namespace Go.Proofs.Yq
open ChangeShapes WideShapes ChangeAt RowKit Ev
open Tryz
noncomputable section
theorem xr(x:Nat):∃(n:ae) (b:Bool),∀w,Calls prog 139 #[.float .f64 x] w fun e w'=>e= .returned (.tuple #[.int .i64 n.val,.bool b])/\w'=w:=by
 by_cases h1:FloatKind.f64.format.order x DB=some .gt∨FloatKind.f64.format.order x DB=some .eq
 ·by_cases h2:FloatKind.f64.format.order x Gf=some .lt∨FloatKind.f64.format.order x Gf=some .eq
  ·obtain⟨n,hn,n0,n1⟩:=N8 x h2 h1;have hc:∀w,(convert 154 2 (.float .f64 x)).run prog w= .ok (.int .i64 n) w:=fun w=>run_convert_float_int (P:=prog) w 154 2 .f64 .i64 x n (by kernel_rfl) (by kernel_rfl) hn;refine⟨⟨n,n0,n1⟩,FloatKind.f64.format.order (floatOfInt .f64 n) x==some .eq,fun w=>?_⟩;unfold DB at h1;unfold Gf at h2;clear hn;rcases h1 with h1|h1 <;> rcases h2 with h2|h2 <;>
   ·go_enter func139,ntmps139;go_wp2;go_ret2;exact⟨rfl,rfl⟩
  ·refine⟨i0,false,fun w=>?_⟩;have d1: (FloatKind.f64.format.order x 4706261610602168320==some .lt||FloatKind.f64.format.order x 4706261610602168320==some .eq)=false:=by unfold Gf at h2;simp only[not_or] at h2;simp[h2.1,h2.2]
   unfold DB at h1;clear h2;rcases h1 with h1|h1 <;>
   ·go_enter func139,ntmps139;go_wp2;go_ret2;exact⟨rfl,rfl⟩
 ·refine⟨i0,false,fun w=>?_⟩;have d1: (FloatKind.f64.format.order x 13929633647456944128==some .gt||FloatKind.f64.format.order x 13929633647456944128==some .eq)=false:=by unfold DB at h1;simp only[not_or] at h1;simp[h1.1,h1.2]
  clear h1;go_enter func139,ntmps139;go_wp2;go_ret2;exact⟨rfl,rfl⟩
def oU(x:Nat):ae×Bool:=⟨(xr x).choose,(xr x).choose_spec.choose⟩
theorem DC(x:Nat)(w:World):Calls prog 139 #[.float .f64 x] w fun e w'=>e= .returned (.tuple #[.int .i64 (oU x).1.val,.bool (oU x).2])/\w'=w:=(xr x).choose_spec.choose_spec w
def Pv(a b:Nat):fX×Bool:=if (oU a).2&&(oU b).2 then(((oU a).1,(oU b).1,()),true) else(eO,false)
theorem aaM(a b:Nat)(w:World):Calls prog 92 #[.complex .f64 a b] w fun e w'=>e= .returned (.tuple #[FI (Pv a b).1,.bool (Pv a b).2])/\Below w.heap.size w w':=by
 have HA:=qD (fun w=>DC a w);have HB:=qD (fun w=>DC b w);unfold Pv;revert HA HB;generalize oU a=x;generalize oU b=y;intro HA HB;obtain⟨x,p⟩:=x;obtain⟨y,q⟩:=y;have hz:=lB;have B0:Hid (Below w.heap.size w (w.alloc (.cells (bg eO) 33))):=(bZ _ w).alloc (nL _) _;have hz0: (w.alloc (.cells (bg eO) 33)).aI w.heap.size=some (bg eO):=by simp[af,aq]
 have hb:∀w,(Instr.build 33 #[]).run prog w= .ok (.agg (bg eO)) w:=fun w=>by kernel_rfl
 have hb2: ((bg eO).setIfInBounds 0 (.int .i64 x.val)).setIfInBounds 1 (.int .i64 y.val)=bg (x,y,()):=rfl;cases p <;> cases q
 ·go_enter func92,ntmps92;go_wp2_with (first|(go_at_call 139;(with_reducible refine(HA.o _).mono ?_);rintro r w1 ⟨rfl,rfl⟩;clear HA)|(go_at_call 139;refine(HB.o _).mono ?_;rintro r w1 ⟨rfl,rfl⟩));exact bodyPost_ret (aA (fn:=Tryz.f92) rfl rfl (FX (putRow (cs0:=bg eO) hz0 (by simp[aeU])) (aeU _))) rfl ⟨rfl,aa B0.o (nL _) _ _⟩
 ·go_enter func92,ntmps92;go_wp2_with (first|(go_at_call 139;(with_reducible refine(HA.o _).mono ?_);rintro r w1 ⟨rfl,rfl⟩;clear HA)|(go_at_call 139;refine(HB.o _).mono ?_;rintro r w1 ⟨rfl,rfl⟩));exact bodyPost_ret (aA (fn:=Tryz.f92) rfl rfl (FX (putRow (cs0:=bg eO) hz0 (by simp[aeU])) (aeU _))) rfl ⟨rfl,aa B0.o (nL _) _ _⟩
 ·go_enter func92,ntmps92;go_wp2_with (first|(go_at_call 139;(with_reducible refine(HA.o _).mono ?_);rintro r w1 ⟨rfl,rfl⟩;clear HA)|(go_at_call 139;refine(HB.o _).mono ?_;rintro r w1 ⟨rfl,rfl⟩));exact bodyPost_ret (aA (fn:=Tryz.f92) rfl rfl (FX (putRow (cs0:=bg eO) hz0 (by simp[aeU])) (aeU _))) rfl ⟨rfl,aa B0.o (nL _) _ _⟩
 ·go_enter func92,ntmps92;go_wp2_with (first|(go_at_call 139;(with_reducible refine(HA.o _).mono ?_);rintro r w1 ⟨rfl,rfl⟩;clear HA)|(go_at_call 139;refine(HB.o _).mono ?_;rintro r w1 ⟨rfl,rfl⟩));exact bodyPost_ret (aA (fn:=Tryz.f92) rfl rfl (FX (putRow (cs:=bg (x,y,())) (cs0:=bg eO) hz0 (by simp[aeU])) (aeU _))) rfl ⟨rfl,aa B0.o (nL _) _ _⟩
def xX(p:fX):Nat:=if jS p then floatOfInt .f64 p.1.val else 0
def xY(p:fX):Nat:=if jS p then floatOfInt .f64 p.2.1.val else 0
theorem It(p:fX)(w:World):Calls prog 43 #[FI p] w fun e w'=>e= .returned (.complex .f64 (xX p) (xY p))/\Below w.heap.size w w':=by
 have HM:Hid (∀w,Calls prog 91 #[.agg (bg p)] w fun e w'=>e= .returned (.bool (jS p))/\Below w.heap.size w w'):=fun w=>qu p w;have hz0: (w.alloc (.cells (bg p) 33)).aI w.heap.size=some (bg p):=by simp[af,aq]
 have B0:Hid (Below w.heap.size w (w.alloc (.cells (bg p) 33))):=(bZ _ w).alloc (nL _) _;show Calls prog 43 #[.agg (bg p)] w _;unfold xX xY;revert HM;generalize jS p=b;intro HM;cases b with
 |false=>
  go_enter func43,ntmps43;go_wp2_with (go_at_call 91;refine(HM.o _).mono ?_;rintro r w1 ⟨rfl,hb⟩;have B1:=qD (B0.o.trans (hb.mono (by simp)));clear hb);go_ret;exact⟨rfl,B1.o⟩
 |true=>
  go_enter func43,ntmps43;go_upto_region 3 with(go_at_call 91;refine(HM.o _).mono ?_;rintro r w1 ⟨rfl,hb⟩;have z1:=(ah hb (by simp)).trans hz0;have B1:=qD (B0.o.trans (hb.mono (by simp)));clear hb);have c0:w1.cell? ⟨w.heap.size,0,none⟩=some (.int .i64 p.1.val):=by rw[ao z1];rfl
  have c1:w1.cell? ⟨w.heap.size,1,none⟩=some (.int .i64 p.2.1.val):=by rw[ao z1];rfl
  go_wp2;go_ret;exact⟨rfl,B1.o⟩
def oV(a b:Nat)(m:ae):Bool:=(Pv a b).2&&decide ((CZ (Pv a b).1).val<=(aeV (m.val*m.val)).val)
theorem DD(a b:Nat)(m:ae)(w:World):Calls prog 44 #[.complex .f64 a b,.int .i64 m.val] w fun e w'=>e= .returned (.bool (oV a b m))/\Below w.heap.size w w':=by
 have HT:Hid (∀w,Calls prog 92 #[.complex .f64 a b] w fun e w'=>e= .returned (.tuple #[.agg (bg (Pv a b).1),.bool (Pv a b).2])/\Below w.heap.size w w'):=fun w=>aaM a b w;have HN:Hid (∀w,Calls prog 93 #[.agg (bg (Pv a b).1)] w fun e w'=>e= .returned (.int .i64 (CZ (Pv a b).1).val)/\Below w.heap.size w w'):=fun w=>QX _ w;unfold oV;rw[lC];revert HT HN;generalize Pv a b=x;intro HT HN;obtain⟨x,p⟩:=x;revert HN;generalize CZ (x,p).1=n;intro HN;have hz:=lB;have hb:∀w,(Instr.build 33 #[]).run prog w= .ok (.agg (bg eO)) w:=fun w=>by kernel_rfl
 cases p
 ·go_enter func44,ntmps44;go_wp2_with (first|(go_at_call 92;(with_reducible refine(HT.o _).mono ?_);rintro r w1 ⟨rfl,hb1⟩;have B1:=qD hb1;clear hb1));go_ret;exact⟨rfl,aa (B1.o.alloc B1.o.size _) B1.o.size _ _⟩
 ·go_enter func44,ntmps44;go_wp2_with (first|(go_at_call 92;(with_reducible refine(HT.o _).mono ?_);rintro r w1 ⟨rfl,hb1⟩;have B1:=qD hb1;clear hb1)|(go_at_call 93;refine qHG (HN.o _) fun w2 B2=>?_));go_ret;have B3:=aa (B1.o.alloc B1.o.size (.cells (bg eO) 33)) B1.o.size 0 (bg x).toList;exact⟨rfl,B3.trans (B2.o.mono B3.size)⟩
def mY:World:=default
theorem Oa(n m:Int)(w:World)(hm:0<=m)(hm2:m<=9223372036854775807)(h:n< -m∨m<n):Calls prog 138 #[.int .i64 n,.int .i64 m] w fun e w'=>e= .returned (.bool false)/\w'=w:=by
 by_cases h1:-m<=n
 ·have h2:¬n<=m:=by omega
  clear h;go_enter func138,ntmps138;go_wp2;go_ret;exact⟨rfl,rfl⟩
 ·clear h;have h1:n< -m:=by omega
  go_enter func138,ntmps138;go_wp2;go_ret;exact⟨rfl,rfl⟩
theorem Ry(n m:Int)(w:World)(hm:0<=m)(hm2:m<=9223372036854775807)(h1:-m<=n)(h2:n<=m):Calls prog 138 #[.int .i64 n,.int .i64 m] w fun e w'=>e= .returned (.bool true)/\w'=w:=by go_enter func138,ntmps138;go_wp2;go_ret;exact⟨rfl,rfl⟩
theorem Gg(p:fX)(h:jS p=true): (-4194304<=p.1.val/\p.1.val<=4194304)/\(-4194304<=p.2.1.val/\p.2.1.val<=4194304):=by
 have key:∀(hn: (p.1.val< -4194304∨4194304<p.1.val)∨((-4194304<=p.1.val/\p.1.val<=4194304)/\(p.2.1.val< -4194304∨4194304<p.2.1.val))),Calls prog 91 #[.agg (bg p)] mY fun e w'=>e= .returned (.bool false)/\True:=by
  intro hn;have c0: (mY.alloc (.cells (bg p) 33)).cell? ⟨mY.heap.size,0,none⟩=some (.int .i64 p.1.val):=by simp[World.cell?_alloc_new,bg]
  have c1: (mY.alloc (.cells (bg p) 33)).cell? ⟨mY.heap.size,1,none⟩=some (.int .i64 p.2.1.val):=by simp[World.cell?_alloc_new,bg]
  generalize mY=w at*;rcases hn with hn|⟨hn,hm⟩
  ·have HC:=qD (fun w=>Oa p.1.val 4194304 w (by decide) (by decide) hn);clear hn h;go_enter func91,ntmps91;go_wp2_with (go_at_call 138;refine(HC.o _).mono ?_;rintro r w1 ⟨rfl,rfl⟩);go_ret;exact⟨rfl,trivial⟩
  ·have HC:=qD (fun w=>Ry p.1.val 4194304 w (by decide) (by decide) hn.1 hn.2);have HD:=qD (fun w=>Oa p.2.1.val 4194304 w (by decide) (by decide) hm);clear hn h hm;go_enter func91,ntmps91;go_wp2_with (first|(go_at_call 138;(with_reducible refine(HC.o _).mono ?_);rintro r w1 ⟨rfl,rfl⟩)|(go_at_call 138;refine(HD.o _).mono ?_;rintro r w1 ⟨rfl,rfl⟩));go_ret;exact⟨rfl,trivial⟩
 by_cases h1:-4194304<=p.1.val/\p.1.val<=4194304
 ·by_cases h2:-4194304<=p.2.1.val/\p.2.1.val<=4194304
  ·exact⟨h1,h2⟩
  ·have h3:=key (.inr ⟨h1,by omega⟩);have h4:=Calls.both (qu p mY) h3 (by kernel_rfl);rw[h] at h4;cases h4
 ·have h3:=key (.inl (by omega));have h4:=Calls.both (qu p mY) h3 (by kernel_rfl);rw[h] at h4;cases h4
theorem Xq(n m:Int)(w:World)(h:n<1∨m<n):Calls prog 133 #[.int .i64 n,.int .i64 1,.int .i64 m] w fun e w'=>e= .returned (.bool false)/\w'=w:=by
 by_cases h1:1<=n
 ·have h2:¬n<=m:=by omega
  clear h;go_enter func133,ntmps133;go_wp2;go_ret;exact⟨rfl,rfl⟩
 ·clear h;go_enter func133,ntmps133;go_wp2;go_ret;exact⟨rfl,rfl⟩
theorem Bm(c:cT)(h:ae3 c=true):1<=c.1.val/\c.1.val<=64:=by
 have key:∀(hn:c.1.val<1∨64<c.1.val),Calls prog 80 #[.agg (bd c)] mY fun e w'=>e= .returned (.bool false)/\True:=by
  intro hn;have c0: (mY.alloc (.cells (bd c) 26)).cell? ⟨mY.heap.size,0,none⟩=some (.int .i64 c.1.val):=by simp[World.cell?_alloc_new,bd]
  generalize mY=w at*;have HC:=qD (fun w=>Xq c.1.val 64 w hn);clear hn h;go_enter func80,ntmps80;go_wp2_with (go_at_call 133;refine(HC.o _).mono ?_;rintro r w1 ⟨rfl,rfl⟩);go_ret;exact⟨rfl,trivial⟩
 by_cases h1:1<=c.1.val/\c.1.val<=64
 ·exact h1
 ·have h3:=key (by omega);have h4:=Calls.both (uQ c mY) h3 (by kernel_rfl);rw[h] at h4;cases h4
def X5(p q:fX):Bool:=(p.1.val==q.1.val)&&((p.2.1.val==q.2.1.val)&&true)
theorem Ob(p q:fX):uy prog 33 (bg p).toList (bg q).toList=some (X5 p q):=by kernel_rfl
def zB(a b:Nat):Bool:=(FloatKind.f64.format.order a 0==some .eq)&&(FloatKind.f64.format.order b 0==some .eq)
def Xr(p:fX):Bool:=zB (xX p) (xY p)
def stay(p:fX):Bool:=!X5 p eO&&Xr p
def DE(q p:fX):Nat:=((FloatKind.f64.format.sub (xX q) (xX p))).getD 0
def DF(q p:fX):Nat:=((FloatKind.f64.format.sub (xY q) (xY p))).getD 0
def Rz(s:cZ)(p q:fX):Bool:=!oV (xX p) (xY p) s.c.2.2.1|| !oV (DE q p) (DF q p) s.c.2.2.2.1
def Oc(s:cZ)(k:Nat)(p:fX):fX:=(aeV (((s.p[k]?).getD eO).1.val+p.1.val),aeV (((s.p[k]?).getD eO).2.1.val+p.2.1.val),())
def bF(s:cZ)(i:Int)(p q:fX):Int×cZ:=
 if !ia s i then(1,s) else
 if stay p||stay q then(1,s) else
 if Rz s p q then(1,s) else
 if (s.mv[i.toNat]?).getD false then(10,s) else
 if !sR (Oc s i.toNat p) then(2,s) else
 (0,{s with p:=s.p.set i.toNat (Oc s i.toNat p),mv:=s.mv.set i.toNat true})
theorem Bn(p:fX): (∃s m e,FloatKind.f64.format.read (xX p)= .number s m e)/\∃s m e,FloatKind.f64.format.read (xY p)= .number s m e:=by
 unfold xX xY;cases h:jS p with
 |true=>
  obtain⟨h1,h2⟩:=Gg p h;exact⟨N9 _ h1.1 h1.2,N9 _ h2.1 h2.2⟩
 |false=>exact⟨⟨false,0,-1074,by show FloatKind.f64.format.read 0=_;decide⟩,⟨false,0,-1074,by show FloatKind.f64.format.read 0=_;decide⟩⟩
theorem Od(q p:fX):cSumBits .sub .f64 (xX q) (xY q) (xX p) (xY p)=some (DE q p,DF q p):=by obtain⟨r,hr⟩:=Is (Bn q).1 (Bn p).1;obtain⟨i,hi⟩:=Is (Bn q).2 (Bn p).2;unfold DE DF cSumBits floatBits;simp[hr,hi]
def Pw(s:cZ)(p q:fX)(n:Nat)(vp vm:Value)(g:Nat):List (Nat×aj):=(n+1+1,.row (bg eO)):: (n+1,.row (bg q)):: (n,.row (bg p))::W7 s vp vm g
theorem xu(s:cZ)(g:Nat)(F:Nat->Prop)(w:World)(i:Int)(p q:fX)(hi:qC s)(h: (kD s).rep g F w):Calls prog 20 #[.pointer (some ⟨g,0,none⟩),.int .i64 i,FI p,FI q] w fun e w'=>e= .returned (.int .i64 (bF s i p q).1)/\kE (kD (bF s i p q).2) g F w w':=by
 obtain⟨vp,vm,h⟩:=h;have HH:Hid (∀w',Mem w F (Pw s p q w.heap.size vp vm g) w'->Calls prog 42 #[.pointer (some ⟨g,0,none⟩),.int .i64 i] w' fun e w''=>e= .returned (.bool (ia s i))/\w''=w'):=fun w' hM=>by obtain⟨F',hF⟩:=Mem.tail (A:=[(w.heap.size+1+1,.row (bg eO)),(w.heap.size+1,.row (bg q)),(w.heap.size,.row (bg p))]) hM;exact pI s g F' w' i ⟨vp,vm,hF⟩
 have HEND:Hid (∀(s':cZ) vp' vm' w',Mem w F (Pw s' p q w.heap.size vp' vm' g) w'->kE (kD s') g F w w'):=fun s' vp' vm' w' hM=>(hM.au.au.au).kF fun F' hF=>⟨vp',vm',hF⟩;have M0:Hid (Mem w F (Pw s p q w.heap.size vp vm g) (((w.alloc (.cells (bg p) 33)).alloc (.cells (bg q) 33)).alloc (.cells (bg eO) 33))):=by have:=(((Mem.start h).alloc (cs:=bg p) (t:=33)).alloc (cs:=bg q) (t:=33)).alloc (cs:=bg eO) (t:=33);simp only[World.size_alloc] at this;exact this
 have hz:=lB;have hb:∀w,(Instr.build 33 #[]).run prog w= .ok (.agg (bg eO)) w:=fun w=>by kernel_rfl
 have M1:Hid (Mem w F (Pw s p q w.heap.size vp vm g) ((((w.alloc (.cells (bg p) 33)).alloc (.cells (bg q) 33)).alloc (.cells (bg eO) 33)).setCells (w.heap.size+1+1) 0 (bg eO).toList)):=M0.o.setRows (i:=0) rfl (by simp[aeU]) (by rw[Array.toArray_toList,fT (by simp[aeU])]);show Calls prog 20 #[.pointer (some ⟨g,0,none⟩),.int .i64 i,.agg (bg p),.agg (bg q)] w _;cases hh:ia s i with
 |false=>
  have hf:bF s i p q=(1,s):=by unfold bF;simp[hh]
  rw[hf];rw[hh] at HH;clear hf hh h hi;go_enter func20,ntmps20;go_upto_region 3 with(go_at_call 42;refine(HH.o _ M1.o).mono ?_;rintro r w1 ⟨rfl,rfl⟩);go_wp2;go_ret;exact⟨rfl,HEND.o _ _ _ _ M1.o⟩
 |true=>
  rw[hh] at HH;clear h;go_enter func20,ntmps20;go_upto_region 4 with(go_at_call 42;refine(HH.o _ M1.o).mono ?_;rintro r w1 ⟨rfl,rfl⟩);generalize ((((w.alloc (.cells (bg p) 33)).alloc (.cells (bg q) 33)).alloc (.cells (bg eO) 33)).setCells (w.heap.size+1+1) 0 (bg eO).toList)=w1 at*;clear M0 HH
  go_cut [17] from 18 (fun c wr=>c= .bool (stay p||stay q)/\Hid (Mem w F (Pw s p q w.heap.size vp vm g) wr))
  case first=>
   have HP:Hid (∀w,Calls prog 43 #[.agg (bg p)] w fun e w'=>e= .returned (.complex .f64 (xX p) (xY p))/\Below w.heap.size w w'):=fun w=>It p w;have HQ:Hid (∀w,Calls prog 43 #[.agg (bg q)] w fun e w'=>e= .returned (.complex .f64 (xX q) (xY q))/\Below w.heap.size w w'):=fun w=>It q w;have zp: (FloatKind.f64.format.order (xX p) 0==some .eq&&FloatKind.f64.format.order (xY p) 0==some .eq)=Xr p:=rfl;have zq: (FloatKind.f64.format.order (xX q) 0==some .eq&&FloatKind.f64.format.order (xY q) 0==some .eq)=Xr q:=rfl;have E1:=qD (Ob p eO);have E3:=qD (Ob q eO);have e6:=M1.o.row (i:=2) rfl;have e7:=M1.o.row (i:=1) rfl;have e9:=M1.o.row (i:=0) rfl;have ST:Hid ((stay p||stay q)=((!X5 p eO&&Xr p)||(!X5 q eO&&Xr q))):=rfl;revert E1 E3 zp zq ST;generalize X5 p eO=b1;generalize X5 q eO=b3;generalize Xr p=b2;generalize Xr q=b4;intro zp zq E1 E3 ST;clear hi hh hz hb HEND;cases b1
   case' true=>
    clear zp;cases b3
    case' true=>clear zq
    case' false=>cases b4
   case' false=>
    cases b2
    case' true=>clear zq
    case' false=>
     cases b3
     case' true=>clear zq
     case' false=>cases b4
   all_goals
    go_wp2_with (first|(go_at_call 43;(with_reducible refine(HP.o _).mono ?_);rintro r w2 ⟨rfl,hb2⟩;have M2:=qD (M1.o.below hb2);clear hb2 e6 e7 e9 M1;have e6:=M2.o.row (i:=2) rfl;have e7:=M2.o.row (i:=1) rfl;have e9:=M2.o.row (i:=0) rfl;have M1:=M2;clear M2)|(go_at_call 43;(with_reducible refine(HQ.o _).mono ?_);rintro r w2 ⟨rfl,hb2⟩;have M2:=qD (M1.o.below hb2);clear hb2 e6 e7 e9 M1;have e6:=M2.o.row (i:=2) rfl;have e7:=M2.o.row (i:=1) rfl;have e9:=M2.o.row (i:=0) rfl;have M1:=M2;clear M2)|((with_reducible show wpList _ _ _ (⟨some 20,_,_,_,_,_⟩::_) _ _);refine bS (cs:=(bg p).toList) (ds:=(bg eO).toList) rfl rfl rfl rfl E1.o ?_)|((with_reducible show wpList _ _ _ (⟨some 29,_,_,_,_,_⟩::_) _ _);refine bS (cs:=(bg q).toList) (ds:=(bg eO).toList) rfl rfl rfl rfl E3.o ?_));go_meet
    case rel=>exact⟨by rw[ST.o];rfl,M1⟩
  case rest=>
   obtain⟨rfl,M⟩:=hcut;clear M1;cases hst: (stay p||stay q) with
   |true=>
    have hf:bF s i p q=(1,s):=by unfold bF;simp[hh,hst]
    have HF:=qD hf;clear hf hh hst hi hz hb;go_wp2;go_ret;rw[HF.o];exact⟨rfl,HEND.o _ _ _ _ M.o⟩
   |false=>
    go_upto_region 6 with(fail)
    go_cut [36] from 37 (fun c wr=>c= .bool (Rz s p q)/\Hid (Mem w F (Pw s p q w.heap.size vp vm g) wr))
    case first=>
     have HP:Hid (∀w,Calls prog 43 #[.agg (bg p)] w fun e w'=>e= .returned (.complex .f64 (xX p) (xY p))/\Below w.heap.size w w'):=fun w=>It p w;have HQ:Hid (∀w,Calls prog 43 #[.agg (bg q)] w fun e w'=>e= .returned (.complex .f64 (xX q) (xY q))/\Below w.heap.size w w'):=fun w=>It q w;have H1:=qD (DD (xX p) (xY p) s.c.2.2.1);have H2:=qD (DD (DE q p) (DF q p) s.c.2.2.2.1);have ST:Hid (Rz s p q=(!oV (xX p) (xY p) s.c.2.2.1|| !oV (DE q p) (DF q p) s.c.2.2.2.1)):=rfl;have hsub:∀w,(binOp .sub 102 (.complex .f64 (xX q) (xY q)) (.complex .f64 (xX p) (xY p))).run prog w= .ok (.complex .f64 (DE q p) (DF q p)) w:=fun w=>run_complex_sum w .sub (.inr rfl) 102 .f64 _ _ _ _ _ _ (Od q p);have e6:=M.o.row (i:=2) rfl;have e7:=M.o.row (i:=1) rfl;have c2:wc.cell? ⟨g,2,none⟩=some (.int .i64 s.c.2.2.1.val):=M.o.cell (i:=3) (k:=2) rfl rfl;have c3:wc.cell? ⟨g,3,none⟩=some (.int .i64 s.c.2.2.2.1.val):=M.o.cell (i:=3) (k:=3) rfl rfl;have g6:=ab e6;have g7:=ab e7;have gg:g<wc.heap.size:=ab (M.o.row (i:=3) rfl);revert H1 H2 ST hsub;generalize oV (xX p) (xY p) s.c.2.2.1=s1;generalize oV (DE q p) (DF q p) s.c.2.2.2.1=s2;generalize DE q p=sr;generalize DF q p=si;intro H1 H2 ST hsub;clear hi hh hz hb HEND hst;cases s1 <;>
     ·refine aY ?_
      repeat (first|go_big_quiet_skip|quiet_step (first|(go_at_call 43;(with_reducible exact Calls.regrown_of (HP.o _)))|(go_at_call 43;(with_reducible exact Calls.regrown_of (HQ.o _)))|(go_at_call 44;(with_reducible exact Calls.regrown_of (H1.o _)))|(go_at_call 44;(with_reducible exact Calls.regrown_of (H2.o _)))))
      refine wpQuiet_nil ?_;intro w5 hb5;have M5:=qD (M.o.below hb5);go_wp2;go_meet
      case rel=>exact⟨by rw[ST.o];rfl,M5⟩
    case rest=>
     obtain⟨rfl,M2⟩:=hcut;clear M;obtain⟨k,pk,rfl,hk,hpk,_⟩:=xq hh;obtain⟨mk,hmk⟩:∃mk,s.mv[k]? =some mk:=⟨_,gE (by have h1:=hi.hp;have h2:=hi.hm;omega)⟩;have hkm:k<s.mv.length:=(gS.1 hmk).1;cases hfar:Rz s p q with
     |true=>
      have hf:bF s k p q=(1,s):=by unfold bF;simp[hh,hst,hfar]
      have HF:=qD hf;clear hf hh hst hi hz hb hfar hpk hmk;go_wp2;go_ret;rw[HF.o];exact⟨rfl,HEND.o _ _ _ _ M2.o⟩
     |false=>
      obtain⟨g0,cap,cur,hv,h2,hg0,hbk,hcur⟩:=(M2.o.own (i:=4) rfl).aI aeU (by omega);subst hv;obtain⟨g1,cap1,cur1,hv1,h21,hg1,hbk1,hcur1⟩:=(M2.o.own (i:=5) rfl).aI cK (by omega);subst hv1;have d1:=(M2.o.own (i:=5) rfl).cell cK hmk (j:=0) (by decide);rw[Nat.mul_one,Nat.add_zero] at d1;have d0:wc.cell? ⟨g1,k,none⟩=some (.bool mk):=d1;clear d1;have c12:wc.cell? ⟨g,12,none⟩=some (.slice (some ⟨g1,0,none⟩) s.mv.length cap1):=M2.o.cell (i:=3) (k:=12) rfl rfl;cases mk with
      |true=>
       have hf:bF s k p q=(10,s):=by unfold bF;simp[hh,hst,hfar,hmk]
       have HF:=qD hf;clear hf hh hst hi hz hb hfar hpk hmk hcur hcur1 hbk hbk1;go_wp2;go_ret;rw[HF.o];exact⟨rfl,HEND.o _ _ _ _ M2.o⟩
      |false=>
       have HF:Hid (bF s k p q=if !sR (Oc s k p) then(2,s) else(0,{s with p:=s.p.set k (Oc s k p),mv:=s.mv.set k true})):=by show _=_;unfold bF;simp[hh,hst,hfar,hmk]
       have HTO:Hid (Oc s k p=(aeV (pk.1.val+p.1.val),aeV (pk.2.1.val+p.2.1.val),())):=by show _=_;unfold Oc;rw[hpk];rfl
       have HPK:=qD hpk;have HMK:=qD hmk;clear hh hst hfar hmk hcur hcur1 hbk hbk1 hpk;go_upto_region 10 with(fail);have c11:wc.cell? ⟨g,11,none⟩=some (.slice (some ⟨g0,0,none⟩) s.p.length cap):=M2.o.cell (i:=3) (k:=11) rfl rfl;have e6:=M2.o.row (i:=2) rfl;have x0:wc.cell? ⟨w.heap.size,0,none⟩=some (.int .i64 p.1.val):=M2.o.cell (i:=2) (k:=0) rfl rfl;have x1:wc.cell? ⟨w.heap.size,1,none⟩=some (.int .i64 p.2.1.val):=M2.o.cell (i:=2) (k:=1) rfl rfl;have y0:wc.cell? ⟨g0,k*2,none⟩=some (.int .i64 pk.1.val):=(M2.o.own (i:=4) rfl).cell aeU HPK.o (j:=0) (by decide);have y1:wc.cell? ⟨g0,k*2+1,none⟩=some (.int .i64 pk.2.1.val):=(M2.o.own (i:=4) rfl).cell aeU HPK.o (j:=1) (by decide);clear d0 c12 hb;refine fc 24 [23] (fun w'=>w'.cell? ⟨g,11,none⟩=some (.slice (some ⟨g0,0,none⟩) s.p.length cap)/\w'.cell? ⟨w.heap.size,0,none⟩=some (.int .i64 p.1.val)/\w'.cell? ⟨w.heap.size,1,none⟩=some (.int .i64 p.2.1.val)/\w'.cell? ⟨g0,k*2,none⟩=some (.int .i64 pk.1.val)/\w'.cell? ⟨g0,k*2+1,none⟩=some (.int .i64 pk.2.1.val)) (by kernel_rfl) (by kernel_rfl) ⟨c11,x0,x1,y0,y1⟩ ?_;simp only[tA,tD,tC,tE]
       repeat (refine dR rfl rfl (by rintro w' ⟨s1,s2,s3,s4,s5⟩ K hK;go_simp;exact hK.o) ?_)
       refine gz rfl (fun K hK=>?_);have M3:Hid (Mem w F ((wc.heap.size,.row (bg eO))::Pw s p q w.heap.size (.slice (some ⟨g0,0,none⟩) s.p.length cap) (.slice (some ⟨g1,0,none⟩) s.mv.length cap1) g) (wc.alloc (.cells (bg eO) 33)).drew):=(M2.o.alloc).below (Below.drew (bZ _ _));go_wp2;generalize (wc.alloc (.cells (bg eO) 33)).drew=w4 at*;refine hK.o _ _ ⟨M3.o.cell (i:=4) (k:=11) rfl rfl,M3.o.cell (i:=3) (k:=0) rfl rfl,M3.o.cell (i:=3) (k:=1) rfl rfl,(M3.o.own (i:=5) rfl).cell aeU HPK.o (j:=0) (by decide),(M3.o.own (i:=5) rfl).cell aeU HPK.o (j:=1) (by decide)⟩ ?_;clear hK e6 x0 x1 y0 y1 c11;refine jG ?_;have e4:=M3.o.row (i:=0) rfl;have hset: ((bg eO).setIfInBounds 0 (.int .i64 (wrap64 (pk.1.val+p.1.val)))).setIfInBounds 1 (.int .i64 (wrap64 (pk.2.1.val+p.2.1.val)))=bg (Oc s k p):=by rw[HTO.o,<-lC,<-lC];rfl
       have HMY:Hid (∀w,Calls prog 45 #[.agg (bg (Oc s k p))] w fun e w'=>e= .returned (.bool (sR (Oc s k p)))/\Below w.heap.size w w'):=fun w=>MW (Oc s k p) w;revert HMY HF hset;generalize Oc s k p=P;generalize sR P=my;intro HF hset HMY;clear M2 HTO;go_wp2;refine NoPanic.normal ?_;have M4:Hid (Mem w F ((wc.heap.size,.row (bg P))::Pw s p q w.heap.size (.slice (some ⟨g0,0,none⟩) s.p.length cap) (.slice (some ⟨g1,0,none⟩) s.mv.length cap1) g) (w4.setCells wc.heap.size 0 (bg P).toList)):=M3.o.setRows (i:=0) rfl (by simp[aeU]) (by rw[Array.toArray_toList,fT (by simp[aeU])]);clear M3 e4 hset;generalize (w4.setCells wc.heap.size 0 (bg P).toList)=w5 at*;have e5:=M4.o.row (i:=0) rfl;cases my with
       |false=>
        have HF2:Hid (bF s k p q=(2,s)):=by show _=_;rw[HF.o];simp
        clear HF hi hz HPK;go_wp2_with (go_at_call 45;refine Mem.qB (HMY.o _) M4.o fun w6 M6=>?_);go_ret;rw[HF2.o];exact⟨rfl,HEND.o _ _ _ _ M6.o.au⟩
       |true=>
        have HF2:Hid (bF s k p q=(0,{s with p:=s.p.set k P,mv:=s.mv.set k true})):=by show _=_;rw[HF.o];simp
        clear HF hi hz;go_upto_region 13 with(go_at_call 45;refine Mem.qB (HMY.o _) M4.o fun w6 M6=>?_;clear e5 M4);have M7:=qD (M6.o.below (Below.drew (bZ _ _)));have G01:Hid (k*2+2<=s.p.length*2):=by show _<=_;omega
        refine fc 13 [12] (fun w'=>w'.cell? ⟨g,11,none⟩=some (.slice (some ⟨g0,0,none⟩) s.p.length cap)/\w'.cell? ⟨g,12,none⟩=some (.slice (some ⟨g1,0,none⟩) s.mv.length cap1)/\w'.aI wc.heap.size=some (bg P)) (by kernel_rfl) (by kernel_rfl) ⟨M7.o.cell (i:=4) (k:=11) rfl rfl,M7.o.cell (i:=4) (k:=12) rfl rfl,M7.o.row (i:=0) rfl⟩ ?_;generalize w6.drew=w7 at*;clear M6;simp only[tA,tD,tC,tE]
        repeat (refine dR rfl rfl (by rintro w' ⟨s1,s2,s3⟩ K hK;go_simp;exact hK.o) ?_)
        refine gz rfl (fun K hK=>?_);obtain⟨_,_,cur2,hv,_,hg2,hbk2,hcur2⟩:=(M7.o.own (i:=5) rfl).aI aeU (by omega);cases hv;have f2:=(hcur2 k pk HPK.o).1;clear hcur2;have M8:Hid (Mem w F ((wc.heap.size,.row (bg P))::Pw {s with p:=s.p.set k P} p q w.heap.size (.slice (some ⟨g0,0,none⟩) s.p.length cap) (.slice (some ⟨g1,0,none⟩) s.mv.length cap1) g) (w7.setCells g0 (k*2) (bg P).toList)):=M7.o.ND (i:=5) rfl rfl aeU (by decide) hk P;go_wp2;generalize (w7.setCells g0 (k*2) (bg P).toList)=w8 at*;refine hK.o _ _ ⟨M8.o.cell (i:=4) (k:=11) rfl rfl,M8.o.cell (i:=4) (k:=12) rfl rfl,M8.o.row (i:=0) rfl⟩ ?_;clear hK M7 f2;refine jG ?_;obtain⟨_,_,cur3,hv,_,hg3,hbk3,hcur3⟩:=(M8.o.own (i:=6) rfl).aI cK (show 0<s.mv.length by omega);cases hv;have f3:=(M8.o.own (i:=6) rfl).cell cK HMK.o (j:=0) (by decide);rw[Nat.mul_one,Nat.add_zero] at f3;have f4:w8.cell? ⟨g1,k,none⟩=some (.bool false):=f3;have z4:=ax hbk3 k;clear f3 hcur3;have M9:Hid (Mem w F ((wc.heap.size,.row (bg P))::Pw {s with p:=s.p.set k P,mv:=s.mv.set k true} p q w.heap.size (.slice (some ⟨g0,0,none⟩) s.p.length cap) (.slice (some ⟨g1,0,none⟩) s.mv.length cap1) g) (w8.setCells g1 (k*1) (jj true).toList)):=M8.o.ND (i:=6) rfl rfl cK (by decide) hkm true;rw[Nat.mul_one] at M9;go_wp2;refine NoPanic.normal ?_;go_wp2;go_ret;rw[HF2.o];exact⟨rfl,HEND.o _ _ _ _ M9.o.au⟩
def ig(s:List bf)(m:bf):Bool:=decide (s.length<512)&&decide (m.data.length<=1000)
def kH(s:List bf)(m:bf):List bf:=if ig s m then s++ [m] else s
theorem uU: (prog.info? 116).map (fun i=>(i.zero,i.size,i.bytes))=some (some (.agg (aH bB gO)),5,56):=by kernel_rfl
theorem rN:prog.underlying 133=some (.slice 116):=by kernel_rfl
theorem J8{l:List (bf×Sl)}{p:bf×Sl}{v:Value}{g:Nat}:
  ((0,aj.own 5 1 bj p.2.v p.1.data):: (g,.row #[v]):: (0,.own 116 5 cd v (l++ [p])):: (l.map fun p=>(0,aj.own 5 1 bj p.2.v p.1.data))).Perm (nK (l++ [p]) v g):=by
 unfold nK;rw[List.map_append];have h:=List.perm_append_comm (l₁:=[(0,aj.own 5 1 bj p.2.v p.1.data)]) (l₂:=(g,aj.row #[v]):: (0,aj.own 116 5 cd v (l++ [p])):: (l.map fun p=>(0,aj.own 5 1 bj p.2.v p.1.data)));simpa using h
theorem Iu(s:List bf)(g:Nat)(F:Nat->Prop)(w:World)(m:bf)(v:Sl)(h: (gJ s).rep g F w)(ho:Own w 0 5 1 bj v.v m.data)(hl:m.data.length<=1000000):
  Calls prog 100 #[.pointer (some ⟨g,0,none⟩),.agg (aH m v)] w fun e w'=>e= .returned (.bool (ig s m))/\∃F',(gJ (kH s m)).rep g F' w'/\(∀x,F' x->F x∨w.heap.size<=x)/\bN F w w':=by
 obtain⟨va,l,rfl,h⟩:=h;have H:=qD (Mem.start h);have HO:Hid (Own w 0 116 5 cd va l):=H.o.own (i:=1) rfl;obtain⟨a0,vc,rfl⟩:=HO.o.len;have c0:=H.o.cell (i:=0) (k:=0) rfl rfl;have hg:g<w.heap.size:=ab (H.o.row (i:=0) rfl);have OD:=qD ho;have DL:=qD hl;obtain⟨vda,vdn,vdc⟩:=v;obtain⟨_,_,hvd⟩:=ho.len;cases hvd;have B0:Hid (Below w.heap.size w (w.alloc (.cells (aH m ⟨vda,m.data.length,vdc⟩) 116))):=(bZ _ w).alloc (nL _) _;have hsame:∀w',Below w.heap.size w w'->∃F',(gJ (l.map (·.1))).rep g F' w'/\(∀x,F' x->F x∨w.heap.size<=x)/\bN F w w':=fun w' hb=>by obtain⟨F',h1,h2,h3⟩:=H.o.below hb;exact⟨F',⟨_,l,rfl,h1⟩,h2,h3⟩
 have HSAME:=qD hsame;clear h ho hl hsame;by_cases h1:512<=l.length
 ·have hp:ig (l.map (·.1)) m=false:=by unfold ig;rw[List.length_map];simp;omega
  unfold kH;rw[hp];have n1: (512:Int)<=l.length:=by omega
  clear hp h1;go_enter func100,ntmps100;go_wp2_with fail;go_ret;exact⟨rfl,HSAME.o _ B0.o⟩
 by_cases h2:1000<m.data.length
 ·have hp:ig (l.map (·.1)) m=false:=by unfold ig;simp;omega
  unfold kH;rw[hp];have n1:¬(512:Int)<=l.length:=by omega
  have n2: (1000:Int)<m.data.length:=by omega
  clear hp h1 h2;go_enter func100,ntmps100;go_wp2_with fail;go_ret;exact⟨rfl,HSAME.o _ B0.o⟩
 have hp:ig (l.map (·.1)) m=true:=by unfold ig;rw[List.length_map];simp;omega
 unfold kH;rw[hp];have n1:¬(512:Int)<=l.length:=by omega
 have n2:¬(1000:Int)<m.data.length:=by omega
 have HL:Hid (l.length<=999999):=by show _<=_;omega
 clear hp h1 h2 HSAME;go_enter func100,ntmps100;go_upto_region 3 with(fail);have M0:Hid (Mem w F ((w.heap.size,.row (aH m ⟨vda,m.data.length,vdc⟩))::nK l (.slice a0 l.length vc) g) (w.alloc (.cells (aH m ⟨vda,m.data.length,vdc⟩) 116)).drew):=(H.o.alloc (cs:=aH m ⟨vda,m.data.length,vdc⟩) (t:=116)).below (Below.drew (bZ _ _));have O0:=qD (OD.o.grown B0.o.drew);clear c0 HO H B0 OD;refine fc 9 [6,7,8] (fun w'=>w'.cell? ⟨g,0,none⟩=some (.slice a0 l.length vc)/\w'.aI w.heap.size=some (aH m ⟨vda,m.data.length,vdc⟩)) (by kernel_rfl) (by kernel_rfl) ⟨M0.o.cell (i:=1) (k:=0) rfl rfl,M0.o.row (i:=0) rfl⟩ ?_;generalize (w.alloc (.cells (aH m ⟨vda,m.data.length,vdc⟩) 116)).drew=w1 at*;simp only[tA,tD,tC,tE];refine dR rfl rfl (by rintro w' ⟨s1,s2⟩ K hK;go_simp;exact hK.o) ?_;refine dR rfl rfl (by rintro w' ⟨s1,s2⟩ K hK;go_simp;exact hK.o) ?_;refine dR rfl rfl (by rintro w' ⟨s1,s2⟩ K hK;go_simp;exact hK.o) ?_;refine dR rfl rfl (by rintro w' ⟨s1,s2⟩ K hK;go_simp;exact hK.o) ?_;refine dR rfl rfl (by rintro w' ⟨s1,s2⟩ K hK;go_simp;exact hK.o) ?_;refine dR rfl rfl (by rintro w' ⟨s1,s2⟩ K hK;go_simp;exact hK.o) ?_;refine gz rfl (fun K hK=>?_);go_wp2_with (go_at_call 111;refine(NA m ⟨vda,m.data.length,vdc⟩ 0 _ O0.o DL.o).mono ?_;rintro r w2 ⟨v',rfl,ho2,hb2⟩;have M2:=qD (M0.o.push (p:=(0,.own 5 1 bj v'.v m.data)) hb2 ⟨fun x=>Iff.rfl,ho2.mono (Nat.zero_le _)⟩ (fun x hx=>ho2.ge x hx));clear hb2 ho2 M0 O0);refine hK.o _ _ ⟨M2.o.cell (i:=2) (k:=0) rfl rfl,M2.o.row (i:=1) rfl⟩ ?_;clear hK;refine gz rfl (fun K hK=>?_);go_wp2_with (refine dN rfl _ 133 116 rfl rN uU rfl (by decide) (by decide) _ rfl (aH m v') rfl rfl ?_);have M3:=qD (M2.o.below ((bZ _ w2).alloc (nL _) (.cells (aH m v') 116)));have E3:Hid ((w2.alloc (.cells (aH m v') 116)).aI w2.heap.size=some (cd (m,v'))):=by show _=_;simp[af,aq,cd]
 refine hK.o _ _ ⟨M3.o.cell (i:=2) (k:=0) rfl rfl,M3.o.row (i:=1) rfl⟩ ?_;generalize w2.alloc (.cells (aH m v') 116)=w3 at*;clear hK M2;refine gz rfl (fun K hK=>?_);go_wp2_with (at_builtin;refine uh rfl _ _ 133 116 rfl rN uU rfl (by decide) (j:=3) rfl M3.o rfl w2.heap.size 1 rfl (m,v') E3.o dj sZ HL.o (by decide) ?_;intro v4 w4 M4 l4 n4;have M5:=qD M4;clear M4 l4 n4);have M5:Hid (Mem w F ((0,.own 5 1 bj v'.v m.data):: (w.heap.size,.row (aH m ⟨vda,m.data.length,vdc⟩)):: (g,.row #[.slice a0 l.length vc]):: (0,.own 116 5 cd v4 (l++ [(m,v')]))::l.map fun p=>(0,.own 5 1 bj p.2.v p.1.data)) w4):=M5;obtain⟨a4,c4,rfl⟩:=(M5.o.own (i:=3) rfl).len;rw[List.length_append,List.length_singleton] at*;refine hK.o _ _ ⟨M5.o.cell (i:=2) (k:=0) rfl rfl,M5.o.row (i:=1) rfl⟩ ?_;clear hK M3 E3;refine jG ?_;have e5:=M5.o.row (i:=2) rfl;have z5:=ax e5 0;have c5:=M5.o.cell (i:=2) (k:=0) rfl rfl;have g5:=ab e5;clear e5;go_wp2_with fail;refine NoPanic.normal ?_;have M6:Hid (Mem w F ((0,.own 5 1 bj v'.v m.data):: (w.heap.size,.row (aH m ⟨vda,m.data.length,vdc⟩)):: (g,.row #[.slice a4 (l.length+1) c4]):: (0,.own 116 5 cd (.slice a4 (l.length+1) c4) (l++ [(m,v')]))::l.map fun p=>(0,.own 5 1 bj p.2.v p.1.data)) (w4.setCell ⟨g,0,none⟩ (.slice a4 (l.length+1) c4))):=M5.o.bO (i:=2) (k:=0) rfl rfl;clear z5 c5 M5;go_wp2_with fail;go_ret;obtain⟨F',h1,h2,h3⟩:=((M6.o.perm (List.Perm.swap _ _ _)).au).perm (J8 (l:=l) (p:=(m,v')));exact⟨rfl,F',⟨_,_,by simp,h1⟩,h2,h3⟩
end
end Go.Proofs.Yq
