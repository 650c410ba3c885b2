/- A part of the proof. No condition. -/
import Derived.Test.YtpbehfbomkochaaGreatDoorC08
set_option maxRecDepth 100000
set_option maxHeartbeats 4000000
set_option linter.all false
namespace Go.Proofs.Yq
open ChangeShapes WideShapes ChangeAt RowKit Ev
open Tryz
noncomputable section
theorem Ko{e:bR}{q:fX}(h:mj e q=true):ry e=true:=by
 cases hm:ry e with
 |true=>rfl
 |false=>
  exfalso;have h1:Calls prog 114 #[.agg (aB e),.agg (bg q)] default fun r w'=>r= .returned (.bool false)/\True:=by
   have HME:Hid (∀w,Calls prog 84 #[.agg (aB e)] w fun r w'=>r= .returned (.bool false)/\Below w.heap.size w w'):=fun w=>by rw[<-hm];exact Ba e w
   clear h hm;generalize (default:World)=w;have k0: ((w.alloc (.cells (aB e) 37)).alloc (.cells (bg q) 33)).aI w.heap.size=some (aB e):=by rw[af,if_neg (by simp),af,if_pos rfl];rfl
   go_enter func114,ntmps114;go_wp2_with (go_at_call 84;refine(HME.o _).mono ?_;rintro r w1 ⟨rfl,hb⟩;clear hb);go_ret;exact⟨rfl,trivial⟩
  have h2:=wT e q default;rw[h] at h2;have:=Calls.both h1 h2 (by kernel_rfl);injection this with this;cases this
theorem Mem.Kp{α:Type}{w0 w:World}{F0:Nat->Prop}{L:List (Nat×aj)}{i gg:Nat}{e:TypeId}{c:α->Array Value}{g n cap k:Nat}{l:List α}{x y:α}{v:Value}(h:Mem w0 F0 L w)(hi:L[i]? =some (gg,.own e 1 c (.slice (some ⟨g,0,none⟩) n cap) l))(hn:n=l.length)(hc:∀x,(c x).size=1)(hk:l[k]? =some x)(hy: (c x).setIfInBounds 0 v=c y):
  Mem w0 F0 (L.set i (gg,.own e 1 c (.slice (some ⟨g,0,none⟩) n cap) (l.set k y))) (w.setCell ⟨g,k,none⟩ v):=by
 have h1:=h.rG (j:=0) hi hn hc hk (by decide) hy;rw[Nat.mul_one,Nat.add_zero] at h1;exact h1
theorem Mem.ur{w0 w w':World}{F0:Nat->Prop}{L:List (Nat×aj)}{q:Nat×aj}(h:Mem w0 F0 L w)(k:Mem w (fun _=>False) [q] w'):Mem w0 F0 (q::L) w':=by obtain⟨F',⟨F1,F2,h1,h2,h3,h4⟩,h5,h6⟩:=k;exact h.push h6.below h1 (fun x hx=>(h5 x ((h4 x).2 (.inl hx))).resolve_left id)
theorem Mem.XB{w0 w:World}{F0:Nat->Prop}{L:List (Nat×aj)}{q p:Nat×aj}{i:Nat}(h:Mem w0 F0 (q::L) w)(hi:L[i]? =some p):Mem w0 F0 (L.set i q) w:=by
 have e1:L.Perm (p::L.eraseIdx i):=by
  have:=set_perm (q:=p) hi;have e2:L.set i p=L:=by
   apply List.ext_getElem?;intro k;rw[List.getElem?_set];split
   ·rename_i hk;subst hk;rw[hi];split <;> rename_i hl
    ·rfl
    ·rw[nE (by omega)] at hi;cases hi
   ·rfl
  rw[e2] at this;exact this
 have h1:=h.perm ((e1.cons q).trans (List.Perm.swap p q _));exact h1.au.perm (set_perm hi).symm
theorem DZ{α β:Type}{y:α}{b:β}:∀{l:List α} {m:List β} {k:Nat},(l.set k y).zip (m.set k b)=(l.zip m).set k (y,b)
 | [],m,k=>by simp
 |x::l,[],k=>by simp
 |x::l,z::m,0=>by simp
 |x::l,z::m,k+1=>by simp[DZ (l:=l) (m:=m) (k:=k)]
theorem Oy(s:aF)(p:bM): (xx s p).extract 2 13=bd s.c:=by simp[xx,tp,bd]
@[go_sem] theorem X7 (s:aF) (p:bM): (xx s p).size=16:=rfl
@[go_sem] theorem X8 (s:aF) (p:bM): (xx s p).extract 2 13=bd s.c:=Oy s p
def jl(s:aF)(i:Nat)(e:bR):Int×aF:=
 if !rQ e bc&& !mj e (uB s.w i) then(1,s) else
 match s.n[i]? with
 |none=>(0,s)
 |some x=>(0,{s with n:=s.n.set i (lZ s.c (nI i) (aeZ x.boot) e),on:=s.on.set i true})
theorem aR.boot{s:aF}(h:aR s)(i:Nat)(e:bR):aR (jl s i e).2:=by
 unfold jl;split
 ·exact h
 ·split
  ·exact h
  ·rename_i x hx;have h1:aR {s with n:=s.n.set i (lZ s.c (nI i) (aeZ x.boot) e)}:=h.put (cw.new _ _ _ _);exact⟨h1.w,h1.np,by show(s.on.set _ _).length=_;rw[List.length_set];exact h1.no,h1.nd,h1.ml,h1.mt,h1.al,h1.cm⟩
theorem Oz(s:aF)(p:bM)(g i:Nat)(e:bR)(F:Nat->Prop)(w:World)(hk:aS s p)(hi:aR s)(hil:i<p.k)(h:Sep w (aG s p g) F):Calls prog 58 #[.pointer (some ⟨g,0,none⟩),.int .i64 (i:Int),.agg (aB e)] w fun r w'=>r= .returned (.int .i64 (jl s i e).1)/\∃p',aS (jl s i e).2 p'/\p'.k=p.k/\Mem w F (aG (jl s i e).2 p' g) w':=by
 have M0:Hid (Mem w F ([(w.heap.size,.row (aB e))]++aG s p g) (w.alloc (.cells (aB e) 37))):=(Mem.start h).alloc;have HK:=qD hk;have hpk:p.k<=64:=hk.hi;have HI:=qD hi;obtain⟨x,a,hx,ha⟩:=DT (A:=[]) hk hil (Mem.start h);obtain⟨T,hT⟩:∃T,T=jl s i e:=⟨_,rfl⟩;rw[<-hT];unfold jl at hT;rw[hx] at hT;have HT:=qD hT;have EQ:=qD (xD e bc);have EQ2:=qD (pQ e bc);have hze:=gK;have hbz:∀w,(Instr.build 37 #[]).run prog w= .ok (.agg (aB bc)) w:=fun w=>by kernel_rfl
 have hzp:=lB;clear h hk hi hT;go_enter func58,ntmps58;go_upto_region 1 with(fail);generalize (w.alloc (.cells (aB e) 37))=w1 at*;generalize w.heap.size=ge at M0 ⊢;have c0:w1.cell? ⟨g,0,none⟩=some (.pointer (some ⟨p.gw,0,none⟩)):=uo M0.o (i:=1) rfl;obtain⟨F1,h1⟩:=M0.o.rep (i:=2) rfl;have HPL:Hid (Calls prog 39 #[.pointer (some ⟨p.gw,0,none⟩),.int .i64 (i:Int)] w1 fun e w'=>e= .returned (.tuple #[.agg (bg (uB s.w i)),.bool (ia s.w i)])/\Below w1.heap.size w1 w'):=td s.w p.gw F1 w1 i h1;clear h1;generalize uB s.w i=pt at HPL HT;generalize ia s.w i=hb at HPL;go_upto_region 2 with(go_at_call 39;refine Mem.qB HPL.o M0.o fun w2 M2=>?_);have M3:Hid (Mem w F ([(w2.heap.size,.row (bg pt)),(ge,.row (aB e))]++aG s p g) ((w2.alloc (.cells (bg eO) 33)).setCells w2.heap.size 0 (bg pt).toList)):=(M2.o.alloc (cs:=bg eO) (t:=33)).bC (i:=0) (cs':=bg pt) rfl (by simp[aeU]);generalize w2.heap.size=gp at M3 ⊢;generalize ((w2.alloc (.cells (bg eO) 33)).setCells gp 0 (bg pt).toList)=w3 at*;clear M2 M0 HPL c0;have kp:=M3.o.row (i:=0) rfl;have ke:=M3.o.row (i:=1) rfl;have HIN:Hid (∀w,Calls prog 114 #[.agg (aB e),.agg (bg pt)] w fun r w'=>r= .returned (.bool (mj e pt))/\Below w.heap.size w w'):=fun w=>wT e pt w;have HMY:Hid (e=bc∨mj e pt=true->e=bc∨ry e=true):=fun h=>h.imp id Ko;generalize mj e pt=ib at HIN HT HMY;generalize rQ e bc=qe at EQ EQ2 HT;go_upto_region 2 with(fail)
 go_cut [26] from 27 (fun c wr=>c= .bool (!qe&& !ib)/\Hid (Mem w F ([(gp,.row (bg pt)),(ge,.row (aB e))]++aG s p g) wr))
 case first=>
  clear HT HMY EQ2;cases qe with
  |true=>
   go_wp2_with ((with_reducible show wpList _ _ _ (⟨some 20,_,_,_,_,_⟩::_) _ _);refine bS (cs:=(aB e).toList) (ds:=(aB bc).toList) rfl rfl rfl rfl EQ.o ?_);go_meet
   case rel=>exact⟨rfl,M3⟩
  |false=>
   go_wp2_with (first|((with_reducible show wpList _ _ _ (⟨some 20,_,_,_,_,_⟩::_) _ _);refine bS (cs:=(aB e).toList) (ds:=(aB bc).toList) rfl rfl rfl rfl EQ.o ?_)|(go_at_call 114;refine Mem.qB (HIN.o _) M3.o fun w4 M4=>?_));go_meet
   case rel=>exact⟨by simp,M4⟩
 case rest=>
  obtain⟨rfl,M4⟩:=hcut;clear M3 kp ke HIN EQ;by_cases hcnd: (!qe&& !ib)=true
  ·have HT2:Hid (T=(1,s)):=by show _=_;rw[HT.o,if_pos hcnd]
   rw[hcnd];go_wp2;go_ret;rw[HT2.o];exact⟨rfl,p,HK.o,rfl,M4.o.au.au⟩
  ·have HME:Hid (e=bc∨ry e=true):=by
    refine HMY.o ?_;cases qe with
    |true=>exact .inl (EQ2.o.1 rfl)
    |false=>
     cases ib with
     |true=>exact .inr rfl
     |false=>simp at hcnd
   have hcnd2: (!qe&& !ib)=false:=by simpa using hcnd
   have HT2:Hid (T=(0,{s with n:=s.n.set i (lZ s.c (nI i) (aeZ x.boot) e),on:=s.on.set i true})):=by show _=_;rw[HT.o,if_neg hcnd]
   rw[hcnd2];clear HT HMY EQ2 hcnd hcnd2;go_upto_region 4 with(fail);have HJ:Hid (i<=1000000):=by show _<=_;omega
   refine aT 28 (.qs [0,1,2,3,4,5,6,7,8,9,10,11,12,13,14,15,16,17,18,19,20,24] (.w 21 (.w 22 (.w 23 (.w 25 (.q 26 (.w 27 .done))))))) (fun w'=>w'.aI g=some (xx s p)/\w'.aI ge=some (aB e)) (by kernel_rfl) (by kernel_rfl) ?_ ?_
   ·have M1:=M4.o.below (Below.drew (bZ _ wc));exact⟨M1.row (i:=2) rfl,M1.row (i:=1) rfl⟩
   have M5:=qD (M4.o.below (Below.drew (bZ _ wc)));generalize wc.drew=w5 at*;clear M4;simp only[MT.qs,tC,tE]
   iterate 22 (refine fJ rfl rfl (by rintro w' ⟨s1,s2⟩ K hK;have c13:w'.cell? ⟨g,13,none⟩=some (.slice (some ⟨p.gn,0,none⟩) p.k p.cn):=(ao s1 13).trans rfl;have c14:w'.cell? ⟨g,14,none⟩=some (.slice (some ⟨p.gb,0,none⟩) p.k p.cb):=(ao s1 14).trans rfl;go_simp;exact hK.o) ?_)
   have HN:Hid (([(gp,.row (bg pt)),(ge,.row (aB e))]++aG s p g)[i+7]? =some (a,aO x)):=by have:=nN (A:=[(gp,.row (bg pt)),(ge,.row (aB e))]) (g:=g) hx ha;rw[show([(gp,.row (bg pt)),(ge,.row (aB e))]:List (Nat×aj)).length+(i+5)=i+7 by simp;omega] at this;exact this
   have HA:=qD ha;clear hx;refine cO rfl (fun K hK=>?_);have ca:=nc M5.o (i:=5) rfl ha;clear ha;go_wp2;refine hK.o _ _ ⟨M5.o.row (i:=2) rfl,M5.o.row (i:=1) rfl⟩ ?_;clear hK ca;obtain⟨F1,h1⟩:=M5.o.rep HN.o;have HB:=qD (NJ x a F1 w5 h1);clear h1;refine cO rfl (fun K hK=>?_);go_wp2_with (go_at_call 12;refine HB.o.mono ?_;rintro r w6 ⟨rfl,rfl⟩;clear HB);refine hK.o _ _ ⟨M5.o.row (i:=2) rfl,M5.o.row (i:=1) rfl⟩ ?_;clear hK;have HB:=qD (fun w=>qt x.boot w);have HSN:Hid (eh (aeZ x.boot)=true):=DY x.boot;generalize aeZ x.boot=nb at HB HT2 HSN;refine cO rfl (fun K hK=>?_);go_wp2_with (go_at_call 115;refine(HB.o _).mono ?_;rintro r w6 ⟨rfl,hb⟩;have M6:=qD (M5.o.below hb);clear HB hb M5);refine hK.o _ _ ⟨M6.o.row (i:=2) rfl,M6.o.row (i:=1) rfl⟩ ?_;clear hK;have HNW:Hid (Calls prog 41 #[.agg (bd s.c),.int .i64 (i:Int),.int .i64 nb.val,.agg (aB e)] w6 fun r w'=>∃g,r= .returned (.pointer (some ⟨g,0,none⟩))/\Mem w6 (fun _=>False) [(g,aO (lZ s.c (nI i) nb e))] w'):=by have:=Ix s.c (nI i) nb e w6 (by rw[gR HJ.o];omega) (by rw[gR HJ.o];omega) HSN.o HI.o.cm HME.o;rw[gR HJ.o] at this;exact this
   generalize lZ s.c (nI i) nb e=y at HNW HT2;refine cO rfl (fun K hK=>?_);go_wp2_with (go_at_call 41;refine HNW.o.mono ?_;rintro r w7 ⟨g1,rfl,hM⟩;have M7:=qD (Mem.ur M6.o hM);clear HNW hM M6);refine hK.o _ _ ⟨M7.o.row (i:=3) rfl,M7.o.row (i:=2) rfl⟩ ?_;clear hK;refine fJ rfl rfl (by rintro w' ⟨s1,s2⟩ K hK;go_simp;exact hK.o) ?_;have M8:Hid (Mem w F ((([(gp,aj.row (bg pt)),(ge,aj.row (aB e))]:List (Nat×aj))++aG s p g).set (i+7) (g1,aO y)) w7):=Mem.XB M7.o HN.o;clear M7;have M9:Hid (Mem w F (([(gp,aj.row (bg pt)),(ge,aj.row (aB e))]:List (Nat×aj))++aG {s with n:=s.n.set i y} {p with ns:=p.ns.set i g1} g) (w7.setCell ⟨p.gn,i,none⟩ (.pointer (some ⟨g1,0,none⟩)))):=by
    have h1:=Mem.Kp M8.o (i:=5) (gg:=0) (e:=46) (c:=mr) (k:=i) (x:=a) (y:=g1) (v:= .pointer (some ⟨g1,0,none⟩)) (l:=p.ns) (n:=p.k) (g:=p.gn) (cap:=p.cn) rfl HK.o.ns.symm jy HA.o rfl;have e1: (((([(gp,aj.row (bg pt)),(ge,aj.row (aB e))]:List (Nat×aj))++aG s p g).set (i+7) (g1,aO y)).set 5 (0,.own 46 1 mr (.slice (some ⟨p.gn,0,none⟩) p.k p.cn) (p.ns.set i g1)))=([(gp,aj.row (bg pt)),(ge,aj.row (aB e))]:List (Nat×aj))++aG {s with n:=s.n.set i y} {p with ns:=p.ns.set i g1} g:=by show _::_::_::_::_::_::_:: ((s.n.zip p.ns).map _).set i _=_::_::_::_::_::_::_:: (((s.n.set i y).zip (p.ns.set i g1)).map _);rw[DZ,List.map_set];rfl
    rw[e1] at h1;exact h1
   have ca:=nc M8.o (i:=5) rfl HA.o;obtain⟨_,_,cur,hv,_,_,hbk,_⟩:=(M8.o.own (i:=5) rfl).aI jy (by rw[HK.o.ns];omega);rw[HK.o.ns] at hv;cases hv;have zf:=ax hbk i;clear hbk M8;refine cO rfl (fun K hK=>?_);go_wp2;refine hK.o _ _ ⟨M9.o.row (i:=2) rfl,M9.o.row (i:=1) rfl⟩ ?_;clear hK ca zf;generalize (w7.setCell ⟨p.gn,i,none⟩ (.pointer (some ⟨g1,0,none⟩)))=w8 at*;obtain⟨ob,hob⟩:∃ob,s.on[i]? =some ob:=⟨_,gE (by rw[HK.o.on];exact hil)⟩;have M10:Hid (Mem w F (([(gp,aj.row (bg pt)),(ge,aj.row (aB e))]:List (Nat×aj))++aG {s with n:=s.n.set i y,on:=s.on.set i true} {p with ns:=p.ns.set i g1} g) (w8.setCell ⟨p.gb,i,none⟩ (.bool true))):=Mem.Kp M9.o (i:=6) (gg:=0) (e:=4) (c:=jj) (k:=i) (x:=ob) (y:=true) (v:= .bool true) (l:=s.on) (n:=p.k) (g:=p.gb) (cap:=p.cb) rfl HK.o.on.symm cK hob rfl;have cb:=lX M9.o (i:=6) rfl hob;obtain⟨_,_,cur,hv,_,_,hbk,_⟩:=(M9.o.own (i:=6) (g:=0) (e:=4) (c:=jj) (l:=s.on) rfl).aI cK (by rw[HK.o.on];omega);rw[HK.o.on] at hv;cases hv;have zf:=ax hbk i;clear hbk M9;refine bY ?_;go_wp2;refine NoPanic.normal ?_;go_wp2;go_ret;rw[HT2.o];exact⟨rfl,{p with ns:=p.ns.set i g1},⟨by show(p.ns.set i g1).length=p.k;rw[List.length_set];exact HK.o.ns,by show(s.n.set i y).length=p.k;rw[List.length_set];exact HK.o.n,by show(s.on.set i true).length=p.k;rw[List.length_set];exact HK.o.on,HK.o.lo,HK.o.hi⟩,rfl,M10.o.au.au⟩
theorem Mem.OA{α:Type}{P:Program}{f:FuncId}{args:Array Value}{w0 w:World}{F0:Nat->Prop}{A L:List (Nat×aj)}{L':α->List (Nat×aj)}{E:α->Ending->Prop}(h:Mem w0 F0 (A++L) w)(hc:∀F1,Sep w L F1->Calls P f args w fun e w'=>∃a,E a e/\Mem w F1 (L' a) w'):Calls P f args w fun e w'=>∃a,E a e/\Mem w0 F0 (A++L' a) w':=by
 have h1:Mem w0 F0 (A++ [(0,.nV fun _=>L)]) w:=Mem.fold h (p:=(0,.nV fun _=>L)) (fun F hF=>hF);have h2:=h1.call (P:=P) (f:=f) (args:=args) (R:=E) (i:=A.length) (p:=(0,.nV fun _=>L)) (p':=fun a=>(0,.nV fun _=>L' a)) (by simp) (fun F1 hF=>hc F1 hF);refine h2.mono ?_;rintro e w' ⟨a,he,hm⟩;refine⟨a,he,?_⟩;have h3:Mem w0 F0 (A++ [(0,.nV fun _=>L' a)]) w':=by
  have e1: (A++ [(0,aj.nV fun _=>L)]).set A.length (0,.nV fun _=>L' a)=A++ [(0,.nV fun _=>L' a)]:=by rw[List.set_append_right _ _ (nL _),Nat.sub_self];rfl
  rw[e1] at hm;exact hm
 obtain⟨F1,hF,h4⟩:=Mem.unfold h3;exact h4 _ hF
@[go_sem] theorem adW (s:cU) (v:Sl): (az s v).extract 7 12=aB s.e:=by simp[az,aB]
@[go_sem] theorem adX (s:cU) (v:Sl): (az s v).extract 3 5=bg s.p:=by simp[az,bg]
@[go_sem] theorem adY (s:cU) (v:Sl): (az s v).extract 5 7=bg s.q:=by simp[az,bg]
def aeG(s:aF)(i:Nat):aF:=
 match s.n[i]? with
 |none=>s
 |some x=>{gi {s with n:=s.n.set i (aeT x)} i (wG s.w) (dA x (ff s.w (nI i)) (dk s.w (nI i) (wG s.w)) fz) with on:=s.on.set i false}
def fE(s:aF)(i:Nat)(t:cU):Int×aF:=
 if t.kind.val=8 then jl s i t.e else
 if s.on[i]?≠some true then(10,s) else
 if t.kind.val=7/\1000<t.data.length then(11,s) else
 if t.kind.val=7 then(0,jd {s with w:=aU s.w} i t.data (dk (aU s.w) (nI i) (wG s.w)) (wG s.w)) else
 (0,match s.n[i]? with
  |none=>s
  |some x=>{gi {s with w:=aU s.w,n:=s.n.set i (aeT x)} i (wG s.w) (dA x (ff (aU s.w) (nI i)) (dk (aU s.w) (nI i) (wG s.w)) fz) with on:=s.on.set i false})
theorem aR.own{s:aF}(h:aR s)(i:Nat)(t:cU):aR (fE s i t).2:=by
 unfold fE;split
 ·exact h.boot _ _
 split
 ·exact h
 split
 ·exact h
 split
 ·exact h.step.xC _ _ _ _
 ·show aR (match s.n[i]? with|none=>s|some x=>_);split
  ·exact h
  ·rename_i x hx;have h1:aR (gi {s with w:=aU s.w,n:=s.n.set i (aeT x)} i (wG s.w) (dA x (ff (aU s.w) (nI i)) (dk (aU s.w) (nI i) (wG s.w)) fz)):=aR.send _ _ _ (h.step.put (h.nd x (jA hx)).send);have hs:=gA i (wG s.w) (dA x (ff (aU s.w) (nI i)) (dk (aU s.w) (nI i) (wG s.w)) fz) {s with w:=aU s.w,n:=s.n.set i (aeT x)};have e1:s.on.length=(s.n.set i (aeT x)).length:=by rw[List.length_set];exact h.no
   generalize gi {s with w:=aU s.w,n:=s.n.set i (aeT x)} i (wG s.w) (dA x (ff (aU s.w) (nI i)) (dk (aU s.w) (nI i) (wG s.w)) fz)=u at h1 hs ⊢;exact⟨h1.w,h1.np,by show(s.on.set i false).length=u.n.length;rw[List.length_set,e1,hs.n],h1.nd,h1.ml,h1.mt,h1.al,h1.cm⟩
theorem OB(s:aF)(p:bM)(g i:Nat)(t:cU)(v:Sl)(F:Nat->Prop)(w:World)(hk:aS s p)(hi:aR s)(hil:i<p.k)(hti:t.node.val=i)(hkd:t.kind.val=8)(h:Sep w (aG s p g) F):Calls prog 26 #[.pointer (some ⟨g,0,none⟩),.agg (az t v)] w fun r w'=>r= .returned (.int .i64 (jl s i t.e).1)/\∃p',aS (jl s i t.e).2 p'/\p'.k=p.k/\Mem w F (aG (jl s i t.e).2 p' g) w':=by
 have M0:Hid (Mem w F ([(w.heap.size,.row (az t v))]++aG s p g) (w.alloc (.cells (az t v) 40))):=(Mem.start h).alloc;have HC:Hid (Calls prog 58 #[.pointer (some ⟨g,0,none⟩),.int .i64 (i:Int),.agg (aB t.e)] (w.alloc (.cells (az t v) 40)) fun r w'=>∃p':bM,(r= .returned (.int .i64 (jl s i t.e).1)/\aS (jl s i t.e).2 p'/\p'.k=p.k)/\Mem w F ([(w.heap.size,.row (az t v))]++aG (jl s i t.e).2 p' g) w'):=
  Mem.OA (E:=fun(p':bM) r=>r= .returned (.int .i64 (jl s i t.e).1)/\aS (jl s i t.e).2 p'/\p'.k=p.k) (L':=fun p'=>aG (jl s i t.e).2 p' g) M0.o (fun F1 hF=>(Oz s p g i t.e F1 _ hk hi hil hF).mono (by rintro e w' ⟨rfl,p',h1,h2,h3⟩;exact⟨p',⟨rfl,h1,h2⟩,h3⟩))
 have e0:=xE M0.o (i:=0) rfl;have e1:=Eu M0.o (i:=0) rfl;rw[hkd] at e0;rw[hti] at e1;have er:=M0.o.row (i:=0) rfl;generalize jl s i t.e=T at HC ⊢;clear h hk hi hti hkd;go_enter func26,ntmps26;go_wp2_with (go_at_call 58;refine HC.o.mono ?_;rintro r w2 ⟨p',⟨rfl,h1,h2⟩,hM⟩;have K2:=qD h1;have K3:=qD h2;have M2:=qD hM;clear hM h1 h2);go_ret;exact⟨rfl,p',K2.o,K3.o,M2.o.au⟩
theorem Gs(s:aF)(p:bM)(g i:Nat)(t:cU)(v:Sl)(F:Nat->Prop)(w:World)(hk:aS s p)(hil:i<p.k)(hti:t.node.val=i)(hkd:t.kind.val≠8)(hon:s.on[i]? =some false)(h:Sep w (aG s p g) F):Calls prog 26 #[.pointer (some ⟨g,0,none⟩),.agg (az t v)] w fun r w'=>r= .returned (.int .i64 10)/\Mem w F (aG s p g) w':=by
 have M0:Hid (Mem w F ([(w.heap.size,.row (az t v))]++aG s p g) (w.alloc (.cells (az t v) 40))):=(Mem.start h).alloc;have e0:=xE M0.o (i:=0) rfl;have e1:=Eu M0.o (i:=0) rfl;rw[hti] at e1;have er:=M0.o.row (i:=0) rfl;have c14:=afz M0.o (i:=1) rfl;have cb:=lX M0.o (i:=5) rfl hon;have b8: (t.kind.val==8)=false:=by simpa using hkd
 clear h hk hti hkd hon;go_enter func26,ntmps26;go_wp2;go_ret;exact⟨rfl,M0.o.au⟩
theorem Rd.mh{w w':World}{F:Nat->Prop}{a:Option Addr}{n c:Nat}{b:List UInt8}(h:Rd w (.slice a n c) b)(hc:bN F w w')(hn:b≠[]->∀ad,a=some ad->¬F ad.block):Rd w' (.slice a n c) b:=by obtain⟨a',c',h1,h2,h3⟩:=h;injection h1 with e1 e2 e3;subst e1;refine⟨a,c',by rw[e2,e3],h2,fun q x hx=>?_⟩;obtain⟨g,o,h4,h5⟩:=h3 q x hx;refine⟨g,o,h4,?_⟩;have hg:g<w.heap.size:=World.block_lt_of_cell? _ _ h5;exact(World.cell?_of_block (w:=w) (hc.dK g hg (hn (fun e=>by rw[e] at hx;cases hx) _ h4))).trans h5
theorem OC(s:aF)(p:bM)(g i:Nat)(t:cU)(v:Sl)(F:Nat->Prop)(w:World)(hk:aS s p)(hi:aR s)(hil:i<p.k)(hti:t.node.val=i)(hkd:t.kind.val=7)(hon:s.on[i]? =some true)(hr:Rd w (.slice v.a v.n v.c) t.data)(hrn:t.data≠[]->∀ad,v.a=some ad->¬F ad.block)(h:Sep w (aG s p g) F):Calls prog 26 #[.pointer (some ⟨g,0,none⟩),.agg (az t v)] w fun r w'=>r= .returned (.int .i64 (if 1000<t.data.length then 11 else 0))/\Mem w F (aG (if 1000<t.data.length then s else jd {s with w:=aU s.w} i t.data (dk (aU s.w) (nI i) (wG s.w)) (wG s.w)) p g) w':=by
 have M0:Hid (Mem w F ([(w.heap.size,.row (az t v))]++aG s p g) (w.alloc (.cells (az t v) 40))):=(Mem.start h).alloc;have hvn:v.n=t.data.length:=by obtain⟨a,c,h1,_⟩:=hr;injection h1
 have HR:Hid (∀w',bN F w w'->Rd w' (.slice v.a t.data.length v.c) t.data):=fun w' hc=>by rw[<-hvn];exact hr.mh hc hrn
 have HK:=qD hk;have hpk:p.k<=64:=hk.hi;have HI:=qD hi;have e0:=xE M0.o (i:=0) rfl;have e1:=Eu M0.o (i:=0) rfl;have e14:=aaT M0.o (i:=0) rfl;rw[hti] at e1;rw[hkd] at e0;rw[hvn] at e14;have er:=M0.o.row (i:=0) rfl;have c14:=afz M0.o (i:=1) rfl;have cb:=lX M0.o (i:=5) rfl hon;by_cases hl:1000<t.data.length
 ·rw[if_pos hl,if_pos hl];have d1: (1000:Int)<t.data.length:=by omega
  clear h hk hi hti hkd hon hr hrn HR;go_enter func26,ntmps26;go_wp2;go_ret;exact⟨rfl,M0.o.au⟩
 ·rw[if_neg hl,if_neg hl];obtain⟨T,hT⟩:∃T,T=jd {s with w:=aU s.w} i t.data (dk (aU s.w) (nI i) (wG s.w)) (wG s.w):=⟨_,rfl⟩;rw[<-hT];have HT:=qD hT;clear hT;have d1:¬(1000:Int)<t.data.length:=by omega
  have HL:Hid (t.data.length<=1000000):=by show _<=_;omega
  have HON:=qD hon;have HKD:=qD hkd;clear h hk hi hti hkd hon hr hrn;go_enter func26,ntmps26;go_upto_region 8 with(fail);generalize (w.alloc (.cells (az t v) 40))=w1 at*;generalize w.heap.size=gt at*;have c0:w1.cell? ⟨g,0,none⟩=some (.pointer (some ⟨p.gw,0,none⟩)):=uo M0.o (i:=1) rfl;have HC:Hid (Calls prog 48 #[.pointer (some ⟨p.gw,0,none⟩)] w1 fun e w'=>e= .returned (.int .i64 (wG s.w).val)/\Mem w F ([(gt,.row (az t v))]++aG {s with w:=aU s.w} p g) w'):=M0.o.bD (i:=2) rfl (fun F1 hF=>rL s.w p.gw F1 w1 HI.o.w hF);have KS:Hid (aS {s with w:=aU s.w} p):=HK.o.qF _;have IS:Hid (aR {s with w:=aU s.w}):=HI.o.step;generalize wG s.w=G at HC HT;obtain⟨x,hx⟩:∃x,s.n[i]? =some x:=⟨_,gE (by rw[HK.o.n];exact hil)⟩;have HX:Hid (({s with w:=aU s.w}:aF).n[i]? =some x):=hx;have HT2:Hid (T=jd {s with w:=aU s.w} i t.data (dk ({s with w:=aU s.w}:aF).w (nI i) G) G):=HT.o;generalize ({s with w:=aU s.w}:aF)=S at HC KS IS HX HT2;clear hx cb HT;go_upto_region 9 with(go_at_call 48;refine qHG HC.o fun w2 M2=>?_);clear HC c0 M0 e0 e1 e14 er c14;have e0:=xE M2.o (i:=0) rfl;rw[HKD.o] at e0;have e14:=aaT M2.o (i:=0) rfl;have c0:w2.cell? ⟨g,0,none⟩=some (.pointer (some ⟨p.gw,0,none⟩)):=uo M2.o (i:=1) rfl;go_upto_region 10 with(fail);have HJ:Hid (i<=1000000):=by show _<=_;omega
  obtain⟨F1,h1⟩:=M2.o.rep (i:=2) rfl;have HFI:Hid (∀w',Below w2.heap.size w2 w'->Calls prog 52 #[.pointer (some ⟨p.gw,0,none⟩),.int .i64 (i:Int),.int .i64 G.val] w' fun e w''=>e= .returned (.int .i64 (dk S.w (nI i) G).val)/\Below w'.heap.size w' w''):=fun w' hb=>by have:=oO S.w p.gw F1 w' (nI i) G ((kD S.w).loc _ _ _ _ h1 fun x hx=>hb.block x ((kD S.w).lt _ _ _ h1 x hx));rw[gR HJ.o] at this;exact this
  have l1:=ab (M2.o.row (i:=0) rfl);have l2:=ab (M2.o.row (i:=1) rfl);clear h1;generalize dk S.w (nI i) G=fi at HFI HT2;refine ar 12 ?_;simp only[tA,tD,tC,tE]
  repeat quiet_step ((go_at_call 52;exact Calls.regrown_of (HFI.o _ (below_regrown _ _ _))))
  refine wpQuiet_nil ?_;intro w3 hb3;have M3:=qD (M2.o.below hb3);clear M2 e0 e14 c0 l1 l2 HFI hb3;have HC:Hid (Calls prog 55 #[.pointer (some ⟨g,0,none⟩),.int .i64 (i:Int),.slice v.a t.data.length v.c,.int .i64 fi.val,.int .i64 G.val] w3 fun r w'=>r= .returned (.tuple #[])/\Mem w F ([(gt,.row (az t v))]++aG T p g) w'):=by rw[HT2.o];exact Mem.jI M3.o (fun F1 hF=>DU S p g i x HX.o (IS.o.nd x (jA HX.o)) t.data _ fi G F1 w3 KS.o HL.o (HR.o w3 M3.o.mh) hF)
  clear HR HT2 M3;go_wp2_with (go_at_call 55;refine qHG HC.o fun w4 M4=>?_);go_ret;exact⟨rfl,M4.o.au⟩
def zW(s:aF)(i:Nat)(x:ak):aF:=gi {s with w:=aU s.w,n:=s.n.set i (aeT x)} i (wG s.w) (dA x (ff (aU s.w) (nI i)) (dk (aU s.w) (nI i) (wG s.w)) fz)
theorem OE(s:aF)(p:bM)(g i:Nat)(t:cU)(v:Sl)(x:ak)(hx:s.n[i]? =some x)(F:Nat->Prop)(w:World)(hk:aS s p)(hi:aR s)(hil:i<p.k)(hti:t.node.val=i)(hkd:t.kind.val=9)(hon:s.on[i]? =some true)(h:Sep w (aG s p g) F):Calls prog 26 #[.pointer (some ⟨g,0,none⟩),.agg (az t v)] w fun r w'=>r= .returned (.int .i64 0)/\Mem w F (aG {zW s i x with on:=s.on.set i false} p g) w':=by
 have M0:Hid (Mem w F ([(w.heap.size,.row (az t v))]++aG s p g) (w.alloc (.cells (az t v) 40))):=(Mem.start h).alloc;have HK:=qD hk;have hpk:p.k<=64:=hk.hi;have HI:=qD hi;have e0:=xE M0.o (i:=0) rfl;have e1:=Eu M0.o (i:=0) rfl;rw[hti] at e1;rw[hkd] at e0;have er:=M0.o.row (i:=0) rfl;have c14:=afz M0.o (i:=1) rfl;have cb:=lX M0.o (i:=5) rfl hon;obtain⟨T,hT⟩:∃T,T=zW s i x:=⟨_,rfl⟩;rw[<-hT];have HT:Hid (T=gi {s with w:=aU s.w,n:=s.n.set i (aeT x)} i (wG s.w) (dA x (ff (aU s.w) (nI i)) (dk (aU s.w) (nI i) (wG s.w)) fz)):=hT;have HON:=qD hon;have HKD:=qD hkd;have HX:=qD hx;have HSN:Hid (qE {s with w:=aU s.w,n:=s.n.set i (aeT x)} T):=by rw[HT.o];exact gA _ _ _ _
 clear h hk hi hti hkd hon hT hx;go_enter func26,ntmps26;go_upto_region 8 with(fail);generalize (w.alloc (.cells (az t v) 40))=w1 at*;generalize w.heap.size=gt at*;have c0:w1.cell? ⟨g,0,none⟩=some (.pointer (some ⟨p.gw,0,none⟩)):=uo M0.o (i:=1) rfl;have HC:Hid (Calls prog 48 #[.pointer (some ⟨p.gw,0,none⟩)] w1 fun e w'=>e= .returned (.int .i64 (wG s.w).val)/\Mem w F ([(gt,.row (az t v))]++aG {s with w:=aU s.w} p g) w'):=M0.o.bD (i:=2) rfl (fun F1 hF=>rL s.w p.gw F1 w1 HI.o.w hF);generalize wG s.w=G at HC HT;go_upto_region 9 with(go_at_call 48;refine qHG HC.o fun w2 M2=>?_);clear HC c0 M0 e0 e1 er c14 cb;have e0:=xE M2.o (i:=0) rfl;rw[HKD.o] at e0;go_upto_region 12 with(fail);have HJ:Hid (i<=1000000):=by show _<=_;omega
 obtain⟨a,ha⟩:∃a,p.ns[i]? =some a:=⟨_,gE (by rw[HK.o.ns];exact hil)⟩;have HN:Hid (([(gt,aj.row (az t v))]++aG {s with w:=aU s.w} p g)[i+6]? =some (a,aO x)):=by have:=nN (A:=[(gt,aj.row (az t v))]) (s:={s with w:=aU s.w}) (g:=g) HX.o ha;rw[show([(gt,aj.row (az t v))]:List (Nat×aj)).length+(i+5)=i+6 by simp;omega] at this;exact this
 have HP2:Hid (∀y,([(gt,aj.row (az t v))]++aG {s with w:=aU s.w} p g).set (i+6) (a,aO y)= [(gt,aj.row (az t v))]++aG {s with w:=aU s.w,n:=s.n.set i y} p g):=fun y=>by have:=oX (A:=[(gt,aj.row (az t v))]) (s:={s with w:=aU s.w}) (p:=p) (g:=g) (y:=y) ha;rw[show([(gt,aj.row (az t v))]:List (Nat×aj)).length+(i+5)=i+6 by simp;omega] at this;exact this
 refine aT 24 (.qs [0,1,2,3,4,5,6,7,8,9,10,11,12,13,15,16,17,18,19,20,23] (.w 14 (.w 21 (.w 22 .done)))) (fun w'=>w'.cell? ⟨g,0,none⟩=some (.pointer (some ⟨p.gw,0,none⟩))/\w'.cell? ⟨g,13,none⟩=some (.slice (some ⟨p.gn,0,none⟩) p.k p.cn)/\w'.cell? ⟨p.gn,i,none⟩=some (.pointer (some ⟨a,0,none⟩))) (by kernel_rfl) (by kernel_rfl) ?_ ?_
 ·have M1:=M2.o.below (Below.drew (bZ _ w2));exact⟨uo M1 (i:=1) rfl,tq M1 (i:=1) rfl,nc M1 (i:=4) rfl ha⟩
 have M3:=qD (M2.o.below (Below.drew (bZ _ w2)));generalize w2.drew=w3 at*;clear M2 e0;simp only[MT.qs,tC,tE]
 iterate 21 (refine fJ rfl rfl (by rintro w' ⟨s1,s2,s3⟩ K hK;go_simp;exact hK.o) ?_)
 have HW1:Hid (Calls prog 51 #[.pointer (some ⟨p.gw,0,none⟩),.int .i64 (i:Int)] w3 fun e w'=>e= .returned (.int .i64 (ff (aU s.w) (nI i)).val)/\Below w3.heap.size w3 w'):=by obtain⟨F1,h1⟩:=M3.o.rep (i:=2) rfl;have:=Bh (aU s.w) p.gw F1 w3 (nI i) h1;rw[gR HJ.o] at this;exact this
 generalize ff (aU s.w) (nI i)=nw at HW1 HT;refine cO rfl (fun K hK=>?_);go_wp2_with (go_at_call 51;refine Mem.qB HW1.o M3.o fun w4 M4=>?_;clear HW1 M3);refine hK.o _ _ ⟨uo M4.o (i:=1) rfl,tq M4.o (i:=1) rfl,nc M4.o (i:=4) rfl ha⟩ ?_;clear hK;have HW1:Hid (Calls prog 52 #[.pointer (some ⟨p.gw,0,none⟩),.int .i64 (i:Int),.int .i64 G.val] w4 fun e w'=>e= .returned (.int .i64 (dk (aU s.w) (nI i) G).val)/\Below w4.heap.size w4 w'):=by obtain⟨F1,h1⟩:=M4.o.rep (i:=2) rfl;have:=oO (aU s.w) p.gw F1 w4 (nI i) G h1;rw[gR HJ.o] at this;exact this
 generalize dk (aU s.w) (nI i) G=fi at HW1 HT;refine cO rfl (fun K hK=>?_);go_wp2_with (go_at_call 52;refine Mem.qB HW1.o M4.o fun w5 M5=>?_;clear HW1 M4);refine hK.o _ _ ⟨uo M5.o (i:=1) rfl,tq M5.o (i:=1) rfl,nc M5.o (i:=4) rfl ha⟩ ?_;clear hK;have HC:Hid (Calls prog 59 #[.pointer (some ⟨a,0,none⟩),.int .i64 nw.val,.int .i64 fi.val] w5 fun e w'=>∃q:Value,e= .returned q/\Mem w F ([(0,.own 163 16 aM q (dA x nw fi fz))]++([(gt,aj.row (az t v))]++aG {s with w:=aU s.w,n:=s.n.set i (aeT x)} p g)) w'):=by rw[<-(HP2.o _)];exact Mem.Bk M5.o (α:=Value) (N:=fun q=>[(0,.own 163 16 aM q (dA x nw fi fz))]) (p':=fun _=>(a,aO (aeT x))) (E:=fun q e=>e= .returned q) HN.o (fun F1 hF=>J2 a x nw fi F1 w5 hF)
 have HOL:Hid ((dA x nw fi fz).length<=1000):=nT (jx _ _ _ _) (by decide);generalize dA x nw fi fz=os at HC HT HOL;have KS2:Hid (aS {s with w:=aU s.w,n:=s.n.set i (aeT x)} p):=(HK.o.qF _).put;have HON2:Hid (({s with w:=aU s.w,n:=s.n.set i (aeT x)}:aF).on=s.on):=rfl;generalize hSS: ({s with w:=aU s.w,n:=s.n.set i (aeT x)}:aF)=V at HC HT KS2 HSN HON2;clear M5 hSS HN HP2;refine cO rfl (fun K hK=>?_);go_wp2_with (go_at_call 59;refine HC.o.mono ?_;rintro r w6 ⟨v1,rfl,hM⟩;have M6:=qD hM;clear hM HC);refine hK.o _ _ ⟨uo M6.o (i:=2) rfl,tq M6.o (i:=2) rfl,nc M6.o (i:=5) rfl ha⟩ ?_;clear hK;refine bY ?_;have HC:Hid (Calls prog 49 #[.pointer (some ⟨g,0,none⟩),.int .i64 (i:Int),v1,.int .i64 G.val] w6 fun r w'=>r= .returned (.tuple #[])/\Mem w F ([(gt,aj.row (az t v))]++([(0,.own 163 16 aM v1 os)]++aG T p g)) w'):=by rw[HT.o];have M7:Mem w F ([(gt,aj.row (az t v))]++([(0,.own 163 16 aM v1 os)]++aG V p g)) w6:=M6.o.perm (List.Perm.swap _ _ _);exact Mem.jI M7 (fun F1 hF=>xA V p g i (by omega) os v1 G F1 w6 KS2.o HOL.o hF)
 clear M6;go_wp2_with (go_at_call 49;refine qHG HC.o fun w7 M8=>?_;clear HC);refine NoPanic.normal ?_;go_upto_region 13 with(fail);have HTO:Hid (T.on=s.on):=HSN.o.on.trans HON2.o;have HOT:Hid (T.on[i]? =some true):=by rw[HTO.o];exact HON.o
 have M9:Hid (Mem w F ([(gt,aj.row (az t v)),(0,.own 163 16 aM v1 os)]++aG {T with on:=s.on.set i false} p g) (w7.setCell ⟨p.gb,i,none⟩ (.bool false))):=by rw[<-HTO.o];exact Mem.Kp M8.o (i:=6) (gg:=0) (e:=4) (c:=jj) (k:=i) (x:=true) (y:=false) (v:= .bool false) (l:=T.on) (n:=p.k) (g:=p.gb) (cap:=p.cb) rfl (by rw[HTO.o];exact HK.o.on.symm) cK HOT.o rfl
 have cb:=lX M8.o (i:=6) rfl HOT.o;have c14:w7.cell? ⟨g,14,none⟩=some (.slice (some ⟨p.gb,0,none⟩) p.k p.cb):=afz M8.o (i:=2) rfl;obtain⟨_,_,cur,hv,_,_,hbk,_⟩:=(M8.o.own (i:=6) (g:=0) (e:=4) (c:=jj) (l:=T.on) rfl).aI cK (by rw[HTO.o,HK.o.on];omega);rw[HTO.o,HK.o.on] at hv;cases hv;have zf:=ax hbk i;clear hbk M8 HTO;go_wp2;go_ret;exact⟨rfl,M9.o.au.au⟩
def IB(s:aF)(t:cU):Int×aF:=
 ((bF s.w t.node.val t.p t.q).1,if (bF s.w t.node.val t.p t.q).1=0 then
  (match s.n[t.node.val.toNat]? with
   |none=>{s with w:=(bF s.w t.node.val t.p t.q).2}
   |some x=>if s.on[t.node.val.toNat]? =some true then{s with w:=(bF s.w t.node.val t.p t.q).2,n:=s.n.set t.node.val.toNat (oQ x t.q)} else{s with w:=(bF s.w t.node.val t.p t.q).2})
  else{s with w:=(bF s.w t.node.val t.p t.q).2})
def Bq(s:aF)(t:cU):Int×aF:=
 if t.kind.val=1 then IB s t else
 if t.kind.val=2 then fk s else
 if t.kind.val=3 then jf s t.n.val else
 if t.kind.val=4∨t.kind.val=5∨t.kind.val=6 then ft s t else
 if (t.kind.val=7∨t.kind.val=8∨t.kind.val=9)/\yc s t.node.val=true then fE s t.node.val.toNat t else(1,s)
theorem OF{s:cZ}{i:Int}{p q:fX}(h: (bF s i p q).1=0):∃k:Nat,i=k/\k<s.p.length:=by
 unfold bF at h;split at h
 ·cases h
 ·rename_i hh;simp only[Bool.not_eq_true',Bool.not_eq_false] at hh;unfold ia at hh;simp only[bI,decide_eq_true_eq] at hh;exact⟨i.toNat,by omega,by omega⟩
theorem Kq(s:cZ)(i:Int)(p q:fX): (bF s i p q).2.p.length=s.p.length:=by
 unfold bF
 repeat (split;rfl)
 exact List.length_set
theorem aR.move{s:aF}(h:aR s)(t:cU):aR (IB s t).2:=by
 have h1:aR {s with w:=(bF s.w t.node.val t.p t.q).2}:=h.qF (h.w.move _ _ _) (Kq _ _ _ _);unfold IB;show aR (if _ then _ else _);split
 ·split
  ·exact h1
  ·rename_i x hx;split
   ·exact h1.put ((RH (P:=fun _ _=>True) x t.q).inv (h.nd x (jA hx)))
   ·exact h1
 ·exact h1
theorem aR.do_{s:aF}(h:aR s)(t:cU):aR (Bq s t).2:=by
 unfold Bq;split
 ·exact h.move t
 split
 ·exact h.tick
 split
 ·exact h.del _
 split
 ·exact h.Xz t
 split
 ·exact h.own _ t
 ·exact h
theorem IC(s:aF)(p:bM)(g:Nat)(t:cU)(v:Sl)(F:Nat->Prop)(w:World)(hk:aS s p)(hi:aR s)(hkd:t.kind.val=2)(h:Sep w (aG s p g) F):Calls prog 9 #[.pointer (some ⟨g,0,none⟩),.agg (az t v)] w fun r w'=>r= .returned (.int .i64 (fk s).1)/\Mem w F (aG (fk s).2 p g) w':=by
 have M0:Hid (Mem w F ([(w.heap.size,.row (az t v))]++aG s p g) (w.alloc (.cells (az t v) 40))):=(Mem.start h).alloc;have e0:=xE M0.o (i:=0) rfl;have er:=M0.o.row (i:=0) rfl;rw[hkd] at e0;have e2:=RJ M0.o (i:=0) rfl;have HC:Hid (Calls prog 22 #[.pointer (some ⟨g,0,none⟩)] (w.alloc (.cells (az t v) 40)) fun r w'=>r= .returned (.int .i64 (fk s).1)/\Mem w F ([(w.heap.size,.row (az t v))]++aG (fk s).2 p g) w'):=
  Mem.jI M0.o (fun F1 hF=>Ov s p g F1 _ hk hi hF)
 generalize fk s=T at HC ⊢;clear h hk hi hkd;go_enter func9,ntmps9;go_wp2_with (go_at_call 22;refine qHG HC.o fun w2 M2=>?_);go_ret;exact⟨rfl,M2.o.au⟩
theorem ID(s:aF)(p:bM)(g:Nat)(t:cU)(v:Sl)(F:Nat->Prop)(w:World)(hk:aS s p)(hi:aR s)(hkd:t.kind.val=3)(h:Sep w (aG s p g) F):Calls prog 9 #[.pointer (some ⟨g,0,none⟩),.agg (az t v)] w fun r w'=>r= .returned (.int .i64 (jf s t.n.val).1)/\Mem w F (aG (jf s t.n.val).2 p g) w':=by
 have M0:Hid (Mem w F ([(w.heap.size,.row (az t v))]++aG s p g) (w.alloc (.cells (az t v) 40))):=(Mem.start h).alloc;have e0:=xE M0.o (i:=0) rfl;have er:=M0.o.row (i:=0) rfl;rw[hkd] at e0;have e2:=RJ M0.o (i:=0) rfl;have HC:Hid (Calls prog 23 #[.pointer (some ⟨g,0,none⟩),.int .i64 t.n.val] (w.alloc (.cells (az t v) 40)) fun r w'=>r= .returned (.int .i64 (jf s t.n.val).1)/\Mem w F ([(w.heap.size,.row (az t v))]++aG (jf s t.n.val).2 p g) w'):=
  Mem.jI M0.o (fun F1 hF=>RI s p g t.n F1 _ hk hi hF)
 generalize jf s t.n.val=T at HC ⊢;clear h hk hi hkd;go_enter func9,ntmps9;go_wp2_with (go_at_call 23;refine qHG HC.o fun w2 M2=>?_);go_ret;exact⟨rfl,M2.o.au⟩
theorem RL(s:aF)(p:bM)(g:Nat)(t:cU)(v:Sl)(F:Nat->Prop)(w:World)(hk:aS s p)(hi:aR s)(hkd:t.kind.val=4)(h:Sep w (aG s p g) F):Calls prog 9 #[.pointer (some ⟨g,0,none⟩),.agg (az t v)] w fun r w'=>r= .returned (.int .i64 (ft s t).1)/\Mem w F (aG (ft s t).2 p g) w':=by
 have M0:Hid (Mem w F ([(w.heap.size,.row (az t v))]++aG s p g) (w.alloc (.cells (az t v) 40))):=(Mem.start h).alloc;have e0:=xE M0.o (i:=0) rfl;have er:=M0.o.row (i:=0) rfl;rw[hkd] at e0;have e2:=RJ M0.o (i:=0) rfl;have HC:Hid (Calls prog 24 #[.pointer (some ⟨g,0,none⟩),.agg (az t v)] (w.alloc (.cells (az t v) 40)) fun r w'=>r= .returned (.int .i64 (ft s t).1)/\Mem w F ([(w.heap.size,.row (az t v))]++aG (ft s t).2 p g) w'):=
  Mem.jI M0.o (fun F1 hF=>xF s p g t v F1 _ hk hi (.inl hkd) hF)
 generalize ft s t=T at HC ⊢;clear h hk hi hkd;go_enter func9,ntmps9;go_wp2_with (go_at_call 24;refine qHG HC.o fun w2 M2=>?_);go_ret;exact⟨rfl,M2.o.au⟩
theorem RM(s:aF)(p:bM)(g:Nat)(t:cU)(v:Sl)(F:Nat->Prop)(w:World)(hk:aS s p)(hi:aR s)(hkd:t.kind.val=5)(h:Sep w (aG s p g) F):Calls prog 9 #[.pointer (some ⟨g,0,none⟩),.agg (az t v)] w fun r w'=>r= .returned (.int .i64 (ft s t).1)/\Mem w F (aG (ft s t).2 p g) w':=by
 have M0:Hid (Mem w F ([(w.heap.size,.row (az t v))]++aG s p g) (w.alloc (.cells (az t v) 40))):=(Mem.start h).alloc;have e0:=xE M0.o (i:=0) rfl;have er:=M0.o.row (i:=0) rfl;rw[hkd] at e0;have e2:=RJ M0.o (i:=0) rfl;have HC:Hid (Calls prog 24 #[.pointer (some ⟨g,0,none⟩),.agg (az t v)] (w.alloc (.cells (az t v) 40)) fun r w'=>r= .returned (.int .i64 (ft s t).1)/\Mem w F ([(w.heap.size,.row (az t v))]++aG (ft s t).2 p g) w'):=
  Mem.jI M0.o (fun F1 hF=>xF s p g t v F1 _ hk hi (.inr (.inl hkd)) hF)
 generalize ft s t=T at HC ⊢;clear h hk hi hkd;go_enter func9,ntmps9;go_wp2_with (go_at_call 24;refine qHG HC.o fun w2 M2=>?_);go_ret;exact⟨rfl,M2.o.au⟩
theorem RN(s:aF)(p:bM)(g:Nat)(t:cU)(v:Sl)(F:Nat->Prop)(w:World)(hk:aS s p)(hi:aR s)(hkd:t.kind.val=6)(h:Sep w (aG s p g) F):Calls prog 9 #[.pointer (some ⟨g,0,none⟩),.agg (az t v)] w fun r w'=>r= .returned (.int .i64 (ft s t).1)/\Mem w F (aG (ft s t).2 p g) w':=by
 have M0:Hid (Mem w F ([(w.heap.size,.row (az t v))]++aG s p g) (w.alloc (.cells (az t v) 40))):=(Mem.start h).alloc;have e0:=xE M0.o (i:=0) rfl;have er:=M0.o.row (i:=0) rfl;rw[hkd] at e0;have e2:=RJ M0.o (i:=0) rfl;have HC:Hid (Calls prog 24 #[.pointer (some ⟨g,0,none⟩),.agg (az t v)] (w.alloc (.cells (az t v) 40)) fun r w'=>r= .returned (.int .i64 (ft s t).1)/\Mem w F ([(w.heap.size,.row (az t v))]++aG (ft s t).2 p g) w'):=
  Mem.jI M0.o (fun F1 hF=>xF s p g t v F1 _ hk hi (.inr (.inr hkd)) hF)
 generalize ft s t=T at HC ⊢;clear h hk hi hkd;go_enter func9,ntmps9;go_wp2_with (go_at_call 24;refine qHG HC.o fun w2 M2=>?_);go_ret;exact⟨rfl,M2.o.au⟩
theorem Mem.rS{α:Type}{P:Program}{f:FuncId}{args:Array Value}{w0 w:World}{F0:Nat->Prop}{A L:List (Nat×aj)}{L':α->List (Nat×aj)}{E:α->Ending->Prop}(h:Mem w0 F0 (A++L) w)(hc:∀F1,Sep w L F1->(∀x,F1 x->F0 x∨w0.heap.size<=x)->Calls P f args w fun e w'=>∃a,E a e/\Mem w F1 (L' a) w'):Calls P f args w fun e w'=>∃a,E a e/\Mem w0 F0 (A++L' a) w':=by
 obtain⟨F,hS,hsub,hchg⟩:=h;obtain⟨FA,FL,sA,sL,disj,iff⟩:=Sep.append.1 hS;refine(hc FL sL (fun x hx=>hsub x ((iff x).2 (.inr hx)))).mono ?_;rintro e w' ⟨a,he,F',g1,g2,g3⟩;refine⟨a,he,fun x=>FA x∨F' x,Sep.append.2 ⟨FA,F',sA.loc fun x hx=>g3.dK x (sA.lt x hx) (disj x hx),g1,fun x hx hf=>?_,fun x=>Iff.rfl⟩,fun x hx=>?_,hchg.trans g3 fun x hx=>hsub x ((iff x).2 (.inr hx))⟩
 ·rcases g2 x hf with h|h
  ·exact disj x hx h
  ·have:=sA.lt x hx;omega
 ·rcases hx with hx|hx
  ·exact hsub x ((iff x).2 (.inl hx))
  ·rcases g2 x hx with h|h
   ·exact hsub x ((iff x).2 (.inr h))
   ·exact .inr (nT hchg.size h)
theorem Br(s:aF)(p:bM)(g i:Nat)(t:cU)(v:Sl)(F:Nat->Prop)(w:World)(hk:aS s p)(hi:aR s)(hil:i<p.k)(hti:t.node.val=i)(hkd:t.kind.val=7∨t.kind.val=8∨t.kind.val=9)(hr:Rd w (.slice v.a v.n v.c) t.data)(hrn:t.data≠[]->∀ad,v.a=some ad->¬F ad.block)(h:Sep w (aG s p g) F):Calls prog 26 #[.pointer (some ⟨g,0,none⟩),.agg (az t v)] w fun r w'=>∃p',(r= .returned (.int .i64 (fE s i t).1)/\aS (fE s i t).2 p'/\p'.k=p.k)/\Mem w F (aG (fE s i t).2 p' g) w':=by
 unfold fE;by_cases h8:t.kind.val=8
 ·rw[if_pos h8];refine(OB s p g i t v F w hk hi hil hti h8 h).mono ?_;rintro r w' ⟨rfl,p',h1,h2,h3⟩;exact⟨p',⟨rfl,h1,h2⟩,h3⟩
 rw[if_neg h8];obtain⟨ob,hob⟩:∃ob,s.on[i]? =some ob:=⟨_,gE (by rw[hk.on];exact hil)⟩;cases ob with
 |false=>
  rw[if_pos (by rw[hob];simp)];refine(Gs s p g i t v F w hk hil hti h8 hob h).mono ?_;rintro r w' ⟨rfl,h3⟩;exact⟨p,⟨rfl,hk,rfl⟩,h3⟩
 |true=>
  rw[if_neg (by rw[hob];simp)];by_cases h7:t.kind.val=7
  ·have hw:=OC s p g i t v F w hk hi hil hti h7 hob hr hrn h;by_cases hl:1000<t.data.length
   ·rw[if_pos ⟨h7,hl⟩];rw[if_pos hl,if_pos hl] at hw;refine hw.mono ?_;rintro r w' ⟨rfl,h3⟩;exact⟨p,⟨rfl,hk,rfl⟩,h3⟩
   ·rw[if_neg (fun e=>hl e.2),if_pos h7];rw[if_neg hl,if_neg hl] at hw;refine hw.mono ?_;rintro r w' ⟨rfl,h3⟩;refine⟨p,⟨rfl,?_,rfl⟩,h3⟩;show aS (jd {s with w:=aU s.w} i t.data _ _) p;unfold jd;split
    ·exact hk.qF _
    ·exact(hk.qF _).put.Oh (gA _ _ _ _)
  ·rw[if_neg (fun e=>h7 e.1),if_neg h7];have h9:t.kind.val=9:=by omega
   obtain⟨x,hx⟩:∃x,s.n[i]? =some x:=⟨_,gE (by rw[hk.n];exact hil)⟩;have hw:=OE s p g i t v x hx F w hk hi hil hti h9 hob h;rw[hx];show Calls _ _ _ _ fun r w'=>∃p':bM,(r= .returned (.int .i64 0)/\aS {zW s i x with on:=s.on.set i false} p'/\p'.k=p.k)/\Mem w F (aG {zW s i x with on:=s.on.set i false} p' g) w';have hs:qE {s with w:=aU s.w,n:=s.n.set i (aeT x)} (zW s i x):=gA _ _ _ _;generalize zW s i x=u at hw hs ⊢;refine hw.mono ?_;rintro r w' ⟨rfl,h3⟩;exact⟨p,⟨rfl,⟨hk.ns,by show u.n.length=_;rw[hs.n];show(s.n.set i (aeT x)).length=_;rw[List.length_set];exact hk.n,by show(s.on.set i false).length=_;rw[List.length_set];exact hk.on,hk.lo,hk.hi⟩,rfl⟩,h3⟩
theorem RO(s:aF)(p:bM)(g:Nat)(t:cU)(v:Sl)(F:Nat->Prop)(w:World)(hk:aS s p)(hi:aR s)(hkd:t.kind.val=7)(i:Nat)(hti:t.node.val=i)(hil:i<p.k)(hr:Rd w (.slice v.a v.n v.c) t.data)(hrn:t.data≠[]->∀ad,v.a=some ad->¬F ad.block/\ad.block<w.heap.size)(h:Sep w (aG s p g) F):Calls prog 9 #[.pointer (some ⟨g,0,none⟩),.agg (az t v)] w fun r w'=>∃p',(r= .returned (.int .i64 (fE s i t).1)/\aS (fE s i t).2 p'/\p'.k=p.k)/\Mem w F (aG (fE s i t).2 p' g) w':=by
 have M0:Hid (Mem w F ([(w.heap.size,.row (az t v))]++aG s p g) (w.alloc (.cells (az t v) 40))):=(Mem.start h).alloc;have e0:=xE M0.o (i:=0) rfl;have er:=M0.o.row (i:=0) rfl;rw[hkd] at e0;have e1:=Eu M0.o (i:=0) rfl;rw[hti] at e1;have HH:Hid (Calls prog 25 #[.pointer (some ⟨g,0,none⟩),.int .i64 (i:Int)] (w.alloc (.cells (az t v) 40)) fun e w'=>e= .returned (.bool true)/\w'=(w.alloc (.cells (az t v) 40))):=by obtain⟨F1,h1⟩:=Mem.tail (A:=[(w.heap.size,.row (az t v))]) M0.o;have:=lY s p g i F1 _ hk h1;rw[oY (by rw[hk.n];exact hil)] at this;exact this
 have HC:Hid (Calls prog 26 #[.pointer (some ⟨g,0,none⟩),.agg (az t v)] (w.alloc (.cells (az t v) 40)) fun r w'=>∃p':bM,(r= .returned (.int .i64 (fE s i t).1)/\aS (fE s i t).2 p'/\p'.k=p.k)/\Mem w F ([(w.heap.size,.row (az t v))]++aG (fE s i t).2 p' g) w'):=
  Mem.rS M0.o (fun F1 hF hsub=>Br s p g i t v F1 _ hk hi hil hti (.inl hkd) (hr.grown ((bZ _ w).alloc (nL _) _)) (fun hne ad ha hf=>by
   obtain⟨h1,h2⟩:=hrn hne ad ha;rcases hsub _ hf with h3|h3
   ·exact h1 h3
   ·omega) hF)
 generalize fE s i t=T at HC ⊢;clear h hk hi hkd hti hr hrn;go_enter func9,ntmps9;go_wp2_with (first|(go_at_call 25;refine HH.o.mono ?_;rintro r w2 ⟨rfl,hw⟩;subst hw)|(go_at_call 26;refine HC.o.mono ?_;rintro r w2 ⟨p',⟨rfl,h1,h2⟩,hM⟩;have K2:=qD h1;have K3:=qD h2;have M2:=qD hM;clear hM h1 h2));go_ret;exact⟨p',⟨rfl,K2.o,K3.o⟩,M2.o.au⟩
theorem Kr(s:aF)(p:bM)(g:Nat)(t:cU)(v:Sl)(F:Nat->Prop)(w:World)(hk:aS s p)(hi:aR s)(hkd:t.kind.val=7)(hno:yc s t.node.val=false)(h:Sep w (aG s p g) F):Calls prog 9 #[.pointer (some ⟨g,0,none⟩),.agg (az t v)] w fun r w'=>r= .returned (.int .i64 1)/\Mem w F (aG s p g) w':=by
 have M0:Hid (Mem w F ([(w.heap.size,.row (az t v))]++aG s p g) (w.alloc (.cells (az t v) 40))):=(Mem.start h).alloc;have e0:=xE M0.o (i:=0) rfl;have er:=M0.o.row (i:=0) rfl;rw[hkd] at e0;have e1:=Eu M0.o (i:=0) rfl;have HH:Hid (Calls prog 25 #[.pointer (some ⟨g,0,none⟩),.int .i64 t.node.val] (w.alloc (.cells (az t v) 40)) fun e w'=>e= .returned (.bool false)/\w'=(w.alloc (.cells (az t v) 40))):=by obtain⟨F1,h1⟩:=Mem.tail (A:=[(w.heap.size,.row (az t v))]) M0.o;have:=lY s p g t.node.val F1 _ hk h1;rw[hno] at this;exact this
 clear h hk hi hkd hno;go_enter func9,ntmps9;go_wp2_with (go_at_call 25;refine HH.o.mono ?_;rintro r w2 ⟨rfl,hw⟩;subst hw);go_ret;exact⟨rfl,M0.o.au⟩
theorem RP(s:aF)(p:bM)(g:Nat)(t:cU)(v:Sl)(F:Nat->Prop)(w:World)(hk:aS s p)(hi:aR s)(hkd:t.kind.val=8)(i:Nat)(hti:t.node.val=i)(hil:i<p.k)(hr:Rd w (.slice v.a v.n v.c) t.data)(hrn:t.data≠[]->∀ad,v.a=some ad->¬F ad.block/\ad.block<w.heap.size)(h:Sep w (aG s p g) F):Calls prog 9 #[.pointer (some ⟨g,0,none⟩),.agg (az t v)] w fun r w'=>∃p',(r= .returned (.int .i64 (fE s i t).1)/\aS (fE s i t).2 p'/\p'.k=p.k)/\Mem w F (aG (fE s i t).2 p' g) w':=by
 have M0:Hid (Mem w F ([(w.heap.size,.row (az t v))]++aG s p g) (w.alloc (.cells (az t v) 40))):=(Mem.start h).alloc;have e0:=xE M0.o (i:=0) rfl;have er:=M0.o.row (i:=0) rfl;rw[hkd] at e0;have e1:=Eu M0.o (i:=0) rfl;rw[hti] at e1;have HH:Hid (Calls prog 25 #[.pointer (some ⟨g,0,none⟩),.int .i64 (i:Int)] (w.alloc (.cells (az t v) 40)) fun e w'=>e= .returned (.bool true)/\w'=(w.alloc (.cells (az t v) 40))):=by obtain⟨F1,h1⟩:=Mem.tail (A:=[(w.heap.size,.row (az t v))]) M0.o;have:=lY s p g i F1 _ hk h1;rw[oY (by rw[hk.n];exact hil)] at this;exact this
 have HC:Hid (Calls prog 26 #[.pointer (some ⟨g,0,none⟩),.agg (az t v)] (w.alloc (.cells (az t v) 40)) fun r w'=>∃p':bM,(r= .returned (.int .i64 (fE s i t).1)/\aS (fE s i t).2 p'/\p'.k=p.k)/\Mem w F ([(w.heap.size,.row (az t v))]++aG (fE s i t).2 p' g) w'):=
  Mem.rS M0.o (fun F1 hF hsub=>Br s p g i t v F1 _ hk hi hil hti (.inr (.inl hkd)) (hr.grown ((bZ _ w).alloc (nL _) _)) (fun hne ad ha hf=>by
   obtain⟨h1,h2⟩:=hrn hne ad ha;rcases hsub _ hf with h3|h3
   ·exact h1 h3
   ·omega) hF)
 generalize fE s i t=T at HC ⊢;clear h hk hi hkd hti hr hrn;go_enter func9,ntmps9;go_wp2_with (first|(go_at_call 25;refine HH.o.mono ?_;rintro r w2 ⟨rfl,hw⟩;subst hw)|(go_at_call 26;refine HC.o.mono ?_;rintro r w2 ⟨p',⟨rfl,h1,h2⟩,hM⟩;have K2:=qD h1;have K3:=qD h2;have M2:=qD hM;clear hM h1 h2));go_ret;exact⟨p',⟨rfl,K2.o,K3.o⟩,M2.o.au⟩
theorem Ks(s:aF)(p:bM)(g:Nat)(t:cU)(v:Sl)(F:Nat->Prop)(w:World)(hk:aS s p)(hi:aR s)(hkd:t.kind.val=8)(hno:yc s t.node.val=false)(h:Sep w (aG s p g) F):Calls prog 9 #[.pointer (some ⟨g,0,none⟩),.agg (az t v)] w fun r w'=>r= .returned (.int .i64 1)/\Mem w F (aG s p g) w':=by
 have M0:Hid (Mem w F ([(w.heap.size,.row (az t v))]++aG s p g) (w.alloc (.cells (az t v) 40))):=(Mem.start h).alloc;have e0:=xE M0.o (i:=0) rfl;have er:=M0.o.row (i:=0) rfl;rw[hkd] at e0;have e1:=Eu M0.o (i:=0) rfl;have HH:Hid (Calls prog 25 #[.pointer (some ⟨g,0,none⟩),.int .i64 t.node.val] (w.alloc (.cells (az t v) 40)) fun e w'=>e= .returned (.bool false)/\w'=(w.alloc (.cells (az t v) 40))):=by obtain⟨F1,h1⟩:=Mem.tail (A:=[(w.heap.size,.row (az t v))]) M0.o;have:=lY s p g t.node.val F1 _ hk h1;rw[hno] at this;exact this
 clear h hk hi hkd hno;go_enter func9,ntmps9;go_wp2_with (go_at_call 25;refine HH.o.mono ?_;rintro r w2 ⟨rfl,hw⟩;subst hw);go_ret;exact⟨rfl,M0.o.au⟩
theorem RQ(s:aF)(p:bM)(g:Nat)(t:cU)(v:Sl)(F:Nat->Prop)(w:World)(hk:aS s p)(hi:aR s)(hkd:t.kind.val=9)(i:Nat)(hti:t.node.val=i)(hil:i<p.k)(hr:Rd w (.slice v.a v.n v.c) t.data)(hrn:t.data≠[]->∀ad,v.a=some ad->¬F ad.block/\ad.block<w.heap.size)(h:Sep w (aG s p g) F):Calls prog 9 #[.pointer (some ⟨g,0,none⟩),.agg (az t v)] w fun r w'=>∃p',(r= .returned (.int .i64 (fE s i t).1)/\aS (fE s i t).2 p'/\p'.k=p.k)/\Mem w F (aG (fE s i t).2 p' g) w':=by
 have M0:Hid (Mem w F ([(w.heap.size,.row (az t v))]++aG s p g) (w.alloc (.cells (az t v) 40))):=(Mem.start h).alloc;have e0:=xE M0.o (i:=0) rfl;have er:=M0.o.row (i:=0) rfl;rw[hkd] at e0;have e1:=Eu M0.o (i:=0) rfl;rw[hti] at e1;have HH:Hid (Calls prog 25 #[.pointer (some ⟨g,0,none⟩),.int .i64 (i:Int)] (w.alloc (.cells (az t v) 40)) fun e w'=>e= .returned (.bool true)/\w'=(w.alloc (.cells (az t v) 40))):=by obtain⟨F1,h1⟩:=Mem.tail (A:=[(w.heap.size,.row (az t v))]) M0.o;have:=lY s p g i F1 _ hk h1;rw[oY (by rw[hk.n];exact hil)] at this;exact this
 have HC:Hid (Calls prog 26 #[.pointer (some ⟨g,0,none⟩),.agg (az t v)] (w.alloc (.cells (az t v) 40)) fun r w'=>∃p':bM,(r= .returned (.int .i64 (fE s i t).1)/\aS (fE s i t).2 p'/\p'.k=p.k)/\Mem w F ([(w.heap.size,.row (az t v))]++aG (fE s i t).2 p' g) w'):=
  Mem.rS M0.o (fun F1 hF hsub=>Br s p g i t v F1 _ hk hi hil hti (.inr (.inr hkd)) (hr.grown ((bZ _ w).alloc (nL _) _)) (fun hne ad ha hf=>by
   obtain⟨h1,h2⟩:=hrn hne ad ha;rcases hsub _ hf with h3|h3
   ·exact h1 h3
   ·omega) hF)
 generalize fE s i t=T at HC ⊢;clear h hk hi hkd hti hr hrn;go_enter func9,ntmps9;go_wp2_with (first|(go_at_call 25;refine HH.o.mono ?_;rintro r w2 ⟨rfl,hw⟩;subst hw)|(go_at_call 26;refine HC.o.mono ?_;rintro r w2 ⟨p',⟨rfl,h1,h2⟩,hM⟩;have K2:=qD h1;have K3:=qD h2;have M2:=qD hM;clear hM h1 h2));go_ret;exact⟨p',⟨rfl,K2.o,K3.o⟩,M2.o.au⟩
theorem Kt(s:aF)(p:bM)(g:Nat)(t:cU)(v:Sl)(F:Nat->Prop)(w:World)(hk:aS s p)(hi:aR s)(hkd:t.kind.val=9)(hno:yc s t.node.val=false)(h:Sep w (aG s p g) F):Calls prog 9 #[.pointer (some ⟨g,0,none⟩),.agg (az t v)] w fun r w'=>r= .returned (.int .i64 1)/\Mem w F (aG s p g) w':=by
 have M0:Hid (Mem w F ([(w.heap.size,.row (az t v))]++aG s p g) (w.alloc (.cells (az t v) 40))):=(Mem.start h).alloc;have e0:=xE M0.o (i:=0) rfl;have er:=M0.o.row (i:=0) rfl;rw[hkd] at e0;have e1:=Eu M0.o (i:=0) rfl;have HH:Hid (Calls prog 25 #[.pointer (some ⟨g,0,none⟩),.int .i64 t.node.val] (w.alloc (.cells (az t v) 40)) fun e w'=>e= .returned (.bool false)/\w'=(w.alloc (.cells (az t v) 40))):=by obtain⟨F1,h1⟩:=Mem.tail (A:=[(w.heap.size,.row (az t v))]) M0.o;have:=lY s p g t.node.val F1 _ hk h1;rw[hno] at this;exact this
 clear h hk hi hkd hno;go_enter func9,ntmps9;go_wp2_with (go_at_call 25;refine HH.o.mono ?_;rintro r w2 ⟨rfl,hw⟩;subst hw);go_ret;exact⟨rfl,M0.o.au⟩
theorem RR(s:aF)(p:bM)(g:Nat)(t:cU)(v:Sl)(F:Nat->Prop)(w:World)(hk:aS s p)(hi:aR s)(h1:t.kind.val≠1)(h2:t.kind.val≠2)(h3:t.kind.val≠3)(h4:t.kind.val≠4)(h5:t.kind.val≠5)(h6:t.kind.val≠6)(h7:t.kind.val≠7)(h8:t.kind.val≠8)(h9:t.kind.val≠9)(h:Sep w (aG s p g) F):Calls prog 9 #[.pointer (some ⟨g,0,none⟩),.agg (az t v)] w fun r w'=>r= .returned (.int .i64 1)/\Mem w F (aG s p g) w':=by
 have M0:Hid (Mem w F ([(w.heap.size,.row (az t v))]++aG s p g) (w.alloc (.cells (az t v) 40))):=(Mem.start h).alloc;have e0:=xE M0.o (i:=0) rfl;have er:=M0.o.row (i:=0) rfl;have b1: (t.kind.val==1)=false:=by simpa using h1
 have b2: (t.kind.val==2)=false:=by simpa using h2
 have b3: (t.kind.val==3)=false:=by simpa using h3
 have b4: (t.kind.val==4)=false:=by simpa using h4
 have b5: (t.kind.val==5)=false:=by simpa using h5
 have b6: (t.kind.val==6)=false:=by simpa using h6
 have b7: (t.kind.val==7)=false:=by simpa using h7
 have b8: (t.kind.val==8)=false:=by simpa using h8
 have b9: (t.kind.val==9)=false:=by simpa using h9
 clear h hk hi h1 h2 h3 h4 h5 h6 h7 h8 h9;go_enter func9,ntmps9;go_wp2;go_ret;exact⟨rfl,M0.o.au⟩
theorem Ku(s:aF)(p:bM)(g:Nat)(t:cU)(v:Sl)(F:Nat->Prop)(w:World)(hk:aS s p)(hi:aR s)(hkd:t.kind.val=1)(hno: (bF s.w t.node.val t.p t.q).1≠0)(h:Sep w (aG s p g) F):Calls prog 9 #[.pointer (some ⟨g,0,none⟩),.agg (az t v)] w fun r w'=>r= .returned (.int .i64 (bF s.w t.node.val t.p t.q).1)/\Mem w F (aG {s with w:=(bF s.w t.node.val t.p t.q).2} p g) w':=by
 have M0:Hid (Mem w F ([(w.heap.size,.row (az t v))]++aG s p g) (w.alloc (.cells (az t v) 40))):=(Mem.start h).alloc;have e0:=xE M0.o (i:=0) rfl;have er:=M0.o.row (i:=0) rfl;rw[hkd] at e0;have e1:=Eu M0.o (i:=0) rfl;have c0: (w.alloc (.cells (az t v) 40)).cell? ⟨g,0,none⟩=some (.pointer (some ⟨p.gw,0,none⟩)):=uo M0.o (i:=1) rfl;have HC:Hid (∀w',Mem w F ([(w.heap.size,.row (az t v))]++aG s p g) w'->Calls prog 20 #[.pointer (some ⟨p.gw,0,none⟩),.int .i64 t.node.val,.agg (bg t.p),.agg (bg t.q)] w' fun e w''=>e= .returned (.int .i64 (bF s.w t.node.val t.p t.q).1)/\Mem w F ([(w.heap.size,.row (az t v))]++aG {s with w:=(bF s.w t.node.val t.p t.q).2} p g) w''):=fun w' hM=>hM.bD (i:=2) rfl (fun F1 hF=>xu s.w p.gw F1 w' t.node.val t.p t.q hi.w hF);have HK:=qD hk;have hpk:p.k<=64:=hk.hi;have HI:=qD hi;have b1: ((bF s.w t.node.val t.p t.q).1==0)=false:=by simpa using hno
 generalize bF s.w t.node.val t.p t.q=mv at*;clear h hk hi hkd hno;go_enter func9,ntmps9;go_upto_region 5 with(fail);generalize (w.alloc (.cells (az t v) 40))=w1 at*;generalize w.heap.size=gt at*;have l1:=ab (M0.o.row (i:=0) rfl);have l2:=ab (M0.o.row (i:=1) rfl);refine ar 10 ?_;simp only[tA,tD,tC,tE]
 repeat quiet_step (fail)
 refine wpQuiet_nil ?_;intro w2 hb2;have M2:=qD (M0.o.below hb2);clear M0 e0 e1 er c0 l1 l2 hb2;go_upto_region 6 with(go_at_call 20;refine qHG (HC.o w2 M2.o) fun w3 M3=>?_);clear M2 HC;refine aY ?_
 repeat (first|go_big_quiet_skip|quiet_step (fail))
 refine wpQuiet_nil ?_;intro w4 hb4;have M4:=qD (M3.o.below hb4);clear M3 hb4;go_wp2;go_ret;exact⟨rfl,M4.o.au⟩
theorem Bt(s:aF)(p:bM)(g:Nat)(t:cU)(v:Sl)(F:Nat->Prop)(w:World)(hk:aS s p)(hi:aR s)(hkd:t.kind.val=1)(hyes: (bF s.w t.node.val t.p t.q).1=0)(j:Nat)(hti:t.node.val=j)(hjl:j<p.k)(x:ak)(hx:s.n[j]? =some x)(hon:s.on[j]? =some false)(h:Sep w (aG s p g) F):Calls prog 9 #[.pointer (some ⟨g,0,none⟩),.agg (az t v)] w fun r w'=>r= .returned (.int .i64 0)/\Mem w F (aG {s with w:=(bF s.w t.node.val t.p t.q).2} p g) w':=by
 have M0:Hid (Mem w F ([(w.heap.size,.row (az t v))]++aG s p g) (w.alloc (.cells (az t v) 40))):=(Mem.start h).alloc;have e0:=xE M0.o (i:=0) rfl;have er:=M0.o.row (i:=0) rfl;rw[hkd] at e0;have e1:=Eu M0.o (i:=0) rfl;have c0: (w.alloc (.cells (az t v) 40)).cell? ⟨g,0,none⟩=some (.pointer (some ⟨p.gw,0,none⟩)):=uo M0.o (i:=1) rfl;have HC:Hid (∀w',Mem w F ([(w.heap.size,.row (az t v))]++aG s p g) w'->Calls prog 20 #[.pointer (some ⟨p.gw,0,none⟩),.int .i64 t.node.val,.agg (bg t.p),.agg (bg t.q)] w' fun e w''=>e= .returned (.int .i64 (bF s.w t.node.val t.p t.q).1)/\Mem w F ([(w.heap.size,.row (az t v))]++aG {s with w:=(bF s.w t.node.val t.p t.q).2} p g) w''):=fun w' hM=>hM.bD (i:=2) rfl (fun F1 hF=>xu s.w p.gw F1 w' t.node.val t.p t.q hi.w hF);have HK:=qD hk;have hpk:p.k<=64:=hk.hi;have HI:=qD hi;rw[hyes] at HC;have HTI:=qD hti;generalize bF s.w t.node.val t.p t.q=mv at*;obtain⟨a,ha⟩:∃a,p.ns[j]? =some a:=⟨_,gE (by rw[hk.ns];exact hjl)⟩;have HA:=qD ha;have HN:Hid (([(w.heap.size,aj.row (az t v))]++aG {s with w:=mv.2} p g)[j+6]? =some (a,aO x)):=by have:=nN (A:=[(w.heap.size,aj.row (az t v))]) (s:={s with w:=mv.2}) (g:=g) hx ha;rw[show([(w.heap.size,aj.row (az t v))]:List (Nat×aj)).length+(j+5)=j+6 by simp;omega] at this;exact this
 have HP2:Hid (∀y,([(w.heap.size,aj.row (az t v))]++aG {s with w:=mv.2} p g).set (j+6) (a,aO y)= [(w.heap.size,aj.row (az t v))]++aG {s with w:=mv.2,n:=s.n.set j y} p g):=fun y=>by have:=oX (A:=[(w.heap.size,aj.row (az t v))]) (s:={s with w:=mv.2}) (p:=p) (g:=g) (y:=y) ha;rw[show([(w.heap.size,aj.row (az t v))]:List (Nat×aj)).length+(j+5)=j+6 by simp;omega] at this;exact this
 have HON:=qD hon;clear h hk hi hkd hyes hti hx hon ha;go_enter func9,ntmps9;go_upto_region 5 with(fail);generalize (w.alloc (.cells (az t v) 40))=w1 at*;generalize w.heap.size=gt at*;have l1:=ab (M0.o.row (i:=0) rfl);have l2:=ab (M0.o.row (i:=1) rfl);refine ar 10 ?_;simp only[tA,tD,tC,tE]
 repeat quiet_step (fail)
 refine wpQuiet_nil ?_;intro w2 hb2;have M2:=qD (M0.o.below hb2);clear M0 e0 e1 er c0 l1 l2 hb2;go_upto_region 6 with(go_at_call 20;refine qHG (HC.o w2 M2.o) fun w3 M3=>?_);clear M2 HC;refine aY ?_;have e1:w3.cell? ⟨gt,1,none⟩=some (.int .i64 (j:Int)):=by rw[<-HTI.o];exact Eu M3.o (i:=0) rfl
 have c14:w3.cell? ⟨g,14,none⟩=some (.slice (some ⟨p.gb,0,none⟩) p.k p.cb):=afz M3.o (i:=1) rfl;have cb:=lX M3.o (i:=5) rfl HON.o;have l1:=ab (M3.o.row (i:=0) rfl);have l2:=ab (M3.o.row (i:=1) rfl);have l3:p.gb<w3.heap.size:=World.block_lt_of_cell? _ _ cb
 repeat (first|go_big_quiet_skip|quiet_step (fail))
 refine wpQuiet_nil ?_;intro w4 hb4;have M4:=qD (M3.o.below hb4);clear M3 hb4 e1 c14 cb l1 l2 l3;go_wp2;go_ret;exact⟨rfl,M4.o.au⟩
theorem D1(s:aF)(p:bM)(g:Nat)(t:cU)(v:Sl)(F:Nat->Prop)(w:World)(hk:aS s p)(hi:aR s)(hkd:t.kind.val=1)(hyes: (bF s.w t.node.val t.p t.q).1=0)(j:Nat)(hti:t.node.val=j)(hjl:j<p.k)(x:ak)(hx:s.n[j]? =some x)(hon:s.on[j]? =some true)(h:Sep w (aG s p g) F):Calls prog 9 #[.pointer (some ⟨g,0,none⟩),.agg (az t v)] w fun r w'=>r= .returned (.int .i64 0)/\Mem w F (aG {s with w:=(bF s.w t.node.val t.p t.q).2,n:=s.n.set j (oQ x t.q)} p g) w':=by
 have M0:Hid (Mem w F ([(w.heap.size,.row (az t v))]++aG s p g) (w.alloc (.cells (az t v) 40))):=(Mem.start h).alloc;have e0:=xE M0.o (i:=0) rfl;have er:=M0.o.row (i:=0) rfl;rw[hkd] at e0;have e1:=Eu M0.o (i:=0) rfl;have c0: (w.alloc (.cells (az t v) 40)).cell? ⟨g,0,none⟩=some (.pointer (some ⟨p.gw,0,none⟩)):=uo M0.o (i:=1) rfl;have HC:Hid (∀w',Mem w F ([(w.heap.size,.row (az t v))]++aG s p g) w'->Calls prog 20 #[.pointer (some ⟨p.gw,0,none⟩),.int .i64 t.node.val,.agg (bg t.p),.agg (bg t.q)] w' fun e w''=>e= .returned (.int .i64 (bF s.w t.node.val t.p t.q).1)/\Mem w F ([(w.heap.size,.row (az t v))]++aG {s with w:=(bF s.w t.node.val t.p t.q).2} p g) w''):=fun w' hM=>hM.bD (i:=2) rfl (fun F1 hF=>xu s.w p.gw F1 w' t.node.val t.p t.q hi.w hF);have HK:=qD hk;have hpk:p.k<=64:=hk.hi;have HI:=qD hi;rw[hyes] at HC;have HTI:=qD hti;generalize bF s.w t.node.val t.p t.q=mv at*;obtain⟨a,ha⟩:∃a,p.ns[j]? =some a:=⟨_,gE (by rw[hk.ns];exact hjl)⟩;have HA:=qD ha;have HN:Hid (([(w.heap.size,aj.row (az t v))]++aG {s with w:=mv.2} p g)[j+6]? =some (a,aO x)):=by have:=nN (A:=[(w.heap.size,aj.row (az t v))]) (s:={s with w:=mv.2}) (g:=g) hx ha;rw[show([(w.heap.size,aj.row (az t v))]:List (Nat×aj)).length+(j+5)=j+6 by simp;omega] at this;exact this
 have HP2:Hid (∀y,([(w.heap.size,aj.row (az t v))]++aG {s with w:=mv.2} p g).set (j+6) (a,aO y)= [(w.heap.size,aj.row (az t v))]++aG {s with w:=mv.2,n:=s.n.set j y} p g):=fun y=>by have:=oX (A:=[(w.heap.size,aj.row (az t v))]) (s:={s with w:=mv.2}) (p:=p) (g:=g) (y:=y) ha;rw[show([(w.heap.size,aj.row (az t v))]:List (Nat×aj)).length+(j+5)=j+6 by simp;omega] at this;exact this
 have HON:=qD hon;clear h hk hi hkd hyes hti hx hon ha;go_enter func9,ntmps9;go_upto_region 5 with(fail);generalize (w.alloc (.cells (az t v) 40))=w1 at*;generalize w.heap.size=gt at*;have l1:=ab (M0.o.row (i:=0) rfl);have l2:=ab (M0.o.row (i:=1) rfl);refine ar 10 ?_;simp only[tA,tD,tC,tE]
 repeat quiet_step (fail)
 refine wpQuiet_nil ?_;intro w2 hb2;have M2:=qD (M0.o.below hb2);clear M0 e0 e1 er c0 l1 l2 hb2;go_upto_region 6 with(go_at_call 20;refine qHG (HC.o w2 M2.o) fun w3 M3=>?_);clear M2 HC;refine aY ?_;have e1:w3.cell? ⟨gt,1,none⟩=some (.int .i64 (j:Int)):=by rw[<-HTI.o];exact Eu M3.o (i:=0) rfl
 have c14:w3.cell? ⟨g,14,none⟩=some (.slice (some ⟨p.gb,0,none⟩) p.k p.cb):=afz M3.o (i:=1) rfl;have cb:=lX M3.o (i:=5) rfl HON.o;have l1:=ab (M3.o.row (i:=0) rfl);have l2:=ab (M3.o.row (i:=1) rfl);have l3:p.gb<w3.heap.size:=World.block_lt_of_cell? _ _ cb
 repeat (first|go_big_quiet_skip|quiet_step (fail))
 refine wpQuiet_nil ?_;intro w4 hb4;have M4:=qD (M3.o.below hb4);clear M3 hb4 e1 c14 cb l1 l2 l3;go_upto_region 7 with(fail);have e1:w4.cell? ⟨gt,1,none⟩=some (.int .i64 (j:Int)):=by rw[<-HTI.o];exact Eu M4.o (i:=0) rfl
 have er:=M4.o.row (i:=0) rfl;have c13:w4.cell? ⟨g,13,none⟩=some (.slice (some ⟨p.gn,0,none⟩) p.k p.cn):=tq M4.o (i:=1) rfl;have ca:=nc M4.o (i:=4) rfl HA.o;have l1:=ab (M4.o.row (i:=0) rfl);have l2:=ab (M4.o.row (i:=1) rfl);have l3:p.gn<w4.heap.size:=World.block_lt_of_cell? _ _ ca;refine ar 10 ?_;simp only[tA,tD,tC,tE]
 repeat quiet_step (fail)
 refine wpQuiet_nil ?_;intro w5 hb5;have M5:=qD (M4.o.below hb5);clear M4 e1 er c13 ca l1 l2 l3 hb5;have HC:Hid (Calls prog 21 #[.pointer (some ⟨a,0,none⟩),.agg (bg t.q)] w5 fun e w'=>e= .returned (.tuple #[])/\Mem w F ([(gt,.row (az t v))]++aG {s with w:=mv.2,n:=s.n.set j (oQ x t.q)} p g) w'):=by rw[<-HP2.o (oQ x t.q)];exact M5.o.bD (i:=j+6) HN.o (fun F1 hF=>NL x a F1 w5 t.q hF)
 go_wp2_with (go_at_call 21;refine qHG HC.o fun w6 M6=>?_);go_ret;exact⟨rfl,M6.o.au⟩
theorem aS.xC{s:aF}{p:bM}(h:aS s p)(i:Nat)(b:List UInt8)(at_ g:ae):aS (jd s i b at_ g) p:=by
 unfold jd;split
 ·exact h
 ·exact h.put.Oh (gA _ _ _ _)
theorem aS.tick{s:aF}{p:bM}(h:aS s p):aS (fk s).2 p:=by
 unfold fk;split
 ·exact aS.cz (h.qF _) _ _
 ·exact h
theorem aS.del{s:aF}{p:bM}(h:aS s p)(i:Int):aS (jf s i).2 p:=by
 unfold jf;split
 ·exact h
 ·split
  ·exact h.qF _
  ·show aS (if _ then _ else _) p;split
   ·exact(h.Km _ _).xC _ _ _ _
   ·exact h.Km _ _
theorem aS.Xz{s:aF}{p:bM}(h:aS s p)(t:cU):aS (ft s t).2 p:=by
 unfold ft
 repeat (split;first|exact h|exact h.TA _)
 first|exact h|exact h.TA _
theorem XC(s:aF)(p:bM)(g:Nat)(t:cU)(v:Sl)(F:Nat->Prop)(w:World)(hk:aS s p)(hi:aR s)(hr:Rd w (.slice v.a v.n v.c) t.data)(hrn:t.data≠[]->∀ad,v.a=some ad->¬F ad.block/\ad.block<w.heap.size)(h:Sep w (aG s p g) F):Calls prog 9 #[.pointer (some ⟨g,0,none⟩),.agg (az t v)] w fun r w'=>∃p',(r= .returned (.int .i64 (Bq s t).1)/\aS (Bq s t).2 p'/\p'.k=p.k)/\Mem w F (aG (Bq s t).2 p' g) w':=by
 unfold Bq;by_cases h1:t.kind.val=1
 ·rw[if_pos h1];unfold IB;by_cases hm: (bF s.w t.node.val t.p t.q).1=0
  ·obtain⟨j,hj,hjl⟩:=OF hm;have hjk:j<p.k:=by rw[<-hk.n,<-hi.np];exact hjl
   obtain⟨x,hx⟩:∃x,s.n[j]? =some x:=⟨_,gE (by rw[hk.n];exact hjk)⟩;obtain⟨ob,hob⟩:∃ob,s.on[j]? =some ob:=⟨_,gE (by rw[hk.on];exact hjk)⟩;rw[if_pos hm];have e1:t.node.val.toNat=j:=by rw[hj,Int.toNat_natCast]
   rw[e1,hx,hm];cases ob with
   |false=>
    refine(Bt s p g t v F w hk hi h1 hm j hj hjk x hx hob h).mono ?_;rintro r w' ⟨rfl,hM⟩;refine⟨p,⟨rfl,?_,rfl⟩,?_⟩
    ·show aS (if s.on[j]? =some true then _ else _) p;rw[if_neg (by rw[hob];simp)];exact hk.qF _
    ·show Mem w F (aG (if s.on[j]? =some true then _ else _) p g) w';rw[if_neg (by rw[hob];simp)];exact hM
   |true=>
    refine(D1 s p g t v F w hk hi h1 hm j hj hjk x hx hob h).mono ?_;rintro r w' ⟨rfl,hM⟩;refine⟨p,⟨rfl,?_,rfl⟩,?_⟩
    ·show aS (if s.on[j]? =some true then _ else _) p;rw[if_pos hob];exact(hk.qF _).put
    ·show Mem w F (aG (if s.on[j]? =some true then _ else _) p g) w';rw[if_pos hob];exact hM
  ·rw[if_neg hm];refine(Ku s p g t v F w hk hi h1 hm h).mono ?_;rintro r w' ⟨rfl,hM⟩;exact⟨p,⟨rfl,hk.qF _,rfl⟩,hM⟩
 rw[if_neg h1];by_cases h2:t.kind.val=2
 ·rw[if_pos h2];refine(IC s p g t v F w hk hi h2 h).mono ?_;rintro r w' ⟨rfl,hM⟩;exact⟨p,⟨rfl,hk.tick,rfl⟩,hM⟩
 rw[if_neg h2];by_cases h3:t.kind.val=3
 ·rw[if_pos h3];refine(ID s p g t v F w hk hi h3 h).mono ?_;rintro r w' ⟨rfl,hM⟩;exact⟨p,⟨rfl,hk.del _,rfl⟩,hM⟩
 rw[if_neg h3];by_cases hml:t.kind.val=4∨t.kind.val=5∨t.kind.val=6
 ·rw[if_pos hml];have key:Calls prog 9 #[.pointer (some ⟨g,0,none⟩),.agg (az t v)] w fun r w'=>r= .returned (.int .i64 (ft s t).1)/\Mem w F (aG (ft s t).2 p g) w':=by
   rcases hml with h4|h4|h4
   ·exact RL s p g t v F w hk hi h4 h
   ·exact RM s p g t v F w hk hi h4 h
   ·exact RN s p g t v F w hk hi h4 h
  refine key.mono ?_;rintro r w' ⟨rfl,hM⟩;exact⟨p,⟨rfl,hk.Xz t,rfl⟩,hM⟩
 rw[if_neg hml];by_cases hon:t.kind.val=7∨t.kind.val=8∨t.kind.val=9
 ·cases hh:yc s t.node.val with
  |true=>
   rw[if_pos ⟨hon,rfl⟩];have hh2:=hh;unfold yc at hh2;simp only[bI,decide_eq_true_eq] at hh2;obtain⟨j,hj⟩:∃j:Nat,t.node.val=j:=⟨t.node.val.toNat,by omega⟩;have hjk:j<p.k:=by rw[<-hk.n];omega
   rw[hj,Int.toNat_natCast];rcases hon with h4|h4|h4
   ·exact RO s p g t v F w hk hi h4 j hj hjk hr hrn h
   ·exact RP s p g t v F w hk hi h4 j hj hjk hr hrn h
   ·exact RQ s p g t v F w hk hi h4 j hj hjk hr hrn h
  |false=>
   rw[if_neg (by simp)];have key:Calls prog 9 #[.pointer (some ⟨g,0,none⟩),.agg (az t v)] w fun r w'=>r= .returned (.int .i64 1)/\Mem w F (aG s p g) w':=by
    rcases hon with h4|h4|h4
    ·exact Kr s p g t v F w hk hi h4 hh h
    ·exact Ks s p g t v F w hk hi h4 hh h
    ·exact Kt s p g t v F w hk hi h4 hh h
   refine key.mono ?_;rintro r w' ⟨rfl,hM⟩;exact⟨p,⟨rfl,hk,rfl⟩,hM⟩
 ·rw[if_neg (fun e=>hon e.1)];refine(RR s p g t v F w hk hi h1 h2 h3 (by omega) (by omega) (by omega) (by omega) (by omega) (by omega) h).mono ?_;rintro r w' ⟨rfl,hM⟩;exact⟨p,⟨rfl,hk,rfl⟩,hM⟩
end
end Go.Proofs.Yq
