/- A part of the proof. No condition. -/
import Derived.Test.YtpbehfbomkochaaGreatDoorC14
import Derived.Test.YtpbehfbomkochaaGreatDoorC15
import Derived.Test.YtpbehfbomkochaaGreatDoorC18
set_option maxRecDepth 100000
set_option maxHeartbeats 1000000
set_option linter.all false
namespace Go.Proofs.Yq
open ChangeShapes WideShapes ChangeAt RowKit Ev
open Tryz
def Pa(x y:bE):Bool:=(x.node.val==y.node.val)&&((x.boot.val==y.boot.val)&&((x.heard.val==y.heard.val)&&((x.has==y.has)&&(rQ x.e y.e&&((x.at_.val==y.at_.val)&&true)))))
theorem Pb(x y:bE):uy prog 50 (aJ x).toList (aJ y).toList=some (Pa x y):=by kernel_rfl
theorem Gv(x:bE):Pa x x=true:=by have:rQ x.e x.e=true:=(pQ _ _).2 rfl;simp[Pa,this]
theorem Sj(v1 v2:Value)(b1 b2:Nat)(l:List bE)(w:World)(h1:Own w b1 50 10 aJ v1 l)(h2:Own w b2 50 10 aJ v2 l)(hm:l.length<=1000000):Calls prog 13 #[v1,v2] w fun e w'=>e= .returned (.bool true)/\Below w.heap.size w w':=by
 obtain⟨va,vc,rfl⟩:=h1.len;obtain⟨ua,uc,rfl⟩:=h2.len;have H1:=qD h1;have H2:=qD h2;clear h1 h2;go_enter func13,ntmps13;go_upto_region 4 with(fail)
 go_loopw [13] (fun i wr=>∃k:Nat,k<=l.length/\i= .int .i64 k/\Hid (Below w.heap.size w wr)) (fun i _=>l.length-(intOf i).toNat)
 case atStart=>exact⟨0,by omega,rfl,bZ _ _⟩
 case round=>
  obtain⟨k,hk,rfl,HB⟩:=hrel;by_cases hlt:k<l.length
  ·have hlti: (k:Int)<l.length:=by omega
   have R1:Hid (Own wr b1 50 10 aJ (.slice va l.length vc) l):=H1.o.grown HB.o;have R2:Hid (Own wr b2 50 10 aJ (.slice ua l.length uc) l):=H2.o.grown HB.o;obtain⟨g0,cap,cur,hv,_,_,hb,hcur⟩:=R1.o.aI bo (by omega);cases hv;obtain⟨g1,cap1,cur1,hv1,_,_,hb1,hcur1⟩:=R2.o.aI bo (by omega);cases hv1;obtain⟨x,hx⟩:∃x,l[k]? =some x:=⟨_,gE hlt⟩;obtain⟨f0,f1⟩:=hcur k x hx;obtain⟨f2,f3⟩:=hcur1 k x hx;have EQ:=qD (Pb x x);rw[Gv] at EQ;clear hcur hcur1 hx R1 R2;go_upto_region 6 with(fail);refine aT 8 (.qs [0,1,2,3,4,5,6,7] .done) (fun w'=>w'.aI g0=some cur/\w'.aI g1=some cur1) (by kernel_rfl) (by kernel_rfl) ⟨hb,hb1⟩ ?_;simp only[MT.qs,tC,tE]
   iterate 8 (refine fJ rfl rfl (by rintro w' ⟨s1,s2⟩ K hK;go_simp;exact hK.o) ?_)
   refine bY ?_;simp only[Act.put,List.setIfInBounds_toArray,List.set_cons_succ,List.set_cons_zero];refine bS (t:=50) (t':=50) (x:= .tmp 19) (y:= .tmp 23) (cs:=(aJ x).toList) (ds:=(aJ x).toList) (q:=true) rfl rfl rfl rfl EQ.o ?_;go_wp2;refine NoPanic.normal ?_;go_wp2;go_roundw
   case rel=>exact⟨k+1,by omega,by go_num,HB.o.trans (Below.drew (bZ _ _))⟩
   case measure=>simp[intOf];omega
  ·have hkn:k=l.length:=by omega
   subst hkn;go_wp2;go_ret;exact⟨rfl,HB.o⟩
theorem Bz(c:cT)(a:Option Addr)(cp:Nat)(l:List (cU×Sl))(m:Int)(W:World)(hm:W.cell? ⟨0,0,none⟩=some (.int .i64 m))(hin:TH W a l)(hd:InD W l):Calls prog 4 #[j6 c,.slice a l.length cp] W fun e w'=>e= .returned (.bool true)/\Below W.heap.size W w':=by
 have HM:=qD hm;have HIN:=qD hin;have HD:=qD hd;have HAW:Hid (∀w,Below W.heap.size W w->Calls prog 6 #[] w fun e w'=>e= .returned (.bool true)/\Below w.heap.size w w'):=fun w hb=>O9 w m ((hb.cell (p:=⟨0,0,none⟩) (World.block_lt_of_cell? _ _ hm)).trans hm);have M0:Hid (Mem W (fun _=>False) [(W.heap.size,.row (bd c))] (W.alloc (.cells (bd c) 26))):=(Mem.none W).alloc;have HL:Hid (∀w,Below W.heap.size W w->Calls prog 5 #[.slice a l.length cp] w fun e w'=>e= .returned (.bool (lG l))/\Below w.heap.size w w'):=fun w hb=>Pc a cp l w (hin.grown hb);have hl62:=hin.1;have HLB:Hid (lG l=true->l.length<=150):=fun h=>by unfold lG at h;simp at h;exact h.1
 clear hm hin hd;generalize hlb:lG l=lb at*;clear hlb;unfold j6;cases lb with
 |false=>
  go_enter func4,ntmps4;go_wp2_with (first|(go_at_call 5;refine Mem.qB (HL.o _ M0.o.mh.below) M0.o fun w1 M1=>?_)|(go_at_call 6;refine Mem.qB (HAW.o _ M1.o.mh.below) M1.o fun w2 M2=>?_));go_ret;exact⟨rfl,M2.o.mh.below⟩
 |true=>
  have hl150:=HLB.o rfl;clear HLB;cases hmay:ae3 c with
  |false=>
   have HMD:=qD (fun w=>Sh c w hmay);unfold j6 at HMD;go_enter func4,ntmps4;go_upto_region 3 with(first|(go_at_call 5;refine Mem.qB (HL.o _ M0.o.mh.below) M0.o fun w1 M1=>?_));clear M0 HL;have M2:=qD (M1.o.below (Below.drew (bZ _ w1)));refine aT 4 (.qs [0,2] (.w 1 (.w 3 .done))) (fun w'=>Mem W (fun _=>False) [(W.heap.size,.row (bd c))] w') (by kernel_rfl) (by kernel_rfl) M2.o ?_;generalize w1.drew=w2 at*;clear M1;simp only[MT.qs,tC,tE]
   iterate 2 (refine fJ rfl rfl (by rintro w' s0 K hK;have s1:=s0.row (i:=0) rfl;go_simp;exact hK.o) ?_)
   refine cO rfl (fun K hK=>?_);go_wp2_with (go_at_call 8;refine Mem.qB (HMD.o _) M2.o fun w3 M3=>?_);refine hK.o _ _ M3.o ?_;clear hK M2;refine cO rfl (fun K hK=>?_);go_wp2_with (go_at_call 8;refine Mem.qB (HMD.o _) M3.o fun w4 M4=>?_);refine hK.o _ _ M4.o ?_;clear hK M3;refine bY ?_;go_wp2;refine NoPanic.normal ?_;go_wp2_with (go_at_call 6;refine Mem.qB (HAW.o _ M4.o.mh.below) M4.o fun w5 M5=>?_);go_ret;exact⟨rfl,M5.o.mh.below⟩
  |true=>
   have HMD:=qD (fun w=>XP c w hmay);unfold j6 at HMD;go_enter func4,ntmps4;go_upto_region 3 with(first|(go_at_call 5;refine Mem.qB (HL.o _ M0.o.mh.below) M0.o fun w1 M1=>?_));clear M0 HL;have M2:=qD (M1.o.below (Below.drew (bZ _ w1)));have hfi:=qD (aR.new hmay);have hn5: (aeY c).n.length=c.1.val.toNat:=kT _ _;have hc5:=Bm c hmay;have HNL:Hid ((aeY c).n.length=c.1.val.toNat):=hn5;clear hn5 hmay;obtain⟨s0,hs0⟩:∃s,s=aeY c:=⟨_,rfl⟩;rw[<-hs0] at HMD hfi HNL;clear hs0;refine aT 4 (.qs [0,2] (.w 1 (.w 3 .done))) (fun w'=>∃A,Mem W (fun _=>False) ((W.heap.size,.row (bd c))::A) w') (by kernel_rfl) (by kernel_rfl) ⟨[],M2.o⟩ ?_;generalize w1.drew=w2 at*;clear M1;simp only[MT.qs,tC,tE]
   iterate 2 (refine fJ rfl rfl (by rintro w' ⟨A,s0⟩ K hK;have s1:=s0.row (i:=0) rfl;go_simp;exact hK.o) ?_)
   refine cO rfl (fun K hK=>?_);go_wp2_with (go_at_call 8;refine(HMD.o _).mono ?_;rintro r w3 ⟨g1,rfl,hM⟩;have M3:Hid (Mem W (fun _=>False) [(W.heap.size,.row (bd c)),(g1,fA s0)] w3):=(Mem.ur M2.o hM).perm (List.Perm.swap _ _ _);clear hM);refine hK.o _ _ ⟨_,M3.o⟩ ?_;clear hK M2;refine cO rfl (fun K hK=>?_);go_wp2_with (go_at_call 8;refine(HMD.o _).mono ?_;rintro r w4 ⟨g2,rfl,hM⟩;have M4:Hid (Mem W (fun _=>False) ([(W.heap.size,.row (bd c)),(g1,fA s0)]++ [(g2,fA s0)]) w4):=Mem.perm (Mem.ur M3.o hM) (List.perm_append_singleton _ _).symm;clear hM);refine hK.o _ _ ⟨_,M4.o⟩ ?_;clear hK M3 HMD;refine bY ?_;go_wp2;refine NoPanic.normal ?_;go_upto_region 9 with(fail);have M5:Hid (Mem W (fun _=>False) ([(W.heap.size,.row (bd c)),(g2,fA s0)]++ [(g1,fA s0)]) w4):=M4.o.perm (List.Perm.cons _ (List.Perm.swap _ _ _));clear M4
   go_loopw [30] (fun i wr=>∃k s,k<=l.length/\i= .int .i64 k/\Hid (s=KN s0 (l.take k))/\Hid (s.n.length=c.1.val.toNat)/\Hid (Mem W (fun _=>False) ([(W.heap.size,.row (bd c)),(g2,fA s)]++ [(g1,fA s)]) wr)) (fun i _=>l.length-(intOf i).toNat)
   case atStart=>exact⟨0,s0,by omega,rfl,rfl,HNL,M5⟩
   case round=>
    obtain⟨k,s,hk,rfl,HS,HNS,M⟩:=hrel;clear M5;by_cases hlt:k<l.length
    ·have hlti: (k:Int)<l.length:=by omega
     obtain⟨t,ht⟩:∃t,l[k]? =some t:=⟨_,gE hlt⟩;have HS2:Hid ((Bq s t.1).2=KN s0 (l.take (k+1))):=by show _=_;rw[List.take_add_one,ht,Option.toList_some,KO,<-HS.o]
     have HFI:Hid (aR s):=by show aR s;rw[HS.o];exact aR.run hfi.o _
     have HTM:Hid (t∈l):=jA ht;obtain⟨_,hnil|⟨g,o,rfl,hex⟩⟩:=HIN.o.grown M.o.mh.below
     ·rw[hnil] at hlt;exact absurd hlt (by simp)
     ·have HX:=qD (hex k t ht);clear hex ht;go_upto_region 11 with((with_reducible show wpList _ _ _ (⟨some 33,_,_,_,_,_⟩::_) _ _);refine wpList_load_mid rfl 40 _ rfl g (o+k*15) rfl (az t.1 t.2).toList _ HX.o underlying40 rfl (by kernel_rfl) ?_;rw[Array.toArray_toList]);have HZ:#[.int .i64 0,.int .i64 0,.int .i64 0,.int .i64 0,.int .i64 0,.int .i64 0,.int .i64 0,.int .i64 0,.int .i64 0,.int .i64 0,.int .i64 0,.int .i64 0,.int .i64 0,.int .u8 0,.slice none 0 0]=az l9 gO:=rfl;rw[HZ];clear HZ HX;have M6:Hid (Mem W (fun _=>False) ([(wr.heap.size,.row (az t.1 t.2)),(W.heap.size,.row (bd c)),(g2,fA s)]++ [(g1,fA s)]) ((wr.alloc (.cells (az l9 gO) 40)).setCells wr.heap.size 0 (az t.1 t.2).toList)):=(M.o.alloc (cs:=az l9 gO) (t:=40)).bC (i:=0) (cs':=az t.1 t.2) rfl (by simp[tu]);generalize (wr.alloc (.cells (az l9 gO) 40)).setCells wr.heap.size 0 (az t.1 t.2).toList=w5 at*;generalize wr.heap.size=gt at*;clear M;have M7:=qD (M6.o.below (Below.drew (bZ _ w5)));refine aT 6 (.qs [0,1,3,4] (.w 2 (.w 5 .done))) (fun w'=>∃A,Mem W (fun _=>False) ((gt,.row (az t.1 t.2))::A) w') (by kernel_rfl) (by kernel_rfl) ⟨_,M7.o⟩ ?_;generalize w5.drew=w6 at*;clear M6;simp only[MT.qs,tC,tE]
      iterate 4 (refine fJ rfl rfl (by rintro w' ⟨A,s0⟩ K hK;have s1:=s0.row (i:=0) rfl;go_simp;exact hK.o) ?_)
      obtain⟨s',hs'⟩:∃s',s'=Bq s t.1:=⟨_,rfl⟩;have HC1:Hid (Calls prog 9 #[.pointer (some ⟨g1,0,none⟩),.agg (az t.1 t.2)] w6 fun r w'=>(r= .returned (.int .i64 s'.1)/\s'.2.n.length=s.n.length)/\Mem W (fun _=>False) ([(gt,.row (az t.1 t.2)),(W.heap.size,.row (bd c)),(g2,fA s)]++ [(g1,fA s'.2)]) w'):=by rw[hs'];exact IM HD.o HTM.o HFI.o M7.o
      have HC2:Hid (∀w7,Mem W (fun _=>False) ([(gt,.row (az t.1 t.2)),(W.heap.size,.row (bd c)),(g1,fA s'.2)]++ [(g2,fA s)]) w7->Calls prog 9 #[.pointer (some ⟨g2,0,none⟩),.agg (az t.1 t.2)] w7 fun r w'=>(r= .returned (.int .i64 s'.1)/\s'.2.n.length=s.n.length)/\Mem W (fun _=>False) ([(gt,.row (az t.1 t.2)),(W.heap.size,.row (bd c)),(g1,fA s'.2)]++ [(g2,fA s'.2)]) w'):=by intro w7 h7;rw[hs'] at h7 ⊢;exact IM HD.o HTM.o HFI.o h7
      rw[<-hs'] at HS2;clear hs';refine cO rfl (fun K hK=>?_);go_wp2_with (go_at_call 9;refine HC1.o.mono ?_;rintro r w7 ⟨⟨rfl,hl1⟩,hM⟩;have HL1:=qD hl1;have M8:Hid (Mem W (fun _=>False) ([(gt,.row (az t.1 t.2)),(W.heap.size,.row (bd c)),(g1,fA s'.2)]++ [(g2,fA s)]) w7):=Mem.perm hM (List.Perm.cons _ (List.Perm.cons _ (List.Perm.swap _ _ _)));clear hM hl1);refine hK.o _ _ ⟨_,M8.o⟩ ?_;clear hK M7 HC1;refine cO rfl (fun K hK=>?_);go_wp2_with (go_at_call 9;refine(HC2.o _ M8.o).mono ?_;rintro r w8 ⟨⟨rfl,_⟩,hM⟩;have M9:=qD hM;clear hM);refine hK.o _ _ ⟨_,M9.o⟩ ?_;clear hK M8 HC2;refine bY ?_;go_wp2;refine NoPanic.normal ?_;go_wp2;go_roundw
      case rel=>exact⟨k+1,s'.2,by omega,by go_num,HS2,HL1.o.trans HNS.o,Mem.perm M9.o.au (List.Perm.cons _ (List.Perm.swap _ _ _))⟩
      case measure=>simp[intOf];omega
    ·have hkn:k=l.length:=by omega
     subst hkn;have HFI:Hid (aR s):=by show aR s;rw[HS.o];exact aR.run hfi.o _
     obtain⟨n,hn⟩:∃n:Nat,c.1.val=n:=⟨c.1.val.toNat,by omega⟩;have HN:Hid (s.n.length=n):=by show _=_;rw[HNS.o,hn];rfl
     have cN:wr.cell? ⟨W.heap.size,0,none⟩=some (.int .i64 n):=M.o.cell (i:=0) (k:=0) rfl (by rw[<-hn];rfl);have hn64:n<=64:=by omega
     clear hn HNS HS hc5 hfi;generalize W.heap.size=gc at M cN ⊢;go_upto_region 15 with(fail);clear cN
     go_loopw [44] (fun i wr=>∃k:Nat,k<=n/\i= .int .i64 k/\Hid (Mem W (fun _=>False) [(gc,.row (bd c)),(g2,fA s),(g1,fA s)] wr)) (fun i _=>n-(intOf i).toNat)
     case atStart=>exact⟨0,by omega,rfl,M⟩
     case round=>
      obtain⟨k,hk,rfl,M1⟩:=hrel;clear M;by_cases hlt:k<n
      ·have hlti: (k:Int)<n:=by omega
       obtain⟨x,hx⟩:∃x,s.n[k]? =some x:=⟨_,gE (by rw[HN.o];exact hlt)⟩;have HX:=qD hx;have HI:Hid (cw x):=HFI.o.nd x (jA hx);clear hx;obtain⟨F1,hF1⟩:=M1.o.rep (i:=2) rfl;obtain⟨b1,hb1,hr1,hl1⟩:=Pd hF1 HX.o HI.o;have HA1:=qD hb1;have HR1:=qD hr1;have HLE:=qD hl1;have hrz:=pL;clear hF1 hb1 hr1 hl1;go_upto_region 18 with(first|(go_at_call 10;refine HA1.o.mono ?_;rintro r w5 ⟨rfl,hw⟩;subst hw)|(go_at_call 11;refine HR1.o.mono ?_;rintro r w5 ⟨v1,rfl,ho,hb⟩;obtain⟨a1,c1,hv1⟩:=ho.len;subst hv1;have M2:Hid (Mem W (fun _=>False) [(0,.own 50 10 aJ (.slice a1 (dm x.t).length c1) (dm x.t)),(gc,.row (bd c)),(g2,fA s),(g1,fA s)] w5):=M1.o.ae6 (g:=0) hb ho;clear ho hb HR1 HA1;obtain⟨F2,hF2⟩:=M2.o.rep (i:=2) rfl;obtain⟨b2,hb2,hr2,_⟩:=Pd hF2 HX.o HI.o;have HA2:=qD hb2;have HR2:=qD hr2;clear hb2 hr2 hF2)|(go_at_call 10;refine HA2.o.mono ?_;rintro r w6 ⟨rfl,hw⟩;subst hw)|(go_at_call 11;refine HR2.o.mono ?_;rintro r w6 ⟨v2,rfl,ho,hb⟩;obtain⟨a2,c2,hv2⟩:=ho.len;subst hv2;have M3:Hid (Mem W (fun _=>False) [(0,.own 50 10 aJ (.slice a2 (dm x.t).length c2) (dm x.t)),(0,.own 50 10 aJ (.slice a1 (dm x.t).length c1) (dm x.t)),(gc,.row (bd c)),(g2,fA s),(g1,fA s)] w6):=M2.o.ae6 (g:=0) hb ho;clear ho hb HR2 HA2));have M4:Hid (Mem W (fun _=>False) [(w6.heap.size+1,.row (dF false bc (.slice none 0 0))),(w6.heap.size,.row (dF false bc (.slice none 0 0))),(0,.own 50 10 aJ (.slice a2 (dm x.t).length c2) (dm x.t)),(0,.own 50 10 aJ (.slice a1 (dm x.t).length c1) (dm x.t)),(gc,.row (bd c)),(g2,fA s),(g1,fA s)] ((w6.alloc (.cells (dF false bc (.slice none 0 0)) 45)).alloc (.cells (dF false bc (.slice none 0 0)) 45))):=by have:=(M3.o.alloc (cs:=dF false bc (.slice none 0 0)) (t:=45)).alloc (cs:=dF false bc (.slice none 0 0)) (t:=45);show Mem _ _ _ _;simpa using this
       have M5:Hid (Mem W (fun _=>False) [(w6.heap.size+1,.row (dF x.f.2.1 x.f.2.2 (.slice a2 (dm x.t).length c2))),(w6.heap.size,.row (dF x.f.2.1 x.f.2.2 (.slice a1 (dm x.t).length c1))),(0,.own 50 10 aJ (.slice a2 (dm x.t).length c2) (dm x.t)),(0,.own 50 10 aJ (.slice a1 (dm x.t).length c1) (dm x.t)),(gc,.row (bd c)),(g2,fA s),(g1,fA s)] ((((w6.alloc (.cells (dF false bc (.slice none 0 0)) 45)).alloc (.cells (dF false bc (.slice none 0 0)) 45)).setCells w6.heap.size 0 (dF x.f.2.1 x.f.2.2 (.slice a1 (dm x.t).length c1)).toList).setCells (w6.heap.size+1) 0 (dF x.f.2.1 x.f.2.2 (.slice a2 (dm x.t).length c2)).toList)):=(M4.o.bC (i:=1) (cs':=dF x.f.2.1 x.f.2.2 (.slice a1 (dm x.t).length c1)) rfl (by simp[aff])).bC (i:=0) (cs':=dF x.f.2.1 x.f.2.2 (.slice a2 (dm x.t).length c2)) rfl (by simp[aff]);generalize ((((w6.alloc (.cells (dF false bc (.slice none 0 0)) 45)).alloc (.cells (dF false bc (.slice none 0 0)) 45)).setCells w6.heap.size 0 (dF x.f.2.1 x.f.2.2 (.slice a1 (dm x.t).length c1)).toList).setCells (w6.heap.size+1) 0 (dF x.f.2.1 x.f.2.2 (.slice a2 (dm x.t).length c2)).toList)=w7 at*;clear M4 M3 M2 M1;generalize w6.heap.size+1=gb at*;generalize w6.heap.size=ga at*;have HSM:=qD (Sj _ _ 0 0 (dm x.t) w7 (M5.o.own (i:=3) rfl) (M5.o.own (i:=2) rfl) (nT HLE.o (by decide)));have EQ:=qD (xD x.f.2.2 x.f.2.2);rw[(pQ _ _).2 rfl] at EQ;generalize dm x.t=al at*;generalize x.f.2.2=e at*;generalize x.f.2.1=vb at*;have k0:=M5.o.row (i:=1) rfl;have k1:=M5.o.row (i:=0) rfl;have c00:w7.cell? ⟨ga,0,none⟩=some (.bool vb):=M5.o.cell (i:=1) (k:=0) rfl rfl;have c10:w7.cell? ⟨gb,0,none⟩=some (.bool vb):=M5.o.cell (i:=0) (k:=0) rfl rfl;have c06:w7.cell? ⟨ga,6,none⟩=some (.slice a1 al.length c1):=M5.o.cell (i:=1) (k:=6) rfl rfl;have c16:w7.cell? ⟨gb,6,none⟩=some (.slice a2 al.length c2):=M5.o.cell (i:=0) (k:=6) rfl rfl;clear HX HI HFI HAW HD HIN;cases vb <;>
       ·go_wp2_with (first|((with_reducible show wpList _ _ _ (⟨some 65,_,_,_,_,_⟩::_) _ _);refine bS (cs:=(aB e).toList) (ds:=(aB e).toList) (q:=true) rfl rfl rfl rfl EQ.o ?_)|(go_at_call 13;refine Mem.qB HSM.o M5.o fun w8 M6=>?_));go_roundw
        case rel=>exact⟨k+1,by omega,by go_num,M6.o.au.au.au.au⟩
        case measure=>simp[intOf];omega
      ·have hkn:k=n:=by omega
       subst hkn;obtain⟨F1,hF1⟩:=M1.o.rep (i:=2) rfl;obtain⟨F2,hF2⟩:=M1.o.rep (i:=1) rfl;have L1:=qD (Pe hF1);have L2:=qD (Pe hF2);have T1:=qD (IK hF1);have T2:=qD (IK hF2);have HAW2:=qD (HAW.o wr M1.o.mh.below);clear hF1 hF2 HN HFI HAW HD HIN HM hn64 hl150 hl62 hk hlt;generalize s.a.length=na at L1 L2;generalize s.w.time.val=ti at T1 T2;go_wp2_with (first|(go_at_call 14;(with_reducible refine L1.o.mono ?_);rintro r w5 ⟨rfl,hw⟩;subst hw)|(go_at_call 14;(with_reducible refine L2.o.mono ?_);rintro r w5 ⟨rfl,hw⟩;subst hw)|(go_at_call 15;(with_reducible refine T1.o.mono ?_);rintro r w5 ⟨rfl,hw⟩;subst hw)|(go_at_call 15;(with_reducible refine T2.o.mono ?_);rintro r w5 ⟨rfl,hw⟩;subst hw)|(go_at_call 6;refine Mem.qB HAW2.o M1.o fun w5 M2=>?_));go_ret;exact⟨rfl,M2.o.mh.below⟩
end Go.Proofs.Yq
namespace Go.Proofs.YtpbehfbomkochaaGreatDoor
open Yq ChangeShapes WideShapes ChangeAt RowKit Ev
open Go.Proofs.Tryz
theorem BA(os:Os)(H:Type)(enc:TypeId×Value->H):
  ∃(w:World) (tape:Tape) (i:Input),w.os=os/\(w.forCall tape i).Shaped Tryz.checked.prog/\i.vars= []/\Input.okWide Tryz.checked.prog (w.forCall tape i) .any w.heap.size 4 i/\
   ((Rows.topSameSpec.pre enc Tryz.checked.prog Tryz.f4 [] false (w.forCall tape i).memory i.args/\laidMetH prog Rows.topSameRow.laid (w.forCall tape i).memory)/\sizedMet enc Tryz.checked.prog Tryz.f4 (OpenSpec.ofChange Rows.topSameSpec) false (w.forCall tape i).memory i.args)/\({}:Assume).holds Tryz.checked.prog (lone (Frame.enter Tryz.checked.prog 4 i.args .normal) [] (w.forCall tape i)):=
 Ej (C:=Tryz.checked) (X:=fun w _=>laidMetH prog Rows.topSameRow.laid w) (World.laidAll prog os Rows.topSameRow.laid) #[.agg #[.int .i64 0,.int .i64 0,.int .i64 0,.int .i64 0,.int .i64 0,.int .i64 0,.int .i64 0,.int .i64 0,.int .i64 0,.int .i64 0,.int .i64 0],.slice none 0 0] 8 (World.laidAll_os _ _ _)
  (World.shaped_of_ZipB (by kernel_rfl) (by kernel_rfl)) (by kernel_rfl) (by kernel_rfl) (by kernel_rfl)
  (by rw[MakeChecks.laidMetH_plain _ _ _ (by kernel_rfl)];exact laidMet_laidAll _ (by kernel_rfl) (by kernel_rfl))
theorem El(os:Os)(started:os.Started)(H:Type)(enc:TypeId×Value->H):
  ReturnsInHanded {} Tryz.checked os 4 .any (fun w args=>(Rows.topSameSpec.pre enc prog Tryz.f4 [] false w args/\laidMetH prog Rows.topSameRow.laid w)/\sizedMet enc prog Tryz.f4 (OpenSpec.ofChange Rows.topSameSpec) false w args)
   (Rows.topSameSpec.post enc prog Tryz.f4 false true false false):=by
 refine Ei (C:=Tryz.checked) (X:=fun w _=>laidMetH prog Rows.topSameRow.laid w) aef started (by kernel_rfl) func4 (BA os H enc) ?_;intro W base args ds gs before hval0 hW hsh;have hval:∀(j:Nat) t v,Tryz.f4.params[j]? =some t->args[j]? =some v->Value.okWide prog W .any base t v:=hval0;have hW':=hW;obtain⟨p,q,hA0,hV,rfl,hfz,hnd⟩:=hW;have hA:DataW.TrodAll enc prog W 0 (fun _=>true) true Tryz.f4.params.toList args.toList ds p:=hA0;rw[params4] at hA hval;obtain⟨v0,vs0,d0,ds0,p0,q0,hargs,rfl,rfl,h0,r0⟩:=trodAll_cons hA;obtain⟨v1,vs1,d1,ds1,p1,q1,rfl,rfl,rfl,h1,r1⟩:=trodAll_cons r0;obtain⟨rfl,rfl,rfl⟩:=trodAll_nil r1;obtain rfl:args= #[v0,v1]:=by cases args;simp_all
 obtain⟨rfl,rfl⟩:=trodVars_none hV;obtain⟨cs,rfl,hcs⟩:=okWide_struct underlying26 (hval 0 26 v0 rfl rfl);obtain⟨a,n,cp,rfl⟩:=okWide_slice underlying22 (hval 1 22 v1 rfl rfl);have k0:=h0;have k1:=h1;have lt0:∀x∈p0,x.block<W.heap.size:=by obtain⟨m,hm⟩:=k0;exact DataW.trod_lt m _ _ _ hm
 have lt1:∀x∈p1,x.block<W.heap.size:=by obtain⟨m,hm⟩:=k1;exact DataW.trod_lt m _ _ _ hm
 obtain⟨c,rfl⟩:∃c:cT,cs=bd c:=by obtain⟨fuel,hf⟩:=h0;obtain⟨c,hc⟩:=Ph hf;exact⟨c,by simpa[Value.cells] using hc⟩
 obtain⟨l,rfl,hin,hd⟩:∃l:List (cU×Sl),n=l.length/\TH W a l/\InD W l:=by obtain⟨fuel,hf⟩:=h1;exact Eh hf
 obtain⟨m,hm⟩:=cell0 hsh;clear hA0 hval0;refine(Bz c a cp l m W hm hin hd).mono fun e W' ⟨he,bel⟩=>?_;subst he;exact⟨_,rfl,_,_,_,[],_,[],hW',trodAll_mk1 (shut_bool underlying4 _),(trodAll_cons_mk (Below.trod laidOut (by kernel_rfl) (of_decide_eq_true (by kernel_rfl)) k0 bel lt0) (trodAll_cons_mk (Below.trod laidOut (by kernel_rfl) (of_decide_eq_true (by kernel_rfl)) k1 bel lt1) trodAll_mk0)),rfl,bel.frame _,fun h=>by cases h⟩
theorem Em:joinedFacts prog 4 Tryz.f4 Rows.topSameSpec Rows.topSameRow=true:=KV (P:=prog) (f:=4) (fn:=Tryz.f4) (s:=Rows.topSameSpec) (c:=Rows.topSameRow) Sk Sm Sn Sp Sq Sr Ss Su Sv Pj Pk Pm Pn Po Pp Pq Pr
theorem Gy:Rows.TopSameSaid:=
 OpenClaim.holds_of_wide 4 Tryz.f4 rfl rfl rfl rfl rfl rfl rfl ⟨rfl,rfl,rfl,rfl,rfl⟩ rfl rfl rfl rfl rfl IL func4 Em KW KX
  (fun os started H enc _=>El os started H enc)
theorem sameCard:Rows.TopSameCardSaid:=
 Claim7.holds_tied_plain_at .later [] [.data,.data,.data,.data,.sentinel,.sentinel,.pinned] true (true, "0be1cf4e26bd9add8b1e2e9a459f5b46557c09359674b2eecf05079668f48b43") true
  Gy (fun _ h=>by cases h) Ek (fun _ h=>by cases h) topSame_row_tie rfl ⟨rfl,rfl⟩ K0 rfl
  (fun f fn hf hfn=>by
   obtain rfl:f=4:=Option.some.inj (IL.symm.trans hf) |>.symm;obtain rfl:fn=Tryz.f4:=(Option.some.inj (func4.symm.trans hfn)).symm;exact⟨Gw,fun j t ht=>by
    rw[params4] at ht;have hm:t∈[26,22]:=by simpa using Array.mem_of_getElem? ht
    exact(show prog.wantsStandIn t=false by simpa using List.all_eq_true.1 Gx t hm)⟩)
  K6
#print axioms sameCard
end Go.Proofs.YtpbehfbomkochaaGreatDoor
