/- A part of the proof. No condition. -/
import Derived.Shelf.Strconv.Itoa4
import Derived.Shelf.Strconv.ParseIntPublic10
import Derived.Shelf.Strings.Split
import Derived.Shelf.LaysC
import Derived.Test.YtpbehfbomkochaaGreatDoorProg
import Derived.Lib.AtoiErrMem
import Derived.Test.YtpbehfbomkochaaGreatDoorC09
import Derived.Test.YtpbehfbomkochaaGreatDoorC10
set_option maxRecDepth 100000
set_option maxHeartbeats 4000000
set_option linter.all false
namespace Go.Proofs.Yq
open ChangeShapes WideShapes ChangeAt RowKit Ev
open Tryz
noncomputable section
def i10:ae:=⟨10,by decide⟩
def o3(k:Nat):bR:=if k<3 then(gZ (Dz k) i10).1 else bc
theorem OG:∀k:Nat,k<3->ry (gZ (Dz k) i10).1=true
 |0,_=>by kernel_rfl
 |1,_=>by kernel_rfl
 |2,_=>by kernel_rfl
 |k+3,h=>by omega
theorem OH(k:Nat):o3 k=bc∨ry (o3 k)=true:=by
 unfold o3;split
 ·rename_i h;exact .inr (OG k h)
 ·exact .inl rfl
def kJ(c:cT)(k:Nat):ak:=lZ c (nI k) i0 (o3 k)
def jW(c:cT)(k:Nat):List ak:=(List.range k).map (kJ c)
theorem Gt(c:cT)(k:Nat):jW c (k+1)=jW c k++ [kJ c k]:=by unfold jW;rw[List.range_succ,List.map_append];rfl
theorem kT(c:cT)(k:Nat): (jW c k).length=k:=by simp[jW]
def aeY(c:cT):aF:=⟨rM c,[],c,jW c c.1.val.toNat,List.replicate c.1.val.toNat true,i0⟩
def D5(n k:Nat):List Bool:=List.replicate k true++List.replicate (n-k) false
theorem kK(n k:Nat)(h:k<=n): (D5 n k).length=n:=by simp[D5];omega
theorem RU(n k:Nat)(h:k<n): (D5 n k).set k true=D5 n (k+1):=by unfold D5;obtain⟨m,hm⟩:∃m,n-k=m+1:=⟨n-k-1,by omega⟩;rw[List.set_append_right _ _ (by simp),List.length_replicate,Nat.sub_self,hm,List.replicate_succ,List.set_cons_zero,List.replicate_succ',List.append_assoc,show n-(k+1)=m by omega];rfl
theorem tw(n k:Nat)(h:k<n): (D5 n k)[k]? =some false:=by unfold D5;rw[List.getElem?_append_right (by simp),List.length_replicate,Nat.sub_self,List.getElem?_replicate];rw[if_pos (by omega)]
theorem Bu(c:cT)(k:Nat)(h:k<c.1.val.toNat):uB (rM c) k=Dz k/\ia (rM c) k=true:=by
 have hh:ia (rM c) k=true:=by unfold ia;have: (rM c).p.length=c.1.val.toNat:=oT _;simp[this];omega
 refine⟨?_,hh⟩;unfold uB;rw[hh,if_pos rfl,Int.toNat_natCast];show((uD c.1.val.toNat)[k]?).getD eO=_;unfold uD;rw[List.getElem?_map,List.getElem?_range h];rfl
theorem Mem.XD{R:aj}{g:Nat}{F:Nat->Prop}{w w':World}(h:kE R g F w w'):Mem w F [(g,R)] w':=by obtain⟨F',h1,h2,h3⟩:=h;exact⟨F',⟨F',fun _=>False,h1,fun x h=>h,fun x _ h=>h,fun x=>by simp⟩,h2,h3⟩
theorem tx: (prog.info? 46).map (fun i=>(i.zero,i.size,i.bytes))=some (some (.pointer none),1,8):=by kernel_rfl
theorem pR:prog.underlying 64=some (.slice 46):=by kernel_rfl
theorem RV(c:cT)(w:World)(h:ae3 c=false):Calls prog 19 #[j6 c] w fun e w'=>e= .returned (.tuple #[.pointer none,.int .i64 1])/\Below w.heap.size w w':=by
 have B0:Hid (Below w.heap.size w (w.alloc (.cells (bd c) 26))):=(bZ _ w).alloc (nL _) _;have z0: (w.alloc (.cells (bd c) 26)).aI w.heap.size=some (bd c):=by simp[af,aq]
 have HN:Hid (∀w,Calls prog 37 #[.agg (bd c)] w fun e w'=>e= .returned (.pointer none)/\Below w.heap.size w w'):=fun w=>Ru c w h;clear h;unfold j6;go_enter func19,ntmps19;go_wp2_with (go_at_call 37;refine qHG (HN.o _) fun w1 B1=>?_);go_ret2;exact⟨rfl,B0.o.trans (B1.o.mono (by simp))⟩
def OI(c:cT)(k:Nat):aF:=⟨rM c,[],c,jW c k,[],i0⟩
def Ld(c:cT)(n k:Nat)(gw ga gc g:Nat)(vn vb:Value)(ns:List Nat):List (Nat×aj):=(g,.row (tp (OI c k) gw ga vn vb)):: (gw,kD (rM c)):: (ga,gJ []):: (0,.own 46 1 mr vn ns):: (0,.own 4 1 jj vb (D5 n k)):: (gc,.row (bd c)):: ((jW c k).zip ns).map fun q=>(q.2,aO q.1)
theorem permA{α:Type}(a b c d e f:α):[a,b,c,d,e,f].Perm [b,e,d,a,c,f]:=
 (List.perm_middle (l₁:=[a]) (a:=b) (l₂:=[c,d,e,f])).trans (((List.perm_middle (l₁:=[a,c,d]) (a:=e) (l₂:=[f])).trans ((List.perm_middle (l₁:=[a,c]) (a:=d) (l₂:=[f])).cons e)).cons b)
theorem aaY{α:Type}(a b c d e f:α):[a,b,c,d,e,f].Perm [b,e,c,a,d,f]:=
 (List.perm_middle (l₁:=[a]) (a:=b) (l₂:=[c,d,e,f])).trans (((List.perm_middle (l₁:=[a,c,d]) (a:=e) (l₂:=[f])).trans ((List.perm_middle (l₁:=[a]) (a:=c) (l₂:=[d,f])).cons e)).cons b)
theorem tF{w0 w:World}{F0:Nat->Prop}{c:cT}{n k gw ga gc gf gs gx gp ge gb c4:Nat}{a4:Option Addr}{pt:fX}{e:bR}{ns:List Nat}(hn:ns.length=k)(hk:k<n)(h:Mem w0 F0 ([(gs,.row (mr gx)),(gx,aO (kJ c k)),(gp,.row (bg pt)),(ge,.row (aB e)),(gf,.row (tp (OI c (k+1)) gw ga (.slice a4 (k+1) c4) (.slice (some ⟨gb,0,none⟩) n n))),(gw,kD (rM c)),(ga,gJ []),(0,.own 46 1 mr (.slice a4 (k+1) c4) (ns++ [gx])),(0,.own 4 1 jj (.slice (some ⟨gb,0,none⟩) n n) ((D5 n k).set k true)),(gc,.row (bd c))]++((jW c k).zip ns).map fun q=>(q.2,aO q.1)) w):Hid (Mem w0 F0 (Ld c n (k+1) gw ga gc gf (.slice a4 (k+1) c4) (.slice (some ⟨gb,0,none⟩) n n) (ns++ [gx])) w):=by
 show Mem _ _ _ _;rw[RU n k hk] at h;have e1: ((jW c (k+1)).zip (ns++ [gx])).map (fun q=>(q.2,aO q.1))=((jW c k).zip ns).map (fun q=>(q.2,aO q.1))++ [(gx,aO (kJ c k))]:=by rw[Gt,List.zip_append (by rw[kT,hn])];simp
 unfold Ld;rw[e1];generalize (((jW c k).zip ns).map fun q=>(q.2,aO q.1))=R at h ⊢;have h2:=h.perm (List.Perm.cons _ (List.perm_append_singleton (gx,aO (kJ c k)) _).symm);exact h2.au.au.au
theorem IE(c:cT)(w:World)(hm:ae3 c=true):Calls prog 19 #[j6 c] w fun e w'=>∃g p,e= .returned (.tuple #[.pointer (some ⟨g,0,none⟩),.int .i64 0])/\aS (aeY c) p/\Mem w (fun _=>False) (aG (aeY c) p g) w':=by
 obtain⟨h0,h1⟩:=Bm c hm;have HNM:Hid (uf c=true):=by show _=_;rw[<-D4];exact hm
 obtain⟨n,hn⟩:∃n:Nat,c.1.val=n:=⟨c.1.val.toNat,by omega⟩;have n0:1<=n:=by omega
 have n1:n<=64:=by omega
 have HW:Hid (∀w,Calls prog 37 #[.agg (bd c)] w fun e w'=>∃g,e= .returned (.pointer (some ⟨g,0,none⟩))/\w.heap.size<=g/\kE (kD (rM c)) g (fun _=>False) w w'):=fun w=>Rv c w hm h0 h1;have HN:=qD hn;have hmk:=Xk n n1;have M0:Hid (Mem w (fun _=>False) [(w.heap.size,.row (bd c))] (w.alloc (.cells (bd c) 26))):=(Mem.none w).alloc;have k0:=M0.o.row (i:=0) rfl;clear hm h0 h1 hn;unfold j6;go_enter func19,ntmps19;go_upto_region 2 with(go_at_call 37;refine(HW.o _).mono ?_;rintro r w1 ⟨gw,rfl,_,hU⟩;have M1:=qD (Mem.ur M0.o (Mem.XD hU));clear hU);clear M0 HW k0;generalize w.heap.size=gc at*;go_upto_region 4 with(fail)
 go_cut [5] from 22 (fun x5 wr=>∃gf ga gb,x5= .pointer (some ⟨gf,0,none⟩)/\Hid (Mem w (fun _=>False) (Ld c n 0 gw ga gc gf (.slice none 0 0) (.slice (some ⟨gb,0,none⟩) n n) []) wr))
 case first=>
  refine aT 6 (.qs [0,2,3,4] (.w2 1 (.w 5 .done) 5 (.w 1 .done))) (fun w'=>w'.aI gc=some (bd c)) (by kernel_rfl) (by kernel_rfl) ((M1.o.below (Below.drew (bZ _ _))).row (i:=1) rfl) ?_;have M2:=qD (M1.o.below (Below.drew (bZ _ w1)));generalize w1.drew=w2 at*;clear M1;simp only[MT.qs,tC,tE]
  iterate 4 (refine fJ rfl rfl (by rintro w' s1 K hK;have e0:w'.cell? ⟨gc,0,none⟩=some (.int .i64 n):=(ao s1 0).trans (by rw[<-HN.o];rfl);go_simp;exact hK.o) ?_)
  refine zL rfl rfl (fun K hK=>?_) (fun K hK=>?_)
  ·go_wp2_with (go_at_call 38;refine(Ij _).mono ?_;rintro r w3 ⟨ga,FA,rfl,q1,q2,q3⟩;have M3:=qD (M2.o.push (p:=(ga,gJ [])) q3 q1 q2);clear q1 q2 q3 M2);refine hK.o _ _ (M3.o.row (i:=2) rfl) ?_;clear hK;refine cO rfl (fun K hK=>?_);have M4:=qD (M3.o.ae6 (g:=0) ((bZ _ w3).alloc (nL _) _) (pO w3 n n1 4 rfl));go_wp2;refine hK.o _ _ (M4.o.row (i:=3) rfl) ?_;clear hK M3;generalize w3.heap.size=gb at*;generalize (w3.alloc (.cells (madeCells #[.bool false] n) 4))=w4 at*;refine bY ?_;have M5:Hid (Mem w (fun _=>False) (Ld c n 0 gw ga gc w4.heap.size (.slice none 0 0) (.slice (some ⟨gb,0,none⟩) n n) []) (w4.alloc (.cells (tp (OI c 0) gw ga (.slice none 0 0) (.slice (some ⟨gb,0,none⟩) n n)) 67))):=(Mem.nil (α:=Nat) (e:=46) (m:=1) (c:=mr) (M4.o.alloc (cs:=tp (OI c 0) gw ga (.slice none 0 0) (.slice (some ⟨gb,0,none⟩) n n)) (t:=67))).perm (permA _ _ _ _ _ _);go_wp2_with ((with_reducible show wpList _ _ _ (⟨some 20,_,_,_,_,_⟩::_) _ _);refine br _ (.agg (tp (OI c 0) gw ga (.slice none 0 0) (.slice (some ⟨gb,0,none⟩) n n))) w4 rfl (by kernel_rfl) ?_);refine NoPanic.normal ?_;clear M4;go_wp2;go_meet
   case rel=>exact⟨_,ga,gb,rfl,M5⟩
  ·have M3:=qD (M2.o.ae6 (g:=0) ((bZ _ w2).alloc (nL _) _) (pO w2 n n1 4 rfl));go_wp2;refine hK.o _ _ (M3.o.row (i:=2) rfl) ?_;clear hK M2;generalize w2.heap.size=gb at*;generalize (w2.alloc (.cells (madeCells #[.bool false] n) 4))=w3 at*;refine cO rfl (fun K hK=>?_);go_wp2_with (go_at_call 38;refine(Ij _).mono ?_;rintro r w4 ⟨ga,FA,rfl,q1,q2,q3⟩;have M4:=qD (M3.o.push (p:=(ga,gJ [])) q3 q1 q2);clear q1 q2 q3 M3);refine hK.o _ _ (M4.o.row (i:=3) rfl) ?_;clear hK;refine bY ?_;have M5:Hid (Mem w (fun _=>False) (Ld c n 0 gw ga gc w4.heap.size (.slice none 0 0) (.slice (some ⟨gb,0,none⟩) n n) []) (w4.alloc (.cells (tp (OI c 0) gw ga (.slice none 0 0) (.slice (some ⟨gb,0,none⟩) n n)) 67))):=(Mem.nil (α:=Nat) (e:=46) (m:=1) (c:=mr) (M4.o.alloc (cs:=tp (OI c 0) gw ga (.slice none 0 0) (.slice (some ⟨gb,0,none⟩) n n)) (t:=67))).perm (aaY _ _ _ _ _ _);go_wp2_with ((with_reducible show wpList _ _ _ (⟨some 20,_,_,_,_,_⟩::_) _ _);refine br _ (.agg (tp (OI c 0) gw ga (.slice none 0 0) (.slice (some ⟨gb,0,none⟩) n n))) w4 rfl (by kernel_rfl) ?_);refine NoPanic.normal ?_;clear M4;go_wp2;go_meet
   case rel=>exact⟨_,ga,gb,rfl,M5⟩
 case rest=>
  obtain⟨gf,ga,gb,rfl,M2⟩:=hcut;clear M1 hmk;have c0:wc.cell? ⟨gc,0,none⟩=some (.int .i64 n):=by rw[<-HN.o];exact M2.o.cell (i:=5) (k:=0) rfl rfl
  have gl:=ab (M2.o.row (i:=5) rfl);go_upto_region 6 with(fail)
  go_loopw [24] (fun i24 wr=>∃(k:Nat) (vn:Value) (ns:List Nat),k<=n/\i24= .int .i64 k/\Hid (ns.length=k)/\Hid (Mem w (fun _=>False) (Ld c n k gw ga gc gf vn (.slice (some ⟨gb,0,none⟩) n n) ns) wr)) (fun i24 _=>n-(intOf i24).toNat)
  case atStart=>exact⟨0,_,[],by omega,rfl,rfl,M2⟩
  case round=>
   obtain⟨k,vn,ns,hk,rfl,HLN,M⟩:=hrel;clear M2 c0 gl;by_cases hlt:k<n
   ·have hze:=gK;have hzp:=lB;have hbz:∀w,(Instr.build 37 #[]).run prog w= .ok (.agg (aB bc)) w:=fun w=>by kernel_rfl
    go_upto_region 9 with(fail);have M1:Hid (Mem w (fun _=>False) ([(wr.heap.size,.row (aB bc))]++Ld c n k gw ga gc gf vn (.slice (some ⟨gb,0,none⟩) n n) ns) ((wr.alloc (.cells (aB bc) 37)).setCells wr.heap.size 0 (aB bc).toList)):=(M.o.alloc (cs:=aB bc) (t:=37)).bC (i:=0) (cs':=aB bc) rfl (by simp[cc]);generalize wr.heap.size=ge at M1 ⊢;generalize ((wr.alloc (.cells (aB bc) 37)).setCells ge 0 (aB bc).toList)=w1 at*;clear M;have HKN:Hid (k<c.1.val.toNat):=by show _<_;rw[HN.o];omega
    have HPL:Hid (Calls prog 39 #[.pointer (some ⟨gw,0,none⟩),.int .i64 (k:Int)] w1 fun e w'=>e= .returned (.tuple #[.agg (bg (Dz k)),.bool true])/\Below w1.heap.size w1 w'):=by obtain⟨F1,hr⟩:=M1.o.rep (i:=2) rfl;have:=td (rM c) gw F1 w1 k hr;rw[(Bu c k HKN.o).1,(Bu c k HKN.o).2] at this;exact this
    have HEK:Hid (o3 k=if k<3 then(gZ (Dz k) i10).1 else bc):=rfl;generalize Dz k=pt at HPL HEK;go_upto_region 10 with(go_at_call 39;refine Mem.qB HPL.o M1.o fun w2 M2=>?_);have M3:Hid (Mem w (fun _=>False) ([(w2.heap.size,.row (bg pt)),(ge,.row (aB bc))]++Ld c n k gw ga gc gf vn (.slice (some ⟨gb,0,none⟩) n n) ns) ((w2.alloc (.cells (bg eO) 33)).setCells w2.heap.size 0 (bg pt).toList)):=(M2.o.alloc (cs:=bg eO) (t:=33)).bC (i:=0) (cs':=bg pt) rfl (by simp[aeU]);generalize w2.heap.size=gp at M3 ⊢;generalize ((w2.alloc (.cells (bg eO) 33)).setCells gp 0 (bg pt).toList)=w3 at*;clear M2 M1 HPL;go_upto_if 35 with(fail)
    go_cut [35,36,37,38,39,40] from 62 (fun c35 c36 c37 c38 c39 c40 wr=>Hid (Mem w (fun _=>False) ([(gp,.row (bg pt)),(ge,.row (aB (o3 k)))]++Ld c n k gw ga gc gf vn (.slice (some ⟨gb,0,none⟩) n n) ns) wr))
    case first=>
     by_cases h3:k<3
     ·have h3i: (k:Int)<3:=by omega
      have d3:decide ((k:Int)<3)=true:=by simpa using h3i
      have HE:Hid (o3 k=(gZ pt i10).1):=by show _=_;rw[HEK.o,if_pos h3]
      have HBL:Hid (∀w,Calls prog 40 #[.agg (bg pt),.int .i64 10] w fun e w'=>e= .returned (.tuple #[.agg (aB (gZ pt i10).1),.int .i64 (gZ pt i10).2.val])/\Below w.heap.size w w'):=fun w=>FV pt i10 w;generalize gZ pt i10=bl at HE HBL;have kp:=M3.o.row (i:=0) rfl;clear h3 HEK;rw[d3];clear d3 h3i;go_wp2_with (go_at_call 40;refine(HBL.o _).mono ?_;rintro r w4 ⟨rfl,hb⟩;have M4:=qD (M3.o.below hb);have k4:=M4.o.row (i:=1) rfl;clear hb);have M5:Hid (Mem w (fun _=>False) ([(gp,.row (bg pt)),(ge,.row (aB bl.1))]++Ld c n k gw ga gc gf vn (.slice (some ⟨gb,0,none⟩) n n) ns) (w4.setCells ge 0 (aB bl.1).toList)):=M4.o.bC (i:=1) (cs':=aB bl.1) rfl (by simp[cc]);go_meet
      case rel=>rw[HE.o];exact M5
     ·have h3i:¬(k:Int)<3:=by omega
      have d3:decide ((k:Int)<3)=false:=by simpa using h3i
      have HE:Hid (o3 k=bc):=by show _=_;rw[HEK.o,if_neg h3]
      clear h3 HEK;rw[d3];clear d3 h3i;go_wp2;go_meet
      case rel=>rw[HE.o];exact M3
    case rest=>
     have M4:=hcut;clear hcut M3 hze hzp hbz;go_upto_region 12 with(fail);have HEM:=qD (OH k);have HNN:Hid (kJ c k=lZ c (nI k) i0 (o3 k)):=rfl;have HJ:Hid (k<=1000000):=by show _<=_;omega
     generalize o3 k=e at M4 HEM HNN;obtain⟨va,vc,rfl⟩:=(M4.o.own (i:=5) rfl).len;rw[HLN.o] at M4;have SS:∀w',Mem w (fun _=>False) ([(gp,.row (bg pt)),(ge,.row (aB e))]++Ld c n k gw ga gc gf (.slice va k vc) (.slice (some ⟨gb,0,none⟩) n n) ns) w'->(w'.aI gc=some (bd c)/\w'.aI ge=some (aB e)/\w'.cell? ⟨gf,14,none⟩=some (.slice (some ⟨gb,0,none⟩) n n)):=fun w' hM=>⟨hM.row (i:=7) rfl,hM.row (i:=1) rfl,hM.cell (i:=2) (k:=14) rfl rfl⟩;have SS2:=qD SS;refine aT 19 (.qs [0,1,2,3,4,5,6,7,8,10,11,12] (.w2 9 (.w 13 (.w 14 (.w 15 (.qs [16,17] (.w 18 .done))))) 13 (.w2 9 (.w 14 (.w 15 (.qs [16,17] (.w 18 .done)))) 14 (.w 9 (.w 15 (.qs [16,17] (.w 18 .done))))))) (fun w'=>w'.aI gc=some (bd c)/\w'.aI ge=some (aB e)/\w'.cell? ⟨gf,14,none⟩=some (.slice (some ⟨gb,0,none⟩) n n)) (by kernel_rfl) (by kernel_rfl) (SS2.o _ (M4.o.below (Below.drew (bZ _ _)))) ?_;clear SS;have M5:=qD (M4.o.below (Below.drew (bZ _ wc)));generalize wc.drew=w5 at*;clear M4;have HNW:Hid (∀w,Calls prog 41 #[.agg (bd c),.int .i64 (k:Int),.int .i64 0,.agg (aB e)] w fun r w'=>∃g,r= .returned (.pointer (some ⟨g,0,none⟩))/\Mem w (fun _=>False) [(g,aO (kJ c k))] w'):=fun w=>by have:=Ix c (nI k) i0 e w (by rw[gR HJ.o];omega) (by rw[gR HJ.o];omega) (by kernel_rfl) HNM.o HEM.o;rw[gR HJ.o] at this;rw[HNN.o];exact this
     simp only[MT.qs,tC,tE]
     iterate 12 (refine fJ rfl rfl (by rintro w' ⟨s1,s2,s3⟩ K hK;go_simp;exact hK.o) ?_)
     refine zL rfl rfl (fun K hK=>?_) (fun K hK=>?_)
     ·have c13:w5.cell? ⟨gf,13,none⟩=some (.slice va k vc):=M5.o.cell (i:=2) (k:=13) rfl rfl;go_wp2;refine hK.o _ _ (SS2.o _ M5.o) ?_;clear hK c13;refine cO rfl (fun K hK=>?_);go_wp2_with (go_at_call 41;refine(HNW.o _).mono ?_;rintro r w6 ⟨gx,rfl,hM⟩;have M6:=qD (Mem.ur M5.o hM);clear hM);refine hK.o _ _ (SS2.o _ M6.o.au) ?_;clear hK;refine cO rfl (fun K hK=>?_);have M7:=qD (Mem.alloc (cs:=mr gx) (t:=46) M6.o);refine dN rfl _ 64 46 rfl pR tx rfl (by decide) (by decide) _ rfl (mr gx) rfl rfl ?_;go_wp2;refine hK.o _ _ (SS2.o _ M7.o.au.au) ?_;clear hK;generalize w6.heap.size=gs at*;generalize (w6.alloc (.cells (mr gx) 46))=w7 at*;refine cO rfl (fun K hK=>?_)
      at_builtin
      refine fq rfl _ _ 64 46 rfl pR tx rfl (by decide) (j:=7) k HLN.o rfl M7.o rfl gs 1 rfl gx (M7.o.row (i:=0) rfl) jy xw (by omega) (by decide) ?_;intro a4 c4 w8 hM8 hl8;have M8:=qD hM8;clear hM8 hl8;go_wp2;refine hK.o _ _ ⟨M8.o.row (i:=9) rfl,M8.o.row (i:=3) rfl,M8.o.cell (i:=4) (k:=14) rfl rfl⟩ ?_;clear hK
      iterate 2 (refine fJ rfl rfl (by rintro w' ⟨s1,s2,s3⟩ K hK;go_simp;exact hK.o) ?_)
      refine cO rfl (fun K hK=>?_);have c13:w8.cell? ⟨gf,13,none⟩=some (.slice va k vc):=M8.o.cell (i:=4) (k:=13) rfl rfl;have z13:=ax (M8.o.row (i:=4) rfl) 13;have M9:=qD (M8.o.bO (i:=4) (k:=13) (v:= .slice a4 (k+1) c4) (cs':=tp (OI c (k+1)) gw ga (.slice a4 (k+1) c4) (.slice (some ⟨gb,0,none⟩) n n)) rfl rfl);go_wp2;refine hK.o _ _ ⟨M9.o.row (i:=9) rfl,M9.o.row (i:=3) rfl,M9.o.cell (i:=4) (k:=14) rfl rfl⟩ ?_;clear hK c13 z13 M8;generalize (w8.setCell ⟨gf,13,none⟩ (.slice a4 (k+1) c4))=w9 at*;have M10:=qD (Mem.Kp M9.o (i:=8) (gg:=0) (e:=4) (c:=jj) (k:=k) (x:=false) (y:=true) (v:= .bool true) (l:=D5 n k) (n:=n) (g:=gb) (cap:=n) rfl (kK n k (by omega)).symm cK (tw n k hlt) rfl);have cb:=lX M9.o (i:=8) rfl (tw n k hlt);obtain⟨_,_,cur,hv,_,_,hbk,_⟩:=(M9.o.own (i:=8) (g:=0) (e:=4) (c:=jj) (l:=D5 n k) rfl).aI cK (by rw[kK n k (by omega)];omega);rw[kK n k (by omega)] at hv;cases hv;have zf:=ax hbk k;clear hbk M9;refine bY ?_;go_wp2;refine NoPanic.normal ?_;go_wp2;go_roundw
      case rel=>exact⟨k+1,_,ns++ [gx],by omega,by go_num,by show _=_;rw[List.length_append,HLN.o];rfl,tF HLN.o hlt M10.o⟩
      case measure=>simp[intOf];omega
     ·go_wp2_with (go_at_call 41;refine(HNW.o _).mono ?_;rintro r w6 ⟨gx,rfl,hM⟩;have M6:=qD (Mem.ur M5.o hM);clear hM);refine hK.o _ _ (SS2.o _ M6.o.au) ?_;clear hK;refine zL rfl rfl (fun K hK=>?_) (fun K hK=>?_)
      ·have c13:w6.cell? ⟨gf,13,none⟩=some (.slice va k vc):=M6.o.cell (i:=3) (k:=13) rfl rfl;go_wp2;refine hK.o _ _ (SS2.o _ M6.o.au) ?_;clear hK c13;refine cO rfl (fun K hK=>?_);have M7:=qD (Mem.alloc (cs:=mr gx) (t:=46) M6.o);refine dN rfl _ 64 46 rfl pR tx rfl (by decide) (by decide) _ rfl (mr gx) rfl rfl ?_;go_wp2;refine hK.o _ _ (SS2.o _ M7.o.au.au) ?_;clear hK;generalize w6.heap.size=gs at*;generalize (w6.alloc (.cells (mr gx) 46))=w7 at*;refine cO rfl (fun K hK=>?_)
       at_builtin
       refine fq rfl _ _ 64 46 rfl pR tx rfl (by decide) (j:=7) k HLN.o rfl M7.o rfl gs 1 rfl gx (M7.o.row (i:=0) rfl) jy xw (by omega) (by decide) ?_;intro a4 c4 w8 hM8 hl8;have M8:=qD hM8;clear hM8 hl8;go_wp2;refine hK.o _ _ ⟨M8.o.row (i:=9) rfl,M8.o.row (i:=3) rfl,M8.o.cell (i:=4) (k:=14) rfl rfl⟩ ?_;clear hK
       iterate 2 (refine fJ rfl rfl (by rintro w' ⟨s1,s2,s3⟩ K hK;go_simp;exact hK.o) ?_)
       refine cO rfl (fun K hK=>?_);have c13:w8.cell? ⟨gf,13,none⟩=some (.slice va k vc):=M8.o.cell (i:=4) (k:=13) rfl rfl;have z13:=ax (M8.o.row (i:=4) rfl) 13;have M9:=qD (M8.o.bO (i:=4) (k:=13) (v:= .slice a4 (k+1) c4) (cs':=tp (OI c (k+1)) gw ga (.slice a4 (k+1) c4) (.slice (some ⟨gb,0,none⟩) n n)) rfl rfl);go_wp2;refine hK.o _ _ ⟨M9.o.row (i:=9) rfl,M9.o.row (i:=3) rfl,M9.o.cell (i:=4) (k:=14) rfl rfl⟩ ?_;clear hK c13 z13 M8;generalize (w8.setCell ⟨gf,13,none⟩ (.slice a4 (k+1) c4))=w9 at*;have M10:=qD (Mem.Kp M9.o (i:=8) (gg:=0) (e:=4) (c:=jj) (k:=k) (x:=false) (y:=true) (v:= .bool true) (l:=D5 n k) (n:=n) (g:=gb) (cap:=n) rfl (kK n k (by omega)).symm cK (tw n k hlt) rfl);have cb:=lX M9.o (i:=8) rfl (tw n k hlt);obtain⟨_,_,cur,hv,_,_,hbk,_⟩:=(M9.o.own (i:=8) (g:=0) (e:=4) (c:=jj) (l:=D5 n k) rfl).aI cK (by rw[kK n k (by omega)];omega);rw[kK n k (by omega)] at hv;cases hv;have zf:=ax hbk k;clear hbk M9;refine bY ?_;go_wp2;refine NoPanic.normal ?_;go_wp2;go_roundw
       case rel=>exact⟨k+1,_,ns++ [gx],by omega,by go_num,by show _=_;rw[List.length_append,HLN.o];rfl,tF HLN.o hlt M10.o⟩
       case measure=>simp[intOf];omega
      ·have M7:=qD (Mem.alloc (cs:=mr gx) (t:=46) M6.o);refine dN rfl _ 64 46 rfl pR tx rfl (by decide) (by decide) _ rfl (mr gx) rfl rfl ?_;go_wp2;refine hK.o _ _ (SS2.o _ M7.o.au.au) ?_;clear hK;generalize w6.heap.size=gs at*;generalize (w6.alloc (.cells (mr gx) 46))=w7 at*;refine cO rfl (fun K hK=>?_);have c13:w7.cell? ⟨gf,13,none⟩=some (.slice va k vc):=M7.o.cell (i:=4) (k:=13) rfl rfl;go_wp2;refine hK.o _ _ (SS2.o _ M7.o.au.au) ?_;clear hK c13;refine cO rfl (fun K hK=>?_)
       at_builtin
       refine fq rfl _ _ 64 46 rfl pR tx rfl (by decide) (j:=7) k HLN.o rfl M7.o rfl gs 1 rfl gx (M7.o.row (i:=0) rfl) jy xw (by omega) (by decide) ?_;intro a4 c4 w8 hM8 hl8;have M8:=qD hM8;clear hM8 hl8;go_wp2;refine hK.o _ _ ⟨M8.o.row (i:=9) rfl,M8.o.row (i:=3) rfl,M8.o.cell (i:=4) (k:=14) rfl rfl⟩ ?_;clear hK
       iterate 2 (refine fJ rfl rfl (by rintro w' ⟨s1,s2,s3⟩ K hK;go_simp;exact hK.o) ?_)
       refine cO rfl (fun K hK=>?_);have c13:w8.cell? ⟨gf,13,none⟩=some (.slice va k vc):=M8.o.cell (i:=4) (k:=13) rfl rfl;have z13:=ax (M8.o.row (i:=4) rfl) 13;have M9:=qD (M8.o.bO (i:=4) (k:=13) (v:= .slice a4 (k+1) c4) (cs':=tp (OI c (k+1)) gw ga (.slice a4 (k+1) c4) (.slice (some ⟨gb,0,none⟩) n n)) rfl rfl);go_wp2;refine hK.o _ _ ⟨M9.o.row (i:=9) rfl,M9.o.row (i:=3) rfl,M9.o.cell (i:=4) (k:=14) rfl rfl⟩ ?_;clear hK c13 z13 M8;generalize (w8.setCell ⟨gf,13,none⟩ (.slice a4 (k+1) c4))=w9 at*;have M10:=qD (Mem.Kp M9.o (i:=8) (gg:=0) (e:=4) (c:=jj) (k:=k) (x:=false) (y:=true) (v:= .bool true) (l:=D5 n k) (n:=n) (g:=gb) (cap:=n) rfl (kK n k (by omega)).symm cK (tw n k hlt) rfl);have cb:=lX M9.o (i:=8) rfl (tw n k hlt);obtain⟨_,_,cur,hv,_,_,hbk,_⟩:=(M9.o.own (i:=8) (g:=0) (e:=4) (c:=jj) (l:=D5 n k) rfl).aI cK (by rw[kK n k (by omega)];omega);rw[kK n k (by omega)] at hv;cases hv;have zf:=ax hbk k;clear hbk M9;refine bY ?_;go_wp2;refine NoPanic.normal ?_;go_wp2;go_roundw
       case rel=>exact⟨k+1,_,ns++ [gx],by omega,by go_num,by show _=_;rw[List.length_append,HLN.o];rfl,tF HLN.o hlt M10.o⟩
       case measure=>simp[intOf];omega
   ·have hkn:k=n:=by omega
    subst hkn;have HLL:Hid (c.1.val.toNat=k):=by show _=_;rw[HN.o,Int.toNat_natCast]
    obtain⟨gn,cn,cur,hv,_,_,_,_⟩:=(M.o.own (i:=3) rfl).aI jy (by rw[HLN.o];omega);rw[HLN.o] at hv;subst hv;go_wp2;go_ret2;refine⟨gf,⟨gw,ga,gn,cn,gb,k,k,ns⟩,rfl,⟨HLN.o,by show(jW c c.1.val.toNat).length=k;rw[kT,HLL.o],by show(List.replicate c.1.val.toNat true).length=k;rw[List.length_replicate,HLL.o],n0,n1⟩,?_⟩;have h1:=M.o.perm (L':=(gc,.row (bd c))::aG (aeY c) ⟨gw,ga,gn,cn,gb,k,k,ns⟩ gf) (by
     unfold Ld aG aeY;rw[HLL.o];have e1:D5 k k=List.replicate k true:=by unfold D5;rw[Nat.sub_self];simp
     rw[e1];exact List.perm_middle (l₁:=[_,_,_,_,_]))
    exact h1.au
end
end Go.Proofs.Yq
namespace Go.Proofs
open Shelf
open Tryz
def Tryz.D6:Go.Shelf.Ren:=⟨fun|171=>62|243=>119|246=>125|283=>167|284=>168|285=>169|286=>170|129=>220|317=>226|318=>227|319=>228|320=>229|337=>277|338=>278|n=>n,fun|3=>3|9=>9|2=>2|4=>4|171=>246|0=>0|53=>59|37=>38|5=>5|173=>249|212=>303|51=>219|20=>20|213=>304|46=>190|232=>379|233=>380|n=>n,fun|17=>1|18=>4|19=>5|n=>n⟩
theorem Tryz.RW:Go.Proofs.Lays.n171 prog Tryz.D6:=by
 constructor
 all_goals (intros;kernel_rfl)
open Go.RowKit Go.Sort Go.Lib in
theorem Tryz.strconv_Itoa_small(i:Nat)(hi:i<100)(w:World):
  Calls prog 62 #[.int .i64 i] w fun e w'=>e= .returned (.string ⟨(Lib.decDigits i).toArray⟩)/\w'=w:=Any.strconv_Itoa_small Tryz.RW i hi w
def Tryz.D7:Go.Shelf.Ren:=⟨fun|173=>65|246=>125|283=>167|284=>168|285=>169|286=>170|129=>220|317=>226|318=>227|319=>228|320=>229|337=>277|338=>278|n=>n,fun|2=>2|3=>3|9=>9|4=>4|171=>246|0=>0|53=>59|37=>38|5=>5|173=>249|212=>303|51=>219|20=>20|213=>304|46=>190|232=>379|233=>380|n=>n,fun|17=>1|18=>4|19=>5|n=>n⟩
theorem Tryz.RX:Go.Proofs.Lays.n173 prog Tryz.D7:=by
 constructor
 all_goals (intros;kernel_rfl)
open Go.RowKit Go.Sort Go.Lib in
theorem Tryz.strconv_FormatInt_10_small(i:Nat)(hi:i<100)(w:World):
  Calls prog 65 #[.int .i64 i,.int .i64 10] w fun e w'=>e= .returned (.string ⟨(Lib.decDigits i).toArray⟩)/\w'=w:=Any.strconv_FormatInt_10_small Tryz.RX i hi w
def Tryz.Bv:Go.Shelf.Ren:=⟨fun|174=>171|247=>230|245=>231|287=>279|279=>280|280=>281|281=>282|282=>283|321=>306|322=>307|316=>308|171=>62|205=>309|243=>119|246=>125|283=>167|284=>168|285=>169|286=>170|129=>220|317=>226|318=>227|319=>228|320=>229|337=>277|338=>278|n=>n,fun|9=>9|3=>3|2=>2|75=>252|85=>253|4=>4|167=>354|5=>5|53=>59|175=>355|46=>190|168=>357|37=>38|0=>0|210=>384|21=>21|127=>306|145=>399|143=>397|171=>246|173=>249|212=>303|51=>219|20=>20|213=>304|232=>379|233=>380|80=>138|n=>n,fun|15=>6|16=>7|17=>1|18=>4|19=>5|n=>n⟩
theorem Tryz.OJ:Go.Proofs.LaysC.n174 prog Tryz.Bv:=by
 constructor
 case toM=>constructor <;> first|(intros;kernel_rfl)|(constructor <;> (intros;kernel_rfl))
 all_goals (intros;kernel_rfl)
open Go.RowKit in
theorem Tryz.strconv_ParseInt_10_at64_ok(s:ByteArray)(hmax:s.size<=9223372036854775806)(v:Int)(h:Lib.parseIntB 64 s.data.toList= .ok v)(w:World):
  Calls prog 171 #[.string s,.int .i64 10,.int .i64 64] w fun e w'=>e= .returned (.tuple #[.int .i64 v,.nilIface])/\(w'=w∨∃t,w'=Lib.bytesWorld w 5 t):=Any.strconv_ParseInt_10_at64_ok Tryz.OJ s hmax v h w
def Tryz.D8:Go.Shelf.Ren:=⟨fun|146=>34|221=>63|268=>120|138=>121|143=>122|195=>163|197=>164|218=>165|219=>166|260=>221|217=>222|225=>223|224=>224|267=>225|266=>275|314=>276|n=>n,fun|9=>9|31=>87|3=>3|4=>4|0=>0|105=>243|21=>21|5=>5|46=>190|119=>348|139=>351|138=>350|146=>352|51=>219|n=>n,fun|1=>0|3=>2|4=>3|n=>n⟩
theorem Tryz.RY:Go.Proofs.Lays.n146 prog Tryz.D8:=by
 constructor
 all_goals (intros;kernel_rfl)
open Go.RowKit Go.Lib in
theorem Tryz.strings_Split(s sep:ByteArray)(m:Int)(w:World)(hs:s.size<4294967281)(hm:w.cell? ⟨0,0,none⟩=some (.int .i64 m))(h1:1<=sep.size):
  Calls prog 34 #[.string s,.string sep] w fun e w'=>e= .returned (.slice (some ⟨w.heap.size,0,none⟩) (Lib.countB s sep+1) (Lib.countB s sep+1))/\w'=w.alloc (.cells ((Lib.splitB sep 0 (Lib.countB s sep) s).map Value.string).toArray 9):=Any.strings_Split Tryz.RY (by kernel_rfl) s sep m w hs hm h1
end Go.Proofs
namespace Go.Proofs.Yq
open ChangeShapes WideShapes ChangeAt RowKit Ev
open Tryz
def jB(b:ByteArray):Array Value:=#[.string b]
theorem iI(x:ByteArray): (jB x).size=1:=rfl
theorem D9(x:ByteArray):∀u∈(jB x).toList,u.oneCell'=true:=by intro u hu;simp[jB] at hu;subst hu;rfl
theorem IF: (prog.info? 9).map (fun i=>(i.zero,i.size,i.bytes))=some (some (.string ByteArray.empty),1,16):=by kernel_rfl
theorem uV:prog.underlying 87=some (.slice 9):=by kernel_rfl
def XE:ByteArray:=⟨#[32]⟩
def uE(g:Nat):Array Value:=#[.pointer (some ⟨g,0,none⟩),.int .i64 5]
def tG(v:Value)(b:Bool):Array Value:=#[v,.bool b]
def IG(w0:World)(L L':List (Nat×aj))(gc:Nat)(x:ByteArray)(xs:List ByteArray)(r:ByteArray):Prop:=
 ∀(w:World) (gw gl o c C:Nat),(xs≠[]->o=1)->xs.length<=c->Mem w0 (fun _=>False) ([(gw,.row (tG (.slice (some ⟨gl,o,none⟩) xs.length c) false)),(0,.own 9 1 jB (.slice (some ⟨gl,0,none⟩) (xs.length+1) C) (x::xs))]++L) w->
  Calls prog 36 #[.pointer (some ⟨gc,0,none⟩),.string x,.pointer (some ⟨gw,0,none⟩)] w fun e w'=>e= .returned (.string r)/\Mem w0 (fun _=>False) L' w'
theorem xG(w0 w:World)(L L':List (Nat×aj))(gc:Nat)(s x:ByteArray)(xs:List ByteArray)(r:ByteArray)(m:Int)(hm:w0.cell? ⟨0,0,none⟩=some (.int .i64 m))(hs:s.size<=2500)(hcount:Lib.countB s XE=xs.length)(hsplit:Lib.splitB XE 0 xs.length s=x::xs)(hne:∀y∈x::xs,y≠ByteArray.empty)(hlen:xs.length<=5)
  (hask:∀w,Calls prog 35 #[.pointer (some ⟨gc,0,none⟩),.string x] w fun e w'=>e= .returned (.tuple #[.string ⟨#[]⟩,.bool false])/\w'=w)
  (hrun:IG w0 L L' gc x xs r) (h:Mem w0 (fun _=>False) L w):Calls prog 18 #[.pointer (some ⟨gc,0,none⟩),.string s] w fun e w'=>e= .returned (.string r)/\Mem w0 (fun _=>False) L' w':=by
 have M0:=qD h;have HS:Hid (Calls prog 34 #[.string s,.string XE] w fun e w'=>e= .returned (.slice (some ⟨w.heap.size,0,none⟩) (xs.length+1) (xs.length+1))/\w'=w.alloc (.cells ((x::xs).map Value.string).toArray 9)):=by have:=Tryz.strings_Split s XE m w (by omega) (by rw[World.cell?_of_block (w:=w0) (h.mh.dK 0 (World.block_lt_of_cell? _ _ hm) (fun h=>h))];exact hm) (by decide);rw[hcount,hsplit] at this;exact this
 have HA:=qD hask;have HR:=qD hrun;have hs2:¬(2500:Int)<s.size:=by omega
 have HNE:=qD hne;clear h hask hrun hs hcount hsplit hm;generalize hws:x::xs=ws at HS HNE;have HWS:=qD hws;have hwl:xs.length+1=ws.length:=by rw[<-hws];rfl
 rw[hwl] at HS;clear hws;go_enter func18,ntmps18;go_upto_region 6 with(fail);go_upto_region 7 with(go_at_call 34;refine HS.o.mono ?_;rintro r w1 ⟨rfl,rfl⟩;have M1:=qD (M0.o.alloc (cs:=(ws.map Value.string).toArray) (t:=9)));generalize w.heap.size=gs at M1 ⊢;generalize (w.alloc (.cells (ws.map Value.string).toArray 9))=w1 at*;clear M0 HS;have M2:Hid (Mem w0 (fun _=>False) ([(0,.own 9 1 jB (.slice none 0 0) (ws.take 0)),(gs,.row (ws.map Value.string).toArray)]++L) w1):=Mem.nil M1.o;clear M1;have HWL:Hid (ws.length<=6):=by show _<=_;omega
 have hwl6:ws.length<=6:=HWL.o
 go_loopw [5,19] (fun x5 i wr=>∃k:Nat,k<=ws.length/\i= .int .i64 k/\Hid (Mem w0 (fun _=>False) ([(0,.own 9 1 jB x5 (ws.take k)),(gs,.row (ws.map Value.string).toArray)]++L) wr)) (fun _ i _=>ws.length-(intOf i).toNat)
 case atStart=>exact⟨0,by omega,rfl,M2⟩
 case round=>
  obtain⟨k,hk,rfl,M⟩:=hrel;clear M2;by_cases hlt:k<ws.length
  ·obtain⟨y,hy⟩:∃y,ws[k]? =some y:=⟨_,gE hlt⟩;have cy:wr.cell? ⟨gs,k,none⟩=some (.string y):=M.o.cell (i:=1) rfl (by rw[List.getElem?_toArray,List.getElem?_map,hy];rfl);have HY:Hid (y≠ByteArray.empty):=HNE.o y (jA hy);have HT:Hid (ws.take (k+1)=ws.take k++ [y]):=by show _=_;rw[List.take_add_one,hy];rfl
   have HTL:Hid ((ws.take k).length=k):=by show _=_;rw[List.length_take];omega
   obtain⟨a0,cp,hvp⟩:=(M.o.own (i:=0) rfl).len;rw[HTL.o] at hvp;subst hvp;clear hy;have MB:=qD (M.o.below ((bZ _ wr).alloc (nL _) (.cells (jB y) 9)));have EB:Hid ((wr.alloc (.cells (jB y) 9)).aI wr.heap.size=some (jB y)):=by show _=_;simp[af,aq]
   have hye:y.toList.isEmpty=false:=by rw[<-decide_eq_emptyBytes];simp[HY.o]
   have hk9:k<=999999:=by omega
   go_upto_region 11 with(first|(refine dN rfl _ 87 9 rfl uV IF rfl (by decide) (by decide) _ rfl (jB y) rfl rfl ?_)|(at_builtin;refine fq rfl _ _ 87 9 rfl uV IF rfl (by decide) (j:=0) k HTL.o rfl MB.o rfl wr.heap.size 1 rfl y EB.o iI D9 hk9 (by decide) ?_;intro a4 c4 w4 M4 l4;have M5:=qD M4;clear M4 l4 MB));clear M cy hye;go_wp2;go_roundw
   case rel=>exact⟨k+1,by omega,by go_num,by rw[HT.o];exact M5⟩
   case measure=>simp[intOf];omega
  ·have hkl:k=ws.length:=by omega
   subst hkl;rw[List.take_length] at M;obtain⟨gl,cp,cur,hv,_,_,hbk,_⟩:=(M.o.own (i:=0) rfl).aI iI (by omega);subst hv;have hle:ws.length<=cp:=by obtain⟨_,_,_,hv,_,_,h4,_⟩:=(M.o.own (i:=0) rfl).at_ (by omega);cases hv;exact h4
   have c0:w1.cell? ⟨gl,0,none⟩=w1.cell? ⟨gl,0,none⟩:=rfl;have cx:wr.cell? ⟨gl,0,none⟩=some (.string x):=xy M.o (i:=0) rfl iI (x:=x) (by rw[<-HWS.o];rfl);have hw1:1<=ws.length:=by omega
   clear c0 hbk;go_upto_region 17 with(go_at_call 35;refine(HA.o _).mono ?_;rintro r w2 ⟨rfl,hw⟩;subst hw);clear HNE HWL;have hcp1: (1:Int)<=cp:=by omega
   have hcp2:decide (1<=cp)=true:=by simp;omega
   by_cases hc:cp=1
   ·have hx0:xs.length=0:=by omega
    have hwl1:ws.length=1:=by omega
    subst hc;rw[hwl1] at M ⊢;refine aT 8 (.qs [0,1,2,3,4,5,6] (.w 7 .done)) (fun w'=>w'.cell? ⟨gl,0,none⟩=some (.string x)) (by kernel_rfl) (by kernel_rfl) (by exact cx) ?_;have M3:=qD (M.o.below (Below.drew (bZ _ _)));generalize w2.drew=w3 at*;clear M cx;simp only[MT.qs,tC,tE]
    iterate 7 (refine fJ rfl rfl (by rintro w' s1 K hK;go_simp;exact hK.o) ?_)
    refine cO rfl (fun K hK=>?_);have M4:Hid (Mem w0 (fun _=>False) ([(w3.heap.size,.row (tG (.slice (some ⟨gl,0,none⟩) xs.length 0) false)),(0,.own 9 1 jB (.slice (some ⟨gl,0,none⟩) (xs.length+1) 1) (x::xs)),(gs,.row (ws.map Value.string).toArray)]++L) (w3.alloc (.cells (tG (.slice (some ⟨gl,0,none⟩) 0 0) false) 94))):=by rw[HWS.o,hx0];exact M3.o.alloc
    have cx3: (w3.alloc (.cells (tG (.slice (some ⟨gl,0,none⟩) 0 0) false) 94)).cell? ⟨gl,0,none⟩=some (.string x):=xy (x:=x) M4.o (i:=1) rfl iI rfl;have HC:Hid (Calls prog 36 #[.pointer (some ⟨gc,0,none⟩),.string x,.pointer (some ⟨w3.heap.size,0,none⟩)] (w3.alloc (.cells (tG (.slice (some ⟨gl,0,none⟩) 0 0) false) 94)) fun e w'=>e= .returned (.string r)/\Mem w0 (fun _=>False) L' w'):=
     HR.o _ _ gl 0 0 1 (fun h=>absurd (List.length_eq_zero_iff.1 hx0) h) (by omega) (M4.o.perm (((List.perm_middle (l₁:=[_,_]) (l₂:=L)).trans (List.Perm.refl _)))).au
    go_wp2;refine hK.o _ _ cx3 ?_;clear hK cx3 M3 M4;refine bY ?_;go_wp2_with (go_at_call 36;refine qHG HC.o fun w4 M6=>?_);refine NoPanic.normal ?_;go_wp2;go_ret;exact⟨rfl,M6.o⟩
   ·have hcp3: (cp:Int)≠1:=by omega
    have hcp4:¬1=cp:=by omega
    have HXL:Hid (xs.length=ws.length-1):=by show _=_;omega
    have HXL2:Hid (ws.length-1+1=ws.length):=by show _=_;omega
    have hp0:0<ws.length:=by omega
    have zc: (1:Int)<=ws.length:=by omega
    refine aT 8 (.qs [0,1,2,3,4,5,6] (.w 7 .done)) (fun w'=>w'.cell? ⟨gl,0,none⟩=some (.string x)) (by kernel_rfl) (by kernel_rfl) (by exact cx) ?_;have M3:=qD (M.o.below (Below.drew (bZ _ _)));generalize w2.drew=w3 at*;clear M cx;simp only[MT.qs,tC,tE]
    iterate 7 (refine fJ rfl rfl (by rintro w' s1 K hK;go_simp;exact hK.o) ?_)
    refine cO rfl (fun K hK=>?_);have M4:Hid (Mem w0 (fun _=>False) ([(w3.heap.size,.row (tG (.slice (some ⟨gl,1,none⟩) xs.length (cp-1)) false)),(0,.own 9 1 jB (.slice (some ⟨gl,0,none⟩) (xs.length+1) cp) (x::xs)),(gs,.row (ws.map Value.string).toArray)]++L) (w3.alloc (.cells (tG (.slice (some ⟨gl,1,none⟩) (ws.length-1) (cp-1)) false) 94))):=by show Mem _ _ _ _;rw[HWS.o,HXL.o,HXL2.o];exact M3.o.alloc
    have cx3: (w3.alloc (.cells (tG (.slice (some ⟨gl,1,none⟩) (ws.length-1) (cp-1)) false) 94)).cell? ⟨gl,0,none⟩=some (.string x):=xy (x:=x) M4.o (i:=1) rfl iI rfl;have HC:Hid (Calls prog 36 #[.pointer (some ⟨gc,0,none⟩),.string x,.pointer (some ⟨w3.heap.size,0,none⟩)] (w3.alloc (.cells (tG (.slice (some ⟨gl,1,none⟩) (ws.length-1) (cp-1)) false) 94)) fun e w'=>e= .returned (.string r)/\Mem w0 (fun _=>False) L' w'):=
     HR.o _ _ gl 1 (cp-1) cp (fun _=>rfl) (by omega) (M4.o.perm (((List.perm_middle (l₁:=[_,_]) (l₂:=L)).trans (List.Perm.refl _)))).au
    go_wp2;refine hK.o _ _ cx3 ?_;clear hK cx3 M3 M4;refine bY ?_;go_wp2_with (go_at_call 36;refine qHG HC.o fun w4 M6=>?_);refine NoPanic.normal ?_;go_wp2;go_ret;exact⟨rfl,M6.o⟩
section
def rT:ByteArray:=⟨#[116,105,99,107]⟩
def o5:ByteArray:=⟨#[102,108,117,115,104]⟩
def o7:ByteArray:=⟨#[119,104,101,114,101]⟩
def OK:ByteArray:=⟨#[115,117,114,101]⟩
theorem OL(gc:Nat)(w:World):Calls prog 35 #[.pointer (some ⟨gc,0,none⟩),.string rT] w fun e w'=>e= .returned (.tuple #[.string ⟨#[]⟩,.bool false])/\w'=w:=by unfold rT;go_enter func35,ntmps35;go_wp2;go_ret2;exact⟨rfl,rfl⟩
theorem Kw(gc:Nat)(w:World):Calls prog 35 #[.pointer (some ⟨gc,0,none⟩),.string o5] w fun e w'=>e= .returned (.tuple #[.string ⟨#[]⟩,.bool false])/\w'=w:=by unfold o5;go_enter func35,ntmps35;go_wp2;go_ret2;exact⟨rfl,rfl⟩
theorem Kx(gc:Nat)(w:World):Calls prog 35 #[.pointer (some ⟨gc,0,none⟩),.string o7] w fun e w'=>e= .returned (.tuple #[.string ⟨#[]⟩,.bool false])/\w'=w:=by unfold o7;go_enter func35,ntmps35;go_wp2;go_ret2;exact⟨rfl,rfl⟩
def W1L(gw gl c C:Nat)(x y:ByteArray)(L:List (Nat×aj)):List (Nat×aj):=[(gw,.row (tG (.slice (some ⟨gl,1,none⟩) 1 c) false)),(0,.own 9 1 jB (.slice (some ⟨gl,0,none⟩) 2 C) [x,y])]++L
def Ea(gw gl o c:Nat)(v:Value)(xs:List ByteArray)(L:List (Nat×aj)):List (Nat×aj):=[(gw,.row (tG (.slice (some ⟨gl,o,none⟩) 0 c) false)),(0,.own 9 1 jB v xs)]++L
section
variable {w0 w:World} {L:List (Nat×aj)}
theorem OM(gw gl c C:Nat)(x y:ByteArray)(hc:1<=c)(h:Mem w0 (fun _=>False) (W1L gw gl c C x y L) w):Calls prog 128 #[.pointer (some ⟨gw,0,none⟩)] w fun e w'=>e= .returned (.string y)/\∃o c',Mem w0 (fun _=>False) (Ea gw gl o c' (.slice (some ⟨gl,0,none⟩) 2 C) [x,y] L) w':=by
 have M0:=qD h;have c0:w.cell? ⟨gw,0,none⟩=some (.slice (some ⟨gl,1,none⟩) 1 c):=h.cell (i:=0) (k:=0) rfl rfl;have cy:w.cell? ⟨gl,1,none⟩=some (.string y):=xy (x:=y) h (i:=1) rfl iI rfl;have z0:=ax (h.row (i:=0) rfl) 0;have gl0:=ab (h.row (i:=0) rfl);have hc1: (1:Int)<=c:=by omega
 clear h;by_cases hc2:c=1
 ·subst hc2;have M1:Hid (Mem w0 (fun _=>False) (Ea gw gl 1 0 (.slice (some ⟨gl,0,none⟩) 2 C) [x,y] L) (w.setCell ⟨gw,0,none⟩ (.slice (some ⟨gl,1,none⟩) 0 0))):=M0.o.bO (i:=0) (k:=0) (v:= .slice (some ⟨gl,1,none⟩) 0 0) rfl rfl;clear M0;go_enter func128,ntmps128;go_wp2;go_ret;exact⟨rfl,1,0,M1.o⟩
 ·have hc3:¬c=1:=hc2;have hc4:¬1=c:=by omega
  have M1:Hid (Mem w0 (fun _=>False) (Ea gw gl 2 (c-1) (.slice (some ⟨gl,0,none⟩) 2 C) [x,y] L) (w.setCell ⟨gw,0,none⟩ (.slice (some ⟨gl,2,none⟩) 0 (c-1)))):=M0.o.bO (i:=0) (k:=0) (v:= .slice (some ⟨gl,2,none⟩) 0 (c-1)) rfl rfl;clear M0 hc2;go_enter func128,ntmps128;go_wp2;go_ret;exact⟨rfl,2,c-1,M1.o⟩
theorem Bw(gw gl o c:Nat)(v:Value)(xs:List ByteArray)(h:Mem w0 (fun _=>False) (Ea gw gl o c v xs L) w):Calls prog 127 #[.pointer (some ⟨gw,0,none⟩)] w fun e w'=>e= .returned (.bool true)/\w'=w:=by have c0:w.cell? ⟨gw,0,none⟩=some (.slice (some ⟨gl,o,none⟩) 0 c):=h.cell (i:=0) (k:=0) rfl rfl;have c1:w.cell? ⟨gw,1,none⟩=some (.bool false):=h.cell (i:=0) (k:=1) rfl rfl;clear h;go_enter func127,ntmps127;go_wp2;go_ret;exact⟨rfl,rfl⟩
theorem zX(gw gl c C n:Nat)(x y:ByteArray)(hc:1<=c)(hn:n<100)(hy:y=⟨(Lib.decDigits n).toArray⟩)(hp:Lib.parseIntB 64 y.data.toList= .ok (n:Int))(hsz:y.size<=1000)(h:Mem w0 (fun _=>False) (W1L gw gl c C x y L) w):Calls prog 126 #[.pointer (some ⟨gw,0,none⟩)] w fun e w'=>e= .returned (.int .i64 (n:Int))/\∃o c',Mem w0 (fun _=>False) (Ea gw gl o c' (.slice (some ⟨gl,0,none⟩) 2 C) [x,y] L) w':=by
 have HN:=qD (OM gw gl c C x y hc h);have HP:Hid (∀w,Calls prog 171 #[.string y,.int .i64 10,.int .i64 64] w fun e w'=>e= .returned (.tuple #[.int .i64 n,.nilIface])/\Below w.heap.size w w'):=fun w=>(Tryz.strconv_ParseInt_10_at64_ok y (by omega) n hp w).mono (by
  rintro e w' ⟨rfl,rfl|⟨t,rfl⟩⟩
  ·exact⟨rfl,bZ _ _⟩
  ·exact⟨rfl,Lib.bytesWorld_below _ _ _⟩)
 have HF:Hid (∀w,Calls prog 65 #[.int .i64 n,.int .i64 10] w fun e w'=>e= .returned (.string y)/\w'=w):=fun w=>by rw[hy];exact Tryz.strconv_FormatInt_10_small n hn w
 clear h hy hp hsz;go_enter func126,ntmps126;go_upto_region 2 with(go_at_call 128;refine HN.o.mono ?_;rintro r w1 ⟨rfl,o,c',hM⟩;have M1:=qD hM;clear hM);go_upto_region 3 with(go_at_call 171;refine Mem.qB (HP.o _) M1.o fun w2 M2=>?_);have c1:w2.cell? ⟨gw,1,none⟩=some (.bool false):=M2.o.cell (i:=0) (k:=1) rfl rfl;have z1:=ax (M2.o.row (i:=0) rfl) 1;have gl0:=ab (M2.o.row (i:=0) rfl);have M3:Hid (Mem w0 (fun _=>False) (Ea gw gl o c' (.slice (some ⟨gl,0,none⟩) 2 C) [x,y] L) (w2.setCell ⟨gw,1,none⟩ (.bool false))):=M2.o.bO (i:=0) (k:=1) (v:= .bool false) rfl rfl;clear M1 HN HP;go_wp2_with (go_at_call 65;refine(HF.o _).mono ?_;rintro r w3 ⟨rfl,hw⟩;subst hw);go_ret;exact⟨rfl,o,c',M3.o⟩
end
end
def dH(s:aF)(p:bM)(gc g:Nat):List (Nat×aj):=[(gc,.row (uE g))]++aG s p g
def Eb(k n:ae):cU:=⟨k,i0,n,eO,eO,bc,i0,0,[]⟩
noncomputable def lH:Nat->aF->aF
 |0,s=>s
 |k+1,s=>(fk (lH k s)).2
theorem aS.lH{s:aF}{p:bM}(h:aS s p):∀k,aS (lH k s) p
 |0=>h
 |k+1=>(aS.lH h k).tick
theorem aR.lH{s:aF}(h:aR s):∀k,aR (lH k s)
 |0=>h
 |k+1=>(aR.lH h k).tick
noncomputable def nP:Nat->aF->aF
 |0,s=>s
 |k+1,s=>(jf (nP k s) 0).2
theorem aS.nP{s:aF}{p:bM}(h:aS s p):∀k,aS (nP k s) p
 |0=>h
 |k+1=>(aS.nP h k).del 0
theorem aR.nP{s:aF}(h:aR s):∀k,aR (nP k s)
 |0=>h
 |k+1=>(aR.nP h k).del 0
def b2:ByteArray:=⟨#[50]⟩
def X9:ByteArray:=⟨#[111,107]⟩
theorem tH(gw gl o c gc g:Nat)(v:Value)(xs:List ByteArray)(s:aF)(p:bM):Ea gw gl o c v xs (dH s p gc g)= [(gw,.row (tG (.slice (some ⟨gl,o,none⟩) 0 c) false)),(0,.own 9 1 jB v xs),(gc,.row (uE g))]++aG s p g:=rfl
theorem RZ{w0 w:World}{gw gl o c gc g:Nat}{v:Value}{xs:List ByteArray}{s s':aF}{p:bM}(hk:aS s p)(hi:aR s)(h0: (fk s).1=0)(h1: (fk s).2=s')(h:Mem w0 (fun _=>False) (Ea gw gl o c v xs (dH s p gc g)) w):Calls prog 9 #[.pointer (some ⟨g,0,none⟩),.agg (az (Eb ⟨2,by decide⟩ i0) gO)] w fun e w'=>e= .returned (.int .i64 0)/\Mem w0 (fun _=>False) (Ea gw gl o c v xs (dH s' p gc g)) w':=by rw[tH] at h;rw[tH,<-h0,<-h1];exact Mem.jI h (fun F1 hF=>IC s p g (Eb ⟨2,by decide⟩ i0) gO F1 w hk hi rfl hF)
theorem XF{w0 w:World}{gw gl o c gc g:Nat}{v:Value}{xs:List ByteArray}{s s':aF}{p:bM}(hk:aS s p)(hi:aR s)(h0: (jf s 0).1=0)(h1: (jf s 0).2=s')(h:Mem w0 (fun _=>False) (Ea gw gl o c v xs (dH s p gc g)) w):Calls prog 9 #[.pointer (some ⟨g,0,none⟩),.agg (az (Eb ⟨3,by decide⟩ i0) gO)] w fun e w'=>e= .returned (.int .i64 0)/\Mem w0 (fun _=>False) (Ea gw gl o c v xs (dH s' p gc g)) w':=by rw[tH] at h;rw[tH,<-h0,<-h1];exact Mem.jI h (fun F1 hF=>ID s p g (Eb ⟨3,by decide⟩ i0) gO F1 w hk hi rfl hF)
theorem Ky(w0 w:World)(s:aF)(p:bM)(gc g gw gl c C:Nat)(hc:1<=c)(hk:aS s p)(hi:aR s)(ht:∀k,k<2->(fk (lH k s)).1=0)(h:Mem w0 (fun _=>False) (W1L gw gl c C rT b2 (dH s p gc g)) w):Calls prog 67 #[.pointer (some ⟨gc,0,none⟩),.pointer (some ⟨gw,0,none⟩)] w fun e w'=>e= .returned (.string X9)/\Mem w0 (fun _=>False) (dH (lH 2 s) p gc g) w':=by
 have M0:=qD h;have HN:=qD (zX gw gl c C 2 rT b2 hc (by decide) (by decide+kernel) (by decide+kernel) (by decide) h);have HK:=qD hk;have HI:=qD hi;have HT:=qD ht;have c0:w.cell? ⟨gw,0,none⟩=some (.slice (some ⟨gl,1,none⟩) 1 c):=h.cell (i:=0) (k:=0) rfl rfl;clear h hk hi ht;go_enter func67,ntmps67;go_upto_region 4 with(go_at_call 126;refine HN.o.mono ?_;rintro r w1 ⟨rfl,o,c',hM⟩;have M1:=qD hM;clear hM);clear M0 HN c0;have HD:=qD (Bw gw gl o c' _ _ M1.o);go_upto_region 6 with(go_at_call 127;refine HD.o.mono ?_;rintro r w2 ⟨rfl,hw⟩;subst hw);clear HD;go_upto_region 7 with(fail)
 go_loopw [28] (fun i28 wr=>∃k:Nat,k<=2/\i28= .int .i64 k/\Hid (Mem w0 (fun _=>False) (Ea gw gl o c' (.slice (some ⟨gl,0,none⟩) 2 C) [rT,b2] (dH (lH k s) p gc g)) wr)) (fun i28 _=>2-(intOf i28).toNat)
 case atStart=>exact⟨0,by omega,rfl,M1⟩
 case round=>
  obtain⟨k,hk2,rfl,M⟩:=hrel;clear M1;by_cases hlt:k<2
  ·have hlti: (k:Int)<2:=by omega
   have cg:wr.cell? ⟨gc,0,none⟩=some (.pointer (some ⟨g,0,none⟩)):=M.o.cell (i:=2) (k:=0) rfl rfl;have HC:Hid (Calls prog 9 #[.pointer (some ⟨g,0,none⟩),.agg (az (Eb ⟨2,by decide⟩ i0) gO)] wr fun e w'=>e= .returned (.int .i64 0)/\Mem w0 (fun _=>False) (Ea gw gl o c' (.slice (some ⟨gl,0,none⟩) 2 C) [rT,b2] (dH (lH (k+1) s) p gc g)) w'):=by have e1: (fk (lH k s)).2=lH (k+1) s:=rfl;exact RZ (HK.o.lH k) (HI.o.lH k) (HT.o k hlt) e1 M.o
   go_upto_region 9 with(first|((with_reducible show wpList _ _ _ (⟨some 34,_,_,_,_,_⟩::_) _ _);refine br _ (.agg (az (Eb ⟨2,by decide⟩ i0) gO)) wr rfl (by kernel_rfl) ?_)|(go_at_call 9;refine qHG HC.o fun w3 M3=>?_));clear M HC cg;go_wp2;go_roundw
   case rel=>exact⟨k+1,by omega,by go_num,M3⟩
   case measure=>simp[intOf];omega
  ·have hkn:k=2:=by omega
   subst hkn;go_wp2;go_ret;exact⟨rfl,M.o.au.au⟩
theorem Kz(w0 w:World)(s:aF)(p:bM)(gc g gw gl o c N:Nat)(v:Value)(hN:s.a.length=N)(hN2:N<100)(hdg:Lib.decDigits N= [50,48])(hk:aS s p)(hi:aR s)(ht:∀k,k<N->(jf (nP k s) 0).1=0)(h:Mem w0 (fun _=>False) (Ea gw gl o c v [o5] (dH s p gc g)) w):Calls prog 72 #[.pointer (some ⟨gc,0,none⟩),.pointer (some ⟨gw,0,none⟩)] w fun e w'=>e= .returned (.string ⟨#[111,107,32,50,48]⟩)/\Mem w0 (fun _=>False) (dH (nP N s) p gc g) w':=by
 have M0:=qD h;have HK:=qD hk;have HI:=qD hi;have HT:=qD ht;have HD:=qD (Bw gw gl o c _ _ h);have cg:w.cell? ⟨gc,0,none⟩=some (.pointer (some ⟨g,0,none⟩)):=h.cell (i:=2) (k:=0) rfl rfl;have HL:Hid (Calls prog 14 #[.pointer (some ⟨g,0,none⟩)] w fun e w'=>e= .returned (.int .i64 N)/\w'=w):=by rw[tH] at h;obtain⟨F',hF⟩:=Mem.tail h;rw[<-hN];exact Iv s p g F' w hF
 have HIT:Hid (∀w,Calls prog 62 #[.int .i64 N] w fun e w'=>e= .returned (.string ⟨#[50,48]⟩)/\w'=w):=fun w=>by have:=Tryz.strconv_Itoa_small N hN2 w;rw[hdg] at this;exact this
 clear h hk hi ht hN hdg;go_enter func72,ntmps72;go_upto_region 5 with(first|(go_at_call 127;refine HD.o.mono ?_;rintro r w2 ⟨rfl,hw⟩;subst hw)|(go_at_call 14;refine HL.o.mono ?_;rintro r w2 ⟨rfl,hw⟩;subst hw));clear HD HL cg
 go_loopw [5,6,16] (fun x5 x6 i wr=>∃k:Nat,k<=N/\x5= .int .i64 k/\x6= .int .i64 0/\i= .int .i64 k/\Hid (Mem w0 (fun _=>False) (Ea gw gl o c v [o5] (dH (nP k s) p gc g)) wr)) (fun _ _ i _=>N-(intOf i).toNat)
 case atStart=>exact⟨0,by omega,rfl,rfl,rfl,M0⟩
 case round=>
  obtain⟨k,hk2,rfl,rfl,rfl,M⟩:=hrel;clear M0;by_cases hlt:k<N
  ·have hlti: (k:Int)<N:=by omega
   have cg:wr.cell? ⟨gc,0,none⟩=some (.pointer (some ⟨g,0,none⟩)):=M.o.cell (i:=2) (k:=0) rfl rfl;have HC:Hid (Calls prog 9 #[.pointer (some ⟨g,0,none⟩),.agg (az (Eb ⟨3,by decide⟩ i0) gO)] wr fun e w'=>e= .returned (.int .i64 0)/\Mem w0 (fun _=>False) (Ea gw gl o c v [o5] (dH (nP (k+1) s) p gc g)) w'):=by have e1: (jf (nP k s) 0).2=nP (k+1) s:=rfl;exact XF (HK.o.nP k) (HI.o.nP k) (HT.o k hlt) e1 M.o
   go_wp2_with (first|((with_reducible show wpList _ _ _ (⟨some 23,_,_,_,_,_⟩::_) _ _);refine br _ (.agg (az (Eb ⟨3,by decide⟩ i0) gO)) wr rfl (by kernel_rfl) ?_)|(go_at_call 9;refine qHG HC.o fun w3 M3=>?_));clear M HC cg;go_roundw
   case rel=>exact⟨k+1,by omega,by go_num,rfl,by go_num,M3⟩
   case measure=>simp[intOf];omega
  ·have hkn:k=N:=by omega
   subst hkn;have hlt2:¬(k:Int)<k:=by omega
   go_wp2_with (go_at_call 62;refine(HIT.o _).mono ?_;rintro r w2 ⟨rfl,hw⟩;subst hw);go_ret;exact⟨rfl,M.o.au.au⟩
@[go_sem] theorem aff (b:Bool) (e:bR) (v:Value): (dF b e v).size=7:=rfl
@[go_sem] theorem ad9 (b:Bool) (e:bR) (v:Value): (dF b e v).extract 1 6=aB e:=by simp[dF,aB]
@[go_sem] theorem Ya (b:Bool) (e:bR) (a:Option Addr) (n c:Nat):bK (dF b e (.slice a n c))=true:=by simp[bK,dF,Value.oneCell']
def uu:ByteArray:=⟨#[108,111,115,116]⟩
def KC:ByteArray:=⟨#[121,101,115]⟩
def b3:ByteArray:=⟨#[51]⟩
theorem IH{w0 w:World}{F0:Nat->Prop}{A:List (Nat×aj)}{s:aF}{p:bM}{g j b:Nat}{x:ak}(h:Mem w0 F0 (A++aG s p g) w)(hx:s.n[j]? =some x)(hb:p.ns[j]? =some b):∃F1,(aO x).rep b F1 w:=h.rep (nN hx hb)
theorem KD(w0 w:World)(A:List (Nat×aj))(s:aF)(p:bM)(gc g j:Nat)(x:ak)(hx:s.n[j]? =some x)(hi:cw x)(hv:x.f.2.1=false)(hk:aS s p)(h:Mem w0 (fun _=>False) (A++dH s p gc g) w):Calls prog 77 #[.pointer (some ⟨gc,0,none⟩),.int .i64 (j:Int)] w fun e w'=>e= .returned (.string uu)/\Mem w0 (fun _=>False) (A++dH s p gc g) w':=by
 have M0:=qD h;have hjk:j<p.k:=by rw[<-hk.n];exact(gS.1 hx).1
 obtain⟨b,hb⟩:∃b,p.ns[j]? =some b:=⟨_,gE (by rw[hk.ns];exact hjk)⟩;have h2:Mem w0 (fun _=>False) ((A++ [(gc,.row (uE g))])++aG s p g) w:=by rw[List.append_assoc];exact h
 have cg:w.cell? ⟨gc,0,none⟩=some (.pointer (some ⟨g,0,none⟩)):=h2.cell (i:=A.length) (by rw[List.append_assoc,List.getElem?_append_right (nL _),Nat.sub_self];rfl) (k:=0) (cs:=uE g) rfl;have HN:Hid (Calls prog 10 #[.pointer (some ⟨g,0,none⟩),.int .i64 (j:Int)] w fun e w'=>e= .returned (.pointer (some ⟨b,0,none⟩))/\w'=w):=by obtain⟨F',hF⟩:=Mem.tail h2;exact rO s p g j b F' w hk hb hF
 have HR:Hid (Calls prog 11 #[.pointer (some ⟨b,0,none⟩)] w fun r w'=>∃a n c,r= .returned (.agg (dF false x.f.2.2 (.slice a n c)))/\Below w.heap.size w w'):=by obtain⟨F1,h1⟩:=IH h2 hx hb;refine(qz x b F1 w hi h1).mono ?_;rintro r w' ⟨v,rfl,ho,hb⟩;obtain⟨a,c,rfl⟩:=ho.len;rw[hv];exact⟨a,_,c,rfl,hb⟩
 have hrz:=pL;clear h h2 hx hi hv hk hb;go_enter func77,ntmps77;go_upto_region 2 with(first|(go_at_call 10;refine HN.o.mono ?_;rintro r w2 ⟨rfl,hw⟩;subst hw)|(go_at_call 11;refine HR.o.mono ?_;rintro r w2 ⟨va,vn,vc,rfl,hb⟩;have M1:=qD (M0.o.below hb);clear hb));have M2:Hid (Mem w0 (fun _=>False) ([(w2.heap.size,.row (dF false x.f.2.2 (.slice va vn vc)))]++(A++dH s p gc g)) ((w2.alloc (.cells (dF false bc (.slice none 0 0)) 45)).setCells w2.heap.size 0 (dF false x.f.2.2 (.slice va vn vc)).toList)):=(M1.o.alloc (cs:=dF false bc (.slice none 0 0)) (t:=45)).bC (i:=0) (cs':=dF false x.f.2.2 (.slice va vn vc)) rfl (by simp[aff]);generalize ((w2.alloc (.cells (dF false bc (.slice none 0 0)) 45)).setCells w2.heap.size 0 (dF false x.f.2.2 (.slice va vn vc)).toList)=w3 at*;generalize w2.heap.size=gr at*;have c0:w3.cell? ⟨gr,0,none⟩=some (.bool false):=M2.o.cell (i:=0) (k:=0) rfl rfl;clear M1;go_wp2;go_ret;exact⟨rfl,M2.o.au⟩
theorem ON{w0 w:World}{L:List (Nat×aj)}(gw gl c C n:Nat)(x y:ByteArray)(hc:1<=c)(hn:n<100)(hy:y=⟨(Lib.decDigits n).toArray⟩)(hp:Lib.parseIntB 64 y.data.toList= .ok (n:Int))(hsz:y.size<=1000)(h:Mem w0 (fun _=>False) (W1L gw gl c C x y L) w):Calls prog 69 #[.pointer (some ⟨gw,0,none⟩)] w fun e w'=>e= .returned (.int .i64 (n:Int))/\∃o c',Mem w0 (fun _=>False) (Ea gw gl o c' (.slice (some ⟨gl,0,none⟩) 2 C) [x,y] L) w':=by have HN:=qD (zX gw gl c C n x y hc hn hy hp hsz h);clear h hy hp hsz;go_enter func69,ntmps69;go_wp2_with (go_at_call 126;refine HN.o.mono ?_;rintro r w1 ⟨rfl,o,c',hM⟩;have M1:=qD hM;clear hM);go_ret;exact⟨rfl,o,c',M1.o⟩
theorem XG(w0 w:World)(s:aF)(p:bM)(gc g gw gl c C:Nat)(hc:1<=c)(x:ak)(hx:s.n[3]? =some x)(hi:cw x)(hv:x.f.2.1=false)(hk:aS s p)(h:Mem w0 (fun _=>False) (W1L gw gl c C o7 b3 (dH s p gc g)) w):Calls prog 76 #[.pointer (some ⟨gc,0,none⟩),.pointer (some ⟨gw,0,none⟩),.func (.func 77) #[.pointer (some ⟨gc,0,none⟩)] #[]] w fun e w'=>e= .returned (.string uu)/\Mem w0 (fun _=>False) (dH s p gc g) w':=by
 have M0:=qD h;have HN:=qD (ON gw gl c C 3 o7 b3 hc (by decide) (by decide+kernel) (by decide+kernel) (by decide) h);have hjk:3<p.k:=by rw[<-hk.n];exact(gS.1 hx).1
 obtain⟨b,hb⟩:∃b,p.ns[3]? =some b:=⟨_,gE (by rw[hk.ns];exact hjk)⟩;have HB:=qD hb;have HK:=qD hk;have HX:=qD hx;have HI:=qD hi;have HV:=qD hv;clear h hx hi hv hk hb;go_enter func76,ntmps76;go_upto_region 2 with(go_at_call 69;refine HN.o.mono ?_;rintro r w1 ⟨rfl,o,c',hM⟩;have M1:=qD hM;clear hM);clear M0 HN;have HD:=qD (Bw gw gl o c' _ _ M1.o);have cg:w1.cell? ⟨gc,0,none⟩=some (.pointer (some ⟨g,0,none⟩)):=M1.o.cell (i:=2) (k:=0) rfl rfl;have HND:Hid (Calls prog 10 #[.pointer (some ⟨g,0,none⟩),.int .i64 3] w1 fun e w'=>e= .returned (.pointer (some ⟨b,0,none⟩))/\w'=w1):=by have h2:=M1.o;rw[tH] at h2;obtain⟨F',hF⟩:=Mem.tail h2;exact rO s p g 3 b F' w1 HK.o HB.o hF
 have HW:Hid (Calls prog 77 #[.pointer (some ⟨gc,0,none⟩),.int .i64 3] w1 fun e w'=>e= .returned (.string uu)/\Mem w0 (fun _=>False) ([(gw,.row (tG (.slice (some ⟨gl,o,none⟩) 0 c') false)),(0,.own 9 1 jB (.slice (some ⟨gl,0,none⟩) 2 C) [o7,b3])]++dH s p gc g) w'):=KD w0 w1 _ s p gc g 3 x HX.o HI.o HV.o HK.o M1.o;clear M1;go_wp2_with (first|(go_at_call 127;refine HD.o.mono ?_;rintro r w2 ⟨rfl,hw⟩;subst hw)|(go_at_call 10;refine HND.o.mono ?_;rintro r w2 ⟨rfl,hw⟩;subst hw)|(go_at_call 77;refine qHG HW.o fun w2 M2=>?_));go_ret;exact⟨rfl,M2.o.au.au⟩
def OO(s:aF)(k:Nat):Prop:=s.on[k]? =some true/\∃x,s.n[k]? =some x/\cw x/\(x.f.2.1=true->mj x.f.2.2 (uB s.w k)=true)
theorem OP(w0 w:World)(s:aF)(p:bM)(gc g:Nat)(hk:aS s p)(hs:∀k:Nat,k<5->OO s k)(h:Mem w0 (fun _=>False) (dH s p gc g) w):Calls prog 64 #[.pointer (some ⟨gc,0,none⟩)] w fun e w'=>e= .returned (.string KC)/\Mem w0 (fun _=>False) (dH s p gc g) w':=by
 have M0:=qD h;have HK:=qD hk;have HS:=qD hs;have c1:w.cell? ⟨gc,1,none⟩=some (.int .i64 5):=h.cell (i:=0) (k:=1) rfl rfl;clear h hk hs;go_enter func64,ntmps64;go_upto_region 2 with(fail);clear c1
 go_loopw [11] (fun i wr=>∃k:Nat,k<=5/\i= .int .i64 k/\Hid (Mem w0 (fun _=>False) (dH s p gc g) wr)) (fun i _=>5-(intOf i).toNat)
 case atStart=>exact⟨0,by omega,rfl,M0⟩
 case round=>
  obtain⟨k,hk2,rfl,M⟩:=hrel;clear M0;by_cases hlt:k<5
  ·have hlti: (k:Int)<5:=by omega
   obtain⟨ho,x,hx,hi,hv⟩:=HS.o k hlt;have hjk:k<p.k:=by rw[<-HK.o.n];exact(gS.1 hx).1
   obtain⟨b,hb⟩:∃b,p.ns[k]? =some b:=⟨_,gE (by rw[HK.o.ns];exact hjk)⟩;have h2:Mem w0 (fun _=>False) ([(gc,.row (uE g))]++aG s p g) wr:=M.o;have cg:wr.cell? ⟨gc,0,none⟩=some (.pointer (some ⟨g,0,none⟩)):=h2.cell (i:=0) rfl (k:=0) (cs:=uE g) rfl;have HP:Hid (Calls prog 123 #[.pointer (some ⟨g,0,none⟩),.int .i64 (k:Int)] wr fun e w'=>e= .returned (.tuple #[.agg (bg (uB s.w k)),.bool (ia s.w k)])/\Below wr.heap.size wr w'):=by obtain⟨F',hF⟩:=Mem.tail h2;exact Kb s p g k F' wr hF
   have HN:Hid (∀(A:List (Nat×aj)) w',Mem w0 (fun _=>False) (A++dH s p gc g) w'->Calls prog 10 #[.pointer (some ⟨g,0,none⟩),.int .i64 (k:Int)] w' fun e w2=>e= .returned (.pointer (some ⟨b,0,none⟩))/\w2=w'):=fun A w' h'=>by
    have h3:Mem w0 (fun _=>False) ((A++ [(gc,.row (uE g))])++aG s p g) w':=by rw[List.append_assoc];exact h'
    obtain⟨F',hF⟩:=Mem.tail h3;exact rO s p g k b F' w' HK.o hb hF
   have HO:Hid (∀(A:List (Nat×aj)) w',Mem w0 (fun _=>False) (A++dH s p gc g) w'->Calls prog 124 #[.pointer (some ⟨g,0,none⟩),.int .i64 (k:Int)] w' fun e w2=>e= .returned (.bool true)/\w2=w'):=fun A w' h'=>by
    have h3:Mem w0 (fun _=>False) ((A++ [(gc,.row (uE g))])++aG s p g) w':=by rw[List.append_assoc];exact h'
    obtain⟨F',hF⟩:=Mem.tail h3;exact Xs s p g k true F' w' HK.o ho hF
   have HR:Hid (∀(A:List (Nat×aj)) w',Mem w0 (fun _=>False) (A++dH s p gc g) w'->Calls prog 11 #[.pointer (some ⟨b,0,none⟩)] w' fun r w2=>∃a n c,r= .returned (.agg (dF x.f.2.1 x.f.2.2 (.slice a n c)))/\Below w'.heap.size w' w2):=fun A w' h'=>by
    have h3:Mem w0 (fun _=>False) ((A++ [(gc,.row (uE g))])++aG s p g) w':=by rw[List.append_assoc];exact h'
    obtain⟨F1,h1⟩:=IH h3 hx hb;refine(qz x b F1 w' hi h1).mono ?_;rintro r w' ⟨v,rfl,ho,hb⟩;obtain⟨a,c,rfl⟩:=ho.len;exact⟨a,_,c,rfl,hb⟩
   have HIN:Hid (x.f.2.1=true->∀w,Calls prog 114 #[.agg (aB x.f.2.2),.agg (bg (uB s.w k))] w fun r w'=>r= .returned (.bool true)/\Below w.heap.size w w'):=fun hh w=>by have:=wT x.f.2.2 (uB s.w k) w;rw[hv hh] at this;exact this
   generalize x.f.2.1=vb at HR HIN;generalize x.f.2.2=e at HR HIN;generalize uB s.w (k:Int)=pt at HP HIN;generalize ia s.w (k:Int)=hb' at HP;clear ho hx hi hv h2 hb hjk;go_upto_region 5 with(first|(go_at_call 123;refine Mem.qB HP.o M.o fun w2 M1=>?_)|fail);have M2:Hid (Mem w0 (fun _=>False) ([(w2.heap.size,.row (bg pt))]++dH s p gc g) ((w2.alloc (.cells (bg eO) 33)).setCells w2.heap.size 0 (bg pt).toList)):=(M1.o.alloc (cs:=bg eO) (t:=33)).bC (i:=0) (cs':=bg pt) rfl (by simp[bg]);have HPZ:#[.int .i64 0,.int .i64 0]=bg eO:=rfl;rw[HPZ];clear HPZ;generalize ((w2.alloc (.cells (bg eO) 33)).setCells w2.heap.size 0 (bg pt).toList)=w3 at*;generalize w2.heap.size=gp at*;have cg3:w3.cell? ⟨gc,0,none⟩=some (.pointer (some ⟨g,0,none⟩)):=M2.o.cell (i:=1) (k:=0) rfl rfl;have HN3:=qD (HN.o _ _ M2.o);clear M M1 HN cg HP;have hrz:=pL;go_upto_region 6 with(first|(go_at_call 10;refine HN3.o.mono ?_;rintro r w4 ⟨rfl,hw⟩;subst hw)|(go_at_call 11;refine(HR.o _ _ M2.o).mono ?_;rintro r w4 ⟨va,vn,vc,rfl,hb⟩;have M3:=qD (M2.o.below hb);clear hb));have M4:Hid (Mem w0 (fun _=>False) ([(w4.heap.size,.row (dF vb e (.slice va vn vc))),(gp,.row (bg pt))]++dH s p gc g) ((w4.alloc (.cells (dF false bc (.slice none 0 0)) 45)).setCells w4.heap.size 0 (dF vb e (.slice va vn vc)).toList)):=(M3.o.alloc (cs:=dF false bc (.slice none 0 0)) (t:=45)).bC (i:=0) (cs':=dF vb e (.slice va vn vc)) rfl (by simp[aff]);generalize ((w4.alloc (.cells (dF false bc (.slice none 0 0)) 45)).setCells w4.heap.size 0 (dF vb e (.slice va vn vc)).toList)=w5 at*;generalize w4.heap.size=gr at*;clear M2 M3 HN3 cg3 HR;have cg5:w5.cell? ⟨gc,0,none⟩=some (.pointer (some ⟨g,0,none⟩)):=M4.o.cell (i:=2) (k:=0) rfl rfl;have HO5:=qD (HO.o [_,_] _ M4.o);have c50:w5.cell? ⟨gr,0,none⟩=some (.bool vb):=M4.o.cell (i:=0) (k:=0) rfl rfl;have b5:=M4.o.row (i:=0) rfl;have b6:=M4.o.row (i:=1) rfl;clear HO;cases vb with
   |false=>
    go_wp2_with (go_at_call 124;refine HO5.o.mono ?_;rintro r w6 ⟨rfl,hw⟩;subst hw);go_roundw
    case rel=>exact⟨k+1,by omega,by go_num,M4.o.au.au⟩
    case measure=>simp[intOf];omega
   |true=>
    have HI:=qD (HIN.o rfl);clear HIN;go_wp2_with (first|(go_at_call 124;refine HO5.o.mono ?_;rintro r w6 ⟨rfl,hw⟩;subst hw)|(go_at_call 114;refine Mem.qB (HI.o _) M4.o fun w7 M7=>?_));go_roundw
    case rel=>exact⟨k+1,by omega,by go_num,M7.o.au.au⟩
    case measure=>simp[intOf];omega
  ·have hkn:k=5:=by omega
   subst hkn;go_wp2;go_ret;exact⟨rfl,M.o⟩
theorem OQ{w0 w:World}{s:aF}{p:bM}{gc g:Nat}(hk:aS s p)(hs:∀k:Nat,k<5->OO s k)(h:Mem w0 (fun _=>False) (dH s p gc g) w):Calls prog 35 #[.pointer (some ⟨gc,0,none⟩),.string OK] w fun e w'=>e= .returned (.tuple #[.string KC,.bool true])/\Mem w0 (fun _=>False) (dH s p gc g) w':=by have HC:=qD (OP w0 w s p gc g hk hs h);clear h hs hk;unfold OK;go_enter func35,ntmps35;go_wp2_with (go_at_call 64;refine qHG HC.o fun w2 M1=>?_);go_ret2;exact⟨rfl,M1.o⟩
theorem OR(w0:World)(s:aF)(p:bM)(gc g:Nat)(hk:aS s p)(hi:aR s)(ht:∀k,k<2->(fk (lH k s)).1=0):IG w0 (dH s p gc g) (dH (lH 2 s) p gc g) gc rT [b2] X9:=by intro w gw gl o c C ho hc h;have ho1:=ho (by simp);subst ho1;have hc1:1<=c:=hc;have HC:=qD (Ky w0 w s p gc g gw gl c C hc1 hk hi ht h);clear h hk hi ht hc ho hc1;unfold rT;go_enter func36,ntmps36;go_wp2_with (go_at_call 67;refine qHG HC.o fun w2 M1=>?_);go_ret;exact⟨rfl,M1.o⟩
theorem KE(w0:World)(s:aF)(p:bM)(gc g N:Nat)(hN:s.a.length=N)(hN2:N<100)(hdg:Lib.decDigits N= [50,48])(hk:aS s p)(hi:aR s)(ht:∀k,k<N->(jf (nP k s) 0).1=0):IG w0 (dH s p gc g) (dH (nP N s) p gc g) gc o5 [] ⟨#[111,107,32,50,48]⟩:=by intro w gw gl o c C ho hc h;have HC:=qD (Kz w0 w s p gc g gw gl o c N _ hN hN2 hdg hk hi ht h);clear h hk hi ht hc ho hN hN2 hdg;unfold o5;go_enter func36,ntmps36;go_wp2_with (go_at_call 72;refine qHG HC.o fun w2 M1=>?_);go_ret;exact⟨rfl,M1.o⟩
theorem KF(w0:World)(s:aF)(p:bM)(gc g:Nat)(x:ak)(hx:s.n[3]? =some x)(hi:cw x)(hv:x.f.2.1=false)(hk:aS s p):IG w0 (dH s p gc g) (dH s p gc g) gc o7 [b3] uu:=by intro w gw gl o c C ho hc h;have ho1:=ho (by simp);subst ho1;have hc1:1<=c:=hc;have HC:=qD (XG w0 w s p gc g gw gl c C hc1 x hx hi hv hk h);clear h hk hi hv hc ho hc1 hx;unfold o7;go_enter func36,ntmps36;go_wp2_with (go_at_call 76;refine qHG HC.o fun w2 M1=>?_);go_ret;exact⟨rfl,M1.o⟩
theorem OS(w0 w:World)(L L':List (Nat×aj))(gc:Nat)(x r:ByteArray)(m:Int)(hm:w0.cell? ⟨0,0,none⟩=some (.int .i64 m))(hs:x.size<=2500)(hcount:Lib.countB x XE=0)(hne:x≠ByteArray.empty)
  (hask:∀w,Mem w0 (fun _=>False) L w->Calls prog 35 #[.pointer (some ⟨gc,0,none⟩),.string x] w fun e w'=>e= .returned (.tuple #[.string r,.bool true])/\Mem w0 (fun _=>False) L' w') (h:Mem w0 (fun _=>False) L w):Calls prog 18 #[.pointer (some ⟨gc,0,none⟩),.string x] w fun e w'=>e= .returned (.string r)/\Mem w0 (fun _=>False) L' w':=by
 have M0:=qD h;have HS:Hid (Calls prog 34 #[.string x,.string XE] w fun e w'=>e= .returned (.slice (some ⟨w.heap.size,0,none⟩) 1 1)/\w'=w.alloc (.cells (jB x) 9)):=by have:=Tryz.strings_Split x XE m w (by omega) (by rw[World.cell?_of_block (w:=w0) (h.mh.dK 0 (World.block_lt_of_cell? _ _ hm) (fun h=>h))];exact hm) (by decide);rw[hcount,Lib.splitB_zero] at this;exact this
 have HA:=qD hask;have hs2:¬(2500:Int)<x.size:=by omega
 have hye:x.toList.isEmpty=false:=by rw[<-decide_eq_emptyBytes];simp[hne]
 clear h hask hs hcount hm hne;go_enter func18,ntmps18;go_upto_region 6 with(fail);go_upto_region 7 with(go_at_call 34;refine HS.o.mono ?_;rintro r w1 ⟨rfl,rfl⟩;have M1:=qD (M0.o.alloc (cs:=jB x) (t:=9)));generalize w.heap.size=gs at M1 ⊢;generalize (w.alloc (.cells (jB x) 9))=w1 at*;clear M0 HS;have c0:w1.cell? ⟨gs,0,none⟩=some (.string x):=M1.o.cell (i:=0) (k:=0) rfl rfl;have MA:Hid (Mem w0 (fun _=>False) ([(0,.own 9 1 jB (.slice none 0 0) []),(gs,.row (jB x))]++L) w1):=Mem.nil M1.o;have MB:=qD (MA.o.below ((bZ _ w1).alloc (nL _) (.cells (jB x) 9)));have EB:Hid ((w1.alloc (.cells (jB x) 9)).aI w1.heap.size=some (jB x)):=by show _=_;simp[af,aq]
 go_loopw [5,19] (fun x5 i wr=>(i= .int .i64 0/\x5= .slice none 0 0/\wr=w1)∨(i= .int .i64 1/\∃gl c,1<=c/\x5= .slice (some ⟨gl,0,none⟩) 1 c/\wr.cell? ⟨gl,0,none⟩=some (.string x)/\Hid (Mem w0 (fun _=>False) L wr))) (fun _ i _=>1-(intOf i).toNat)
 case atStart=>exact Or.inl ⟨rfl,rfl,rfl⟩
 case round=>
  rcases hrel with⟨rfl,rfl,rfl⟩|⟨rfl,gl,c,hc,rfl,cx,M⟩
  ·go_upto_region 11 with(first|(refine dN rfl _ 87 9 rfl uV IF rfl (by decide) (by decide) _ rfl (jB x) rfl rfl ?_)|(at_builtin;refine fq rfl _ _ 87 9 rfl uV IF rfl (by decide) (j:=0) 0 rfl rfl MB.o rfl wr.heap.size 1 rfl x EB.o iI D9 (by decide) (by decide) ?_;intro a4 c4 w4 M4 l4;have M5:Hid (Mem w0 (fun _=>False) ([(0,.own 9 1 jB (.slice a4 1 c4) [x]),(gs,.row (jB x))]++L) w4):=M4;clear M4 l4 MB));obtain⟨gl,cp,cur,hv2,_,_,h4,_⟩:=(M5.o.own (i:=0) rfl).at_ (by simp);cases hv2;have hc4:1<=c4:=h4;have cx:w4.cell? ⟨gl,0,none⟩=some (.string x):=xy M5.o (i:=0) rfl iI (x:=x) rfl;clear c0;go_wp2;go_roundw
   case rel=>exact Or.inr ⟨rfl,gl,c4,hc4,rfl,cx,M5.o.au.au⟩
   case measure=>simp[intOf]
  ·go_upto_region 15 with(go_at_call 35;refine qHG (HA.o _ M.o) fun w2 M2=>?_);clear M cx;go_wp2;go_ret;exact⟨rfl,M2.o⟩
end Go.Proofs.Yq
namespace Go.Proofs.Yq
open RowKit Ev
open Tryz
noncomputable def F32:=Mw.F 4 32 [] [.st [.i,.i,.i,.i,.i,.i,.i,.i,.i,.i,.i]]
theorem aea:aZ prog 32 _ _ F32:=Mw.k
def iN(n:Nat)(h:n<2^62):ae:=⟨n,by constructor <;> omega⟩
def dv:cT:=(iN 5 (by decide),iN 4 (by decide),iN 10 (by decide),iN 2 (by decide),iN 1 (by decide),iN 10 (by decide),iN 50 (by decide),iN 200 (by decide),iN 5 (by decide),iN 6 (by decide),iN 1000000000000 (by decide),())
theorem XH:F32 ()=(dv,()):=by kernel_rfl
theorem OT(w:World):Calls prog 32 #[] w fun e w'=>e= .returned (.agg (bd dv))/\Below w.heap.size w w':=by have key:=aea.2 () id w;rw[XH] at key;generalize dv=c at key ⊢;exact key
theorem Ec:ae3 dv=true:=by kernel_rfl
noncomputable def F7:=Mw.F 4 7 [.one .i,.one .i,.one .i,.one .i,.one .i,.one .i] [.st [.i,.i,.i,.i,.i,.i,.i,.i,.i,.i,.i]]
theorem ok7:aZ prog 7 _ _ F7:=Mw.k
end Go.Proofs.Yq
namespace Go.Proofs.Yq
open ChangeShapes WideShapes ChangeAt RowKit Ev
open Tryz
def R0:cT:=(i0,i0,i0,i0,i0,i0,i0,i0,i0,i0,i0,())
theorem Sa(w:World):Calls prog 17 #[] w fun e w'=>∃gc g p,e= .returned (.pointer (some ⟨gc,0,none⟩))/\aS (aeY dv) p/\Mem w (fun _=>False) (dH (aeY dv) p gc g) w':=by have HF:=qD (OT w);have HN:Hid (∀w,Calls prog 19 #[.agg (bd dv)] w fun e w'=>∃g p,e= .returned (.tuple #[.pointer (some ⟨g,0,none⟩),.int .i64 0])/\aS (aeY dv) p/\Mem w (fun _=>False) (aG (aeY dv) p g) w'):=fun w=>IE dv w Ec;generalize aeY dv=T at*;have H5:dv.1.val=5:=rfl;generalize dv=c1 at*;go_enter func17,ntmps17;go_upto_region 2 with(go_at_call 32;refine HF.o.mono ?_;rintro r w1 ⟨rfl,hb⟩;have M1:=qD ((Mem.none w).below hb);clear hb);have M2:Hid (Mem w (fun _=>False) [(w1.heap.size,.row (bd c1))] ((w1.alloc (.cells (bd R0) 26)).setCells w1.heap.size 0 (bd c1).toList)):=(M1.o.alloc (cs:=bd R0) (t:=26)).bC (i:=0) (cs':=bd c1) rfl (by simp[zn]);have HZ:#[.int .i64 0,.int .i64 0,.int .i64 0,.int .i64 0,.int .i64 0,.int .i64 0,.int .i64 0,.int .i64 0,.int .i64 0,.int .i64 0,.int .i64 0]=bd R0:=rfl;rw[HZ];clear HZ M1 HF;generalize (w1.alloc (.cells (bd R0) 26)).setCells w1.heap.size 0 (bd c1).toList=w2 at*;generalize w1.heap.size=gf at*;have b2:=M2.o.row (i:=0) rfl;go_upto_region 3 with(go_at_call 19;refine(HN.o _).mono ?_;rintro r w3 ⟨g,p0,rfl,hk0,hM⟩;obtain⟨p,hk,hM3⟩:=Tw (A:=[(gf,.row (bd c1))]) (Mem.perm (Mem.ur M2.o (Gk (A:=[]) hk0 hM)) (List.Perm.swap _ _ _));have HK:=qD hk;have M3:=qD hM3;clear hM hk hM3 hk0);clear b2;have c5:w3.cell? ⟨gf,0,none⟩=some (.int .i64 5):=M3.o.cell (i:=0) (k:=0) rfl (by rw[<-H5];rfl);clear M2 HN;clear H5;have M5:Hid (Mem w (fun _=>False) ([(w3.heap.size,.row (uE g))]++((gf,.row (bd c1))::aG T p g)) (w3.alloc (.cells (uE g) 85))):=M3.o.alloc (cs:=uE g) (t:=85);go_wp2;go_ret;exact⟨_,g,p,rfl,HK.o,(M5.o.perm (List.Perm.swap _ _ _)).au⟩
structure Yb (s:aF):Prop where
 inv:aR s
 aaZ:∀k,k<2->(fk (lH k s)).1=0
 len: (lH 2 s).a.length=20
 aeb:∀k,k<20->(jf (nP k (lH 2 s)) 0).1=0
 lost:∃x,(nP 20 (lH 2 s)).n[3]? =some x/\cw x/\x.f.2.1=false
 sure:∀k:Nat,k<5->OO (nP 20 (lH 2 s)) k
theorem aa0{w0 w:World}{s:aF}{p:bM}{gc g:Nat}{m:Int}(hm:w0.cell? ⟨0,0,none⟩=some (.int .i64 m))(ha:Yb s)(hk:aS s p)(h:Mem w0 (fun _=>False) (dH s p gc g) w):Calls prog 18 #[.pointer (some ⟨gc,0,none⟩),.string ⟨#[116,105,99,107,32,50]⟩] w fun e w'=>e= .returned (.string X9)/\Mem w0 (fun _=>False) (dH (lH 2 s) p gc g) w':=
 xG w0 w _ _ gc _ rT [b2] X9 m hm (by decide) (by decide+kernel) (by decide+kernel) (by decide+kernel) (by decide) (fun w=>OL gc w) (OR w0 s p gc g hk ha.inv ha.aaZ) h
theorem aa1{w0 w:World}{s:aF}{p:bM}{gc g:Nat}{m:Int}(hm:w0.cell? ⟨0,0,none⟩=some (.int .i64 m))(ha:Yb s)(hk:aS s p)(h:Mem w0 (fun _=>False) (dH (lH 2 s) p gc g) w):Calls prog 18 #[.pointer (some ⟨gc,0,none⟩),.string ⟨#[102,108,117,115,104]⟩] w fun e w'=>e= .returned (.string ⟨#[111,107,32,50,48]⟩)/\Mem w0 (fun _=>False) (dH (nP 20 (lH 2 s)) p gc g) w':=
 xG w0 w _ _ gc _ o5 [] _ m hm (by decide) (by decide+kernel) (by decide+kernel) (by decide+kernel) (by decide) (fun w=>Kw gc w) (KE w0 _ p gc g 20 ha.len (by decide) (by decide+kernel) (hk.lH 2) (ha.inv.lH 2) ha.aeb) h
theorem aa2{w0 w:World}{s:aF}{p:bM}{gc g:Nat}{m:Int}(hm:w0.cell? ⟨0,0,none⟩=some (.int .i64 m))(ha:Yb s)(hk:aS s p)(h:Mem w0 (fun _=>False) (dH (nP 20 (lH 2 s)) p gc g) w):Calls prog 18 #[.pointer (some ⟨gc,0,none⟩),.string ⟨#[119,104,101,114,101,32,51]⟩] w fun e w'=>e= .returned (.string uu)/\Mem w0 (fun _=>False) (dH (nP 20 (lH 2 s)) p gc g) w':=by obtain⟨x,hx,hi,hv⟩:=ha.lost;exact xG w0 w _ _ gc _ o7 [b3] uu m hm (by decide) (by decide+kernel) (by decide+kernel) (by decide+kernel) (by decide) (fun w=>Kx gc w) (KF w0 _ p gc g x hx hi hv ((hk.lH 2).nP 20)) h
theorem aa3{w0 w:World}{s:aF}{p:bM}{gc g:Nat}{m:Int}(hm:w0.cell? ⟨0,0,none⟩=some (.int .i64 m))(ha:Yb s)(hk:aS s p)(h:Mem w0 (fun _=>False) (dH (nP 20 (lH 2 s)) p gc g) w):Calls prog 18 #[.pointer (some ⟨gc,0,none⟩),.string ⟨#[115,117,114,101]⟩] w fun e w'=>e= .returned (.string KC)/\Mem w0 (fun _=>False) (dH (nP 20 (lH 2 s)) p gc g) w':=
 OS w0 w _ _ gc OK KC m hm (by decide) (by decide+kernel) (by decide+kernel) (fun w h=>OQ ((hk.lH 2).nP 20) ha.sure h) h
theorem OU(w:World)(m:Int)(hm:w.cell? ⟨0,0,none⟩=some (.int .i64 m))(ha:Yb (aeY dv)):Calls prog 6 #[] w fun e w'=>e= .returned (.bool true)/\Below w.heap.size w w':=by have HN:=qD (Sa w);have HA:=qD ha;have HM:=qD hm;clear ha hm;generalize aeY dv=T at*;have L1:Hid (∀(p:bM) (gc g:Nat) (w1:World),aS T p->Mem w (fun _=>False) (dH T p gc g) w1->Calls prog 18 #[.pointer (some ⟨gc,0,none⟩),.string ⟨#[116,105,99,107,32,50]⟩] w1 fun e w'=>e= .returned (.string X9)/\Mem w (fun _=>False) (dH (lH 2 T) p gc g) w'):=fun p gc g w1 hk h=>aa0 HM.o HA.o hk h;have L2:Hid (∀(p:bM) (gc g:Nat) (w1:World),aS T p->Mem w (fun _=>False) (dH (lH 2 T) p gc g) w1->Calls prog 18 #[.pointer (some ⟨gc,0,none⟩),.string ⟨#[102,108,117,115,104]⟩] w1 fun e w'=>e= .returned (.string ⟨#[111,107,32,50,48]⟩)/\Mem w (fun _=>False) (dH (nP 20 (lH 2 T)) p gc g) w'):=fun p gc g w1 hk h=>aa1 HM.o HA.o hk h;have L3:Hid (∀(p:bM) (gc g:Nat) (w1:World),aS T p->Mem w (fun _=>False) (dH (nP 20 (lH 2 T)) p gc g) w1->Calls prog 18 #[.pointer (some ⟨gc,0,none⟩),.string ⟨#[119,104,101,114,101,32,51]⟩] w1 fun e w'=>e= .returned (.string uu)/\Mem w (fun _=>False) (dH (nP 20 (lH 2 T)) p gc g) w'):=fun p gc g w1 hk h=>aa2 HM.o HA.o hk h;have L4:Hid (∀(p:bM) (gc g:Nat) (w1:World),aS T p->Mem w (fun _=>False) (dH (nP 20 (lH 2 T)) p gc g) w1->Calls prog 18 #[.pointer (some ⟨gc,0,none⟩),.string ⟨#[115,117,114,101]⟩] w1 fun e w'=>e= .returned (.string KC)/\Mem w (fun _=>False) (dH (nP 20 (lH 2 T)) p gc g) w'):=fun p gc g w1 hk h=>aa3 HM.o HA.o hk h;clear HA HM;generalize nP 20 (lH 2 T)=T2 at*;generalize lH 2 T=T1 at*;unfold X9 at L1;unfold uu at L3;unfold KC at L4;go_enter func6,ntmps6;go_upto_region 2 with(go_at_call 17;refine HN.o.mono ?_;rintro r w1 ⟨gc,g,p,rfl,hk,hM⟩;have HK:=qD hk;have M1:=qD hM;clear hM hk);have C1:=qD (L1.o p gc g _ HK.o M1.o);have C2:=qD (fun w1=>L2.o p gc g w1 HK.o);have C3:=qD (fun w1=>L3.o p gc g w1 HK.o);have C4:=qD (fun w1=>L4.o p gc g w1 HK.o);clear L1 L2 L3 L4 HN;go_wp2_with (first|(go_at_call 18;refine qHG C1.o fun w2 M2=>?_;clear M1 C1)|(go_at_call 18;refine qHG (C2.o _ M2.o) fun w3 M3=>?_;clear M2 C2)|(go_at_call 18;refine qHG (C3.o _ M3.o) fun w4 M4=>?_;clear M3 C3)|(go_at_call 18;refine qHG (C4.o _ M4.o) fun w5 M5=>?_;clear M4 C4));go_ret;exact⟨rfl,M5.o.mh.below⟩
end Go.Proofs.Yq
