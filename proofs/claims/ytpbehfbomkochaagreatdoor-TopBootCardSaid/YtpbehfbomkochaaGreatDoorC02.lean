/- A part of the proof. No condition. -/
import Derived.Test.YtpbehfbomkochaaGreatDoorProg
import Derived.ProofKit
import Derived.BigQuiet
import Derived.Outline
import Derived.Shelf.Small.Bits
import Derived.Shelf.Small.Wraps
import Derived.Shelf.LaysM
import Derived.Shelf.Bits.Mul64
import Derived.Shelf.Spec.BitsCarry
import Derived.Deep.OwnRows
import Derived.Deep.RegionHeld3
import Derived.Deep.Draws
import Derived.Laws.CopyOwn
import Derived.Deep.Cut
import Derived.Test.YtpbehfbomkochaaGreatDoorC01
set_option linter.unusedVariables false
set_option maxRecDepth 100000
set_option maxHeartbeats 4000000
set_option linter.unusedSimpArgs false
namespace Go.Proofs.Yq
open Tryz
def BB:Nat:=18446744073709551616
theorem dx:0<BB:=by decide
def lim(n i:Nat):Nat:=n/BB^i%BB
theorem cD(n i:Nat):lim n i<BB:=Nat.mod_lt _ dx
theorem uK(n i:Nat):lim n i<18446744073709551616:=cD n i
theorem aC(k:Nat):0<BB^k:=Nat.pow_pos dx
theorem mod_succ(n k:Nat):n%BB^(k+1)=n%BB^k+lim n k*BB^k:=by unfold lim;rw[Nat.pow_succ,Nat.mod_mul,nC]
theorem jr(i:Nat):lim 0 i=0:=by simp[lim]
theorem j4{n k:Nat}(h:n<BB^k){i:Nat}(hi:k<=i):lim n i=0:=by unfold lim;rw[Nat.div_eq_of_lt (nU h (Nat.pow_le_pow_right dx hi)),Nat.zero_mod]
def ku(n:Nat):Nat->Nat
 |0=>0
 |k+1=>if lim n k=0 then ku n k else k+1
theorem sF(n k:Nat):ku n k<=k:=by
 induction k with
 |zero=>simp[ku]
 |succ k ih=>unfold ku;split <;> omega
theorem eT{n:Nat}:∀k,n<BB^k->n<BB^(ku n k)
 |0,h=>h
 |k+1,h=>by
  unfold ku;split
  ·rename_i h0;refine eT k ?_;have:=mod_succ n k;rw[nM h,h0] at this;have h2:=Nat.mod_lt n (aC k);omega
  ·exact h
theorem afo(n:Nat):∀k,0<ku n k->lim n (ku n k-1)≠0
 |0,h=>by simp[ku] at h
 |k+1,h=>by
  unfold ku at h ⊢;split
  ·rename_i h0;rw[if_pos h0] at h;exact afo n k h
  ·rename_i h0;simpa using h0
theorem pA{n k:Nat}(h:lim n k≠0):BB^k<=n:=by
 rcases nO n (BB^k) with h1|h1
 ·exact absurd (j4 h1 (nL k)) h
 ·exact h1
theorem oD{n k:Nat}(h:n<BB^k)(h0:ku n k=0):n=0:=by have:=eT k h;rw[h0] at this;simpa using this
theorem yP{a b:Nat}:∀k,(∀i,i<k->lim a i=lim b i)->a%BB^k=b%BB^k
 |0,_=>by simp[Nat.mod_one]
 |k+1,h=>by rw[mod_succ,mod_succ,yP k (fun i hi=>h i (by omega)),h k (by omega)]
theorem tZ{a b:Nat}(ha:a<BB^16)(hb:b<BB^16)(h:∀i,i<16->lim a i=lim b i):a=b:=by
 have:=yP 16 h
 rwa [nM ha,nM hb] at this
def pS(a b k:Nat):Nat:=(a%BB^k+b%BB^k)/BB^k
theorem wk(a b k:Nat):pS a b k<=1:=by unfold pS;have h1:=Nat.mod_lt a (aC k);have h2:=Nat.mod_lt b (aC k);rw[<-Nat.lt_succ_iff,Nat.div_lt_iff_lt_mul (aC k)];omega
theorem Cr(a b:Nat):pS a b 0=0:=by simp[pS,Nat.mod_one]
theorem I5(a b k:Nat): (a+b)/BB^k=a/BB^k+b/BB^k+pS a b k:=by
 unfold pS;rw[Nat.add_div (aC k)];split
 ·rename_i h;congr 1;have h1:=Nat.mod_lt a (aC k);have h2:=Nat.mod_lt b (aC k);symm;rw[Nat.div_eq_iff (aC k)];omega
 ·rename_i h;have: (a%BB^k+b%BB^k)/BB^k=0:=Nat.div_eq_of_lt (by omega);rw[this]
theorem AF(a b k:Nat): (lim a k+lim b k+pS a b k)%BB=lim (a+b) k:=by unfold lim;rw[I5];simp only[Nat.add_mod,Nat.mod_mod]
theorem Cs(a b k:Nat): (lim a k+lim b k+pS a b k)/BB=pS a b (k+1):=by
 have h1:=Nat.mod_lt a (aC k);have h2:=Nat.mod_lt b (aC k);unfold pS;rw[mod_succ a,mod_succ b];have e:a%BB^k+lim a k*BB^k+(b%BB^k+lim b k*BB^k)=(a%BB^k+b%BB^k)+(lim a k+lim b k)*BB^k:=by rw[Nat.add_mul];omega
 rw[e,Nat.pow_succ,<-Nat.div_div_eq_div_mul,Nat.add_mul_div_right _ _ (aC k),Nat.add_comm (lim a k+lim b k)]
def sG(a b k:Nat):Nat:=if a%BB^k<b%BB^k then 1 else 0
theorem AG(a b k:Nat):sG a b k<=1:=by unfold sG;split <;> omega
theorem Ct(a b:Nat):sG a b 0=0:=by simp[sG,Nat.mod_one]
theorem wm(a b k:Nat):sG a b (k+1)=if lim a k<lim b k+sG a b k then 1 else 0:=by
 have h1:=Nat.mod_lt a (aC k);have h2:=Nat.mod_lt b (aC k);unfold sG;rw[mod_succ a,mod_succ b];have hp:=aC k;generalize a%BB^k=am at*;generalize b%BB^k=bm at*;by_cases h:lim a k<lim b k
 ·have: (lim a k+1)*BB^k<=lim b k*BB^k:=nR _ h;rw[Nat.add_mul,Nat.one_mul] at this;rw[if_pos (by omega),if_pos (by omega)]
 ·by_cases h':lim b k<lim a k
  ·have: (lim b k+1)*BB^k<=lim a k*BB^k:=nR _ h';rw[Nat.add_mul,Nat.one_mul] at this;rw[if_neg (by omega),if_neg (by split <;> omega)]
  ·have e:lim a k=lim b k:=by omega
   rw[e];by_cases h3:am<bm
   ·rw[if_pos (by omega),if_pos h3,if_pos (by omega)]
   ·rw[if_neg (by omega),if_neg h3,if_neg (by omega)]
theorem G5{a b:Nat}(hab:b<=a)(k:Nat): (lim a k+BB-lim b k-sG a b k)%BB=lim (a-b) k:=by
 have hs:=AF (a-b) b k;rw[Nat.sub_add_cancel hab] at hs;have hb:sG a b k=pS (a-b) b k:=by
  have h1:=Nat.mod_lt (a-b) (aC k);have h2:=Nat.mod_lt b (aC k);have h3:a%BB^k=((a-b)%BB^k+b%BB^k)%BB^k:=by rw[<-Nat.add_mod,Nat.sub_add_cancel hab]
  unfold sG pS;rw[h3];have hp:=aC k;generalize (a-b)%BB^k=am at*;generalize b%BB^k=bm at*;generalize BB^k=K at*;by_cases h:am+bm<K
  ·rw[nM h,Nat.div_eq_of_lt h,if_neg (by omega)]
  ·have e: (am+bm)%K=am+bm-K:=by rw[Nat.mod_eq_sub_mod (by omega),nM (by omega)]
   rw[e,if_pos (by omega)];symm;rw[Nat.div_eq_iff hp];omega
 rw[hb];have c:=wk (a-b) b k;have l1:=cD (a-b) k;have l2:=cD b k;have l3:=cD a k;rw[<-hs];generalize lim (a-b) k=x at*;generalize lim b k=y at*;generalize pS (a-b) b k=z at*;by_cases h:x+y+z<BB
 ·rw[nM h,show x+y+z+BB-y-z=x+BB by omega,Nat.add_mod_right,nM l1]
 ·have e: (x+y+z)%BB=x+y+z-BB:=by rw[Nat.mod_eq_sub_mod (by omega),nM (by omega)]
  rw[e,show x+y+z-BB+BB-y-z=x by omega,nM l1]
theorem yQ{a b k:Nat}(ha:a<BB^16)(hb:b<BB^16)(hk:k<16)(he:∀i,k<i->i<16->lim a i=lim b i)(h:lim a k<lim b k):a<b:=by
 have key:∀j,k<j->j<=16->a%BB^j<b%BB^j:=by
  intro j;induction j with
  |zero=>intro h;omega
  |succ j ih=>
   intro h1 h2;rw[mod_succ,mod_succ];by_cases e:j=k
   ·subst e;have h3:=Nat.mod_lt a (aC j);have: (lim a j+1)*BB^j<=lim b j*BB^j:=nR _ h;rw[Nat.add_mul,Nat.one_mul] at this;have h5:=Nat.zero_le (b%BB^j);generalize a%BB^j=am at*;generalize b%BB^j=bm at*;omega
   ·have:=ih (by omega) (by omega);rw[he j (by omega) (by omega)];omega
 have:=key 16 hk (nL _)
 rwa [nM ha,nM hb] at this
end Go.Proofs.Yq
namespace Go.Proofs.Yq
open ChangeShapes WideShapes ChangeAt RowKit
open Tryz
def Quiet(w w':World):Prop:=∃n,w'=w.drewN n
theorem Quiet.refl(w:World):Quiet w w:=⟨0,rfl⟩
theorem Quiet.more{w w':World}(h:Quiet w w')(n:Nat):Quiet w (w'.drewN n):=by obtain⟨m,rfl⟩:=h;exact⟨m+n,by rw[World.drewN_drewN]⟩
theorem Quiet.trans{a b c:World}(h:Quiet a b)(k:Quiet b c):Quiet a c:=by obtain⟨n,rfl⟩:=k;exact h.more n
theorem below_drewN{B:Nat}{a w:World}(h:Below B a w)(n:Nat):Below B a (w.drewN n):=⟨h.os,h.tape,h.output,h.size,h.block⟩
theorem Quiet.below{w w':World}(h:Quiet w w')(B:Nat):Below B w w':=by obtain⟨n,rfl⟩:=h;exact below_drewN (bZ _ _) n
def fG(w:World)(b o n:Nat):Prop:=n<BB^16/\∀i,i<16->w.cell? ⟨b,o+i,none⟩=some (.int .u64 (lim n i:Nat))
theorem fG.dK{w w':World}{b o n:Nat}(h:fG w b o n)(hc:∀i,w'.cell? ⟨b,i,none⟩=w.cell? ⟨b,i,none⟩):fG w' b o n:=⟨h.1,fun i hi=>(hc _).trans (h.2 i hi)⟩
theorem fG.drewN{w:World}{b o n:Nat}(h:fG w b o n)(k:Nat):fG (w.drewN k) b o n:=h
theorem fG.lt{w:World}{b o n:Nat}(h:fG w b o n):b<w.heap.size:=World.block_lt_of_cell? _ _ (h.2 0 (by omega))
theorem fG.below{w w':World}{b o n B:Nat}(h:fG w b o n)(hb:Below B w w')(hB:b<B):fG w' b o n:=h.dK fun i=>hb.cell (p:=⟨b,i,none⟩) hB
theorem iR{k:IntKind}{a b:Int}(h:a=b):Ending.returned (.int k a)= .returned (.int k b):=by rw[h]
theorem iB(b o n:Nat)(w:World)(h:fG w b o n):
  Calls prog 244 #[.pointer (some ⟨b,o,none⟩)] w fun e w'=>e= .returned (.int .i64 (ku n 16:Nat))/\w=w':=by
 have H:=qD h;clear h;go_enter func244,ntmps244;go_wp2
 go_loop [3] (fun i=>∃k:Nat,k<=16/\ku n k=ku n 16/\i= .int .i64 k) (fun i=>(intOf i).toNat)
 case atStart=>exact⟨16,by omega,rfl,rfl⟩
 case round=>
  obtain⟨k,hk,hp,rfl⟩:=hrel;have HP:=qD hp;clear hp;by_cases h0:0<k
  ·obtain⟨j,rfl⟩:∃j,k=j+1:=⟨k-1,by omega⟩;have hc:=H.o.2 j (by omega);by_cases hz:lim n j=0
   ·rw[hz] at hc;have HZ:=qD hz;clear hz h0;go_wp2
    go_round
    case rel=>exact⟨j,by omega,by rw[<-HP.o,ku,if_pos HZ.o],by go_num⟩
    case measure=>simp[intOf]
   ·have hz': (((lim n j:Nat):Int)==0)=false:=by simp[hz]
    have HZ:=qD hz;clear hz h0;go_wp2;go_ret;refine⟨iR ?_,rfl⟩;rw[<-HP.o,ku,if_neg HZ.o];rfl
  ·obtain rfl:k=0:=by omega
   go_wp2;go_ret;exact⟨iR (by rw[<-HP.o];rfl),rfl⟩
def pT(n m:Nat):Int:=if n<m then-1 else if m<n then 1 else 0
theorem lS(b o n b' o' n':Nat)(w:World)(h:fG w b o n)(h':fG w b' o' n'):
  Calls prog 289 #[.pointer (some ⟨b,o,none⟩),.pointer (some ⟨b',o',none⟩)] w fun e w'=>e= .returned (.int .i64 (pT n n'))/\Quiet w w':=by
 have H:=qD h;have H':=qD h';clear h h';go_enter func289,ntmps289;go_wp2
 go_loopw [5] (fun i wr=>∃k:Nat,k<=16/\(∀j,k<=j->j<16->lim n j=lim n' j)/\i= .int .i64 ((k:Int)-1)/\∃m,wr=w.drewN m) (fun i _=>(intOf i+1).toNat)
 case atStart=>exact⟨16,by omega,by omega,by rfl,0,rfl⟩
 case round=>
  obtain⟨k,hk,hp,rfl,m,rfl⟩:=hrel;have HP:=qD hp;clear hp;by_cases h0:0<k
  ·obtain⟨j,rfl⟩:∃j,k=j+1:=⟨k-1,by omega⟩;have hc:=H.o.2 j (by omega);have hc':=H'.o.2 j (by omega);rw[show(((j+1:Nat):Int)-1)=(j:Int) by omega];have i1: (0:Int)<=(j:Int):=by omega
   have i2: (j:Int)<16:=by omega
   clear h0;obtain⟨x,hx⟩:∃x,lim n j=x:=⟨_,rfl⟩;obtain⟨y,hy⟩:∃y,lim n' j=y:=⟨_,rfl⟩;rw[hx] at hc;rw[hy] at hc';have HX:=qD hx;have HY:=qD hy;clear hx hy;rcases Nat.lt_trichotomy x y with hlt|rfl|hlt
   ·go_wp2
    go_quiet (fail)
    go_wp2;go_ret;refine⟨iR ?_,by repeat (first|exact Quiet.refl _|refine Quiet.more ?_ _)⟩;have:=yQ H.o.1 H'.o.1 (k:=j) (by omega) (fun i h1 h2=>HP.o i h1 h2) (by rw[HX.o,HY.o];exact hlt);rw[pT,if_pos this]
   ·have hxx:decide (x<x)=false:=by simp
    go_wp2
    go_quiet (fail)
    go_wp2
    go_quiet (fail)
    go_wp2;go_roundw
    case rel=>
     refine⟨j,by omega,fun i h1 h2=>?_,by go_num,⟨_,rfl⟩⟩;rcases Nat.eq_or_lt_of_le h1 with rfl|h3
     ·rw[HX.o,HY.o]
     ·exact HP.o i h3 h2
    case measure=>simp[intOf]
   ·have hxx:decide (x<y)=false:=by simp;omega
    go_wp2
    go_quiet (fail)
    go_wp2
    go_quiet (fail)
    go_wp2;go_ret;refine⟨iR ?_,by repeat (first|exact Quiet.refl _|refine Quiet.more ?_ _)⟩;have:=yQ H'.o.1 H.o.1 (k:=j) (by omega) (fun i h1 h2=>(HP.o i h1 h2).symm) (by rw[HX.o,HY.o];exact hlt);rw[pT,if_neg (by omega),if_pos this]
  ·obtain rfl:k=0:=by omega
   go_wp2;go_ret;refine⟨iR ?_,by repeat (first|exact Quiet.refl _|refine Quiet.more ?_ _)⟩;have:=tZ H.o.1 H'.o.1 (fun i hi=>HP.o i (by omega) hi);rw[this];simp[pT]
end Go.Proofs.Yq
namespace Go.Proofs
open Shelf
open Tryz
def Tryz.Cu:Go.Shelf.Ren:=⟨fun|134=>291|129=>220|n=>n,fun|53=>59|3=>3|4=>4|46=>190|5=>5|9=>9|n=>n,fun|n=>n⟩
theorem Tryz.PN:Go.Proofs.Lays.n134 prog Tryz.Cu:=by
 constructor
 all_goals (intros;kernel_rfl)
theorem Tryz.bits_LeadingZeros64(x:Int)(w:World)(h0:0<=x)(h1:x<=18446744073709551615):
  Calls prog 291 #[.int .u64 x] w fun e w'=>e= .returned (.int .i64 (64-(Lib.bitLen x.toNat:Int)))/\w'=w:=Any.bits_LeadingZeros64 Tryz.PN x w h0 h1
def Tryz.Cv:Go.Shelf.Ren:=⟨fun|129=>220|n=>n,fun|53=>59|3=>3|4=>4|46=>190|5=>5|9=>9|n=>n,fun|n=>n⟩
theorem Tryz.PO:Go.Proofs.Lays.n129 prog Tryz.Cv:=by
 constructor
 all_goals (intros;kernel_rfl)
theorem Tryz.bits_Len64(x:Int)(w:World)(h0:0<=x)(h1:x<=18446744073709551615):
  Calls prog 220 #[.int .u64 x] w fun e w'=>e= .returned (.int .i64 (Lib.bitLen x.toNat))/\w'=w:=Any.bits_Len64 Tryz.PO x w h0 h1
def Tryz.Cw:Go.Shelf.Ren:=⟨fun|264=>245|n=>n,fun|53=>59|46=>190|n=>n,fun|n=>n⟩
theorem Tryz.PQ:Go.Proofs.Lays.n264 prog Tryz.Cw:=by
 constructor
 all_goals (intros;kernel_rfl)
open Go.RowKit Go.Lib in
theorem Tryz.bits_Mul64(x y:Nat)(hx:x<18446744073709551616)(hy:y<18446744073709551616)(w:World):
  Calls prog 245 #[.int .u64 x,.int .u64 y] w fun e w'=>e= .returned (.tuple #[.int .u64 ((x*y/18446744073709551616:Nat):Int),.int .u64 ((x*y%18446744073709551616:Nat):Int)])/\w'=w:=Any.bits_Mul64 Tryz.PQ x y hx hy w
end Go.Proofs
namespace Go.Proofs.Yq
open RowKit
open Tryz
@[go_sem] theorem PR {P:Program} (t:TypeId) (n g o:Nat) (w:World) (cs:Array Value):uF P t n g o w (some cs)=if o+n<=cs.size then .ok (.agg (cs.extract o (o+n))) w else qL P t ⟨g,o,none⟩ w:=rfl
@[go_sem] theorem Pt {P:Program} (t:TypeId) (n g o:Nat) (cs:Array Value) (w:World) (cur:Array Value):qM P t n g o cs w (some cur)=if cs.size=n/\o+n<=cur.size/\bK cs=true then .ok () (w.setCells g o cs.toList) else rW P t ⟨g,o,none⟩ (.agg cs) w:=rfl
def jQ(t:TypeId)(a:Addr):Sem Value:=loadVar t a
def jR(t:TypeId)(a:Addr)(v:Value):Sem Unit:=storeVar t a v
@[go_sem ↓ high] theorem aeo (a:Addr):loadVar 198 a=jQ 198 a:=rfl
@[go_sem ↓ high] theorem aep (a:Addr):loadVar 200 a=jQ 200 a:=rfl
@[go_sem ↓ high] theorem aeq (a:Addr) (v:Value):storeVar 198 a v=jR 198 a v:=rfl
@[go_sem ↓ high] theorem aer (a:Addr) (v:Value):storeVar 200 a v=jR 200 a v:=rfl
abbrev Er(t:TypeId)(n:Nat):Prop:=∀(g o:Nat) (w:World),(jQ t ⟨g,o,none⟩).run prog w=uF prog t n g o w (w.aI g)
abbrev Es(t:TypeId)(n:Nat):Prop:=∀(g o:Nat) (cs:Array Value) (w:World),(jR t ⟨g,o,none⟩ (.agg cs)).run prog w=qM prog t n g o cs w (w.aI g)
abbrev PS(t:TypeId)(n:Nat):Prop:=∀{g:Nat} {w:World} {cs:Array Value},w.aI g=some cs->cs.size=n->(loadVar t ⟨g,0,none⟩).run prog w= .ok (.agg cs) w
@[go_sem] theorem abd:Er 198 16:=aV 198 16 _ underlying198 rfl (by kernel_rfl)
@[go_sem] theorem abe:Er 200 18:=aV 200 18 _ underlying200 rfl (by kernel_rfl)
@[go_sem] theorem Yh:Es 198 16:=aX 198 16 (by kernel_rfl)
@[go_sem] theorem Yi:Es 200 18:=aX 200 18 (by kernel_rfl)
theorem oE:PS 198 16:=iM underlying198 rfl (by kernel_rfl)
theorem fW:PS 200 18:=iM underlying200 rfl (by kernel_rfl)
def bP(n:Nat):Array Value:=((List.range 16).map fun i=>Value.int .u64 (lim n i:Nat)).toArray
@[go_sem] theorem aQ (n:Nat): (bP n).size=16:=by simp[bP]
@[go_sem] theorem Cy (n:Nat): (bP n).extract 0 16=bP n:=by have:=aQ n;rw[<-this,Array.extract_size]
theorem fx(n i:Nat)(h:i<16): (bP n)[i]? =some (.int .u64 (lim n i:Nat)):=by simp[bP,h]
@[go_sem] theorem PT (n:Nat):bK (bP n)=true:=by unfold bK;rw[Array.all_eq_true_iff_forall_mem];intro x hx;simp only[bP,List.mem_toArray,List.mem_map] at hx;obtain⟨i,_,rfl⟩:=hx;rfl
theorem uL{cs:Array Value}{n:Nat}(hs:cs.size=16)(hc:∀i,i<16->cs[i]? =some (.int .u64 (lim n i:Nat))):cs=bP n:=by
 apply Array.ext_getElem?;intro i;rcases nO i 16 with hi|hi
 ·rw[hc i hi,fx n i hi]
 ·rw[Array.getElem?_eq_none (by omega),Array.getElem?_eq_none (by rw[aQ];omega)]
theorem PU(z:Value)(i:Nat)(hi:i<16): (#[z,z,z,z,z,z,z,z,z,z,z,z,z,z,z,z]:Array Value)[i]? =some z:=by rw[show(#[z,z,z,z,z,z,z,z,z,z,z,z,z,z,z,z]:Array Value)=Array.replicate 16 z from rfl];simp[hi]
theorem dD: (#[.int .u64 0,.int .u64 0,.int .u64 0,.int .u64 0,.int .u64 0,.int .u64 0,.int .u64 0,.int .u64 0,.int .u64 0,.int .u64 0,.int .u64 0,.int .u64 0,.int .u64 0,.int .u64 0,.int .u64 0,.int .u64 0]:Array Value)=bP 0:=
 uL rfl fun i hi=>by rw[PU _ i hi,jr];rfl
def Part(w:World)(g:Nat)(f:Nat->Nat):Prop:=∃cs,w.aI g=some cs/\cs.size=16/\∀i,i<16->cs[i]? =some (.int .u64 (f i:Nat))
theorem Part.zero{w:World}{g:Nat}(h:w.aI g=some (bP 0)):Part w g (fun _=>0):=⟨_,h,aQ _,fun i hi=>by rw[fx _ _ hi,jr]⟩
theorem Part.cell{w:World}{g:Nat}{f:Nat->Nat}(h:Part w g f){i:Nat}(hi:i<16):w.cell? ⟨g,i,none⟩=some (.int .u64 (f i:Nat)):=by obtain⟨cs,h1,h2,h3⟩:=h;rw[ao h1,h3 i hi]
theorem Part.frozen{w:World}{g:Nat}{f:Nat->Nat}(h:Part w g f)(i:Nat):w.frozen? ⟨g,i,none⟩=false:=by obtain⟨cs,h1,h2,h3⟩:=h;exact ax h1 i
theorem Part.set{w:World}{g:Nat}{f:Nat->Nat}(h:Part w g f){k:Nat}(hk:k<16)(x:Nat):Part (w.setCell ⟨g,k,none⟩ (.int .u64 (x:Nat))) g (fun i=>if i=k then x else f i):=by
 obtain⟨cs,h1,h2,h3⟩:=h;refine⟨cs.setIfInBounds k (.int .u64 (x:Nat)),by rw[bw,if_pos rfl,h1];rfl,by simp[h2],fun i hi=>?_⟩;by_cases e:i=k
 ·subst e;rw[Array.getElem?_setIfInBounds_self_of_lt (by omega)];show _=some (Value.int .u64 ((if i=i then x else f i:Nat):Int));rw[if_pos rfl]
 ·rw[Array.getElem?_setIfInBounds_ne (by omega),h3 i hi];show _=some (Value.int .u64 ((if i=k then x else f i:Nat):Int));rw[if_neg e]
theorem Part.congr{w:World}{g:Nat}{f f':Nat->Nat}(h:Part w g f)(e:∀i,i<16->f i=f' i):Part w g f':=by obtain⟨cs,h1,h2,h3⟩:=h;exact⟨cs,h1,h2,fun i hi=>by rw[h3 i hi,e i hi]⟩
theorem Part.done{w:World}{g n:Nat}{f:Nat->Nat}(h:Part w g f)(e:∀i,i<16->f i=lim n i):w.aI g=some (bP n):=by obtain⟨cs,h1,h2,h3⟩:=h;rw[h1,uL h2 fun i hi=>by rw[h3 i hi,e i hi]]
theorem Part.below{w w':World}{B g:Nat}{f:Nat->Nat}(h:Part w g f)(hb:Below B w w')(hg:g<B):Part w' g f:=by obtain⟨cs,h1,h2,h3⟩:=h;exact⟨cs,(ah hb hg).trans h1,h2,h3⟩
theorem Part.drewN{w:World}{g:Nat}{f:Nat->Nat}(h:Part w g f)(n:Nat):Part (w.drewN n) g f:=h
theorem Part.drew{w:World}{g:Nat}{f:Nat->Nat}(h:Part w g f):Part w.drew g f:=h
theorem cH{w:World}{g g' i:Nat}{v:Value}{cs:Array Value}(h:w.aI g=some cs)(hne:g'≠g): (w.setCell ⟨g',i,none⟩ v).aI g=some cs:=by rw[bw,if_neg hne,h]
theorem afp{w:World}{g n:Nat}(h:w.aI g=some (bP 0)): (w.setCells g 0 (bP n).toList).aI g=some (bP n):=by rw[bp _ _ _ _ _ h (by simp[aQ]),Array.toArray_toList,fT (by rw[aQ,aQ])]
end Go.Proofs.Yq
namespace Go.Proofs.Yq
open ChangeShapes WideShapes ChangeAt RowKit Deep
open Tryz
theorem run_add64(x y c:Nat)(hc:c<=1)(w:World):
  (callFunc 246 #[.int .u64 x,.int .u64 y,.int .u64 c]).run prog w= .ok (.value (.tuple #[.int .u64 (((x+y+c)%18446744073709551616:Nat):Int),.int .u64 (((x+y+c)/18446744073709551616:Nat):Int)])) w:=by
 rw[run_callFunc_extern func246 (by kernel_rfl) (by kernel_rfl) (by kernel_rfl) (e:=add64Entry) (by kernel_rfl),Go.run_add64 x y c (by omega) (by omega) (by omega) (by omega)];simp only[Result.andThen];congr 5 <;> omega
theorem run_sub64(x y b:Nat)(hb:b<=1)(w:World):
  (callFunc 311 #[.int .u64 x,.int .u64 y,.int .u64 b]).run prog w= .ok (.value (.tuple #[.int .u64 (((x+18446744073709551616-y-b)%18446744073709551616:Nat):Int),.int .u64 ((if x<y+b then 1 else 0:Nat):Int)])) w:=by
 rw[run_callFunc_extern func311 (by kernel_rfl) (by kernel_rfl) (by kernel_rfl) (e:=sub64Entry) (by kernel_rfl),Go.Proofs.run_sub64 x y b hb];rfl
theorem G6(n n' k:Nat): (((lim n k:Nat):Int)+(lim n' k:Nat)+(pS n n' k:Nat))/18446744073709551616=(pS n n' (k+1):Nat):=by have:=Cs n n' k;unfold BB at this;omega
theorem G7(n n' k:Nat): (((lim n k:Nat):Int)+(lim n' k:Nat)+(pS n n' k:Nat))%18446744073709551616=(lim (n+n') k:Nat):=by have:=AF n n' k;unfold BB at this;omega
theorem q9(w:World): ((w.alloc (.cells #[.int .u64 0,.int .u64 0,.int .u64 0,.int .u64 0,.int .u64 0,.int .u64 0,.int .u64 0,.int .u64 0,.int .u64 0,.int .u64 0,.int .u64 0,.int .u64 0,.int .u64 0,.int .u64 0,.int .u64 0,.int .u64 0] 198)).alloc (.cells #[.int .u64 0,.int .u64 0,.int .u64 0,.int .u64 0,.int .u64 0,.int .u64 0,.int .u64 0,.int .u64 0,.int .u64 0,.int .u64 0,.int .u64 0,.int .u64 0,.int .u64 0,.int .u64 0,.int .u64 0,.int .u64 0] 198)).aI w.heap.size=some (bP 0)/\
  ((w.alloc (.cells #[.int .u64 0,.int .u64 0,.int .u64 0,.int .u64 0,.int .u64 0,.int .u64 0,.int .u64 0,.int .u64 0,.int .u64 0,.int .u64 0,.int .u64 0,.int .u64 0,.int .u64 0,.int .u64 0,.int .u64 0,.int .u64 0] 198)).alloc (.cells #[.int .u64 0,.int .u64 0,.int .u64 0,.int .u64 0,.int .u64 0,.int .u64 0,.int .u64 0,.int .u64 0,.int .u64 0,.int .u64 0,.int .u64 0,.int .u64 0,.int .u64 0,.int .u64 0,.int .u64 0,.int .u64 0] 198)).aI (w.heap.size+1)=some (bP 0):=by
 rw[dD];constructor <;> simp[af,aq]
theorem AH(b o n b' o' n':Nat)(w:World)(h:fG w b o n)(h':fG w b' o' n'):
  Calls prog 241 #[.pointer (some ⟨b,o,none⟩),.pointer (some ⟨b',o',none⟩)] w fun e w'=>e= .returned (.tuple #[.agg (bP (n+n')),.int .u64 (pS n n' 16:Nat)])/\Below w.heap.size w w':=by
 have H:=qD h;have H':=qD h';clear h h';go_enter func241,ntmps241;go_wp2
 go_loopw [7,9] (fun c i wr=>∃k:Nat,k<=16/\i= .int .i64 k/\c= .int .u64 (pS n n' k:Nat)/\Below w.heap.size w wr/\wr.aI w.heap.size=some (bP 0)/\Part wr (w.heap.size+1) (fun j=>if j<k then lim (n+n') j else 0)) (fun _ i _=>16-(intOf i).toNat)
 case atStart=>
  exact⟨0,by omega,rfl,by rw[Cr];rfl,((bZ _ _).alloc (nL _) _).alloc (by simp) _,(q9 w).1,(Part.zero (q9 w).2).congr fun i _=>by simp⟩
 case round=>
  obtain⟨k,hk,rfl,rfl,hb,hz,hr⟩:=hrel;have HB:=qD hb;have HR:=qD hr;have HZ:=qD hz;by_cases h0:k<16
  ·have hc:wr.cell? ⟨b,o+k,none⟩=some (.int .u64 (lim n k:Nat)):=(hb.cell (p:=⟨b,o+k,none⟩) H.o.lt).trans (H.o.2 k h0);have hc':wr.cell? ⟨b',o'+k,none⟩=some (.int .u64 (lim n' k:Nat)):=(hb.cell (p:=⟨b',o'+k,none⟩) H'.o.lt).trans (H'.o.2 k h0);have hd:=hr.cell h0;have hf:=hr.frozen k;have ea:=run_add64 (lim n k) (lim n' k) (pS n n' k) (wk _ _ _);have i1: (0:Int)<=(k:Int):=by omega
   have i2: (k:Int)<16:=by omega
   clear hb hr hz;go_wp2
   go_region
   all_goals go_wp2
   all_goals go_roundw
   case rel=>
    rw[G6,G7];refine⟨k+1,by omega,by go_num,rfl,(HB.o.setCell (by simp) _).drew,cH HZ.o (by omega),((HR.o.set h0 _).drew).congr fun i hi=>?_⟩;by_cases hik:i=k
    ·subst hik;rw[if_pos rfl,if_pos (by omega)]
    ·rw[if_neg hik];by_cases h9:i<k
     ·rw[if_pos h9,if_pos (by omega)]
     ·rw[if_neg h9,if_neg (by omega)]
   case measure=>simp[intOf];omega
  ·have hk':16<=k:=by omega
   have HK:Hid (k=16):=by unfold Hid;omega
   have hbk:wr.aI (w.heap.size+1)=some (bP (n+n')):=hr.done fun i hi=>by rw[if_pos (by omega)]
   clear hb hr;go_wp2_with fail;rw[HK.o];exact bodyPost_ret (aA (fn:=Tryz.f241) rfl rfl (oE (afp HZ.o) (aQ _))) rfl ⟨rfl,aa HB.o (nL _) _ _⟩
theorem PV{n n':Nat}(k:Nat): ((if lim n k<lim n' k+sG n n' k then 1 else 0:Nat):Int)=(sG n n' (k+1):Nat):=by rw[wm]
theorem PW{n n':Nat}(h:n'<=n)(k:Nat): (lim n k+18446744073709551616-lim n' k-sG n n' k)%18446744073709551616=lim (n-n') k:=G5 h k
theorem G8(b o n b' o' n':Nat)(w:World)(h:fG w b o n)(h':fG w b' o' n')(hle:n'<=n):
  Calls prog 304 #[.pointer (some ⟨b,o,none⟩),.pointer (some ⟨b',o',none⟩)] w fun e w'=>e= .returned (.agg (bP (n-n')))/\Below w.heap.size w w':=by
 have H:=qD h;have H':=qD h';clear h h';go_enter func304,ntmps304;go_wp2
 go_loopw [6,8] (fun c i wr=>∃k:Nat,k<=16/\i= .int .i64 k/\c= .int .u64 (sG n n' k:Nat)/\Below w.heap.size w wr/\wr.aI w.heap.size=some (bP 0)/\Part wr (w.heap.size+1) (fun j=>if j<k then lim (n-n') j else 0)) (fun _ i _=>16-(intOf i).toNat)
 case atStart=>
  exact⟨0,by omega,rfl,by rw[Ct];rfl,((bZ _ _).alloc (nL _) _).alloc (by simp) _,(q9 w).1,(Part.zero (q9 w).2).congr fun i _=>by simp⟩
 case round=>
  obtain⟨k,hk,rfl,rfl,hb,hz,hr⟩:=hrel;have HB:=qD hb;have HR:=qD hr;have HZ:=qD hz;by_cases h0:k<16
  ·have hc:wr.cell? ⟨b,o+k,none⟩=some (.int .u64 (lim n k:Nat)):=(hb.cell (p:=⟨b,o+k,none⟩) H.o.lt).trans (H.o.2 k h0);have hc':wr.cell? ⟨b',o'+k,none⟩=some (.int .u64 (lim n' k:Nat)):=(hb.cell (p:=⟨b',o'+k,none⟩) H'.o.lt).trans (H'.o.2 k h0);have hd:=hr.cell h0;have hf:=hr.frozen k;have ea:=run_sub64 (lim n k) (lim n' k) (sG n n' k) (AG _ _ _);simp only[PW hle,PV] at ea;have i1: (0:Int)<=(k:Int):=by omega
   have i2: (k:Int)<16:=by omega
   clear hb hr hz;go_wp2
   go_region
   all_goals go_wp2
   all_goals go_roundw
   case rel=>
    refine⟨k+1,by omega,by go_num,rfl,(HB.o.setCell (by simp) _).drew,cH HZ.o (by omega),((HR.o.set h0 _).drew).congr fun i hi=>?_⟩;by_cases hik:i=k
    ·subst hik;rw[if_pos rfl,if_pos (by omega)]
    ·rw[if_neg hik];by_cases h9:i<k
     ·rw[if_pos h9,if_pos (by omega)]
     ·rw[if_neg h9,if_neg (by omega)]
   case measure=>simp[intOf];omega
  ·have hk':16<=k:=by omega
   have hbk:wr.aI (w.heap.size+1)=some (bP (n-n')):=hr.done fun i hi=>by rw[if_pos (by omega)]
   clear hb hr;go_wp2_with fail;exact bodyPost_ret (cL (fn:=Tryz.f304) rfl rfl (oE (afp HZ.o) (aQ _))) rfl ⟨rfl,aa HB.o (nL _) _ _⟩
end Go.Proofs.Yq
namespace Go.Proofs.Yq
open ChangeShapes WideShapes ChangeAt RowKit
open Tryz
def nB(a b:Nat):Nat->Bool
 |0=>true
 |k+1=>(lim a (15-k)==lim b (15-k))&&nB a b k
def j8(a b:Nat):Bool:=nB a b 16
theorem yR(a b:Nat):j8 a b=true↔∀i,i<16->lim a i=lim b i:=by
 have key:∀k,k<=16->(nB a b k=true↔∀i,16-k<=i->i<16->lim a i=lim b i):=by
  intro k;induction k with
  |zero=>intro _;simp[nB];omega
  |succ k ih=>
   intro hk;rw[nB,bI,beq_iff_eq,ih (by omega)];constructor
   ·rintro⟨h1,h2⟩ i h3 h4;by_cases e:i=15-k
    ·rw[e];exact h1
    ·exact h2 i (by omega) h4
   ·intro h;exact⟨h _ (by omega) (by omega),fun i h1 h2=>h i (by omega) h2⟩
 unfold j8;rw[key 16 (by omega)];simp
theorem iC{a b:Nat}(ha:a<BB^16)(hb:b<BB^16):j8 a b=decide (a=b):=by rw[Bool.eq_iff_iff,yR,decide_eq_true_eq];exact⟨tZ ha hb,fun h _ _=>by rw[h]⟩
theorem Uc(n:Nat){i:Nat}(h:i<16)(w:World): (part 59 (bP n) i).run prog w= .ok (.int .u64 (lim n i:Nat)) w:=by simp[part,isAgg,run_underlying underlying59,fx n i h]
theorem Ud(w:World): (sizeOf 59).run prog w= .ok 1 w:=sizeOf59 w
theorem PX(d a b:Nat)(w:World): (Op.equalIn (d+1+1) 198 (.agg (bP a)) (.agg (bP b))).run prog w= .ok (j8 a b) w:=by
 unfold j8;have h:∀i (w:World),i<16->(Op.equalIn (d+1) 59 (.int .u64 (lim a i:Nat)) (.int .u64 (lim b i:Nat))).run prog w= .ok (lim a i==lim b i) w:=by intro i w _;rw[run_equalIn_int w d 59 .u64 .u64 _ _ underlying59];congr 1;rw[Bool.eq_iff_iff,beq_iff_eq,beq_iff_eq];omega
 rw[Op.equalIn];generalize Op.equalIn (d+1)=E at*;simp only[Sem.run_bind,run_underlying underlying198,Result.andThen_ok,Ud,Nat.mul_one];simp only[Std.Legacy.Range.forIn_eq_forIn_range',Std.Legacy.Range.size];have key:∀k,k<=16->(forIn (List.range' (16-k) k) ((none,()):Option Bool×Unit) fun i __s=>do
      let __do_lift <-part 59 (bP a) i
      let __do_lift_1 <-part 59 (bP b) i
      let __do_lift <-E 59 __do_lift __do_lift_1
      if (!__do_lift)=true then pure (ForInStep.done (some false,())) else pure (ForInStep.yield (none,()))).run prog w= .ok (if nB a b k then(none,()) else(some false,())) w:=by
  intro k;induction k with
  |zero=>intro _;simp[nB]
  |succ k ih=>
   intro hk;rw[show List.range' (16-(k+1)) (k+1)=(15-k)::List.range' (16-k) k by
    rw[List.range'_succ];congr 1;· omega
    congr 1;omega]
   rw[List.forIn_cons];simp only[Sem.run_bind,Uc _ (show 15-k<16 by omega),Result.andThen_ok,h _ _ (show 15-k<16 by omega)];rw[nB];cases hq: (lim a (15-k)==lim b (15-k))
   ·simp[Result.andThen]
   ·simp only[Bool.not_true,Bool.false_eq_true,if_false,Sem.run_pure,Result.andThen_ok,Bool.true_and];exact ih (by omega)
 have:=key 16 (by omega);rw[show(16-0+1-1)/1=16 from rfl];rw[show(0:Nat)=16-16 from rfl,this];cases nB a b 16 <;> simp[Result.andThen]
@[go_sem ↓ high] theorem abP (a b:Nat) (w:World): (Op.equalIn 10000 198 (.agg (bP a)) (.agg (bP b))).run prog w= .ok (j8 a b) w:=PX 9998 a b w
def mK:Nat:=BB^15*9223372036854775808
theorem sH(a b k:Nat)(h:k=64*a+b):2^k=BB^a*2^b:=by subst h;rw[Nat.pow_add,Nat.pow_mul];rfl
theorem G9{k:Nat}(h:k=1023):2^k=mK:=(sH 15 63 k (by omega)).trans rfl
theorem AI:mK<BB^16:=by decide+kernel
structure WI where
 val:Option Int
 ok:∀n,val=some n->n.natAbs<mK
namespace WI
def neg(a:WI):Bool:=match a.val with|some n=>decide (n<0)|none=>false
def over(a:WI):Bool:=a.val.isNone
def abs(a:WI):Nat:=match a.val with|some n=>n.natAbs|none=>0
def mk'(n:Int):WI:=if h:n.natAbs<mK then⟨some n,fun m hm=>by injection hm with hm;rw[<-hm];exact h⟩ else⟨none,fun _ h=>by cases h⟩
def ov:WI:=⟨none,fun _ h=>by cases h⟩
theorem bQ(a:WI):a.abs<BB^16:=by
 refine Nat.lt_trans ?_ AI;unfold abs;split
 ·rename_i n h;exact a.ok n h
 ·decide+kernel
theorem pB(a:WI):a.abs<mK:=by
 unfold abs;split
 ·rename_i n h;exact a.ok n h
 ·decide+kernel
end WI
def eE(neg over:Bool)(n:Nat):Array Value:=#[.bool neg,.bool over]++bP n
def wc(a:WI):Array Value:=eE a.neg a.over a.abs
@[go_sem] theorem bT (x y:Bool) (n:Nat): (eE x y n).size=18:=by simp[eE,aQ]
@[go_sem] theorem Cz (x y:Bool) (n:Nat): (eE x y n)[0]? =some (.bool x):=by rw[eE,Array.getElem?_append_left (by simp)];rfl
@[go_sem] theorem CA (x y:Bool) (n:Nat): (eE x y n)[1]? =some (.bool y):=by rw[eE,Array.getElem?_append_left (by simp)];rfl
theorem AJ(x y:Bool)(n i:Nat)(h:i<16): (eE x y n)[2+i]? =some (.int .u64 (lim n i:Nat)):=by
 unfold eE;rw[Array.getElem?_append_right (by simp)];have:2+i-(#[Value.bool x,Value.bool y]:Array Value).size=i:=by simp
 rw[this,fx n i h]
@[go_sem] theorem PY (x y:Bool) (n:Nat): (eE x y n).extract 0 18=eE x y n:=by have:=bT x y n;rw[<-this,Array.extract_size]
@[go_sem] theorem LK (x y:Bool) (n:Nat): (eE x y n).extract 2 18=bP n:=by unfold eE;rw[Array.extract_append];simp only[List.size_toArray,List.length_cons,List.length_nil,Nat.zero_add,Nat.reduceAdd,Nat.sub_self,Nat.reduceSub,Cy];simp
@[go_sem] theorem PZ (x y:Bool) (n:Nat):bK (eE x y n)=true:=by have:=PT n;unfold bK eE at*;rw[Array.all_append,this];simp[Value.oneCell']
@[go_sem] theorem cP (a:WI): (wc a).size=18:=bT _ _ _
@[go_sem] theorem AK (a:WI): (wc a)[0]? =some (.bool a.neg):=Cz _ _ _
@[go_sem] theorem P0 (a:WI): (wc a)[1]? =some (.bool a.over):=CA _ _ _
theorem Fa(a:WI)(i:Nat)(h:i<16): (wc a)[2+i]? =some (.int .u64 (lim a.abs i:Nat)):=AJ _ _ _ i h
@[go_sem] theorem abQ (a:WI): (wc a).extract 0 18=wc a:=PY _ _ _
@[go_sem] theorem abf (a:WI): (wc a).extract 2 18=bP a.abs:=LK _ _ _
@[go_sem] theorem Ue (a:WI):bK (wc a)=true:=PZ _ _ _
theorem yS{cs:Array Value}{i:Nat}{v:Value}(h:cs[i]? =some v)(hi:i<cs.size):cs[i]=v:=by rw[Array.getElem?_eq_getElem hi] at h;exact Option.some.inj h
@[go_sem] theorem abg (x y:Bool) (n:Nat) (h:0<(eE x y n).size): (eE x y n)[0]= .bool x:=yS (Cz x y n) h
@[go_sem] theorem abh (x y:Bool) (n:Nat) (h:1<(eE x y n).size): (eE x y n)[1]= .bool y:=yS (CA x y n) h
@[go_sem] theorem abi (x y:Bool) (n:Nat) (h:2<(eE x y n).size): (eE x y n)[2]= .int .u64 (lim n 0:Nat):=yS (AJ x y n 0 (by omega)) h
@[go_sem] theorem abR (a:WI) (h:0<(wc a).size): (wc a)[0]= .bool a.neg:=yS (AK a) h
@[go_sem] theorem abS (a:WI) (h:1<(wc a).size): (wc a)[1]= .bool a.over:=yS (P0 a) h
@[go_sem] theorem abT (a:WI) (h:2<(wc a).size): (wc a)[2]= .int .u64 (lim a.abs 0:Nat):=yS (Fa a 0 (by omega)) h
def iS(t:TypeId)(ps:Array (Nat×Value)):Sem Value:=Instr.build t ps
@[go_sem ↓ high] theorem abU (ps:Array (Nat×Value)):Instr.build 200 ps=iS 200 ps:=rfl
@[go_sem ↓ high] theorem abV (ps:Array (Nat×Value)):Instr.build 198 ps=iS 198 ps:=rfl
def pZ(u:Int):Array Value:=#[.int .u64 u,.int .u64 0,.int .u64 0,.int .u64 0,.int .u64 0,.int .u64 0,.int .u64 0,.int .u64 0,.int .u64 0,.int .u64 0,.int .u64 0,.int .u64 0,.int .u64 0,.int .u64 0,.int .u64 0,.int .u64 0]
theorem wq(u:Nat)(h:u<BB):pZ u=bP u:=by
 refine uL rfl fun i hi=>?_;by_cases h0:i=0
 ·subst h0;show some (Value.int .u64 (u:Int))=_;unfold lim;rw[Nat.pow_zero,Nat.div_one,nM h]
 ·rw[j4 (k:=1) (by rw[Nat.pow_one];exact h) (by omega)];have:∀j,j<16->j≠0->(pZ u)[j]? =some (.int .u64 0):=by
   intro j hj h0
   match j,hj,h0 with
   |1,_,_|2,_,_|3,_,_|4,_,_|5,_,_|6,_,_|7,_,_|8,_,_|9,_,_|10,_,_|11,_,_|12,_,_|13,_,_|14,_,_|15,_,_=>rfl
   |0,_,h0=>exact absurd rfl h0
   |j+16,h,_=>omega
  exact this i hi h0
@[go_sem] theorem SP (w:World): (iS 198 #[]).run prog w= .ok (.agg (bP 0)) w:=by rw[<-dD];kernel_rfl
@[go_sem] theorem Uf (u:Int) (w:World): (iS 198 #[(0,.int .u64 u)]).run prog w= .ok (.agg (pZ u)) w:=by kernel_rfl
@[go_sem] theorem SQ (w:World): (iS 200 #[]).run prog w= .ok (.agg (eE false false 0)) w:=by unfold eE;rw[<-dD];kernel_rfl
@[go_sem] theorem SR (b:Bool) (w:World): (iS 200 #[(1,.bool b)]).run prog w= .ok (.agg (eE false b 0)) w:=by unfold eE;rw[<-dD];kernel_rfl
theorem LL(x y:Bool)(l:List Value)(h:l.length=16)(w:World): (iS 200 #[(0,.bool x),(2,.agg l.toArray)]).run prog w= .ok (.agg (#[.bool x,.bool false]++l.toArray)) w:=by
 match l,h with
 | [a,b,c,d,e,f,g,h,i,j,k,l,m,n,o,p],_=>show(iS 200 #[(0,.bool x),(2,.agg #[a,b,c,d,e,f,g,h,i,j,k,l,m,n,o,p])]).run prog w= .ok (.agg (#[.bool x,.bool false]++ #[a,b,c,d,e,f,g,h,i,j,k,l,m,n,o,p])) w;kernel_rfl
@[go_sem] theorem Ug (x:Bool) (n:Nat) (w:World): (iS 200 #[(0,.bool x),(2,.agg (bP n))]).run prog w= .ok (.agg (eE x false n)) w:=LL x x _ (by simp) w
def SU(x:Bool)(u:Int):Array Value:=#[.bool x,.bool false]++pZ u
@[go_sem] theorem ra (x:Bool) (u:Int): (SU x u).size=18:=by simp[SU,pZ]
@[go_sem] theorem abj (x:Bool) (u:Int):bK (SU x u)=true:=by simp[SU,pZ,bK,Value.oneCell']
theorem Uh(x:Bool)(u:Nat)(h:u<BB):SU x u=eE x false u:=by unfold SU eE;rw[wq u h]
@[go_sem] theorem SV (x:Bool) (u:Int) (w:World): (iS 200 #[(0,.bool x),(2,.agg (pZ u))]).run prog w= .ok (.agg (SU x u)) w:=LL x x [.int .u64 u,.int .u64 0,.int .u64 0,.int .u64 0,.int .u64 0,.int .u64 0,.int .u64 0,.int .u64 0,.int .u64 0,.int .u64 0,.int .u64 0,.int .u64 0,.int .u64 0,.int .u64 0,.int .u64 0,.int .u64 0] rfl w
theorem fI: (#[.bool false,.bool false,.int .u64 0,.int .u64 0,.int .u64 0,.int .u64 0,.int .u64 0,.int .u64 0,.int .u64 0,.int .u64 0,.int .u64 0,.int .u64 0,.int .u64 0,.int .u64 0,.int .u64 0,.int .u64 0,.int .u64 0,.int .u64 0]:Array Value)=eE false false 0:=by unfold eE;rw[<-dD];rfl
end Go.Proofs.Yq
namespace Go.Proofs.Yq
open ChangeShapes WideShapes ChangeAt RowKit
open Tryz
attribute [go_sem] dD fI
theorem ld:∀(f x:Nat),x<2^f->x<2^(Lib.bitLenAux f x)/\(x≠0->2^(Lib.bitLenAux f x-1)<=x)
 |0,x,h=>by simp at h;subst h;simp[Lib.bitLenAux]
 |f+1,x,h=>by
  rw[Lib.bitLenAux];split
  ·rename_i h0;subst h0;simp
  ·rename_i h0;have ih:=ld f (x/2) (by rw[Nat.pow_succ] at h;omega);have hz:x/2=0->Lib.bitLenAux f (x/2)=0:=fun h=>by rw[h];cases f <;> simp[Lib.bitLenAux]
   generalize Lib.bitLenAux f (x/2)=b at*;refine⟨by rw[Nat.add_comm,Nat.pow_succ];omega,fun _=>?_⟩;rw[show 1+b-1=b by omega];by_cases h1:x/2=0
   ·have hb:b=0:=hz h1;subst hb;simp;omega
   ·have:=ih.2 h1;have hb:b≠0:=by rintro rfl;have:=ih.1;simp at this;omega
    obtain⟨c,rfl⟩:∃c,b=c+1:=⟨b-1,by omega⟩;rw[Nat.pow_succ];simp at this;omega
def eJ(n:Nat):Nat:=if n=0 then 0 else 64*(ku n 16-1)+Lib.bitLen (lim n (ku n 16-1))
theorem wu(b o n:Nat)(w:World)(h:fG w b o n):
  Calls prog 288 #[.pointer (some ⟨b,o,none⟩)] w fun e w'=>e= .returned (.int .i64 (eJ n:Nat))/\w=w':=by
 have hp:=sF n 16;have HB:=qD h.1;by_cases h0:ku n 16=0
 ·have hn:Hid (eJ n=0):=by unfold Hid eJ;rw[if_pos (oD h.1 h0)]
  have HC:=qD (iB b o n w h);rw[h0] at HC;clear h h0;go_enter func288,ntmps288;go_wp2_with (go_at_call 244;refine(HC.o).mono ?_;rintro e w' ⟨rfl,rfl⟩);go_ret;exact⟨iR (by rw[hn.o];rfl),rfl⟩
 ·obtain⟨k,hk⟩:∃k,ku n 16=k+1:=⟨ku n 16-1,by omega⟩;have hn:Hid (eJ n=64*k+Lib.bitLen (lim n k)):=by unfold Hid eJ;rw[if_neg (by rintro rfl;simp[ku,jr] at hk),hk];rfl
  have HC:=qD (iB b o n w h);rw[hk] at HC hp;have hc:=h.2 k (by omega);have hl:=uK n k;have hbl:=Lib.bitLen_le (lim n k) 64 (by omega) (by omega);have HL:=qD (Tryz.bits_Len64 (lim n k:Nat) w (by omega) (by omega));rw[Int.toNat_natCast] at HL;obtain⟨x,hx⟩:∃x,lim n k=x:=⟨_,rfl⟩;obtain⟨y,hy⟩:∃y,Lib.bitLen (lim n k)=y:=⟨_,rfl⟩;rw[hy] at hbl HL hn;rw[hx] at hc hl HL;clear hx hy h h0 hk;go_enter func288,ntmps288;go_wp2_with (first|(go_at_call 244;refine(HC.o).mono ?_;rintro e w' ⟨rfl,rfl⟩)|(go_at_call 220;refine(HL.o).mono ?_;rintro e w' ⟨rfl,rfl⟩));go_ret;exact⟨iR (by rw[hn.o];go_num),rfl⟩
theorem Fb{n:Nat}(h:n<BB^16):n<2^eJ n/\(n≠0->2^(eJ n-1)<=n):=by
 unfold eJ;split
 ·rename_i h0;subst h0;simp
 ·rename_i h0;have hp:ku n 16≠0:=fun e=>h0 (oD h e);have h1:=eT 16 h;have h2:=afo n 16 (by omega);obtain⟨k,hk⟩:∃k,ku n 16=k+1:=⟨ku n 16-1,by omega⟩;rw[hk] at h1 h2 ⊢;simp only[Nat.add_sub_cancel] at h2 ⊢;have hs:=ld 64 (lim n k) (by have:=uK n k;omega);have hm:=mod_succ n k;rw[nM h1] at hm;have hr:=Nat.mod_lt n (aC k);generalize n%BB^k=r at*;have hb:BB^k=2^(64*k):=by unfold BB;rw[Nat.pow_mul]
  have hs2:=hs.2 h2;have hs1:=hs.1;unfold Lib.bitLen;have hb0:Lib.bitLenAux 64 (lim n k)≠0:=fun e=>by rw[e] at hs1;simp at hs1;exact h2 hs1
  generalize Lib.bitLenAux 64 (lim n k)=c at*;obtain⟨d,rfl⟩:∃d,c=d+1:=⟨c-1,by omega⟩;rw[Nat.add_sub_cancel] at hs2;refine⟨?_,fun _=>?_⟩
  ·rw[Nat.pow_add,<-hb,nC];have: (lim n k+1)*BB^k<=2^(d+1)*BB^k:=nR _ hs1;rw[Nat.add_mul,Nat.one_mul] at this;omega
  ·rw[show 64*k+(d+1)-1=64*k+d by omega,Nat.pow_add,<-hb,nC];have:2^d*BB^k<=lim n k*BB^k:=nR _ hs2;omega
theorem CB{n:Nat}(h:n<BB^16)(k:Nat):eJ n<=k↔n<2^k:=by
 obtain⟨h1,h2⟩:=Fb h;constructor
 ·intro hk;exact nU h1 (Nat.pow_le_pow_right (by omega) hk)
 ·intro hk;rcases nO k (eJ n) with h3|h3
  ·have h4:n≠0:=by rintro rfl;simp[eJ] at h3
   have:=nT (Nat.pow_le_pow_right (n:=2) (by omega) (show k<=eJ n-1 by omega)) (h2 h4);omega
  ·exact h3
theorem ub(n:Nat):eJ n<=1024:=by
 unfold eJ;split
 ·omega
 ·have:=sF n 16;have:=Lib.bitLen_le (lim n (ku n 16-1)) 64 (by omega) (by have:=uK n (ku n 16-1);omega);omega
theorem AL{n:Nat}(h:n<BB^16):eJ n<=1023↔n<mK:=by obtain⟨k,hk⟩:∃k,k=1023:=⟨_,rfl⟩;rw[<-hk,<-G9 hk];exact CB h k
def Ha(neg:Bool)(n:Nat):Int:=if neg then-(n:Int) else n
def rh(neg:Bool)(n:Nat):WI:=WI.mk' (Ha neg n)
theorem AM(neg:Bool)(n:Nat): (Ha neg n).natAbs=n:=by unfold Ha;split <;> omega
theorem Hb{neg:Bool}{n:Nat}(h:¬n<mK):wc (rh neg n)=eE false true 0:=by unfold rh WI.mk';rw[dif_neg (by rw[AM];exact h)];rfl
theorem LM{neg:Bool}{n:Nat}(h:n<mK):wc (rh neg n)=eE (neg&& !(n==0)) false n:=by
 unfold rh WI.mk';rw[dif_pos (by rw[AM];exact h)];show eE (decide (Ha neg n<0)) false (Ha neg n).natAbs=_;rw[AM];congr 1;unfold Ha;cases neg
 ·simp
 ·rw[Bool.eq_iff_iff];simp;omega
theorem kv(w:World):Calls prog 243 #[] w fun e w'=>e= .returned (.agg (eE false true 0))/\Below w.heap.size w w':=by
 go_enter func243,ntmps243;go_wp2_with fail;have hr: ((w.alloc (.cells (eE false false 0) 200)).setCells w.heap.size 0 (eE false true 0).toList).aI w.heap.size=some (eE false true 0):=by rw[bp _ _ _ _ (eE false false 0) (by simp[af,aq]) (by simp[bT]),Array.toArray_toList,fT (by rw[bT,bT])]
 exact bodyPost_ret (cL (fn:=Tryz.f243) rfl rfl (fW hr (bT _ _ _))) rfl ⟨rfl,aa ((bZ _ _).alloc (nL _) _) (nL _) _ _⟩
theorem ee{w:World}{g:Nat}{cs:Array Value}(h:w.aI g=some (eE false false 0))(hs:cs.size=18): (w.setCells g 0 cs.toList).aI g=some cs:=by rw[bp _ _ _ _ _ h (by simp[bT,hs]),Array.toArray_toList,fT (by rw[bT,hs])]
theorem dp{w:World}{g n:Nat}(h:w.aI g=some (bP n))(hn:n<BB^16):fG w g 0 n:=⟨hn,fun i hi=>by rw[ao h,Nat.zero_add,fx n i hi]⟩
theorem bA{w:World}{g n:Nat}{x y:Bool}(h:w.aI g=some (eE x y n))(hn:n<BB^16):fG w g 2 n:=⟨hn,fun i hi=>by rw[ao h,AJ x y n i hi]⟩
theorem lg(neg:Bool)(n:Nat)(hn:n<BB^16)(w:World):Calls prog 242 #[.bool neg,.agg (bP n)] w fun e w'=>e= .returned (.agg (wc (rh neg n)))/\Below w.heap.size w w':=by
 have S:fG ((w.alloc (.cells (bP n) 198)).alloc (.cells (eE false false 0) 200)) w.heap.size 0 n:=dp (by simp[af,aq]) hn;have HC:=qD (wu _ _ _ _ S);have hb:=ub n;have HN:=qD hn;have B0:Hid (Below w.heap.size w ((w.alloc (.cells (bP n) 198)).alloc (.cells (eE false false 0) 200))):=((bZ _ _).alloc (nL _) _).alloc (by simp) _;by_cases hbig:n<mK
 ·have hle:eJ n<=1023:=(AL hn).2 hbig;have HM:=qD (LM (neg:=neg) hbig);have HE:=qD (iC hn (show 0<BB^16 by decide+kernel));obtain⟨y,hy⟩:∃y,eJ n=y:=⟨_,rfl⟩;rw[hy] at HC hle hb;clear hy S hbig hn;cases neg
  all_goals
   go_enter func242,ntmps242;go_wp2_with (go_at_call 288;refine(HC.o).mono ?_;rintro e w' ⟨rfl,rfl⟩)
   go_region
   go_wp2_with fail;rw[HM.o]
  all_goals
   refine bodyPost_ret (cL (fn:=Tryz.f242) rfl rfl (fW (ee (by simp[af,uX,aq]) (bT _ _ _)) (bT _ _ _))) rfl ⟨?_,aa (below_drewN B0.o 1) (by omega) _ _⟩
   try rw[HE.o]
   first|rfl|simp
 ·have hgt:1023<eJ n:=by
   rcases nO 1023 (eJ n) with h|h
   ·exact h
   ·exact absurd ((AL hn).1 h) hbig
  have HM:=qD (Hb (neg:=neg) hbig);obtain⟨y,hy⟩:∃y,eJ n=y:=⟨_,rfl⟩;rw[hy] at HC hgt hb;clear hy S hbig hn;go_enter func242,ntmps242;go_wp2_with (first|(go_at_call 288;refine(HC.o).mono ?_;rintro e w' ⟨rfl,rfl⟩)|(go_at_call 243;refine(kv _).mono ?_;rintro e w1 ⟨rfl,hb1⟩;have B1:=qD hb1;have hk2:w1.aI (w.heap.size+1)=some (eE false false 0):=(by rw[ah hb1 (by simp)];simp[af,aq]);clear hb1));rw[HM.o];exact bodyPost_ret (cL (fn:=Tryz.f242) rfl rfl (fW (ee hk2 (bT _ _ _)) (bT _ _ _))) rfl ⟨rfl,aa (B0.o.trans (B1.o.mono (by simp;omega))) (by omega) _ _⟩
def wOf(n:Int):WI:=WI.mk' n
theorem Ui{n:Int}(h1:-9223372036854775808<=n)(h2:n<=9223372036854775807):wc (wOf n)=SU (decide (n<0)) (n.natAbs:Nat):=by rw[Uh _ n.natAbs (by unfold BB;omega)];unfold wOf WI.mk';rw[dif_pos (Nat.lt_trans (m:=BB) (by unfold BB;omega) (by decide+kernel))];rfl
theorem LN(a:WI)(w:World):Calls prog 353 #[.agg (wc a)] w fun e w'=>e= .returned (.bool a.over)/\Below w.heap.size w w':=by go_enter func353,ntmps353;go_wp2;go_ret;exact⟨rfl,(bZ _ _).alloc (nL _) _⟩
theorem sI(n:Int):IntKind.u64.wrap n=n%18446744073709551616:=by simp[IntKind.wrap,IntKind.bits,IntKind.signed]
theorem Uj(n:Int)(w:World)(h1:-9223372036854775808<=n)(h2:n<=9223372036854775807):Calls prog 179 #[.int .i64 n] w fun e w'=>e= .returned (.agg (wc (wOf n)))/\Below w.heap.size w w':=by
 have HW:=qD (Ui h1 h2);by_cases h0:n<0
 ·have HA:Hid ((n.natAbs:Int)= -n):=by unfold Hid;omega
  have HD:Hid (decide (n<0)=true):=by simp[Hid,h0]
  obtain⟨m,hm,hm2⟩:∃m,IntKind.u64.wrap n=m/\IntKind.u64.wrap (-m)= -n:=⟨_,rfl,by rw[sI,sI];omega⟩;clear h1;go_enter func179,ntmps179;go_wp2_with fail;rw[HW.o,HA.o,HD.o];exact bodyPost_ret (cL (fn:=Tryz.f179) rfl rfl (fW (ee (by simp[af,aq]) (ra _ _)) (ra _ _))) rfl ⟨rfl,aa ((bZ _ _).alloc (nL _) _) (nL _) _ _⟩
 ·have HA:Hid ((n.natAbs:Int)=n):=by unfold Hid;omega
  have HD:Hid (decide (n<0)=false):=by simpa[Hid] using h0
  have hm:IntKind.u64.wrap n=n:=by rw[sI];omega
  clear h1;go_enter func179,ntmps179;go_wp2_with fail;rw[HW.o,HA.o,HD.o];exact bodyPost_ret (cL (fn:=Tryz.f179) rfl rfl (fW (ee (by simp[af,aq]) (ra _ _)) (ra _ _))) rfl ⟨rfl,aa ((bZ _ _).alloc (nL _) _) (nL _) _ _⟩
attribute [go_sem] dD fI
theorem fG.re{w:World}{b o n:Nat}(h:fG w b o n)(d:Nat)(os:Array Obj):fG (Sort.grow (redrawn w d) os) b o n:=h.below (below_regrown w d os) h.lt
def CC(a:WI):WI:=match a.val with|none=>a|some n=>WI.mk' (-n)
def nX(a b:WI):WI:=match a.val,b.val with|some x,some y=>WI.mk' (x+y)|_,_=>WI.ov
def Uk(a b:WI):WI:=nX a (CC b)
def rk(a:WI):Int:=match a.val with|none=>0|some n=>if n<0 then-1 else if n=0 then 0 else 1
theorem WI.iT{a:WI}:a.over=true↔a.val=none:=by simp[WI.over]
theorem WI.iU{a:WI}(h:a.over=false):∃n,a.val=some n/\a.neg=decide (n<0)/\a.abs=n.natAbs:=by
 obtain⟨v,ok⟩:=a;cases v with
 |none=>simp[WI.over] at h
 |some n=>exact⟨n,rfl,rfl,rfl⟩
theorem I6{a:WI}(h:a.over=true):CC a=a:=by rw[WI.iT] at h;unfold CC;rw[h]
theorem P1{a:WI}(h:a.over=false):CC a=rh (!a.neg) a.abs:=by
 obtain⟨n,h1,h2,h3⟩:=WI.iU h;unfold CC rh;rw[h1,h2,h3];unfold Ha;by_cases h0:n<0
 ·have e:decide (n<0)=true:=by simpa using h0
  rw[e];show WI.mk' (-n)=WI.mk' ((n.natAbs:Nat):Int);congr 1;omega
 ·have e:decide (n<0)=false:=by simpa using h0
  rw[e];show WI.mk' (-n)=WI.mk' (-((n.natAbs:Nat):Int));congr 1;omega
theorem P2(a:WI)(w:World): ((w.alloc (.cells (wc a) 200)).alloc (.cells (eE false false 0) 200)).aI w.heap.size=some (wc a)/\((w.alloc (.cells (wc a) 200)).alloc (.cells (eE false false 0) 200)).aI (w.heap.size+1)=some (eE false false 0)/\Below w.heap.size w ((w.alloc (.cells (wc a) 200)).alloc (.cells (eE false false 0) 200))/\((w.alloc (.cells (wc a) 200)).alloc (.cells (eE false false 0) 200)).heap.size=w.heap.size+2:=
 ⟨by simp[af,aq],by simp[af,aq],((bZ _ _).alloc (nL _) _).alloc (by simp) _,by simp⟩
theorem Hc(a:WI)(w:World):Calls prog 268 #[.agg (wc a)] w fun e w'=>e= .returned (.agg (wc (CC a)))/\Below w.heap.size w w':=by
 obtain⟨k1,k2,B0,z0⟩:=P2 a w;have B0:=qD B0;cases ho:a.over
 ·have HN:=qD (P1 ho);clear k1 k2 z0;go_enter func268,ntmps268;go_wp2_with (go_at_call 242;refine(lg _ _ a.bQ _).mono ?_;rintro e w1 ⟨rfl,hb1⟩;have B1:=qD hb1;have hk2:w1.aI (w.heap.size+1)=some (eE false false 0):=(by rw[ah hb1 (by simp)];simp[af,aq]);clear hb1);rw[HN.o];exact bodyPost_ret (cL (fn:=Tryz.f268) rfl rfl (fW (ee hk2 (cP _)) (cP _))) rfl ⟨rfl,aa (B0.o.trans (B1.o.mono (by simp;omega))) (by omega) _ _⟩
 ·have HN:=qD (I6 ho);clear k1 k2 z0;go_enter func268,ntmps268;go_wp2_with fail;rw[HN.o];exact bodyPost_ret (cL (fn:=Tryz.f268) rfl rfl (fW (ee (by simp[af,aq]) (cP _)) (cP _))) rfl ⟨rfl,aa B0.o (by omega) _ _⟩
theorem LO(a:WI)(w:World):Calls prog 135 #[.agg (wc a)] w fun e w'=>e= .returned (.int .i64 (rk a))/\Below w.heap.size w w':=by
 have HE:=qD (iC a.bQ (show 0<BB^16 by decide+kernel));cases ho:a.over
 ·obtain⟨n,h1,h2,h3⟩:=WI.iU ho;have HS:Hid (rk a=if n<0 then-1 else if n=0 then 0 else 1):=by unfold Hid rk;rw[h1]
  by_cases hz:n=0
  ·have he:j8 a.abs 0=true:=by rw[HE.o,h3,hz];rfl
   have HZ:=qD hz;clear h1 h2 h3 hz;go_enter func135,ntmps135;go_wp2_with fail;go_ret;exact⟨iR (by rw[HS.o,HZ.o];rfl),(bZ _ _).alloc (nL _) _⟩
  ·have he:j8 a.abs 0=false:=by rw[HE.o,h3];simpa using hz
   by_cases hn:n<0
   ·have hg:a.neg=true:=by rw[h2];simpa using hn
    have HZ:=qD hn;clear h1 h2 h3 hz hn;go_enter func135,ntmps135;go_wp2_with fail;go_ret;exact⟨iR (by rw[HS.o,if_pos HZ.o]),(bZ _ _).alloc (nL _) _⟩
   ·have hg:a.neg=false:=by rw[h2];simpa using hn
    have HZ:=qD hn;have HZ':=qD hz;clear h1 h2 h3 hz hn;go_enter func135,ntmps135;go_wp2_with fail;go_ret;exact⟨iR (by rw[HS.o,if_neg (Int.not_lt.2 HZ.o),if_neg HZ'.o]),(bZ _ _).alloc (nL _) _⟩
 ·have HS:Hid (rk a=0):=by unfold Hid rk;rw[WI.iT.1 ho]
  go_enter func135,ntmps135;go_wp2_with fail;go_ret;exact⟨iR HS.o.symm,(bZ _ _).alloc (nL _) _⟩
theorem I7{a b:WI}(h:a.over=true∨b.over=true):wc (nX a b)=eE false true 0:=by
 have:nX a b=WI.ov:=by
  unfold nX;rcases h with h|h
  ·rw[WI.iT.1 h]
  ·rw[WI.iT.1 h];cases a.val <;> rfl
 rw[this];rfl
theorem AN{n:Int}{x:Bool}(h:x=decide (n<0)):Ha x n.natAbs=n:=by
 subst h;by_cases h0:n<0
 ·have e:decide (n<0)=true:=by simpa using h0
  rw[e];show-((n.natAbs:Nat):Int)=n;omega
 ·have e:decide (n<0)=false:=by simpa using h0
  rw[e];show((n.natAbs:Nat):Int)=n;omega
theorem wv{a b:WI}(ha:a.over=false)(hb:b.over=false):nX a b=WI.mk' (Ha a.neg a.abs+Ha b.neg b.abs):=by obtain⟨n,h1,h2,h3⟩:=WI.iU ha;obtain⟨m,k1,k2,k3⟩:=WI.iU hb;unfold nX;rw[h1,k1,h3,k3,AN h2,AN k2]
theorem I8{a b:WI}(ha:a.over=false)(hb:b.over=false)(h:a.neg=b.neg):nX a b=rh a.neg (a.abs+b.abs):=by rw[wv ha hb,<-h];unfold rh;congr 1;unfold Ha;split <;> omega
theorem P3{a b:WI}(ha:a.over=false)(hb:b.over=false)(h:a.neg≠b.neg)(hle:b.abs<=a.abs):nX a b=rh a.neg (a.abs-b.abs):=by rw[wv ha hb];unfold rh;congr 1;unfold Ha;cases hx:a.neg <;> cases hy:b.neg <;> simp_all <;> omega
theorem P4{a b:WI}(ha:a.over=false)(hb:b.over=false)(h:a.neg≠b.neg)(hle:a.abs<=b.abs):nX a b=rh b.neg (b.abs-a.abs):=by rw[wv ha hb];unfold rh;congr 1;unfold Ha;cases hx:a.neg <;> cases hy:b.neg <;> simp_all <;> omega
theorem Ul(a b:WI):pS a.abs b.abs 16=0:=by
 unfold pS;rw[nM a.bQ,nM b.bQ];have h1:=a.pB;have h2:=b.pB;have h3:mK+mK=BB^16:=by decide+kernel
 exact Nat.div_eq_of_lt (by omega)
theorem P5(a b:WI):a.abs+b.abs<BB^16:=by
 have h1:=a.pB;have h2:=b.pB;have h3:mK+mK=BB^16:=by decide+kernel
 omega
theorem jD(a b:WI)(w:World): (((w.alloc (.cells (wc a) 200)).alloc (.cells (wc b) 200)).alloc (.cells (eE false false 0) 200)).aI w.heap.size=some (wc a)/\(((w.alloc (.cells (wc a) 200)).alloc (.cells (wc b) 200)).alloc (.cells (eE false false 0) 200)).aI (w.heap.size+1)=some (wc b)/\(((w.alloc (.cells (wc a) 200)).alloc (.cells (wc b) 200)).alloc (.cells (eE false false 0) 200)).aI (w.heap.size+2)=some (eE false false 0)/\Below w.heap.size w (((w.alloc (.cells (wc a) 200)).alloc (.cells (wc b) 200)).alloc (.cells (eE false false 0) 200)):=
 ⟨by simp[af,aq];intro h;omega,by simp[af,aq],by simp[af,aq],(((bZ _ _).alloc (nL _) _).alloc (by simp) _).alloc (by simp;omega) _⟩
theorem I9(a b:WI)(w:World)(h:a.over=true∨b.over=true):Calls prog 267 #[.agg (wc a),.agg (wc b)] w fun e w'=>e= .returned (.agg (wc (nX a b)))/\Below w.heap.size w w':=by
 obtain⟨k1,k2,k3,b0⟩:=jD a b w;have B0:=qD b0;clear b0;have HN:=qD (I7 h);have hcase:a.over=true∨(a.over=false/\b.over=true):=by
  cases ha:a.over
  ·right;refine⟨rfl,?_⟩;rcases h with h|h
   ·rw[ha] at h;cases h
   ·exact h
  ·left;rfl
 clear k1 k2 h;rcases hcase with ho|⟨ho,ho'⟩
 all_goals
  go_enter func267,ntmps267;go_wp2_with (go_at_call 243;refine(kv _).mono ?_;rintro e w1 ⟨rfl,hb1⟩;have B1:=qD hb1;obtain⟨q1,q2,q3,q4⟩:=kU hb1 (w.heap.size+3) (by simp);clear hb1);rw[HN.o];exact bodyPost_ret (cL (fn:=Tryz.f267) rfl rfl (fW (ee ((q1 _ (by omega)).trans k3) (bT _ _ _)) (bT _ _ _))) rfl ⟨rfl,aa (B0.o.trans (B1.o.mono (by simp;omega))) (by omega) _ _⟩
theorem Ja(a b:WI)(w:World)(ha:a.over=false)(hb:b.over=false)(h:a.neg=b.neg):Calls prog 267 #[.agg (wc a),.agg (wc b)] w fun e w'=>e= .returned (.agg (wc (nX a b)))/\Below w.heap.size w w':=by
 obtain⟨k1,k2,k3,b0⟩:=jD a b w;have HA:=qD (AH _ 2 a.abs _ 2 b.abs _ (bA k1 a.bQ) (bA k2 b.bQ));rw[Ul,show((0:Nat):Int)=0 from rfl] at HA;have B0:=qD b0;clear b0;have HN:=qD (I8 ha hb h);have he: (a.neg==b.neg)=true:=by rw[h];simp
 clear k1 k2 h;go_enter func267,ntmps267;go_wp2_with (first|(go_at_call 241;refine(HA.o).mono ?_;rintro e w1 ⟨rfl,hb1⟩;have B1:=qD hb1;obtain⟨q1,q2,q3,q4⟩:=kU hb1 (w.heap.size+3) (by simp);have l0:w.heap.size<w1.heap.size:=(by omega);have l1:w.heap.size+1<w1.heap.size:=(by omega);have l2:w.heap.size+1+1<w1.heap.size:=(by omega);have n0:¬w.heap.size=w1.heap.size:=(by omega);have n2:¬w.heap.size+1+1=w1.heap.size:=(by omega);clear hb1)|(go_at_call 242;refine(lg _ _ (P5 a b) _).mono ?_;rintro e w2 ⟨rfl,hb2⟩;have B2:=qD hb2;obtain⟨p1,p2,p3,p4⟩:=kU hb2 (w.heap.size+3) (by simp;omega);clear hb2));rw[HN.o];have k2:w2.aI (w.heap.size+1+1)=some (eE false false 0):=by rw[p1 _ (by omega)];simp only[go_sem,af,if_neg n2,uv _ _ _ _ _ n2];exact(q1 _ (by omega)).trans k3
 exact bodyPost_ret (cL (fn:=Tryz.f267) rfl rfl (fW (ee k2 (cP _)) (cP _))) rfl ⟨rfl,aa (B0.o.trans ((aa ((B1.o.mono (by simp;omega)).alloc (by omega) _) (by omega) _ _).trans (B2.o.mono (by simp;omega)))) (by omega) _ _⟩
theorem uM{n m:Nat}(h:m<=n): (0:Int)<=pT n m:=by unfold pT;split <;> (try split) <;> omega
theorem AO{n m:Nat}(h:n<m):pT n m= -1:=by unfold pT;rw[if_pos h]
theorem P6(a b:WI)(w:World)(ha:a.over=false)(hb:b.over=false)(h:a.neg≠b.neg)(hle:b.abs<=a.abs):Calls prog 267 #[.agg (wc a),.agg (wc b)] w fun e w'=>e= .returned (.agg (wc (nX a b)))/\Below w.heap.size w w':=by
 obtain⟨k1,k2,k3,b0⟩:=jD a b w;have S1:=qD (bA k1 a.bQ);have S2:=qD (bA k2 b.bQ);have HA:=qD (lS _ 2 a.abs _ 2 b.abs _ (bA k1 a.bQ) (bA k2 b.bQ));have B0:=qD b0;clear b0;have HN:=qD (P3 ha hb h hle);have he: (a.neg==b.neg)=false:=by simpa using h
 have hc:=uM hle;have HL:Hid (b.abs<=a.abs):=by unfold Hid;omega
 have HM:a.abs-b.abs<BB^16:=by have:=a.bQ;omega
 generalize pT a.abs b.abs=c at*;clear k1 k2 h hle;go_enter func267,ntmps267;go_wp2_with (go_at_call 289;refine(HA.o).mono ?_;rintro e w1 ⟨rfl,n,rfl⟩);refine ar 5 ?_;simp only[tA,tD,tC,tE]
 repeat quiet_step ((go_at_call 304;exact Calls.regrown_of (G8 _ _ _ _ _ _ _ ((S1.o.drewN n).re _ _) ((S2.o.drewN n).re _ _) HL.o)))
 refine wpQuiet_nil ?_;intro w1 hb1;have B1:=qD hb1;obtain⟨q1,q2,q3,q4⟩:=kU hb1 (w.heap.size+3) (by simp);clear hb1;go_wp2_with (go_at_call 242;refine(lg _ _ HM _).mono ?_;rintro e w2 ⟨rfl,hb2⟩;have B2:=qD hb2;obtain⟨p1,p2,p3,p4⟩:=kU hb2 (w.heap.size+3) (by omega);clear hb2);rw[HN.o];exact bodyPost_ret (cL (fn:=Tryz.f267) rfl rfl (fW (ee ((p1 _ (by omega)).trans ((q1 _ (by omega)).trans k3)) (cP _)) (cP _))) rfl ⟨rfl,aa (((below_drewN B0.o n).trans (B1.o.mono (by simp;omega))).trans (B2.o.mono (by omega))) (by omega) _ _⟩
theorem P7(a b:WI)(w:World)(ha:a.over=false)(hb:b.over=false)(h:a.neg≠b.neg)(hle:a.abs<b.abs):Calls prog 267 #[.agg (wc a),.agg (wc b)] w fun e w'=>e= .returned (.agg (wc (nX a b)))/\Below w.heap.size w w':=by
 obtain⟨k1,k2,k3,b0⟩:=jD a b w;have S1:=qD (bA k1 a.bQ);have S2:=qD (bA k2 b.bQ);have HA:=qD (lS _ 2 a.abs _ 2 b.abs _ (bA k1 a.bQ) (bA k2 b.bQ));have B0:=qD b0;clear b0;have HN:=qD (P4 ha hb h (Nat.le_of_lt hle));have he: (a.neg==b.neg)=false:=by simpa using h
 rw[AO hle] at HA;have HL:Hid (a.abs<=b.abs):=by unfold Hid;omega
 have HM:b.abs-a.abs<BB^16:=by have:=b.bQ;omega
 clear k1 k2 h hle;go_enter func267,ntmps267;go_wp2_with (go_at_call 289;refine(HA.o).mono ?_;rintro e w1 ⟨rfl,n,rfl⟩);refine ar 5 ?_;simp only[tA,tD,tC,tE]
 repeat quiet_step ((go_at_call 304;exact Calls.regrown_of (G8 _ _ _ _ _ _ _ ((S2.o.drewN n).re _ _) ((S1.o.drewN n).re _ _) HL.o)))
 refine wpQuiet_nil ?_;intro w1 hb1;have B1:=qD hb1;obtain⟨q1,q2,q3,q4⟩:=kU hb1 (w.heap.size+3) (by simp);clear hb1;go_wp2_with (go_at_call 242;refine(lg _ _ HM _).mono ?_;rintro e w2 ⟨rfl,hb2⟩;have B2:=qD hb2;obtain⟨p1,p2,p3,p4⟩:=kU hb2 (w.heap.size+3) (by omega);clear hb2);rw[HN.o];exact bodyPost_ret (cL (fn:=Tryz.f267) rfl rfl (fW (ee ((p1 _ (by omega)).trans ((q1 _ (by omega)).trans k3)) (cP _)) (cP _))) rfl ⟨rfl,aa (((below_drewN B0.o n).trans (B1.o.mono (by simp;omega))).trans (B2.o.mono (by omega))) (by omega) _ _⟩
theorem CD(a b:WI)(w:World):Calls prog 267 #[.agg (wc a),.agg (wc b)] w fun e w'=>e= .returned (.agg (wc (nX a b)))/\Below w.heap.size w w':=by
 by_cases h:a.over=true∨b.over=true
 ·exact I9 a b w h
 ·have ha:a.over=false:=by cases hx:a.over;rfl;exact absurd (.inl hx) h
  have hb:b.over=false:=by cases hx:b.over;rfl;exact absurd (.inr hx) h
  by_cases hs:a.neg=b.neg
  ·exact Ja a b w ha hb hs
  ·rcases nO a.abs b.abs with hl|hl
   ·exact P7 a b w ha hb hs hl
   ·exact P6 a b w ha hb hs hl
theorem LP(a b:WI)(w:World):Calls prog 207 #[.agg (wc a),.agg (wc b)] w fun e w'=>e= .returned (.agg (wc (Uk a b)))/\Below w.heap.size w w':=by
 obtain⟨k1,k2,k3,b0⟩:=jD a b w;have B0:=qD b0;clear b0 k1 k2;go_enter func207,ntmps207;go_wp2_with fail;refine ar 4 ?_;simp only[tA,tD,tC,tE]
 repeat quiet_step ((first|(go_at_call 268;exact Calls.regrown_of (Hc _ _))|(go_at_call 267;exact Calls.regrown_of (CD _ _ _))))
 refine wpQuiet_nil ?_;intro w1 hb1;have B1:=qD hb1;obtain⟨q1,q2,q3,q4⟩:=kU hb1 (w.heap.size+3) (by simp);clear hb1;go_wp2_with fail;exact bodyPost_ret (cL (fn:=Tryz.f207) rfl rfl (fW (ee ((q1 _ (by omega)).trans k3) (cP _)) (cP _))) rfl ⟨rfl,aa (B0.o.trans (B1.o.mono (by simp;omega))) (by omega) _ _⟩
attribute [go_sem] dD fI
def sJ(a b:WI):Int×Bool:=match a.val,b.val with
 |some n,some m=>(if n<m then-1 else if m<n then 1 else 0,true)
 |_,_=>(0,false)
def lj(a:WI):Int×Bool:=match a.val with
 |some n=>if-9223372036854775808<=n/\n<=9223372036854775807 then(n,true) else(0,false)
 |none=>(0,false)
theorem cQ{k:IntKind}{a b:Int}{x y:Bool}(h:a=b)(h':x=y):Ending.returned (.tuple #[.int k a,.bool x])= .returned (.tuple #[.int k b,.bool y]):=by rw[h,h']
theorem LQ(a b:WI)(w:World):Calls prog 310 #[.agg (wc a),.agg (wc b)] w fun e w'=>e= .returned (.tuple #[.int .i64 (sJ a b).1,.bool (sJ a b).2])/\Below w.heap.size w w':=by
 have b0:Below w.heap.size w ((w.alloc (.cells (wc a) 200)).alloc (.cells (wc b) 200)):=((bZ _ _).alloc (nL _) _).alloc (by simp) _;have B0:=qD b0;have k1: ((w.alloc (.cells (wc a) 200)).alloc (.cells (wc b) 200)).aI w.heap.size=some (wc a):=by simp[af,aq]
 have k2: ((w.alloc (.cells (wc a) 200)).alloc (.cells (wc b) 200)).aI (w.heap.size+1)=some (wc b):=by simp[af,aq]
 have HA:=qD (lS _ 2 a.abs _ 2 b.abs _ (bA k1 a.bQ) (bA k2 b.bQ));have HB:=qD (lS _ 2 b.abs _ 2 a.abs _ (bA k2 b.bQ) (bA k1 a.bQ));clear k1 k2 b0;cases ha:a.over
 ·cases hb:b.over
  ·obtain⟨n,h1,h2,h3⟩:=WI.iU ha;obtain⟨m,j1,j2,j3⟩:=WI.iU hb;have HV:Hid (sJ a b=(if n<m then-1 else if m<n then 1 else 0,true)):=by unfold Hid sJ;rw[h1,j1]
   have HN:Hid (a.abs=n.natAbs/\b.abs=m.natAbs):=⟨h3,j3⟩;by_cases hn:n<0
   ·have na:a.neg=true:=by rw[h2];simpa using hn
    by_cases hm:m<0
    ·have nb:b.neg=true:=by rw[j2];simpa using hm
     have HF:Hid (pT b.abs a.abs=(if n<m then-1 else if m<n then 1 else 0)):=by unfold Hid pT;rw[HN.o.1,HN.o.2];(repeat' split) <;> omega
     clear h1 h2 h3 j1 j2 j3 hn hm;go_enter func310,ntmps310;go_wp2_with (go_at_call 289;refine(HB.o).mono ?_;rintro e w1 ⟨rfl,k,rfl⟩);go_ret2;exact⟨cQ (by rw[HV.o];exact HF.o) (by rw[HV.o]),below_drewN B0.o k⟩
    ·have nb:b.neg=false:=by rw[j2];simpa using hm
     have HF:Hid ((if n<m then(-1:Int) else if m<n then 1 else 0)= -1):=by unfold Hid;rw[if_pos (by omega)]
     clear h1 h2 h3 j1 j2 j3 hn hm;go_enter func310,ntmps310;go_wp2_with fail;go_ret2;exact⟨cQ (by rw[HV.o];exact HF.o.symm) (by rw[HV.o]),B0.o⟩
   ·have na:a.neg=false:=by rw[h2];simpa using hn
    by_cases hm:m<0
    ·have nb:b.neg=true:=by rw[j2];simpa using hm
     have HF:Hid ((if n<m then(-1:Int) else if m<n then 1 else 0)=1):=by unfold Hid;rw[if_neg (by omega),if_pos (by omega)]
     clear h1 h2 h3 j1 j2 j3 hn hm;go_enter func310,ntmps310;go_wp2_with fail;go_ret2;exact⟨cQ (by rw[HV.o];exact HF.o.symm) (by rw[HV.o]),B0.o⟩
    ·have nb:b.neg=false:=by rw[j2];simpa using hm
     have HF:Hid (pT a.abs b.abs=(if n<m then-1 else if m<n then 1 else 0)):=by unfold Hid pT;rw[HN.o.1,HN.o.2];(repeat' split) <;> omega
     clear h1 h2 h3 j1 j2 j3 hn hm;go_enter func310,ntmps310;go_wp2_with (go_at_call 289;refine(HA.o).mono ?_;rintro e w1 ⟨rfl,k,rfl⟩);go_ret2;exact⟨cQ (by rw[HV.o];exact HF.o) (by rw[HV.o]),below_drewN B0.o k⟩
  ·have HV:Hid (sJ a b=(0,false)):=by unfold Hid sJ;rw[WI.iT.1 hb];cases a.val <;> rfl
   go_enter func310,ntmps310;go_wp2_with fail;go_ret2;exact⟨cQ (by rw[HV.o]) (by rw[HV.o]),B0.o⟩
 ·have HV:Hid (sJ a b=(0,false)):=by unfold Hid sJ;rw[WI.iT.1 ha]
  go_enter func310,ntmps310;go_wp2_with fail;go_ret2;exact⟨cQ (by rw[HV.o]) (by rw[HV.o]),B0.o⟩
theorem Fc(a:WI)(w:World):Calls prog 239 #[.agg (wc a)] w fun e w'=>e= .returned (.tuple #[.int .i64 (lj a).1,.bool (lj a).2])/\Below w.heap.size w w':=by
 have B0:Hid (Below w.heap.size w (w.alloc (.cells (wc a) 200))):=(bZ _ _).alloc (nL _) _;have k1: (w.alloc (.cells (wc a) 200)).aI w.heap.size=some (wc a):=by simp[af,aq]
 have HC:=qD (wu _ 2 a.abs _ (bA k1 a.bQ));have hb:=ub a.abs;cases ha:a.over
 ·obtain⟨n,h1,h2,h3⟩:=WI.iU ha;have HV:Hid (lj a=if-9223372036854775808<=n/\n<=9223372036854775807 then(n,true) else(0,false)):=by unfold Hid lj;rw[h1]
  have hnb:eJ a.abs<=64↔a.abs<18446744073709551616:=CB a.bQ 64;by_cases hbig:a.abs<18446744073709551616
  ·have hy:=hnb.2 hbig;have hl0:lim a.abs 0=a.abs:=by unfold lim;rw[Nat.pow_zero,Nat.div_one];exact nM hbig
   obtain⟨z,hz⟩:∃z:Int,((lim a.abs 0:Nat):Int)=z:=⟨_,rfl⟩;have hzz:z=n.natAbs:=by rw[<-hz,hl0,h3]
   obtain⟨y,hyy⟩:∃y,eJ a.abs=y:=⟨_,rfl⟩;rw[hyy] at HC hy hb;have hzl:z<18446744073709551616:=by omega
   have hz0:0<=z:=by omega
   have HZ:=qD hzz;by_cases hn:n<0
   ·have na:a.neg=true:=by rw[h2];simpa using hn
    by_cases hx:z<=9223372036854775808
    ·have t1:decide ((9223372036854775808:Int)<z)=false:=by simpa using hx
     have e1:IntKind.i64.wrap (IntKind.u64.wrap (-z))=n:=by rw[IntKind.wrap_i64,IntKind.wrap_u64];omega
     have HR:Hid ((if-9223372036854775808<=n/\n<=9223372036854775807 then(n,true) else(0,false))=(n,true)):=by unfold Hid;rw[if_pos (by omega)]
     clear h1 h2 h3 hzz hyy hl0 hbig hnb k1 hn hx hzl hz0;cases t2: (z==9223372036854775808)
     all_goals
      go_enter func239,ntmps239;go_wp2_with (go_at_call 288;refine(HC.o).mono ?_;rintro e w1 ⟨rfl,rfl⟩);go_ret2;exact⟨cQ (by rw[HV.o,HR.o]) (by rw[HV.o,HR.o]),B0.o⟩
    ·have t1:decide ((9223372036854775808:Int)<z)=true:=by simpa using hx
     have HR:Hid ((if-9223372036854775808<=n/\n<=9223372036854775807 then(n,true) else(0,false))=(0,false)):=by unfold Hid;rw[if_neg (by omega)]
     clear h1 h2 h3 hzz hyy hl0 hbig hnb k1 hn hx hzl hz0;go_enter func239,ntmps239;go_wp2_with (go_at_call 288;refine(HC.o).mono ?_;rintro e w1 ⟨rfl,rfl⟩);go_ret2;exact⟨cQ (by rw[HV.o,HR.o]) (by rw[HV.o,HR.o]),B0.o⟩
   ·have na:a.neg=false:=by rw[h2];simpa using hn
    by_cases hx:z<9223372036854775808
    ·have t1:decide ((9223372036854775808:Int)<z)=false:=by simp;omega
     have t2: (z==9223372036854775808)=false:=by simp;omega
     have e1:IntKind.i64.wrap z=n:=by rw[IntKind.wrap_i64];omega
     have HR:Hid ((if-9223372036854775808<=n/\n<=9223372036854775807 then(n,true) else(0,false))=(n,true)):=by unfold Hid;rw[if_pos (by omega)]
     clear h1 h2 h3 hzz hyy hl0 hbig hnb k1 hn hx hzl hz0;go_enter func239,ntmps239;go_wp2_with (go_at_call 288;refine(HC.o).mono ?_;rintro e w1 ⟨rfl,rfl⟩);go_ret2;exact⟨cQ (by rw[HV.o,HR.o]) (by rw[HV.o,HR.o]),B0.o⟩
    ·have HR:Hid ((if-9223372036854775808<=n/\n<=9223372036854775807 then(n,true) else(0,false))=(0,false)):=by unfold Hid;rw[if_neg (by omega)]
     have hx': (decide ((9223372036854775808:Int)<z)=false/\(z==9223372036854775808)=true)∨decide ((9223372036854775808:Int)<z)=true:=by
      by_cases h9:z=9223372036854775808
      ·left;subst h9;exact⟨rfl,rfl⟩
      ·right;simp;omega
     clear h1 h2 h3 hzz hyy hl0 hbig hnb k1 hn hx hzl hz0;rcases hx' with⟨t1,t2⟩|t1
     all_goals
      go_enter func239,ntmps239;go_wp2_with (go_at_call 288;refine(HC.o).mono ?_;rintro e w1 ⟨rfl,rfl⟩);go_ret2;exact⟨cQ (by rw[HV.o,HR.o]) (by rw[HV.o,HR.o]),B0.o⟩
  ·have hy:64<eJ a.abs:=by
    rcases nO 64 (eJ a.abs) with h|h
    ·exact h
    ·exact absurd (hnb.1 h) hbig
   obtain⟨y,hyy⟩:∃y,eJ a.abs=y:=⟨_,rfl⟩;rw[hyy] at HC hy hb;have HR:Hid ((if-9223372036854775808<=n/\n<=9223372036854775807 then(n,true) else(0,false))=(0,false)):=by unfold Hid;rw[if_neg (by omega)]
   clear h1 h2 h3 hyy hbig hnb k1;go_enter func239,ntmps239;go_wp2_with (go_at_call 288;refine(HC.o).mono ?_;rintro e w1 ⟨rfl,rfl⟩);go_ret2;exact⟨cQ (by rw[HV.o,HR.o]) (by rw[HV.o,HR.o]),B0.o⟩
 ·have HV:Hid (lj a=(0,false)):=by unfold Hid lj;rw[WI.iT.1 ha]
  clear k1 hb;go_enter func239,ntmps239;go_wp2_with fail;go_ret2;exact⟨cQ (by rw[HV.o]) (by rw[HV.o]),B0.o⟩
attribute [go_sem] dD fI
theorem LR(n q r i:Nat):lim (n*2^(64*q+r)) i=if i<q then 0 else lim (n*2^r) (i-q):=by
 have hb: (2:Nat)^(64*q+r)=BB^q*2^r:=sH q r _ rfl;rw[hb];unfold lim;split
 ·rename_i h;obtain⟨d,rfl⟩:∃d,q=i+(d+1):=⟨q-i-1,by omega⟩;rw[show n*(BB^(i+(d+1))*2^r)=BB^i*(BB*(n*BB^d*2^r)) by rw[Nat.pow_add,Nat.pow_succ];simp only[Nat.mul_assoc,nC,Nat.mul_left_comm]];rw[Nat.mul_div_cancel_left _ (aC i),Nat.mul_mod_right]
 ·rename_i h;obtain⟨d,rfl⟩:∃d,i=q+d:=⟨i-q,by omega⟩;rw[show q+d-q=d by omega,Nat.pow_add,show n*(BB^q*2^r)=BB^q*(n*2^r) by simp only[Nat.mul_left_comm]];rw[Nat.mul_div_mul_left _ _ (aC q)]
theorem CE(n r j:Nat)(hr:r<64):lim (n*2^r) j=lim n j*2^r%BB+if j=0 then 0 else lim n (j-1)/2^(64-r):=by
 have hp:0<2^r:=Nat.two_pow_pos r;have hbb:2^r*2^(64-r)=BB:=by rw[<-Nat.pow_add,show r+(64-r)=64 by omega];rfl
 have hc:∃c,n*2^r/BB^j=n/BB^j*2^r+c/\c<2^r/\c=if j=0 then 0 else lim n (j-1)/2^(64-r):=by
  by_cases h0:j=0
  ·subst h0;exact⟨0,by simp,hp,by simp⟩
  ·obtain⟨d,rfl⟩:∃d,j=d+1:=⟨j-1,by omega⟩;refine⟨lim n d/2^(64-r),?_,?_,by simp⟩
   ·have e1:BB^(d+1)=2^r*(BB^d*2^(64-r)):=by
     have:BB^(d+1)=BB^d*(2^r*2^(64-r)):=by rw[Nat.pow_succ,hbb]
     rw[this,Nat.mul_left_comm]
    have e3:n*2^r/BB^(d+1)=n/(BB^d*2^(64-r)):=by rw[e1,nC n,Nat.mul_div_mul_left _ _ hp]
    rw[e3,<-Nat.div_div_eq_div_mul];have e4:n/BB^d=n/BB^(d+1)*BB+lim n d:=by unfold lim;rw[Nat.pow_succ,<-Nat.div_div_eq_div_mul,nC];exact(Nat.div_add_mod _ _).symm
    rw[e4];generalize n/BB^(d+1)=y;have e5:y*BB=2^(64-r)*(y*2^r):=by rw[<-hbb,<-Nat.mul_assoc,nC]
    rw[e5,Nat.mul_add_div (Nat.two_pow_pos _)]
   ·rw[Nat.div_lt_iff_lt_mul (Nat.two_pow_pos _),hbb];exact cD n d
 obtain⟨c,h1,h2,h3⟩:=hc;rw[<-h3];unfold lim;rw[h1];have e5:n/BB^j*2^r%BB=n/BB^j%BB*2^r%BB:=by rw[Nat.mod_mul_mod]
 rw[<-e5];generalize n/BB^j=x;have e6:x*2^r%BB=x%2^(64-r)*2^r:=by rw[<-hbb,nC x,Nat.mul_mod_mul_left,nC]
 rw[Nat.add_mod,e6,nM (show c<BB by rw[<-hbb];exact nU h2 (Nat.le_mul_of_pos_right _ (Nat.two_pow_pos _)))];apply nM;have h5:=Nat.mod_lt x (Nat.two_pow_pos (64-r));have: (x%2^(64-r)+1)*2^r<=2^(64-r)*2^r:=nR _ h5;rw[Nat.add_mul,Nat.one_mul,nC (2^(64-r)),hbb] at this;omega
theorem pC(a r:Nat):IntKind.u64.wrap ((a:Nat)*2^r)=((a*2^r%BB:Nat):Int):=by rw[IntKind.wrap_u64,show((2:Int)^r)=((2^r:Nat):Int) by simp,<-Int.natCast_mul];rfl
theorem Ff(x c:Nat)(hx:x<BB)(hc:c<BB):bits .or .u64 (x:Int) (c:Int)=((x|||c:Nat):Int):=by
 show IntKind.u64.wrap ((BitVec.ofInt 64 (x:Int)|||BitVec.ofInt 64 (c:Int)).toNat:Int)=_;have e:∀a:Nat,a<BB->(BitVec.ofInt 64 (a:Int)).toNat=a:=fun a ha=>by rw[BitVec.ofInt_natCast,BitVec.toNat_ofNat];exact nM ha
 rw[BitVec.toNat_or,e x hx,e c hc,IntKind.wrap_u64];have:x|||c<2^64:=Nat.or_lt_two_pow hx hc
 omega
theorem CF(x y r:Nat)(hr:r<64)(hx:x<BB)(hx2:x%2^r=0)(hy:y<BB):bits .or .u64 (x:Int) ((y:Int)/2^(64-r))=((x+y/2^(64-r):Nat):Int):=by
 have hbb:2^r*2^(64-r)=BB:=by rw[<-Nat.pow_add,show r+(64-r)=64 by omega];rfl
 have hc:y/2^(64-r)<2^r:=by rw[Nat.div_lt_iff_lt_mul (Nat.two_pow_pos _),hbb];exact hy
 have e: ((y:Int)/2^(64-r))=((y/2^(64-r):Nat):Int):=by simp
 rw[e,Ff x _ hx (Nat.lt_of_le_of_lt (Nat.div_le_self _ _) hy)];congr 1;obtain⟨m,rfl⟩:=Nat.dvd_of_mod_eq_zero hx2;exact(Nat.two_pow_add_eq_or_of_lt hc m).symm
theorem AP(a r:Nat)(hr:r<64):a*2^r%BB%2^r=0:=by
 have hbb:BB=2^r*2^(64-r):=by rw[<-Nat.pow_add,show r+(64-r)=64 by omega];rfl
 rw[hbb,Nat.mod_mul_right_mod,Nat.mul_mod_left]
theorem LS(b o n k:Nat)(w:World)(h:fG w b o n)(hk:k<1024):
  Calls prog 292 #[.pointer (some ⟨b,o,none⟩),.int .i64 k] w fun e w'=>e= .returned (.agg (bP (n*2^k)))/\Below w.heap.size w w':=by
 have H:=qD h;clear h;obtain⟨q,hq⟩:∃q,k/64=q:=⟨_,rfl⟩;obtain⟨r,hr⟩:∃r,k%64=r:=⟨_,rfl⟩;have hqr:k=64*q+r:=by omega
 have hql:q<16:=by omega
 have hrl:r<64:=by omega
 have eq1: (k:Int)/64=(q:Int):=by omega
 have eq2: (k:Int)%64=(r:Int):=by omega
 have HK:Hid (∀i,lim (n*2^k) i=if i<q then 0 else lim (n*2^r) (i-q)):=by rw[hqr];exact fun i=>LR n q r i
 have HR:=qD (fun j=>CE n r j hrl);clear hq hr hqr;go_enter func292,ntmps292;go_wp2
 go_loopw [6] (fun i wr=>∃j:Nat,q<=j/\j<=16/\i= .int .i64 ((j:Int)-1)/\Below w.heap.size w wr/\wr.aI w.heap.size=some (bP 0)/\Part wr (w.heap.size+1) (fun m=>if j<=m then lim (n*2^k) m else 0)) (fun i _=>(intOf i+1).toNat)
 case atStart=>
  exact⟨16,by omega,by omega,rfl,((bZ _ _).alloc (nL _) _).alloc (by simp) _,by simp[af,aq],(Part.zero (by simp[af,aq])).congr fun i hi=>by rw[if_neg (by omega)]⟩
 case round=>
  obtain⟨j,hj1,hj2,rfl,hb,hz,hp⟩:=hrel;have HB:=qD hb;have HZ:=qD hz;have HP:=qD hp;by_cases h0:q<j
  ·obtain⟨i,rfl⟩:∃i,j=i+1:=⟨j-1,by omega⟩;rw[show(((i+1:Nat):Int)-1)=(i:Int) by omega];have hc:wr.cell? ⟨b,o+(i-q),none⟩=some (.int .u64 (lim n (i-q):Nat)):=(hb.cell (p:=⟨b,o+(i-q),none⟩) H.o.lt).trans (H.o.2 (i-q) (by omega));have hd:=hp.cell (show i<16 by omega);have hf:=hp.frozen i;have i1: (0:Int)<=(i:Int):=by omega
   have i2: (i:Int)<16:=by omega
   have hs1:IntKind.u64.wrap ((lim n (i-q):Nat)*2^r)=((lim n (i-q)*2^r%BB:Nat):Int):=pC _ _;have HLI:Hid (lim (n*2^k) i=lim (n*2^r) (i-q)):=by unfold Hid;rw[HK.o,if_neg (by omega)]
   have HLR:=qD (HR.o (i-q));have HX:=cD n (i-q);obtain⟨x,hx⟩:∃x,lim n (i-q)*2^r%BB=x:=⟨_,rfl⟩;have hx2:=AP (lim n (i-q)) r hrl;have hx3:x<BB:=by rw[<-hx];exact Nat.mod_lt _ dx
   rw[hx] at hs1 HLR hx2;have HX2:=qD hx2;clear hb hz hp hx hx2;by_cases hr0:0<r
   ·by_cases hqi:q<i
    ·have hc2:wr.cell? ⟨b,o+(i-q-1),none⟩=some (.int .u64 (lim n (i-q-1):Nat)):=(HB.o.cell (p:=⟨b,o+(i-q-1),none⟩) H.o.lt).trans (H.o.2 (i-q-1) (by omega));have hn1:¬w.heap.size+1=b:=by have:=H.o.lt;omega
     have hn2:¬b=w.heap.size+1:=by omega
     go_wp2_with fail
     go_region
     all_goals go_wp2_with fail
     go_roundw
     case rel=>
      rw[CF x _ r hrl hx3 HX2.o (cD _ _)];refine⟨i,by omega,by omega,by go_num,((HB.o.setCell (by simp) _).setCell (by simp) _).drew,cH (cH HZ.o (by omega)) (by omega),(((HP.o.set (by omega) x).set (by omega) _).drew).congr fun m hm=>?_⟩;by_cases hmi:m=i
      ·subst hmi;rw[if_pos rfl,if_pos (by omega),HLI.o,HLR.o,if_neg (by omega)]
      ·rw[if_neg hmi,if_neg hmi];by_cases h9:i+1<=m
       ·rw[if_pos h9,if_pos (by omega)]
       ·rw[if_neg h9,if_neg (by omega)]
     case measure=>simp[intOf]
    ·go_wp2_with fail;go_roundw
     case rel=>
      refine⟨i,by omega,by omega,by go_num,HB.o.setCell (by simp) _,cH HZ.o (by omega),(HP.o.set (by omega) x).congr fun m hm=>?_⟩;by_cases hmi:m=i
      ·subst hmi;rw[if_pos rfl,if_pos (by omega),HLI.o,HLR.o,if_pos (by omega)];rfl
      ·rw[if_neg hmi];by_cases h9:i+1<=m
       ·rw[if_pos h9,if_pos (by omega)]
       ·rw[if_neg h9,if_neg (by omega)]
     case measure=>simp[intOf]
   ·have HR0:Hid (r=0):=by unfold Hid;omega
    go_wp2_with fail;go_roundw
    case rel=>
     refine⟨i,by omega,by omega,by go_num,HB.o.setCell (by simp) _,cH HZ.o (by omega),(HP.o.set (by omega) x).congr fun m hm=>?_⟩;by_cases hmi:m=i
     ·subst hmi;have hz0:∀y,lim n y/2^(64-r)=0:=fun y=>by rw[HR0.o];exact Nat.div_eq_of_lt (cD n y)
      rw[if_pos rfl,if_pos (by omega),HLI.o,HLR.o];split
      ·rfl
      ·rw[hz0];rfl
     ·rw[if_neg hmi];by_cases h9:i+1<=m
      ·rw[if_pos h9,if_pos (by omega)]
      ·rw[if_neg h9,if_neg (by omega)]
    case measure=>simp[intOf]
  ·have hjq:j=q:=by omega
   have hbk:wr.aI (w.heap.size+1)=some (bP (n*2^k)):=hp.done fun m hm=>by
    by_cases h9:j<=m
    ·rw[if_pos h9]
    ·rw[if_neg h9,HK.o,if_pos (by omega)]
   have hlt: (j:Int)-1<(q:Int):=by omega
   clear hb hp hjq;go_wp2_with fail;exact bodyPost_ret (cL (fn:=Tryz.f292) rfl rfl (oE (afp HZ.o) (aQ _))) rfl ⟨rfl,aa HB.o (nL _) _ _⟩
attribute [go_sem] dD fI
theorem LU(n k i:Nat)(hk:k<64):lim (n/2^k) i=lim n i/2^k+(if k=0 then 0 else lim n (i+1)*2^(64-k)%BB):=by
 have hbb:2^k*2^(64-k)=BB:=by rw[<-Nat.pow_add,show k+(64-k)=64 by omega];rfl
 by_cases h0:k=0
 ·subst h0;simp
 rw[if_neg h0];unfold lim;have e1:n/2^k/BB^i=n/BB^i/2^k:=by rw[Nat.div_div_eq_div_mul,nC,<-Nat.div_div_eq_div_mul]
 have e2:n/BB^(i+1)=n/BB^i/BB:=by rw[Nat.pow_succ,Nat.div_div_eq_div_mul]
 rw[e1,e2];generalize n/BB^i=x;have e3:x=x/BB*BB+x%BB:=by rw[nC];exact(Nat.div_add_mod x BB).symm
 have e4:x/2^k=x/BB*2^(64-k)+x%BB/2^k:=by
  have:x/BB*BB=2^k*(x/BB*2^(64-k)):=by rw[<-hbb,Nat.mul_left_comm]
  conv=>lhs;rw[e3,this]
  rw[Nat.mul_add_div (Nat.two_pow_pos k)]
 have hlo:x%BB/2^k<2^(64-k):=by rw[Nat.div_lt_iff_lt_mul (Nat.two_pow_pos k),nC,hbb];exact Nat.mod_lt _ dx
 have e5:x/BB%BB*2^(64-k)%BB=x/BB*2^(64-k)%BB:=by rw[Nat.mod_mul_mod]
 rw[e4,e5];generalize x%BB/2^k=c at*;generalize x/BB=y at*;have e6:y*2^(64-k)%BB=y%2^k*2^(64-k):=by rw[<-hbb,nC (2^k),nC y,Nat.mul_mod_mul_left,nC]
 have hcb:c<BB:=nU hlo (by rw[<-hbb];exact Nat.le_mul_of_pos_left _ (Nat.two_pow_pos _));rw[Nat.add_mod,e6,nM hcb,Nat.add_comm];apply nM;have h5:=Nat.mod_lt y (Nat.two_pow_pos k);have: (y%2^k+1)*2^(64-k)<=2^k*2^(64-k):=nR _ h5;rw[Nat.add_mul,Nat.one_mul,hbb] at this;omega
def dq(n k:Nat):Bool:=if k=0 then false else !(((lim n 0*2^(64-k)%BB:Nat):Int)==0)
theorem Jb(x y k:Nat)(hk:k<64)(h0:0<k)(hx:x<BB)(hy:y<BB)(hy2:y%2^(64-k)=0):bits .or .u64 ((x/2^k:Nat):Int) (y:Int)=((x/2^k+y:Nat):Int):=by
 have hbb:2^k*2^(64-k)=BB:=by rw[<-Nat.pow_add,show k+(64-k)=64 by omega];rfl
 have hc:x/2^k<2^(64-k):=by rw[Nat.div_lt_iff_lt_mul (Nat.two_pow_pos _),nC,hbb];exact hx
 rw[Ff _ y (Nat.lt_of_le_of_lt (Nat.div_le_self _ _) hx) hy];congr 1;obtain⟨m,rfl⟩:=Nat.dvd_of_mod_eq_zero hy2;rw[Nat.or_comm,Nat.add_comm];exact(Nat.two_pow_add_eq_or_of_lt hc m).symm
theorem CG(b o n k:Nat)(w:World)(h:fG w b o n)(hk:k<64):
  Calls prog 294 #[.pointer (some ⟨b,o,none⟩),.int .i64 k] w fun e w'=>e= .returned (.tuple #[.agg (bP (n/2^k)),.bool (dq n k)])/\Below w.heap.size w w':=by
 have H:=qD h;clear h;have eq1: (k:Int)/64=0:=by omega
 obtain⟨r,hr⟩:∃r,k%64=r:=⟨_,rfl⟩;have eq2: (k:Int)%64=(r:Int):=by omega
 have HKR:Hid (r=k):=by unfold Hid;omega
 have hrl:r<64:=by omega
 have eqm:min (0:Int) 16=0:=rfl;have HR:=qD (fun j=>LU n r j hrl);clear hr;go_enter func294,ntmps294;go_wp2_with fail
 go_loop [7,13] (fun x i=>x= .bool false/\i= .int .i64 0) (fun _ _=>0)
 case atStart=>exact⟨rfl,rfl⟩
 case round=>
  obtain⟨rfl,rfl⟩:=hrel;go_wp2_with fail
  go_loopw [9] (fun i wr=>∃j:Nat,j<=16/\i= .int .i64 j/\Below w.heap.size w wr/\wr.aI w.heap.size=some (bP 0)/\Part wr (w.heap.size+1) (fun m=>if m<j then lim (n/2^r) m else 0)) (fun i _=>16-(intOf i).toNat)
  case atStart=>
   exact⟨0,by omega,rfl,((bZ _ _).alloc (nL _) _).alloc (by simp) _,by simp[af,aq],(Part.zero (by simp[af,aq])).congr fun i hi=>by rw[if_neg (by omega)]⟩
  case round=>
   obtain⟨i,hi,rfl,hb,hz,hp⟩:=hrel;have HB:=qD hb;have HZ:=qD hz;have HP:=qD hp;have hn1:¬w.heap.size+1=b:=by have:=H.o.lt;omega
   have hn2:¬b=w.heap.size+1:=by omega
   by_cases h0:i<16
   ·have hc:wr.cell? ⟨b,o+i,none⟩=some (.int .u64 (lim n i:Nat)):=(hb.cell (p:=⟨b,o+i,none⟩) H.o.lt).trans (H.o.2 i h0);have hd:=hp.cell h0;have hf:=hp.frozen i;have i1: (0:Int)<=(i:Int):=by omega
    have i2: (i:Int)<16:=by omega
    have HLR:=qD (HR.o i);clear hb hz hp;by_cases hk0:0<r
    ·by_cases hl:i+1<16
     ·have hc2:wr.cell? ⟨b,o+(i+1),none⟩=some (.int .u64 (lim n (i+1):Nat)):=(HB.o.cell (p:=⟨b,o+(i+1),none⟩) H.o.lt).trans (H.o.2 (i+1) hl);have hs1:IntKind.u64.wrap ((lim n (i+1):Nat)*2^(64-r))=((lim n (i+1)*2^(64-r)%BB:Nat):Int):=pC _ _;have HX2:=qD (AP (lim n (i+1)) (64-r) (by omega));obtain⟨x,hx⟩:∃x,lim n (i+1)*2^(64-r)%BB=x:=⟨_,rfl⟩;have hx3:x<BB:=by rw[<-hx];exact Nat.mod_lt _ dx
      rw[hx] at hs1 HLR HX2;clear hx;go_wp2_with fail
      go_region
      all_goals go_wp2_with fail
      go_roundw
      case rel=>
       rw[show((lim n i:Nat):Int)/2^r=((lim n i/2^r:Nat):Int) by simp,Jb (lim n i) x r hrl hk0 (cD _ _) hx3 HX2.o];refine⟨i+1,by omega,by go_num,((HB.o.setCell (by simp) _).setCell (by simp) _).drew,cH (cH HZ.o (by omega)) (by omega),(((HP.o.set h0 _).set h0 _).drew).congr fun m hm=>?_⟩;by_cases hmi:m=i
       ·subst hmi;rw[if_pos rfl,if_pos (by omega),HLR.o,if_neg (by omega)]
       ·rw[if_neg hmi,if_neg hmi];by_cases h9:m<i
        ·rw[if_pos h9,if_pos (by omega)]
        ·rw[if_neg h9,if_neg (by omega)]
      case measure=>simp[intOf];omega
     ·have hlz:lim n (i+1)=0:=j4 H.o.1 (by omega);have HLZ:=qD hlz;clear hlz;go_wp2_with fail;go_roundw
      case rel=>
       rw[show((lim n i:Nat):Int)/2^r=((lim n i/2^r:Nat):Int) by simp];refine⟨i+1,by omega,by go_num,HB.o.setCell (by simp) _,cH HZ.o (by omega),(HP.o.set h0 _).congr fun m hm=>?_⟩;by_cases hmi:m=i
       ·subst hmi;rw[if_pos rfl,if_pos (by omega),HLR.o,HLZ.o];simp
       ·rw[if_neg hmi];by_cases h9:m<i
        ·rw[if_pos h9,if_pos (by omega)]
        ·rw[if_neg h9,if_neg (by omega)]
      case measure=>simp[intOf];omega
    ·have HR0:Hid (r=0):=by unfold Hid;omega
     go_wp2_with fail;go_roundw
     case rel=>
      rw[show((lim n i:Nat):Int)/2^r=((lim n i/2^r:Nat):Int) by simp];refine⟨i+1,by omega,by go_num,HB.o.setCell (by simp) _,cH HZ.o (by omega),(HP.o.set h0 _).congr fun m hm=>?_⟩;by_cases hmi:m=i
      ·subst hmi;rw[if_pos rfl,if_pos (by omega),HLR.o,if_pos HR0.o];rfl
      ·rw[if_neg hmi];by_cases h9:m<i
       ·rw[if_pos h9,if_pos (by omega)]
       ·rw[if_neg h9,if_neg (by omega)]
     case measure=>simp[intOf];omega
   ·have hi':16<=i:=by omega
    have hbk:wr.aI (w.heap.size+1)=some (bP (n/2^r)):=hp.done fun m hm=>by rw[if_pos (by omega)]
    have hc:wr.cell? ⟨b,o,none⟩=some (.int .u64 (lim n 0:Nat)):=(hb.cell (p:=⟨b,o,none⟩) H.o.lt).trans (H.o.2 0 (by omega));have HRB:Hid (dq n r=if r=0 then false else !(((lim n 0*2^(64-r)%BB:Nat):Int)==0)):=rfl;clear hb hp;by_cases hk0:0<r
    ·have hs1:IntKind.u64.wrap ((lim n 0:Nat)*2^(64-r))=((lim n 0*2^(64-r)%BB:Nat):Int):=pC _ _;obtain⟨x,hx⟩:∃x,lim n 0*2^(64-r)%BB=x:=⟨_,rfl⟩;rw[hx] at hs1 HRB;clear hx;go_wp2_with fail;rw[<-HKR.o,HRB.o];refine bodyPost_ret (aA (fn:=Tryz.f294) rfl rfl (oE (afp HZ.o) (aQ _))) rfl ⟨?_,aa HB.o (nL _) _ _⟩;rw[if_neg (by omega)];rfl
    ·have HR0:Hid (r=0):=by unfold Hid;omega
     go_wp2_with fail;rw[<-HKR.o,HRB.o,if_pos HR0.o];exact bodyPost_ret (aA (fn:=Tryz.f294) rfl rfl (oE (afp HZ.o) (aQ _))) rfl ⟨rfl,aa HB.o (nL _) _ _⟩
end Go.Proofs.Yq
namespace Go.Proofs.Yq
open Tryz
def mx(A x b i j:Nat):Nat:=A%BB^(i+j)+x*(b%BB^j)*BB^i
theorem Hd(A x b i:Nat):mx A x b i 0=A%BB^i:=by simp[mx,Nat.mod_one]
theorem He(A x b i j:Nat):mx A x b i (j+1)=mx A x b i j+(lim A (i+j)+x*lim b j)*BB^(i+j):=by unfold mx;rw[show i+(j+1)=(i+j)+1 by omega,mod_succ A,mod_succ b,Nat.mul_add,Nat.add_mul,Nat.add_mul,<-Nat.mul_assoc x,Nat.mul_assoc (x*lim b j),<-Nat.pow_add,Nat.add_comm j i];omega
def mc(A x b i j:Nat):Nat:=mx A x b i j/BB^(i+j)
theorem Hg(A x b i:Nat):mc A x b i 0=0:=by unfold mc;rw[Hd];exact Nat.div_eq_of_lt (Nat.mod_lt _ (aC _))
theorem LV(A x b i j:Nat):mx A x b i (j+1)/BB^(i+j)=mc A x b i j+(lim A (i+j)+x*lim b j):=by rw[He,Nat.add_mul_div_right _ _ (aC _)];rfl
theorem Hh(A x b i j:Nat):mc A x b i (j+1)=(mc A x b i j+(lim A (i+j)+x*lim b j))/BB:=by rw[<-LV];unfold mc;rw[Nat.div_div_eq_div_mul,show i+(j+1)=i+j+1 by omega,Nat.pow_succ]
theorem Um(A x b i j:Nat):lim (mx A x b i (j+1)) (i+j)=(mc A x b i j+(lim A (i+j)+x*lim b j))%BB:=by unfold lim;rw[LV];rfl
theorem Un(A x b i j p:Nat)(h:p<i+j):lim (mx A x b i (j+1)) p=lim (mx A x b i j) p:=by rw[He];unfold lim;obtain⟨d,hd⟩:∃d,i+j=p+(d+1):=⟨i+j-p-1,by omega⟩;rw[hd,Nat.pow_add,Nat.pow_succ,show ∀y,y*(BB^p*(BB^d*BB))=BB^p*(y*BB^d*BB) by intro y;simp only[Nat.mul_left_comm,Nat.mul_assoc]];rw[Nat.add_mul_div_left _ _ (aC p),Nat.add_mul_mod_self_right]
theorem SW(A x b i j:Nat)(hx:x<BB):mc A x b i j<BB:=by
 induction j with
 |zero=>rw[Hg];exact dx
 |succ j ih=>
  rw[Hh,Nat.div_lt_iff_lt_mul dx];have h1:=cD A (i+j);have h2:=cD b j;have h3:x*lim b j<=(BB-1)*(BB-1):=Nat.mul_le_mul (by omega) (by omega);have h4: (BB-1)*(BB-1)+(BB-1)+(BB-1)<BB*BB:=by decide+kernel
  omega
theorem Jc(x y s c:Nat): ((x*y%BB+s)%BB+c)%BB=(c+(s+x*y))%BB:=by rw[Nat.mod_add_mod,Nat.add_assoc,Nat.mod_add_mod];congr 1;omega
theorem Fg(x y s c:Nat):x*y/BB+(x*y%BB+s)/BB+((x*y%BB+s)%BB+c)/BB=(c+(s+x*y))/BB:=by
 have h1:=Nat.div_add_mod (x*y) BB;have h2:=Nat.div_add_mod (x*y%BB+s) BB;have h3:=Nat.div_add_mod ((x*y%BB+s)%BB+c) BB;have h4:c+(s+x*y)=BB*(x*y/BB+(x*y%BB+s)/BB+((x*y%BB+s)%BB+c)/BB)+((x*y%BB+s)%BB+c)%BB:=by rw[Nat.mul_add,Nat.mul_add];omega
 rw[h4,Nat.mul_add_div dx,Nat.div_eq_of_lt (Nat.mod_lt _ dx)];omega
def mA(a b i:Nat):Nat:=a%BB^i*b
theorem P8(a b:Nat):mA a b 0=0:=by simp[mA,Nat.mod_one]
theorem LW{a b i n:Nat}(hb:b<BB^n):mA a b i<BB^(i+n):=by
 unfold mA;rw[Nat.pow_add];have h1:=Nat.mod_lt a (aC i);rcases Nat.eq_zero_or_pos b with h0|h0
 ·rw[h0,Nat.mul_zero];exact Nat.mul_pos (aC _) (aC _)
 ·exact nU (Nat.mul_lt_mul_of_pos_right h1 h0) (Nat.mul_le_mul_left _ (Nat.le_of_lt hb))
theorem LX{a b i n:Nat}(hb:b<BB^n):mx (mA a b i) (lim a i) b i n=mA a b (i+1):=by unfold mx;rw[nM (LW hb),nM hb];unfold mA;rw[mod_succ,Nat.add_mul,Nat.mul_right_comm]
theorem Uo{a b i n:Nat}(hb:b<BB^n):mc (mA a b i) (lim a i) b i n=lim (mA a b (i+1)) (i+n):=by have h:=SW (mA a b i) (lim a i) b i n (cD a i);unfold mc at h ⊢;rw[LX hb] at h ⊢;unfold lim;exact(nM h).symm
theorem Up{a b i n p:Nat}(hb:b<BB^n)(hp:i+1+n<=p):lim (mA a b (i+1)) p=lim (mA a b i) p:=by rw[j4 (LW hb) hp,j4 (LW hb) (by omega)]
theorem P9{a b m:Nat}(ha:a<BB^m):mA a b m=a*b:=by unfold mA;rw[nM ha]
theorem AQ(x y k p:Nat)(h:p<k):lim (x+y*BB^k) p=lim x p:=by unfold lim;obtain⟨d,rfl⟩:∃d,k=p+(d+1):=⟨k-p-1,by omega⟩;rw[Nat.pow_add,Nat.pow_succ,show y*(BB^p*(BB^d*BB))=BB^p*(y*BB^d*BB) by simp only[Nat.mul_left_comm,Nat.mul_assoc]];rw[Nat.add_mul_div_left _ _ (aC p),Nat.add_mul_mod_self_right]
theorem Qa(n k p:Nat)(h:p<k):lim (n%BB^k) p=lim n p:=by
 have e:n=n%BB^k+n/BB^k*BB^k:=by rw[nC];exact(Nat.mod_add_div n _).symm
 conv=>rhs;rw[e]
 exact(AQ _ _ _ _ h).symm
end Go.Proofs.Yq
namespace Go.Proofs.Yq
open ChangeShapes WideShapes ChangeAt RowKit
open Tryz
attribute [go_sem] dD fI
def dI(N:Nat)(w:World)(g:Nat)(f:Nat->Nat):Prop:=∃cs,w.aI g=some cs/\cs.size=N/\∀i,i<N->cs[i]? =some (.int .u64 (f i:Nat))
section
variable {N:Nat} {w w':World} {g:Nat} {f f':Nat->Nat}
theorem dI.cell(h:dI N w g f){i:Nat}(hi:i<N):w.cell? ⟨g,i,none⟩=some (.int .u64 (f i:Nat)):=by obtain⟨cs,h1,h2,h3⟩:=h;rw[ao h1,h3 i hi]
theorem dI.frozen(h:dI N w g f)(i:Nat):w.frozen? ⟨g,i,none⟩=false:=by obtain⟨cs,h1,h2,h3⟩:=h;exact ax h1 i
theorem dI.set(h:dI N w g f){k:Nat}(hk:k<N)(x:Nat):dI N (w.setCell ⟨g,k,none⟩ (.int .u64 (x:Nat))) g (fun i=>if i=k then x else f i):=by
 obtain⟨cs,h1,h2,h3⟩:=h;refine⟨cs.setIfInBounds k (.int .u64 (x:Nat)),by rw[bw,if_pos rfl,h1];rfl,by simp[h2],fun i hi=>?_⟩;by_cases e:i=k
 ·subst e;rw[Array.getElem?_setIfInBounds_self_of_lt (by omega)];show _=some (Value.int .u64 ((if i=i then x else f i:Nat):Int));rw[if_pos rfl]
 ·rw[Array.getElem?_setIfInBounds_ne (by omega),h3 i hi];show _=some (Value.int .u64 ((if i=k then x else f i:Nat):Int));rw[if_neg e]
theorem dI.congr(h:dI N w g f)(e:∀i,i<N->f i=f' i):dI N w g f':=by obtain⟨cs,h1,h2,h3⟩:=h;exact⟨cs,h1,h2,fun i hi=>by rw[h3 i hi,e i hi]⟩
theorem dI.below{B:Nat}(h:dI N w g f)(hb:Below B w w')(hg:g<B):dI N w' g f:=by obtain⟨cs,h1,h2,h3⟩:=h;exact⟨cs,(ah hb hg).trans h1,h2,h3⟩
theorem dI.drewN(h:dI N w g f)(n:Nat):dI N (w.drewN n) g f:=h
theorem dI.drew(h:dI N w g f):dI N w.drew g f:=h
theorem dI.Yj(h:dI N w g f){g' i:Nat}{v:Value}(hne:g'≠g):dI N (w.setCell ⟨g',i,none⟩ v) g f:=by obtain⟨cs,h1,h2,h3⟩:=h;exact⟨cs,cH h1 hne,h2,h3⟩
end
def rl(a b:WI):WI:=match a.val,b.val with|some x,some y=>WI.mk' (x*y)|_,_=>WI.ov
theorem Jd{a b:WI}(h:a.over=true∨b.over=true):wc (rl a b)=eE false true 0:=by
 have:rl a b=WI.ov:=by
  unfold rl;rcases h with h|h
  ·rw[WI.iT.1 h]
  ·rw[WI.iT.1 h];cases a.val <;> rfl
 rw[this];rfl
theorem Qb{a b:WI}(ha:a.over=false)(hb:b.over=false):rl a b=rh (a.neg != b.neg) (a.abs*b.abs):=by obtain⟨n,h1,h2,h3⟩:=WI.iU ha;obtain⟨m,k1,k2,k3⟩:=WI.iU hb;unfold rl rh;rw[h1,k1];show WI.mk' (n*m)=_;congr 1;have e1:=AN h2;have e2:=AN k2;rw[<-h3] at e1;rw[<-k3] at e2;rw[<-e1,<-e2];unfold Ha;cases a.neg <;> cases b.neg <;> simp[Int.mul_neg,Int.neg_mul]
theorem yT(a b:WI)(w:World)(h:a.over=true∨b.over=true):Calls prog 193 #[.agg (wc a),.agg (wc b)] w fun e w'=>e= .returned (.agg (wc (rl a b)))/\Below w.heap.size w w':=by
 obtain⟨k1,k2,k3,b0⟩:=jD a b w;have B0:=qD b0;clear b0;have HN:=qD (Jd h);have hcase:a.over=true∨(a.over=false/\b.over=true):=by
  cases ha:a.over
  ·right;refine⟨rfl,?_⟩;rcases h with h|h
   ·rw[ha] at h;cases h
   ·exact h
  ·left;rfl
 clear k1 k2 h;rcases hcase with ho|⟨ho,ho'⟩
 all_goals
  go_enter func193,ntmps193;go_wp2_with (go_at_call 243;refine(kv _).mono ?_;rintro e w1 ⟨rfl,hb1⟩;have B1:=qD hb1;obtain⟨q1,q2,q3,q4⟩:=kU hb1 (w.heap.size+3) (by simp);clear hb1);rw[HN.o];exact bodyPost_ret (cL (fn:=Tryz.f193) rfl rfl (fW (ee ((q1 _ (by omega)).trans k3) (bT _ _ _)) (bT _ _ _))) rfl ⟨rfl,aa (B0.o.trans (B1.o.mono (by simp;omega))) (by omega) _ _⟩
theorem lk(x y:Nat)(w:World):
  (callFunc 246 #[.int .u64 x,.int .u64 y,.int .u64 0]).run prog w= .ok (.value (.tuple #[.int .u64 (((x+y)%18446744073709551616:Nat):Int),.int .u64 (((x+y)/18446744073709551616:Nat):Int)])) w:=by
 have:=run_add64 x y 0 (by omega) w
 rwa [Nat.add_zero] at this
theorem Qc(z:Value)(i:Nat)(hi:i<32): (#[z,z,z,z,z,z,z,z,z,z,z,z,z,z,z,z,z,z,z,z,z,z,z,z,z,z,z,z,z,z,z,z]:Array Value)[i]? =some z:=by rw[show(#[z,z,z,z,z,z,z,z,z,z,z,z,z,z,z,z,z,z,z,z,z,z,z,z,z,z,z,z,z,z,z,z]:Array Value)=Array.replicate 32 z from rfl];simp[hi]
theorem Je(x y s c:Nat)(hx:x<BB)(hy:y<BB)(hs:s<BB)(hc:c<BB):∃hi lo t1 c1 t2 c2 h1 h2:Nat,
  x*y/18446744073709551616=hi/\x*y%18446744073709551616=lo/\(lo+s)%18446744073709551616=t1/\(lo+s)/18446744073709551616=c1/\(t1+c)%18446744073709551616=t2/\(t1+c)/18446744073709551616=c2/\
  IntKind.u64.wrap ((hi:Int)+c1)=(h1:Int)/\IntKind.u64.wrap ((h1:Int)+c2)=(h2:Int)/\t2=(c+(s+x*y))%BB/\h2=(c+(s+x*y))/BB:=by
 have e1:=Jc x y s c;have e2:=Fg x y s c;have hb: (c+(s+x*y))/BB<BB:=by
  rw[Nat.div_lt_iff_lt_mul dx];have h3:x*y<=(BB-1)*(BB-1):=Nat.mul_le_mul (by omega) (by omega);have h4: (BB-1)*(BB-1)+(BB-1)+(BB-1)<BB*BB:=by decide+kernel
  omega
 refine⟨_,_,_,_,_,_,x*y/BB+(x*y%BB+s)/BB,(c+(s+x*y))/BB,rfl,rfl,rfl,rfl,rfl,rfl,?_,?_,e1,rfl⟩
 ·rw[IntKind.wrap_u64,<-Int.natCast_add];have:x*y/BB+(x*y%BB+s)/BB<BB:=by rw[<-e2] at hb;exact Nat.lt_of_le_of_lt (Nat.le_add_right _ _) hb
  unfold BB at this ⊢;omega
 ·rw[IntKind.wrap_u64,<-Int.natCast_add,<-e2];rw[<-e2] at hb;unfold BB at hb ⊢;omega
theorem dI.Uq(w:World)(t:TypeId):dI 32 (w.alloc (.cells #[.int .u64 0,.int .u64 0,.int .u64 0,.int .u64 0,.int .u64 0,.int .u64 0,.int .u64 0,.int .u64 0,.int .u64 0,.int .u64 0,.int .u64 0,.int .u64 0,.int .u64 0,.int .u64 0,.int .u64 0,.int .u64 0,.int .u64 0,.int .u64 0,.int .u64 0,.int .u64 0,.int .u64 0,.int .u64 0,.int .u64 0,.int .u64 0,.int .u64 0,.int .u64 0,.int .u64 0,.int .u64 0,.int .u64 0,.int .u64 0,.int .u64 0,.int .u64 0] t)) w.heap.size (fun _=>0):=
 ⟨_,Ew (heap_alloc_new w _),rfl,fun i hi=>Qc _ i hi⟩
def MS(w wr:World)(a b:WI)(f:Nat->Nat):Prop:=
 Below w.heap.size w wr/\wr.aI w.heap.size=some (wc a)/\wr.aI (w.heap.size+1)=some (wc b)/\wr.aI (w.heap.size+1+1)=some (eE false false 0)/\dI 32 wr (w.heap.size+1+1+1) f/\wr.heap.size=w.heap.size+4
theorem MS.store{w wr:World}{a b:WI}{f:Nat->Nat}(h:MS w wr a b f){k:Nat}(hk:k<32)(x:Nat):MS w (wr.setCell ⟨w.heap.size+1+1+1,k,none⟩ (.int .u64 (x:Nat))) a b (fun i=>if i=k then x else f i):=by obtain⟨h1,h2,h3,h4,h5,h6⟩:=h;exact⟨h1.setCell (by simp;omega) _,cH h2 (by omega),cH h3 (by omega),cH h4 (by omega),h5.set hk x,by simpa[World.setCell] using h6⟩
theorem MS.congr{w wr:World}{a b:WI}{f f':Nat->Nat}(h:MS w wr a b f)(e:∀i,i<32->f i=f' i):MS w wr a b f':=⟨h.1,h.2.1,h.2.2.1,h.2.2.2.1,h.2.2.2.2.1.congr e,h.2.2.2.2.2⟩
theorem MS.drewN{w wr:World}{a b:WI}{f:Nat->Nat}(h:MS w wr a b f)(n:Nat):MS w (wr.drewN n) a b f:=⟨below_drewN h.1 n,h.2.1,h.2.2.1,h.2.2.2.1,h.2.2.2.2.1.drewN n,h.2.2.2.2.2⟩
theorem MS.x{w wr:World}{a b:WI}{f:Nat->Nat}(h:MS w wr a b f){i:Nat}(hi:i<16):wr.cell? ⟨w.heap.size,2+i,none⟩=some (.int .u64 (lim a.abs i:Nat)):=by rw[ao h.2.1,Fa a i hi]
theorem MS.y{w wr:World}{a b:WI}{f:Nat->Nat}(h:MS w wr a b f){i:Nat}(hi:i<16):wr.cell? ⟨w.heap.size+1,2+i,none⟩=some (.int .u64 (lim b.abs i:Nat)):=by rw[ao h.2.2.1,Fa b i hi]
theorem MS.s{w wr:World}{a b:WI}{f:Nat->Nat}(h:MS w wr a b f){i:Nat}(hi:i<32):wr.cell? ⟨w.heap.size+1+1+1,i,none⟩=some (.int .u64 (f i:Nat))/\wr.frozen? ⟨w.heap.size+1+1+1,i,none⟩=false:=⟨h.2.2.2.2.1.cell hi,h.2.2.2.2.1.frozen i⟩
theorem wx{n k:Nat}:∀d,n<BB^(k+d)->(∀j,j<d->lim n (k+j)=0)->n<BB^k
 |0,h,_=>h
 |d+1,h,hz=>wx d (by have h1:=mod_succ n (k+d);rw[hz d (by omega),Nat.zero_mul,Nat.add_zero,show k+d+1=k+(d+1) from rfl,nM h] at h1;rw[h1];exact Nat.mod_lt _ (aC _)) (fun j hj=>hz j (by omega))
theorem LY{x y:Nat}(hx:x<BB^16)(hy:y<BB^16):x*y<BB^(16+16):=by rw[Nat.pow_add];exact Nat.mul_lt_mul'' hx hy
theorem Fh{n k:Nat}(h:lim n (16+k)≠0):¬n<mK:=by have h1:=pA h;have h2:BB^16<=BB^(16+k):=Nat.pow_le_pow_right dx (by omega);have:=AI;omega
theorem LZ(a b:WI)(w:World)(ha:a.over=false)(hb:b.over=false):Calls prog 193 #[.agg (wc a),.agg (wc b)] w fun e w'=>e= .returned (.agg (wc (rl a b)))/\Below w.heap.size w w':=by
 obtain⟨m,hm⟩:∃m,ku a.abs 16=m:=⟨_,rfl⟩;obtain⟨n,hn⟩:∃n,ku b.abs 16=n:=⟨_,rfl⟩;have hml:m<=16:=by rw[<-hm];exact sF _ _
 have hnl:n<=16:=by rw[<-hn];exact sF _ _
 have HM:Hid (a.abs<BB^m):=by rw[<-hm];exact eT 16 a.bQ
 have HNn:Hid (b.abs<BB^n):=by rw[<-hn];exact eT 16 b.bQ
 have HW:=qD (Qb ha hb);have HP1:Hid (∀(w:World) g (h:fG w g 2 a.abs),Calls prog 244 #[.pointer (some ⟨g,2,none⟩)] w fun e w'=>e= .returned (.int .i64 (m:Nat))/\w=w'):=fun w g h=>by have:=iB g 2 a.abs w h;rwa [hm] at this
 have HP2:Hid (∀(w:World) g (h:fG w g 2 b.abs),Calls prog 244 #[.pointer (some ⟨g,2,none⟩)] w fun e w'=>e= .returned (.int .i64 (n:Nat))/\w=w'):=fun w g h=>by have:=iB g 2 b.abs w h;rwa [hn] at this
 obtain⟨k1,k2,k3,b0⟩:=jD a b w;have S1:=qD (bA k1 a.bQ);have S2:=qD (bA k2 b.bQ);have K1:=qD k1;have K2:=qD k2;have K3:=qD k3;have B0:=qD b0;clear b0 k1 k2 k3 hm hn;go_enter func193,ntmps193;go_wp2_with fail;refine(HP1.o _ _ (bA (x:=a.neg) (y:=a.over) (by simp[af,aq,go_sem];rfl) a.bQ)).mono ?_;rintro e w1 ⟨rfl,rfl⟩;go_wp2_with fail;refine(HP2.o _ _ (bA (x:=b.neg) (y:=b.over) (by simp[af,aq,go_sem];rfl) b.bQ)).mono ?_;rintro e w1 ⟨rfl,rfl⟩;go_wp2_with fail
 go_loopw [29] (fun i wr=>∃k:Nat,k<=m/\i= .int .i64 k/\MS w wr a b (fun p=>lim (mA a.abs b.abs k) p)) (fun i _=>m-(intOf i).toNat)
 case atStart=>
  refine⟨0,by omega,rfl,B0.o.alloc (by simp;omega) _,?_,?_,?_,?_,by simp⟩
  ·simp[af,aq,go_sem]
  ·simp[af,aq,go_sem]
  ·simp[af,aq,go_sem]
  ·have h:=dI.Uq (((w.alloc (.cells (wc a) 200)).alloc (.cells (wc b) 200)).alloc (.cells (eE false false 0) 200)) 316;simp only[World.size_alloc] at h;exact h.congr fun i hi=>by rw[P8,jr]
 case round=>
  obtain⟨i,hi,rfl,hms⟩:=hrel;have HMS:=qD hms;clear hms;obtain⟨wo,rfl⟩:∃wo:World,wo=wr:=⟨_,rfl⟩;by_cases h0:i<m
  ·have i1: (0:Int)<=(i:Int):=by omega
   have i2: (i:Int)<16:=by omega
   go_wp2_with fail
   go_loopw [9,33] (fun c x wr=>∃j:Nat,j<=n/\x= .int .i64 j/\c= .int .u64 (mc (mA a.abs b.abs i) (lim a.abs i) b.abs i j:Nat)/\MS w wr a b (fun p=>if p<i+j then lim (mx (mA a.abs b.abs i) (lim a.abs i) b.abs i j) p else lim (mA a.abs b.abs i) p)) (fun _ x _=>n-(intOf x).toNat)
   case atStart=>
    refine⟨0,by omega,rfl,by rw[Hg];rfl,HMS.o.congr fun p hp=>?_⟩;split
    ·rename_i h;rw[Hd];exact(Qa _ _ _ (by omega)).symm
    ·rfl
   case round=>
    clear HMS;obtain⟨j,hj,rfl,rfl,hms⟩:=hrel;have HMS:=qD hms;by_cases h1:j<n
    ·have hx:=hms.x (show i<16 by omega);have hy:=hms.y (show j<16 by omega);have hs:=hms.s (show i+j<32 by omega);obtain⟨hs,hsf⟩:=hs;rw[if_neg (by omega)] at hs;have j1: (0:Int)<=(j:Int):=by omega
     have j2: (j:Int)<16:=by omega
     obtain⟨hi',lo,t1,c1,t2,c2,g1,g2,r1,r2,r3,r4,r5,r6,r7,r8,r9,r10⟩:=Je (lim a.abs i) (lim b.abs j) (lim (mA a.abs b.abs i) (i+j)) (mc (mA a.abs b.abs i) (lim a.abs i) b.abs i j) (cD _ _) (cD _ _) (cD _ _) (SW _ _ _ _ _ (cD _ _));rw[<-Um] at r9;rw[<-Hh] at r10;have HMU:Hid (∀w,Calls prog 245 #[.int .u64 (lim a.abs i:Nat),.int .u64 (lim b.abs j:Nat)] w fun e w'=>e= .returned (.tuple #[.int .u64 (hi':Nat),.int .u64 (lo:Nat)])/\w'=w):=fun w=>by
      have:=Tryz.bits_Mul64 (lim a.abs i) (lim b.abs j) (cD _ _) (cD _ _) w
      rwa [r1,r2] at this
     have ea1:=fun w=>lk lo (lim (mA a.abs b.abs i) (i+j)) w;have ea2:=fun w=>lk t1 (mc (mA a.abs b.abs i) (lim a.abs i) b.abs i j) w;rw[r3,r4] at ea1;rw[r5,r6] at ea2;have R9:=qD r9;have R10:=qD r10;clear r1 r2 r3 r4 r5 r6 r9 r10 hms;go_wp2_with fail
     go_quiet ((go_at_call 245;exact Calls.quiet_of_same (HMU.o _)))
     go_wp2_with fail;go_roundw
     case rel=>
      refine⟨j+1,by omega,by go_num,by rw[R10.o],((HMS.o.drewN nq).store (by omega) t2).congr fun p hp=>?_⟩;by_cases hpe:p=i+j
      ·subst hpe;rw[if_pos rfl,if_pos (by omega),R9.o]
      ·rw[if_neg hpe];by_cases hpl:p<i+j
       ·rw[if_pos hpl,if_pos (by omega),Un _ _ _ _ _ _ hpl]
       ·rw[if_neg hpl,if_neg (by omega)]
     case measure=>simp[intOf];omega
    ·have hjn:Hid (j=n):=by unfold Hid;omega
     have hs:=hms.s (show i+n<32 by omega);obtain⟨hs,hsf⟩:=hs;clear hms;go_wp2_with fail;go_roundw
     case rel=>
      have hms:=HMS.o;rw[hjn.o] at hms ⊢;rw[Uo HNn.o];refine⟨i+1,by omega,by go_num,(hms.store (by omega) _).congr fun p hp=>?_⟩;by_cases hpe:p=i+n
      ·subst hpe;rw[if_pos rfl]
      ·rw[if_neg hpe];by_cases hpl:p<i+n
       ·rw[if_pos hpl,LX HNn.o]
       ·rw[if_neg hpl,Up HNn.o (by omega)]
     case measure=>simp[intOf];omega
  ·have him:Hid (i=m):=by unfold Hid;omega
   have hms:=HMS.o;rw[him.o] at hms;have HMS2:Hid (MS w wo a b (fun p=>lim (a.abs*b.abs) p)):=hms.congr fun p hp=>by rw[P9 HM.o]
   have hz:wo.heap.size=w.heap.size+4:=hms.2.2.2.2.2;have l0:w.heap.size<wo.heap.size:=by omega
   have l1:w.heap.size+1<wo.heap.size:=by omega
   have l2:w.heap.size+1+1<wo.heap.size:=by omega
   have l3:w.heap.size+1+1+1<wo.heap.size:=by omega
   have hk1:=hms.2.1;have hk2:=hms.2.2.1;have hk3:=hms.2.2.2.1;have HZ:=qD hz;clear hms HMS him HP1 HP2 hz;go_wp2_with fail;refine ar 2 ?_;simp only[tA,tD,tC,tE]
   repeat quiet_step (fail)
   refine wpQuiet_nil ?_;intro w1 hb1;have hbk:w1.aI wo.heap.size=some (bP 0):=(ah hb1 (by simp)).trans (by simp[af,aq]);obtain⟨t,ht⟩:=iL.1 hbk;have hb2:Below wo.heap.size wo w1:=((bZ _ wo).alloc (nL _) _).trans (hb1.mono (by simp));have HC2:Hid (∀(j:Nat) (v:Value),(bP (a.abs*b.abs)).toList[j]? =some v->w1.cell? ((⟨w.heap.size+1+1+1,0,none⟩:Addr).add j)=some v):=by
    intro j v hj;have hja: (⟨w.heap.size+1+1+1,0,none⟩:Addr).add j=⟨w.heap.size+1+1+1,j,none⟩:=by
     simp only[Addr.add,Nat.zero_add]
     try (split <;> simp_all)
    rw[hja];have hjl:j<16:=by
     rcases nO j 16 with h|h
     ·exact h
     ·rw[nE (by simpa[aQ] using h)] at hj;cases hj
    rw[<-hj,Array.getElem?_toList,fx _ _ hjl];exact(HMS2.o.2.2.2.2.1.below hb2 l3).cell (by omega)
   have L16: (bP (a.abs*b.abs)).toList.length=16:=by simp[aQ]
   refine wpList_copy_splice rfl (.tmp 81) (.tmp 82) 320 320 rfl 59 (by kernel_rfl) (by kernel_rfl) (some ⟨wo.heap.size,0,none⟩) (some ⟨w.heap.size+1+1+1,0,none⟩) 16 16 16 32 (by rfl) (by rfl) wo.heap.size 0 (bP 0).toList t (by rw[Array.toArray_toList];exact ht) (bP (a.abs*b.abs)).toList (by rw[L16];rfl) (fun _=>⟨rfl,_,rfl,fun j v hj=>HC2.o j v hj⟩) (by rw[L16];simp[aQ]) (by intro v hv;simp[bP] at hv;obtain⟨_,_,rfl⟩:=hv;rfl) wo.heap.size wo hb2 (nL _) ?_;intro w2 hg2 hb3;have hbk2:w2.aI wo.heap.size=some (bP (a.abs*b.abs)):=by have:=Ew hg2.o;rw[this];simp[splice,aQ,List.drop_eq_nil_of_le,L16]
   have l4:wo.heap.size<w2.heap.size:=ab hbk2;obtain⟨q1,q2,q3,q4⟩:=kU hb3 (w.heap.size+4) (by rw[HZ.o];exact nL _);have HC3:Hid (∀j,j<32->wo.cell? ⟨w.heap.size+1+1+1,j,none⟩=some (.int .u64 (lim (a.abs*b.abs) j:Nat))):=fun j hj=>HMS2.o.2.2.2.2.1.cell hj;have HB:=qD hb3;clear hb1 hb2 hb3 HC2 hbk ht hg2;go_wp2_with fail
   go_loopw [16,86] (fun _ x wr=>∃k:Nat,k<=16/\x= .int .i64 k/\wr=w2/\∀j,j<k->lim (a.abs*b.abs) (16+j)=0) (fun _ x _=>16-(intOf x).toNat)
   case atStart=>exact⟨0,by omega,rfl,rfl,fun j hj=>by omega⟩
   case round=>
    obtain⟨k,hk,rfl,rfl,hz⟩:=hrel;have HK:=qD hz;clear hz;by_cases hk16:k<16
    ·have hc:=HC3.o (16+k) (by omega);have z1: (0:Int)<=(k:Int):=by omega
     have z2: (k:Int)<16:=by omega
     by_cases hl:lim (a.abs*b.abs) (16+k)=0
     ·have HL:=qD hl;rw[hl] at hc;clear hl;go_wp2_with fail;go_roundw
      case rel=>
       refine⟨k+1,by omega,by go_num,trivial,fun j hj=>?_⟩;by_cases hjk:j<k
       ·exact HK.o j hjk
       ·rw[show j=k by omega];exact HL.o
      case measure=>simp[intOf];omega
     ·have HX:Hid (wc (rl a b)=eE false true 0):=by rw[HW.o];exact Hb (Fh hl)
      have hl2:¬((lim (a.abs*b.abs) (16+k):Nat):Int)=0:=by omega
      obtain⟨y,hy⟩:∃y,lim (a.abs*b.abs) (16+k)=y:=⟨_,rfl⟩;rw[hy] at hc hl2;clear hy hl;go_wp2_with (go_at_call 243;refine(kv _).mono ?_;rintro e w3 ⟨rfl,hb4⟩;have B4:=qD hb4;have hk4:w3.aI (w.heap.size+1+1)=some (eE false false 0):=((ah hb4 (by omega)).trans ((q1 _ (by omega)).trans hk3));clear hb4);rw[HX.o];exact bodyPost_ret (cL (fn:=Tryz.f193) rfl rfl (fW (ee hk4 (bT _ _ _)) (bT _ _ _))) rfl ⟨by first|rfl|trivial,aa ((HMS2.o.1.trans (HB.o.mono (by omega))).trans (B4.o.mono (by omega))) (by omega) _ _⟩
    ·have hX:a.abs*b.abs<BB^16:=wx 16 (LY a.bQ b.bQ) (fun j hj=>HK.o j (by omega));have HMD:=qD (fun w=>lg (a.neg != b.neg) (a.abs*b.abs) hX w);have HX:Hid (wc (rl a b)=wc (rh (a.neg != b.neg) (a.abs*b.abs))):=by rw[HW.o];rfl
     have hn1:wo.cell? ⟨w.heap.size,0,none⟩=some (.bool a.neg):=by rw[ao hk1];rfl
     have hn2:wo.cell? ⟨w.heap.size+1,0,none⟩=some (.bool b.neg):=by rw[ao hk2];rfl
     clear hX;go_wp2_with (go_at_call 242;refine(HMD.o _).mono ?_;rintro e w3 ⟨rfl,hb4⟩;have B4:=qD hb4;have hk4:w3.aI (w.heap.size+1+1)=some (eE false false 0):=((ah hb4 (by omega)).trans ((q1 _ (by omega)).trans hk3));clear hb4);rw[HX.o];exact bodyPost_ret (cL (fn:=Tryz.f193) rfl rfl (fW (ee hk4 (cP _)) (cP _))) rfl ⟨by first|rfl|trivial,aa ((HMS2.o.1.trans (HB.o.mono (by omega))).trans (B4.o.mono (by omega))) (by omega) _ _⟩
theorem L6(a b:WI)(w:World):Calls prog 193 #[.agg (wc a),.agg (wc b)] w fun e w'=>e= .returned (.agg (wc (rl a b)))/\Below w.heap.size w w':=by
 cases ha:a.over
 ·cases hb:b.over
  ·exact LZ a b w ha hb
  ·exact yT a b w (Or.inr hb)
 ·exact yT a b w (Or.inl ha)
end Go.Proofs.Yq
namespace Go.Proofs.Yq
open RowKit Ev
open Tryz
instance:jX WI where
 cells a:=(wc a).toList
 len:=18
 aeX a:=by simpa using cP a
 one a v hv:=by have:=Ue a;unfold bK at this;rw[Array.all_eq_true_iff_forall_mem] at this;exact this v (by simpa using hv)
 Obj:=PEmpty
 Ez x:=PEmpty.elim x
 EA _ x _:=PEmpty.elim x
 tL _ x:=PEmpty.elim x
 K:=PEmpty
 KT x:=PEmpty.elim x
 kd x:=PEmpty.elim x
 omk x:=PEmpty.elim x
 TJ x:=PEmpty.elim x
 ye x:=PEmpty.elim x
instance:Inhabited WI:=⟨WI.mk' 0⟩
theorem j9(r:Nat->Nat)(a:WI):Value.agg (wc a)=(MV.w a:MV WI).av r:=by show _=Value.agg (wc a).toList.toArray;rw[Array.toArray_toList]
def Fw1(F:WI->WI):Ts WI [.one .w]->Ts WI [.one .w]:=fun a=>(F a.1,())
def Ur(F:WI->WI->WI):Ts WI [.one .w,.one .w]->Ts WI [.one .w]:=fun a=>(F a.1 a.2.1,())
theorem ok1{f:FuncId}{F:WI->WI}(hc:dP prog f=true)(h:∀a w,Calls prog f #[.agg (wc a)] w fun e w'=>e= .returned (.agg (wc (F a)))/\Below w.heap.size w w'):
  aZ prog f [.one .w] [.one .w] (Fw1 F):=
 ⟨hc,fun(a:WI×Unit) r w=>by have h:=h a.1 w;rw[j9 r,j9 r] at h;exact h⟩
theorem ok2{f:FuncId}{F:WI->WI->WI}(hc:dP prog f=true)(h:∀a b w,Calls prog f #[.agg (wc a),.agg (wc b)] w fun e w'=>e= .returned (.agg (wc (F a b)))/\Below w.heap.size w w'):
  aZ prog f [.one .w,.one .w] [.one .w] (Ur F):=
 ⟨hc,fun(a:WI×WI×Unit) r w=>by have h:=h a.1 a.2.1 w;rw[j9 r,j9 r,j9 r] at h;exact h⟩
def FOf:Ts WI [.one .i]->Ts WI [.one .w]:=fun a:Ts WI [.one .i]=>((wOf (a.1:ae).val,()):Ts WI [.one .w])
theorem Yk:aZ prog 179 [.one .i] [.one .w] FOf:=
 ⟨by kernel_rfl,fun(a:ae×Unit) r w=>by have h:=Uj a.1.val w a.1.ok.1 a.1.ok.2;rw[j9 r] at h;exact h⟩
theorem Us:aZ prog 193 _ _ (Ur rl):=ok2 (f:=193) (by kernel_rfl) L6
theorem Ut:aZ prog 267 _ _ (Ur nX):=ok2 (f:=267) (by kernel_rfl) CD
theorem Uu:aZ prog 207 _ _ (Ur Uk):=ok2 (f:=207) (by kernel_rfl) LP
theorem Uv:aZ prog 268 _ _ (Fw1 CC):=ok1 (f:=268) (by kernel_rfl) Hc
def SX:Ts WI [.one .w]->Ts WI [.one .b]:=fun a:Ts WI [.one .w]=>((WI.over a.1,()):Ts WI [.one .b])
theorem Qd:aZ prog 353 [.one .w] [.one .b] SX:=
 ⟨by kernel_rfl,fun(a:WI×Unit) r w=>by have h:=LN a.1 w;rw[j9 r] at h;exact h⟩
theorem Qe(a:WI):-9223372036854775808<=rk a/\rk a<=9223372036854775807:=by
 unfold rk;split
 ·decide
 ·split
  ·decide
  ·split <;> decide
def SY:Ts WI [.one .w]->Ts WI [.one .i]:=fun a:Ts WI [.one .w]=>(((⟨rk a.1,Qe a.1⟩:ae),()):Ts WI [.one .i])
theorem Qf:aZ prog 135 [.one .w] [.one .i] SY:=
 ⟨by kernel_rfl,fun(a:WI×Unit) r w=>by have h:=LO a.1 w;rw[j9 r] at h;exact h⟩
theorem Uw(a b:WI):-9223372036854775808<=(sJ a b).1/\(sJ a b).1<=9223372036854775807:=by
 unfold sJ;split
 ·simp only[];split
  ·decide
  ·split <;> decide
 ·decide
def Yl:Ts WI [.one .w,.one .w]->Ts WI [.one .i,.one .b]:=fun a:Ts WI [.one .w,.one .w]=>(((⟨(sJ a.1 a.2.1).1,Uw a.1 a.2.1⟩:ae),(sJ a.1 a.2.1).2,()):Ts WI [.one .i,.one .b])
theorem Ux:aZ prog 310 [.one .w,.one .w] [.one .i,.one .b] Yl:=
 ⟨by kernel_rfl,fun(a:WI×WI×Unit) r w=>by have h:=LQ a.1 a.2.1 w;rw[j9 r,j9 r] at h;exact h⟩
theorem L7(a:WI):-9223372036854775808<=(lj a).1/\(lj a).1<=9223372036854775807:=by
 unfold lj;split
 ·split
  ·rename_i h;exact h
  ·decide
 ·decide
def L8:Ts WI [.one .w]->Ts WI [.one .i,.one .b]:=fun a:Ts WI [.one .w]=>(((⟨(lj a.1).1,L7 a.1⟩:ae),(lj a.1).2,()):Ts WI [.one .i,.one .b])
theorem Ma:aZ prog 239 [.one .w] [.one .i,.one .b] L8:=
 ⟨by kernel_rfl,fun(a:WI×Unit) r w=>by have h:=Fc a.1 w;rw[j9 r] at h;exact h⟩
def Uy:vR WI:=[entry 179 _ _ FOf,entry 193 _ _ (Ur rl),entry 267 _ _ (Ur nX),entry 207 _ _ (Ur Uk),entry 268 _ _ (Fw1 CC),entry 353 _ _ SX,entry 135 _ _ SY,entry 310 _ _ Yl,entry 239 _ _ L8]
theorem Hi:Uy.ok prog:=⟨eb Yk,eb Us,eb Ut,eb Uu,eb Uv,eb Qd,eb Qf,eb Ux,eb Ma,trivial⟩
def Zw(t:TypeId):Option (List (MV WI)):=
 match Nat.beq t 200 with
 |true=>some [.w (WI.mk' 0)]
 |false=>match Nat.beq t 405 with
  |true=>some [.w (WI.mk' 0),.w (WI.mk' 0),.w (WI.mk' 0),.w (WI.mk' 0),.w (WI.mk' 0),.w (WI.mk' 0),.w (WI.mk' 0)]
  |false=>none
theorem yU(t:TypeId)(l:List (MV WI))(h:Zw t=some l):∃v i,prog.info? t=some i/\i.zero=some v/\∀r,v.cells.toList=ai r l:=by
 unfold Zw at h;split at h
 ·rename_i hb;obtain rfl:=nQ hb;cases h;have hz: (prog.info? 200).bind (·.zero)=some (.agg (eE false false 0)):=by kernel_rfl
  obtain⟨q,hq⟩:∃q,prog.info? 200=q:=⟨_,rfl⟩;rw[hq] at hz;cases q with
  |none=>cases hz
  |some i=>
   refine⟨_,i,hq,hz,fun r=>?_⟩;simp only[ai,MV.cells,List.append_nil,Value.cells];rfl
 ·split at h
  ·rename_i hb;obtain rfl:=nQ hb;cases h;have hz: (prog.info? 405).bind (·.zero)=some (.agg ((eE false false 0).toList++(eE false false 0).toList++(eE false false 0).toList++(eE false false 0).toList++(eE false false 0).toList++(eE false false 0).toList++(eE false false 0).toList).toArray):=by kernel_rfl
   obtain⟨q,hq⟩:∃q,prog.info? 405=q:=⟨_,rfl⟩;rw[hq] at hz;cases q with
   |none=>cases hz
   |some i=>
    refine⟨_,i,hq,hz,fun r=>?_⟩;have e:eE false false 0=wc (WI.mk' 0):=rfl;simp only[ai,MV.cells,List.append_nil,Value.cells,e,List.append_assoc];rfl
  ·cases h
noncomputable def XV:Cx WI:=xQ prog Zw (uy prog) [] Uy []
theorem mM:prog.follows .mixedOrders=true:=by kernel_rfl
theorem Fi:iO XV:=pr (cl:=[]) mM yU nA trivial Hi trivial
def Ym(a b c d:WI):WI:=nX (nX (WI.mk' 0) (rl a b)) (rl c d)
theorem Qg(a b c d:WI): (j0 XV 3 332 [.s 0 0 4 4] [[.w a,.w b,.w c,.w d]]).pick=some (.w (Ym a b c d),[[.w a,.w b,.w c,.w d]]):=by kernel_rfl
def Uz:la WI:=⟨332,fun l n c=>match l,n,c with
 | [.w a,.w b,.w c,.w d],4,4=> .leaf (.w (Ym a b c d))
 |_,_,_=> .bad⟩
theorem Qh:Uz.ok prog:=by
 refine⟨by kernel_rfl,fun l n c x h=>?_⟩;simp only[Uz] at h;split at h
 ·cases h;exact vP Fi (Qg _ _ _ _) rfl rfl rfl rfl
 ·cases h
def wy:List WI->Bool
 | []=>false
 |x::l=>bif x.over then true else wy l
def CH(H:Hp WI):List WI->Tree (MV WI×Hp WI)
 | []=> .leaf (.c (.bool false),H)
 |x::l=> .ite x.over (.leaf (.c (.bool true),H)) (CH H l)
theorem qn(H:Hp WI):∀l:List WI,(CH H l).pick=some (.c (.bool (wy l)),H)
 | []=>rfl
 |x::l=>by simp only[CH,Tree.pick,wy,qn H l];cases x.over <;> rfl
theorem Mb(a b c d e f g:WI):j0 XV 3 344 [.s 0 0 7 7] [[.w a,.w b,.w c,.w d,.w e,.w f,.w g]]=CH [[.w a,.w b,.w c,.w d,.w e,.w f,.w g]] [a,b,c,d,e,f,g]:=by kernel_rfl
theorem Mc(a b c d e f g h:WI):j0 XV 3 344 [.s 0 0 8 8] [[.w a,.w b,.w c,.w d,.w e,.w f,.w g,.w h]]=CH [[.w a,.w b,.w c,.w d,.w e,.w f,.w g,.w h]] [a,b,c,d,e,f,g,h]:=by kernel_rfl
theorem Fj(a b c d e f g:WI): (j0 XV 3 344 [.s 0 0 7 7] [[.w a,.w b,.w c,.w d,.w e,.w f,.w g]]).pick=some (.c (.bool (wy [a,b,c,d,e,f,g])),[[.w a,.w b,.w c,.w d,.w e,.w f,.w g]]):=by rw[Mb,qn]
theorem Fk(a b c d e f g h:WI): (j0 XV 3 344 [.s 0 0 8 8] [[.w a,.w b,.w c,.w d,.w e,.w f,.w g,.w h]]).pick=some (.c (.bool (wy [a,b,c,d,e,f,g,h])),[[.w a,.w b,.w c,.w d,.w e,.w f,.w g,.w h]]):=by rw[Mc,qn]
def Md:la WI:=⟨344,fun l n c=>match l,n,c with
 | [.w a,.w b,.w c,.w d,.w e,.w f,.w g],7,7=> .leaf (.v (.bool (wy [a,b,c,d,e,f,g])))
 | [.w a,.w b,.w c,.w d,.w e,.w f,.w g,.w h],8,8=> .leaf (.v (.bool (wy [a,b,c,d,e,f,g,h])))
 |_,_,_=> .bad⟩
theorem Me:Md.ok prog:=by
 refine⟨by kernel_rfl,fun l n c x h=>?_⟩;simp only[Md] at h;split at h
 ·cases h;rename_i a b c d e f g;have h:=vP Fi (Fj a b c d e f g) rfl rfl rfl rfl;exact h
 ·cases h;rename_i a b c d e f g h;have h:=vP Fi (Fk a b c d e f g h) rfl rfl rfl rfl;exact h
 ·cases h
def Yn:vR WI:=Uz.entry::Md.entry::Uy
theorem Qi:Yn.ok prog:=⟨la.eb Qh,la.eb Me,Hi⟩
def cls:List FuncId:=[181,206,341,345,349,338,315,322,314,321,328,85,27,28,97,90,46,298,303,260,87,102,145,189,88,104,248,250,200,89,150,263,264,261,262,265,299,300,105,21,257,256,202,203,266,158,148,259,205,157,29]
theorem wz:PJ prog cls:=⟨by kernel_rfl,by kernel_rfl,by kernel_rfl,by kernel_rfl,by kernel_rfl,by kernel_rfl,by kernel_rfl,by kernel_rfl,by kernel_rfl,by kernel_rfl,by kernel_rfl,by kernel_rfl,by kernel_rfl,by kernel_rfl,by kernel_rfl,by kernel_rfl,by kernel_rfl,by kernel_rfl,by kernel_rfl,by kernel_rfl,by kernel_rfl,by kernel_rfl,by kernel_rfl,by kernel_rfl,by kernel_rfl,by kernel_rfl,by kernel_rfl,by kernel_rfl,by kernel_rfl,by kernel_rfl,by kernel_rfl,by kernel_rfl,by kernel_rfl,by kernel_rfl,by kernel_rfl,by kernel_rfl,by kernel_rfl,by kernel_rfl,by kernel_rfl,by kernel_rfl,by kernel_rfl,by kernel_rfl,by kernel_rfl,by kernel_rfl,by kernel_rfl,by kernel_rfl,by kernel_rfl,by kernel_rfl,by kernel_rfl,by kernel_rfl,by kernel_rfl,trivial⟩
end Go.Proofs.Yq
namespace Go.Proofs.Yq
open Tryz
structure gV (A d y1 y0 q r:Nat):Prop where
 h1:2147483648<=y1
 h2:y1<4294967296
 h0:y0<4294967296
 hd:d<4294967296
 hA:A<y1*4294967296+y0
 he:q*y1+r=A
 hq: (A*4294967296+d)/(y1*4294967296+y0)<=q
theorem gV.start{A d y1 y0:Nat}(h1:2147483648<=y1)(h2:y1<4294967296)(h0:y0<4294967296)(hd:d<4294967296)(hA:A<y1*4294967296+y0):gV A d y1 y0 (A/y1) (A%y1):=by
 refine⟨h1,h2,h0,hd,hA,by rw[nC];exact Nat.div_add_mod A y1,?_⟩;have hy:0<y1:=by omega
 have hp:0<y1*4294967296+y0:=by omega
 apply Nat.le_of_lt_succ;rw[Nat.div_lt_iff_lt_mul hp];have e:=Nat.div_add_mod A y1;have hm:=Nat.mod_lt A hy;have e2: (A/y1).succ*(y1*4294967296+y0)=(y1*(A/y1)+y1)*4294967296+(A/y1+1)*y0:=by rw[Nat.succ_eq_add_one,Nat.mul_add,<-Nat.mul_assoc,Nat.add_mul (A/y1) 1 y1,Nat.one_mul,nC (A/y1) y1]
 rw[e2];have:A+1<=y1*(A/y1)+y1:=by omega
 have h3: (A+1)*4294967296<=(y1*(A/y1)+y1)*4294967296:=nR _ this;omega
theorem Qj{Z X R P:Nat}(e:Z+R=X+P)(h:R<P):X<Z:=by omega
theorem Qk{Z X R P:Nat}(e:Z+R=X+P)(h:P<=R):Z<=X:=by omega
section
variable {A d y1 y0 q r:Nat}
theorem gV.prod(h:gV A d y1 y0 q r):q*(y1*4294967296+y0)+(r*4294967296+d)=A*4294967296+d+q*y0:=by rw[<-h.he,Nat.mul_add,Nat.add_mul,<-Nat.mul_assoc];omega
theorem gV.over(h:gV A d y1 y0 q r)(hc:4294967296<=q∨r*4294967296+d<q*y0): (A*4294967296+d)/(y1*4294967296+y0)<q:=by
 have hp:0<y1*4294967296+y0:=by have:=h.h1;omega
 rw[Nat.div_lt_iff_lt_mul hp];have e:=h.prod;have hd:=h.hd;have hA:=h.hA;rcases hc with hc|hc
 ·obtain⟨Y,hY⟩:∃Y,y1*4294967296+y0=Y:=⟨_,rfl⟩;rw[hY] at hA ⊢;have h3:4294967296*Y<=q*Y:=nR Y hc;clear e hY hp h hc;obtain⟨Z,hZ⟩:∃Z,q*Y=Z:=⟨_,rfl⟩;rw[hZ] at h3 ⊢;clear hZ;omega
 ·exact Qj e hc
theorem gV.next(h:gV A d y1 y0 (q+1) r)(hc:4294967296<=q+1∨r*4294967296+d<(q+1)*y0):gV A d y1 y0 q (r+y1):=
 ⟨h.h1,h.h2,h.h0,h.hd,h.hA,by have:=h.he;rw[Nat.add_mul,Nat.one_mul] at this;omega,by have:=h.over hc;omega⟩
theorem gV.right(h:gV A d y1 y0 q r)(hc:q*y0<=r*4294967296+d):q=(A*4294967296+d)/(y1*4294967296+y0):=by
 apply Nat.le_antisymm _ h.hq;have hp:0<y1*4294967296+y0:=by have:=h.h1;omega
 rw[Nat.le_div_iff_mul_le hp];exact Qk h.prod hc
theorem gV.small(h:gV A d y1 y0 q r)(hr:4294967296<=r):q<4294967296:=by
 have e:=h.he;have hA:=h.hA;have h0:=h.h0;rcases nO q 4294967296 with hq|hq
 ·exact hq
 ·have:4294967296*y1<=q*y1:=nR _ hq;omega
theorem gV.done(h:gV A d y1 y0 q r)(hr:4294967296<=r):q=(A*4294967296+d)/(y1*4294967296+y0):=by apply h.right;have h1:=h.small hr;have h2:q*y0<=4294967296*4294967296:=Nat.mul_le_mul (by omega) (by have:=h.h0;omega);have h3:4294967296*4294967296<=r*4294967296:=nR _ hr;omega
theorem gV.pos(h:gV A d y1 y0 q r)(hc:4294967296<=q∨r*4294967296+d<q*y0):∃p,q=p+1:=by
 refine⟨q-1,?_⟩;rcases hc with hc|hc
 ·omega
 ·rcases Nat.eq_zero_or_pos q with h0|h0
  ·subst h0;omega
  ·omega
end
theorem Hj{A d Y:Nat}(hd:d<4294967296)(hA:A<Y): (A*4294967296+d)/Y<4294967296:=by rw[Nat.div_lt_iff_lt_mul (by omega)];omega
theorem Mf(U t1 t0 Y:Nat)(hY:0<Y)(ht1:t1<4294967296)(ht0:t0<4294967296):
  let T1:=U*4294967296+t1
  let T2:=T1%Y*4294967296+t0
  let N:=U*18446744073709551616+(t1*4294967296+t0)
  N/Y=T1/Y*4294967296+T2/Y/\N%Y=T2%Y:=by
 intro T1 T2 N;have e1:=Nat.div_add_mod T1 Y;have eN:N=Y*(T1/Y*4294967296)+T2:=by
  have:N=T1*4294967296+t0:=by simp only[N,T1];omega
  rw[this];have h2:T1*4294967296=(Y*(T1/Y)+T1%Y)*4294967296:=by rw[e1]
  rw[h2,Nat.add_mul,Nat.mul_assoc];simp only[T2];omega
 rw[eN];exact⟨by rw[Nat.mul_add_div hY],by rw[Nat.mul_add_mod]⟩
theorem Ql(N y s:Nat):N*2^s/(y*2^s)=N/y/\N*2^s%(y*2^s)/2^s=N%y:=by have hp:=Nat.two_pow_pos s;refine⟨Nat.mul_div_mul_right _ _ hp,?_⟩;rw[Nat.mul_mod_mul_right,Nat.mul_div_cancel _ hp]
end Go.Proofs.Yq
namespace Go.Proofs.Yq
open ChangeShapes WideShapes ChangeAt RowKit
open Tryz
attribute [go_sem] dD fI
theorem bitLen_spec{y:Nat}(h0:0<y)(h:y<BB):∃s:Nat,s<64/\((64:Int)-(Lib.bitLen y:Int))=(s:Int)/\BB<=y*2^s*2/\y*2^s<BB:=by
 obtain⟨h1,h2⟩:=ld 64 y h;have h2:=h2 (by omega);obtain⟨l,hl⟩:∃l,Lib.bitLen y=l:=⟨_,rfl⟩;have hl':Lib.bitLenAux 64 y=l:=hl;rw[hl'] at h1 h2;have hl0:0<l:=by
  rcases Nat.eq_zero_or_pos l with e|e
  ·subst e;simp at h1;omega
  ·exact e
 have hl64:l<=64:=by
  rcases nO 64 l with e|e
  ·have:2^64<=2^(l-1):=Nat.pow_le_pow_right (by decide) (by omega);have e2:BB=2^64:=rfl;omega
  ·exact e
 refine⟨64-l,by omega,by omega,?_,?_⟩
 ·have e:BB=2^(l-1)*2^(64-l)*2:=by rw[<-Nat.pow_add,show l-1+(64-l)=63 by omega];rfl
  rw[e];exact nR 2 (nR _ h2)
 ·have e:BB=2^l*2^(64-l):=by rw[<-Nat.pow_add,show l+(64-l)=64 by omega];rfl
  rw[e];exact Nat.mul_lt_mul_of_pos_right h1 (Nat.two_pow_pos _)
theorem Fl(lo y:Nat)(w:World)(hl:lo<BB)(hy:y<BB)(hh:0<y):
  Calls prog 290 #[.int .u64 0,.int .u64 lo,.int .u64 y] w fun e w'=>e= .returned (.tuple #[.int .u64 (lo/y:Nat),.int .u64 (lo%y:Nat)])/\w'=w.drew:=by
 have y0:¬(y:Int)=0:=by omega
 have hh1: (0:Int)<(y:Int):=by omega
 have hw:IntKind.u64.wrap ((lo:Int)/(y:Int))=((lo/y:Nat):Int):=by have:lo/y<BB:=Nat.lt_of_le_of_lt (Nat.div_le_self _ _) hl;rw[<-Int.natCast_ediv,IntKind.wrap_u64];unfold BB at this;generalize lo/y=z at*;omega
 obtain⟨q,hq⟩:∃q,lo/y=q:=⟨_,rfl⟩;obtain⟨r,hr⟩:∃r,lo%y=r:=⟨_,rfl⟩;have hr2: (lo:Int)%(y:Int)=(r:Int):=by rw[<-hr];rfl
 rw[hq] at hw ⊢;rw[hr];clear hq hr;go_enter func290,ntmps290;go_wp2_with fail
 go_region
 go_wp2_with fail;go_ret2;refine⟨?_,rfl⟩;show Ending.returned (.tuple #[.int .u64 (q:Int),.int .u64 ((lo:Int)%(y:Int))])=_;rw[hr2]
theorem CI{a s:Nat}(h:a*2^s<BB):IntKind.u64.wrap ((a:Nat)*2^s)=((a*2^s:Nat):Int):=by rw[pC,nM h]
theorem CJ{x:Nat}(h:x<BB):bits .and .u64 (x:Int) 4294967295=((x%4294967296:Nat):Int):=by
 show IntKind.u64.wrap ((BitVec.ofInt 64 (x:Int)&&& BitVec.ofInt 64 4294967295).toNat:Int)=_;have e: (BitVec.ofInt 64 (x:Int)).toNat=x:=by rw[BitVec.ofInt_natCast,BitVec.toNat_ofNat];exact nM h
 rw[BitVec.toNat_and,e,show(BitVec.ofInt 64 4294967295).toNat=2^32-1 by decide,Nat.and_two_pow_sub_one_eq_mod,IntKind.wrap_u64];omega
theorem Hk{x:Nat}(h:x<BB):IntKind.u64.wrap (x:Int)=(x:Int):=by rw[IntKind.wrap_u64];unfold BB at h;omega
theorem Mg(x y:Nat)(h:x<BB):IntKind.u64.wrap ((x:Int)/(y:Int))=((x/y:Nat):Int):=by rw[<-Int.natCast_ediv];exact Hk (Nat.lt_of_le_of_lt (Nat.div_le_self _ _) h)
theorem wrap_mul{x y:Nat}(h:x*y<BB):IntKind.u64.wrap ((x:Int)*(y:Int))=((x*y:Nat):Int):=by rw[<-Int.natCast_mul];exact Hk h
theorem yV{U t Y:Nat}(hU:U<Y)(hY:Y<BB)(ht:t<4294967296):
  IntKind.u64.wrap (IntKind.u64.wrap (IntKind.u64.wrap ((U:Int)*4294967296)+(t:Int))-IntKind.u64.wrap ((((U*4294967296+t)/Y:Nat):Int)*(Y:Int)))=(((U*4294967296+t)%Y:Nat):Int):=by
 have e:=Nat.div_add_mod (U*4294967296+t) Y;have hm:=Nat.mod_lt (U*4294967296+t) (show 0<Y by omega);rw[<-Int.natCast_mul,nC];generalize Y*((U*4294967296+t)/Y)=P at*;generalize (U*4294967296+t)%Y=R at*;simp only[IntKind.wrap_u64];unfold BB at hY;omega
theorem Fm{U y1:Nat}(hU:U<BB):IntKind.u64.wrap ((U:Int)-IntKind.u64.wrap (((U/y1:Nat):Int)*(y1:Int)))=((U%y1:Nat):Int):=by have e:=Nat.div_add_mod U y1;rw[<-Int.natCast_mul,nC];generalize y1*(U/y1)=P at*;generalize U%y1=R at*;simp only[IntKind.wrap_u64];unfold BB at hU;omega
theorem UA(hi lo y s:Nat)(hs:s<64)(hl:lo<BB)(hH:hi*2^s<BB):bits .or .u64 ((hi*2^s:Nat):Int) ((lo:Int)/2^(64-s))=((hi*2^s+lo/2^(64-s):Nat):Int):=
 CF _ _ _ hs hH (Nat.mul_mod_left _ _) hl
theorem Jf(hi lo s:Nat)(hs:s<64): (hi*BB+lo)*2^s=(hi*2^s+lo/2^(64-s))*BB+lo*2^s%BB:=by
 have hbb:BB=2^(64-s)*2^s:=by rw[<-Nat.pow_add,show 64-s+s=64 by omega];rfl
 have e:lo*2^s/BB=lo/2^(64-s):=by rw[hbb,Nat.mul_div_mul_right _ _ (Nat.two_pow_pos s)]
 have e2:=Nat.div_add_mod (lo*2^s) BB;rw[e] at e2;rw[Nat.add_mul,Nat.add_mul,Nat.mul_right_comm hi BB,nC (lo/2^(64-s))];omega
def Qm(q:Nat):Prop:=(q:Int)<4294967296/\decide (4294967296<=q)=false/\¬(4294967296:Int)<=(q:Int)
def Mh(q:Nat):Prop:=¬(q:Int)<4294967296/\decide (4294967296<=q)=true/\(4294967296:Int)<=(q:Int)
theorem isLt{q:Nat}(h:q<4294967296):Qm q:=⟨by omega,by simp;omega,by omega⟩
theorem SZ{q:Nat}(h:4294967296<=q):Mh q:=⟨by omega,by simp;omega,by omega⟩
theorem gV.round{A d y1 y0 q r Y:Nat}(h:gV A d y1 y0 q r)(hY:Y=y1*4294967296+y0)(hr:r<4294967296)(hA:A<BB):
  ∃R S P:Nat,IntKind.u64.wrap (4294967296*(r:Int))=(R:Int)/\IntKind.u64.wrap ((R:Int)+(d:Int))=(S:Int)/\
  ((Qm q/\IntKind.u64.wrap ((q:Int)*(y0:Int))=(P:Int)/\¬S<P/\q=(A*4294967296+d)/Y)∨
   ((Mh q∨(Qm q/\IntKind.u64.wrap ((q:Int)*(y0:Int))=(P:Int)/\S<P))/\
   ∃q2 r2:Nat,q2<q/\IntKind.u64.wrap ((q:Int)-1)=(q2:Int)/\IntKind.u64.wrap ((r:Int)+(y1:Int))=(r2:Int)/\gV A d y1 y0 q2 r2/\
    ((Qm r2/\Hid (r2<4294967296))∨(Mh r2/\q2=(A*4294967296+d)/Y)))):=by
 have hd:=h.hd;have h0:=h.h0;have h2:=h.h2;have h1:=h.h1;refine⟨4294967296*r,4294967296*r+d,q*y0,by rw[IntKind.wrap_u64];omega,by rw[IntKind.wrap_u64];omega,?_⟩;have hpw:q<4294967296->IntKind.u64.wrap ((q:Int)*(y0:Int))=((q*y0:Nat):Int):=fun hh=>by refine wrap_mul (Nat.lt_of_le_of_lt (Nat.mul_le_mul (show q<=4294967295 by omega) (show y0<=4294967295 by omega)) (by decide))
 by_cases hc:4294967296<=q∨r*4294967296+d<q*y0
 ·right;constructor
  ·rcases nO q 4294967296 with hq|hq
   ·right;refine⟨isLt hq,hpw hq,?_⟩;have:r*4294967296+d<q*y0:=by omega
    rw[nC 4294967296 r];exact this
   ·left;exact SZ hq
  ·obtain⟨q2,e2⟩:=h.pos hc;have hn:gV A d y1 y0 q2 (r+y1):=by rw[e2] at h hc;exact h.next hc
   refine⟨q2,r+y1,by omega,?_,by rw[IntKind.wrap_u64];omega,hn,?_⟩
   ·have he:=h.he;have h3:q*1<=q*y1:=Nat.mul_le_mul_left _ (by omega);rw[IntKind.wrap_u64];unfold BB at hA;omega
   ·rcases nO (r+y1) 4294967296 with hx|hx
    ·left;exact⟨isLt hx,hx⟩
    ·right;exact⟨SZ hx,by rw[hY];exact hn.done hx⟩
 ·left;have hle:q*y0<=r*4294967296+d:=by omega
  refine⟨isLt (by omega),hpw (by omega),?_,by rw[hY];exact h.right hle⟩;rw[nC 4294967296 r];omega
theorem gV.begin{A d y1 y0 Y:Nat}(hY:Y=y1*4294967296+y0)(hYB:Y<BB)(h1:2147483648<=y1)(h0:y0<4294967296)(hd:d<4294967296)(hA:A<Y):
  ∃q r:Nat,IntKind.u64.wrap ((A:Int)/(y1:Int))=(q:Int)/\IntKind.u64.wrap ((A:Int)-IntKind.u64.wrap ((q:Int)*(y1:Int)))=(r:Int)/\gV A d y1 y0 q r/\r<4294967296:=by
 have hAB:A<BB:=by omega
 have h2:y1<4294967296:=by unfold BB at hYB;omega
 refine⟨A/y1,A%y1,Mg _ _ hAB,Fm hAB,gV.start h1 h2 h0 hd (hY ▸ hA),?_⟩;have:=Nat.mod_lt A (show 0<y1 by omega);omega
theorem Qn{a b:Nat}(ha:a<4294967296)(hb:b<4294967296):IntKind.u64.wrap (IntKind.u64.wrap ((a:Int)*4294967296)+(b:Int))=((a*4294967296+b:Nat):Int):=by simp only[IntKind.wrap_u64];omega
theorem wrap_wrap{x b q:Int}(h:IntKind.u64.wrap (IntKind.u64.wrap x+b)=q):IntKind.u64.wrap (x+b)=q:=by rw[<-h];simp only[IntKind.wrap_u64];omega
theorem Mi{U t1 t0 Y:Nat}(hY:Y<BB)(hU:U<Y)(h1:t1<4294967296)(h0:t0<4294967296):
  IntKind.u64.wrap (IntKind.u64.wrap ((((U*4294967296+t1)/Y:Nat):Int)*4294967296)+((((U*4294967296+t1)%Y*4294967296+t0)/Y:Nat):Int))=(((U*BB+(t1*4294967296+t0))/Y:Nat):Int):=by
 obtain⟨e1,e2⟩:=Mf U t1 t0 Y (by omega) h1 h0;have l1:=Hj h1 hU;have l2:=Hj h0 (Nat.mod_lt (U*4294967296+t1) (show 0<Y by omega));unfold BB;rw[e1];exact Qn l1 l2
theorem Jg(hi lo y:Nat)(w:World)(hl:lo<BB)(hy:y<BB)(hh:hi<y)(hp:0<hi):
  Calls prog 290 #[.int .u64 hi,.int .u64 lo,.int .u64 y] w fun e w'=>e= .returned (.tuple #[.int .u64 ((hi*BB+lo)/y:Nat),.int .u64 ((hi*BB+lo)%y:Nat)])/\w'=w:=by
 have y0:¬(y:Int)=0:=by omega
 have hh1: (hi:Int)<(y:Int):=by omega
 have h1:¬(hi:Int)=0:=by omega
 obtain⟨s,hs,hsi,hY1,hY2⟩:=bitLen_spec (show 0<y by omega) hy;have HLZ:Hid (∀w,Calls prog 291 #[.int .u64 y] w fun e w'=>e= .returned (.int .i64 (s:Nat))/\w'=w):=fun w=>by
  have:=Tryz.bits_LeadingZeros64 (y:Int) w (by omega) (by unfold BB at hy;omega)
  rwa [Int.toNat_natCast,hsi] at this
 have hsY:=CI hY2;have hHY:hi*2^s+1<=y*2^s:=Nat.mul_lt_mul_of_pos_right hh (Nat.two_pow_pos _);have hH:hi*2^s<BB:=by omega
 have hsH:=CI hH;have hsL:=pC lo s;have hOr:=UA hi lo y s hs hl hH;have hWS:=Jf hi lo s hs;obtain⟨hD,hM⟩:=Ql (hi*BB+lo) y s;have hU:hi*2^s+lo/2^(64-s)<y*2^s:=by
  have:lo/2^(64-s)<2^s:=by rw[Nat.div_lt_iff_lt_mul (Nat.two_pow_pos _),<-Nat.pow_add,show s+(64-s)=64 by omega];exact hl
  have e: (hi+1)*2^s<=y*2^s:=nR _ hh;rw[Nat.add_mul,Nat.one_mul] at e;omega
 have hLB:lo*2^s%BB<BB:=Nat.mod_lt _ dx;obtain⟨Y,eY⟩:∃Y,y*2^s=Y:=⟨_,rfl⟩;obtain⟨H,eH⟩:∃H,hi*2^s=H:=⟨_,rfl⟩;obtain⟨L,eL⟩:∃L,lo*2^s%BB=L:=⟨_,rfl⟩;obtain⟨U,eU⟩:∃U,H+lo/2^(64-s)=U:=⟨_,rfl⟩;rw[eH] at hOr hsH hU hWS;rw[eU] at hU hWS hOr;rw[eY] at hsY hU hY1 hY2 hD hM;rw[eL] at hsL hWS hLB;rw[hWS] at hD hM;have ha1:=CJ hY2;have ha2:=CJ hLB;obtain⟨y1,ey1⟩:∃y1,Y/4294967296=y1:=⟨_,rfl⟩;obtain⟨yl,eyl⟩:∃yl,Y%4294967296=yl:=⟨_,rfl⟩;obtain⟨t1,et1⟩:∃t1,L/4294967296=t1:=⟨_,rfl⟩;obtain⟨t0,et0⟩:∃t0,L%4294967296=t0:=⟨_,rfl⟩;have hd1: (Y:Int)/4294967296=(y1:Int):=by omega
 have hd2: (L:Int)/4294967296=(t1:Int):=by omega
 rw[eyl] at ha1;rw[et0] at ha2;have hYs:Y=y1*4294967296+yl:=by omega
 have hLs:L=t1*4294967296+t0:=by omega
 have hUB:U<BB:=by omega
 have hy1:2147483648<=y1:=by unfold BB at hY1;omega
 have hy12:y1<4294967296:=by unfold BB at hY2;omega
 have hyl:yl<4294967296:=by omega
 have ht1:t1<4294967296:=by unfold BB at hLB;omega
 have ht0:t0<4294967296:=by omega
 have HRD:=qD (fun(A d q r:Nat) (h:gV A d y1 yl q r) hr hA=>gV.round h hYs hr hA);obtain⟨q,r,hq,hr,hf,hr2⟩:=gV.begin hYs hY2 hy1 hyl ht1 hU;have HF:=qD hf;have HB2:=qD (fun(A:Nat) (h:A<Y)=>gV.begin hYs hY2 hy1 hyl ht0 h);have HR1:=qD (yV hU hY2 ht1);have HA2:=qD (Nat.mod_lt (U*4294967296+t1) (show 0<Y by omega));have HR2:=qD (yV (HA2.o) hY2 ht0);have HQW:=qD (Mi hY2 hU ht1 ht0);obtain⟨Q,hQ⟩:∃Q,(hi*BB+lo)/y=Q:=⟨_,rfl⟩;obtain⟨Z,hZ⟩:∃Z,(hi*BB+lo)%y=Z:=⟨_,rfl⟩;rw[hQ] at hD ⊢;rw[hZ] at hM ⊢;clear hQ hZ;have HHV:=qD (Mf U t1 t0 Y (by omega) ht1 ht0);have HDM:=qD (And.intro hD hM);have HLS:=qD hLs;have HFIN:Hid (∀qa qb A:Nat,(U*4294967296+t1)%Y=A->qa=(U*4294967296+t1)/Y->qb=(A*4294967296+t0)/Y->IntKind.u64.wrap (IntKind.u64.wrap ((qa:Int)*4294967296)+(qb:Int))=(Q:Int)/\Hid ((qa:Int)*4294967296+(qb:Int)=(Q:Int))/\∃r0:Nat,(A*4294967296+t0)%Y=r0/\(r0:Int)/2^s=(Z:Int)):=by
  intro qa qb A hA h1 h2;refine⟨?_,?_,_,rfl,?_⟩
  ·have h:=HQW.o;rw[hA,<-h1,<-h2,<-HLS.o,HDM.o.1] at h;exact h
  ·have h:=HHV.o.1;rw[hA,<-h1,<-h2,<-HLS.o] at h;have h3:=HDM.o.1;unfold BB at h3;rw[h] at h3;rw[<-h3];simp[Hid]
  ·have h:=HDM.o.2;have h2:=HHV.o.2;rw[hA,<-HLS.o] at h2;unfold BB at h;rw[h2] at h;rw[<-h];simp
 have HUB:=qD hUB;have HY2:=qD hY2;have y10:¬(y1:Int)=0:=by omega
 clear hf hl hy hh hp hY1 hY2 hU hLB hUB hy1 hy12 hyl ht1 ht0;have HR:=qD hr2;clear hsi hD hM hWS hYs hLs eY eH eL eU ey1 eyl et1 et0 hHY hH hr2;go_enter func290,ntmps290;go_wp2_with fail;refine(HLZ.o _).mono ?_;rintro e w1 ⟨rfl,rfl⟩;go_wp2_with fail
 go_loop [15,16] (fun c x=>∃q r:Nat,c= .int .u64 q/\x= .int .u64 r/\Hid (gV U t1 y1 yl q r/\r<4294967296)) (fun c _=>(intOf c).toNat)
 case atStart=>exact⟨q,r,rfl,rfl,HF.o,HR.o⟩
 case round=>
  clear hq hr HF HR;obtain⟨q',r',rfl,rfl,hf⟩:=hrel;obtain⟨R,S,P,w1',w2,hrest⟩:=HRD.o _ _ _ _ hf.o.1 hf.o.2 HUB.o;rcases hrest with⟨⟨hc,hcd,hci⟩,w3,w4,hd1⟩|⟨⟨hc,hcd,hci⟩|⟨⟨hc,hcd,hci⟩,w3,w4⟩,q2,r2,hlt,w5,w6,hn,⟨⟨g1,g2,g3⟩,hrb⟩|⟨⟨g1,g2,g3⟩,hd1⟩⟩
  ·clear hf;have HD:=qD hd1;obtain⟨A,eA⟩:∃A,(U*4294967296+t1)%Y=A:=⟨_,rfl⟩;have hR1:=HR1.o;rw[<-hd1,eA] at hR1;obtain⟨qb,rb,v1,v2,hf2,hrb⟩:=HB2.o A (by rw[<-eA];exact HA2.o);have HF2:=qD (And.intro hf2 hrb);have HEA:=qD eA;have HAB:Hid (A<BB):=by rw[<-eA];exact Nat.lt_trans HA2.o HY2.o
   clear hd1 eA hf2 hrb;go_wp2_with fail
   go_loop [16,18] (fun x c=>∃q r:Nat,c= .int .u64 q/\x= .int .u64 r/\Hid (gV A t0 y1 yl q r/\r<4294967296)) (fun _ c=>(intOf c).toNat)
   case atStart=>exact⟨qb,rb,rfl,rfl,HF2.o⟩
   case round=>
    clear v1 v2 HF2 hR1;obtain⟨qx,rx,rfl,rfl,hfx⟩:=hrel;obtain⟨R',S',P',x1,x2,hrest2⟩:=HRD.o _ _ _ _ hfx.o.1 hfx.o.2 HAB.o;rcases hrest2 with⟨⟨k1,k2,k3⟩,x3,x4,hd2⟩|⟨⟨k1,k2,k3⟩|⟨⟨k1,k2,k3⟩,x3,x4⟩,q2',r2',hlt2,x5,x6,hn2,⟨⟨m1,m2,m3⟩,hrb2⟩|⟨⟨m1,m2,m3⟩,hd2⟩⟩
    ·clear hfx;obtain⟨hQ1,HQN,r0,er0,hZ⟩:=HFIN.o _ _ _ HEA.o HD.o hd2;have HQM:=qD (wrap_wrap hQ1);have hR2:=HR2.o;rw[HEA.o,<-hd2,er0] at hR2;clear hd2 er0;go_wp2_with fail;go_ret2;exact⟨by first|rfl|(show Ending.returned (.tuple #[.int .u64 ((q':Int)*4294967296+(qx:Int)),.int .u64 (Z:Int)])=_;rw[HQN.o])|(show Ending.returned (.tuple #[.int .u64 (IntKind.u64.wrap ((q':Int)*4294967296+(qx:Int))),.int .u64 (Z:Int)])=_;rw[HQM.o]),by first|rfl|trivial⟩
    ·have HN2:=qD (And.intro hn2 hrb2.o);have HLT2:=qD hlt2;clear hn2 hlt2 hrb2 hfx x1 x2;go_wp2_with fail;go_roundw
     case rel=>exact⟨q2',r2',rfl,rfl,HN2.o⟩
     case measure=>have:=HLT2.o;simp[intOf];omega
    ·clear hn2 hlt2 hfx x1 x2;obtain⟨hQ1,HQN,r0,er0,hZ⟩:=HFIN.o _ _ _ HEA.o HD.o hd2;have HQM:=qD (wrap_wrap hQ1);have hR2:=HR2.o;rw[HEA.o,<-hd2,er0] at hR2;clear hd2 er0;go_wp2_with fail;go_ret2;exact⟨by first|rfl|(show Ending.returned (.tuple #[.int .u64 ((q':Int)*4294967296+(q2':Int)),.int .u64 (Z:Int)])=_;rw[HQN.o])|(show Ending.returned (.tuple #[.int .u64 (IntKind.u64.wrap ((q':Int)*4294967296+(q2':Int))),.int .u64 (Z:Int)])=_;rw[HQM.o]),by first|rfl|trivial⟩
    ·have HN2:=qD (And.intro hn2 hrb2.o);have HLT2:=qD hlt2;clear hn2 hlt2 hrb2 hfx;go_wp2_with fail;go_roundw
     case rel=>exact⟨q2',r2',rfl,rfl,HN2.o⟩
     case measure=>have:=HLT2.o;simp[intOf];omega
    ·clear hn2 hlt2 hfx;obtain⟨hQ1,HQN,r0,er0,hZ⟩:=HFIN.o _ _ _ HEA.o HD.o hd2;have HQM:=qD (wrap_wrap hQ1);have hR2:=HR2.o;rw[HEA.o,<-hd2,er0] at hR2;clear hd2 er0;go_wp2_with fail;go_ret2;exact⟨by first|rfl|(show Ending.returned (.tuple #[.int .u64 ((q':Int)*4294967296+(q2':Int)),.int .u64 (Z:Int)])=_;rw[HQN.o])|(show Ending.returned (.tuple #[.int .u64 (IntKind.u64.wrap ((q':Int)*4294967296+(q2':Int))),.int .u64 (Z:Int)])=_;rw[HQM.o]),by first|rfl|trivial⟩
  ·have HN:=qD (And.intro hn hrb.o);have HLT:=qD hlt;clear hn hlt hrb hf;go_wp2_with fail
   go_round
   case rel=>exact⟨q2,r2,rfl,rfl,HN.o⟩
   case measure=>have:=HLT.o;simp[intOf];omega
  ·clear hn hlt hf;have HD:=qD hd1;obtain⟨A,eA⟩:∃A,(U*4294967296+t1)%Y=A:=⟨_,rfl⟩;have hR1:=HR1.o;rw[<-hd1,eA] at hR1;obtain⟨qb,rb,v1,v2,hf2,hrb⟩:=HB2.o A (by rw[<-eA];exact HA2.o);have HF2:=qD (And.intro hf2 hrb);have HEA:=qD eA;have HAB:Hid (A<BB):=by rw[<-eA];exact Nat.lt_trans HA2.o HY2.o
   clear hd1 eA hf2 hrb;go_wp2_with fail
   go_loop [16,18] (fun x c=>∃q r:Nat,c= .int .u64 q/\x= .int .u64 r/\Hid (gV A t0 y1 yl q r/\r<4294967296)) (fun _ c=>(intOf c).toNat)
   case atStart=>exact⟨qb,rb,rfl,rfl,HF2.o⟩
   case round=>
    clear v1 v2 HF2 hR1;obtain⟨qx,rx,rfl,rfl,hfx⟩:=hrel;obtain⟨R',S',P',x1,x2,hrest2⟩:=HRD.o _ _ _ _ hfx.o.1 hfx.o.2 HAB.o;rcases hrest2 with⟨⟨k1,k2,k3⟩,x3,x4,hd2⟩|⟨⟨k1,k2,k3⟩|⟨⟨k1,k2,k3⟩,x3,x4⟩,q2',r2',hlt2,x5,x6,hn2,⟨⟨m1,m2,m3⟩,hrb2⟩|⟨⟨m1,m2,m3⟩,hd2⟩⟩
    ·clear hfx;obtain⟨hQ1,HQN,r0,er0,hZ⟩:=HFIN.o _ _ _ HEA.o HD.o hd2;have HQM:=qD (wrap_wrap hQ1);have hR2:=HR2.o;rw[HEA.o,<-hd2,er0] at hR2;clear hd2 er0;go_wp2_with fail;go_ret2;exact⟨by first|rfl|(show Ending.returned (.tuple #[.int .u64 ((q2:Int)*4294967296+(qx:Int)),.int .u64 (Z:Int)])=_;rw[HQN.o])|(show Ending.returned (.tuple #[.int .u64 (IntKind.u64.wrap ((q2:Int)*4294967296+(qx:Int))),.int .u64 (Z:Int)])=_;rw[HQM.o]),by first|rfl|trivial⟩
    ·have HN2:=qD (And.intro hn2 hrb2.o);have HLT2:=qD hlt2;clear hn2 hlt2 hrb2 hfx x1 x2;go_wp2_with fail;go_roundw
     case rel=>exact⟨q2',r2',rfl,rfl,HN2.o⟩
     case measure=>have:=HLT2.o;simp[intOf];omega
    ·clear hn2 hlt2 hfx x1 x2;obtain⟨hQ1,HQN,r0,er0,hZ⟩:=HFIN.o _ _ _ HEA.o HD.o hd2;have HQM:=qD (wrap_wrap hQ1);have hR2:=HR2.o;rw[HEA.o,<-hd2,er0] at hR2;clear hd2 er0;go_wp2_with fail;go_ret2;exact⟨by first|rfl|(show Ending.returned (.tuple #[.int .u64 ((q2:Int)*4294967296+(q2':Int)),.int .u64 (Z:Int)])=_;rw[HQN.o])|(show Ending.returned (.tuple #[.int .u64 (IntKind.u64.wrap ((q2:Int)*4294967296+(q2':Int))),.int .u64 (Z:Int)])=_;rw[HQM.o]),by first|rfl|trivial⟩
    ·have HN2:=qD (And.intro hn2 hrb2.o);have HLT2:=qD hlt2;clear hn2 hlt2 hrb2 hfx;go_wp2_with fail;go_roundw
     case rel=>exact⟨q2',r2',rfl,rfl,HN2.o⟩
     case measure=>have:=HLT2.o;simp[intOf];omega
    ·clear hn2 hlt2 hfx;obtain⟨hQ1,HQN,r0,er0,hZ⟩:=HFIN.o _ _ _ HEA.o HD.o hd2;have HQM:=qD (wrap_wrap hQ1);have hR2:=HR2.o;rw[HEA.o,<-hd2,er0] at hR2;clear hd2 er0;go_wp2_with fail;go_ret2;exact⟨by first|rfl|(show Ending.returned (.tuple #[.int .u64 ((q2:Int)*4294967296+(q2':Int)),.int .u64 (Z:Int)])=_;rw[HQN.o])|(show Ending.returned (.tuple #[.int .u64 (IntKind.u64.wrap ((q2:Int)*4294967296+(q2':Int))),.int .u64 (Z:Int)])=_;rw[HQM.o]),by first|rfl|trivial⟩
  ·have HN:=qD (And.intro hn hrb.o);have HLT:=qD hlt;clear hn hlt hrb hf;go_wp2_with fail
   go_round
   case rel=>exact⟨q2,r2,rfl,rfl,HN.o⟩
   case measure=>have:=HLT.o;simp[intOf];omega
  ·clear hn hlt hf;have HD:=qD hd1;obtain⟨A,eA⟩:∃A,(U*4294967296+t1)%Y=A:=⟨_,rfl⟩;have hR1:=HR1.o;rw[<-hd1,eA] at hR1;obtain⟨qb,rb,v1,v2,hf2,hrb⟩:=HB2.o A (by rw[<-eA];exact HA2.o);have HF2:=qD (And.intro hf2 hrb);have HEA:=qD eA;have HAB:Hid (A<BB):=by rw[<-eA];exact Nat.lt_trans HA2.o HY2.o
   clear hd1 eA hf2 hrb;go_wp2_with fail
   go_loop [16,18] (fun x c=>∃q r:Nat,c= .int .u64 q/\x= .int .u64 r/\Hid (gV A t0 y1 yl q r/\r<4294967296)) (fun _ c=>(intOf c).toNat)
   case atStart=>exact⟨qb,rb,rfl,rfl,HF2.o⟩
   case round=>
    clear v1 v2 HF2 hR1;obtain⟨qx,rx,rfl,rfl,hfx⟩:=hrel;obtain⟨R',S',P',x1,x2,hrest2⟩:=HRD.o _ _ _ _ hfx.o.1 hfx.o.2 HAB.o;rcases hrest2 with⟨⟨k1,k2,k3⟩,x3,x4,hd2⟩|⟨⟨k1,k2,k3⟩|⟨⟨k1,k2,k3⟩,x3,x4⟩,q2',r2',hlt2,x5,x6,hn2,⟨⟨m1,m2,m3⟩,hrb2⟩|⟨⟨m1,m2,m3⟩,hd2⟩⟩
    ·clear hfx;obtain⟨hQ1,HQN,r0,er0,hZ⟩:=HFIN.o _ _ _ HEA.o HD.o hd2;have HQM:=qD (wrap_wrap hQ1);have hR2:=HR2.o;rw[HEA.o,<-hd2,er0] at hR2;clear hd2 er0;go_wp2_with fail;go_ret2;exact⟨by first|rfl|(show Ending.returned (.tuple #[.int .u64 ((q2:Int)*4294967296+(qx:Int)),.int .u64 (Z:Int)])=_;rw[HQN.o])|(show Ending.returned (.tuple #[.int .u64 (IntKind.u64.wrap ((q2:Int)*4294967296+(qx:Int))),.int .u64 (Z:Int)])=_;rw[HQM.o]),by first|rfl|trivial⟩
    ·have HN2:=qD (And.intro hn2 hrb2.o);have HLT2:=qD hlt2;clear hn2 hlt2 hrb2 hfx x1 x2;go_wp2_with fail;go_roundw
     case rel=>exact⟨q2',r2',rfl,rfl,HN2.o⟩
     case measure=>have:=HLT2.o;simp[intOf];omega
    ·clear hn2 hlt2 hfx x1 x2;obtain⟨hQ1,HQN,r0,er0,hZ⟩:=HFIN.o _ _ _ HEA.o HD.o hd2;have HQM:=qD (wrap_wrap hQ1);have hR2:=HR2.o;rw[HEA.o,<-hd2,er0] at hR2;clear hd2 er0;go_wp2_with fail;go_ret2;exact⟨by first|rfl|(show Ending.returned (.tuple #[.int .u64 ((q2:Int)*4294967296+(q2':Int)),.int .u64 (Z:Int)])=_;rw[HQN.o])|(show Ending.returned (.tuple #[.int .u64 (IntKind.u64.wrap ((q2:Int)*4294967296+(q2':Int))),.int .u64 (Z:Int)])=_;rw[HQM.o]),by first|rfl|trivial⟩
    ·have HN2:=qD (And.intro hn2 hrb2.o);have HLT2:=qD hlt2;clear hn2 hlt2 hrb2 hfx;go_wp2_with fail;go_roundw
     case rel=>exact⟨q2',r2',rfl,rfl,HN2.o⟩
     case measure=>have:=HLT2.o;simp[intOf];omega
    ·clear hn2 hlt2 hfx;obtain⟨hQ1,HQN,r0,er0,hZ⟩:=HFIN.o _ _ _ HEA.o HD.o hd2;have HQM:=qD (wrap_wrap hQ1);have hR2:=HR2.o;rw[HEA.o,<-hd2,er0] at hR2;clear hd2 er0;go_wp2_with fail;go_ret2;exact⟨by first|rfl|(show Ending.returned (.tuple #[.int .u64 ((q2:Int)*4294967296+(q2':Int)),.int .u64 (Z:Int)])=_;rw[HQN.o])|(show Ending.returned (.tuple #[.int .u64 (IntKind.u64.wrap ((q2:Int)*4294967296+(q2':Int))),.int .u64 (Z:Int)])=_;rw[HQM.o]),by first|rfl|trivial⟩
theorem yW(hi lo y:Nat)(w:World)(hl:lo<BB)(hy:y<BB)(hh:hi<y):
  Calls prog 290 #[.int .u64 hi,.int .u64 lo,.int .u64 y] w fun e w'=>e= .returned (.tuple #[.int .u64 ((hi*BB+lo)/y:Nat),.int .u64 ((hi*BB+lo)%y:Nat)])/\∃m,w'=w.drewN m:=by
 rcases Nat.eq_zero_or_pos hi with h0|h0
 ·subst h0;rw[Nat.zero_mul,Nat.zero_add];exact(Fl lo y w hl hy hh).mono fun e w' h=>⟨h.1,1,h.2⟩
 ·exact(Jg hi lo y w hl hy hh h0).mono fun e w' h=>⟨h.1,0,h.2⟩
end Go.Proofs.Yq
namespace Go.Proofs.Yq
open Tryz
theorem rm(x k:Nat):x/BB^k=x/BB^(k+1)*BB+lim x k:=by unfold lim;rw[Nat.pow_succ,<-Nat.div_div_eq_div_mul,nC];exact(Nat.div_add_mod _ _).symm
structure ll (U V l d left:Nat):Prop where
 hU:U<BB^(l+3)
 hV:V<BB^(l+2)
 hq:U/V<=d
 he:d*lim V (l+1)+left=U/BB^(l+1)
section
variable {U V l d left:Nat}
theorem uN(h:V<BB^(l+2)):V/BB^(l+1)=lim V (l+1):=by unfold lim;rw[nM];rw[Nat.div_lt_iff_lt_mul (aC _),<-Nat.pow_succ'];exact h
theorem abW(h:V<BB^(l+2)): (lim V (l+1)*BB+lim V l)*BB^l<=V:=by rw[<-uN h,<-rm];exact Nat.div_mul_le_self _ _
theorem ll.start(hU:U<BB^(l+3))(hV:V<BB^(l+2))(h0:0<lim V (l+1)):ll U V l (U/BB^(l+1)/lim V (l+1)) (U/BB^(l+1)%lim V (l+1)):=by refine⟨hU,hV,?_,by rw[nC];exact Nat.div_add_mod _ _⟩;have e:V/BB^(l+1)=lim V (l+1):=uN hV;rw[<-e,Nat.div_div_eq_div_mul];have h1:BB^(l+1)*(V/BB^(l+1))<=V:=Nat.mul_div_le _ _;have h2:0<BB^(l+1)*(V/BB^(l+1)):=Nat.mul_pos (aC _) (by rw[e];exact h0);exact Nat.div_le_div_left h1 h2
theorem ll.over(h:ll U V l d left)(hc:left*BB+lim U l<d*lim V l):U/V<d:=by
 have hv:=abW h.hV;have hd0:0<d:=by
  rcases Nat.eq_zero_or_pos d with e|e
  ·subst e;simp at hc
  ·exact e
 have hV0:0<V:=by
  rcases Nat.eq_zero_or_pos V with e|e
  ·subst e;have:lim 0 l=0:=jr l;rw[this] at hc;simp at hc
  ·exact e
 rw[Nat.div_lt_iff_lt_mul hV0];have e1:=h.he;have e2:U/BB^l=(d*lim V (l+1)+left)*BB+lim U l:=by rw[e1];exact rm U l
 have e3:U<(U/BB^l+1)*BB^l:=by rw[nC];exact Nat.lt_mul_div_succ U (aC l)
 have e4:U/BB^l+1<=d*(lim V (l+1)*BB+lim V l):=by rw[e2,Nat.mul_add,Nat.add_mul,<-Nat.mul_assoc];omega
 have e5: (U/BB^l+1)*BB^l<=d*(lim V (l+1)*BB+lim V l)*BB^l:=nR _ e4;have e6:d*((lim V (l+1)*BB+lim V l)*BB^l)<=d*V:=Nat.mul_le_mul_left _ hv;rw[<-Nat.mul_assoc] at e6;omega
theorem ll.next{d':Nat}(h:ll U V l d left)(hc:left*BB+lim U l<d*lim V l)(hd:d=d'+1):ll U V l d' (left+lim V (l+1)):=
 ⟨h.hU,h.hV,by have:=h.over hc;omega,by have:=h.he;subst hd;rw[Nat.add_mul,Nat.one_mul] at this;omega⟩
end
theorem Fo{U V n:Nat}(h:U<V*BB):U/V<=BB-1:=by
 rcases Nat.eq_zero_or_pos V with e|e
 ·subst e;simp
 ·have:U/V<BB:=by rw[Nat.div_lt_iff_lt_mul e,nC];exact h
  omega
def oF(d V k:Nat):Nat:=d*(V%BB^k)/BB^k
theorem Jh(d V:Nat):oF d V 0=0:=by simp[oF,Nat.mod_one]
theorem Qo{d V k:Nat}(hd:d<BB):oF d V k<BB:=by
 unfold oF;rw[Nat.div_lt_iff_lt_mul (aC k)];have h1:V%BB^k<BB^k:=Nat.mod_lt _ (aC k);rcases Nat.eq_zero_or_pos d with e|e
 ·subst e;rw[Nat.zero_mul];exact Nat.mul_pos dx (aC k)
 ·exact nU (Nat.mul_lt_mul_of_pos_left h1 e) (nR _ (Nat.le_of_lt hd))
theorem wC(d V k:Nat):d*V/BB^k=d*(V/BB^k)+oF d V k:=by
 unfold oF;have e:d*V=BB^k*(d*(V/BB^k))+d*(V%BB^k):=by rw[Nat.mul_left_comm,<-Nat.mul_add,Nat.div_add_mod]
 rw[e,Nat.mul_add_div (aC k)]
theorem Mj(d V k:Nat): (d*lim V k+oF d V k)%BB=lim (d*V) k:=by unfold lim;rw[wC,Nat.add_mod,Nat.mul_mod d (V/BB^k%BB),Nat.mod_mod,<-Nat.mul_mod,<-Nat.add_mod]
theorem Ji(d V k:Nat): (d*lim V k+oF d V k)/BB=oF d V (k+1):=by
 have e1:=wC d V k;have e2:=wC d V (k+1);have e3:d*V/BB^(k+1)=d*V/BB^k/BB:=by rw[Nat.pow_succ,Nat.div_div_eq_div_mul]
 rw[e3,e1,rm V k,Nat.mul_add,<-Nat.mul_assoc,Nat.add_assoc,nC,Nat.mul_add_div dx] at e2;omega
theorem Mk{d V n:Nat}(h:V<BB^n):oF d V n=d*V/BB^n:=by unfold oF;rw[nM h]
def less(U X n:Nat):Nat:=(U+BB^n-X)%BB^n
theorem wD(U n:Nat){k:Nat}(hk:k<=n): (U+BB^n)%BB^k=U%BB^k:=by obtain⟨c,rfl⟩:=Nat.exists_eq_add_of_le hk;rw[Nat.pow_add,Nat.add_mul_mod_self_left]
theorem Ml(U n:Nat){k:Nat}(hk:k<n):lim (U+BB^n) k=lim U k:=by
 have h1:=mod_succ U k;have h2:=mod_succ (U+BB^n) k;rw[wD U n (by omega),wD U n (by omega)] at h2;have h3:lim (U+BB^n) k*BB^k=lim U k*BB^k:=by omega
 exact Nat.eq_of_mul_eq_mul_right (aC k) h3
theorem qo(x n:Nat){k:Nat}(hk:k<n):lim (x%BB^n) k=lim x k:=by
 have h1:=mod_succ x k;have h2:=mod_succ (x%BB^n) k;have e:∀j,j<=n->x%BB^n%BB^j=x%BB^j:=fun j hj=>by obtain⟨c,rfl⟩:=Nat.exists_eq_add_of_le hj;rw[Nat.pow_add,Nat.mod_mul_right_mod]
 rw[e _ (by omega),e _ (by omega)] at h2;have h3:lim (x%BB^n) k*BB^k=lim x k*BB^k:=by omega
 exact Nat.eq_of_mul_eq_mul_right (aC k) h3
theorem Mm(U X n:Nat){k:Nat}(hk:k<=n):sG (U+BB^n) X k=sG U X k:=by unfold sG;rw[wD U n hk]
theorem CK{U X n k:Nat}(hX:X<BB^n)(hk:k<n): (lim U k+BB-lim X k-sG U X k)%BB=lim (less U X n) k:=by have h:=G5 (a:=U+BB^n) (b:=X) (by omega) k;rw[Ml U n hk,Mm U X n (by omega)] at h;unfold less;rw[h,qo _ _ hk]
theorem Qp{U X n:Nat}(hU:U<BB^n)(hX:X<BB^n):less U X n+X=U+(sG U X n)*BB^n:=by
 unfold less sG;rw[nM hU,nM hX];by_cases h:U<X
 ·rw[if_pos h,nM (by omega)];omega
 ·rw[if_neg h];have e:U+BB^n-X=BB^n+(U-X):=by omega
  rw[e,Nat.add_mod_left,nM (by omega)];omega
theorem Qq(U X n:Nat):less U X n<BB^n:=Nat.mod_lt _ (aC n)
structure uz (U V n d W b:Nat):Prop where
 hW:W<BB^(n+1)
 hV:V<BB^n
 he:W+d*V=U+b*BB^(n+1)
 hb:b<=1
 h0:b=0->W<V
section
variable {U V n d W b:Nat}
theorem uz.done(h:uz U V n d W 0):d=U/V/\W=U%V:=by
 have hw:=h.h0 rfl;have e:=h.he;rw[Nat.zero_mul,Nat.add_zero] at e;rw[<-e];constructor
 ·rw[Nat.add_mul_div_right _ _ (by omega),Nat.div_eq_of_lt hw,Nat.zero_add]
 ·rw[Nat.add_mul_mod_self_right,nM hw]
theorem uz.pos(hU:U<BB^(n+1))(h:uz U V n d W 1):∃p,d=p+1:=by
 refine⟨d-1,?_⟩;rcases Nat.eq_zero_or_pos d with e|e
 ·subst e;have:=h.he;have:=h.hW;omega
 ·omega
theorem uz.next(h:uz U V n (d+1) W 1):uz U V n d ((W+V)%BB^(n+1)) (1-(W+V)/BB^(n+1)):=by
 have hv:V<BB^(n+1):=nU h.hV (Nat.pow_le_pow_right dx (by omega));have hw:=h.hW;have e:=h.he;rw[Nat.add_mul,Nat.one_mul,Nat.one_mul] at e;by_cases hc:W+V<BB^(n+1)
 ·rw[nM hc,Nat.div_eq_of_lt hc];exact⟨hc,h.hV,by omega,by omega,by omega⟩
 ·have e2:W+V=BB^(n+1)+(W+V-BB^(n+1)):=by omega
  have h1: (W+V)/BB^(n+1)=1:=by rw[e2,Nat.add_div_left _ (aC _),Nat.div_eq_of_lt (by omega)]
  have h2: (W+V)%BB^(n+1)=W+V-BB^(n+1):=by rw[e2,Nat.add_mod_left,nM (by omega)];omega
  rw[h1,h2];exact⟨by omega,h.hV,by omega,by omega,fun _=>by omega⟩
theorem uz.start(hU:U<BB^(n+1))(hV:V<BB^n)(hd:d<BB)(hq:U/V<=d)(h0:0<V):uz U V n d (less U (d*V) (n+1)) (sG U (d*V) (n+1)):=by
 have hX:d*V<BB^(n+1):=by
  rw[Nat.pow_succ,nC (BB^n)];rcases Nat.eq_zero_or_pos d with e|e
  ·subst e;rw[Nat.zero_mul];exact Nat.mul_pos dx (aC n)
  ·exact nU (Nat.mul_lt_mul_of_pos_left hV e) (nR _ (Nat.le_of_lt hd))
 have e:=Qp hU hX;refine⟨Qq _ _ _,hV,e,AG _ _ _,fun hb=>?_⟩;rw[hb,Nat.zero_mul,Nat.add_zero] at e;have h1:=Nat.div_add_mod U V;have h2:=Nat.mod_lt U h0;have h3:V*(U/V)<=V*d:=Nat.mul_le_mul_left _ hq;have h4:d*V=V*d:=nC _ _;omega
end
end Go.Proofs.Yq
namespace Go.Proofs.Yq
open ChangeShapes WideShapes ChangeAt RowKit
open Tryz
attribute [go_sem] dD fI
structure UV (w:World) (bu ou bv N n:Nat) (f:Nat->Nat) (W V:Nat):Prop where
 row:dI N w bu f
 fit:ou+(n+1)<=N
 u:∀i,i<n+1->f (ou+i)=lim W i
 v:∀i,i<n->w.cell? ⟨bv,i,none⟩=some (.int .u64 (lim V i:Nat))
 lt:bv<bu
theorem UV.cu{w:World}{bu ou bv N n:Nat}{f:Nat->Nat}{W V:Nat}(h:UV w bu ou bv N n f W V){i:Nat}(hi:i<n+1):w.cell? ⟨bu,ou+i,none⟩=some (.int .u64 (lim W i:Nat)):=by rw[<-h.u i hi];exact h.row.cell (by have:=h.fit;omega)
theorem Fp{P:Program}{f:FuncId}{args:Array Value}{w:World}{k n:Nat}{v:Value}
  (h:Calls P f args (w.drewN (k+n)) fun e w'=>e= .returned v/\∃m,w'=(w.drewN (k+n)).drewN m):Calls P f args (w.drewN (k+n)) fun e w''=>e= .returned v/\∃m,w''=w.drewN (k+m):=
 h.mono fun _ _ ⟨he,m,hm⟩=>⟨he,n+m,by rw[hm,World.drewN_drewN,Nat.add_assoc]⟩
theorem IntKind.eG{x:Int}(h0:0<=x)(h1:x<1000):IntKind.i64.wrap x=x:=by simp[Go.IntKind.wrap,Go.IntKind.bits,Go.IntKind.signed];omega
theorem ll.round{U V l d left:Nat}(h:ll U V l d left)(hd:d<BB)(hl:left<BB):
  ∃hi lo:Nat,d*lim V l/18446744073709551616=hi/\d*lim V l%18446744073709551616=lo/\
  ((hi<left∨(¬hi<left/\hi=left/\lo<=lim U l))∨
   (((¬hi<left/\¬hi=left)∨(¬hi<left/\hi=left/\¬lo<=lim U l))/\
   ∃d' s c:Nat,d'<d/\IntKind.u64.wrap ((d:Int)-1)=(d':Int)/\U/V<=d'/\(left+lim V (l+1))%18446744073709551616=s/\(left+lim V (l+1))/18446744073709551616=c/\s<BB/\(c=0/\ll U V l d' s∨0<c))):=by
 obtain⟨P,eP⟩:∃P,d*lim V l=P:=⟨_,rfl⟩;rw[eP];refine⟨P/18446744073709551616,P%18446744073709551616,rfl,rfl,?_⟩;have hu:=cD U l;by_cases hc:left*BB+lim U l<P
 ·right;have hc':left*BB+lim U l<d*lim V l:=by rw[eP];exact hc
  have ho:=h.over hc';obtain⟨z,hz⟩:∃z,U/V=z:=⟨_,rfl⟩;rw[hz] at ho ⊢;constructor
  ·unfold BB at hc hu;omega
  ·have hv:=cD V (l+1);refine⟨d-1,_,_,by omega,?_,by omega,rfl,rfl,?_,?_⟩
   ·rw[IntKind.wrap_u64];unfold BB at hd;omega
   ·exact Nat.mod_lt _ dx
   ·have hn:=h.next hc' (show d=d-1+1 by omega);rcases nO (left+lim V (l+1)) 18446744073709551616 with hx|hx
    ·left;rw[nM hx];exact⟨Nat.div_eq_of_lt hx,hn⟩
    ·right;omega
 ·left;unfold BB at hc hu;omega
theorem Jj(q V k:Nat)(hq:q<BB):∃hi lo c:Nat,q*lim V k/18446744073709551616=hi/\q*lim V k%18446744073709551616=lo/\
  (lo+oF q V k)%18446744073709551616=lim (q*V) k/\(lo+oF q V k)/18446744073709551616=c/\IntKind.u64.wrap ((hi:Int)+(c:Int))=(oF q V (k+1):Nat):=by
 have h1:=Mj q V k;have h2:=Ji q V k;have h3:=Qo (V:=V) (k:=k+1) hq;obtain⟨P,eP⟩:∃P,q*lim V k=P:=⟨_,rfl⟩;rw[eP] at h1 h2 ⊢;refine⟨_,_,_,rfl,rfl,?_,rfl,?_⟩
 ·rw[<-h1];unfold BB;omega
 ·rw[<-h2] at h3 ⊢;rw[IntKind.wrap_u64];unfold BB at h3 ⊢;omega
def K9(w wr:World)(bu N:Nat)(g:Nat->Nat):Prop:=Below bu w wr/\dI N wr bu g/\wr.heap.size=w.heap.size
theorem K9.drewN{w wr:World}{bu N:Nat}{g:Nat->Nat}(h:K9 w wr bu N g)(n:Nat):K9 w (wr.drewN n) bu N g:=⟨below_drewN h.1 n,h.2.1.drewN n,h.2.2⟩
theorem K9.store{w wr:World}{bu N:Nat}{g:Nat->Nat}(h:K9 w wr bu N g){k:Nat}(hk:k<N)(x:Nat):K9 w (wr.setCell ⟨bu,k,none⟩ (.int .u64 (x:Nat))) bu N (fun i=>if i=k then x else g i):=
 ⟨h.1.setCell (nL _) _,h.2.1.set hk x,by simpa[World.setCell] using h.2.2⟩
theorem K9.congr{w wr:World}{bu N:Nat}{g g':Nat->Nat}(h:K9 w wr bu N g)(e:∀i,i<N->g i=g' i):K9 w wr bu N g':=⟨h.1,h.2.1.congr e,h.2.2⟩
theorem Mn(l U V bu ou bv cu cv N:Nat)(f:Nat->Nat)(w:World)(hU:U<V*BB)(hV:V<BB^(l+2))(h1:0<lim V (l+1))(hN:N<=17)(h:UV w bu ou bv N (l+2) f U V):
  Calls prog 293 #[.slice (some ⟨bu,ou,none⟩) (l+2+1) cu,.slice (some ⟨bv,0,none⟩) (l+2) cv] w fun e w'=>e= .returned (.int .u64 (U/V:Nat))/\dI N w' bu (fun i=>if ou<=i/\i<ou+(l+2+1) then lim (U%V) (i-ou) else f i)/\Below bu w w'/\w'.heap.size=w.heap.size:=by
 have hl14:l<=14:=by have:=h.fit;omega
 have hcu:=h.cu (show l+2<l+2+1 by omega);have hcu1:=h.cu (show l+1<l+2+1 by omega);have hcu0:=h.cu (show l<l+2+1 by omega);have hcv1:=h.v (l+1) (by omega);have hcv0:=h.v l (by omega);have H:=qD h;clear h;have hd64:=qD (fun w=>yW (lim U (l+2)) (lim U (l+1)) (lim V (l+1)) w (cD _ _) (cD _ _));have hU3:U<BB^(l+3):=by have e:V*BB<=BB^(l+2)*BB:=nR _ (Nat.le_of_lt hV);rw[<-Nat.pow_succ] at e;exact nU hU e
 have HG:=qD (ll.start hU3 hV h1);have HT:Hid (lim U (l+2)*BB+lim U (l+1)=U/BB^(l+1)):=by
  have e:=rm U (l+1);have e2:U/BB^(l+1+1)=lim U (l+2):=by unfold lim;rw[nM];rw[Nat.div_lt_iff_lt_mul (aC _),<-Nat.pow_succ'];exact hU3
  rw[e,e2];rfl
 obtain⟨n,hn⟩:∃n,l+2=n:=⟨_,rfl⟩;obtain⟨n1,hn1⟩:∃n1,l+1=n1:=⟨_,rfl⟩;have hi1: (n:Int)-1=(n1:Int):=by omega
 have hi2: (n:Int)-2=(l:Int):=by omega
 have hw1:IntKind.i64.wrap (n1:Int)=(n1:Int):=IntKind.eG (by omega) (by omega);have hw2:IntKind.i64.wrap (l:Int)=(l:Int):=IntKind.eG (by omega) (by omega);have k0: (0:Int)<=(n:Int):=by omega
 have k1: (n:Int)<(n:Int)+1:=by omega
 have k2: (n1:Int)<(n:Int):=by omega
 have k3: (0:Int)<=(n1:Int):=by omega
 have k4: (n1:Int)<(n:Int)+1:=by omega
 have k5: (l:Int)<(n:Int):=by omega
 have k6: (l:Int)<(n:Int)+1:=by omega
 rw[hn] at hcu H hV hd64 HT ⊢;rw[hn1] at hcu1 hcv1 h1 hd64 HG HT;have HN:=qD hn;have HN1:=qD hn1;have HV:=qD hV;have H1:=qD h1;have HU:=qD hU;have HU3:=qD hU3;clear hn hn1 hV h1 hU hU3;have hlt: (lim U n<lim V n1)∨¬(lim U n<lim V n1):=Classical.em _;obtain⟨D,eD⟩:∃D,U/BB^n1/lim V n1=D:=⟨_,rfl⟩;obtain⟨L,eL⟩:∃L,U/BB^n1%lim V n1=L:=⟨_,rfl⟩;rw[eD,eL] at HG;have HV0:0<V:=by
  rcases Nat.eq_zero_or_pos V with e|e
  ·subst e;have h9:=H1.o;rw[jr] at h9;omega
  ·exact e
 have HU3':U<BB^(n+1):=by rw[<-HN.o];exact HU3.o
 have HL:Hid (L<BB):=by rw[<-eL];exact Nat.lt_trans (Nat.mod_lt _ H1.o) (cD _ _)
 have HD:Hid (lim U n<lim V n1->D<BB):=fun ht=>by rw[<-eD,<-HT.o,Nat.div_lt_iff_lt_mul H1.o];have h2:=cD U n1;have h3: (lim U n+1)*BB<=lim V n1*BB:=nR _ ht;rw[Nat.add_mul,Nat.one_mul] at h3;rw[nC BB];omega
 have hd:Hid (lim U n<lim V n1->∀w,Calls prog 290 #[.int .u64 (lim U n:Nat),.int .u64 (lim U n1:Nat),.int .u64 (lim V n1:Nat)] w fun e w'=>e= .returned (.tuple #[.int .u64 (D:Nat),.int .u64 (L:Nat)])/\∃m,w'=w.drewN m):=fun ht w=>by
  have:=hd64.o w ht
  rwa [HT.o,eD,eL] at this
 clear hd64 eD eL;go_enter func293,ntmps293;go_wp2_with fail
 go_region
 go_upto_if 30 with(fail)
 go_cut [6,7,8,9,10] from 19 (fun d x7 x8 x9 x10 wr=>∃q m:Nat,d= .int .u64 q/\Hid (U/V<=q/\q<BB)/\wr=w.drewN m)
 case first=>
  by_cases ht:lim U n<lim V n1
  ·have HR:=qD (fun(d left:Nat) (h:ll U V l d left) hd hl=>h.round hd hl);have hdv:=hd.o ht;have HD2:=qD (HD.o ht);have HDV:=qD hdv;clear hdv hd HD;go_wp2_with fail;refine wp_region_quiet_lit (by kernel_rfl) (by kernel_rfl) ?_
   repeat quiet_step ((go_at_call 290;exact Fp (HDV.o _)))
   refine wpQuiet_nil ?_;intro _ hw';obtain⟨nq,rfl⟩:=hw';go_wp2_with fail
   go_loopw [6,7,8,9,10] (fun d lf x8 x9 x10 wr=>∃q z m:Nat,d= .int .u64 q/\lf= .int .u64 z/\Hid (ll U V l q z/\q<BB/\z<BB)/\wr=w.drewN m) (fun d _ _ _ _ _=>(intOf d).toNat)
   case atStart=>exact⟨D,L,1+nq,rfl,rfl,⟨HG.o,HD2.o,HL.o⟩,World.drewN_drewN w 1 nq⟩
   case round=>
    obtain⟨q,z,m,rfl,rfl,hg,rfl⟩:=hrel;obtain⟨hi,lo,e1,e2,hrest⟩:=HR.o q z hg.o.1 hg.o.2.1 hg.o.2.2;have HMU:Hid (∀w,Calls prog 245 #[.int .u64 (q:Nat),.int .u64 (lim V l:Nat)] w fun e w'=>e= .returned (.tuple #[.int .u64 (hi:Nat),.int .u64 (lo:Nat)])/\w'=w):=fun w=>by
     have:=Tryz.bits_Mul64 q (lim V l) hg.o.2.1 (cD _ _) w
     rwa [e1,e2] at this
    rw[HN1.o] at hrest;clear e1 e2;rcases hrest with(h1|⟨h1,h2,h3⟩)|⟨⟨h1,h2⟩|⟨h1,h2,h3⟩,d',s,c,y1,y2,y3,y4,y5,y6,y7⟩
    ·have HQ:Hid (U/V<=q/\q<BB):=⟨hg.o.1.hq,hg.o.2.1⟩;clear hg;go_wp2_with (go_at_call 245;refine(HMU.o _).mono ?_;rintro e w1 ⟨rfl,rfl⟩);go_meet
     case rel=>exact⟨q,m,rfl,HQ,rfl⟩
    ·have HQ:Hid (U/V<=q/\q<BB):=⟨hg.o.1.hq,hg.o.2.1⟩;clear hg;go_wp2_with (go_at_call 245;refine(HMU.o _).mono ?_;rintro e w1 ⟨rfl,rfl⟩);go_meet
     case rel=>exact⟨q,m,rfl,HQ,rfl⟩
    ·have HQ:Hid (U/V<=d'/\d'<BB):=⟨y3,Nat.lt_trans y1 hg.o.2.1⟩;have ea:=fun w=>lk z (lim V n1) w;rw[y4,y5] at ea;have HY1:=qD y1;have HY6:=qD y6;clear hg y3 y4 y5 y1 y6;rcases y7 with⟨rfl,y8⟩|y7
     ·have HG2:Hid (ll U V l d' s/\d'<BB/\s<BB):=⟨y8,HQ.o.2,HY6.o⟩;clear y8;go_wp2_with (go_at_call 245;refine(HMU.o _).mono ?_;rintro e w1 ⟨rfl,rfl⟩);go_roundw
      case rel=>exact⟨d',s,m,rfl,rfl,HG2,rfl⟩
      case measure=>have:=HY1.o;simp[intOf];omega
     ·have y9: (0:Int)<(c:Int):=by omega
      go_wp2_with (go_at_call 245;refine(HMU.o _).mono ?_;rintro e w1 ⟨rfl,rfl⟩);go_meet
      case rel=>exact⟨d',m,rfl,HQ,rfl⟩
    ·have HQ:Hid (U/V<=d'/\d'<BB):=⟨y3,Nat.lt_trans y1 hg.o.2.1⟩;have ea:=fun w=>lk z (lim V n1) w;rw[y4,y5] at ea;have HY1:=qD y1;have HY6:=qD y6;clear hg y3 y4 y5 y1 y6;rcases y7 with⟨rfl,y8⟩|y7
     ·have HG2:Hid (ll U V l d' s/\d'<BB/\s<BB):=⟨y8,HQ.o.2,HY6.o⟩;clear y8;go_wp2_with (go_at_call 245;refine(HMU.o _).mono ?_;rintro e w1 ⟨rfl,rfl⟩);go_roundw
      case rel=>exact⟨d',s,m,rfl,rfl,HG2,rfl⟩
      case measure=>have:=HY1.o;simp[intOf];omega
     ·have y9: (0:Int)<(c:Int):=by omega
      go_wp2_with (go_at_call 245;refine(HMU.o _).mono ?_;rintro e w1 ⟨rfl,rfl⟩);go_meet
      case rel=>exact⟨d',m,rfl,HQ,rfl⟩
  ·go_wp2_with fail;go_meet
   case rel=>exact⟨18446744073709551615,1,rfl,⟨Fo (n:=0) HU.o,by decide⟩,rfl⟩
 case rest=>
  obtain⟨q,m,rfl,hq,rfl⟩:=hcut;have HBK:=qD (uz.start (n:=n) HU3' HV.o hq.o.2 hq.o.1 HV0);have HX:Hid (q*V<BB^(n+1)):=by have h1:q*V<=q*BB^n:=Nat.mul_le_mul_left _ (Nat.le_of_lt HV.o);have h2:q*BB^n<BB*BB^n:=Nat.mul_lt_mul_of_pos_right hq.o.2 (aC n);rw[Nat.pow_succ,nC (BB^n)];exact Nat.lt_of_le_of_lt h1 h2
  have HM:=qD (fun k=>Jj q V k hq.o.2);go_wp2_with fail
  go_loopw [11,12,13,14,15,16,91] (fun c b x13 x14 x15 x16 i wr=>∃k:Nat,k<=n/\i= .int .i64 k/\c= .int .u64 (oF q V k:Nat)/\b= .int .u64 (sG U (q*V) k:Nat)/\Hid (K9 w wr bu N (fun p=>if ou<=p/\p<ou+k then lim (less U (q*V) (n+1)) (p-ou) else f p))) (fun _ _ _ _ _ _ i _=>n-(intOf i).toNat)
  case atStart=>exact⟨0,by omega,rfl,by rw[Jh];rfl,by rw[Ct];rfl,⟨below_drewN (bZ _ _) m,H.o.row.drewN m |>.congr fun i hi=>by rw[if_neg (by omega)],rfl⟩⟩
  case round=>
   obtain⟨k,hk,rfl,rfl,rfl,hms⟩:=hrel;by_cases hkn:k<n
   ·have hcu2:wr.cell? ⟨bu,ou+k,none⟩=some (.int .u64 (lim U k:Nat)):=by rw[hms.o.2.1.cell (by have:=H.o.fit;omega),if_neg (by omega),H.o.u k (by omega)]
    have hfu:=hms.o.2.1.frozen (ou+k);have hcv2:wr.cell? ⟨bv,k,none⟩=some (.int .u64 (lim V k:Nat)):=(hms.o.1.cell (p:=⟨bv,k,none⟩) H.o.lt).trans (H.o.v k hkn);obtain⟨hi,lo,c,e1,e2,e3,e4,e5⟩:=HM.o k;have HMU:Hid (∀w,Calls prog 245 #[.int .u64 (q:Nat),.int .u64 (lim V k:Nat)] w fun e w'=>e= .returned (.tuple #[.int .u64 (hi:Nat),.int .u64 (lo:Nat)])/\w'=w):=fun w=>by
     have:=Tryz.bits_Mul64 q (lim V k) hq.o.2 (cD _ _) w
     rwa [e1,e2] at this
    have ea:=fun w=>lk lo (oF q V k) w;rw[e3,e4] at ea;have es:=fun w=>run_sub64 (lim U k) (lim (q*V) k) (sG U (q*V) k) (AG _ _ _) w;have e6: (lim U k+18446744073709551616-lim (q*V) k-sG U (q*V) k)%18446744073709551616=lim (less U (q*V) (n+1)) k:=CK HX.o (by omega);rw[e6,<-wm] at es;have k7: (k:Int)<(n:Int):=by omega
    have k8: (0:Int)<=(k:Int):=by omega
    have k9: (k:Int)<(n:Int)+1:=by omega
    have k10: (k:Int)+1<1000:=by omega
    clear e1 e2 e3 e4 e6;go_wp2_with (go_at_call 245;refine(HMU.o _).mono ?_;rintro e w1 ⟨rfl,rfl⟩);go_roundw
    case rel=>
     refine⟨k+1,by omega,by go_num,rfl,rfl,(hms.o.store (by have:=H.o.fit;omega) _).congr fun p hp=>?_⟩;by_cases hpe:p=ou+k
     ·subst hpe;rw[if_pos rfl,if_pos (by omega),Nat.add_sub_cancel_left]
     ·rw[if_neg hpe];by_cases hpl:ou<=p/\p<ou+k
      ·rw[if_pos hpl,if_pos (by omega)]
      ·rw[if_neg hpl,if_neg (by omega)]
    case measure=>simp[intOf];omega
   ·have hkn2:k=n:=by omega
    subst hkn2;have hcu2:wr.cell? ⟨bu,ou+k,none⟩=some (.int .u64 (lim U k:Nat)):=by rw[hms.o.2.1.cell (by have:=H.o.fit;omega),if_neg (by omega),H.o.u k (by omega)]
    have hfu:=hms.o.2.1.frozen (ou+k);have es:=fun w=>run_sub64 (lim U k) (lim (q*V) k) (sG U (q*V) k) (AG _ _ _) w;have e6: (lim U k+18446744073709551616-lim (q*V) k-sG U (q*V) k)%18446744073709551616=lim (less U (q*V) (k+1)) k:=CK HX.o (by omega);rw[e6,<-wm] at es;have HPT:Hid (oF q V k=lim (q*V) k):=by unfold Hid;rw[Mk HV.o];unfold lim;rw[nM];rw[Nat.div_lt_iff_lt_mul (aC _),<-Nat.pow_succ'];exact HX.o
    rw[HPT.o];clear e6 HM;go_wp2_with fail
    go_loopw [6,12,17,18] (fun d b x17 x18 wr=>∃q W bb:Nat,d= .int .u64 q/\b= .int .u64 bb/\Hid (uz U V k q W bb/\q<BB)/\Hid (K9 w wr bu N (fun p=>if ou<=p/\p<ou+(k+1) then lim W (p-ou) else f p))) (fun d _ _ _ _=>(intOf d).toNat)
    case atStart=>
     refine⟨q,_,_,rfl,rfl,⟨HBK.o,hq.o.2⟩,(hms.o.store (by have:=H.o.fit;omega) _).congr fun p hp=>?_⟩;by_cases hpe:p=ou+k
     ·subst hpe;rw[if_pos rfl,if_pos (by omega),Nat.add_sub_cancel_left]
     ·rw[if_neg hpe];by_cases hpl:ou<=p/\p<ou+k
      ·rw[if_pos hpl,if_pos (by omega)]
      ·rw[if_neg hpl,if_neg (by omega)]
    case round=>
     clear hms es hcu2 hfu;obtain⟨q',W,bb,rfl,rfl,hb,hms⟩:=hrel;have hbb:=hb.o.1.hb;rcases Nat.eq_zero_or_pos bb with h0|h0
     ·subst h0;obtain⟨hdd,hww⟩:=hb.o.1.done;have HDD:=qD hdd;have HWW:=qD hww;clear hdd hww;go_wp2_with fail;go_ret;refine⟨by rw[HDD.o];rfl,hms.o.2.1.congr fun p hp=>by rw[HWW.o],hms.o.1,hms.o.2.2⟩
     ·have hb1:bb=1:=by omega
      subst hb1;obtain⟨q2,e2⟩:=hb.o.1.pos HU3';have HBK2:Hid (uz U V k q2 ((W+V)%BB^(k+1)) (1-(W+V)/BB^(k+1))/\q2<BB):=by have h:=hb.o.1;rw[e2] at h;exact⟨h.next,by have:=hb.o.2;omega⟩
      have hq2:IntKind.u64.wrap ((q':Int)-1)=(q2:Int):=by rw[IntKind.wrap_u64];have:=hb.o.2;unfold BB at this;omega
      have HQL:Hid (q2<q'):=by unfold Hid;omega
      clear e2 hbb h0;go_wp2_with fail
      go_loopw [17,18,144] (fun c x18 i wr=>∃j:Nat,j<=k/\i= .int .i64 j/\c= .int .u64 (pS W V j:Nat)/\Hid (K9 w wr bu N (fun p=>if ou<=p/\p<ou+j then lim (W+V) (p-ou) else if ou<=p/\p<ou+(k+1) then lim W (p-ou) else f p))) (fun _ _ i _=>k-(intOf i).toNat)
      case atStart=>exact⟨0,by omega,rfl,by rw[Cr];rfl,hms.o.congr fun p hp=>by rw[if_neg (show ¬(ou<=p/\p<ou+0) by omega)]⟩
      case round=>
       clear hms;obtain⟨j,hj,rfl,rfl,hms⟩:=hrel;by_cases hjk:j<k
       ·have hcu2:wr.cell? ⟨bu,ou+j,none⟩=some (.int .u64 (lim W j:Nat)):=by rw[hms.o.2.1.cell (by have:=H.o.fit;omega),if_neg (by omega),if_pos (by omega),Nat.add_sub_cancel_left]
        have hfu:=hms.o.2.1.frozen (ou+j);have hcv2:wr.cell? ⟨bv,j,none⟩=some (.int .u64 (lim V j:Nat)):=(hms.o.1.cell (p:=⟨bv,j,none⟩) H.o.lt).trans (H.o.v j hjk);have ea:=run_add64 (lim W j) (lim V j) (pS W V j) (wk _ _ _);have k7: (j:Int)<(k:Int):=by omega
        have k8: (0:Int)<=(j:Int):=by omega
        have k9: (j:Int)<(k:Int)+1:=by omega
        have k10: (j:Int)+1<1000:=by omega
        go_wp2_with fail
        go_region
        all_goals go_wp2_with fail
        all_goals go_roundw
        case rel=>
         rw[G6,G7];refine⟨j+1,by omega,by go_num,rfl,((hms.o.store (by have:=H.o.fit;omega) _).drewN 1).congr fun p hp=>?_⟩;by_cases hpe:p=ou+j
         ·subst hpe;rw[if_pos rfl,if_pos (by omega),Nat.add_sub_cancel_left]
         ·rw[if_neg hpe];by_cases hpl:ou<=p/\p<ou+j
          ·rw[if_pos hpl,if_pos (by omega)]
          ·rw[if_neg hpl,if_neg (show ¬(ou<=p/\p<ou+(j+1)) by omega)]
        case measure=>simp[intOf];omega
       ·have hjk2:j=k:=by omega
        subst hjk2;have hcu2:wr.cell? ⟨bu,ou+j,none⟩=some (.int .u64 (lim W j:Nat)):=by rw[hms.o.2.1.cell (by have:=H.o.fit;omega),if_neg (by omega),if_pos (by omega),Nat.add_sub_cancel_left]
        have hfu:=hms.o.2.1.frozen (ou+j);have hv0:lim V j=0:=j4 HV.o (nL _);have l1:=AF W V j;have l2:=Cs W V j;rw[hv0] at l1 l2;have e3:pS W V (j+1)=(W+V)/BB^(j+1):=by unfold pS;rw[nM hb.o.1.hW,nM (nU HV.o (Nat.pow_le_pow_right dx (by omega)))]
        have l1': (lim W j+0+pS W V j)%18446744073709551616=lim (W+V) j:=l1;have l2': (lim W j+0+pS W V j)/18446744073709551616=pS W V (j+1):=l2;have hc1:pS W V (j+1)<=1:=wk _ _ _;obtain⟨c,hc⟩:∃c,pS W V (j+1)=c:=⟨_,rfl⟩;rw[hc] at l2' e3 hc1;have ea:∀w,(callFunc 246 #[.int .u64 (lim W j:Nat),.int .u64 0,.int .u64 (pS W V j:Nat)]).run prog w= .ok (.value (.tuple #[.int .u64 (lim (W+V) j:Nat),.int .u64 (c:Nat)])) w:=fun w=>by have h9:=run_add64 (lim W j) 0 (pS W V j) (wk _ _ _) w;rw[l1',l2'] at h9;exact h9
        have hbw:IntKind.u64.wrap (((1:Nat):Int)-(c:Int))=((1-c:Nat):Int):=by rw[IntKind.wrap_u64];omega
        have hbw2:IntKind.u64.wrap ((1:Int)-(c:Int))=((1-c:Nat):Int):=hbw;have HE3:=qD e3;have HLW:Hid (lim ((W+V)%BB^(j+1)) j=lim (W+V) j):=qo _ _ (by omega);have HLX:Hid (∀p,p<j->lim ((W+V)%BB^(j+1)) p=lim (W+V) p):=fun p hp=>qo _ _ (by omega);clear hv0 l1 l2 l1' l2' hc e3;go_wp2_with fail;go_roundw
        case rel=>
         refine⟨q2,(W+V)%BB^(j+1),1-c,rfl,rfl,by rw[HE3.o];exact HBK2.o,(hms.o.store (by have:=H.o.fit;omega) _).congr fun p hp=>?_⟩;by_cases hpe:p=ou+j
         ·subst hpe;rw[if_pos rfl,if_pos (by omega),Nat.add_sub_cancel_left,HLW.o]
         ·rw[if_neg hpe];by_cases hpl:ou<=p/\p<ou+j
          ·rw[if_pos hpl,if_pos (by omega),HLX.o _ (by omega)]
          ·rw[if_neg hpl,if_neg (by omega),if_neg (by omega)]
        case measure=>have:=HQL.o;simp[intOf];omega
end Go.Proofs.Yq
namespace Go.Proofs.Yq
open Tryz
theorem yX(a b k:Nat)(hb:0<b): (a/BB^(k+1)%b*BB+lim a k)/b=lim (a/b) k/\(a/BB^(k+1)%b*BB+lim a k)%b=a/BB^k%b:=by
 have e:=rm a k;obtain⟨x,hx⟩:∃x,a/BB^(k+1)=x:=⟨_,rfl⟩;rw[hx] at e ⊢;have hl:=cD a k;obtain⟨l,hl2⟩:∃l,lim a k=l:=⟨_,rfl⟩;rw[hl2] at e hl ⊢;have h1:=Nat.div_add_mod x b;have hm:=Nat.mod_lt x hb;obtain⟨m,hm2⟩:∃m,x%b=m:=⟨_,rfl⟩;obtain⟨y,hy⟩:∃y,x/b=y:=⟨_,rfl⟩;rw[hm2] at hm ⊢;rw[hm2,hy] at h1;have e2:a/BB^k=b*(y*BB)+(m*BB+l):=by rw[e,<-h1,Nat.add_mul,Nat.mul_assoc,Nat.add_assoc]
 have h3: (m*BB+l)/b<BB:=by rw[Nat.div_lt_iff_lt_mul hb];have: (m+1)*BB<=b*BB:=nR _ hm;rw[Nat.add_mul,Nat.one_mul] at this;rw[nC BB];omega
 constructor
 ·have:a/b/BB^k=y*BB+(m*BB+l)/b:=by rw[Nat.div_div_eq_div_mul,nC,<-Nat.div_div_eq_div_mul,e2,Nat.mul_add_div hb]
  unfold lim;rw[this,nC y,Nat.mul_add_mod,nM h3]
 ·rw[e2,Nat.mul_add_mod]
def xI(a s i p:Nat):Nat:=(if p<i then lim a p*2^s%BB else 0)+(if 0<p/\p<=i then lim a (p-1)/2^(64-s) else 0)
theorem Mo(a s p:Nat):xI a s 0 p=0:=by unfold xI;rw[if_neg (by omega),if_neg (by omega)]
theorem Hl{a s i p:Nat}(h:p<i):xI a s (i+1) p=xI a s i p:=by
 unfold xI;rw[if_pos (by omega),if_pos h];congr 1;by_cases h0:0<p
 ·rw[if_pos (by omega),if_pos (by omega)]
 ·rw[if_neg (by omega),if_neg (by omega)]
theorem uO{a s i p:Nat}(h:i+1<p):xI a s (i+1) p=0/\xI a s i p=0:=by unfold xI;rw[if_neg (by omega),if_neg (by omega),if_neg (by omega),if_neg (by omega)];exact⟨rfl,rfl⟩
theorem UB(a s i:Nat):xI a s (i+1) i=xI a s i i+lim a i*2^s%BB:=by
 unfold xI;rw[if_pos (show i<i+1 by omega),if_neg (show ¬i<i by omega),Nat.zero_add,Nat.add_comm];congr 1;by_cases h0:0<i
 ·rw[if_pos (by omega),if_pos (by omega)]
 ·rw[if_neg (by omega),if_neg (by omega)]
theorem wE(a s i:Nat):xI a s (i+1) (i+1)=lim a i/2^(64-s)/\xI a s i (i+1)=0:=by unfold xI;rw[if_neg (by omega),if_pos (by omega),if_neg (by omega),if_neg (by omega),Nat.add_sub_cancel];exact⟨Nat.zero_add _,rfl⟩
theorem UC{a s i:Nat}(hs:s<64):xI a s i i<2^s:=by
 unfold xI;rw[if_neg (by omega),Nat.zero_add];split
 ·rw[Nat.div_lt_iff_lt_mul (Nat.two_pow_pos _),<-Nat.pow_add,show s+(64-s)=64 by omega];exact cD _ _
 ·exact Nat.two_pow_pos _
theorem Mp{a s p:Nat}(ha:a<BB^16)(hs:s<64)(hp:p<17):xI a s 16 p=lim (a*2^s) p:=by
 rw[CE a s p hs];unfold xI;congr 1
 ·split
  ·rfl
  ·rw[show p=16 by omega,j4 ha (nL _)];simp
 ·by_cases h0:p=0
  ·rw[if_neg (by omega),if_pos h0]
  ·rw[if_pos (by omega),if_neg h0]
theorem UD(c x s:Nat)(hs:s<64)(hc:c<2^s)(hx:x<BB)(hx2:x%2^s=0):bits .or .u64 (c:Int) (x:Int)=((c+x:Nat):Int):=by have hcb:c<BB:=Nat.lt_trans hc (show 2^s<BB from Nat.pow_lt_pow_right (by omega) hs);rw[Ff c x hcb hx];congr 1;obtain⟨m,rfl⟩:=Nat.dvd_of_mod_eq_zero hx2;rw[Nat.or_comm,<-Nat.two_pow_add_eq_or_of_lt hc m,Nat.add_comm]
def Hm(U V k:Nat):Nat:=U/BB^k%V
theorem Qr(U k p:Nat):lim (U/BB^k) p=lim U (k+p):=by unfold lim;rw[Nat.div_div_eq_div_mul,<-Nat.pow_add]
theorem Mq(U V j:Nat)(hV:0<V):Hm U V (j+1)*BB+lim U j<V*BB/\(Hm U V (j+1)*BB+lim U j)/V=lim (U/V) j/\(Hm U V (j+1)*BB+lim U j)%V=Hm U V j:=by obtain⟨h1,h2⟩:=yX U V j hV;refine⟨?_,h1,h2⟩;have h3:=Nat.mod_lt (U/BB^(j+1)) hV;have h4: (Hm U V (j+1)+1)*BB<=V*BB:=nR _ h3;have h5:=cD U j;rw[Nat.add_mul,Nat.one_mul] at h4;omega
theorem Mr(R l i:Nat)(hl:l<BB):lim (R*BB+l) i=if i=0 then l else lim R (i-1):=by
 cases i with
 |zero=>
  rw[if_pos rfl];unfold lim;rw[Nat.pow_zero,Nat.div_one,nC,Nat.mul_add_mod,nM hl]
 |succ i=>
  rw[if_neg (by omega),Nat.add_sub_cancel];unfold lim;rw[Nat.pow_succ',<-Nat.div_div_eq_div_mul,nC R,Nat.mul_add_div dx,Nat.div_eq_of_lt hl,Nat.add_zero]
theorem Fq{a b m n s:Nat}(ha:a<BB^m)(hs:s<64)(hn:0<n)(hmn:n<=m)(hv:BB<=lim b (n-1)*2^s*2)(hb:b<BB^n):a*2^s/BB^(m-n+1)<b*2^s:=by
 obtain⟨l,rfl⟩:∃l,n=l+1:=⟨n-1,by omega⟩;rw[Nat.add_sub_cancel] at hv;have h1:b/BB^l=lim b l:=by unfold lim;rw[nM];rw[Nat.div_lt_iff_lt_mul (aC _),<-Nat.pow_succ'];exact hb
 have h2:lim b l*BB^l<=b:=by rw[<-h1];exact Nat.div_mul_le_self _ _
 rw[Nat.div_lt_iff_lt_mul (aC _)];have h3:BB^(l+1)<=b*2^s*2:=by
  have h4:lim b l*2^s*2*BB^l<=b*2^s*2:=by
   have:lim b l*2^s*2*BB^l=lim b l*BB^l*(2^s*2):=by simp only[Nat.mul_assoc,Nat.mul_left_comm,nC]
   rw[this,Nat.mul_assoc b];exact nR _ h2
  have h5:BB*BB^l<=lim b l*2^s*2*BB^l:=nR _ hv;rw[Nat.pow_succ'];omega
 have h6:BB^(l+1)*BB^(m-(l+1)+1)<=b*2^s*2*BB^(m-(l+1)+1):=nR _ h3;rw[<-Nat.pow_add,show l+1+(m-(l+1)+1)=m+1 by omega,Nat.pow_succ] at h6;have h7:a*2^s<BB^m*2^s:=Nat.mul_lt_mul_of_pos_right ha (Nat.two_pow_pos s);have h8:2^s<=2^63:=Nat.pow_le_pow_right (by omega) (by omega);have h9:BB^m*2^s<=BB^m*2^63:=Nat.mul_le_mul_left _ h8;have h10:BB=2^63*2:=by decide
 have h11:BB^m*BB=BB^m*2^63*2:=by rw[Nat.mul_assoc,<-h10]
 have h12:b*2^s*2*BB^(m-(l+1)+1)=b*2^s*BB^(m-(l+1)+1)*2:=by rw[Nat.mul_assoc (b*2^s),nC 2,<-Nat.mul_assoc]
 omega
theorem Qs{n k:Nat}(h:n<BB^k)(h0:0<n):0<ku n k:=by
 rcases Nat.eq_zero_or_pos (ku n k) with e|e
 ·have:=oD h e;omega
 ·exact e
theorem CL{a b:Nat}(ha:a<BB^16)(hb:b<BB^16)(h:b<=a)(h0:0<b):ku b 16<=ku a 16:=by
 rcases nO (ku a 16) (ku b 16) with hlt|hge
 ·have h1:=eT 16 ha;have h2:=afo b 16 (by omega);have h3:=pA h2;have h4:BB^(ku a 16)<=BB^(ku b 16-1):=Nat.pow_le_pow_right dx (by omega);omega
 ·exact hge
end Go.Proofs.Yq
