/- A part of the proof. No condition. -/
import Derived.Test.YtpbehfbomkochaaGreatDoorC14
import Derived.Test.YtpbehfbomkochaaGreatDoorC15
import Derived.Test.YtpbehfbomkochaaGreatDoorC16
set_option maxRecDepth 100000
set_option maxHeartbeats 1000000
set_option linter.all false
namespace Go.Proofs.Yq
open ChangeShapes WideShapes ChangeAt RowKit Ev
open Tryz
section
theorem ae0{α:Type}(p:Int×α)(l:List (Int×α))(k:Int):bJ (p::l) k=if p.1=k then some p.2 else bJ l k:=by
 unfold bJ;rw[List.find?_cons];by_cases h:p.1=k
 ·have h2: (p.1==k)=true:=by simpa using h
  rw[h2,if_pos h];rfl
 ·have h2: (p.1==k)=false:=by simpa using h
  rw[h2,if_neg h]
theorem afr{α:Type}(k:Int):bJ ([]:List (Int×α)) k=none:=rfl
theorem ae9{α:Type}(k j:Int)(v:α):∀(l:List (Int×α)),bJ (dG l k v) j=if j=k then(bJ l k).map (fun _=>v) else bJ l j
 | []=>by simp[dG,afr]
 |p::l=>by
  have e:dG (p::l) k v=(if p.1==k then(k,v) else p)::dG l k v:=rfl;rw[e,ae0,ae9 k j v l,ae0,ae0];by_cases h1:p.1=k <;> by_cases h2:j=k
  ·simp[h1,h2]
  ·simp[h1,h2,Ne.symm h2]
  ·simp[h1,h2]
  ·simp[h1,h2]
theorem afC{α:Type}(k j:Int)(v:α):∀(l:List (Int×α)),bJ l k=none->bJ (l++ [(k,v)]) j=if j=k then some v else bJ l j
 | [],_=>by
  rw[List.nil_append,ae0,afr];by_cases h2:j=k
  ·simp[h2]
  ·simp[h2,Ne.symm h2]
 |p::l,h=>by
  rw[ae0] at h;have h1:¬p.1=k:=fun e=>by rw[if_pos e] at h;cases h
  rw[if_neg h1] at h;rw[List.cons_append,ae0,afC k j v l h,ae0];by_cases h2:j=k
  ·subst h2;simp[h1]
  ·simp[h2]
theorem afj{α:Type}(k j:Int)(v:α)(l:List (Int×α)):bJ (eX l k v) j=if j=k then some v else bJ l j:=by
 unfold eX;rw[zk];cases h:bJ l k with
 |none=>exact afC k j v l h
 |some x=>
  show bJ (dG l k v) j=_;rw[ae9,h];rfl
theorem afq{α:Type}(k j:Int):∀(l:List (Int×α)),bJ (sP l k) j=if j=k then none else bJ l j
 | []=>by simp[sP,afr]
 |p::l=>by
  have e:sP (p::l) k=if p.1=k then sP l k else p::sP l k:=by unfold sP;rw[List.filter_cons];by_cases h:p.1=k <;> simp[h]
  rw[e];by_cases h1:p.1=k
  ·rw[if_pos h1,afq k j l,ae0];by_cases h2:j=k
   ·simp[h2]
   ·rw[if_neg h2,if_neg h2,if_neg (by omega)]
  ·rw[if_neg h1,ae0,ae0,afq k j l];by_cases h2:j=k
   ·subst h2;simp[h1]
   ·simp[h2]
theorem agy{s:bh}{y:bE}(h:y∈dm s):∃k,bJ s.ents k=some y:=by
 unfold dm wS at h;obtain⟨k,hk,rfl⟩:=List.mem_map.1 h;have hk2:k∈s.ents.map (·.1):=(List.mergeSort_perm _ _).subset hk;obtain⟨p,hp,rfl⟩:=List.mem_map.1 hk2;refine⟨p.1,?_⟩;unfold bJ;cases hf:s.ents.find? (fun q=>q.1==p.1) with
 |none=>
  have:=List.find?_eq_none.1 hf p hp;simp at this
 |some q=>rfl
structure LT (lf B:Int->Int) (i:Int) (t:bh):Prop where
 en:∀k e,bJ t.ents k=some e->e.node.val=k/\0<=k/\k<5/\k≠i/\lf k<=e.boot.val/\0<=e.boot.val/\∃x,bJ t.livs k=some x/\e.boot.val<=x.boot.val
 lv:∀k x,bJ t.livs k=some x->0<=x.boot.val/\x.boot.val<=B k/\lf k<=x.boot.val
 no:∀k,bJ t.livs k=none->lf k<=0
def PB(B:Int->Int)(i:Int)(n boot:ae):Prop:=0<=n.val/\n.val<5/\n.val≠i/\0<=boot.val/\boot.val<=B n.val
section
variable {lf B:Int->Int} {i:Int} {s t:bh}
theorem LT.mono(h:LT lf B i t){B':Int->Int}(hb:∀k,B k<=B' k):LT lf B' i t:=
 ⟨h.en,fun k x hx=>by obtain⟨a,b,c⟩:=h.lv k x hx;exact⟨a,Int.le_trans b (hb k),c⟩,h.no⟩
theorem LT.zero(h:LT lf B i t):LT (fun _=>0) B i t:=
 ⟨fun k e he=>by obtain⟨a,b,c,d,_,f,g⟩:=h.en k e he;exact⟨a,b,c,d,f,f,g⟩,fun k x hx=>by obtain⟨a,b,_⟩:=h.lv k x hx;exact⟨a,b,a⟩,fun k _=>Int.le_refl 0⟩
theorem LT.new(B:Int->Int)(i:Int)(m:ae):LT (fun _=>0) B i (xh m):=
 ⟨fun k e he=>(by cases he),fun k e he=>(by cases he),fun k _=>Int.le_refl 0⟩
theorem LT.seen(h:LT lf B i t){k:Int}{e:bE}(he:bJ t.ents k=some e):LT (fun j=>if j=k then e.boot.val else lf j) B i t:=by
 obtain⟨_,_,_,_,h5,h6,x,h7,h8⟩:=h.en k e he;refine⟨fun j y hy=>?_,fun j y hy=>?_,fun j hj=>?_⟩
 ·obtain⟨a,b,c,d,f,g,z⟩:=h.en j y hy;refine⟨a,b,c,d,?_,g,z⟩;show(if j=k then _ else _)<=_;by_cases hjk:j=k
  ·subst hjk;rw[he] at hy;cases hy;rw[if_pos rfl];exact Int.le_refl _
  ·rw[if_neg hjk];exact f
 ·obtain⟨a,b,c⟩:=h.lv j y hy;refine⟨a,b,?_⟩;show(if j=k then _ else _)<=_;by_cases hjk:j=k
  ·subst hjk;rw[h7] at hy;cases hy;rw[if_pos rfl];exact h8
  ·rw[if_neg hjk];exact c
 ·show(if j=k then _ else _)<=_;by_cases hjk:j=k
  ·subst hjk;rw[h7] at hj;cases hj
  ·rw[if_neg hjk];exact h.no j hj
theorem LT.del(h:LT lf B i t)(k:Int):LT lf B i {t with ents:=sP t.ents k}:=
 ⟨fun j e he=>by
  replace he:bJ (sP t.ents k) j=some e:=he;rw[afq] at he;split at he
  ·cases he
  ·exact h.en j e he,h.lv,h.no⟩
theorem LT.Ot(h:LT lf B i t)(now sil:ae):LT lf B i (lA t now sil):=by
 unfold lA;have key:∀(l:List bE) (es:List (Int×bE)),LT lf B i {t with ents:=es}->LT lf B i {t with ents:=BC now.val (max 1 sil.val) es l}:=by
  intro l;induction l with
  |nil=>intro es h;exact h
  |cons x l ih=>
   intro es h;show LT lf B i {t with ents:=BC _ _ (if _ then _ else _) l};refine ih _ ?_;split
   ·exact LT.del (t:={t with ents:=es}) h _
   ·exact h
 exact key _ _ h
theorem LT.put(h:LT lf B i t)(n:Int)(e:bR)(tm:ae):LT lf B i (iD t n e tm).2:=by
 unfold iD;split
 ·exact h
 ·rename_i x hx;split
  ·refine⟨fun j y hy=>?_,h.lv,h.no⟩;replace hy:bJ (eX t.ents n _) j=some y:=hy;rw[afj] at hy;split at hy
   ·rename_i hj;subst hj;cases hy;exact h.en j x hx
   ·exact h.en j y hy
  ·exact h
theorem LT.leave(h:LT lf B i t)(n:Int):LT lf B i (iv t n).2:=by
 unfold iv;split
 ·exact h
 ·rename_i x hx;refine⟨fun j y hy=>?_,fun j y hy=>?_,fun j hj=>?_⟩
  ·replace hy:bJ (sP t.ents n) j=some y:=hy;rw[afq] at hy;split at hy
   ·cases hy
   ·rename_i hjn;obtain⟨a,b,c,d,f,g,z,h1,h2⟩:=h.en j y hy;refine⟨a,b,c,d,f,g,z,?_,h2⟩;show bJ (dG t.livs n _) j=_;rw[ae9,if_neg hjn];exact h1
  ·replace hy:bJ (dG t.livs n _) j=some y:=hy;rw[ae9] at hy;split at hy
   ·rename_i hjn;subst hjn;rw[hx] at hy;cases hy;exact h.lv j x hx
   ·exact h.lv j y hy
  ·replace hj:bJ (dG t.livs n _) j=none:=hj;rw[ae9] at hj;split at hj
   ·rename_i hjn;subst hjn;rw[hx] at hj;cases hj
   ·exact h.no j hj
theorem af2{a b:ae}(ha:0<=a.val)(ha2:a.val<=150)(hb:0<=b.val)(hb2:b.val<=150)(h:ue a b=true):a.val<b.val:=by rw[agp] at h;unfold XA.lsB at h;simp only[decide_eq_true_eq] at h;unfold XA.df at h;rw[if_pos ⟨⟨by omega,by omega⟩,⟨by omega,by omega⟩⟩] at h;split at h <;> omega
theorem af3{n boot:ae}{x:de}{es:List (Int×bE)}(h:LT lf B i s)(hB:∀k,B k<=150)(hp:PB B i n boot)(hx:j7 s n boot=some (x,es)):x.boot.val=boot.val/\∀y,bJ s.livs n.val=some y->y.boot.val<=boot.val:=by
 obtain⟨p1,p2,p3,p4,p5⟩:=hp;have:=hB n.val;unfold j7 at hx;split at hx
 ·rename_i y hy;obtain⟨l1,l2,l3⟩:=h.lv _ _ hy;split at hx
  ·rename_i hb;split at hx
   ·cases hx
   ·cases hx;exact⟨hb,fun z hz=>by rw[hy] at hz;cases hz;omega⟩
  ·split at hx
   ·rename_i hl;cases hx;refine⟨rfl,fun z hz=>?_⟩;rw[hy] at hz;cases hz;exact Int.le_of_lt (af2 l1 (by omega) p4 (by omega) hl)
   ·cases hx
 ·rename_i hy;cases hx;exact⟨rfl,fun z hz=>by rw[hy] at hz;cases hz⟩
theorem af4{n boot:ae}{x:de}{es:List (Int×bE)}(hx:j7 s n boot=some (x,es))(k:Int)(e:bE)(he:bJ es k=some e):bJ s.ents k=some e∨(k=n.val/\e.node=n/\∃f,bJ s.ents k=some f/\e.boot=f.boot):=by
 have hb:bJ (fa s n) k=some e->bJ s.ents k=some e∨(k=n.val/\e.node=n/\∃f,bJ s.ents k=some f/\e.boot=f.boot):=by
  intro he2;unfold fa at he2;split at he2
  ·exact .inl he2
  ·rename_i f hf;rw[afj] at he2;split at he2
   ·rename_i hk;subst hk;cases he2;exact .inr ⟨rfl,rfl,f,hf,rfl⟩
   ·exact .inl he2
 unfold j7 at hx;split at hx
 ·split at hx
  ·split at hx
   ·cases hx
   ·cases hx;exact .inl he
  ·split at hx
   ·cases hx;exact hb he
   ·cases hx
 ·cases hx;exact hb he
theorem LT.heard{n boot seq:ae}{x:de}{es:List (Int×bE)}(h:LT lf B i s)(hB:∀k,B k<=150)(hp:PB B i n boot)(hx:j7 s n boot=some (x,es)):LT lf B i (qv s n seq x es)/\∃z,bJ (qv s n seq x es).livs n.val=some z/\z.boot.val=boot.val:=by
 obtain⟨b1,b2⟩:=af3 h hB hp hx;obtain⟨p1,p2,p3,p4,p5⟩:=hp;have hl:∀j,bJ (qv s n seq x es).livs j=if j=n.val then some {x with win:=(gW x.win seq).2} else bJ s.livs j:=by
  intro j;show bJ (dG (eX s.livs n.val x) n.val _) j=_;rw[ae9,afj,afj];by_cases hj:j=n.val
  ·rw[if_pos hj,if_pos hj,if_pos rfl];rfl
  ·rw[if_neg hj,if_neg hj,if_neg hj]
 have hlf:lf n.val<=boot.val:=by
  cases hy:bJ s.livs n.val with
  |none=>have:=h.no _ hy;omega
  |some y=>have:=(h.lv _ _ hy).2.2;have:=b2 y hy;omega
 refine⟨⟨fun k e he=>?_,fun k y hy=>?_,fun k hk=>?_⟩,{x with win:=(gW x.win seq).2},by rw[hl,if_pos rfl],b1⟩
 ·replace he:bJ es k=some e:=he;have base:∀f,bJ s.ents k=some f->e.boot=f.boot->e.node.val=k->e.node.val=k/\0<=k/\k<5/\k≠i/\lf k<=e.boot.val/\0<=e.boot.val/\∃x_1,bJ (qv s n seq x es).livs k=some x_1/\e.boot.val<=x_1.boot.val:=fun f hf hbt hnd=>by
   obtain⟨_,q2,q3,q4,q5,q6,z,q7,q8⟩:=h.en k f hf;refine⟨hnd,q2,q3,q4,by rw[hbt];exact q5,by rw[hbt];exact q6,?_⟩;rw[hl];by_cases hk:k=n.val
   ·rw[if_pos hk];refine⟨_,rfl,?_⟩;show e.boot.val<=x.boot.val;subst hk;have:=b2 z q7;rw[hbt,b1];omega
   ·rw[if_neg hk];exact⟨z,q7,by rw[hbt];exact q8⟩
  rcases af4 hx k e he with he|⟨hk,hn,f,hf,hbt⟩
  ·exact base e he rfl (h.en k e he).1
  ·exact base f hf hbt (by rw[hn];exact hk.symm)
 ·rw[hl] at hy;by_cases hk:k=n.val
  ·rw[if_pos hk] at hy;cases hy;subst hk;show 0<=x.boot.val/\x.boot.val<=_/\_<=x.boot.val;rw[b1];exact⟨p4,p5,hlf⟩
  ·rw[if_neg hk] at hy;exact h.lv k y hy
 ·rw[hl] at hk;by_cases hkn:k=n.val
  ·rw[if_pos hkn] at hk;cases hk
  ·rw[if_neg hkn] at hk;exact h.no k hk
theorem LT.note{n boot now:ae}(h:LT lf B i s)(hp:PB B i n boot)(hz:∃z,bJ s.livs n.val=some z/\z.boot.val=boot.val):LT lf B i (kb s n boot now):=by
 obtain⟨p1,p2,p3,p4,p5⟩:=hp;obtain⟨z,z1,z2⟩:=hz;obtain⟨_,_,hlf⟩:=h.lv _ _ z1;unfold kb;have key:∀s2:bh,LT lf B i s2->s2.livs=s.livs->∀y:bE,LT lf B i {s2 with ents:=eX s2.ents n.val {y with node:=n,boot:=boot,heard:=now}}:=by
  intro s2 h2 hl y;refine⟨fun k e he=>?_,h2.lv,h2.no⟩;replace he:bJ (eX s2.ents n.val _) k=some e:=he;rw[afj] at he;split at he
  ·rename_i hk;subst hk;cases he;refine⟨rfl,p1,p2,p3,?_,p4,z,?_,?_⟩
   ·show lf n.val<=boot.val;omega
   ·show bJ s2.livs n.val=_;rw[hl];exact z1
   ·show boot.val<=_;omega
  ·exact h2.en k e he
 split
 ·exact key _ (h.del _) rfl _
 ·exact key s h rfl _
theorem LT.xC{n boot seq now:ae}(h:LT lf B i s)(hB:∀k,B k<=150)(hp:PB B i n boot):LT lf B i (eo s n boot seq now).2:=by
 unfold eo;split
 ·split
  ·exact h
  ·rename_i x es hx;obtain⟨h1,h2⟩:=h.heard (seq:=seq) hB hp hx;split
   ·exact h1.note hp h2
   ·exact h1
 ·exact h
theorem TS.lt(h:TS (PB B i) s t)(h1:LT lf B i s)(hB:∀k,B k<=150):LT lf B i t:=by
 induction h with
 |refl=>exact h1
 |xC h n b q now hp ih=>exact ih.xC hB hp
 |put h n e tm ih=>exact ih.put n e tm
 |leave h n ih=>exact ih.leave n
 |Ot h a b ih=>exact ih.Ot a b
end
end
theorem afl{n:ae}{c:UInt8}(h0:0<=n.val)(h1:n.val<36028797018963968): (fU n c).val=n.val*256+c.toNat:=by
 have hc:c.toNat<256:=c.toNat_lt;obtain⟨m,hm⟩:∃m:Nat,n.val=m:=⟨n.val.toNat,by omega⟩;have hm1:m<36028797018963968:=by omega
 show bits .or .i64 (wrap64 (n.val*256)) (wrap64 c.toNat)=_;rw[hm];have e1:wrap64 ((m:Int)*256)=((m*256:Nat):Int):=by unfold wrap64;omega
 have e2:wrap64 (c.toNat:Int)=(c.toNat:Int):=by unfold wrap64;omega
 rw[e1,e2];have h: (BitVec.ofInt 64 ((m*256:Nat):Int)|||BitVec.ofInt 64 (c.toNat:Int)).toNat=m*256+c.toNat:=by
  rw[BitVec.toNat_or,BitVec.toNat_ofInt,BitVec.toNat_ofInt];have a1: (((m*256:Nat):Int)%(2^64:Nat)).toNat=m*256:=by omega
  have a2: ((c.toNat:Int)%(2^64:Nat)).toNat=c.toNat:=by omega
  rw[a1,a2];have:=Nat.two_pow_add_eq_or_of_lt (i:=8) (b:=c.toNat) (by omega) m;rw[nC m 256];exact this.symm
 show IntKind.i64.wrap ((BitVec.ofInt 64 ((m*256:Nat):Int)|||BitVec.ofInt 64 (c.toNat:Int)).toNat:Int)=_;rw[h,IntWalk.i64_in _ ⟨by omega,by omega⟩];omega
theorem aga(a:UInt8): (oN [a]).val=a.toNat:=by show(fU ⟨0,by decide⟩ a).val=_;rw[afl (by decide) (by decide)];simp
theorem agb(a b:UInt8): (oN [a,b]).val=a.toNat*256+b.toNat:=by have h:=FY [a] b;have e:=aga a;have ha:a.toNat<256:=a.toNat_lt;rw[show[a,b]= [a]++ [b] from rfl,h,afl (by omega) (by omega),e]
theorem agZ(a b c:UInt8): (oN [a,b,c]).val=(a.toNat*256+b.toNat)*256+c.toNat:=by have h:=FY [a,b] c;have e:=agb a b;have ha:a.toNat<256:=a.toNat_lt;have hb:b.toNat<256:=b.toNat_lt;rw[show[a,b,c]= [a,b]++ [c] from rfl,h,afl (by omega) (by omega),e]
theorem afG(a b c d:UInt8): (oN [a,b,c,d]).val=((a.toNat*256+b.toNat)*256+c.toNat)*256+d.toNat:=by have h:=FY [a,b,c] d;have e:=agZ a b c;have ha:a.toNat<256:=a.toNat_lt;have hb:b.toNat<256:=b.toNat_lt;have hc:c.toNat<256:=c.toNat_lt;rw[show[a,b,c,d]= [a,b,c]++ [d] from rfl,h,afl (by omega) (by omega),e]
theorem byte_at{n:Int}(k:Nat): ((UInt8.ofNat ((n/2^(8*k))%256).toNat).toNat:Int)=(n/2^(8*k))%256:=by have:=Int.emod_nonneg (n/2^(8*k)) (b:=256) (by decide);have:=Int.emod_lt_of_pos (n/2^(8*k)) (b:=256) (by decide);rw[UInt8.toNat_ofNat',nM (by omega)];omega
theorem agj{n:Int}(h:0<=n)(h2:n<256): (oN (dW n 1)).val=n:=by show(oN [_]).val=_;rw[aga,byte_at];simp;omega
theorem agk{n:Int}(h:0<=n)(h2:n<65536): (oN (dW n 2)).val=n:=by show(oN [_,_]).val=_;rw[agb,byte_at,byte_at];simp;omega
theorem afD{n:Int}(h:0<=n)(h2:n<4294967296): (oN (dW n 4)).val=n:=by show(oN [_,_,_,_]).val=_;rw[afG,byte_at,byte_at,byte_at,byte_at];simp;omega
theorem ae8(f:bX): (Ih f).length=76:=by simp[Ih,di]
theorem ag0(f:bX): ((xn f).drop 5).take 1=dW f.src.val 1:=by simp[xn,Ih,dW]
theorem agz(f:bX): ((xn f).drop 8).take 2=dW f.boot.val 2:=by simp[xn,Ih,dW]
theorem agc(f:bX): ((xn f).drop 76).take 4=dW (nZ (Ih f)).val 4:=by unfold xn;rw[List.drop_append_of_le_length (by rw[ae8];omega),List.drop_of_length_le (by rw[ae8];omega),List.nil_append,List.take_of_length_le (by rw[di];omega)]
theorem af5(f:bX): (xn f).take 76=Ih f:=by unfold xn;rw[List.take_append_of_le_length (by rw[ae8];omega),List.take_of_length_le (by rw[ae8];omega)]
theorem afu(b:List UInt8):0<=(nZ b).val/\(nZ b).val<4294967296:=by show 0<=((kf.sum (b.map UInt8.toNat):Nat):Int)/\_;unfold nZ kf.sum;simp only;omega
theorem afE(f:bX): (xn f).length=80:=by simp[xn,ae8,di]
theorem afs{b:List UInt8}(h: (cY b).2.val=0): (cY b).1=parse b/\b.length=80/\(cX b 76 4).val=(nZ (b.take 76)).val:=by
 unfold cY at h ⊢;split at h
 ·exact absurd h (by decide)
 split at h
 ·exact absurd h (by decide)
 split at h
 ·exact absurd h (by decide)
 split at h
 ·rename_i h1 h2 h3 h4;rw[if_neg h1,if_neg h2,if_neg h3,if_pos h4];exact⟨rfl,by omega,by simpa using h3⟩
 ·exact absurd h (by decide)
theorem ag1: (cY []).2.val≠0:=fun h=>by have:=(afs h).2.1;simp at this
theorem ag2{f:bX}(h: (cY (xn f)).2.val=0)(h1:0<=f.src.val)(h2:f.src.val<256)(h3:0<=f.boot.val)(h4:f.boot.val<65536): (cY (xn f)).1.src.val=f.src.val/\(cY (xn f)).1.boot.val=f.boot.val:=by
 rw[(afs h).1];constructor
 ·show(cX (xn f) 5 1).val=_;unfold cX;rw[ag0,agj h1 h2]
 ·show(cX (xn f) 8 2).val=_;unfold cX;rw[agz,agk h3 h4]
theorem afS(l:List UInt8):∀c∈l.map UInt8.toNat,c<256:=by intro c hc;obtain⟨x,_,rfl⟩:=List.mem_map.1 hc;exact x.toNat_lt
theorem agl{α:Type}(l:List α)(x:Nat)(h:x<l.length)(v:α):l=l.take x++ [l[x]]++l.drop (x+1)/\l.set x v=l.take x++ [v]++l.drop (x+1):=by
 constructor
 ·rw[List.append_assoc,List.singleton_append,List.getElem_cons_drop,List.take_append_drop]
 ·rw[List.set_eq_take_append_cons_drop,if_pos h,List.append_assoc,List.singleton_append]
theorem ag3{l:List UInt8}{x:Nat}(h:x<l.length){v:UInt8}(he:kf.sum (l.map UInt8.toNat)=kf.sum ((l.set x v).map UInt8.toNat)):v=l[x]:=by
 obtain⟨e1,e2⟩:=agl l x h v;have he2:kf.sum ((l.take x).map UInt8.toNat++ [l[x].toNat]++(l.drop (x+1)).map UInt8.toNat)=kf.sum ((l.take x).map UInt8.toNat++ [v.toNat]++(l.drop (x+1)).map UInt8.toNat):=by
  have h1: (l.take x).map UInt8.toNat++ [l[x].toNat]++(l.drop (x+1)).map UInt8.toNat=l.map UInt8.toNat:=by have:=congrArg (List.map UInt8.toNat) e1;simp only[List.map_append,List.map_cons,List.map_nil] at this;exact this.symm
  have h2: (l.take x).map UInt8.toNat++ [v.toNat]++(l.drop (x+1)).map UInt8.toNat=(l.set x v).map UInt8.toNat:=by have:=congrArg (List.map UInt8.toNat) e2;simp only[List.map_append,List.map_cons,List.map_nil] at this;exact this.symm
  rw[h1,h2];exact he
 have hb:∀(y:UInt8),∀c∈[y.toNat],c<256:=fun y c hc=>by rw[List.mem_singleton.1 hc];exact y.toNat_lt
 have:=kf.aeF _ _ _ _ (by simp) (by simp) (afS _) (hb _) (hb _) (afS _) he2;have h3:=(List.cons.inj this).1;exact(UInt8.toNat_inj.1 h3).symm
theorem agm{a b:List UInt8}(ha:a.length=4)(hb:b.length=4)(h: (oN a).val=(oN b).val):a=b:=by
 match a,b,ha,hb with
 | [a0,a1,a2,a3],[b0,b1,b2,b3],_,_=>
  rw[afG,afG] at h;have:=a0.toNat_lt;have:=a1.toNat_lt;have:=a2.toNat_lt;have:=a3.toNat_lt;have:=b0.toNat_lt;have:=b1.toNat_lt;have:=b2.toNat_lt;have:=b3.toNat_lt;have e0:a0=b0:=UInt8.toNat_inj.1 (by omega);have e1:a1=b1:=UInt8.toNat_inj.1 (by omega);have e2:a2=b2:=UInt8.toNat_inj.1 (by omega);have e3:a3=b3:=UInt8.toNat_inj.1 (by omega);rw[e0,e1,e2,e3]
theorem agA{f:bX}{x:Nat}{v:UInt8}(hx:x<80)(hv:v≠(xn f).getD x 0): (cY ((xn f).set x v)).2.val≠0:=by
 intro h;obtain⟨_,_,hs⟩:=afs h;have hlen:=afE f;have hg: (xn f).getD x 0=(xn f)[x]'(by omega):=by rw[List.getD_eq_getElem?_getD,gE (by omega)];rfl
 rw[hg] at hv;by_cases h76:x<76
 ·have e1: ((xn f).set x v).drop 76=(xn f).drop 76:=by rw[List.drop_set,if_pos (by omega)]
  have e2: ((xn f).set x v).take 76=(Ih f).set x v:=by rw[List.take_set,af5]
  unfold cX at hs;rw[e1,e2,agc,afD (afu _).1 (afu _).2] at hs;have hs2:kf.sum ((Ih f).map UInt8.toNat)=kf.sum (((Ih f).set x v).map UInt8.toNat):=by have: ((kf.sum ((Ih f).map UInt8.toNat):Nat):Int)=(kf.sum (((Ih f).set x v).map UInt8.toNat):Nat):=hs;omega
  have h3:=ag3 (by rw[ae8];exact h76) hs2;apply hv;rw[h3];have e4: (Ih f)[x]? =(xn f)[x]?:=by rw[<-af5,List.getElem?_take_of_lt h76]
  rw[gE (by rw[ae8];exact h76),gE (by omega)] at e4;exact Option.some.inj e4
 ·have e2: ((xn f).set x v).take 76=Ih f:=by rw[List.take_set,af5,List.set_eq_of_length_le (by rw[ae8];omega)]
  unfold cX at hs;rw[e2,<-afD (afu (Ih f)).1 (afu (Ih f)).2,<-agc f] at hs;have h3:=agm (by simp;omega) (by simp;omega) hs;have h4:=congrArg (fun l=>l[x-76]?) h3;rw[List.getElem?_take_of_lt (by omega),List.getElem?_take_of_lt (by omega),List.getElem?_drop,List.getElem?_drop,show 76+(x-76)=x by omega,List.getElem?_set_self (by omega),gE (by omega)] at h4;exact hv (Option.some.inj h4)
theorem ahe{a b:UInt8}(h:b≠0):a^^^b≠a:=by
 intro e;apply h;have h1:a^^^(a^^^b)=a^^^a:=by rw[e]
 rw[<-UInt8.xor_assoc,UInt8.xor_self,UInt8.zero_xor] at h1;exact h1
section
def afk(x:ak)(l:List (bX×ae)):Prop:=∀o∈l,o.1.src=x.id/\o.1.boot=x.boot
theorem afk.nil(x:ak):afk x []:=fun o ho=>by cases ho
theorem afk.app{x:ak}{l m:List (bX×ae)}(h:afk x l)(k:afk x m):afk x (l++m):=fun o ho=>(List.mem_append.1 ho).elim (h o) (k o)
theorem afk.of{x y:ak}{l:List (bX×ae)}(h:afk x l)(h1:x.id=y.id)(h2:x.boot=y.boot):afk y l:=fun o ho=>⟨(h o ho).1.trans h1,(h o ho).2.trans h2⟩
theorem afa(x:ak)(now fine:ae)(f:bX):afk x (dA x now fine f):=by
 unfold dA;split
 ·intro o ho;rw[List.mem_singleton.1 ho];exact⟨rfl,rfl⟩
 ·exact .nil x
theorem agB(x:ak)(now fine:ae):afk x (ju x now fine):=by
 unfold ju;split
 ·split
  ·exact(afa _ _ _ _).of rfl rfl
  ·exact .nil x
 ·exact .nil x
theorem agC(x:ak)(now fine:ae):afk x (lD x now fine):=by
 unfold lD;split
 ·exact(afa _ _ _ _).of rfl rfl
 ·exact .nil x
theorem agD(x:ak)(now fine:ae):afk x (gQ x now fine):=by
 unfold gQ;have h1:NS (fun _ _=>True) x (uC x now):=⟨rfl,rfl,rfl,rfl,TS.refl.Ot _ _⟩;have h2:NS (fun _ _=>True) x (Lc x now):=h1.trans (Bo _);have h3:NS (fun _ _=>True) x (NV x now):=h2.trans (af8 _ _);split
 ·split
  ·exact(((afa _ _ _ _).of h1.id h1.boot).app ((agB _ _ _).of h2.id h2.boot)).app ((agC _ _ _).of h3.id h3.boot)
  ·exact .nil x
 ·exact .nil x
theorem ag4(x:ak)(f:bX)(at_ now fine:ae):afk x (lE x f at_ now fine):=by
 unfold lE;split
 ·exact(afa _ _ _ _).of rfl rfl
 ·split
  ·unfold J5 Tu;split
   ·split
    ·exact(afa _ _ _ _).of rfl rfl
    ·exact .nil x
   ·exact .nil x
  ·exact .nil x
theorem agE(x:ak)(b:List UInt8)(at_ now fine:ae):afk x (ae7 x b at_ now fine):=by
 unfold ae7;split
 ·split
  ·exact .nil x
  ·unfold hrO;split
   ·exact .nil x
   split
   ·exact .nil x
   split
   ·exact .nil x
   ·unfold qd;split
    ·exact(ag4 _ _ _ _ _).of rfl rfl
    ·exact .nil x
 ·exact .nil x
def GB(B:Int->Int)(f:bX):Prop:=0<=f.src.val/\f.src.val<5/\0<=f.boot.val/\f.boot.val<=B f.src.val
def DOK(B:Int->Int)(b:List UInt8):Prop:=b= []∨∃f,GB B f/\b=xn f
def MOK(B:Int->Int)(m:bf):Prop:=if m.bent then(cY m.data).2.val≠0 else DOK B m.data
section
variable {B:Int->Int} {K:Int}
theorem GB.mono{f:bX}(h:GB B f){B':Int->Int}(hb:∀k,B k<=B' k):GB B' f:=⟨h.1,h.2.1,h.2.2.1,Int.le_trans h.2.2.2 (hb _)⟩
theorem MOK.mono{m:bf}(h:MOK B m){B':Int->Int}(hb:∀k,B k<=B' k):MOK B' m:=by
 unfold MOK at h ⊢;split
 ·rw[if_pos (by assumption)] at h;exact h
 ·rw[if_neg (by assumption)] at h;exact h.imp id fun⟨f,h1,h2⟩=>⟨f,h1.mono hb,h2⟩
theorem DOK.dec{b:List UInt8}(h:DOK B b)(hB:∀k,B k<=150)(hd: (cY b).2.val=0):GB B (cY b).1:=by
 rcases h with rfl|⟨f,⟨h1,h2,h3,h4⟩,rfl⟩
 ·exact absurd hd ag1
 ·have:=hB f.src.val;obtain⟨e1,e2⟩:=ag2 hd h1 (by omega) h3 (by omega);unfold GB;rw[e1,e2];exact⟨h1,h2,h3,h4⟩
theorem MOK.dec{m:bf}(h:MOK B m)(hB:∀k,B k<=150)(hd: (cY m.data).2.val=0):GB B (cY m.data).1:=by
 unfold MOK at h;split at h
 ·exact absurd hd h
 ·exact h.dec hB hd
structure BI (lf:Nat->Int->Int) (B:Int->Int) (K:Int) (n:List ak) (a:List bf):Prop where
 n5:n.length=5
 b0:∀k,0<=B k/\B k<=K
 bt:∀(i:Nat) x,n[i]? =some x->x.boot.val=B i
 nd:∀(i:Nat) x,n[i]? =some x->x.id.val=i/\LT (lf i) B i x.t
 ml:∀m∈a,MOK B m
variable {lf:Nat->Int->Int} {n:List ak} {a:List bf}
theorem afH{n:List ak}{i j:Nat}{y z:ak}(h: (n.set i y)[j]? =some z): (i=j/\z=y)∨n[j]? =some z:=by
 rw[List.getElem?_set] at h;split at h
 ·split at h
  ·cases h;exact .inl ⟨by assumption,rfl⟩
  ·cases h
 ·exact .inr h
theorem BI.set(h:BI lf B K n a)(hK:K<=150){i:Nat}{x y:ak}(hx:n[i]? =some x)(hn:NS (PB B i) x y):BI lf B K (n.set i y) a:=by
 refine⟨by rw[List.length_set];exact h.n5,h.b0,fun j z hz=>?_,fun j z hz=>?_,h.ml⟩
 ·rcases afH hz with⟨rfl,rfl⟩|hz
  ·rw[hn.boot];exact h.bt i x hx
  ·exact h.bt j z hz
 ·rcases afH hz with⟨rfl,rfl⟩|hz
  ·exact⟨by rw[hn.id];exact(h.nd i x hx).1,hn.t.lt (h.nd i x hx).2 fun k=>Int.le_trans (h.b0 k).2 hK⟩
  ·exact h.nd j z hz
theorem BI.sub(h:BI lf B K n a){a':List bf}(hs:∀m∈a',m∈a∨MOK B m):BI lf B K n a':=⟨h.n5,h.b0,h.bt,h.nd,fun m hm=>(hs m hm).elim (h.ml m) id⟩
theorem afT{l:List bf}{m x:bf}(h:x∈kH l m):x∈l∨x=m:=by
 unfold kH at h;split at h
 ·rcases List.mem_append.1 h with h|h
  ·exact .inl h
  ·exact .inr (List.mem_singleton.1 h)
 ·exact .inl h
theorem agn{s:aF}{i:Nat}{b:List UInt8}{g:ae}{j:Nat}(h:∀m∈s.a,MOK B m)(hb:DOK B b):∀m∈(jz s i b g j).a,MOK B m:=by
 unfold jz;split
 ·exact h
 ·split
  ·intro m hm;rcases afT hm with hm|rfl
   ·exact h m hm
   ·exact hb
  ·exact h
theorem afw{s:aF}{i:Nat}{b:List UInt8}{g:ae}(h:∀m∈s.a,MOK B m)(hb:DOK B b):∀k,∀m∈(sendAll s i b g k).a,MOK B m
 |0=>h
 |k+1=>by rw[kI];exact agn (afw h hb k) hb
theorem ag5{f:bX}(h:GB B f):DOK B ((nJ f).getD []):=by
 unfold nJ;split
 ·exact .inr ⟨f,h,rfl⟩
 ·exact .inl rfl
theorem afU(i:Nat)(g:ae):∀(l:List (bX×ae)) {s:aF},(∀m∈s.a,MOK B m)->(∀o∈l,GB B o.1)->∀m∈(gi s i g l).a,MOK B m
 | [],s,h,_=>h
 |o::l,s,h,ho=>by rw[xz];exact afU i g l (afw h (ag5 (ho o List.mem_cons_self)) _) fun p hp=>ho p (List.mem_cons_of_mem _ hp)
theorem BI.send{s:aF}(h:BI lf B K s.n s.a){i:Nat}{x:ak}(hx:s.n[i]? =some x)(g:ae){l:List (bX×ae)}(hl:afk x l):BI lf B K (gi s i g l).n (gi s i g l).a:=by
 have hlt:i<5:=by have:=(gS.1 hx).1;rw[h.n5] at this;exact this
 rw[(gA i g l s).n];refine⟨h.n5,h.b0,h.bt,h.nd,afU i g l h.ml fun o ho=>?_⟩;obtain⟨h1,h2⟩:=hl o ho;have h3:=(h.nd i x hx).1;have h4:=h.bt i x hx;unfold GB;rw[h1,h2,h3,h4];exact⟨by omega,by omega,(h.b0 _).1,Int.le_refl _⟩
theorem afI{i:Nat}{x:ak}(y:ak)(hx:n[i]? =some x): (n.set i y)[i]? =some y:=by have:=(gS.1 hx).1;rw[List.getElem?_set_self this]
theorem BI.go{s:aF}(h:BI lf B K s.n s.a)(hK:K<=150){i:Nat}{x y:ak}(hx:s.n[i]? =some x)(hn:NS (PB B i) x y)(g:ae){l:List (bX×ae)}(hl:afk x l):BI lf B K (gi {s with n:=s.n.set i y} i g l).n (gi {s with n:=s.n.set i y} i g l).a:=
 BI.send (s:={s with n:=s.n.set i y}) (h.set hK hx hn) (afI y hx) g (hl.of hn.id.symm hn.boot.symm)
theorem BI.xC{s:aF}(h:BI lf B K s.n s.a)(hK:K<=150)(i:Nat)(b:List UInt8)(at_ g:ae)(hb: (cY b).2.val=0->GB B (cY b).1):BI lf B K (jd s i b at_ g).n (jd s i b at_ g).a:=by
 unfold jd;split
 ·exact h
 ·rename_i x hx;refine h.go hK hx (RG _ _ _ _ _ fun hd hne=>?_) g (agE _ _ _ _ _);obtain⟨h1,h2,h3,h4⟩:=hb hd;exact⟨h1,h2,by rw[<-(h.nd i x hx).1];exact hne,h3,h4⟩
theorem BI.fB{s:aF}(h:BI lf B K s.n s.a)(hK:K<=150)(g:ae)(i:Nat):BI lf B K (fB g s i).n (fB g s i).a:=by
 unfold Proofs.Yq.fB;split
 ·exact h
 ·rename_i x hx;split
  ·exact h.go hK hx (agM _ _ _) g (agD _ _ _)
  ·exact h
theorem BI.fold(hK:K<=150)(g:ae):∀(l:List Nat) {s:aF},BI lf B K s.n s.a->BI lf B K (l.foldl (Proofs.Yq.fB g) s).n (l.foldl (Proofs.Yq.fB g) s).a
 | [],s,h=>h
 |i::l,s,h=>BI.fold hK g l (h.fB hK g i)
theorem afF{l:List bf}{i:Int}{m:bf}(h:m∈eM l i):m∈l:=by
 unfold eM at h;split at h
 ·exact List.mem_of_mem_eraseIdx h
 ·exact h
theorem agF{l:List bf}{i x:Int}{b:UInt8}(h:∀m∈l,MOK B m):∀m∈xv l i x b,MOK B m:=by
 intro m hm;unfold xv at hm;split at hm
 ·exact h m hm
 ·rename_i y hy;split at hm
  ·rename_i he;rcases List.mem_or_eq_of_mem_set hm with hm|rfl
   ·exact h m hm
   ·unfold oW at he;rw[hy] at he;simp only at he;split at he
    ·exact absurd he (by decide)
    ·rename_i hbt;split at he
     ·exact absurd he (by decide)
     ·rename_i hx;have hm:=h y (rR hy);unfold MOK at hm ⊢;rw[if_neg hbt] at hm;rw[if_pos (show(zO y x.toNat b).bent=true from rfl)];rcases hm with hm|⟨f,hf,hm⟩
      ·rw[hm] at hx;simp at hx;omega
      ·show(cY (y.data.set x.toNat (y.data.getD x.toNat 0^^^b))).2.val≠0;rw[hm] at hx ⊢;have hl:=afE f;exact agA (by omega) (ahe (by intro e;exact hx (.inr (.inr e))))
  ·exact h m hm
theorem BI.Xz{s:aF}(h:BI lf B K s.n s.a)(t:cU):BI lf B K (ft s t).2.n (ft s t).2.a:=by
 unfold ft;split
 ·exact⟨h.n5,h.b0,h.bt,h.nd,agF h.ml⟩
 split
 ·exact h
 split
 ·exact⟨h.n5,h.b0,h.bt,h.nd,fun m hm=>h.ml m (afF hm)⟩
 ·refine⟨h.n5,h.b0,h.bt,h.nd,fun m hm=>?_⟩;replace hm:m∈ya s.a t.n.val:=hm;unfold ya at hm;split at hm
  ·rename_i y hy;rcases afT hm with hm|rfl
   ·exact h.ml m hm
   ·exact h.ml _ (rR hy)
  ·exact h.ml m hm
theorem BI.move{s:aF}(h:BI lf B K s.n s.a)(hK:K<=150)(t:cU):BI lf B K (IB s t).2.n (IB s t).2.a:=by
 unfold IB;split
 ·split
  ·exact h
  ·rename_i x hx;split
   ·exact h.set hK hx (RH _ _)
   ·exact h
 ·exact h
theorem BI.tick{s:aF}(h:BI lf B K s.n s.a)(hK:K<=150):BI lf B K (fk s).2.n (fk s).2.a:=by
 unfold fk;split
 ·exact BI.fold hK _ _ h
 ·exact h
theorem BI.del{s:aF}(h:BI lf B K s.n s.a)(hK:K<=150)(i:Int):BI lf B K (jf s i).2.n (jf s i).2.a:=by
 unfold jf;split
 ·exact h
 ·rename_i m hm;split
  ·exact h
  ·have h1:BI lf B K s.n (eM s.a i):=⟨h.n5,h.b0,h.bt,h.nd,fun m hm=>h.ml m (afF hm)⟩;show BI lf B K (if _ then _ else _:aF).n (if _ then _ else _:aF).a;split
   ·exact BI.xC (s:={s with w:=aU s.w,a:=eM s.a i}) h1 hK _ _ _ _ ((h.ml m (rR hm)).dec fun k=>Int.le_trans (h.b0 k).2 hK)
   ·exact h1
def bUp(B:Int->Int)(i:Nat):Int->Int:=fun k=>if k=i then B i+1 else B k
def lUp(lf:Nat->Int->Int)(i:Nat):Nat->Int->Int:=fun j=>if j=i then fun _=>0 else lf j
theorem agG(B:Int->Int)(i:Nat)(k:Int):B k<=bUp B i k:=by
 unfold bUp;split
 ·rename_i h;subst h;omega
 ·exact Int.le_refl _
theorem BI.lz(h:BI lf B K n a)(i:Nat):BI (lUp lf i) B K n a:=⟨h.n5,h.b0,h.bt,fun j x hx=>by
 obtain⟨h1,h2⟩:=h.nd j x hx;refine⟨h1,?_⟩;unfold lUp;split
 ·exact h2.zero
 ·exact h2,h.ml⟩
theorem BI.more(h:BI lf B K n a){L:Int}(hl:K<=L):BI lf B L n a:=⟨h.n5,fun k=>⟨(h.b0 k).1,Int.le_trans (h.b0 k).2 hl⟩,h.bt,h.nd,h.ml⟩
theorem BI.boot{s:aF}(h:BI lf B K s.n s.a)(hK:K<=149){i:Nat}(hi:i<5)(e:bR):∃B',BI (lUp lf i) B' (K+1) (jl s i e).2.n (jl s i e).2.a:=by
 unfold jl;split
 ·exact⟨B,(h.lz i).more (by omega)⟩
 split
 ·exact⟨B,(h.lz i).more (by omega)⟩
 ·rename_i x hx;refine⟨bUp B i,by show(s.n.set i _).length=5;rw[List.length_set];exact h.n5,fun k=>?_,fun j z hz=>?_,fun j z hz=>?_,fun m hm=>(h.ml m hm).mono (agG B i)⟩
  ·have:=h.b0 k;have:=h.b0 i;unfold bUp;split <;> omega
  ·have hz1: (s.n.set i (lZ s.c (nI i) (aeZ x.boot) e))[j]? =some z:=hz;rcases afH hz1 with⟨rfl,rfl⟩|hz
   ·show(aeZ x.boot).val=bUp B i i;have h1:=h.bt i x hx;have h2:=h.b0 i;rw[Gr];unfold XA.nx bUp;rw[if_pos rfl,if_pos (by omega),h1];omega
   ·by_cases hji:j=i
    ·subst hji;rw[afI _ hx] at hz1;cases hz1;show(aeZ x.boot).val=bUp B j j;have h1:=h.bt j x hx;have h2:=h.b0 j;rw[Gr];unfold XA.nx bUp;rw[if_pos rfl,if_pos (by omega),h1];omega
    ·rw[h.bt j z hz];unfold bUp;rw[if_neg (by omega)]
  ·replace hz: (s.n.set i _)[j]? =some z:=hz;by_cases hji:j=i
   ·subst hji;rw[afI _ hx] at hz;cases hz;refine⟨gR (by omega),?_⟩;unfold lUp;rw[if_pos rfl];exact LT.new _ _ _
   ·rcases afH hz with⟨rfl,rfl⟩|hz
    ·exact absurd rfl hji
    ·obtain⟨h1,h2⟩:=h.nd j z hz;refine⟨h1,?_⟩;unfold lUp;rw[if_neg hji];exact h2.mono (agG B i)
theorem BI.own{s:aF}(h:BI lf B K s.n s.a)(hK:K<=149){i:Nat}(hi:i<5)(t:cU)(h7:t.kind.val≠7):∃B',BI (if t.kind.val=8 then lUp lf i else lf) B' (K+1) (fE s i t).2.n (fE s i t).2.a:=by
 unfold fE;by_cases h8:t.kind.val=8
 ·rw[if_pos h8,if_pos h8];exact h.boot hK hi t.e
 rw[if_neg h8,if_neg h8];refine⟨B,BI.more ?_ (Int.le_of_lt (Int.lt_succ K))⟩;split
 ·exact h
 rw[if_neg (fun e=>h7 e.1)];cases hx:s.n[i]? with
 |none=>exact h
 |some x=>
  have key:=BI.go (s:={s with w:=aU s.w}) (y:=aeT x) h (by omega) hx (Bo _) (wG s.w) (afa x (ff (aU s.w) (nI i)) (dk (aU s.w) (nI i) (wG s.w)) fz);dsimp only at key ⊢;exact key
def aft(lf:Nat->Int->Int)(t:cU):Nat->Int->Int:=fun j=>if t.kind.val=8/\t.node.val=j then fun _=>0 else lf j
theorem BI.afV{lf':Nat->Int->Int}(h:BI lf B K n a)(he:∀j,j<5->lf' j=lf j):BI lf' B K n a:=⟨h.n5,h.b0,h.bt,fun j x hx=>by have hj:=(gS.1 hx).1;rw[h.n5] at hj;rw[he j hj];exact h.nd j x hx,h.ml⟩
theorem BI.do_{s:aF}(h:BI lf B K s.n s.a)(hK:K<=149)(t:cU)(h7:t.kind.val≠7):∃B',BI (aft lf t) B' (K+1) (Bq s t).2.n (Bq s t).2.a:=by
 have no8:t.kind.val≠8->aft lf t=lf:=fun h8=>by funext j;unfold aft;rw[if_neg (fun e=>h8 e.1)]
 have dK:∀s':aF,t.kind.val≠8->BI lf B K s'.n s'.a->∃B',BI (aft lf t) B' (K+1) s'.n s'.a:=fun s' h8 h=>⟨B,by rw[no8 h8];exact h.more (by omega)⟩;have hK2:K<=150:=by omega
 unfold Bq;split
 ·exact dK _ (by omega) (h.move hK2 t)
 split
 ·exact dK _ (by omega) (h.tick hK2)
 split
 ·exact dK _ (by omega) (h.del hK2 _)
 split
 ·exact dK _ (by omega) (h.Xz t)
 split
 ·rename_i hc;have hh:=hc.2;unfold yc at hh;simp only[bI,decide_eq_true_eq] at hh;rw[h.n5] at hh;obtain⟨B',hb⟩:=h.own hK (i:=t.node.val.toNat) (by omega) t h7;refine⟨B',hb.afV fun j hj=>?_⟩;unfold aft lUp;by_cases h8:t.kind.val=8
  ·rw[if_pos h8];by_cases hj2:t.node.val=j
   ·rw[if_pos ⟨h8,hj2⟩,if_pos (by omega)]
   ·rw[if_neg (fun e=>hj2 e.2),if_neg (by omega)]
  ·rw[if_neg h8,if_neg (fun e=>h8 e.1)]
 ·refine⟨B,BI.more (K:=K) ?_ (by omega)⟩;refine⟨h.n5,h.b0,h.bt,fun j x hx=>?_,h.ml⟩;obtain⟨h1,h2⟩:=h.nd j x hx;refine⟨h1,?_⟩;unfold aft;split
  ·exact h2.zero
  ·exact h2
theorem BI.new{c:cT}(h5:c.1.val=5):BI (fun _ _=>0) (fun _=>0) 0 (aeY c).n (aeY c).a:=by
 have hn: (aeY c).n=(List.range 5).map (kJ c):=by show jW c c.1.val.toNat=_;rw[h5];rfl
 have hx:∀(i:Nat) x,(aeY c).n[i]? =some x->i<5/\x=kJ c i:=by intro i x hx;rw[hn,List.getElem?_map] at hx;obtain⟨k,hk,rfl⟩:=Option.map_eq_some_iff.1 hx;obtain⟨hk1,hk2⟩:=gS.1 hk;simp at hk1 hk2;subst hk2;exact⟨hk1,rfl⟩
 refine⟨by rw[hn];simp,fun k=>⟨Int.le_refl _,Int.le_refl _⟩,fun i x h=>?_,fun i x h=>?_,fun m hm=>by cases hm⟩
 ·obtain⟨_,rfl⟩:=hx i x h;rfl
 ·obtain⟨h1,rfl⟩:=hx i x h;exact⟨gR (by omega),LT.new _ _ _⟩
end
end
section
@[go_sem ↓ high] theorem ahn (a:Addr) (v:Value):storeVar 30 a v=jR 30 a v:=rfl
@[go_sem ↓ high] theorem aho (a:Addr) (v:Value):storeVar 31 a v=jR 31 a v:=rfl
@[go_sem] theorem ahj:Es 30 8:=aX 30 8 (by kernel_rfl)
@[go_sem] theorem ahk:Es 31 64:=aX 31 64 (by kernel_rfl)
def ae2(L:Nat->Int):Array Value:=((List.range 64).map fun p=>Value.int .i64 (L p)).toArray
@[go_sem] theorem ae1 (L:Nat->Int): (ae2 L).size=64:=by simp[ae2]
theorem afb(L:Nat->Int)(p:Nat)(h:p<64): (ae2 L)[p]? =some (.int .i64 (L p)):=by simp[ae2,h]
@[go_sem] theorem ahh (L:Nat->Int):bK (ae2 L)=true:=by unfold bK;rw[Array.all_eq_true_iff_forall_mem];intro x hx;simp only[ae2,List.mem_toArray,List.mem_map] at hx;obtain⟨i,_,rfl⟩:=hx;rfl
def afJ(L:Nat->Int)(p:Nat)(v:Int):Nat->Int:=fun q=>if q=p then v else L q
def afK(L:Nat->Int)(i:Nat):Nat->Int:=fun q=>if q/8=i then 0 else L q
def afA:Array Value:=#[.int .i64 0,.int .i64 0,.int .i64 0,.int .i64 0,.int .i64 0,.int .i64 0,.int .i64 0,.int .i64 0]
theorem agH(i:Nat)(h:i<8):afA[i]? =some (.int .i64 0):=by rw[show afA=Array.replicate 8 (.int .i64 0) from rfl];simp[h]
theorem agI(L:Nat->Int)(p:Nat)(v:Int): (ae2 L).setIfInBounds p (.int .i64 v)=ae2 (afJ L p v):=by
 apply Array.ext_getElem?;intro q;rw[Array.getElem?_setIfInBounds];rcases nO q 64 with hq|hq
 ·rw[afb _ q hq,afb _ q hq];unfold afJ;by_cases h:p=q
  ·subst h;rw[if_pos rfl,if_pos (by rw[ae1];exact hq),if_pos rfl]
  ·rw[if_neg h,if_neg (Ne.symm h)]
 ·rw[Array.getElem?_eq_none (by rw[ae1];omega),Array.getElem?_eq_none (by rw[ae1];omega),ae1];split
  ·rw[if_neg (by omega)]
  ·rfl
theorem agJ(L:Nat->Int)(i:Nat)(hi:i<8):BD (i*8) afA (ae2 L)=ae2 (afK L i):=by
 have h8:afA.size=8:=rfl;apply Array.ext_getElem?;intro q;rw[qK (by rw[ae1,h8];omega),h8];rcases nO q 64 with hq|hq
 ·rw[afb _ q hq,afb _ q hq];unfold afK;by_cases h:i*8<=q/\q<i*8+8
  ·rw[if_pos h,if_pos (by omega),agH _ (by omega)]
  ·rw[if_neg h,if_neg (by omega)]
 ·rw[if_neg (by omega),Array.getElem?_eq_none (by rw[ae1];omega),Array.getElem?_eq_none (by rw[ae1];omega)]
def lfL(L:Nat->Int)(i:Nat)(k:Int):Int:=if 0<=k/\k<8 then L (i*8+k.toNat) else 0
theorem agK:lfL (fun _=>0)=fun _ _=>0:=by funext i k;unfold lfL;split <;> rfl
theorem afL(L:Nat->Int)(i:Nat)(k:Nat)(v:Int)(hk:k<8):lfL (afJ L (i*8+k) v) i=fun j=>if j=(k:Int) then v else lfL L i j:=by
 funext j;unfold lfL afJ;by_cases h:0<=j/\j<8
 ·rw[if_pos h];by_cases hj:j=k
  ·rw[if_pos hj,if_pos (by omega)]
  ·rw[if_neg hj,if_neg (by omega),if_pos h]
 ·rw[if_neg h,if_neg (by omega),if_neg h]
theorem afx(L:Nat->Int)(i i':Nat)(k:Nat)(v:Int)(hk:k<8)(hi:i'≠i):lfL (afJ L (i*8+k) v) i'=lfL L i':=by
 funext j;unfold lfL afJ;by_cases h:0<=j/\j<8
 ·rw[if_pos h,if_pos h,if_neg (by omega)]
 ·rw[if_neg h,if_neg h]
theorem afM(L:Nat->Int)(i:Nat):lfL (afK L i) i=fun _=>0:=by
 funext j;unfold lfL afK;split
 ·rw[if_pos (by omega)]
 ·rfl
theorem afy(L:Nat->Int)(i i':Nat)(hi:i'≠i):lfL (afK L i) i'=lfL L i':=by
 funext j;unfold lfL afK;split
 ·rw[if_neg (by omega)]
 ·rfl
def lfJ(L:Nat->Int)(t:cU)(j:Nat):Nat->Int->Int:=fun i=>if i<j then lfL L i else aft (lfL L) t i
section
variable {L:Nat->Int} {t:cU} {j:Nat} {B:Int->Int} {K:Int} {n:List ak} {a:List bf}
theorem BI.lf(h:BI (aft (lfL L) t) B K n a):BI (lfJ L t 0) B K n a:=h.afV fun i _=>by unfold lfJ;rw[if_neg (by omega)]
theorem BI.rg(h:BI (lfJ L t 5) B K n a):BI (lfL L) B K n a:=h.afV fun i hi=>by unfold lfJ;rw[if_pos hi]
theorem BI.ahl(h:BI (lfJ L t j) B K n a)(h8:t.kind.val=8)(hj:t.node.val=j):BI (lfJ (afK L j) t (j+1)) B K n a:=h.afV fun i hi=>by
 unfold lfJ;by_cases h1:i<j
 ·rw[if_pos (by omega),if_pos h1,afy _ _ _ (by omega)]
 ·rw[if_neg h1];by_cases h2:i=j
  ·subst h2;rw[if_pos (by omega),afM];unfold aft;rw[if_pos ⟨h8,hj⟩]
  ·rw[if_neg (by omega)];unfold aft;rw[if_neg (by omega),if_neg (by omega),afy _ _ _ h2]
theorem BI.ahm(h:BI (lfJ L t j) B K n a)(h8:¬(t.kind.val=8/\t.node.val=j)):BI (lfJ L t (j+1)) B K n a:=h.afV fun i hi=>by
 unfold lfJ;by_cases h1:i<j
 ·rw[if_pos (by omega),if_pos h1]
 ·rw[if_neg h1];by_cases h2:i=j
  ·subst h2;rw[if_pos (by omega)];unfold aft;rw[if_neg h8]
  ·rw[if_neg (by omega)]
theorem BI.see(h:BI (lfJ L t (j+1)) B K n a){x:ak}(hx:n[j]? =some x){k:Nat}{y:bE}(hk:k<8)(hy:bJ x.t.ents k=some y):BI (lfJ (afJ L (j*8+k) y.boot.val) t (j+1)) B K n a:=by
 refine⟨h.n5,h.b0,h.bt,fun i z hz=>?_,h.ml⟩;obtain⟨h1,h2⟩:=h.nd i z hz;refine⟨h1,?_⟩;unfold lfJ at h2 ⊢;by_cases hij:i=j
 ·subst hij;rw[hx] at hz;cases hz;rw[if_pos (by omega)] at h2 ⊢;rw[afL _ _ _ _ hk];exact h2.seen hy
 ·by_cases h3:i<j+1
  ·rw[if_pos h3] at h2 ⊢;rw[afx _ _ _ _ _ hk hij];exact h2
  ·rw[if_neg h3] at h2 ⊢;unfold aft at h2 ⊢;split at h2
   ·rw[if_pos (by assumption)];exact h2
   ·rw[if_neg (by assumption),afx _ _ _ _ _ hk hij];exact h2
theorem BI.ent(h:BI (lfJ L t (j+1)) B K n a){x:ak}(hx:n[j]? =some x){y:bE}(hy:y∈dm x.t):∃k:Nat,k<5/\k≠j/\y.node.val=k/\bJ x.t.ents k=some y/\L (j*8+k)<=y.boot.val/\∃z,n[k]? =some z/\y.boot.val<=z.boot.val:=by
 obtain⟨k0,hk0⟩:=agy hy;obtain⟨h1,h2⟩:=h.nd j x hx;obtain⟨e1,e2,e3,e4,e5,e6,z,e7,e8⟩:=h2.en k0 y hk0;obtain⟨l1,l2,l3⟩:=h2.lv k0 z e7;obtain⟨k,rfl⟩:∃k:Nat,k0=k:=⟨k0.toNat,by omega⟩;have hk5:k<5:=by omega
 obtain⟨u,hu⟩:∃u,n[k]? =some u:=⟨_,gE (by rw[h.n5];exact hk5)⟩;refine⟨k,hk5,by omega,e1,hk0,?_,u,hu,by rw[h.bt k u hu];omega⟩;unfold lfJ at e5;rw[if_pos (by omega)] at e5;unfold lfL at e5;rw[if_pos (by omega)] at e5;exact e5
end
end
theorem ahf: (#[.int .i64 0,.int .i64 0,.int .i64 0,.int .i64 0,.int .i64 0,.int .i64 0,.int .i64 0,.int .i64 0,.int .i64 0,.int .i64 0,.int .i64 0,.int .i64 0,.int .i64 0,.int .i64 0,.int .i64 0,.int .i64 0,.int .i64 0,.int .i64 0,.int .i64 0,.int .i64 0,.int .i64 0,.int .i64 0,.int .i64 0,.int .i64 0,.int .i64 0,.int .i64 0,.int .i64 0,.int .i64 0,.int .i64 0,.int .i64 0,.int .i64 0,.int .i64 0,.int .i64 0,.int .i64 0,.int .i64 0,.int .i64 0,.int .i64 0,.int .i64 0,.int .i64 0,.int .i64 0,.int .i64 0,.int .i64 0,.int .i64 0,.int .i64 0,.int .i64 0,.int .i64 0,.int .i64 0,.int .i64 0,.int .i64 0,.int .i64 0,.int .i64 0,.int .i64 0,.int .i64 0,.int .i64 0,.int .i64 0,.int .i64 0,.int .i64 0,.int .i64 0,.int .i64 0,.int .i64 0,.int .i64 0,.int .i64 0,.int .i64 0,.int .i64 0]:Array Value)=ae2 fun _=>0:=by kernel_rfl
@[go_sem] theorem ahg:afA.size=8:=rfl
@[go_sem] theorem ahi:bK afA=true:=by simp[bK,afA,Value.oneCell']
theorem afN(e:ae)(a:Option Addr)(cp:Nat)(l:List (cU×Sl))(m:Int)(W:World)(hm:W.cell? ⟨0,0,none⟩=some (.int .i64 m))(hin:TH W a l)(hd:InD W l):Calls prog 3 #[.int .i64 e.val,.slice a l.length cp] W fun r w'=>r= .returned (.bool true)/\Below W.heap.size W w':=by
 have HM:=qD hm;have HIN:=qD hin;have HD:=qD hd;have HAW:Hid (∀w,Below W.heap.size W w->Calls prog 6 #[] w fun e w'=>e= .returned (.bool true)/\Below w.heap.size w w'):=fun w hb=>O9 w m ((hb.cell (p:=⟨0,0,none⟩) (World.block_lt_of_cell? _ _ hm)).trans hm);have M0:Hid (Mem W (fun _=>False) [] W):=Mem.none W;have HL:Hid (∀w,Below W.heap.size W w->Calls prog 5 #[.slice a l.length cp] w fun e w'=>e= .returned (.bool (lG l))/\Below w.heap.size w w'):=fun w hb=>Pc a cp l w (hin.grown hb);have hl62:=hin.1;have HLB:Hid (lG l=true->l.length<=150):=fun h=>by unfold lG at h;simp at h;exact h.1
 clear hm hin hd;generalize hlb:lG l=lb at*;clear hlb;cases lb with
 |false=>
  go_enter func3,ntmps3;go_wp2_with (first|(go_at_call 5;refine Mem.qB (HL.o _ M0.o.mh.below) M0.o fun w1 M1=>?_)|(go_at_call 6;refine Mem.qB (HAW.o _ M1.o.mh.below) M1.o fun w2 M2=>?_));go_ret;exact⟨rfl,M2.o.mh.below⟩
 |true=>
  have hl150:=HLB.o rfl;clear HLB;have HC:=qD (fun w=>agd e w);have HMD:=qD (fun w=>XP (ae5 e) w (afQ e));have HFI0:=qD (aR.new (afQ e));have HBI0:Hid (BI (lfL fun _=>0) (fun _=>0) 0 (aeY (ae5 e)).n (aeY (ae5 e)).a):=by show BI _ _ _ _ _;rw[agK];exact BI.new (afZ e)
  have HC5:Hid ((ae5 e).1.val=5):=afZ e;generalize ae5 e=c at*;unfold j6 at HMD;generalize aeY c=s0 at*;have HZ:#[.int .i64 0,.int .i64 0,.int .i64 0,.int .i64 0,.int .i64 0,.int .i64 0,.int .i64 0,.int .i64 0,.int .i64 0,.int .i64 0,.int .i64 0]=bd R0:=rfl;go_enter func3,ntmps3;go_upto_region 4 with(first|(go_at_call 5;refine Mem.qB (HL.o _ M0.o.mh.below) M0.o fun w1 M1=>?_)|(go_at_call 7;refine Mem.qB (HC.o _) M1.o fun w2 M2=>?_));clear HZ;have M3:Hid (Mem W (fun _=>False) [(w2.heap.size,.row (bd c))] ((w2.alloc (.cells (bd R0) 26)).setCells w2.heap.size 0 (bd c).toList)):=(M2.o.alloc (cs:=bd R0) (t:=26)).bC (i:=0) (cs':=bd c) rfl (by simp[zn]);generalize ((w2.alloc (.cells (bd R0) 26)).setCells w2.heap.size 0 (bd c).toList)=w3 at*;generalize w2.heap.size=gc at*;have k3:=M3.o.row (i:=0) rfl;clear M0 M1 M2 HC HL;go_upto_region 7 with(go_at_call 8;refine(HMD.o _).mono ?_;rintro r w4 ⟨g,rfl,hM⟩;have M4:Hid (Mem W (fun _=>False) ([(gc,.row (bd c))]++ [(g,fA s0)]) w4):=Mem.perm (Mem.ur M3.o hM) (List.Perm.swap _ _ _);clear hM);clear M3 HMD k3;have HZ4:=ahf;go_upto_region 8 with(fail);clear HZ4;have M5:Hid (Mem W (fun _=>False) ([(w4.heap.size,.row (ae2 fun _=>0)),(gc,.row (bd c))]++ [(g,fA s0)]) ((w4.alloc (.cells (ae2 fun _=>0) 31)).setCells w4.heap.size 0 (ae2 fun _=>0).toList)):=(M4.o.alloc (cs:=ae2 fun _=>0) (t:=31)).bC (i:=0) (cs':=ae2 fun _=>0) rfl (by simp[ae1]);generalize ((w4.alloc (.cells (ae2 fun _=>0) 31)).setCells w4.heap.size 0 (ae2 fun _=>0).toList)=w5 at*;generalize w4.heap.size=gl at*;clear M4;go_upto_region 9 with(fail)
  go_loopw [26] (fun i wr=>∃(k:Nat) (s:aF) (L:Nat->Int) (B:Int->Int) (K:Int),k<=l.length/\i= .int .i64 k/\Hid (aR s)/\Hid (K<=k/\BI (lfL L) B K s.n s.a)/\Hid (Mem W (fun _=>False) ([(gl,.row (ae2 L)),(gc,.row (bd c))]++ [(g,fA s)]) wr)) (fun i _=>l.length-(intOf i).toNat)
  case atStart=>exact⟨0,s0,_,_,0,by omega,rfl,HFI0,⟨Int.le_refl _,HBI0.o⟩,M5⟩
  case round=>
   obtain⟨k,s,L,B,K,hk,rfl,HFI,HB,M⟩:=hrel;clear M5 HFI0 HBI0;by_cases hlt:k<l.length
   ·have hlti: (k:Int)<l.length:=by omega
    obtain⟨t,ht⟩:∃t,l[k]? =some t:=⟨_,gE hlt⟩;have HTM:Hid (t∈l):=jA ht;obtain⟨_,hnil|⟨ga,o,rfl,hex⟩⟩:=HIN.o.grown M.o.mh.below
    ·rw[hnil] at hlt;exact absurd hlt (by simp)
    ·have HX:=qD (hex k t ht);clear hex ht;go_upto_region 11 with((with_reducible show wpList _ _ _ (⟨some 29,_,_,_,_,_⟩::_) _ _);refine wpList_load_mid rfl 40 _ rfl ga (o+k*15) rfl (az t.1 t.2).toList _ HX.o underlying40 rfl (by kernel_rfl) ?_;rw[Array.toArray_toList]);have HZ:#[.int .i64 0,.int .i64 0,.int .i64 0,.int .i64 0,.int .i64 0,.int .i64 0,.int .i64 0,.int .i64 0,.int .i64 0,.int .i64 0,.int .i64 0,.int .i64 0,.int .i64 0,.int .u8 0,.slice none 0 0]=az l9 gO:=rfl;rw[HZ];clear HZ HX;have M6:Hid (Mem W (fun _=>False) ([(wr.heap.size,.row (az t.1 t.2)),(gl,.row (ae2 L)),(gc,.row (bd c))]++ [(g,fA s)]) ((wr.alloc (.cells (az l9 gO) 40)).setCells wr.heap.size 0 (az t.1 t.2).toList)):=(M.o.alloc (cs:=az l9 gO) (t:=40)).bC (i:=0) (cs':=az t.1 t.2) rfl (by simp[tu]);generalize (wr.alloc (.cells (az l9 gO) 40)).setCells wr.heap.size 0 (az t.1 t.2).toList=w6 at*;generalize wr.heap.size=gt at*;clear M;have k6:=M6.o.row (i:=0) rfl;have c60:w6.cell? ⟨gt,0,none⟩=some (.int .i64 t.1.kind.val):=M6.o.cell (i:=0) (k:=0) rfl rfl;by_cases h7:t.1.kind.val=7
     ·rw[h7] at c60;clear h7;go_wp2_with fail;go_roundw
      case rel=>exact⟨k+1,s,L,B,K,by omega,by go_num,HFI,⟨by have:=HB.o.1;omega,HB.o.2⟩,M6.o.au⟩
      case measure=>simp[intOf];omega
     ·have b7: (t.1.kind.val==7)=false:=by simpa using h7
      obtain⟨s',hs'⟩:∃s',s'=Bq s t.1:=⟨_,rfl⟩;obtain⟨B',hB'⟩:=HB.o.2.do_ (by have:=HB.o.1;omega) t.1 h7;have HB1:Hid (BI (lfJ L t.1 0) B' (K+1) s'.2.n s'.2.a):=by rw[hs'];exact hB'.lf
      have HFI1:Hid (aR s'.2):=by rw[hs'];exact HFI.o.do_ t.1
      have HC1:Hid (Calls prog 9 #[.pointer (some ⟨g,0,none⟩),.agg (az t.1 t.2)] w6 fun r w'=>(r= .returned (.int .i64 s'.1)/\s'.2.n.length=s.n.length)/\Mem W (fun _=>False) ([(gt,.row (az t.1 t.2)),(gl,.row (ae2 L)),(gc,.row (bd c))]++ [(g,fA s'.2)]) w'):=by rw[hs'];exact IM HD.o HTM.o HFI.o M6.o
      have HK:Hid (K<=k):=HB.o.1;clear hs' hB' h7 HB;go_upto_region 13 with(go_at_call 9;refine HC1.o.mono ?_;rintro r w7 ⟨⟨rfl,_⟩,hM⟩;have M7:=qD hM;clear hM);clear M6 HC1 k6 c60 b7;have cN:w7.cell? ⟨gc,0,none⟩=some (.int .i64 5):=M7.o.cell (i:=2) (k:=0) rfl (by rw[<-HC5.o];rfl);go_upto_region 14 with(fail);clear cN
      go_loopw [38] (fun i wr=>∃(j:Nat) (L:Nat->Int),j<=5/\i= .int .i64 j/\Hid (BI (lfJ L t.1 j) B' (K+1) s'.2.n s'.2.a)/\Hid (Mem W (fun _=>False) ([(gt,.row (az t.1 t.2)),(gl,.row (ae2 L)),(gc,.row (bd c))]++ [(g,fA s'.2)]) wr)) (fun i _=>5-(intOf i).toNat)
      case atStart=>exact⟨0,L,by omega,rfl,HB1,M7⟩
      case round=>
       obtain⟨j,L1,hj,rfl,HB2,M8⟩:=hrel;clear M7 HB1;by_cases hlt5:j<5
       ·have hlti5: (j:Int)<5:=by omega
        have c80:wr.cell? ⟨gt,0,none⟩=some (.int .i64 t.1.kind.val):=M8.o.cell (i:=0) (k:=0) rfl rfl;have c81:wr.cell? ⟨gt,1,none⟩=some (.int .i64 t.1.node.val):=M8.o.cell (i:=0) (k:=1) rfl rfl;go_upto_region 16 with(fail)
        go_cut [41,42,43,44,45,46,47,48,49] from 106 (fun c41 c42 c43 c44 c45 c46 c47 c48 c49 wr=>c49= .bool (decide (t.1.kind.val=8/\t.1.node.val=(j:Int)))/\Hid (Mem W (fun _=>False) ([(gt,.row (az t.1 t.2)),(gl,.row (ae2 L1)),(gc,.row (bd c))]++ [(g,fA s'.2)]) wr))
        case first=>
         by_cases h8:t.1.kind.val=8
         ·rw[h8] at c80;by_cases hn:t.1.node.val=(j:Int)
          ·rw[hn] at c81;go_wp2_with fail;go_meet
           case rel=>exact⟨by simp[h8,hn],M8⟩
          ·have bn: (t.1.node.val==(j:Int))=false:=by simpa using hn
           go_wp2_with fail;go_meet
           case rel=>exact⟨by simp[hn],M8⟩
         ·have b8: (t.1.kind.val==8)=false:=by simpa using h8
          go_wp2_with fail;go_meet
          case rel=>exact⟨by simp[h8],M8⟩
        case rest=>
         obtain⟨rfl,M9⟩:=hcut;clear M8 c80 c81;go_upto_if 49 with(fail)
         go_cut [49,50,51,52] from 106 (fun c49 c50 c51 c52 wr=>∃L2:Nat->Int,Hid (BI (lfJ L2 t.1 (j+1)) B' (K+1) s'.2.n s'.2.a)/\Hid (Mem W (fun _=>False) ([(gt,.row (az t.1 t.2)),(gl,.row (ae2 L2)),(gc,.row (bd c))]++ [(g,fA s'.2)]) wr))
         case first=>
          by_cases hq:t.1.kind.val=8/\t.1.node.val=(j:Int)
          ·rw[decide_eq_true hq];have k9:=M9.o.row (i:=1) rfl;have M10:Hid (Mem W (fun _=>False) ([(gt,.row (az t.1 t.2)),(gl,.row (ae2 (afK L1 j))),(gc,.row (bd c))]++ [(g,fA s'.2)]) (wc.setCells gl (j*8) afA.toList)):=M9.o.setRows (i:=1) (k:=j*8) (vs:=afA.toList) (cs':=ae2 (afK L1 j)) rfl (by rw[ae1];show j*8+8<=64;omega) (by rw[Array.toArray_toList];exact agJ _ _ (by omega));have HZ8:#[.int .i64 0,.int .i64 0,.int .i64 0,.int .i64 0,.int .i64 0,.int .i64 0,.int .i64 0,.int .i64 0]=afA:=rfl;go_wp2_with fail;go_meet
           case rel=>exact⟨_,HB2.o.ahl hq.1 hq.2,M10⟩
          ·rw[decide_eq_false hq];go_wp2_with fail;go_meet
           case rel=>exact⟨_,HB2.o.ahm hq,M9⟩
         case rest=>
          obtain⟨L2,HB3,M10⟩:=hcut;clear M9 HB2;obtain⟨x,hx⟩:∃x,s'.2.n[j]? =some x:=⟨_,gE (by rw[HB3.o.n5];exact hlt5)⟩;have HX:=qD hx;have HI:Hid (cw x):=HFI1.o.nd x (jA hx);clear hx;obtain⟨al,hal⟩:∃al,al=dm x.t:=⟨_,rfl⟩;have HAL:=qD hal;obtain⟨F1,hF1⟩:=M10.o.rep (i:=3) rfl;obtain⟨b1,hb1,hr1,hl1⟩:=Pd hF1 HX.o HI.o;rw[<-hal] at hr1 hl1;have HA1:=qD hb1;have HR1:=qD hr1;have hl1i: (al.length:Int)<=64:=by omega
          clear hF1 hb1 hr1 hal;obtain⟨p,hpk,hM⟩:=Tw M10.o;have HPK:=qD hpk;have M11:=qD hM;clear hM hpk M10;go_upto_region 19 with(first|(go_at_call 10;refine HA1.o.mono ?_;rintro r w11 ⟨rfl,hw⟩;subst hw)|(go_at_call 11;refine HR1.o.mono ?_;rintro r w12 ⟨v1,rfl,ho,hb⟩;obtain⟨a1,c1,hv1⟩:=ho.len;subst hv1;have M12:Hid (Mem W (fun _=>False) ([(0,.own 50 10 aJ (.slice a1 al.length c1) al),(gt,.row (az t.1 t.2)),(gl,.row (ae2 L2)),(gc,.row (bd c))]++aG s'.2 p g) w12):=M11.o.ae6 (g:=0) hb ho;clear ho hb)|((with_reducible show wpList _ _ _ (⟨some 57,_,_,_,_,_⟩::_) _ _);refine br _ (.slice a1 al.length c1) w12 rfl (by kernel_rfl) ?_));clear M11 HA1 HR1
          go_loopw [59] (fun i wr=>∃(n:Nat) (L:Nat->Int),n<=al.length/\i= .int .i64 n/\Hid (BI (lfJ L t.1 (j+1)) B' (K+1) s'.2.n s'.2.a)/\Hid (Mem W (fun _=>False) ([(0,.own 50 10 aJ (.slice a1 al.length c1) al),(gt,.row (az t.1 t.2)),(gl,.row (ae2 L)),(gc,.row (bd c))]++aG s'.2 p g) wr)) (fun i _=>al.length-(intOf i).toNat)
          case atStart=>exact⟨0,L2,by omega,rfl,HB3,M12⟩
          case round=>
           obtain⟨n,L3,hn,rfl,HB4,M13⟩:=hrel;clear M12 HB3;by_cases hltn:n<al.length
           ·have hltni: (n:Int)<al.length:=by omega
            obtain⟨y,hy⟩:∃y,al[n]? =some y:=⟨_,gE hltn⟩;obtain⟨q,hq5,hqj,hqn,hql,hqL,z,hz,hqz⟩:=HB4.o.ent HX.o (by rw[<-HAL.o];exact jA hy);obtain⟨g0,cap,cur,hv,_,hg0,hbk,hcur⟩:=(M13.o.own (i:=0) rfl).aI bo (by omega);cases hv;obtain⟨f0,f1⟩:=hcur n y hy;have HQL:=qD hql;have HQN:=qD hqn;have HZ1:=qD hz;have HSEE:Hid (BI (lfJ (afJ L3 (j*8+q) y.boot.val) t.1 (j+1)) B' (K+1) s'.2.n s'.2.a):=HB4.o.see HX.o (by omega) hql;have hz5:=ew;clear hcur hy hql hqn hz;go_upto_region 21 with(fail);have M14:Hid (Mem W (fun _=>False) ([(wr.heap.size,.row (aJ y)),(0,.own 50 10 aJ (.slice (some ⟨g0,0,none⟩) al.length c1) al),(gt,.row (az t.1 t.2)),(gl,.row (ae2 L3)),(gc,.row (bd c))]++aG s'.2 p g) ((wr.alloc (.cells (aJ cr) 50)).setCells wr.heap.size 0 (aJ y).toList)):=(M13.o.alloc (cs:=aJ cr) (t:=50)).bC (i:=0) (cs':=aJ y) rfl (by simp[bo]);generalize ((wr.alloc (.cells (aJ cr) 50)).setCells wr.heap.size 0 (aJ y).toList)=w14 at*;generalize wr.heap.size=gy at*;clear M13 hbk f0 f1 hz5 hg0;have l0:=ab (M14.o.row (i:=0) rfl);have l3:=ab (M14.o.row (i:=3) rfl);have l4:=ab (M14.o.row (i:=4) rfl);have e0:w14.cell? ⟨gy,0,none⟩=some (.int .i64 (q:Int)):=M14.o.cell (i:=0) (k:=0) rfl (by rw[<-HQN.o];rfl);have e1:w14.cell? ⟨gy,1,none⟩=some (.int .i64 y.boot.val):=M14.o.cell (i:=0) (k:=1) rfl rfl;have e4:w14.cell? ⟨gc,0,none⟩=some (.int .i64 5):=M14.o.cell (i:=4) (k:=0) rfl (by rw[<-HC5.o];rfl);have e3:w14.cell? ⟨gl,j*8+q,none⟩=some (.int .i64 (L3 (j*8+q))):=M14.o.cell (i:=3) rfl (afb _ _ (by omega));obtain⟨bz,hbz⟩:∃b,p.ns[q]? =some b:=⟨_,gE (by rw[HPK.o.ns,<-HPK.o.n,HB4.o.n5];exact hq5)⟩;have HN2:Hid (∀w',Below w14.heap.size w14 w'->Calls prog 10 #[.pointer (some ⟨g,0,none⟩),.int .i64 (q:Int)] w' fun e w2=>e= .returned (.pointer (some ⟨bz,0,none⟩))/\w2=w'):=fun w' hb=>by obtain⟨F',hF⟩:=Mem.tail (M14.o.below hb);exact rO s'.2 p g q bz F' w' HPK.o hbz hF
            have HB5:Hid (∀w',Below w14.heap.size w14 w'->Calls prog 12 #[.pointer (some ⟨bz,0,none⟩)] w' fun e w2=>e= .returned (.int .i64 z.boot.val)/\w2=w'):=fun w' hb=>by obtain⟨F',hF⟩:=IH (M14.o.below hb) HZ1.o hbz;exact NJ z bz F' w' hF
            obtain⟨yb,hyb⟩:∃yb,yb=y.boot.val:=⟨_,rfl⟩;have HYB:Hid (y.boot.val=yb):=hyb.symm;rw[<-hyb] at e1 hqL hqz HSEE;clear hyb;generalize z.boot.val=zb at*;generalize L3 (j*8+q)=lv at*;have bq: ((q:Int)==(j:Int))=false:=by simp;omega
            have hq5i: (q:Int)<5:=by omega
            have hj8: (j:Int)<8:=by omega
            have hj0: (0:Int)<=(j:Int):=by omega
            have hq8: (q:Int)<8:=by omega
            have hq0: (0:Int)<=(q:Int):=by omega
            clear HX HI HAL hbz HZ1 HQL HB4 HPK HFI1 HK HC5 HAW HD HIN HTM HM;refine aY ?_
            repeat (first|go_big_quiet_skip|quiet_step (first|(go_at_call 10;exact Calls.regrown_of ((HN2.o _ (below_regrown w14 _ _)).mono (by rintro e w'' ⟨rfl,rfl⟩;exact⟨rfl,bZ _ _⟩)))|(go_at_call 12;exact Calls.regrown_of ((HB5.o _ (below_regrown w14 _ _)).mono (by rintro e w'' ⟨rfl,rfl⟩;exact⟨rfl,bZ _ _⟩)))))
            refine wpQuiet_nil ?_;intro w15 hb15;have M15:=qD (M14.o.below hb15);clear hb15 HN2 HB5 e0 e1 e3 e4 l0 l3 l4 M14;go_upto_region 23 with(fail);have l0:=ab (M15.o.row (i:=0) rfl);have l3:=ab (M15.o.row (i:=3) rfl);have e0:w15.cell? ⟨gy,0,none⟩=some (.int .i64 (q:Int)):=M15.o.cell (i:=0) (k:=0) rfl (by rw[<-HQN.o];rfl);have e1:w15.cell? ⟨gy,1,none⟩=some (.int .i64 yb):=M15.o.cell (i:=0) (k:=1) rfl (by rw[<-HYB.o];rfl);clear HQN HYB;refine ar 7 ?_;simp only[tA,tD,tC,tE]
            repeat (first|go_big_quiet_skip|quiet_step (fail))
            refine wpQuiet_nil ?_;intro w16 hb16;have M16:=qD (M15.o.below hb16);have f16:w16.frozen? ⟨gl,j*8+q,none⟩=false:=ax (M16.o.row (i:=3) rfl) _;have c16:w16.cell? ⟨gl,j*8+q,none⟩=some (.int .i64 (L3 (j*8+q))):=M16.o.cell (i:=3) rfl (afb _ _ (by omega));have M17:=qD (M16.o.bO (i:=3) rfl (agI L3 (j*8+q) yb));clear hb16 e0 e1 l0 l3 M15;go_wp2;go_roundw
            case rel=>exact⟨n+1,afJ L3 (j*8+q) yb,by omega,by go_num,HSEE,M17.o.au⟩
            case measure=>simp[intOf];omega
           ·have hnl:n=al.length:=by omega
            subst hnl;go_wp2_with fail;go_roundw
            case rel=>exact⟨j+1,L3,by omega,by go_num,HB4,Gk HPK.o M13.o.au⟩
            case measure=>simp[intOf];omega
       ·have hj5:j=5:=by omega
        subst hj5;go_wp2_with fail;go_roundw
        case rel=>exact⟨k+1,s'.2,L1,B',K+1,by omega,by go_num,HFI1,⟨by have:=HK.o;omega,HB2.o.rg⟩,M8.o.au⟩
        case measure=>simp[intOf];omega
   ·have hkn:k=l.length:=by omega
    subst hkn;have HAW2:=qD (HAW.o wr M.o.mh.below);go_wp2_with (go_at_call 6;refine Mem.qB HAW2.o M.o fun w5 M2=>?_);go_ret;exact⟨rfl,M2.o.mh.below⟩
end Go.Proofs.Yq
namespace Go.Proofs.YtpbehfbomkochaaGreatDoor
open Yq ChangeShapes WideShapes ChangeAt RowKit Ev
open Go.Proofs.Tryz
theorem afO(os:Os)(H:Type)(enc:TypeId×Value->H):
  ∃(w:World) (tape:Tape) (i:Input),w.os=os/\(w.forCall tape i).Shaped Tryz.checked.prog/\i.vars= []/\Input.okWide Tryz.checked.prog (w.forCall tape i) .any w.heap.size 3 i/\
   ((Rows.topBootSpec.pre enc Tryz.checked.prog Tryz.f3 [] false (w.forCall tape i).memory i.args/\laidMetH prog Rows.topBootRow.laid (w.forCall tape i).memory)/\sizedMet enc Tryz.checked.prog Tryz.f3 (OpenSpec.ofChange Rows.topBootSpec) false (w.forCall tape i).memory i.args)/\({}:Assume).holds Tryz.checked.prog (lone (Frame.enter Tryz.checked.prog 3 i.args .normal) [] (w.forCall tape i)):=
 Ej (C:=Tryz.checked) (X:=fun w _=>laidMetH prog Rows.topBootRow.laid w) (World.laidAll prog os Rows.topBootRow.laid) #[.int .i64 0,.slice none 0 0] 8 (World.laidAll_os _ _ _)
  (World.shaped_of_ZipB (by kernel_rfl) (by kernel_rfl)) (by kernel_rfl) (by kernel_rfl) (by kernel_rfl)
  (by rw[MakeChecks.laidMetH_plain _ _ _ (by kernel_rfl)];exact laidMet_laidAll _ (by kernel_rfl) (by kernel_rfl))
theorem afW(os:Os)(started:os.Started)(H:Type)(enc:TypeId×Value->H):
  ReturnsInHanded {} Tryz.checked os 3 .any (fun w args=>(Rows.topBootSpec.pre enc prog Tryz.f3 [] false w args/\laidMetH prog Rows.topBootRow.laid w)/\sizedMet enc prog Tryz.f3 (OpenSpec.ofChange Rows.topBootSpec) false w args)
   (Rows.topBootSpec.post enc prog Tryz.f3 false true false false):=by
 refine Ei (C:=Tryz.checked) (X:=fun w _=>laidMetH prog Rows.topBootRow.laid w) aef started (by kernel_rfl) func3 (afO os H enc) ?_;intro W base args ds gs before hval0 hW hsh;have hval:∀(j:Nat) t v,Tryz.f3.params[j]? =some t->args[j]? =some v->Value.okWide prog W .any base t v:=hval0;have hW':=hW;obtain⟨p,q,hA0,hV,rfl,hfz,hnd⟩:=hW;have hA:DataW.TrodAll enc prog W 0 (fun _=>true) true Tryz.f3.params.toList args.toList ds p:=hA0;rw[params3] at hA hval;obtain⟨v0,vs0,d0,ds0,p0,q0,hargs,rfl,rfl,h0,r0⟩:=trodAll_cons hA;obtain⟨v1,vs1,d1,ds1,p1,q1,rfl,rfl,rfl,h1,r1⟩:=trodAll_cons r0;obtain⟨rfl,rfl,rfl⟩:=trodAll_nil r1;obtain rfl:args= #[v0,v1]:=by cases args;simp_all
 obtain⟨rfl,rfl⟩:=trodVars_none hV;obtain⟨z,rfl⟩:=okWide_int underlying3 (hval 0 3 v0 rfl rfl);obtain⟨a,n,cp,rfl⟩:=okWide_slice underlying22 (hval 1 22 v1 rfl rfl);have k0:=h0;have k1:=h1;have lt0:∀x∈p0,x.block<W.heap.size:=by obtain⟨m,hm⟩:=k0;exact DataW.trod_lt m _ _ _ hm
 have lt1:∀x∈p1,x.block<W.heap.size:=by obtain⟨m,hm⟩:=k1;exact DataW.trod_lt m _ _ _ hm
 obtain⟨e,rfl⟩:∃e:ae,e.val=z:=by obtain⟨fuel,hf⟩:=h0;obtain⟨t,ht⟩:=da underlying3 hf;exact⟨t,by simpa[Value.cells] using ht.symm⟩
 obtain⟨l,rfl,hin,hd⟩:∃l:List (cU×Sl),n=l.length/\TH W a l/\InD W l:=by obtain⟨fuel,hf⟩:=h1;exact Eh hf
 obtain⟨m,hm⟩:=cell0 hsh;clear hA0 hval0;refine(afN e a cp l m W hm hin hd).mono fun r W' ⟨he,bel⟩=>?_;subst he;exact⟨_,rfl,_,_,_,[],_,[],hW',trodAll_mk1 (shut_bool underlying4 _),(trodAll_cons_mk (Below.trod laidOut (by kernel_rfl) (of_decide_eq_true (by kernel_rfl)) k0 bel lt0) (trodAll_cons_mk (Below.trod laidOut (by kernel_rfl) (of_decide_eq_true (by kernel_rfl)) k1 bel lt1) trodAll_mk0)),rfl,bel.frame _,fun h=>by cases h⟩
theorem afX:joinedFacts prog 3 Tryz.f3 Rows.topBootSpec Rows.topBootRow=true:=KV (P:=prog) (f:=3) (fn:=Tryz.f3) (s:=Rows.topBootSpec) (c:=Rows.topBootRow) agQ agR agS agT agU agV agW agX agY agq agr ags agt agu agv agw agx
theorem af6:Rows.TopBootSaid:=
 OpenClaim.holds_of_wide 3 Tryz.f3 rfl rfl rfl rfl rfl rfl rfl ⟨rfl,rfl,rfl,rfl,rfl⟩ rfl rfl rfl rfl rfl af9 func3 afX age agf
  (fun os started H enc _=>afW os started H enc)
theorem bootCard:Rows.TopBootCardSaid:=
 Claim7.holds_tied_plain_at .later [] [.data,.data,.data,.data,.sentinel,.sentinel,.pinned] true (true, "0be1cf4e26bd9add8b1e2e9a459f5b46557c09359674b2eecf05079668f48b43") true
  af6 (fun _ h=>by cases h) afR (fun _ h=>by cases h) topBoot_row_tie rfl ⟨rfl,rfl⟩ agh rfl
  (fun f fn hf hfn=>by
   obtain rfl:f=3:=Option.some.inj (af9.symm.trans hf) |>.symm;obtain rfl:fn=Tryz.f3:=(Option.some.inj (func3.symm.trans hfn)).symm;exact⟨af0,fun j t ht=>by
    rw[params3] at ht;have hm:t∈[3,22]:=by simpa using Array.mem_of_getElem? ht
    exact(show prog.wantsStandIn t=false by simpa using List.all_eq_true.1 af1 t hm)⟩)
  agi
#print axioms bootCard
end Go.Proofs.YtpbehfbomkochaaGreatDoor
