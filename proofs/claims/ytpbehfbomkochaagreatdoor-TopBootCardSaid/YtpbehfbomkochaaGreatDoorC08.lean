/- A part of the proof. No condition. -/
import Derived.Lib.SliceRun
import Derived.ScopeJumps
import Derived.WalkMore
import Derived.IntWalk
import Derived.Test.YtpbehfbomkochaaGreatDoorC07
set_option maxRecDepth 100000
set_option maxHeartbeats 8000000
set_option linter.all false
namespace Go.Proofs.Yq
open ChangeShapes WideShapes ChangeAt RowKit Ev
open Tryz
noncomputable section
section
section
variable {P:Program} {ops:Array Oper} {rest:List Oper} {o:Oper} {a:Act} {w:World} {Q:Exit->Act->World->Prop}
theorem wpList_room(hgd:o.guard=none)(s x:Operand)(t e:TypeId)(ho:o.op= .call {callee:= .builtin .append,args:=#[s,x],argTypes:=#[t,t]})(ht:P.underlying t=some (.slice e)){z:Value}{m bytes:Nat}(hi: (P.info? e).map (fun i=>(i.zero,i.size,i.bytes))=some (some z,m,bytes))
  {g n cap:Nat} {cur:Array Value} (hs:a.eval s= .slice (some ⟨g,0,none⟩) n cap) (hg:w.heap[g]? =some (.cells cur e (0,0))) (ad:Addr) (k c:Nat) (hx:a.eval x= .slice (some ad) k c) (news:List Value) (hl:news.length=k*m) (hn:∀j u,news[j]? =some u->w.cell? (ad.add j)=some u) (h1:∀u∈news,u.oneCell'=true) (hr:n+k<=cap) (hf:n*m+news.length<=cur.size)
  (hK:wpList P ops Q rest (a.put o.dst (.slice (some ⟨g,0,none⟩) (n+k) cap)) (w.setRow g (cur.toList.take (n*m)++news++cur.toList.drop (n*m+news.length)).toArray)):wpList P ops Q (o::rest) a w:=by
 obtain⟨i,i1,i2,i3,i4⟩:=info_parts hi;subst i3;refine wpList_plain hgd fun K' hK'=>?_;have hr:=run_append_room (P:=P) w t o.type e i ht i1 g n cap cur hg ad k c news hl hn h1 hr hf;unfold Oper.wp execOp;simp only[ho,resolve,invoke,builtin,Sem.run_bind,Sem.run_pure,Result.andThen_ok,List.map_toArray,List.map_cons,List.map_nil,hs,hx,hr];exact hK' _ _ hK
theorem xZ(t e ty:TypeId)(cs:Array Value)(ht:P.underlying t=some (.slice e)){m bytes:Nat}(hi: (P.info? e).map (fun i=>(i.zero,i.size,i.bytes))=some (some (.agg cs),m,bytes))(hz:cs.size=m)(h1:∀u∈cs.toList,u.oneCell'=true)(g o c:Nat)(cur:Array Value)(hg:w.heap[g]? =some (.cells cur e (0,0)))(hf:o+m<=cur.size):
  (Builtin.clear_ #[t] ty #[.slice (some ⟨g,o,none⟩) 1 c]).run P w= .ok (.tuple #[]) (w.setRow g (cur.toList.take o++cs.toList++cur.toList.drop (o+m)).toArray):=by
 obtain⟨i,i1,i2,i3,i4⟩:=info_parts hi;have hst:=run_storeCells_at P g o e cs.toList 0 cur w hg (by simp;omega) h1;have hzc: (Builtin.zeroCells (Value.agg cs).cells 1).toList=cs.toList:=by
  simp only[Builtin.zeroCells,Value.cells];apply List.ext_getElem
  ·simp
  ·intro i h1 h2;simp at h1 h2;simp[nM h2,getElem!_pos cs i h2]
 simp only[Nat.add_zero,Array.length_toList,hz] at hst;simp[Builtin.clear_,run_underlying ht,zeroValue,typeInfo,i1,i2,hzc,hst]
end
theorem J9(v:Value)(l:List (bf×Sl))(i j:Nat)(hj:j=i+1)(w:World)(ho:Own w 0 116 5 cd v l)(hi:i<l.length)(hl:l.length<=1000):
  Calls prog 112 #[v,.int .i64 i,.int .i64 j] w fun e w'=>∃v',e= .returned v'/\Own w' 0 116 5 cd v' (l.eraseIdx i)/\v'.ownBlock=v.ownBlock/\bN (fun x=>v.ownBlock=some x) w w':=by
 obtain⟨g,cap,cur,rfl,hg0,hgh,hcl,hcm,hcs,htk⟩:=ho.at_ (by omega);have HH:=qD hgh;obtain⟨n,hn⟩:∃n,n=l.length:=⟨_,rfl⟩;have n1: (j:Int)<=n:=by omega
 have n2: (i:Int)<=cap:=by omega
 have n3: (n:Int)<=cap:=by omega
 have n4:¬(i:Int)=j:=by omega
 have n5: (i:Int)<=j:=by omega
 have n6: (j:Int)<=cap:=by omega
 have n7:i<=cap:=by omega
 have n8:j<=cap:=by omega
 have HCL:Hid (n<=cap):=by rw[hn];exact hcl
 have HJ:=qD hj;rw[<-hn];obtain⟨k,hk⟩:∃k,k=i+(n-j):=⟨_,rfl⟩;have k1: (k:Int)<=n:=by omega
 have k2:¬cap=k:=by omega
 have k3:n-k=1:=by omega
 have k4: (k:Int)<=cap:=by omega
 have k5:k<=cap:=by omega
 have k6:k<=n:=by omega
 have k7:i+(n-j)=k:=hk.symm;have news:List Value:=(aW cd (l.drop j));have HNL:Hid ((aW cd (l.drop j)).length=(n-j)*5):=by show _=_;rw[cJ dj,List.length_drop,hn]
 have HN1:Hid (∀u∈aW cd (l.drop j),Value.oneCell' u=true):=fun u hu=>by unfold aW at hu;simp only[List.mem_flatten,List.mem_map] at hu;obtain⟨cs,⟨y,_,rfl⟩,hu⟩:=hu;exact sZ y u hu
 have HTK:Hid (cur.toList.take (n*5)=aW cd l):=by rw[hn];exact htk
 have HSZ:Hid (cur.size=cap*5):=hcs;have HCM:Hid (cap<=maxLen):=hcm;have HNC:Hid (∀w':World,w'.heap[g]? =some (.cells cur 116 (0,0))->∀q u,(aW cd (l.drop j))[q]? =some u->w'.cell? ⟨g,j*5+q,none⟩=some u):=fun w' hw q u hu=>by
  have h1:aW cd l=aW cd (l.take j)++aW cd (l.drop j):=by unfold aW;rw[<-List.flatten_append,<-List.map_append,List.take_append_drop]
  have h2: (aW cd (l.take j)).length=j*5:=by rw[cJ dj,List.length_take,Nat.min_eq_left (by omega)]
  have h3: (cur.toList.take (n*5))[j*5+q]? =some u:=by rw[HTK.o,h1,List.getElem?_append_right (by omega),h2,Nat.add_sub_cancel_left];exact hu
  have h4:w'.aI g=some cur:=iL.2 ⟨_,hw⟩;rw[ao h4];rw[List.getElem?_take] at h3;split at h3
  ·rw[Array.getElem?_toList] at h3;exact h3
  ·cases h3
 have HFE:Hid (cur.toList.take (i*5)++aW cd (l.drop j)=aW cd (l.eraseIdx i)):=by
  have h1:aW cd l=aW cd (l.take i)++aW cd (l.drop i):=by unfold aW;rw[<-List.flatten_append,<-List.map_append,List.take_append_drop]
  have h2: (aW cd (l.take i)).length=i*5:=by rw[cJ dj,List.length_take,Nat.min_eq_left (by omega)]
  have h3:cur.toList.take (i*5)=aW cd (l.take i):=by
   have h4:cur.toList.take (i*5)=(cur.toList.take (n*5)).take (i*5):=by rw[List.take_take,Nat.min_eq_left (by omega)]
   rw[h4,HTK.o,h1,<-h2,List.take_left]
  rw[h3,List.eraseIdx_eq_take_drop_succ,hj];unfold aW;rw[<-List.flatten_append,<-List.map_append];rfl
 have HEL:Hid ((l.eraseIdx i).length=k):=by show _=_;rw[List.length_eraseIdx,if_pos (by omega)];omega
 have HKN:Hid (k+1=n):=by show _=_;omega
 have HIN:Hid (i+(n-j)<=cap):=by show _<=_;omega
 have HJN:Hid (n*5<=cap*5/\i*5+(n-j)*5=k*5/\k*5+5=n*5):=⟨by omega,by omega,by omega⟩;clear ho hgh hcs hcm htk hcl hi hl hj hn hk news;go_enter func112,ntmps112;go_upto_region 5 with(fail);refine ar 6 ?_;simp only[tA,tD,tC,tE]
 repeat quiet_step (fail)
 obtain⟨ad,had⟩:∃ad,(if cap=j then some ⟨g,0,none⟩ else some ⟨g,j*5,none⟩:Option Addr)=some ad:=by split <;> exact⟨_,rfl⟩
 rw[had];refine wpQuiet_nil ?_;intro w1 hb1;have HG1:Hid (w1.heap[g]? =some (.cells cur 116 (0,0))):=(hb1.block g (by have:=HH.o;exact(Array.getElem?_eq_some_iff.1 this).1)).trans HH.o;have HNC1:Hid (∀q u,(aW cd (l.drop j))[q]? =some u->w1.cell? (ad.add q)=some u):=fun q u hu=>by
  have hne:¬cap=j:=by intro hcj;have h1:=(gS.1 hu).1;have h2:=HNL.o;have h3:=HCL.o;rw[h2,<-hcj] at h1;omega
  rw[if_neg hne] at had;cases had;rw[Addr.add_lit];exact HNC.o w1 HG1.o q u hu
 have HB1:=qD hb1;clear hb1 HNC had;go_wp2_with (at_builtin;refine wpList_room rfl _ _ 133 116 rfl rN uU rfl HG1.o ad (n-j) _ rfl (aW cd (l.drop j)) HNL.o HNC1.o HN1.o HIN.o (by have h1:=HNL.o;have h2:=HSZ.o;have h3:=HJN.o;omega) ?_);obtain⟨c2,hc2⟩:∃c2,c2=(cur.toList.take (i*5)++(aW cd (l.drop j)++cur.toList.drop (i*5+(aW cd (l.drop j)).length))).toArray:=⟨_,rfl⟩;rw[<-hc2];have HT2:Hid (c2.toList.take (k*5)=aW cd (l.eraseIdx i)):=by
  show _=_;rw[hc2,<-List.append_assoc,HFE.o];have h1: (aW cd (l.eraseIdx i)).length=k*5:=by rw[cJ dj,HEL.o]
  rw[<-h1];exact List.take_left
 have HZ2:Hid (c2.size=cap*5):=by have h1:=HSZ.o;have h2:=HNL.o;have h3:=HJN.o;show _=_;rw[hc2];simp only[List.size_toArray,List.length_append,List.length_take,List.length_drop,Array.length_toList,h1,h2];omega
 have HG2:Hid ((w1.setRow g c2).heap[g]? =some (.cells c2 116 (0,0))):=setRow_heap w1 g cur c2 116 (0,0) HG1.o;have hs2:bN (fun x=>x=g) w1 (w1.setRow g c2):=⟨rfl,rfl,rfl,by simp,fun x hx hn=>setRow_other w1 g x c2 hn⟩;have HC2:Hid (bN (fun x=>x=g) w (w1.setRow g c2)):=(bN.bH HB1.o).trans hs2 (fun x hx=> .inl hx);clear hs2;generalize w1.setRow g c2=w2 at*;have hclr:=xZ (P:=prog) (w:=w2) 133 116 0 (aH bB gO) rN uU (a8 _ _) (sZ (bB,gO)) g (k*5) (cap-k) c2 HG2.o (by have h1:=HZ2.o;have h3:=HJN.o;omega);obtain⟨c3,hc3⟩:∃c3,c3=(c2.toList.take (k*5)++(aH bB gO).toList++c2.toList.drop (k*5+5)).toArray:=⟨_,rfl⟩;rw[<-hc3] at hclr;have HT3:Hid (c3.toList.take (k*5)=aW cd (l.eraseIdx i)):=by
  show _=_;rw[hc3,List.append_assoc,HT2.o];have h1: (aW cd (l.eraseIdx i)).length=k*5:=by rw[cJ dj,HEL.o]
  rw[<-h1];exact List.take_left
 have HZ3:Hid (c3.size=cap*5):=by have h1:=HZ2.o;have h3:=HJN.o;have h4: (aH bB gO).size=5:=a8 _ _;show _=_;rw[hc3];simp only[List.size_toArray,List.length_append,List.length_take,List.length_drop,Array.length_toList,h1,h4];omega
 have HG3:Hid ((w2.setRow g c3).heap[g]? =some (.cells c3 116 (0,0))):=setRow_heap w2 g c2 c3 116 (0,0) HG2.o;have hs3:bN (fun x=>x=g) w2 (w2.setRow g c3):=⟨rfl,rfl,rfl,by simp,fun x hx hn=>setRow_other w2 g x c3 hn⟩;have HC3:Hid (bN (fun x=>x=g) w (w2.setRow g c3)):=HC2.o.trans hs3 (fun x hx=> .inl hx);clear hs3;clear hc2 hc3 HC2 HG2 HT2 HZ2;generalize w2.setRow g c3=w3 at*;rw[hclr];go_wp2_with fail;go_ret;refine⟨_,rfl,⟨?_,.inr ⟨g,cap,c3,?_,Nat.zero_le _,HG3.o,?_,HCM.o,HZ3.o,?_⟩⟩,rfl,?_⟩
 ·rw[cJ dj]
 ·rw[HEL.o];rfl
 ·rw[HEL.o];have:=HCL.o;have:=HKN.o;omega
 ·rw[HEL.o];exact HT3.o
 ·exact HC3.o.mono fun x hx=> .inl (by subst hx;rfl)
end
def eM(s:List bf)(i:Int):List bf:=if (dJ s i).isSome then s.eraseIdx i.toNat else s
theorem Gi{l:List (bf×Sl)}{k:Nat}{p:bf×Sl}{v:Value}{g:Nat}(hp:l[k]? =some p):
  ((g,aj.row #[v]):: (0,.own 116 5 cd v (l.eraseIdx k)):: (l.map fun p=>(0,aj.own 5 1 bj p.2.v p.1.data))).Perm ((0,.own 5 1 bj p.2.v p.1.data)::nK (l.eraseIdx k) v g):=by
 have h1: (p::l.eraseIdx k).Perm l:=by
  obtain⟨hk,rfl⟩:=gS.1 hp;rw[List.eraseIdx_eq_take_drop_succ];have h2:l.take k++l[k]::l.drop (k+1)=l:=by rw[<-List.drop_eq_getElem_cons hk,List.take_append_drop]
  exact List.perm_middle.symm.trans (by rw[h2])
 have h2:=(h1.map fun p=>((0:Nat),aj.own 5 1 bj p.2.v p.1.data)).symm;refine((h2.cons _).cons _).trans ?_;unfold nK;rw[List.map_cons];exact((List.Perm.swap _ _ _).cons _).trans (List.Perm.swap _ _ _)
theorem Mem.del{w0 w w':World}{F0:Nat->Prop}{L:List (Nat×aj)}{j:Nat}{v v':Value}{l l':List (bf×Sl)}(h:Mem w0 F0 L w)(hj:L[j]? =some (0,.own 116 5 cd v l))(ho:Own w' 0 116 5 cd v' l')(hv:v'.ownBlock=v.ownBlock)(hc:bN (fun x=>v.ownBlock=some x) w w'):Mem w0 F0 (L.set j (0,.own 116 5 cd v' l')) w':=
 h.qS hj fun F1 hF=>⟨F1,⟨fun x=>by rw[hv];exact hF.1 x,ho⟩,fun x hx=> .inl hx,hc.mono fun y hy=> .inl ((hF.1 y).2 hy)⟩
theorem DG(s:List bf)(g:Nat)(F:Nat->Prop)(w:World)(i:ae)(h: (gJ s).rep g F w)(hd:∀m∈s,m.data.length<=1000000)(hs:s.length<=1000):Calls prog 54 #[.pointer (some ⟨g,0,none⟩),.int .i64 i.val] w fun e w'=>
  (∃r,e= .returned r)/\∃F',(gJ (eM s i.val)).rep g F' w'/\(∀x,F' x->F x∨w.heap.size<=x)/\bN F w w':=by
 have HGET:Hid (∀w,(gJ s).rep g F w->_):=(fun w h=>uR s g F w i h hd);have hz:=jt;have hb:∀w,(Instr.build 116 #[]).run prog w= .ok (.agg (aH bB gO)) w:=fun w=>by kernel_rfl
 have B0:Hid (Below w.heap.size w (w.alloc (.cells (aH bB gO) 116))):=(bZ _ w).alloc (nL _) _;have HR0:Hid ((gJ s).rep g F (w.alloc (.cells (aH bB gO) 116))):=(gJ s).loc _ _ _ _ h fun x hx=>B0.o.block x ((gJ s).lt _ _ _ h x hx);have HL:=qD hs;obtain⟨va,l,rfl,h⟩:=h;have M0:Hid (Mem w F ((w.heap.size,.row (aH bB gO))::nK l va g) (w.alloc (.cells (aH bB gO) 116))):=(Mem.start h).alloc;clear h hs;cases hq: (dJ (l.map (·.1)) i.val) with
 |none=>
  rw[hq] at HGET;unfold eM;rw[hq];clear hq;go_enter func54,ntmps54;go_upto_region 4 with(go_at_call 53;refine(HGET.o _ HR0.o).mono ?_;rintro e w1 ⟨v,rfl,ho,hb1⟩;have M1:=qD (M0.o.below hb1);clear hb1 ho);have M2:Hid (Mem w F ((w1.heap.size,.row (aH bB v)):: (w.heap.size,.row (aH bB gO))::nK l va g) ((w1.alloc (.cells (aH bB gO) 116)).setCells w1.heap.size 0 (aH bB v).toList)):=M1.o.alloc.setRows (i:=0) rfl (by simp[a8]) (by rw[Array.toArray_toList,fT (by simp[a8])]);generalize ((w1.alloc (.cells (aH bB gO) 116)).setCells w1.heap.size 0 (aH bB v).toList)=w2 at*;have e0:=M2.o.row (i:=0) rfl;have e1:=M2.o.row (i:=1) rfl;clear M1 M0
  repeat (first|go_values|go_skip|go_guarded|go_step|go_upon)
  refine bodyPost_ret (aA (fn:=Tryz.f54) rfl rfl (zy (putRow (cs0:=aH bB gO) e1 (by simp[a8])) (a8 _ _))) rfl ⟨⟨_,rfl⟩,?_⟩;have M3:=(M2.o.bC (i:=1) (cs':=aH bB v) rfl (by simp[a8])).au.au;obtain⟨F',h1,h2,h3⟩:=M3;exact⟨F',⟨va,l,rfl,h1⟩,h2,h3⟩
 |some m=>
  have hq2:=hq;unfold dJ at hq2;split at hq2
  case isFalse=>cases hq2
  rename_i h0;obtain⟨k,hk⟩:∃k:Nat,i.val=k:=⟨i.val.toNat,by omega⟩;rw[hk,Int.toNat_natCast,List.getElem?_map] at hq2;obtain⟨p,hp,hpm⟩:=Option.map_eq_some_iff.1 hq2;have hkl:=(gS.1 hp).1;rw[hq] at HGET;have HT:Hid (eM (l.map (·.1)) i.val=(l.eraseIdx k).map (·.1)):=by show _=_;unfold eM;rw[hq,hk,Int.toNat_natCast];simp[List.eraseIdx_eq_take_drop_succ,List.map_take,List.map_drop]
  rw[hk] at HGET HT ⊢;have HDEL:Hid (∀w',Own w' 0 116 5 cd va l->Calls prog 112 #[va,.int .i64 k,.int .i64 ((k:Int)+1)] w' fun e w''=>∃v',e= .returned v'/\Own w'' 0 116 5 cd v' (l.eraseIdx k)/\v'.ownBlock=va.ownBlock/\bN (fun x=>va.ownBlock=some x) w' w''):=fun w' ho=>by have:=J9 va l k (k+1) rfl w' ho hkl (by have:=HL.o;simpa using this);simpa using this
  have HP:=qD hp;have k1: (k:Int)<=1000:=by have:=HL.o;simp at this;omega
  clear hq hq2 h0 hp hkl hpm hk hd;go_enter func54,ntmps54;go_upto_region 3 with(go_at_call 53;refine(HGET.o _ HR0.o).mono ?_;rintro e w1 ⟨v,rfl,ho,hb1⟩;have M1:=qD (M0.o.below hb1);clear hb1 ho);have M2:Hid (Mem w F ((w1.heap.size,.row (aH m v)):: (w.heap.size,.row (aH bB gO))::nK l va g) ((w1.alloc (.cells (aH bB gO) 116)).setCells w1.heap.size 0 (aH m v).toList)):=M1.o.alloc.setRows (i:=0) rfl (by simp[a8]) (by rw[Array.toArray_toList,fT (by simp[a8])]);generalize ((w1.alloc (.cells (aH bB gO) 116)).setCells w1.heap.size 0 (aH m v).toList)=w2 at*;have c2:=M2.o.cell (i:=2) (k:=0) rfl rfl;obtain⟨a2,cc2,hva⟩:=(M2.o.own (i:=3) rfl).len;subst hva;clear M1 M0;go_upto_region 4 with(go_at_call 112;refine(HDEL.o _ (M2.o.own (i:=3) rfl)).mono ?_;rintro e w3 ⟨v3,rfl,ho3,hv3,hc3⟩;have M3:=qD (Mem.del M2.o (j:=3) rfl ho3 hv3 hc3);obtain⟨a3,cc3,hva⟩:=ho3.len;subst hva;have z3:=ax (M3.o.row (i:=2) rfl) 0;have c3:=M3.o.cell (i:=2) (k:=0) rfl rfl;clear c2 M2 ho3 hv3 hc3);have M4:Hid (Mem w F ((w1.heap.size,.row (aH m v)):: (w.heap.size,.row (aH bB gO)):: (g,.row #[.slice a3 (l.eraseIdx k).length cc3]):: (0,.own 116 5 cd (.slice a3 (l.eraseIdx k).length cc3) (l.eraseIdx k)):: (l.map fun p=>(0,aj.own 5 1 bj p.2.v p.1.data))) (w3.setCell ⟨g,0,none⟩ (.slice a3 (l.eraseIdx k).length cc3))):=M3.o.bO (i:=2) (k:=0) rfl rfl;generalize (w3.setCell ⟨g,0,none⟩ (.slice a3 (l.eraseIdx k).length cc3))=w4 at*;have e0:=M4.o.row (i:=0) rfl;have e1:=M4.o.row (i:=1) rfl;clear M3 z3 c3
  repeat (first|go_values|go_skip|go_guarded|go_step|go_upon)
  refine bodyPost_ret (aA (fn:=Tryz.f54) rfl rfl (zy (putRow (cs0:=aH bB gO) e1 (by simp[a8])) (a8 _ _))) rfl ⟨⟨_,rfl⟩,?_⟩;have M5:=(M4.o.bC (i:=1) (cs':=aH m v) rfl (by simp[a8])).au.au;obtain⟨F',h1,h2,h3⟩:=(M5.perm (Gi HP.o)).au;rw[HT.o];exact⟨F',⟨_,l.eraseIdx k,rfl,h1⟩,h2,h3⟩
def DH(s:List bf)(i:Int):Bool:=match dJ s i with
 |some m=>ig s m
 |none=>false
def ya(s:List bf)(i:Int):List bf:=match dJ s i with
 |some m=>kH s m
 |none=>s
theorem Gj(s:List bf)(g:Nat)(F:Nat->Prop)(w:World)(i:ae)(h: (gJ s).rep g F w)(hd:∀m∈s,m.data.length<=1000000):Calls prog 57 #[.pointer (some ⟨g,0,none⟩),.int .i64 i.val] w fun e w'=>e= .returned (.bool (DH s i.val))/\kE (gJ (ya s i.val)) g F w w':=by
 have HGET:=qD (uR s g F w i h hd);have HM:Hid (∀m,dJ s i.val=some m->m.data.length<=1000000):=fun m hm=>by
  unfold dJ at hm;split at hm
  ·exact hd m (List.mem_of_getElem? hm)
  ·cases hm
 have HR:=qD h;have hz:=jt;unfold DH ya;clear h hd;cases hq:dJ s i.val with
 |none=>
  rw[hq] at HGET;clear hq HM;go_enter func57,ntmps57;go_wp2_with (go_at_call 53;refine HGET.o.mono ?_;rintro e w1 ⟨v,rfl,ho,hb1⟩;have B1:=qD hb1;clear hb1 ho);go_ret;have B2:=aa (B1.o.alloc B1.o.size (.cells (aH bB gO) 116)) B1.o.size 0 (aH bB v).toList;exact⟨rfl,F,(gJ s).loc _ _ _ _ HR.o fun x hx=>B2.block x ((gJ s).lt _ _ _ HR.o x hx),fun x hx=> .inl hx,bN.bH B2⟩
 |some m=>
  rw[hq] at HGET;have HL:Hid (m.data.length<=1000000):=HM.o m hq;clear hq HM;go_enter func57,ntmps57;go_upto_region 2 with(go_at_call 53;refine HGET.o.mono ?_;rintro e w1 ⟨v,rfl,ho,hb1⟩;have B1:=qD hb1;have O1:=qD ho;clear hb1 ho);have B2:Hid (Below w.heap.size w ((w1.alloc (.cells (aH bB gO) 116)).setCells w1.heap.size 0 (aH m v).toList)):=aa (B1.o.alloc B1.o.size (.cells (aH bB gO) 116)) B1.o.size 0 (aH m v).toList;have O2:Hid (Own ((w1.alloc (.cells (aH bB gO) 116)).setCells w1.heap.size 0 (aH m v).toList) 0 5 1 bj v.v m.data):=(O1.o.mono (Nat.zero_le _)).grown (aa ((bZ _ w1).alloc (nL _) _) (nL _) _ _);have e2: ((w1.alloc (.cells (aH bB gO) 116)).setCells w1.heap.size 0 (aH m v).toList).aI w1.heap.size=some (aH m v):=putRow (cs0:=aH bB gO) (by simp[af,aq]) (by simp[a8]);generalize ((w1.alloc (.cells (aH bB gO) 116)).setCells w1.heap.size 0 (aH m v).toList)=w2 at*;have HR2:Hid ((gJ s).rep g F w2):=(gJ s).loc _ _ _ _ HR.o fun x hx=>B2.o.block x ((gJ s).lt _ _ _ HR.o x hx);have HP:Hid (Calls prog 100 #[.pointer (some ⟨g,0,none⟩),.agg (aH m v)] w2 fun e w'=>e= .returned (.bool (ig s m))/\kE (gJ (kH s m)) g F w2 w'):=Iu s g F w2 m v HR2.o O2.o HL.o;clear hz;show Code.wp _ _ _ _ _;go_wp2_with (go_at_call 100;refine qHG HP.o fun w3 U3=>?_);go_ret;obtain⟨F',h1,h2,h3⟩:=U3.o;exact⟨rfl,F',h1,fun x hx=>(h2 x hx).imp id (fun h=>nT B2.o.size h),(bN.bH (S:=F) B2.o).trans h3 (fun _ h=> .inl h)⟩
def zO(m:bf)(x:Nat)(b:UInt8):bf:={m with data:=m.data.set x (m.data.getD x 0^^^b),bent:=true}
def oW(s:List bf)(i x:Int)(b:UInt8):Int:=match dJ s i with
 |none=>7
 |some m=>if m.bent then 10 else if x<0∨(m.data.length:Int)<=x∨b=0 then 1 else 0
def xv(s:List bf)(i x:Int)(b:UInt8):List bf:=match dJ s i with
 |none=>s
 |some m=>if oW s i x b=0 then s.set i.toNat (zO m x.toNat b) else s
theorem DI{l:List (bf×Sl)}{v:Value}{g k:Nat}{p:bf×Sl}(h:l[k]? =some p): (nK l v g)[k+2]? =some (0,.own 5 1 bj p.2.v p.1.data):=by simp[nK,h]
theorem Ka{l:List (bf×Sl)}{v:Value}{g k:Nat}{m:bf}{t:Sl}(h:l[k]? =some (m,t))(m':bf): ((nK l v g).set (k+2) (0,.own 5 1 bj t.v m'.data)).set 1 (0,.own 116 5 cd v (l.set k (m',t)))=nK (l.set k (m',t)) v g:=by simp[nK,List.map_set]
theorem Oe(s:List bf)(g:Nat)(F:Nat->Prop)(w:World)(i x:ae)(b:UInt8)(h: (gJ s).rep g F w)(hs:s.length<=1000)(hd:∀m∈s,m.data.length<=1000000):Calls prog 56 #[.pointer (some ⟨g,0,none⟩),.int .i64 i.val,.int .i64 x.val,.int .u8 b.toNat] w fun e w'=>e= .returned (.int .i64 (oW s i.val x.val b))/\kE (gJ (xv s i.val x.val b)) g F w w':=by
 have HR:Hid (kE (gJ s) g F w w):=⟨F,h,fun x hx=> .inl hx,bN.refl F w⟩;obtain⟨va,l,rfl,h⟩:=h;have M0:Hid (Mem w F (nK l va g) w):=Mem.start h;obtain⟨a0,vc,rfl⟩:=(M0.o.own (i:=1) rfl).len;have c0:w.cell? ⟨g,0,none⟩=some (.slice a0 l.length vc):=M0.o.cell (i:=0) (k:=0) rfl rfl;rw[List.length_map] at hs;unfold xv;by_cases h0:i.val<0
 ·have hg:dJ (l.map (·.1)) i.val=none:=by unfold dJ;rw[if_neg (by omega)]
  have hb:oW (l.map (·.1)) i.val x.val b=7:=by unfold oW;rw[hg]
  rw[hg,hb];clear hg hb h hd;go_enter func56,ntmps56;go_wp2;go_ret;exact⟨rfl,HR.o⟩
 by_cases h1: (l.length:Int)<=i.val
 ·have hg:dJ (l.map (·.1)) i.val=none:=by unfold dJ;rw[if_pos (by omega),nE (by rw[List.length_map];omega)]
  have hb:oW (l.map (·.1)) i.val x.val b=7:=by unfold oW;rw[hg]
  rw[hg,hb];have n0:0<=i.val:=by omega
  clear hg hb h hd h0;go_enter func56,ntmps56;go_wp2;go_ret;exact⟨rfl,HR.o⟩
 obtain⟨k,hk⟩:∃k:Nat,i.val=k:=⟨i.val.toNat,by omega⟩;rw[hk] at h0 h1 ⊢;have hkl:k<l.length:=by omega
 obtain⟨⟨m,t⟩,hp⟩:∃p,l[k]? =some p:=⟨_,gE hkl⟩;have hg:dJ (l.map (·.1)) k=some m:=by unfold dJ;rw[if_pos (by omega),Int.toNat_natCast,List.getElem?_map,hp];rfl
 have hml:m.data.length<=1000000:=hd m (List.mem_of_getElem? (by rw[List.getElem?_map,hp];rfl));obtain⟨g0,cap,cur,hv,h2,hg0,hbk,hcur⟩:=(M0.o.own (i:=1) rfl).aI dj (by omega);cases hv;have q4:w.cell? ⟨g0,k*5+4,none⟩=some (.bool m.bent):=(M0.o.own (i:=1) rfl).cell dj hp (j:=4) (by decide);have hBE:oW (l.map (·.1)) k x.val b=if m.bent then 10 else if x.val<0∨(m.data.length:Int)<=x.val∨b=0 then 1 else 0:=by unfold oW;rw[hg]
 rw[hg,hBE];clear hcur hd h hbk h0 h1 hk h2 hg hBE;have HKL:=qD hkl;cases hbt:m.bent with
 |true=>
  rw[hbt] at q4;clear hbt hp;go_enter func56,ntmps56;go_wp2;go_ret;exact⟨rfl,HR.o⟩
 |false=>
  rw[hbt] at q4;have OD:Hid (Own w 0 5 1 bj t.v m.data):=M0.o.own (DI hp);obtain⟨ta,tc,htv⟩:=OD.o.len;have q1:w.cell? ⟨g0,k*5+1,none⟩=some t.v:=(M0.o.own (i:=1) rfl).cell dj hp (j:=1) (by decide);rw[htv] at q1;by_cases x0:x.val<0
  ·have hc: (x.val<0∨(m.data.length:Int)<=x.val∨b=0):= .inl x0;simp only[Bool.false_eq_true,if_false,if_pos hc];clear hc hp hbt htv;go_enter func56,ntmps56;go_wp2;go_ret;exact⟨rfl,HR.o⟩
  by_cases x1: (m.data.length:Int)<=x.val
  ·have hc: (x.val<0∨(m.data.length:Int)<=x.val∨b=0):= .inr (.inl x1);simp only[Bool.false_eq_true,if_false,if_pos hc];have n0:0<=x.val:=by omega
   clear hc hp hbt htv x0;go_enter func56,ntmps56;go_wp2;go_ret;exact⟨rfl,HR.o⟩
  by_cases hb0:b=0
  ·have hc: (x.val<0∨(m.data.length:Int)<=x.val∨b=0):= .inr (.inr hb0);simp only[Bool.false_eq_true,if_false,if_pos hc];subst hb0;clear hc hp hbt htv;show Calls prog 56 #[.pointer (some ⟨g,0,none⟩),.int .i64 k,.int .i64 x.val,.int .u8 0] w _;go_enter func56,ntmps56;go_wp2;go_ret;exact⟨rfl,HR.o⟩
  ·have hc:¬(x.val<0∨(m.data.length:Int)<=x.val∨b=0):=by
    rintro(h|h|h)
    ·exact x0 h
    ·exact x1 h
    ·exact hb0 h
   simp only[Bool.false_eq_true,if_false,if_neg hc];have bb: ((b.toNat:Int)==0)=false:=by
    cases hq: ((b.toNat:Int)==0)
    ·rfl
    ·have:=eq_of_beq hq;exact absurd (UInt8.toNat_inj.1 (by simpa using this)) hb0
   obtain⟨j,hj⟩:∃j:Nat,x.val=j:=⟨x.val.toNat,by omega⟩;rw[hj] at x0 x1 ⊢;have hjl:j<m.data.length:=by omega
   obtain⟨y,hy⟩:∃y,m.data[j]? =some y:=⟨_,gE hjl⟩;have hyd:m.data.getD j 0=y:=by rw[List.getD_eq_getElem?_getD,hy];rfl
   obtain⟨gd,dcap,dcur,hv,_,hgd,hdb,_⟩:=OD.o.aI fy (by omega);have y0:=OD.o;rw[hv] at y0;have y1:=y0.cell fy hy (j:=0) (by decide);rw[Nat.mul_one,Nat.add_zero] at y1;have y2:w.cell? ⟨gd,j,none⟩=some (.int .u8 y.toNat):=y1;have yz:=ax hdb j;rw[htv] at hv;cases hv;have HP:=qD hp;have HYD:=qD hyd;have HTV:=qD htv;have HJ:=qD hjl;clear hc hp hyd y0 y1 hy hdb hbt hb0 htv;go_enter func56,ntmps56;go_upto_region 10 with(fail);have hx:bits .xor .u8 (y.toNat:Int) (b.toNat:Int)=((y^^^b).toNat:Int):=by rw[u8_xor_nat _ _ y.toNat_lt b.toNat_lt,UInt8.toNat_xor]
   rw[hx];have D0:=M0.o;have M1:Hid (Mem w F ((nK l (.slice (some ⟨g0,0,none⟩) l.length vc) g).set (k+2) (0,.own 5 1 bj t.v (zO m j b).data)) (w.setCell ⟨gd,j,none⟩ (.int .u8 (y^^^b).toNat))):=by have hget:=DI (g:=g) (v:= .slice (some ⟨g0,0,none⟩) l.length vc) HP.o;rw[HTV.o] at hget ⊢;have:=D0.rG (i:=k+2) (gg:=0) (k:=j) (j:=0) (v:= .int .u8 (y^^^b).toNat) (x:=y) (y:=y^^^b) hget rfl fy (by rw[gE HJ.o,<-HYD.o];simp[List.getD_eq_getElem?_getD,HJ.o]) (by decide) rfl;rw[Nat.mul_one,Nat.add_zero] at this;unfold zO;rw[HYD.o];exact this
   clear M0 D0 hx q1 q4 c0 y2 yz OD;generalize w.setCell ⟨gd,j,none⟩ (.int .u8 (y^^^b).toNat)=w1 at*;have M1':=M1.o;have e1: ((nK l (.slice (some ⟨g0,0,none⟩) l.length vc) g).set (k+2) (0,.own 5 1 bj t.v (zO m j b).data))[1]? =some (0,.own 116 5 cd (.slice (some ⟨g0,0,none⟩) l.length vc) l):=rfl;have c0:w1.cell? ⟨g,0,none⟩=some (.slice (some ⟨g0,0,none⟩) l.length vc):=M1'.cell (i:=0) (k:=0) rfl rfl;have q4:w1.cell? ⟨g0,k*5+4,none⟩=some (.bool m.bent):=(M1'.own e1).cell dj HP.o (j:=4) (by decide);obtain⟨_,_,cur2,hv,_,_,hb2,_⟩:=(M1'.own e1).aI dj (by have:=HKL.o;omega);cases hv;have z4:=ax hb2 (k*5+4);have M2:Hid (Mem w F (nK (l.set k (zO m j b,t)) (.slice (some ⟨g0,0,none⟩) l.length vc) g) (w1.setCell ⟨g0,k*5+4,none⟩ (.bool true))):=by have:=M1'.rG (i:=1) (gg:=0) (k:=k) (j:=4) (v:= .bool true) (x:=(m,t)) (y:=(zO m j b,t)) e1 rfl dj HP.o (by decide) rfl;rw[Ka HP.o] at this;exact this
   clear M1 M1' e1 hb2;go_wp2;go_ret;refine⟨rfl,?_⟩;exact M2.o.kF fun F' hF=>⟨_,_,by rw[List.map_set],hF⟩
section
structure aF where
 w:cZ
 a:List bf
 c:cT
 n:List ak
 on:List Bool
 lost:ae
structure bM where
 gw:Nat
 ga:Nat
 gn:Nat
 cn:Nat
 gb:Nat
 cb:Nat
 k:Nat
 ns:List Nat
def mr(n:Nat):Array Value:=#[tf n]
theorem jy(x:Nat): (mr x).size=1:=rfl
theorem xw(x:Nat):∀u∈(mr x).toList,u.oneCell'=true:=by intro u hu;simp[mr] at hu;subst hu;rfl
def tp(s:aF)(gw ga:Nat)(vn vb:Value):Array Value:=#[tf gw,tf ga,.int .i64 s.c.1.val,.int .i64 s.c.2.1.val,.int .i64 s.c.2.2.1.val,.int .i64 s.c.2.2.2.1.val,.int .i64 s.c.2.2.2.2.1.val,.int .i64 s.c.2.2.2.2.2.1.val,.int .i64 s.c.2.2.2.2.2.2.1.val,.int .i64 s.c.2.2.2.2.2.2.2.1.val,.int .i64 s.c.2.2.2.2.2.2.2.2.1.val,.int .i64 s.c.2.2.2.2.2.2.2.2.2.1.val,.int .i64 s.c.2.2.2.2.2.2.2.2.2.2.1.val,vn,vb,.int .i64 s.lost.val]
def xx(s:aF)(p:bM):Array Value:=tp s p.gw p.ga (.slice (some ⟨p.gn,0,none⟩) p.k p.cn) (.slice (some ⟨p.gb,0,none⟩) p.k p.cb)
def aG(s:aF)(p:bM)(g:Nat):List (Nat×aj):=(g,.row (xx s p)):: (p.gw,kD s.w):: (p.ga,gJ s.a):: (0,.own 46 1 mr (.slice (some ⟨p.gn,0,none⟩) p.k p.cn) p.ns):: (0,.own 4 1 jj (.slice (some ⟨p.gb,0,none⟩) p.k p.cb) s.on):: (s.n.zip p.ns).map fun q=>(q.2,aO q.1)
structure aS (s:aF) (p:bM):Prop where
 ns:p.ns.length=p.k
 n:s.n.length=p.k
 on:s.on.length=p.k
 lo:1<=p.k
 hi:p.k<=64
def fA(s:aF):aj:=⟨fun g F w=>∃p,aS s p/\Sep w (aG s p g) F,fun g F w ⟨p,_,h⟩ x hx=>h.lt x hx,fun g F w w' ⟨p,h0,h⟩ e=>⟨p,h0,h.loc e⟩⟩
section
variable {w0 w:World} {F0:Nat->Prop} {L:List (Nat×aj)} {s:aF} {p:bM} {g i:Nat}
theorem uo(h:Mem w0 F0 L w)(hi:L[i]? =some (g,.row (xx s p))):w.cell? ⟨g,0,none⟩=some (.pointer (some ⟨p.gw,0,none⟩)):=h.cell hi rfl
theorem Tv(h:Mem w0 F0 L w)(hi:L[i]? =some (g,.row (xx s p))):w.cell? ⟨g,1,none⟩=some (.pointer (some ⟨p.ga,0,none⟩)):=h.cell hi rfl
theorem tq(h:Mem w0 F0 L w)(hi:L[i]? =some (g,.row (xx s p))):w.cell? ⟨g,13,none⟩=some (.slice (some ⟨p.gn,0,none⟩) p.k p.cn):=h.cell hi rfl
theorem afz(h:Mem w0 F0 L w)(hi:L[i]? =some (g,.row (xx s p))):w.cell? ⟨g,14,none⟩=some (.slice (some ⟨p.gb,0,none⟩) p.k p.cb):=h.cell hi rfl
theorem adT(h:Mem w0 F0 L w)(hi:L[i]? =some (g,.row (xx s p))):w.cell? ⟨g,15,none⟩=some (.int .i64 s.lost.val):=h.cell hi rfl
theorem xy{α:Type}{c:α->Array Value}{e:TypeId}{gn k cn j b:Nat}{l:List α}{x:α}(h:Mem w0 F0 L w)(hi:L[i]? =some (b,.own e 1 c (.slice (some ⟨gn,0,none⟩) k cn) l))(hc:∀x,(c x).size=1)(hx:l[j]? =some x):w.cell? ⟨gn,j,none⟩=(c x)[0]?:=by have h1:=(h.own hi).cell hc hx (j:=0) (by decide);rw[Nat.mul_one,Nat.add_zero] at h1;exact h1
theorem nc{gn k cn j b x:Nat}{l:List Nat}(h:Mem w0 F0 L w)(hi:L[i]? =some (b,.own 46 1 mr (.slice (some ⟨gn,0,none⟩) k cn) l))(hx:l[j]? =some x):w.cell? ⟨gn,j,none⟩=some (.pointer (some ⟨x,0,none⟩)):=xy h hi jy hx
theorem lX{gn k cn j b:Nat}{x:Bool}{l:List Bool}(h:Mem w0 F0 L w)(hi:L[i]? =some (b,.own 4 1 jj (.slice (some ⟨gn,0,none⟩) k cn) l))(hx:l[j]? =some x):w.cell? ⟨gn,j,none⟩=some (.bool x):=xy h hi cK hx
end
theorem nN{A:List (Nat×aj)}{s:aF}{p:bM}{g j b:Nat}{x:ak}(hx:s.n[j]? =some x)(hb:p.ns[j]? =some b): (A++aG s p g)[A.length+(j+5)]? =some (b,aO x):=by
 rw[List.getElem?_append_right (by omega),Nat.add_sub_cancel_left];have hz: (s.n.zip p.ns)[j]? =some (x,b):=by rw[List.getElem?_zip_eq_some];exact⟨hx,hb⟩
 show((s.n.zip p.ns).map _)[j]? =_;rw[List.getElem?_map,hz];rfl
theorem oX{A:List (Nat×aj)}{s:aF}{p:bM}{g j b:Nat}{y:ak}(hb:p.ns[j]? =some b): (A++aG s p g).set (A.length+(j+5)) (b,aO y)=A++aG {s with n:=s.n.set j y} p g:=by rw[List.set_append_right _ _ (by omega),Nat.add_sub_cancel_left];congr 1;show _::_::_::_::_:: ((s.n.zip p.ns).map _).set j _=_::_::_::_::_:: (((s.n.set j y).zip p.ns).map _);rw[<-Bj (y:=y) hb,List.map_set];rfl
theorem aS.put{s:aF}{p:bM}{j:Nat}{y:ak}(h:aS s p):aS {s with n:=s.n.set j y} p:=⟨h.ns,by rw[List.length_set];exact h.n,h.on,h.lo,h.hi⟩
theorem Tw{A:List (Nat×aj)}{s:aF}{g:Nat}{F0:Nat->Prop}{w0 w:World}(h:Mem w0 F0 (A++ [(g,fA s)]) w):∃p,aS s p/\Mem w0 F0 (A++aG s p g) w:=by obtain⟨F1,⟨p,h0,hv⟩,h2⟩:=Mem.unfold h;exact⟨p,h0,h2 _ hv⟩
theorem Gk{A:List (Nat×aj)}{s:aF}{p:bM}{g:Nat}{F0:Nat->Prop}{w0 w:World}(hk:aS s p)(h:Mem w0 F0 (A++aG s p g) w):Mem w0 F0 (A++ [(g,fA s)]) w:=
 Mem.fold h (p:=(g,fA s)) fun F hF=>⟨p,hk,hF⟩
def yc(s:aF)(i:Int):Bool:=decide (0<=i)&&decide (i<s.n.length)
theorem lY(s:aF)(p:bM)(g:Nat)(i:Int)(F:Nat->Prop)(w:World)(hk:aS s p)(h:Sep w (aG s p g) F):Calls prog 25 #[.pointer (some ⟨g,0,none⟩),.int .i64 i] w fun e w'=>e= .returned (.bool (yc s i))/\w'=w:=by
 have H:=qD (Mem.start h);have c13:=tq H.o (i:=0) rfl;unfold yc;rw[hk.n];clear h;by_cases h0:0<=i
 ·have d0:decide (0<=i)=true:=by simpa using h0
  rw[d0];go_enter func25,ntmps25;go_wp2;go_ret;exact⟨rfl,rfl⟩
 ·have d0:decide (0<=i)=false:=by simpa using h0
  rw[d0];go_enter func25,ntmps25;go_wp2;go_ret;exact⟨rfl,rfl⟩
theorem oY{s:aF}{j:Nat}(h:j<s.n.length):yc s (j:Int)=true:=by unfold yc;simp;omega
theorem rO(s:aF)(p:bM)(g j b:Nat)(F:Nat->Prop)(w:World)(hk:aS s p)(hb:p.ns[j]? =some b)(h:Sep w (aG s p g) F):Calls prog 10 #[.pointer (some ⟨g,0,none⟩),.int .i64 (j:Int)] w fun e w'=>e= .returned (.pointer (some ⟨b,0,none⟩))/\w'=w:=by
 have H:=qD (Mem.start h);have c13:=tq H.o (i:=0) rfl;have cb:=nc H.o (i:=3) rfl hb;have hj:j<p.k:=by rw[<-hk.ns];exact(gS.1 hb).1
 have HH:Hid (Calls prog 25 #[.pointer (some ⟨g,0,none⟩),.int .i64 (j:Int)] w fun e w'=>e= .returned (.bool true)/\w'=w):=by have:=lY s p g j F w hk h;rw[oY (by rw[hk.n];exact hj)] at this;exact this
 clear h hb;go_enter func10,ntmps10;go_wp2_with (go_at_call 25;refine HH.o.mono ?_;rintro r w1 ⟨rfl,rfl⟩);go_ret;exact⟨rfl,rfl⟩
theorem Xs(s:aF)(p:bM)(g j:Nat)(b:Bool)(F:Nat->Prop)(w:World)(hk:aS s p)(hb:s.on[j]? =some b)(h:Sep w (aG s p g) F):Calls prog 124 #[.pointer (some ⟨g,0,none⟩),.int .i64 (j:Int)] w fun e w'=>e= .returned (.bool b)/\w'=w:=by
 have H:=qD (Mem.start h);have c14:=afz H.o (i:=0) rfl;have cb:=lX H.o (i:=4) rfl hb;have hj:j<p.k:=by rw[<-hk.on];exact(gS.1 hb).1
 have HH:Hid (Calls prog 25 #[.pointer (some ⟨g,0,none⟩),.int .i64 (j:Int)] w fun e w'=>e= .returned (.bool true)/\w'=w):=by have:=lY s p g j F w hk h;rw[oY (by rw[hk.n];exact hj)] at this;exact this
 clear h hb;go_enter func124,ntmps124;go_wp2_with (go_at_call 25;refine HH.o.mono ?_;rintro r w1 ⟨rfl,rfl⟩);go_ret;exact⟨rfl,rfl⟩
theorem Iv(s:aF)(p:bM)(g:Nat)(F:Nat->Prop)(w:World)(h:Sep w (aG s p g) F):Calls prog 14 #[.pointer (some ⟨g,0,none⟩)] w fun e w'=>e= .returned (.int .i64 s.a.length)/\w'=w:=by have H:=qD (Mem.start h);have c1:=Tv H.o (i:=0) rfl;obtain⟨F1,h1⟩:=H.o.rep (i:=2) rfl;have HL:=qD (Ik s.a p.ga F1 w h1);clear h h1;go_enter func14,ntmps14;go_wp2_with (go_at_call 30;refine HL.o.mono ?_;rintro r w1 ⟨rfl,rfl⟩);go_ret;exact⟨rfl,rfl⟩
theorem Of(s:aF)(p:bM)(g:Nat)(F:Nat->Prop)(w:World)(h:Sep w (aG s p g) F):Calls prog 15 #[.pointer (some ⟨g,0,none⟩)] w fun e w'=>e= .returned (.int .i64 s.w.time.val)/\w'=w:=by have H:=qD (Mem.start h);have c0:=uo H.o (i:=0) rfl;obtain⟨F1,h1⟩:=H.o.rep (i:=1) rfl;have HL:=qD (NC s.w p.gw F1 w h1);clear h h1;go_enter func15,ntmps15;go_wp2_with (go_at_call 31;refine HL.o.mono ?_;rintro r w1 ⟨rfl,rfl⟩);go_ret;exact⟨rfl,rfl⟩
theorem Kb(s:aF)(p:bM)(g:Nat)(i:Int)(F:Nat->Prop)(w:World)(h:Sep w (aG s p g) F):Calls prog 123 #[.pointer (some ⟨g,0,none⟩),.int .i64 i] w fun e w'=>e= .returned (.tuple #[FI (uB s.w i),.bool (ia s.w i)])/\Below w.heap.size w w':=by have hz:=lB;have M0:Hid (Mem w F ([(w.heap.size,.row (bg eO))]++aG s p g) (w.alloc (.cells (bg eO) 33))):=(Mem.start h).alloc;have B0:Hid (Below w.heap.size w (w.alloc (.cells (bg eO) 33))):=(bZ _ w).alloc (nL _) _;have c0:=uo M0.o (i:=1) rfl;obtain⟨F1,h1⟩:=M0.o.rep (i:=2) rfl;have HL:Hid (Calls prog 39 #[.pointer (some ⟨p.gw,0,none⟩),.int .i64 i] (w.alloc (.cells (bg eO) 33)) fun e w'=>e= .returned (.tuple #[.agg (bg (uB s.w i)),.bool (ia s.w i)])/\Below (w.alloc (.cells (bg eO) 33)).heap.size (w.alloc (.cells (bg eO) 33)) w'):=td s.w p.gw F1 _ i h1;have z0:=M0.o.row (i:=0) rfl;have gl:=ab (M0.o.row (i:=1) rfl);clear h h1;unfold FI;show Calls _ _ _ _ fun e w'=>e= .returned (.tuple #[.agg (bg (uB s.w i)),_])/\_;generalize uB s.w i=pt at HL ⊢;generalize ia s.w i=hb at HL ⊢;go_enter func123,ntmps123;go_wp2_with (go_at_call 39;refine HL.o.mono ?_;rintro r w1 ⟨rfl,hb1⟩;have z1:=(ah hb1 (ab z0)).trans z0;have B1:=qD (B0.o.trans (hb1.mono (by simp)));clear hb1);exact bodyPost_ret (aA (fn:=Tryz.f123) rfl rfl (FX (putRow (cs0:=bg eO) z1 (by simp[aeU])) (aeU _))) rfl ⟨rfl,aa B1.o (nL _) _ _⟩
end
def nI(k:Nat):ae:=aeV k
theorem gR{k:Nat}(h:k<=1000000): (nI k).val=k:=fh (by omega)
def aaN(s:aF)(i j:Nat)(g:ae):ae:=aeV (g.val+(jc s.w i j).val)
def jT(s:aF)(i:Nat)(b:List UInt8)(g:ae)(j:Nat):bf:=⟨nI j,b,dk s.w (nI j) (aaN s i j g),aaN s i j g,false⟩
def rP(l:ae):ae:=if (aeV (l.val+1)).val<=1000000 then aeV (l.val+1) else⟨1000000,by decide⟩
theorem Og(l:ae):min (wrap64 (l.val+1)) 1000000=(rP l).val:=by unfold rP;rw[Int.min_def,<-lC];split <;> rfl
def jz(s:aF)(i:Nat)(b:List UInt8)(g:ae)(j:Nat):aF:=
 if j=i∨s.on[j]?≠some true then s else if ig s.a (jT s i b g j) then{s with a:=kH s.a (jT s i b g j)} else{s with lost:=rP s.lost}
def sendAll(s:aF)(i:Nat)(b:List UInt8)(g:ae)(k:Nat):aF:=(List.range k).foldl (fun s j=>jz s i b g j) s
def gi(s:aF)(i:Nat)(g:ae)(outs:List (bX×ae)):aF:=outs.foldl (fun s o=>sendAll s i ((nJ o.1).getD []) g s.n.length) s
theorem kI(s:aF)(i:Nat)(b:List UInt8)(g:ae)(k:Nat):sendAll s i b g (k+1)=jz (sendAll s i b g k) i b g k:=by unfold sendAll;rw[List.range_succ,List.foldl_append];rfl
structure qE (s t:aF):Prop where
 w:t.w=s.w
 c:t.c=s.c
 n:t.n=s.n
 on:t.on=s.on
theorem qE.refl(s:aF):qE s s:=⟨rfl,rfl,rfl,rfl⟩
theorem qE.trans{s t u:aF}(h:qE s t)(k:qE t u):qE s u:=⟨k.w.trans h.w,k.c.trans h.c,k.n.trans h.n,k.on.trans h.on⟩
theorem DJ(s:aF)(i:Nat)(b:List UInt8)(g:ae)(j:Nat):qE s (jz s i b g j):=by
 unfold jz;split
 ·exact qE.refl s
 ·split <;> exact⟨rfl,rfl,rfl,rfl⟩
theorem gL(s:aF)(i:Nat)(b:List UInt8)(g:ae):∀k,qE s (sendAll s i b g k)
 |0=>qE.refl s
 |k+1=>by rw[kI];exact(gL s i b g k).trans (DJ _ _ _ _ _)
theorem Gl(s:aF)(i:Nat)(g:ae)(l:List (bX×ae))(o:bX×ae):gi s i g (l++ [o])=sendAll (gi s i g l) i ((nJ o.1).getD []) g (gi s i g l).n.length:=by unfold gi;rw[List.foldl_append];rfl
theorem xz(s:aF)(i:Nat)(g:ae)(l:List (bX×ae))(o:bX×ae):gi s i g (o::l)=gi (sendAll s i ((nJ o.1).getD []) g s.n.length) i g l:=rfl
theorem gA(i:Nat)(g:ae):∀(l:List (bX×ae)) (s:aF),qE s (gi s i g l)
 | [],s=>qE.refl s
 |o::l,s=>by rw[xz];exact(gL _ _ _ _ _).trans (gA i g l _)
theorem aS.Oh{s t:aF}{p:bM}(h:aS s p)(k:qE s t):aS t p:=⟨h.ns,by rw[k.n];exact h.n,by rw[k.on];exact h.on,h.lo,h.hi⟩
theorem Xt(o:bX×ae): (aM o).extract 0 15=aD o.1.s:=by simp[aM,aD,bX.s]
theorem Oi(j:Nat)(hj:j<=1000000)(b:List UInt8)(v:Sl)(at_ tr:ae): (.agg #[.int .i64 (j:Int),.slice v.a v.n v.c,.int .i64 at_.val,.int .i64 tr.val,.bool false]:Value)= .agg (aH ⟨nI j,b,at_,tr,false⟩ v):=by unfold aH;rw[gR hj]
attribute [go_sem] Xt
theorem uq(s:aF)(i:Nat)(b:List UInt8)(g:ae):jz s i b g i=s:=by unfold jz;rw[if_pos (.inl rfl)]
theorem Gm{s:aF}{i j:Nat}{b:List UInt8}{g:ae}(h:s.on[j]? =some false):jz s i b g j=s:=by unfold jz;rw[if_pos (.inr (by rw[h];simp))]
theorem zP{s:aF}{i j:Nat}{b:List UInt8}{g:ae}(hne:j≠i)(h:s.on[j]? =some true):jz s i b g j=if ig s.a (jT s i b g j) then{s with a:=kH s.a (jT s i b g j)} else{s with lost:=rP s.lost}:=by unfold jz;rw[if_neg (fun e=>e.elim hne (fun e=>e h))]
theorem DK(f:bX): (xn f).length=80:=by simp[xn,Ih,di]
theorem gC(f:bX): ((nJ f).getD []).length<=1000000:=by
 unfold nJ;split
 ·simp[DK]
 ·simp
theorem xA(s:aF)(p:bM)(g i:Nat)(hi:i<=64)(outs:List (bX×ae))(v:Value)(gt:ae)(F:Nat->Prop)(w:World)(hk:aS s p)(hl:outs.length<=1000)(h:Sep w ([(0,.own 163 16 aM v outs)]++aG s p g) F):Calls prog 49 #[.pointer (some ⟨g,0,none⟩),.int .i64 (i:Int),v,.int .i64 gt.val] w fun r w'=>r= .returned (.tuple #[])/\Mem w F ([(0,.own 163 16 aM v outs)]++aG (gi s i gt outs) p g) w':=by
 have M0:Hid (Mem w F ([(0,.own 163 16 aM v outs)]++aG s p g) w):=Mem.start h;have HK:=qD hk;have HL:=qD hl;have HII:=qD hi;have hz16: (#[.int .i64 0,.int .i64 0,.int .i64 0,.int .i64 0,.int .i64 0,.int .i64 0,.int .i64 0,.int .i64 0,.int .i64 0,.int .i64 0,.int .i64 0,.int .i64 0,.int .i64 0,.int .i64 0,.int .i64 0,.int .i64 0]:Array Value)=aM (bW,i0):=rfl;obtain⟨va,vc,rfl⟩:=(M0.o.own (i:=0) rfl).len;have hpk:p.k<=64:=hk.hi;clear h hk hi;go_enter func49,ntmps49;go_upto_region 1 with(fail)
 go_loopw [16] (fun i16 wr=>∃q:Nat,q<=outs.length/\i16= .int .i64 q/\Hid (Mem w F ([(0,.own 163 16 aM (.slice va outs.length vc) outs)]++aG (gi s i gt (outs.take q)) p g) wr)) (fun i16 _=>outs.length-(intOf i16).toNat)
 case atStart=>exact⟨0,by omega,rfl,M0⟩
 case round=>
  obtain⟨q,hq,rfl,M⟩:=hrel;clear M0;by_cases hlt:q<outs.length
  ·obtain⟨o,ho⟩:∃o,outs[q]? =some o:=⟨_,gE hlt⟩;obtain⟨S,hS⟩:∃S,S=gi s i gt (outs.take q):=⟨_,rfl⟩;rw[<-hS] at M;have KS:Hid (aS S p):=by rw[hS];exact HK.o.Oh (gA i gt _ s)
   have HS1:Hid (gi s i gt (outs.take (q+1))=sendAll S i ((nJ o.1).getD []) gt p.k):=by show _=_;rw[List.take_add_one,ho];show gi s i gt (outs.take q++ [o])=_;rw[Gl,<-hS,KS.o.n]
   clear hS;obtain⟨g0,cap,cur,hv,h2,hg0,hbk,hcur⟩:=(M.o.own (i:=0) rfl).aI tj (by omega);cases hv;obtain⟨f0,f1⟩:=hcur q o ho;clear hcur h2;have HE:Hid (∀w,Calls prog 98 #[.agg (aD o.1.s)] w fun e w'=>∃v,e= .returned (.tuple #[v,.int .i64 (if gI o.1.s then 0 else 1)])/\Own w' w.heap.size 5 1 bj v ((nJ o.1).getD [])/\Below w.heap.size w w'):=fun w=>JW o.1 w;have HBL:Hid (((nJ o.1).getD []).length<=1000000):=gC o.1;generalize (nJ o.1).getD []=b at HE HS1 HBL;generalize (if gI o.1.s then(0:Int) else 1)=er at HE;go_upto_region 3 with(fail);have M1:Hid (Mem w F ([(wr.heap.size,.row (aM o)),(0,.own 163 16 aM (.slice (some ⟨g0,0,none⟩) outs.length vc) outs)]++aG S p g) ((wr.alloc (.cells (aM (bW,i0)) 163)).setCells wr.heap.size 0 (aM o).toList)):=(M.o.alloc (cs:=aM (bW,i0)) (t:=163)).bC (i:=0) (cs':=aM o) rfl (by simp[tj]);generalize wr.heap.size=gr at M1 ⊢;generalize ((wr.alloc (.cells (aM (bW,i0)) 163)).setCells gr 0 (aM o).toList)=w1 at*;clear M hbk f0 f1 hg0 ho;have e1:=M1.o.row (i:=0) rfl;go_upto_region 4 with(go_at_call 98;refine(HE.o _).mono ?_;rintro r w2 ⟨v2,rfl,ho2,hb2⟩;have M2:=qD (M1.o.ae6 (g:=0) hb2 ho2);clear hb2 ho2);obtain⟨a2,c2,rfl⟩:=(M2.o.own (i:=0) rfl).len;clear e1 M1 HE;have c13:w2.cell? ⟨g,13,none⟩=some (.slice (some ⟨p.gn,0,none⟩) p.k p.cn):=tq M2.o (i:=3) rfl;go_upto_region 5 with(fail)
   go_loopw [31] (fun i31 wr=>∃j:Nat,j<=p.k/\i31= .int .i64 j/\Hid (Mem w F ([(0,.own 5 1 bj (.slice a2 b.length c2) b),(gr,.row (aM o)),(0,.own 163 16 aM (.slice (some ⟨g0,0,none⟩) outs.length vc) outs)]++aG (sendAll S i b gt j) p g) wr)) (fun i31 _=>p.k-(intOf i31).toNat)
   case atStart=>exact⟨0,by omega,rfl,M2⟩
   case round=>
    obtain⟨j,hj,rfl,M⟩:=hrel;clear M2 c13;obtain⟨T,hT⟩:∃T,T=sendAll S i b gt j:=⟨_,rfl⟩;rw[<-hT] at M;have KT:Hid (aS T p):=by rw[hT];exact KS.o.Oh (gL S i b gt j)
    have HT1:Hid (sendAll S i b gt (j+1)=jz T i b gt j):=by show _=_;rw[kI,<-hT]
    by_cases hjl:j<p.k
    ·clear hT;by_cases hji:j=i
     ·subst hji;have HT2:Hid (sendAll S j b gt (j+1)=T):=by show _=_;rw[HT1.o,uq]
      clear HT1;go_wp2;go_roundw
      case rel=>exact⟨j+1,by omega,by go_num,by rw[HT2.o];exact M⟩
      case measure=>simp[intOf];omega
     ·have d1: ((j:Int)==(i:Int))=false:=by simp;omega
      have c14:wr.cell? ⟨g,14,none⟩=some (.slice (some ⟨p.gb,0,none⟩) p.k p.cb):=afz M.o (i:=3) rfl;obtain⟨ob,hob⟩:∃ob,T.on[j]? =some ob:=⟨_,gE (by rw[KT.o.on];exact hjl)⟩;have cb:=lX M.o (i:=7) rfl hob;cases ob with
      |false=>
       have HT2:Hid (sendAll S i b gt (j+1)=T):=by show _=_;rw[HT1.o,Gm hob]
       clear HT1 hob;go_wp2;go_roundw
       case rel=>exact⟨j+1,by omega,by go_num,by rw[HT2.o];exact M⟩
       case measure=>simp[intOf];omega
      |true=>
       have HT2:Hid (sendAll S i b gt (j+1)=if ig T.a (jT T i b gt j) then{T with a:=kH T.a (jT T i b gt j)} else{T with lost:=rP T.lost}):=by show _=_;rw[HT1.o,zP hji hob]
       clear HT1 hob;have c0:wr.cell? ⟨g,0,none⟩=some (.pointer (some ⟨p.gw,0,none⟩)):=uo M.o (i:=3) rfl;obtain⟨F1,h1⟩:=M.o.rep (i:=4) rfl;have HFL:=qD (Ge T.w p.gw F1 wr i j h1);have HJ:Hid (j<=1000000):=by have:=KT.o.hi;show _<=_;omega
       have HSM:Hid (jT T i b gt j=⟨nI j,b,dk T.w (nI j) (aeV (gt.val+(jc T.w i j).val)),aeV (gt.val+(jc T.w i j).val),false⟩):=rfl;clear h1;generalize jc T.w i j=fl at HFL HSM;go_upto_region 9 with(go_at_call 99;refine Mem.qB HFL.o M.o fun w3 M3=>?_);rw[<-lC];generalize aeV (gt.val+fl.val)=tt at HSM ⊢;clear M HFL c0 c14 cb;have c0:w3.cell? ⟨g,0,none⟩=some (.pointer (some ⟨p.gw,0,none⟩)):=uo M3.o (i:=3) rfl;have c1:w3.cell? ⟨g,1,none⟩=some (.pointer (some ⟨p.ga,0,none⟩)):=Tv M3.o (i:=3) rfl;obtain⟨F1,h1⟩:=M3.o.rep (i:=4) rfl;have HFI:Hid (∀w',Below w3.heap.size w3 w'->Calls prog 52 #[.pointer (some ⟨p.gw,0,none⟩),.int .i64 (j:Int),.int .i64 tt.val] w' fun e w''=>e= .returned (.int .i64 (dk T.w (nI j) tt).val)/\Below w'.heap.size w' w''):=fun w' hb=>by have:=oO T.w p.gw F1 w' (nI j) tt ((kD T.w).loc _ _ _ _ h1 fun x hx=>hb.block x ((kD T.w).lt _ _ _ h1 x hx));rw[gR HJ.o] at this;exact this
       have gl:=ab (M3.o.row (i:=3) rfl);clear h1;generalize dk T.w (nI j) tt=fi at HFI HSM;have hbld:=qD (Oi j HJ.o b ⟨a2,b.length,c2⟩ fi tt);rw[HSM.o] at HT2;clear HSM;generalize hmm: (⟨nI j,b,fi,tt,false⟩:bf)=mm at hbld HT2;have HMD:Hid (mm.data=b):=by show _=_;rw[<-hmm]
       clear hmm;refine ar 15 ?_;simp only[tA,tD,tC,tE]
       repeat quiet_step ((go_at_call 52;exact Calls.regrown_of (HFI.o _ (below_regrown _ _ _))))
       refine wpQuiet_nil ?_;intro w4 hb4;have M4:=qD (M3.o.below hb4);rw[hbld.o];clear hb4 M3 c0 c1 gl HFI hbld;have HC:Hid (Calls prog 100 #[.pointer (some ⟨p.ga,0,none⟩),.agg (aH mm ⟨a2,b.length,c2⟩)] w4 fun e w'=>e= .returned (.bool (ig T.a mm))/\Mem w F ([(0,.own 5 1 bj (.slice a2 b.length c2) b),(gr,.row (aM o)),(0,.own 163 16 aM (.slice (some ⟨g0,0,none⟩) outs.length vc) outs)]++aG {T with a:=kH T.a mm} p g) w'):=M4.o.bD (i:=5) (g:=p.ga) rfl (fun F1 hF=>Iu T.a p.ga F1 w4 mm ⟨a2,b.length,c2⟩ hF (by rw[HMD.o];exact M4.o.own (i:=0) rfl) (by rw[HMD.o];exact HBL.o));have HPF:Hid (ig T.a mm=false->kH T.a mm=T.a):=fun h=>by unfold kH;rw[h];rfl
       generalize kH T.a mm=pa at HC HT2 HPF;generalize ig T.a mm=pb at HC HT2 HPF;cases pb with
       |true=>
        have HT3:Hid (sendAll S i b gt (j+1)= {T with a:=pa}):=by show _=_;rw[HT2.o,if_pos rfl]
        clear HT2 HPF;go_wp2_with (go_at_call 100;refine qHG HC.o fun w5 M5=>?_);clear HC M4;go_roundw
        case rel=>exact⟨j+1,by omega,by go_num,by rw[HT3.o];exact M5⟩
        case measure=>simp[intOf];omega
       |false=>
        have HT3:Hid (sendAll S i b gt (j+1)= {T with lost:=rP T.lost}):=by show _=_;rw[HT2.o];simp
        obtain rfl:=HPF.o rfl;clear HT2 HPF;go_wp2_with (go_at_call 100;refine qHG HC.o fun w5 M5=>?_;have c15:=adT (s:={T with a:=T.a}) M5.o (i:=3) rfl;have z15:=ax (M5.o.row (i:=3) rfl) 15;have gl:=ab (M5.o.row (i:=3) rfl));clear HC M4;have M6:Hid (Mem w F ([(0,.own 5 1 bj (.slice a2 b.length c2) b),(gr,.row (aM o)),(0,.own 163 16 aM (.slice (some ⟨g0,0,none⟩) outs.length vc) outs)]++aG {T with lost:=rP T.lost} p g) (w5.setCell ⟨g,15,none⟩ (.int .i64 (rP T.lost).val))):=M5.o.bO (i:=3) (k:=15) (v:= .int .i64 (rP T.lost).val) rfl rfl;rw[Og];go_roundw
        case rel=>exact⟨j+1,by omega,by go_num,by rw[HT3.o];exact M6⟩
        case measure=>simp[intOf];omega
    ·have hjn:j=p.k:=by omega
     subst hjn;have M:=M.o.au.au;rw[hT] at M;have M:=qD M;go_wp2;go_roundw
     case rel=>exact⟨q+1,by omega,by go_num,by rw[HS1.o];exact M⟩
     case measure=>simp[intOf];omega
  ·have hqn:q=outs.length:=by omega
   subst hqn;rw[List.take_length] at M;go_wp2;exact bodyPost_end (results_none (fn:=Tryz.f49) rfl _ _ _) rfl ⟨rfl,M.o⟩
end
end Go.Proofs.Yq
theorem Go.gM{P:Go.Program}{a:Go.Act}{w:Go.World}{Q:Go.Exit->Go.Act->Go.World->Prop}{c rest:Go.Code}(l:Nat)(hf:Go.findLabel c l=some rest)(first:c.wp P (Go.Exit.jump l (fun a w=>rest.wp P (Go.Exit.noGoto Q) a w) Q) a w): (Go.Code.scope c).wp P Q a w:=
 Go.wp_scope_jumps l (fun a w=>rest.wp P (Go.Exit.noGoto Q) a w) (fun _ _=>0) hf first fun a w h=>Go.wp_mono h (by intro e a w h;cases e <;> first|exact h|exact h.elim)
namespace Go
section
variable {Q:Exit->Act->World->Prop} {a:Act} {w:World} {l:Nat} {J:Act->World->Prop}
@[go_sem] theorem Exit.Tx:Exit.jump l J Q .normal a w=Q .normal a w:=rfl
@[go_sem] theorem Exit.X6 (id:Nat):Exit.jump l J Q (.exit id) a w=Q (.exit id) a w:=rfl
@[go_sem] theorem Exit.Oj:Exit.jump l J Q .ret a w=Q .ret a w:=rfl
@[go_sem] theorem Exit.Xu (ch:List PanicEntry):Exit.jump l J Q (.panic ch) a w=Q (.panic ch) a w:=rfl
end
end Go
namespace Go.Proofs.Yq
open ChangeShapes WideShapes ChangeAt RowKit Ev
open Tryz
noncomputable section
theorem Ol(g:Nat)(x:ak)(v:Value)(at_ now fine:ae)(F:Nat->Prop)(w:World)(ht:fP now=false)(h: (aO x).rep g F w):Calls prog 113 #[.pointer (some ⟨g,0,none⟩),v,.int .i64 at_.val,.int .i64 now.val,.int .i64 fine.val] w fun r w'=>r= .returned (.tuple #[.slice none 0 0,.int .i64 1])/\Mem w F [(g,aO x)] w':=by
 have HTM:=qD (ly now);rw[ht] at HTM;have M0:Hid (Mem w F [(w.heap.size+1,.row (aN g now fine (.slice none 0 0))),(w.heap.size,.row (aD bW.s)),(g,aO x)] ((w.alloc (.cells (aD bW.s) 161)).alloc (.cells (aN g now fine (.slice none 0 0)) 171))):=by have:=((Mem.qA h).alloc (cs:=aD bW.s) (t:=161)).alloc (cs:=aN g now fine (.slice none 0 0)) (t:=171);show Mem _ _ _ _;simpa using this
 have hz:=eI;clear h ht;go_enter func113,ntmps113;go_wp2;refine gM 0 rfl ?_;go_upto_region 4 with((with_reducible show wpList _ _ _ (⟨some 18,_,_,_,_,_⟩::_) _ _);refine br _ (.agg (aN g now fine (.slice none 0 0))) _ rfl (by kernel_rfl) ?_);go_wp2_with (go_at_call 101;refine Mem.qB (HTM.o _) M0.o fun w1 M1=>?_)
 go_step3
 go_wp2;refine⟨rfl,?_⟩;go_wp2;rw[Exit.noGoto_ret];go_wp2;go_ret2;exact⟨rfl,M1.o.au.au⟩
section
def Rd(w:World)(v:Value)(b:List UInt8):Prop:=∃a c,v= .slice a b.length c/\b.length<=c/\∀q x,b[q]? =some x->∃g o,a=some ⟨g,o,none⟩/\w.cell? ⟨g,o+q,none⟩=some (.int .u8 x.toNat)
theorem Rd.grown{w w':World}{v:Value}{b:List UInt8}(h:Rd w v b)(hb:Below w.heap.size w w'):Rd w' v b:=by obtain⟨a,c,h1,h2,h3⟩:=h;refine⟨a,c,h1,h2,fun q x hx=>?_⟩;obtain⟨g,o,h4,h5⟩:=h3 q x hx;exact⟨g,o,h4,(hb.cell (p:=⟨g,o+q,none⟩) (World.block_lt_of_cell? _ _ h5)).trans h5⟩
theorem Rd.Xv{w:World}{base:Nat}{v:Value}{b:List UInt8}(h:Own w base 5 1 bj v b):Rd w v b:=by
 by_cases hl:0<b.length
 ·obtain⟨g,cap,cur,hv,h2,h3,h4,h5,h6,h7⟩:=h.at_ hl;subst hv;refine⟨_,_,rfl,h4,fun q x hx=>⟨g,0,rfl,?_⟩⟩;have h8:=h.cell fy hx (j:=0) (by omega);rw[Nat.mul_one,Nat.add_zero] at h8;rw[Nat.zero_add,h8];simp[bj]
 ·have hb:b= []:=List.length_eq_zero_iff.1 (by omega);subst hb;obtain⟨a,c,hv⟩:=h.len;exact⟨a,c,hv,Nat.zero_le _,fun q x hx=>by simp at hx⟩
theorem Xw(g o c:Nat)(b:List UInt8)(w:World)(n:Nat)(hn:b.length=n)(hc:∀q x,b[q]? =some x->w.cell? ⟨g,o+q,none⟩=some (.int .u8 x.toNat))(hl:n<=1000000:=by omega):Calls prog 143 #[.slice (some ⟨g,o,none⟩) n c] w fun e w'=>e= .returned (.int .u32 (nZ b).val)/\Below w.heap.size w w':=by subst hn;have h:=Ig (some ⟨g,o,none⟩) c (b.map UInt8.toNat) w ⟨by rw[List.length_map];omega,fun x hx=>by obtain⟨y,_,rfl⟩:=List.mem_map.1 hx;exact y.toNat_lt,fun i hi=>⟨g,o,rfl,by rw[List.length_map] at hi;have hx:b[i]? =some b[i]:=gE hi;rw[hc i _ hx,List.getD_eq_getElem?_getD,List.getElem?_map,hx];rfl⟩⟩;rw[List.length_map] at h;exact h
variable {w0 w:World} {F0:Nat->Prop} {L:List (Nat×aj)} {i gr ga oz c:Nat} {b:List UInt8}
theorem zQ(k n:Nat)(h:Mem w0 F0 L w)(hi:L[i]? =some (gr,.row #[.slice (some ⟨ga,oz+k,none⟩) (80-k:Nat) (c-k:Nat)]))(hd:∀q x,b[q]? =some x->w.cell? ⟨ga,oz+q,none⟩=some (.int .u8 x.toNat))(hb:b.length=80)(hk:k+n<=80)(hkn:k+n<=76∨True)(hc:80<=c):
  Calls prog 194 #[.pointer (some ⟨gr,0,none⟩),.int .i64 n] w fun e w'=>e= .returned (.int .i64 (cX b k n).val)/\∃o,Mem w0 F0 (L.set i (gr,.row #[.slice (some ⟨ga,o,none⟩) (80-(k+n):Nat) (c-(k+n):Nat)])) w'/\(k+n<80->o=oz+(k+n)):=by
 have hrow:=h.row hi;have hl: (b.drop k).length=80-k:=by rw[List.length_drop,hb]
 have key:=Ia gr ga (oz+k) (c-k) (b.drop k) n w (by rw[hl];exact hrow) (fun q x hx=>by rw[List.getElem?_drop] at hx;rw[Nat.add_assoc];exact hd _ _ hx) (by omega) (by omega) (by omega);refine key.mono ?_;rintro e w' ⟨rfl,o,rfl,ho⟩;refine⟨rfl,o,?_,fun hk=>by rw[ho (by omega),Nat.add_assoc]⟩;refine h.bO hi ?_;rw[hl];simp[Nat.sub_sub]
theorem Gn(k:Nat)(h:Mem w0 F0 L w)(hi:L[i]? =some (gr,.row #[.slice (some ⟨ga,oz+k,none⟩) (80-k:Nat) (c-k:Nat)]))(hd:∀q x,b[q]? =some x->w.cell? ⟨ga,oz+q,none⟩=some (.int .u8 x.toNat))(hb:b.length=80)(hk:k+4<=76)(hc:80<=c):
  Calls prog 195 #[.pointer (some ⟨gr,0,none⟩)] w fun e w'=>e= .returned (.int .i64 (xo b k).val)/\Mem w0 F0 (L.set i (gr,.row #[.slice (some ⟨ga,oz+(k+4),none⟩) (80-(k+4):Nat) (c-(k+4):Nat)])) w':=by
 have hrow:=h.row hi;have hl: (b.drop k).length=80-k:=by rw[List.length_drop,hb]
 have key:=Nt gr ga (oz+k) (c-k) (b.drop k) w (by rw[hl];exact hrow) (fun q x hx=>by rw[List.getElem?_drop] at hx;rw[Nat.add_assoc];exact hd _ _ hx) (by omega) (by omega) (by omega);refine key.mono ?_;rintro e w' ⟨rfl,o,rfl,ho⟩;obtain rfl:=ho (by omega);refine⟨rfl,?_⟩;refine h.bO hi ?_;rw[hl];simp[Nat.sub_sub,Nat.add_assoc]
theorem pP(k n:Nat)(h:Mem w0 F0 L w)(hi:L[i]? =some (gr,.row #[.slice (some ⟨ga,oz+k,none⟩) (80-k:Nat) (c-k:Nat)]))(hd:∀q x,b[q]? =some x->w.cell? ⟨ga,oz+q,none⟩=some (.int .u8 x.toNat))(hb:b.length=80)(hk:k+n<=76)(hc:80<=c):
  Calls prog 194 #[.pointer (some ⟨gr,0,none⟩),.int .i64 n] w fun e w'=>e= .returned (.int .i64 (cX b k n).val)/\Mem w0 F0 (L.set i (gr,.row #[.slice (some ⟨ga,oz+(k+n),none⟩) (80-(k+n):Nat) (c-(k+n):Nat)])) w':=by
 refine(zQ k n h hi hd hb (by omega) (.inr trivial) hc).mono ?_;rintro e w' ⟨rfl,o,hm,ho⟩;obtain rfl:=ho (by omega);exact⟨rfl,hm⟩
theorem aaO(w:World)(ga oz c:Nat)(b:List UInt8)(hl:4<=b.length)(hd:∀q x,b[q]? =some x->w.cell? ⟨ga,oz+q,none⟩=some (.int .u8 x.toNat)): (convert 38 9 (.slice (some ⟨ga,oz,none⟩) 4 c)).run prog w= .ok (.string ⟨(b.take 4).toArray⟩) w:=by have h:=run_convert_bytes_back (P:=prog) w 38 9 5 ⟨ga,oz,none⟩ c (b.take 4) rD underlying5 (by kernel_rfl) (fun j hj=>by rw[List.length_take] at hj;have hx:b[j]? =some b[j]:=gE (by omega);rw[Addr.add_lit,hd j _ hx];simp);rw[List.length_take,Nat.min_eq_left hl] at h;exact h
theorem nf(v:Value)(b:List UInt8)(w:World)(ho:Rd w v b)(hl:b.length<=1000000):Calls prog 155 #[v] w fun e w'=>e= .returned (.tuple #[MU (cY b).1.s,.int .i64 (cY b).2.val])/\Below w.heap.size w w':=by
 obtain⟨va,vc,rfl,hvl,hvq⟩:=ho;have hz:=eI;have hb:∀w,(Instr.build 161 #[]).run prog w= .ok (.agg (aD bW.s)) w:=fun w=>by kernel_rfl
 have e0: (w.alloc (.cells (aD bW.s) 161)).aI w.heap.size=some (aD bW.s):=by simp[af,aq]
 have B0:Hid (Below w.heap.size w (w.alloc (.cells (aD bW.s) 161))):=(bZ _ w).alloc (nL _) _;by_cases h1:b.length<80
 ·have hd:cY b=(bW,⟨4,by decide⟩):=by unfold cY;rw[if_pos h1]
  rw[hd];clear hd hvl hvq hl;go_enter func155,ntmps155
  repeat (first|go_values|go_skip|go_guarded|go_step|go_upon)
  refine bodyPost_ret (aA (fn:=Tryz.f155) rfl rfl (zA (putRow (cs0:=aD bW.s) e0 (by simp[bG])) (bG _))) rfl ⟨rfl,aa B0.o (nL _) _ _⟩
 by_cases h2:80<b.length
 ·have hd:cY b=(bW,⟨5,by decide⟩):=by unfold cY;rw[if_neg h1,if_pos (.inl h2)]
  rw[hd];clear hd hvl hvq hl;go_enter func155,ntmps155
  repeat (first|go_values|go_skip|go_guarded|go_step|go_upon)
  refine bodyPost_ret (aA (fn:=Tryz.f155) rfl rfl (zA (putRow (cs0:=aD bW.s) e0 (by simp[bG])) (bG _))) rfl ⟨rfl,aa B0.o (nL _) _ _⟩
 have h80:b.length=80:=by omega
 obtain⟨ga,oz,rfl,hgl⟩:∃ga oz,va=some ⟨ga,oz,none⟩/\ga<w.heap.size:=by obtain⟨g,o,h3,h4⟩:=hvq 0 b[0] (gE (by omega));exact⟨g,o,h3,World.block_lt_of_cell? _ _ h4⟩
 have hcap:80<=vc:=by omega
 have HD:Hid (∀(q:Nat) (x:UInt8),b[q]? =some x->w.cell? ⟨ga,oz+q,none⟩=some (Value.int IntKind.u8 x.toNat)):=fun q x hx=>by obtain⟨g,o,h3,h4⟩:=hvq q x hx;cases h3;exact h4
 have HDT:Hid (∀w',bN (fun _=>False) w w'->∀q x,b[q]? =some x->w'.cell? ⟨ga,oz+q,none⟩=some (.int .u8 x.toNat)):=fun w' hw q x hx=>by rw[(bN.below hw).cell (p:=⟨ga,oz+q,none⟩) hgl];exact HD.o q x hx
 have HO76:Hid (∀w',bN (fun _=>False) w w'->Calls prog 143 #[.slice (some ⟨ga,oz,none⟩) 76 vc] w' fun e w''=>e= .returned (.int .u32 (nZ (b.take 76)).val)/\Below w'.heap.size w' w''):=fun w' hw=>Xw ga oz vc (b.take 76) w' 76 (by rw[List.length_take];omega) (fun q x hx=>HDT.o w' hw q x (by rw[List.getElem?_take] at hx;split at hx;exact hx;cases hx));have hstr:Hid (∀w',bN (fun _=>False) w w'->(convert 38 9 (.slice (some ⟨ga,oz,none⟩) 4 vc)).run prog w'= .ok (.string ⟨(b.take 4).toArray⟩) w'):=fun w' hw=>aaO w' ga oz vc b (by omega) (HDT.o w' hw);rw[h80];have HS:=hstr.o (w.alloc (.cells (aD bW.s) 161)) (bN.bH B0.o);by_cases h3:b.take 4=aax
 ·have heq: (b.take 4== [97,108,105,49])=true:=by rw[h3];rfl
  have hvc: (4:Int)<=vc:=by omega
  have hvd:decide (4<=vc)=true:=by simp;omega
  have hvc6: (76:Int)<=vc:=by omega
  have hve:decide (76<=vc)=true:=by simp;omega
  have HV:=qD hcap;have HG:=qD hgl;have HB:=qD h80;have HF:Hid (cY b=if (cX b 76 4).val≠(nZ (b.take 76)).val then(bW,⟨6,by decide⟩) else if gI (parse b).s then(parse b,i0) else(bW,⟨5,by decide⟩)):=by show _=_;unfold cY;rw[if_neg h1,if_neg (by rintro(h4|h4);exact h2 h4;exact h4 h3)]
  have hv76:¬vc=76:=by omega
  have hv4:¬vc=4:=by omega
  have M0:Hid (Mem w (fun _=>False) [(w.heap.size+1,.row #[.slice (some ⟨ga,oz+76,none⟩) (80-76) (vc-76)]),(w.heap.size,.row (aD bW.s))] ((w.alloc (.cells (aD bW.s) 161)).alloc (.cells #[.slice (some ⟨ga,oz+76,none⟩) 4 (vc-76)] 283))):=by
   have h0:Mem w (fun _=>False) [] w:=⟨fun _=>False,fun x h=>h,fun x h=>h.elim,bN.refl _ _⟩;have h5:=(h0.alloc (cs:=aD bW.s) (t:=161)).alloc (cs:=#[.slice (some ⟨ga,oz+76,none⟩) 4 (vc-76)]) (t:=283);have h6: (w.alloc (.cells (aD bW.s) 161)).heap.size=w.heap.size+1:=by simp
   rw[h6] at h5;exact h5
  clear hcap h1 h2 hstr hgl h80 h3 hl hvl hvq HD;go_enter func155,ntmps155;go_upto_region 6 with(fail);generalize ((w.alloc (.cells (aD bW.s) 161)).alloc (.cells #[.slice (some ⟨ga,oz+76,none⟩) 4 (vc-76)] 283))=w1 at*;refine hJ 4 [(0,true),(2,true),(3,true),(1,false)] (fun _=>True) (by kernel_rfl) (by kernel_rfl) trivial ?_;have M1:Hid (Mem w (fun _=>False) [(w.heap.size+1,.row #[.slice (some ⟨ga,oz+76,none⟩) (80-76) (vc-76)]),(w.heap.size,.row (aD bW.s))] w1.drew):=M0.o.below (Below.drew (bZ _ _));generalize w1.drew=w2 at*;simp only[List.map_cons,List.map_nil,Array.getD_eq_getD_getElem?,List.getElem?_toArray,List.getElem?_cons_zero,List.getElem?_cons_succ,Option.getD_some,tC,tE];refine iF rfl (by rintro w' s1 K hK;go_simp;exact hK.o) ?_;refine iF rfl (by rintro w' s1 K hK;go_simp;exact hK.o) ?_;refine iF rfl (by rintro w' s1 K hK;go_simp;exact hK.o) ?_;refine ui (fun K hK=>?_);go_wp2_with (go_at_call 194;refine(zQ 76 4 M1.o (i:=0) rfl (HDT.o _ M1.o.mh) HB.o (by decide) (.inr trivial) HV.o).mono ?_;rintro e w3 ⟨rfl,o,hm,_⟩;have M3:=qD hm;clear hm M1);refine hK.o _ _ trivial ?_;clear hK;refine jG ?_;by_cases hs: (cX b 76 4).val=(nZ (b.take 76)).val
  ·have HF2:Hid (cY b=if gI (parse b).s then(parse b,i0) else(bW,⟨5,by decide⟩)):=by rw[HF.o,if_neg (by simp[hs])];rfl
   have hw:wrap64 (nZ (b.take 76)).val=(nZ (b.take 76)).val:=by have:=(nZ (b.take 76)).ok;unfold wrap64;omega
   clear HF;go_wp2_with (go_at_call 143;refine Mem.qB (HO76.o _ M3.o.mh) M3.o fun w4 M4=>?_;clear M3);refine NoPanic.normal ?_;clear hs hw;go_upto_region 9 with(fail);have M5:Hid (Mem w (fun _=>False) [(w4.heap.size,.row #[.slice (some ⟨ga,oz+4,none⟩) (80-4) (vc-4)]),(w.heap.size+1,.row #[.slice (some ⟨ga,o,none⟩) (80-80) (vc-80)]),(w.heap.size,.row (aD bW.s))] (w4.alloc (.cells #[.slice (some ⟨ga,oz+4,none⟩) 76 (vc-4)] 283))):=M4.o.alloc (cs:=#[.slice (some ⟨ga,oz+4,none⟩) 76 (vc-4)]) (t:=283);clear M4;generalize (w4.alloc (.cells #[.slice (some ⟨ga,oz+4,none⟩) 76 (vc-4)] 283))=w5 at*;have a2:∀x y:ae,bK #[.int .i64 x.val,.int .i64 y.val]=true:=fun _ _=>by simp[bK,Value.oneCell']
   have a3:∀x y z:ae,bK #[.int .i64 x.val,.int .i64 y.val,.int .i64 z.val]=true:=fun _ _ _=>by simp[bK,Value.oneCell']
   have h9: ((((aD bW.s).setIfInBounds 0 (.int .i64 (cX b 4 1).val)).setIfInBounds 1 (.int .i64 (cX b 5 1).val)).setIfInBounds 5 (.int .i64 (cX b 6 1).val)).setIfInBounds 8 (.int .i64 (cX b 7 1).val)=aD (fr9 b).s:=rfl;go_upto_region 10 with(go_at_call 194;refine(pP _ 1 M5.o (i:=0) rfl (HDT.o _ M5.o.mh) HB.o (by decide) HV.o).mono ?_;rintro e w6 ⟨rfl,hm⟩;clear M5;have M5:=qD hm;clear hm);obtain⟨gf,hgf⟩:∃gf,gf=w6.heap.size:=⟨_,rfl⟩;have M6:Hid (Mem w (fun _=>False) [(gf,.row (aD (fr9 b).s)),(w4.heap.size,.row #[.slice (some ⟨ga,oz+8,none⟩) (80-8) (vc-8)]),(w.heap.size+1,.row #[.slice (some ⟨ga,o,none⟩) (80-80) (vc-80)]),(w.heap.size,.row (aD bW.s))] ((w6.alloc (.cells (aD bW.s) 161)).setCells w6.heap.size 0 (aD (fr9 b).s).toList)):=by rw[hgf];exact(M5.o.alloc (cs:=aD bW.s) (t:=161)).setRows (i:=0) rfl (by simp[bG]) (by rw[Array.toArray_toList,fT (by simp[bG])])
   clear M5 h9;rw[<-hgf] at*;generalize ((w6.alloc (.cells (aD bW.s) 161)).setCells gf 0 (aD (fr9 b).s).toList)=w7 at*;clear hgf;have M5:=M6;clear M6;go_upto_region 11 with(go_at_call 194;refine(pP _ 2 M5.o (i:=1) rfl (HDT.o _ M5.o.mh) HB.o (by decide) HV.o).mono ?_;(try clear z2);(try clear y2);(try clear z3);(try clear y3);rintro e w6 ⟨rfl,hm⟩;clear M5;have M5:=qD hm;clear hm;have z2:=ax (M5.o.row (i:=0) rfl) 2;have y2:=M5.o.cell (i:=0) (k:=2) rfl rfl;have z3:=ax (M5.o.row (i:=0) rfl) 3;have y3:=M5.o.cell (i:=0) (k:=3) rfl rfl);have M6:Hid (Mem w (fun _=>False) [(gf,.row (aD (aay b).s)),(w4.heap.size,.row #[.slice (some ⟨ga,oz+12,none⟩) (80-12) (vc-12)]),(w.heap.size+1,.row #[.slice (some ⟨ga,o,none⟩) (80-80) (vc-80)]),(w.heap.size,.row (aD bW.s))] ((w6.setCell ⟨gf,2,none⟩ (.int .i64 (cX b 8 2).val)).setCell ⟨gf,3,none⟩ (.int .i64 (cX b 10 2).val))):=((M5.o.bO (i:=0) (k:=2) (v:= .int .i64 (cX b 8 2).val) rfl rfl).bO (i:=0) (k:=3) (v:= .int .i64 (cX b 10 2).val) rfl rfl);clear M5 z2 z3 y2 y3;generalize ((w6.setCell ⟨gf,2,none⟩ (.int .i64 (cX b 8 2).val)).setCell ⟨gf,3,none⟩ (.int .i64 (cX b 10 2).val))=w7 at*;have M5:=M6;clear M6;go_upto_region 12 with(go_at_call 194;refine(pP _ 8 M5.o (i:=1) rfl (HDT.o _ M5.o.mh) HB.o (by decide) HV.o).mono ?_;(try clear z4);(try clear y4);(try clear z6);(try clear y6);(try clear z7);(try clear y7);(try clear z9);(try clear y9);rintro e w6 ⟨rfl,hm⟩;clear M5;have M5:=qD hm;clear hm;have z4:=ax (M5.o.row (i:=0) rfl) 4;have y4:=M5.o.cell (i:=0) (k:=4) rfl rfl;have z6:=ax (M5.o.row (i:=0) rfl) 6;have y6:=M5.o.cell (i:=0) (k:=6) rfl rfl;have z7:=ax (M5.o.row (i:=0) rfl) 7;have y7:=M5.o.cell (i:=0) (k:=7) rfl rfl;have z9:=ax (M5.o.row (i:=0) rfl) 9;have y9:=M5.o.cell (i:=0) (k:=9) rfl rfl);have M6:Hid (Mem w (fun _=>False) [(gf,.row (aD (aaz b).s)),(w4.heap.size,.row #[.slice (some ⟨ga,oz+44,none⟩) (80-44) (vc-44)]),(w.heap.size+1,.row #[.slice (some ⟨ga,o,none⟩) (80-80) (vc-80)]),(w.heap.size,.row (aD bW.s))] ((((w6.setCell ⟨gf,4,none⟩ (.int .i64 (cX b 12 8).val)).setCell ⟨gf,6,none⟩ (.int .i64 (cX b 20 8).val)).setCell ⟨gf,7,none⟩ (.int .i64 (cX b 28 8).val)).setCell ⟨gf,9,none⟩ (.int .i64 (cX b 36 8).val))):=((((M5.o.bO (i:=0) (k:=4) (v:= .int .i64 (cX b 12 8).val) rfl rfl).bO (i:=0) (k:=6) (v:= .int .i64 (cX b 20 8).val) rfl rfl).bO (i:=0) (k:=7) (v:= .int .i64 (cX b 28 8).val) rfl rfl).bO (i:=0) (k:=9) (v:= .int .i64 (cX b 36 8).val) rfl rfl);clear M5 z4 z6 z7 z9 y4 y6 y7 y9;generalize ((((w6.setCell ⟨gf,4,none⟩ (.int .i64 (cX b 12 8).val)).setCell ⟨gf,6,none⟩ (.int .i64 (cX b 20 8).val)).setCell ⟨gf,7,none⟩ (.int .i64 (cX b 28 8).val)).setCell ⟨gf,9,none⟩ (.int .i64 (cX b 36 8).val))=w7 at*;have M5:=M6;clear M6;go_upto_region 13 with(go_at_call 195;refine(Gn _ M5.o (i:=1) rfl (HDT.o _ M5.o.mh) HB.o (by decide) HV.o).mono ?_;(try clear e6);rintro e w6 ⟨rfl,hm⟩;clear M5;have M5:=qD hm;clear hm;have e6:=M5.o.row (i:=0) rfl);have M6:Hid (Mem w (fun _=>False) [(gf,.row (aD (adE b).s)),(w4.heap.size,.row #[.slice (some ⟨ga,oz+52,none⟩) (80-52) (vc-52)]),(w.heap.size+1,.row #[.slice (some ⟨ga,o,none⟩) (80-80) (vc-80)]),(w.heap.size,.row (aD bW.s))] (w6.setCells gf 10 [.int .i64 (xo b 44).val,.int .i64 (xo b 48).val])):=M5.o.setRows (i:=0) (k:=10) (vs:=[.int .i64 (xo b 44).val,.int .i64 (xo b 48).val]) rfl (by simp[bG]) rfl;clear M5 e6;generalize (w6.setCells gf 10 [.int .i64 (xo b 44).val,.int .i64 (xo b 48).val])=w7 at*;have M5:=M6;clear M6;go_upto_region 14 with(go_at_call 194;refine(pP _ 8 M5.o (i:=1) rfl (HDT.o _ M5.o.mh) HB.o (by decide) HV.o).mono ?_;(try clear e6);rintro e w6 ⟨rfl,hm⟩;clear M5;have M5:=qD hm;clear hm;have e6:=M5.o.row (i:=0) rfl);have M6:Hid (Mem w (fun _=>False) [(gf,.row (aD (parse b).s)),(w4.heap.size,.row #[.slice (some ⟨ga,oz+76,none⟩) (80-76) (vc-76)]),(w.heap.size+1,.row #[.slice (some ⟨ga,o,none⟩) (80-80) (vc-80)]),(w.heap.size,.row (aD bW.s))] (w6.setCells gf 12 [.int .i64 (cX b 52 8).val,.int .i64 (cX b 60 8).val,.int .i64 (cX b 68 8).val])):=M5.o.setRows (i:=0) (k:=12) (vs:=[.int .i64 (cX b 52 8).val,.int .i64 (cX b 60 8).val,.int .i64 (cX b 68 8).val]) rfl (by simp[bG]) rfl;clear M5 e6;generalize (w6.setCells gf 12 [.int .i64 (cX b 52 8).val,.int .i64 (cX b 60 8).val,.int .i64 (cX b 68 8).val])=w7 at*;have M5:=M6;clear M6;have e6:=M5.o.row (i:=0) rfl;have e7:=M5.o.row (i:=3) rfl;have HC:Hid (∀w,Calls prog 141 #[.agg (aD (parse b).s)] w fun e w'=>e= .returned (.bool (gI (parse b).s))/\Below w.heap.size w w'):=fun w=>zo (parse b).s w;have g6:=ab e6;have g7:=ab e7;have HM:=M5.o.mh.below;have HM2:=qD HM;clear HM M5;generalize hmm:gI (parse b).s=mm at HC HF2;clear hmm;generalize parse b=fb at*;cases mm with
   |true=>
    go_upto_region 16 with(go_at_call 141;refine qHG (HC.o _) fun w8 B8=>?_);have k6:=(ah B8.o g6).trans e6;have k7:=(ah B8.o g7).trans e7
    repeat (first|go_values|go_skip|go_guarded|go_step|go_upon)
    refine bodyPost_ret (aA (fn:=Tryz.f155) rfl rfl (zA (putRow (cs0:=aD bW.s) k7 (by simp[bG])) (bG _))) rfl ⟨?_,?_⟩
    ·rw[HF2.o];rfl
    ·exact aa (HM2.o.trans (B8.o.mono HM2.o.size)) (nL _) _ _
   |false=>
    go_upto_region 15 with(go_at_call 141;refine qHG (HC.o _) fun w8 B8=>?_);have k7:=(ah B8.o g7).trans e7
    repeat (first|go_values|go_skip|go_guarded|go_step|go_upon)
    refine bodyPost_ret (aA (fn:=Tryz.f155) rfl rfl (zA (putRow (cs0:=aD bW.s) k7 (by simp[bG])) (bG _))) rfl ⟨?_,?_⟩
    ·rw[HF2.o];rfl
    ·exact aa (HM2.o.trans (B8.o.mono HM2.o.size)) (nL _) _ _
  ·have HF2:Hid (cY b=(bW,⟨6,by decide⟩)):=by rw[HF.o,if_pos hs];rfl
   have hw:wrap64 (nZ (b.take 76)).val=(nZ (b.take 76)).val:=by have:=(nZ (b.take 76)).ok;unfold wrap64;omega
   clear HF;go_wp2_with (go_at_call 143;refine Mem.qB (HO76.o _ M3.o.mh) M3.o fun w4 M4=>?_;clear M3);refine NoPanic.normal ?_;have e4:=M4.o.row (i:=1) rfl
   repeat (first|go_values|go_skip|go_guarded|go_step|go_upon)
   rw[HF2.o];refine bodyPost_ret (aA (fn:=Tryz.f155) rfl rfl (zA (putRow (cs0:=aD bW.s) e4 (by simp[bG])) (bG _))) rfl ⟨rfl,?_⟩;exact aa M4.o.mh.below (nL _) _ _
 ·have hd:cY b=(bW,⟨5,by decide⟩):=by unfold cY;rw[if_neg h1,if_pos (.inr h3)]
  rw[hd];clear hd hl h1 h2 hstr hvl hvq HD HDT HO76 hgl;have hne: (b.take 4== [97,108,105,49])=false:=by
   cases hq: (b.take 4== [97,108,105,49])
   ·rfl
   ·exact absurd (eq_of_beq hq) h3
  have hvc: (4:Int)<=vc:=by omega
  have hvd:decide (4<=vc)=true:=by simp;omega
  clear hcap;go_enter func155,ntmps155;go_upto_region 3 with(fail)
  repeat (first|go_values|go_skip|go_guarded|go_step|go_upon)
  refine bodyPost_ret (aA (fn:=Tryz.f155) rfl rfl (zA (putRow (cs0:=aD bW.s) e0 (by simp[bG])) (bG _))) rfl ⟨rfl,aa B0.o (nL _) _ _⟩
end
def DM(x:ak):ae:=if (aeV (x.bad.val+1)).val<=1000000 then aeV (x.bad.val+1) else⟨1000000,by decide⟩
theorem RC(x:ak):min (wrap64 (x.bad.val+1)) 1000000=(DM x).val:=by unfold DM;rw[Int.min_def,<-lC];split <;> rfl
theorem oZ{x:ak}{g:Nat}{now fine:ae}{F:Nat->Prop}{w:World}(h: (aO x).rep g F w):Mem w F [(w.heap.size+1,.row (aN g now fine (.slice none 0 0))),(w.heap.size,.row (aD bW.s)),(g,aO x)] ((w.alloc (.cells (aD bW.s) 161)).alloc (.cells (aN g now fine (.slice none 0 0)) 171)):=by have:=((Mem.qA h).alloc (cs:=aD bW.s) (t:=161)).alloc (cs:=aN g now fine (.slice none 0 0)) (t:=171);simpa using this
theorem Kc(g:Nat)(x:ak)(v:Value)(b:List UInt8)(at_ now fine:ae)(F:Nat->Prop)(w:World)(hi:cw x)(ho:Rd w v b)(hl:b.length<=1000000)(ht:fP now=true)(he: (cY b).2.val≠0)(h: (aO x).rep g F w):Calls prog 113 #[.pointer (some ⟨g,0,none⟩),v,.int .i64 at_.val,.int .i64 now.val,.int .i64 fine.val] w fun r w'=>r= .returned (.tuple #[.slice none 0 0,.int .i64 (cY b).2.val])/\Mem w F [(g,aO {x with bad:=DM x})] w':=by
 have HTM:=qD (ly now);rw[ht] at HTM;have M0:Hid (Mem w F [(w.heap.size+1,.row (aN g now fine (.slice none 0 0))),(w.heap.size,.row (aD bW.s)),(g,aO x)] ((w.alloc (.cells (aD bW.s) 161)).alloc (.cells (aN g now fine (.slice none 0 0)) 171))):=oZ h;have HL:=qD hl;have HI:=qD hi;have B0:Below w.heap.size w ((w.alloc (.cells (aD bW.s) 161)).alloc (.cells (aN g now fine (.slice none 0 0)) 171)):=((bZ _ w).alloc (nL _) _).alloc (by simp) _;have O0:=qD (ho.grown B0);obtain⟨f,hf⟩:∃f,f=(cY b).1:=⟨_,rfl⟩;have HD:Hid (∀w',Rd w' v b->Calls prog 155 #[v] w' fun e w''=>e= .returned (.tuple #[.agg (aD f.s),.int .i64 (cY b).2.val])/\Below w'.heap.size w' w''):=fun w' ho'=>by rw[hf];exact nf v b w' ho' hl
 have hz:=eI;have q1: ((cY b).2.val != 0)=true:=by simpa using he
 have q2: ((cY b).2.val==0)=false:=by simpa using he
 generalize (cY b).2.val=ev at HD q1 q2 ⊢;clear h ht hi ho hl hf he B0;go_enter func113,ntmps113;go_wp2;refine gM 0 rfl ?_;go_upto_region 6 with(first|((with_reducible show wpList _ _ _ (⟨some 18,_,_,_,_,_⟩::_) _ _);refine br _ (.agg (aN g now fine (.slice none 0 0))) _ rfl (by kernel_rfl) ?_)|(go_at_call 101;refine(HTM.o _).mono ?_;rintro r w1 ⟨rfl,hb1⟩;have M1:=qD (M0.o.below hb1);have O1:=qD (O0.o.grown hb1);clear hb1 O0 M0));have z1:=M1.o.row (i:=1) rfl;go_upto_region 7 with(go_at_call 155;refine(HD.o _ O1.o).mono ?_;rintro r w2 ⟨rfl,hb2⟩;have M2:=qD (M1.o.below hb2);have z2:=(ah hb2 (ab z1)).trans z1;clear hb2 O1 z1);have M3:Hid (Mem w F [(w.heap.size+1,.row (aN g now fine (.slice none 0 0))),(w.heap.size,.row (aD f.s)),(g,aO x)] (w2.setCells w.heap.size 0 (aD f.s).toList)):=M2.o.bC (i:=1) (cs':=aD f.s) rfl (by simp[bG]);clear M2 M1 HTM HD z2;generalize (w2.setCells w.heap.size 0 (aD f.s).toList)=w3 at*;generalize w.heap.size+1=gs at M3 ⊢;generalize w.heap.size=gf at M3 ⊢;obtain⟨a,h0,M4⟩:=ic (A:=[(gs,.row (aN g now fine (.slice none 0 0))),(gf,.row (aD f.s))]) M3.o;have H0:=qD h0;have M5:=qD M4;clear M4 h0 M3;have c84:w3.cell? ⟨g,84,none⟩=some (.int .i64 x.bad.val):=adR M5.o (i:=2) rfl H0.o;have z84:=ax (M5.o.row (i:=2) rfl) 84;have M6:Hid (Mem w F ([(gs,.row (aN g now fine (.slice none 0 0))),(gf,.row (aD f.s))]++aK {x with bad:=DM x} a g) (w3.setCell ⟨g,84,none⟩ (.int .i64 (DM x).val))):=M5.o.bO (i:=2) (k:=84) (v:= .int .i64 (DM x).val) rfl (pK (x:=x) (y:={x with bad:=DM x}) H0.o rfl 5 _ rfl);go_wp2
 go_step3
 go_wp2;refine⟨rfl,?_⟩;go_wp2;rw[Exit.noGoto_ret];go_wp2;go_ret2;rw[RC];exact⟨rfl,(dO H0.o M6.o).au.au⟩
theorem xB{α:Type}{l:List (Int×α)}{k:Int}{v:α}{p:Int×α}(h:p∈eX l k v):p∈l∨p=(k,v):=by
 unfold eX at h;split at h
 ·unfold dG at h;obtain⟨q,hq,rfl⟩:=List.mem_map.1 h;split
  ·exact .inr rfl
  ·exact .inl hq
 ·rcases List.mem_append.1 h with h|h
  ·exact .inl h
  ·exact .inr (by simpa using h)
theorem DN{α:Type}{l:List (Int×α)}{k:Int}{p:Int×α}(h:p∈sP l k):p∈l:=(List.mem_filter.1 h).1
theorem Kd{α:Type}{l:List (Int×α)}{k:Int}{v:α}(h:bJ l k=some v): (k,v)∈l:=by
 unfold bJ at h;cases hf:l.find? (fun p=>p.1==k) with
 |none=>rw[hf] at h;cases h
 |some p=>
  rw[hf] at h;have h1:=List.mem_of_find?_eq_some hf;have h2:=List.find?_some hf;have h3:p.1=k:=by simpa using h2
  have h4:p.2=v:=by simpa using h
  rw[<-h3,<-h4];exact h1
theorem zR{s:bh}{n:ae}{p:Int×bE}(h:p∈fa s n):p∈s.ents∨(p.1=n.val/\p.2.node=n/\∃e,bJ s.ents n.val=some e/\p.2.boot=e.boot):=by
 unfold fa at h;split at h
 ·exact .inl h
 ·rename_i e he;rcases xB h with h|rfl
  ·exact .inl h
  ·exact .inr ⟨rfl,rfl,e,he,rfl⟩
theorem Gp{s:bh}{n boot:ae}{x:de}{es:List (Int×bE)}(hx:j7 s n boot=some (x,es)){p:Int×bE}(h:p∈es):p∈s.ents∨(p.1=n.val/\p.2.node=n/\∃e,bJ s.ents n.val=some e/\p.2.boot=e.boot):=by
 unfold j7 at hx;split at hx
 ·split at hx
  ·split at hx
   ·cases hx
   ·simp only[oI,Prod.mk.injEq] at hx;rw[<-hx.2] at h;exact .inl h
  ·split at hx
   ·simp only[oI,Prod.mk.injEq] at hx;rw[<-hx.2] at h;exact zR h
   ·cases hx
 ·simp only[oI,Prod.mk.injEq] at hx;rw[<-hx.2] at h;exact zR h
theorem Om{s:bh}{n boot now:ae}{p:Int×bE}(h:p∈(kb s n boot now).ents):p∈s.ents∨(p.1=n.val/\p.2.node=n/\p.2.boot=boot):=by
 unfold kb at h;rcases xB h with h|rfl
 ·split at h
  ·exact .inl (DN h)
  ·exact .inl h
 ·exact .inr ⟨rfl,rfl,rfl⟩
theorem DO{s:bh}{n boot seq now:ae}{p:Int×bE}(h:p∈(eo s n boot seq now).2.ents):p∈s.ents∨(p.1=n.val/\p.2.node=n/\(p.2.boot=boot∨∃e,bJ s.ents n.val=some e/\p.2.boot=e.boot)):=by
 unfold eo at h;split at h
 ·split at h
  ·exact .inl h
  ·rename_i x es hx;have key:∀q:Int×bE,q∈es->q∈s.ents∨(q.1=n.val/\q.2.node=n/\(q.2.boot=boot∨∃e,bJ s.ents n.val=some e/\q.2.boot=e.boot)):=fun q hq=>(Gp hx hq).imp id fun⟨a,b,c⟩=>⟨a,b,.inr c⟩;split at h
   ·rcases Om h with h|⟨a,b,c⟩
    ·exact key _ h
    ·exact .inr ⟨a,b,.inl c⟩
   ·exact key _ h
 ·exact .inl h
theorem cw.xC{x:ak}(h:cw x)(n boot seq now:ae):cw {x with t:=(eo x.t n boot seq now).2}:=
 ⟨C9 h.t,fun p hp=>by
  rcases DO hp with hp|⟨a,b,_⟩
  ·exact h.k p hp
  ·rw[b];exact a.symm,h.s⟩
theorem Ke(g:Nat)(x:ak)(v:Value)(b:List UInt8)(at_ now fine:ae)(F:Nat->Prop)(w:World)(hi:cw x)(ho:Rd w v b)(hl:b.length<=1000000)(ht:fP now=true)(f:bX)(hf:f=(cY b).1)(he: (cY b).2.val=0)(hs:f.src.val=x.id.val)(h: (aO x).rep g F w):Calls prog 113 #[.pointer (some ⟨g,0,none⟩),v,.int .i64 at_.val,.int .i64 now.val,.int .i64 fine.val] w fun r w'=>r= .returned (.tuple #[.slice none 0 0,.int .i64 9])/\Mem w F [(g,aO x)] w':=by
 have HTM:=qD (ly now);rw[ht] at HTM;have M0:Hid (Mem w F [(w.heap.size+1,.row (aN g now fine (.slice none 0 0))),(w.heap.size,.row (aD bW.s)),(g,aO x)] ((w.alloc (.cells (aD bW.s) 161)).alloc (.cells (aN g now fine (.slice none 0 0)) 171))):=oZ h;have HL:=qD hl;have HI:=qD hi;have B0:Below w.heap.size w ((w.alloc (.cells (aD bW.s) 161)).alloc (.cells (aN g now fine (.slice none 0 0)) 171)):=((bZ _ w).alloc (nL _) _).alloc (by simp) _;have O0:=qD (ho.grown B0);have HD:Hid (∀w',Rd w' v b->Calls prog 155 #[v] w' fun e w''=>e= .returned (.tuple #[.agg (aD f.s),.int .i64 (cY b).2.val])/\Below w'.heap.size w' w''):=fun w' ho'=>by rw[hf];exact nf v b w' ho' hl
 have hz:=eI;have q1: ((cY b).2.val != 0)=false:=by simpa using he
 have q2: ((cY b).2.val==0)=true:=by simpa using he
 generalize (cY b).2.val=ev at HD q1 q2;have b1: (f.src.val==x.id.val)=true:=by simpa using hs
 clear h ht hi ho hl hf he hs B0;go_enter func113,ntmps113;go_wp2;refine gM 0 rfl ?_;go_upto_region 6 with(first|((with_reducible show wpList _ _ _ (⟨some 18,_,_,_,_,_⟩::_) _ _);refine br _ (.agg (aN g now fine (.slice none 0 0))) _ rfl (by kernel_rfl) ?_)|(go_at_call 101;refine(HTM.o _).mono ?_;rintro r w1 ⟨rfl,hb1⟩;have M1:=qD (M0.o.below hb1);have O1:=qD (O0.o.grown hb1);clear hb1 O0 M0));have z1:=M1.o.row (i:=1) rfl;go_upto_region 7 with(go_at_call 155;refine(HD.o _ O1.o).mono ?_;rintro r w2 ⟨rfl,hb2⟩;have M2:=qD (M1.o.below hb2);have z2:=(ah hb2 (ab z1)).trans z1;clear hb2 O1 z1);have M3:Hid (Mem w F [(w.heap.size+1,.row (aN g now fine (.slice none 0 0))),(w.heap.size,.row (aD f.s)),(g,aO x)] (w2.setCells w.heap.size 0 (aD f.s).toList)):=M2.o.bC (i:=1) (cs':=aD f.s) rfl (by simp[bG]);clear M2 M1 HTM HD z2;generalize (w2.setCells w.heap.size 0 (aD f.s).toList)=w3 at*;generalize w.heap.size+1=gs at M3 ⊢;generalize w.heap.size=gf at M3 ⊢;obtain⟨a,h0,M4⟩:=ic (A:=[(gs,.row (aN g now fine (.slice none 0 0))),(gf,.row (aD f.s))]) M3.o;have H0:=qD h0;have M5:Hid (Mem w F ([(gs,.row (aN g now fine (.slice none 0 0))),(gf,.row (aD f.s))]++aK x a g) w3):=M4;clear M4 h0 M3;go_upto_region 9 with(fail);have e1:w3.cell? ⟨gf,1,none⟩=some (.int .i64 f.src.val):=M5.o.cell (i:=1) (k:=1) rfl rfl;have c11:w3.cell? ⟨g,11,none⟩=some (.int .i64 x.id.val):=pW M5.o (i:=2) rfl;have l1:=ab (M5.o.row (i:=1) rfl);have l2:=ab (M5.o.row (i:=2) rfl);refine aY ?_
 repeat quiet_step (fail)
 refine wpQuiet_nil ?_;intro w4 hb4;have M6:=qD (M5.o.below hb4);clear M5 e1 c11 l1 l2 hb4;go_wp2
 go_step3
 go_wp2;refine⟨rfl,?_⟩;go_wp2;rw[Exit.noGoto_ret];go_wp2;go_ret2;exact⟨rfl,(dO H0.o M6.o).au.au⟩
theorem Kf(g:Nat)(x:ak)(v:Value)(b:List UInt8)(at_ now fine:ae)(F:Nat->Prop)(w:World)(hi:cw x)(ho:Rd w v b)(hl:b.length<=1000000)(ht:fP now=true)(f:bX)(hf:f=(cY b).1)(he: (cY b).2.val=0)(hs:f.src.val≠x.id.val)(fr:ae)(hfr:fr=sT f.stamp now x.c.2.2.2.2.2.2.1 x.c.2.2.2.2.1)(hn:fr.val≠0)(h: (aO x).rep g F w):Calls prog 113 #[.pointer (some ⟨g,0,none⟩),v,.int .i64 at_.val,.int .i64 now.val,.int .i64 fine.val] w fun r w'=>r= .returned (.tuple #[.slice none 0 0,.int .i64 fr.val])/\Mem w F [(g,aO x)] w':=by
 have HTM:=qD (ly now);rw[ht] at HTM;have M0:Hid (Mem w F [(w.heap.size+1,.row (aN g now fine (.slice none 0 0))),(w.heap.size,.row (aD bW.s)),(g,aO x)] ((w.alloc (.cells (aD bW.s) 161)).alloc (.cells (aN g now fine (.slice none 0 0)) 171))):=oZ h;have HL:=qD hl;have HI:=qD hi;have B0:Below w.heap.size w ((w.alloc (.cells (aD bW.s) 161)).alloc (.cells (aN g now fine (.slice none 0 0)) 171)):=((bZ _ w).alloc (nL _) _).alloc (by simp) _;have O0:=qD (ho.grown B0);have HD:Hid (∀w',Rd w' v b->Calls prog 155 #[v] w' fun e w''=>e= .returned (.tuple #[.agg (aD f.s),.int .i64 (cY b).2.val])/\Below w'.heap.size w' w''):=fun w' ho'=>by rw[hf];exact nf v b w' ho' hl
 have hz:=eI;have q1: ((cY b).2.val != 0)=false:=by simpa using he
 have q2: ((cY b).2.val==0)=true:=by simpa using he
 generalize (cY b).2.val=ev at HD q1 q2;have b1: (f.src.val==x.id.val)=false:=by simpa using hs
 have HFR:Hid (∀w,Calls prog 156 #[.int .i64 f.stamp.val,.int .i64 now.val,.int .i64 x.c.2.2.2.2.2.2.1.val,.int .i64 x.c.2.2.2.2.1.val] w fun e w'=>e= .returned (.int .i64 fr.val)/\Below w.heap.size w w'):=fun w=>by rw[hfr];exact wW _ _ _ _ w
 have b2: (fr.val != 0)=true:=by simpa using hn
 have b3: (fr.val==0)=false:=by simpa using hn
 clear h ht hi ho hl hf he hs hn hfr B0;go_enter func113,ntmps113;go_wp2;refine gM 0 rfl ?_;go_upto_region 6 with(first|((with_reducible show wpList _ _ _ (⟨some 18,_,_,_,_,_⟩::_) _ _);refine br _ (.agg (aN g now fine (.slice none 0 0))) _ rfl (by kernel_rfl) ?_)|(go_at_call 101;refine(HTM.o _).mono ?_;rintro r w1 ⟨rfl,hb1⟩;have M1:=qD (M0.o.below hb1);have O1:=qD (O0.o.grown hb1);clear hb1 O0 M0));have z1:=M1.o.row (i:=1) rfl;go_upto_region 7 with(go_at_call 155;refine(HD.o _ O1.o).mono ?_;rintro r w2 ⟨rfl,hb2⟩;have M2:=qD (M1.o.below hb2);have z2:=(ah hb2 (ab z1)).trans z1;clear hb2 O1 z1);have M3:Hid (Mem w F [(w.heap.size+1,.row (aN g now fine (.slice none 0 0))),(w.heap.size,.row (aD f.s)),(g,aO x)] (w2.setCells w.heap.size 0 (aD f.s).toList)):=M2.o.bC (i:=1) (cs':=aD f.s) rfl (by simp[bG]);clear M2 M1 HTM HD z2;generalize (w2.setCells w.heap.size 0 (aD f.s).toList)=w3 at*;generalize w.heap.size+1=gs at M3 ⊢;generalize w.heap.size=gf at M3 ⊢;obtain⟨a,h0,M4⟩:=ic (A:=[(gs,.row (aN g now fine (.slice none 0 0))),(gf,.row (aD f.s))]) M3.o;have H0:=qD h0;have M5:Hid (Mem w F ([(gs,.row (aN g now fine (.slice none 0 0))),(gf,.row (aD f.s))]++aK x a g) w3):=M4;clear M4 h0 M3;go_upto_region 9 with(fail);have e1:w3.cell? ⟨gf,1,none⟩=some (.int .i64 f.src.val):=M5.o.cell (i:=1) (k:=1) rfl rfl;have c11:w3.cell? ⟨g,11,none⟩=some (.int .i64 x.id.val):=pW M5.o (i:=2) rfl;have l1:=ab (M5.o.row (i:=1) rfl);have l2:=ab (M5.o.row (i:=2) rfl);refine aY ?_
 repeat quiet_step (fail)
 refine wpQuiet_nil ?_;intro w4 hb4;have M6:=qD (M5.o.below hb4);clear M5 e1 c11 l1 l2 hb4;go_upto_region 11 with(fail);have e4:w4.cell? ⟨gf,4,none⟩=some (.int .i64 f.stamp.val):=M6.o.cell (i:=1) (k:=4) rfl rfl;have c6:w4.cell? ⟨g,6,none⟩=some (.int .i64 x.c.2.2.2.2.2.2.1.val):=nc6 M6.o (i:=2) rfl;have c4:w4.cell? ⟨g,4,none⟩=some (.int .i64 x.c.2.2.2.2.1.val):=nc4 M6.o (i:=2) rfl;have l1:=ab (M6.o.row (i:=1) rfl);have l2:=ab (M6.o.row (i:=2) rfl);refine ar 13 ?_;simp only[tA,tD,tC,tE]
 repeat quiet_step (fail)
 refine wpQuiet_nil ?_;intro w5 hb5;have M7:=qD (M6.o.below hb5);clear M6 e4 c6 c4 l1 l2 hb5;go_upto_region 12 with(go_at_call 156;refine Mem.qB (HFR.o _) M7.o fun w6 M8=>?_;clear M7);go_wp2
 go_step3
 go_wp2;refine⟨rfl,?_⟩;go_wp2;rw[Exit.noGoto_ret];go_wp2;go_ret2;exact⟨rfl,(dO H0.o M8.o).au.au⟩
theorem Kg(g:Nat)(x:ak)(v:Value)(b:List UInt8)(at_ now fine:ae)(F:Nat->Prop)(w:World)(hi:cw x)(ho:Rd w v b)(hl:b.length<=1000000)(ht:fP now=true)(f:bX)(hf:f=(cY b).1)(he: (cY b).2.val=0)(hs:f.src.val≠x.id.val)(fr:ae)(hfr:fr=sT f.stamp now x.c.2.2.2.2.2.2.1 x.c.2.2.2.2.1)(hn:fr.val=0)(hE:Int)(hT:bh)(hh: (hE,hT)=eo x.t f.src f.boot f.seq now)(hx:hE≠0)(h: (aO x).rep g F w):Calls prog 113 #[.pointer (some ⟨g,0,none⟩),v,.int .i64 at_.val,.int .i64 now.val,.int .i64 fine.val] w fun r w'=>r= .returned (.tuple #[.slice none 0 0,.int .i64 hE])/\Mem w F [(g,aO {x with t:=hT})] w':=by
 have HTM:=qD (ly now);rw[ht] at HTM;have M0:Hid (Mem w F [(w.heap.size+1,.row (aN g now fine (.slice none 0 0))),(w.heap.size,.row (aD bW.s)),(g,aO x)] ((w.alloc (.cells (aD bW.s) 161)).alloc (.cells (aN g now fine (.slice none 0 0)) 171))):=oZ h;have HL:=qD hl;have HI:=qD hi;have B0:Below w.heap.size w ((w.alloc (.cells (aD bW.s) 161)).alloc (.cells (aN g now fine (.slice none 0 0)) 171)):=((bZ _ w).alloc (nL _) _).alloc (by simp) _;have O0:=qD (ho.grown B0);have HD:Hid (∀w',Rd w' v b->Calls prog 155 #[v] w' fun e w''=>e= .returned (.tuple #[.agg (aD f.s),.int .i64 (cY b).2.val])/\Below w'.heap.size w' w''):=fun w' ho'=>by rw[hf];exact nf v b w' ho' hl
 have hz:=eI;have q1: ((cY b).2.val != 0)=false:=by simpa using he
 have q2: ((cY b).2.val==0)=true:=by simpa using he
 generalize (cY b).2.val=ev at HD q1 q2;have b1: (f.src.val==x.id.val)=false:=by simpa using hs
 have HFR:Hid (∀w,Calls prog 156 #[.int .i64 f.stamp.val,.int .i64 now.val,.int .i64 x.c.2.2.2.2.2.2.1.val,.int .i64 x.c.2.2.2.2.1.val] w fun e w'=>e= .returned (.int .i64 fr.val)/\Below w.heap.size w w'):=fun w=>by rw[hfr];exact wW _ _ _ _ w
 have HTH:Hid (∀w g' F1,(eW x.t).rep g' F1 w->Calls prog 157 #[.pointer (some ⟨g',0,none⟩),.int .i64 f.src.val,.int .i64 f.boot.val,.int .i64 f.seq.val,.int .i64 now.val] w fun r w'=>r= .returned (.int .i64 hE)/\kE (eW hT) g' F1 w w'):=fun w g' F1 hF=>by have key:=Da x.t g' F1 w f.src f.boot f.seq now hi.t hF;rw[<-hh] at key;exact key
 have b2: (fr.val != 0)=false:=by simpa using hn
 have b3: (fr.val==0)=true:=by simpa using hn
 have b4: (hE != 0)=true:=by simpa using hx
 have b5: (hE==0)=false:=by simpa using hx
 clear h ht hi ho hl hf he hs hn hfr hh hx B0;go_enter func113,ntmps113;go_wp2;refine gM 0 rfl ?_;go_upto_region 6 with(first|((with_reducible show wpList _ _ _ (⟨some 18,_,_,_,_,_⟩::_) _ _);refine br _ (.agg (aN g now fine (.slice none 0 0))) _ rfl (by kernel_rfl) ?_)|(go_at_call 101;refine(HTM.o _).mono ?_;rintro r w1 ⟨rfl,hb1⟩;have M1:=qD (M0.o.below hb1);have O1:=qD (O0.o.grown hb1);clear hb1 O0 M0));have z1:=M1.o.row (i:=1) rfl;go_upto_region 7 with(go_at_call 155;refine(HD.o _ O1.o).mono ?_;rintro r w2 ⟨rfl,hb2⟩;have M2:=qD (M1.o.below hb2);have z2:=(ah hb2 (ab z1)).trans z1;clear hb2 O1 z1);have M3:Hid (Mem w F [(w.heap.size+1,.row (aN g now fine (.slice none 0 0))),(w.heap.size,.row (aD f.s)),(g,aO x)] (w2.setCells w.heap.size 0 (aD f.s).toList)):=M2.o.bC (i:=1) (cs':=aD f.s) rfl (by simp[bG]);clear M2 M1 HTM HD z2;generalize (w2.setCells w.heap.size 0 (aD f.s).toList)=w3 at*;generalize w.heap.size+1=gs at M3 ⊢;generalize w.heap.size=gf at M3 ⊢;obtain⟨a,h0,M4⟩:=ic (A:=[(gs,.row (aN g now fine (.slice none 0 0))),(gf,.row (aD f.s))]) M3.o;have H0:=qD h0;have M5:Hid (Mem w F ([(gs,.row (aN g now fine (.slice none 0 0))),(gf,.row (aD f.s))]++aK x a g) w3):=M4;clear M4 h0 M3;go_upto_region 9 with(fail);have e1:w3.cell? ⟨gf,1,none⟩=some (.int .i64 f.src.val):=M5.o.cell (i:=1) (k:=1) rfl rfl;have c11:w3.cell? ⟨g,11,none⟩=some (.int .i64 x.id.val):=pW M5.o (i:=2) rfl;have l1:=ab (M5.o.row (i:=1) rfl);have l2:=ab (M5.o.row (i:=2) rfl);refine aY ?_
 repeat quiet_step (fail)
 refine wpQuiet_nil ?_;intro w4 hb4;have M6:=qD (M5.o.below hb4);clear M5 e1 c11 l1 l2 hb4;go_upto_region 11 with(fail);have e4:w4.cell? ⟨gf,4,none⟩=some (.int .i64 f.stamp.val):=M6.o.cell (i:=1) (k:=4) rfl rfl;have c6:w4.cell? ⟨g,6,none⟩=some (.int .i64 x.c.2.2.2.2.2.2.1.val):=nc6 M6.o (i:=2) rfl;have c4:w4.cell? ⟨g,4,none⟩=some (.int .i64 x.c.2.2.2.2.1.val):=nc4 M6.o (i:=2) rfl;have l1:=ab (M6.o.row (i:=1) rfl);have l2:=ab (M6.o.row (i:=2) rfl);refine ar 13 ?_;simp only[tA,tD,tC,tE]
 repeat quiet_step (fail)
 refine wpQuiet_nil ?_;intro w5 hb5;have M7:=qD (M6.o.below hb5);clear M6 e4 c6 c4 l1 l2 hb5;go_upto_region 12 with(go_at_call 156;refine Mem.qB (HFR.o _) M7.o fun w6 M8=>?_;clear M7);go_upto_region 13 with(fail);have e1:w6.cell? ⟨gf,1,none⟩=some (.int .i64 f.src.val):=M8.o.cell (i:=1) (k:=1) rfl rfl;have e2:w6.cell? ⟨gf,2,none⟩=some (.int .i64 f.boot.val):=M8.o.cell (i:=1) (k:=2) rfl rfl;have e3:w6.cell? ⟨gf,3,none⟩=some (.int .i64 f.seq.val):=M8.o.cell (i:=1) (k:=3) rfl rfl;have c14:w6.cell? ⟨g,14,none⟩=some (.pointer (some ⟨a.t,0,none⟩)):=tg M8.o (i:=2) rfl;have l1:=ab (M8.o.row (i:=1) rfl);have l2:=ab (M8.o.row (i:=2) rfl);refine ar 11 ?_;simp only[tA,tD,tC,tE]
 repeat quiet_step (fail)
 refine wpQuiet_nil ?_;intro w7 hb7;have M9:=qD (M8.o.below hb7);clear M8 e1 e2 e3 c14 l1 l2 hb7;have HC:Hid (Calls prog 157 #[.pointer (some ⟨a.t,0,none⟩),.int .i64 f.src.val,.int .i64 f.boot.val,.int .i64 f.seq.val,.int .i64 now.val] w7 fun e w'=>e= .returned (.int .i64 hE)/\Mem w F ([(gs,.row (aN g now fine (.slice none 0 0))),(gf,.row (aD f.s))]++aK {x with t:=hT} a g) w'):=M9.o.bD (i:=4) (g:=a.t) rfl (fun F1 hF=>HTH.o w7 a.t F1 hF);clear HTH M9;go_upto_region 14 with(go_at_call 157;refine qHG HC.o fun w8 M10=>?_);clear HC;go_wp2
 go_step3
 go_wp2;refine⟨rfl,?_⟩;go_wp2;rw[Exit.noGoto_ret];go_wp2;go_ret2;exact⟨rfl,(dO H0.o M10.o).au.au⟩
theorem Gq(g:Nat)(x:ak)(v:Value)(b:List UInt8)(at_ now fine:ae)(F:Nat->Prop)(w:World)(hi:cw x)(ho:Rd w v b)(hl:b.length<=1000000)(ht:fP now=true)(f:bX)(hf:f=(cY b).1)(he: (cY b).2.val=0)(hs:f.src.val≠x.id.val)(fr:ae)(hfr:fr=sT f.stamp now x.c.2.2.2.2.2.2.1 x.c.2.2.2.2.1)(hn:fr.val=0)(hE:Int)(hT:bh)(hh: (hE,hT)=eo x.t f.src f.boot f.seq now)(hx:hE=0)(hlo:0<=f.src.val)(hhi:f.src.val<64)(h: (aO x).rep g F w):Calls prog 113 #[.pointer (some ⟨g,0,none⟩),v,.int .i64 at_.val,.int .i64 now.val,.int .i64 fine.val] w fun r w'=>∃v,r= .returned (.tuple #[v,.int .i64 0])/\Mem w F ([(0,.own 163 16 aM v (qd {x with t:=hT} f at_ now fine))]++ [(g,aO (takeN {x with t:=hT} f at_ now fine))]) w':=by
 have HTM:=qD (ly now);rw[ht] at HTM;have M0:Hid (Mem w F [(w.heap.size+1,.row (aN g now fine (.slice none 0 0))),(w.heap.size,.row (aD bW.s)),(g,aO x)] ((w.alloc (.cells (aD bW.s) 161)).alloc (.cells (aN g now fine (.slice none 0 0)) 171))):=oZ h;have HL:=qD hl;have HI:=qD hi;have B0:Below w.heap.size w ((w.alloc (.cells (aD bW.s) 161)).alloc (.cells (aN g now fine (.slice none 0 0)) 171)):=((bZ _ w).alloc (nL _) _).alloc (by simp) _;have O0:=qD (ho.grown B0);have HD:Hid (∀w',Rd w' v b->Calls prog 155 #[v] w' fun e w''=>e= .returned (.tuple #[.agg (aD f.s),.int .i64 (cY b).2.val])/\Below w'.heap.size w' w''):=fun w' ho'=>by rw[hf];exact nf v b w' ho' hl
 have hz:=eI;have q1: ((cY b).2.val != 0)=false:=by simpa using he
 have q2: ((cY b).2.val==0)=true:=by simpa using he
 generalize (cY b).2.val=ev at HD q1 q2;have b1: (f.src.val==x.id.val)=false:=by simpa using hs
 have HFR:Hid (∀w,Calls prog 156 #[.int .i64 f.stamp.val,.int .i64 now.val,.int .i64 x.c.2.2.2.2.2.2.1.val,.int .i64 x.c.2.2.2.2.1.val] w fun e w'=>e= .returned (.int .i64 fr.val)/\Below w.heap.size w w'):=fun w=>by rw[hfr];exact wW _ _ _ _ w
 have HTH:Hid (∀w g' F1,(eW x.t).rep g' F1 w->Calls prog 157 #[.pointer (some ⟨g',0,none⟩),.int .i64 f.src.val,.int .i64 f.boot.val,.int .i64 f.seq.val,.int .i64 now.val] w fun r w'=>r= .returned (.int .i64 hE)/\kE (eW hT) g' F1 w w'):=fun w g' F1 hF=>by have key:=Da x.t g' F1 w f.src f.boot f.seq now hi.t hF;rw[<-hh] at key;exact key
 have b2: (fr.val != 0)=false:=by simpa using hn
 have b3: (fr.val==0)=true:=by simpa using hn
 have HI2:Hid (cw {x with t:=hT}):=by have:=hi.xC f.src f.boot f.seq now;rw[<-hh] at this;exact this
 subst hx;have HLO:=qD hlo;have HHI:=qD hhi;have HTK:Hid (∀gs F1 w1,(cq g {x with t:=hT} now fine []).rep gs F1 w1->Calls prog 158 #[.pointer (some ⟨g,0,none⟩),.agg (aL f at_ gs)] w1 fun r w'=>r= .returned (.tuple #[])/\kE (cq g (takeN {x with t:=hT} f at_ now fine) now fine (qd {x with t:=hT} f at_ now fine)) gs F1 w1 w'):=fun gs F1 w1 hF=>N3 g gs {x with t:=hT} now fine [] F1 w1 f at_ HI2.o hlo hhi (by decide) hF;generalize takeN {x with t:=hT} f at_ now fine=y at HTK ⊢;generalize qd {x with t:=hT} f at_ now fine=os at HTK ⊢;clear h ht hi ho hl hf he hs hn hfr hh B0 hlo hhi;go_enter func113,ntmps113;go_wp2;refine gM 0 rfl ?_;go_upto_region 6 with(first|((with_reducible show wpList _ _ _ (⟨some 18,_,_,_,_,_⟩::_) _ _);refine br _ (.agg (aN g now fine (.slice none 0 0))) _ rfl (by kernel_rfl) ?_)|(go_at_call 101;refine(HTM.o _).mono ?_;rintro r w1 ⟨rfl,hb1⟩;have M1:=qD (M0.o.below hb1);have O1:=qD (O0.o.grown hb1);clear hb1 O0 M0));have z1:=M1.o.row (i:=1) rfl;go_upto_region 7 with(go_at_call 155;refine(HD.o _ O1.o).mono ?_;rintro r w2 ⟨rfl,hb2⟩;have M2:=qD (M1.o.below hb2);have z2:=(ah hb2 (ab z1)).trans z1;clear hb2 O1 z1);have M3:Hid (Mem w F [(w.heap.size+1,.row (aN g now fine (.slice none 0 0))),(w.heap.size,.row (aD f.s)),(g,aO x)] (w2.setCells w.heap.size 0 (aD f.s).toList)):=M2.o.bC (i:=1) (cs':=aD f.s) rfl (by simp[bG]);clear M2 M1 HTM HD z2;generalize (w2.setCells w.heap.size 0 (aD f.s).toList)=w3 at*;generalize w.heap.size+1=gs at M3 ⊢;generalize w.heap.size=gf at M3 ⊢;obtain⟨a,h0,M4⟩:=ic (A:=[(gs,.row (aN g now fine (.slice none 0 0))),(gf,.row (aD f.s))]) M3.o;have H0:=qD h0;have M5:Hid (Mem w F ([(gs,.row (aN g now fine (.slice none 0 0))),(gf,.row (aD f.s))]++aK x a g) w3):=M4;clear M4 h0 M3;go_upto_region 9 with(fail);have e1:w3.cell? ⟨gf,1,none⟩=some (.int .i64 f.src.val):=M5.o.cell (i:=1) (k:=1) rfl rfl;have c11:w3.cell? ⟨g,11,none⟩=some (.int .i64 x.id.val):=pW M5.o (i:=2) rfl;have l1:=ab (M5.o.row (i:=1) rfl);have l2:=ab (M5.o.row (i:=2) rfl);refine aY ?_
 repeat quiet_step (fail)
 refine wpQuiet_nil ?_;intro w4 hb4;have M6:=qD (M5.o.below hb4);clear M5 e1 c11 l1 l2 hb4;go_upto_region 11 with(fail);have e4:w4.cell? ⟨gf,4,none⟩=some (.int .i64 f.stamp.val):=M6.o.cell (i:=1) (k:=4) rfl rfl;have c6:w4.cell? ⟨g,6,none⟩=some (.int .i64 x.c.2.2.2.2.2.2.1.val):=nc6 M6.o (i:=2) rfl;have c4:w4.cell? ⟨g,4,none⟩=some (.int .i64 x.c.2.2.2.2.1.val):=nc4 M6.o (i:=2) rfl;have l1:=ab (M6.o.row (i:=1) rfl);have l2:=ab (M6.o.row (i:=2) rfl);refine ar 13 ?_;simp only[tA,tD,tC,tE]
 repeat quiet_step (fail)
 refine wpQuiet_nil ?_;intro w5 hb5;have M7:=qD (M6.o.below hb5);clear M6 e4 c6 c4 l1 l2 hb5;go_upto_region 12 with(go_at_call 156;refine Mem.qB (HFR.o _) M7.o fun w6 M8=>?_;clear M7);go_upto_region 13 with(fail);have e1:w6.cell? ⟨gf,1,none⟩=some (.int .i64 f.src.val):=M8.o.cell (i:=1) (k:=1) rfl rfl;have e2:w6.cell? ⟨gf,2,none⟩=some (.int .i64 f.boot.val):=M8.o.cell (i:=1) (k:=2) rfl rfl;have e3:w6.cell? ⟨gf,3,none⟩=some (.int .i64 f.seq.val):=M8.o.cell (i:=1) (k:=3) rfl rfl;have c14:w6.cell? ⟨g,14,none⟩=some (.pointer (some ⟨a.t,0,none⟩)):=tg M8.o (i:=2) rfl;have l1:=ab (M8.o.row (i:=1) rfl);have l2:=ab (M8.o.row (i:=2) rfl);refine ar 11 ?_;simp only[tA,tD,tC,tE]
 repeat quiet_step (fail)
 refine wpQuiet_nil ?_;intro w7 hb7;have M9:=qD (M8.o.below hb7);clear M8 e1 e2 e3 c14 l1 l2 hb7;have HC:Hid (Calls prog 157 #[.pointer (some ⟨a.t,0,none⟩),.int .i64 f.src.val,.int .i64 f.boot.val,.int .i64 f.seq.val,.int .i64 now.val] w7 fun e w'=>e= .returned (.int .i64 0)/\Mem w F ([(gs,.row (aN g now fine (.slice none 0 0))),(gf,.row (aD f.s))]++aK {x with t:=hT} a g) w'):=M9.o.bD (i:=4) (g:=a.t) rfl (fun F1 hF=>HTH.o w7 a.t F1 hF);clear HTH M9;go_upto_region 14 with(go_at_call 157;refine qHG HC.o fun w8 M10=>?_);clear HC;have M11:Hid (Mem w F ([(gf,.row (aD f.s))]++ [(gs,cq g {x with t:=hT} now fine [])]) w8):=rI (A:=[(gf,.row (aD f.s))]) H0.o ((Mem.nil (α:=bX×ae) (e:=163) (m:=16) (c:=aM) M10.o).perm (L':=([(gf,.row (aD f.s))]++ [(gs,.row (aN g now fine (.slice none 0 0))),(0,.own 163 16 aM (.slice none 0 0) [])])++aK {x with t:=hT} a g) (by simp only[List.cons_append,List.nil_append];exact(List.Perm.swap _ _ _).trans (((List.Perm.swap _ _ _).cons _).trans (List.Perm.swap _ _ _))));clear M10 H0;have ef:=M11.o.row (i:=0) rfl;have HC:Hid (Calls prog 158 #[.pointer (some ⟨g,0,none⟩),.agg (aL f at_ gs)] w8 fun e w'=>e= .returned (.tuple #[])/\Mem w F [(gf,.row (aD f.s)),(gs,cq g y now fine os)] w'):=M11.o.bD (i:=1) (g:=gs) rfl (fun F1 hF=>HTK.o gs F1 w8 hF);clear HTK M11;go_upto_region 16 with(first|((with_reducible show wpList _ _ _ (⟨some 84,_,_,_,_,_⟩::_) _ _);refine br _ (.agg (aL f at_ gs)) w8 rfl (by kernel_rfl) ?_)|(go_at_call 158;refine qHG HC.o fun w9 M12=>?_));clear HC ef;obtain⟨vv,a2,h02,M13⟩:=Ip (A:=[(gf,.row (aD f.s))]) M12.o;have M14:Hid (Mem w F ([(gf,.row (aD f.s)),(gs,.row (aN g now fine vv)),(0,.own 163 16 aM vv os)]++aK y a2 g) w9):=M13;have H02:=qD h02;obtain⟨va,vc,hve⟩:=(M14.o.own (i:=2) rfl).len;subst hve;have c3:w9.cell? ⟨gs,3,none⟩=some (.slice va os.length vc):=M14.o.cell (i:=1) (k:=3) rfl rfl;have gl:=ab (M14.o.row (i:=1) rfl);clear M12 M13 h02;go_wp2;rw[Exit.Oj];go_wp2;go_ret2;exact⟨_,rfl,(dO H02.o M14.o).au.au⟩
def DP(x:ak)(f:bX)(now:ae):Int×bh:=eo x.t f.src f.boot f.seq now
def RD(x:ak)(f:bX)(now:ae):ae:=sT f.stamp now x.c.2.2.2.2.2.2.1 x.c.2.2.2.2.1
def hrN(x:ak)(f:bX)(at_ now fine:ae):ak:=
 if f.src.val=x.id.val then x else if (RD x f now).val≠0 then x
 else if (DP x f now).1≠0 then{x with t:=(DP x f now).2} else takeN {x with t:=(DP x f now).2} f at_ now fine
def hrO(x:ak)(f:bX)(at_ now fine:ae):List (bX×ae):=
 if f.src.val=x.id.val then[] else if (RD x f now).val≠0 then[]
 else if (DP x f now).1≠0 then[] else qd {x with t:=(DP x f now).2} f at_ now fine
def nS(x:ak)(b:List UInt8)(at_ now fine:ae):ak:=
 if fP now then(if (cY b).2.val≠0 then{x with bad:=DM x} else hrN x (cY b).1 at_ now fine) else x
def ae7(x:ak)(b:List UInt8)(at_ now fine:ae):List (bX×ae):=
 if fP now then(if (cY b).2.val≠0 then[] else hrO x (cY b).1 at_ now fine) else[]
theorem On{s:bh}{n boot seq now:ae}(h: (eo s n boot seq now).1=0):0<=n.val/\n.val<64:=by
 unfold eo at h;split at h
 ·rename_i hok;simp only[bI] at hok;exact nH hok.1.1.1
 ·cases h
theorem o0{F:Nat->Prop}{w w':World}{L:List (Nat×aj)}(h:Mem w F L w'):Mem w F ([(0,.own 163 16 aM (.slice none 0 0) [])]++L) w':=Mem.nil h
theorem Oo(g:Nat)(x:ak)(v:Value)(b:List UInt8)(at_ now fine:ae)(F:Nat->Prop)(w:World)(hi:cw x)(ho:Rd w v b)(hl:b.length<=1000000)(h: (aO x).rep g F w):Calls prog 113 #[.pointer (some ⟨g,0,none⟩),v,.int .i64 at_.val,.int .i64 now.val,.int .i64 fine.val] w fun r w'=>∃v e,r= .returned (.tuple #[v,.int .i64 e])/\Mem w F ([(0,.own 163 16 aM v (ae7 x b at_ now fine))]++ [(g,aO (nS x b at_ now fine))]) w':=by
 unfold ae7 nS;cases ht:fP now with
 |false=>
  refine(Ol g x v at_ now fine F w ht h).mono ?_;rintro r w' ⟨rfl,hM⟩;exact⟨_,_,rfl,o0 hM⟩
 |true=>
  rw[if_pos rfl,if_pos rfl];by_cases he: (cY b).2.val≠0
  ·rw[if_pos he,if_pos he];refine(Kc g x v b at_ now fine F w hi ho hl ht he h).mono ?_;rintro r w' ⟨rfl,hM⟩;exact⟨_,_,rfl,o0 hM⟩
  ·rw[if_neg he,if_neg he];have he: (cY b).2.val=0:=Decidable.not_not.1 he;unfold hrO hrN;by_cases hs: (cY b).1.src.val=x.id.val
   ·rw[if_pos hs,if_pos hs];refine(Ke g x v b at_ now fine F w hi ho hl ht _ rfl he hs h).mono ?_;rintro r w' ⟨rfl,hM⟩;exact⟨_,_,rfl,o0 hM⟩
   ·rw[if_neg hs,if_neg hs];by_cases hn: (RD x (cY b).1 now).val≠0
    ·rw[if_pos hn,if_pos hn];refine(Kf g x v b at_ now fine F w hi ho hl ht _ rfl he hs _ rfl hn h).mono ?_;rintro r w' ⟨rfl,hM⟩;exact⟨_,_,rfl,o0 hM⟩
    ·rw[if_neg hn,if_neg hn];have hn: (RD x (cY b).1 now).val=0:=Decidable.not_not.1 hn;by_cases hx: (DP x (cY b).1 now).1≠0
     ·rw[if_pos hx,if_pos hx];refine(Kg g x v b at_ now fine F w hi ho hl ht _ rfl he hs _ rfl hn _ _ rfl hx h).mono ?_;rintro r w' ⟨rfl,hM⟩;exact⟨_,_,rfl,o0 hM⟩
     ·rw[if_neg hx,if_neg hx];have hx: (DP x (cY b).1 now).1=0:=Decidable.not_not.1 hx;have hsrc:=On hx;refine(Gq g x v b at_ now fine F w hi ho hl ht _ rfl he hs _ rfl hn _ _ rfl hx hsrc.1 hsrc.2 h).mono ?_;rintro r w' ⟨v,rfl,hM⟩;exact⟨_,_,rfl,hM⟩
def rQ(e f:bR):Bool:=(((e.1.val==f.1.val)&&((e.2.1.val==f.2.1.val)&&true))&&(((e.2.2.1.val==f.2.2.1.val)&&((e.2.2.2.1.val==f.2.2.2.1.val)&&((e.2.2.2.2.1.val==f.2.2.2.2.1.val)&&true)))&&true))
theorem xD(e f:bR):uy prog 37 (aB e).toList (aB f).toList=some (rQ e f):=by kernel_rfl
theorem pQ(e f:bR):rQ e f=true↔e=f:=by
 obtain⟨a1,a2,a3,a4,a5,_⟩:=e;obtain⟨b1,b2,b3,b4,b5,_⟩:=f;simp only[rQ,bI,beq_iff_eq,and_true,Prod.mk.injEq];constructor
 ·rintro⟨⟨h1,h2⟩,h3,h4,h5⟩;exact⟨ae.ext' h1,ae.ext' h2,ae.ext' h3,ae.ext' h4,ae.ext' h5⟩
 ·rintro⟨rfl,rfl,rfl,rfl,rfl⟩;exact⟨⟨rfl,rfl⟩,rfl,rfl,rfl⟩
def im1:ae:=⟨-1,by decide⟩
def gN(c:cT)(id boot:ae)(f:lr)(t:bh)(s:List dB)(b:sO)(tm:A8):ak:=⟨c,id,boot,f,t,s,b,tm,i0,im1,im1,i0⟩
def lZ(c:cT)(id boot:ae)(e:bR):ak:=gN c id boot (eg (dC c.2.2.2.2.2.2.2.2.2.2.1) e).2 (xh c.2.1) (List.replicate 64 gG) (jE c.2.2.2.2.2.2.2.2.2.1) (gD c.2.2.2.2.2.2.2.2.1)
theorem cw.new(c:cT)(id boot:ae)(e:bR):cw (lZ c id boot e):=⟨Nn _,fun p hp=>(by cases hp),by show(List.replicate 64 gG).length=64;rw[List.length_replicate]⟩
def iH(x:ak)(a:ek)(sv:List Value):Array Value:=(oP x a++(sv++Dn x a)).toArray
theorem Iw(x:ak)(a:ek)(sv:List Value)(k:Nat)(h:k<15): (iH x a sv)[k]? =(oP x a)[k]?:=by unfold iH;rw[List.getElem?_toArray,List.getElem?_append_left (by show k<15;exact h)]
theorem zS(x:ak)(a:ek)(sv:List Value)(k:Nat)(h:k<sv.length)(v:Value): (iH x a sv).setIfInBounds (15+k) v=iH x a (sv.set k v):=by unfold iH;rw[List.setIfInBounds_toArray,List.set_append_right _ _ (by show 15<=15+k;omega),show 15+k-(oP x a).length=k by show 15+k-15=k;omega,List.set_append_left _ _ h]
theorem DQ(x:ak)(a:ek)(sv:List Value)(k:Nat)(h:k<sv.length): (iH x a sv)[15+k]? =sv[k]?:=by unfold iH;rw[List.getElem?_toArray,List.getElem?_append_right (by show 15<=15+k;omega),show 15+k-(oP x a).length=k by show 15+k-15=k;omega,List.getElem?_append_left h]
def lL(l:List Nat):List Value:=l.map tf++List.replicate (64-l.length) (.pointer none)
theorem jU(l:List Nat)(h:l.length<=64): (lL l).length=64:=by simp[lL];omega
theorem zT(l:List Nat)(h:l.length<64)(b:Nat): (lL l).set l.length (tf b)=lL (l++ [b]):=by
 unfold lL;obtain⟨m,hm⟩:∃m,64-l.length=m+1:=⟨63-l.length,by omega⟩;rw[List.set_append_right _ _ (by simp),List.length_map,Nat.sub_self,hm,List.replicate_succ,List.set_cons_zero,List.map_append,List.append_assoc,List.length_append];have:64-(l.length+ [b].length)=m:=by simp;omega
 rw[this];rfl
theorem DR(l:List Nat)(h:l.length=64):lL l=l.map tf:=by simp[lL,h]
def afe(l:List Nat):List (Nat×aj):=l.map fun b=>(b,aj.row (iK gG))
theorem DS(l:List Nat):∀n,l.length=n->((List.replicate n gG).zip l).map (fun p=>(p.2,aj.row (iK p.1)))=afe l:=by
 induction l with
 |nil=>intro n hn;subst hn;rfl
 |cons b l ih=>intro n hn;subst hn;simp[List.replicate_succ,afe] at ih ⊢;exact ih
theorem zU{w0 w:World}{F0:Nat->Prop}{R:List (Nat×aj)}{l:List Nat}{b:Nat}(h:Mem w0 F0 ((b,aj.row (iK gG)):: (R++afe l)) w):Mem w0 F0 (R++afe (l++ [b])) w:=
 h.perm (by
  have:R++afe (l++ [b])=(R++afe l)++ [(b,aj.row (iK gG))]:=by simp[afe]
  rw[this];exact(List.perm_append_singleton _ _).symm)
theorem Tz{α:Type}(a b c d e f g:α):[a,b,c,d,e,f,g].Perm [f,g,a,e,d,c,b]:=
 (List.perm_append_comm (l₁:=[a,b,c,d,e]) (l₂:=[f,g])).trans (List.Perm.append_left [f,g] (List.Perm.cons a (List.reverse_perm [b,c,d,e]).symm))
def yd(c:cT)(e:bR)(x:ak)(f t b m:Nat)(l:List Nat)(gc ge g:Nat):List (Nat×aj):=[(g,.row (iH x ⟨f,t,l,b,m⟩ (lL l))),(m,.row (wN x.tm)),(b,.row (oK x.b)),(t,eW x.t),(f,.row (gj x.f)),(ge,.row (aB e)),(gc,.row (bd c))]
theorem Ix(c:cT)(id boot:ae)(e:bR)(w:World)(h0:0<=id.val)(h1:id.val<64)(hs:eh boot=true)(hm:uf c=true)(he:e=bc∨ry e=true):Calls prog 41 #[j6 c,.int .i64 id.val,.int .i64 boot.val,.agg (aB e)] w fun r w'=>∃g,r= .returned (.pointer (some ⟨g,0,none⟩))/\Mem w (fun _=>False) [(g,aO (lZ c id boot e))] w':=by
 have HSM:Hid (∀w,Calls prog 82 #[.int .i64 boot.val] w fun e w'=>e= .returned (.bool true)/\Below w.heap.size w w'):=fun w=>by rw[<-hs];exact iE boot w
 have HNM:Hid (∀w,Calls prog 83 #[.agg (bd c)] w fun e w'=>e= .returned (.bool true)/\Below w.heap.size w w'):=fun w=>by rw[<-hm];exact Hw c w
 have HME:Hid (∀w,Calls prog 84 #[.agg (aB e)] w fun r w'=>r= .returned (.bool (ry e))/\Below w.heap.size w w'):=fun w=>Ba e w;have EQ:=qD (xD e bc);have HQ:Hid (rQ e bc=true∨ry e=true):=he.imp (fun h=>(pQ e bc).2 h) (fun h=>h);have H0:=qD h0;have H1:=qD h1;obtain⟨y,hy⟩:∃y,y=lZ c id boot e:=⟨_,rfl⟩;rw[<-hy];have HY:Hid (y=gN c id boot (eg (dC c.2.2.2.2.2.2.2.2.2.2.1) e).2 (xh c.2.1) (List.replicate 64 gG) (jE c.2.2.2.2.2.2.2.2.2.1) (gD c.2.2.2.2.2.2.2.2.1)):=hy;have M0:Hid (Mem w (fun _=>False) [(w.heap.size+1,.row (aB e)),(w.heap.size,.row (bd c))] ((w.alloc (.cells (bd c) 26)).alloc (.cells (aB e) 37))):=by show Mem _ _ _ _;have:=((Mem.none w).alloc (cs:=bd c) (t:=26)).alloc (cs:=aB e) (t:=37);simpa using this
 have hze:=gK;have hbz:∀w,(Instr.build 37 #[]).run prog w= .ok (.agg (aB bc)) w:=fun w=>by kernel_rfl
 clear h0 h1 hs hm he hy;generalize ry e=me at HME HQ;generalize rQ e bc=qe at EQ HQ;unfold j6;go_enter func41,ntmps41;go_upto_region 1 with(fail);generalize ((w.alloc (.cells (bd c) 26)).alloc (.cells (aB e) 37))=w1 at*;generalize w.heap.size+1=ge at*;generalize hgc:w.heap.size=gc at*;have k0:=M0.o.row (i:=0) rfl;have k1:=M0.o.row (i:=1) rfl;have g0:¬id.val<0:=by have:=H0.o;omega
 have g1:¬64<=id.val:=by have:=H1.o;omega
 cases qe with
 |true=>
  go_upto_region 3 with(first|((with_reducible show wpList _ _ _ (⟨some 30,_,_,_,_,_⟩::_) _ _);refine bS (cs:=(aB e).toList) (ds:=(aB bc).toList) rfl rfl rfl rfl EQ.o ?_)|(go_at_call 82;refine(HSM.o _).mono ?_;rintro r w2 ⟨rfl,hb⟩;have M1:=qD (M0.o.below hb);have k2:=M1.o.row (i:=0) rfl;have k3:=M1.o.row (i:=1) rfl;clear hb k0 k1 M0)|(go_at_call 83;refine(HNM.o _).mono ?_;rintro r w3 ⟨rfl,hb⟩;have M2:=qD (M1.o.below hb);have k4:=M2.o.row (i:=0) rfl;have k5:=M2.o.row (i:=1) rfl;clear hb k2 k3 M1));clear HSM HNM HME HQ EQ;have HF:Hid (∀w,Calls prog 85 #[.int .i64 c.2.2.2.2.2.2.2.2.2.2.1.val] w fun e w'=>∃g,e= .returned (.pointer (some ⟨g,0,none⟩))/\w'.aI g=some (gj (dC c.2.2.2.2.2.2.2.2.2.2.1))/\w.heap.size<=g/\Below w.heap.size w w'):=fun w=>zi _ w;have HT:Hid (∀w,Calls prog 86 #[.int .i64 c.2.1.val] w fun r w'=>∃g F',r= .returned (.pointer (some ⟨g,0,none⟩))/\(eW (xh c.2.1)).rep g F' w'/\(∀x,F' x->w.heap.size<=x)/\Below w.heap.size w w'):=fun w=>Hz _ w;have HB:Hid (∀w,Calls prog 87 #[.int .i64 c.2.2.2.2.2.2.2.2.2.1.val] w fun e w'=>∃g,e= .returned (.pointer (some ⟨g,0,none⟩))/\w'.aI g=some (oK (jE c.2.2.2.2.2.2.2.2.2.1))/\w.heap.size<=g/\Below w.heap.size w w'):=fun w=>zd _ w;have HM:Hid (∀w,Calls prog 88 #[.int .i64 c.2.2.2.2.2.2.2.2.1.val] w fun e w'=>∃g,e= .returned (.pointer (some ⟨g,0,none⟩))/\w'.aI g=some (wN (gD c.2.2.2.2.2.2.2.2.1))/\w.heap.size<=g/\Below w.heap.size w w'):=fun w=>zg _ w;have HS:Hid (∀w g',w.aI g'=some (gj (dC c.2.2.2.2.2.2.2.2.2.2.1))->Calls prog 90 #[.pointer (some ⟨g',0,none⟩),.agg (aB e)] w fun r w'=>r= .returned (.int .i64 (eg (dC c.2.2.2.2.2.2.2.2.2.2.1) e).1.val)/\w'.aI g'=some (gj (eg (dC c.2.2.2.2.2.2.2.2.2.2.1) e).2)/\bN (fun y=>y=g') w w'):=fun w g' hb=>zj g' w _ e hb;revert HF HT HB HM HS HY;generalize dC c.2.2.2.2.2.2.2.2.2.2.1=f0;generalize eg f0 e=st;generalize xh c.2.1=t0;generalize jE c.2.2.2.2.2.2.2.2.2.1=b0;generalize gD c.2.2.2.2.2.2.2.2.1=m0;intro HY HF HT HB HM HS;obtain⟨ss,hss⟩:∃ss,ss=List.replicate 64 gG:=⟨_,rfl⟩;rw[<-hss] at HY;have HSS:=qD hss;clear hss;refine aT 15 (.qs [0,1,2,3,4,6,7,9,10,12,13] (.w 5 (.w 8 (.w 11 (.w 14 .done))))) (fun w'=>w'.aI gc=some (bd c)) (by kernel_rfl) (by kernel_rfl) ((M2.o.below (Below.drew (bZ _ _))).row (i:=1) rfl) ?_;have M4:Hid (Mem w (fun _=>False) [(ge,.row (aB e)),(gc,.row (bd c))] w3.drew):=M2.o.below (Below.drew (bZ _ _));clear M2;generalize w3.drew=w4 at*;simp only[MT.qs,tC,tE]
  iterate 11 (refine fJ rfl rfl (by rintro w' hS K hK;have e10:w'.cell? ⟨gc,10,none⟩=some (.int .i64 c.2.2.2.2.2.2.2.2.2.2.1.val):=(ao hS 10).trans rfl;have e1:w'.cell? ⟨gc,1,none⟩=some (.int .i64 c.2.1.val):=(ao hS 1).trans rfl;have e9:w'.cell? ⟨gc,9,none⟩=some (.int .i64 c.2.2.2.2.2.2.2.2.2.1.val):=(ao hS 9).trans rfl;have e8:w'.cell? ⟨gc,8,none⟩=some (.int .i64 c.2.2.2.2.2.2.2.2.1.val):=(ao hS 8).trans rfl;go_simp;exact hK.o) ?_)
  refine cO rfl (fun K hK=>?_);go_wp2_with (go_at_call 85;refine(HF.o _).mono ?_;rintro r w5 ⟨gf,rfl,h1,h2,h3⟩;have M5:=qD (M4.o.kC h3 h1 h2);clear h1 h2 h3 HF M4);refine hK.o _ _ (M5.o.row (i:=2) rfl) ?_;clear hK;refine cO rfl (fun K hK=>?_);go_wp2_with (go_at_call 86;refine(HT.o _).mono ?_;rintro r w6 ⟨gt,FT,rfl,h1,h2,h3⟩;have M6:=qD (M5.o.push (p:=(gt,eW t0)) h3 h1 h2);clear h1 h2 h3 HT M5);refine hK.o _ _ (M6.o.row (i:=3) rfl) ?_;clear hK;refine cO rfl (fun K hK=>?_);go_wp2_with (go_at_call 87;refine(HB.o _).mono ?_;rintro r w7 ⟨gb,rfl,h1,h2,h3⟩;have M7:=qD (M6.o.kC h3 h1 h2);clear h1 h2 h3 HB M6);refine hK.o _ _ (M7.o.row (i:=4) rfl) ?_;clear hK;refine cO rfl (fun K hK=>?_);go_wp2_with (go_at_call 88;refine(HM.o _).mono ?_;rintro r w8 ⟨gm,rfl,h1,h2,h3⟩;have M8:=qD (M7.o.kC h3 h1 h2);clear h1 h2 h3 HM M7);refine hK.o _ _ (M8.o.row (i:=5) rfl) ?_;clear hK;refine bY ?_;have M9:Hid (Mem w (fun _=>False) (yd c e (gN c id boot f0 t0 ss b0 m0) gf gt gb gm [] gc ge w8.heap.size++afe []) (w8.alloc (.cells (iH (gN c id boot f0 t0 ss b0 m0) ⟨gf,gt,[],gb,gm⟩ (lL [])) 80))):=M8.o.alloc;go_wp2_with ((with_reducible show wpList _ _ _ (⟨some 52,_,_,_,_,_⟩::_) _ _);refine br _ (.agg (iH (gN c id boot f0 t0 ss b0 m0) ⟨gf,gt,[],gb,gm⟩ (lL []))) w8 rfl (by kernel_rfl) ?_);generalize w8.heap.size=gn at M9 ⊢;generalize (w8.alloc (.cells (iH (gN c id boot f0 t0 ss b0 m0) ⟨gf,gt,[],gb,gm⟩ (lL [])) 80))=w9 at*;clear M8;refine NoPanic.normal ?_;go_upto_region 5 with(fail)
  go_loopw [54] (fun i54 wr=>∃l:List Nat,l.length<=64/\i54= .int .i64 l.length/\Hid (Mem w (fun _=>False) (yd c e (gN c id boot f0 t0 ss b0 m0) gf gt gb gm l gc ge gn++afe l) wr)) (fun i54 _=>64-(intOf i54).toNat)
  case atStart=>exact⟨[],by decide,rfl,M9⟩
  case round=>
   obtain⟨l,hl,rfl,M⟩:=hrel;clear M9;by_cases hlt:l.length<64
   ·go_upto_region 7 with(fail);refine aT 5 (.qs [0,1,3,4] (.w 2 .done)) (fun _=>True) (by kernel_rfl) (by kernel_rfl) trivial ?_;have M1:=qD (M.o.below (Below.drew (bZ _ wr)));generalize wr.drew=w2 at*;clear M;simp only[MT.qs,tC,tE]
    iterate 4 (refine fJ rfl rfl (by rintro w' hS K hK;go_simp;exact hK.o) ?_)
    refine cO rfl (fun K hK=>?_);go_wp2_with (go_at_call 89;refine(zh _).mono ?_;rintro r w3 ⟨gs,rfl,h1,h2,h3⟩;have M2:=qD (M1.o.kC h3 h1 h2);clear h1 h2 h3 M1);refine hK.o _ _ trivial ?_;clear hK;refine bY ?_;have M3:Hid (Mem w (fun _=>False) (yd c e (gN c id boot f0 t0 ss b0 m0) gf gt gb gm (l++ [gs]) gc ge gn++afe (l++ [gs])) (w3.setCell ⟨gn,15+l.length,none⟩ (.pointer (some ⟨gs,0,none⟩)))):=
     zU (M2.o.bO (i:=1) (k:=15+l.length) (v:= .pointer (some ⟨gs,0,none⟩)) rfl (by rw[zS _ _ _ _ (by rw[jU l hl];exact hlt)];show iH _ _ ((lL l).set l.length (tf gs))=iH _ ⟨gf,gt,l++ [gs],gb,gm⟩ _;rw[zT l hlt];rfl))
    have z:=ax (M2.o.row (i:=1) rfl) (15+l.length);have hvo:w3.cell? ⟨gn,15+l.length,none⟩=some ((lL l)[l.length]'(by rw[jU l hl];exact hlt)):=M2.o.cell (i:=1) rfl ((DQ _ _ _ _ (by rw[jU l hl];exact hlt)).trans (gE _));generalize ((lL l)[l.length]'(by rw[jU l hl];exact hlt))=vo at hvo;have gl:=ab (M2.o.row (i:=1) rfl);clear M2;go_wp2;refine NoPanic.normal ?_;go_wp2;go_roundw
    case rel=>exact⟨l++ [gs],by simp;omega,by simp;try go_num,M3⟩
    case measure=>simp[intOf];omega
   ·have hl64:l.length=64:=by omega
    rw[hl64];go_upto_region 9 with(fail);have c13:wr.cell? ⟨gn,13,none⟩=some (.pointer (some ⟨gf,0,none⟩)):=M.o.cell (i:=0) (k:=13) rfl ((Iw _ _ _ 13 (by decide)).trans rfl);have ke:=M.o.row (i:=5) rfl;have gl:=ab (M.o.row (i:=0) rfl);have gle:=ab ke;refine ar 5 ?_;simp only[tA,tD,tC,tE]
    repeat quiet_step (fail)
    refine wpQuiet_nil ?_;intro w2 hb2;have M2:=qD (M.o.below hb2);clear M c13 ke gl gle hb2;have HC:Hid (Calls prog 90 #[.pointer (some ⟨gf,0,none⟩),.agg (aB e)] w2 fun r w'=>r= .returned (.int .i64 st.1.val)/\Mem w (fun _=>False) (yd c e (gN c id boot st.2 t0 ss b0 m0) gf gt gb gm l gc ge gn++afe l) w'):=M2.o.fY (i:=4) rfl (fun hb=>HS.o w2 gf hb);clear HS M2;go_upto_region 10 with(go_at_call 90;refine qHG HC.o fun w3 M3=>?_);clear HC;have M4:Hid (Mem w (fun _=>False) (aK y ⟨gf,gt,l,gb,gm⟩ gn) w3):=by show Mem _ _ _ _;rw[HY.o];have h1:=M3.o.perm (L':=[(ge,.row (aB e)),(gc,.row (bd c))]++([(gn,.row (iH (gN c id boot st.2 t0 ss b0 m0) ⟨gf,gt,l,gb,gm⟩ (lL l))),(gf,.row (gj st.2)),(gt,eW t0),(gb,.row (oK b0)),(gm,.row (wN m0))]++afe l)) (by unfold yd;exact(Tz _ _ _ _ _ _ _).append_right (afe l));have h2:=h1.au.au;rw[DR l hl64] at h2;rw[HSS.o] at h2 ⊢;rw[<-DS l 64 hl64] at h2;exact h2
    clear M3;go_wp2;go_ret;exact⟨gn,rfl,dO (A:=[]) hl64 M4.o⟩
 |false=>
  have hme:me=true:=HQ.o.resolve_left (by decide);subst hme;go_upto_region 3 with(first|((with_reducible show wpList _ _ _ (⟨some 30,_,_,_,_,_⟩::_) _ _);refine bS (cs:=(aB e).toList) (ds:=(aB bc).toList) rfl rfl rfl rfl EQ.o ?_)|(go_at_call 82;refine(HSM.o _).mono ?_;rintro r w2 ⟨rfl,hb⟩;have M1:=qD (M0.o.below hb);have k2:=M1.o.row (i:=0) rfl;have k3:=M1.o.row (i:=1) rfl;clear hb k0 k1 M0)|(go_at_call 83;refine(HNM.o _).mono ?_;rintro r w3 ⟨rfl,hb⟩;have M2:=qD (M1.o.below hb);have k4:=M2.o.row (i:=0) rfl;have k5:=M2.o.row (i:=1) rfl;clear hb k2 k3 M1)|(go_at_call 84;refine Mem.qB (HME.o _) M2.o fun w4 M3=>?_;clear k4 k5 M2));clear HSM HNM HME HQ EQ;have HF:Hid (∀w,Calls prog 85 #[.int .i64 c.2.2.2.2.2.2.2.2.2.2.1.val] w fun e w'=>∃g,e= .returned (.pointer (some ⟨g,0,none⟩))/\w'.aI g=some (gj (dC c.2.2.2.2.2.2.2.2.2.2.1))/\w.heap.size<=g/\Below w.heap.size w w'):=fun w=>zi _ w;have HT:Hid (∀w,Calls prog 86 #[.int .i64 c.2.1.val] w fun r w'=>∃g F',r= .returned (.pointer (some ⟨g,0,none⟩))/\(eW (xh c.2.1)).rep g F' w'/\(∀x,F' x->w.heap.size<=x)/\Below w.heap.size w w'):=fun w=>Hz _ w;have HB:Hid (∀w,Calls prog 87 #[.int .i64 c.2.2.2.2.2.2.2.2.2.1.val] w fun e w'=>∃g,e= .returned (.pointer (some ⟨g,0,none⟩))/\w'.aI g=some (oK (jE c.2.2.2.2.2.2.2.2.2.1))/\w.heap.size<=g/\Below w.heap.size w w'):=fun w=>zd _ w;have HM:Hid (∀w,Calls prog 88 #[.int .i64 c.2.2.2.2.2.2.2.2.1.val] w fun e w'=>∃g,e= .returned (.pointer (some ⟨g,0,none⟩))/\w'.aI g=some (wN (gD c.2.2.2.2.2.2.2.2.1))/\w.heap.size<=g/\Below w.heap.size w w'):=fun w=>zg _ w;have HS:Hid (∀w g',w.aI g'=some (gj (dC c.2.2.2.2.2.2.2.2.2.2.1))->Calls prog 90 #[.pointer (some ⟨g',0,none⟩),.agg (aB e)] w fun r w'=>r= .returned (.int .i64 (eg (dC c.2.2.2.2.2.2.2.2.2.2.1) e).1.val)/\w'.aI g'=some (gj (eg (dC c.2.2.2.2.2.2.2.2.2.2.1) e).2)/\bN (fun y=>y=g') w w'):=fun w g' hb=>zj g' w _ e hb;revert HF HT HB HM HS HY;generalize dC c.2.2.2.2.2.2.2.2.2.2.1=f0;generalize eg f0 e=st;generalize xh c.2.1=t0;generalize jE c.2.2.2.2.2.2.2.2.2.1=b0;generalize gD c.2.2.2.2.2.2.2.2.1=m0;intro HY HF HT HB HM HS;obtain⟨ss,hss⟩:∃ss,ss=List.replicate 64 gG:=⟨_,rfl⟩;rw[<-hss] at HY;have HSS:=qD hss;clear hss;refine aT 15 (.qs [0,1,2,3,4,6,7,9,10,12,13] (.w 5 (.w 8 (.w 11 (.w 14 .done))))) (fun w'=>w'.aI gc=some (bd c)) (by kernel_rfl) (by kernel_rfl) ((M3.o.below (Below.drew (bZ _ _))).row (i:=1) rfl) ?_;have M4:Hid (Mem w (fun _=>False) [(ge,.row (aB e)),(gc,.row (bd c))] w4.drew):=M3.o.below (Below.drew (bZ _ _));clear M3;generalize w4.drew=w4 at*;simp only[MT.qs,tC,tE]
  iterate 11 (refine fJ rfl rfl (by rintro w' hS K hK;have e10:w'.cell? ⟨gc,10,none⟩=some (.int .i64 c.2.2.2.2.2.2.2.2.2.2.1.val):=(ao hS 10).trans rfl;have e1:w'.cell? ⟨gc,1,none⟩=some (.int .i64 c.2.1.val):=(ao hS 1).trans rfl;have e9:w'.cell? ⟨gc,9,none⟩=some (.int .i64 c.2.2.2.2.2.2.2.2.2.1.val):=(ao hS 9).trans rfl;have e8:w'.cell? ⟨gc,8,none⟩=some (.int .i64 c.2.2.2.2.2.2.2.2.1.val):=(ao hS 8).trans rfl;go_simp;exact hK.o) ?_)
  refine cO rfl (fun K hK=>?_);go_wp2_with (go_at_call 85;refine(HF.o _).mono ?_;rintro r w5 ⟨gf,rfl,h1,h2,h3⟩;have M5:=qD (M4.o.kC h3 h1 h2);clear h1 h2 h3 HF M4);refine hK.o _ _ (M5.o.row (i:=2) rfl) ?_;clear hK;refine cO rfl (fun K hK=>?_);go_wp2_with (go_at_call 86;refine(HT.o _).mono ?_;rintro r w6 ⟨gt,FT,rfl,h1,h2,h3⟩;have M6:=qD (M5.o.push (p:=(gt,eW t0)) h3 h1 h2);clear h1 h2 h3 HT M5);refine hK.o _ _ (M6.o.row (i:=3) rfl) ?_;clear hK;refine cO rfl (fun K hK=>?_);go_wp2_with (go_at_call 87;refine(HB.o _).mono ?_;rintro r w7 ⟨gb,rfl,h1,h2,h3⟩;have M7:=qD (M6.o.kC h3 h1 h2);clear h1 h2 h3 HB M6);refine hK.o _ _ (M7.o.row (i:=4) rfl) ?_;clear hK;refine cO rfl (fun K hK=>?_);go_wp2_with (go_at_call 88;refine(HM.o _).mono ?_;rintro r w8 ⟨gm,rfl,h1,h2,h3⟩;have M8:=qD (M7.o.kC h3 h1 h2);clear h1 h2 h3 HM M7);refine hK.o _ _ (M8.o.row (i:=5) rfl) ?_;clear hK;refine bY ?_;have M9:Hid (Mem w (fun _=>False) (yd c e (gN c id boot f0 t0 ss b0 m0) gf gt gb gm [] gc ge w8.heap.size++afe []) (w8.alloc (.cells (iH (gN c id boot f0 t0 ss b0 m0) ⟨gf,gt,[],gb,gm⟩ (lL [])) 80))):=M8.o.alloc;go_wp2_with ((with_reducible show wpList _ _ _ (⟨some 52,_,_,_,_,_⟩::_) _ _);refine br _ (.agg (iH (gN c id boot f0 t0 ss b0 m0) ⟨gf,gt,[],gb,gm⟩ (lL []))) w8 rfl (by kernel_rfl) ?_);generalize w8.heap.size=gn at M9 ⊢;generalize (w8.alloc (.cells (iH (gN c id boot f0 t0 ss b0 m0) ⟨gf,gt,[],gb,gm⟩ (lL [])) 80))=w9 at*;clear M8;refine NoPanic.normal ?_;go_upto_region 5 with(fail)
  go_loopw [54] (fun i54 wr=>∃l:List Nat,l.length<=64/\i54= .int .i64 l.length/\Hid (Mem w (fun _=>False) (yd c e (gN c id boot f0 t0 ss b0 m0) gf gt gb gm l gc ge gn++afe l) wr)) (fun i54 _=>64-(intOf i54).toNat)
  case atStart=>exact⟨[],by decide,rfl,M9⟩
  case round=>
   obtain⟨l,hl,rfl,M⟩:=hrel;clear M9;by_cases hlt:l.length<64
   ·go_upto_region 7 with(fail);refine aT 5 (.qs [0,1,3,4] (.w 2 .done)) (fun _=>True) (by kernel_rfl) (by kernel_rfl) trivial ?_;have M1:=qD (M.o.below (Below.drew (bZ _ wr)));generalize wr.drew=w2 at*;clear M;simp only[MT.qs,tC,tE]
    iterate 4 (refine fJ rfl rfl (by rintro w' hS K hK;go_simp;exact hK.o) ?_)
    refine cO rfl (fun K hK=>?_);go_wp2_with (go_at_call 89;refine(zh _).mono ?_;rintro r w3 ⟨gs,rfl,h1,h2,h3⟩;have M2:=qD (M1.o.kC h3 h1 h2);clear h1 h2 h3 M1);refine hK.o _ _ trivial ?_;clear hK;refine bY ?_;have M3:Hid (Mem w (fun _=>False) (yd c e (gN c id boot f0 t0 ss b0 m0) gf gt gb gm (l++ [gs]) gc ge gn++afe (l++ [gs])) (w3.setCell ⟨gn,15+l.length,none⟩ (.pointer (some ⟨gs,0,none⟩)))):=
     zU (M2.o.bO (i:=1) (k:=15+l.length) (v:= .pointer (some ⟨gs,0,none⟩)) rfl (by rw[zS _ _ _ _ (by rw[jU l hl];exact hlt)];show iH _ _ ((lL l).set l.length (tf gs))=iH _ ⟨gf,gt,l++ [gs],gb,gm⟩ _;rw[zT l hlt];rfl))
    have z:=ax (M2.o.row (i:=1) rfl) (15+l.length);have hvo:w3.cell? ⟨gn,15+l.length,none⟩=some ((lL l)[l.length]'(by rw[jU l hl];exact hlt)):=M2.o.cell (i:=1) rfl ((DQ _ _ _ _ (by rw[jU l hl];exact hlt)).trans (gE _));generalize ((lL l)[l.length]'(by rw[jU l hl];exact hlt))=vo at hvo;have gl:=ab (M2.o.row (i:=1) rfl);clear M2;go_wp2;refine NoPanic.normal ?_;go_wp2;go_roundw
    case rel=>exact⟨l++ [gs],by simp;omega,by simp;try go_num,M3⟩
    case measure=>simp[intOf];omega
   ·have hl64:l.length=64:=by omega
    rw[hl64];go_upto_region 9 with(fail);have c13:wr.cell? ⟨gn,13,none⟩=some (.pointer (some ⟨gf,0,none⟩)):=M.o.cell (i:=0) (k:=13) rfl ((Iw _ _ _ 13 (by decide)).trans rfl);have ke:=M.o.row (i:=5) rfl;have gl:=ab (M.o.row (i:=0) rfl);have gle:=ab ke;refine ar 5 ?_;simp only[tA,tD,tC,tE]
    repeat quiet_step (fail)
    refine wpQuiet_nil ?_;intro w2 hb2;have M2:=qD (M.o.below hb2);clear M c13 ke gl gle hb2;have HC:Hid (Calls prog 90 #[.pointer (some ⟨gf,0,none⟩),.agg (aB e)] w2 fun r w'=>r= .returned (.int .i64 st.1.val)/\Mem w (fun _=>False) (yd c e (gN c id boot st.2 t0 ss b0 m0) gf gt gb gm l gc ge gn++afe l) w'):=M2.o.fY (i:=4) rfl (fun hb=>HS.o w2 gf hb);clear HS M2;go_upto_region 10 with(go_at_call 90;refine qHG HC.o fun w3 M3=>?_);clear HC;have M4:Hid (Mem w (fun _=>False) (aK y ⟨gf,gt,l,gb,gm⟩ gn) w3):=by show Mem _ _ _ _;rw[HY.o];have h1:=M3.o.perm (L':=[(ge,.row (aB e)),(gc,.row (bd c))]++([(gn,.row (iH (gN c id boot st.2 t0 ss b0 m0) ⟨gf,gt,l,gb,gm⟩ (lL l))),(gf,.row (gj st.2)),(gt,eW t0),(gb,.row (oK b0)),(gm,.row (wN m0))]++afe l)) (by unfold yd;exact(Tz _ _ _ _ _ _ _).append_right (afe l));have h2:=h1.au.au;rw[DR l hl64] at h2;rw[HSS.o] at h2 ⊢;rw[<-DS l 64 hl64] at h2;exact h2
    clear M3;go_wp2;go_ret;exact⟨gn,rfl,dO (A:=[]) hl64 M4.o⟩
def jd(s:aF)(i:Nat)(b:List UInt8)(at_ g:ae):aF:=
 match s.n[i]? with
 |none=>s
 |some x=>gi {s with n:=s.n.set i (nS x b at_ (ff s.w (nI i)) (dk s.w (nI i) g))} i g (ae7 x b at_ (ff s.w (nI i)) (dk s.w (nI i) g))
theorem Oq(x:ak)(f:bX)(at_ now fine:ae): (lE x f at_ now fine).length<=1:=by
 unfold lE NZ J5 Tu;split
 ·exact jx _ _ _ _
 ·split
  ·split
   ·split
    ·exact jx _ _ _ _
    ·simp
   ·simp
  ·simp
theorem Kh(x:ak)(f:bX)(at_ now fine:ae): (qd x f at_ now fine).length<=1:=by
 unfold qd;split
 ·exact Oq _ _ _ _ _
 ·simp
theorem Ki(x:ak)(b:List UInt8)(at_ now fine:ae): (ae7 x b at_ now fine).length<=1:=by
 unfold ae7 hrO
 repeat (split <;> try simp)
 all_goals exact Kh _ _ _ _ _
theorem DT{w0 w:World}{F0:Nat->Prop}{A:List (Nat×aj)}{s:aF}{p:bM}{g j:Nat}(hk:aS s p)(hj:j<p.k)(h:Mem w0 F0 (A++aG s p g) w):∃x b,s.n[j]? =some x/\p.ns[j]? =some b:=⟨_,_,gE (by rw[hk.n];exact hj),gE (by rw[hk.ns];exact hj)⟩
theorem Mem.Iy{P:Program}{f:FuncId}{args:Array Value}{w0 w:World}{F0:Nat->Prop}{L L':List (Nat×aj)}{E:Ending->Prop}(h:Mem w0 F0 L w)(hc:∀F1,Sep w L F1->Calls P f args w fun e w'=>E e/\Mem w F1 L' w'):Calls P f args w fun e w'=>E e/\Mem w0 F0 L' w':=by
 obtain⟨F,h1,h2,h3⟩:=h;refine(hc F h1).mono ?_;rintro e w' ⟨he,F',g1,g2,g3⟩;refine⟨he,F',g1,fun x hx=>?_,h3.trans g3 h2⟩;rcases g2 x hx with h|h
 ·exact h2 x h
 ·exact .inr (nT h3.size h)
theorem DU(s:aF)(p:bM)(g i:Nat)(x:ak)(hx:s.n[i]? =some x)(hi:cw x)(b:List UInt8)(v:Value)(at_ gt:ae)(F:Nat->Prop)(w:World)(hk:aS s p)(hl:b.length<=1000000)(hb:Rd w v b)(h:Sep w (aG s p g) F):Calls prog 55 #[.pointer (some ⟨g,0,none⟩),.int .i64 (i:Int),v,.int .i64 at_.val,.int .i64 gt.val] w fun r w'=>r= .returned (.tuple #[])/\Mem w F (aG (jd s i b at_ gt) p g) w':=by
 obtain⟨T,hT⟩:∃T,T=jd s i b at_ gt:=⟨_,rfl⟩;rw[<-hT];have HT:Hid (T=gi {s with n:=s.n.set i (nS x b at_ (ff s.w (nI i)) (dk s.w (nI i) gt))} i gt (ae7 x b at_ (ff s.w (nI i)) (dk s.w (nI i) gt))):=by show _=_;rw[hT];unfold jd;rw[hx]
 have M0:Hid (Mem w F (aG s p g) w):=Mem.start h;have hil:i<p.k:=by rw[<-hk.n];exact(gS.1 hx).1
 obtain⟨a,ha⟩:∃a,p.ns[i]? =some a:=⟨_,gE (by rw[hk.ns];exact hil)⟩;have HK:=qD hk;have hpk:p.k<=64:=hk.hi;have HB:=qD hb;have HL:=qD hl;have HI:=qD hi;have HJ:Hid (i<=1000000):=by show _<=_;omega
 have HN:Hid ((aG s p g)[i+5]? =some (a,aO x)):=by have:=nN (A:=[]) (g:=g) hx ha;rw[List.length_nil,Nat.zero_add] at this;exact this
 have HP:∀y,Hid ((aG s p g).set (i+5) (a,aO y)=aG {s with n:=s.n.set i y} p g):=fun y=>by have:=oX (A:=[]) (s:=s) (p:=p) (g:=g) (y:=y) ha;rw[List.length_nil,Nat.zero_add] at this;exact this
 have HP2:=qD HP;clear HP h hT hk hl hb hi;go_enter func55,ntmps55;go_upto_region 0 with(fail);refine aT 27 (.qs [0,1,2,3,4,5,6,7,8,9,10,11,12,13,15,16,17,18,19,20] (.w 14 (.w 21 (.w 22 (.qs [23,24,25,26] .done))))) (fun w'=>w'.cell? ⟨g,13,none⟩=some (.slice (some ⟨p.gn,0,none⟩) p.k p.cn)/\w'.cell? ⟨g,0,none⟩=some (.pointer (some ⟨p.gw,0,none⟩))/\w'.cell? ⟨p.gn,i,none⟩=some (.pointer (some ⟨a,0,none⟩))) (by kernel_rfl) (by kernel_rfl) ?_ ?_
 ·have M1:=M0.o.below (Below.drew (bZ _ w));exact⟨tq M1 (i:=0) rfl,uo M1 (i:=0) rfl,nc M1 (i:=3) rfl ha⟩
 have M1:=qD (M0.o.below (Below.drew (bZ _ w)));have HB1:=qD (HB.o.grown (Below.drew (bZ _ w)));generalize w.drew=w1 at*;clear M0 HB;simp only[MT.qs,tC,tE]
 iterate 20 (refine fJ rfl rfl (by rintro w' ⟨s1,s2,s3⟩ K hK;go_simp;exact hK.o) ?_)
 obtain⟨F1,h1⟩:=M1.o.rep (i:=1) rfl;have HW1:Hid (Calls prog 51 #[.pointer (some ⟨p.gw,0,none⟩),.int .i64 (i:Int)] w1 fun e w'=>e= .returned (.int .i64 (ff s.w (nI i)).val)/\Below w1.heap.size w1 w'):=by have:=Bh s.w p.gw F1 w1 (nI i) h1;rw[gR HJ.o] at this;exact this
 clear h1;generalize ff s.w (nI i)=nw at HW1 HT;refine cO rfl (fun K hK=>?_);go_wp2_with (go_at_call 51;refine HW1.o.mono ?_;rintro r w2 ⟨rfl,hb⟩;have M2:=qD (M1.o.below hb);have HB2:=qD (HB1.o.grown hb);clear hb HW1 M1 HB1);refine hK.o _ _ ⟨tq M2.o (i:=0) rfl,uo M2.o (i:=0) rfl,nc M2.o (i:=3) rfl ha⟩ ?_;clear hK;obtain⟨F1,h1⟩:=M2.o.rep (i:=1) rfl;have HW1:Hid (Calls prog 52 #[.pointer (some ⟨p.gw,0,none⟩),.int .i64 (i:Int),.int .i64 gt.val] w2 fun e w'=>e= .returned (.int .i64 (dk s.w (nI i) gt).val)/\Below w2.heap.size w2 w'):=by have:=oO s.w p.gw F1 w2 (nI i) gt h1;rw[gR HJ.o] at this;exact this
 clear h1;generalize dk s.w (nI i) gt=fi at HW1 HT;refine cO rfl (fun K hK=>?_);go_wp2_with (go_at_call 52;refine HW1.o.mono ?_;rintro r w3 ⟨rfl,hb⟩;have M3:=qD (M2.o.below hb);have HB3:=qD (HB2.o.grown hb);clear hb HW1 M2 HB2);refine hK.o _ _ ⟨tq M3.o (i:=0) rfl,uo M3.o (i:=0) rfl,nc M3.o (i:=3) rfl ha⟩ ?_;clear hK;have HC:Hid (Calls prog 113 #[.pointer (some ⟨a,0,none⟩),v,.int .i64 at_.val,.int .i64 nw.val,.int .i64 fi.val] w3 fun e w'=>∃q:Value×Int,e= .returned (.tuple #[q.1,.int .i64 q.2])/\Mem w F ([(0,.own 163 16 aM q.1 (ae7 x b at_ nw fi))]++aG {s with n:=s.n.set i (nS x b at_ nw fi)} p g) w'):=by rw[<-(HP2.o _).o];exact Mem.Bk M3.o (α:=Value×Int) (N:=fun q=>[(0,.own 163 16 aM q.1 (ae7 x b at_ nw fi))]) (p':=fun _=>(a,aO (nS x b at_ nw fi))) (E:=fun q e=>e= .returned (.tuple #[q.1,.int .i64 q.2])) HN.o (fun F1 hF=>(Oo a x v b at_ nw fi F1 w3 HI.o HB3.o HL.o hF).mono (by rintro e w' ⟨v1,e1,he,hM⟩;exact⟨(v1,e1),he,hM⟩))
 have HOL:Hid ((ae7 x b at_ nw fi).length<=1000):=nT (Ki _ _ _ _ _) (by decide);generalize ae7 x b at_ nw fi=os at HC HT HOL;have KS:Hid (aS {s with n:=s.n.set i (nS x b at_ nw fi)} p):=HK.o.put;generalize hSS: ({s with n:=s.n.set i (nS x b at_ nw fi)}:aF)=S at HC HT KS;clear M3 HB3 hSS HN HP2;refine cO rfl (fun K hK=>?_);go_wp2_with (go_at_call 113;refine HC.o.mono ?_;rintro r w4 ⟨⟨v1,e1⟩,rfl,hM⟩;have M4:=qD hM;clear hM HC);refine hK.o _ _ ⟨tq M4.o (i:=1) rfl,uo M4.o (i:=1) rfl,nc M4.o (i:=4) rfl ha⟩ ?_;clear hK
 iterate 4 (refine fJ rfl rfl (by rintro w' ⟨s1,s2,s3⟩ K hK;go_simp;exact hK.o) ?_)
 refine bY ?_;go_wp2;refine NoPanic.normal ?_;go_upto_region 1 with(fail);have HC:Hid (Calls prog 49 #[.pointer (some ⟨g,0,none⟩),.int .i64 (i:Int),v1,.int .i64 gt.val] w4 fun r w'=>r= .returned (.tuple #[])/\Mem w F ([(0,.own 163 16 aM v1 os)]++aG T p g) w'):=by rw[HT.o];exact Mem.Iy M4.o (fun F1 hF=>xA S p g i (by have:=HJ.o;omega) os v1 gt F1 w4 KS.o HOL.o hF)
 clear M4 HT;go_wp2_with (go_at_call 49;refine qHG HC.o fun w5 M5=>?_;clear HC);exact bodyPost_end (results_none (fn:=Tryz.f55) rfl _ _ _) rfl ⟨rfl,M5.o.au⟩
end
end Go.Proofs.Yq
namespace Go.Proofs.Yq
open ChangeShapes WideShapes ChangeAt RowKit Ev
open Tryz
inductive TS (P:ae->ae->Prop) (s:bh):bh->Prop
 |refl:TS P s s
 |xC {t:bh} (h:TS P s t) (n boot seq now:ae) (hp:P n boot):TS P s (eo t n boot seq now).2
 |put {t:bh} (h:TS P s t) (n:Int) (e:bR) (tm:ae):TS P s (iD t n e tm).2
 |leave {t:bh} (h:TS P s t) (n:Int):TS P s (iv t n).2
 |Ot {t:bh} (h:TS P s t) (now sil:ae):TS P s (lA t now sil)
theorem TS.trans{P:ae->ae->Prop}{s t u:bh}(h:TS P s t)(k:TS P t u):TS P s u:=by
 induction k with
 |refl=>exact h
 |xC _ n b q now hp ih=>exact ih.xC n b q now hp
 |put _ n e tm ih=>exact ih.put n e tm
 |leave _ n ih=>exact ih.leave n
 |Ot _ a b ih=>exact ih.Ot a b
structure NS (P:ae->ae->Prop) (x y:ak):Prop where
 c:y.c=x.c
 id:y.id=x.id
 boot:y.boot=x.boot
 s:y.s.length=x.s.length
 t:TS P x.t y.t
section
variable {P:ae->ae->Prop} {x y z:ak}
theorem NS.refl(x:ak):NS P x x:=⟨rfl,rfl,rfl,rfl,.refl⟩
theorem NS.trans(h:NS P x y)(k:NS P y z):NS P x z:=⟨k.c.trans h.c,k.id.trans h.id,k.boot.trans h.boot,k.s.trans h.s,h.t.trans k.t⟩
theorem Bo(x:ak):NS P x (aeT x):=by unfold aeT;split <;> exact⟨rfl,rfl,rfl,rfl,.refl⟩
theorem jV(x:ak)(k:ae)(s:dB):NS P x (dU x k s):=⟨rfl,rfl,rfl,by show(x.s.set _ _).length=_;rw[List.length_set],.refl⟩
theorem af8(x:ak)(now:ae):NS P x (fQ x now):=by
 unfold fQ;split
 ·split
  ·exact(show NS P x {x with told:=(Ga x).1} from⟨rfl,rfl,rfl,rfl,.refl⟩).trans (Bo _)
  ·exact⟨rfl,rfl,rfl,rfl,.refl⟩
 ·exact NS.refl x
theorem agL(x:ak)(now fine:ae):NS P x (jv x now fine):=by
 unfold jv;have h1:NS P x (aeT {x with asked:=(tn x).1}):=(show NS P x {x with asked:=(tn x).1} from⟨rfl,rfl,rfl,rfl,.refl⟩).trans (Bo _);generalize aeT {x with asked:=(tn x).1}=z at h1 ⊢;have h2: (uj x (tn x).1 fine (mV {x with asked:=(tn x).1} now (ae4 (tn x).1))).length=x.s.length:=by unfold uj;rw[List.length_set]
 generalize uj x (tn x).1 fine (mV {x with asked:=(tn x).1} now (ae4 (tn x).1))=ss at h2 ⊢;generalize tn x=pl at*;generalize kg {x with asked:=pl.1}=sb;obtain⟨k,b⟩:=pl;cases b <;> cases sb
 ·exact NS.refl x
 ·exact NS.refl x
 ·exact h1
 ·exact⟨h1.c,h1.id,h1.boot,h2,h1.t⟩
theorem agM(x:ak)(now fine:ae):NS P x (fR x now fine):=by
 unfold fR NV Lc;have h1:NS P x (uC x now):=⟨rfl,rfl,rfl,rfl,TS.refl.Ot _ _⟩;split
 ·split
  ·exact((h1.trans (Bo _)).trans (af8 _ _)).trans (agL _ _ _)
  ·exact h1
 ·exact NS.refl x
theorem Ou(x:ak)(n:Int)(e:bR)(t now:ae):NS P x (mU x n e t now):=by
 unfold mU;split
 ·exact⟨rfl,rfl,rfl,rfl,TS.refl.put _ _ _⟩
 ·exact NS.refl x
theorem Xx(x:ak)(f:bX)(now:ae):NS P x (uk x f now):=by
 unfold uk;split
 ·split
  ·exact⟨rfl,rfl,rfl,rfl,.refl⟩
  ·exact NS.refl x
 ·split
  ·exact Ou _ _ _ _ _
  ·exact NS.refl x
theorem RE(x:ak)(n:Int)(t:oJ)(a b:ae):NS P x (mo x n t a b):=by
 unfold mo;split
 ·exact NS.refl x
 ·split
  ·exact⟨rfl,rfl,rfl,rfl,.refl⟩
  ·exact NS.refl x
theorem Xy(x:ak)(f:bX)(at_ now fine:ae):NS P x (lW x f at_ now fine):=by
 unfold lW;split
 ·unfold NY;split
  ·exact((jV _ _ _).trans (Bo _)).trans (jV _ _ _)
  ·exact(jV _ _ _).trans (Bo _)
 ·split
  ·unfold J4 Tt;split
   ·split
    ·exact(jV _ _ _).trans (Bo _)
    ·exact jV _ _ _
   ·exact jV _ _ _
  ·unfold zN X4;split
   ·exact(jV _ _ _).trans (RE _ _ _ _ _)
   ·exact jV _ _ _
theorem RF(x:ak)(f:bX)(at_ now fine:ae):NS P x (takeN x f at_ now fine):=by
 unfold takeN;split
 ·exact Ou _ _ _ _ _
 split
 ·exact Xx _ _ _
 split
 ·split
  ·exact Xy _ _ _ _ _
  ·exact NS.refl x
 split
 ·exact⟨rfl,rfl,rfl,rfl,TS.refl.leave _⟩
 ·exact NS.refl x
theorem aaP(x:ak)(f:bX)(at_ now fine:ae)(hp:f.src.val≠x.id.val->P f.src f.boot):NS P x (hrN x f at_ now fine):=by
 unfold hrN DP;split
 ·exact NS.refl x
 rename_i hne;have h1:NS P x {x with t:=(eo x.t f.src f.boot f.seq now).2}:=⟨rfl,rfl,rfl,rfl,TS.refl.xC _ _ _ _ (hp hne)⟩;split
 ·exact NS.refl x
 split
 ·exact h1
 ·exact h1.trans (RF _ _ _ _ _)
theorem RG(x:ak)(b:List UInt8)(at_ now fine:ae)(hp: (cY b).2.val=0->(cY b).1.src.val≠x.id.val->P (cY b).1.src (cY b).1.boot):NS P x (nS x b at_ now fine):=by
 unfold nS;split
 ·split
  ·exact⟨rfl,rfl,rfl,rfl,.refl⟩
  ·rename_i h;exact aaP _ _ _ _ _ (hp (Decidable.not_not.1 h))
 ·exact NS.refl x
theorem RH(x:ak)(u:fX):NS P x (oQ x u):=by unfold oQ;exact⟨rfl,rfl,rfl,rfl,.refl⟩
end
def aaQ(s:bh):Prop:=∀p∈s.ents,p.2.node.val=p.1
theorem Iz{s:bh}{n:Int}{e:bR}{t:ae}{p:Int×bE}(h:p∈(iD s n e t).2.ents):p∈s.ents∨(p.1=n/\∃x,(n,x)∈s.ents/\p.2.node=x.node/\p.2.boot=x.boot):=by
 unfold iD at h;split at h
 ·exact .inl h
 ·rename_i x hx;split at h
  ·rcases xB h with h|rfl
   ·exact .inl h
   ·exact .inr ⟨rfl,x,Kd hx,rfl,rfl⟩
  ·exact .inl h
theorem zV{s:bh}{n:Int}{p:Int×bE}(h:p∈(iv s n).2.ents):p∈s.ents:=by
 unfold iv at h;split at h
 ·exact h
 ·exact DN h
theorem TS.inv{P:ae->ae->Prop}{s t:bh}(h:TS P s t)(h1:xe s)(h2:aaQ s):xe t/\aaQ t:=by
 induction h with
 |refl=>exact⟨h1,h2⟩
 |xC h n b q now hp ih=>
  refine⟨C9 ih.1,fun p hp=>?_⟩;rcases DO hp with hp|⟨a,b,_⟩
  ·exact ih.2 p hp
  ·rw[b];exact a.symm
 |put h n e tm ih=>
  refine⟨⟨fun p hp=>?_,?_⟩,fun p hp=>?_⟩
  ·rcases Iz hp with hp|⟨a,x,b,_,_⟩
   ·exact ih.1.1 p hp
   ·rw[a];exact ih.1.1 _ b
  ·unfold iD;split
   ·exact ih.1.2
   ·split <;> exact ih.1.2
  ·rcases Iz hp with hp|⟨a,x,b,c,_⟩
   ·exact ih.2 p hp
   ·rw[a,c];exact ih.2 _ b
 |leave h n ih=>
  refine⟨⟨fun p hp=>ih.1.1 p (zV hp),?_⟩,fun p hp=>ih.2 p (zV hp)⟩;unfold iv;split <;> exact ih.1.2
 |Ot h a b ih=>exact⟨⟨fun p hp=>ih.1.1 p (pM hp),ih.1.2⟩,fun p hp=>ih.2 p (pM hp)⟩
theorem NS.inv{P:ae->ae->Prop}{x y:ak}(h:NS P x y)(hi:cw x):cw y:=
 ⟨(h.t.inv hi.t hi.k).1,(h.t.inv hi.t hi.k).2,h.s.trans hi.s⟩
theorem qC.move{s:cZ}(h:qC s)(i:Int)(p q:fX):qC (bF s i p q).2:=by
 unfold bF
 repeat (split;exact h)
 exact⟨h.n0,h.n1,by show((s.p.set _ _).length:Int)=_;rw[List.length_set];exact h.hp,by show((s.mv.set _ _).length:Int)=_;rw[List.length_set];exact h.hm,h.t0,h.t1,h.s0,h.s1⟩
structure aR (s:aF):Prop where
 w:qC s.w
 np:s.w.p.length=s.n.length
 no:s.on.length=s.n.length
 nd:∀x∈s.n,cw x
 ml:∀m∈s.a,m.data.length<=1000
 mt:∀m∈s.a,∃j:Nat,m.to.val=j/\j<s.n.length
 al:s.a.length<=512
 cm:uf s.c=true
theorem aR.hi{s:aF}(h:aR s):s.n.length<=64:=by have h1:=h.np;have h2:=h.w.hp;have h3:=h.w.n1;omega
theorem aR.lo{s:aF}(h:aR s):1<=s.n.length:=by have h1:=h.np;have h2:=h.w.hp;have h3:=h.w.n0;omega
theorem aR.to{s:aF}(h:aR s)(i:Nat)(b:List UInt8)(g:ae)(j:Nat)(hb:b.length<=1000)(hj:j<s.n.length):aR (jz s i b g j):=by
 unfold jz;split
 ·exact h
 ·split
  ·rename_i hp;unfold ig at hp;simp only[bI,decide_eq_true_eq] at hp;have hf:kH s.a (jT s i b g j)=s.a++ [jT s i b g j]:=by unfold kH ig;rw[if_pos (by simpa using hp)]
   refine⟨h.w,h.np,h.no,h.nd,fun m hm=>?_,fun m hm=>?_,?_,h.cm⟩
   ·have hm:m∈kH s.a (jT s i b g j):=hm;rw[hf] at hm;rcases List.mem_append.1 hm with hm|hm
    ·exact h.ml m hm
    ·rw[List.mem_singleton.1 hm];exact hb
   ·have hm:m∈kH s.a (jT s i b g j):=hm;rw[hf] at hm;rcases List.mem_append.1 hm with hm|hm
    ·exact h.mt m hm
    ·rw[List.mem_singleton.1 hm];have:=h.hi;exact⟨j,gR (by omega),hj⟩
   ·show(kH s.a _).length<=_;rw[hf,List.length_append];have:=hp.1;simp;omega
  ·exact⟨h.w,h.np,h.no,h.nd,h.ml,h.mt,h.al,h.cm⟩
theorem aR.all{s:aF}(h:aR s)(i:Nat)(b:List UInt8)(g:ae)(hb:b.length<=1000):∀k,k<=s.n.length->aR (sendAll s i b g k)
 |0,_=>h
 |k+1,hk=>by rw[kI];exact(aR.all h i b g hb k (by omega)).to i b g k hb (by rw[(gL s i b g k).n];omega)
theorem DV(f:bX): ((nJ f).getD []).length<=1000:=by
 unfold nJ;split
 ·simp[DK]
 ·simp
theorem aR.send(i:Nat)(g:ae):∀(l:List (bX×ae)) {s:aF},aR s->aR (gi s i g l)
 | [],s,h=>h
 |o::l,s,h=>by rw[xz];exact aR.send i g l (h.all i _ g (DV _) _ (nL _))
theorem aR.put{s:aF}(h:aR s){i:Nat}{y:ak}(hy:cw y):aR {s with n:=s.n.set i y}:=
 ⟨h.w,by show _=(s.n.set i y).length;rw[List.length_set];exact h.np,by show _=(s.n.set i y).length;rw[List.length_set];exact h.no,fun x hx=>(List.mem_or_eq_of_mem_set hx).elim (h.nd x) (fun e=>e ▸ hy),h.ml,fun m hm=>by obtain⟨j,h1,h2⟩:=h.mt m hm;exact⟨j,h1,by show _<(s.n.set i y).length;rw[List.length_set];exact h2⟩,h.al,h.cm⟩
theorem jA{α:Type}{l:List α}{i:Nat}{x:α}(h:l[i]? =some x):x∈l:=List.mem_of_getElem? h
theorem aR.xC{s:aF}(h:aR s)(i:Nat)(b:List UInt8)(at_ g:ae):aR (jd s i b at_ g):=by
 unfold jd;split
 ·exact h
 ·rename_i x hx;exact aR.send _ _ _ (h.put ((RG (P:=fun _ _=>True) x b _ _ _ (fun _ _=>trivial)).inv (h.nd x (jA hx))))
end Go.Proofs.Yq
namespace Go.Proofs.Yq
open ChangeShapes WideShapes ChangeAt RowKit Ev
open Tryz
noncomputable section
def fB(g:ae)(s:aF)(i:Nat):aF:=
 match s.n[i]? with
 |none=>s
 |some x=>if s.on[i]? =some true then gi {s with n:=s.n.set i (fR x (ff s.w (nI i)) (dk s.w (nI i) g))} i g (gQ x (ff s.w (nI i)) (dk s.w (nI i) g)) else s
def cz(g:ae)(s:aF)(k:Nat):aF:=(List.range k).foldl (fB g) s
theorem je(g:ae)(s:aF)(k:Nat):cz g s (k+1)=fB g (cz g s k) k:=by unfold cz;rw[List.range_succ,List.foldl_append];rfl
def fk(s:aF):Int×aF:=if ix s.w then(0,cz (wG (eK s.w)) {s with w:=aU (eK s.w)} s.n.length) else(10,s)
theorem DW{s:aF}{p:bM}{g j b:Nat}{x:ak}(hx:s.n[j]? =some x)(hb:p.ns[j]? =some b): (aG s p g)[j+5]? =some (b,aO x):=by have:=nN (A:=[]) (g:=g) hx hb;rw[List.length_nil,Nat.zero_add] at this;exact this
theorem Kj{s:aF}{p:bM}{g j b:Nat}{y:ak}(hb:p.ns[j]? =some b): (aG s p g).set (j+5) (b,aO y)=aG {s with n:=s.n.set j y} p g:=by have:=oX (A:=[]) (s:=s) (p:=p) (g:=g) (y:=y) hb;rw[List.length_nil,Nat.zero_add] at this;exact this
theorem Kk(x:ak)(now fine:ae): (lD x now fine).length<=1:=by
 unfold lD;split
 ·exact jx _ _ _ _
 ·simp
theorem Kl(x:ak)(now fine:ae): (gQ x now fine).length<=3:=by
 unfold gQ;split
 ·split
  ·rw[List.length_append,List.length_append];exact Nat.add_le_add (Nat.add_le_add (jx _ _ _ _) (zK _ _ _)) (Kk _ _ _)
  ·simp
 ·simp
theorem aR.fB{s:aF}(h:aR s)(g:ae)(i:Nat):aR (fB g s i):=by
 unfold Go.Proofs.Yq.fB;split
 ·exact h
 ·rename_i x hx;split
  ·exact aR.send _ _ _ (h.put ((h.nd x (jA hx)).tick _ _))
  ·exact h
theorem aS.fB{s:aF}{p:bM}(h:aS s p)(g:ae)(i:Nat):aS (fB g s i) p:=by
 unfold Go.Proofs.Yq.fB;split
 ·exact h
 ·split
  ·exact h.put.Oh (gA _ _ _ _)
  ·exact h
theorem aR.qF{s:aF}(h:aR s){v:cZ}(hv:qC v)(hp:v.p.length=s.w.p.length):aR {s with w:=v}:=⟨hv,by show v.p.length=_;rw[hp];exact h.np,h.no,h.nd,h.ml,h.mt,h.al,h.cm⟩
theorem aS.qF{s:aF}{p:bM}(h:aS s p)(v:cZ):aS {s with w:=v} p:=⟨h.ns,h.n,h.on,h.lo,h.hi⟩
theorem aR.cz{s:aF}(h:aR s)(g:ae):∀k,aR (cz g s k)
 |0=>h
 |k+1=>by rw[je];exact(aR.cz h g k).fB g k
theorem aS.cz{s:aF}{p:bM}(h:aS s p)(g:ae):∀k,aS (cz g s k) p
 |0=>h
 |k+1=>by rw[je];exact(aS.cz h g k).fB g k
theorem IA(s:cZ): (aU (eK s)).p.length=s.p.length:=by show(eK s).p.length=_;unfold eK;split <;> rfl
theorem aR.tick{s:aF}(h:aR s):aR (fk s).2:=by
 unfold fk;split
 ·exact aR.cz (h.qF h.w.tick.step (IA _)) _ _
 ·exact h
theorem Ov(s:aF)(p:bM)(g:Nat)(F:Nat->Prop)(w:World)(hk:aS s p)(hi:aR s)(h:Sep w (aG s p g) F):Calls prog 22 #[.pointer (some ⟨g,0,none⟩)] w fun r w'=>r= .returned (.int .i64 (fk s).1)/\Mem w F (aG (fk s).2 p g) w':=by
 have M0:Hid (Mem w F (aG s p g) w):=Mem.start h;have HK:=qD hk;have hpk:p.k<=64:=hk.hi;have HI:=qD hi;have c0:=uo M0.o (i:=0) rfl;have HC:Hid (Calls prog 47 #[.pointer (some ⟨p.gw,0,none⟩)] w fun e w'=>e= .returned (.bool (ix s.w))/\Mem w F (aG {s with w:=eK s.w} p g) w'):=M0.o.bD (i:=1) rfl (fun F1 hF=>N5 s.w p.gw F1 w hi.w hF);obtain⟨T,hT⟩:∃T,T=fk s:=⟨_,rfl⟩;rw[<-hT];have HT:=qD hT;unfold fk at hT;have HT2:=qD hT;have HW:Hid (ix s.w=false->eK s.w=s.w):=fun h=>by unfold eK;rw[h];rfl
 clear h hk hi hT;go_enter func22,ntmps22;generalize ix s.w=tb at HC HT2 HW;cases tb with
 |false=>
  have HT3:Hid (T=(10,s)):=by show _=_;rw[HT2.o];simp
  rw[HW.o rfl] at HC;clear HT HT2;go_wp2_with (go_at_call 47;refine qHG HC.o fun w1 M1=>?_);go_ret;rw[HT3.o];exact⟨rfl,M1.o⟩
 |true=>
  have HT3:Hid (T=(0,cz (wG (eK s.w)) {s with w:=aU (eK s.w)} p.k)):=by show _=_;rw[HT2.o,if_pos rfl,HK.o.n]
  clear HT HT2 HW;go_upto_region 3 with(go_at_call 47;refine qHG HC.o fun w1 M1=>?_);clear HC c0 M0;have c0:w1.cell? ⟨g,0,none⟩=some (.pointer (some ⟨p.gw,0,none⟩)):=uo M1.o (i:=0) rfl;have HC:Hid (Calls prog 48 #[.pointer (some ⟨p.gw,0,none⟩)] w1 fun e w'=>e= .returned (.int .i64 (wG (eK s.w)).val)/\Mem w F (aG {s with w:=aU (eK s.w)} p g) w'):=M1.o.bD (i:=1) rfl (fun F1 hF=>rL (eK s.w) p.gw F1 w1 HI.o.w.tick hF);have KS:Hid (aS {s with w:=aU (eK s.w)} p):=HK.o.qF _;have IS:Hid (aR {s with w:=aU (eK s.w)}):=HI.o.qF HI.o.w.tick.step (IA _);generalize wG (eK s.w)=G at HC HT3;generalize ({s with w:=aU (eK s.w)}:aF)=S at HC HT3 KS IS;go_upto_region 4 with(go_at_call 48;refine qHG HC.o fun w2 M2=>?_);clear HC c0 M1;have c13:w2.cell? ⟨g,13,none⟩=some (.slice (some ⟨p.gn,0,none⟩) p.k p.cn):=tq M2.o (i:=0) rfl;go_upto_region 5 with(fail)
  go_loopw [22] (fun i22 wr=>∃i:Nat,i<=p.k/\i22= .int .i64 i/\Hid (Mem w F (aG (cz G S i) p g) wr)) (fun i22 _=>p.k-(intOf i22).toNat)
  case atStart=>exact⟨0,by omega,rfl,M2⟩
  case round=>
   obtain⟨i,hil,rfl,M⟩:=hrel;clear M2 c13;obtain⟨U,hU⟩:∃U,U=cz G S i:=⟨_,rfl⟩;rw[<-hU] at M;have KU:Hid (aS U p):=by rw[hU];exact KS.o.cz _ _
   have IU:Hid (aR U):=by rw[hU];exact IS.o.cz _ _
   by_cases hlt:i<p.k
   ·have HU1:Hid (cz G S (i+1)=fB G U i):=by show _=_;rw[je,<-hU]
    clear hU;obtain⟨x,a,hx,ha⟩:=DT (A:=[]) KU.o hlt M.o;have ca:=nc M.o (i:=3) rfl ha;have c14:=afz M.o (i:=0) rfl;obtain⟨ob,hob⟩:∃ob,U.on[i]? =some ob:=⟨_,gE (by rw[KU.o.on];exact hlt)⟩;have cb:=lX M.o (i:=4) rfl hob;cases ob with
    |false=>
     have HU2:Hid (cz G S (i+1)=U):=by show _=_;rw[HU1.o];unfold fB;rw[hx];show(if U.on[i]? =some true then _ else U)=U;rw[hob];simp
     clear HU1 hx hob;go_wp2;go_roundw
     case rel=>exact⟨i+1,by omega,by go_num,by rw[HU2.o];exact M⟩
     case measure=>simp[intOf];omega
    |true=>
     have HU2:Hid (cz G S (i+1)=gi {U with n:=U.n.set i (fR x (ff U.w (nI i)) (dk U.w (nI i) G))} i G (gQ x (ff U.w (nI i)) (dk U.w (nI i) G))):=by show _=_;rw[HU1.o];unfold fB;rw[hx];show(if U.on[i]? =some true then _ else U)=_;rw[hob,if_pos rfl]
     have HJ:Hid (i<=1000000):=by show _<=_;omega
     have HX:Hid (cw x):=IU.o.nd x (jA hx);have HN:=qD (DW (g:=g) hx ha);have HP2:=qD (fun y=>Kj (s:=U) (p:=p) (g:=g) (y:=y) ha);clear HU1 hx hob;go_upto_region 8 with(fail);refine aT 18 (.qs [0,1,2,3,4,5,6,7,9,10,11,12,13,14,17] (.w 8 (.w 15 (.w 16 .done)))) (fun w'=>w'.cell? ⟨g,0,none⟩=some (.pointer (some ⟨p.gw,0,none⟩))) (by kernel_rfl) (by kernel_rfl) ?_ ?_
     ·exact uo (M.o.below (Below.drew (bZ _ wr))) (i:=0) rfl
     have M1:=qD (M.o.below (Below.drew (bZ _ wr)));generalize wr.drew=w3 at*;clear M;simp only[MT.qs,tC,tE]
     iterate 15 (refine fJ rfl rfl (by rintro w' s1 K hK;go_simp;exact hK.o) ?_)
     obtain⟨F1,h1⟩:=M1.o.rep (i:=1) rfl;have HW1:Hid (Calls prog 51 #[.pointer (some ⟨p.gw,0,none⟩),.int .i64 (i:Int)] w3 fun e w'=>e= .returned (.int .i64 (ff U.w (nI i)).val)/\Below w3.heap.size w3 w'):=by have:=Bh U.w p.gw F1 w3 (nI i) h1;rw[gR HJ.o] at this;exact this
     clear h1;generalize ff U.w (nI i)=nw at HW1 HU2;refine cO rfl (fun K hK=>?_);go_wp2_with (go_at_call 51;refine Mem.qB HW1.o M1.o fun w4 M2=>?_;clear HW1 M1);refine hK.o _ _ (uo M2.o (i:=0) rfl) ?_;clear hK;obtain⟨F1,h1⟩:=M2.o.rep (i:=1) rfl;have HW1:Hid (Calls prog 52 #[.pointer (some ⟨p.gw,0,none⟩),.int .i64 (i:Int),.int .i64 G.val] w4 fun e w'=>e= .returned (.int .i64 (dk U.w (nI i) G).val)/\Below w4.heap.size w4 w'):=by have:=oO U.w p.gw F1 w4 (nI i) G h1;rw[gR HJ.o] at this;exact this
     clear h1;generalize dk U.w (nI i) G=fi at HW1 HU2;refine cO rfl (fun K hK=>?_);go_wp2_with (go_at_call 52;refine Mem.qB HW1.o M2.o fun w5 M3=>?_;clear HW1 M2);refine hK.o _ _ (uo M3.o (i:=0) rfl) ?_;clear hK;have HC:Hid (Calls prog 50 #[.pointer (some ⟨a,0,none⟩),.int .i64 nw.val,.int .i64 fi.val] w5 fun e w'=>∃q:Value,e= .returned q/\Mem w F ([(0,.own 163 16 aM q (gQ x nw fi))]++aG {U with n:=U.n.set i (fR x nw fi)} p g) w'):=by rw[<-(HP2.o _)];exact Mem.Bk M3.o (α:=Value) (N:=fun q=>[(0,.own 163 16 aM q (gQ x nw fi))]) (p':=fun _=>(a,aO (fR x nw fi))) (E:=fun q e=>e= .returned q) HN.o (fun F1 hF=>NW a x nw fi F1 w5 HX.o hF)
     have HOL:Hid ((gQ x nw fi).length<=1000):=nT (Kl _ _ _) (by decide);generalize gQ x nw fi=os at HC HU2 HOL;have KS2:Hid (aS {U with n:=U.n.set i (fR x nw fi)} p):=KU.o.put;generalize hSS: ({U with n:=U.n.set i (fR x nw fi)}:aF)=V at HC HU2 KS2;clear M3 hSS HN HP2;refine cO rfl (fun K hK=>?_);go_wp2_with (go_at_call 50;refine HC.o.mono ?_;rintro r w6 ⟨v1,rfl,hM⟩;have M4:=qD hM;clear hM HC);refine hK.o _ _ (uo M4.o (i:=1) rfl) ?_;clear hK;refine bY ?_;have HC:Hid (Calls prog 49 #[.pointer (some ⟨g,0,none⟩),.int .i64 (i:Int),v1,.int .i64 G.val] w6 fun r w'=>r= .returned (.tuple #[])/\Mem w F ([(0,.own 163 16 aM v1 os)]++aG (cz G S (i+1)) p g) w'):=by rw[HU2.o];exact Mem.Iy M4.o (fun F1 hF=>xA V p g i (by omega) os v1 G F1 w6 KS2.o HOL.o hF)
     clear M4 HU2 c14 cb ca;go_wp2_with (go_at_call 49;refine qHG HC.o fun w7 M5=>?_;clear HC);refine NoPanic.normal ?_;go_wp2;go_roundw
     case rel=>exact⟨i+1,by omega,by go_num,M5.o.au⟩
     case measure=>simp[intOf];omega
   ·have hin:i=p.k:=by omega
    subst hin;rw[hU] at M;have M:=qD M.o;go_wp2;go_ret;rw[HT3.o];exact⟨rfl,M.o⟩
theorem Mem.jI{P:Program}{f:FuncId}{args:Array Value}{w0 w:World}{F0:Nat->Prop}{A L L':List (Nat×aj)}{E:Ending->Prop}(h:Mem w0 F0 (A++L) w)(hc:∀F1,Sep w L F1->Calls P f args w fun e w'=>E e/\Mem w F1 L' w'):Calls P f args w fun e w'=>E e/\Mem w0 F0 (A++L') w':=by
 have h1:Mem w0 F0 (A++ [(0,.nV fun _=>L)]) w:=Mem.fold h (p:=(0,.nV fun _=>L)) (fun F hF=>hF);have h2:=h1.bD (P:=P) (f:=f) (args:=args) (E:=E) (i:=A.length) (g:=0) (R:= .nV fun _=>L) (R':= .nV fun _=>L') (by simp) (fun F1 hF=>hc F1 hF);refine h2.mono ?_;rintro e w' ⟨he,hm⟩;refine⟨he,?_⟩;have h3:Mem w0 F0 (A++ [(0,.nV fun _=>L')]) w':=by
  have e1: (A++ [(0,aj.nV fun _=>L)]).set A.length (0,.nV fun _=>L')=A++ [(0,.nV fun _=>L')]:=by rw[List.set_append_right _ _ (nL _),Nat.sub_self];rfl
  rw[e1] at hm;exact hm
 obtain⟨F1,hF,h4⟩:=Mem.unfold h3;exact h4 _ hF
def jf(s:aF)(i:Int):Int×aF:=
 match dJ s.a i with
 |none=>(7,s)
 |some m=>if (wG s.w).val<m.afn.val then(10,{s with w:=aU s.w})
  else(0,if s.on[m.to.val.toNat]? =some true then jd {s with w:=aU s.w,a:=eM s.a i} m.to.val.toNat m.data m.at_ (wG s.w) else{s with w:=aU s.w,a:=eM s.a i})
theorem rR{s:List bf}{i:Int}{m:bf}(h:dJ s i=some m):m∈s:=by
 unfold dJ at h;split at h
 ·exact jA h
 ·cases h
theorem DX{s:List bf}{i:Int}{m:bf}(h:m∈eM s i):m∈s:=by
 unfold eM at h;split at h
 ·exact List.mem_of_mem_eraseIdx h
 ·exact h
theorem take_len(s:List bf)(i:Int): (eM s i).length<=s.length:=by
 unfold eM;split
 ·exact List.length_eraseIdx_le _ _
 ·exact nL _
theorem aR.Ow{s:aF}(h:aR s)(i:Int):aR {s with a:=eM s.a i}:=
 ⟨h.w,h.np,h.no,h.nd,fun m hm=>h.ml m (DX hm),fun m hm=>h.mt m (DX hm),nT (take_len _ _) h.al,h.cm⟩
theorem aR.step{s:aF}(h:aR s):aR {s with w:=aU s.w}:=h.qF h.w.step rfl
theorem aR.del{s:aF}(h:aR s)(i:Int):aR (jf s i).2:=by
 unfold jf;split
 ·exact h
 ·split
  ·exact h.step
  ·show aR (if _ then _ else _);have h1:aR {s with w:=aU s.w,a:=eM s.a i}:=h.step.Ow i;split
   ·exact h1.xC _ _ _ _
   ·exact h1
theorem aS.Km{s:aF}{p:bM}(h:aS s p)(v:cZ)(a:List bf):aS {s with w:=v,a:=a} p:=⟨h.ns,h.n,h.on,h.lo,h.hi⟩
theorem RI(s:aF)(p:bM)(g:Nat)(i:ae)(F:Nat->Prop)(w:World)(hk:aS s p)(hi:aR s)(h:Sep w (aG s p g) F):Calls prog 23 #[.pointer (some ⟨g,0,none⟩),.int .i64 i.val] w fun r w'=>r= .returned (.int .i64 (jf s i.val).1)/\Mem w F (aG (jf s i.val).2 p g) w':=by
 have M0:Hid (Mem w F (aG s p g) w):=Mem.start h;have HK:=qD hk;have hpk:p.k<=64:=hk.hi;have HI:=qD hi;have hmz:=jt;have c1:=Tv M0.o (i:=0) rfl;obtain⟨F1,h1⟩:=M0.o.rep (i:=2) rfl;have HC:=qD (uR s.a p.ga F1 w i h1 (fun m hm=>nT (hi.ml m hm) (by decide)));obtain⟨T,hT⟩:∃T,T=jf s i.val:=⟨_,rfl⟩;rw[<-hT];unfold jf at hT;have HT:=qD hT;clear h h1 hk hi hT;cases hg:dJ s.a i.val with
 |none=>
  have HT2:Hid (T=(7,s)):=by show _=_;rw[HT.o,hg]
  rw[hg] at HC;simp only[Option.getD_none,Option.isSome_none] at HC;clear HT;go_enter func23,ntmps23;go_upto_region 2 with(go_at_call 53;refine HC.o.mono ?_;rintro r w1 ⟨v,rfl,hO,hb⟩;have M1:=qD (M0.o.below hb);clear hb hO);have M2:Hid (Mem w F ([(w1.heap.size,.row (aH bB v))]++aG s p g) ((w1.alloc (.cells (aH bB gO) 116)).setCells w1.heap.size 0 (aH bB v).toList)):=(M1.o.alloc (cs:=aH bB gO) (t:=116)).bC (i:=0) (cs':=aH bB v) rfl (by simp[a8]);generalize ((w1.alloc (.cells (aH bB gO) 116)).setCells w1.heap.size 0 (aH bB v).toList)=w2 at*;clear M1 HC;go_wp2;go_ret;rw[HT2.o];exact⟨rfl,M2.o.au⟩
 |some m=>
  have HT2:Hid (T=if (wG s.w).val<m.afn.val then(10,{s with w:=aU s.w})
   else(0,if s.on[m.to.val.toNat]? =some true then jd {s with w:=aU s.w,a:=eM s.a i.val} m.to.val.toNat m.data m.at_ (wG s.w) else{s with w:=aU s.w,a:=eM s.a i.val})):=by show _=_;rw[HT.o,hg]
  rw[hg] at HC;simp only[Option.getD_some,Option.isSome_some] at HC;have HMM:Hid (m∈s.a):=rR hg;clear HT hg;go_enter func23,ntmps23;go_upto_region 2 with(go_at_call 53;refine HC.o.mono ?_;rintro r w1 ⟨v,rfl,hO,hb⟩;have M1:=qD (M0.o.ae6 (g:=0) hb hO);clear hb hO);have M2:Hid (Mem w F ([(w1.heap.size,.row (aH m v)),(0,.own 5 1 bj v.v m.data)]++aG s p g) ((w1.alloc (.cells (aH bB gO) 116)).setCells w1.heap.size 0 (aH m v).toList)):=(M1.o.alloc (cs:=aH bB gO) (t:=116)).bC (i:=0) (cs':=aH m v) rfl (by simp[a8]);generalize w1.heap.size=gm at M2 ⊢;generalize ((w1.alloc (.cells (aH bB gO) 116)).setCells gm 0 (aH m v).toList)=w2 at*;clear M1 HC c1 M0;have c0:w2.cell? ⟨g,0,none⟩=some (.pointer (some ⟨p.gw,0,none⟩)):=uo M2.o (i:=2) rfl;have HC:Hid (Calls prog 48 #[.pointer (some ⟨p.gw,0,none⟩)] w2 fun e w'=>e= .returned (.int .i64 (wG s.w).val)/\Mem w F ([(gm,.row (aH m v)),(0,.own 5 1 bj v.v m.data)]++aG {s with w:=aU s.w} p g) w'):=M2.o.bD (i:=3) rfl (fun F1 hF=>rL s.w p.gw F1 w2 HI.o.w hF);generalize wG s.w=G at HC HT2;go_upto_region 5 with(go_at_call 48;refine qHG HC.o fun w3 M3=>?_);clear HC c0 M2;have e3:w3.cell? ⟨gm,3,none⟩=some (.int .i64 m.afn.val):=M3.o.cell (i:=0) (k:=3) rfl rfl;by_cases hlt:G.val<m.afn.val
  ·have HT3:Hid (T=(10,{s with w:=aU s.w})):=by show _=_;rw[HT2.o,if_pos hlt]
   have d1:decide (G.val<m.afn.val)=true:=by simpa using hlt
   clear HT2;go_wp2;go_ret;rw[HT3.o];exact⟨rfl,M3.o.au.au⟩
  ·obtain⟨j,hj,hjn⟩:=HI.o.mt m HMM.o;have hjk:j<p.k:=by rw[<-HK.o.n];exact hjn
   have HT3:Hid (T=(0,if s.on[j]? =some true then jd {s with w:=aU s.w,a:=eM s.a i.val} j m.data m.at_ G else{s with w:=aU s.w,a:=eM s.a i.val})):=by show _=_;rw[HT2.o,if_neg hlt,hj,Int.toNat_natCast]
   have d1:decide (G.val<m.afn.val)=false:=by simpa using hlt
   have HJ:=qD hj;clear HT2 hj hjn;go_upto_region 7 with(fail);have c1:w3.cell? ⟨g,1,none⟩=some (.pointer (some ⟨p.ga,0,none⟩)):=Tv M3.o (i:=2) rfl;have HC:Hid (Calls prog 54 #[.pointer (some ⟨p.ga,0,none⟩),.int .i64 i.val] w3 fun e w'=>(∃r,e= .returned r)/\Mem w F ([(gm,.row (aH m v)),(0,.own 5 1 bj v.v m.data)]++aG {s with w:=aU s.w,a:=eM s.a i.val} p g) w'):=M3.o.bD (i:=4) rfl (fun F1 hF=>DG s.a p.ga F1 w3 i hF (fun m hm=>nT (HI.o.ml m hm) (by decide)) (nT HI.o.al (by decide)));have KS:Hid (aS {s with w:=aU s.w,a:=eM s.a i.val} p):=HK.o.Km _ _;have IS:Hid (aR {s with w:=aU s.w,a:=eM s.a i.val}):=HI.o.step.Ow _;have HON:Hid (({s with w:=aU s.w,a:=eM s.a i.val}:aF).on=s.on):=rfl;generalize ({s with w:=aU s.w,a:=eM s.a i.val}:aF)=S at HC HT3 KS IS HON;go_upto_region 8 with(go_at_call 54;refine HC.o.mono ?_;rintro r w4 ⟨⟨r4,rfl⟩,hM⟩;have M4:=qD hM;clear hM);clear HC c1 M3 e3 d1 hlt;have e0:w4.cell? ⟨gm,0,none⟩=some (.int .i64 (j:Int)):=by rw[<-HJ.o];exact M4.o.cell (i:=0) (k:=0) rfl rfl
   have c14:w4.cell? ⟨g,14,none⟩=some (.slice (some ⟨p.gb,0,none⟩) p.k p.cb):=afz M4.o (i:=2) rfl;obtain⟨ob,hob⟩:∃ob,S.on[j]? =some ob:=⟨_,gE (by rw[KS.o.on];exact hjk)⟩;have cb:=lX M4.o (i:=6) rfl hob;have l1:=ab (M4.o.row (i:=0) rfl);have l2:=ab (M4.o.row (i:=2) rfl);have l3:p.gb<w4.heap.size:=World.block_lt_of_cell? _ _ cb;refine aY ?_
   repeat quiet_step (fail)
   refine wpQuiet_nil ?_;intro w5 hb5;have M5:=qD (M4.o.below hb5);clear M4 e0 c14 l1 l2 l3 cb hb5;rw[<-HON.o,hob] at HT3;cases ob with
   |false=>
    have HT4:Hid (T=(0,S)):=by show _=_;rw[HT3.o];simp
    clear HT3;go_wp2;go_ret;rw[HT4.o];exact⟨rfl,M5.o.au.au⟩
   |true=>
    have HT4:Hid (T=(0,jd S j m.data m.at_ G)):=by show _=_;rw[HT3.o,if_pos rfl]
    clear HT3;obtain⟨x,hx⟩:∃x,S.n[j]? =some x:=⟨_,gE (by rw[KS.o.n];exact hjk)⟩;have e0:w5.cell? ⟨gm,0,none⟩=some (.int .i64 (j:Int)):=by rw[<-HJ.o];exact M5.o.cell (i:=0) (k:=0) rfl rfl
    have e1:w5.cell? ⟨gm,1,none⟩=some (.slice v.a v.n v.c):=M5.o.cell (i:=0) (k:=1) rfl rfl;have e2:w5.cell? ⟨gm,2,none⟩=some (.int .i64 m.at_.val):=M5.o.cell (i:=0) (k:=2) rfl rfl;have HR:Hid (Rd w5 (.slice v.a v.n v.c) m.data):=Rd.Xv (M5.o.own (i:=1) rfl);have HC:Hid (Calls prog 55 #[.pointer (some ⟨g,0,none⟩),.int .i64 (j:Int),.slice v.a v.n v.c,.int .i64 m.at_.val,.int .i64 G.val] w5 fun r w'=>r= .returned (.tuple #[])/\Mem w F ([(gm,.row (aH m v)),(0,.own 5 1 bj v.v m.data)]++aG (jd S j m.data m.at_ G) p g) w'):=
     Mem.jI M5.o (fun F1 hF=>DU S p g j x hx (IS.o.nd x (jA hx)) m.data _ m.at_ G F1 w5 KS.o (nT (HI.o.ml m HMM.o) (by decide)) HR.o hF)
    clear hx HR M5;go_wp2_with (go_at_call 55;refine qHG HC.o fun w6 M6=>?_);go_ret;rw[HT4.o];exact⟨rfl,M6.o.au.au⟩
section
structure cU where
 kind:ae
 node:ae
 n:ae
 p:fX
 q:fX
 e:bR
 x:ae
 b:UInt8
 data:List UInt8
def az(s:cU)(v:Sl):Array Value:=#[.int .i64 s.kind.val,.int .i64 s.node.val,.int .i64 s.n.val,.int .i64 s.p.1.val,.int .i64 s.p.2.1.val,.int .i64 s.q.1.val,.int .i64 s.q.2.1.val,.int .i64 s.e.1.val,.int .i64 s.e.2.1.val,.int .i64 s.e.2.2.1.val,.int .i64 s.e.2.2.2.1.val,.int .i64 s.e.2.2.2.2.1.val,.int .i64 s.x.val,.int .u8 s.b.toNat,.slice v.a v.n v.c]
@[go_sem] theorem tu (s:cU) (v:Sl): (az s v).size=15:=rfl
@[go_sem] theorem aaR (s:cU) (v:Sl):bK (az s v)=true:=by simp[bK,az,Value.oneCell']
@[go_sem] theorem aaS (s:cU) (v:Sl): (az s v).extract 0 15=az s v:=by have:=tu s v;rw[<-this,Array.extract_size]
def ft(s:aF)(t:cU):Int×aF:=
 if t.kind.val=6 then(oW s.a t.n.val t.x.val t.b,{s with a:=xv s.a t.n.val t.x.val t.b}) else
 if (dJ s.a t.n.val).isNone then(7,s) else
 if t.kind.val=4 then(0,{s with a:=eM s.a t.n.val}) else
 (if DH s.a t.n.val then 0 else 8,{s with a:=ya s.a t.n.val})
theorem aR.Km{s:aF}(h:aR s){a:List bf}(h1:∀m∈a,m.data.length<=1000/\∃j:Nat,m.to.val=j/\j<s.n.length)(h2:a.length<=512):aR {s with a:=a}:=
 ⟨h.w,h.np,h.no,h.nd,fun m hm=>(h1 m hm).1,fun m hm=>(h1 m hm).2,h2,h.cm⟩
theorem aR.Xz{s:aF}(h:aR s)(t:cU):aR (ft s t).2:=by
 unfold ft;split
 ·refine h.Km (fun m hm=>?_) ?_
  ·unfold xv at hm;split at hm
   ·exact⟨h.ml m hm,h.mt m hm⟩
   ·rename_i y hy;split at hm
    ·rcases List.mem_or_eq_of_mem_set hm with hm|rfl
     ·exact⟨h.ml m hm,h.mt m hm⟩
     ·have hy:=rR hy;exact⟨by show(y.data.set _ _).length<=_;rw[List.length_set];exact h.ml y hy,h.mt y hy⟩
    ·exact⟨h.ml m hm,h.mt m hm⟩
  ·unfold xv;split
   ·exact h.al
   ·split
    ·rw[List.length_set];exact h.al
    ·exact h.al
 split
 ·exact h
 split
 ·exact h.Ow _
 ·refine h.Km (fun m hm=>?_) ?_
  ·unfold ya at hm;split at hm
   ·rename_i y hy;unfold kH at hm;split at hm
    ·rcases List.mem_append.1 hm with hm|hm
     ·exact⟨h.ml m hm,h.mt m hm⟩
     ·rw[List.mem_singleton.1 hm];exact⟨h.ml y (rR hy),h.mt y (rR hy)⟩
    ·exact⟨h.ml m hm,h.mt m hm⟩
   ·exact⟨h.ml m hm,h.mt m hm⟩
  ·unfold ya;split
   ·rename_i y hy;unfold kH;split
    ·rename_i hp;unfold ig at hp;simp only[bI,decide_eq_true_eq] at hp;rw[List.length_append];have:=hp.1;simp;omega
    ·exact h.al
   ·exact h.al
theorem aS.TA{s:aF}{p:bM}(h:aS s p)(a:List bf):aS {s with a:=a} p:=⟨h.ns,h.n,h.on,h.lo,h.hi⟩
section
variable {w0 w:World} {F0:Nat->Prop} {L:List (Nat×aj)} {s:cU} {v:Sl} {g i:Nat}
theorem xE(h:Mem w0 F0 L w)(hi:L[i]? =some (g,.row (az s v))):w.cell? ⟨g,0,none⟩=some (.int .i64 s.kind.val):=h.cell hi rfl
theorem Eu(h:Mem w0 F0 L w)(hi:L[i]? =some (g,.row (az s v))):w.cell? ⟨g,1,none⟩=some (.int .i64 s.node.val):=h.cell hi rfl
theorem RJ(h:Mem w0 F0 L w)(hi:L[i]? =some (g,.row (az s v))):w.cell? ⟨g,2,none⟩=some (.int .i64 s.n.val):=h.cell hi rfl
theorem adU(h:Mem w0 F0 L w)(hi:L[i]? =some (g,.row (az s v))):w.cell? ⟨g,12,none⟩=some (.int .i64 s.x.val):=h.cell hi rfl
theorem adV(h:Mem w0 F0 L w)(hi:L[i]? =some (g,.row (az s v))):w.cell? ⟨g,13,none⟩=some (.int .u8 s.b.toNat):=h.cell hi rfl
theorem aaT(h:Mem w0 F0 L w)(hi:L[i]? =some (g,.row (az s v))):w.cell? ⟨g,14,none⟩=some (.slice v.a v.n v.c):=h.cell hi rfl
end
theorem xF(s:aF)(p:bM)(g:Nat)(t:cU)(v:Sl)(F:Nat->Prop)(w:World)(hk:aS s p)(hi:aR s)(hkd:t.kind.val=4∨t.kind.val=5∨t.kind.val=6)(h:Sep w (aG s p g) F):Calls prog 24 #[.pointer (some ⟨g,0,none⟩),.agg (az t v)] w fun r w'=>r= .returned (.int .i64 (ft s t).1)/\Mem w F (aG (ft s t).2 p g) w':=by
 have M0:Hid (Mem w F ([(w.heap.size,.row (az t v))]++aG s p g) (w.alloc (.cells (az t v) 40))):=(Mem.start h).alloc;have HK:=qD hk;have hpk:p.k<=64:=hk.hi;have HI:=qD hi;have HD:Hid (∀m∈s.a,m.data.length<=1000000):=fun m hm=>nT (hi.ml m hm) (by decide);have HL:Hid (s.a.length<=1000):=nT hi.al (by decide);have hmz:=jt;obtain⟨T,hT⟩:∃T,T=ft s t:=⟨_,rfl⟩;rw[<-hT];unfold ft at hT;have HT:=qD hT;clear h hk hi hT;go_enter func24,ntmps24;go_upto_region 1 with(fail);generalize (w.alloc (.cells (az t v) 40))=w1 at*;generalize w.heap.size=gt at M0 ⊢;have e0:=xE M0.o (i:=0) rfl;have c1:w1.cell? ⟨g,1,none⟩=some (.pointer (some ⟨p.ga,0,none⟩)):=Tv M0.o (i:=1) rfl;have l1:=ab (M0.o.row (i:=0) rfl);have l2:=ab (M0.o.row (i:=1) rfl);have e2:=RJ M0.o (i:=0) rfl;by_cases h6:t.kind.val=6
 ·have HT2:Hid (T=(oW s.a t.n.val t.x.val t.b,{s with a:=xv s.a t.n.val t.x.val t.b})):=by show _=_;rw[HT.o,if_pos h6]
  have b6: (t.kind.val==6)=true:=by simpa using h6
  have e12:=adU M0.o (i:=0) rfl;have e13:=adV M0.o (i:=0) rfl;clear HT;go_upto_region 2 with(fail);refine ar 10 ?_;simp only[tA,tD,tC,tE]
  repeat quiet_step (fail)
  refine wpQuiet_nil ?_;intro w2 hb2;have M2:=qD (M0.o.below hb2);clear M0 e0 c1 l1 l2 e2 e12 e13 hb2;have HC:Hid (Calls prog 56 #[.pointer (some ⟨p.ga,0,none⟩),.int .i64 t.n.val,.int .i64 t.x.val,.int .u8 t.b.toNat] w2 fun e w'=>e= .returned (.int .i64 (oW s.a t.n.val t.x.val t.b))/\Mem w F ([(gt,.row (az t v))]++aG {s with a:=xv s.a t.n.val t.x.val t.b} p g) w'):=M2.o.bD (i:=3) rfl (fun F1 hF=>Oe s.a p.ga F1 w2 t.n t.x t.b hF HL.o HD.o);go_wp2_with (go_at_call 56;refine qHG HC.o fun w3 M3=>?_);go_ret;rw[HT2.o];exact⟨rfl,M3.o.au⟩
 ·have HT2:Hid (T=if (dJ s.a t.n.val).isNone then(7,s) else
   if t.kind.val=4 then(0,{s with a:=eM s.a t.n.val}) else
   (if DH s.a t.n.val then 0 else 8,{s with a:=ya s.a t.n.val})):=by show _=_;rw[HT.o,if_neg h6]
  have b6: (t.kind.val==6)=false:=by simpa using h6
  clear HT;go_upto_region 3 with(fail);obtain⟨F1,hr⟩:=M0.o.rep (i:=3) rfl;have HGET:Hid (∀w',Below w1.heap.size w1 w'->Calls prog 53 #[.pointer (some ⟨p.ga,0,none⟩),.int .i64 t.n.val] w' fun e w''=>∃v:Sl,e= .returned (.tuple #[.agg (aH ((dJ s.a t.n.val).getD bB) v),.bool (dJ s.a t.n.val).isSome])/\Own w'' w'.heap.size 5 1 bj v.v ((dJ s.a t.n.val).getD bB).data/\Below w'.heap.size w' w''):=fun w' hb=>uR s.a p.ga F1 w' t.n ((gJ s.a).loc _ _ _ _ hr fun x hx=>hb.block x ((gJ s.a).lt _ _ _ hr x hx)) HD.o;clear hr;generalize (dJ s.a t.n.val).getD bB=mq at HGET;have HIS:Hid ((dJ s.a t.n.val).isNone= !(dJ s.a t.n.val).isSome):=by show _=_;cases dJ s.a t.n.val <;> rfl
  rw[HIS.o] at HT2;clear HIS;generalize (dJ s.a t.n.val).isSome=sb at HGET HT2
  go_cut [5,6] from 31 (fun x5 x6 wr=>x6= .bool sb/\Hid (Mem w F ([(gt,.row (az t v))]++aG s p g) wr))
  case first=>
   clear HT2;refine aT 12 (.qs [0,1,2,3,4,5] (.w2 6 (.qs [7,8,9] (.w 10 (.w 11 .done))) 10 (.w 6 (.qs [7,8,9] (.w 11 .done))))) (fun w'=>Mem w F ([(gt,.row (az t v))]++aG s p g) w') (by kernel_rfl) (by kernel_rfl) (M0.o.below (Below.drew (bZ _ _))) ?_;have M3:Hid (Mem w F ([(gt,.row (az t v))]++aG s p g) w1.drew):=M0.o.below (Below.drew (bZ _ _));have HG2:=qD (fun w' hb=>HGET.o w' ((Below.drew (bZ _ _)).trans hb));have HS3:Hid (w1.heap.size<=w1.drew.heap.size):=(Below.drew (bZ w1.heap.size w1)).size;clear e0 c1 l1 l2 e2;generalize w1.drew=w3 at*;clear M0 HGET;simp only[MT.qs,tC,tE]
   iterate 6 (refine fJ rfl rfl (by rintro w' hM K hK;have c1:w'.cell? ⟨g,1,none⟩=some (.pointer (some ⟨p.ga,0,none⟩)):=Tv hM (i:=1) rfl;have e2:=RJ hM (i:=0) rfl;clear hM;go_simp;exact hK.o) ?_)
   refine zL rfl rfl (fun K hK=>?_) (fun K hK=>?_)
   ·go_wp2_with (go_at_call 53;refine(HG2.o w3 (bZ _ _)).mono ?_;rintro r w4 ⟨v4,rfl,_,hb4⟩;have M4:=qD (M3.o.below hb4);clear hb4 HG2 M3);refine hK.o _ _ M4.o ?_;clear hK
    iterate 3 (refine fJ rfl rfl (by rintro w' hM K hK;clear hM;go_simp;exact hK.o) ?_)
    refine cO rfl (fun K hK=>?_);have M6:=qD (Mem.alloc (cs:=aH bB gO) (t:=116) M4.o);have Z6:=M6.o.row (i:=0) rfl;go_wp2;refine hK.o _ _ M6.o.au ?_;clear hK M4;generalize w4.heap.size=bk at M6 Z6 ⊢;generalize (w4.alloc (.cells (aH bB gO) 116))=w6 at*;refine cO rfl (fun K hK=>?_);have M7:Hid (Mem w F ([(bk,.row (aH mq v4)),(gt,.row (az t v))]++aG s p g) (w6.setCells bk 0 (aH mq v4).toList)):=M6.o.bC (i:=0) (cs':=aH mq v4) rfl (by simp[a8]);go_wp2;refine hK.o _ _ M7.o.au ?_;clear hK;refine bY ?_;go_wp2;refine NoPanic.normal ?_;go_wp2;go_meet
    case rel=>exact⟨rfl,M7.o.au⟩
   ·have M5:=qD (Mem.alloc (cs:=aH bB gO) (t:=116) M3.o);go_wp2;refine hK.o _ _ M5.o.au ?_;clear hK;have HG3:=qD (HG2.o (w3.alloc (.cells (aH bB gO) 116)) ((bZ _ _).alloc HS3.o _));generalize w3.heap.size=bk at M5 ⊢;generalize (w3.alloc (.cells (aH bB gO) 116))=w4 at*;clear M3 HG2;refine cO rfl (fun K hK=>?_);go_wp2_with (go_at_call 53;refine HG3.o.mono ?_;rintro r w6 ⟨v4,rfl,_,hb4⟩;have M6:=qD (M5.o.below hb4);clear hb4 HG3 M5);refine hK.o _ _ M6.o.au ?_;clear hK
    iterate 3 (refine fJ rfl rfl (by rintro w' hM K hK;clear hM;go_simp;exact hK.o) ?_)
    have Z6:=M6.o.row (i:=0) rfl;refine cO rfl (fun K hK=>?_);have M7:Hid (Mem w F ([(bk,.row (aH mq v4)),(gt,.row (az t v))]++aG s p g) (w6.setCells bk 0 (aH mq v4).toList)):=M6.o.bC (i:=0) (cs':=aH mq v4) rfl (by simp[a8]);go_wp2;refine hK.o _ _ M7.o.au ?_;clear hK;refine bY ?_;go_wp2;refine NoPanic.normal ?_;go_wp2;go_meet
    case rel=>exact⟨rfl,M7.o.au⟩
  case rest=>
   obtain⟨rfl,M3⟩:=hcut;clear M0 HGET e0 c1 l1 l2 e2;cases sb with
   |false=>
    have HT3:Hid (T=(7,s)):=by show _=_;rw[HT2.o];simp
    go_wp2;go_ret;rw[HT3.o];exact⟨rfl,M3.o.au⟩
   |true=>
    have HT3:Hid (T=if t.kind.val=4 then(0,{s with a:=eM s.a t.n.val}) else(if DH s.a t.n.val then 0 else 8,{s with a:=ya s.a t.n.val})):=by show _=_;rw[HT2.o];simp
    clear HT2;have e0:=xE M3.o (i:=0) rfl;by_cases h4:t.kind.val=4
    ·have HT4:Hid (T=(0,{s with a:=eM s.a t.n.val})):=by show _=_;rw[HT3.o,if_pos h4]
     have b4: (t.kind.val==4)=true:=by simpa using h4
     clear HT3;go_upto_region 7 with(fail);have c1:wc.cell? ⟨g,1,none⟩=some (.pointer (some ⟨p.ga,0,none⟩)):=Tv M3.o (i:=1) rfl;have e2:=RJ M3.o (i:=0) rfl;have l1:=ab (M3.o.row (i:=0) rfl);have l2:=ab (M3.o.row (i:=1) rfl);refine ar 6 ?_;simp only[tA,tD,tC,tE]
     repeat quiet_step (fail)
     refine wpQuiet_nil ?_;intro w4 hb4;have M4:=qD (M3.o.below hb4);clear M3 e0 c1 l1 l2 e2 hb4;have HC:Hid (Calls prog 54 #[.pointer (some ⟨p.ga,0,none⟩),.int .i64 t.n.val] w4 fun e w'=>(∃r,e= .returned r)/\Mem w F ([(gt,.row (az t v))]++aG {s with a:=eM s.a t.n.val} p g) w'):=M4.o.bD (i:=3) rfl (fun F1 hF=>DG s.a p.ga F1 w4 t.n hF HD.o HL.o);go_wp2_with (go_at_call 54;refine HC.o.mono ?_;rintro r w5 ⟨⟨r5,rfl⟩,hM⟩;have M5:=qD hM;clear hM);go_ret;rw[HT4.o];exact⟨rfl,M5.o.au⟩
    ·have HT4:Hid (T=(if DH s.a t.n.val then 0 else 8,{s with a:=ya s.a t.n.val})):=by show _=_;rw[HT3.o,if_neg h4]
     have b4: (t.kind.val==4)=false:=by simpa using h4
     clear HT3;go_upto_region 9 with(fail);have c1:wc.cell? ⟨g,1,none⟩=some (.pointer (some ⟨p.ga,0,none⟩)):=Tv M3.o (i:=1) rfl;have e2:=RJ M3.o (i:=0) rfl;have l1:=ab (M3.o.row (i:=0) rfl);have l2:=ab (M3.o.row (i:=1) rfl);refine ar 6 ?_;simp only[tA,tD,tC,tE]
     repeat quiet_step (fail)
     refine wpQuiet_nil ?_;intro w4 hb4;have M4:=qD (M3.o.below hb4);clear M3 e0 c1 l1 l2 e2 hb4;have HC:Hid (Calls prog 57 #[.pointer (some ⟨p.ga,0,none⟩),.int .i64 t.n.val] w4 fun e w'=>e= .returned (.bool (DH s.a t.n.val))/\Mem w F ([(gt,.row (az t v))]++aG {s with a:=ya s.a t.n.val} p g) w'):=M4.o.bD (i:=3) rfl (fun F1 hF=>Gj s.a p.ga F1 w4 t.n hF HD.o);generalize ya s.a t.n.val=df at HC HT4;generalize DH s.a t.n.val=db at HC HT4;cases db with
     |true=>
      go_wp2_with (go_at_call 57;refine qHG HC.o fun w5 M5=>?_);go_ret;rw[HT4.o];exact⟨rfl,M5.o.au⟩
     |false=>
      go_wp2_with (go_at_call 57;refine qHG HC.o fun w5 M5=>?_);go_ret;rw[HT4.o];exact⟨rfl,M5.o.au⟩
end
namespace XA
def tv(s:Int):Bool:=decide (0<=s/\s<=65535)
def nx(s:Int):Int:=if 0<=s/\s<=65535 then(s+1)%65536 else 0
def df(a b:Int):Int:=if (0<=a/\a<=65535)/\(0<=b/\b<=65535) then(if 32768<(b-a)%65536 then(b-a)%65536-65536 else(b-a)%65536) else 0
def lsB(a b:Int):Bool:=decide (1<=df a b/\df a b<=32767)
theorem aaU(a:Int):0<=nx a/\nx a<=65535:=by unfold nx;split <;> omega
theorem aaV(x:Int):bits .and .i64 x 65535=x%65536:=by
 have h: (BitVec.ofInt 64 x&&& BitVec.ofInt 64 65535).toNat=(x%65536).toNat:=by rw[BitVec.toNat_and,BitVec.toNat_ofInt,show(BitVec.ofInt 64 65535).toNat=65535 from by decide,nat_mask16];omega
 show IntKind.i64.wrap ((BitVec.ofInt 64 x&&& BitVec.ofInt 64 65535).toNat:Int)=_;rw[h,IntWalk.i64_in _ ⟨by omega,by omega⟩];omega
theorem Bp(s:Int)(w:World):Calls prog 82 #[.int .i64 s] w fun e w'=>e= .returned (.bool (tv s))/\w=w':=by
 by_cases h0:0<=s
 ·by_cases h1:s<=65535
  ·have H:=qD (show tv s=true by simp[tv];omega);go_enter func82,ntmps82;go_wp2;go_ret;rw[H.o];exact⟨rfl,rfl⟩
  ·have H:=qD (show tv s=false by simp[tv];omega);go_enter func82,ntmps82;go_wp2;go_ret;rw[H.o];exact⟨rfl,rfl⟩
 ·have H:=qD (show tv s=false by simp[tv];omega);go_enter func82,ntmps82;go_wp2;go_ret;rw[H.o];exact⟨rfl,rfl⟩
theorem Ox(s:Int)(w:World):Calls prog 115 #[.int .i64 s] w fun e w'=>e= .returned (.int .i64 (nx s))/\w=w':=by
 by_cases h:0<=s/\s<=65535
 ·have h0:=h.1;have h1:=h.2;have H:=qD (show nx s=(s+1)%65536 by simp[nx,h]);have M:tv s=true:=by simp[tv,h]
  have e:=aaV (s+1);clear h;go_enter func115,ntmps115;go_wp2_with (go_at_call 82;refine(Bp _ _).mono ?_;rintro e w' ⟨rfl,rfl⟩);go_ret;rw[H.o];exact⟨rfl,rfl⟩
 ·have H:=qD (show nx s=0 by simp[nx,h]);have M:tv s=false:=by simp[tv,h]
  clear h;go_enter func115,ntmps115;go_wp2_with (go_at_call 82;refine(Bp _ _).mono ?_;rintro e w' ⟨rfl,rfl⟩);go_ret;rw[H.o];exact⟨rfl,rfl⟩
theorem afv(a b:Int)(w:World):Calls prog 249 #[.int .i64 a,.int .i64 b] w fun e w'=>e= .returned (.int .i64 (df a b))/\w=w':=by
 by_cases h:0<=a/\a<=65535
 ·have M:tv a=true:=by simp[tv,h]
  by_cases k:0<=b/\b<=65535
  ·have N:tv b=true:=by simp[tv,k]
   obtain⟨h0,h1⟩:=h;obtain⟨k0,k1⟩:=k;have e:=aaV (b-a);by_cases d:32768<(b-a)%65536
   ·have H:=qD (show df a b=(b-a)%65536-65536 by unfold df;rw[if_pos ⟨⟨h0,h1⟩,⟨k0,k1⟩⟩,if_pos d]);go_enter func249,ntmps249;go_wp2_with (go_at_call 82;refine(Bp _ _).mono ?_;rintro e w' ⟨rfl,rfl⟩);go_ret;rw[H.o];exact⟨rfl,rfl⟩
   ·have H:=qD (show df a b=(b-a)%65536 by unfold df;rw[if_pos ⟨⟨h0,h1⟩,⟨k0,k1⟩⟩,if_neg d]);go_enter func249,ntmps249;go_wp2_with (go_at_call 82;refine(Bp _ _).mono ?_;rintro e w' ⟨rfl,rfl⟩);go_ret;rw[H.o];exact⟨rfl,rfl⟩
  ·have N:tv b=false:=by simp[tv,k]
   have H:=qD (show df a b=0 by unfold df;rw[if_neg (fun x=>k x.2)]);clear h k;go_enter func249,ntmps249;go_wp2_with (go_at_call 82;refine(Bp _ _).mono ?_;rintro e w' ⟨rfl,rfl⟩);go_ret;rw[H.o];exact⟨rfl,rfl⟩
 ·have M:tv a=false:=by simp[tv,h]
  have H:=qD (show df a b=0 by unfold df;rw[if_neg (fun x=>h x.1)]);clear h;go_enter func249,ntmps249;go_wp2_with (go_at_call 82;refine(Bp _ _).mono ?_;rintro e w' ⟨rfl,rfl⟩);go_ret;rw[H.o];exact⟨rfl,rfl⟩
theorem ago(a b:Int)(w:World):Calls prog 247 #[.int .i64 a,.int .i64 b] w fun e w'=>e= .returned (.bool (lsB a b))/\w=w':=by
 by_cases h0:0<df a b
 ·by_cases h1:df a b<32768
  ·have H:=qD (show lsB a b=true by simp[lsB];omega);go_enter func247,ntmps247;go_wp2_with (go_at_call 249;refine(afv _ _ _).mono ?_;rintro e w' ⟨rfl,rfl⟩);go_ret;rw[H.o];exact⟨rfl,rfl⟩
  ·have H:=qD (show lsB a b=false by simp[lsB];omega);have hd:decide (df a b<32768)=false:=by simp;omega
   go_enter func247,ntmps247;go_wp2_with (go_at_call 249;refine(afv _ _ _).mono ?_;rintro e w' ⟨rfl,rfl⟩);go_ret;rw[H.o];exact⟨rfl,rfl⟩
 ·have H:=qD (show lsB a b=false by simp[lsB];omega);go_enter func247,ntmps247;go_wp2_with (go_at_call 249;refine(afv _ _ _).mono ?_;rintro e w' ⟨rfl,rfl⟩);go_ret;rw[H.o];exact⟨rfl,rfl⟩
end XA
theorem Kn(n:ae):eh n=XA.tv n.val:=by have h1:=Calls.both (R2:=fun _=>True) (iE n default) ((XA.Bp n.val default).mono fun e w' h=>⟨h.1,trivial⟩) (by kernel_rfl);injection h1
theorem Gr(n:ae): (aeZ n).val=XA.nx n.val:=by have h1:=Calls.both (R2:=fun _=>True) (qt n default) ((XA.Ox n.val default).mono fun e w' h=>⟨h.1,trivial⟩) (by kernel_rfl);injection h1
theorem agp(a b:ae):ue a b=XA.lsB a.val b.val:=by have h1:=Calls.both (R2:=fun _=>True) (CT a b default) ((XA.ago a.val b.val default).mono fun e w' h=>⟨h.1,trivial⟩) (by kernel_rfl);injection h1
theorem DY(b:ae):eh (aeZ b)=true:=by rw[Kn,Gr];have:=XA.aaU b.val;simp[XA.tv,this]
end
end Go.Proofs.Yq
