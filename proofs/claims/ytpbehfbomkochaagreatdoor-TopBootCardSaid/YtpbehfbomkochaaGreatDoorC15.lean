/- A part of the proof. No condition. -/
import Derived.Test.YtpbehfbomkochaaGreatDoorC13
set_option linter.all false
namespace Go.Proofs.Yq
open ChangeShapes WideShapes ChangeAt RowKit Ev
open Tryz
theorem IM{W w:World}{A:List (Nat×aj)}{s:aF}{g:Nat}{l:List (cU×Sl)}{t:cU×Sl}(hd:InD W l)(ht:t∈l)(hi:aR s)(h:Mem W (fun _=>False) (A++ [(g,fA s)]) w):Calls prog 9 #[.pointer (some ⟨g,0,none⟩),.agg (az t.1 t.2)] w fun r w'=>(r= .returned (.int .i64 (Bq s t.1).1)/\(Bq s t.1).2.n.length=s.n.length)/\Mem W (fun _=>False) (A++ [(g,fA (Bq s t.1).2)]) w':=by
 have hr:=hd t ht;have hn:=fun h=>Rd.lt hr h;have hb:=h.mh.below;have key:=Mem.rS (α:=Unit) (P:=prog) (f:=9) (args:=#[.pointer (some ⟨g,0,none⟩),.agg (az t.1 t.2)]) (L':=fun _=>[(g,fA (Bq s t.1).2)]) (E:=fun _ r=>r= .returned (.int .i64 (Bq s t.1).1)/\(Bq s t.1).2.n.length=s.n.length) h (fun F1 hF hsub=>by
  obtain⟨F2,h2⟩:=(Mem.start hF).rep (i:=0) rfl;obtain⟨F3,F4,q1,q2,q3,q4⟩:=hF;have hnone:∀x,¬F4 x:=q2;refine(aa9 s g t.1 t.2 F3 w hi (hr.grown hb) (fun hne ad ha=>⟨fun hf=>?_,nU (hn hne ad ha) h.size⟩) q1).mono ?_
  ·rcases hsub ad.block ((q4 _).2 (.inl hf)) with hh|hh
   ·exact hh
   ·have:=hn hne ad ha;omega
  ·rintro r w' ⟨⟨rfl,hl⟩,F',u1,u2,u3⟩;exact⟨(),⟨rfl,hl⟩,F',⟨F',fun _=>False,u1,fun x h=>h,fun x _ h=>h,fun x=>by simp⟩,fun x hx=>(u2 x hx).imp (fun hh=>(q4 x).2 (.inl hh)) id,u3.mono fun y hy=> .inl ((q4 y).2 (.inl hy))⟩)
 refine key.mono ?_;rintro e w' ⟨_,he,hM⟩;exact⟨he,hM⟩
theorem XP(c:cT)(w:World)(hm:ae3 c=true):Calls prog 8 #[j6 c] w fun e w'=>∃g,e= .returned (.pointer (some ⟨g,0,none⟩))/\Mem w (fun _=>False) [(g,fA (aeY c))] w':=
 (Si c w hm).mono (by rintro e w' ⟨g,p,rfl,hk,hM⟩;exact⟨g,rfl,Gk (A:=[]) hk hM⟩)
end Go.Proofs.Yq
