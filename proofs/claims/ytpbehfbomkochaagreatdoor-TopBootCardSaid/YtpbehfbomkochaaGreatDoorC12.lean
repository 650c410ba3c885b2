/- A part of the proof. No condition. -/
import Derived.Test.YtpbehfbomkochaaGreatDoorC11
set_option linter.all false
namespace Go.Proofs.Yq
open Tryz
noncomputable def aw0:cZ:=rM dv
noncomputable def tI:cZ:=aU (eK aw0)
noncomputable def KG:cZ:=aU (eK tI)
theorem tJ{P:Nat->Bool}(h: (List.range 5).all P=true){j:Nat}(hj:j<5):P j=true:=List.all_eq_true.1 h j (List.mem_range.2 hj)
theorem Ed{j:Nat}(hj:j<5):fP (ff tI (nI j))=true:=tJ (P:=fun j=>fP (ff tI (nI j))) (by kernel_rfl) hj
theorem Sb{j:Nat}(hj:j<5): (cI (gD dv.2.2.2.2.2.2.2.2.1) (ff tI (nI j))).1=true:=tJ (P:=fun j=>(cI (gD dv.2.2.2.2.2.2.2.2.1) (ff tI (nI j))).1) (by kernel_rfl) hj
theorem Sc{j:Nat}(hj:j<5): (cI (cI (gD dv.2.2.2.2.2.2.2.2.1) (ff tI (nI j))).2 (ff KG (nI j))).1=false:=by have:=tJ (P:=fun j=>!(cI (cI (gD dv.2.2.2.2.2.2.2.2.1) (ff tI (nI j))).2 (ff KG (nI j))).1) (by kernel_rfl) hj;simpa using this
theorem Sd: (eV (iY (jE dv.2.2.2.2.2.2.2.2.2.1))).1=true:=by kernel_rfl
theorem XI{i j:Nat}(hi:i<5)(hj:j<5): (jc tI i j).val<=1000000:=by have:=tJ (P:=fun j=>decide ((jc tI i j).val<=1000000)) (tJ (P:=fun i=>(List.range 5).all fun j=>decide ((jc tI (i:Int) (j:Int)).val<=1000000)) (by kernel_rfl) hi) hj;simpa using this
theorem aa4: (wG (eK aw0)).val=16777217:=by kernel_rfl
theorem aa5:ix aw0=true:=by kernel_rfl
theorem aa6:ix tI=true:=by kernel_rfl
theorem TC{j:Nat}(hj:j<5): (eg (dC dv.2.2.2.2.2.2.2.2.2.2.1) (o3 j)).2.2.1=decide (j<3)/\((eg (dC dv.2.2.2.2.2.2.2.2.2.2.1) (o3 j)).2.2.1=true->mj (eg (dC dv.2.2.2.2.2.2.2.2.2.2.1) (o3 j)).2.2.2 (Dz j)=true):=by
 have:=tJ (P:=fun j=>((eg (dC dv.2.2.2.2.2.2.2.2.2.2.1) (o3 j)).2.2.1==decide (j<3))&&(!(eg (dC dv.2.2.2.2.2.2.2.2.2.2.1) (o3 j)).2.2.1||mj (eg (dC dv.2.2.2.2.2.2.2.2.2.2.1) (o3 j)).2.2.2 (Dz j))) (by kernel_rfl) hj;simp at this;refine⟨by simpa using this.1,fun h=>?_⟩;rcases this.2 with h2|h2
 ·rw[h] at h2;cases h2
 ·exact h2
end Go.Proofs.Yq
