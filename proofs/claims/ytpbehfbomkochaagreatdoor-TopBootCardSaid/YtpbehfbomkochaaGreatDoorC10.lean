/- A part of the proof. No condition. -/
import Derived.Test.YtpbehfbomkochaaGreatDoorC07
set_option maxRecDepth 100000
set_option maxHeartbeats 4000000
set_option linter.all false
namespace Go.Proofs.Yq
open ChangeShapes WideShapes ChangeAt RowKit Ev
open Tryz
@[go_sem] theorem adZ (c:cT) (h:0<(bd c).size): (bd c)[0]= .int .i64 c.1.val:=rfl
@[go_sem] theorem ad0 (c:cT) (h:1<(bd c).size): (bd c)[1]= .int .i64 c.2.1.val:=rfl
@[go_sem] theorem ad1 (c:cT) (h:2<(bd c).size): (bd c)[2]= .int .i64 c.2.2.1.val:=rfl
@[go_sem] theorem ad2 (c:cT) (h:3<(bd c).size): (bd c)[3]= .int .i64 c.2.2.2.1.val:=rfl
@[go_sem] theorem ad3 (c:cT) (h:4<(bd c).size): (bd c)[4]= .int .i64 c.2.2.2.2.1.val:=rfl
@[go_sem] theorem ad4 (c:cT) (h:5<(bd c).size): (bd c)[5]= .int .i64 c.2.2.2.2.2.1.val:=rfl
@[go_sem] theorem ad5 (c:cT) (h:6<(bd c).size): (bd c)[6]= .int .i64 c.2.2.2.2.2.2.1.val:=rfl
@[go_sem] theorem ad6 (c:cT) (h:7<(bd c).size): (bd c)[7]= .int .i64 c.2.2.2.2.2.2.2.1.val:=rfl
@[go_sem] theorem ad7 (c:cT) (h:8<(bd c).size): (bd c)[8]= .int .i64 c.2.2.2.2.2.2.2.2.1.val:=rfl
@[go_sem] theorem ad8 (c:cT) (h:9<(bd c).size): (bd c)[9]= .int .i64 c.2.2.2.2.2.2.2.2.2.1.val:=rfl
@[go_sem] theorem abJ (c:cT) (h:10<(bd c).size): (bd c)[10]= .int .i64 c.2.2.2.2.2.2.2.2.2.2.1.val:=rfl
def jg(n lo hi:Int):Bool:=decide (lo<=n)&&decide (n<=hi)
def D2(c:cT):Bool:=decide (wrap64 (c.2.2.2.2.2.2.2.2.2.1.val*wrap64 (wrap64 (c.2.2.2.2.2.2.1.val+wrap64 (2*c.2.2.2.2.1.val))+2))<=32767)
theorem jh(n lo hi:Int)(w:World):Calls prog 133 #[.int .i64 n,.int .i64 lo,.int .i64 hi] w fun e w'=>e= .returned (.bool (jg n lo hi))/\w'=w:=by
 unfold jg;by_cases h1:lo<=n
 ·have d1:decide (lo<=n)=true:=by simpa using h1
  rw[d1];go_enter func133,ntmps133;go_wp2;go_ret;exact⟨rfl,rfl⟩
 ·have d1:decide (lo<=n)=false:=by simpa using h1
  rw[d1];go_enter func133,ntmps133;go_wp2;go_ret;exact⟨rfl,rfl⟩
theorem ji(n lo hi:Int)(w:World):Calls prog 134 #[.int .i64 n,.int .i64 lo,.int .i64 hi] w fun e w'=>e= .returned (.bool (jg n lo hi))/\w'=w:=by
 unfold jg;by_cases h1:lo<=n
 ·have d1:decide (lo<=n)=true:=by simpa using h1
  rw[d1];go_enter func134,ntmps134;go_wp2;go_ret;exact⟨rfl,rfl⟩
 ·have d1:decide (lo<=n)=false:=by simpa using h1
  rw[d1];go_enter func134,ntmps134;go_wp2;go_ret;exact⟨rfl,rfl⟩
def Kv(c:cT):Bool:=jg c.1.val 1 64&&jg c.2.1.val 1 64&&jg c.2.2.1.val 0 1000&&jg c.2.2.2.1.val 0 1000&&jg c.2.2.2.2.2.1.val 0 1000&&jg c.2.2.2.2.1.val 0 100&&jg c.2.2.2.2.2.2.1.val 1 1000&&jg c.2.2.2.2.2.2.2.2.1.val 1 1000&&jg c.2.2.2.2.2.2.2.1.val 1 10000&&jg c.2.2.2.2.2.2.2.2.2.1.val 1 100&&jg c.2.2.2.2.2.2.2.2.2.2.1.val 2 140737488355328&&D2 c
theorem RS(c:cT)(w:World):Calls prog 80 #[j6 c] w fun e w'=>e= .returned (.bool (Kv c))/\True:=by
 have H0:Hid (∀w,Calls prog 133 #[.int .i64 c.1.val,.int .i64 1,.int .i64 64] w fun e w'=>e= .returned (.bool (jg c.1.val 1 64))/\w'=w):=fun w=>jh _ _ _ w;have H1:Hid (∀w,Calls prog 133 #[.int .i64 c.2.1.val,.int .i64 1,.int .i64 64] w fun e w'=>e= .returned (.bool (jg c.2.1.val 1 64))/\w'=w):=fun w=>jh _ _ _ w;have H2:Hid (∀w,Calls prog 133 #[.int .i64 c.2.2.1.val,.int .i64 0,.int .i64 1000] w fun e w'=>e= .returned (.bool (jg c.2.2.1.val 0 1000))/\w'=w):=fun w=>jh _ _ _ w;have H3:Hid (∀w,Calls prog 133 #[.int .i64 c.2.2.2.1.val,.int .i64 0,.int .i64 1000] w fun e w'=>e= .returned (.bool (jg c.2.2.2.1.val 0 1000))/\w'=w):=fun w=>jh _ _ _ w;have H4:Hid (∀w,Calls prog 133 #[.int .i64 c.2.2.2.2.2.1.val,.int .i64 0,.int .i64 1000] w fun e w'=>e= .returned (.bool (jg c.2.2.2.2.2.1.val 0 1000))/\w'=w):=fun w=>jh _ _ _ w;have H5:Hid (∀w,Calls prog 133 #[.int .i64 c.2.2.2.2.1.val,.int .i64 0,.int .i64 100] w fun e w'=>e= .returned (.bool (jg c.2.2.2.2.1.val 0 100))/\w'=w):=fun w=>jh _ _ _ w;have H6:Hid (∀w,Calls prog 133 #[.int .i64 c.2.2.2.2.2.2.1.val,.int .i64 1,.int .i64 1000] w fun e w'=>e= .returned (.bool (jg c.2.2.2.2.2.2.1.val 1 1000))/\w'=w):=fun w=>jh _ _ _ w;have H7:Hid (∀w,Calls prog 133 #[.int .i64 c.2.2.2.2.2.2.2.2.1.val,.int .i64 1,.int .i64 1000] w fun e w'=>e= .returned (.bool (jg c.2.2.2.2.2.2.2.2.1.val 1 1000))/\w'=w):=fun w=>jh _ _ _ w;have H8:Hid (∀w,Calls prog 133 #[.int .i64 c.2.2.2.2.2.2.2.1.val,.int .i64 1,.int .i64 10000] w fun e w'=>e= .returned (.bool (jg c.2.2.2.2.2.2.2.1.val 1 10000))/\w'=w):=fun w=>jh _ _ _ w;have H9:Hid (∀w,Calls prog 133 #[.int .i64 c.2.2.2.2.2.2.2.2.2.1.val,.int .i64 1,.int .i64 100] w fun e w'=>e= .returned (.bool (jg c.2.2.2.2.2.2.2.2.2.1.val 1 100))/\w'=w):=fun w=>jh _ _ _ w;have H10:Hid (∀w,Calls prog 133 #[.int .i64 c.2.2.2.2.2.2.2.2.2.2.1.val,.int .i64 2,.int .i64 140737488355328] w fun e w'=>e= .returned (.bool (jg c.2.2.2.2.2.2.2.2.2.2.1.val 2 140737488355328))/\w'=w):=fun w=>jh _ _ _ w;have HP:Hid (D2 c=decide (wrap64 (c.2.2.2.2.2.2.2.2.2.1.val*wrap64 (wrap64 (c.2.2.2.2.2.2.1.val+wrap64 (2*c.2.2.2.2.1.val))+2))<=32767)):=rfl;unfold Kv j6;generalize jg c.1.val 1 64=b0 at H0 ⊢;generalize jg c.2.1.val 1 64=b1 at H1 ⊢;generalize jg c.2.2.1.val 0 1000=b2 at H2 ⊢;generalize jg c.2.2.2.1.val 0 1000=b3 at H3 ⊢;generalize jg c.2.2.2.2.2.1.val 0 1000=b4 at H4 ⊢;generalize jg c.2.2.2.2.1.val 0 100=b5 at H5 ⊢;generalize jg c.2.2.2.2.2.2.1.val 1 1000=b6 at H6 ⊢;generalize jg c.2.2.2.2.2.2.2.2.1.val 1 1000=b7 at H7 ⊢;generalize jg c.2.2.2.2.2.2.2.1.val 1 10000=b8 at H8 ⊢;generalize jg c.2.2.2.2.2.2.2.2.2.1.val 1 100=b9 at H9 ⊢;generalize jg c.2.2.2.2.2.2.2.2.2.2.1.val 2 140737488355328=b10 at H10 ⊢;generalize D2 c=pc at HP ⊢;cases b0;rotate_left;cases b1;rotate_left;cases b2;rotate_left;cases b3;rotate_left;cases b4;rotate_left;cases b5;rotate_left;cases b6;rotate_left;cases b7;rotate_left;cases b8;rotate_left;cases b9;rotate_left;cases b10;rotate_left
 all_goals
  go_enter func80,ntmps80;go_wp2_with (go_at_call 133;(first|with_reducible refine(H0.o _).mono ?_ |with_reducible refine(H1.o _).mono ?_ |with_reducible refine(H2.o _).mono ?_ |with_reducible refine(H3.o _).mono ?_ |with_reducible refine(H4.o _).mono ?_ |with_reducible refine(H5.o _).mono ?_ |with_reducible refine(H6.o _).mono ?_ |with_reducible refine(H7.o _).mono ?_ |with_reducible refine(H8.o _).mono ?_ |with_reducible refine(H9.o _).mono ?_ |with_reducible refine(H10.o _).mono ?_);rintro r w1 ⟨rfl,rfl⟩);go_ret;refine⟨?_,trivial⟩
  first
  |(simp;done)
  |(rw[HP.o];simp)
theorem RT(c:cT)(w:World):Calls prog 83 #[j6 c] w fun e w'=>e= .returned (.bool (Kv c))/\True:=by
 have H0:Hid (∀w,Calls prog 134 #[.int .i64 c.1.val,.int .i64 1,.int .i64 64] w fun e w'=>e= .returned (.bool (jg c.1.val 1 64))/\w'=w):=fun w=>ji _ _ _ w;have H1:Hid (∀w,Calls prog 134 #[.int .i64 c.2.1.val,.int .i64 1,.int .i64 64] w fun e w'=>e= .returned (.bool (jg c.2.1.val 1 64))/\w'=w):=fun w=>ji _ _ _ w;have H2:Hid (∀w,Calls prog 134 #[.int .i64 c.2.2.1.val,.int .i64 0,.int .i64 1000] w fun e w'=>e= .returned (.bool (jg c.2.2.1.val 0 1000))/\w'=w):=fun w=>ji _ _ _ w;have H3:Hid (∀w,Calls prog 134 #[.int .i64 c.2.2.2.1.val,.int .i64 0,.int .i64 1000] w fun e w'=>e= .returned (.bool (jg c.2.2.2.1.val 0 1000))/\w'=w):=fun w=>ji _ _ _ w;have H4:Hid (∀w,Calls prog 134 #[.int .i64 c.2.2.2.2.2.1.val,.int .i64 0,.int .i64 1000] w fun e w'=>e= .returned (.bool (jg c.2.2.2.2.2.1.val 0 1000))/\w'=w):=fun w=>ji _ _ _ w;have H5:Hid (∀w,Calls prog 134 #[.int .i64 c.2.2.2.2.1.val,.int .i64 0,.int .i64 100] w fun e w'=>e= .returned (.bool (jg c.2.2.2.2.1.val 0 100))/\w'=w):=fun w=>ji _ _ _ w;have H6:Hid (∀w,Calls prog 134 #[.int .i64 c.2.2.2.2.2.2.1.val,.int .i64 1,.int .i64 1000] w fun e w'=>e= .returned (.bool (jg c.2.2.2.2.2.2.1.val 1 1000))/\w'=w):=fun w=>ji _ _ _ w;have H7:Hid (∀w,Calls prog 134 #[.int .i64 c.2.2.2.2.2.2.2.2.1.val,.int .i64 1,.int .i64 1000] w fun e w'=>e= .returned (.bool (jg c.2.2.2.2.2.2.2.2.1.val 1 1000))/\w'=w):=fun w=>ji _ _ _ w;have H8:Hid (∀w,Calls prog 134 #[.int .i64 c.2.2.2.2.2.2.2.1.val,.int .i64 1,.int .i64 10000] w fun e w'=>e= .returned (.bool (jg c.2.2.2.2.2.2.2.1.val 1 10000))/\w'=w):=fun w=>ji _ _ _ w;have H9:Hid (∀w,Calls prog 134 #[.int .i64 c.2.2.2.2.2.2.2.2.2.1.val,.int .i64 1,.int .i64 100] w fun e w'=>e= .returned (.bool (jg c.2.2.2.2.2.2.2.2.2.1.val 1 100))/\w'=w):=fun w=>ji _ _ _ w;have H10:Hid (∀w,Calls prog 134 #[.int .i64 c.2.2.2.2.2.2.2.2.2.2.1.val,.int .i64 2,.int .i64 140737488355328] w fun e w'=>e= .returned (.bool (jg c.2.2.2.2.2.2.2.2.2.2.1.val 2 140737488355328))/\w'=w):=fun w=>ji _ _ _ w;have HP:Hid (D2 c=decide (wrap64 (c.2.2.2.2.2.2.2.2.2.1.val*wrap64 (wrap64 (c.2.2.2.2.2.2.1.val+wrap64 (2*c.2.2.2.2.1.val))+2))<=32767)):=rfl;unfold Kv j6;generalize jg c.1.val 1 64=b0 at H0 ⊢;generalize jg c.2.1.val 1 64=b1 at H1 ⊢;generalize jg c.2.2.1.val 0 1000=b2 at H2 ⊢;generalize jg c.2.2.2.1.val 0 1000=b3 at H3 ⊢;generalize jg c.2.2.2.2.2.1.val 0 1000=b4 at H4 ⊢;generalize jg c.2.2.2.2.1.val 0 100=b5 at H5 ⊢;generalize jg c.2.2.2.2.2.2.1.val 1 1000=b6 at H6 ⊢;generalize jg c.2.2.2.2.2.2.2.2.1.val 1 1000=b7 at H7 ⊢;generalize jg c.2.2.2.2.2.2.2.1.val 1 10000=b8 at H8 ⊢;generalize jg c.2.2.2.2.2.2.2.2.2.1.val 1 100=b9 at H9 ⊢;generalize jg c.2.2.2.2.2.2.2.2.2.2.1.val 2 140737488355328=b10 at H10 ⊢;generalize D2 c=pc at HP ⊢;cases b0;rotate_left;cases b1;rotate_left;cases b2;rotate_left;cases b3;rotate_left;cases b4;rotate_left;cases b5;rotate_left;cases b6;rotate_left;cases b7;rotate_left;cases b8;rotate_left;cases b9;rotate_left;cases b10;rotate_left
 all_goals
  go_enter func83,ntmps83;go_wp2_with (go_at_call 134;(first|with_reducible refine(H0.o _).mono ?_ |with_reducible refine(H1.o _).mono ?_ |with_reducible refine(H2.o _).mono ?_ |with_reducible refine(H3.o _).mono ?_ |with_reducible refine(H4.o _).mono ?_ |with_reducible refine(H5.o _).mono ?_ |with_reducible refine(H6.o _).mono ?_ |with_reducible refine(H7.o _).mono ?_ |with_reducible refine(H8.o _).mono ?_ |with_reducible refine(H9.o _).mono ?_ |with_reducible refine(H10.o _).mono ?_);rintro r w1 ⟨rfl,rfl⟩);go_ret;refine⟨?_,trivial⟩
  first
  |(simp;done)
  |(rw[HP.o];simp)
theorem D3{a b:Bool}(h:Value.bool a=Value.bool b):a=b:=by injection h
theorem aaW(c:cT):ae3 c=Kv c:=D3 (Calls.both (uQ c default) (RS c default) (by kernel_rfl))
theorem aaX(c:cT):uf c=Kv c:=D3 (Calls.both (Hw c default) (RT c default) (by kernel_rfl))
theorem D4(c:cT):ae3 c=uf c:=(aaW c).trans (aaX c).symm
end Go.Proofs.Yq
