/-
  The contract of math/bits.OnesCount64: it returns the number of ones. Condition: the argument is below 2 to the 64.
-/
import Derived.Test.YtmpiildallppaaaChecked
import Derived.Test.YtmpiildallppaaaPopMath
import Derived.WalkKit
import Derived.ProofKit
import Derived.OpenShut
import Derived.Below
import Derived.Handy
import Derived.Lib.Hide
import Derived.Laws.BitsAllLaws
namespace Go.Proofs.Ytmpiildallppaaa
open Go.ChangeShapes Go.WideShapes Go.ChangeAt Go.RowKit
theorem and64 (a m : Nat) (ha : a < 18446744073709551616) (hm : m < 18446744073709551616) : bits .and .u64 (a : Int) (m : Int) = ((a &&& m : Nat) : Int) := u64_and_nat a m ha hm
theorem wr64 (n : Nat) (h : n < 18446744073709551616) : IntKind.u64.wrap (n : Int) = (n : Int) := IntWalk.u64_in _ ⟨by omega, by omega⟩
theorem ones1 (x : Nat) (hx : x < 18446744073709551616) : IntKind.u64.wrap (bits .and .u64 ((x : Int) / 2) 6148914691236517205 + bits .and .u64 (x : Int) 6148914691236517205) = ((Pop.s1 6148914691236517205 x : Nat) : Int) := by
  have h1 := and64 (x / 2) 6148914691236517205 (by omega) (by omega)
  have h2 := and64 x 6148914691236517205 hx (by omega)
  have l1 : (x / 2 &&& 6148914691236517205) ≤ 6148914691236517205 := Nat.and_le_right
  have l2 : (x &&& 6148914691236517205) ≤ 6148914691236517205 := Nat.and_le_right
  rw [show ((x : Int) / 2) = ((x / 2 : Nat) : Int) by omega]
  refine (congrArg IntKind.u64.wrap (congr (congrArg _ h1) h2)).trans ?_
  exact wr64 _ (by omega)
theorem ones2 (x : Nat) (hx : x < 18446744073709551616) : IntKind.u64.wrap (bits .and .u64 ((x : Int) / 4) 3689348814741910323 + bits .and .u64 (x : Int) 3689348814741910323) = ((Pop.s2 3689348814741910323 x : Nat) : Int) := by
  have h1 := and64 (x / 4) 3689348814741910323 (by omega) (by omega)
  have h2 := and64 x 3689348814741910323 hx (by omega)
  have l1 : (x / 4 &&& 3689348814741910323) ≤ 3689348814741910323 := Nat.and_le_right
  have l2 : (x &&& 3689348814741910323) ≤ 3689348814741910323 := Nat.and_le_right
  rw [show ((x : Int) / 4) = ((x / 4 : Nat) : Int) by omega]
  refine (congrArg IntKind.u64.wrap (congr (congrArg _ h1) h2)).trans ?_
  exact wr64 _ (by omega)
theorem ones3 (x : Nat) (hx : x ≤ 7378697629483820646) : bits .and .u64 (IntKind.u64.wrap ((x : Int) / 16 + (x : Int))) 1085102592571150095 = ((Pop.s3 1085102592571150095 x : Nat) : Int) := by
  rw [show ((x : Int) / 16 + (x : Int)) = ((x / 16 + x : Nat) : Int) by omega, wr64 _ (by omega)]
  exact and64 _ 1085102592571150095 (by omega) (by omega)
theorem s1_le (x : Nat) : Pop.s1 6148914691236517205 x ≤ 12297829382473034410 := by
  have l1 : (x / 2 &&& 6148914691236517205) ≤ 6148914691236517205 := Nat.and_le_right
  have l2 : (x &&& 6148914691236517205) ≤ 6148914691236517205 := Nat.and_le_right
  unfold Pop.s1; omega
theorem s2_le (x : Nat) : Pop.s2 3689348814741910323 x ≤ 7378697629483820646 := by
  have l1 : (x / 4 &&& 3689348814741910323) ≤ 3689348814741910323 := Nat.and_le_right
  have l2 : (x &&& 3689348814741910323) ≤ 3689348814741910323 := Nat.and_le_right
  unfold Pop.s2; omega
theorem s3_le (x : Nat) : Pop.s3 1085102592571150095 x ≤ 1085102592571150095 := Nat.and_le_right
theorem ones4 (x : Nat) (hx : x ≤ 1085102592571150095) : IntKind.u64.wrap ((x : Int) + (x : Int) / 256) = ((x + x / 256 : Nat) : Int) := by
  rw [show ((x : Int) + (x : Int) / 256) = ((x + x / 256 : Nat) : Int) by omega, wr64 _ (by omega)]
theorem ones5 (x : Nat) (hx : x ≤ 2000000000000000000) : IntKind.u64.wrap ((x : Int) + (x : Int) / 65536) = ((x + x / 65536 : Nat) : Int) := by
  rw [show ((x : Int) + (x : Int) / 65536) = ((x + x / 65536 : Nat) : Int) by omega, wr64 _ (by omega)]
theorem ones6 (x : Nat) (hx : x ≤ 3000000000000000000) : IntKind.u64.wrap ((x : Int) + (x : Int) / 4294967296) = ((x + x / 4294967296 : Nat) : Int) := by
  rw [show ((x : Int) + (x : Int) / 4294967296) = ((x + x / 4294967296 : Nat) : Int) by omega, wr64 _ (by omega)]
theorem ones7 (x : Nat) (hx : x ≤ 4000000000000000000) : bits .and .i64 (wrap64 (x : Int)) 127 = ((x % 128 : Nat) : Int) := by
  rw [IntWalk.wrap64_in _ ⟨by omega, by omega⟩]
  have h : (BitVec.ofInt 64 (x : Int) &&& BitVec.ofInt 64 127).toNat = x % 128 := by
    rw [BitVec.toNat_and, BitVec.toNat_ofInt, show (BitVec.ofInt 64 127).toNat = 127 from by decide, nat_mask7]
    omega
  show IntKind.i64.wrap ((BitVec.ofInt 64 (x : Int) &&& BitVec.ofInt 64 127).toNat : Int) = _
  rw [h, IntWalk.i64_in _ ⟨by omega, by omega⟩]
theorem ret_u {k : IntKind} {a b : Int} (h : a = b) : Ending.returned (.int k a) = .returned (.int k b) := by rw [h]
theorem ones_int (x : Nat) (hx : x < 18446744073709551616) (A B C D E F : Int)
    (hA : A = IntKind.u64.wrap (bits .and .u64 ((x : Int) / 2) 6148914691236517205 + bits .and .u64 (x : Int) 6148914691236517205))
    (hB : B = IntKind.u64.wrap (bits .and .u64 (A / 4) 3689348814741910323 + bits .and .u64 A 3689348814741910323))
    (hC : C = bits .and .u64 (IntKind.u64.wrap (B / 16 + B)) 1085102592571150095)
    (hD : D = IntKind.u64.wrap (C + C / 256)) (hE : E = IntKind.u64.wrap (D + D / 65536)) (hF : F = IntKind.u64.wrap (E + E / 4294967296)) :
    bits .and .i64 (wrap64 F) 127 = ((Pop.cnt 64 x : Nat) : Int) := by
  rw [ones1 x hx] at hA
  have la := s1_le x
  have e := Pop.ones_eq x hx
  unfold Pop.ones at e
  simp only at e
  generalize Pop.s1 6148914691236517205 x = a at *
  subst hA
  rw [ones2 a (by omega)] at hB
  have lb := s2_le a
  generalize Pop.s2 3689348814741910323 a = b at *
  subst hB
  rw [ones3 b lb] at hC
  have lc := s3_le b
  generalize Pop.s3 1085102592571150095 b = c at *
  subst hC
  rw [ones4 c lc] at hD
  have ld : c + c / 256 ≤ 2000000000000000000 := by omega
  generalize c + c / 256 = d at *
  subst hD
  rw [ones5 d ld] at hE
  have le : d + d / 65536 ≤ 3000000000000000000 := by omega
  generalize d + d / 65536 = f at *
  subst hE
  rw [ones6 f le] at hF
  have lf : f + f / 4294967296 ≤ 4000000000000000000 := by omega
  generalize f + f / 4294967296 = g at *
  subst hF
  rw [ones7 g lf, e]
theorem ones_any (x : Nat) (hx : x < 18446744073709551616) (w : World) : Calls Try.prog 19 #[.int .u64 x] w fun e w' => e = .returned (.int .i64 (Pop.cnt 64 x : Nat)) ∧ w = w' := by
  have H := Lib.hid hx
  clear hx
  go_enter Try.func19, Try.ntmps19
  go_wp2
  go_ret
  refine ⟨?_, rfl⟩
  exact ret_u (ones_int x H.out _ _ _ _ _ _ rfl rfl rfl rfl rfl rfl)
end Go.Proofs.Ytmpiildallppaaa
