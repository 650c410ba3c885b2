/-
  The plain law of the serial numbers: what Next, Diff and Less compute, and what follows from it. No condition. No program in sight.
-/
import Derived.Laws.BitsAllLaws
import Derived.IntWalk
namespace Go.Proofs.Ytmpiildallppaaa
open Go.RowKit
/-- may it be a serial number? -/
def mayB (s : Int) : Bool := decide (0 ≤ s ∧ s ≤ 65535)
def nx (s : Int) : Int := if 0 ≤ s ∧ s ≤ 65535 then (s + 1) % 65536 else 0
def df (a b : Int) : Int := if (0 ≤ a ∧ a ≤ 65535) ∧ (0 ≤ b ∧ b ≤ 65535) then (if 32768 < (b - a) % 65536 then (b - a) % 65536 - 65536 else (b - a) % 65536) else 0
def lsB (a b : Int) : Bool := decide (1 ≤ df a b ∧ df a b ≤ 32767)
theorem df_bd (a b : Int) : -32767 ≤ df a b ∧ df a b ≤ 32768 := by unfold df; split <;> (try split) <;> omega
theorem nx_bd (a : Int) : 0 ≤ nx a ∧ nx a ≤ 65535 := by unfold nx; split <;> omega
theorem df_self (a : Int) : df a a = 0 := by unfold df; split <;> (try split) <;> omega
theorem and16 (x : Int) : bits .and .i64 x 65535 = x % 65536 := by
  have h : (BitVec.ofInt 64 x &&& BitVec.ofInt 64 65535).toNat = (x % 65536).toNat := by
    rw [BitVec.toNat_and, BitVec.toNat_ofInt, show (BitVec.ofInt 64 65535).toNat = 65535 from by decide, nat_mask16]
    omega
  show IntKind.i64.wrap ((BitVec.ofInt 64 x &&& BitVec.ofInt 64 65535).toNat : Int) = _
  rw [h, IntWalk.i64_in _ ⟨by omega, by omega⟩]
  omega
end Go.Proofs.Ytmpiildallppaaa
