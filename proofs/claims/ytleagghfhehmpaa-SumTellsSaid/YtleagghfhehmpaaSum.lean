/-
  The contracts of package sum and of the reference's checksum. Conditions: the slices read as rows of bytes and of words.
-/
import Derived.Test.YtleagghfhehmpaaChecked
import Derived.Test.YtleagghfhehmpaaSumMath
import Derived.WalkKit
import Derived.ProofKit
import Derived.OpenShut
import Derived.Below
import Derived.Handy
import Derived.Lib.Hide
import Derived.Laws.BitsAllLaws
import Derived.Laws.DeepNot64
namespace Go.Proofs.Ytleagghfhehmpaa
open Go.ChangeShapes Go.WideShapes Go.ChangeAt Go.RowKit
set_option linter.unusedVariables false
/-- a row of numbers below m in memory, as far as its length -/
def Rw (k : IntKind) (m : Nat) (w : World) (a : Option Addr) (l : List Nat) : Prop :=
  l.length ≤ 9223372036854775807 ∧ (∀ c ∈ l, c < m) ∧ ∀ i, i < l.length → ∃ b off, a = some ⟨b, off, none⟩ ∧ w.cell? ⟨b, off + i, none⟩ = some (.int k (l.getD i 0 : Nat))
theorem Rw.keep {k : IntKind} {m : Nat} {w w' : World} {a : Option Addr} {l : List Nat} (h : Rw k m w a l) (hb : Below w.heap.size w w') : Rw k m w' a l :=
  ⟨h.1, h.2.1, fun i hi => by
    obtain ⟨b, off, h1, h2⟩ := h.2.2 i hi
    exact ⟨b, off, h1, (hb.cell (World.block_lt_of_cell? _ _ h2)).trans h2⟩⟩
theorem Rw.lt {k : IntKind} {m : Nat} {w : World} {a : Option Addr} {l : List Nat} (h : Rw k m w a l) (hm : 0 < m) (i : Nat) : l.getD i 0 < m := by
  by_cases hi : i < l.length
  · rw [List.getD_eq_getElem?_getD, List.getElem?_eq_getElem hi]; exact h.2.1 _ (List.getElem_mem hi)
  · rw [List.getD_eq_getElem?_getD, List.getElem?_eq_none (by omega)]; exact hm
theorem run_snoc (t : List Nat) (s : Nat) (b : List Nat) (k : Nat) (hk : k < b.length) : Crc.runW t s (b.take (k + 1)) = Crc.stepW t (Crc.runW t s (b.take k)) (b.getD k 0) := by
  rw [List.take_succ_eq_append_getElem hk, List.getD_eq_getElem?_getD, List.getElem?_eq_getElem hk]
  unfold Crc.runW
  rw [List.foldl_append]
  rfl
theorem run_lt (t : List Nat) (ht : ∀ c ∈ t, c < 4294967296) (b : List Nat) : ∀ s, s < 4294967296 → Crc.runW t s b < 4294967296 := by
  induction b with
  | nil => intro s h; exact h
  | cons c l ih =>
    intro s h
    refine ih _ (Nat.xor_lt_two_pow (n := 32) (by omega) ?_)
    by_cases hi : (s % 256 ^^^ c) < t.length
    · rw [List.getD_eq_getElem?_getD, List.getElem?_eq_getElem hi]; exact ht _ (List.getElem_mem hi)
    · rw [List.getD_eq_getElem?_getD, List.getElem?_eq_none (by omega)]; decide
theorem xor8 (S c : Nat) (hc : c < 256) : bits .xor .u8 ((S : Int) % 256) (c : Int) = ((S % 256 ^^^ c : Nat) : Int) := by
  rw [show ((S : Int) % 256) = ((S % 256 : Nat) : Int) by omega]
  exact u8_xor_nat _ _ (by omega) hc
theorem notx (S : Nat) (hS : S < 4294967296) : bits .xor .u32 IntKind.u32.max (S : Int) = ((4294967295 - S : Nat) : Int) := by
  rw [Crc.not_xor hS, Nat.xor_comm]
  exact u32_xor_nat 4294967295 S (by decide) hS
theorem xor32 (S x : Nat) (hS : S < 4294967296) (hx : x < 4294967296) : bits .xor .u32 ((S : Int) / 256) (x : Int) = ((S / 256 ^^^ x : Nat) : Int) := by
  rw [show ((S : Int) / 256) = ((S / 256 : Nat) : Int) by omega]
  exact u32_xor_nat _ _ (by omega) hx
set_option maxRecDepth 100000 in
set_option maxHeartbeats 1000000 in
theorem with_any (a0 a1 : Option Addr) (c0 c1 : Nat) (t b : List Nat) (w : World) (ht : Rw .u32 4294967296 w a0 t) (hb : Rw .u8 256 w a1 b) :
    Calls Try.prog 10 #[.slice a0 t.length c0, .slice a1 b.length c1] w fun e w' => e = .returned (.int .u32 (Crc.withT t b : Nat)) ∧ w = w' := by
  have hbl := hb.1
  have htl := ht.1
  have HT := Lib.hid ht
  have HB := Lib.hid hb
  clear ht hb
  go_enter Try.func10, Try.ntmps10
  go_wp2
  go_loop [5, 11] (fun s i => ∃ k : Nat, k ≤ b.length ∧ i = .int .i64 k ∧ s = .int .u32 (Crc.runW t 4294967295 (b.take k) : Nat)) (fun _ i => b.length - (intOf i).toNat)
  case atStart => exact ⟨0, by omega, rfl, rfl⟩
  case round =>
    obtain ⟨k, hk, rfl, rfl⟩ := hrel
    have hS := run_lt t HT.out.2.1 (b.take k) 4294967295 (by decide)
    by_cases hlt : k < b.length
    · obtain ⟨bb, off, rfl, hc⟩ := HB.out.2.2 k hlt
      have hcl := HB.out.lt (by decide) k
      have HR := Lib.hid (run_snoc t 4294967295 b k hlt)
      generalize Crc.runW t 4294967295 (b.take k) = S at *
      generalize b.getD k 0 = c at *
      obtain ⟨I, hI⟩ : ∃ I, I = (S % 256 ^^^ c) := ⟨_, rfl⟩
      have hI2 : I < 256 := by rw [hI]; exact Crc.xor_byte hcl
      have E := xor8 S c hcl
      rw [← hI] at E
      have HI := Lib.hid hI
      clear hI
      by_cases hin : I < t.length
      · obtain ⟨tb, toff, rfl, htc⟩ := HT.out.2.2 I hin
        have hx := HT.out.lt (by decide) I
        have HX := Lib.hid (show t.getD (S % 256 ^^^ c) 0 = t.getD I 0 by rw [HI.out])
        generalize t.getD I 0 = x at *
        have E2 := xor32 S x hS hx
        go_wp2
        go_round
        case rel => exact ⟨k + 1, by omega, by go_num, by rw [HR.out]; unfold Crc.stepW; rw [HX.out]⟩
        case measure => simp [intOf]; omega
      · have HX := Lib.hid (show t.getD (S % 256 ^^^ c) 0 = 0 by rw [← HI.out, List.getD_eq_getElem?_getD, List.getElem?_eq_none (by omega)]; rfl)
        go_wp2
        go_round
        case rel => exact ⟨k + 1, by omega, by go_num, by rw [HR.out]; unfold Crc.stepW; rw [HX.out, Nat.xor_zero]; go_num⟩
        case measure => simp [intOf]; omega
    · have hkb : k = b.length := by omega
      have HK := Lib.hid (show b.take k = b by rw [hkb]; simp)
      have HF := Lib.hid (show Crc.withT t b = 4294967295 - Crc.runW t 4294967295 (b.take k) by rw [HK.out]; rfl)
      clear hkb
      generalize Crc.runW t 4294967295 (b.take k) = S at *
      go_wp2
      go_ret
      rw [HF.out, ← notx S hS]
      exact ⟨rfl, rfl⟩

/-! entries -/
theorem and1 (v : Nat) (hv : v < 4294967296) : bits .and .u32 (v : Int) 1 = ((v % 2 : Nat) : Int) := by
  rw [← nat_mask1]; exact u32_and_nat v 1 hv (by decide)
theorem xorp (v : Nat) (hv : v < 4294967296) : bits .xor .u32 ((v : Int) / 2) 3988292384 = ((v / 2 ^^^ 0xedb88320 : Nat) : Int) := by
  rw [show ((v : Int) / 2) = ((v / 2 : Nat) : Int) by omega]
  exact u32_xor_nat _ 3988292384 (by omega) (by decide)
theorem steps_odd (k v : Nat) (hk : k < 8) (h : v % 2 = 1) : Crc.steps (8 - k) v = Crc.steps (8 - (k + 1)) (v / 2 ^^^ 0xedb88320) := by
  rw [show 8 - k = (8 - (k + 1)) + 1 by omega]
  show Crc.steps (8 - (k + 1)) (Crc.step1 v) = _
  unfold Crc.step1; rw [if_pos h]
theorem steps_even (k v : Nat) (hk : k < 8) (h : ¬ v % 2 = 1) : Crc.steps (8 - k) v = Crc.steps (8 - (k + 1)) (v / 2) := by
  rw [show 8 - k = (8 - (k + 1)) + 1 by omega]
  show Crc.steps (8 - (k + 1)) (Crc.step1 v) = _
  unfold Crc.step1; rw [if_neg h]
theorem xorp_lt (v : Nat) (hv : v < 4294967296) : (v / 2 ^^^ 0xedb88320) < 4294967296 := Nat.xor_lt_two_pow (n := 32) (by omega) (by omega)
set_option maxRecDepth 100000 in
set_option maxHeartbeats 1000000 in
theorem entry_any (i : Nat) (hi : i < 256) (w : World) : Calls Try.prog 7 #[.int .i64 i] w fun e w' => e = .returned (.int .u32 (Crc.entry i : Nat)) ∧ w = w' := by
  go_enter Try.func7, Try.ntmps7
  go_wp2
  go_loop [3, 6] (fun n j => ∃ k v : Nat, k ≤ 8 ∧ j = .int .i64 k ∧ n = .int .u32 v ∧ v < 4294967296 ∧ Crc.steps (8 - k) v = Crc.entry i) (fun _ j => 8 - (intOf j).toNat)
  case atStart => exact ⟨0, i, by omega, rfl, rfl, by omega, rfl⟩
  case round =>
    obtain ⟨k, v, hk, rfl, rfl, hv, hs⟩ := hrel
    have HS := Lib.hid hs
    clear hs
    by_cases hlt : k < 8
    · have E1 := and1 v hv
      have E2 := xorp v hv
      have L2 := xorp_lt v hv
      by_cases ho : v % 2 = 1
      · have HO := Lib.hid (steps_odd k v hlt ho)
        rw [ho] at E1
        clear ho
        generalize v / 2 ^^^ 0xedb88320 = u at *
        go_wp2
        go_round
        case rel => exact ⟨k + 1, u, by omega, by go_num, rfl, L2, by rw [← HO.out, HS.out]⟩
        case measure => simp [intOf]; omega
      · have HO := Lib.hid (steps_even k v hlt ho)
        rw [show v % 2 = 0 by omega] at E1
        clear ho E2 L2
        go_wp2
        go_round
        case rel => exact ⟨k + 1, v / 2, by omega, by go_num, by go_num, by omega, by rw [← HO.out, HS.out]⟩
        case measure => simp [intOf]; omega
    · have HK := Lib.hid (show v = Crc.entry i by rw [← HS.out, show 8 - k = 0 by omega]; rfl)
      go_wp2
      go_ret
      rw [← HK.out]; exact ⟨rfl, rfl⟩
end Go.Proofs.Ytleagghfhehmpaa
