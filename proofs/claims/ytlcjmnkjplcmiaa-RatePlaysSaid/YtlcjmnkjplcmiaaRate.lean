/-
  The contracts of package rate: New, Tick, Take and Left, on a bucket in memory and on nil. Conditions: the cells of the bucket are known, its numbers are in range.
-/
import Derived.Test.YtlcjmnkjplcmiaaChecked
import Derived.WalkKit
import Derived.ProofKit
import Derived.OpenShut
import Derived.Below
import Derived.Handy
import Derived.Lib.Hide
namespace Go.Proofs.Ytlcjmnkjplcmiaa
open Go.ChangeShapes Go.WideShapes Go.ChangeAt Go.RowKit
set_option linter.unusedVariables false
/-- n, as New limits it -/
def bn (n : Int) : Int := max 0 (min n 1000)
theorem bn_lo (n : Int) : 0 ≤ bn n := by unfold bn; omega
theorem bn_hi (n : Int) : bn n ≤ 1000 := by unfold bn; omega
/-- a bucket in memory -/
def Bk (w : World) (b : Nat) (n l : Int) : Prop := w.cell? ⟨b, 0, none⟩ = some (.int .i64 n) ∧ w.cell? ⟨b, 1, none⟩ = some (.int .i64 l) ∧ w.frozen? ⟨b, 1, none⟩ = false
theorem Bk.set {w : World} {b : Nat} {n l : Int} (h : Bk w b n l) (m : Int) : Bk (w.setCell ⟨b, 1, none⟩ (.int .i64 m)) b n m := by
  obtain ⟨h0, h1, h2⟩ := h
  refine ⟨?_, ?_, ?_⟩ <;> simp [go_sem, *]
theorem Bk.made (w : World) (n l : Int) : Bk (w.alloc (.cells #[.int .i64 n, .int .i64 l] 30)) w.heap.size n l := by
  refine ⟨?_, ?_, ?_⟩ <;> simp [go_sem]
theorem new_any (n : Int) (w : World) :
    Calls Try.prog 5 #[.int .i64 n] w fun e w' => e = .returned (.pointer (some ⟨w.heap.size, 0, none⟩)) ∧ w' = w.alloc (.cells #[.int .i64 (bn n), .int .i64 (bn n)] 30) := by
  rcases Int.lt_or_le 1000 n with h | h
  · have hv : bn n = 1000 := by unfold bn; omega
    have H := Lib.hid hv; clear hv
    go_enter Try.func5, Try.ntmps5
    go_wp2
    go_ret
    rw [H.out]; exact ⟨rfl, rfl⟩
  rcases Int.lt_or_le 0 n with h1 | h1
  · have hv : bn n = n := by unfold bn; omega
    have H := Lib.hid hv; clear hv
    go_enter Try.func5, Try.ntmps5
    go_wp2
    go_ret
    rw [H.out]; exact ⟨rfl, rfl⟩
  · have hv : bn n = 0 := by unfold bn; omega
    have H := Lib.hid hv; clear hv
    go_enter Try.func5, Try.ntmps5
    go_wp2
    go_ret
    rw [H.out]; exact ⟨rfl, rfl⟩
theorem left_any (b : Nat) (l : Int) (w : World) (h1 : w.cell? ⟨b, 1, none⟩ = some (.int .i64 l)) :
    Calls Try.prog 6 #[.pointer (some ⟨b, 0, none⟩)] w fun e w' => e = .returned (.int .i64 l) ∧ w = w' := by
  go_enter Try.func6, Try.ntmps6
  go_wp2
  go_ret
  exact ⟨rfl, rfl⟩
theorem left_nil (w : World) : Calls Try.prog 6 #[.pointer none] w fun e w' => e = .returned (.int .i64 0) ∧ w = w' := by
  go_enter Try.func6, Try.ntmps6
  go_wp2
  go_ret
  exact ⟨rfl, rfl⟩
theorem tick_any (b : Nat) (n l : Int) (w : World) (h0 : w.cell? ⟨b, 0, none⟩ = some (.int .i64 n)) (h1 : w.cell? ⟨b, 1, none⟩ = some (.int .i64 l)) (hf : w.frozen? ⟨b, 1, none⟩ = false) :
    Calls Try.prog 7 #[.pointer (some ⟨b, 0, none⟩)] w fun e w' => e = .returned (.tuple #[]) ∧ w' = w.setCell ⟨b, 1, none⟩ (.int .i64 n) := by
  go_enter Try.func7, Try.ntmps7
  go_wp2
  go_end0
  exact ⟨rfl, rfl⟩
theorem tick_nil (w : World) : Calls Try.prog 7 #[.pointer none] w fun e w' => e = .returned (.tuple #[]) ∧ w = w' := by
  go_enter Try.func7, Try.ntmps7
  go_wp2
  go_end0
  exact ⟨rfl, rfl⟩
theorem take_yes (b : Nat) (l : Int) (w : World) (h1 : w.cell? ⟨b, 1, none⟩ = some (.int .i64 l)) (hf : w.frozen? ⟨b, 1, none⟩ = false) (hl : 0 < l) (hl2 : l ≤ 1000) :
    Calls Try.prog 8 #[.pointer (some ⟨b, 0, none⟩)] w fun e w' => e = .returned (.bool true) ∧ w' = w.setCell ⟨b, 1, none⟩ (.int .i64 (l - 1)) := by
  have hz : (l == 0) = false := by simp; omega
  go_enter Try.func8, Try.ntmps8
  go_wp2_with (go_at_call 6; refine (left_any _ _ _ h1).mono ?_; rintro e w' ⟨rfl, rfl⟩)
  go_ret
  exact ⟨rfl, rfl⟩
theorem take_no (b : Nat) (w : World) (h1 : w.cell? ⟨b, 1, none⟩ = some (.int .i64 0)) :
    Calls Try.prog 8 #[.pointer (some ⟨b, 0, none⟩)] w fun e w' => e = .returned (.bool false) ∧ w = w' := by
  go_enter Try.func8, Try.ntmps8
  go_wp2_with (go_at_call 6; refine (left_any _ _ _ h1).mono ?_; rintro e w' ⟨rfl, rfl⟩)
  go_ret
  exact ⟨rfl, rfl⟩
theorem take_nil (w : World) : Calls Try.prog 8 #[.pointer none] w fun e w' => e = .returned (.bool false) ∧ w = w' := by
  go_enter Try.func8, Try.ntmps8
  go_wp2_with (go_at_call 6; refine (left_nil _).mono ?_; rintro e w' ⟨rfl, rfl⟩)
  go_ret
  exact ⟨rfl, rfl⟩
theorem awake_any (w : World) : Calls Try.prog 9 #[] w fun e w' => e = .returned (.bool true) ∧ Below w.heap.size w w' := by
  go_enter Try.func9, Try.ntmps9
  go_wp2
  go_ret
  exact ⟨rfl, by go_grown⟩
set_option maxRecDepth 100000 in
set_option maxHeartbeats 1000000 in
theorem nil_walk (a0 : Int) (w : World) :
    Calls Try.prog 4 #[.int .i64 a0] w fun e w' => e = .returned (.bool true) ∧ Below w.heap.size w w' := by
  have h1 := bn_lo a0
  have h2 := bn_hi a0
  have K0 : Bk (w.alloc (.cells #[.int .i64 (bn a0), .int .i64 (bn a0)] 30)) w.heap.size (bn a0) (bn a0) := Bk.made _ _ _
  go_enter Try.func4, Try.ntmps4
  go_wp2_with (first | (go_at_call 7; refine (tick_nil _).mono ?_; rintro e w' ⟨rfl, rfl⟩) | (go_at_call 5; refine (new_any _ _).mono ?_; rintro e w' ⟨rfl, rfl⟩))
  go_loopw [9] (fun i wr => ∃ (k : Nat) (l : Int), k ≤ 1001 ∧ i = .int .i64 k ∧ 0 ≤ l ∧ (l + k ≤ 1000 ∨ l = 0) ∧ Bk wr w.heap.size (bn a0) l ∧ Below w.heap.size w wr)
    (fun i _ => 1001 - (intOf i).toNat)
  case atStart => exact ⟨0, bn a0, by omega, rfl, by omega, by omega, K0, by go_grown⟩
  case round =>
    clear K0
    obtain ⟨k, l, hk, rfl, hl0, hl1, kb, hb⟩ := hrel
    by_cases hlt : k < 1001
    · by_cases hz : l = 0
      · subst hz
        have KB := Lib.hid kb
        have HB := Lib.hid hb
        clear kb hb
        go_wp2_with (go_at_call 8; refine (take_no _ _ KB.out.2.1).mono ?_; rintro e w' ⟨rfl, rfl⟩)
        go_roundw
        case rel => exact ⟨k + 1, 0, by omega, by go_num, by omega, .inr rfl, KB.out, HB.out⟩
        case measure => simp [intOf]; omega
      · have hp : 0 < l := by omega
        have hp2 : l ≤ 1000 := by omega
        have KB := Lib.hid kb
        have HB := Lib.hid hb
        have HL := Lib.hid hl1
        clear kb hb hz hl1
        go_wp2_with (go_at_call 8; refine (take_yes _ _ _ KB.out.2.1 KB.out.2.2 hp hp2).mono ?_; rintro e w' ⟨rfl, rfl⟩)
        go_roundw
        case rel => exact ⟨k + 1, l - 1, by omega, by go_num, by omega, by have := HL.out; omega, KB.out.set _, HB.out.setCell (Nat.le_refl _) _⟩
        case measure => simp [intOf]; omega
    · obtain rfl : l = 0 := by omega
      have KB := Lib.hid kb
      have HB := Lib.hid hb
      have c1 := kb.2.1
      clear kb hb hl1
      go_wp2_with (first | (go_at_call 8; (with_reducible refine (take_nil _).mono ?_); rintro e w' ⟨rfl, rfl⟩) | (go_at_call 8; (with_reducible refine (take_no _ _ c1).mono ?_); rintro e w' ⟨rfl, rfl⟩) | (go_at_call 6; (with_reducible refine (left_nil _).mono ?_); rintro e w' ⟨rfl, rfl⟩) | (go_at_call 6; (with_reducible refine (left_any _ _ _ c1).mono ?_); rintro e w' ⟨rfl, rfl⟩) | (go_at_call 9; (with_reducible refine (awake_any _).mono ?_); rintro e w' ⟨rfl, hb'⟩))
      go_ret
      exact ⟨rfl, HB.out.trans (hb'.mono HB.out.size)⟩
end Go.Proofs.Ytlcjmnkjplcmiaa
