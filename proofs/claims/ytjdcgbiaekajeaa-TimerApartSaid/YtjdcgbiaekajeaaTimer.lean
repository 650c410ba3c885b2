/-
  The contracts of the timer's functions, and of the reference's timer. Conditions: the cells of the timer are known, its numbers are in range.
-/
import Derived.Test.YtjdcgbiaekajeaaChecked
import Derived.WalkKit
import Derived.ProofKit
import Derived.OpenShut
import Derived.Below
import Derived.Lib.Hide
namespace Go.Proofs.Ytjdcgbiaekajeaa
open Go.ChangeShapes Go.WideShapes Go.ChangeAt Go.RowKit
set_option linter.unusedVariables false

/-- every, as New limits it -/
def ev (n : Int) : Int := max 1 (min n 1000000)
theorem ev_lo (n : Int) : 1 ≤ ev n := by unfold ev; omega
theorem ev_hi (n : Int) : ev n ≤ 1000000 := by unfold ev; omega

theorem new_any (n : Int) (w : World) :
    Calls Try.prog 5 #[.int .i64 n] w fun e w' => e = .returned (.pointer (some ⟨w.heap.size, 0, none⟩)) ∧ w' = w.alloc (.cells #[.int .i64 (ev n), .int .i64 0] 36) := by
  rcases Int.lt_or_le 1000000 n with h | h
  · have hv : ev n = 1000000 := by unfold ev; omega
    have H := Lib.hid hv; clear hv
    go_enter Try.func5, Try.ntmps5
    go_wp2
    go_ret
    rw [H.out]; exact ⟨rfl, rfl⟩
  rcases Int.lt_or_le 1 n with h1 | h1
  · have hv : ev n = n := by unfold ev; omega
    have H := Lib.hid hv; clear hv
    go_enter Try.func5, Try.ntmps5
    go_wp2
    go_ret
    rw [H.out]; exact ⟨rfl, rfl⟩
  · have hv : ev n = 1 := by unfold ev; omega
    have H := Lib.hid hv; clear hv
    go_enter Try.func5, Try.ntmps5
    go_wp2
    go_ret
    rw [H.out]; exact ⟨rfl, rfl⟩
theorem rnew_any (n : Int) (w : World) :
    Calls Try.prog 6 #[.int .i64 n] w fun e w' => e = .returned (.pointer (some ⟨w.heap.size, 0, none⟩)) ∧ w' = w.alloc (.cells #[.int .i64 (ev n), .int .i64 0] 30) := by
  rcases Int.lt_or_le 1000000 n with h | h
  · have hv : ev n = 1000000 := by unfold ev; omega
    have H := Lib.hid hv; clear hv
    go_enter Try.func6, Try.ntmps6
    go_wp2
    go_ret
    rw [H.out]; exact ⟨rfl, rfl⟩
  rcases Int.lt_or_le 1 n with h1 | h1
  · have hv : ev n = n := by unfold ev; omega
    have H := Lib.hid hv; clear hv
    go_enter Try.func6, Try.ntmps6
    go_wp2
    go_ret
    rw [H.out]; exact ⟨rfl, rfl⟩
  · have hv : ev n = 1 := by unfold ev; omega
    have H := Lib.hid hv; clear hv
    go_enter Try.func6, Try.ntmps6
    go_wp2
    go_ret
    rw [H.out]; exact ⟨rfl, rfl⟩

theorem due_yes (b : Nat) (every next now : Int) (w : World) (h0 : w.cell? ⟨b, 0, none⟩ = some (.int .i64 every)) (h1 : w.cell? ⟨b, 1, none⟩ = some (.int .i64 next)) (hf : w.frozen? ⟨b, 1, none⟩ = false)
    (hlo : next ≤ now) (hhi : now ≤ 1000000) (he : 0 ≤ every) (he2 : every ≤ 1000000) (hn : 0 ≤ next) :
    Calls Try.prog 7 #[.pointer (some ⟨b, 0, none⟩), .int .i64 now] w fun e w' => e = .returned (.bool true) ∧ w' = w.setCell ⟨b, 1, none⟩ (.int .i64 (now + every)) := by
  go_enter Try.func7, Try.ntmps7
  go_wp2
  go_ret
  exact ⟨rfl, rfl⟩
theorem due_no (b : Nat) (next now : Int) (w : World) (h1 : w.cell? ⟨b, 1, none⟩ = some (.int .i64 next))
    (h : now < next ∨ 1000000 < now) :
    Calls Try.prog 7 #[.pointer (some ⟨b, 0, none⟩), .int .i64 now] w fun e w' => e = .returned (.bool false) ∧ w' = w := by
  by_cases hlo : now < next
  · clear h
    go_enter Try.func7, Try.ntmps7
    go_wp2
    go_ret
    exact ⟨rfl, rfl⟩
  · have hhi : 1000000 < now := by omega
    clear h
    go_enter Try.func7, Try.ntmps7
    go_wp2
    go_ret
    exact ⟨rfl, rfl⟩
theorem due_nil (now : Int) (w : World) :
    Calls Try.prog 7 #[.pointer none, .int .i64 now] w fun e w' => e = .returned (.bool false) ∧ w' = w := by
  go_enter Try.func7, Try.ntmps7
  go_wp2
  go_ret
  exact ⟨rfl, rfl⟩
theorem rdue_yes (b : Nat) (every next now : Int) (w : World) (h0 : w.cell? ⟨b, 0, none⟩ = some (.int .i64 every)) (h1 : w.cell? ⟨b, 1, none⟩ = some (.int .i64 next)) (hf : w.frozen? ⟨b, 1, none⟩ = false)
    (hlo : next ≤ now) (hhi : now ≤ 1000000) (he : 0 ≤ every) (he2 : every ≤ 1000000) (hn : 0 ≤ next) :
    Calls Try.prog 8 #[.pointer (some ⟨b, 0, none⟩), .int .i64 now] w fun e w' => e = .returned (.bool true) ∧ w' = w.setCell ⟨b, 1, none⟩ (.int .i64 (now + every)) := by
  have hp : 0 ≤ now := by omega
  go_enter Try.func8, Try.ntmps8
  go_wp2
  go_ret
  exact ⟨rfl, rfl⟩
theorem rdue_no (b : Nat) (next now : Int) (w : World) (h1 : w.cell? ⟨b, 1, none⟩ = some (.int .i64 next)) (hn : 0 ≤ next)
    (h : now < next ∨ 1000000 < now) :
    Calls Try.prog 8 #[.pointer (some ⟨b, 0, none⟩), .int .i64 now] w fun e w' => e = .returned (.bool false) ∧ w' = w := by
  by_cases hhi : 1000000 < now
  · have h0 : 0 ≤ now := by omega
    clear h
    go_enter Try.func8, Try.ntmps8
    go_wp2
    go_ret
    exact ⟨rfl, rfl⟩
  · have hlo : now < next := by omega
    clear h
    by_cases h0 : 0 ≤ now
    · go_enter Try.func8, Try.ntmps8
      go_wp2
      go_ret
      exact ⟨rfl, rfl⟩
    · go_enter Try.func8, Try.ntmps8
      go_wp2
      go_ret
      exact ⟨rfl, rfl⟩
theorem next_any (b : Nat) (next : Int) (w : World) (h1 : w.cell? ⟨b, 1, none⟩ = some (.int .i64 next)) :
    Calls Try.prog 9 #[.pointer (some ⟨b, 0, none⟩)] w fun e w' => e = .returned (.int .i64 next) ∧ w' = w := by
  go_enter Try.func9, Try.ntmps9
  go_wp2
  go_ret
  exact ⟨rfl, rfl⟩
theorem next_nil (w : World) :
    Calls Try.prog 9 #[.pointer none] w fun e w' => e = .returned (.int .i64 0) ∧ w' = w := by
  go_enter Try.func9, Try.ntmps9
  go_wp2
  go_ret
  exact ⟨rfl, rfl⟩
theorem awake_any (w : World) : Calls Try.prog 10 #[] w fun e w' => e = .returned (.bool true) ∧ Below w.heap.size w w' := by
  go_enter Try.func10, Try.ntmps10
  go_wp2
  go_ret
  exact ⟨rfl, ((Below.refl _ _).alloc (Nat.le_refl _) _)⟩
end Go.Proofs.Ytjdcgbiaekajeaa
