/-
  The contracts of the reference's serial numbers: MaySerial, Next, Diff and Less return the plain functions' values for all ints and leave the world alone. No condition.
-/
import Derived.Test.YtmpiildallppaaaSerial
namespace Go.Proofs.Ytmpiildallppaaa
open Go.ChangeShapes Go.WideShapes Go.ChangeAt Go.RowKit
set_option linter.unusedVariables false
theorem rmay_any (s : Int) (w : World) : Calls Try.prog 20 #[.int .i64 s] w fun e w' => e = .returned (.bool (mayB s)) ∧ w = w' := by
  by_cases h0 : 0 ≤ s
  · by_cases h1 : s ≤ 65535
    · have H := Lib.hid (show mayB s = true by simp [mayB]; omega)
      go_enter Try.func20, Try.ntmps20
      go_wp2
      go_ret
      rw [H.out]; exact ⟨rfl, rfl⟩
    · have H := Lib.hid (show mayB s = false by simp [mayB]; omega)
      go_enter Try.func20, Try.ntmps20
      go_wp2
      go_ret
      rw [H.out]; exact ⟨rfl, rfl⟩
  · have H := Lib.hid (show mayB s = false by simp [mayB]; omega)
    go_enter Try.func20, Try.ntmps20
    go_wp2
    go_ret
    rw [H.out]; exact ⟨rfl, rfl⟩
theorem rdiff_any (a b : Int) (w : World) : Calls Try.prog 21 #[.int .i64 a, .int .i64 b] w fun e w' => e = .returned (.int .i64 (df a b)) ∧ w = w' := by
  by_cases h : 0 ≤ a ∧ a ≤ 65535
  · have M : mayB a = true := by simp [mayB, h]
    by_cases k : 0 ≤ b ∧ b ≤ 65535
    · have N : mayB b = true := by simp [mayB, k]
      obtain ⟨h0, h1⟩ := h
      obtain ⟨k0, k1⟩ := k
      by_cases d : 32768 < (b - a) % 65536
      · have H := Lib.hid (show df a b = (b - a) % 65536 - 65536 by unfold df; rw [if_pos ⟨⟨h0, h1⟩, ⟨k0, k1⟩⟩, if_pos d])
        go_enter Try.func21, Try.ntmps21
        go_wp2_with (go_at_call 20; refine (rmay_any _ _).mono ?_; rintro e w' ⟨rfl, rfl⟩)
        go_ret
        rw [H.out]; exact ⟨rfl, rfl⟩
      · have H := Lib.hid (show df a b = (b - a + 65536) % 65536 by unfold df; rw [if_pos ⟨⟨h0, h1⟩, ⟨k0, k1⟩⟩, if_neg (by omega)]; omega)
        go_enter Try.func21, Try.ntmps21
        go_wp2_with (go_at_call 20; refine (rmay_any _ _).mono ?_; rintro e w' ⟨rfl, rfl⟩)
        go_ret
        rw [H.out]; exact ⟨rfl, rfl⟩
    · have N : mayB b = false := by simp [mayB, k]
      have H := Lib.hid (show df a b = 0 by unfold df; rw [if_neg (fun x => k x.2)])
      clear h k
      go_enter Try.func21, Try.ntmps21
      go_wp2_with (go_at_call 20; refine (rmay_any _ _).mono ?_; rintro e w' ⟨rfl, rfl⟩)
      go_ret
      rw [H.out]; exact ⟨rfl, rfl⟩
  · have M : mayB a = false := by simp [mayB, h]
    have H := Lib.hid (show df a b = 0 by unfold df; rw [if_neg (fun x => h x.1)])
    clear h
    go_enter Try.func21, Try.ntmps21
    go_wp2_with (go_at_call 20; refine (rmay_any _ _).mono ?_; rintro e w' ⟨rfl, rfl⟩)
    go_ret
    rw [H.out]; exact ⟨rfl, rfl⟩
end Go.Proofs.Ytmpiildallppaaa
