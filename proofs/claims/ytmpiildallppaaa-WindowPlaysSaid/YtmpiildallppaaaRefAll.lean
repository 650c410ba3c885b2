/-
  The contract of the reference's Hear: it answers and leaves what the plain function says. Conditions: the cells of the window and of its list are known; the list is short.
-/
import Derived.Test.YtmpiildallppaaaRefNew
namespace Go.Proofs.Ytmpiildallppaaa
open Go.ChangeShapes Go.WideShapes Go.ChangeAt Go.RowKit
set_option linter.unusedVariables false
theorem rhear_bad (m base : Nat) (v : Value) (L : List Int) (last seq : Int) (w : World) (h : RW w m base v L last) (hm : mayB seq = false) :
    Calls Try.prog 12 #[.pointer (some ⟨m, 0, none⟩), .int .i64 seq] w (RPost m base w 1 L last) := by
  have HP : Hid (RPost m base w 1 L last (.returned (.int .i64 1)) w) := ⟨rfl, ⟨_, h⟩, Kp.refl _ _ _⟩
  clear h
  go_enter Try.func12, Try.ntmps12
  go_wp2_with (go_at_call 20; refine (rmay_any _ _).mono ?_; rintro e w' ⟨rfl, rfl⟩)
  go_ret
  exact HP.out
theorem rhear_any (m base : Nat) (v : Value) (L : List Int) (last seq : Int) (w : World) (h : RW w m base v L last) (hlen : L.length ≤ 1000) :
    Calls Try.prog 12 #[.pointer (some ⟨m, 0, none⟩), .int .i64 seq] w (RPost m base w (rhear L last seq).1 (rhear L last seq).2.1 (rhear L last seq).2.2) := by
  rcases Bool.eq_false_or_eq_true (mayB seq) with hm | hm
  rotate_left
  · have e : rhear L last seq = (1, L, last) := by unfold rhear; rw [if_pos hm]
    rw [e]; exact rhear_bad m base v L last seq w h hm
  have hm' : ¬ mayB seq = false := by rw [hm]; decide
  by_cases c1 : L ≠ [] ∧ (df last seq = 0 ∨ df last seq = 32768 ∨ df last seq < -63 ∨ seq ∈ L)
  · have e : rhear L last seq = (9, L, last) := by unfold rhear; rw [if_neg hm', if_pos c1]
    rw [e]; exact rhear_refuse m base v L last seq w h hlen hm c1.1 c1.2
  by_cases c2 : L ≠ [] ∧ df last seq < 0
  · have e : rhear L last seq = (0, L ++ [seq], last) := by unfold rhear; rw [if_neg hm', if_neg c1, if_pos c2]
    have n0 : df last seq ≠ 0 := fun x => c1 ⟨c2.1, .inl x⟩
    have n1 : df last seq ≠ 32768 := fun x => c1 ⟨c2.1, .inr (.inl x)⟩
    have n2 : ¬ df last seq < -63 := fun x => c1 ⟨c2.1, .inr (.inr (.inl x))⟩
    have n3 : seq ∉ L := fun x => c1 ⟨c2.1, .inr (.inr (.inr x))⟩
    rw [e]; exact rhear_behind m base v L last seq w h hlen hm c2.1 n0 n1 n2 n3 c2.2
  · have e : rhear L last seq = (0, Fk L seq L.length, seq) := by
      unfold rhear; rw [if_neg hm', if_neg c1, if_neg c2]
      unfold Fk; rw [List.take_length]; rfl
    rw [e]
    refine rhear_new m base v L last seq w h hlen hm ?_
    by_cases hL : L = []
    · exact .inl hL
    · have n0 : df last seq ≠ 0 := fun x => c1 ⟨hL, .inl x⟩
      exact .inr ⟨hL, n0, fun x => c1 ⟨hL, .inr (.inl x)⟩, by have : ¬ df last seq < 0 := fun x => c2 ⟨hL, x⟩; omega, fun x => c1 ⟨hL, .inr (.inr (.inr x))⟩⟩
end Go.Proofs.Ytmpiildallppaaa
