/-
  WindowNil, walked: the law returns true for every number and writes nothing that was there. No condition.
-/
import Derived.Test.YtmpiildallppaaaWin2
namespace Go.Proofs.Ytmpiildallppaaa
open Go.ChangeShapes Go.WideShapes Go.ChangeAt Go.RowKit
set_option linter.unusedVariables false
theorem Quiet.below {B : Nat} {a w w' : World} (h : Quiet w w') (hb : Below B a w) : Below B a w' := by
  obtain ⟨n, rfl⟩ := h
  exact hb.trans ⟨rfl, rfl, rfl, Nat.le_refl _, fun _ _ => rfl⟩
theorem nil_walk (a0 : Int) (w : World) : Calls Try.prog 6 #[.int .i64 a0] w fun e w' => e = .returned (.bool true) ∧ Below w.heap.size w w' := by
  go_enter Try.func6, Try.ntmps6
  go_wp2_with fail
  refine (last_nil _).mono ?_
  rintro e w1 ⟨rfl, rfl⟩
  go_wp2_with fail
  refine (hear_nil _ _).mono ?_
  rintro e w1 ⟨rfl, rfl⟩
  go_wp2_with fail
  refine (has_nil _ _).mono ?_
  rintro e w1 ⟨rfl, hq⟩
  have HQ := Lib.hid (hq.below (Below.refl w.heap.size w))
  clear hq
  go_wp2_with fail
  refine (count_nil _).mono ?_
  rintro e w2 ⟨rfl, rfl⟩
  go_wp2_with fail
  refine (awake_any _).mono ?_
  rintro e w2 ⟨rfl, hb⟩
  have HB := Lib.hid hb
  clear hb
  go_wp2
  go_ret
  exact ⟨rfl, HQ.out.trans (HB.out.mono HQ.out.size)⟩
end Go.Proofs.Ytmpiildallppaaa
