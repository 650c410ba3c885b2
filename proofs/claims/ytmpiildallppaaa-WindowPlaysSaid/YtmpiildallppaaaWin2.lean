/-
  The contracts of Has, Last and Count of package window, and of the law's awake. Conditions: the cells of the window are known, its numbers are in range.
-/
import Derived.Test.YtmpiildallppaaaWin
import Derived.Deep.RegionHeld3
namespace Go.Proofs.Ytmpiildallppaaa
open Go.ChangeShapes Go.WideShapes Go.ChangeAt Go.RowKit
set_option linter.unusedVariables false
theorem count_any (b : Nat) (any : Bool) (last : Int) (seen : Nat) (w : World) (h : Wm w b any last seen) (hs : seen < 18446744073709551616) :
    Calls Try.prog 11 #[.pointer (some ⟨b, 0, none⟩)] w fun e w' => e = .returned (.int .i64 (Pop.cnt 64 seen : Nat)) ∧ w = w' := by
  have HS := Lib.hid (ones_any seen hs)
  have h2 := h.2.2.1
  clear h hs
  go_enter Try.func11, Try.ntmps11
  go_wp2_with (go_at_call 19; (with_reducible refine (HS.out _).mono ?_); rintro e w' ⟨rfl, rfl⟩)
  go_ret
  exact ⟨rfl, rfl⟩
theorem count_nil (w : World) : Calls Try.prog 11 #[.pointer none] w fun e w' => e = .returned (.int .i64 0) ∧ w = w' := by
  go_enter Try.func11, Try.ntmps11
  go_wp2
  go_ret
  exact ⟨rfl, rfl⟩
/-- what Last answers -/
def la (any : Bool) (last : Int) : Int := if any then last else 0
theorem last_any (b : Nat) (any : Bool) (last : Int) (seen : Nat) (w : World) (h : Wm w b any last seen) :
    Calls Try.prog 13 #[.pointer (some ⟨b, 0, none⟩)] w fun e w' => e = .returned (.tuple #[.int .i64 (la any last), .bool any]) ∧ w = w' := by
  have h0 := h.1
  have h1 := h.2.1
  clear h
  cases any with
  | true =>
    go_enter Try.func13, Try.ntmps13
    go_wp2
    go_ret2
    exact ⟨rfl, rfl⟩
  | false =>
    go_enter Try.func13, Try.ntmps13
    go_wp2
    go_ret2
    exact ⟨rfl, rfl⟩
theorem last_nil (w : World) : Calls Try.prog 13 #[.pointer none] w fun e w' => e = .returned (.tuple #[.int .i64 0, .bool false]) ∧ w = w' := by
  go_enter Try.func13, Try.ntmps13
  go_wp2
  go_ret2
  exact ⟨rfl, rfl⟩
/-- what Has answers -/
def hasB (any : Bool) (last : Int) (seen : Nat) (seq : Int) : Bool := any && (mayB seq && decide (seen &&& beh last seq ≠ 0))
/-- nothing has changed but the count of draws -/
def Quiet (w w' : World) : Prop := ∃ n, w' = w.drewN n
theorem has_nil (seq : Int) (w : World) : Calls Try.prog 14 #[.pointer none, .int .i64 seq] w fun e w' => e = .returned (.bool false) ∧ Quiet w w' := by
  go_enter Try.func14, Try.ntmps14
  go_wp2
  go_quiet (fail)
  go_wp2
  go_ret
  exact ⟨rfl, ⟨_, rfl⟩⟩
theorem has_any (b : Nat) (any : Bool) (last : Int) (seen : Nat) (seq : Int) (w : World) (h : Wm w b any last seen) (hs : seen < 18446744073709551616) :
    Calls Try.prog 14 #[.pointer (some ⟨b, 0, none⟩), .int .i64 seq] w fun e w' => e = .returned (.bool (hasB any last seen seq)) ∧ Quiet w w' := by
  obtain ⟨h0, h1, h2, f0, f1, f2⟩ := h
  clear f0 f1 f2
  cases any with
  | false =>
    have H := Lib.hid (show hasB false last seen seq = false from rfl)
    go_enter Try.func14, Try.ntmps14
    go_wp2
    go_quiet (fail)
    go_wp2
    go_ret
    rw [H.out]
    exact ⟨rfl, ⟨_, rfl⟩⟩
  | true =>
    rcases Bool.eq_false_or_eq_true (mayB seq) with hm | hm
    · have E := and64 seen (beh last seq) hs (beh_lt last seq)
      have H := Lib.hid (show hasB true last seen seq = (((seen &&& beh last seq : Nat) : Int) != 0) by
        unfold hasB; rw [hm]
        by_cases e : seen &&& beh last seq = 0
        · simp [e]
        · have : (((seen &&& beh last seq : Nat) : Int) != 0) = true := by rw [bne_iff_ne]; omega
          rw [this]; simp [e])
      have BH := Lib.hid (fun w' (h : w'.cell? ⟨b, 1, none⟩ = some (.int .i64 last)) => behind_any b last seq w' h)
      clear hs
      generalize beh last seq = z at *
      generalize seen &&& z = y at *
      go_enter Try.func14, Try.ntmps14
      go_wp2
      go_region_held3 (fun w' => w'.cell? ⟨b, 0, none⟩ = some (.bool true) ∧ w'.cell? ⟨b, 2, none⟩ = some (.int .u64 seen) ∧ w'.cell? ⟨b, 1, none⟩ = some (.int .i64 last)) (exact ⟨h0, h2, h1⟩)
        (first | (go_at_call 16; refine (may_any _ _).mono ?_; rintro e w' ⟨rfl, rfl⟩) | (go_at_call 18; refine (BH.out _ (by first | exact h1 | assumption)).mono ?_; rintro e w' ⟨rfl, rfl⟩))
      all_goals
        go_wp2
        go_ret
        rw [H.out]
        exact ⟨rfl, ⟨1, rfl⟩⟩
    · have H := Lib.hid (show hasB true last seen seq = false by unfold hasB; rw [hm]; rfl)
      clear hs
      go_enter Try.func14, Try.ntmps14
      go_wp2
      go_quiet ((go_at_call 16; exact Calls.quiet_of_same ((may_any _ _).mono fun _ _ ⟨p, q⟩ => ⟨p, q.symm⟩)))
      go_wp2
      go_ret
      rw [H.out]
      exact ⟨rfl, ⟨_, rfl⟩⟩
theorem hear_at {b : Nat} {any any' : Bool} {last last' : Int} {seen seen' : Nat} {seq code : Int} {w : World} (hh : Hid (hr any last seen seq = (code, any', last', seen'))) (hs : Hid (seen < 18446744073709551616)) (h : Wm w b any last seen) :
    Calls Try.prog 9 #[.pointer (some ⟨b, 0, none⟩), .int .i64 seq] w fun e w' => e = .returned (.int .i64 code) ∧ Wm w' b any' last' seen' ∧ Touch b w w' := by
  have := hear_any b any last seen seq w h hs.out
  rw [hh.out] at this
  exact this
theorem hr1 : hr false 0 0 5 = (0, true, 5, 1) := by decide +kernel
theorem hr2 : hr true 5 1 7 = (0, true, 7, 5) := by decide +kernel
theorem hr3 : hr true 7 5 5 = (9, true, 7, 5) := by decide +kernel
theorem hr4 : hr true 7 5 6 = (0, true, 7, 7) := by decide +kernel
theorem ct7 : Pop.cnt 64 7 = 3 := by decide +kernel
theorem lt0 : Hid (0 < 18446744073709551616) := by unfold Hid; decide
theorem lt1 : Hid (1 < 18446744073709551616) := by unfold Hid; decide
theorem lt5 : Hid (5 < 18446744073709551616) := by unfold Hid; decide
theorem lt7 : Hid (7 < 18446744073709551616) := by unfold Hid; decide
theorem count7 (b : Nat) (w : World) (h : Wm w b true 7 7) : Calls Try.prog 11 #[.pointer (some ⟨b, 0, none⟩)] w fun e w' => e = .returned (.int .i64 3) ∧ w = w' := by
  have := count_any b true 7 7 w h lt7.out
  rw [ct7] at this
  exact this
theorem awake_any (w : World) : Calls Try.prog 10 #[] w fun e w' => e = .returned (.bool true) ∧ Below w.heap.size w w' := by
  have H1 := Lib.hid hr1
  have H2 := Lib.hid hr2
  have H3 := Lib.hid hr3
  have H4 := Lib.hid hr4
  go_enter Try.func10, Try.ntmps10
  go_wp2_with fail
  refine (new_any _).mono ?_
  rintro e w' ⟨rfl, rfl⟩
  have W0 := Lib.hid (Wm.made w)
  have B0 : Hid (Below w.heap.size w (w.alloc (.cells #[.bool false, .int .i64 0, .int .u64 0] 41))) := (Below.refl _ _).alloc (Nat.le_refl _) _
  go_wp2_with fail
  refine (hear_at H1 lt0 W0.out).mono ?_
  rintro e w1 ⟨rfl, k1, t1⟩
  have W1 := Lib.hid k1
  have B1 := Lib.hid (t1.below B0.out (Nat.le_refl _))
  clear k1 t1
  go_wp2_with fail
  refine (hear_at H2 lt1 W1.out).mono ?_
  rintro e w2 ⟨rfl, k2, t2⟩
  have W2 := Lib.hid k2
  have B2 := Lib.hid (t2.below B1.out (Nat.le_refl _))
  clear k2 t2
  go_wp2_with fail
  refine (hear_at H3 lt5 W2.out).mono ?_
  rintro e w3 ⟨rfl, k3, t3⟩
  have W3 := Lib.hid k3
  have B3 := Lib.hid (t3.below B2.out (Nat.le_refl _))
  clear k3 t3
  go_wp2_with fail
  refine (hear_at H4 lt5 W3.out).mono ?_
  rintro e w4 ⟨rfl, k4, t4⟩
  have W4 := Lib.hid k4
  have B4 := Lib.hid (t4.below B3.out (Nat.le_refl _))
  clear k4 t4
  go_wp2_with fail
  refine (count7 _ _ W4.out).mono ?_
  rintro e w5 ⟨rfl, rfl⟩
  go_wp2
  go_ret
  exact ⟨rfl, B4.out⟩
end Go.Proofs.Ytmpiildallppaaa
