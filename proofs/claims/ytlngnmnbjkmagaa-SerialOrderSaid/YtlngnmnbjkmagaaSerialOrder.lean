/-
  SerialOrder, walked: the law returns true for all ints and writes nothing. No condition.
-/
import Derived.Test.YtlngnmnbjkmagaaSerialForms
namespace Go.Proofs.Ytlngnmnbjkmagaa
open Go.ChangeShapes Go.WideShapes Go.ChangeAt Go.RowKit
set_option linter.unusedVariables false
/-! the plain law -/
theorem df_in {a b : Int} (ha : 0 ≤ a ∧ a ≤ 65535) (hb : 0 ≤ b ∧ b ≤ 65535) : df a b = if 32768 < (b - a) % 65536 then (b - a) % 65536 - 65536 else (b - a) % 65536 := by
  unfold df; rw [if_pos ⟨ha, hb⟩]
theorem ls_self (a : Int) : lsB a a = false := by simp [lsB, df_self]
theorem df_back {a b : Int} (ha : 0 ≤ a ∧ a ≤ 65535) (hb : 0 ≤ b ∧ b ≤ 65535) : (a + df a b) % 65536 = b := by
  rw [df_in ha hb]; split <;> omega
theorem df_shift {a b y : Int} (ha : 0 ≤ a ∧ a ≤ 65535) (hb : 0 ≤ b ∧ b ≤ 65535) : df ((a + y) % 65536) ((b + y) % 65536) = df a b := by
  rw [df_in ha hb, df_in (by omega) (by omega)]
  rw [show ((b + y) % 65536 - (a + y) % 65536) % 65536 = (b - a) % 65536 by omega]
theorem df_next {a : Int} (ha : 0 ≤ a ∧ a ≤ 65535) : df a (nx a) = 1 := by
  have hn : nx a = (a + 1) % 65536 := by unfold nx; rw [if_pos ha]
  rw [hn, df_in ha (by omega)]
  rw [show ((a + 1) % 65536 - a) % 65536 = 1 by omega]
  rfl
theorem one_less {a b : Int} (ha : 0 ≤ a ∧ a ≤ 65535) (hb : 0 ≤ b ∧ b ≤ 65535) :
    (lsB a b != lsB b a) = ((a != b) && (df a b != 32768)) := by
  have e1 := df_in ha hb
  have e2 := df_in hb ha
  unfold lsB
  rw [e1, e2]
  rw [Bool.eq_iff_iff]
  simp only [bne_iff_ne, ne_eq, decide_eq_decide, Bool.and_eq_true]
  split <;> split <;> omega
set_option maxHeartbeats 1000000 in
theorem order_core (A B Y : Int) (ha : 0 ≤ A ∧ A ≤ 65535) (hb : 0 ≤ B ∧ B ≤ 65535) (hy : 0 ≤ Y ∧ Y ≤ 65535) (a0 a1 a2 : Int) (w : World) (e0 : a0 % 65536 = A) (e1 : a1 % 65536 = B) (e2 : a2 % 65536 = Y) :
    Calls Try.prog 4 #[.int .i64 a0, .int .i64 a1, .int .i64 a2] w fun e w' => e = .returned (.bool true) ∧ Grown w w' := by
  have f1 := ls_self A
  have f3 := df_bd A B
  have f2 : lsB A B = (lsB B A != ((A != B) && (df A B != 32768))) := by
    have := one_less ha hb
    revert this
    generalize lsB A B = x
    generalize lsB B A = y
    generalize ((A != B) && (df A B != 32768)) = z
    cases x <;> cases y <;> cases z <;> simp
  have f4 : ((A + df A B) % 65536 != B) = false := by rw [df_back ha hb]; simp
  have f4' : ((A + df A B + 65536) % 65536 != B) = false := by rw [show (A + df A B + 65536) % 65536 = (A + df A B) % 65536 by omega, df_back ha hb]; simp
  have f5 := df_shift (y := Y) ha hb
  have f6 := df_next ha
  obtain ⟨g1, g2⟩ := f3
  obtain ⟨a1', a2'⟩ := ha
  obtain ⟨b1', b2'⟩ := hb
  obtain ⟨y1', y2'⟩ := hy
  have n1 := (nx_bd A).1
  have n2 := (nx_bd A).2
  have k0 := and16 a0
  have k1 := and16 a1
  have k2 := and16 a2
  rw [e0] at k0
  rw [e1] at k1
  rw [e2] at k2
  clear e0 e1 e2
  rcases Bool.eq_false_or_eq_true (A != B) with hAB | hAB <;> rcases Bool.eq_false_or_eq_true (df A B != 32768) with hd | hd <;> rcases Bool.eq_false_or_eq_true (lsB B A) with hl | hl <;> rw [hAB, hd, hl] at f2 <;> simp at f2
  all_goals
    go_enter Try.func4, Try.ntmps4
    go_wp2_with (first | (go_at_call 7; refine (next_any _ _).mono ?_; rintro e w' ⟨rfl, rfl⟩) | (go_at_call 9; refine (diff_any _ _ _).mono ?_; rintro e w' ⟨rfl, rfl⟩) | (go_at_call 11; refine (less_any _ _ _).mono ?_; rintro e w' ⟨rfl, rfl⟩) | (go_at_call 13; refine (awake_any _).mono ?_; rintro e w' ⟨rfl, rfl⟩))
    go_ret
    exact ⟨rfl, Grown.refl _⟩
theorem order_walk (a0 a1 a2 : Int) (w : World) : Calls Try.prog 4 #[.int .i64 a0, .int .i64 a1, .int .i64 a2] w fun e w' => e = .returned (.bool true) ∧ Grown w w' :=
  order_core (a0 % 65536) (a1 % 65536) (a2 % 65536) (by omega) (by omega) (by omega) a0 a1 a2 w rfl rfl rfl
end Go.Proofs.Ytlngnmnbjkmagaa
