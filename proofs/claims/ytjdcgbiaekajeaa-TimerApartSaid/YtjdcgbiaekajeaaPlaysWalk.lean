/-
  TimerPlays, walked: the law returns true for every every and every slice of times, and writes nothing that was there. Conditions: the slice reads as a row of integers.
-/
import Derived.Test.YtjdcgbiaekajeaaTimer
import Derived.Deep.RegionWith
import Derived.Deep.QuietTactic
import Derived.BigQuiet
import Derived.Handy
import Derived.WalkSpells
namespace Go.Proofs.Ytjdcgbiaekajeaa
open Go.ChangeShapes Go.WideShapes Go.ChangeAt Go.RowKit
set_option linter.unusedVariables false
def IsRow (k : IntKind) (w : World) (a : Option Addr) (len cap : Nat) (zs : List Int) : Prop :=
  (a = none ∧ len = 0 ∧ cap = 0 ∧ zs = []) ∨
  ∃ x, a = some x ∧ len ≤ cap ∧ cap ≤ maxLen ∧ zs.length = cap ∧ (∀ i, i < zs.length → w.cell? (x.add i) = some (.int k (zs.getD i 0))) ∧ ∀ n ∈ zs, (Lit.int k n).wf = true
/-- a timer in memory -/
def Tm (w : World) (b : Nat) (e n : Int) : Prop := w.cell? ⟨b, 0, none⟩ = some (.int .i64 e) ∧ w.cell? ⟨b, 1, none⟩ = some (.int .i64 n) ∧ w.frozen? ⟨b, 1, none⟩ = false
theorem Tm.set {w : World} {b : Nat} {e n : Int} (h : Tm w b e n) (m : Int) : Tm (w.setCell ⟨b, 1, none⟩ (.int .i64 m)) b e m := by
  obtain ⟨h0, h1, h2⟩ := h
  refine ⟨?_, ?_, ?_⟩ <;> simp [go_sem, *]
theorem Tm.other {w : World} {b c : Nat} {e n : Int} (h : Tm w b e n) (hc : c ≠ b) (m : Int) : Tm (w.setCell ⟨c, 1, none⟩ (.int .i64 m)) b e n := by
  obtain ⟨h0, h1, h2⟩ := h
  have hb : b ≠ c := fun h => hc h.symm
  refine ⟨?_, ?_, ?_⟩ <;> simp [go_sem, *]
theorem Tm.drew {w : World} {b : Nat} {e n : Int} (h : Tm w b e n) : Tm w.drew b e n := h
theorem plays_empty (a0 : Int) (a1 : Option Addr) (cap1 : Nat) (w : World) :
    Calls Try.prog 3 #[.int .i64 a0, .slice a1 0 cap1] w fun e w' => e = .returned (.bool true) ∧ Below w.heap.size w w' := by
  have e1 := ev_lo a0
  have e2 := ev_hi a0
  go_enter Try.func3, Try.ntmps3
  go_wp2_with (first | (go_at_call 5; refine (new_any _ _).mono ?_; rintro e w' ⟨rfl, rfl⟩) | (go_at_call 6; refine (rnew_any _ _).mono ?_; rintro e w' ⟨rfl, rfl⟩))
  refine wp_loop_rounds 1 ?_
  rw [rounds_succ]
  go_wp2_with (first | (go_at_call 7; refine (due_nil _ _).mono ?_; rintro e w' ⟨rfl, rfl⟩) | (go_at_call 9; refine (next_nil _).mono ?_; rintro e w' ⟨rfl, rfl⟩) | (go_at_call 10; refine (awake_any _).mono ?_; rintro e w' ⟨rfl, hb'⟩))
  go_ret
  exact ⟨rfl, (((Below.refl _ _).alloc (Nat.le_refl _) _).alloc (by simp) _).trans (hb'.mono (by simp; omega))⟩

set_option maxHeartbeats 2000000 in
set_option maxRecDepth 100000 in
theorem plays_walk (a0 : Int) (a1 : Option Addr) (len1 cap1 : Nat) (z1 : List Int) (w : World) (w0 : (Lit.int .i64 a0).wf = true) (w1 : IsRow .i64 w a1 len1 cap1 z1) :
    Calls Try.prog 3 #[.int .i64 a0, .slice a1 len1 cap1] w fun e w' => e = .returned (.bool true) ∧ Below w.heap.size w w' := by
  rcases w1 with ⟨rfl, rfl, rfl, rfl⟩ | ⟨x, rfl, hl, hm, hz, hcell, hwz⟩
  · exact plays_empty _ _ _ _
  have e1 := ev_lo a0
  have e2 := ev_hi a0
  unfold maxLen at hm
  by_cases hz0 : len1 = 0
  · subst hz0
    exact plays_empty _ _ _ _
  obtain ⟨b, off, rfl, hcl⟩ := ints_at hcell (by omega)
  have HC := Lib.hid hcl
  clear hcl hcell
  have T0 : Tm (((w.alloc (Obj.cells #[Value.int IntKind.i64 (ev a0), Value.int IntKind.i64 0] 36)).alloc (Obj.cells #[Value.int IntKind.i64 (ev a0), Value.int IntKind.i64 0] 30))) w.heap.size (ev a0) 0 := by
    refine ⟨?_, ?_, ?_⟩ <;> simp [go_sem]
  have T1 : Tm (((w.alloc (Obj.cells #[Value.int IntKind.i64 (ev a0), Value.int IntKind.i64 0] 36)).alloc (Obj.cells #[Value.int IntKind.i64 (ev a0), Value.int IntKind.i64 0] 30))) (w.heap.size + 1) (ev a0) 0 := by
    refine ⟨?_, ?_, ?_⟩ <;> simp [go_sem]
  go_enter Try.func3, Try.ntmps3
  go_wp2_with (first | (go_at_call 5; refine (new_any _ _).mono ?_; rintro e w' ⟨rfl, rfl⟩) | (go_at_call 6; refine (rnew_any _ _).mono ?_; rintro e w' ⟨rfl, rfl⟩))
  go_loopw [18] (fun i wr => ∃ (k : Nat) (nx : Int), k ≤ len1 ∧ k ≤ 200 ∧ i = .int .i64 k ∧ 0 ≤ nx ∧ nx ≤ 2000000 ∧ Tm wr w.heap.size (ev a0) nx ∧ Tm wr (w.heap.size + 1) (ev a0) nx ∧ Below w.heap.size w wr)
    (fun i _ => len1 - (intOf i).toNat)
  case atStart => exact ⟨0, 0, by omega, by omega, rfl, by omega, by omega, T0, T1, by go_grown⟩
  case round =>
    clear T0 T1
    obtain ⟨k, nx, hk, hk2, rfl, hn0, hn1, t0, t1, hb⟩ := hrel
    by_cases hlt : k < len1
    · have hc : wr.cell? ⟨b, off + k, none⟩ = some (.int .i64 (z1.getD k 0)) := by
        have h := HC.out k (by omega)
        exact (hb.cell (World.block_lt_of_cell? _ _ h)).trans h
      by_cases h200 : k = 200
      · have h2 : 200 ≤ k := by omega
        have HB := Lib.hid hb
        clear hb t0 t1 h200
        go_wp2_with (first | (go_at_call 7; refine (due_nil _ _).mono ?_; rintro e w' ⟨rfl, rfl⟩) | (go_at_call 9; refine (next_nil _).mono ?_; rintro e w' ⟨rfl, rfl⟩) | (go_at_call 10; refine (awake_any _).mono ?_; rintro e w' ⟨rfl, hb'⟩))
        go_ret
        exact ⟨rfl, HB.out.trans (hb'.mono HB.out.size)⟩
      · obtain ⟨z, hz⟩ : ∃ z, z = z1.getD k 0 := ⟨_, rfl⟩
        rw [← hz] at hc
        clear hz
        go_wp2_with fail
        by_cases hdue : nx ≤ z ∧ z ≤ 1000000
        · obtain ⟨hd1, hd2⟩ := hdue
          have ne : w.heap.size + 1 ≠ w.heap.size := by omega
          have D0 := Lib.hid (t0.drew)
          have D1 := Lib.hid ((t1.other (c := w.heap.size) (by omega) (z + ev a0)).drew)
          have D2 := Lib.hid (((t0.set (z + ev a0)).other (c := w.heap.size + 1) (by omega) (z + ev a0)).drew)
          have E0 := Lib.hid ((t0.set (z + ev a0)).other (c := w.heap.size + 1) (by omega) (z + ev a0))
          have E1 := Lib.hid ((t1.other (c := w.heap.size) (by omega) (z + ev a0)).set (z + ev a0))
          have HB := Lib.hid hb
          clear hb
          have D3 := ((t1.other (c := w.heap.size) (by omega) (z + ev a0)).set (z + ev a0)).2.1
          clear t0 t1
          go_region_with (first | (go_at_call 7; refine (due_yes _ _ _ _ _ D0.out.1 D0.out.2.1 D0.out.2.2 hd1 hd2 (by omega) (by omega) (by omega)).mono ?_; rintro e w' ⟨rfl, rfl⟩) | (go_at_call 8; refine (rdue_yes _ _ _ _ _ D1.out.1 D1.out.2.1 D1.out.2.2 hd1 hd2 (by omega) (by omega) (by omega)).mono ?_; rintro e w' ⟨rfl, rfl⟩) | (go_at_call 9; refine (next_any _ _ _ D2.out.2.1).mono ?_; rintro e w' ⟨rfl, rfl⟩))
          all_goals
            go_wp2
            go_roundw
            case rel => exact ⟨k + 1, z + ev a0, by omega, by omega, by go_num, by omega, by omega, E0.out, E1.out, ((HB.out.setCell (Nat.le_refl _) _).setCell (Nat.le_succ _) _).drew⟩
            case measure => simp [intOf]; omega
        · have hd : z < nx ∨ 1000000 < z := by omega
          have D0 := Lib.hid (t0.drew)
          have D1 := Lib.hid (t1.drew)
          have D3 := t1.2.1
          have HB := Lib.hid hb
          have HD := Lib.hid hd
          clear t0 t1 hdue hb hd
          go_region_with (first | (go_at_call 7; refine (due_no _ _ _ _ D0.out.2.1 HD.out).mono ?_; rintro e w' ⟨rfl, rfl⟩) | (go_at_call 8; refine (rdue_no _ _ _ _ D1.out.2.1 hn0 HD.out).mono ?_; rintro e w' ⟨rfl, rfl⟩) | (go_at_call 9; refine (next_any _ _ _ D0.out.2.1).mono ?_; rintro e w' ⟨rfl, rfl⟩))
          all_goals
            go_wp2
            go_roundw
            case rel => exact ⟨k + 1, nx, by omega, by omega, by go_num, by omega, by omega, D0.out, D1.out, HB.out.drew⟩
            case measure => simp [intOf]; omega
    · clear t0 t1
      have HB := Lib.hid hb
      clear hb
      go_wp2_with (first | (go_at_call 7; refine (due_nil _ _).mono ?_; rintro e w' ⟨rfl, rfl⟩) | (go_at_call 9; refine (next_nil _).mono ?_; rintro e w' ⟨rfl, rfl⟩) | (go_at_call 10; refine (awake_any _).mono ?_; rintro e w' ⟨rfl, hb'⟩))
      go_ret
      exact ⟨rfl, HB.out.trans (hb'.mono HB.out.size)⟩
end Go.Proofs.Ytjdcgbiaekajeaa
