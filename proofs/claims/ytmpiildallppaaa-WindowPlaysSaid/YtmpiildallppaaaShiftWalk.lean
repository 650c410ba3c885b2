/-
  WindowShift, walked: the law returns true for every slice of numbers and every shift, and writes nothing that was there. Condition: the slice reads as a row of integers.
-/
import Derived.Test.YtmpiildallppaaaNilWalk
namespace Go.Proofs.Ytmpiildallppaaa
open Go.ChangeShapes Go.WideShapes Go.ChangeAt Go.RowKit
set_option linter.unusedVariables false
def IsRow (k : IntKind) (w : World) (a : Option Addr) (len cap : Nat) (zs : List Int) : Prop :=
  (a = none ∧ len = 0 ∧ cap = 0 ∧ zs = []) ∨
  ∃ x, a = some x ∧ len ≤ cap ∧ cap ≤ maxLen ∧ zs.length = cap ∧ (∀ i, i < zs.length → w.cell? (x.add i) = some (.int k (zs.getD i 0))) ∧ ∀ n ∈ zs, (Lit.int k n).wf = true
theorem IsRow.at {k : IntKind} {w : World} {a : Option Addr} {len cap : Nat} {zs : List Int} (h : IsRow k w a len cap zs) :
    len ≤ 9223372036854775807 ∧ ∀ j, j < len → ∃ b off, a = some ⟨b, off, none⟩ ∧ w.cell? ⟨b, off + j, none⟩ = some (.int k (zs.getD j 0)) := by
  rcases h with ⟨rfl, rfl, rfl, rfl⟩ | ⟨x, rfl, hl, hm, hz, hcell, hwz⟩
  · exact ⟨by omega, fun j hj => by omega⟩
  · unfold maxLen at hm
    refine ⟨by omega, fun j hj => ?_⟩
    obtain ⟨b, off, rfl, hcl⟩ := ints_at hcell (by omega)
    exact ⟨b, off, rfl, hcl j (by omega)⟩
/-! the plain law -/
theorem df_in {a b : Int} (ha : 0 ≤ a ∧ a ≤ 65535) (hb : 0 ≤ b ∧ b ≤ 65535) : df a b = if 32768 < (b - a) % 65536 then (b - a) % 65536 - 65536 else (b - a) % 65536 := by
  unfold df; rw [if_pos ⟨ha, hb⟩]
theorem df_shift {a b y : Int} (ha : 0 ≤ a ∧ a ≤ 65535) (hb : 0 ≤ b ∧ b ≤ 65535) : df ((a + y) % 65536) ((b + y) % 65536) = df a b := by
  rw [df_in ha hb, df_in (by omega) (by omega)]
  rw [show ((b + y) % 65536 - (a + y) % 65536) % 65536 = (b - a) % 65536 by omega]
theorem or_lt {a b : Nat} (ha : a < 18446744073709551616) (hb : b < 18446744073709551616) : a ||| b < 18446744073709551616 := Nat.or_lt_two_pow (n := 64) ha hb
theorem hr_lt {any : Bool} {last seq : Int} {seen : Nat} (hs : seen < 18446744073709551616) : (hr any last seen seq).2.2.2 < 18446744073709551616 := by
  unfold hr
  repeat' split
  all_goals first | exact hs | (show (1 : Nat) < _; decide) | exact or_lt (by omega) (by decide) | exact or_lt hs (beh_lt _ _)
theorem hr_shift (any : Bool) (la lb n by' : Int) (seen : Nat) (hs : seen < 18446744073709551616) (hn : 0 ≤ n ∧ n ≤ 65535) (hr0 : any = true → (0 ≤ la ∧ la ≤ 65535) ∧ lb = (la + by') % 65536) :
    ∃ c any' la' lb' seen', hr any la seen n = (c, any', la', seen') ∧ hr any lb seen ((n + by') % 65536) = (c, any', lb', seen') ∧ seen' < 18446744073709551616 ∧ (any' = true → (0 ≤ la' ∧ la' ≤ 65535) ∧ lb' = (la' + by') % 65536) := by
  have hm1 : ¬ mayB n = false := by simp [mayB, hn]
  have hm2 : ¬ mayB ((n + by') % 65536) = false := by simp [mayB]; omega
  have hl := hr_lt (any := any) (last := la) (seq := n) hs
  cases any with
  | false =>
    refine ⟨0, true, n, (n + by') % 65536, 1, ?_, ?_, by decide, fun _ => ⟨hn, rfl⟩⟩
    · unfold hr; rw [if_neg hm1, if_pos rfl]
    · unfold hr; rw [if_neg hm2, if_pos rfl]
  | true =>
    obtain ⟨hla, rfl⟩ := hr0 rfl
    have e := df_shift (y := by') hla hn
    have eb : beh ((la + by') % 65536) ((n + by') % 65536) = beh la n := by unfold beh; rw [e]
    have ha : hr true la seen n = if df la n = 32768 then (9, true, la, seen) else if 0 < df la n then (0, true, n, (seen * 2 ^ (df la n).toNat % 18446744073709551616) ||| 1) else if beh la n = 0 ∨ seen &&& beh la n ≠ 0 then (9, true, la, seen) else (0, true, la, seen ||| beh la n) := by
      unfold hr; rw [if_neg hm1, if_neg (by decide)]
    have hb : hr true ((la + by') % 65536) seen ((n + by') % 65536) = if df la n = 32768 then (9, true, (la + by') % 65536, seen) else if 0 < df la n then (0, true, (n + by') % 65536, (seen * 2 ^ (df la n).toNat % 18446744073709551616) ||| 1) else if beh la n = 0 ∨ seen &&& beh la n ≠ 0 then (9, true, (la + by') % 65536, seen) else (0, true, (la + by') % 65536, seen ||| beh la n) := by
      unfold hr; rw [if_neg hm2, if_neg (by decide), e, eb]
    rw [ha] at hl
    rw [ha, hb]
    by_cases c1 : df la n = 32768
    · rw [if_pos c1, if_pos c1]
      exact ⟨_, _, _, _, _, rfl, rfl, hs, fun _ => ⟨hla, rfl⟩⟩
    · rw [if_neg c1, if_neg c1]
      rw [if_neg c1] at hl
      by_cases c2 : 0 < df la n
      · rw [if_pos c2, if_pos c2]
        rw [if_pos c2] at hl
        exact ⟨_, _, _, _, _, rfl, rfl, hl, fun _ => ⟨hn, rfl⟩⟩
      · rw [if_neg c2, if_neg c2]
        rw [if_neg c2] at hl
        by_cases c3 : beh la n = 0 ∨ seen &&& beh la n ≠ 0
        · rw [if_pos c3, if_pos c3]
          exact ⟨_, _, _, _, _, rfl, rfl, hs, fun _ => ⟨hla, rfl⟩⟩
        · rw [if_neg c3, if_neg c3]
          rw [if_neg c3] at hl
          exact ⟨_, _, _, _, _, rfl, rfl, hl, fun _ => ⟨hla, rfl⟩⟩
/-! the walk -/
/-- both windows, as the loop keeps them -/
def Both (w : World) (g : Nat) (by' : Int) : Prop := ∃ any la lb seen, Wm w g any la seen ∧ Wm w (g + 1) any lb seen ∧ seen < 18446744073709551616 ∧ (any = true → (0 ≤ la ∧ la ≤ 65535) ∧ lb = (la + by') % 65536)
set_option maxRecDepth 100000 in
set_option maxHeartbeats 2000000 in
theorem shift_walk (a0 : Option Addr) (len0 cap0 : Nat) (z0 : List Int) (a1 : Int) (w : World) (w0 : IsRow .i64 w a0 len0 cap0 z0) :
    Calls Try.prog 4 #[.slice a0 len0 cap0, .int .i64 a1] w fun e w' => e = .returned (.bool true) ∧ Below w.heap.size w w' := by
  obtain ⟨hm, hrow⟩ := w0.at
  have HR := Lib.hid hrow
  clear hrow w0
  have e1 := and16 a1
  have y1 : 0 ≤ a1 % 65536 := by omega
  have y2 : a1 % 65536 ≤ 65535 := by omega
  generalize a1 % 65536 = by' at *
  have W2 := ((w.alloc (.cells #[.bool false, .int .i64 0, .int .u64 0] 41)).alloc (.cells #[.bool false, .int .i64 0, .int .u64 0] 41))
  have B0 : Hid (Both ((w.alloc (.cells #[.bool false, .int .i64 0, .int .u64 0] 41)).alloc (.cells #[.bool false, .int .i64 0, .int .u64 0] 41)) w.heap.size by') := by
    refine ⟨false, 0, 0, 0, ?_, ?_, by decide, fun h => by cases h⟩
    · exact (Wm.made w).keep (B := w.heap.size + 1) ((Below.refl _ _).alloc (by simp) _) (by omega)
    · have := Wm.made (w.alloc (.cells #[.bool false, .int .i64 0, .int .u64 0] 41))
      simpa using this
  clear W2
  go_enter Try.func4, Try.ntmps4
  go_wp2_with (go_at_call 8; refine (new_any _).mono ?_; rintro e w' ⟨rfl, rfl⟩)
  go_loopw [7] (fun i wr => ∃ k : Nat, k ≤ len0 ∧ k ≤ 200 ∧ i = .int .i64 k ∧ Both wr w.heap.size by' ∧ Below w.heap.size w wr) (fun i _ => len0 - (intOf i).toNat)
  case atStart => exact ⟨0, by omega, by omega, rfl, B0.out, by go_grown⟩
  case round =>
    clear B0
    obtain ⟨k, hk, hk2, rfl, hbo, hb⟩ := hrel
    have HB := Lib.hid hb
    have HO := Lib.hid hbo
    clear hbo
    by_cases hlt : k < len0 ∧ k < 200
    · obtain ⟨hl1, hl2⟩ := hlt
      obtain ⟨b, off, rfl, hc0⟩ := HR.out k hl1
      have hc : wr.cell? ⟨b, off + k, none⟩ = some (.int .i64 (z0.getD k 0)) := (hb.cell (World.block_lt_of_cell? _ _ hc0)).trans hc0
      clear hc0 hb
      generalize z0.getD k 0 = z at *
      have e2 := and16 z
      have n1 : 0 ≤ z % 65536 := by omega
      have n2 : z % 65536 ≤ 65535 := by omega
      generalize z % 65536 = n at *
      obtain ⟨any, la, lb, seen, wa, wb, hs, hrel⟩ := HO.out
      obtain ⟨c, any', la', lb', seen', hA, hB, hs', hrel'⟩ := hr_shift any la lb n by' seen hs ⟨n1, n2⟩ hrel
      have HA := Lib.hid hA
      have HBb := Lib.hid hB
      have HS := Lib.hid hs
      have HS' := Lib.hid hs'
      have HR' := Lib.hid hrel'
      have WA := Lib.hid wa
      have WB := Lib.hid wb
      clear hA hB hs hs' hrel hrel' wa wb HO
      go_wp2_with fail
      refine (hear_at HA HS WA.out).mono ?_
      rintro e w1 ⟨rfl, k1, t1⟩
      have WA1 := Lib.hid k1
      have WB1 := Lib.hid (WB.out.other t1 (by omega))
      have HB1 := Lib.hid (t1.below HB.out (Nat.le_refl _))
      clear k1 t1
      go_wp2_with fail
      refine (hear_at HBb HS WB1.out).mono ?_
      rintro e w2 ⟨rfl, k2, t2⟩
      have WB2 := Lib.hid k2
      have WA2 := Lib.hid (WA1.out.other t2 (by omega))
      have HB2 := Lib.hid (t2.below HB1.out (by omega))
      clear k2 t2
      go_wp2_with fail
      refine (count_any _ _ _ _ _ WA2.out HS'.out).mono ?_
      rintro e w3 ⟨rfl, rfl⟩
      go_wp2_with fail
      refine (count_any _ _ _ _ _ WB2.out HS'.out).mono ?_
      rintro e w3 ⟨rfl, rfl⟩
      go_wp2
      go_roundw
      case rel => exact ⟨k + 1, by omega, by omega, by go_num, ⟨any', la', lb', seen', WA2.out, WB2.out, HS'.out, HR'.out⟩, HB2.out⟩
      case measure => simp [intOf]; omega
    · have hex : (k < len0 ∧ ¬ k < 200) ∨ ¬ k < len0 := by omega
      clear hlt hb HO
      rcases hex with ⟨x1, x2⟩ | x1
      all_goals
        go_wp2_with (go_at_call 10; refine (awake_any _).mono ?_; rintro e w' ⟨rfl, hb'⟩)
        go_ret
        exact ⟨rfl, HB.out.trans (hb'.mono HB.out.size)⟩
end Go.Proofs.Ytmpiildallppaaa
