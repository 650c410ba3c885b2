/-
  WindowCounts, walked: the law returns true for every base and every n, and writes nothing that was there. No condition.
-/
import Derived.Test.YtmpiildallppaaaShiftWalk
namespace Go.Proofs.Ytmpiildallppaaa
open Go.ChangeShapes Go.WideShapes Go.ChangeAt Go.RowKit
set_option linter.unusedVariables false
/-! the plain law -/
def Sn (n : Nat) : Nat := 2 ^ min n 64 - 1
theorem Sn_step : ∀ i, i < 200 → ((Sn i * 2 ^ 1 % 18446744073709551616) ||| 1) = Sn (i + 1) := by decide +kernel
theorem Sn_cnt : ∀ i, i < 200 → Pop.cnt 64 (Sn i) = min i 64 := by decide +kernel
theorem Sn_bit : ∀ n, n < 200 → ∀ d, d < 64 → d < n → Sn n &&& 2 ^ d ≠ 0 := by decide +kernel
theorem Sn_lt (n : Nat) : Sn n < 18446744073709551616 := by
  unfold Sn
  have : 2 ^ min n 64 ≤ 2 ^ 64 := Nat.pow_le_pow_right (by decide) (Nat.min_le_right _ _)
  omega
def lastN (B : Int) (i : Nat) : Int := if i = 0 then 0 else (B + i - 1) % 65536
theorem hr_next (B : Int) (i : Nat) (hi : i < 200) : hr (decide (0 < i)) (lastN B i) (Sn i) ((B + i) % 65536) = (0, true, lastN B (i + 1), Sn (i + 1)) := by
  have hm : ¬ mayB ((B + i) % 65536) = false := by simp [mayB]; omega
  have e1 : lastN B (i + 1) = (B + i) % 65536 := by
    unfold lastN; rw [if_neg (by omega)]
    congr 1; omega
  rw [e1]
  by_cases h0 : i = 0
  · subst h0
    unfold hr
    rw [if_neg hm, if_pos (by decide)]
    rfl
  · have hd : decide (0 < i) = true := by simp; omega
    have e2 : lastN B i = (B + i - 1) % 65536 := by unfold lastN; rw [if_neg h0]
    rw [hd, e2]
    have e3 : df ((B + i - 1) % 65536) ((B + i) % 65536) = 1 := by
      rw [df_in (by omega) (by omega), show ((B + i) % 65536 - (B + i - 1) % 65536) % 65536 = 1 by omega]
      rfl
    unfold hr
    rw [if_neg hm, if_neg (by decide), e3, if_neg (by decide), if_pos (by decide), show (1 : Int).toNat = 1 from rfl, Sn_step i hi]
theorem has_n (B : Int) (n i : Nat) (hn : n < 200) (hi : i < n) : hasB (decide (0 < n)) (lastN B n) (Sn n) ((B + i) % 65536) = decide ((n : Int) - 64 ≤ (i : Int)) := by
  have hm : mayB ((B + i) % 65536) = true := by simp [mayB]; omega
  have hd : decide (0 < n) = true := by simp; omega
  have e2 : lastN B n = (B + n - 1) % 65536 := by unfold lastN; rw [if_neg (by omega)]
  have e3 : -df ((B + n - 1) % 65536) ((B + i) % 65536) = (n : Int) - 1 - i := by
    rw [df_in (by omega) (by omega)]
    split <;> omega
  unfold hasB
  rw [hd, hm, e2]
  unfold beh
  rw [e3]
  by_cases hc : (n : Int) - 1 - i < 64
  · rw [if_pos ⟨by omega, hc⟩]
    have := Sn_bit n hn ((n : Int) - 1 - i).toNat (by omega) (by omega)
    rw [decide_eq_true this, decide_eq_true (show (n : Int) - 64 ≤ (i : Int) by omega)]; rfl
  · rw [if_neg (by omega), Nat.and_zero, decide_eq_false (show ¬ (n : Int) - 64 ≤ (i : Int) by omega)]; rfl
theorem count_in (a : Int) : ∃ n : Nat, n < 200 ∧ wrap64 ((IntKind.u64.wrap a).tmod 200) = (n : Int) := by
  rw [IntKind.wrap_u64, Int.tmod_eq_emod_of_nonneg (by omega)]
  refine ⟨(a % 18446744073709551616 % 200).toNat, by omega, ?_⟩
  unfold wrap64
  omega
theorem Wm.quiet {w w' : World} {b : Nat} {any : Bool} {last : Int} {seen : Nat} (h : Wm w b any last seen) (hq : Quiet w w') : Wm w' b any last seen := by
  obtain ⟨n, rfl⟩ := hq
  exact h
/-! the walk -/
set_option maxRecDepth 100000 in
set_option maxHeartbeats 2000000 in
theorem counts_walk (a0 a1 : Int) (w : World) : Calls Try.prog 7 #[.int .i64 a0, .int .i64 a1] w fun e w' => e = .returned (.bool true) ∧ Below w.heap.size w w' := by
  obtain ⟨N, hN, hn⟩ := count_in a1
  have HN := Lib.hid hn
  clear hn
  have e1 := and16 a0
  have y1 : 0 ≤ a0 % 65536 := by omega
  have y2 : a0 % 65536 ≤ 65535 := by omega
  generalize a0 % 65536 = B at *
  have W0 := Lib.hid (Wm.made w)
  go_enter Try.func7, Try.ntmps7
  go_wp2_with (go_at_call 8; refine (new_any _).mono ?_; rintro e w' ⟨rfl, rfl⟩)
  rw [HN.out]
  go_loopw [18] (fun i wr => ∃ k : Nat, k ≤ N ∧ i = .int .i64 k ∧ Wm wr w.heap.size (decide (0 < k)) (lastN B k) (Sn k) ∧ Below w.heap.size w wr) (fun i _ => N - (intOf i).toNat)
  case atStart => exact ⟨0, by omega, rfl, W0.out, by go_grown⟩
  case round =>
    clear W0
    obtain ⟨k, hk, rfl, hw, hb⟩ := hrel
    have HW := Lib.hid hw
    have HB := Lib.hid hb
    clear hw hb
    by_cases hlt : k < N
    · have HH := Lib.hid (hr_next B k (by omega))
      have HL : Hid (Sn k < 18446744073709551616) := Sn_lt k
      have HT := Lib.hid (show decide (0 < k + 1) = true by simp)
      go_wp2_with (go_at_call 9; refine (hear_at HH HL HW.out).mono ?_; rintro e w' ⟨rfl, hw', ht'⟩; have HW' := Lib.hid hw'; have HB' := Lib.hid (ht'.below HB.out (Nat.le_refl _)); clear hw' ht')
      go_roundw
      case rel => exact ⟨k + 1, by omega, by go_num, by rw [HT.out]; exact HW'.out, HB'.out⟩
      case measure => simp [intOf]; omega
    · obtain rfl : k = N := by omega
      clear hlt hk
      have HL : Hid (Sn k < 18446744073709551616) := Sn_lt k
      go_wp2
      go_loopw [30] (fun i wr => ∃ j : Nat, j ≤ k ∧ i = .int .i64 j ∧ Wm wr w.heap.size (decide (0 < k)) (lastN B k) (Sn k) ∧ Below w.heap.size w wr) (fun i _ => k - (intOf i).toNat)
      case atStart => exact ⟨0, by omega, rfl, HW.out, HB.out⟩
      case round =>
        clear HW HB
        obtain ⟨j, hj, rfl, hw, hb⟩ := hrel
        have HW := Lib.hid hw
        have HB := Lib.hid hb
        clear hw hb
        by_cases hlt : j < k
        · have HH := Lib.hid (has_n B k j hN hlt)
          have HC := Lib.hid (has_any w.heap.size (decide (0 < k)) (lastN B k) (Sn k) ((B + j) % 65536))
          rcases Bool.eq_false_or_eq_true (decide ((k : Int) - 64 ≤ (j : Int))) with hd | hd
          all_goals
            have HD := Lib.hid (HH.out.trans hd)
            go_wp2_with (go_at_call 14; refine (HC.out _ HW.out HL.out).mono ?_; rintro e w' ⟨rfl, hq⟩; have HW' := Lib.hid (HW.out.quiet hq); have HB' := Lib.hid (hq.below HB.out); clear hq; rw [HD.out])
            go_roundw
            case rel => exact ⟨j + 1, by omega, by go_num, HW'.out, HB'.out⟩
            case measure => simp [intOf]; omega
        · have hmin : min (k : Int) 64 = ((min k 64 : Nat) : Int) := by omega
          have HCt := Lib.hid (count_any w.heap.size (decide (0 < k)) (lastN B k) (Sn k))
          have HCn := Lib.hid (Sn_cnt k hN)
          by_cases h0 : 0 < k
          · have hd : decide (0 < k) = true := by simp; omega
            have HD := Lib.hid hd
            have HLa := Lib.hid (show la (decide (0 < k)) (lastN B k) = (B + k - 1) % 65536 by rw [hd]; show lastN B k = _; unfold lastN; rw [if_neg (by omega)])
            clear hmin hd
            rcases Nat.lt_or_ge 64 k with h6 | h6
            · have HM := Lib.hid (show Pop.cnt 64 (Sn k) = 64 by rw [HCn.out]; omega)
              clear HCn
              go_wp2_with fail
              refine (last_any _ _ _ _ _ HW.out).mono ?_
              rintro e w' ⟨rfl, rfl⟩
              rw [HLa.out, HD.out]
              go_wp2_with fail
              refine (HCt.out _ HW.out HL.out).mono ?_
              rintro e w' ⟨rfl, rfl⟩
              rw [HM.out]
              go_wp2_with fail
              refine (awake_any _).mono ?_
              rintro e w' ⟨rfl, hb'⟩
              have HB' := Lib.hid hb'
              clear hb'
              go_wp2
              go_ret
              exact ⟨rfl, HB.out.trans (HB'.out.mono HB.out.size)⟩
            · have HM := Lib.hid (show Pop.cnt 64 (Sn k) = k by rw [HCn.out]; omega)
              clear HCn
              go_wp2_with fail
              refine (last_any _ _ _ _ _ HW.out).mono ?_
              rintro e w' ⟨rfl, rfl⟩
              rw [HLa.out, HD.out]
              go_wp2_with fail
              refine (HCt.out _ HW.out HL.out).mono ?_
              rintro e w' ⟨rfl, rfl⟩
              rw [HM.out]
              go_wp2_with fail
              refine (awake_any _).mono ?_
              rintro e w' ⟨rfl, hb'⟩
              have HB' := Lib.hid hb'
              clear hb'
              go_wp2
              go_ret
              exact ⟨rfl, HB.out.trans (HB'.out.mono HB.out.size)⟩
          · have hz : k = 0 := by omega
            subst hz
            have HD := Lib.hid (show decide (0 < 0) = false from rfl)
            have HLa := Lib.hid (show la (decide (0 < 0)) (lastN B 0) = 0 from rfl)
            have HM := Lib.hid (show Pop.cnt 64 (Sn 0) = 0 by rw [HCn.out]; rfl)
            clear hmin HCn h0 hlt hj
            go_wp2_with fail
            refine (last_any _ _ _ _ _ HW.out).mono ?_
            rintro e w' ⟨rfl, rfl⟩
            rw [HLa.out, HD.out]
            go_wp2_with fail
            refine (HCt.out _ HW.out HL.out).mono ?_
            rintro e w' ⟨rfl, rfl⟩
            rw [HM.out]
            go_wp2_with fail
            refine (awake_any _).mono ?_
            rintro e w' ⟨rfl, hb'⟩
            have HB' := Lib.hid hb'
            clear hb'
            go_wp2
            go_ret
            exact ⟨rfl, HB.out.trans (HB'.out.mono HB.out.size)⟩
end Go.Proofs.Ytmpiildallppaaa
