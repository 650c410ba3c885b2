/-
  The plain law of WindowOnce: what a window answers to numbers that lie within a quarter of the number space. No condition.
-/
import Derived.Test.YtmpiildallppaaaShiftWalk
namespace Go.Proofs.Ytmpiildallppaaa
open Go.RowKit
set_option linter.unusedVariables false
/-- what the window knows of the numbers that were heard (hd), the greatest of which is m (-1: none) -/
structure Inv (B : Int) (hd : Int → Bool) (m : Int) (any : Bool) (last : Int) (seen : Nat) : Prop where
  lo : -1 ≤ m
  hi : m ≤ 16383
  any : any = decide (0 ≤ m)
  none : m < 0 → ∀ x, hd x = false
  lt : seen < 18446744073709551616
  last : 0 ≤ m → last = (B + m) % 65536
  top : 0 ≤ m → hd m = true
  above : ∀ x, m < x → hd x = false
  neg : ∀ x, x < 0 → hd x = false
  bits : 0 ≤ m → ∀ d : Nat, d < 64 → seen.testBit d = hd (m - d)
def freshB (hd : Int → Bool) (m at' : Int) : Bool := !hd at' && (decide (m < 0) || decide (m - 64 < at'))
def codeOf (f : Bool) : Int := if f then 0 else 9
def hdNew (hd : Int → Bool) (at' : Int) (f : Bool) : Int → Bool := if f then fun x => decide (x = at') || hd x else hd
def mNew (m at' : Int) (f : Bool) : Int := if f then max m at' else m
theorem testBit_one (d : Nat) : (1 : Nat).testBit d = decide (d = 0) := by
  cases d with
  | zero => rfl
  | succ n => simp [Nat.testBit_succ]
theorem and_pow_ne {s d : Nat} : s &&& 2 ^ d ≠ 0 ↔ s.testBit d = true := by
  constructor
  · intro h
    by_cases e : s.testBit d = true
    · exact e
    · exfalso; apply h
      apply Nat.eq_of_testBit_eq
      intro i
      rw [Nat.testBit_and, Nat.testBit_two_pow, Nat.zero_testBit]
      by_cases hi : d = i
      · subst hi; simp [e]
      · simp [hi]
  · intro h e
    have := congrArg (fun n => n.testBit d) e
    simp [Nat.testBit_and, Nat.testBit_two_pow_self, h] at this
theorem hr_once {B : Int} {hd : Int → Bool} {m : Int} {any : Bool} {last : Int} {seen : Nat} (hB : 0 ≤ B ∧ B ≤ 65535) (h : Inv B hd m any last seen) (at' : Int) (ha : 0 ≤ at' ∧ at' ≤ 16383) :
    ∃ any' last' seen', hr any last seen ((B + at') % 65536) = (codeOf (freshB hd m at'), any', last', seen') ∧ Inv B (hdNew hd at' (freshB hd m at')) (mNew m at' (freshB hd m at')) any' last' seen' := by
  have hm : ¬ mayB ((B + at') % 65536) = false := by simp [mayB]; omega
  obtain ⟨lo, hi, hany, hnone, hlt, hlast, htop, habove, hneg, hbits⟩ := h
  by_cases hm0 : m < 0
  · -- the first number
    have e1 : any = false := by rw [hany]; simp; omega
    have ef : freshB hd m at' = true := by unfold freshB; rw [hnone hm0 at']; simp [hm0]
    rw [ef]
    refine ⟨true, (B + at') % 65536, 1, ?_, ?_⟩
    · unfold hr; rw [if_neg hm, if_pos e1]; rfl
    · have emax : max m at' = at' := by omega
      refine ⟨?_, ?_, ?_, ?_, by decide, ?_, ?_, ?_, ?_, ?_⟩ <;> simp only [mNew, hdNew, if_true, emax]
      · omega
      · omega
      · simp; omega
      · intro h; omega
      · intro _; trivial
      · intro _; simp
      · intro x hx; rw [hnone hm0 x]; simp; omega
      · intro x hx; rw [hnone hm0 x]; simp; omega
      · intro _ d hd'
        rw [testBit_one, hnone hm0, Bool.or_false]
        rw [Bool.eq_iff_iff]; simp; omega
  · have e1 : ¬ any = false := by rw [hany]; simp; omega
    have el := hlast (by omega)
    have hdf : df last ((B + at') % 65536) = at' - m := by
      rw [el, df_in (by omega) (by omega)]
      split <;> omega
    have eany : any = true := by cases any; exact absurd rfl e1; rfl
    by_cases h1 : m < at'
    · -- a greater one
      have ef : freshB hd m at' = true := by
        unfold freshB; rw [habove at' h1]
        simp; omega
      rw [ef]
      refine ⟨any, (B + at') % 65536, (seen * 2 ^ (at' - m).toNat % 18446744073709551616) ||| 1, ?_, ?_⟩
      · unfold hr; rw [if_neg hm, if_neg e1, hdf, if_neg (by omega), if_pos (by omega)]; rfl
      · have emax : max m at' = at' := by omega
        refine ⟨?_, ?_, ?_, ?_, or_lt (by omega) (by decide), ?_, ?_, ?_, ?_, ?_⟩ <;> simp only [mNew, hdNew, if_true, emax]
        · omega
        · omega
        · rw [eany]; simp; omega
        · intro h; omega
        · intro _; trivial
        · intro _; simp
        · intro x hx; rw [habove x (by omega)]; simp; omega
        · intro x hx; rw [hneg x hx]; simp; omega
        · intro _ d hd'
          rw [Nat.testBit_or, testBit_one, show (18446744073709551616 : Nat) = 2 ^ 64 by decide, Nat.testBit_mod_two_pow, Nat.testBit_mul_two_pow]
          by_cases hd0 : d = 0
          · subst hd0; simp
          · have hne : ¬ at' - (d : Int) = at' := by omega
            by_cases hge : (at' - m).toNat ≤ d
            · have := hbits (by omega) (d - (at' - m).toNat) (by omega)
              rw [this]
              rw [show m - ((d - (at' - m).toNat : Nat) : Int) = at' - (d : Int) by omega]
              simp [hd', hge, hd0, hne]
            · have : hd (at' - (d : Int)) = false := habove _ (by omega)
              rw [this]
              simp [hge, hd0, hne]
    · -- not greater
      have hb : beh last ((B + at') % 65536) = if m - at' < 64 then 2 ^ (m - at').toNat else 0 := by
        unfold beh
        rw [hdf, show -(at' - m) = m - at' by omega]
        by_cases hc : m - at' < 64
        · rw [if_pos ⟨by omega, hc⟩, if_pos hc]
        · rw [if_neg (by omega), if_neg hc]
      by_cases hc : m - at' < 64
      · rw [if_pos hc] at hb
        have ht := hbits (by omega) (m - at').toNat (by omega)
        rw [show m - (((m - at').toNat : Nat) : Int) = at' by omega] at ht
        by_cases hh : hd at' = true
        · have ef : freshB hd m at' = false := by unfold freshB; rw [hh]; rfl
          rw [ef]
          refine ⟨any, last, seen, ?_, ?_⟩
          · unfold hr
            rw [if_neg hm, if_neg e1, hdf, if_neg (by omega), if_neg (by omega), hb, if_pos (.inr (and_pow_ne.2 (by rw [ht, hh])))]
            rfl
          · exact ⟨lo, hi, hany, hnone, hlt, hlast, htop, habove, hneg, hbits⟩
        · have hh' : hd at' = false := by simpa using hh
          have ef : freshB hd m at' = true := by unfold freshB; rw [hh']; simp; omega
          have hlt' : at' < m := by
            rcases Int.lt_or_eq_of_le (show at' ≤ m by omega) with h | h
            · exact h
            · rw [h] at hh'; rw [htop (by omega)] at hh'; cases hh'
          rw [ef]
          refine ⟨any, last, seen ||| 2 ^ (m - at').toNat, ?_, ?_⟩
          · unfold hr
            rw [if_neg hm, if_neg e1, hdf, if_neg (by omega), if_neg (by omega), hb, if_neg]
            · rfl
            · intro h
              rcases h with h | h
              · have := Nat.two_pow_pos (m - at').toNat; omega
              · rw [and_pow_ne, ht, hh'] at h; cases h
          · have emax : max m at' = m := by omega
            have hp : 2 ^ (m - at').toNat < 18446744073709551616 := by
              have : 2 ^ (m - at').toNat ≤ 2 ^ 63 := Nat.pow_le_pow_right (by decide) (by omega)
              omega
            refine ⟨?_, ?_, ?_, ?_, or_lt hlt hp, ?_, ?_, ?_, ?_, ?_⟩ <;> simp only [mNew, hdNew, if_true, emax]
            · exact lo
            · exact hi
            · exact hany
            · intro h; omega
            · exact hlast
            · intro h; rw [htop h]; simp
            · intro x hx; rw [habove x hx]; simp; omega
            · intro x hx; rw [hneg x hx]; simp; omega
            · intro h d hd'
              rw [Nat.testBit_or, Nat.testBit_two_pow, hbits h d hd']
              have : decide ((m - at').toNat = d) = decide (m - (d : Int) = at') := by
                rw [decide_eq_decide]; omega
              rw [this, Bool.or_comm]
      · rw [if_neg hc] at hb
        have ef : freshB hd m at' = false := by unfold freshB; simp; omega
        rw [ef]
        refine ⟨any, last, seen, ?_, ?_⟩
        · unfold hr
          rw [if_neg hm, if_neg e1, hdf, if_neg (by omega), if_neg (by omega), hb, if_pos (.inl rfl)]
          rfl
        · exact ⟨lo, hi, hany, hnone, hlt, hlast, htop, habove, hneg, hbits⟩
end Go.Proofs.Ytmpiildallppaaa
