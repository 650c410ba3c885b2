/-
  The contracts of package window: New, behind, Hear, Has, Last and Count, on a window in memory and on nil. Conditions: the cells of the window are known, its numbers are in range.
-/
import Derived.Test.YtmpiildallppaaaSerial
import Derived.Test.YtmpiildallppaaaOnes
import Derived.Laws.ShiftsVarLaws
import Derived.Laws.Shifts
import Derived.Deep.QuietTactic
import Derived.BigQuiet
namespace Go.Proofs.Ytmpiildallppaaa
open Go.ChangeShapes Go.WideShapes Go.ChangeAt Go.RowKit
set_option linter.unusedVariables false
/-- the bit of a number that is so many steps behind the last one; 0: none -/
def beh (last seq : Int) : Nat := if 0 ≤ -df last seq ∧ -df last seq < 64 then 2 ^ (-df last seq).toNat else 0
theorem beh_lt (last seq : Int) : beh last seq < 18446744073709551616 := by
  unfold beh
  split
  · rename_i h
    have : 2 ^ (-df last seq).toNat ≤ 2 ^ 63 := Nat.pow_le_pow_right (by decide) (by omega)
    omega
  · decide
/-- only block b may have changed -/
structure Touch (b : Nat) (w w' : World) : Prop where
  os : w'.os = w.os
  tape : w'.tape = w.tape
  output : w'.output = w.output
  size : w'.heap.size = w.heap.size
  block : ∀ k, k ≠ b → w'.heap[k]? = w.heap[k]?
theorem Touch.refl (b : Nat) (w : World) : Touch b w w := ⟨rfl, rfl, rfl, rfl, fun _ _ => rfl⟩
theorem Touch.trans {b : Nat} {u v w : World} (h : Touch b u v) (k : Touch b v w) : Touch b u w :=
  ⟨k.os.trans h.os, k.tape.trans h.tape, k.output.trans h.output, k.size.trans h.size, fun n hn => (k.block n hn).trans (h.block n hn)⟩
theorem Touch.set {b : Nat} {u w : World} (h : Touch b u w) (i : Nat) (v : Value) : Touch b u (w.setCell ⟨b, i, none⟩ v) :=
  h.trans ⟨rfl, rfl, rfl, World.size_setCell .., fun k hk => Below.heap_setCell w ⟨b, i, none⟩ v k hk⟩
theorem Touch.drewN {b : Nat} {u w : World} (h : Touch b u w) (n : Nat) : Touch b u (w.drewN n) := h.trans ⟨rfl, rfl, rfl, rfl, fun _ _ => rfl⟩
theorem Touch.drew {b : Nat} {u w : World} (h : Touch b u w) : Touch b u w.drew := h.trans ⟨rfl, rfl, rfl, rfl, fun _ _ => rfl⟩
theorem Touch.below {B b : Nat} {a w w' : World} (h : Touch b w w') (hb : Below B a w) (hB : B ≤ b) : Below B a w' :=
  hb.trans ⟨h.os, h.tape, h.output, Nat.le_of_eq h.size.symm, fun k hk => h.block k (by omega)⟩
theorem Touch.cell {b : Nat} {w w' : World} (h : Touch b w w') {p : Addr} (hp : p.block ≠ b) : w'.cell? p = w.cell? p := World.cell?_of_block (w := w) (h.block p.block hp)
theorem Touch.frozen {b : Nat} {w w' : World} (h : Touch b w w') {p : Addr} (hp : p.block ≠ b) : w'.frozen? p = w.frozen? p := World.frozen?_of_block (w := w) (h.block p.block hp)
/-- a window in memory -/
def Wm (w : World) (b : Nat) (any : Bool) (last : Int) (seen : Nat) : Prop :=
  w.cell? ⟨b, 0, none⟩ = some (.bool any) ∧ w.cell? ⟨b, 1, none⟩ = some (.int .i64 last) ∧ w.cell? ⟨b, 2, none⟩ = some (.int .u64 seen) ∧
  w.frozen? ⟨b, 0, none⟩ = false ∧ w.frozen? ⟨b, 1, none⟩ = false ∧ w.frozen? ⟨b, 2, none⟩ = false
theorem Wm.other {w w' : World} {b c : Nat} {any : Bool} {last : Int} {seen : Nat} (h : Wm w c any last seen) (ht : Touch b w w') (hc : c ≠ b) : Wm w' c any last seen := by
  obtain ⟨h0, h1, h2, h3, h4, h5⟩ := h
  exact ⟨(ht.cell hc).trans h0, (ht.cell hc).trans h1, (ht.cell hc).trans h2, (ht.frozen hc).trans h3, (ht.frozen hc).trans h4, (ht.frozen hc).trans h5⟩
theorem Wm.keep {w w' : World} {B c : Nat} {any : Bool} {last : Int} {seen : Nat} (h : Wm w c any last seen) (hb : Below B w w') (hc : c < B) : Wm w' c any last seen := by
  obtain ⟨h0, h1, h2, h3, h4, h5⟩ := h
  exact ⟨(hb.cell hc).trans h0, (hb.cell hc).trans h1, (hb.cell hc).trans h2, (hb.frozen hc).trans h3, (hb.frozen hc).trans h4, (hb.frozen hc).trans h5⟩
theorem Wm.any {w : World} {b : Nat} {any : Bool} {last : Int} {seen : Nat} (h : Wm w b any last seen) (x : Bool) : Wm (w.setCell ⟨b, 0, none⟩ (.bool x)) b x last seen := by
  obtain ⟨h0, h1, h2, h3, h4, h5⟩ := h
  refine ⟨?_, ?_, ?_, ?_, ?_, ?_⟩ <;> simp [go_sem, *]
theorem Wm.last {w : World} {b : Nat} {any : Bool} {last : Int} {seen : Nat} (h : Wm w b any last seen) (x : Int) : Wm (w.setCell ⟨b, 1, none⟩ (.int .i64 x)) b any x seen := by
  obtain ⟨h0, h1, h2, h3, h4, h5⟩ := h
  refine ⟨?_, ?_, ?_, ?_, ?_, ?_⟩ <;> simp [go_sem, *]
theorem Wm.seen {w : World} {b : Nat} {any : Bool} {last : Int} {seen : Nat} (h : Wm w b any last seen) (x : Nat) : Wm (w.setCell ⟨b, 2, none⟩ (.int .u64 x)) b any last x := by
  obtain ⟨h0, h1, h2, h3, h4, h5⟩ := h
  refine ⟨?_, ?_, ?_, ?_, ?_, ?_⟩ <;> simp [go_sem, *]
theorem new_any (w : World) : Calls Try.prog 8 #[] w fun e w' => e = .returned (.pointer (some ⟨w.heap.size, 0, none⟩)) ∧ w' = w.alloc (.cells #[.bool false, .int .i64 0, .int .u64 0] 41) := by
  go_enter Try.func8, Try.ntmps8
  go_wp2
  go_ret
  exact ⟨rfl, rfl⟩
theorem Wm.made (w : World) : Wm (w.alloc (.cells #[.bool false, .int .i64 0, .int .u64 0] 41)) w.heap.size false 0 0 := by
  refine ⟨?_, ?_, ?_, ?_, ?_, ?_⟩ <;> simp [go_sem]
theorem wpow (n : Nat) (h : n ≤ 63) : IntKind.u64.wrap ((2 : Int) ^ n) = ((2 ^ n : Nat) : Int) := by
  have h1 : 2 ^ n ≤ 2 ^ 63 := Nat.pow_le_pow_right (by decide) h
  have h2 : ((2 : Int) ^ n) = ((2 ^ n : Nat) : Int) := by simp
  rw [h2]
  exact wr64 _ (by omega)
theorem behind_any (b : Nat) (last seq : Int) (w : World) (h1 : w.cell? ⟨b, 1, none⟩ = some (.int .i64 last)) :
    Calls Try.prog 18 #[.pointer (some ⟨b, 0, none⟩), .int .i64 seq] w fun e w' => e = .returned (.int .u64 (beh last seq : Nat)) ∧ w = w' := by
  have hd := df_bd last seq
  obtain ⟨d1, d2⟩ := hd
  by_cases hn : -df last seq < 0
  · have H := Lib.hid (show beh last seq = 0 by unfold beh; rw [if_neg (by omega)])
    go_enter Try.func18, Try.ntmps18
    go_wp2_with (go_at_call 17; refine (diff_any _ _ _).mono ?_; rintro e w' ⟨rfl, rfl⟩)
    go_ret
    rw [H.out]; exact ⟨rfl, rfl⟩
  · by_cases hm : -df last seq < 64
    · have H := Lib.hid (show beh last seq = 2 ^ (-df last seq).toNat by unfold beh; rw [if_pos ⟨by omega, hm⟩])
      go_enter Try.func18, Try.ntmps18
      go_wp2_with (go_at_call 17; refine (diff_any _ _ _).mono ?_; rintro e w' ⟨rfl, rfl⟩)
      go_ret
      rw [H.out]
      exact ⟨ret_u (wpow _ (by omega)), rfl⟩
    · have H := Lib.hid (show beh last seq = 0 by unfold beh; rw [if_neg (by omega)])
      go_enter Try.func18, Try.ntmps18
      go_wp2_with (go_at_call 17; refine (diff_any _ _ _).mono ?_; rintro e w' ⟨rfl, rfl⟩)
      go_ret
      rw [H.out]; exact ⟨rfl, rfl⟩
/-- what Hear answers, and leaves -/
def hr (any : Bool) (last : Int) (seen : Nat) (seq : Int) : Int × Bool × Int × Nat :=
  if mayB seq = false then (1, any, last, seen)
  else if any = false then (0, true, seq, 1)
  else if df last seq = 32768 then (9, any, last, seen)
  else if 0 < df last seq then (0, any, seq, (seen * 2 ^ (df last seq).toNat % 18446744073709551616) ||| 1)
  else if beh last seq = 0 ∨ seen &&& beh last seq ≠ 0 then (9, any, last, seen)
  else (0, any, last, seen ||| beh last seq)
theorem shl64 (s : Nat) (d : Nat) : IntKind.u64.wrap ((s : Int) * 2 ^ min d 64) = ((s * 2 ^ d % 18446744073709551616 : Nat) : Int) := by
  have h1 : ((s : Int) * 2 ^ min d 64) = ((s * 2 ^ min d 64 : Nat) : Int) := by simp
  rw [h1, IntKind.wrap_u64]
  have h2 : s * 2 ^ min d 64 % 18446744073709551616 = s * 2 ^ d % 18446744073709551616 := by
    rcases Nat.le_total d 64 with h | h
    · rw [Nat.min_eq_left h]
    · rw [Nat.min_eq_right h]
      obtain ⟨k, rfl⟩ := Nat.exists_eq_add_of_le h
      rw [show (18446744073709551616 : Nat) = 2 ^ 64 by decide, Nat.mul_mod_left, Nat.pow_add, Nat.mul_comm (2 ^ 64) (2 ^ k), ← Nat.mul_assoc, Nat.mul_mod_left]
  omega
theorem or64 (a m : Nat) (ha : a < 18446744073709551616) (hm : m < 18446744073709551616) : bits .or .u64 (a : Int) (m : Int) = ((a ||| m : Nat) : Int) := u64_or_nat a m ha hm
theorem sh_or (s n : Nat) : bits .or .u64 ((s : Int) * 2 ^ n % 18446744073709551616) 1 = ((s * 2 ^ n % 18446744073709551616 ||| 1 : Nat) : Int) := by
  have h1 : ((s : Int) * 2 ^ n % 18446744073709551616) = ((s * 2 ^ n % 18446744073709551616 : Nat) : Int) := by simp
  rw [h1]
  exact or64 _ 1 (by omega) (by omega)
theorem hear_nil (seq : Int) (w : World) : Calls Try.prog 9 #[.pointer none, .int .i64 seq] w fun e w' => e = .returned (.int .i64 1) ∧ w = w' := by
  go_enter Try.func9, Try.ntmps9
  go_wp2
  go_ret
  exact ⟨rfl, rfl⟩
set_option maxHeartbeats 1000000 in
theorem hear_any (b : Nat) (any : Bool) (last : Int) (seen : Nat) (seq : Int) (w : World) (h : Wm w b any last seen) (hs : seen < 18446744073709551616) :
    Calls Try.prog 9 #[.pointer (some ⟨b, 0, none⟩), .int .i64 seq] w fun e w' => e = .returned (.int .i64 (hr any last seen seq).1) ∧ Wm w' b (hr any last seen seq).2.1 (hr any last seen seq).2.2.1 (hr any last seen seq).2.2.2 ∧ Touch b w w' := by
  have HW := Lib.hid h
  have HS := Lib.hid hs
  obtain ⟨h0, h1, h2, f0, f1, f2⟩ := h
  clear hs
  rcases Bool.eq_false_or_eq_true (mayB seq) with hm | hm
  rotate_left
  · have H := Lib.hid (show hr any last seen seq = (1, any, last, seen) by unfold hr; rw [if_pos hm])
    go_enter Try.func9, Try.ntmps9
    go_wp2_with (go_at_call 16; refine (may_any _ _).mono ?_; rintro e w' ⟨rfl, rfl⟩)
    go_ret
    rw [H.out]; exact ⟨rfl, HW.out, Touch.refl _ _⟩
  · have hm' : ¬ mayB seq = false := by rw [hm]; decide
    cases any with
    | false =>
      have H := Lib.hid (show hr false last seen seq = (0, true, seq, 1) by unfold hr; rw [if_neg hm', if_pos rfl])
      clear hm'
      go_enter Try.func9, Try.ntmps9
      go_wp2_with (first | (go_at_call 16; refine (may_any _ _).mono ?_; rintro e w' ⟨rfl, rfl⟩) | (go_at_call 17; refine (diff_any _ _ _).mono ?_; rintro e w' ⟨rfl, rfl⟩) | (go_at_call 18; refine (behind_any _ _ _ _ h1).mono ?_; rintro e w' ⟨rfl, rfl⟩))
      go_ret
      rw [H.out]
      exact ⟨rfl, ((HW.out.any true).last seq).seen 1, (((Touch.refl _ _).set 0 _).set 1 _).set 2 _⟩
    | true =>
      have hd := df_bd last seq
      obtain ⟨d1, d2⟩ := hd
      by_cases e1 : df last seq = 32768
      · have H := Lib.hid (show hr true last seen seq = (9, true, last, seen) by unfold hr; rw [if_neg hm', if_neg (by decide), if_pos e1])
        have t1 : (df last seq == 32768) = true := by rw [e1]; rfl
        clear hm' e1
        go_enter Try.func9, Try.ntmps9
        go_wp2_with (first | (go_at_call 16; refine (may_any _ _).mono ?_; rintro e w' ⟨rfl, rfl⟩) | (go_at_call 17; refine (diff_any _ _ _).mono ?_; rintro e w' ⟨rfl, rfl⟩) | (go_at_call 18; refine (behind_any _ _ _ _ h1).mono ?_; rintro e w' ⟨rfl, rfl⟩))
        go_ret
        rw [H.out]
        exact ⟨rfl, HW.out, Touch.refl _ _⟩
      · have t1 : (df last seq == 32768) = false := beq_eq_false_iff_ne.2 e1
        by_cases e2 : 0 < df last seq
        · have H := Lib.hid (show hr true last seen seq = (0, true, seq, (seen * 2 ^ (df last seq).toNat % 18446744073709551616) ||| 1) by unfold hr; rw [if_neg hm', if_neg (by decide), if_neg e1, if_pos e2])
          have e3 : 0 ≤ df last seq := by omega
          have E1 := shl64 seen (df last seq).toNat
          have hE : IntKind.u64.bits = 64 := rfl
          clear hm' e1
          go_enter Try.func9, Try.ntmps9
          go_wp2_with (first | (go_at_call 16; refine (may_any _ _).mono ?_; rintro e w' ⟨rfl, rfl⟩) | (go_at_call 17; refine (diff_any _ _ _).mono ?_; rintro e w' ⟨rfl, rfl⟩) | (go_at_call 18; refine (behind_any _ _ _ _ h1).mono ?_; rintro e w' ⟨rfl, rfl⟩))
          go_ret
          rw [H.out, sh_or]
          exact ⟨rfl, (HW.out.last seq).seen _, ((Touch.refl _ _).set 1 _).set 2 _⟩
        · have E := and64 seen (beh last seq) HS.out (beh_lt last seq)
          have O := Lib.hid (or64 seen (beh last seq) HS.out (beh_lt last seq))
          by_cases e3 : beh last seq = 0
          · have H := Lib.hid (show hr true last seen seq = (9, true, last, seen) by unfold hr; rw [if_neg hm', if_neg (by decide), if_neg e1, if_neg e2, if_pos (.inl e3)])
            have t2 : (((beh last seq : Nat) : Int) == 0) = true := by rw [e3]; rfl
            clear hm' e1 E e3
            go_enter Try.func9, Try.ntmps9
            go_wp2_with (first | (go_at_call 16; refine (may_any _ _).mono ?_; rintro e w' ⟨rfl, rfl⟩) | (go_at_call 17; refine (diff_any _ _ _).mono ?_; rintro e w' ⟨rfl, rfl⟩) | (go_at_call 18; refine (behind_any _ _ _ _ h1).mono ?_; rintro e w' ⟨rfl, rfl⟩))
            go_ret
            rw [H.out]
            exact ⟨rfl, HW.out, Touch.refl _ _⟩
          · have t2 : (((beh last seq : Nat) : Int) == 0) = false := beq_eq_false_iff_ne.2 (by omega)
            by_cases e4 : seen &&& beh last seq ≠ 0
            · have H := Lib.hid (show hr true last seen seq = (9, true, last, seen) by unfold hr; rw [if_neg hm', if_neg (by decide), if_neg e1, if_neg e2, if_pos (.inr e4)])
              have t3 : (((seen &&& beh last seq : Nat) : Int) != 0) = true := by rw [bne_iff_ne]; omega
              clear hm' e1 e3 e4
              generalize seen &&& beh last seq = y at *
              go_enter Try.func9, Try.ntmps9
              go_wp2_with (first | (go_at_call 16; refine (may_any _ _).mono ?_; rintro e w' ⟨rfl, rfl⟩) | (go_at_call 17; refine (diff_any _ _ _).mono ?_; rintro e w' ⟨rfl, rfl⟩) | (go_at_call 18; refine (behind_any _ _ _ _ h1).mono ?_; rintro e w' ⟨rfl, rfl⟩))
              go_ret
              rw [H.out]
              exact ⟨rfl, HW.out, Touch.refl _ _⟩
            · have H := Lib.hid (show hr true last seen seq = (0, true, last, seen ||| beh last seq) by unfold hr; rw [if_neg hm', if_neg (by decide), if_neg e1, if_neg e2, if_neg (by intro h; rcases h with h | h; exact e3 h; exact e4 h)])
              have e5 : seen &&& beh last seq = 0 := by omega
              have t3 : (((seen &&& beh last seq : Nat) : Int) != 0) = false := by rw [e5]; rfl
              clear hm' e1 e3 e4 e5
              generalize seen &&& beh last seq = y at *
              go_enter Try.func9, Try.ntmps9
              go_wp2_with (first | (go_at_call 16; refine (may_any _ _).mono ?_; rintro e w' ⟨rfl, rfl⟩) | (go_at_call 17; refine (diff_any _ _ _).mono ?_; rintro e w' ⟨rfl, rfl⟩) | (go_at_call 18; refine (behind_any _ _ _ _ h1).mono ?_; rintro e w' ⟨rfl, rfl⟩))
              go_ret
              rw [H.out, O.out]
              exact ⟨rfl, HW.out.seen _, (Touch.refl _ _).set 2 _⟩
end Go.Proofs.Ytmpiildallppaaa
