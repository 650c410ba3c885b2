/-
  TimerApart, walked: the law returns true for every every, every slice of times and every n, and writes nothing that was there. Conditions: the slice reads as a row of integers.
-/
import Derived.Test.YtjdcgbiaekajeaaPlaysWalk
import Derived.Laws.BitsAllLaws
namespace Go.Proofs.Ytjdcgbiaekajeaa
open Go.ChangeShapes Go.WideShapes Go.ChangeAt Go.RowKit
set_option linter.unusedVariables false
theorem IsRow.at {k : IntKind} {w : World} {a : Option Addr} {len cap : Nat} {zs : List Int} (h : IsRow k w a len cap zs) :
    len ≤ 9223372036854775807 ∧ ∀ j, j < len → ∃ b off, a = some ⟨b, off, none⟩ ∧ w.cell? ⟨b, off + j, none⟩ = some (.int k (zs.getD j 0)) := by
  rcases h with ⟨rfl, rfl, rfl, rfl⟩ | ⟨x, rfl, hl, hm, hz, hcell, hwz⟩
  · exact ⟨by omega, fun j hj => by omega⟩
  · unfold maxLen at hm
    refine ⟨by omega, fun j hj => ?_⟩
    obtain ⟨b, off, rfl, hcl⟩ := ints_at hcell (by omega)
    exact ⟨b, off, rfl, hcl j (by omega)⟩
theorem and19 (x : Int) : 0 ≤ bits .and .i64 x 524287 ∧ bits .and .i64 x 524287 ≤ 524287 := by
  have h : (BitVec.ofInt 64 x &&& BitVec.ofInt 64 524287).toNat ≤ 524287 := by
    rw [BitVec.toNat_and]; exact Nat.le_trans Nat.and_le_right (by decide)
  show 0 ≤ IntKind.i64.wrap ((BitVec.ofInt 64 x &&& BitVec.ofInt 64 524287).toNat : Int) ∧ IntKind.i64.wrap ((BitVec.ofInt 64 x &&& BitVec.ofInt 64 524287).toNat : Int) ≤ 524287
  rw [IntWalk.i64_in _ ⟨by omega, by omega⟩]
  omega
theorem every_in (a : Int) : 1 ≤ wrap64 (1 + wrap64 ((IntKind.u64.wrap a).tmod 50)) ∧ wrap64 (1 + wrap64 ((IntKind.u64.wrap a).tmod 50)) ≤ 50 := by
  rw [IntKind.wrap_u64, Int.tmod_eq_emod_of_nonneg (by omega)]
  unfold wrap64
  omega
theorem count_in (a : Int) : ∃ n : Nat, n < 300 ∧ wrap64 ((IntKind.u64.wrap a).tmod 300) = (n : Int) := by
  rw [IntKind.wrap_u64, Int.tmod_eq_emod_of_nonneg (by omega)]
  refine ⟨(a % 18446744073709551616 % 300).toNat, by omega, ?_⟩
  unfold wrap64
  omega
/-- asked at each time: the next one is the first multiple that is not behind -/
theorem mult_yes {E k q : Int} (hE : 1 ≤ E) (h : k % E = 0) (h1 : k ≤ E * q) (h2 : E * q < k + E) : E * q = k := by
  obtain ⟨c, rfl⟩ := Int.dvd_of_emod_eq_zero h
  have h3 : q - c = 0 := by
    have : E * (q - c) < E * 1 := by rw [Int.mul_sub]; omega
    have a1 : q - c < 1 := Int.lt_of_mul_lt_mul_left this (by omega)
    have : E * (-1) < E * (q - c) := by rw [Int.mul_sub]; omega
    have a2 : -1 < q - c := Int.lt_of_mul_lt_mul_left this (by omega)
    omega
  rw [show q = c from by omega]
theorem mult_no {E k q : Int} (h : ¬ k % E = 0) : E * q ≠ k := by
  intro e; apply h; rw [← e]; exact Int.mul_emod_right E q
set_option maxHeartbeats 4000000 in
set_option maxRecDepth 100000 in
theorem apart_walk (a0 : Int) (a1 : Option Addr) (len1 cap1 : Nat) (z1 : List Int) (a2 : Int) (w : World) (w0 : (Lit.int .i64 a0).wf = true) (w1 : IsRow .i64 w a1 len1 cap1 z1) (w2 : (Lit.int .i64 a2).wf = true) :
    Calls Try.prog 4 #[.int .i64 a0, .slice a1 len1 cap1, .int .i64 a2] w fun e w' => e = .returned (.bool true) ∧ Below w.heap.size w w' := by
  obtain ⟨hm, hrow⟩ := w1.at
  have HR := Lib.hid hrow
  clear hrow w1 w0 w2
  obtain ⟨e1, e2⟩ := every_in a0
  obtain ⟨N, hN, HN⟩ := count_in a2
  have HN' := Lib.hid HN; clear HN
  go_enter Try.func4, Try.ntmps4
  go_wp2_with fail
  generalize wrap64 (1 + wrap64 ((IntKind.u64.wrap a0).tmod 50)) = E at *
  have hE : ev E = E := by unfold ev; omega
  have T0 : Tm (((w.alloc (Obj.cells #[Value.int IntKind.i64 (ev E), Value.int IntKind.i64 0] 36)).alloc (Obj.cells #[Value.int IntKind.i64 (ev E), Value.int IntKind.i64 0] 36))) w.heap.size E 0 := by
    refine ⟨?_, ?_, ?_⟩ <;> simp [go_sem, hE]
  have T1 : Tm (((w.alloc (Obj.cells #[Value.int IntKind.i64 (ev E), Value.int IntKind.i64 0] 36)).alloc (Obj.cells #[Value.int IntKind.i64 (ev E), Value.int IntKind.i64 0] 36))) (w.heap.size + 1) E 0 := by
    refine ⟨?_, ?_, ?_⟩ <;> simp [go_sem, hE]
  clear hE
  go_wp2_with (go_at_call 5; refine (new_any _ _).mono ?_; rintro e w' ⟨rfl, rfl⟩)
  go_loopw [9, 27] (fun l i wr => ∃ (k : Nat) (last : Int), k ≤ len1 ∧ k ≤ 200 ∧ i = .int .i64 k ∧ l = .int .i64 last ∧ -50 ≤ last ∧ last ≤ 524287 ∧ 0 ≤ last + E ∧ Tm wr w.heap.size E (last + E) ∧ Tm wr (w.heap.size + 1) E 0 ∧ Below w.heap.size w wr)
    (fun _ i _ => len1 - (intOf i).toNat)
  case atStart => exact ⟨0, -E, by omega, by omega, rfl, by go_num, by omega, by omega, by omega, by rw [show -E + E = 0 from by omega]; exact T0, T1, by go_grown⟩
  case round =>
    clear T0 T1
    obtain ⟨k, last, hk, hk2, rfl, rfl, hl0, hl1, hl2, t0, t1, hb⟩ := hrel
    by_cases hlt : k < len1 ∧ k < 200
    · obtain ⟨hlt, h200⟩ := hlt
      obtain ⟨b, off, rfl, hc0⟩ := HR.out k hlt
      have hc : wr.cell? ⟨b, off + k, none⟩ = some (.int .i64 (z1.getD k 0)) := (hb.cell (World.block_lt_of_cell? _ _ hc0)).trans hc0
      clear hc0
      obtain ⟨z, hz⟩ : ∃ z, z = z1.getD k 0 := ⟨_, rfl⟩
      rw [← hz] at hc
      clear hz
      obtain ⟨n1, n2⟩ := and19 z
      go_wp2_with fail
      generalize bits BinOp.and IntKind.i64 z 524287 = now at *
      have HB := Lib.hid hb
      clear hb
      by_cases hdue : last + E ≤ now
      · have S0 := Lib.hid (t0.set (now + E))
        have S1 := Lib.hid (t1.other (c := w.heap.size) (by omega) (now + E))
        have t01 := t0.1
        have t02 := t0.2.1
        have t03 := t0.2.2
        clear t0 t1
        go_wp2_with (go_at_call 7; refine (due_yes _ _ _ _ _ t01 t02 t03 hdue (by omega) (by omega) (by omega) (by omega)).mono ?_; rintro e w' ⟨rfl, rfl⟩)
        go_roundw
        case rel => exact ⟨k + 1, now, by omega, by omega, by go_num, by go_num, by omega, by omega, by omega, S0.out, S1.out, HB.out.setCell (Nat.le_refl _) _⟩
        case measure => simp [intOf]; omega
      · have T0 := Lib.hid t0
        have T1 := Lib.hid t1
        clear t0 t1
        go_wp2_with (go_at_call 7; refine (due_no _ _ _ _ T0.out.2.1 (by omega)).mono ?_; rintro e w' ⟨rfl, rfl⟩)
        go_roundw
        case rel => exact ⟨k + 1, last, by omega, by omega, by go_num, by go_num, by omega, by omega, by omega, T0.out, T1.out, HB.out⟩
        case measure => simp [intOf]; omega
    · have hc : k < len1 → ∃ b off z, a1 = some ⟨b, off, none⟩ ∧ wr.cell? ⟨b, off + k, none⟩ = some (.int .i64 z) := by
        intro h
        obtain ⟨b, off, h1, h2⟩ := HR.out k h
        exact ⟨b, off, _, h1, (hb.cell (World.block_lt_of_cell? _ _ h2)).trans h2⟩
      have HB := Lib.hid hb
      have T1 := Lib.hid t1
      clear hb t0 t1
      obtain ⟨wo, hwo⟩ : ∃ wo : World, wo = wr := ⟨_, rfl⟩
      have hex : len1 ≤ k ∨ (∃ b off z, a1 = some ⟨b, off, none⟩ ∧ wr.cell? ⟨b, off + k, none⟩ = some (.int .i64 z)) ∧ (k < len1 ∧ 200 ≤ k) := by
        by_cases h : k < len1
        · exact .inr ⟨hc h, by omega⟩
        · exact .inl (by omega)
      clear hlt hc
      subst hwo
      rcases hex with h1 | ⟨⟨b, off, z, rfl, hc⟩, h1, h2⟩
      rotate_left
      have hd2 : decide (k < len1) = true := by simp; omega
      have hd3 : decide ((200 : Int) ≤ (k : Int)) = true := by simp; omega
      rotate_right
      have hd1 : decide (k < len1) = false := by simp; omega
      all_goals
        go_wp2_with fail
        rw [HN'.out]
        go_loopw [50] (fun i wr => ∃ (j : Nat) (q : Int), j ≤ N ∧ i = .int .i64 j ∧ (j : Int) ≤ E * q ∧ E * q < j + E ∧ Tm wr (w.heap.size + 1) E (E * q) ∧ Below w.heap.size w wr)
          (fun i _ => N - (intOf i).toNat)
        case atStart => exact ⟨0, 0, by omega, rfl, by omega, by omega, by rw [Int.mul_zero]; exact T1.out, HB.out⟩
        case round =>
          obtain ⟨j, q, hj, rfl, hq1, hq2, t1, hb⟩ := hrel
          clear HB T1
          have HB := Lib.hid hb
          by_cases hlt : j < N
          · by_cases hm0 : (j : Int) % E = 0
            · have hqj := mult_yes (by omega) hm0 hq1 hq2
              have hb0 : ((j : Int) % E == 0) = true := by simp [hm0]
              have hnext : E * (q + 1) = j + E := by rw [Int.mul_add, hqj]; omega
              have hle : E * q ≤ j := by omega
              have hge : 0 ≤ E * q := by omega
              have D0 := Lib.hid (t1.drew)
              have S0 : Hid (Tm (wr.setCell ⟨w.heap.size + 1, 1, none⟩ (.int .i64 ((j : Int) + E))) (w.heap.size + 1) E (E * (q + 1))) := by
                have := t1.set ((j : Int) + E)
                rw [hnext]; exact this
              have HN2 := Lib.hid hnext
              clear t1 hm0 hb hqj hnext
              go_wp2_with fail
              go_region_with (go_at_call 7; refine (due_yes _ _ _ _ _ D0.out.1 D0.out.2.1 D0.out.2.2 (by omega) (by omega) (by omega) (by omega) (by omega)).mono ?_; rintro e w' ⟨rfl, rfl⟩)
              all_goals
                go_wp2
                go_roundw
                case rel => exact ⟨j + 1, q + 1, by omega, by go_num, by rw [HN2.out]; omega, by rw [HN2.out]; omega, S0.out.drew, (HB.out.setCell (Nat.le_succ _) _).drew⟩
                case measure => simp [intOf]; omega
            · have hqj := mult_no (q := q) hm0
              have hb0 : ((j : Int) % E == 0) = false := by simp [hm0]
              have hlt2 : (j : Int) < E * q := by omega
              have D0 := Lib.hid (t1.drew)
              clear t1 hm0 hb hqj
              go_wp2_with fail
              go_region_with (go_at_call 7; refine (due_no _ _ _ _ D0.out.2.1 (by omega)).mono ?_; rintro e w' ⟨rfl, rfl⟩)
              all_goals
                go_wp2
                go_roundw
                case rel => exact ⟨j + 1, q, by omega, by go_num, by omega, by omega, D0.out, HB.out.drew⟩
                case measure => simp [intOf]; omega
          · have T1 := Lib.hid t1
            clear t1 hb
            go_wp2_with (first | (go_at_call 7; refine (due_no _ _ _ _ T1.out.2.1 (by omega)).mono ?_; rintro e w' ⟨rfl, rfl⟩) | (go_at_call 10; refine (awake_any _).mono ?_; rintro e w' ⟨rfl, hb'⟩))
            go_ret
            exact ⟨rfl, HB.out.trans (hb'.mono HB.out.size)⟩
end Go.Proofs.Ytjdcgbiaekajeaa
