/-
  RatePlays, walked: the law returns true for every n and every slice of bools, and writes nothing that was there. Conditions: the slice reads as a row of bools.
-/
import Derived.Test.YtlcjmnkjplcmiaaRate
namespace Go.Proofs.Ytlcjmnkjplcmiaa
open Go.ChangeShapes Go.WideShapes Go.ChangeAt Go.RowKit
set_option linter.unusedVariables false
/-- a slice of bools that came in: its cells, as far as its length -/
def IsBools (w : World) (a : Option Addr) (len cap : Nat) (B : Nat → Bool) : Prop :=
  len ≤ 9223372036854775807 ∧ ∀ i, i < len → ∃ b off, a = some ⟨b, off, none⟩ ∧ w.cell? ⟨b, off + i, none⟩ = some (.bool (B i))
theorem new_is (n c : Int) (h : bn n = c) (w : World) :
    Calls Try.prog 5 #[.int .i64 n] w fun e w' => e = .returned (.pointer (some ⟨w.heap.size, 0, none⟩)) ∧ w' = w.alloc (.cells #[.int .i64 c, .int .i64 c] 30) := by
  subst h; exact new_any n w
set_option maxRecDepth 100000 in
set_option maxHeartbeats 4000000 in
theorem plays_walk (a0 : Int) (a1 : Option Addr) (len1 cap1 : Nat) (B : Nat → Bool) (w : World) (w1 : IsBools w a1 len1 cap1 B) :
    Calls Try.prog 3 #[.int .i64 a0, .slice a1 len1 cap1] w fun e w' => e = .returned (.bool true) ∧ Below w.heap.size w w' := by
  obtain ⟨hm, hrow⟩ := w1
  have HR := Lib.hid hrow
  clear hrow
  have hcs : (1000 < a0 ∧ Hid (bn a0 = 1000)) ∨ (0 < a0 ∧ a0 ≤ 1000 ∧ Hid (bn a0 = a0)) ∨ (a0 ≤ 0 ∧ Hid (bn a0 = 0)) := by
    rcases Int.lt_or_le 1000 a0 with h | h
    · exact .inl ⟨h, by unfold Hid bn; omega⟩
    · rcases Int.lt_or_le 0 a0 with h1 | h1
      · exact .inr (.inl ⟨h1, h, by unfold Hid bn; omega⟩)
      · exact .inr (.inr ⟨h1, by unfold Hid bn; omega⟩)
  obtain ⟨c, hc, hc0, hc1⟩ : ∃ c, Hid (bn a0 = c) ∧ 0 ≤ c ∧ c ≤ 1000 := ⟨bn a0, Lib.hid rfl, bn_lo _, bn_hi _⟩
  have K0 : Bk (w.alloc (.cells #[.int .i64 c, .int .i64 c] 30)) w.heap.size c c := Bk.made _ _ _
  have c1 := K0.2.1
  rcases hcs with ⟨h1, h2⟩ | ⟨h1, h1', h2⟩ | ⟨h1, h2⟩
  · have hv := h2.out
    have hc' := hc.out
    rw [hv] at hc'
    subst hc'
    have HV := Lib.hid hv
    clear h2 hc hv
    go_enter Try.func3, Try.ntmps3
    go_wp2_with (first | (go_at_call 5; (refine (new_is _ _ HV.out _).mono ?_); rintro e w' ⟨rfl, rfl⟩) | (go_at_call 6; (refine (left_any _ _ _ c1).mono ?_); rintro e w' ⟨rfl, rfl⟩))
    go_loopw [7, 26] (fun v i wr => ∃ (k : Nat) (l : Int), k ≤ len1 ∧ k ≤ 300 ∧ i = .int .i64 k ∧ v = .int .i64 l ∧ 0 ≤ l ∧ l ≤ 1000 ∧ Bk wr w.heap.size 1000 l ∧ Below w.heap.size w wr)
      (fun _ i _ => len1 - (intOf i).toNat)
    case atStart => exact ⟨0, 1000, by omega, by omega, rfl, rfl, by omega, by omega, K0, by go_grown⟩
    case round =>
      clear K0 c1
      obtain ⟨k, l, hk, hk2, rfl, rfl, hl0, hl1, kb, hb⟩ := hrel
      have HB := Lib.hid hb
      have KB := Lib.hid kb
      by_cases hlt : k < len1
      · obtain ⟨b, off, rfl, hc0⟩ := HR.out k hlt
        have hc : wr.cell? ⟨b, off + k, none⟩ = some (.bool (B k)) := (hb.cell (World.block_lt_of_cell? _ _ hc0)).trans hc0
        clear hc0 hb
        obtain ⟨t, ht⟩ : ∃ t, t = B k := ⟨_, rfl⟩
        rw [← ht] at hc
        clear ht
        by_cases h300 : k < 300
        · cases t with
          | true =>
            have b0 := kb.1
            have b1 := kb.2.1
            have b2 := kb.2.2
            have n1 := (KB.out.set 1000).2.1
            clear kb
            go_wp2_with (first | (go_at_call 7; (with_reducible refine (tick_any _ _ _ _ b0 b1 b2).mono ?_); rintro e w' ⟨rfl, rfl⟩) | (go_at_call 6; (with_reducible refine (left_any _ _ _ n1).mono ?_); rintro e w' ⟨rfl, rfl⟩))
            go_roundw
            case rel => exact ⟨k + 1, 1000, by omega, by omega, by go_num, rfl, by omega, by omega, KB.out.set _, HB.out.setCell (Nat.le_refl _) _⟩
            case measure => simp [intOf]; omega
          | false =>
            by_cases hz : l = 0
            · subst hz
              have b1 := kb.2.1
              clear kb
              go_wp2_with (first | (go_at_call 8; (with_reducible refine (take_no _ _ b1).mono ?_); rintro e w' ⟨rfl, rfl⟩) | (go_at_call 6; (with_reducible refine (left_any _ _ _ b1).mono ?_); rintro e w' ⟨rfl, rfl⟩))
              go_roundw
              case rel => exact ⟨k + 1, 0, by omega, by omega, by go_num, rfl, by omega, by omega, KB.out, HB.out⟩
              case measure => simp [intOf]; omega
            · have hp : 0 < l := by omega
              have b1 := kb.2.1
              have b2 := kb.2.2
              have n1 := (KB.out.set (l - 1)).2.1
              clear kb hz
              go_wp2_with (first | (go_at_call 8; (with_reducible refine (take_yes _ _ _ b1 b2 hp hl1).mono ?_); rintro e w' ⟨rfl, rfl⟩) | (go_at_call 6; (with_reducible refine (left_any _ _ _ n1).mono ?_); rintro e w' ⟨rfl, rfl⟩))
              go_roundw
              case rel => exact ⟨k + 1, l - 1, by omega, by omega, by go_num, by go_num, by omega, by omega, KB.out.set _, HB.out.setCell (Nat.le_refl _) _⟩
              case measure => simp [intOf]; omega
        · have h3 : 300 ≤ k := by omega
          clear h300 kb
          go_wp2_with (go_at_call 9; refine (awake_any _).mono ?_; rintro e w' ⟨rfl, hb'⟩)
          go_ret
          exact ⟨rfl, HB.out.trans (hb'.mono HB.out.size)⟩
      · clear hb kb
        go_wp2_with (go_at_call 9; refine (awake_any _).mono ?_; rintro e w' ⟨rfl, hb'⟩)
        go_ret
        exact ⟨rfl, HB.out.trans (hb'.mono HB.out.size)⟩
  · have hv := h2.out
    have hc' := hc.out
    rw [hv] at hc'
    subst hc'
    have HV := Lib.hid hv
    clear h2 hc hv
    go_enter Try.func3, Try.ntmps3
    go_wp2_with (first | (go_at_call 5; (refine (new_is _ _ HV.out _).mono ?_); rintro e w' ⟨rfl, rfl⟩) | (go_at_call 6; (refine (left_any _ _ _ c1).mono ?_); rintro e w' ⟨rfl, rfl⟩))
    go_loopw [7, 26] (fun v i wr => ∃ (k : Nat) (l : Int), k ≤ len1 ∧ k ≤ 300 ∧ i = .int .i64 k ∧ v = .int .i64 l ∧ 0 ≤ l ∧ l ≤ 1000 ∧ Bk wr w.heap.size a0 l ∧ Below w.heap.size w wr)
      (fun _ i _ => len1 - (intOf i).toNat)
    case atStart => exact ⟨0, a0, by omega, by omega, rfl, rfl, by omega, by omega, K0, by go_grown⟩
    case round =>
      clear K0 c1
      obtain ⟨k, l, hk, hk2, rfl, rfl, hl0, hl1, kb, hb⟩ := hrel
      have HB := Lib.hid hb
      have KB := Lib.hid kb
      by_cases hlt : k < len1
      · obtain ⟨b, off, rfl, hc0⟩ := HR.out k hlt
        have hc : wr.cell? ⟨b, off + k, none⟩ = some (.bool (B k)) := (hb.cell (World.block_lt_of_cell? _ _ hc0)).trans hc0
        clear hc0 hb
        obtain ⟨t, ht⟩ : ∃ t, t = B k := ⟨_, rfl⟩
        rw [← ht] at hc
        clear ht
        by_cases h300 : k < 300
        · cases t with
          | true =>
            have b0 := kb.1
            have b1 := kb.2.1
            have b2 := kb.2.2
            have n1 := (KB.out.set a0).2.1
            clear kb
            go_wp2_with (first | (go_at_call 7; (with_reducible refine (tick_any _ _ _ _ b0 b1 b2).mono ?_); rintro e w' ⟨rfl, rfl⟩) | (go_at_call 6; (with_reducible refine (left_any _ _ _ n1).mono ?_); rintro e w' ⟨rfl, rfl⟩))
            go_roundw
            case rel => exact ⟨k + 1, a0, by omega, by omega, by go_num, rfl, by omega, by omega, KB.out.set _, HB.out.setCell (Nat.le_refl _) _⟩
            case measure => simp [intOf]; omega
          | false =>
            by_cases hz : l = 0
            · subst hz
              have b1 := kb.2.1
              clear kb
              go_wp2_with (first | (go_at_call 8; (with_reducible refine (take_no _ _ b1).mono ?_); rintro e w' ⟨rfl, rfl⟩) | (go_at_call 6; (with_reducible refine (left_any _ _ _ b1).mono ?_); rintro e w' ⟨rfl, rfl⟩))
              go_roundw
              case rel => exact ⟨k + 1, 0, by omega, by omega, by go_num, rfl, by omega, by omega, KB.out, HB.out⟩
              case measure => simp [intOf]; omega
            · have hp : 0 < l := by omega
              have b1 := kb.2.1
              have b2 := kb.2.2
              have n1 := (KB.out.set (l - 1)).2.1
              clear kb hz
              go_wp2_with (first | (go_at_call 8; (with_reducible refine (take_yes _ _ _ b1 b2 hp hl1).mono ?_); rintro e w' ⟨rfl, rfl⟩) | (go_at_call 6; (with_reducible refine (left_any _ _ _ n1).mono ?_); rintro e w' ⟨rfl, rfl⟩))
              go_roundw
              case rel => exact ⟨k + 1, l - 1, by omega, by omega, by go_num, by go_num, by omega, by omega, KB.out.set _, HB.out.setCell (Nat.le_refl _) _⟩
              case measure => simp [intOf]; omega
        · have h3 : 300 ≤ k := by omega
          clear h300 kb
          go_wp2_with (go_at_call 9; refine (awake_any _).mono ?_; rintro e w' ⟨rfl, hb'⟩)
          go_ret
          exact ⟨rfl, HB.out.trans (hb'.mono HB.out.size)⟩
      · clear hb kb
        go_wp2_with (go_at_call 9; refine (awake_any _).mono ?_; rintro e w' ⟨rfl, hb'⟩)
        go_ret
        exact ⟨rfl, HB.out.trans (hb'.mono HB.out.size)⟩
  · have hv := h2.out
    have hc' := hc.out
    rw [hv] at hc'
    subst hc'
    have HV := Lib.hid hv
    clear h2 hc hv
    go_enter Try.func3, Try.ntmps3
    go_wp2_with (first | (go_at_call 5; (refine (new_is _ _ HV.out _).mono ?_); rintro e w' ⟨rfl, rfl⟩) | (go_at_call 6; (refine (left_any _ _ _ c1).mono ?_); rintro e w' ⟨rfl, rfl⟩))
    go_loopw [7, 26] (fun v i wr => ∃ (k : Nat) (l : Int), k ≤ len1 ∧ k ≤ 300 ∧ i = .int .i64 k ∧ v = .int .i64 l ∧ 0 ≤ l ∧ l ≤ 1000 ∧ Bk wr w.heap.size 0 l ∧ Below w.heap.size w wr)
      (fun _ i _ => len1 - (intOf i).toNat)
    case atStart => exact ⟨0, 0, by omega, by omega, rfl, rfl, by omega, by omega, K0, by go_grown⟩
    case round =>
      clear K0 c1
      obtain ⟨k, l, hk, hk2, rfl, rfl, hl0, hl1, kb, hb⟩ := hrel
      have HB := Lib.hid hb
      have KB := Lib.hid kb
      by_cases hlt : k < len1
      · obtain ⟨b, off, rfl, hc0⟩ := HR.out k hlt
        have hc : wr.cell? ⟨b, off + k, none⟩ = some (.bool (B k)) := (hb.cell (World.block_lt_of_cell? _ _ hc0)).trans hc0
        clear hc0 hb
        obtain ⟨t, ht⟩ : ∃ t, t = B k := ⟨_, rfl⟩
        rw [← ht] at hc
        clear ht
        by_cases h300 : k < 300
        · cases t with
          | true =>
            have b0 := kb.1
            have b1 := kb.2.1
            have b2 := kb.2.2
            have n1 := (KB.out.set 0).2.1
            clear kb
            go_wp2_with (first | (go_at_call 7; (with_reducible refine (tick_any _ _ _ _ b0 b1 b2).mono ?_); rintro e w' ⟨rfl, rfl⟩) | (go_at_call 6; (with_reducible refine (left_any _ _ _ n1).mono ?_); rintro e w' ⟨rfl, rfl⟩))
            go_roundw
            case rel => exact ⟨k + 1, 0, by omega, by omega, by go_num, rfl, by omega, by omega, KB.out.set _, HB.out.setCell (Nat.le_refl _) _⟩
            case measure => simp [intOf]; omega
          | false =>
            by_cases hz : l = 0
            · subst hz
              have b1 := kb.2.1
              clear kb
              go_wp2_with (first | (go_at_call 8; (with_reducible refine (take_no _ _ b1).mono ?_); rintro e w' ⟨rfl, rfl⟩) | (go_at_call 6; (with_reducible refine (left_any _ _ _ b1).mono ?_); rintro e w' ⟨rfl, rfl⟩))
              go_roundw
              case rel => exact ⟨k + 1, 0, by omega, by omega, by go_num, rfl, by omega, by omega, KB.out, HB.out⟩
              case measure => simp [intOf]; omega
            · have hp : 0 < l := by omega
              have b1 := kb.2.1
              have b2 := kb.2.2
              have n1 := (KB.out.set (l - 1)).2.1
              clear kb hz
              go_wp2_with (first | (go_at_call 8; (with_reducible refine (take_yes _ _ _ b1 b2 hp hl1).mono ?_); rintro e w' ⟨rfl, rfl⟩) | (go_at_call 6; (with_reducible refine (left_any _ _ _ n1).mono ?_); rintro e w' ⟨rfl, rfl⟩))
              go_roundw
              case rel => exact ⟨k + 1, l - 1, by omega, by omega, by go_num, by go_num, by omega, by omega, KB.out.set _, HB.out.setCell (Nat.le_refl _) _⟩
              case measure => simp [intOf]; omega
        · have h3 : 300 ≤ k := by omega
          clear h300 kb
          go_wp2_with (go_at_call 9; refine (awake_any _).mono ?_; rintro e w' ⟨rfl, hb'⟩)
          go_ret
          exact ⟨rfl, HB.out.trans (hb'.mono HB.out.size)⟩
      · clear hb kb
        go_wp2_with (go_at_call 9; refine (awake_any _).mono ?_; rintro e w' ⟨rfl, hb'⟩)
        go_ret
        exact ⟨rfl, HB.out.trans (hb'.mono HB.out.size)⟩
end Go.Proofs.Ytlcjmnkjplcmiaa
