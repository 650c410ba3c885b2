/-
  WindowOnce, walked: the law returns true for every base and every slice of numbers, and writes nothing that was there. Condition: the slice reads as a row of integers.
-/
import Derived.Test.YtmpiildallppaaaOnceMath
import Derived.Maps.OwnOps
import Derived.Maps.Views
namespace Go.Proofs.Ytmpiildallppaaa
open Go.ChangeShapes Go.WideShapes Go.ChangeAt Go.RowKit Go.Maps
set_option linter.unusedVariables false
theorem law3 : Keyed Try.prog 3 := int_keyed Try.underlying3
theorem zero3 (w : World) : (zeroValue 3).run Try.prog w = .ok (.int .i64 0) w := by kernel_rfl
theorem and14 (x : Int) : bits .and .i64 x 16383 = x % 16384 := by
  have h : (BitVec.ofInt 64 x &&& BitVec.ofInt 64 16383).toNat = (x % 16384).toNat := by
    rw [BitVec.toNat_and, BitVec.toNat_ofInt, show (BitVec.ofInt 64 16383).toNat = 16383 from by decide, nat_mask14]
    omega
  show IntKind.i64.wrap ((BitVec.ofInt 64 x &&& BitVec.ofInt 64 16383).toNat : Int) = _
  rw [h, IntWalk.i64_in _ ⟨by omega, by omega⟩]
  omega
/-- the map knows just what was heard -/
def Knows (D : DataW Unit) (hd : Int → Bool) : Prop := ∀ x : Int, D.atKey (.int .i64 x) (.lit (.int .i64 0)) = .lit (.int .i64 (if hd x then 1 else 0))
theorem Knows.at {D : DataW Unit} {hd : Int → Bool} (h : Knows D hd) {x c : Int} (hat : D.atKey (.int .i64 x) (.lit (.int .i64 0)) = .lit (.int .i64 c)) : c = if hd x then 1 else 0 := by
  rw [h x] at hat
  simpa using hat.symm
theorem Knows.put {D : DataW Unit} {hd : Int → Bool} (h : Knows D hd) (hD : IsMap D) (x : Int) : Knows (D.put (.int .i64 x) (.lit (.int .i64 1))) (fun y => decide (y = x) || hd y) := by
  intro y
  by_cases e : y = x
  · subst e
    rw [atKey_put_same hD (show WideAt.IsKeyLit (.int .i64 y) from trivial)]
    simp
  · rw [atKey_put_other (by intro hh; apply e; simpa using hh), h y]
    simp [e]
/-- the map in memory -/
def Mp (w : World) (g k : Nat) (hd : Int → Bool) : Prop := ∃ D : DataW Unit, w.ownsMap Try.prog 3 (plainElem Try.prog 3) g k D ∧ Knows D hd
theorem own_isMap {w : World} {g k : Nat} {D : DataW Unit} (h : w.ownsMap Try.prog 3 (plainElem Try.prog 3) g k D) : IsMap D := by
  obtain ⟨es, clock, _, _, _, rfl⟩ := h
  exact ⟨_, rfl⟩
theorem Mp.touch {w w' : World} {b g k : Nat} {hd : Int → Bool} (h : Mp w g k hd) (ht : Touch b w w') (hne : g ≠ b) : Mp w' g k hd := by
  obtain ⟨D, ⟨es, clock, hb, F, hs, hD⟩, hk⟩ := h
  exact ⟨D, ⟨es, clock, (ht.block g hne).trans hb, F, hs, hD⟩, hk⟩
theorem Mp.mono {w : World} {g k k' : Nat} {hd : Int → Bool} (h : Mp w g k hd) (hk : k ≤ k') : Mp w g k' hd := by
  obtain ⟨D, h1, h2⟩ := h
  exact ⟨D, h1.mono hk, h2⟩
set_option maxRecDepth 100000 in
set_option maxHeartbeats 4000000 in
theorem once_walk (a0 : Int) (a1 : Option Addr) (len1 cap1 : Nat) (z1 : List Int) (w : World) (w1 : IsRow .i64 w a1 len1 cap1 z1) :
    Calls Try.prog 3 #[.int .i64 a0, .slice a1 len1 cap1] w fun e w' => e = .returned (.bool true) ∧ Below w.heap.size w w' := by
  obtain ⟨hm, hrow⟩ := w1.at
  have HR := Lib.hid hrow
  clear hrow w1
  have e1 := and16 a0
  have y1 : 0 ≤ a0 % 65536 := by omega
  have y2 : a0 % 65536 ≤ 65535 := by omega
  generalize a0 % 65536 = B at *
  have hmm := @run_makeMap Try.prog
  have W0 : Hid (Wm ((w.alloc (.cells #[.bool false, .int .i64 0, .int .u64 0] 41)).alloc (.map #[] 0)) w.heap.size false 0 0) :=
    (Wm.made w).keep (B := w.heap.size + 1) ((Below.refl _ _).alloc (by simp) _) (by omega)
  have M0 : Hid (Mp ((w.alloc (.cells #[.bool false, .int .i64 0, .int .u64 0] 41)).alloc (.map #[] 0)) (w.heap.size + 1) 0 (fun _ => false)) := by
    have := World.ownsMap_made (w.alloc (.cells #[.bool false, .int .i64 0, .int .u64 0] 41)) Try.prog 3 (plainElem (H := Unit) Try.prog 3)
    refine ⟨.map [], ?_, fun x => rfl⟩
    simpa using this
  have I0 : Hid (Inv B (fun _ => false) (-1) false 0 0) := by
    refine ⟨by decide, by decide, rfl, fun _ _ => rfl, by decide, ?_, ?_, fun _ _ => rfl, fun _ _ => rfl, ?_⟩ <;> (intro h; omega)
  go_enter Try.func3, Try.ntmps3
  go_wp2_with (go_at_call 8; refine (new_any _).mono ?_; rintro e w' ⟨rfl, rfl⟩)
  go_loopw [7, 8] (fun v i wr => ∃ (k : Nat) (hd : Int → Bool) (m : Int) (any : Bool) (la : Int) (seen : Nat), k ≤ len1 ∧ k ≤ 200 ∧ i = .int .i64 k ∧ v = .int .i64 m ∧ Wm wr w.heap.size any la seen ∧ Inv B hd m any la seen ∧ Mp wr (w.heap.size + 1) k hd ∧ Below w.heap.size w wr ∧ w.heap.size + 2 ≤ wr.heap.size) (fun _ i _ => len1 - (intOf i).toNat)
  case atStart => exact ⟨0, _, -1, false, 0, 0, by omega, by omega, rfl, rfl, W0.out, I0.out, M0.out, by go_grown, by simp⟩
  case round =>
    clear W0 M0 I0
    obtain ⟨k, hd, m, any, la, seen, hk, hk2, rfl, rfl, hw, hi, hmp, hb, hsz⟩ := hrel
    have HW := Lib.hid hw
    have HI := Lib.hid hi
    have HM := Lib.hid hmp
    have HB := Lib.hid hb
    clear hw hi hmp
    by_cases hlt : k < len1 ∧ k < 200
    · obtain ⟨hl1, hl2⟩ := hlt
      obtain ⟨b, off, rfl, hc0⟩ := HR.out k hl1
      have hc : wr.cell? ⟨b, off + k, none⟩ = some (.int .i64 (z1.getD k 0)) := (hb.cell (World.block_lt_of_cell? _ _ hc0)).trans hc0
      clear hc0 hb
      generalize z1.getD k 0 = z at *
      have e2 := and14 z
      have n1 : 0 ≤ z % 16384 := by omega
      have n2 : z % 16384 ≤ 16383 := by omega
      generalize z % 16384 = n at *
      have m1 := HI.out.lo
      have m2 := HI.out.hi
      obtain ⟨any', la', seen', hA, hI'⟩ := hr_once ⟨y1, y2⟩ HI.out n ⟨n1, n2⟩
      have HS : Hid (seen < 18446744073709551616) := HI.out.lt
      have hkey : keyOf Try.prog 3 (.int .i64 n) = some (.int .i64 n) := keyOf_int_mk Try.underlying3 (WalkArith.wf_i64 (by omega))
      have HK := Lib.hid hkey
      clear hkey
      have hcase : (hd n = true) ∨ (hd n = false ∧ m < 0) ∨ (hd n = false ∧ 0 ≤ m ∧ m - 64 < n) ∨ (hd n = false ∧ 0 ≤ m ∧ n ≤ m - 64) := by
        cases hd n
        · right
          rcases Int.lt_or_le m 0 with h | h
          · exact .inl ⟨rfl, h⟩
          · rcases Int.lt_or_le (m - 64) n with h2 | h2
            · exact .inr (.inl ⟨rfl, h, h2⟩)
            · exact .inr (.inr ⟨rfl, h, h2⟩)
        · exact .inl rfl
      rcases hcase with h1 | ⟨h1, h2⟩ | ⟨h1, h2, h3⟩ | ⟨h1, h2, h3⟩
      · have ef : freshB hd m n = false := by unfold freshB; rw [h1]; rfl
        rw [ef] at hA hI'
        have HA := Lib.hid hA
        have HI' := Lib.hid hI'
        have H1 := Lib.hid h1
        clear hA hI' h1 ef
        go_wp2_with fail
        refine (hear_at HA HS HW.out).mono ?_
        rintro e wa ⟨rfl, ka, ta⟩
        have KA := Lib.hid ka
        have HBa := Lib.hid (ta.below HB.out (Nat.le_refl _))
        have hsa : w.heap.size + 2 ≤ wa.heap.size := by rw [ta.size]; exact hsz
        obtain ⟨D, hown, hkn⟩ := HM.out.touch ta (by omega)
        have HKn := Lib.hid hkn
        have HOwn := Lib.hid hown
        clear ka ta hkn hown
        go_wp2_with (at_lookup; refine wpList_lookup_own_int _ rfl _ _ 25 rfl 3 3 .i64 law3 Try.underlying25 Try.underlying3 (zero3 _) (w.heap.size + 1) k _ rfl HOwn.out _ _ rfl HK.out ?_; intro c hat hwc; obtain rfl : c = 1 := by (have := HKn.out.at hat; rw [H1.out] at this; exact this))
        go_roundw
        case rel => exact ⟨k + 1, hd, m, any', la', seen', by omega, by omega, by go_num, rfl, KA.out, HI'.out, Mp.mono ⟨D, HOwn.out, HKn.out⟩ (Nat.le_succ _), HBa.out, hsa⟩
        case measure => simp [intOf]; omega
      · have ef : freshB hd m n = true := by unfold freshB; rw [h1]; simp; omega
        have em : mNew m n true = n := by show max m n = n; omega
        rw [ef] at hA hI'
        rw [em] at hI'
        clear em
        have HA := Lib.hid hA
        have HI' := Lib.hid hI'
        have H1 := Lib.hid h1
        clear hA hI' h1 ef
        go_wp2_with fail
        refine (hear_at HA HS HW.out).mono ?_
        rintro e wa ⟨rfl, ka, ta⟩
        have KA := Lib.hid ka
        have HBa := Lib.hid (ta.below HB.out (Nat.le_refl _))
        have hsa : w.heap.size + 2 ≤ wa.heap.size := by rw [ta.size]; exact hsz
        obtain ⟨D, hown, hkn⟩ := HM.out.touch ta (by omega)
        have HKn := Lib.hid hkn
        have HOwn := Lib.hid hown
        clear ka ta hkn hown
        go_wp2_with (first | (at_lookup; refine wpList_lookup_own_int _ rfl _ _ 25 rfl 3 3 .i64 law3 Try.underlying25 Try.underlying3 (zero3 _) (w.heap.size + 1) k _ rfl HOwn.out _ _ rfl HK.out ?_; intro c hat hwc; obtain rfl : c = 0 := by (have := HKn.out.at hat; rw [H1.out] at this; exact this)) | (at_mapUpdate; refine wpList_mapUpdate_own _ rfl _ _ _ 25 rfl 3 3 law3 Try.underlying25 _ (w.heap.size + 1) k _ rfl HOwn.out (by unfold maxLen; omega) _ _ _ rfl rfl HK.out _ [] (plainElem_int Try.underlying3 (WalkArith.wf_i64 (by omega))) ?_; intro w2 hown1 hgrow1; have HO1 := Lib.hid hown1; have HG1 := Lib.hid hgrow1; clear hown1 hgrow1))
        have HB2 : Hid (Below (w.heap.size + 1) wa w2) := (Below.refl _ _).grown HG1.out (by omega) (fun j hj => by cases hj; exact Nat.le_refl _)
        go_roundw
        case rel => exact ⟨k + 1, hdNew hd n true, n, any', la', seen', by omega, by omega, by go_num, rfl, KA.out.keep HB2.out (Nat.lt_succ_self _), HI'.out, ⟨_, HO1.out, HKn.out.put (own_isMap HOwn.out) n⟩, HBa.out.trans (HB2.out.mono (Nat.le_succ _)), Nat.le_trans hsa HB2.out.size⟩
        case measure => simp [intOf]; omega
      · have ef : freshB hd m n = true := by unfold freshB; rw [h1]; simp; omega
        rcases Int.lt_or_le m n with h4 | h4
        · have em : mNew m n true = n := by show max m n = n; omega
          rw [ef] at hA hI'
          rw [em] at hI'
          clear em
          have HA := Lib.hid hA
          have HI' := Lib.hid hI'
          have H1 := Lib.hid h1
          clear hA hI' h1 ef
          go_wp2_with fail
          refine (hear_at HA HS HW.out).mono ?_
          rintro e wa ⟨rfl, ka, ta⟩
          have KA := Lib.hid ka
          have HBa := Lib.hid (ta.below HB.out (Nat.le_refl _))
          have hsa : w.heap.size + 2 ≤ wa.heap.size := by rw [ta.size]; exact hsz
          obtain ⟨D, hown, hkn⟩ := HM.out.touch ta (by omega)
          have HKn := Lib.hid hkn
          have HOwn := Lib.hid hown
          clear ka ta hkn hown
          go_wp2_with (first | (at_lookup; refine wpList_lookup_own_int _ rfl _ _ 25 rfl 3 3 .i64 law3 Try.underlying25 Try.underlying3 (zero3 _) (w.heap.size + 1) k _ rfl HOwn.out _ _ rfl HK.out ?_; intro c hat hwc; obtain rfl : c = 0 := by (have := HKn.out.at hat; rw [H1.out] at this; exact this)) | (at_mapUpdate; refine wpList_mapUpdate_own _ rfl _ _ _ 25 rfl 3 3 law3 Try.underlying25 _ (w.heap.size + 1) k _ rfl HOwn.out (by unfold maxLen; omega) _ _ _ rfl rfl HK.out _ [] (plainElem_int Try.underlying3 (WalkArith.wf_i64 (by omega))) ?_; intro w2 hown1 hgrow1; have HO1 := Lib.hid hown1; have HG1 := Lib.hid hgrow1; clear hown1 hgrow1))
          have HB2 : Hid (Below (w.heap.size + 1) wa w2) := (Below.refl _ _).grown HG1.out (by omega) (fun j hj => by cases hj; exact Nat.le_refl _)
          go_roundw
          case rel => exact ⟨k + 1, hdNew hd n true, n, any', la', seen', by omega, by omega, by go_num, rfl, KA.out.keep HB2.out (Nat.lt_succ_self _), HI'.out, ⟨_, HO1.out, HKn.out.put (own_isMap HOwn.out) n⟩, HBa.out.trans (HB2.out.mono (Nat.le_succ _)), Nat.le_trans hsa HB2.out.size⟩
          case measure => simp [intOf]; omega
        · have em : mNew m n true = m := by show max m n = m; omega
          rw [ef] at hA hI'
          rw [em] at hI'
          clear em
          have HA := Lib.hid hA
          have HI' := Lib.hid hI'
          have H1 := Lib.hid h1
          clear hA hI' h1 ef
          go_wp2_with fail
          refine (hear_at HA HS HW.out).mono ?_
          rintro e wa ⟨rfl, ka, ta⟩
          have KA := Lib.hid ka
          have HBa := Lib.hid (ta.below HB.out (Nat.le_refl _))
          have hsa : w.heap.size + 2 ≤ wa.heap.size := by rw [ta.size]; exact hsz
          obtain ⟨D, hown, hkn⟩ := HM.out.touch ta (by omega)
          have HKn := Lib.hid hkn
          have HOwn := Lib.hid hown
          clear ka ta hkn hown
          go_wp2_with (first | (at_lookup; refine wpList_lookup_own_int _ rfl _ _ 25 rfl 3 3 .i64 law3 Try.underlying25 Try.underlying3 (zero3 _) (w.heap.size + 1) k _ rfl HOwn.out _ _ rfl HK.out ?_; intro c hat hwc; obtain rfl : c = 0 := by (have := HKn.out.at hat; rw [H1.out] at this; exact this)) | (at_mapUpdate; refine wpList_mapUpdate_own _ rfl _ _ _ 25 rfl 3 3 law3 Try.underlying25 _ (w.heap.size + 1) k _ rfl HOwn.out (by unfold maxLen; omega) _ _ _ rfl rfl HK.out _ [] (plainElem_int Try.underlying3 (WalkArith.wf_i64 (by omega))) ?_; intro w2 hown1 hgrow1; have HO1 := Lib.hid hown1; have HG1 := Lib.hid hgrow1; clear hown1 hgrow1))
          have HB2 : Hid (Below (w.heap.size + 1) wa w2) := (Below.refl _ _).grown HG1.out (by omega) (fun j hj => by cases hj; exact Nat.le_refl _)
          go_roundw
          case rel => exact ⟨k + 1, hdNew hd n true, m, any', la', seen', by omega, by omega, by go_num, rfl, KA.out.keep HB2.out (Nat.lt_succ_self _), HI'.out, ⟨_, HO1.out, HKn.out.put (own_isMap HOwn.out) n⟩, HBa.out.trans (HB2.out.mono (Nat.le_succ _)), Nat.le_trans hsa HB2.out.size⟩
          case measure => simp [intOf]; omega
      · have ef : freshB hd m n = false := by unfold freshB; simp; omega
        rw [ef] at hA hI'
        have HA := Lib.hid hA
        have HI' := Lib.hid hI'
        have H1 := Lib.hid h1
        clear hA hI' h1 ef
        have q1 : decide (m < 0) = false := by simp; omega
        have q2 : decide (m - 64 < n) = false := by simp; omega
        go_wp2_with fail
        refine (hear_at HA HS HW.out).mono ?_
        rintro e wa ⟨rfl, ka, ta⟩
        have KA := Lib.hid ka
        have HBa := Lib.hid (ta.below HB.out (Nat.le_refl _))
        have hsa : w.heap.size + 2 ≤ wa.heap.size := by rw [ta.size]; exact hsz
        obtain ⟨D, hown, hkn⟩ := HM.out.touch ta (by omega)
        have HKn := Lib.hid hkn
        have HOwn := Lib.hid hown
        clear ka ta hkn hown
        go_wp2_with (at_lookup; refine wpList_lookup_own_int _ rfl _ _ 25 rfl 3 3 .i64 law3 Try.underlying25 Try.underlying3 (zero3 _) (w.heap.size + 1) k _ rfl HOwn.out _ _ rfl HK.out ?_; intro c hat hwc; obtain rfl : c = 0 := by (have := HKn.out.at hat; rw [H1.out] at this; exact this))
        go_roundw
        case rel => exact ⟨k + 1, hd, m, any', la', seen', by omega, by omega, by go_num, rfl, KA.out, HI'.out, Mp.mono ⟨D, HOwn.out, HKn.out⟩ (Nat.le_succ _), HBa.out, hsa⟩
        case measure => simp [intOf]; omega
    · have hex : (k < len1 ∧ ¬ k < 200) ∨ ¬ k < len1 := by omega
      clear hlt hb HM HI HW
      rcases hex with ⟨x1, x2⟩ | x1
      all_goals
        go_wp2_with (go_at_call 10; refine (awake_any _).mono ?_; rintro e w' ⟨rfl, hb'⟩)
        go_ret
        exact ⟨rfl, HB.out.trans (hb'.mono HB.out.size)⟩
end Go.Proofs.Ytmpiildallppaaa
