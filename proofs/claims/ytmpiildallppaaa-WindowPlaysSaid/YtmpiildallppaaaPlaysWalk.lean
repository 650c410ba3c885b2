/-
  WindowPlays, walked: the law returns true for every slice of numbers and every number asked, and writes nothing that was there. Condition: the slice reads as a row of integers.
-/
import Derived.Test.YtmpiildallppaaaRefAll
import Derived.Deep.RegionHeld3
import Derived.WalkSmall
import Derived.Deep.QuietTactic
import Derived.BigQuiet
import Derived.Outline
namespace Go.Proofs.Ytmpiildallppaaa
open Go.ChangeShapes Go.WideShapes Go.ChangeAt Go.RowKit
set_option linter.unusedVariables false
theorem quiet_left {P : Program} {f : FuncId} {args : Array Value} {w : World} {n : Nat} {v : Value}
    (h : Calls P f args (w.drewN n) fun e w' => e = .returned v ∧ w.drewN n = w') : Calls P f args (w.drewN n) fun e w'' => e = .returned v ∧ ∃ m, w'' = w.drewN m :=
  h.mono fun _ _ ⟨he, hm⟩ => ⟨he, n, hm.symm⟩
/-- both windows, as the loop keeps them -/
def Pl (w : World) (g : Nat) (L : List Int) (last : Int) (any : Bool) (seen : Nat) (v : Value) : Prop :=
  Wm w g any last seen ∧ RW w (g + 1) (g + 2) v L last ∧ Rl L last any seen
theorem RW.touch {w w' : World} {b m base : Nat} {v : Value} {L : List Int} {last : Int} (h : RW w m base v L last) (ht : Touch b w w') (hm : m ≠ b) (hb : b < base) : RW w' m base v L last := by
  obtain ⟨h0, h1, f0, f1, ho, hmb, hbs⟩ := h
  refine ⟨(ht.cell hm).trans h0, (ht.cell hm).trans h1, (ht.frozen hm).trans f0, (ht.frozen hm).trans f1, ⟨ho.1, ?_⟩, hmb, by rw [ht.size]; exact hbs⟩
  rcases ho.2 with h | ⟨g, cap, cur, e, hg, hh, r⟩
  · exact .inl h
  · exact .inr ⟨g, cap, cur, e, hg, (ht.block g (by omega)).trans hh, r⟩
theorem Wm.kp {w w' : World} {m base c : Nat} {any : Bool} {last : Int} {seen : Nat} (h : Wm w c any last seen) (hk : Kp m base w w') (h1 : c < base) (h2 : c ≠ m) : Wm w' c any last seen := by
  have hb := hk.block c h1 h2
  obtain ⟨q0, q1, q2, q3, q4, q5⟩ := h
  have ce : ∀ i, w'.cell? ⟨c, i, none⟩ = w.cell? ⟨c, i, none⟩ := fun i => World.cell?_of_block (w := w) (a := ⟨c, i, none⟩) hb
  have fe : ∀ i, w'.frozen? ⟨c, i, none⟩ = w.frozen? ⟨c, i, none⟩ := fun i => World.frozen?_of_block (w := w) (a := ⟨c, i, none⟩) hb
  exact ⟨(ce 0).trans q0, (ce 1).trans q1, (ce 2).trans q2, (fe 0).trans q3, (fe 1).trans q4, (fe 2).trans q5⟩
/-- one number heard by both: the answers, and what is left -/
theorem rhear_at {m base : Nat} {v : Value} {L L' : List Int} {last last' seq c : Int} {w : World} (hh : Hid (rhear L last seq = (c, L', last'))) (hl : Hid (L.length ≤ 1000)) (h : RW w m base v L last) :
    Calls Try.prog 12 #[.pointer (some ⟨m, 0, none⟩), .int .i64 seq] w (RPost m base w c L' last') := by
  have := rhear_any m base v L last seq w h hl.out
  rw [hh.out] at this
  exact this
/-- both windows in one world, and what was there kept -/
def Sq (w wr : World) (g : Nat) (L : List Int) (last : Int) (any : Bool) (seen : Nat) (v : Value) : Prop :=
  Wm wr g any last seen ∧ RW wr (g + 1) (g + 2) v L last ∧ Below w.heap.size w wr
theorem Sq.drew {w wr : World} {g : Nat} {L : List Int} {last : Int} {any : Bool} {seen : Nat} {v : Value} (h : Sq w wr g L last any seen v) : Sq w wr.drew g L last any seen v := ⟨h.1, h.2.1, h.2.2.drew⟩
theorem Sq.quiet {w wr w' : World} {g : Nat} {L : List Int} {last : Int} {any : Bool} {seen : Nat} {v : Value} (h : Sq w wr g L last any seen v) (q : Quiet wr w') : Sq w w' g L last any seen v := by
  obtain ⟨n, rfl⟩ := q
  refine ⟨h.1, h.2.1, ?_⟩
  have hb := h.2.2
  clear h
  exact below_drewN hb n
theorem has_at {b : Nat} {any : Bool} {last : Int} {seen : Nat} {seq : Int} {B : Bool} {w : World} (hB : Hid (hasB any last seen seq = B)) (hs : Hid (seen < 18446744073709551616)) (h : Wm w b any last seen) :
    Calls Try.prog 14 #[.pointer (some ⟨b, 0, none⟩), .int .i64 seq] w fun e w' => e = .returned (.bool B) ∧ Quiet w w' := by
  have := has_any b any last seen seq w h hs.out
  rw [hB.out] at this
  exact this
theorem rhas_at {m base : Nat} {v : Value} {L : List Int} {last seq : Int} {B : Bool} {w : World} (hB : Hid (decide (seq ∈ L) = B)) (hl : Hid (L.length ≤ 1000)) (h : RW w m base v L last) :
    Calls Try.prog 15 #[.pointer (some ⟨m, 0, none⟩), .int .i64 seq] w fun e w' => e = .returned (.bool B) ∧ w = w' := by
  have := rhas_any m base v L last seq w h hl.out
  rw [hB.out] at this
  exact this
theorem count_at {b : Nat} {any : Bool} {last : Int} {seen n : Nat} {w : World} (hn : Hid (Pop.cnt 64 seen = n)) (hs : Hid (seen < 18446744073709551616)) (h : Wm w b any last seen) :
    Calls Try.prog 11 #[.pointer (some ⟨b, 0, none⟩)] w fun e w' => e = .returned (.int .i64 n) ∧ w = w' := by
  have := count_any b any last seen w h hs.out
  rw [hn.out] at this
  exact this
theorem RW.made (w : World) : RW ((w.alloc (.cells #[.bool false, .int .i64 0, .int .u64 0] 41)).alloc (.cells #[.slice none 0 0, .int .i64 0] 34)) (w.heap.size + 1) (w.heap.size + 2) (.slice none 0 0) [] 0 := by
  refine ⟨?_, ?_, ?_, ?_, World.ownsRow_nil _ _ _ _, by omega, by simp⟩ <;> simp [go_sem]
set_option maxRecDepth 100000 in
set_option maxHeartbeats 4000000 in
theorem plays_walk (a0 : Option Addr) (len0 cap0 : Nat) (z0 : List Int) (a1 : Int) (w : World) (w0 : IsRow .i64 w a0 len0 cap0 z0) :
    Calls Try.prog 5 #[.slice a0 len0 cap0, .int .i64 a1] w fun e w' => e = .returned (.bool true) ∧ Below w.heap.size w w' := by
  obtain ⟨hm, hrow⟩ := w0.at
  have HR := Lib.hid hrow
  clear hrow w0
  have P0 : Hid (Pl ((w.alloc (.cells #[.bool false, .int .i64 0, .int .u64 0] 41)).alloc (.cells #[.slice none 0 0, .int .i64 0] 34)) w.heap.size [] 0 false 0 (.slice none 0 0)) :=
    ⟨(Wm.made w).keep (B := w.heap.size + 1) ((Below.refl _ _).alloc (by simp) _) (by omega), RW.made w, Rl.start⟩
  go_enter Try.func5, Try.ntmps5
  go_wp2_with (go_at_call 8; refine (new_any _).mono ?_; rintro e w' ⟨rfl, rfl⟩)
  go_loopw [7] (fun i wr => ∃ (k : Nat) (L : List Int) (last : Int) (any : Bool) (seen : Nat) (v : Value), k ≤ len0 ∧ k ≤ 200 ∧ i = .int .i64 k ∧ Pl wr w.heap.size L last any seen v ∧ Below w.heap.size w wr) (fun i _ => len0 - (intOf i).toNat)
  case atStart => exact ⟨0, [], 0, false, 0, _, by omega, by omega, rfl, P0.out, by go_grown⟩
  case round =>
    clear P0
    obtain ⟨k, L, last, any, seen, v, hk, hk2, rfl, hp, hb⟩ := hrel
    have HB := Lib.hid hb
    have HP := Lib.hid hp
    have hlen : L.length ≤ 64 := by rw [← cnt_same hp.2.2]; exact Pop.cnt_le 64 seen
    have HL : Hid (L.length ≤ 1000) := by unfold Hid; omega
    have HS : Hid (seen < 18446744073709551616) := hp.2.2.lt
    clear hp hlen
    by_cases hlt : k < len0 ∧ k < 200
    · obtain ⟨hl1, hl2⟩ := hlt
      obtain ⟨b, off, rfl, hc0⟩ := HR.out k hl1
      have hbl := World.block_lt_of_cell? _ _ hc0
      have hc : wr.cell? ⟨b, off + k, none⟩ = some (.int .i64 (z0.getD k 0)) := (hb.cell hbl).trans hc0
      have hbl' : b < w.heap.size := hbl
      clear hc0 hb hbl
      generalize z0.getD k 0 = z at *
      obtain ⟨c, L', last', any', seen', hA, hR, hrl'⟩ := hear_same HP.out.2.2 z
      have HA := Lib.hid hA
      have HRr := Lib.hid hR
      have HRl := Lib.hid hrl'
      clear hA hR hrl'
      have W0 : Hid (Wm wr.drew w.heap.size any last seen) := HP.out.1
      have R0 : Hid (RW wr.drew (w.heap.size + 1) (w.heap.size + 2) v L last) := HP.out.2.1
      have B0 := Lib.hid HB.out.drew
      have i1 : (0 : Int) ≤ (k : Int) := by omega
      have i2 : (k : Int) < (len0 : Int) := by omega
      go_wp2_with fail
      go_region_held3 (fun w' => w'.cell? ⟨b, off + k, none⟩ = some (.int .i64 z)) (first | exact hc | assumption)
        (first | (go_at_call 9; refine (hear_at HA HS W0.out).mono ?_; rintro e w1 ⟨rfl, k1, t1⟩; have W1 := Lib.hid k1; have R1 := Lib.hid (R0.out.touch t1 (by omega) (by omega)); have B1 := Lib.hid (t1.below B0.out (Nat.le_refl _)); have hc1 : w1.cell? ⟨b, off + k, none⟩ = some (.int .i64 z) := (t1.cell (p := ⟨b, off + k, none⟩) (by show b ≠ _; omega)).trans hc; clear k1 t1) | (go_at_call 12; refine (rhear_at HRr HL R1.out).mono ?_; rintro e w2 ⟨rfl, k2, t2⟩; have R2 := Lib.hid k2; have W2 := Lib.hid (W1.out.kp t2 (by omega) (by omega)); have B2 := Lib.hid (t2.below B1.out (Nat.le_succ _) (Nat.lt_succ_self _)); have hc2 : w2.cell? ⟨b, off + k, none⟩ = some (.int .i64 z) := (World.cell?_of_block (w := w1) (a := ⟨b, off + k, none⟩) (t2.block b (by omega) (by omega))).trans hc1; clear k2 t2))
      go_wp2_with fail
      refine (last_any _ _ _ _ _ W2.out).mono ?_
      rintro e w3 ⟨rfl, rfl⟩
      go_wp2_with fail
      obtain ⟨v', hr2⟩ := R2.out
      obtain ⟨ra, rcap, rfl, -⟩ := hr2.shape
      have HL' : Hid (L'.length ≤ 1000) := by
        have := Pop.cnt_le 64 seen'
        rw [cnt_same HRl.out] at this
        unfold Hid; omega
      have HS' : Hid (seen' < 18446744073709551616) := HRl.out.lt
      have Hh : Hid (hasB any' last' seen' z = decide (z ∈ L')) := has_same HRl.out z
      have Hg : Hid (decide (z ∈ L') = decide (z ∈ L')) := rfl
      obtain ⟨B, hB⟩ : ∃ B, decide (z ∈ L') = B := ⟨_, rfl⟩
      have Hh2 : Hid (hasB any' last' seen' z = B) := by rw [← hB]; exact Hh.out
      have Hg2 : Hid (decide (z ∈ L') = B) := hB
      clear Hh Hg hB
      obtain ⟨ln, hln⟩ : ∃ ln, L'.length = ln := ⟨_, rfl⟩
      have Hn : Hid (Pop.cnt 64 seen' = ln) := (cnt_same HRl.out).trans hln
      have hlm : ln ≤ 1000 := by rw [← hln]; exact HL'.out
      have l0 : w2.cell? ⟨w.heap.size + 1, 0, none⟩ = some (.slice ra ln rcap) := by rw [← hln]; exact hr2.1
      have l1 : w2.cell? ⟨w.heap.size + 1, 1, none⟩ = some (.int .i64 last') := hr2.2.1
      have hcase : (any' = true ∧ 0 < ln) ∨ (any' = false ∧ ln = 0) := by
        by_cases hL : L' = []
        · subst hL; right; exact ⟨HRl.out.any, hln.symm⟩
        · left; refine ⟨any_ne HRl.out hL, ?_⟩
          rw [← hln]; exact List.length_pos_iff.2 hL
      have HR2 : Hid (RW w2 (w.heap.size + 1) (w.heap.size + 2) (.slice ra L'.length rcap) L' last') := hr2
      clear hr2 R2 hln R0 W0 B0 R1 W1 B1 HP HB hc
      have hfin : ∀ n, Pl (w2.drewN n) w.heap.size L' last' any' seen' (.slice ra L'.length rcap) ∧ Below w.heap.size w (w2.drewN n) := fun n => ⟨⟨W2.out, HR2.out, HRl.out⟩, below_drewN B2.out n⟩
      have Hfin := Lib.hid hfin
      clear hfin
      have Hany := Lib.hid HRl.out
      rcases hcase with ⟨rfl, h0⟩ | ⟨rfl, rfl⟩
      all_goals
        have hla : la true last' = last' := rfl
        go_quiet ((first | (go_at_call 11; exact quiet_left (count_at Hn HS' W2.out)) | (go_at_call 14; exact Calls.quiet_of (has_at Hh2 HS' W2.out)) | (go_at_call 15; exact quiet_left (rhas_at Hg2 HL' HR2.out))))
        go_wp2_with fail
        go_roundw
        case rel => exact ⟨k + 1, L', last', _, seen', _, by omega, by omega, by go_num, (Hfin.out _).1, (Hfin.out _).2⟩
        case measure => simp [intOf]; omega
    · have hne : ¬ k < len0 ∨ (k < len0 ∧ ¬ k < 200) := by omega
      have Hh : Hid (hasB any last seen a1 = decide (a1 ∈ L)) := has_same HP.out.2.2 a1
      have W0 : Hid (Wm wr w.heap.size any last seen) := HP.out.1
      have R0 : Hid (RW wr (w.heap.size + 1) (w.heap.size + 2) v L last) := HP.out.2.1
      clear hlt hb HP HR
      have Hg : Hid (decide (a1 ∈ L) = decide (a1 ∈ L)) := rfl
      obtain ⟨B, hB⟩ : ∃ B, decide (a1 ∈ L) = B := ⟨_, rfl⟩
      have Hh2 : Hid (hasB any last seen a1 = B) := by rw [← hB]; exact Hh.out
      have Hg2 : Hid (decide (a1 ∈ L) = B) := hB
      clear Hh Hg hB
      rcases hne with hne | ⟨hne1, hne⟩
      all_goals
        go_wp2_with fail
        refine (has_at Hh2 HS W0.out).mono ?_
        rintro e w1 ⟨rfl, n1, rfl⟩
        have R1 : Hid (RW (wr.drewN n1) (w.heap.size + 1) (w.heap.size + 2) v L last) := R0.out
        go_wp2_with fail
        refine (rhas_at Hg2 HL R1.out).mono ?_
        rintro e w2 ⟨rfl, rfl⟩
        have B1 := Lib.hid (below_drewN HB.out n1)
        go_wp2_with fail
        refine (awake_any _).mono ?_
        rintro e w' ⟨rfl, hb'⟩
        have HB' := Lib.hid hb'
        clear hb'
        go_wp2
        go_ret
        exact ⟨rfl, B1.out.trans (HB'.out.mono B1.out.size)⟩
end Go.Proofs.Ytmpiildallppaaa
