/-
  The contract of the reference's Hear. Conditions: the cells of the window and of its list are known; the list is short.
-/
import Derived.Test.YtmpiildallppaaaRefWin
import Derived.WalkSpells
namespace Go.Proofs.Ytmpiildallppaaa
open Go.ChangeShapes Go.WideShapes Go.ChangeAt Go.RowKit
set_option linter.unusedVariables false
theorem info3 : (Try.prog.info? 3).map (fun i => (i.zero, i.size, i.bytes)) = some (some (.int .i64 0), 1, 8) := by kernel_rfl
/-- below base only block m may have changed -/
structure Kp (m base : Nat) (w w' : World) : Prop where
  os : w'.os = w.os
  tape : w'.tape = w.tape
  output : w'.output = w.output
  size : w.heap.size ≤ w'.heap.size
  block : ∀ k, k < base → k ≠ m → w'.heap[k]? = w.heap[k]?
theorem Kp.refl (m base : Nat) (w : World) : Kp m base w w := ⟨rfl, rfl, rfl, Nat.le_refl _, fun _ _ _ => rfl⟩
theorem Kp.of_below {m base : Nat} {w w' : World} (h : Below base w w') : Kp m base w w' := ⟨h.os, h.tape, h.output, h.size, fun k hk _ => h.block k hk⟩
theorem Kp.set {m base : Nat} {u w : World} (h : Kp m base u w) (i : Nat) (v : Value) : Kp m base u (w.setCell ⟨m, i, none⟩ v) :=
  ⟨h.os, h.tape, h.output, by rw [World.size_setCell]; exact h.size, fun k hk hn => (Below.heap_setCell w ⟨m, i, none⟩ v k hn).trans (h.block k hk hn)⟩
theorem Kp.trans {m base : Nat} {u v w : World} (h : Kp m base u v) (k : Kp m base v w) : Kp m base u w :=
  ⟨k.os.trans h.os, k.tape.trans h.tape, k.output.trans h.output, Nat.le_trans h.size k.size, fun n hn hm => (k.block n hn hm).trans (h.block n hn hm)⟩
theorem Kp.below {m base B : Nat} {a u w : World} (h : Kp m base u w) (hb : Below B a u) (hB : B ≤ m) (hm : m < base) : Below B a w :=
  hb.trans ⟨h.os, h.tape, h.output, h.size, fun k hk => h.block k (by omega) (by omega)⟩
/-- what Hear leaves -/
def RPost (m base : Nat) (w : World) (c : Int) (L : List Int) (last : Int) (e : Ending) (w' : World) : Prop :=
  e = .returned (.int .i64 c) ∧ (∃ v, RW w' m base v L last) ∧ Kp m base w w'
theorem own_set {w : World} {m base : Nat} {v : Value} {n : Nat} {xs : List Value} (h : w.ownsRow base 3 1 v n xs) (hm : m < base) (i : Nat) (u : Value) : (w.setCell ⟨m, i, none⟩ u).ownsRow base 3 1 v n xs := ownsRow_setCell_below h hm u
theorem row_ge {w : World} {base n : Nat} {v : Value} {xs : List Value} (h : w.ownsRow base 3 1 v n xs) : ∀ k, v.ownBlock = some k → base ≤ k := by
  intro k hk
  rcases h.2 with ⟨rfl, _⟩ | ⟨g, cap, cur, rfl, hg, _⟩
  · simp [Value.ownBlock] at hk
  · simp [Value.ownBlock] at hk; omega
theorem two_grown {w w1 w2 : World} {v1 : Value} {n : Nat} {xs : List Value} {o : Obj} (h1 : w.grownBy w1 (Value.slice none 0 0).ownBlock) (hO : w1.ownsRow w.heap.size 3 1 v1 n xs) (h2 : (w1.alloc o).grownBy w2 v1.ownBlock) : Below w.heap.size w w2 := by
  have b1 : Below w.heap.size w w1 := (Below.refl _ _).grown h1 (Nat.le_refl _) (by intro k hk; simp [Value.ownBlock] at hk)
  have b2 : Below w.heap.size w (w1.alloc o) := b1.alloc b1.size o
  exact b2.grown h2 b2.size (row_ge hO)
theorem own_pos {w : World} {base n : Nat} {v : Value} {xs : List Value} (h : w.ownsRow base 3 1 v n xs) (hn : 0 < n) : ∃ g cap, v = .slice (some ⟨g, 0, none⟩) n cap := by
  rcases h.2 with ⟨_, h0⟩ | ⟨g, cap, cur, e, _⟩
  · omega
  · exact ⟨g, cap, e⟩
theorem own_base {w : World} {base base' n : Nat} {v : Value} {xs : List Value} (h : w.ownsRow base 3 1 v n xs) (hb : base' ≤ base) : w.ownsRow base' 3 1 v n xs := by
  refine ⟨h.1, ?_⟩
  rcases h.2 with h2 | ⟨g, cap, cur, e, hg, r⟩
  · exact .inl h2
  · exact .inr ⟨g, cap, cur, e, Nat.le_trans hb hg, r⟩
set_option maxRecDepth 100000 in
set_option maxHeartbeats 2000000 in
theorem rhear_refuse (m base : Nat) (v : Value) (L : List Int) (last seq : Int) (w : World) (h : RW w m base v L last) (hlen : L.length ≤ 1000) (hm : mayB seq = true) (hL : L ≠ [])
    (hr : df last seq = 0 ∨ df last seq = 32768 ∨ df last seq < -63 ∨ seq ∈ L) :
    Calls Try.prog 12 #[.pointer (some ⟨m, 0, none⟩), .int .i64 seq] w (RPost m base w 9 L last) := by
  have HW := Lib.hid h
  obtain ⟨a, cap, rfl, hc⟩ := h.shape
  have h0 := h.1
  have h1 := h.2.1
  have HP : Hid (RPost m base w 9 L last (.returned (.int .i64 9)) w) := ⟨rfl, ⟨_, HW.out⟩, Kp.refl _ _ _⟩
  have HH := Lib.hid (rhas_any m base _ L last seq w h hlen)
  have hpos : 0 < L.length := List.length_pos_iff.2 hL
  have hd := df_bd last seq
  obtain ⟨d1, d2⟩ := hd
  clear h hc hL
  by_cases e0 : df last seq = 0
  · have t0 : (df last seq == 0) = true := by rw [e0]; rfl
    clear hr e0
    go_enter Try.func12, Try.ntmps12
    go_wp2_with (first | (go_at_call 20; refine (rmay_any _ _).mono ?_; rintro e w' ⟨rfl, rfl⟩) | (go_at_call 21; refine (rdiff_any _ _ _).mono ?_; rintro e w' ⟨rfl, rfl⟩))
    go_ret
    exact HP.out
  have t0 : (df last seq == 0) = false := beq_eq_false_iff_ne.2 e0
  by_cases e1 : df last seq = 32768
  · have t1 : (df last seq == 32768) = true := by rw [e1]; rfl
    clear hr e0 e1
    go_enter Try.func12, Try.ntmps12
    go_wp2_with (first | (go_at_call 20; refine (rmay_any _ _).mono ?_; rintro e w' ⟨rfl, rfl⟩) | (go_at_call 21; refine (rdiff_any _ _ _).mono ?_; rintro e w' ⟨rfl, rfl⟩))
    go_ret
    exact HP.out
  have t1 : (df last seq == 32768) = false := beq_eq_false_iff_ne.2 e1
  by_cases e2 : df last seq < -63
  · clear hr e0 e1
    go_enter Try.func12, Try.ntmps12
    go_wp2_with (first | (go_at_call 20; refine (rmay_any _ _).mono ?_; rintro e w' ⟨rfl, rfl⟩) | (go_at_call 21; refine (rdiff_any _ _ _).mono ?_; rintro e w' ⟨rfl, rfl⟩))
    go_ret
    exact HP.out
  · have e3 : seq ∈ L := by rcases hr with h | h | h | h; exact absurd h e0; exact absurd h e1; exact absurd h e2; exact h
    have HD := Lib.hid (show decide (seq ∈ L) = true from decide_eq_true e3)
    clear hr e0 e1 e3
    go_enter Try.func12, Try.ntmps12
    go_wp2_with (first | (go_at_call 20; refine (rmay_any _ _).mono ?_; rintro e w' ⟨rfl, rfl⟩) | (go_at_call 21; refine (rdiff_any _ _ _).mono ?_; rintro e w' ⟨rfl, rfl⟩) | (go_at_call 15; refine HH.out.mono ?_; rintro e w' ⟨rfl, rfl⟩; rw [HD.out]))
    go_ret
    exact HP.out
set_option maxRecDepth 100000 in
set_option maxHeartbeats 2000000 in
theorem rhear_behind (m base : Nat) (v : Value) (L : List Int) (last seq : Int) (w : World) (h : RW w m base v L last) (hlen : L.length ≤ 1000) (hm : mayB seq = true) (hL : L ≠ [])
    (e0 : df last seq ≠ 0) (e1 : df last seq ≠ 32768) (e2 : ¬ df last seq < -63) (e3 : seq ∉ L) (e4 : df last seq < 0) :
    Calls Try.prog 12 #[.pointer (some ⟨m, 0, none⟩), .int .i64 seq] w (RPost m base w 0 (L ++ [seq]) last) := by
  have HW := Lib.hid h
  obtain ⟨a, cap, rfl, hc⟩ := h.shape
  obtain ⟨h0, h1, f0, f1, hown, hmb, hbs⟩ := h
  have HH := Lib.hid (rhas_any m base _ L last seq w HW.out hlen)
  have HC := Lib.hid hc
  have hpos : 0 < L.length := List.length_pos_iff.2 hL
  have hd := df_bd last seq
  obtain ⟨d1, d2⟩ := hd
  have t0 : (df last seq == 0) = false := beq_eq_false_iff_ne.2 e0
  have t1 : (df last seq == 32768) = false := beq_eq_false_iff_ne.2 e1
  have HD := Lib.hid (show decide (seq ∈ L) = false from decide_eq_false e3)
  obtain ⟨g, hg, rfl, _⟩ := hc 0 hpos
  have hnews : Hid (∀ (j : Nat) (u : Value), (ics L)[j]? = some u → w.cell? ((⟨g, 0, none⟩ : Addr).add j) = some u) := by
    intro j u hu
    simp only [ics, List.getElem?_map, Option.map_eq_some_iff] at hu
    obtain ⟨x, hx, rfl⟩ := hu
    have hj : j < L.length := (List.getElem?_eq_some_iff.1 hx).1
    obtain ⟨g', _, e, hcj⟩ := HC.out j hj
    simp only [Option.some.injEq, Addr.mk.injEq, and_true] at e
    subst e
    rw [Go.WideShapes.add_plain, Nat.zero_add, hcj]
    simp [List.getD_eq_getElem?_getD, hx]
  obtain ⟨i0, hi, hz0, hz1, hz2⟩ := info_parts info3
  have hone : Hid (∀ u ∈ ics L, u.oneCell' = true) := by
    intro u hu; simp only [ics, List.mem_map] at hu; obtain ⟨x, _, rfl⟩ := hu; rfl
  have hnil : Hid (w.ownsRow w.heap.size 3 1 (.slice none 0 0) 0 []) := World.ownsRow_nil _ _ _ _
  have HI := Lib.hid (show (ics L).length = L.length * 1 by simp [ics])
  clear hc e0 e1 e3 hL hown
  go_enter Try.func12, Try.ntmps12
  go_wp2_with (first | (go_at_call 20; refine (rmay_any _ _).mono ?_; rintro e w' ⟨rfl, rfl⟩) | (go_at_call 21; refine (rdiff_any _ _ _).mono ?_; rintro e w' ⟨rfl, rfl⟩) | (go_at_call 15; refine HH.out.mono ?_; rintro e w' ⟨rfl, rfl⟩; rw [HD.out]) | (at_builtin; refine wpList_append_own _ rfl (.const (.slice none 0 0)) (.tmp 46) 22 rfl w.heap.size 3 i0 (.int .i64 0) 1 8 Try.underlying22 hi hz0 hz1 hz2 rfl (by decide) (.slice none 0 0) 0 [] rfl hnil.out ⟨g, 0, none⟩ L.length cap (ics L) rfl HI.out hnews.out hone.out (by unfold maxLen; omega) (by omega) (Nat.le_refl _) ?_; intro v1 w1 hown1 hgrow1 _; simp only [Nat.zero_add, List.nil_append] at hown1; have HO1 := Lib.hid hown1; have HG1 := Lib.hid hgrow1; have hsz1 := hgrow1.size; clear hown1 hgrow1) | (at_builtin; go_must (refine wpList_append_own _ rfl (.tmp 47) (.tmp 49) 22 rfl w.heap.size 3 i0 (.int .i64 0) 1 8 Try.underlying22 hi hz0 hz1 hz2 rfl (by decide) v1 L.length (ics L) rfl (HO1.out.alloc _) ⟨w1.heap.size, 0, none⟩ 1 1 [.int .i64 seq] rfl rfl (cell_one_new _ _ _) (ints_oneCell .i64 [seq]) (by unfold maxLen; omega) (by omega) (by simp; omega) ?_); intro v2 w2 hown2 hgrow2 _; obtain ⟨g2, cap2, hv2⟩ := own_pos hown2 (by omega); subst hv2; have HO2 := Lib.hid hown2; have hb2 := two_grown HG1.out HO1.out hgrow2; have c2 := (hb2.cell (p := ⟨m, 0, none⟩) (by show m < _; omega)).trans h0; have c3 := (hb2.frozen (p := ⟨m, 0, none⟩) (by show m < _; omega)).trans f0; have HB2 := Lib.hid hb2; clear hown2 hgrow2 hb2))
  go_ret
  have hw1 := (HB2.out.cell (p := ⟨m, 1, none⟩) (by show m < _; omega)).trans h1
  have hf1 := (HB2.out.frozen (p := ⟨m, 1, none⟩) (by show m < _; omega)).trans f1
  have hown : w2.ownsRow base 3 1 (.slice (some ⟨g2, 0, none⟩) (L.length + 1) cap2) (L ++ [seq]).length (ics (L ++ [seq])) := by
    have := own_base HO2.out hbs
    simpa [ics] using this
  refine ⟨rfl, ⟨.slice (some ⟨g2, 0, none⟩) (L.length + 1) cap2, ?_, ?_, ?_, ?_, own_set hown hmb 0 _, hmb, ?_⟩, (Kp.of_below (HB2.out.mono hbs)).set 0 _⟩
  · simp [go_sem, *]
  · simp [go_sem, *]
  · simp [go_sem, *]
  · simp [go_sem, *]
  · rw [World.size_setCell]; exact Nat.le_trans hbs HB2.out.size
end Go.Proofs.Ytmpiildallppaaa
