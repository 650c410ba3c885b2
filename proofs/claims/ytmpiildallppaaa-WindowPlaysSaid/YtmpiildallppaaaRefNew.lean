/-
  The contract of the reference's Hear where a number is ahead of all. Conditions: the cells of the window and of its list are known; the list is short.
-/
import Derived.Test.YtmpiildallppaaaRefHear
namespace Go.Proofs.Ytmpiildallppaaa
open Go.ChangeShapes Go.WideShapes Go.ChangeAt Go.RowKit
set_option linter.unusedVariables false
def nearB (seq s : Int) : Bool := decide (1 ≤ df s seq ∧ df s seq ≤ 63)
/-- what is kept of the first k -/
def Fk (L : List Int) (seq : Int) (k : Nat) : List Int := seq :: (L.take k).filter (nearB seq)
theorem Fk_len (L : List Int) (seq : Int) (k : Nat) : 0 < (Fk L seq k).length ∧ (Fk L seq k).length ≤ k + 1 := by
  unfold Fk
  have := List.length_filter_le (nearB seq) (L.take k)
  simp at this ⊢
  omega
theorem Fk_yes {L : List Int} {seq : Int} {k : Nat} (hk : k < L.length) (h : nearB seq (L.getD k 0) = true) : Fk L seq (k + 1) = Fk L seq k ++ [L.getD k 0] := by
  have e : L.getD k 0 = L[k] := by rw [List.getD_eq_getElem?_getD, List.getElem?_eq_getElem hk]; rfl
  rw [e] at h ⊢
  unfold Fk
  rw [List.take_succ_eq_append_getElem hk, List.filter_append, List.filter_cons, if_pos h]
  rfl
theorem Fk_no {L : List Int} {seq : Int} {k : Nat} (hk : k < L.length) (h : nearB seq (L.getD k 0) = false) : Fk L seq (k + 1) = Fk L seq k := by
  have e : L.getD k 0 = L[k] := by rw [List.getD_eq_getElem?_getD, List.getElem?_eq_getElem hk]; rfl
  rw [e] at h
  unfold Fk
  rw [List.take_succ_eq_append_getElem hk, List.filter_append, List.filter_cons, if_neg (by rw [h]; decide)]
  simp
theorem own_one (w : World) (x : Int) : (w.alloc (.cells #[.int .i64 x] 3)).ownsRow w.heap.size 3 1 (.slice (some ⟨w.heap.size, 0, none⟩) 1 1) 1 [.int .i64 x] := by
  refine ⟨rfl, .inr ⟨w.heap.size, 1, #[.int .i64 x], rfl, Nat.le_refl _, ?_, Nat.le_refl _, by decide, rfl, rfl⟩⟩
  show (w.heap.push _)[w.heap.size]? = _
  simp
set_option maxRecDepth 100000 in
set_option maxHeartbeats 2000000 in
theorem rhear_new (m base : Nat) (v : Value) (L : List Int) (last seq : Int) (w : World) (h : RW w m base v L last) (hlen : L.length ≤ 1000) (hm : mayB seq = true)
    (hc : L = [] ∨ (L ≠ [] ∧ df last seq ≠ 0 ∧ df last seq ≠ 32768 ∧ 0 < df last seq ∧ seq ∉ L)) :
    Calls Try.prog 12 #[.pointer (some ⟨m, 0, none⟩), .int .i64 seq] w (RPost m base w 0 (Fk L seq L.length) seq) := by
  have HW := Lib.hid h
  obtain ⟨a, cap, rfl, hcl⟩ := h.shape
  obtain ⟨h0, h1, f0, f1, hown, hmb, hbs⟩ := h
  have HH := Lib.hid (rhas_any m base _ L last seq w HW.out hlen)
  have HC := Lib.hid hcl
  have hd := df_bd last seq
  obtain ⟨d1, d2⟩ := hd
  obtain ⟨i0, hi, hz0, hz1, hz2⟩ := info_parts info3
  have O1 : Hid (((w.setCell ⟨m, 1, none⟩ (.int .i64 seq)).alloc (.cells #[.int .i64 seq] 3)).ownsRow w.heap.size 3 1 (.slice (some ⟨w.heap.size, 0, none⟩) 1 1) (Fk L seq 0).length (ics (Fk L seq 0))) := by
    have := own_one (w.setCell ⟨m, 1, none⟩ (.int .i64 seq)) seq
    rw [World.size_setCell] at this
    exact this
  have c0 : (w.setCell ⟨m, 1, none⟩ (.int .i64 seq)).cell? ⟨m, 0, none⟩ = some (.slice a L.length cap) := by simp [go_sem, *]
  have g0 : (w.setCell ⟨m, 1, none⟩ (.int .i64 seq)).frozen? ⟨m, 0, none⟩ = false := by simp [go_sem, *]
  have c1 : (w.setCell ⟨m, 1, none⟩ (.int .i64 seq)).cell? ⟨m, 1, none⟩ = some (.int .i64 seq) := by simp [go_sem, *]
  have g1 : (w.setCell ⟨m, 1, none⟩ (.int .i64 seq)).frozen? ⟨m, 1, none⟩ = false := by simp [go_sem, *]
  have nm := World.new_ne w _ h0
  simp only at nm
  have ca : ((w.setCell ⟨m, 1, none⟩ (.int .i64 seq)).alloc (.cells #[.int .i64 seq] 3)).cell? ⟨m, 0, none⟩ = some (.slice a L.length cap) :=
    (((Below.refl w.heap.size _).alloc (by rw [World.size_setCell]; exact Nat.le_refl _) _ : Below w.heap.size (w.setCell ⟨m, 1, none⟩ (.int .i64 seq)) _).cell (p := ⟨m, 0, none⟩) (by show m < _; omega)).trans c0
  have C0 := Lib.hid c0
  have G0 := Lib.hid g0
  have C1 := Lib.hid c1
  have G1 := Lib.hid g1
  clear c0 g0 c1 g1 hown hcl
  rcases hc with hL | ⟨hL, e0, e1, e2, e3⟩
  rotate_left
  have hpos : 0 < L.length := List.length_pos_iff.2 hL
  have t0 : (df last seq == 0) = false := beq_eq_false_iff_ne.2 e0
  have t1 : (df last seq == 32768) = false := beq_eq_false_iff_ne.2 e1
  have HD := Lib.hid (show decide (seq ∈ L) = false from decide_eq_false e3)
  clear hL e0 e1 e3
  rotate_right
  have hzero : L.length = 0 := by rw [hL]; rfl
  have HD := Lib.hid (show decide (seq ∈ L) = false by rw [hL]; rfl)
  have hz : ¬ 0 < L.length := by omega
  clear hL hzero
  all_goals
    go_enter Try.func12, Try.ntmps12
    go_wp2_with (first | (go_at_call 20; refine (rmay_any _ _).mono ?_; rintro e w' ⟨rfl, rfl⟩) | (go_at_call 21; refine (rdiff_any _ _ _).mono ?_; rintro e w' ⟨rfl, rfl⟩) | (go_at_call 15; refine HH.out.mono ?_; rintro e w' ⟨rfl, rfl⟩; rw [HD.out]))
    go_loopw [6, 64] (fun v6 i wr => ∃ k : Nat, k ≤ L.length ∧ i = .int .i64 k ∧ wr.ownsRow w.heap.size 3 1 v6 (Fk L seq k).length (ics (Fk L seq k)) ∧ Below w.heap.size (w.setCell ⟨m, 1, none⟩ (.int .i64 seq)) wr ∧ w.heap.size ≤ wr.heap.size) (fun _ i _ => L.length - (intOf i).toNat)
    case atStart => exact ⟨0, by omega, rfl, O1.out, (Below.refl _ _).alloc (by rw [World.size_setCell]; exact Nat.le_refl _) _, by simp⟩
    case round =>
      clear O1
      try (have HZ := Lib.hid hz; clear hz)
      obtain ⟨k, hk, rfl, ho, hb, hsz⟩ := hrel
      have HO := Lib.hid ho
      have HB := Lib.hid hb
      clear ho
      by_cases hlt : k < L.length
      · obtain ⟨g, hg, rfl, hck0⟩ := HC.out k hlt
        have hgl : g < w.heap.size := World.block_lt_of_cell? w _ hck0
        have hck1 : (w.setCell ⟨m, 1, none⟩ (.int .i64 seq)).cell? ⟨g, k, none⟩ = some (.int .i64 (L.getD k 0)) := by
          have hne : ¬ m = g := by omega
          rw [← hck0]; simp [go_sem, *]
        have hck := (hb.cell (p := ⟨g, k, none⟩) hgl).trans hck1
        clear hck0 hck1 hb
        have hfl := Fk_len L seq k
        obtain ⟨q1, q2⟩ := hfl
        rcases Bool.eq_false_or_eq_true (nearB seq (L.getD k 0)) with hn | hn
        · have HF := Lib.hid (Fk_yes hlt hn)
          have hn1 : 1 ≤ df (L.getD k 0) seq := by unfold nearB at hn; rw [decide_eq_true_eq] at hn; omega
          have hn2 : df (L.getD k 0) seq ≤ 63 := by unfold nearB at hn; rw [decide_eq_true_eq] at hn; omega
          clear hn
          generalize L.getD k 0 = x at *
          go_wp2_with (first | (go_at_call 21; refine (rdiff_any _ _ _).mono ?_; rintro e w' ⟨rfl, rfl⟩) | (at_builtin; refine wpList_append_own _ rfl (.tmp 77) (.tmp 79) 22 rfl w.heap.size 3 i0 (.int .i64 0) 1 8 Try.underlying22 hi hz0 hz1 hz2 rfl (by decide) _ (Fk L seq k).length (ics (Fk L seq k)) rfl (HO.out.alloc _) ⟨wr.heap.size, 0, none⟩ 1 1 [.int .i64 x] rfl rfl (cell_one_new _ _ _) (ints_oneCell .i64 [x]) (by unfold maxLen; omega) (by omega) (by simp; omega) ?_; intro v2 w2 hown2 hgrow2 _; have HO2 := Lib.hid hown2; have HG2 := Lib.hid hgrow2; clear hown2 hgrow2))
          have hbel : Hid (Below w.heap.size (w.setCell ⟨m, 1, none⟩ (.int .i64 seq)) w2) := (HB.out.alloc hsz _).grown HG2.out (by simp; omega) (row_ge HO.out)
          have hO3' : w2.ownsRow w.heap.size 3 1 v2 (Fk L seq (k + 1)).length (ics (Fk L seq (k + 1))) := by
            have := HO2.out
            rw [HF.out]
            simpa [ics] using this
          have hO3 := Lib.hid hO3'
          have hsz3 : w.heap.size ≤ w2.heap.size := by have := hbel.out.size; rw [World.size_setCell] at this; exact this
          go_roundw
          case rel => exact ⟨k + 1, by omega, by go_num, hO3.out, hbel.out, hsz3⟩
          case measure => simp [intOf]; omega
        · have HF := Lib.hid (Fk_no hlt hn)
          have hn1 : df (L.getD k 0) seq < 1 ∨ 63 < df (L.getD k 0) seq := by unfold nearB at hn; rw [decide_eq_false_iff_not] at hn; omega
          clear hn
          generalize L.getD k 0 = x at *
          rcases hn1 with hn1 | hn1
          all_goals
            go_wp2_with (go_at_call 21; refine (rdiff_any _ _ _).mono ?_; rintro e w' ⟨rfl, rfl⟩)
            go_roundw
            case rel => exact ⟨k + 1, by omega, by go_num, by rw [HF.out]; exact HO.out, HB.out, hsz⟩
            case measure => simp [intOf]; omega
      · obtain rfl : k = L.length := by omega
        obtain ⟨g6, cap6, hv6⟩ := own_pos HO.out (Fk_len L seq L.length).1
        have s0 := (hb.cell (p := ⟨m, 0, none⟩) (by show m < _; omega)).trans C0.out
        have s1 := (hb.frozen (p := ⟨m, 0, none⟩) (by show m < _; omega)).trans G0.out
        have s2 := (hb.cell (p := ⟨m, 1, none⟩) (by show m < _; omega)).trans C1.out
        have s3 := (hb.frozen (p := ⟨m, 1, none⟩) (by show m < _; omega)).trans G1.out
        subst hv6
        clear hb
        go_wp2
        go_ret
        have hkp : Kp m base w (wr.setCell ⟨m, 0, none⟩ (.slice (some ⟨g6, 0, none⟩) (Fk L seq L.length).length cap6)) :=
          (((Kp.refl m base w).set 1 (.int .i64 seq)).trans (Kp.of_below (HB.out.mono hbs))).set 0 _
        refine ⟨rfl, ⟨.slice (some ⟨g6, 0, none⟩) (Fk L seq L.length).length cap6, ?_, ?_, ?_, ?_, own_set (own_base HO.out hbs) hmb 0 _, hmb, ?_⟩, hkp⟩
        · simp [go_sem, *]
        · simp [go_sem, *]
        · simp [go_sem, *]
        · simp [go_sem, *]
        · rw [World.size_setCell]; omega
end Go.Proofs.Ytmpiildallppaaa
