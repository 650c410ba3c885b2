/-
  SumTells, walked: the law returns true for all bytes, every place and every change of four bytes, and writes nothing that was there. Conditions: the slice reads as a row of bytes; it takes at most the reach of the form.
-/
import Derived.Test.YtleagghfhehmpaaLinesWalk
import Derived.Test.YtleagghfhehmpaaTellsMath
import Derived.Lib.Bytes
namespace Go.Proofs.Ytleagghfhehmpaa
open Go.ChangeShapes Go.WideShapes Go.ChangeAt Go.RowKit
set_option linter.unusedVariables false
/-- a row of bytes of the call's own -/
def Own8 (w : World) (g : Nat) (l : List Nat) : Prop := ∀ j, j < l.length → w.cell? ⟨g, j, none⟩ = some (.int .u8 (l.getD j 0 : Nat)) ∧ w.frozen? ⟨g, j, none⟩ = false
theorem Own8.row {w : World} {g : Nat} {l : List Nat} (h : Own8 w g l) (hm : l.length ≤ 9223372036854775807) (hb : ∀ c ∈ l, c < 256) : Rw .u8 256 w (some ⟨g, 0, none⟩) l :=
  ⟨hm, hb, fun i hi => ⟨g, 0, rfl, by rw [Nat.zero_add]; exact (h i hi).1⟩⟩
theorem Own8.set {w : World} {g P k : Nat} {b y : List Nat} (h : Own8 w g (chg b P k y)) (hk : P + k < b.length) (v : Nat) (hv : v = b.getD (P + k) 0 ^^^ y.getD k 0) : Own8 (w.setCell ⟨g, P + k, none⟩ (.int .u8 (v : Int))) g (chg b P (k + 1) y) := by
  intro j hj
  rw [chg_len] at hj
  obtain ⟨h1, h2⟩ := h j (by rw [chg_len]; exact hj)
  obtain ⟨k1, k2⟩ := h (P + k) (by rw [chg_len]; exact hk)
  rw [chg_at hj] at h1
  rw [chg_at hj]
  by_cases e : j = P + k
  · subst e
    rw [if_pos (by omega), show P + k - P = k by omega, ← hv]
    refine ⟨?_, ?_⟩ <;> simp [go_sem, *]
  · have e' : ¬ P + k = j := fun x => e x.symm
    have e2 : (if P ≤ j ∧ j < P + (k + 1) then b.getD j 0 ^^^ y.getD (j - P) 0 else b.getD j 0) = (if P ≤ j ∧ j < P + k then b.getD j 0 ^^^ y.getD (j - P) 0 else b.getD j 0) := by
      by_cases hjk : P ≤ j ∧ j < P + k
      · rw [if_pos hjk, if_pos (by omega)]
      · rw [if_neg hjk, if_neg (by omega)]
    rw [e2]
    refine ⟨?_, ?_⟩
    · rw [← h1]; simp [go_sem, *]
    · simp [go_sem, *]
theorem run_str {w : World} {a : Option Addr} {l : List Nat} (c : Nat) (h : Rw .u8 256 w a l) (hp : 0 < l.length) :
    Sem.run Try.prog (convert 22 9 (.slice a l.length c)) w = .ok (.string (strOfNums (l.map Int.ofNat))) w := by
  obtain ⟨bb, bo, rfl, _⟩ := h.2.2 0 hp
  refine run_convert_bytes_arg w 22 5 Try.underlying22 Try.underlying5 bb bo l.length c (l.map Int.ofNat) (by simp) ?_ 9 Try.underlying9
  intro i hi
  obtain ⟨b', o', e1, e2⟩ := h.2.2 i hi
  simp only [Option.some.injEq, Addr.mk.injEq, and_true] at e1
  obtain ⟨rfl, rfl⟩ := e1
  rw [e2]
  congr 2
  simp [List.getD_eq_getElem?_getD, hi]
theorem str_eq {b c : List Nat} (hb : ∀ x ∈ b, x < 256) (hc : ∀ x ∈ c, x < 256) (h : (strOfNums (b.map Int.ofNat)).toList = (strOfNums (c.map Int.ofNat)).toList) : b = c := by
  rw [Lib.strOfNums_toList, Lib.strOfNums_toList] at h
  unfold Lib.bytesOf at h
  have h2 : b.length = c.length := by simpa using congrArg List.length h
  apply List.ext_getElem h2
  intro i h3 h4
  have h5 := congrArg (fun l : List UInt8 => l[i]?) h
  simp only [List.getElem?_map, List.getElem?_eq_getElem h3, List.getElem?_eq_getElem h4, Option.map_some, Option.some.injEq] at h5
  have h6 := congrArg UInt8.toNat h5
  have l1 := hb _ (List.getElem_mem h3)
  have l2 := hc _ (List.getElem_mem h4)
  simp at h6
  omega
theorem place_in (at' : Int) (n : Nat) (hn : 0 < n) (hm : n ≤ 140737488351232) : ∃ P : Nat, P < n ∧ wrap64 ((IntKind.u64.wrap at').tmod (n : Int)) = (P : Int) := by
  rw [IntKind.wrap_u64, Int.tmod_eq_emod_of_nonneg (by omega)]
  have h1 := Int.emod_nonneg (at' % 18446744073709551616) (b := (n : Int)) (by omega)
  have h2 := Int.emod_lt_of_pos (at' % 18446744073709551616) (b := (n : Int)) (by omega)
  refine ⟨(at' % 18446744073709551616 % (n : Int)).toNat, by omega, ?_⟩
  unfold wrap64
  omega
theorem own_shape {w : World} {base n : Nat} {v : Value} {b : List Nat} (h : w.ownsRow base 5 1 v n ([] ++ b.map fun x : Nat => Value.int .u8 (x : Int))) (hn : n = b.length) (hp : 0 < n) :
    ∃ g cap, v = .slice (some ⟨g, 0, none⟩) n cap ∧ base ≤ g ∧ Own8 w g b := by
  have h' := h
  rcases h.2 with ⟨_, h0⟩ | ⟨g, cap, cur, rfl, hg, _⟩
  · omega
  · refine ⟨g, cap, rfl, hg, fun j hj => ⟨?_, h'.frozenAt j⟩⟩
    rw [h'.cellAt j (by omega)]
    simp [List.getD_eq_getElem?_getD, hj]
/-- the four bytes, in the box that the call makes -/
def Box4 (w : World) (g : Nat) (y0 y1 y2 y3 : Nat) : Prop := ∀ j, j < 4 → w.cell? ⟨g, j, none⟩ = some (.int .u8 (([y0, y1, y2, y3] : List Nat).getD j 0 : Nat))
theorem Box4.made (w : World) (y0 y1 y2 y3 : Nat) : Box4 (w.alloc (.cells #[.int .u8 y0, .int .u8 y1, .int .u8 y2, .int .u8 y3] 32)) w.heap.size y0 y1 y2 y3 := by
  intro j hj
  match j, hj with
  | 0, _ => simp [go_sem]
  | 1, _ => simp [go_sem]
  | 2, _ => simp [go_sem]
  | 3, _ => simp [go_sem]
theorem Box4.keep {w w' : World} {g B y0 y1 y2 y3 : Nat} (h : Box4 w g y0 y1 y2 y3) (hb : Below B w w') (hg : g < B) : Box4 w' g y0 y1 y2 y3 :=
  fun j hj => (hb.cell (p := ⟨g, j, none⟩) hg).trans (h j hj)
/-- what every call behind the loop keeps -/
def S2 (w0 w : World) (g : Nat) (a0 : Option Addr) (d b : List Nat) : Prop := Rw .u8 256 w (some ⟨g, 0, none⟩) d ∧ Rw .u8 256 w a0 b ∧ Below w0.heap.size w0 w
/-- a row's length and sum -/
def SumIs (l : List Nat) (n X : Nat) : Prop := l.length = n ∧ Crc.sum l = X
theorem S2.next {w0 w w' : World} {g : Nat} {a0 : Option Addr} {d b : List Nat} (h : S2 w0 w g a0 d b) (hb : Below w.heap.size w w') : S2 w0 w' g a0 d b :=
  ⟨h.1.keep hb, h.2.1.keep hb, h.2.2.trans (hb.mono h.2.2.size)⟩
theorem S2.drew {w0 w : World} {g : Nat} {a0 : Option Addr} {d b : List Nat} (h : S2 w0 w g a0 d b) : S2 w0 w.drew g a0 d b := ⟨h.1, h.2.1, h.2.2.drew⟩
theorem sum2_d {w0 w : World} {g : Nat} {a0 : Option Addr} {d b : List Nat} {n : Nat} {X : Nat} (cc : Nat) (hX : SumIs d n X) (h : S2 w0 w g a0 d b) :
    Calls Try.prog 8 #[.slice (some ⟨g, 0, none⟩) n cc] w fun e w' => e = .returned (.int .u32 (X : Nat)) ∧ S2 w0 w' g a0 d b := by
  obtain ⟨rfl, rfl⟩ := hX
  exact (sum_any _ cc d w h.1).mono fun _ _ ⟨he, hb⟩ => ⟨he, h.next hb⟩
theorem sum2_b {w0 w : World} {g : Nat} {a0 : Option Addr} {d b : List Nat} {n : Nat} {X : Nat} (cc : Nat) (hX : SumIs b n X) (h : S2 w0 w g a0 d b) :
    Calls Try.prog 8 #[.slice a0 n cc] w fun e w' => e = .returned (.int .u32 (X : Nat)) ∧ S2 w0 w' g a0 d b := by
  obtain ⟨rfl, rfl⟩ := hX
  exact (sum_any _ cc b w h.2.1).mono fun _ _ ⟨he, hb⟩ => ⟨he, h.next hb⟩
theorem awake_2 {w0 w : World} {g : Nat} {a0 : Option Addr} {d b : List Nat} (h : S2 w0 w g a0 d b) :
    Calls Try.prog 12 #[] w fun e w' => e = .returned (.bool true) ∧ S2 w0 w' g a0 d b :=
  (awake_any w).mono fun _ _ ⟨he, hb⟩ => ⟨he, h.next hb⟩
theorem held_of {w0 w : World} {g : Nat} {a0 : Option Addr} {d b : List Nat} {SB SC : ByteArray} {Y : Nat} (c c' : Nat) (hp : 0 < b.length) (hB : Hid (strOfNums (b.map Int.ofNat) = SB)) (hC : Hid (strOfNums (d.map Int.ofNat) = SC)) (hd : SumIs d b.length Y) (h : S2 w0 w g a0 d b) :
    Sem.run Try.prog (convert 22 9 (.slice a0 b.length c)) w = .ok (.string SB) w ∧ Sem.run Try.prog (convert 22 9 (.slice (some ⟨g, 0, none⟩) b.length c')) w = .ok (.string SC) w ∧ S2 w0 w g a0 d b := by
  refine ⟨?_, ?_, h⟩
  · rw [run_str c h.2.1 hp, hB.out]
  · have := run_str c' h.1 (by rw [hd.1]; exact hp)
    rw [hd.1, hC.out] at this
    exact this
theorem tells_after {w w1 : World} {y0 y1 y2 y3 : Nat} (hg : (((w.alloc (.cells #[.int .u8 y0, .int .u8 y1, .int .u8 y2, .int .u8 y3] 32)).alloc (.cells #[] 5))).grownBy w1 (Value.slice (some ⟨w.heap.size + 1, 0, none⟩) 0 0).ownBlock) :
    Box4 w1 w.heap.size y0 y1 y2 y3 ∧ Below w.heap.size w w1 := by
  have h1 : Below (w.heap.size + 1) (w.alloc (.cells #[.int .u8 y0, .int .u8 y1, .int .u8 y2, .int .u8 y3] 32)) w1 := by
    refine Below.grown (w := ((w.alloc (.cells #[.int .u8 y0, .int .u8 y1, .int .u8 y2, .int .u8 y3] 32)).alloc (.cells #[] 5))) ((Below.refl _ _).alloc (by simp) _) hg (by simp) ?_
    intro k hk
    simp [Value.ownBlock] at hk
    omega
  exact ⟨(Box4.made w y0 y1 y2 y3).keep h1 (by omega), ((Below.refl _ _).alloc (Nat.le_refl _) _).trans (h1.mono (by omega))⟩
theorem Box4.store {w : World} {g h k y0 y1 y2 y3 : Nat} {v : Value} (hb : Box4 w g y0 y1 y2 y3) (hne : g ≠ h) : Box4 (w.setCell ⟨h, k, none⟩ v) g y0 y1 y2 y3 := by
  intro j hj
  have := hb j hj
  have hne' : h ≠ g := fun e => hne e.symm
  rw [← this]; simp [go_sem, *]
set_option maxRecDepth 100000 in
set_option maxHeartbeats 2000000 in
theorem tells_walk (a0 : Option Addr) (c0 : Nat) (b : List Nat) (at' : Int) (y0 y1 y2 y3 : Nat) (w : World) (hy : ∀ c ∈ [y0, y1, y2, y3], c < 256) (hlen : b.length ≤ 140737488351232) (hpos : 0 < b.length) (hb : Rw .u8 256 w a0 b) :
    Calls Try.prog 4 #[.slice a0 b.length c0, .int .i64 at', .agg #[.int .u8 y0, .int .u8 y1, .int .u8 y2, .int .u8 y3]] w fun e w' => e = .returned (.bool true) ∧ Below w.heap.size w w' := by
  obtain ⟨P, hP, hpl⟩ := place_in at' b.length hpos hlen
  have HP := Lib.hid hpl
  have HB := Lib.hid hb
  have HY := Lib.hid hy
  obtain ⟨i0, hi, hz0, hz1, hz2⟩ := info_parts info5
  obtain ⟨bb, bo, rfl, hcell0⟩ := hb.2.2 0 hpos
  have hlt := World.block_lt_of_cell? _ _ hcell0
  clear hb hpl hy hcell0
  have hne : ((b.length : Int) == 0) = false := beq_eq_false_iff_ne.2 (by omega)
  have hold : Hid (((w.alloc (.cells #[.int .u8 y0, .int .u8 y1, .int .u8 y2, .int .u8 y3] 32)).alloc (.cells #[] 5)).ownsRow (w.heap.size + 1) 5 1 (.slice (some ⟨w.heap.size + 1, 0, none⟩) 0 0) 0 []) := by
    refine ⟨rfl, .inr ⟨w.heap.size + 1, 0, #[], rfl, Nat.le_refl _, ?_, Nat.le_refl _, by decide, rfl, rfl⟩⟩
    show (((w.heap.push _).push _))[w.heap.size + 1]? = _
    rw [Array.getElem?_push, if_pos (by simp)]
  have hnews : Hid (∀ (j : Nat) (u : Value), (b.map fun x : Nat => Value.int .u8 (x : Int))[j]? = some u → ((w.alloc (.cells #[.int .u8 y0, .int .u8 y1, .int .u8 y2, .int .u8 y3] 32)).alloc (.cells #[] 5)).cell? ((⟨bb, bo, none⟩ : Addr).add j) = some u) := by
    intro j u hu
    simp only [List.getElem?_map, Option.map_eq_some_iff] at hu
    obtain ⟨x, hx, rfl⟩ := hu
    have hj : j < b.length := (List.getElem?_eq_some_iff.1 hx).1
    obtain ⟨b', o', e1, e2⟩ := HB.out.2.2 j hj
    simp only [Option.some.injEq, Addr.mk.injEq, and_true] at e1
    obtain ⟨rfl, rfl⟩ := e1
    rw [Go.WideShapes.add_plain]
    have hbel : Below w.heap.size w ((w.alloc (.cells #[.int .u8 y0, .int .u8 y1, .int .u8 y2, .int .u8 y3] 32)).alloc (.cells #[] 5)) := by go_grown
    rw [hbel.cell (p := ⟨bb, bo + j, none⟩) hlt, e2]
    simp [List.getD_eq_getElem?_getD, hx]
  go_enter Try.func4, Try.ntmps4
  go_wp2_with (at_builtin; refine wpList_append_own _ rfl (.tmp 18) (.tmp 19) 22 rfl (w.heap.size + 1) 5 i0 (.int .u8 0) 1 1 Try.underlying22 hi hz0 hz1 hz2 rfl (by decide) (.slice (some ⟨w.heap.size + 1, 0, none⟩) 0 0) 0 [] rfl hold.out ⟨bb, bo, none⟩ b.length c0 (b.map fun x : Nat => Value.int .u8 (x : Int)) rfl (by simp) hnews.out (by intro u hu; simp only [List.mem_map] at hu; obtain ⟨x, _, rfl⟩ := hu; rfl) (by unfold maxLen; omega) (by omega) (by simp) ?_; intro v' w1 hown hgrow _; obtain ⟨g, cap, hv, hg, ho⟩ := own_shape hown (Nat.zero_add _) (by omega); rw [Nat.zero_add] at hv; subst hv; have HO := Lib.hid ho; have HX : Hid (Box4 w1 w.heap.size y0 y1 y2 y3 ∧ Below w.heap.size w w1) := tells_after hgrow; clear ho hown hgrow hold hnews)
  rw [HP.out]
  have hgne : w.heap.size ≠ g := by omega
  have O0 : Own8 w1 g (chg b P 0 [y0, y1, y2, y3]) := by rw [chg_zero]; exact HO.out
  have HO0 := Lib.hid O0
  clear O0
  go_loopw [8] (fun i wr => ∃ k : Nat, k ≤ 4 ∧ P + k ≤ b.length ∧ i = .int .i64 k ∧ Own8 wr g (chg b P k [y0, y1, y2, y3]) ∧ Box4 wr w.heap.size y0 y1 y2 y3 ∧ Below w.heap.size w wr) (fun i _ => 4 - (intOf i).toNat)
  case atStart => exact ⟨0, by omega, by omega, rfl, HO0.out, HX.out.1, HX.out.2⟩
  case round =>
    clear HO HX HO0
    obtain ⟨k, hk, hPk, rfl, ho, hx, hbel⟩ := hrel
    by_cases hlt2 : k < 4 ∧ P + k < b.length
    · obtain ⟨hk4, hkl⟩ := hlt2
      obtain ⟨hc1, hf1⟩ := ho (P + k) (by rw [chg_len]; omega)
      rw [chg_at hkl, if_neg (by omega)] at hc1
      have hc2 := hx k hk4
      have lc := HB.out.lt (by decide) (P + k)
      have ly : ([y0, y1, y2, y3] : List Nat).getD k 0 < 256 := by
        rw [List.getD_eq_getElem?_getD, List.getElem?_eq_getElem (by simpa using hk4)]; exact HY.out _ (List.getElem_mem _)
      have HS := Lib.hid (ho.set hkl _ rfl)
      have HBx := Lib.hid hx
      have HBel := Lib.hid hbel
      clear ho hx hbel
      generalize b.getD (P + k) 0 = A at *
      generalize ([y0, y1, y2, y3] : List Nat).getD k 0 = Y at *
      have E1 := xor88 A Y lc ly
      have i1 : (0 : Int) ≤ (k : Int) := by omega
      have i2 : (k : Int) < 4 := by omega
      have i3 : (0 : Int) ≤ (P : Int) + (k : Int) := by omega
      have i4 : (P : Int) + (k : Int) < (b.length : Int) := by omega
      go_wp2_with fail
      go_region
      all_goals
        go_wp2
        go_roundw
        case rel => exact ⟨k + 1, by omega, by omega, by go_num, HS.out, HBx.out.store hgne, (HBel.out.setCell (by show w.heap.size ≤ g; omega) _).drew⟩
        case measure => simp [intOf]; omega
    · have hK : k ≤ 4 ∧ P + k ≤ b.length := ⟨hk, hPk⟩
      have lb := HB.out.2.1
      have lc : ∀ x ∈ chg b P k [y0, y1, y2, y3], x < 256 := chg_lt lb HY.out
      have hst : S2 w wr g (some ⟨bb, bo, none⟩) (chg b P k [y0, y1, y2, y3]) b := ⟨ho.row (by rw [chg_len]; omega) lc, HB.out.keep hbel, hbel⟩
      have dl : (chg b P k [y0, y1, y2, y3]).length = b.length := chg_len _ _ _ _
      have tl := chg_tells b P k [y0, y1, y2, y3] hK.1 hK.2 lb HY.out
      generalize chg b P k [y0, y1, y2, y3] = d at *
      obtain ⟨SB, hSB⟩ : ∃ s, strOfNums (b.map Int.ofNat) = s := ⟨_, rfl⟩
      obtain ⟨SC, hSC⟩ : ∃ s, strOfNums (d.map Int.ofNat) = s := ⟨_, rfl⟩
      obtain ⟨X, hX⟩ : ∃ s, Crc.sum b = s := ⟨_, rfl⟩
      obtain ⟨Y, hY⟩ : ∃ s, Crc.sum d = s := ⟨_, rfl⟩
      have hcase : (((X : Int) == (Y : Int)) = true ∧ (SB.toList == SC.toList) = true) ∨ (((X : Int) == (Y : Int)) = false ∧ (SB.toList == SC.toList) = false) := by
        by_cases e : b = d
        · subst e
          rw [hX] at hY
          rw [hSB] at hSC
          subst hY hSC
          simp
        · right
          refine ⟨?_, ?_⟩
          · rw [beq_eq_false_iff_ne]
            intro h
            apply e
            apply tl
            rw [hX, hY]; omega
          · rw [beq_eq_false_iff_ne]
            intro h
            rw [← hSB, ← hSC] at h
            exact e (str_eq lb lc h)
      have HXB : SumIs b b.length X := ⟨rfl, hX⟩
      have HYD : SumIs d b.length Y := ⟨dl, hY⟩
      have HSB := Lib.hid hSB
      have HSC := Lib.hid hSC
      have hheld := fun (W : World) (h : S2 w W g (some ⟨bb, bo, none⟩) d b) => held_of c0 cap hpos HSB HSC HYD h
      have HH := Lib.hid hheld
      clear hSB hSC hX hY tl hheld dl lb lc ho hx hbel
      have hex : (k < 4 ∧ ¬ P + k < b.length) ∨ ¬ k < 4 := by omega
      clear hlt2
      rcases hcase with ⟨q1, q2⟩ | ⟨q1, q2⟩ <;> rcases hex with ⟨x1, x2⟩ | x1
      all_goals
        go_wp2_with fail
        go_region_held3 (fun w' => Sem.run Try.prog (convert 22 9 (.slice (some ⟨bb, bo, none⟩) b.length c0)) w' = .ok (.string SB) w' ∧ Sem.run Try.prog (convert 22 9 (.slice (some ⟨g, 0, none⟩) b.length cap)) w' = .ok (.string SC) w' ∧ S2 w w' g (some ⟨bb, bo, none⟩) d b) (first | exact HH.out _ hst | exact HH.out _ hst.drew | exact HH.out _ (by assumption))
          (first | (go_at_call 8; (with_reducible refine (sum2_b (w0 := w) (g := g) (a0 := some ⟨bb, bo, none⟩) (d := d) (b := b) _ HXB (by first | assumption | exact (‹_ ∧ _ ∧ S2 w _ g (some ⟨bb, bo, none⟩) d b›).2.2)).mono ?_); rintro e w' ⟨rfl, hst⟩) | (go_at_call 8; (with_reducible refine (sum2_d (w0 := w) (g := g) (a0 := some ⟨bb, bo, none⟩) (d := d) (b := b) _ HYD (by first | assumption | exact (‹_ ∧ _ ∧ S2 w _ g (some ⟨bb, bo, none⟩) d b›).2.2)).mono ?_); rintro e w' ⟨rfl, hst⟩) | (go_at_call 12; (with_reducible refine (awake_2 (w0 := w) (g := g) (a0 := some ⟨bb, bo, none⟩) (d := d) (b := b) (by first | assumption | exact (‹_ ∧ _ ∧ S2 w _ g (some ⟨bb, bo, none⟩) d b›).2.2)).mono ?_); rintro e w' ⟨rfl, hst⟩))
        go_wp2
        go_ret
        refine ⟨rfl, ?_⟩
        first | exact (show S2 w _ g (some ⟨bb, bo, none⟩) d b by assumption).2.2 | exact (‹_ ∧ _ ∧ S2 w _ g (some ⟨bb, bo, none⟩) d b›).2.2.2.2
theorem sum_nil : Crc.sum [] = 0 := by decide +kernel
theorem sum_none (a : Option Addr) (c : Nat) (w : World) : Calls Try.prog 8 #[.slice a 0 c] w fun e w' => e = .returned (.int .u32 0) ∧ Below w.heap.size w w' := by
  have := sum_any a c [] w ⟨by simp, by simp, by simp⟩
  rw [sum_nil] at this
  exact this
theorem tells_empty (a0 : Option Addr) (c0 : Nat) (at' : Int) (y0 y1 y2 y3 : Nat) (w : World) :
    Calls Try.prog 4 #[.slice a0 0 c0, .int .i64 at', .agg #[.int .u8 y0, .int .u8 y1, .int .u8 y2, .int .u8 y3]] w fun e w' => e = .returned (.bool true) ∧ Below w.heap.size w w' := by
  go_enter Try.func4, Try.ntmps4
  go_wp2_with fail
  refine (sum_none _ _ _).mono ?_
  rintro e w1 ⟨rfl, hb1⟩
  have HB1 := Lib.hid hb1
  clear hb1
  go_wp2_with fail
  refine (awake_any _).mono ?_
  rintro e w2 ⟨rfl, hb2⟩
  have HB2 := Lib.hid hb2
  clear hb2
  go_wp2
  go_ret
  have h0 : Below w.heap.size w (w.alloc (.cells #[.int .u8 y0, .int .u8 y1, .int .u8 y2, .int .u8 y3] 32)) := (Below.refl _ _).alloc (Nat.le_refl _) _
  have h1 := h0.trans (HB1.out.mono h0.size)
  exact ⟨rfl, h1.trans (HB2.out.mono h1.size)⟩
theorem tells_row (a0 : Option Addr) (len0 cap0 : Nat) (z0 : List Int) (a1 : Int) (y0 y1 y2 y3 : Int) (w : World) (w0 : IsRow .u8 w a0 len0 cap0 z0) (hr : len0 ≤ 140737488351232) (wy : ∀ y ∈ [y0, y1, y2, y3], 0 ≤ y ∧ y ≤ 255) :
    Calls Try.prog 4 #[.slice a0 len0 cap0, .int .i64 a1, .agg #[.int .u8 y0, .int .u8 y1, .int .u8 y2, .int .u8 y3]] w fun e w' => e = .returned (.bool true) ∧ Below w.heap.size w w' := by
  obtain ⟨b, rfl, hb⟩ := w0.rw wf8
  have h0 := wy y0 (by simp)
  have h1 := wy y1 (by simp)
  have h2 := wy y2 (by simp)
  have h3 := wy y3 (by simp)
  obtain ⟨u0, rfl⟩ := Int.eq_ofNat_of_zero_le h0.1
  obtain ⟨u1, rfl⟩ := Int.eq_ofNat_of_zero_le h1.1
  obtain ⟨u2, rfl⟩ := Int.eq_ofNat_of_zero_le h2.1
  obtain ⟨u3, rfl⟩ := Int.eq_ofNat_of_zero_le h3.1
  by_cases hp : 0 < b.length
  · exact tells_walk a0 cap0 b a1 u0 u1 u2 u3 w (by intro c hc; simp at hc; omega) hr hp hb
  · have hz : b.length = 0 := by omega
    rw [hz]
    exact tells_empty a0 cap0 a1 u0 u1 u2 u3 w
end Go.Proofs.Ytleagghfhehmpaa
