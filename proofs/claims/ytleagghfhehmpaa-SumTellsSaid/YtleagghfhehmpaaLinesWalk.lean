/-
  SumLines, walked: the law returns true for all three rows of bytes and writes nothing that was there. Conditions: the slices read as rows of bytes; the first takes at most the reach of the form.
-/
import Derived.Test.YtleagghfhehmpaaReckons
import Derived.WalkLawsBesides
import Derived.Deep.DeepCutAuto
namespace Go.Proofs.Ytleagghfhehmpaa
open Go.ChangeShapes Go.WideShapes Go.ChangeAt Go.RowKit
set_option linter.unusedVariables false
theorem info5 : (Try.prog.info? 5).map (fun i => (i.zero, i.size, i.bytes)) = some (some (.int .u8 0), 1, 1) := by kernel_rfl
/-- a row of n bytes of the call's own, of which the first k are those of d, the others 0 -/
def Pd (w : World) (g n k : Nat) (d : List Nat) : Prop := ∀ j, j < n → w.cell? ⟨g, j, none⟩ = some (.int .u8 ((if j < k then d.getD j 0 else 0 : Nat))) ∧ w.frozen? ⟨g, j, none⟩ = false
theorem Pd.set {w : World} {g n k : Nat} {d : List Nat} (h : Pd w g n k d) (hk : k < n) : Pd (w.setCell ⟨g, k, none⟩ (.int .u8 (d.getD k 0 : Nat))) g n (k + 1) d := by
  intro j hj
  obtain ⟨h1, h2⟩ := h j hj
  obtain ⟨k1, k2⟩ := h k hk
  by_cases e : j = k
  · subst e
    refine ⟨?_, ?_⟩ <;> simp [go_sem, *]
  · have e' : ¬ k = j := fun x => e x.symm
    have e2 : (if j < k + 1 then d.getD j 0 else 0) = (if j < k then d.getD j 0 else 0) := by
      by_cases hjk : j < k
      · rw [if_pos hjk, if_pos (by omega)]
      · rw [if_neg hjk, if_neg (by omega)]
    rw [e2]
    refine ⟨?_, ?_⟩
    · simp [go_sem, *]
    · simp [go_sem, *]
theorem Pd.start {w : World} {base g n : Nat} {d : List Nat} (h : w.ownsRow base 5 1 (.slice (some ⟨g, 0, none⟩) n n) n (madeCells (Value.int .u8 0).cells (n * 1)).toList) : Pd w g n 0 d := by
  intro j hj
  refine ⟨?_, h.frozenAt j⟩
  rw [h.cellAt j (by omega)]
  simp [madeCells, Value.cells, hj, Nat.mod_one]
theorem Pd.row {w : World} {g n : Nat} {d : List Nat} (h : Pd w g n n d) (hd : d.length = n) (hm : n ≤ 9223372036854775807) (hb : ∀ c ∈ d, c < 256) : Rw .u8 256 w (some ⟨g, 0, none⟩) d := by
  refine ⟨by omega, hb, fun i hi => ⟨g, 0, rfl, ?_⟩⟩
  have := (h i (by omega)).1
  rw [if_pos (by omega)] at this
  rw [Nat.zero_add]; exact this
theorem xor88 (x y : Nat) (hx : x < 256) (hy : y < 256) : bits .xor .u8 (x : Int) (y : Int) = ((x ^^^ y : Nat) : Int) := u8_xor_nat x y hx hy
theorem lt_xor8 {x y : Nat} (hx : x < 256) (hy : y < 256) : (x ^^^ y) < 256 := Nat.xor_lt_two_pow (n := 8) hx hy
/-- the three rows, changed by one another -/
def D3 (n : Nat) (a b c : List Nat) : List Nat := Crc.xors (Crc.xors (a.take n) (b.take n)) (c.take n)
theorem D3_len {n : Nat} {a b c : List Nat} (h1 : n ≤ a.length) (h2 : n ≤ b.length) (h3 : n ≤ c.length) : (D3 n a b c).length = n := by
  simp [D3, Crc.xors]; omega
theorem D3_at {n : Nat} {a b c : List Nat} (h1 : n ≤ a.length) (h2 : n ≤ b.length) (h3 : n ≤ c.length) {k : Nat} (hk : k < n) : (D3 n a b c).getD k 0 = (a.getD k 0 ^^^ b.getD k 0) ^^^ c.getD k 0 := by
  have ha : k < a.length := by omega
  have hb : k < b.length := by omega
  have hc : k < c.length := by omega
  have hd : k < (D3 n a b c).length := by rw [D3_len h1 h2 h3]; exact hk
  rw [List.getD_eq_getElem?_getD, List.getElem?_eq_getElem hd, List.getD_eq_getElem?_getD, List.getElem?_eq_getElem ha, List.getD_eq_getElem?_getD, List.getElem?_eq_getElem hb, List.getD_eq_getElem?_getD, List.getElem?_eq_getElem hc]
  simp [D3, Crc.xors]
theorem D3_lt {n : Nat} {a b c : List Nat} (h1 : n ≤ a.length) (h2 : n ≤ b.length) (h3 : n ≤ c.length) (ha : ∀ x ∈ a, x < 256) (hb : ∀ x ∈ b, x < 256) (hc : ∀ x ∈ c, x < 256) : ∀ x ∈ D3 n a b c, x < 256 := by
  intro x hx
  obtain ⟨i, hi, rfl⟩ := List.mem_iff_getElem.1 hx
  have hi' : i < n := by rw [D3_len h1 h2 h3] at hi; exact hi
  simp only [D3, Crc.xors, List.getElem_zipWith, List.getElem_take]
  exact lt_xor8 (lt_xor8 (ha _ (List.getElem_mem _)) (hb _ (List.getElem_mem _))) (hc _ (List.getElem_mem _))
theorem Rw.take {k : IntKind} {m : Nat} {w : World} {a : Option Addr} {l : List Nat} (h : Rw k m w a l) (n : Nat) : Rw k m w a (l.take n) := by
  refine ⟨by have := h.1; simp; omega, fun c hc => h.2.1 c (List.mem_of_mem_take hc), fun i hi => ?_⟩
  have hi' : i < l.length ∧ i < n := by simp at hi; omega
  obtain ⟨b, off, h1, h2⟩ := h.2.2 i hi'.1
  refine ⟨b, off, h1, ?_⟩
  rw [h2]
  congr 3
  simp [List.getD_eq_getElem?_getD, hi'.2]
/-- what every call behind the loop keeps -/
def S4 (w0 w : World) (g : Nat) (a0 a1 a2 : Option Addr) (d a b c : List Nat) : Prop :=
  Rw .u8 256 w (some ⟨g, 0, none⟩) d ∧ Rw .u8 256 w a0 a ∧ Rw .u8 256 w a1 b ∧ Rw .u8 256 w a2 c ∧ Below w0.heap.size w0 w
theorem S4.next {w0 w w' : World} {g : Nat} {a0 a1 a2 : Option Addr} {d a b c : List Nat} (h : S4 w0 w g a0 a1 a2 d a b c) (hb : Below w.heap.size w w') : S4 w0 w' g a0 a1 a2 d a b c :=
  ⟨h.1.keep hb, h.2.1.keep hb, h.2.2.1.keep hb, h.2.2.2.1.keep hb, h.2.2.2.2.trans (hb.mono h.2.2.2.2.size)⟩
theorem S4.drew {w0 w : World} {g : Nat} {a0 a1 a2 : Option Addr} {d a b c : List Nat} (h : S4 w0 w g a0 a1 a2 d a b c) : S4 w0 w.drew g a0 a1 a2 d a b c :=
  ⟨h.1, h.2.1, h.2.2.1, h.2.2.2.1, h.2.2.2.2.drew⟩
theorem sum_d {w0 w : World} {g : Nat} {a0 a1 a2 : Option Addr} {d a b c : List Nat} {n : Nat} {X : Nat} (cc : Nat) (hX : Hid (d.length = n ∧ Crc.sum d = X)) (h : S4 w0 w g a0 a1 a2 d a b c) :
    Calls Try.prog 8 #[.slice (some ⟨g, 0, none⟩) n cc] w fun e w' => e = .returned (.int .u32 (X : Nat)) ∧ S4 w0 w' g a0 a1 a2 d a b c := by
  obtain ⟨rfl, rfl⟩ := hX
  exact (sum_any _ cc d w h.1).mono fun _ _ ⟨he, hb⟩ => ⟨he, h.next hb⟩
theorem sum_a {w0 w : World} {g : Nat} {a0 a1 a2 : Option Addr} {d a b c : List Nat} {n : Nat} {X : Nat} (cc : Nat) (hX : Hid (a.length = n ∧ Crc.sum a = X)) (h : S4 w0 w g a0 a1 a2 d a b c) :
    Calls Try.prog 8 #[.slice a0 n cc] w fun e w' => e = .returned (.int .u32 (X : Nat)) ∧ S4 w0 w' g a0 a1 a2 d a b c := by
  obtain ⟨rfl, rfl⟩ := hX
  exact (sum_any _ cc a w h.2.1).mono fun _ _ ⟨he, hb⟩ => ⟨he, h.next hb⟩
theorem sum_b {w0 w : World} {g : Nat} {a0 a1 a2 : Option Addr} {d a b c : List Nat} {n : Nat} {X : Nat} (cc : Nat) (hX : Hid (b.length = n ∧ Crc.sum b = X)) (h : S4 w0 w g a0 a1 a2 d a b c) :
    Calls Try.prog 8 #[.slice a1 n cc] w fun e w' => e = .returned (.int .u32 (X : Nat)) ∧ S4 w0 w' g a0 a1 a2 d a b c := by
  obtain ⟨rfl, rfl⟩ := hX
  exact (sum_any _ cc b w h.2.2.1).mono fun _ _ ⟨he, hb⟩ => ⟨he, h.next hb⟩
theorem sum_c {w0 w : World} {g : Nat} {a0 a1 a2 : Option Addr} {d a b c : List Nat} {n : Nat} {X : Nat} (cc : Nat) (hX : Hid (c.length = n ∧ Crc.sum c = X)) (h : S4 w0 w g a0 a1 a2 d a b c) :
    Calls Try.prog 8 #[.slice a2 n cc] w fun e w' => e = .returned (.int .u32 (X : Nat)) ∧ S4 w0 w' g a0 a1 a2 d a b c := by
  obtain ⟨rfl, rfl⟩ := hX
  exact (sum_any _ cc c w h.2.2.2.1).mono fun _ _ ⟨he, hb⟩ => ⟨he, h.next hb⟩
theorem awake_4 {w0 w : World} {g : Nat} {a0 a1 a2 : Option Addr} {d a b c : List Nat} (h : S4 w0 w g a0 a1 a2 d a b c) :
    Calls Try.prog 12 #[] w fun e w' => e = .returned (.bool true) ∧ S4 w0 w' g a0 a1 a2 d a b c :=
  (awake_any w).mono fun _ _ ⟨he, hb⟩ => ⟨he, h.next hb⟩
theorem sum_lt (b : List Nat) (hb : ∀ c ∈ b, c < 256) : Crc.sum b < 4294967296 := by unfold Crc.sum; omega
theorem xor3232 (x y : Nat) (hx : x < 4294967296) (hy : y < 4294967296) : bits .xor .u32 (x : Int) (y : Int) = ((x ^^^ y : Nat) : Int) := u32_xor_nat x y hx hy
theorem lt_xor32 {x y : Nat} (hx : x < 4294967296) (hy : y < 4294967296) : (x ^^^ y) < 4294967296 := Nat.xor_lt_two_pow (n := 32) hx hy
set_option maxRecDepth 100000 in
set_option maxHeartbeats 2000000 in
theorem lines_walk (a0 a1 a2 : Option Addr) (c0 c1 c2 : Nat) (a b c : List Nat) (w : World) (n : Nat) (hn : n = min (min a.length b.length) c.length) (hlen : n ≤ 140737488351232)
    (ha : Rw .u8 256 w a0 a) (hb : Rw .u8 256 w a1 b) (hc : Rw .u8 256 w a2 c) (k0 : a.length ≤ c0) (k1 : b.length ≤ c1) (k2 : c.length ≤ c2) :
    Calls Try.prog 5 #[.slice a0 a.length c0, .slice a1 b.length c1, .slice a2 c.length c2] w fun e w' => e = .returned (.bool true) ∧ Below w.heap.size w w' := by
  have h1 : n ≤ a.length := by omega
  have h2 : n ≤ b.length := by omega
  have h3 : n ≤ c.length := by omega
  have HN := Lib.hid hn
  have HA := Lib.hid ha
  have HB := Lib.hid hb
  have HC := Lib.hid hc
  have al := ha.1
  have bl := hb.1
  have cl := hc.1
  clear hn ha hb hc
  obtain ⟨i0, hi, hz0, hz1, hz2⟩ := info_parts info5
  go_enter Try.func5, Try.ntmps5
  go_upto_region 1 with (fail)
  go_cut [7] (fun v wx => v = .int .i64 (n : Nat) ∧ wx = w)
  case first =>
    go_wp2
    all_goals go_meet
    all_goals (case rel => exact ⟨by have := HN.out; go_num, rfl⟩)
  case rest =>
    obtain ⟨rfl, rfl⟩ := hcut
    go_wp2_with (at_make; refine wpList_make_full _ rfl _ _ 22 rfl wc.heap.size 5 i0 (.int .u8 0) 1 Try.underlying22 hi hz0 hz1 .i64 .i64 _ _ n rfl rfl rfl rfl (by rw [hz2]; omega) (by unfold maxLen; omega) (Nat.le_refl _) ?_; intro w1 hown hgrow)
    have P0 : Hid (Pd w1 wc.heap.size n 0 (D3 n a b c)) := Pd.start hown
    have HB1 : Hid (Below wc.heap.size wc w1) := (Below.refl _ _).grown hgrow (Nat.le_refl _) (by simp)
    clear hown hgrow
    go_loopw [20] (fun i wr => ∃ k : Nat, k ≤ n ∧ i = .int .i64 k ∧ Pd wr wc.heap.size n k (D3 n a b c) ∧ Below wc.heap.size wc wr) (fun i _ => n - (intOf i).toNat)
    case atStart => exact ⟨0, by omega, rfl, P0.out, HB1.out⟩
    case round =>
      clear P0 HB1
      obtain ⟨k, hk, rfl, hp, hbel⟩ := hrel
      by_cases hlt : k < n
      · obtain ⟨ab, ao, rfl, hca0⟩ := HA.out.2.2 k (by omega)
        obtain ⟨bb, bo, rfl, hcb0⟩ := HB.out.2.2 k (by omega)
        obtain ⟨cb, co, rfl, hcc0⟩ := HC.out.2.2 k (by omega)
        have hca := (hbel.cell (World.block_lt_of_cell? _ _ hca0)).trans hca0
        have hcb := (hbel.cell (World.block_lt_of_cell? _ _ hcb0)).trans hcb0
        have hcc := (hbel.cell (World.block_lt_of_cell? _ _ hcc0)).trans hcc0
        have na := World.new_ne wc _ hca0
        have nb := World.new_ne wc _ hcb0
        have nc := World.new_ne wc _ hcc0
        simp only at na nb nc
        clear hca0 hcb0 hcc0
        have la := HA.out.lt (by decide) k
        have lb := HB.out.lt (by decide) k
        have lc := HC.out.lt (by decide) k
        obtain ⟨hpc, hpf⟩ := hp k hlt
        have HV := Lib.hid (D3_at h1 h2 h3 hlt)
        have HP := Lib.hid hp
        have HBel := Lib.hid hbel
        clear hp hbel
        generalize a.getD k 0 = A at *
        generalize b.getD k 0 = B at *
        generalize c.getD k 0 = C at *
        have E1 := xor88 A B la lb
        have E2 := xor88 (A ^^^ B) C (lt_xor8 la lb) lc
        have i1 : (0 : Int) ≤ (k : Int) := by omega
        have i2 : (k : Int) < (n : Int) := by omega
        have i3 : (k : Int) < (a.length : Int) := by omega
        have i4 : (k : Int) < (b.length : Int) := by omega
        have i5 : (k : Int) < (c.length : Int) := by omega
        go_wp2_with fail
        go_region_held3 (fun w' => w'.cell? ⟨ab, ao + k, none⟩ = some (.int .u8 A) ∧ w'.cell? ⟨bb, bo + k, none⟩ = some (.int .u8 B) ∧ w'.cell? ⟨cb, co + k, none⟩ = some (.int .u8 C)) (go_keep) (fail)
        have HS : Hid (Pd (wr.setCell ⟨wc.heap.size, k, none⟩ (.int .u8 ((A ^^^ B ^^^ C : Nat) : Int))) wc.heap.size n (k + 1) (D3 n a b c)) := by
          have := HP.out.set hlt
          rw [HV.out] at this
          exact this
        go_wp2
        go_roundw
        case rel => exact ⟨k + 1, by omega, by go_num, HS.out, (HBel.out.setCell (Nat.le_refl _) _).drew⟩
        case measure => simp [intOf]; omega
      · obtain rfl : k = n := by omega
        have bd := D3_lt h1 h2 h3 HA.out.2.1 HB.out.2.1 HC.out.2.1
        have hs4 : S4 wc wr wc.heap.size a0 a1 a2 (D3 k a b c) (a.take k) (b.take k) (c.take k) :=
          ⟨hp.row (D3_len h1 h2 h3) (by omega) bd, (HA.out.keep hbel).take k, (HB.out.keep hbel).take k, (HC.out.keep hbel).take k, hbel⟩
        have hl := Crc.lines (a.take k) (b.take k) (c.take k) (by simp; omega) (by simp; omega) (fun x hx => HA.out.2.1 x (List.mem_of_mem_take hx)) (fun x hx => HB.out.2.1 x (List.mem_of_mem_take hx)) (fun x hx => HC.out.2.1 x (List.mem_of_mem_take hx))
        have lX := sum_lt (a.take k) (fun x hx => HA.out.2.1 x (List.mem_of_mem_take hx))
        have lY := sum_lt (b.take k) (fun x hx => HB.out.2.1 x (List.mem_of_mem_take hx))
        have lZ := sum_lt (c.take k) (fun x hx => HC.out.2.1 x (List.mem_of_mem_take hx))
        obtain ⟨X, hX⟩ : ∃ X, Crc.sum (a.take k) = X := ⟨_, rfl⟩
        obtain ⟨Y, hY⟩ : ∃ Y, Crc.sum (b.take k) = Y := ⟨_, rfl⟩
        obtain ⟨Z, hZ⟩ : ∃ Z, Crc.sum (c.take k) = Z := ⟨_, rfl⟩
        rw [hX, hY, hZ] at hl
        rw [hX] at lX
        rw [hY] at lY
        rw [hZ] at lZ
        have HX : Hid ((a.take k).length = k ∧ Crc.sum (a.take k) = X) := ⟨by simp; omega, hX⟩
        have HY : Hid ((b.take k).length = k ∧ Crc.sum (b.take k) = Y) := ⟨by simp; omega, hY⟩
        have HZ : Hid ((c.take k).length = k ∧ Crc.sum (c.take k) = Z) := ⟨by simp; omega, hZ⟩
        have HD : Hid ((D3 k a b c).length = k ∧ Crc.sum (D3 k a b c) = X ^^^ Y ^^^ Z) := ⟨D3_len h1 h2 h3, hl⟩
        clear hX hY hZ hl hp bd hbel HN HA HB HC
        have E1 := xor3232 X Y lX lY
        have E2 := xor3232 (X ^^^ Y) Z (lt_xor32 lX lY) lZ
        have j0 : (k : Int) ≤ (c0 : Int) := by omega
        have j1 : (k : Int) ≤ (c1 : Int) := by omega
        have j2 : (k : Int) ≤ (c2 : Int) := by omega
        have j3 : (0 : Int) ≤ (k : Int) := by omega
        go_wp2_with fail
        go_region_held3 (fun w' => S4 wc w' wc.heap.size a0 a1 a2 (D3 k a b c) (a.take k) (b.take k) (c.take k)) (first | exact hs4 | exact hs4.drew | assumption)
          (first | (go_at_call 8; (with_reducible refine (sum_d _ HD (by assumption)).mono ?_); rintro e w' ⟨rfl, hst⟩) | (go_at_call 8; (with_reducible refine (sum_a _ HX (by assumption)).mono ?_); rintro e w' ⟨rfl, hst⟩) | (go_at_call 8; (with_reducible refine (sum_b _ HY (by assumption)).mono ?_); rintro e w' ⟨rfl, hst⟩) | (go_at_call 8; (with_reducible refine (sum_c _ HZ (by assumption)).mono ?_); rintro e w' ⟨rfl, hst⟩) | (go_at_call 12; (with_reducible refine (awake_4 (by assumption)).mono ?_); rintro e w' ⟨rfl, hst⟩))
        go_wp2
        go_ret
        refine ⟨rfl, ?_⟩
        first | exact (show S4 wc _ wc.heap.size a0 a1 a2 (D3 k a b c) (a.take k) (b.take k) (c.take k) by assumption).2.2.2.2 | exact (‹_ ∧ S4 wc _ wc.heap.size a0 a1 a2 (D3 k a b c) (a.take k) (b.take k) (c.take k)›).2.2.2.2.2
theorem IsRow.le_cap {k : IntKind} {w : World} {a : Option Addr} {len cap : Nat} {zs : List Int} (h : IsRow k w a len cap zs) : len ≤ cap := by
  rcases h with ⟨rfl, rfl, rfl, rfl⟩ | ⟨x, rfl, hl, _⟩
  · omega
  · exact hl
theorem lines_row (a0 : Option Addr) (len0 cap0 : Nat) (z0 : List Int) (a1 : Option Addr) (len1 cap1 : Nat) (z1 : List Int) (a2 : Option Addr) (len2 cap2 : Nat) (z2 : List Int) (w : World) (w0 : IsRow .u8 w a0 len0 cap0 z0) (w1 : IsRow .u8 w a1 len1 cap1 z1) (w2 : IsRow .u8 w a2 len2 cap2 z2) (hr : len0 ≤ 140737488351232) :
    Calls Try.prog 5 #[.slice a0 len0 cap0, .slice a1 len1 cap1, .slice a2 len2 cap2] w fun e w' => e = .returned (.bool true) ∧ Below w.heap.size w w' := by
  have k0 := w0.le_cap
  have k1 := w1.le_cap
  have k2 := w2.le_cap
  obtain ⟨a, rfl, ha⟩ := w0.rw wf8
  obtain ⟨b, rfl, hb⟩ := w1.rw wf8
  obtain ⟨c, rfl, hc⟩ := w2.rw wf8
  exact lines_walk a0 a1 a2 cap0 cap1 cap2 a b c w _ rfl (by omega) ha hb hc k0 k1 k2
end Go.Proofs.Ytleagghfhehmpaa
