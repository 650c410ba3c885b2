/-
  The contracts of Table, Sum, the reference's With and Sum, and of the law's awake. Conditions: the slices read as rows of bytes and of words.
-/
import Derived.Test.YtleagghfhehmpaaSum
import Derived.Lib.SlBytesConst
namespace Go.Proofs.Ytleagghfhehmpaa
open Go.ChangeShapes Go.WideShapes Go.ChangeAt Go.RowKit
set_option linter.unusedVariables false
theorem info26 : (Try.prog.info? 26).map (fun i => (i.zero, i.size, i.bytes)) = some (some (.int .u32 0), 1, 4) := by kernel_rfl
/-- the first k entries, as cells -/
def ents (k : Nat) : List Value := (List.range k).map fun i => .int .u32 (Crc.entry i : Nat)
theorem ents_len (k : Nat) : (ents k).length = k := by simp [ents]
theorem ents_succ (k : Nat) : ents (k + 1) = ents k ++ [.int .u32 (Crc.entry k : Nat)] := by simp [ents, List.range_succ]
/-- what Table leaves: a slice at the head of a new row that holds the table -/
def TableAt (w : World) (e : Ending) (w' : World) : Prop := ∃ g cap, e = .returned (.slice (some ⟨g, 0, none⟩) 256 cap) ∧ Rw .u32 4294967296 w' (some ⟨g, 0, none⟩) Crc.table ∧ Below w.heap.size w w'
theorem table_end {w w' : World} {v : Value} (h : w'.ownsRow w.heap.size 26 1 v 256 (ents 256)) (hb : Below w.heap.size w w') : TableAt w (.returned v) w' := by
  have h' := h
  rcases h.2 with ⟨_, h0⟩ | ⟨g, cap, cur, rfl, _⟩
  · omega
  · refine ⟨g, cap, rfl, ⟨by simp [Crc.table], ?_, ?_⟩, hb⟩
    · intro c hc
      simp only [Crc.table, List.mem_map, List.mem_range] at hc
      obtain ⟨i, hi, rfl⟩ := hc
      exact Crc.entry_lt (by omega)
    · intro i hi
      have hi' : i < 256 := by simpa [Crc.table] using hi
      refine ⟨g, 0, rfl, ?_⟩
      rw [Nat.zero_add, h'.cellAt i (by omega), Crc.table_at hi']
      simp [ents, hi']
set_option maxRecDepth 100000 in
set_option maxHeartbeats 2000000 in
theorem table_any (w : World) : Calls Try.prog 6 #[] w (TableAt w) := by
  obtain ⟨i0, hi, hz0, hz1, hz2⟩ := info_parts info26
  obtain ⟨B, hB⟩ : ∃ B, B = w.heap.size := ⟨_, rfl⟩
  have HB := Lib.hid hB
  clear hB
  go_enter Try.func6, Try.ntmps6
  go_wp2
  go_loopw [1, 5] (fun v j wr => ∃ i : Nat, i ≤ 256 ∧ j = .int .i64 i ∧ wr.ownsRow w.heap.size 26 1 v i (ents i) ∧ Below w.heap.size w wr) (fun _ j _ => 256 - (intOf j).toNat)
  case atStart => exact ⟨0, by omega, rfl, World.ownsRow_nil _ _ _ _, Below.refl _ _⟩
  case round =>
    obtain ⟨i, hi6, rfl, hown, hbel⟩ := hrel
    by_cases hlt : i < 256
    · have HBel := Lib.hid hbel
      have hsz := hbel.size
      clear hbel
      go_wp2
      go_loop [3, 10] (fun n j => ∃ k v : Nat, k ≤ 8 ∧ j = .int .i64 k ∧ n = .int .u32 v ∧ v < 4294967296 ∧ Crc.steps (8 - k) v = Crc.entry i) (fun _ j => 8 - (intOf j).toNat)
      case atStart => exact ⟨0, i, by omega, rfl, by go_num, by omega, rfl⟩
      case round =>
        obtain ⟨k, v, hk, rfl, rfl, hv, hs⟩ := hrel
        have HS := Lib.hid hs
        clear hs
        by_cases hlt2 : k < 8
        · have E1 := and1 v hv
          have E2 := xorp v hv
          have L2 := xorp_lt v hv
          by_cases ho : v % 2 = 1
          · have HO := Lib.hid (steps_odd k v hlt2 ho)
            rw [ho] at E1
            clear ho
            generalize v / 2 ^^^ 0xedb88320 = u at *
            go_wp2
            go_round
            case rel => exact ⟨k + 1, u, by omega, by go_num, rfl, L2, by rw [← HO.out, HS.out]⟩
            case measure => simp [intOf]; omega
          · have HO := Lib.hid (steps_even k v hlt2 ho)
            rw [show v % 2 = 0 by omega] at E1
            clear ho E2 L2
            go_wp2
            go_round
            case rel => exact ⟨k + 1, v / 2, by omega, by go_num, by go_num, by omega, by rw [← HO.out, HS.out]⟩
            case measure => simp [intOf]; omega
        · have HK := Lib.hid (show v = Crc.entry i by rw [← HS.out, show 8 - k = 0 by omega]; rfl)
          clear hi6
          go_wp2_with (at_builtin; refine wpList_append_own _ rfl _ _ 23 rfl w.heap.size 26 i0 (.int .u32 0) 1 4 Try.underlying23 hi hz0 hz1 hz2 rfl (by decide) _ _ _ rfl (hown.alloc _) ⟨wr.heap.size, 0, none⟩ 1 1 [.int .u32 v] rfl rfl ?c1 ?c2 ?c3 ?c4 ?c5 ?_)
          case c2 => first | rfl | (intro u hu; simp at hu; subst hu; rfl)
          case c3 => unfold maxLen; omega
          case c4 => omega
          case c5 => first | omega | (simp; omega)
          · intro v' w1 hown' hgrow _
            have R : w1.ownsRow w.heap.size 26 1 v' (i + 1) (ents (i + 1)) := by
              rw [ents_succ, ← HK.out]; exact hown'
            have HR := Lib.hid R
            have HBl : Hid (Below w.heap.size w w1) := by
              have hb := HBel.out
              refine (hb.alloc hb.size _).grown hgrow (by simp; omega) ?_
              intro k hk
              rcases hown.2 with ⟨rfl, _⟩ | ⟨g, cap, cur, rfl, hg, _⟩
              · simp [Value.ownBlock] at hk
              · simp [Value.ownBlock] at hk; omega
            clear R hown' hgrow hown
            go_wp2
            go_roundw
            case rel => exact ⟨i + 1, by omega, by go_num, HR.out, HBl.out⟩
            case measure => simp [intOf]; omega
    · have hi2 : i = 256 := by omega
      subst hi2
      have HR := Lib.hid (table_end hown hbel)
      clear hown hbel
      go_wp2
      go_ret
      exact HR.out
theorem xor32' (S x : Nat) (hS : S < 4294967296) (hx : x < 4294967296) : bits .xor .u32 (x : Int) ((S : Int) / 256) = ((S / 256 ^^^ x : Nat) : Int) := by
  rw [show ((S : Int) / 256) = ((S / 256 : Nat) : Int) by omega, Nat.xor_comm]
  exact u32_xor_nat _ _ hx (by omega)
set_option maxRecDepth 100000 in
set_option maxHeartbeats 1000000 in
theorem rwith_any (a0 a1 : Option Addr) (c0 c1 : Nat) (t b : List Nat) (w : World) (ht : Rw .u32 4294967296 w a0 t) (hb : Rw .u8 256 w a1 b) :
    Calls Try.prog 11 #[.slice a0 t.length c0, .slice a1 b.length c1] w fun e w' => e = .returned (.int .u32 (Crc.withT t b : Nat)) ∧ w = w' := by
  have hbl := hb.1
  have htl := ht.1
  have HT := Lib.hid ht
  have HB := Lib.hid hb
  clear ht hb
  go_enter Try.func11, Try.ntmps11
  go_wp2
  go_loop [5, 12] (fun s i => ∃ k : Nat, k ≤ b.length ∧ i = .int .i64 k ∧ s = .int .u32 (Crc.runW t 4294967295 (b.take k) : Nat)) (fun _ i => b.length - (intOf i).toNat)
  case atStart => exact ⟨0, by omega, rfl, rfl⟩
  case round =>
    obtain ⟨k, hk, rfl, rfl⟩ := hrel
    have hS := run_lt t HT.out.2.1 (b.take k) 4294967295 (by decide)
    by_cases hlt : k < b.length
    · obtain ⟨bb, off, rfl, hc⟩ := HB.out.2.2 k hlt
      have hcl := HB.out.lt (by decide) k
      have HR := Lib.hid (run_snoc t 4294967295 b k hlt)
      generalize Crc.runW t 4294967295 (b.take k) = S at *
      generalize b.getD k 0 = c at *
      obtain ⟨I, hI⟩ : ∃ I, I = (S % 256 ^^^ c) := ⟨_, rfl⟩
      have hI2 : I < 256 := by rw [hI]; exact Crc.xor_byte hcl
      have E := xor8 S c hcl
      rw [← hI] at E
      have HI := Lib.hid hI
      clear hI
      by_cases hin : I < t.length
      · obtain ⟨tb, toff, rfl, htc⟩ := HT.out.2.2 I hin
        have hx := HT.out.lt (by decide) I
        have HX := Lib.hid (show t.getD (S % 256 ^^^ c) 0 = t.getD I 0 by rw [HI.out])
        generalize t.getD I 0 = x at *
        have E2 := xor32' S x hS hx
        go_wp2
        go_round
        case rel => exact ⟨k + 1, by omega, by go_num, by rw [HR.out]; unfold Crc.stepW; rw [HX.out]⟩
        case measure => simp [intOf]; omega
      · have HE2 : Hid (bits .xor .u32 0 ((S : Int) / 256) = ((S / 256 : Nat) : Int)) := by
          have h := xor32' S 0 hS (by decide)
          rw [Nat.xor_zero] at h
          exact h
        have HX := Lib.hid (show t.getD (S % 256 ^^^ c) 0 = 0 by rw [← HI.out, List.getD_eq_getElem?_getD, List.getElem?_eq_none (by omega)]; rfl)
        go_wp2
        go_round
        case rel => exact ⟨k + 1, by omega, by go_num, by rw [HR.out]; unfold Crc.stepW; rw [HX.out, Nat.xor_zero]; exact congrArg (Value.int .u32) HE2.out⟩
        case measure => simp [intOf]; omega
    · have hkb : k = b.length := by omega
      have HK := Lib.hid (show b.take k = b by rw [hkb]; simp)
      have HF := Lib.hid (show Crc.withT t b = 4294967295 - Crc.runW t 4294967295 (b.take k) by rw [HK.out]; rfl)
      clear hkb
      generalize Crc.runW t 4294967295 (b.take k) = S at *
      go_wp2
      go_ret
      rw [HF.out, ← notx S hS]
      exact ⟨rfl, rfl⟩


theorem runE_snoc (s : Nat) (b : List Nat) (k : Nat) (hk : k < b.length) : Crc.runE s (b.take (k + 1)) = Crc.stepE (Crc.runE s (b.take k)) (b.getD k 0) := by
  rw [List.take_succ_eq_append_getElem hk, List.getD_eq_getElem?_getD, List.getElem?_eq_getElem hk]
  unfold Crc.runE
  rw [List.foldl_append]
  rfl
set_option maxRecDepth 100000 in
set_option maxHeartbeats 1000000 in
theorem rsum_any (a1 : Option Addr) (c1 : Nat) (b : List Nat) (w : World) (hb : Rw .u8 256 w a1 b) :
    Calls Try.prog 9 #[.slice a1 b.length c1] w fun e w' => e = .returned (.int .u32 (Crc.sum b : Nat)) ∧ w = w' := by
  have hbl := hb.1
  have HB := Lib.hid hb
  clear hb
  go_enter Try.func9, Try.ntmps9
  go_wp2
  go_loop [3, 8] (fun s i => ∃ k : Nat, k ≤ b.length ∧ i = .int .i64 k ∧ s = .int .u32 (Crc.runE 4294967295 (b.take k) : Nat)) (fun _ i => b.length - (intOf i).toNat)
  case atStart => exact ⟨0, by omega, rfl, rfl⟩
  case round =>
    obtain ⟨k, hk, rfl, rfl⟩ := hrel
    have hS := Crc.runE_lt (b.take k) (fun c hc => HB.out.2.1 c (List.mem_of_mem_take hc)) 4294967295 (by decide)
    by_cases hlt : k < b.length
    · obtain ⟨bb, off, rfl, hc⟩ := HB.out.2.2 k hlt
      have hcl := HB.out.lt (by decide) k
      have HR := Lib.hid (runE_snoc 4294967295 b k hlt)
      generalize Crc.runE 4294967295 (b.take k) = S at *
      generalize b.getD k 0 = c at *
      obtain ⟨I, hI⟩ : ∃ I, I = (S % 256 ^^^ c) := ⟨_, rfl⟩
      have hI2 : I < 256 := by rw [hI]; exact Crc.xor_byte hcl
      have E := xor8 S c hcl
      rw [← hI] at E
      have HI := Lib.hid hI
      clear hI
      have hx := Crc.entry_lt (i := I) (by omega)
      have E2 := xor32' S (Crc.entry I) hS hx
      have HE := Lib.hid (entry_any I hI2)
      have HX := Lib.hid (show Crc.stepE S c = S / 256 ^^^ Crc.entry I by unfold Crc.stepE; rw [HI.out])
      go_wp2_with (go_at_call 7; (with_reducible refine (HE.out _).mono ?_); rintro e w' ⟨rfl, rfl⟩)
      go_round
      case rel => exact ⟨k + 1, by omega, by go_num, by rw [HR.out, HX.out]⟩
      case measure => simp [intOf]; omega
    · have hkb : k = b.length := by omega
      have HK := Lib.hid (show b.take k = b by rw [hkb]; simp)
      have HF := Lib.hid (show Crc.sum b = 4294967295 - Crc.runE 4294967295 (b.take k) by rw [HK.out]; rfl)
      clear hkb
      generalize Crc.runE 4294967295 (b.take k) = S at *
      go_wp2
      go_ret
      rw [HF.out, ← notx S hS]
      exact ⟨rfl, rfl⟩
theorem withT_table (b : List Nat) (hb : ∀ c ∈ b, c < 256) : Crc.withT Crc.table b = Crc.sum b := by
  unfold Crc.withT Crc.sum; rw [Crc.runW_table b hb]
theorem sum_any (a1 : Option Addr) (c1 : Nat) (b : List Nat) (w : World) (hb : Rw .u8 256 w a1 b) :
    Calls Try.prog 8 #[.slice a1 b.length c1] w fun e w' => e = .returned (.int .u32 (Crc.sum b : Nat)) ∧ Below w.heap.size w w' := by
  have hbl := hb.1
  have HB := Lib.hid hb
  have HT := Lib.hid (withT_table b hb.2.1)
  clear hb
  have h256 : Crc.table.length = 256 := by simp [Crc.table]
  have HL := Lib.hid h256
  clear h256
  go_enter Try.func8, Try.ntmps8
  go_wp2_with fail
  refine (table_any _).mono ?_
  rintro e w1 ⟨g, cap, rfl, ht, hb1⟩
  have HW := Lib.hid (with_any (some ⟨g, 0, none⟩) a1 cap c1 Crc.table b w1 ht (HB.out.keep hb1))
  rw [HL.out] at HW
  have HB1 := Lib.hid hb1
  clear ht hb1
  go_wp2_with fail
  refine HW.out.mono ?_
  rintro e w' ⟨rfl, rfl⟩
  go_wp2
  go_ret
  rw [HT.out]
  exact ⟨rfl, HB1.out⟩
theorem nineRw (w : World) : Rw .u8 256 (w.alloc (.cells #[.int .u8 49, .int .u8 50, .int .u8 51, .int .u8 52, .int .u8 53, .int .u8 54, .int .u8 55, .int .u8 56, .int .u8 57] 5 (9, 10))) (some ⟨w.heap.size, 0, none⟩) [49, 50, 51, 52, 53, 54, 55, 56, 57] := by
  refine ⟨by decide, by decide, fun i hi => ⟨w.heap.size, 0, rfl, ?_⟩⟩
  rw [Nat.zero_add, World.cell?_alloc_mark]
  simp only [List.length_cons, List.length_nil] at hi
  match i, hi with
  | 0, _ => rfl
  | 1, _ => rfl
  | 2, _ => rfl
  | 3, _ => rfl
  | 4, _ => rfl
  | 5, _ => rfl
  | 6, _ => rfl
  | 7, _ => rfl
  | 8, _ => rfl
theorem awake_any (w : World) : Calls Try.prog 12 #[] w fun e w' => e = .returned (.bool true) ∧ Below w.heap.size w w' := by
  have HS := Lib.hid (sum_any (some ⟨w.heap.size, 0, none⟩) 9 [49, 50, 51, 52, 53, 54, 55, 56, 57] _ (nineRw w))
  rw [Crc.nine] at HS
  have kc := fun (w : World) (C : Array Value) (n c : Nat) => Lib.run_convert_bytes_const (P := Try.prog) w 22 5 C n c Try.underlying22 Try.underlying5
  go_enter Try.func12, Try.ntmps12
  go_wp2_with fail
  refine HS.out.mono ?_
  rintro e w1 ⟨rfl, hb⟩
  have HB := Lib.hid hb
  clear hb
  go_wp2
  go_ret
  exact ⟨rfl, ((Below.refl _ _).alloc (Nat.le_refl _) _).trans (HB.out.mono (by simp))⟩
/-- what the frame tells of a slice of integers that came in -/
def IsRow (k : IntKind) (w : World) (a : Option Addr) (len cap : Nat) (zs : List Int) : Prop :=
  (a = none ∧ len = 0 ∧ cap = 0 ∧ zs = []) ∨
  ∃ x, a = some x ∧ len ≤ cap ∧ cap ≤ maxLen ∧ zs.length = cap ∧ (∀ i, i < zs.length → w.cell? (x.add i) = some (.int k (zs.getD i 0))) ∧ ∀ n ∈ zs, (Lit.int k n).wf = true
theorem IsRow.rw {k : IntKind} {m : Nat} {w : World} {a : Option Addr} {len cap : Nat} {zs : List Int} (h : IsRow k w a len cap zs) (hk : ∀ n : Int, (Lit.int k n).wf = true → 0 ≤ n ∧ n < m) :
    ∃ l : List Nat, l.length = len ∧ Rw k m w a l := by
  rcases h with ⟨rfl, rfl, rfl, rfl⟩ | ⟨x, rfl, hl, hm, hz, hcell, hwz⟩
  · exact ⟨[], rfl, by simp, by simp, by simp⟩
  · unfold maxLen at hm
    refine ⟨(zs.take len).map Int.toNat, by simp; omega, by simp; omega, ?_, ?_⟩
    · intro c hc
      simp only [List.mem_map] at hc
      obtain ⟨n, hn, rfl⟩ := hc
      have := hk n (hwz n (List.mem_of_mem_take hn))
      omega
    · intro i hi
      have hi' : i < len := by simp at hi; omega
      obtain ⟨b, off, rfl, hcl⟩ := ints_at hcell (by omega)
      refine ⟨b, off, rfl, ?_⟩
      rw [hcl i (by omega)]
      have e : (((zs.take len).map Int.toNat).getD i 0 : Nat) = (zs.getD i 0).toNat := by
        simp only [List.getD_eq_getElem?_getD, List.getElem?_map, List.getElem?_take, hi', if_true]
        cases zs[i]? <;> simp
      have hn := hk (zs.getD i 0) (by
        rw [List.getD_eq_getElem?_getD, List.getElem?_eq_getElem (by omega)]; exact hwz _ (List.getElem_mem _))
      rw [e]
      congr 2
      omega
theorem wf8 (n : Int) (h : (Lit.int .u8 n).wf = true) : 0 ≤ n ∧ n < (256 : Nat) := by have := bounds_u8 h; omega
theorem wf32 (n : Int) (h : (Lit.int .u32 n).wf = true) : 0 ≤ n ∧ n < (4294967296 : Nat) := by have := bounds_u32 h; omega
end Go.Proofs.Ytleagghfhehmpaa
