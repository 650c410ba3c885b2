/-
  SumReckons, walked: the law returns true for all bytes, every table and every i, and writes nothing that was there. Conditions: the slices read as rows of bytes and of words.
-/
import Derived.Test.YtleagghfhehmpaaTable
import Derived.Deep.RegionWith
import Derived.BigQuiet
import Derived.Deep.RegionHeld3
namespace Go.Proofs.Ytleagghfhehmpaa
open Go.ChangeShapes Go.WideShapes Go.ChangeAt Go.RowKit
set_option linter.unusedVariables false
/-- what every call of the law keeps -/
def St (w0 w : World) (a0 a1 : Option Addr) (g : Nat) (b t : List Nat) : Prop :=
  Rw .u8 256 w a0 b ∧ Rw .u32 4294967296 w a1 t ∧ Rw .u32 4294967296 w (some ⟨g, 0, none⟩) Crc.table ∧ Below w0.heap.size w0 w
theorem St.next {w0 w w' : World} {a0 a1 : Option Addr} {g : Nat} {b t : List Nat} (h : St w0 w a0 a1 g b t) (hb : Below w.heap.size w w') : St w0 w' a0 a1 g b t :=
  ⟨h.1.keep hb, h.2.1.keep hb, h.2.2.1.keep hb, h.2.2.2.trans (hb.mono h.2.2.2.size)⟩
theorem St.drew {w0 w : World} {a0 a1 : Option Addr} {g : Nat} {b t : List Nat} (h : St w0 w a0 a1 g b t) : St w0 w.drew a0 a1 g b t := ⟨h.1, h.2.1, h.2.2.1, h.2.2.2.drew⟩
theorem sum_st {w0 w : World} {a0 a1 : Option Addr} {g : Nat} {b t : List Nat} (c : Nat) (h : St w0 w a0 a1 g b t) :
    Calls Try.prog 8 #[.slice a0 b.length c] w fun e w' => e = .returned (.int .u32 (Crc.sum b : Nat)) ∧ St w0 w' a0 a1 g b t :=
  (sum_any a0 c b w h.1).mono fun _ _ ⟨he, hb⟩ => ⟨he, h.next hb⟩
theorem awake_st {w0 w : World} {a0 a1 : Option Addr} {g : Nat} {b t : List Nat} (h : St w0 w a0 a1 g b t) :
    Calls Try.prog 12 #[] w fun e w' => e = .returned (.bool true) ∧ St w0 w' a0 a1 g b t :=
  (awake_any w).mono fun _ _ ⟨he, hb⟩ => ⟨he, h.next hb⟩
theorem rsum_st {w0 w : World} {a0 a1 : Option Addr} {g : Nat} {b t : List Nat} (c : Nat) (h : St w0 w a0 a1 g b t) :
    Calls Try.prog 9 #[.slice a0 b.length c] w fun e w' => e = .returned (.int .u32 (Crc.sum b : Nat)) ∧ w = w' := rsum_any a0 c b w h.1
theorem with_st {w0 w : World} {a0 a1 : Option Addr} {g : Nat} {b t : List Nat} (c c' : Nat) (h : St w0 w a0 a1 g b t) :
    Calls Try.prog 10 #[.slice a1 t.length c', .slice a0 b.length c] w fun e w' => e = .returned (.int .u32 (Crc.withT t b : Nat)) ∧ w = w' := with_any a1 a0 c' c t b w h.2.1 h.1
theorem rwith_st {w0 w : World} {a0 a1 : Option Addr} {g : Nat} {b t : List Nat} (c c' : Nat) (h : St w0 w a0 a1 g b t) :
    Calls Try.prog 11 #[.slice a1 t.length c', .slice a0 b.length c] w fun e w' => e = .returned (.int .u32 (Crc.withT t b : Nat)) ∧ w = w' := rwith_any a1 a0 c' c t b w h.2.1 h.1
theorem withtab_st {w0 w : World} {a0 a1 : Option Addr} {g : Nat} {b t : List Nat} (c c' : Nat) (h : St w0 w a0 a1 g b t) :
    Calls Try.prog 10 #[.slice (some ⟨g, 0, none⟩) 256 c', .slice a0 b.length c] w fun e w' => e = .returned (.int .u32 (Crc.sum b : Nat)) ∧ w = w' := by
  have := with_any (some ⟨g, 0, none⟩) a0 c' c Crc.table b w h.2.2.1 h.1
  rw [withT_table b h.1.2.1, show Crc.table.length = 256 by simp [Crc.table]] at this
  exact this
theorem St.cell {w0 w : World} {a0 a1 : Option Addr} {g : Nat} {b t : List Nat} (h : St w0 w a0 a1 g b t) {I : Nat} (hI : I < 256) : w.cell? ⟨g, I, none⟩ = some (.int .u32 (Crc.entry I : Nat)) := by
  obtain ⟨b', off, h1, h2⟩ := h.2.2.1.2.2 I (by simp [Crc.table]; omega)
  simp only [Option.some.injEq, Addr.mk.injEq, and_true] at h1
  obtain ⟨rfl, rfl⟩ := h1
  rw [Crc.table_at hI, Nat.zero_add] at h2
  exact h2
theorem at_in (a : Int) : ∃ n : Nat, n < 256 ∧ wrap64 ((IntKind.u64.wrap a).tmod 256) = (n : Int) := by
  rw [IntKind.wrap_u64, Int.tmod_eq_emod_of_nonneg (by omega)]
  refine ⟨(a % 18446744073709551616 % 256).toNat, by omega, ?_⟩
  unfold wrap64
  omega
set_option maxRecDepth 100000 in
set_option maxHeartbeats 1000000 in
theorem reckons_walk (a0 a1 : Option Addr) (c0 c1 : Nat) (b t : List Nat) (i : Int) (w : World) (hb : Rw .u8 256 w a0 b) (ht : Rw .u32 4294967296 w a1 t) :
    Calls Try.prog 3 #[.slice a0 b.length c0, .slice a1 t.length c1, .int .i64 i] w fun e w' => e = .returned (.bool true) ∧ Below w.heap.size w w' := by
  have hbl := hb.1
  have htl := ht.1
  have HB := Lib.hid hb
  have HT := Lib.hid ht
  clear hb ht
  obtain ⟨I, hI, hi⟩ := at_in i
  have HI := Lib.hid hi
  clear hi
  go_enter Try.func3, Try.ntmps3
  go_wp2_with fail
  refine (table_any _).mono ?_
  rintro e w1 ⟨g, cap, rfl, htab, hb1⟩
  have hst : St w w1 a0 a1 g b t := ⟨HB.out.keep hb1, HT.out.keep hb1, htab, hb1⟩
  have hcell := hst.cell hI
  have HE := Lib.hid (entry_any I hI)
  have hI0 : (0 : Int) ≤ (I : Int) := by omega
  have hI1 : (I : Int) < 256 := by omega
  clear htab hb1
  go_wp2_with fail
  rw [HI.out]
  go_region_held3 (fun w' => w'.cell? ⟨g, I, none⟩ = some (.int .u32 (Crc.entry I : Nat)) ∧ St w w' a0 a1 g b t) (first | exact ⟨hcell, hst⟩ | exact ⟨hcell, hst.drew⟩ | exact ⟨St.cell (by assumption) hI, by assumption⟩)
    (first | (go_at_call 7; (with_reducible refine (HE.out _).mono ?_); rintro e w' ⟨rfl, rfl⟩) | (go_at_call 8; refine (sum_st (w0 := w) (a0 := a0) (a1 := a1) (g := g) (b := b) (t := t) _ (by first | assumption | exact ‹_ ∧ St w _ a0 a1 g b t›.2)).mono ?_; rintro e w' ⟨rfl, hst⟩) | (go_at_call 9; refine (rsum_st (w0 := w) (a0 := a0) (a1 := a1) (g := g) (b := b) (t := t) _ (by first | assumption | exact ‹_ ∧ St w _ a0 a1 g b t›.2)).mono ?_; rintro e w' ⟨rfl, rfl⟩) | (go_at_call 11; refine (rwith_st (w0 := w) (a0 := a0) (a1 := a1) (g := g) (b := b) (t := t) _ _ (by first | assumption | exact ‹_ ∧ St w _ a0 a1 g b t›.2)).mono ?_; rintro e w' ⟨rfl, rfl⟩) | (go_at_call 12; refine (awake_st (w0 := w) (a0 := a0) (a1 := a1) (g := g) (b := b) (t := t) (by first | assumption | exact ‹_ ∧ St w _ a0 a1 g b t›.2)).mono ?_; rintro e w' ⟨rfl, hst⟩) | (go_at_call 10; (with_reducible refine (with_st (w0 := w) (a0 := a0) (a1 := a1) (g := g) (b := b) (t := t) _ _ (by first | assumption | exact ‹_ ∧ St w _ a0 a1 g b t›.2)).mono ?_); rintro e w' ⟨rfl, rfl⟩) | (go_at_call 10; (with_reducible refine (withtab_st (w0 := w) (a0 := a0) (a1 := a1) (g := g) (b := b) (t := t) _ _ (by first | assumption | exact ‹_ ∧ St w _ a0 a1 g b t›.2)).mono ?_); rintro e w' ⟨rfl, rfl⟩))
  go_wp2
  go_ret
  refine ⟨rfl, ?_⟩
  first | exact (show St w _ a0 a1 g b t by assumption).2.2.2 | exact (‹_ ∧ St w _ a0 a1 g b t›).2.2.2.2
theorem reckons_row (a0 : Option Addr) (len0 cap0 : Nat) (z0 : List Int) (a1 : Option Addr) (len1 cap1 : Nat) (z1 : List Int) (i : Int) (w : World) (w0 : IsRow .u8 w a0 len0 cap0 z0) (w1 : IsRow .u32 w a1 len1 cap1 z1) :
    Calls Try.prog 3 #[.slice a0 len0 cap0, .slice a1 len1 cap1, .int .i64 i] w fun e w' => e = .returned (.bool true) ∧ Below w.heap.size w w' := by
  obtain ⟨b, rfl, hb⟩ := w0.rw wf8
  obtain ⟨t, rfl, ht⟩ := w1.rw wf32
  exact reckons_walk a0 a1 cap0 cap1 b t i w hb ht
end Go.Proofs.Ytleagghfhehmpaa
