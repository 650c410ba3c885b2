/-
  The contracts of the reference's window: Has and Hear. Conditions: the cells of the window and of its list are known; the list is short.
-/
import Derived.Test.YtmpiildallppaaaPlaysMath
import Derived.Test.YtmpiildallppaaaSerialRef
namespace Go.Proofs.Ytmpiildallppaaa
open Go.ChangeShapes Go.WideShapes Go.ChangeAt Go.RowKit
set_option linter.unusedVariables false
/-- a list of numbers, as cells -/
def ics (L : List Int) : List Value := L.map (Value.int .i64)
/-- the reference's window in memory -/
def RW (w : World) (m base : Nat) (v : Value) (L : List Int) (last : Int) : Prop :=
  w.cell? ⟨m, 0, none⟩ = some v ∧ w.cell? ⟨m, 1, none⟩ = some (.int .i64 last) ∧ w.frozen? ⟨m, 0, none⟩ = false ∧ w.frozen? ⟨m, 1, none⟩ = false ∧
  w.ownsRow base 3 1 v L.length (ics L) ∧ m < base ∧ base ≤ w.heap.size
theorem RW.shape {w : World} {m base : Nat} {v : Value} {L : List Int} {last : Int} (h : RW w m base v L last) :
    ∃ a cap, v = .slice a L.length cap ∧ ∀ i, i < L.length → ∃ g, base ≤ g ∧ a = some ⟨g, 0, none⟩ ∧ w.cell? ⟨g, i, none⟩ = some (.int .i64 (L.getD i 0)) := by
  obtain ⟨_, _, _, _, h, _, _⟩ := h
  have h' := h
  rcases h.2 with ⟨rfl, h0⟩ | ⟨g, cap, cur, rfl, hg, _⟩
  · exact ⟨none, 0, by rw [h0], fun i hi => by omega⟩
  · refine ⟨_, cap, rfl, fun i hi => ⟨g, hg, rfl, ?_⟩⟩
    rw [h'.cellAt i (by omega)]
    simp [ics, List.getD_eq_getElem?_getD, hi]
set_option maxRecDepth 100000 in
theorem rhas_any (m base : Nat) (v : Value) (L : List Int) (last seq : Int) (w : World) (h : RW w m base v L last) (hlen : L.length ≤ 1000) :
    Calls Try.prog 15 #[.pointer (some ⟨m, 0, none⟩), .int .i64 seq] w fun e w' => e = .returned (.bool (decide (seq ∈ L))) ∧ w = w' := by
  obtain ⟨a, cap, rfl, hc⟩ := h.shape
  have h0 := h.1
  have HC := Lib.hid hc
  clear h hc
  go_enter Try.func15, Try.ntmps15
  go_wp2
  go_loop [12] (fun i => ∃ k : Nat, k ≤ L.length ∧ i = .int .i64 k ∧ ∀ j, j < k → L.getD j 0 ≠ seq) (fun i => L.length - (intOf i).toNat)
  case atStart => exact ⟨0, by omega, rfl, fun j hj => by omega⟩
  case round =>
    obtain ⟨k, hk, rfl, hno⟩ := hrel
    have HN := Lib.hid hno
    clear hno
    by_cases hlt : k < L.length
    · obtain ⟨g, hg, rfl, hck⟩ := HC.out k hlt
      by_cases he : L.getD k 0 = seq
      · have HR := Lib.hid (show decide (seq ∈ L) = true by
          rw [decide_eq_true_eq, ← he, List.getD_eq_getElem?_getD, List.getElem?_eq_getElem hlt]; exact List.getElem_mem hlt)
        have hb : (L.getD k 0 == seq) = true := by rw [he]; simp
        clear he
        generalize L.getD k 0 = x at *
        go_wp2
        go_ret
        rw [HR.out]; exact ⟨rfl, rfl⟩
      · have hb : (L.getD k 0 == seq) = false := beq_eq_false_iff_ne.2 he
        have HE := Lib.hid he
        clear he
        have HN' : Hid (∀ j, j < k + 1 → L.getD j 0 ≠ seq) := by
          intro j hj
          rcases Nat.lt_or_ge j k with h | h
          · exact HN.out j h
          · obtain rfl : j = k := by omega
            exact HE.out
        clear HN HE
        generalize L.getD k 0 = x at *
        go_wp2
        go_round
        case rel => exact ⟨k + 1, by omega, by go_num, HN'.out⟩
        case measure => simp [intOf]; omega
    · have HR := Lib.hid (show decide (seq ∈ L) = false by
        rw [decide_eq_false_iff_not]
        intro hm
        obtain ⟨i, hi, e⟩ := List.mem_iff_getElem.1 hm
        refine HN.out i (by omega) ?_
        rw [List.getD_eq_getElem?_getD, List.getElem?_eq_getElem hi]; exact e)
      go_wp2
      go_ret
      rw [HR.out]; exact ⟨rfl, rfl⟩
end Go.Proofs.Ytmpiildallppaaa
