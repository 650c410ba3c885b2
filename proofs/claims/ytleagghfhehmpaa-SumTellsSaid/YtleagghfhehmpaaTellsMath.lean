/-
  The plain law of SumTells: a row of bytes whose places from P on, K <= 4 of them, are changed has another sum, unless nothing is changed. No condition. No program in sight.
-/
import Derived.Test.YtleagghfhehmpaaSumMath
namespace Go.Proofs.Ytleagghfhehmpaa
/-- the row b, its k places from P on changed by y -/
def chg (b : List Nat) (P k : Nat) (y : List Nat) : List Nat := (List.range b.length).map fun j => if P ≤ j ∧ j < P + k then b.getD j 0 ^^^ y.getD (j - P) 0 else b.getD j 0
theorem chg_len (b : List Nat) (P k : Nat) (y : List Nat) : (chg b P k y).length = b.length := by simp [chg]
theorem chg_at {b : List Nat} {P k : Nat} {y : List Nat} {j : Nat} (h : j < b.length) : (chg b P k y).getD j 0 = if P ≤ j ∧ j < P + k then b.getD j 0 ^^^ y.getD (j - P) 0 else b.getD j 0 := by
  simp [chg, List.getD_eq_getElem?_getD, h]
theorem chg_zero (b : List Nat) (P : Nat) (y : List Nat) : chg b P 0 y = b := by
  apply List.ext_getElem (chg_len _ _ _ _)
  intro j h1 h2
  have h3 : ¬ (P ≤ j ∧ j < P) := by omega
  simp [chg, List.getD_eq_getElem?_getD, h2, h3]
theorem chg_lt {b : List Nat} {P k : Nat} {y : List Nat} (hb : ∀ c ∈ b, c < 256) (hy : ∀ c ∈ y, c < 256) : ∀ c ∈ chg b P k y, c < 256 := by
  have hg : ∀ (l : List Nat), (∀ c ∈ l, c < 256) → ∀ j, l.getD j 0 < 256 := by
    intro l hl j
    by_cases h : j < l.length
    · rw [List.getD_eq_getElem?_getD, List.getElem?_eq_getElem h]; exact hl _ (List.getElem_mem h)
    · rw [List.getD_eq_getElem?_getD, List.getElem?_eq_none (by omega)]; decide
  intro c hc
  simp only [chg, List.mem_map] at hc
  obtain ⟨j, _, rfl⟩ := hc
  split
  · exact Nat.xor_lt_two_pow (n := 8) (hg b hb j) (hg y hy _)
  · exact hg b hb j
theorem split3 (l : List Nat) (P K : Nat) : l = l.take P ++ (l.drop P).take K ++ l.drop (P + K) := by
  rw [List.append_assoc, ← List.drop_drop, List.take_append_drop, List.take_append_drop]
/-- LIKE SUMS, LIKE ROWS -/
theorem chg_tells (b : List Nat) (P K : Nat) (y : List Nat) (hK : K ≤ 4) (hP : P + K ≤ b.length) (hb : ∀ c ∈ b, c < 256) (hy : ∀ c ∈ y, c < 256) (h : Crc.sum b = Crc.sum (chg b P K y)) : b = chg b P K y := by
  have e1 : (chg b P K y).take P = b.take P := by
    apply List.ext_getElem (by simp [chg_len])
    intro j h1 h2
    have hj : j < b.length ∧ j < P := by simp at h2; omega
    have h3 : ¬ (P ≤ j ∧ j < P + K) := by omega
    simp [chg, List.getD_eq_getElem?_getD, hj.1, h3]
  have e2 : (chg b P K y).drop (P + K) = b.drop (P + K) := by
    apply List.ext_getElem (by simp [chg_len])
    intro j h1 h2
    have hj : P + K + j < b.length := by simp at h2; omega
    have h3 : ¬ (P ≤ P + K + j ∧ P + K + j < P + K) := by omega
    simp [chg, List.getD_eq_getElem?_getD, hj, h3]
  have s1 := split3 b P K
  have s2 := split3 (chg b P K y) P K
  rw [e1, e2] at s2
  have h' : Crc.sum (b.take P ++ (b.drop P).take K ++ b.drop (P + K)) = Crc.sum (b.take P ++ ((chg b P K y).drop P).take K ++ b.drop (P + K)) := by rw [← s1, ← s2]; exact h
  have ht := Crc.tells (b.take P) ((b.drop P).take K) (((chg b P K y).drop P).take K) (b.drop (P + K)) (by simp; omega) (by simp [chg_len])
    (fun c hc => hb c (List.mem_of_mem_take hc)) (fun c hc => hb c (List.mem_of_mem_drop (List.mem_of_mem_take hc))) (fun c hc => chg_lt hb hy c (List.mem_of_mem_drop (List.mem_of_mem_take hc))) (fun c hc => hb c (List.mem_of_mem_drop hc)) h'
  rw [← ht] at s2
  exact s1.trans s2.symm
end Go.Proofs.Ytleagghfhehmpaa
