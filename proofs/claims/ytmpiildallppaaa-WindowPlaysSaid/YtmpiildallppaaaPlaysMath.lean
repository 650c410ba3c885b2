/-
  The plain law of WindowPlays: the reference's window (a list and its last number) and the window of bits answer alike, and know the same numbers. No condition.
-/
import Derived.Test.YtmpiildallppaaaOnceMath
namespace Go.Proofs.Ytmpiildallppaaa
open Go.RowKit
set_option linter.unusedVariables false
/-- what the reference's Hear answers, and leaves -/
def rhear (L : List Int) (last seq : Int) : Int × List Int × Int :=
  if mayB seq = false then (1, L, last)
  else if L ≠ [] ∧ (df last seq = 0 ∨ df last seq = 32768 ∨ df last seq < -63 ∨ seq ∈ L) then (9, L, last)
  else if L ≠ [] ∧ df last seq < 0 then (0, L ++ [seq], last)
  else (0, seq :: L.filter (fun s => decide (1 ≤ df s seq ∧ df s seq ≤ 63)), seq)
structure Rl (L : List Int) (last : Int) (any : Bool) (seen : Nat) : Prop where
  any : any = !L.isEmpty
  lt : seen < 18446744073709551616
  nil : L = [] → seen = 0
  lastIn : L ≠ [] → 0 ≤ last ∧ last ≤ 65535
  top : L ≠ [] → last ∈ L
  nodup : L.Nodup
  each : ∀ x ∈ L, (0 ≤ x ∧ x ≤ 65535) ∧ (last - x) % 65536 < 64
  bits : L ≠ [] → ∀ d : Nat, d < 64 → seen.testBit d = decide ((last - d) % 65536 ∈ L)
theorem Rl.start : Rl [] 0 false 0 := ⟨rfl, by decide, fun _ => rfl, fun h => absurd rfl h, fun h => absurd rfl h, List.nodup_nil, (fun x hx => by cases hx), fun h => absurd rfl h⟩
theorem any_ne {L : List Int} {last : Int} {any : Bool} {seen : Nat} (h : Rl L last any seen) (hL : L ≠ []) : any = true := by
  rw [h.any]; cases L with
  | nil => exact absurd rfl hL
  | cons a l => rfl
theorem mem_bit {L : List Int} {last : Int} {any : Bool} {seen : Nat} (h : Rl L last any seen) (hL : L ≠ []) {seq : Int} (hs : 0 ≤ seq ∧ seq ≤ 65535) (hd : -df last seq < 64) (hd0 : 0 ≤ -df last seq) : seen.testBit (-df last seq).toNat = decide (seq ∈ L) := by
  have hl := h.lastIn hL
  have e : (last - (((-df last seq).toNat : Nat) : Int)) % 65536 = seq := by
    rw [df_in hl hs] at *
    split at hd <;> rename_i hc <;> simp only [hc, if_true, if_false] <;> omega
  rw [h.bits hL _ (by omega), e]
theorem not_mem {L : List Int} {last : Int} {any : Bool} {seen : Nat} (h : Rl L last any seen) (hL : L ≠ []) {seq : Int} (hs : 0 ≤ seq ∧ seq ≤ 65535) (hd : 0 < df last seq ∨ 64 ≤ -df last seq) : seq ∉ L := by
  intro hm
  have hl := h.lastIn hL
  have he := (h.each seq hm).2
  rw [df_in hl hs] at hd
  split at hd <;> omega
theorem has_same {L : List Int} {last : Int} {any : Bool} {seen : Nat} (h : Rl L last any seen) (seq : Int) : hasB any last seen seq = decide (seq ∈ L) := by
  by_cases hL : L = []
  · subst hL
    rw [show any = false from h.any]
    simp [hasB]
  · rw [any_ne h hL]
    by_cases hm : 0 ≤ seq ∧ seq ≤ 65535
    · have hmb : mayB seq = true := by simp [mayB, hm]
      unfold hasB
      rw [hmb]
      by_cases hd : 0 ≤ -df last seq ∧ -df last seq < 64
      · have hb : beh last seq = 2 ^ (-df last seq).toNat := by unfold beh; rw [if_pos hd]
        rw [hb, Bool.true_and, Bool.true_and]
        rw [decide_eq_decide]
        rw [and_pow_ne, mem_bit h hL hm hd.2 hd.1]
        simp
      · have hb : beh last seq = 0 := by unfold beh; rw [if_neg hd]
        have hn := not_mem h hL hm (by omega)
        rw [hb]
        simp [hn]
    · have hmb : mayB seq = false := by simp [mayB]; omega
      have hn : seq ∉ L := fun hx => hm (h.each seq hx).1
      unfold hasB
      rw [hmb]
      simp [hn]
theorem hear_same {L : List Int} {last : Int} {any : Bool} {seen : Nat} (h : Rl L last any seen) (seq : Int) :
    ∃ c L' last' any' seen', hr any last seen seq = (c, any', last', seen') ∧ rhear L last seq = (c, L', last') ∧ Rl L' last' any' seen' := by
  by_cases hm : 0 ≤ seq ∧ seq ≤ 65535
  rotate_left
  · have hmb : mayB seq = false := by simp [mayB]; omega
    exact ⟨1, L, last, any, seen, by unfold hr; rw [if_pos hmb], by unfold rhear; rw [if_pos hmb], h⟩
  have hmb : ¬ mayB seq = false := by simp [mayB, hm]
  by_cases hL : L = []
  · subst hL
    have ha : any = false := h.any
    refine ⟨0, [seq], seq, true, 1, by unfold hr; rw [if_neg hmb, if_pos ha], ?_, ?_⟩
    · unfold rhear; rw [if_neg hmb, if_neg (by simp), if_neg (by simp)]; rfl
    · refine ⟨rfl, by decide, (fun h => by cases h), fun _ => hm, fun _ => by simp, by simp, ?_, ?_⟩
      · intro x hx
        obtain rfl : x = seq := by simpa using hx
        exact ⟨hm, by omega⟩
      · intro _ d hd
        rw [testBit_one, decide_eq_decide]
        simp
        omega
  have ha : ¬ any = false := by rw [any_ne h hL]; decide
  have hl := h.lastIn hL
  have hlt := h.lt
  have hin := df_in hl hm
  by_cases c1 : df last seq = 32768
  · refine ⟨9, L, last, any, seen, by unfold hr; rw [if_neg hmb, if_neg ha, if_pos c1], ?_, h⟩
    unfold rhear; rw [if_neg hmb, if_pos ⟨hL, .inr (.inl c1)⟩]
  by_cases c2 : 0 < df last seq
  · have hn := not_mem h hL hm (.inl c2)
    refine ⟨0, seq :: L.filter (fun s => decide (1 ≤ df s seq ∧ df s seq ≤ 63)), seq, any, (seen * 2 ^ (df last seq).toNat % 18446744073709551616) ||| 1, by unfold hr; rw [if_neg hmb, if_neg ha, if_neg c1, if_pos c2], ?_, ?_⟩
    · unfold rhear
      rw [if_neg hmb, if_neg, if_neg]
      · intro hx; omega
      · rintro ⟨_, hx | hx | hx | hx⟩
        · omega
        · exact c1 hx
        · omega
        · exact hn hx
    · have hk : (seq - last) % 65536 = df last seq ∧ df last seq ≤ 32767 := by
        rw [hin]; rw [hin] at c1 c2; split at c1 <;> split at c2 <;> (try rename_i q1 q2; rw [if_neg (by omega)]) <;> omega
      refine ⟨by rw [any_ne h hL]; rfl, or_lt (by omega) (by decide), (fun h => by cases h), fun _ => hm, fun _ => by simp, ?_, ?_, ?_⟩
      · rw [List.nodup_cons]
        exact ⟨fun hx => hn (List.mem_filter.1 hx).1, h.nodup.sublist List.filter_sublist⟩
      · intro x hx
        rcases List.mem_cons.1 hx with rfl | hx
        · exact ⟨hm, by omega⟩
        · obtain ⟨h1, h2⟩ := List.mem_filter.1 hx
          have hv := (h.each x h1).1
          simp only [decide_eq_true_eq] at h2
          rw [df_in hv hm] at h2
          refine ⟨hv, ?_⟩
          split at h2 <;> omega
      · intro _ d hd
        rw [Nat.testBit_or, testBit_one, show (18446744073709551616 : Nat) = 2 ^ 64 by decide, Nat.testBit_mod_two_pow, Nat.testBit_mul_two_pow]
        by_cases d0 : d = 0
        · subst d0
          have : (seq - ((0 : Nat) : Int)) % 65536 = seq := by omega
          rw [this]; simp
        · obtain ⟨y, hy⟩ : ∃ y, y = (seq - (d : Int)) % 65536 := ⟨_, rfl⟩
          rw [← hy]
          have hyr : 0 ≤ y ∧ y ≤ 65535 := by omega
          have hys : y ≠ seq := by omega
          have hdy : df y seq = d := by
            rw [df_in hyr hm, show (seq - y) % 65536 = (d : Int) by omega, if_neg (by omega)]
          have hmem : (y ∈ seq :: L.filter (fun s => decide (1 ≤ df s seq ∧ df s seq ≤ 63))) ↔ y ∈ L := by
            rw [List.mem_cons, List.mem_filter]
            constructor
            · rintro (h1 | h1)
              · exact absurd h1 hys
              · exact h1.1
            · intro h1
              right
              refine ⟨h1, ?_⟩
              rw [hdy]; simp; omega
          rw [show decide (y ∈ seq :: L.filter (fun s => decide (1 ≤ df s seq ∧ df s seq ≤ 63))) = decide (y ∈ L) from decide_eq_decide.2 hmem]
          by_cases hkd : (df last seq).toNat ≤ d
          · have hb := h.bits hL (d - (df last seq).toNat) (by omega)
            rw [hb, show (last - ((d - (df last seq).toNat : Nat) : Int)) % 65536 = y by omega]
            simp [hd, hkd, d0]
          · have hyn : y ∉ L := by
              intro hx
              have := (h.each y hx).2
              omega
            simp [hkd, d0, hyn]
  · have hb : beh last seq = if -df last seq < 64 then 2 ^ (-df last seq).toNat else 0 := by
      unfold beh
      by_cases hc : -df last seq < 64
      · rw [if_pos ⟨by omega, hc⟩, if_pos hc]
      · rw [if_neg (by omega), if_neg hc]
    by_cases hc : -df last seq < 64
    · rw [if_pos hc] at hb
      have ht := mem_bit h hL hm hc (by omega)
      by_cases hs : seq ∈ L
      · refine ⟨9, L, last, any, seen, ?_, ?_, h⟩
        · unfold hr; rw [if_neg hmb, if_neg ha, if_neg c1, if_neg c2, hb, if_pos (.inr (and_pow_ne.2 (by rw [ht]; simp [hs])))]
        · unfold rhear; rw [if_neg hmb, if_pos ⟨hL, .inr (.inr (.inr hs))⟩]
      · have hne : df last seq ≠ 0 := by
          intro h0
          apply hs
          have : seq = last := by
            rw [hin] at h0; split at h0 <;> omega
          rw [this]; exact h.top hL
        refine ⟨0, L ++ [seq], last, any, seen ||| 2 ^ (-df last seq).toNat, ?_, ?_, ?_⟩
        · unfold hr
          rw [if_neg hmb, if_neg ha, if_neg c1, if_neg c2, hb, if_neg]
          intro hx
          rcases hx with hx | hx
          · have := Nat.two_pow_pos (-df last seq).toNat; omega
          · rw [and_pow_ne, ht] at hx; simp [hs] at hx
        · unfold rhear
          rw [if_neg hmb, if_neg, if_pos ⟨hL, by omega⟩]
          rintro ⟨_, hx | hx | hx | hx⟩
          · exact hne hx
          · exact c1 hx
          · omega
          · exact hs hx
        · have hp : 2 ^ (-df last seq).toNat < 18446744073709551616 := by
            have : 2 ^ (-df last seq).toNat ≤ 2 ^ 63 := Nat.pow_le_pow_right (by decide) (by omega)
            omega
          have hq : (last - seq) % 65536 = -df last seq := by
            rw [hin]; rw [hin] at c1 c2 hc; split at c1 <;> rename_i q1 <;> simp only [q1, if_true, if_false] at c2 hc ⊢ <;> omega
          refine ⟨by rw [any_ne h hL]; cases L <;> rfl, or_lt hlt hp, (fun h => by simp at h), fun _ => hl, fun _ => List.mem_append_left _ (h.top hL), ?_, ?_, ?_⟩
          · rw [List.nodup_append]
            refine ⟨h.nodup, by simp, ?_⟩
            intro a ha' b hb'
            have : b = seq := by simpa using hb'
            subst this
            intro e; subst e; exact hs ha'
          · intro x hx
            rcases List.mem_append.1 hx with hx | hx
            · exact h.each x hx
            · obtain rfl : x = seq := by simpa using hx
              exact ⟨hm, by omega⟩
          · intro _ d hd
            rw [Nat.testBit_or, Nat.testBit_two_pow, h.bits hL d hd]
            have e : decide ((-df last seq).toNat = d) = decide ((last - (d : Int)) % 65536 = seq) := by
              rw [decide_eq_decide]; omega
            rw [e, Bool.eq_iff_iff]
            simp
    · rw [if_neg hc] at hb
      refine ⟨9, L, last, any, seen, ?_, ?_, h⟩
      · unfold hr; rw [if_neg hmb, if_neg ha, if_neg c1, if_neg c2, hb, if_pos (.inl rfl)]
      · unfold rhear; rw [if_neg hmb, if_pos ⟨hL, .inr (.inr (.inl (by omega)))⟩]
/-! how many -/
theorem cnt_range (k : Nat) : ∀ x, Pop.cnt k x = ((List.range k).filter fun d => x.testBit d).length := by
  induction k with
  | zero => intro x; rfl
  | succ k ih =>
    intro x
    rw [List.range_succ_eq_map, List.filter_cons, List.filter_map, Pop.cnt, ih]
    have e : ((fun d => x.testBit d) ∘ Nat.succ) = fun d => (x / 2).testBit d := by
      funext d; simp [Nat.testBit_succ]
    rw [e, Nat.testBit_zero]
    rcases Nat.mod_two_eq_zero_or_one x with h | h <;> simp [h] <;> omega
theorem cnt_same {L : List Int} {last : Int} {any : Bool} {seen : Nat} (h : Rl L last any seen) : Pop.cnt 64 seen = L.length := by
  by_cases hL : L = []
  · subst hL
    rw [h.nil rfl]
    decide +kernel
  · have hl := h.lastIn hL
    rw [cnt_range]
    have hp : ((List.range 64).filter fun d => seen.testBit d).Perm (L.map fun x => ((last - x) % 65536).toNat) := by
      rw [List.perm_iff_count]
      intro d
      have n1 : ((List.range 64).filter fun d => seen.testBit d).Nodup := List.nodup_range.sublist List.filter_sublist
      have n2 : (L.map fun x => ((last - x) % 65536).toNat).Nodup := by
        unfold List.Nodup
        rw [List.pairwise_map]
        refine List.Pairwise.imp_of_mem ?_ h.nodup
        intro a b ha hb hab e
        have h1 := (h.each a ha).1
        have h2 := (h.each b hb).1
        omega
      rw [n1.count, n2.count]
      have : d ∈ ((List.range 64).filter fun d => seen.testBit d) ↔ d ∈ (L.map fun x => ((last - x) % 65536).toNat) := by
        rw [List.mem_filter, List.mem_range, List.mem_map]
        constructor
        · rintro ⟨h1, h2⟩
          rw [h.bits hL d h1, decide_eq_true_eq] at h2
          exact ⟨_, h2, by omega⟩
        · rintro ⟨x, hx, rfl⟩
          have h1 := h.each x hx
          refine ⟨by omega, ?_⟩
          rw [h.bits hL _ (by omega), decide_eq_true_eq, show (last - ((((last - x) % 65536).toNat : Nat) : Int)) % 65536 = x by omega]
          exact hx
      by_cases hd : d ∈ ((List.range 64).filter fun d => seen.testBit d)
      · rw [if_pos hd, if_pos (this.1 hd)]
      · rw [if_neg hd, if_neg (fun hx => hd (this.2 hx))]
    rw [hp.length_eq, List.length_map]
end Go.Proofs.Ytmpiildallppaaa
