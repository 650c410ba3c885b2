/-
  The plain law of the count of ones: what the code of OnesCount64 makes of a number below 2 to the 64 is the number of its ones. No condition. No program in sight.
-/
namespace Go.Proofs.Ytmpiildallppaaa.Pop
/-- how many of the lowest k bits are 1 -/
def cnt : Nat → Nat → Nat
  | 0, _ => 0
  | k + 1, x => x % 2 + cnt k (x / 2)
theorem cnt_split (k b r : Nat) (hb : b < 256) : cnt (k + 8) (b + 256 * r) = cnt 8 b + cnt k r := by
  simp only [cnt]
  have e : (b + 256 * r) / 2 / 2 / 2 / 2 / 2 / 2 / 2 / 2 = r := by omega
  rw [e]; omega
theorem cnt_le (k : Nat) : ∀ x, cnt k x ≤ k := by
  induction k with
  | zero => intro x; exact Nat.le_refl _
  | succ k ih => intro x; have := ih (x / 2); simp only [cnt]; omega

theorem and_split (x m : Nat) : x &&& m = (x % 256 &&& m % 256) + 256 * (x / 256 &&& m / 256) := by
  have h1 : (x &&& m) % 256 = x % 256 &&& m % 256 := Nat.and_mod_two_pow (n := 8)
  have h2 : (x &&& m) / 256 = x / 256 &&& m / 256 := Nat.and_div_two_pow (n := 8)
  rw [← h1, ← h2]; omega
theorem and_low (n x m : Nat) (h : m < 2 ^ n) : x &&& m = x % 2 ^ n &&& m := by
  have h1 : (x &&& m) % 2 ^ n = x % 2 ^ n &&& m % 2 ^ n := Nat.and_mod_two_pow
  rw [Nat.mod_eq_of_lt h, Nat.mod_eq_of_lt (Nat.lt_of_le_of_lt Nat.and_le_right h)] at h1
  exact h1
def s1 (m x : Nat) : Nat := (x / 2 &&& m) + (x &&& m)
def s2 (m x : Nat) : Nat := (x / 4 &&& m) + (x &&& m)
def s3 (m x : Nat) : Nat := (x / 16 + x) &&& m
theorem s1_split (m b r : Nat) (hb : b < 256) : s1 (85 + 256 * m) (b + 256 * r) = s1 85 b + 256 * s1 m r := by
  unfold s1
  rw [and_split ((b + 256 * r) / 2), and_split (b + 256 * r), show (85 + 256 * m) % 256 = 85 from by omega, show (85 + 256 * m) / 256 = m from by omega,
    show (b + 256 * r) / 2 / 256 = r / 2 from by omega, show (b + 256 * r) / 256 = r from by omega, show (b + 256 * r) % 256 = b from by omega,
    and_low 7 ((b + 256 * r) / 2 % 256) 85 (by decide), and_low 7 (b / 2) 85 (by decide), show (b + 256 * r) / 2 % 256 % 2 ^ 7 = b / 2 % 2 ^ 7 from by omega]
  omega
theorem s2_split (m b r : Nat) (hb : b < 256) : s2 (51 + 256 * m) (b + 256 * r) = s2 51 b + 256 * s2 m r := by
  unfold s2
  rw [and_split ((b + 256 * r) / 4), and_split (b + 256 * r), show (51 + 256 * m) % 256 = 51 from by omega, show (51 + 256 * m) / 256 = m from by omega,
    show (b + 256 * r) / 4 / 256 = r / 4 from by omega, show (b + 256 * r) / 256 = r from by omega, show (b + 256 * r) % 256 = b from by omega,
    and_low 6 ((b + 256 * r) / 4 % 256) 51 (by decide), and_low 6 (b / 4) 51 (by decide), show (b + 256 * r) / 4 % 256 % 2 ^ 6 = b / 4 % 2 ^ 6 from by omega]
  omega
theorem s3_split (m b r : Nat) (hb : b < 72) (hr : r % 16 ≤ 4) : s3 (15 + 256 * m) (b + 256 * r) = s3 15 b + 256 * s3 m r := by
  unfold s3
  rw [and_split ((b + 256 * r) / 16 + (b + 256 * r)), show (15 + 256 * m) % 256 = 15 from by omega, show (15 + 256 * m) / 256 = m from by omega,
    show ((b + 256 * r) / 16 + (b + 256 * r)) / 256 = r / 16 + r from by omega,
    and_low 4 (((b + 256 * r) / 16 + (b + 256 * r)) % 256) 15 (by decide), and_low 4 (b / 16 + b) 15 (by decide), show ((b + 256 * r) / 16 + (b + 256 * r)) % 256 % 2 ^ 4 = (b / 16 + b) % 2 ^ 4 from by omega]
theorem byte1 : ∀ b, b < 256 → s1 85 b < 256 := by decide +kernel
theorem byte2 : ∀ b, b < 256 → s2 51 (s1 85 b) < 72 ∧ s2 51 (s1 85 b) % 16 ≤ 4 := by decide +kernel
theorem byte3 : ∀ b, b < 256 → s3 15 (s2 51 (s1 85 b)) = cnt 8 b := by decide +kernel
/-- the three steps over so many bytes -/
def rep (c : Nat) : Nat → Nat
  | 0 => 0
  | k + 1 => c + 256 * rep c k
def three (k x : Nat) : Nat := s3 (rep 15 k) (s2 (rep 51 k) (s1 (rep 85 k) x))
theorem three_split (k b r : Nat) (hb : b < 256) (h : s2 (rep 51 k) (s1 (rep 85 k) r) % 16 ≤ 4) : three (k + 1) (b + 256 * r) = cnt 8 b + 256 * three k r := by
  unfold three
  simp only [rep]
  rw [s1_split _ _ _ hb, s2_split _ _ _ (byte1 b hb), s3_split _ _ _ (byte2 b hb).1 h, byte3 b hb]
theorem low (k b r : Nat) (hb : b < 256) : s2 (rep 51 (k + 1)) (s1 (rep 85 (k + 1)) (b + 256 * r)) % 16 ≤ 4 := by
  simp only [rep]
  rw [s1_split _ _ _ hb, s2_split _ _ _ (byte1 b hb)]
  have := (byte2 b hb).2
  omega
theorem low0 (x : Nat) : s2 (rep 51 0) (s1 (rep 85 0) x) % 16 ≤ 4 := by simp [rep, s1, s2]
theorem three0 (x : Nat) : three 0 x = 0 := by simp [three, rep, s3]
theorem three8 (a b c d e f g h : Nat) (ha : a < 256) (hb : b < 256) (hc : c < 256) (hd : d < 256) (he : e < 256) (hf : f < 256) (hg : g < 256) (hh : h < 256) :
    three 8 (a + 256 * (b + 256 * (c + 256 * (d + 256 * (e + 256 * (f + 256 * (g + 256 * (h + 256 * 0)))))))) =
      cnt 8 a + 256 * (cnt 8 b + 256 * (cnt 8 c + 256 * (cnt 8 d + 256 * (cnt 8 e + 256 * (cnt 8 f + 256 * (cnt 8 g + 256 * (cnt 8 h + 256 * 0))))))) := by
  rw [three_split 7 _ _ ha (low _ _ _ hb), three_split 6 _ _ hb (low _ _ _ hc), three_split 5 _ _ hc (low _ _ _ hd), three_split 4 _ _ hd (low _ _ _ he), three_split 3 _ _ he (low _ _ _ hf), three_split 2 _ _ hf (low _ _ _ hg), three_split 1 _ _ hg (low _ _ _ hh), three_split 0 _ _ hh (low0 _), three0]
/-- two fields added: the sum without its lowest field is the sum of the rests -/
theorem pair {x y r s d e q : Nat} (hx : x = d + 256 * r) (hy : y = e + 256 * s) (hq : q = r + s) : x + y = (d + e) + 256 * q := by omega
theorem shr4 {x p q r t a b c d : Nat} (ha : a < 256) (hb : b < 256) (hc : c < 256) (hd : d < 256) (hx : x = a + 256 * p) (hp : p = b + 256 * q) (hq : q = c + 256 * r) (hr : r = d + 256 * t) : x / 4294967296 = t := by
  have e1 : x = (a + 256 * b + 65536 * c + 16777216 * d) + 4294967296 * t := by omega
  have e2 : a + 256 * b + 65536 * c + 16777216 * d < 4294967296 := by omega
  clear hx hp hq hr ha hb hc hd
  generalize a + 256 * b + 65536 * c + 16777216 * d = m at *
  omega
theorem shr2 {x p q a b : Nat} (ha : a < 256) (hb : b < 256) (hx : x = a + 256 * p) (hp : p = b + 256 * q) : x / 65536 = q := by omega
theorem shr1 {x p a : Nat} (ha : a < 256) (hx : x = a + 256 * p) : x / 256 = p := by omega
theorem fin {z p s t q r w : Nat} (hz : z = s + 256 * q) (hp : p = t + 256 * r) (hs : s ≤ 32) (ht : t ≤ 32) (hw : w = z + p) : w % 128 = s + t := by omega
theorem le16 {a b : Nat} (ha : a ≤ 8) (hb : b ≤ 8) : a + b < 256 := by omega
theorem le32 {a b c d : Nat} (ha : a ≤ 8) (hb : b ≤ 8) (hc : c ≤ 8) (hd : d ≤ 8) : a + b + (c + d) ≤ 32 := by omega
theorem lt32 {a b c d : Nat} (ha : a ≤ 8) (hb : b ≤ 8) (hc : c ≤ 8) (hd : d ≤ 8) : a + b + (c + d) < 256 := by omega
theorem le8 {a : Nat} (ha : a ≤ 8) : a < 256 := by omega
theorem fold8 (a b c d p f g h : Nat) (h0 : a ≤ 8) (h1 : b ≤ 8) (h2 : c ≤ 8) (h3 : d ≤ 8) (h4 : p ≤ 8) (h5 : f ≤ 8) (h6 : g ≤ 8) (h7 : h ≤ 8) (X Y Z W : Nat)
    (hX : X = a + 256 * (b + 256 * (c + 256 * (d + 256 * (p + 256 * (f + 256 * (g + 256 * h))))))) (hY : Y = X + X / 256) (hZ : Z = Y + Y / 65536) (hW : W = Z + Z / 4294967296) :
    W % 128 = a + b + c + d + p + f + g + h := by
  obtain ⟨R7, r7⟩ : ∃ r, r = h + 256 * 0 := ⟨_, rfl⟩
  obtain ⟨R6, r6⟩ : ∃ r, r = g + 256 * R7 := ⟨_, rfl⟩
  obtain ⟨R5, r5⟩ : ∃ r, r = f + 256 * R6 := ⟨_, rfl⟩
  obtain ⟨R4, r4⟩ : ∃ r, r = p + 256 * R5 := ⟨_, rfl⟩
  obtain ⟨R3, r3⟩ : ∃ r, r = d + 256 * R4 := ⟨_, rfl⟩
  obtain ⟨R2, r2⟩ : ∃ r, r = c + 256 * R3 := ⟨_, rfl⟩
  obtain ⟨R1, r1⟩ : ∃ r, r = b + 256 * R2 := ⟨_, rfl⟩
  have r0 : X = a + 256 * R1 := by rw [r1, r2, r3, r4, r5, r6, r7]; exact hX
  clear hX
  have e1 : X / 256 = R1 := shr1 (le8 h0) r0
  rw [e1] at hY
  -- the first fold
  obtain ⟨Q1, q1⟩ : ∃ q, q = R1 + R2 := ⟨_, rfl⟩
  obtain ⟨Q2, q2⟩ : ∃ q, q = R2 + R3 := ⟨_, rfl⟩
  obtain ⟨Q3, q3⟩ : ∃ q, q = R3 + R4 := ⟨_, rfl⟩
  obtain ⟨Q4, q4⟩ : ∃ q, q = R4 + R5 := ⟨_, rfl⟩
  obtain ⟨Q5, q5⟩ : ∃ q, q = R5 + R6 := ⟨_, rfl⟩
  obtain ⟨Q6, q6⟩ : ∃ q, q = R6 + R7 := ⟨_, rfl⟩
  obtain ⟨Q7, q7⟩ : ∃ q, q = R7 + 0 := ⟨_, rfl⟩
  have t0 : Y = (a + b) + 256 * Q1 := hY.trans (pair r0 r1 q1)
  have t1 : Q1 = (b + c) + 256 * Q2 := q1.trans (pair r1 r2 q2)
  have t2 : Q2 = (c + d) + 256 * Q3 := q2.trans (pair r2 r3 q3)
  have t3 : Q3 = (d + p) + 256 * Q4 := q3.trans (pair r3 r4 q4)
  have t4 : Q4 = (p + f) + 256 * Q5 := q4.trans (pair r4 r5 q5)
  have t5 : Q5 = (f + g) + 256 * Q6 := q5.trans (pair r5 r6 q6)
  have t6 : Q6 = (g + h) + 256 * Q7 := q6.trans (pair r6 r7 q7)
  clear r0 r1 r2 r3 r4 r5 r6 q1 q2 q3 q4 q5 q6 hY e1
  have e2 : Y / 65536 = Q2 := shr2 (le16 h0 h1) (le16 h1 h2) t0 t1
  rw [e2] at hZ
  -- the second
  obtain ⟨P1, p1⟩ : ∃ q, q = Q1 + Q3 := ⟨_, rfl⟩
  obtain ⟨P2, p2⟩ : ∃ q, q = Q2 + Q4 := ⟨_, rfl⟩
  obtain ⟨P3, p3⟩ : ∃ q, q = Q3 + Q5 := ⟨_, rfl⟩
  obtain ⟨P4, p4⟩ : ∃ q, q = Q4 + Q6 := ⟨_, rfl⟩
  obtain ⟨P5, p5⟩ : ∃ q, q = Q5 + Q7 := ⟨_, rfl⟩
  have u0 : Z = (a + b + (c + d)) + 256 * P1 := hZ.trans (pair t0 t2 p1)
  have u1 : P1 = (b + c + (d + p)) + 256 * P2 := p1.trans (pair t1 t3 p2)
  have u2 : P2 = (c + d + (p + f)) + 256 * P3 := p2.trans (pair t2 t4 p3)
  have u3 : P3 = (d + p + (f + g)) + 256 * P4 := p3.trans (pair t3 t5 p4)
  have u4 : P4 = (p + f + (g + h)) + 256 * P5 := p4.trans (pair t4 t6 p5)
  clear t0 t1 t2 t3 t4 t5 t6 p1 p2 p3 p4 p5 hZ e2 q7 r7
  have e3 : Z / 4294967296 = P4 := shr4 (lt32 h0 h1 h2 h3) (lt32 h1 h2 h3 h4) (lt32 h2 h3 h4 h5) (lt32 h3 h4 h5 h6) u0 u1 u2 u3
  rw [e3] at hW
  rw [fin u0 u4 (le32 h0 h1 h2 h3) (le32 h4 h5 h6 h7) hW]
  simp only [Nat.add_assoc]
/-- what the library's code makes of a number below 2^64 -/
def ones (x : Nat) : Nat :=
  let a := s1 6148914691236517205 x
  let b := s2 3689348814741910323 a
  let c := s3 1085102592571150095 b
  let d := c + c / 256
  let e := d + d / 65536
  let f := e + e / 4294967296
  f % 128
theorem reps : rep 85 8 = 6148914691236517205 ∧ rep 51 8 = 3689348814741910323 ∧ rep 15 8 = 1085102592571150095 := by decide +kernel
theorem ones_eq (x : Nat) (hx : x < 18446744073709551616) : ones x = cnt 64 x := by
  obtain ⟨r1, r2, r3⟩ := reps
  have e : x = x % 256 + 256 * (x / 256 % 256 + 256 * (x / 256 / 256 % 256 + 256 * (x / 256 / 256 / 256 % 256 + 256 * (x / 256 / 256 / 256 / 256 % 256 + 256 * (x / 256 / 256 / 256 / 256 / 256 % 256 + 256 * (x / 256 / 256 / 256 / 256 / 256 / 256 % 256 + 256 * (x / 256 / 256 / 256 / 256 / 256 / 256 / 256 % 256 + 256 * 0))))))) := by omega
  have b0 : x % 256 < 256 := by omega
  have b1 : x / 256 % 256 < 256 := by omega
  have b2 : x / 256 / 256 % 256 < 256 := by omega
  have b3 : x / 256 / 256 / 256 % 256 < 256 := by omega
  have b4 : x / 256 / 256 / 256 / 256 % 256 < 256 := by omega
  have b5 : x / 256 / 256 / 256 / 256 / 256 % 256 < 256 := by omega
  have b6 : x / 256 / 256 / 256 / 256 / 256 / 256 % 256 < 256 := by omega
  have b7 : x / 256 / 256 / 256 / 256 / 256 / 256 / 256 % 256 < 256 := by omega
  generalize x % 256 = a at *
  generalize x / 256 % 256 = b at *
  generalize x / 256 / 256 % 256 = c at *
  generalize x / 256 / 256 / 256 % 256 = d at *
  generalize x / 256 / 256 / 256 / 256 % 256 = p at *
  generalize x / 256 / 256 / 256 / 256 / 256 % 256 = f at *
  generalize x / 256 / 256 / 256 / 256 / 256 / 256 % 256 = g at *
  generalize x / 256 / 256 / 256 / 256 / 256 / 256 / 256 % 256 = h at *
  subst e
  have t := three8 a b c d p f g h b0 b1 b2 b3 b4 b5 b6 b7
  unfold three at t
  rw [r1, r2, r3] at t
  unfold ones
  simp only
  rw [t, show (64 : Nat) = 56 + 8 from rfl, cnt_split 56 _ _ b0, show (56 : Nat) = 48 + 8 from rfl, cnt_split 48 _ _ b1, show (48 : Nat) = 40 + 8 from rfl, cnt_split 40 _ _ b2, show (40 : Nat) = 32 + 8 from rfl, cnt_split 32 _ _ b3, show (32 : Nat) = 24 + 8 from rfl, cnt_split 24 _ _ b4, show (24 : Nat) = 16 + 8 from rfl, cnt_split 16 _ _ b5, show (16 : Nat) = 8 + 8 from rfl, cnt_split 8 _ _ b6]
  have q0 := cnt_le 8 a
  have q1 := cnt_le 8 b
  have q2 := cnt_le 8 c
  have q3 := cnt_le 8 d
  have q4 := cnt_le 8 p
  have q5 := cnt_le 8 f
  have q6 := cnt_le 8 g
  have q7 := cnt_le 8 h
  have e8 : cnt 8 (h + 256 * 0) = cnt 8 h := by simp
  rw [e8, fold8 (cnt 8 a) (cnt 8 b) (cnt 8 c) (cnt 8 d) (cnt 8 p) (cnt 8 f) (cnt 8 g) (cnt 8 h) q0 q1 q2 q3 q4 q5 q6 q7 _ _ _ _ (by simp) rfl rfl rfl]
  simp only [Nat.add_assoc]
end Go.Proofs.Ytmpiildallppaaa.Pop
