/- A number of two words by a number of one word, digit by digit. Plain numbers. -/
import Derived.WalkKit
namespace Go.Proofs.Ytfbfdmgnicgalaa.K
theorem mulY (q a b : Nat) : q * (a * 4294967296 + b) = q * a * 4294967296 + q * b := by rw [Nat.mul_add, Nat.mul_assoc]
theorem start (un u1 a b : Nat) (h1 : u1 < 4294967296) (ha : 0 < a) : un * 4294967296 + u1 < (un / a + 1) * (a * 4294967296 + b) := by
  rw [mulY]
  have h2 := Nat.div_add_mod un a
  have h3 := Nat.mod_lt un ha
  have h4 : (un / a + 1) * a = a * (un / a) + a := by rw [Nat.add_mul, Nat.one_mul, Nat.mul_comm]
  omega
theorem turn (un u1 a b q r : Nat) (h1 : u1 < 4294967296) (hq : q * a + r = un) (hY : un < a * 4294967296 + b) (hc : 4294967296 ≤ q ∨ 4294967296 * r + u1 < q * b) :
    1 ≤ q ∧ un * 4294967296 + u1 < (q - 1 + 1) * (a * 4294967296 + b) ∧ (q - 1) * a + (r + a) = un := by
  have hp : 1 ≤ q := by
    rcases Nat.eq_zero_or_pos q with rfl | h
    · simp at hc
    · exact h
  obtain ⟨p, rfl⟩ : ∃ p, q = p + 1 := ⟨q - 1, by omega⟩
  refine ⟨hp, ?_, ?_⟩
  · rw [show p + 1 - 1 + 1 = p + 1 by omega]
    rcases hc with hc | hc
    · have := Nat.mul_le_mul_right (a * 4294967296 + b) hc
      omega
    · rw [mulY]
      omega
  · have : (p + 1) * a = p * a + a := by rw [Nat.add_mul, Nat.one_mul]
    rw [show p + 1 - 1 = p by omega]
    omega
theorem stop (un u1 a b q r : Nat) (hq : q * a + r = un) (h : q * b ≤ 4294967296 * r + u1) : q * (a * 4294967296 + b) ≤ un * 4294967296 + u1 := by
  rw [mulY]
  omega
theorem lessQ (un a b q r : Nat) (hb : b < 4294967296) (hq : q * a + r = un) (hY : un < a * 4294967296 + b) (hr : 4294967296 ≤ r) : q < 4294967296 := by
  rcases Nat.lt_or_ge q 4294967296 with h | h
  · exact h
  · have := Nat.mul_le_mul_right a h
    omega
theorem stop2 (un u1 a b q r : Nat) (hb : b < 4294967296) (hq : q * a + r = un) (hY : un < a * 4294967296 + b) (hr : 4294967296 ≤ r) : q * (a * 4294967296 + b) ≤ un * 4294967296 + u1 := by
  have h := lessQ un a b q r hb hq hY hr
  have h2 : q * b ≤ 4294967296 * 4294967296 := Nat.mul_le_mul (by omega) (by omega)
  rw [mulY]
  omega
theorem quot (X q Y : Nat) (h1 : q * Y ≤ X) (h2 : X < (q + 1) * Y) : q = X / Y := (Nat.div_eq_of_lt_le h1 h2).symm
theorem digitB (B un u1 Y : Nat) (h1 : u1 < B) (hY : un < Y) : (un * B + u1) / Y < B := by
  refine Nat.div_lt_of_lt_mul ?_
  have h2 := Nat.mul_le_mul_right B (show un + 1 ≤ Y from hY)
  rw [Nat.add_mul] at h2
  omega
/-- The digit and the rest. -/
theorem digit (un u1 Y : Nat) (h1 : u1 < 4294967296) (hY : un < Y) : (un * 4294967296 + u1) / Y < 4294967296 := digitB _ un u1 Y h1 hY
theorem twoB (B N Y un u1 u0 : Nat) (hN : N = (un * B + u1) * B + u0) (hY : 0 < Y) :
    N / Y = (un * B + u1) / Y * B + ((un * B + u1) % Y * B + u0) / Y ∧ N % Y = ((un * B + u1) % Y * B + u0) % Y := by
  have h := Nat.div_add_mod (un * B + u1) Y
  generalize (un * B + u1) / Y = q at *
  generalize (un * B + u1) % Y = r at *
  have e : N = r * B + u0 + Y * (q * B) := by
    rw [hN, ← h, Nat.add_mul, Nat.mul_assoc]; omega
  rw [e, Nat.add_mul_div_left _ _ hY, Nat.add_mul_mod_self_left]
  exact ⟨by omega, rfl⟩
/-- All of it: two digits. -/
theorem two (N Y un u1 u0 : Nat) (hN : N = (un * 4294967296 + u1) * 4294967296 + u0) (hY : 0 < Y) :
    N / Y = (un * 4294967296 + u1) / Y * 4294967296 + ((un * 4294967296 + u1) % Y * 4294967296 + u0) / Y ∧ N % Y = ((un * 4294967296 + u1) % Y * 4294967296 + u0) % Y := twoB _ N Y un u1 u0 hN hY
theorem shifted (M P R hi lo y : Nat) (hM : R * P = M) (hP : 0 < P) (h : lo < M) (hy : hi < y) :
    (hi * M + lo) * P = (hi * P + lo / R) * M + lo * P % M ∧ hi * P + lo / R < y * P ∧ lo / R < P := by
  subst hM
  have h1 : lo / R < P := Nat.div_lt_of_lt_mul h
  have h2 : lo * P / (R * P) = lo / R := Nat.mul_div_mul_right lo R hP
  have h3 := Nat.div_add_mod (lo * P) (R * P)
  rw [h2] at h3
  refine ⟨?_, ?_, h1⟩
  · rw [Nat.add_mul, Nat.add_mul]
    have h4 : hi * (R * P) * P = hi * P * (R * P) := by simp only [Nat.mul_comm, Nat.mul_left_comm]
    have h5 : lo / R * (R * P) = R * P * (lo / R) := Nat.mul_comm _ _
    omega
  · have h4 := Nat.mul_le_mul_right P (show hi + 1 ≤ y from hy)
    rw [Nat.add_mul] at h4
    omega
/-! The same of whole numbers. -/
theorem imulY (q a b : Int) : q * (a * 4294967296 + b) = q * a * 4294967296 + q * b := by rw [Int.mul_add, Int.mul_assoc]
theorem istart (un u1 a b : Int) (h0 : 0 ≤ un) (hb : 0 ≤ b) (h1 : u1 < 4294967296) (ha : 0 < a) : un * 4294967296 + u1 < (un / a + 1) * (a * 4294967296 + b) := by
  rw [imulY]
  have h2 := Int.mul_ediv_add_emod un a
  have h3 := Int.emod_lt_of_pos un ha
  have h4 : (un / a + 1) * a = a * (un / a) + a := by rw [Int.add_mul, Int.one_mul, Int.mul_comm]
  have h5 : 0 ≤ un / a := Int.ediv_nonneg h0 (by omega)
  have h6 : 0 ≤ (un / a + 1) * b := Int.mul_nonneg (by omega) hb
  omega
theorem iturn (un u1 a b q r : Int) (hr : 0 ≤ r) (hu : 0 ≤ u1) (h1 : u1 < 4294967296) (hq0 : 0 ≤ q) (hq : q * a + r = un) (hY : un < a * 4294967296 + b) (ha : 0 ≤ a) (hb : 0 ≤ b) (hc : 4294967296 ≤ q ∨ 4294967296 * r + u1 < q * b) :
    1 ≤ q ∧ un * 4294967296 + u1 < (q - 1 + 1) * (a * 4294967296 + b) ∧ (q - 1) * a + (r + a) = un := by
  have hp : 1 ≤ q := by
    rcases Int.lt_or_le 0 q with h | h
    · exact h
    · obtain rfl : q = 0 := by omega
      simp at hc
      omega
  refine ⟨hp, ?_, ?_⟩
  · rw [show q - 1 + 1 = q by omega]
    rcases hc with hc | hc
    · have h2 := Int.mul_le_mul_of_nonneg_right hc (show 0 ≤ a * 4294967296 + b by omega)
      omega
    · rw [imulY]
      omega
  · have : (q - 1) * a = q * a - a := by rw [Int.sub_mul, Int.one_mul]
    omega
theorem istop (un u1 a b q r : Int) (hq : q * a + r = un) (h : q * b ≤ 4294967296 * r + u1) : q * (a * 4294967296 + b) ≤ un * 4294967296 + u1 := by
  rw [imulY]
  omega
theorem ilessQ (un a b q r : Int) (ha : 0 ≤ a) (hb : b < 4294967296) (hq : q * a + r = un) (hY : un < a * 4294967296 + b) (hr : 4294967296 ≤ r) : q < 4294967296 := by
  rcases Int.lt_or_le q 4294967296 with h | h
  · exact h
  · have := Int.mul_le_mul_of_nonneg_right h ha
    omega
theorem istop2 (un u1 a b q r : Int) (hu : 0 ≤ u1) (ha : 0 ≤ a) (hb0 : 0 ≤ b) (hb : b < 4294967296) (hq0 : 0 ≤ q) (hq : q * a + r = un) (hY : un < a * 4294967296 + b) (hr : 4294967296 ≤ r) : q * (a * 4294967296 + b) ≤ un * 4294967296 + u1 := by
  have h := ilessQ un a b q r ha hb hq hY hr
  have h2 : q * b ≤ 4294967296 * 4294967296 := Int.mul_le_mul (by omega) (by omega) (by omega) (by omega)
  rw [imulY]
  omega
theorem iquot (X q Y : Int) (h1 : q * Y ≤ X) (h2 : X < (q + 1) * Y) : q = X / Y := by
  have hY : 0 < Y := by
    rw [Int.add_mul] at h2
    omega
  exact ((Int.ediv_eq_iff_of_pos hY).2 ⟨h1, by rw [Int.add_mul, Int.one_mul] at h2; exact h2⟩).symm
end Go.Proofs.Ytfbfdmgnicgalaa.K
