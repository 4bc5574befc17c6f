/- bits.Div64 and rate.up, as numbers. -/
import Derived.Test.YtfbfdmgnicgalaaR5
import Derived.Lib.ItoaNum
set_option linter.unusedVariables false
set_option linter.unusedSimpArgs false
namespace Go.Proofs.Ytfbfdmgnicgalaa.W
open Go.RowKit Go.Proofs.Ytfbfdmgnicgalaa.B Go.Proofs

theorem bitLen_bounds (y : Nat) (h : y < 18446744073709551616) (h0 : 0 < y) : 1 ≤ Lib.bitLen y ∧ 2 ^ (Lib.bitLen y - 1) ≤ y ∧ y < 2 ^ Lib.bitLen y ∧ Lib.bitLen y ≤ 64 := by
  have h1 := Lib.bitLenAux_bounds 64 y h (by omega)
  exact ⟨h1.1, h1.2.1, h1.2.2, Lib.bitLen_le y 64 (by omega) h⟩
/-- What is shifted by S has its highest bit set. -/
theorem shift_bounds (y : Nat) (h : y < 18446744073709551616) (h0 : 0 < y) : 9223372036854775808 ≤ y * 2 ^ (64 - Lib.bitLen y) ∧ y * 2 ^ (64 - Lib.bitLen y) < 18446744073709551616 := by
  obtain ⟨h1, h2, h3, h4⟩ := bitLen_bounds y h h0
  generalize Lib.bitLen y = L at *
  have e1 : 2 ^ (L - 1) * 2 ^ (64 - L) = 2 ^ 63 := by rw [← Nat.pow_add]; congr 1; omega
  have e2 : 2 ^ L * 2 ^ (64 - L) = 2 ^ 64 := by rw [← Nat.pow_add]; congr 1; omega
  have h5 := Nat.mul_le_mul_right (2 ^ (64 - L)) h2
  have h6 := Nat.mul_lt_mul_of_pos_right h3 (show 0 < 2 ^ (64 - L) from Nat.two_pow_pos _)
  rw [e1] at h5
  rw [e2] at h6
  exact ⟨h5, h6⟩
theorem div64_high (hi lo y : Nat) (h : lo < 18446744073709551616) (hh : 0 < hi) (hy : hi < y) (hy2 : y < 18446744073709551616) (w : World) :
    Calls Try.prog 41 #[.int .u64 (hi : Int), .int .u64 (lo : Int), .int .u64 (y : Int)] w fun e w' => e = .returned (.tuple #[.int .u64 (((hi * 18446744073709551616 + lo) / y : Nat) : Int), .int .u64 (((hi * 18446744073709551616 + lo) % y : Nat) : Int)]) ∧ w = w' := by
  have hb := shift_bounds y hy2 (by omega)
  have hbl := bitLen_bounds y hy2 (by omega)
  obtain ⟨L, hL⟩ : ∃ L, L = Lib.bitLen y := ⟨_, rfl⟩
  rw [← hL] at hb hbl
  obtain ⟨S, hS⟩ : ∃ S, S = 64 - L := ⟨_, rfl⟩
  rw [← hS] at hb
  have hM : 2 ^ (64 - S) * 2 ^ S = 18446744073709551616 := by rw [← Nat.pow_add, show 64 - S + S = 64 by omega]
  have hP : 0 < 2 ^ S := Nat.two_pow_pos S
  obtain ⟨k1, k2, k3⟩ := K.shifted 18446744073709551616 (2 ^ S) (2 ^ (64 - S)) hi lo y hM hP h hy
  have hS63 : S ≤ 63 := by omega
  have cp : ((2 ^ S : Nat) : Int) = (2 : Int) ^ S := by simp
  have cq : ((2 ^ (64 - S) : Nat) : Int) = (2 : Int) ^ (64 - S) := by simp
  generalize hp : 2 ^ S = p at *
  generalize hr : 2 ^ (64 - S) = r at *
  have hhp : hi * p < 18446744073709551616 := by
    have := Nat.mul_le_mul_right p (Nat.le_of_lt hy)
    omega
  obtain ⟨Y, hY⟩ : ∃ Y, Y = y * p := ⟨_, rfl⟩
  obtain ⟨U, hU⟩ : ∃ U, U = hi * p + lo / r := ⟨_, rfl⟩
  obtain ⟨V, hV⟩ : ∃ V, V = lo * p % 18446744073709551616 := ⟨_, rfl⟩
  rw [← hY] at hb k2
  rw [← hU] at k1 k2
  rw [← hV] at k1
  have hVlt : V < 18446744073709551616 := by omega
  have hN : (hi * 18446744073709551616 + lo) * p = (U * 4294967296 + V / 4294967296) * 4294967296 + V % 4294967296 := by
    rw [k1, Nat.add_mul]
    have := Nat.div_add_mod V 4294967296
    omega
  have two := K.two ((hi * 18446744073709551616 + lo) * p) Y U (V / 4294967296) (V % 4294967296) hN (by omega)
  have f1 : (hi * 18446744073709551616 + lo) * p / Y = (hi * 18446744073709551616 + lo) / y := by rw [hY]; exact Nat.mul_div_mul_right _ _ hP
  have f2 : (hi * 18446744073709551616 + lo) * p % Y = (hi * 18446744073709551616 + lo) % y * p := by rw [hY]; exact Nat.mul_mod_mul_right _ _ _
  have f3 : ((hi * 18446744073709551616 + lo) * p % Y) / p = (hi * 18446744073709551616 + lo) % y := by rw [f2]; exact Nat.mul_div_cancel _ hP
  rw [f1] at two
  rw [two.2] at f3
  have two1 := two.1
  clear two f1 f2 k1 hN
  obtain ⟨A, hA⟩ : ∃ A, A = Y / 4294967296 := ⟨_, rfl⟩
  obtain ⟨B, hB⟩ : ∃ B, B = Y % 4294967296 := ⟨_, rfl⟩
  obtain ⟨C, hC⟩ : ∃ C, C = V / 4294967296 := ⟨_, rfl⟩
  obtain ⟨D, hD⟩ : ∃ D, D = V % 4294967296 := ⟨_, rfl⟩
  rw [← hC, ← hD] at f3 two1
  have mA : A ≤ 4294967295 ∧ 2147483648 ≤ A ∧ B ≤ 4294967295 ∧ Y = A * 4294967296 + B := by omega
  have mC : C ≤ 4294967295 ∧ D ≤ 4294967295 := by omega
  have d1 := K.digit U C Y (by omega) k2
  have hrem : (U * 4294967296 + C) % Y < Y := Nat.mod_lt _ (by omega)
  have d0 := K.digit ((U * 4294967296 + C) % Y) D Y (by omega) hrem
  have hrem0 : ((U * 4294967296 + C) % Y * 4294967296 + D) % Y < Y := Nat.mod_lt _ (by omega)
  obtain ⟨Q1, hQ1⟩ : ∃ Q, Q = (U * 4294967296 + C) / Y := ⟨_, rfl⟩
  obtain ⟨R1, hR1⟩ : ∃ Q, Q = (U * 4294967296 + C) % Y := ⟨_, rfl⟩
  rw [← hR1] at hrem d0 hrem0 two1 f3
  rw [← hQ1] at d1 two1
  obtain ⟨Q0, hQ0⟩ : ∃ Q, Q = (R1 * 4294967296 + D) / Y := ⟨_, rfl⟩
  obtain ⟨R0, hR0⟩ : ∃ Q, Q = (R1 * 4294967296 + D) % Y := ⟨_, rfl⟩
  rw [← hR0] at hrem0 f3
  rw [← hQ0] at d0 two1
  have eA : (Y : Int) / 4294967296 = A := by rw [hA]; rfl
  have eB : bits .and .u64 (Y : Int) 4294967295 = B := by rw [Mul64.maskN Y hb.2, hB]
  have eC : (V : Int) / 4294967296 = C := by rw [hC]; rfl
  have eD : bits .and .u64 (V : Int) 4294967295 = D := by rw [Mul64.maskN V hVlt, hD]
  have eY : IntKind.u64.wrap ((y : Int) * 2 ^ (S : Int).toNat) = Y := by rw [Int.toNat_natCast, ← cp, ← Int.natCast_mul, ← hY]; exact Mul64.wrapN _ hb.2
  have eV : IntKind.u64.wrap ((lo : Int) * 2 ^ (S : Int).toNat) = V := by rw [Int.toNat_natCast, ← cp, ← Int.natCast_mul, Mul64.wrapM, hV]
  have hpM : p ≤ 18446744073709551616 := by rw [← hM]; exact Nat.le_mul_of_pos_left _ (by rw [← hr]; exact Nat.two_pow_pos _)
  have eU : bits .or .u64 (IntKind.u64.wrap ((hi : Int) * 2 ^ (S : Int).toNat)) ((lo : Int) / 2 ^ (64 - (S : Int)).toNat) = U := by
    rw [Int.toNat_natCast, show (64 - (S : Int)).toNat = 64 - S by omega, ← cp, ← cq, ← Int.natCast_mul, Mul64.wrapN _ hhp, ← Int.natCast_ediv]
    have hd : p ∣ hi * p := Nat.dvd_mul_left p hi
    have hz : hi * p % p = 0 := Nat.mul_mod_left hi p
    generalize hi * p = X at *
    generalize lo / r = Z at *
    have b1 : ((X : Int)) % 2 ^ S = 0 := by rw [← cp]; omega
    have b2 : (Z : Int) < 2 ^ S := by rw [← cp]; omega
    have b3 : (X : Int) < 2 ^ 64 := by omega
    have b4 : (Z : Int) < 2 ^ 64 := by omega
    rw [bits_join .u64 64 (by decide) (fun n h0 h1 => IntWalk.u64_in n ⟨h0, by omega⟩) S X Z (by omega) b1 b3 (by omega) b2 b4, hU]
    rfl
  have W := div64_walk hi lo y S Y A B U V C D Q1 R1 Q0 R0
    (by omega) (by omega) (by omega) (by omega) (by omega) (by omega) (by omega) (by omega) (by omega) (by omega) (by omega) (by omega) (by omega) (by omega) (by omega) (by omega) (by omega) (by omega) (by omega)
    (by omega) (by omega) (by omega) (by omega) (by omega) (by omega) (by omega) (by omega)
    eY eA eB eU eV eC eD ⟨by omega⟩ ⟨by omega⟩ ⟨by rw [hQ1, hR1]; exact ⟨rfl, rfl⟩⟩ ⟨by rw [hQ0, hR0]; exact ⟨rfl, rfl⟩⟩ w
    ⟨fun w => (Try.bits_LeadingZeros64 y w (by omega) (by omega)).mono (by
      rintro e w' ⟨he, rfl⟩
      refine ⟨?_, rfl⟩
      rw [he, Int.toNat_natCast, ← hL]
      congr 2
      omega)⟩
  refine W.mono ?_
  rintro e w' ⟨he, rfl⟩
  refine ⟨?_, rfl⟩
  rw [he, two1, ← f3, Int.toNat_natCast, ← cp]
  rfl
end Go.Proofs.Ytfbfdmgnicgalaa.W
