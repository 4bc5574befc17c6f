/- The document's product of two numbers, and a quotient rounded up, digit by digit. -/
import Derived.Test.YtfbfdmgnicgalaaRateMeans
set_option linter.unusedVariables false
set_option linter.unusedSimpArgs false
namespace Go.Proofs.Ytfbfdmgnicgalaa.W
open Go.RowKit Go.Proofs.Ytfbfdmgnicgalaa.B Go.Proofs

theorem u64_and1 (n : Nat) : bits .and .u64 (n : Int) 1 = ((n % 2 : Nat) : Int) := by
  rw [u64_mask n 1 1 (by decide) (by decide)]
  rfl
theorem u64_or_low (x y : Nat) (i : Nat) (hx : x % 2 ^ i = 0) (hx1 : x < 18446744073709551616) (hy : y < 2 ^ i) (hy1 : y < 18446744073709551616) : bits .or .u64 (x : Int) (y : Int) = ((x + y : Nat) : Int) := by
  rw [bits_join .u64 64 (by decide) (fun n h0 h1 => IntWalk.u64_in n ⟨h0, by omega⟩) i x y (by omega) (by exact_mod_cast hx) (by omega) (by omega) (by exact_mod_cast hy) (by omega)]
  rfl
/-- One more digit of a product. -/
theorem times_step (a b k V H L : Nat) (ha : a < 18446744073709551616) (hb : b < 18446744073709551616) (hk : 1 ≤ k) (hk2 : k ≤ 64) (hV : V = a * (b / 2 ^ k)) (hH : H = V / 18446744073709551616) (hL : L = V % 18446744073709551616) :
    H < 9223372036854775808 ∧ a * (b / 2 ^ (k - 1)) = 2 * V + a * (b / 2 ^ (k - 1) % 2) ∧ H * 2 + L / 9223372036854775808 = 2 * V / 18446744073709551616 ∧ L * 2 % 18446744073709551616 = 2 * V % 18446744073709551616 ∧ a * (b / 2 ^ (k - 1)) < 340282366920938463463374607431768211456 := by
  obtain ⟨j, rfl⟩ : ∃ j, k = j + 1 := ⟨k - 1, by omega⟩
  rw [show j + 1 - 1 = j by omega]
  have h2 : b / 2 ^ (j + 1) = b / 2 ^ j / 2 := by rw [Nat.pow_succ, Nat.div_div_eq_div_mul]
  have hle : b / 2 ^ (j + 1) ≤ b / 2 := by
    rw [Nat.pow_succ, Nat.mul_comm, ← Nat.div_div_eq_div_mul]
    exact Nat.div_le_self _ _
  have hle2 : b / 2 ^ j ≤ b := Nat.div_le_self _ _
  rw [h2] at hV hle
  have hVlt : V < 18446744073709551616 * 9223372036854775808 := by
    rw [hV]
    have h3 : a * (b / 2 ^ j / 2) ≤ 18446744073709551615 * 9223372036854775807 := Nat.mul_le_mul (by omega) (by omega)
    omega
  have hWlt : a * (b / 2 ^ j) ≤ 18446744073709551615 * 18446744073709551615 := Nat.mul_le_mul (by omega) (by omega)
  have hm := Nat.div_add_mod (b / 2 ^ j) 2
  refine ⟨by omega, ?_, by omega, by omega, by omega⟩
  generalize b / 2 ^ j = c at *
  generalize c / 2 = d at *
  generalize c % 2 = e at *
  rw [← hm, hV, Nat.mul_add, ← Nat.mul_assoc, ← Nat.mul_assoc, Nat.mul_comm a 2]
set_option maxRecDepth 100000 in
set_option maxHeartbeats 4000000 in
theorem times_any (a b : Nat) (ha : a < 18446744073709551616) (hb : b < 18446744073709551616) (w : World) :
    Calls Try.prog 36 #[.int .u64 (a : Int), .int .u64 (b : Int)] w fun e w' => e = .returned (.tuple #[.int .u64 ((a * b / 18446744073709551616 : Nat) : Int), .int .u64 ((a * b % 18446744073709551616 : Nat) : Int)]) ∧ w = w' := by
  have HA := As.mk ha
  have HBB := As.mk hb
  have a1 : (a : Int) ≤ 18446744073709551615 := by omega
  have b1 : (b : Int) ≤ 18446744073709551615 := by omega
  clear ha hb
  go_enter Try.func36, Try.ntmps36
  go_wp2
  go_loop [6, 7, 8] (fun v6 v7 v8 => ∃ (k : Nat) (i H L : Int), As (i = (k : Int) - 1) ∧ -1 ≤ i ∧ i ≤ 63 ∧ v8 = .int .i64 i ∧ v7 = .int .u64 H ∧ v6 = .int .u64 L ∧ As (H = ((a * (b / 2 ^ k) / 18446744073709551616 : Nat) : Int) ∧ L = ((a * (b / 2 ^ k) % 18446744073709551616 : Nat) : Int))) (fun _ _ v8 => (intOf v8 + 1).toNat)
  case atStart =>
    refine ⟨64, 63, 0, 0, ⟨by omega⟩, by omega, by omega, rfl, rfl, rfl, ⟨?_⟩⟩
    have : b / 2 ^ 64 = 0 := Nat.div_eq_of_lt HBB.out
    rw [this, Nat.mul_zero]
    exact ⟨rfl, rfl⟩
  case round =>
    obtain ⟨k, i, H, L, HI, hi0, hi1, rfl, rfl, rfl, HH⟩ := hrel
    have hi := HI.out
    by_cases c : 0 ≤ i
    · obtain ⟨V, hV⟩ : ∃ V, V = a * (b / 2 ^ k) := ⟨_, rfl⟩
      obtain ⟨Hn, hHn⟩ : ∃ x, x = V / 18446744073709551616 := ⟨_, rfl⟩
      obtain ⟨Ln, hLn⟩ : ∃ x, x = V % 18446744073709551616 := ⟨_, rfl⟩
      obtain ⟨q1, q2, q3, q4, q5⟩ := times_step a b k V Hn Ln HA.out HBB.out (by omega) (by omega) hV hHn hLn
      obtain ⟨hHe, hLe⟩ : H = (Hn : Int) ∧ L = (Ln : Int) := by
        have := HH.out
        rw [← hV, ← hHn, ← hLn] at this
        exact this
      clear HH
      obtain ⟨bt, hbt⟩ : ∃ x, x = b / 2 ^ (k - 1) % 2 := ⟨_, rfl⟩
      rw [← hbt] at q2
      obtain ⟨H1, hH1⟩ : ∃ x : Int, x = ((2 * V / 18446744073709551616 : Nat) : Int) := ⟨_, rfl⟩
      obtain ⟨L1, hL1⟩ : ∃ x : Int, x = ((2 * V % 18446744073709551616 : Nat) : Int) := ⟨_, rfl⟩
      have hki : i.toNat = k - 1 := by omega
      have eH : bits .or .u64 (H * 2) (L / 9223372036854775808) = H1 := by
        have e0 := u64_or_low (Hn * 2) (Ln / 9223372036854775808) 1 (by omega) (by omega) (by omega) (by omega)
        have e1 : H * 2 = ((Hn * 2 : Nat) : Int) := by omega
        have e2 : L / 9223372036854775808 = ((Ln / 9223372036854775808 : Nat) : Int) := by omega
        rw [e1, e2, e0, q3, hH1]
      have eL : IntKind.u64.wrap (L * 2) = L1 := by rw [IntKind.wrap_u64, hL1]; omega
      obtain ⟨BT, hBT⟩ : ∃ x : Int, x = (bt : Int) := ⟨_, rfl⟩
      have eB : bits .and .u64 ((b : Int) / 2 ^ i.toNat) 1 = BT := by
        rw [hki, hBT, hbt]
        have e0 := u64_and1 (b / 2 ^ (k - 1))
        rw [← e0, Int.natCast_ediv]
        simp
      have h0 : 0 ≤ H := by omega
      have h1 : H ≤ 9223372036854775807 := by omega
      have l0 : 0 ≤ L := by omega
      have l1 : L ≤ 18446744073709551615 := by omega
      have g0 : 0 ≤ H1 := by omega
      have g1 : H1 ≤ 18446744073709551615 := by omega
      have f0 : 0 ≤ L1 := by omega
      have f1 : L1 ≤ 18446744073709551615 := by omega
      have hb2 : bt < 2 := by omega
      by_cases d : bt = 0
      · have hB0 : (BT == 1) = false := beq_eq_false_iff_ne.mpr (by omega)
        have HF := As.mk (show H1 = ((a * (b / 2 ^ (k - 1)) / 18446744073709551616 : Nat) : Int) ∧ L1 = ((a * (b / 2 ^ (k - 1)) % 18446744073709551616 : Nat) : Int) by
          rw [q2, d, Nat.mul_zero, Nat.add_zero]
          exact ⟨hH1, hL1⟩)
        clear hi hV hHn hLn q1 q2 q3 q4 q5 hHe hLe hbt hH1 hL1 hki hBT hb2 d
        go_wp2
        go_round
        case rel => exact ⟨k - 1, i - 1, H1, L1, ⟨by have := HI.out; omega⟩, by omega, by omega, rfl, rfl, rfl, HF⟩
        case measure => simp [intOf]; omega
      · obtain rfl : bt = 1 := by omega
        have hB1 : BT = 1 := hBT
        rw [Nat.mul_one] at q2
        have ha := HA.out
        obtain ⟨L2, hL2⟩ : ∃ x : Int, x = (L1 + a) % 18446744073709551616 := ⟨_, rfl⟩
        have eL2 : IntKind.u64.wrap (L1 + (a : Int)) = L2 := by rw [IntKind.wrap_u64, hL2]
        by_cases e : L2 < L1
        · have HF := As.mk (show H1 + 1 = ((a * (b / 2 ^ (k - 1)) / 18446744073709551616 : Nat) : Int) ∧ L2 = ((a * (b / 2 ^ (k - 1)) % 18446744073709551616 : Nat) : Int) by
            rw [q2]
            rw [q2] at q5
            clear hV q2
            omega)
          have g2 : H1 ≤ 18446744073709551614 := by
            rw [q2] at q5
            clear hV q2
            omega
          subst hB1
          clear hi hV hHn hLn q1 q2 q3 q4 q5 hHe hLe hbt hH1 hL1 hki hBT hb2 d ha hL2
          go_wp2
          go_round
          case rel => exact ⟨k - 1, i - 1, H1 + 1, L2, ⟨by have := HI.out; omega⟩, by omega, by omega, rfl, rfl, rfl, HF⟩
          case measure => simp [intOf]; omega
        · have HF := As.mk (show H1 = ((a * (b / 2 ^ (k - 1)) / 18446744073709551616 : Nat) : Int) ∧ L2 = ((a * (b / 2 ^ (k - 1)) % 18446744073709551616 : Nat) : Int) by
            rw [q2]
            clear hV q2
            omega)
          subst hB1
          clear hi hV hHn hLn q1 q2 q3 q4 q5 hHe hLe hbt hH1 hL1 hki hBT hb2 d ha hL2
          go_wp2
          go_round
          case rel => exact ⟨k - 1, i - 1, H1, L2, ⟨by have := HI.out; omega⟩, by omega, by omega, rfl, rfl, rfl, HF⟩
          case measure => simp [intOf]; omega
    · have hk : k = 0 := by omega
      subst hk
      rw [Nat.pow_zero, Nat.div_one] at HH
      have c' : ¬ i ≥ 0 := c
      clear hi
      go_wp2
      go_ret2
      exact ⟨by rw [HH.out.1, HH.out.2]; rfl, rfl⟩
end Go.Proofs.Ytfbfdmgnicgalaa.W
