/- The document's quotient rounded up; its Compare, Per, Need, Add. -/
import Derived.Test.YtfbfdmgnicgalaaR9
set_option linter.unusedVariables false
set_option linter.unusedSimpArgs false
namespace Go.Proofs.Ytfbfdmgnicgalaa.W
open Go.RowKit Go.Proofs.Ytfbfdmgnicgalaa.B Go.Proofs

theorem bit_low (hi lo j : Nat) (hj : j ≤ 63) : (hi * 18446744073709551616 + lo) / 2 ^ j % 2 = lo / 2 ^ j % 2 := by
  have e : (18446744073709551616 : Nat) = 2 ^ j * 2 ^ (64 - j) := by rw [← Nat.pow_add, show j + (64 - j) = 64 by omega]
  have e2 : 2 ^ (64 - j) = 2 * 2 ^ (63 - j) := by rw [show 64 - j = (63 - j) + 1 by omega, Nat.pow_succ, Nat.mul_comm]
  have h1 : hi * 18446744073709551616 + lo = 2 ^ j * (hi * 2 ^ (64 - j)) + lo := by rw [e, ← Nat.mul_assoc, Nat.mul_comm hi, Nat.mul_assoc]
  rw [h1, Nat.mul_add_div (Nat.two_pow_pos j), e2, show hi * (2 * 2 ^ (63 - j)) = 2 * (hi * 2 ^ (63 - j)) by simp only [Nat.mul_left_comm]]
  omega
theorem shared_step (N y k q r : Nat) (hy : 0 < y) (hN : N < y * 18446744073709551616) (hk : 1 ≤ k) (hq : q = N / 2 ^ k / y) (hr : r = N / 2 ^ k % y) :
    (y ≤ 2 * r + N / 2 ^ (k - 1) % 2 → 2 * q + 1 = N / 2 ^ (k - 1) / y ∧ 2 * r + N / 2 ^ (k - 1) % 2 - y = N / 2 ^ (k - 1) % y) ∧
    (2 * r + N / 2 ^ (k - 1) % 2 < y → 2 * q = N / 2 ^ (k - 1) / y ∧ 2 * r + N / 2 ^ (k - 1) % 2 = N / 2 ^ (k - 1) % y) ∧ q < 9223372036854775808 := by
  obtain ⟨j, rfl⟩ : ∃ j, k = j + 1 := ⟨k - 1, by omega⟩
  rw [show j + 1 - 1 = j by omega]
  have h2 : N / 2 ^ (j + 1) = N / 2 ^ j / 2 := by rw [Nat.pow_succ, Nat.div_div_eq_div_mul]
  rw [h2] at hq hr
  have hle : N / 2 ^ j ≤ N := Nat.div_le_self _ _
  generalize N / 2 ^ j = X at *
  have hm := Nat.div_add_mod (X / 2) y
  rw [← hq, ← hr] at hm
  have hrl : r < y := by rw [hr]; exact Nat.mod_lt _ hy
  have hx : X = y * (2 * q) + (2 * r + X % 2) := by
    have h5 : y * (2 * q) = 2 * (y * q) := by rw [Nat.mul_left_comm]
    omega
  refine ⟨fun h => ?_, fun h => ?_, ?_⟩
  · have h6 : X = (2 * r + X % 2 - y) + y * (2 * q + 1) := by rw [Nat.mul_add]; omega
    have h7 : 2 * r + X % 2 - y < y := by omega
    have d1 : X / y = 2 * q + 1 := by
      conv => lhs; rw [h6]
      rw [Nat.add_mul_div_left _ _ hy, Nat.div_eq_of_lt h7, Nat.zero_add]
    have d2 : X % y = 2 * r + X % 2 - y := by
      conv => lhs; rw [h6]
      rw [Nat.add_mul_mod_self_left, Nat.mod_eq_of_lt h7]
    exact ⟨d1.symm, d2.symm⟩
  · have d1 : X / y = 2 * q := by
      conv => lhs; rw [hx]
      rw [Nat.mul_add_div hy, Nat.div_eq_of_lt h, Nat.add_zero]
    have d2 : X % y = 2 * r + X % 2 := by
      conv => lhs; rw [hx]
      rw [Nat.mul_add_mod, Nat.mod_eq_of_lt h]
    exact ⟨d1.symm, d2.symm⟩
  · have h8 : y * (2 * q) < y * 18446744073709551616 := by omega
    have := Nat.lt_of_mul_lt_mul_left h8
    omega
/-- A number in two halves by another one, rounded up, as far as may be. -/
def shN (hi lo y : Nat) : Nat := min ((hi * 18446744073709551616 + lo + y - 1) / y) 18446744073709551615
set_option maxRecDepth 100000 in
set_option maxHeartbeats 4000000 in
theorem shared_any (hi lo y : Nat) (hh : hi < 18446744073709551616) (hl : lo < 18446744073709551616) (hy : 0 < y) (hy2 : y < 18446744073709551616) (w : World) :
    Calls Try.prog 38 #[.int .u64 (hi : Int), .int .u64 (lo : Int), .int .u64 (y : Int)] w fun e w' => e = .returned (.int .u64 (shN hi lo y : Int)) ∧ w = w' := by
  obtain ⟨HI, hHI⟩ : ∃ x : Int, x = (hi : Int) := ⟨_, rfl⟩
  obtain ⟨Y, hY⟩ : ∃ x : Int, x = (y : Int) := ⟨_, rfl⟩
  obtain ⟨ZI, hZI⟩ : ∃ x : Int, x = (shN hi lo y : Int) := ⟨_, rfl⟩
  obtain ⟨N, hN⟩ : ∃ x : Nat, x = hi * 18446744073709551616 + lo := ⟨_, rfl⟩
  have hz : ZI = ((min ((N + y - 1) / y) 18446744073709551615 : Nat) : Int) := by rw [hZI, hN]; rfl
  rw [← hHI, ← hY, ← hZI]
  by_cases c : y ≤ hi
  · have HZ : As (ZI = 18446744073709551615) := ⟨by
      have h3 : 18446744073709551616 * y ≤ N + y - 1 := by
        have := Nat.mul_le_mul_left 18446744073709551616 c
        omega
      have h4 : 18446744073709551616 ≤ (N + y - 1) / y := (Nat.le_div_iff_mul_le hy).2 h3
      rw [hz]
      omega⟩
    have c1 : Y ≤ HI := by omega
    clear hHI hY hZI hz hN hh hl hy hy2 c
    go_enter Try.func38, Try.ntmps38
    go_wp2
    go_ret
    exact ⟨by rw [HZ.out]; rfl, rfl⟩
  · have c1 : HI < Y := by omega
    have hNl : N < y * 18446744073709551616 := by
      have := Nat.mul_le_mul_right 18446744073709551616 (show hi + 1 ≤ y by omega)
      omega
    have HZ := As.mk hz
    have HN := As.mk hN
    have HNL := As.mk hNl
    have HYN := As.mk hY
    have HYP := As.mk hy
    have HHI := As.mk hHI
    have HLO := As.mk hl
    have y0 : 0 < Y := by omega
    have y1 : Y ≤ 18446744073709551615 := by omega
    have i0 : 0 ≤ HI := by omega
    have l1 : (lo : Int) ≤ 18446744073709551615 := by omega
    clear hHI hY hZI hz hN hh hl hy hy2 c hNl
    go_enter Try.func38, Try.ntmps38
    go_upto_block 0 with (fail)
    go_cut [7, 8] (fun v7 v8 wc => ∃ Q R : Int, v7 = .int .u64 Q ∧ v8 = .int .u64 R ∧ As (Q = ((N / y : Nat) : Int) ∧ R = ((N % y : Nat) : Int)) ∧ w = wc)
    case first =>
      go_wp2_with fail
      go_loop [7, 8, 9] (fun v7 v8 v9 => ∃ (k : Nat) (i Q R : Int), As (i = (k : Int) - 1) ∧ -1 ≤ i ∧ i ≤ 63 ∧ v9 = .int .i64 i ∧ v7 = .int .u64 Q ∧ v8 = .int .u64 R ∧ 0 ≤ R ∧ R < Y ∧ As (Q = ((N / 2 ^ k / y : Nat) : Int) ∧ R = ((N / 2 ^ k % y : Nat) : Int))) (fun _ _ v9 => (intOf v9 + 1).toNat)
      case atStart =>
        refine ⟨64, 63, 0, HI, ⟨by omega⟩, by omega, by omega, rfl, rfl, rfl, i0, c1, ⟨?_⟩⟩
        have h1 := HHI.out
        have h2 := HYN.out
        have h3 := HLO.out
        have hd : N / 2 ^ 64 = hi := by
          rw [HN.out]
          show (hi * 18446744073709551616 + lo) / 18446744073709551616 = hi
          omega
        rw [hd, Nat.div_eq_of_lt (by omega), Nat.mod_eq_of_lt (by omega)]
        exact ⟨rfl, h1⟩
      case round =>
        obtain ⟨k, i, Q, R, HI', hi0, hi1, rfl, rfl, rfl, hR0, hR1, HH⟩ := hrel
        have hi' := HI'.out
        by_cases c : 0 ≤ i
        · obtain ⟨q, hq⟩ : ∃ q, q = N / 2 ^ k / y := ⟨_, rfl⟩
          obtain ⟨r, hr⟩ : ∃ q, q = N / 2 ^ k % y := ⟨_, rfl⟩
          obtain ⟨s1, s2, s3⟩ := shared_step N y k q r HYP.out HNL.out (by omega) hq hr
          have hQR := HH.out
          rw [← hq, ← hr] at hQR
          obtain ⟨hQ, hR⟩ := hQR
          obtain ⟨bt, hbt⟩ : ∃ x, x = N / 2 ^ (k - 1) % 2 := ⟨_, rfl⟩
          rw [← hbt] at s1 s2
          have hb2 : bt < 2 := by omega
          have hbl : lo / 2 ^ (k - 1) % 2 = bt := by
            rw [hbt, HN.out]
            exact (bit_low hi lo (k - 1) (by omega)).symm
          obtain ⟨BT, hBT⟩ : ∃ x : Int, x = (bt : Int) := ⟨_, rfl⟩
          have hki : i.toNat = k - 1 := by omega
          have eB : bits .and .u64 ((lo : Int) / 2 ^ i.toNat) 1 = BT := by
            rw [hki, hBT, ← hbl]
            have e0 := u64_and1 (lo / 2 ^ (k - 1))
            rw [← e0, Int.natCast_ediv]
            simp
          have hYN := HYN.out
          have Q0 : 0 ≤ Q := by omega
          have Q1 : Q ≤ 9223372036854775807 := by omega
          have eQ : bits .or .u64 (Q * 2) 1 = Q * 2 + 1 := by
            have e0 := u64_or_low (q * 2) 1 1 (by omega) (by omega) (by omega) (by omega)
            rw [show Q * 2 = ((q * 2 : Nat) : Int) by omega]
            rw [show ((1 : Nat) : Int) = 1 from rfl] at e0
            rw [e0]
            rfl
          have t0 : 0 ≤ BT := by omega
          have t1 : BT ≤ 1 := by omega
          by_cases o : 9223372036854775808 ≤ R
          · have eO : (R / 9223372036854775808 == 1) = true := beq_iff_eq.mpr (by omega)
            obtain ⟨X, hX⟩ : ∃ X : Int, X = R * 2 + BT - 18446744073709551616 := ⟨_, rfl⟩
            have eX : bits .or .u64 (IntKind.u64.wrap (R * 2)) BT = X := by
              have e0 := u64_or_low (r * 2 - 18446744073709551616) bt 1 (by omega) (by omega) (by omega) (by omega)
              rw [show IntKind.u64.wrap (R * 2) = ((r * 2 - 18446744073709551616 : Nat) : Int) by rw [IntKind.wrap_u64]; omega, hBT, e0]
              omega
            obtain ⟨R1, hR1'⟩ : ∃ X : Int, X = R * 2 + BT - Y := ⟨_, rfl⟩
            have eR : IntKind.u64.wrap (X - Y) = R1 := by rw [IntKind.wrap_u64]; omega
            have HF := As.mk (show Q * 2 + 1 = ((N / 2 ^ (k - 1) / y : Nat) : Int) ∧ R1 = ((N / 2 ^ (k - 1) % y : Nat) : Int) by
              obtain ⟨d1, d2⟩ := s1 (by omega)
              rw [← d1, ← d2]
              omega)
            have r0 : 0 ≤ R1 := by omega
            have r1 : R1 < Y := by omega
            clear hi' hq hr s1 s2 s3 hQ hR hbt hb2 hbl hBT hki hYN hX hR1'
            go_wp2
            go_round
            case rel => exact ⟨k - 1, i - 1, Q * 2 + 1, R1, ⟨by have := HI'.out; omega⟩, by omega, by omega, rfl, rfl, rfl, r0, r1, HF⟩
            case measure => simp [intOf]; omega
          · have eO : (R / 9223372036854775808 == 1) = false := beq_eq_false_iff_ne.mpr (by omega)
            have hRlt : R ≤ 9223372036854775807 := by omega
            obtain ⟨X, hX⟩ : ∃ X : Int, X = R * 2 + BT := ⟨_, rfl⟩
            have eX : bits .or .u64 (R * 2) BT = X := by
              have e0 := u64_or_low (r * 2) bt 1 (by omega) (by omega) (by omega) (by omega)
              rw [show R * 2 = ((r * 2 : Nat) : Int) by omega, hBT, e0]
              omega
            have x0 : 0 ≤ X := by omega
            have x1 : X ≤ 18446744073709551615 := by omega
            by_cases p : Y ≤ X
            · have HF := As.mk (show Q * 2 + 1 = ((N / 2 ^ (k - 1) / y : Nat) : Int) ∧ X - Y = ((N / 2 ^ (k - 1) % y : Nat) : Int) by
                obtain ⟨d1, d2⟩ := s1 (by omega)
                rw [← d1, ← d2]
                omega)
              have x2 : X - Y < Y := by omega
              clear hi' hq hr s1 s2 s3 hQ hR hbt hb2 hbl hBT hki hYN hX o
              go_wp2
              go_round
              case rel => exact ⟨k - 1, i - 1, Q * 2 + 1, X - Y, ⟨by have := HI'.out; omega⟩, by omega, by omega, rfl, rfl, rfl, by omega, x2, HF⟩
              case measure => simp [intOf]; omega
            · have HF := As.mk (show Q * 2 = ((N / 2 ^ (k - 1) / y : Nat) : Int) ∧ X = ((N / 2 ^ (k - 1) % y : Nat) : Int) by
                obtain ⟨d1, d2⟩ := s2 (by omega)
                rw [← d1, ← d2]
                omega)
              have p' : X < Y := by omega
              clear hi' hq hr s1 s2 s3 hQ hR hbt hb2 hbl hBT hki hYN hX o p
              go_wp2
              go_round
              case rel => exact ⟨k - 1, i - 1, Q * 2, X, ⟨by have := HI'.out; omega⟩, by omega, by omega, rfl, rfl, rfl, by omega, p', HF⟩
              case measure => simp [intOf]; omega
        · have hk : k = 0 := by omega
          subst hk
          rw [Nat.pow_zero, Nat.div_one] at HH
          have c' : ¬ i ≥ 0 := c
          clear hi'
          go_wp2
          go_meet
          exact ⟨Q, R, rfl, rfl, HH, rfl⟩
    case rest =>
      obtain ⟨Q, R, rfl, rfl, HF, rfl⟩ := hcut
      have hf := HF.out
      have hce := ceil_eq N y HYP.out
      have hz := HZ.out
      rw [hce] at hz
      have hqM : N / y < 18446744073709551616 := Nat.div_lt_of_lt_mul HNL.out
      clear hce
      generalize N / y = qn at *
      generalize N % y = rn at *
      obtain ⟨hf1, hf2⟩ := hf
      have Q0 : 0 ≤ Q := by omega
      have Q1 : Q ≤ 18446744073709551615 := by omega
      by_cases d : 0 < rn
      · rw [if_pos d] at hz
        have d1 : 0 < R := by omega
        by_cases f : Q < 18446744073709551615
        · have hZ := As.mk (show ZI = Q + 1 by omega)
          clear hf1 hf2 hz hqM d HZ HF
          go_wp2
          go_ret
          exact ⟨by rw [hZ.out]; rfl, rfl⟩
        · have hZ := As.mk (show ZI = Q by omega)
          clear hf1 hf2 hz hqM d HZ HF
          go_wp2
          go_ret
          exact ⟨by rw [hZ.out]; rfl, rfl⟩
      · rw [if_neg d] at hz
        have d1 : ¬ 0 < R := by omega
        have hZ := As.mk (show ZI = Q by omega)
        clear hf1 hf2 hz hqM d HZ HF
        go_wp2
        go_ret
        exact ⟨by rw [hZ.out]; rfl, rfl⟩
end Go.Proofs.Ytfbfdmgnicgalaa.W
