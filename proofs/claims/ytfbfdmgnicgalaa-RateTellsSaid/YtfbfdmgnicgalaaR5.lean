/- bits.Div64, the whole of it. -/
import Derived.Test.YtfbfdmgnicgalaaR3
import Derived.Test.YtfbfdmgnicgalaaK
import Derived.Test.YtfbfdmgnicgalaaShelf
import Derived.Outline
set_option linter.unusedVariables false
set_option linter.unusedSimpArgs false
namespace Go.Proofs.Ytfbfdmgnicgalaa.W
open Go.RowKit Go.Proofs.Ytfbfdmgnicgalaa.B Go.Proofs

set_option maxHeartbeats 1000000 in
set_option maxRecDepth 100000 in
theorem div64_walk (hi lo y S Y A B U V C1 C0 Q1 U21 Q0 R2 : Int) (b1 : 0 < hi) (b2 : hi < y) (b3 : 0 ≤ lo) (s0 : 0 ≤ S) (s1 : S ≤ 63) (y0 : 0 ≤ Y) (y1 : Y ≤ 18446744073709551615) (a0 : 2147483648 ≤ A) (a1 : A ≤ 4294967295)
    (B0 : 0 ≤ B) (B1 : B ≤ 4294967295) (u0 : 0 ≤ U) (u1 : U ≤ 18446744073709551615) (v0 : 0 ≤ V) (v1 : V ≤ 18446744073709551615) (c0 : 0 ≤ C1) (c1 : C1 ≤ 4294967295) (d0 : 0 ≤ C0) (d1 : C0 ≤ 4294967295)
    (q0 : 0 ≤ Q1) (q1 : Q1 ≤ 4294967295) (w0 : 0 ≤ Q0) (w1 : Q0 ≤ 4294967295) (z0 : 0 ≤ U21) (z1 : U21 ≤ 18446744073709551615) (k0 : 0 ≤ R2) (k1 : R2 ≤ 18446744073709551615)
    (e2 : IntKind.u64.wrap (y * 2 ^ S.toNat) = Y) (e3 : Y / 4294967296 = A) (e4 : bits .and .u64 Y 4294967295 = B)
    (e5 : bits .or .u64 (IntKind.u64.wrap (hi * 2 ^ S.toNat)) (lo / 2 ^ (64 - S).toNat) = U) (e6 : IntKind.u64.wrap (lo * 2 ^ S.toNat) = V)
    (e7 : V / 4294967296 = C1) (e8 : bits .and .u64 V 4294967295 = C0)
    (HY : As (Y = A * 4294967296 + B)) (HU : As (U < A * 4294967296 + B)) (H1 : As (Q1 = (U * 4294967296 + C1) / Y ∧ U21 = (U * 4294967296 + C1) % Y)) (H0 : As (Q0 = (U21 * 4294967296 + C0) / Y ∧ R2 = (U21 * 4294967296 + C0) % Y))
    (w : World) (HL : As (∀ w, Calls Try.prog 42 #[.int .u64 y] w fun e w' => e = .returned (.int .i64 S) ∧ w = w')) :
    Calls Try.prog 41 #[.int .u64 hi, .int .u64 lo, .int .u64 y] w fun e w' => e = .returned (.tuple #[.int .u64 (Q1 * 4294967296 + Q0), .int .u64 (R2 / 2 ^ S.toNat)]) ∧ w = w' := by
  have h0 : (y == 0) = false := beq_eq_false_iff_ne.mpr (by omega)
  have h1 : ¬ y ≤ hi := by omega
  have h2 : (hi == 0) = false := beq_eq_false_iff_ne.mpr (by omega)
  obtain ⟨G, hG⟩ : ∃ G, G = U / A := ⟨_, rfl⟩
  obtain ⟨T, hT⟩ : ∃ T, T = G * A := ⟨_, rfl⟩
  have hdm := Int.mul_ediv_add_emod U A
  have hm0 := Int.emod_nonneg U (show A ≠ 0 by omega)
  have hm1 := Int.emod_lt_of_pos U (show 0 < A by omega)
  have g0 : 0 ≤ G := by rw [hG]; exact Int.ediv_nonneg u0 (by omega)
  have g1 : G ≤ 18446744073709551615 := by rw [hG]; exact Int.le_trans (Int.ediv_le_self A u0) u1
  have gT : A * (U / A) = T := by rw [hT, hG, Int.mul_comm]
  have t0 : 0 ≤ T := by rw [hT]; exact Int.mul_nonneg g0 (by omega)
  have t1 : T ≤ U := by omega
  have t2 : U - T < A := by omega
  have HT := As.mk hT
  have HG := As.mk (show U * 4294967296 + C1 < (G + 1) * Y by
    rw [hG, HY.out]
    exact K.istart U C1 A B u0 B0 (by omega) (by omega))
  have eG : U / A = G := hG.symm
  have eT : IntKind.u64.wrap (G * A) = T := by rw [← hT, IntKind.wrap_u64]; omega
  clear hm0 hm1 hdm gT hG hT
  go_enter Try.func41, Try.ntmps41
  go_upto_block 0 with (go_at_call 42; (with_reducible refine (HL.out _).mono ?_); rintro e w' ⟨rfl, rfl⟩)
  have EG := As.mk eG
  have GB := As.mk (And.intro g0 g1)
  clear eG eT g0 g1
  go_cut [15, 16] (fun v15 v16 wc => v15 = .int .u64 Q1 ∧ (∃ r : Int, v16 = .int .u64 r) ∧ w = wc)
  case first =>
    go_wp2_with fail
    go_loop [15, 16] (fun v15 v16 => ∃ q r : Int, v15 = .int .u64 q ∧ v16 = .int .u64 r ∧ 0 ≤ q ∧ q ≤ 18446744073709551615 ∧ 0 ≤ r ∧ r < 4294967296 ∧ As (q * A + r = U ∧ U * 4294967296 + C1 < (q + 1) * Y)) (fun v15 _ => (intOf v15).toNat)
    case atStart => exact ⟨_, _, rfl, rfl, by rw [EG.out]; exact GB.out.1, by rw [EG.out]; exact GB.out.2, by omega, by omega, ⟨by have := HT.out; rw [EG.out, ← this]; omega, by rw [EG.out]; exact HG.out⟩⟩
    case round =>
      obtain ⟨q, r, rfl, rfl, hq0, hq1, hr0, hr1, HI⟩ := hrel
      by_cases c : 4294967296 ≤ q
      · obtain ⟨p1, p2, p3⟩ := K.iturn U C1 A B q r hr0 (by omega) (by omega) hq0 HI.out.1 HU.out (by omega) B0 (.inl c)
        rw [← HY.out] at p2
        have HP := As.mk (And.intro p3 p2)
        clear p2 p3
        by_cases d : 4294967296 ≤ r + A
        · have HE : As (q - 1 = Q1) := ⟨by
            rw [H1.out.1]
            have h3 := K.istop2 U C1 A B (q - 1) (r + A) (by omega) (by omega) B0 (by omega) (by omega) HP.out.1 HU.out d
            rw [← HY.out] at h3
            exact K.iquot _ _ _ h3 HP.out.2⟩
          go_wp2
          go_meet
          exact ⟨by rw [HE.out], ⟨_, rfl⟩, rfl⟩
        · have d' : r + A < 4294967296 := by omega
          go_wp2
          go_round
          case rel => exact ⟨q - 1, r + A, rfl, rfl, by omega, by omega, by omega, by omega, HP⟩
          case measure => simp [intOf]; omega
      · obtain ⟨M, hM⟩ : ∃ M, M = q * B := ⟨_, rfl⟩
        have m0 : 0 ≤ M := by rw [hM]; exact Int.mul_nonneg hq0 B0
        have m1 : M ≤ 18446744073709551615 := by
          rw [hM]
          have h3 : q * B ≤ 4294967295 * 4294967295 := Int.mul_le_mul (by omega) (by omega) B0 (by omega)
          omega
        have eM : IntKind.u64.wrap (q * B) = M := by rw [← hM, IntKind.wrap_u64]; omega
        by_cases e : 4294967296 * r + C1 < M
        · obtain ⟨p1, p2, p3⟩ := K.iturn U C1 A B q r hr0 (by omega) (by omega) hq0 HI.out.1 HU.out (by omega) B0 (.inr (by rw [← hM]; exact e))
          rw [← HY.out] at p2
          have HP := As.mk (And.intro p3 p2)
          clear p2 p3 hM
          by_cases d : 4294967296 ≤ r + A
          · have HE : As (q - 1 = Q1) := ⟨by
              rw [H1.out.1]
              have h3 := K.istop2 U C1 A B (q - 1) (r + A) (by omega) (by omega) B0 (by omega) (by omega) HP.out.1 HU.out d
              rw [← HY.out] at h3
              exact K.iquot _ _ _ h3 HP.out.2⟩
            go_wp2
            go_meet
            exact ⟨by rw [HE.out], ⟨_, rfl⟩, rfl⟩
          · have d' : r + A < 4294967296 := by omega
            go_wp2
            go_round
            case rel => exact ⟨q - 1, r + A, rfl, rfl, by omega, by omega, by omega, by omega, HP⟩
            case measure => simp [intOf]; omega
        · have HE : As (q = Q1) := ⟨by
            rw [H1.out.1]
            have h3 := K.istop U C1 A B q r HI.out.1 (by rw [← hM]; omega)
            rw [← HY.out] at h3
            exact K.iquot _ _ _ h3 HI.out.2⟩
          clear hM
          go_wp2
          go_meet
          exact ⟨by rw [HE.out], ⟨_, rfl⟩, rfl⟩
  case rest =>
    obtain ⟨rfl, ⟨r, rfl⟩, rfl⟩ := hcut
    clear t0 t1 t2 HT HG EG GB
    have hY0 : 0 < Y := by have := HY.out; omega
    have hUlt : U21 < Y := by rw [H1.out.2]; exact Int.emod_lt_of_pos _ hY0
    obtain ⟨P1, hP1⟩ : ∃ P, P = IntKind.u64.wrap (U * 4294967296) := ⟨_, rfl⟩
    obtain ⟨P2, hP2⟩ : ∃ P, P = IntKind.u64.wrap (P1 + C1) := ⟨_, rfl⟩
    obtain ⟨P3, hP3⟩ : ∃ P, P = IntKind.u64.wrap (Q1 * Y) := ⟨_, rfl⟩
    have eP1 := hP1.symm
    have eP2 := hP2.symm
    have eP3 := hP3.symm
    have eU : IntKind.u64.wrap (P2 - P3) = U21 := by
      have h3 := H1.out
      have h4 := Int.mul_ediv_add_emod (U * 4294967296 + C1) Y
      rw [← h3.1, ← h3.2] at h4
      rw [Int.mul_comm] at h4
      rw [IntKind.wrap_u64] at hP1 hP2 hP3 ⊢
      omega
    obtain ⟨G, hG⟩ : ∃ G, G = U21 / A := ⟨_, rfl⟩
    obtain ⟨T, hT⟩ : ∃ T, T = G * A := ⟨_, rfl⟩
    have hdm := Int.mul_ediv_add_emod U21 A
    have hm0 := Int.emod_nonneg U21 (show A ≠ 0 by omega)
    have hm1 := Int.emod_lt_of_pos U21 (show 0 < A by omega)
    have g0 : 0 ≤ G := by rw [hG]; exact Int.ediv_nonneg z0 (by omega)
    have g1 : G ≤ 18446744073709551615 := by rw [hG]; exact Int.le_trans (Int.ediv_le_self A z0) z1
    have gT : A * (U21 / A) = T := by rw [hT, hG, Int.mul_comm]
    have t0 : 0 ≤ T := by rw [hT]; exact Int.mul_nonneg g0 (by omega)
    have t1 : T ≤ U21 := by omega
    have t2 : U21 - T < A := by omega
    have HT := As.mk hT
    have HG := As.mk (show U21 * 4294967296 + C0 < (G + 1) * Y by
      rw [hG, HY.out]
      exact K.istart U21 C0 A B z0 B0 (by omega) (by omega))
    have eG : U21 / A = G := hG.symm
    have eT : IntKind.u64.wrap (G * A) = T := by rw [← hT, IntKind.wrap_u64]; omega
    have HV := As.mk (show U21 < A * 4294967296 + B by rw [← HY.out]; exact hUlt)
    clear hm0 hm1 hdm gT hG hT hP1 hP2 hP3 hUlt
    go_upto_block 2 with (fail)
    have EG := As.mk eG
    have GB := As.mk (And.intro g0 g1)
    clear eG eT g0 g1 eP1 eP2 eP3 eU
    go_cut [18, 16] (fun v18 v16 wc => v18 = .int .u64 Q0 ∧ (∃ r : Int, v16 = .int .u64 r) ∧ w = wc)
    case first =>
      go_wp2_with fail
      go_loop [18, 16] (fun v18 v16 => ∃ q r : Int, v18 = .int .u64 q ∧ v16 = .int .u64 r ∧ 0 ≤ q ∧ q ≤ 18446744073709551615 ∧ 0 ≤ r ∧ r < 4294967296 ∧ As (q * A + r = U21 ∧ U21 * 4294967296 + C0 < (q + 1) * Y)) (fun v18 _ => (intOf v18).toNat)
      case atStart => exact ⟨_, _, rfl, rfl, by rw [EG.out]; exact GB.out.1, by rw [EG.out]; exact GB.out.2, by omega, by omega, ⟨by have := HT.out; rw [EG.out, ← this]; omega, by rw [EG.out]; exact HG.out⟩⟩
      case round =>
        obtain ⟨q, r, rfl, rfl, hq0, hq1, hr0, hr1, HI⟩ := hrel
        by_cases c : 4294967296 ≤ q
        · obtain ⟨p1, p2, p3⟩ := K.iturn U21 C0 A B q r hr0 (by omega) (by omega) hq0 HI.out.1 HV.out (by omega) B0 (.inl c)
          rw [← HY.out] at p2
          have HP := As.mk (And.intro p3 p2)
          clear p2 p3
          by_cases d : 4294967296 ≤ r + A
          · have HE : As (q - 1 = Q0) := ⟨by
              rw [H0.out.1]
              have h3 := K.istop2 U21 C0 A B (q - 1) (r + A) (by omega) (by omega) B0 (by omega) (by omega) HP.out.1 HV.out d
              rw [← HY.out] at h3
              exact K.iquot _ _ _ h3 HP.out.2⟩
            go_wp2
            go_meet
            exact ⟨by rw [HE.out], ⟨_, rfl⟩, rfl⟩
          · have d' : r + A < 4294967296 := by omega
            go_wp2
            go_round
            case rel => exact ⟨q - 1, r + A, rfl, rfl, by omega, by omega, by omega, by omega, HP⟩
            case measure => simp [intOf]; omega
        · obtain ⟨M, hM⟩ : ∃ M, M = q * B := ⟨_, rfl⟩
          have m0 : 0 ≤ M := by rw [hM]; exact Int.mul_nonneg hq0 B0
          have m1 : M ≤ 18446744073709551615 := by
            rw [hM]
            have h3 : q * B ≤ 4294967295 * 4294967295 := Int.mul_le_mul (by omega) (by omega) B0 (by omega)
            omega
          have eM : IntKind.u64.wrap (q * B) = M := by rw [← hM, IntKind.wrap_u64]; omega
          by_cases e : 4294967296 * r + C0 < M
          · obtain ⟨p1, p2, p3⟩ := K.iturn U21 C0 A B q r hr0 (by omega) (by omega) hq0 HI.out.1 HV.out (by omega) B0 (.inr (by rw [← hM]; exact e))
            rw [← HY.out] at p2
            have HP := As.mk (And.intro p3 p2)
            clear p2 p3 hM
            by_cases d : 4294967296 ≤ r + A
            · have HE : As (q - 1 = Q0) := ⟨by
                rw [H0.out.1]
                have h3 := K.istop2 U21 C0 A B (q - 1) (r + A) (by omega) (by omega) B0 (by omega) (by omega) HP.out.1 HV.out d
                rw [← HY.out] at h3
                exact K.iquot _ _ _ h3 HP.out.2⟩
              go_wp2
              go_meet
              exact ⟨by rw [HE.out], ⟨_, rfl⟩, rfl⟩
            · have d' : r + A < 4294967296 := by omega
              go_wp2
              go_round
              case rel => exact ⟨q - 1, r + A, rfl, rfl, by omega, by omega, by omega, by omega, HP⟩
              case measure => simp [intOf]; omega
          · have HE : As (q = Q0) := ⟨by
              rw [H0.out.1]
              have h3 := K.istop U21 C0 A B q r HI.out.1 (by rw [← hM]; omega)
              rw [← HY.out] at h3
              exact K.iquot _ _ _ h3 HI.out.2⟩
            clear hM
            go_wp2
            go_meet
            exact ⟨by rw [HE.out], ⟨_, rfl⟩, rfl⟩
    case rest =>
      obtain ⟨rfl, ⟨r, rfl⟩, rfl⟩ := hcut
      clear t0 t1 t2 HT HG EG GB
      obtain ⟨P1, hP1⟩ : ∃ P, P = IntKind.u64.wrap (U21 * 4294967296) := ⟨_, rfl⟩
      obtain ⟨P2, hP2⟩ : ∃ P, P = IntKind.u64.wrap (P1 + C0) := ⟨_, rfl⟩
      obtain ⟨P3, hP3⟩ : ∃ P, P = IntKind.u64.wrap (Q0 * Y) := ⟨_, rfl⟩
      have eP1 := hP1.symm
      have eP2 := hP2.symm
      have eP3 := hP3.symm
      have eU : IntKind.u64.wrap (P2 - P3) = R2 := by
        have h3 := H0.out
        have h4 := Int.mul_ediv_add_emod (U21 * 4294967296 + C0) Y
        rw [← h3.1, ← h3.2] at h4
        rw [Int.mul_comm] at h4
        rw [IntKind.wrap_u64] at hP1 hP2 hP3 ⊢
        omega
      clear hP1 hP2 hP3
      go_wp2_with fail
      go_ret2
      exact ⟨rfl, rfl⟩
end Go.Proofs.Ytfbfdmgnicgalaa.W
