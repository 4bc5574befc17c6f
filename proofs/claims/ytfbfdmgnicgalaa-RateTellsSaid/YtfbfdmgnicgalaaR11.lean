/- The document's Compare, Per, Need, Add. -/
import Derived.Test.YtfbfdmgnicgalaaR10
set_option linter.unusedVariables false
set_option linter.unusedSimpArgs false
namespace Go.Proofs.Ytfbfdmgnicgalaa.W
open Go.RowKit Go.Proofs.Ytfbfdmgnicgalaa.B Go.Proofs

theorem rsize_any (s : Int) (hs : s ≤ 9223372036854775807) (w : World) : Calls Try.prog 37 #[.int .i64 s] w fun e w' => e = .returned (.int .u64 (szN s : Int)) ∧ w = w' := by
  obtain ⟨z, hz⟩ : ∃ z : Int, z = szN s := ⟨_, rfl⟩
  have h1 := szN_eq s
  have h2 := szN_lt s hs
  have h3 := szN_pos s
  rw [← hz] at h1 ⊢
  have hw : IntKind.u64.wrap z = z := IntWalk.u64_in _ (by omega)
  have h1' : max s 1 = z := by rw [← h1]; split <;> omega
  clear hz h2 h3 hs
  go_enter Try.func37, Try.ntmps37
  go_wp2
  go_ret
  exact ⟨rfl, rfl⟩
theorem halves (hi lo y p : Nat) (h1 : hi = p / 18446744073709551616) (h2 : lo = p % 18446744073709551616) : shN hi lo y = min ((p + y - 1) / y) 18446744073709551615 := by
  unfold shN
  rw [show hi * 18446744073709551616 + lo = p by omega]
theorem need_ref (p : Nat) (n : Int) (hp : p < 18446744073709551616) (w : World) :
    Calls Try.prog 25 #[.int .u64 (p : Int), .int .i64 n] w fun e w' => e = .returned (.int .u64 (needR p n : Int)) ∧ w = w' := by
  obtain ⟨m, hm⟩ : ∃ m : Int, m = if n < 0 then 0 else n := ⟨_, rfl⟩
  obtain ⟨z, hz⟩ : ∃ z : Int, z = needN n := ⟨_, rfl⟩
  have hb := needN_le n
  have h2 : (if 1073741824 < m then 1073741824 else m) = z := by rw [hm, hz]; exact needN_eq n
  have h1' : max n 0 = m := by rw [hm]; split <;> omega
  have h2' : min m 1073741824 = z := by rw [← h2]; split <;> omega
  have hw : IntKind.u64.wrap z = z := IntWalk.u64_in _ (by omega)
  have HT := fun w => times_any p (needN n) hp (by omega) w
  have HS := fun w => shared_any (p * needN n / 18446744073709551616) (p * needN n % 18446744073709551616) 1000 (by
    refine Nat.div_lt_of_lt_mul ?_
    have := Nat.mul_le_mul (Nat.le_of_lt hp) hb
    omega) (by omega) (by omega) (by omega) w
  rw [halves _ _ 1000 (p * needN n) rfl rfl] at HS
  have hR : min ((p * needN n + 1000 - 1) / 1000) 18446744073709551615 = needR p n := rfl
  rw [hR] at HS
  obtain ⟨H, hH⟩ : ∃ x : Int, x = ((p * needN n / 18446744073709551616 : Nat) : Int) := ⟨_, rfl⟩
  obtain ⟨L, hL⟩ : ∃ x : Int, x = ((p * needN n % 18446744073709551616 : Nat) : Int) := ⟨_, rfl⟩
  rw [← hH, ← hL, ← hz] at HT
  rw [← hH, ← hL] at HS
  have HT' := As.mk HT
  have HS' : As (∀ w, Calls Try.prog 38 #[.int .u64 H, .int .u64 L, .int .u64 1000] w fun e w' => e = .returned (.int .u64 (needR p n : Int)) ∧ w = w') := ⟨HS⟩
  have h1 := hm.symm
  clear HT HS hb hz hm hH hL hR
  go_enter Try.func25, Try.ntmps25
  go_wp2_with (first | (go_at_call 36; (with_reducible refine (HT'.out _).mono ?_); rintro e w' ⟨rfl, rfl⟩) | (go_at_call 38; (with_reducible refine (HS'.out _).mono ?_); rintro e w' ⟨rfl, rfl⟩))
  go_ret
  exact ⟨rfl, rfl⟩
theorem per_ref (f : Nat) (s : Int) (hf : f < 18446744073709551616) (hs : s ≤ 9223372036854775807) (w : World) :
    Calls Try.prog 24 #[.agg #[.int .u64 (f : Int), .int .i64 s]] w fun e w' => e = .returned (.int .u64 (perR f s : Int)) ∧ Below w.heap.size w w' := by
  have HT := fun w => times_any f 1000 hf (by omega) w
  have HS := fun w => shared_any (f * 1000 / 18446744073709551616) (f * 1000 % 18446744073709551616) (szN s) (by omega) (by omega) (szN_pos s) (by have := szN_lt s hs; omega) w
  rw [halves _ _ (szN s) (f * 1000) rfl rfl, Nat.mul_comm f 1000] at HS
  have hR : min ((1000 * f + szN s - 1) / szN s) 18446744073709551615 = perR f s := rfl
  rw [hR] at HS
  obtain ⟨H, hH⟩ : ∃ x : Int, x = ((f * 1000 / 18446744073709551616 : Nat) : Int) := ⟨_, rfl⟩
  obtain ⟨L, hL⟩ : ∃ x : Int, x = ((f * 1000 % 18446744073709551616 : Nat) : Int) := ⟨_, rfl⟩
  rw [← hH, ← hL] at HT
  rw [Nat.mul_comm 1000 f, ← hH, ← hL] at HS
  have HT' : As (∀ w, Calls Try.prog 36 #[.int .u64 (f : Int), .int .u64 1000] w fun e w' => e = .returned (.tuple #[.int .u64 H, .int .u64 L]) ∧ w = w') := ⟨HT⟩
  have HS' := As.mk HS
  clear HT HS hH hL hR
  go_enter Try.func24, Try.ntmps24
  go_wp2_with (first | (go_at_call 36; (with_reducible refine (HT'.out _).mono ?_); rintro e w' ⟨rfl, rfl⟩) | (go_at_call 37; (with_reducible refine (rsize_any s hs _).mono ?_); rintro e w' ⟨rfl, rfl⟩) | (go_at_call 38; (with_reducible refine (HS'.out _).mono ?_); rintro e w' ⟨rfl, rfl⟩))
  go_ret
  exact ⟨rfl, (Below.refl _ _).alloc (Nat.le_refl _) _⟩
theorem sgn_halves (p q : Nat) {H L K M : Int} (h1 : H = ((p / 18446744073709551616 : Nat) : Int)) (h2 : L = ((p % 18446744073709551616 : Nat) : Int)) (h3 : K = ((q / 18446744073709551616 : Nat) : Int)) (h4 : M = ((q % 18446744073709551616 : Nat) : Int)) :
    (H < K → sgn (p : Int) (q : Int) = -1) ∧ (K < H → sgn (p : Int) (q : Int) = 1) ∧ (H = K → L < M → sgn (p : Int) (q : Int) = -1) ∧ (H = K → L = M → sgn (p : Int) (q : Int) = 0) ∧ (H = K → M < L → sgn (p : Int) (q : Int) = 1) :=
  ⟨fun h => sgn_lt _ _ (by omega), fun h => sgn_gt _ _ (by omega), fun h h' => sgn_lt _ _ (by omega), fun h h' => sgn_eq _ _ (by omega), fun h h' => sgn_gt _ _ (by omega)⟩
set_option maxRecDepth 100000 in
set_option maxHeartbeats 4000000 in
theorem compare_ref (f1 f2 : Nat) (s1 s2 : Int) (h1 : f1 < 18446744073709551616) (h2 : f2 < 18446744073709551616) (g1 : s1 ≤ 9223372036854775807) (g2 : s2 ≤ 9223372036854775807) (w : World) :
    Calls Try.prog 23 #[.agg #[.int .u64 (f1 : Int), .int .i64 s1], .agg #[.int .u64 (f2 : Int), .int .i64 s2]] w fun e w' => e = .returned (.int .i64 (cmpR f1 s1 f2 s2)) ∧ Below w.heap.size w w' := by
  have HT1 := fun w => times_any f1 (szN s2) h1 (by have := szN_lt s2 g2; omega) w
  have HT2 := fun w => times_any f2 (szN s1) h2 (by have := szN_lt s1 g1; omega) w
  obtain ⟨H, hH⟩ : ∃ x : Int, x = ((f1 * szN s2 / 18446744073709551616 : Nat) : Int) := ⟨_, rfl⟩
  obtain ⟨L, hL⟩ : ∃ x : Int, x = ((f1 * szN s2 % 18446744073709551616 : Nat) : Int) := ⟨_, rfl⟩
  obtain ⟨K, hK⟩ : ∃ x : Int, x = ((f2 * szN s1 / 18446744073709551616 : Nat) : Int) := ⟨_, rfl⟩
  obtain ⟨M, hM⟩ : ∃ x : Int, x = ((f2 * szN s1 % 18446744073709551616 : Nat) : Int) := ⟨_, rfl⟩
  have hc := sgn_halves (f1 * szN s2) (f2 * szN s1) hH hL hK hM
  rw [← hH, ← hL] at HT1
  rw [← hK, ← hM] at HT2
  have hcm : sgn ((f1 * szN s2 : Nat) : Int) ((f2 * szN s1 : Nat) : Int) = cmpR f1 s1 f2 s2 := by
    unfold cmpR
    rw [szI_eq, szI_eq]
    simp
  rw [hcm] at hc
  have HC := As.mk hc
  have HT1' := As.mk HT1
  have HT2' := As.mk HT2
  have HR1 := As.mk (rsize_any s1 g1)
  have HR2 := As.mk (rsize_any s2 g2)
  clear HT1 HT2 hc hcm hH hL hK hM h1 h2 g1 g2
  generalize cmpR f1 s1 f2 s2 = r at *
  have HS0 : As (Rt ((w.alloc (.cells #[.int .u64 (f1 : Int), .int .i64 s1] 40)).alloc (.cells #[.int .u64 (f2 : Int), .int .i64 s2] 40)) w.heap.size f1 s1 ∧ Rt ((w.alloc (.cells #[.int .u64 (f1 : Int), .int .i64 s1] 40)).alloc (.cells #[.int .u64 (f2 : Int), .int .i64 s2] 40)) (w.heap.size + 1) f2 s2) := ⟨by
    refine ⟨Rt.alloc (Rt.new w f1 s1) _, ?_⟩
    have := Rt.new (w.alloc (.cells #[.int .u64 (f1 : Int), .int .i64 s1] 40)) f2 s2
    simpa using this⟩
  have HB : As (Below w.heap.size w ((w.alloc (.cells #[.int .u64 (f1 : Int), .int .i64 s1] 40)).alloc (.cells #[.int .u64 (f2 : Int), .int .i64 s2] 40))) := ⟨((Below.refl _ _).alloc (Nat.le_refl _) _).alloc (by simp) _⟩
  go_enter Try.func23, Try.ntmps23
  go_upto_region 1 with (fail)
  generalize ((w.alloc (.cells #[.int .u64 (f1 : Int), .int .i64 s1] 40)).alloc (.cells #[.int .u64 (f2 : Int), .int .i64 s2] 40)) = W at *
  refine wp_region_held_drew (S := (fun W : World => Rt W w.heap.size f1 s1 ∧ Rt W (w.heap.size + 1) f2 s2)) (by kernel_rfl) ?_ (fun hHeld => ?_)
  · exact HS0.out
  refine wpAnyH_take (i := 0) (oi := ?_) (v := ?_) (by simp only [List.getElem?_toArray, List.getElem?_cons_zero, List.getElem?_cons_succ]; rfl) (by kernel_rfl) (by kernel_rfl) (by kernel_rfl) (by exact fun _ _ _ h => h) (Or.inl ⟨by rfl, ?_⟩) (by assumption) ?_
  rotate_left
  · (intro w hSw; (try dsimp only at hSw); obtain ⟨hSx, hSy⟩ := hSw; obtain ⟨sx0, sx1, -, -⟩ := hSx.cells; obtain ⟨sy0, sy1, -, -⟩ := hSy.cells; clear hSx hSy; go_simp; first | done | with_reducible rfl)
  try simp only [Act.put, List.setIfInBounds_toArray, List.set_cons_zero, List.set_cons_succ]
  refine wpAnyH_take (i := 1) (oi := ?_) (v := ?_) (by simp only [List.getElem?_toArray, List.getElem?_cons_zero, List.getElem?_cons_succ]; rfl) (by kernel_rfl) (by kernel_rfl) (by kernel_rfl) (by exact fun _ _ _ h => h) (Or.inl ⟨by rfl, ?_⟩) (by assumption) ?_
  rotate_left
  · (intro w hSw; (try dsimp only at hSw); obtain ⟨hSx, hSy⟩ := hSw; obtain ⟨sx0, sx1, -, -⟩ := hSx.cells; obtain ⟨sy0, sy1, -, -⟩ := hSy.cells; clear hSx hSy; go_simp; first | done | with_reducible rfl)
  try simp only [Act.put, List.setIfInBounds_toArray, List.set_cons_zero, List.set_cons_succ]
  refine wpAnyH_take (i := 2) (oi := ?_) (v := ?_) (by simp only [List.getElem?_toArray, List.getElem?_cons_zero, List.getElem?_cons_succ]; rfl) (by kernel_rfl) (by kernel_rfl) (by kernel_rfl) (by exact fun _ _ _ h => h) (Or.inl ⟨by rfl, ?_⟩) (by assumption) ?_
  rotate_left
  · (intro w hSw; (try dsimp only at hSw); obtain ⟨hSx, hSy⟩ := hSw; obtain ⟨sx0, sx1, -, -⟩ := hSx.cells; obtain ⟨sy0, sy1, -, -⟩ := hSy.cells; clear hSx hSy; go_simp; first | done | with_reducible rfl)
  try simp only [Act.put, List.setIfInBounds_toArray, List.set_cons_zero, List.set_cons_succ]
  refine wpAnyH_take (i := 3) (oi := ?_) (v := ?_) (by simp only [List.getElem?_toArray, List.getElem?_cons_zero, List.getElem?_cons_succ]; rfl) (by kernel_rfl) (by kernel_rfl) (by kernel_rfl) (by exact fun _ _ _ h => h) (Or.inl ⟨by rfl, ?_⟩) (by assumption) ?_
  rotate_left
  · (intro w hSw; (try dsimp only at hSw); obtain ⟨hSx, hSy⟩ := hSw; obtain ⟨sx0, sx1, -, -⟩ := hSx.cells; obtain ⟨sy0, sy1, -, -⟩ := hSy.cells; clear hSx hSy; go_simp; first | done | with_reducible rfl)
  try simp only [Act.put, List.setIfInBounds_toArray, List.set_cons_zero, List.set_cons_succ]
  refine wpAnyH_ready (rs := [4]) (by kernel_rfl) (by simp) ?_
  refine AllReadyH.cons (o := ?_) (by simp only [List.getElem?_toArray, List.getElem?_cons_zero, List.getElem?_cons_succ]; rfl) (fun K hK => ?_) ?_
  · go_simp
    refine (HR2.out _).mono ?_
    rintro e w5 ⟨rfl, rfl⟩
    dsimp only
    refine hK.out _ _ ?_ (fun hHeld2 => ?_)
    · exact hHeld
    clear hK K hHeld
    have hHeld := hHeld2
    clear hHeld2
    try simp only [Act.put, List.setIfInBounds_toArray, List.set_cons_zero, List.set_cons_succ]
    refine wpAnyH_ready (rs := [5]) (by kernel_rfl) (by simp) ?_
    refine AllReadyH.cons (o := ?_) (by simp only [List.getElem?_toArray, List.getElem?_cons_zero, List.getElem?_cons_succ]; rfl) (fun K hK => ?_) ?_
    · go_simp
      refine (HT1'.out _).mono ?_
      rintro e w5 ⟨rfl, rfl⟩
      dsimp only
      refine hK.out _ _ ?_ (fun hHeld2 => ?_)
      · exact hHeld
      clear hK K hHeld
      have hHeld := hHeld2
      clear hHeld2
      try simp only [Act.put, List.setIfInBounds_toArray, List.set_cons_zero, List.set_cons_succ]
      refine wpAnyH_take (i := 6) (oi := ?_) (v := ?_) (by simp only [List.getElem?_toArray, List.getElem?_cons_zero, List.getElem?_cons_succ]; rfl) (by kernel_rfl) (by kernel_rfl) (by kernel_rfl) (by exact fun _ _ _ h => h) (Or.inl ⟨by rfl, ?_⟩) (by assumption) ?_
      rotate_left
      · (intro w hSw; (try dsimp only at hSw); obtain ⟨hSx, hSy⟩ := hSw; obtain ⟨sx0, sx1, -, -⟩ := hSx.cells; obtain ⟨sy0, sy1, -, -⟩ := hSy.cells; clear hSx hSy; go_simp; first | done | with_reducible rfl)
      try simp only [Act.put, List.setIfInBounds_toArray, List.set_cons_zero, List.set_cons_succ]
      refine wpAnyH_take (i := 7) (oi := ?_) (v := ?_) (by simp only [List.getElem?_toArray, List.getElem?_cons_zero, List.getElem?_cons_succ]; rfl) (by kernel_rfl) (by kernel_rfl) (by kernel_rfl) (by exact fun _ _ _ h => h) (Or.inl ⟨by rfl, ?_⟩) (by assumption) ?_
      rotate_left
      · (intro w hSw; (try dsimp only at hSw); obtain ⟨hSx, hSy⟩ := hSw; obtain ⟨sx0, sx1, -, -⟩ := hSx.cells; obtain ⟨sy0, sy1, -, -⟩ := hSy.cells; clear hSx hSy; go_simp; first | done | with_reducible rfl)
      try simp only [Act.put, List.setIfInBounds_toArray, List.set_cons_zero, List.set_cons_succ]
      refine wpAnyH_take (i := 8) (oi := ?_) (v := ?_) (by simp only [List.getElem?_toArray, List.getElem?_cons_zero, List.getElem?_cons_succ]; rfl) (by kernel_rfl) (by kernel_rfl) (by kernel_rfl) (by exact fun _ _ _ h => h) (Or.inl ⟨by rfl, ?_⟩) (by assumption) ?_
      rotate_left
      · (intro w hSw; (try dsimp only at hSw); obtain ⟨hSx, hSy⟩ := hSw; obtain ⟨sx0, sx1, -, -⟩ := hSx.cells; obtain ⟨sy0, sy1, -, -⟩ := hSy.cells; clear hSx hSy; go_simp; first | done | with_reducible rfl)
      try simp only [Act.put, List.setIfInBounds_toArray, List.set_cons_zero, List.set_cons_succ]
      refine wpAnyH_take (i := 9) (oi := ?_) (v := ?_) (by simp only [List.getElem?_toArray, List.getElem?_cons_zero, List.getElem?_cons_succ]; rfl) (by kernel_rfl) (by kernel_rfl) (by kernel_rfl) (by exact fun _ _ _ h => h) (Or.inl ⟨by rfl, ?_⟩) (by assumption) ?_
      rotate_left
      · (intro w hSw; (try dsimp only at hSw); obtain ⟨hSx, hSy⟩ := hSw; obtain ⟨sx0, sx1, -, -⟩ := hSx.cells; obtain ⟨sy0, sy1, -, -⟩ := hSy.cells; clear hSx hSy; go_simp; first | done | with_reducible rfl)
      try simp only [Act.put, List.setIfInBounds_toArray, List.set_cons_zero, List.set_cons_succ]
      refine wpAnyH_take (i := 10) (oi := ?_) (v := ?_) (by simp only [List.getElem?_toArray, List.getElem?_cons_zero, List.getElem?_cons_succ]; rfl) (by kernel_rfl) (by kernel_rfl) (by kernel_rfl) (by exact fun _ _ _ h => h) (Or.inl ⟨by rfl, ?_⟩) (by assumption) ?_
      rotate_left
      · (intro w hSw; (try dsimp only at hSw); obtain ⟨hSx, hSy⟩ := hSw; obtain ⟨sx0, sx1, -, -⟩ := hSx.cells; obtain ⟨sy0, sy1, -, -⟩ := hSy.cells; clear hSx hSy; go_simp; first | done | with_reducible rfl)
      try simp only [Act.put, List.setIfInBounds_toArray, List.set_cons_zero, List.set_cons_succ]
      refine wpAnyH_done (by kernel_rfl) ?_ _
      have hHeldO := hHeld
      clear hHeld
      go_upto_region 2 with (fail)
      refine wp_region_held_drew (S := (fun W : World => Rt W w.heap.size f1 s1 ∧ Rt W (w.heap.size + 1) f2 s2)) (by kernel_rfl) ?_ (fun hHeld => ?_)
      · exact hHeldO
      refine wpAnyH_take (i := 0) (oi := ?_) (v := ?_) (by simp only [List.getElem?_toArray, List.getElem?_cons_zero, List.getElem?_cons_succ]; rfl) (by kernel_rfl) (by kernel_rfl) (by kernel_rfl) (by exact fun _ _ _ h => h) (Or.inl ⟨by rfl, ?_⟩) (by assumption) ?_
      rotate_left
      · (intro w hSw; (try dsimp only at hSw); obtain ⟨hSx, hSy⟩ := hSw; obtain ⟨sx0, sx1, -, -⟩ := hSx.cells; obtain ⟨sy0, sy1, -, -⟩ := hSy.cells; clear hSx hSy; go_simp; first | done | with_reducible rfl)
      try simp only [Act.put, List.setIfInBounds_toArray, List.set_cons_zero, List.set_cons_succ]
      refine wpAnyH_take (i := 1) (oi := ?_) (v := ?_) (by simp only [List.getElem?_toArray, List.getElem?_cons_zero, List.getElem?_cons_succ]; rfl) (by kernel_rfl) (by kernel_rfl) (by kernel_rfl) (by exact fun _ _ _ h => h) (Or.inl ⟨by rfl, ?_⟩) (by assumption) ?_
      rotate_left
      · (intro w hSw; (try dsimp only at hSw); obtain ⟨hSx, hSy⟩ := hSw; obtain ⟨sx0, sx1, -, -⟩ := hSx.cells; obtain ⟨sy0, sy1, -, -⟩ := hSy.cells; clear hSx hSy; go_simp; first | done | with_reducible rfl)
      try simp only [Act.put, List.setIfInBounds_toArray, List.set_cons_zero, List.set_cons_succ]
      refine wpAnyH_take (i := 2) (oi := ?_) (v := ?_) (by simp only [List.getElem?_toArray, List.getElem?_cons_zero, List.getElem?_cons_succ]; rfl) (by kernel_rfl) (by kernel_rfl) (by kernel_rfl) (by exact fun _ _ _ h => h) (Or.inl ⟨by rfl, ?_⟩) (by assumption) ?_
      rotate_left
      · (intro w hSw; (try dsimp only at hSw); obtain ⟨hSx, hSy⟩ := hSw; obtain ⟨sx0, sx1, -, -⟩ := hSx.cells; obtain ⟨sy0, sy1, -, -⟩ := hSy.cells; clear hSx hSy; go_simp; first | done | with_reducible rfl)
      try simp only [Act.put, List.setIfInBounds_toArray, List.set_cons_zero, List.set_cons_succ]
      refine wpAnyH_take (i := 3) (oi := ?_) (v := ?_) (by simp only [List.getElem?_toArray, List.getElem?_cons_zero, List.getElem?_cons_succ]; rfl) (by kernel_rfl) (by kernel_rfl) (by kernel_rfl) (by exact fun _ _ _ h => h) (Or.inl ⟨by rfl, ?_⟩) (by assumption) ?_
      rotate_left
      · (intro w hSw; (try dsimp only at hSw); obtain ⟨hSx, hSy⟩ := hSw; obtain ⟨sx0, sx1, -, -⟩ := hSx.cells; obtain ⟨sy0, sy1, -, -⟩ := hSy.cells; clear hSx hSy; go_simp; first | done | with_reducible rfl)
      try simp only [Act.put, List.setIfInBounds_toArray, List.set_cons_zero, List.set_cons_succ]
      refine wpAnyH_ready (rs := [4]) (by kernel_rfl) (by simp) ?_
      refine AllReadyH.cons (o := ?_) (by simp only [List.getElem?_toArray, List.getElem?_cons_zero, List.getElem?_cons_succ]; rfl) (fun K hK => ?_) ?_
      · go_simp
        refine (HR1.out _).mono ?_
        rintro e w5 ⟨rfl, rfl⟩
        dsimp only
        refine hK.out _ _ ?_ (fun hHeld2 => ?_)
        · exact hHeld
        clear hK K hHeld
        have hHeld := hHeld2
        clear hHeld2
        try simp only [Act.put, List.setIfInBounds_toArray, List.set_cons_zero, List.set_cons_succ]
        refine wpAnyH_ready (rs := [5]) (by kernel_rfl) (by simp) ?_
        refine AllReadyH.cons (o := ?_) (by simp only [List.getElem?_toArray, List.getElem?_cons_zero, List.getElem?_cons_succ]; rfl) (fun K hK => ?_) ?_
        · go_simp
          refine (HT2'.out _).mono ?_
          rintro e w5 ⟨rfl, rfl⟩
          dsimp only
          refine hK.out _ _ ?_ (fun hHeld2 => ?_)
          · exact hHeld
          clear hK K hHeld
          have hHeld := hHeld2
          clear hHeld2
          try simp only [Act.put, List.setIfInBounds_toArray, List.set_cons_zero, List.set_cons_succ]
          refine wpAnyH_take (i := 6) (oi := ?_) (v := ?_) (by simp only [List.getElem?_toArray, List.getElem?_cons_zero, List.getElem?_cons_succ]; rfl) (by kernel_rfl) (by kernel_rfl) (by kernel_rfl) (by exact fun _ _ _ h => h) (Or.inl ⟨by rfl, ?_⟩) (by assumption) ?_
          rotate_left
          · (intro w hSw; (try dsimp only at hSw); obtain ⟨hSx, hSy⟩ := hSw; obtain ⟨sx0, sx1, -, -⟩ := hSx.cells; obtain ⟨sy0, sy1, -, -⟩ := hSy.cells; clear hSx hSy; go_simp; first | done | with_reducible rfl)
          try simp only [Act.put, List.setIfInBounds_toArray, List.set_cons_zero, List.set_cons_succ]
          refine wpAnyH_take (i := 7) (oi := ?_) (v := ?_) (by simp only [List.getElem?_toArray, List.getElem?_cons_zero, List.getElem?_cons_succ]; rfl) (by kernel_rfl) (by kernel_rfl) (by kernel_rfl) (by exact fun _ _ _ h => h) (Or.inl ⟨by rfl, ?_⟩) (by assumption) ?_
          rotate_left
          · (intro w hSw; (try dsimp only at hSw); obtain ⟨hSx, hSy⟩ := hSw; obtain ⟨sx0, sx1, -, -⟩ := hSx.cells; obtain ⟨sy0, sy1, -, -⟩ := hSy.cells; clear hSx hSy; go_simp; first | done | with_reducible rfl)
          try simp only [Act.put, List.setIfInBounds_toArray, List.set_cons_zero, List.set_cons_succ]
          refine wpAnyH_take (i := 8) (oi := ?_) (v := ?_) (by simp only [List.getElem?_toArray, List.getElem?_cons_zero, List.getElem?_cons_succ]; rfl) (by kernel_rfl) (by kernel_rfl) (by kernel_rfl) (by exact fun _ _ _ h => h) (Or.inl ⟨by rfl, ?_⟩) (by assumption) ?_
          rotate_left
          · (intro w hSw; (try dsimp only at hSw); obtain ⟨hSx, hSy⟩ := hSw; obtain ⟨sx0, sx1, -, -⟩ := hSx.cells; obtain ⟨sy0, sy1, -, -⟩ := hSy.cells; clear hSx hSy; go_simp; first | done | with_reducible rfl)
          try simp only [Act.put, List.setIfInBounds_toArray, List.set_cons_zero, List.set_cons_succ]
          refine wpAnyH_take (i := 9) (oi := ?_) (v := ?_) (by simp only [List.getElem?_toArray, List.getElem?_cons_zero, List.getElem?_cons_succ]; rfl) (by kernel_rfl) (by kernel_rfl) (by kernel_rfl) (by exact fun _ _ _ h => h) (Or.inl ⟨by rfl, ?_⟩) (by assumption) ?_
          rotate_left
          · (intro w hSw; (try dsimp only at hSw); obtain ⟨hSx, hSy⟩ := hSw; obtain ⟨sx0, sx1, -, -⟩ := hSx.cells; obtain ⟨sy0, sy1, -, -⟩ := hSy.cells; clear hSx hSy; go_simp; first | done | with_reducible rfl)
          try simp only [Act.put, List.setIfInBounds_toArray, List.set_cons_zero, List.set_cons_succ]
          refine wpAnyH_take (i := 10) (oi := ?_) (v := ?_) (by simp only [List.getElem?_toArray, List.getElem?_cons_zero, List.getElem?_cons_succ]; rfl) (by kernel_rfl) (by kernel_rfl) (by kernel_rfl) (by exact fun _ _ _ h => h) (Or.inl ⟨by rfl, ?_⟩) (by assumption) ?_
          rotate_left
          · (intro w hSw; (try dsimp only at hSw); obtain ⟨hSx, hSy⟩ := hSw; obtain ⟨sx0, sx1, -, -⟩ := hSx.cells; obtain ⟨sy0, sy1, -, -⟩ := hSy.cells; clear hSx hSy; go_simp; first | done | with_reducible rfl)
          try simp only [Act.put, List.setIfInBounds_toArray, List.set_cons_zero, List.set_cons_succ]
          refine wpAnyH_done (by kernel_rfl) ?_ _
          by_cases c1 : H < K
          · have HE := As.mk (HC.out.1 c1)
            clear HC HS0 HT1' HT2' HR1 HR2
            go_wp2
            go_ret
            exact ⟨by rw [HE.out]; rfl, HB.out.drew.drew⟩
          by_cases c2 : K < H
          · have HE := As.mk (HC.out.2.1 c2)
            have n1 : (H == K) = false := beq_eq_false_iff_ne.mpr (by omega)
            clear HC HS0 HT1' HT2' HR1 HR2 c1
            go_wp2
            go_ret
            exact ⟨by rw [HE.out]; rfl, HB.out.drew.drew⟩
          obtain rfl : H = K := by omega
          by_cases c3 : L < M
          · have HE := As.mk (HC.out.2.2.1 rfl c3)
            clear HC HS0 HT1' HT2' HR1 HR2 c1 c2
            go_wp2
            go_ret
            exact ⟨by rw [HE.out]; rfl, HB.out.drew.drew⟩
          by_cases c4 : M < L
          · have HE := As.mk (HC.out.2.2.2.2 rfl c4)
            have n1 : (L == M) = false := beq_eq_false_iff_ne.mpr (by omega)
            clear HC HS0 HT1' HT2' HR1 HR2 c1 c2 c3
            go_wp2
            go_ret
            exact ⟨by rw [HE.out]; rfl, HB.out.drew.drew⟩
          obtain rfl : L = M := by omega
          have HE := As.mk (HC.out.2.2.2.1 rfl rfl)
          clear HC HS0 HT1' HT2' HR1 HR2 c1 c2 c3 c4
          go_wp2
          go_ret
          exact ⟨by rw [HE.out]; rfl, HB.out.drew.drew⟩
        exact AllReadyH.nil
      exact AllReadyH.nil
    exact AllReadyH.nil
  exact AllReadyH.nil
set_option maxRecDepth 100000 in
set_option maxHeartbeats 4000000 in
theorem add_ref (v : Value) (l : List (Nat × Int)) (w : World) (hr : RdS w 2 v l.length (rcells l)) :
    Calls Try.prog 27 #[v] w fun e w' => e = .returned (.agg #[.int .u64 (addF l : Int), .int .i64 (addS l)]) ∧ Below w.heap.size w w' := by
  obtain ⟨hl, A, c, rfl, h1, h2, h3, h4⟩ := hr
  have h2' := h2
  unfold maxLen at h2'
  have hlm : (l.length : Int) ≤ 9223372036854775807 := by omega
  have H4 := As.mk h4
  have H3 := As.mk h3
  have H1 := As.mk h1
  clear h1 h2 h3 h4 hl h2'
  go_enter Try.func27, Try.ntmps27
  go_wp2_with fail
  have hB0 : As (Below w.heap.size w ((w.alloc (Obj.cells #[Value.int IntKind.u64 0, Value.int IntKind.i64 0] 40)).alloc (Obj.cells #[Value.int IntKind.u64 0, Value.int IntKind.i64 0] 40))) := ⟨((Below.refl _ _).alloc (Nat.le_refl _) _).alloc (by simp) _⟩
  have hC0 : As (Rt ((w.alloc (Obj.cells #[Value.int IntKind.u64 0, Value.int IntKind.i64 0] 40)).alloc (Obj.cells #[Value.int IntKind.u64 0, Value.int IntKind.i64 0] 40)) w.heap.size 0 0 ∧
    Rt ((w.alloc (Obj.cells #[Value.int IntKind.u64 0, Value.int IntKind.i64 0] 40)).alloc (Obj.cells #[Value.int IntKind.u64 0, Value.int IntKind.i64 0] 40)) (w.heap.size + 1) 0 0) := ⟨heap_alloc2_old _ _ _, heap_alloc2_new _ _ _⟩
  go_loopw [4] (fun v4 wr => ∃ k : Nat, (k : Int) ≤ l.length ∧ v4 = .int .i64 (k : Int) ∧ As (Below w.heap.size w wr) ∧ As (Rt wr w.heap.size 0 0 ∧ Rt wr (w.heap.size + 1) (addF (l.take k)) (addS (l.take k)))) (fun v4 _ => l.length - (intOf v4).toNat)
  case atStart => exact ⟨0, by omega, rfl, hB0, by have e1 : addF (l.take 0) = 0 := rfl; have e2 : addS (l.take 0) = 0 := (by unfold addS; rw [IntKind.wrap_i64]; rfl); rw [e1, e2]; exact hC0⟩
  case round =>
    obtain ⟨k, hk, rfl, HB, HC⟩ := hrel
    by_cases hlt : (k : Int) < l.length
    · have hlt' : k < l.length := by omega
      have hltN : decide (k < l.length) = true := by simpa using hlt'
      rcases A with _ | ad
      · have h5 := H3.out rfl
        have h6 := H1.out
        omega
      obtain ⟨e1, e2⟩ := rcells_at l k hlt'
      have q1 := H4.out ad rfl _ _ e1
      have q2 := H4.out ad rfl _ _ e2
      rw [← add_add] at q2
      have q2' : w.cell? ⟨(ad.add (k * 2)).block, (ad.add (k * 2)).off + 1, none⟩ = some (.int .i64 (l[k]).2) := q2
      have Q1 := As.mk q1
      have Q2 := As.mk q2'
      have b1 := addF_snoc l k hlt'
      have b2 := addS_snoc l k hlt'
      obtain ⟨F, hF⟩ : ∃ F : Int, F = (addF (l.take k) : Int) := ⟨_, rfl⟩
      obtain ⟨S, hS⟩ : ∃ S : Int, S = addS (l.take k) := ⟨_, rfl⟩
      obtain ⟨f, hf⟩ : ∃ F : Int, F = ((l[k]).1 : Int) := ⟨_, rfl⟩
      obtain ⟨z, hz⟩ : ∃ F : Int, F = (l[k]).2 := ⟨_, rfl⟩
      rw [← hF, ← hS] at HC
      rw [← hf] at Q1
      rw [← hz] at Q2
      have b1' : As (((addF (l.take (k + 1)) : Nat) : Int) = IntKind.u64.wrap (F + f)) := ⟨by rw [b1, IntKind.wrap_u64, hF, hf]; omega⟩
      have b2' : As (addS (l.take (k + 1)) = RowKit.wrap64 (S + z)) := ⟨by rw [b2, IntKind.wrap_i64, hS, hz]; unfold RowKit.wrap64; omega⟩
      clear e1 e2 b1 b2 q2 q1 q2' hF hS hf hz
      obtain ⟨c0, c1, x0, x1⟩ := HC.out.2.cells
      go_upto_region 5 with (fail)
      refine wp_region_held_drew (S := (fun W : World => Below w.heap.size w W)) (by kernel_rfl) ?_ (fun hHeld => ?_)
      · exact HB.out.drew
      refine wpAnyH_take (i := 0) (oi := ?_) (v := ?_) (by simp only [List.getElem?_toArray, List.getElem?_cons_zero, List.getElem?_cons_succ]; rfl) (by kernel_rfl) (by kernel_rfl) (by kernel_rfl) (by exact fun _ _ _ h => h) (Or.inl ⟨by rfl, ?_⟩) (by assumption) ?_
      rotate_left
      · (intro w hSw; (try dsimp only at hSw); have sq1 := cell_of_below hSw Q1.out; have sq2 := cell_of_below hSw Q2.out; clear hSw; go_simp; first | done | with_reducible rfl)
      try simp only [Act.put, List.setIfInBounds_toArray, List.set_cons_zero, List.set_cons_succ]
      refine wpAnyH_take (i := 2) (oi := ?_) (v := ?_) (by simp only [List.getElem?_toArray, List.getElem?_cons_zero, List.getElem?_cons_succ]; rfl) (by kernel_rfl) (by kernel_rfl) (by kernel_rfl) (by exact fun _ _ _ h => h) (Or.inl ⟨by rfl, ?_⟩) (by assumption) ?_
      rotate_left
      · (intro w hSw; (try dsimp only at hSw); have sq1 := cell_of_below hSw Q1.out; have sq2 := cell_of_below hSw Q2.out; clear hSw; go_simp; first | done | with_reducible rfl)
      try simp only [Act.put, List.setIfInBounds_toArray, List.set_cons_zero, List.set_cons_succ]
      refine wpAnyH_take (i := 3) (oi := ?_) (v := ?_) (by simp only [List.getElem?_toArray, List.getElem?_cons_zero, List.getElem?_cons_succ]; rfl) (by kernel_rfl) (by kernel_rfl) (by kernel_rfl) (by exact fun _ _ _ h => h) (Or.inl ⟨by rfl, ?_⟩) (by assumption) ?_
      rotate_left
      · (intro w hSw; (try dsimp only at hSw); have sq1 := cell_of_below hSw Q1.out; have sq2 := cell_of_below hSw Q2.out; clear hSw; go_simp; first | done | with_reducible rfl)
      try simp only [Act.put, List.setIfInBounds_toArray, List.set_cons_zero, List.set_cons_succ]
      refine wpAnyH_take (i := 4) (oi := ?_) (v := ?_) (by simp only [List.getElem?_toArray, List.getElem?_cons_zero, List.getElem?_cons_succ]; rfl) (by kernel_rfl) (by kernel_rfl) (by kernel_rfl) (by exact fun _ _ _ h => h) (Or.inl ⟨by rfl, ?_⟩) (by assumption) ?_
      rotate_left
      · (intro w hSw; (try dsimp only at hSw); have sq1 := cell_of_below hSw Q1.out; have sq2 := cell_of_below hSw Q2.out; clear hSw; go_simp; first | done | with_reducible rfl)
      try simp only [Act.put, List.setIfInBounds_toArray, List.set_cons_zero, List.set_cons_succ]
      refine wpAnyH_take (i := 5) (oi := ?_) (v := ?_) (by simp only [List.getElem?_toArray, List.getElem?_cons_zero, List.getElem?_cons_succ]; rfl) (by kernel_rfl) (by kernel_rfl) (by kernel_rfl) (by exact fun _ _ _ h => h) (Or.inl ⟨by rfl, ?_⟩) (by assumption) ?_
      rotate_left
      · (intro w hSw; (try dsimp only at hSw); have sq1 := cell_of_below hSw Q1.out; have sq2 := cell_of_below hSw Q2.out; clear hSw; go_simp; first | done | with_reducible rfl)
      try simp only [Act.put, List.setIfInBounds_toArray, List.set_cons_zero, List.set_cons_succ]
      refine wpAnyH_take (i := 6) (oi := ?_) (v := ?_) (by simp only [List.getElem?_toArray, List.getElem?_cons_zero, List.getElem?_cons_succ]; rfl) (by kernel_rfl) (by kernel_rfl) (by kernel_rfl) (by exact fun _ _ _ h => h) (Or.inl ⟨by rfl, ?_⟩) (by assumption) ?_
      rotate_left
      · (intro w hSw; (try dsimp only at hSw); have sq1 := cell_of_below hSw Q1.out; have sq2 := cell_of_below hSw Q2.out; clear hSw; go_simp; first | done | with_reducible rfl)
      try simp only [Act.put, List.setIfInBounds_toArray, List.set_cons_zero, List.set_cons_succ]
      refine wpAnyH_take (i := 8) (oi := ?_) (v := ?_) (by simp only [List.getElem?_toArray, List.getElem?_cons_zero, List.getElem?_cons_succ]; rfl) (by kernel_rfl) (by kernel_rfl) (by kernel_rfl) (by exact fun _ _ _ h => h) (Or.inl ⟨by rfl, ?_⟩) (by assumption) ?_
      rotate_left
      · (intro w hSw; (try dsimp only at hSw); have sq1 := cell_of_below hSw Q1.out; have sq2 := cell_of_below hSw Q2.out; clear hSw; go_simp; first | done | with_reducible rfl)
      try simp only [Act.put, List.setIfInBounds_toArray, List.set_cons_zero, List.set_cons_succ]
      refine wpAnyH_take (i := 10) (oi := ?_) (v := ?_) (by simp only [List.getElem?_toArray, List.getElem?_cons_zero, List.getElem?_cons_succ]; rfl) (by kernel_rfl) (by kernel_rfl) (by kernel_rfl) (by exact fun _ _ _ h => h) (Or.inl ⟨by rfl, ?_⟩) (by assumption) ?_
      rotate_left
      · (intro w hSw; (try dsimp only at hSw); have sq1 := cell_of_below hSw Q1.out; have sq2 := cell_of_below hSw Q2.out; clear hSw; go_simp; first | done | with_reducible rfl)
      try simp only [Act.put, List.setIfInBounds_toArray, List.set_cons_zero, List.set_cons_succ]
      refine wpAnyH_take (i := 11) (oi := ?_) (v := ?_) (by simp only [List.getElem?_toArray, List.getElem?_cons_zero, List.getElem?_cons_succ]; rfl) (by kernel_rfl) (by kernel_rfl) (by kernel_rfl) (by exact fun _ _ _ h => h) (Or.inl ⟨by rfl, ?_⟩) (by assumption) ?_
      rotate_left
      · (intro w hSw; (try dsimp only at hSw); have sq1 := cell_of_below hSw Q1.out; have sq2 := cell_of_below hSw Q2.out; clear hSw; go_simp; first | done | with_reducible rfl)
      try simp only [Act.put, List.setIfInBounds_toArray, List.set_cons_zero, List.set_cons_succ]
      refine wpAnyH_take (i := 12) (oi := ?_) (v := ?_) (by simp only [List.getElem?_toArray, List.getElem?_cons_zero, List.getElem?_cons_succ]; rfl) (by kernel_rfl) (by kernel_rfl) (by kernel_rfl) (by exact fun _ _ _ h => h) (Or.inl ⟨by rfl, ?_⟩) (by assumption) ?_
      rotate_left
      · (intro w hSw; (try dsimp only at hSw); have sq1 := cell_of_below hSw Q1.out; have sq2 := cell_of_below hSw Q2.out; clear hSw; go_simp; first | done | with_reducible rfl)
      try simp only [Act.put, List.setIfInBounds_toArray, List.set_cons_zero, List.set_cons_succ]
      refine wpAnyH_take (i := 13) (oi := ?_) (v := ?_) (by simp only [List.getElem?_toArray, List.getElem?_cons_zero, List.getElem?_cons_succ]; rfl) (by kernel_rfl) (by kernel_rfl) (by kernel_rfl) (by exact fun _ _ _ h => h) (Or.inl ⟨by rfl, ?_⟩) (by assumption) ?_
      rotate_left
      · (intro w hSw; (try dsimp only at hSw); have sq1 := cell_of_below hSw Q1.out; have sq2 := cell_of_below hSw Q2.out; clear hSw; go_simp; first | done | with_reducible rfl)
      try simp only [Act.put, List.setIfInBounds_toArray, List.set_cons_zero, List.set_cons_succ]
      refine wpAnyH_take (i := 14) (oi := ?_) (v := ?_) (by simp only [List.getElem?_toArray, List.getElem?_cons_zero, List.getElem?_cons_succ]; rfl) (by kernel_rfl) (by kernel_rfl) (by kernel_rfl) (by exact fun _ _ _ h => h) (Or.inl ⟨by rfl, ?_⟩) (by assumption) ?_
      rotate_left
      · (intro w hSw; (try dsimp only at hSw); have sq1 := cell_of_below hSw Q1.out; have sq2 := cell_of_below hSw Q2.out; clear hSw; go_simp; first | done | with_reducible rfl)
      try simp only [Act.put, List.setIfInBounds_toArray, List.set_cons_zero, List.set_cons_succ]
      refine wpAnyH_ready (rs := [1, 9]) (by kernel_rfl) (by simp) ?_
      refine AllReadyH.cons (o := ?_) (by simp only [List.getElem?_toArray, List.getElem?_cons_zero, List.getElem?_cons_succ]; rfl) (fun K hK => ?_) ?_
      · go_simp
        refine hK.out _ _ ?_ (fun hHeld2 => ?_)
        · first | exact hHeld | exact hHeld.setCell (Nat.le_succ _) _
        clear hK K hHeld
        have hHeld := hHeld2
        clear hHeld2
        try simp only [Act.put, List.setIfInBounds_toArray, List.set_cons_zero, List.set_cons_succ]
        refine wpAnyH_take (i := 7) (oi := ?_) (v := ?_) (by simp only [List.getElem?_toArray, List.getElem?_cons_zero, List.getElem?_cons_succ]; rfl) (by kernel_rfl) (by kernel_rfl) (by kernel_rfl) (by exact fun _ _ _ h => h) (Or.inl ⟨by rfl, ?_⟩) (by assumption) ?_
        rotate_left
        · (intro w hSw; (try dsimp only at hSw); have sq1 := cell_of_below hSw Q1.out; have sq2 := cell_of_below hSw Q2.out; clear hSw; go_simp; first | done | with_reducible rfl)
        try simp only [Act.put, List.setIfInBounds_toArray, List.set_cons_zero, List.set_cons_succ]
        refine wpAnyH_ready (rs := [9]) (by kernel_rfl) (by simp) ?_
        refine AllReadyH.cons (o := ?_) (by simp only [List.getElem?_toArray, List.getElem?_cons_zero, List.getElem?_cons_succ]; rfl) (fun K hK => ?_) ?_
        · go_simp
          refine hK.out _ _ ?_ (fun hHeld2 => ?_)
          · first | exact hHeld | exact hHeld.setCell (Nat.le_succ _) _
          clear hK K hHeld
          have hHeld := hHeld2
          clear hHeld2
          try simp only [Act.put, List.setIfInBounds_toArray, List.set_cons_zero, List.set_cons_succ]
          refine wpAnyH_take (i := 15) (oi := ?_) (v := ?_) (by simp only [List.getElem?_toArray, List.getElem?_cons_zero, List.getElem?_cons_succ]; rfl) (by kernel_rfl) (by kernel_rfl) (by kernel_rfl) (by exact fun _ _ _ h => h) (Or.inl ⟨by rfl, ?_⟩) (by assumption) ?_
          rotate_left
          · (intro w hSw; (try dsimp only at hSw); have sq1 := cell_of_below hSw Q1.out; have sq2 := cell_of_below hSw Q2.out; clear hSw; go_simp; first | done | with_reducible rfl)
          try simp only [Act.put, List.setIfInBounds_toArray, List.set_cons_zero, List.set_cons_succ]
          refine wpAnyH_take (i := 16) (oi := ?_) (v := ?_) (by simp only [List.getElem?_toArray, List.getElem?_cons_zero, List.getElem?_cons_succ]; rfl) (by kernel_rfl) (by kernel_rfl) (by kernel_rfl) (by exact fun _ _ _ h => h) (Or.inl ⟨by rfl, ?_⟩) (by assumption) ?_
          rotate_left
          · (intro w hSw; (try dsimp only at hSw); have sq1 := cell_of_below hSw Q1.out; have sq2 := cell_of_below hSw Q2.out; clear hSw; go_simp; first | done | with_reducible rfl)
          try simp only [Act.put, List.setIfInBounds_toArray, List.set_cons_zero, List.set_cons_succ]
          refine wpAnyH_ready (rs := [17]) (by kernel_rfl) (by simp) ?_
          refine AllReadyH.cons (o := ?_) (by simp only [List.getElem?_toArray, List.getElem?_cons_zero, List.getElem?_cons_succ]; rfl) (fun K hK => ?_) ?_
          · go_simp
            refine hK.out _ _ ?_ (fun hHeld2 => ?_)
            · first | exact hHeld | exact hHeld.setCell (Nat.le_succ _) _
            clear hK K hHeld
            have hHeld := hHeld2
            clear hHeld2
            try simp only [Act.put, List.setIfInBounds_toArray, List.set_cons_zero, List.set_cons_succ]
            refine wpAnyH_take (i := 18) (oi := ?_) (v := ?_) (by simp only [List.getElem?_toArray, List.getElem?_cons_zero, List.getElem?_cons_succ]; rfl) (by kernel_rfl) (by kernel_rfl) (by kernel_rfl) (by exact fun _ _ _ h => h) (Or.inl ⟨by rfl, ?_⟩) (by assumption) ?_
            rotate_left
            · (intro w hSw; (try dsimp only at hSw); have sq1 := cell_of_below hSw Q1.out; have sq2 := cell_of_below hSw Q2.out; clear hSw; go_simp; first | done | with_reducible rfl)
            try simp only [Act.put, List.setIfInBounds_toArray, List.set_cons_zero, List.set_cons_succ]
            refine wpAnyH_ready (rs := [19]) (by kernel_rfl) (by simp) ?_
            refine AllReadyH.cons (o := ?_) (by simp only [List.getElem?_toArray, List.getElem?_cons_zero, List.getElem?_cons_succ]; rfl) (fun K hK => ?_) ?_
            · go_simp
              refine hK.out _ _ ?_ (fun hHeld2 => ?_)
              · first | exact hHeld | exact hHeld.setCell (Nat.le_succ _) _
              clear hK K hHeld
              have hHeld := hHeld2
              clear hHeld2
              try simp only [Act.put, List.setIfInBounds_toArray, List.set_cons_zero, List.set_cons_succ]
              refine wpAnyH_done (by kernel_rfl) ?_ _
              go_wp2_with fail
              go_roundw
              case rel =>
                refine ⟨k + 1, by omega, by go_num, ⟨((HB.out.setCell (Nat.le_succ _) _).setCell (Nat.le_succ _) _).drew⟩, ⟨?_, ?_⟩⟩
                · exact ((HC.out.1.drew.other (by simp) _ _).other (by simp) _ _)
                · rw [b1'.out, b2'.out]; exact HC.out.2.drew.set _ _
              case measure => simp [intOf]; omega
            exact AllReadyH.nil
          exact AllReadyH.nil
        exact AllReadyH.nil
      refine AllReadyH.cons (o := ?_) (by simp only [List.getElem?_toArray, List.getElem?_cons_zero, List.getElem?_cons_succ]; rfl) (fun K hK => ?_) ?_
      · go_simp
        refine hK.out _ _ ?_ (fun hHeld2 => ?_)
        · first | exact hHeld | exact hHeld.setCell (Nat.le_succ _) _
        clear hK K hHeld
        have hHeld := hHeld2
        clear hHeld2
        try simp only [Act.put, List.setIfInBounds_toArray, List.set_cons_zero, List.set_cons_succ]
        refine wpAnyH_take (i := 15) (oi := ?_) (v := ?_) (by simp only [List.getElem?_toArray, List.getElem?_cons_zero, List.getElem?_cons_succ]; rfl) (by kernel_rfl) (by kernel_rfl) (by kernel_rfl) (by exact fun _ _ _ h => h) (Or.inl ⟨by rfl, ?_⟩) (by assumption) ?_
        rotate_left
        · (intro w hSw; (try dsimp only at hSw); have sq1 := cell_of_below hSw Q1.out; have sq2 := cell_of_below hSw Q2.out; clear hSw; go_simp; first | done | with_reducible rfl)
        try simp only [Act.put, List.setIfInBounds_toArray, List.set_cons_zero, List.set_cons_succ]
        refine wpAnyH_ready (rs := [1]) (by kernel_rfl) (by simp) ?_
        refine AllReadyH.cons (o := ?_) (by simp only [List.getElem?_toArray, List.getElem?_cons_zero, List.getElem?_cons_succ]; rfl) (fun K hK => ?_) ?_
        · go_simp
          refine hK.out _ _ ?_ (fun hHeld2 => ?_)
          · first | exact hHeld | exact hHeld.setCell (Nat.le_succ _) _
          clear hK K hHeld
          have hHeld := hHeld2
          clear hHeld2
          try simp only [Act.put, List.setIfInBounds_toArray, List.set_cons_zero, List.set_cons_succ]
          refine wpAnyH_take (i := 7) (oi := ?_) (v := ?_) (by simp only [List.getElem?_toArray, List.getElem?_cons_zero, List.getElem?_cons_succ]; rfl) (by kernel_rfl) (by kernel_rfl) (by kernel_rfl) (by exact fun _ _ _ h => h) (Or.inl ⟨by rfl, ?_⟩) (by assumption) ?_
          rotate_left
          · (intro w hSw; (try dsimp only at hSw); have sq1 := cell_of_below hSw Q1.out; have sq2 := cell_of_below hSw Q2.out; clear hSw; go_simp; first | done | with_reducible rfl)
          try simp only [Act.put, List.setIfInBounds_toArray, List.set_cons_zero, List.set_cons_succ]
          refine wpAnyH_take (i := 16) (oi := ?_) (v := ?_) (by simp only [List.getElem?_toArray, List.getElem?_cons_zero, List.getElem?_cons_succ]; rfl) (by kernel_rfl) (by kernel_rfl) (by kernel_rfl) (by exact fun _ _ _ h => h) (Or.inl ⟨by rfl, ?_⟩) (by assumption) ?_
          rotate_left
          · (intro w hSw; (try dsimp only at hSw); have sq1 := cell_of_below hSw Q1.out; have sq2 := cell_of_below hSw Q2.out; clear hSw; go_simp; first | done | with_reducible rfl)
          try simp only [Act.put, List.setIfInBounds_toArray, List.set_cons_zero, List.set_cons_succ]
          refine wpAnyH_ready (rs := [17]) (by kernel_rfl) (by simp) ?_
          refine AllReadyH.cons (o := ?_) (by simp only [List.getElem?_toArray, List.getElem?_cons_zero, List.getElem?_cons_succ]; rfl) (fun K hK => ?_) ?_
          · go_simp
            refine hK.out _ _ ?_ (fun hHeld2 => ?_)
            · first | exact hHeld | exact hHeld.setCell (Nat.le_succ _) _
            clear hK K hHeld
            have hHeld := hHeld2
            clear hHeld2
            try simp only [Act.put, List.setIfInBounds_toArray, List.set_cons_zero, List.set_cons_succ]
            refine wpAnyH_take (i := 18) (oi := ?_) (v := ?_) (by simp only [List.getElem?_toArray, List.getElem?_cons_zero, List.getElem?_cons_succ]; rfl) (by kernel_rfl) (by kernel_rfl) (by kernel_rfl) (by exact fun _ _ _ h => h) (Or.inl ⟨by rfl, ?_⟩) (by assumption) ?_
            rotate_left
            · (intro w hSw; (try dsimp only at hSw); have sq1 := cell_of_below hSw Q1.out; have sq2 := cell_of_below hSw Q2.out; clear hSw; go_simp; first | done | with_reducible rfl)
            try simp only [Act.put, List.setIfInBounds_toArray, List.set_cons_zero, List.set_cons_succ]
            refine wpAnyH_ready (rs := [19]) (by kernel_rfl) (by simp) ?_
            refine AllReadyH.cons (o := ?_) (by simp only [List.getElem?_toArray, List.getElem?_cons_zero, List.getElem?_cons_succ]; rfl) (fun K hK => ?_) ?_
            · go_simp
              refine hK.out _ _ ?_ (fun hHeld2 => ?_)
              · first | exact hHeld | exact hHeld.setCell (Nat.le_succ _) _
              clear hK K hHeld
              have hHeld := hHeld2
              clear hHeld2
              try simp only [Act.put, List.setIfInBounds_toArray, List.set_cons_zero, List.set_cons_succ]
              refine wpAnyH_done (by kernel_rfl) ?_ _
              go_wp2_with fail
              go_roundw
              case rel =>
                refine ⟨k + 1, by omega, by go_num, ⟨((HB.out.setCell (Nat.le_succ _) _).setCell (Nat.le_succ _) _).drew⟩, ⟨?_, ?_⟩⟩
                · exact ((HC.out.1.drew.other (by simp) _ _).other (by simp) _ _)
                · rw [b1'.out, b2'.out]; exact HC.out.2.drew.set _ _
              case measure => simp [intOf]; omega
            exact AllReadyH.nil
          exact AllReadyH.nil
        exact AllReadyH.nil
      exact AllReadyH.nil
    · have hke : k = l.length := by omega
      subst hke
      rw [List.take_length] at HC
      have hltN : decide (l.length < l.length) = false := by simp
      obtain ⟨c0, c1, f0, f1⟩ := HC.out.2.cells
      obtain ⟨g0, g1, h0, h1⟩ := HC.out.1.cells
      have hz : w.heap.size + 1 < wr.heap.size := HC.out.2.lt
      go_wp2_with fail
      obtain ⟨p0, p1, -, -⟩ := two_cell (two_set1 (two_set0 HC.out.1 (.int .u64 (addF l : Int))) (.int .i64 (addS l)))
      exact bodyPost_ret (v := .agg #[.int .u64 (addF l : Int), .int .i64 (addS l)]) (by simp [results, Try.results27, go_sem, p0, p1]) rfl ⟨rfl, (HB.out.setCell (by simp) _).setCell (by simp) _⟩
end Go.Proofs.Ytfbfdmgnicgalaa.W
