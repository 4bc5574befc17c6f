/- What awake of layer 7 answers: true. -/
import Derived.Test.YtfbfdmgnicgalaaR7
set_option linter.unusedVariables false
set_option linter.unusedSimpArgs false
namespace Go.Proofs.Ytfbfdmgnicgalaa.W
open Go.RowKit Go.Proofs.Ytfbfdmgnicgalaa.B Go.Proofs

theorem bcell {W w1 : World} (hb : Below W.heap.size W w1) : (∀ b o, b < W.heap.size → w1.cell? ⟨b, o, none⟩ = W.cell? ⟨b, o, none⟩) ∧ (∀ b o, b < W.heap.size → w1.frozen? ⟨b, o, none⟩ = W.frozen? ⟨b, o, none⟩) ∧ W.heap.size ≤ w1.heap.size :=
  ⟨fun b o h => hb.cell (p := ⟨b, o, none⟩) h, fun b o h => hb.frozen (p := ⟨b, o, none⟩) h, hb.size⟩
/-- A size as it counts. -/
def szI (s : Int) : Int := if s < 1 then 1 else s
theorem szI_eq (s : Int) : szI s = (szN s : Int) := szN_eq s
/-- Which of two rates is less. -/
def cmpR (f1 s1 f2 s2 : Int) : Int := sgn (f1 * szI s2) (f2 * szI s1)
theorem compare_to (f1 s1 f2 s2 r : Int) (hq : cmpR f1 s1 f2 s2 = r) (a0 : 0 ≤ f1) (a1 : f1 < 18446744073709551616) (b0 : 0 ≤ f2) (b1 : f2 < 18446744073709551616) (g1 : s1 ≤ 9223372036854775807) (g2 : s2 ≤ 9223372036854775807) (w : World) :
    Calls Try.prog 19 #[.agg #[.int .u64 f1, .int .i64 s1], .agg #[.int .u64 f2, .int .i64 s2]] w fun e w' => e = .returned (.int .i64 r) ∧ Below w.heap.size w w' := by
  obtain ⟨m, rfl⟩ := Int.eq_ofNat_of_zero_le a0
  obtain ⟨n, rfl⟩ := Int.eq_ofNat_of_zero_le b0
  have h := compare_any m n s1 s2 w (by omega) (by omega) g1 g2
  rw [← hq]
  unfold cmpR
  rw [szI_eq, szI_eq]
  exact h
theorem need_to (p n r : Int) (hq : (needR p.toNat n : Int) = r) (p0 : 0 ≤ p) (p1 : p < 18446744073709551616) (w : World) :
    Calls Try.prog 20 #[.int .u64 p, .int .i64 n] w fun e w' => e = .returned (.int .u64 r) ∧ Below w.heap.size w w' := by
  obtain ⟨m, rfl⟩ := Int.eq_ofNat_of_zero_le p0
  rw [← hq]
  exact need_any m n (by omega) w
theorem per_to (f s r : Int) (hq : (perR f.toNat s : Int) = r) (p0 : 0 ≤ f) (p1 : f < 18446744073709551616) (hs : s ≤ 9223372036854775807) (w : World) :
    Calls Try.prog 22 #[.agg #[.int .u64 f, .int .i64 s]] w fun e w' => e = .returned (.int .u64 r) ∧ Below w.heap.size w w' := by
  obtain ⟨m, rfl⟩ := Int.eq_ofNat_of_zero_le p0
  rw [← hq]
  exact per_any m s (by omega) hs w
theorem add_nil (w : World) : Calls Try.prog 26 #[.slice none 0 0] w fun e w' => e = .returned (.agg #[.int .u64 0, .int .i64 0]) ∧ Below w.heap.size w w' := by
  have h := add_any (.slice none 0 0) [] w (OwS.nil w 0 40 2).rd (by simp)
  have e1 : addF [] = 0 := rfl
  have e2 : addS [] = 0 := by unfold addS; rw [IntKind.wrap_i64]; rfl
  rw [e1, e2] at h
  exact h
theorem add_two (f1 s1 f2 s2 F S : Int) (hF : (f1 + f2) % 18446744073709551616 = F) (hS : IntKind.i64.wrap (s1 + s2) = S) (a0 : 0 ≤ f1) (a1 : f1 < 18446744073709551616) (b0 : 0 ≤ f2) (b1 : f2 < 18446744073709551616) (w : World) {g : Nat} (hg : g = w.heap.size) :
    Calls Try.prog 26 #[.slice (some ⟨g, 0, none⟩) 2 2] (w.alloc (.cells #[.int .u64 f1, .int .i64 s1, .int .u64 f2, .int .i64 s2] 40)) fun e w' => e = .returned (.agg #[.int .u64 F, .int .i64 S]) ∧ Below w.heap.size w w' := by
  subst hg
  obtain ⟨m, rfl⟩ := Int.eq_ofNat_of_zero_le a0
  obtain ⟨n, rfl⟩ := Int.eq_ofNat_of_zero_le b0
  have hr := (OwS.lit w w.heap.size 40 2 2 #[.int .u64 (m : Int), .int .i64 s1, .int .u64 (n : Int), .int .i64 s2] (Nat.le_refl _) (by decide) rfl).rd
  have h := add_any _ [(m, s1), (n, s2)] _ hr (by intro r hr; simp at hr; rcases hr with rfl | rfl <;> simp <;> omega)
  refine h.mono ?_
  rintro e w' ⟨he, hb⟩
  refine ⟨?_, ((Below.refl _ _).alloc (Nat.le_refl _) _).trans (hb.mono (by simp))⟩
  have e1 : ((addF [(m, s1), (n, s2)] : Nat) : Int) = F := by rw [← hF]; simp [addF]
  have e2 : addS [(m, s1), (n, s2)] = S := by rw [← hS]; simp [addS]
  rw [he, e1, e2]
set_option maxRecDepth 100000 in
set_option maxHeartbeats 2000000 in
theorem awake7_any (w : World) : Calls Try.prog 21 #[] w fun e w' => e = .returned (.bool true) ∧ Below w.heap.size w w' := by
  have HB : As (Below w.heap.size w w) := ⟨Below.refl _ _⟩
  go_enter Try.func21, Try.ntmps21
  go_upto_region 2 with (fail)
  have HB2 := As.mk ((HB.out.alloc (Nat.le_refl _) (.cells #[.int .u64 10, .int .i64 4] 40)).alloc (by simp) (.cells #[.int .u64 5, .int .i64 2] 40))
  clear HB
  have HB := HB2
  clear HB2
  have k1 : cmpR 10 4 5 2 = 0 := by decide
  have k2 : cmpR 10 4 11 4 = -1 := by decide
  have k3 : cmpR 9223372036854775808 1099511627776 9223372036854775807 1099511627776 = 1 := by decide
  have n1 : (needR (1000 : Int).toNat 5 : Int) = 5 := by decide
  have n2 : (needR (1001 : Int).toNat 5 : Int) = 6 := by decide
  have n3 : (needR (18446744073709551615 : Int).toNat 1073741824 : Int) = 18446744073709551615 := by decide +kernel
  have p1 : (perR (5 : Int).toNat 3 : Int) = 1667 := by decide
  have a1 : ((10 : Int) + 5) % 18446744073709551616 = 15 := by decide
  have a2 : IntKind.i64.wrap (4 + 2) = 6 := by decide
  have k12 := As.mk k1
  clear k1
  have k1 := k12
  clear k12
  have k22 := As.mk k2
  clear k2
  have k2 := k22
  clear k22
  have k32 := As.mk k3
  clear k3
  have k3 := k32
  clear k32
  have n12 := As.mk n1
  clear n1
  have n1 := n12
  clear n12
  have n22 := As.mk n2
  clear n2
  have n2 := n22
  clear n22
  have n32 := As.mk n3
  clear n3
  have n3 := n32
  clear n32
  have p12 := As.mk p1
  clear p1
  have p1 := p12
  clear p12
  have a12 := As.mk a1
  clear a1
  have a1 := a12
  clear a12
  have a22 := As.mk a2
  clear a2
  have a2 := a22
  clear a22
  obtain ⟨c0, c1, -, -⟩ := two_cell (heap_alloc2_old w (.cells #[.int .u64 10, .int .i64 4] 40) (.cells #[.int .u64 5, .int .i64 2] 40))
  obtain ⟨c2, c3, -, -⟩ := two_cell (heap_alloc2_new w (.cells #[.int .u64 10, .int .i64 4] 40) (.cells #[.int .u64 5, .int .i64 2] 40))
  go_wp2_with (first | (go_at_call 19; (with_reducible refine (compare_to 10 4 5 2 0 k1.out (by omega) (by omega) (by omega) (by omega) (by omega) (by omega) _).mono ?_); rintro e w' ⟨rfl, hb⟩; have HB2 := As.mk (HB.out.trans (hb.mono HB.out.size)); have c02 := cell_of_below hb c0; have c12 := cell_of_below hb c1; have c22 := cell_of_below hb c2; have c32 := cell_of_below hb c3; clear hb; clear HB; have HB := HB2; clear HB2; clear c0; have c0 := c02; clear c02; clear c1; have c1 := c12; clear c12; clear c2; have c2 := c22; clear c22; clear c3; have c3 := c32; clear c32) | (go_at_call 19; (with_reducible refine (compare_to 10 4 11 4 (-1) k2.out (by omega) (by omega) (by omega) (by omega) (by omega) (by omega) _).mono ?_); rintro e w' ⟨rfl, hb⟩; have HB2 := As.mk (HB.out.trans (hb.mono HB.out.size)); have c02 := cell_of_below hb c0; have c12 := cell_of_below hb c1; have c22 := cell_of_below hb c2; have c32 := cell_of_below hb c3; clear hb; clear HB; have HB := HB2; clear HB2; clear c0; have c0 := c02; clear c02; clear c1; have c1 := c12; clear c12; clear c2; have c2 := c22; clear c22; clear c3; have c3 := c32; clear c32) | (go_at_call 19; (with_reducible refine (compare_to 9223372036854775808 1099511627776 9223372036854775807 1099511627776 1 k3.out (by omega) (by omega) (by omega) (by omega) (by omega) (by omega) _).mono ?_); rintro e w' ⟨rfl, hb⟩; have HB2 := As.mk (HB.out.trans (hb.mono HB.out.size)); have c02 := cell_of_below hb c0; have c12 := cell_of_below hb c1; have c22 := cell_of_below hb c2; have c32 := cell_of_below hb c3; clear hb; clear HB; have HB := HB2; clear HB2; clear c0; have c0 := c02; clear c02; clear c1; have c1 := c12; clear c12; clear c2; have c2 := c22; clear c22; clear c3; have c3 := c32; clear c32) | (go_at_call 20; (with_reducible refine (need_to 1000 5 5 n1.out (by omega) (by omega) _).mono ?_); rintro e w' ⟨rfl, hb⟩; have HB2 := As.mk (HB.out.trans (hb.mono HB.out.size)); have c02 := cell_of_below hb c0; have c12 := cell_of_below hb c1; have c22 := cell_of_below hb c2; have c32 := cell_of_below hb c3; clear hb; clear HB; have HB := HB2; clear HB2; clear c0; have c0 := c02; clear c02; clear c1; have c1 := c12; clear c12; clear c2; have c2 := c22; clear c22; clear c3; have c3 := c32; clear c32) | (go_at_call 20; (with_reducible refine (need_to 1001 5 6 n2.out (by omega) (by omega) _).mono ?_); rintro e w' ⟨rfl, hb⟩; have HB2 := As.mk (HB.out.trans (hb.mono HB.out.size)); have c02 := cell_of_below hb c0; have c12 := cell_of_below hb c1; have c22 := cell_of_below hb c2; have c32 := cell_of_below hb c3; clear hb; clear HB; have HB := HB2; clear HB2; clear c0; have c0 := c02; clear c02; clear c1; have c1 := c12; clear c12; clear c2; have c2 := c22; clear c22; clear c3; have c3 := c32; clear c32) | (go_at_call 20; (with_reducible refine (need_to 18446744073709551615 1073741824 18446744073709551615 n3.out (by omega) (by omega) _).mono ?_); rintro e w' ⟨rfl, hb⟩; have HB2 := As.mk (HB.out.trans (hb.mono HB.out.size)); have c02 := cell_of_below hb c0; have c12 := cell_of_below hb c1; have c22 := cell_of_below hb c2; have c32 := cell_of_below hb c3; clear hb; clear HB; have HB := HB2; clear HB2; clear c0; have c0 := c02; clear c02; clear c1; have c1 := c12; clear c12; clear c2; have c2 := c22; clear c22; clear c3; have c3 := c32; clear c32) | (go_at_call 22; (with_reducible refine (per_to 5 3 1667 p1.out (by omega) (by omega) (by omega) _).mono ?_); rintro e w' ⟨rfl, hb⟩; have HB2 := As.mk (HB.out.trans (hb.mono HB.out.size)); have c02 := cell_of_below hb c0; have c12 := cell_of_below hb c1; have c22 := cell_of_below hb c2; have c32 := cell_of_below hb c3; clear hb; clear HB; have HB := HB2; clear HB2; clear c0; have c0 := c02; clear c02; clear c1; have c1 := c12; clear c12; clear c2; have c2 := c22; clear c22; clear c3; have c3 := c32; clear c32) | (go_at_call 26; (with_reducible refine (add_two 10 4 5 2 15 6 a1.out a2.out (by omega) (by omega) (by omega) (by omega) _ (by simp)).mono ?_); rintro e w' ⟨rfl, hb⟩; have HB2 := As.mk (HB.out.trans (hb.mono HB.out.size)); clear hb HB; have HB := HB2; clear HB2) | (go_at_call 26; (with_reducible refine (add_nil _).mono ?_); rintro e w' ⟨rfl, hb⟩; have HB2 := As.mk (HB.out.trans (hb.mono HB.out.size)); clear hb HB; have HB := HB2; clear HB2))
  go_ret
  exact ⟨rfl, HB.out⟩
end Go.Proofs.Ytfbfdmgnicgalaa.W
