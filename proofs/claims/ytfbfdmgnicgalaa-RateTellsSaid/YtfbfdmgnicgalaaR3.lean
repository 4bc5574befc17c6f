/- bits.Div64 (where the upper half is nought), rate.up, Need, Per. -/
import Derived.Test.YtfbfdmgnicgalaaR2
import Derived.Deep.RegionHeld3
import Derived.Deep.DeepCutAuto
import Derived.Deep.CutBlock
set_option linter.unusedVariables false
set_option linter.unusedSimpArgs false
namespace Go.Proofs.Ytfbfdmgnicgalaa.W
open Go.RowKit Go.Proofs.Ytfbfdmgnicgalaa.B Go.Proofs

set_option maxHeartbeats 1000000 in
theorem div64_low (lo y : Nat) (h : lo < 18446744073709551616) (hy : 0 < y) (hy2 : y < 18446744073709551616) (w : World) :
    Calls Try.prog 41 #[.int .u64 0, .int .u64 (lo : Int), .int .u64 (y : Int)] w fun e w' => e = .returned (.tuple #[.int .u64 ((lo : Int) / y), .int .u64 ((lo : Int) % y)]) ∧ Below w.heap.size w w' := by
  have h0 : ((y : Int) == 0) = false := beq_eq_false_iff_ne.mpr (by omega)
  have h1 : ¬ (y : Int) ≤ 0 := by omega
  have h2 : ¬ (y : Int) = 0 := by omega
  have hq1 : IntKind.u64.wrap ((lo : Int) / y) = (lo : Int) / y := IntWalk.u64_in _ (by have := Int.ediv_nonneg (a := (lo : Int)) (b := y) (by omega) (by omega); have := Int.ediv_le_self (a := (lo : Int)) (y : Int) (by omega); omega)
  have ht : (lo : Int).tdiv y = (lo : Int) / y := Int.tdiv_eq_ediv_of_nonneg (by omega)
  have ht2 : (lo : Int).tmod y = (lo : Int) % y := Int.tmod_eq_emod_of_nonneg (by omega)
  clear h hy hy2
  go_enter Try.func41, Try.ntmps41
  go_upto_region 6 with (fail)
  refine wp_region_any (by kernel_rfl) ?_
  try (change wpAny _ _ _ _ _ _ _ (World.drew _))
  refine wpAny_take (i := 0) (oi := ?_) (v := ?_) (by simp only [List.getElem?_toArray, List.getElem?_cons_zero, List.getElem?_cons_succ]; rfl) (by kernel_rfl) (by kernel_rfl) (by kernel_rfl) (by exact fun _ _ _ h => h) (Or.inl ⟨by rfl, ?_⟩) ?_
  rotate_left
  · (intro w; go_simp; first | done | with_reducible rfl)
  try simp only [Act.put, List.setIfInBounds_toArray, List.set_cons_zero, List.set_cons_succ]
  refine wpAny_take (i := 1) (oi := ?_) (v := ?_) (by simp only [List.getElem?_toArray, List.getElem?_cons_zero, List.getElem?_cons_succ]; rfl) (by kernel_rfl) (by kernel_rfl) (by kernel_rfl) (by exact fun _ _ _ h => h) (Or.inl ⟨by rfl, ?_⟩) ?_
  rotate_left
  · (intro w; go_simp; first | done | with_reducible rfl)
  try simp only [Act.put, List.setIfInBounds_toArray, List.set_cons_zero, List.set_cons_succ]
  refine wpAny_take (i := 2) (oi := ?_) (v := ?_) (by simp only [List.getElem?_toArray, List.getElem?_cons_zero, List.getElem?_cons_succ]; rfl) (by kernel_rfl) (by kernel_rfl) (by kernel_rfl) (by exact fun _ _ _ h => h) (Or.inl ⟨by rfl, ?_⟩) ?_
  rotate_left
  · (intro w; go_simp; first | done | with_reducible rfl)
  try simp only [Act.put, List.setIfInBounds_toArray, List.set_cons_zero, List.set_cons_succ]
  refine wpAny_take (i := 3) (oi := ?_) (v := ?_) (by simp only [List.getElem?_toArray, List.getElem?_cons_zero, List.getElem?_cons_succ]; rfl) (by kernel_rfl) (by kernel_rfl) (by kernel_rfl) (by exact fun _ _ _ h => h) (Or.inl ⟨by rfl, ?_⟩) ?_
  rotate_left
  · (intro w; go_simp; first | done | with_reducible rfl)
  try simp only [Act.put, List.setIfInBounds_toArray, List.set_cons_zero, List.set_cons_succ]
  refine wpAny_take (i := 4) (oi := ?_) (v := ?_) (by simp only [List.getElem?_toArray, List.getElem?_cons_zero, List.getElem?_cons_succ]; rfl) (by kernel_rfl) (by kernel_rfl) (by kernel_rfl) (by exact fun _ _ _ h => h) (Or.inl ⟨by rfl, ?_⟩) ?_
  rotate_left
  · (intro w; go_simp; first | done | with_reducible rfl)
  try simp only [Act.put, List.setIfInBounds_toArray, List.set_cons_zero, List.set_cons_succ]
  refine wpAny_take (i := 5) (oi := ?_) (v := ?_) (by simp only [List.getElem?_toArray, List.getElem?_cons_zero, List.getElem?_cons_succ]; rfl) (by kernel_rfl) (by kernel_rfl) (by kernel_rfl) (by exact fun _ _ _ h => h) (Or.inl ⟨by rfl, ?_⟩) ?_
  rotate_left
  · (intro w; go_simp; first | done | with_reducible rfl)
  try simp only [Act.put, List.setIfInBounds_toArray, List.set_cons_zero, List.set_cons_succ]
  refine wpAny_take (i := 6) (oi := ?_) (v := ?_) (by simp only [List.getElem?_toArray, List.getElem?_cons_zero, List.getElem?_cons_succ]; rfl) (by kernel_rfl) (by kernel_rfl) (by kernel_rfl) (by exact fun _ _ _ h => h) (Or.inl ⟨by rfl, ?_⟩) ?_
  rotate_left
  · (intro w; go_simp; first | done | with_reducible rfl)
  try simp only [Act.put, List.setIfInBounds_toArray, List.set_cons_zero, List.set_cons_succ]
  refine wpAny_take (i := 7) (oi := ?_) (v := ?_) (by simp only [List.getElem?_toArray, List.getElem?_cons_zero, List.getElem?_cons_succ]; rfl) (by kernel_rfl) (by kernel_rfl) (by kernel_rfl) (by exact fun _ _ _ h => h) (Or.inl ⟨by rfl, ?_⟩) ?_
  rotate_left
  · (intro w; go_simp; first | done | with_reducible rfl)
  try simp only [Act.put, List.setIfInBounds_toArray, List.set_cons_zero, List.set_cons_succ]
  refine wpAny_done (by kernel_rfl) ?_ _
  go_wp2
  go_ret2
  exact ⟨rfl, (Below.refl _ _).drew⟩
set_option maxRecDepth 100000 in
set_option maxHeartbeats 1000000 in
theorem up_low (a b y : Nat) (ha : a < 18446744073709551616) (hb : b < 18446744073709551616) (hab : a * b < 18446744073709551616) (hy : 0 < y) (hy2 : y < 18446744073709551616) (w : World) :
    Calls Try.prog 35 #[.int .u64 (a : Int), .int .u64 (b : Int), .int .u64 (y : Int)] w fun e w' => e = .returned (.int .u64 (((a * b + y - 1) / y : Nat) : Int)) ∧ Below w.heap.size w w' := by
  have HM := As.mk (mul64_any a b ha hb w)
  have HH : As ((((a * b / 18446744073709551616 : Nat) : Int)) = 0 ∧ ((a * b % 18446744073709551616 : Nat) : Int) = ((a * b : Nat) : Int)) := ⟨by rw [Nat.div_eq_of_lt hab, Nat.mod_eq_of_lt hab]; exact ⟨rfl, rfl⟩⟩
  rw [HH.out.1, HH.out.2] at HM
  obtain ⟨p, hp⟩ : ∃ p, p = a * b := ⟨_, rfl⟩
  rw [← hp] at HM hab ⊢
  have HP := As.mk hab
  have HY := As.mk hy
  have HY2 := As.mk hy2
  have h1 : ¬ (0 : Int) ≥ y := by omega
  have h1' : ¬ (y : Int) ≤ 0 := by omega
  obtain ⟨q, hq⟩ : ∃ q : Nat, q = p / y := ⟨_, rfl⟩
  obtain ⟨r, hr⟩ : ∃ r : Nat, r = p % y := ⟨_, rfl⟩
  have HD := As.mk (div64_low p y hab hy hy2 w)
  rw [show (p : Int) / y = q by rw [hq]; rfl, show (p : Int) % y = r by rw [hr]; rfl] at HD
  have hqr : q * y + r = p := by rw [hq, hr, Nat.mul_comm]; exact Nat.div_add_mod p y
  have hry : r < y := by rw [hr]; exact Nat.mod_lt _ hy
  have HE : As ((p + y - 1) / y = if 0 < r then q + 1 else q) := ⟨by
    have e : p + y - 1 = y * (if 0 < r then q + 1 else q) + (if 0 < r then r - 1 else y - 1) := by
      rw [← hqr, Nat.mul_comm]
      split
      · rw [Nat.mul_add]; omega
      · omega
    rw [e, Nat.mul_add_div hy, Nat.div_eq_of_lt (by split <;> omega), Nat.add_zero]⟩
  have hql : q ≤ p := by rw [hq]; exact Nat.div_le_self _ _
  rw [HE.out]
  clear hp hq hr
  by_cases c : 0 < r
  · have c1 : (0 : Int) < r := by omega
    have c2 : (r : Int) > 0 := c1
    have hqlt : q + 1 < 18446744073709551616 := by
      rcases Nat.lt_or_ge y 2 with h | h
      · omega
      · have := Nat.mul_le_mul_left q h
        omega
    obtain ⟨Q, hQ⟩ : ∃ Q : Int, Q = (q : Int) := ⟨_, rfl⟩
    rw [← hQ] at HD
    have c3 : Q < 18446744073709551615 := by omega
    have hw : IntKind.u64.wrap (Q + 1) = Q + 1 := IntWalk.u64_in _ (by omega)
    have HQ := As.mk hQ
    clear hQ
    clear hqr hry hql hab hy hy2 ha hb hqlt
    go_enter Try.func35, Try.ntmps35
    go_wp2_with (first | (go_at_call 32; (with_reducible refine HM.out.mono ?_); rintro e w' ⟨rfl, rfl⟩) | (go_at_call 41; (with_reducible refine HD.out.mono ?_); rintro e w' ⟨rfl, hb⟩; have HB := As.mk hb; clear hb))
    go_ret
    exact ⟨by rw [← HQ.out]; rfl, HB.out⟩
  · have c1 : r = 0 := by omega
    subst c1
    clear hqr hry hql hab hy hy2 ha hb c
    go_enter Try.func35, Try.ntmps35
    go_wp2_with (first | (go_at_call 32; (with_reducible refine HM.out.mono ?_); rintro e w' ⟨rfl, rfl⟩) | (go_at_call 41; (with_reducible refine HD.out.mono ?_); rintro e w' ⟨rfl, hb⟩; have HB := As.mk hb; clear hb))
    go_ret
    exact ⟨rfl, HB.out⟩
end Go.Proofs.Ytfbfdmgnicgalaa.W
