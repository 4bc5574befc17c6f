/- rate.Compare. -/
import Derived.Test.YtfbfdmgnicgalaaR1
set_option linter.unusedVariables false
set_option linter.unusedSimpArgs false
namespace Go.Proofs.Ytfbfdmgnicgalaa.W
open Go.RowKit Go.Proofs.Ytfbfdmgnicgalaa.B Go.Proofs

/-- A size as it counts. -/
def szN (s : Int) : Nat := (if s < 1 then 1 else s).toNat
theorem szN_eq (s : Int) : (if s < 1 then 1 else s) = (szN s : Int) := by unfold szN; split <;> omega
theorem szN_pos (s : Int) : 1 ≤ szN s := by unfold szN; split <;> omega
theorem szN_lt (s : Int) (h : s ≤ 9223372036854775807) : szN s < 9223372036854775808 := by unfold szN; split <;> omega
theorem wrap64 (n : Nat) (h : n < 18446744073709551616) : IntKind.u64.wrap (n : Int) = n := IntWalk.u64_in _ (by omega)
def rateV (f : Nat) (s : Int) : Value := .agg #[.int .u64 (f : Int), .int .i64 s]
theorem or_new (a b : Int) (t : TypeId) (w : World) {r : Int} (hq : (if a = 0 then b else a) = r) {g : Nat} (hg : g = w.heap.size) :
    Calls Try.prog 33 #[.slice (some ⟨g, 0, none⟩) 2 2] (w.alloc (.cells #[.int .i64 a, .int .i64 b] t)) fun e w' => e = .returned (.int .i64 r) ∧ w.alloc (.cells #[.int .i64 a, .int .i64 b] t) = w' := by
  subst hg
  rw [← hq]
  have h := heap_alloc_new w (.cells #[.int .i64 a, .int .i64 b] t)
  exact or_any _ a b _ (by simp only [World.cell?, h]; rfl) (by simp only [World.cell?, h]; rfl)
theorem sgn_parts' (a b c d : Nat) : (if sgn ((a : Int) * b / 18446744073709551616) ((c : Int) * d / 18446744073709551616) = 0 then sgn ((a : Int) * b % 18446744073709551616) ((c : Int) * d % 18446744073709551616) else sgn ((a : Int) * b / 18446744073709551616) ((c : Int) * d / 18446744073709551616)) = sgn ((a : Int) * b) ((c : Int) * d) := by
  have h := sgn_parts (a * b) (c * d)
  simp only [Int.natCast_ediv, Int.natCast_emod, Int.natCast_mul] at h
  exact h
set_option maxHeartbeats 1000000 in
theorem compare_any (f1 f2 : Nat) (s1 s2 : Int) (w : World) (h1 : f1 < 18446744073709551616) (h2 : f2 < 18446744073709551616) (g1 : s1 ≤ 9223372036854775807) (g2 : s2 ≤ 9223372036854775807) :
    Calls Try.prog 19 #[.agg #[.int .u64 (f1 : Int), .int .i64 s1], .agg #[.int .u64 (f2 : Int), .int .i64 s2]] w fun e w' => e = .returned (.int .i64 (sgn ((f1 : Int) * szN s2) ((f2 : Int) * szN s1))) ∧ Below w.heap.size w w' := by
  have m1 := szN_eq s1
  have m2 := szN_eq s2
  have b1 := szN_lt s1 g1
  have b2 := szN_lt s2 g2
  have B1 : As (szN s1 < 18446744073709551616) := ⟨by omega⟩
  have B2 : As (szN s2 < 18446744073709551616) := ⟨by omega⟩
  have W1 := wrap64 (szN s1) B1.out
  have W2 := wrap64 (szN s2) B2.out
  have HP := As.mk (sgn_parts' f1 (szN s2) f2 (szN s1))
  have H1 := As.mk h1
  have H2 := As.mk h2
  clear h1 h2 b1 b2 g1 g2
  generalize hz1 : szN s1 = z1 at *
  generalize hz2 : szN s2 = z2 at *
  clear hz1 hz2
  go_enter Try.func19, Try.ntmps19
  go_wp2_with (first | (go_at_call 32; (with_reducible refine (mul64_any f1 z2 H1.out B2.out _).mono ?_); rintro e w' ⟨rfl, rfl⟩) | (go_at_call 32; (with_reducible refine (mul64_any f2 z1 H2.out B1.out _).mono ?_); rintro e w' ⟨rfl, rfl⟩) | (go_at_call 34; (with_reducible refine (cmp_any _ _ _).mono ?_); rintro e w' ⟨rfl, rfl⟩) | (go_at_call 33; (with_reducible refine (or_new _ _ _ _ HP.out (by simp)).mono ?_); rintro e w' ⟨rfl, rfl⟩))
  go_ret
  refine ⟨rfl, ?_⟩
  exact (by repeat' first | exact Below.refl _ _ | refine Below.alloc ?_ (by first | (simp; done) | (simp; omega)) _)
end Go.Proofs.Ytfbfdmgnicgalaa.W
