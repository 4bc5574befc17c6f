/- bits.Mul64, cmp.Compare, cmp.Or: what rates are compared by. -/
import Derived.Test.YtfbfdmgnicgalaaBase
import Derived.Test.YtfbfdmgnicgalaaProg
import Derived.KernelRfl
import Derived.LoopTactic
import Derived.WalkKit
import Derived.Shelf.Bits.Mul64
set_option linter.unusedVariables false
set_option linter.unusedSimpArgs false
namespace Go.Proofs.Ytfbfdmgnicgalaa.W
open Go.RowKit Go.Proofs.Ytfbfdmgnicgalaa.B Go.Proofs

set_option maxHeartbeats 1000000 in
theorem mul64_any (x y : Nat) (hx : x < 18446744073709551616) (hy : y < 18446744073709551616) (w : World) :
    Calls Try.prog 32 #[.int .u64 x, .int .u64 y] w fun e w' => e = .returned (.tuple #[.int .u64 ((x * y / 18446744073709551616 : Nat) : Int), .int .u64 ((x * y % 18446744073709551616 : Nat) : Int)]) ∧ w = w' := by
  obtain ⟨bd, bt, bw, hhi⟩ := Lib.mul64_hi x y hx hy
  have ba := Lib.half_mul_le (a := x / 4294967296) (b := y / 4294967296) (by omega) (by omega)
  have bb := Lib.half_mul_le (a := x / 4294967296) (b := y % 4294967296) (by omega) (by omega)
  have bc := Lib.half_mul_le (a := x % 4294967296) (b := y / 4294967296) (by omega) (by omega)
  have ba' : x / 4294967296 * (y / 4294967296) < 18446744073709551616 := by omega
  have bb' : x / 4294967296 * (y % 4294967296) < 18446744073709551616 := by omega
  have bc' : x % 4294967296 * (y / 4294967296) < 18446744073709551616 := by omega
  have bh1 : x / 4294967296 * (y / 4294967296) + (x / 4294967296 * (y % 4294967296) + x % 4294967296 * (y % 4294967296) / 4294967296) / 4294967296 < 18446744073709551616 := by omega
  have bh : x / 4294967296 * (y / 4294967296) + (x / 4294967296 * (y % 4294967296) + x % 4294967296 * (y % 4294967296) / 4294967296) / 4294967296 + ((x / 4294967296 * (y % 4294967296) + x % 4294967296 * (y % 4294967296) / 4294967296) % 4294967296 + x % 4294967296 * (y / 4294967296)) / 4294967296 < 18446744073709551616 := by omega
  go_enter Try.func32, Try.ntmps32
  go_wp2
  simp only [Mul64.maskN x hx, Mul64.maskN y hy, Mul64.divN, Mul64.mulN, Mul64.addN, Mul64.wrapN _ bd, Mul64.wrapN _ bb', Mul64.wrapN _ bt, Mul64.maskN _ bt, Mul64.wrapN _ bc', Mul64.wrapN _ bw, Mul64.wrapN _ ba', Mul64.wrapN _ bh1, Mul64.wrapN _ bh, Mul64.wrapM (x * y)]
  rw [hhi]
  go_ret2
  exact ⟨rfl, rfl⟩
theorem nan_any (x : Int) (w : World) : Calls Try.prog 40 #[.int .u64 x] w fun e w' => e = .returned (.bool false) ∧ w = w' := by
  go_enter Try.func40, Try.ntmps40
  go_wp2
  go_ret
  exact ⟨rfl, rfl⟩
def sgn (a b : Int) : Int := if a < b then -1 else if b < a then 1 else 0
theorem cmp_any (a b : Int) (w : World) : Calls Try.prog 34 #[.int .u64 a, .int .u64 b] w fun e w' => e = .returned (.int .i64 (sgn a b)) ∧ w = w' := by
  by_cases h1 : a < b
  · have HS : As (sgn a b = -1) := ⟨by unfold sgn; rw [if_pos h1]⟩
    go_enter Try.func34, Try.ntmps34
    go_wp2_with (go_at_call 40; (with_reducible refine (nan_any _ _).mono ?_); rintro e w' ⟨rfl, rfl⟩)
    go_ret
    exact ⟨by rw [HS.out]; rfl, rfl⟩
  · by_cases h2 : b < a
    · have HS : As (sgn a b = 1) := ⟨by unfold sgn; rw [if_neg h1, if_pos h2]⟩
      have h3 : a > b := h2
      go_enter Try.func34, Try.ntmps34
      go_wp2_with (go_at_call 40; (with_reducible refine (nan_any _ _).mono ?_); rintro e w' ⟨rfl, rfl⟩)
      go_ret
      exact ⟨by rw [HS.out]; rfl, rfl⟩
    · have HS : As (sgn a b = 0) := ⟨by unfold sgn; rw [if_neg h1, if_neg h2]⟩
      have h3 : ¬ a > b := h2
      go_enter Try.func34, Try.ntmps34
      go_wp2_with (go_at_call 40; (with_reducible refine (nan_any _ _).mono ?_); rintro e w' ⟨rfl, rfl⟩)
      go_ret
      exact ⟨by rw [HS.out]; rfl, rfl⟩
theorem or_any (g : Nat) (a b : Int) (w : World) (c0 : w.cell? ⟨g, 0, none⟩ = some (.int .i64 a)) (c1 : w.cell? ⟨g, 1, none⟩ = some (.int .i64 b)) :
    Calls Try.prog 33 #[.slice (some ⟨g, 0, none⟩) 2 2] w fun e w' => e = .returned (.int .i64 (if a = 0 then b else a)) ∧ w = w' := by
  go_enter Try.func33, Try.ntmps33
  go_wp2
  go_loop [8] (fun v8 => v8 = .int .i64 0 ∨ (v8 = .int .i64 1 ∧ a = 0) ∨ (v8 = .int .i64 2 ∧ a = 0 ∧ b = 0)) (fun v8 => (2 - intOf v8).toNat)
  case atStart => exact .inl rfl
  case round =>
    rcases hrel with rfl | ⟨rfl, ha⟩ | ⟨rfl, ha, hb⟩
    · by_cases ha : a = 0
      · subst ha
        go_wp2
        go_round
        case rel => first | exact .inr (.inl ⟨rfl, rfl⟩) | exact .inr (.inl ⟨rfl, trivial⟩) | (simp; done)
        case measure => simp [intOf]
      · have hn : (a == 0) = false := beq_eq_false_iff_ne.mpr ha
        go_wp2
        go_ret
        exact ⟨by first | rfl | (rw [if_neg ha]; rfl), rfl⟩
    · subst ha
      by_cases hb : b = 0
      · subst hb
        go_wp2
        go_round
        case rel => first | exact .inr (.inr ⟨rfl, rfl, rfl⟩) | (simp; done)
        case measure => simp [intOf]
      · have hn : (b == 0) = false := beq_eq_false_iff_ne.mpr hb
        go_wp2
        go_ret
        exact ⟨rfl, rfl⟩
    · subst ha
      subst hb
      go_wp2
      go_ret
      exact ⟨rfl, rfl⟩
theorem sgn_parts (p q : Nat) : (if sgn ((p / 18446744073709551616 : Nat) : Int) ((q / 18446744073709551616 : Nat) : Int) = 0 then sgn ((p % 18446744073709551616 : Nat) : Int) ((q % 18446744073709551616 : Nat) : Int) else sgn ((p / 18446744073709551616 : Nat) : Int) ((q / 18446744073709551616 : Nat) : Int)) = sgn (p : Int) (q : Int) := by
  unfold sgn
  split <;> split <;> (try split) <;> (try split) <;> (try split) <;> (try split) <;> omega
end Go.Proofs.Ytfbfdmgnicgalaa.W
