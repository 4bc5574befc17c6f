/- One amount less another, and that other one: the walk of MonyLess. -/
import Derived.Test.YtfbfdmgnicgalaaM2
set_option linter.unusedVariables false
set_option linter.unusedSimpArgs false
namespace Go.Proofs.Ytfbfdmgnicgalaa.W
open Go.RowKit Go.Proofs.Ytfbfdmgnicgalaa.B Go.Proofs.Ytfbfdmgnicgalaa.M Go.Proofs

theorem monyLess_case (a b : Int) (w : World) (ha0 : 0 ≤ a) (ha1 : a ≤ 18446744073709551615) (hb0 : 0 ≤ b) (hb1 : b ≤ 18446744073709551615) :
    Calls Try.prog 4 #[.int .u64 a, .int .u64 b] w fun e w' => e = .returned (.bool true) ∧ Below w.heap.size w w' := by
  have key : ∀ c : Bool, decide (a ≤ 2100000000000000) = c → Calls Try.prog 4 #[.int .u64 a, .int .u64 b] w fun e w' => e = .returned (.bool true) ∧ Below w.heap.size w w' := by
    intro c hc
    have hok : ∀ wx : World, Calls Try.prog 14 #[.int .u64 a] wx fun e w' => e = .returned (.bool c) ∧ wx = w' := by
      intro wx
      cases c with
      | true => exact ok_yes a wx (by simpa using hc)
      | false => exact ok_no a wx (by simp at hc; omega)
    have HOK := As.mk hok
    clear hok
    rcases Int.lt_trichotomy a b with h | h | h
    · have e1 : (b - a + a != b) = false := by simp
      have h' := Int.le_of_lt h
      go_enter Try.func4, Try.ntmps4
      go_wp2_with (first | (go_at_call 13; (with_reducible refine (less_no _ _ _ (by omega)).mono ?_); rintro e w' ⟨rfl, rfl⟩) | (go_at_call 13; (with_reducible refine (less_yes _ _ _ (by omega) (by omega) (by omega)).mono ?_); rintro e w' ⟨rfl, rfl⟩) | (go_at_call 14; (with_reducible refine (HOK.out _).mono ?_); rintro e w' ⟨rfl, rfl⟩) | (go_at_call 15; (with_reducible refine (awake5_any _).mono ?_); rintro e w' ⟨rfl, hb⟩; have HB := As.mk hb; clear hb))
      go_ret
      exact ⟨rfl, HB.out⟩
    · subst h
      go_enter Try.func4, Try.ntmps4
      go_wp2_with (first | (go_at_call 13; (with_reducible refine (less_yes _ _ _ (by omega) (by omega) (by omega)).mono ?_); rintro e w' ⟨rfl, rfl⟩) | (go_at_call 14; (with_reducible refine (HOK.out _).mono ?_); rintro e w' ⟨rfl, rfl⟩) | (go_at_call 15; (with_reducible refine (awake5_any _).mono ?_); rintro e w' ⟨rfl, hb⟩; have HB := As.mk hb; clear hb))
      go_ret
      exact ⟨rfl, HB.out⟩
    · have e1 : (a - b + b != a) = false := by simp
      have h' := Int.le_of_lt h
      go_enter Try.func4, Try.ntmps4
      go_wp2_with (first | (go_at_call 13; (with_reducible refine (less_no _ _ _ (by omega)).mono ?_); rintro e w' ⟨rfl, rfl⟩) | (go_at_call 13; (with_reducible refine (less_yes _ _ _ (by omega) (by omega) (by omega)).mono ?_); rintro e w' ⟨rfl, rfl⟩) | (go_at_call 14; (with_reducible refine (HOK.out _).mono ?_); rintro e w' ⟨rfl, rfl⟩) | (go_at_call 15; (with_reducible refine (awake5_any _).mono ?_); rintro e w' ⟨rfl, hb⟩; have HB := As.mk hb; clear hb))
      go_ret
      exact ⟨rfl, HB.out⟩
  exact key _ rfl
theorem monyLess_row (a : Int) (wa : (Lit.int .u64 a).wf = true) (b : Int) (wb : (Lit.int .u64 b).wf = true) (w : World) :
    Calls Try.prog 4 #[.int .u64 a, .int .u64 b] w fun e w' => e = .returned (.bool true) ∧ Below w.heap.size w w' := by
  have ha := bounds_u64 wa
  have hb := bounds_u64 wb
  exact monyLess_case a b w ha.1 ha.2 hb.1 hb.2
end Go.Proofs.Ytfbfdmgnicgalaa.W
