/- Amounts: what Ok, Sum and Less answer. -/
import Derived.Test.YtfbfdmgnicgalaaBase
import Derived.Test.YtfbfdmgnicgalaaProg
import Derived.KernelRfl
import Derived.LoopTactic
set_option linter.unusedVariables false
set_option linter.unusedSimpArgs false
namespace Go.Proofs.Ytfbfdmgnicgalaa.M
open Go.RowKit Go.Proofs.Ytfbfdmgnicgalaa.B Go.Proofs

def CAP : Nat := 2100000000000000
theorem ok_yes (x : Int) (w : World) (h : x ≤ 2100000000000000) : Calls Try.prog 14 #[.int .u64 x] w fun e w' => e = .returned (.bool true) ∧ w = w' := by
  go_enter Try.func14, Try.ntmps14
  go_wp2
  go_ret
  exact ⟨by simp [h], rfl⟩
theorem ok_no (x : Int) (w : World) (h : 2100000000000000 < x) : Calls Try.prog 14 #[.int .u64 x] w fun e w' => e = .returned (.bool false) ∧ w = w' := by
  go_enter Try.func14, Try.ntmps14
  go_wp2
  go_ret
  exact ⟨by simp; omega, rfl⟩
/-- What a list comes to. -/
def tot (l : List Nat) : Nat × Bool := if l.sum ≤ 2100000000000000 then (l.sum, true) else (0, false)
theorem take_sum (l : List Nat) (i : Nat) (h : i < l.length) : (l.take (i + 1)).sum = (l.take i).sum + l.getD i 0 := by
  rw [List.take_succ_eq_append_getElem h, List.sum_append, List.getD_eq_getElem?_getD, List.getElem?_eq_getElem h]
  simp
theorem take_sum_le (l : List Nat) (i : Nat) : (l.take i).sum ≤ l.sum := by
  conv => rhs; rw [← List.take_append_drop i l, List.sum_append]
  omega
set_option maxHeartbeats 1000000 in
set_option maxRecDepth 100000 in
theorem sum_any (v : Value) (l : List Nat) (w : World) (hr : RdU w v l) (hl : l.length ≤ 17592186044416) (hb : ∀ n ∈ l, n < 18446744073709551616) :
    Calls Try.prog 12 #[v] w fun e w' => e = .returned (.tuple #[.int .u64 ((tot l).1 : Int), .bool (tot l).2]) ∧ w = w' := by
  obtain ⟨A, c, rfl, h1, h2, h3⟩ := RdU.form hr
  have HR := As.mk hr
  have hl' : (l.length : Int) ≤ 17592186044416 := by omega
  have HBD := As.mk hb
  clear hr hl hb h2 h3 h1
  go_enter Try.func12, Try.ntmps12
  go_wp2
  go_loop [4, 9] (fun v4 v9 => ∃ i : Nat, (i : Int) ≤ l.length ∧ v9 = .int .i64 (i : Int) ∧ v4 = .int .u64 ((l.take i).sum : Int) ∧ ((l.take i).sum : Int) ≤ 2100000000000000) (fun _ v9 => (l.length - intOf v9).toNat)
  case atStart => exact ⟨0, by omega, rfl, rfl, by simp⟩
  case round =>
    obtain ⟨i, hi, rfl, rfl, hs⟩ := hrel
    by_cases hlt : (i : Int) < l.length
    · have hlt' : i < l.length := by omega
      obtain ⟨ad, hA, hc⟩ := RdU.at HR.out i hlt'
      subst hA
      have hts := As.mk (take_sum l i hlt')
      have hle := As.mk (take_sum_le l (i + 1))
      have hbd : l.getD i 0 < 18446744073709551616 := by
        rw [List.getD_eq_getElem?_getD, List.getElem?_eq_getElem hlt']
        exact HBD.out _ (List.getElem_mem hlt')
      obtain ⟨x, hx⟩ : ∃ x, x = l.getD i 0 := ⟨_, rfl⟩
      rw [← hx] at hc hbd
      have HX := As.mk hx
      have hbd' : (x : Int) ≤ 18446744073709551615 := by omega
      clear hx hbd
      by_cases c1 : (x : Int) ≤ 2100000000000000
      · by_cases c2 : ((l.take i).sum : Int) + x ≤ 2100000000000000
        · go_wp2_with (go_at_call 14; (with_reducible refine (ok_yes _ _ (by omega)).mono ?_); rintro e w' ⟨rfl, rfl⟩)
          go_round
          case rel => exact ⟨i + 1, by omega, by go_num, by rw [hts.out, ← HX.out]; go_num, by rw [hts.out, ← HX.out]; omega⟩
          case measure => simp [intOf]; omega
        · have HE : As (tot l = (0, false)) := ⟨by have := hts.out; have := hle.out; have := HX.out; unfold tot; rw [if_neg (by omega)]⟩
          go_wp2_with (first | (go_at_call 14; (with_reducible refine (ok_yes _ _ (by omega)).mono ?_); rintro e w' ⟨rfl, rfl⟩) | (go_at_call 14; (with_reducible refine (ok_no _ _ (by omega)).mono ?_); rintro e w' ⟨rfl, rfl⟩))
          go_ret2
          rw [HE.out]
          exact ⟨rfl, rfl⟩
      · have HE : As (tot l = (0, false)) := ⟨by have := hts.out; have := hle.out; have := HX.out; unfold tot; rw [if_neg (by omega)]⟩
        go_wp2_with (go_at_call 14; (with_reducible refine (ok_no _ _ (by omega)).mono ?_); rintro e w' ⟨rfl, rfl⟩)
        go_ret2
        rw [HE.out]
        exact ⟨rfl, rfl⟩
    · have hi' : i = l.length := by omega
      have HE : As (tot l = ((l.take i).sum, true)) := ⟨by rw [hi', List.take_length]; unfold tot; rw [if_pos (by rw [hi', List.take_length] at hs; omega)]⟩
      clear hi'
      go_wp2
      go_ret2
      rw [HE.out]
      exact ⟨rfl, rfl⟩
theorem less_yes (x y : Int) (w : World) (h0 : 0 ≤ y) (h : y ≤ x) (h1 : x ≤ 18446744073709551615) : Calls Try.prog 13 #[.int .u64 x, .int .u64 y] w fun e w' => e = .returned (.tuple #[.int .u64 (x - y), .bool true]) ∧ w = w' := by
  go_enter Try.func13, Try.ntmps13
  go_wp2
  go_ret2
  exact ⟨rfl, rfl⟩
theorem less_no (x y : Int) (w : World) (h : x < y) : Calls Try.prog 13 #[.int .u64 x, .int .u64 y] w fun e w' => e = .returned (.tuple #[.int .u64 0, .bool false]) ∧ w = w' := by
  go_enter Try.func13, Try.ntmps13
  go_wp2
  go_ret2
  exact ⟨rfl, rfl⟩
end Go.Proofs.Ytfbfdmgnicgalaa.M
