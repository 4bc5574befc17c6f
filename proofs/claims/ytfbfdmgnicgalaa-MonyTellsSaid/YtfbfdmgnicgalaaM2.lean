/- The document's Total, and what awake of layer 5 answers: true. -/
import Derived.Test.YtfbfdmgnicgalaaM1
set_option linter.unusedVariables false
set_option linter.unusedSimpArgs false
namespace Go.Proofs.Ytfbfdmgnicgalaa.M
open Go.RowKit Go.Proofs.Ytfbfdmgnicgalaa.B Go.Proofs

set_option maxHeartbeats 1000000 in
set_option maxRecDepth 100000 in
theorem total_any (v : Value) (l : List Nat) (w : World) (hr : RdU w v l) (hl : l.length ≤ 17592186044416) (hb : ∀ n ∈ l, n < 18446744073709551616) :
    Calls Try.prog 16 #[v] w fun e w' => e = .returned (.tuple #[.int .u64 ((tot l).1 : Int), .bool (tot l).2]) ∧ w = w' := by
  obtain ⟨A, c, rfl, h1, h2, h3⟩ := RdU.form hr
  have HR := As.mk hr
  have hl' : (l.length : Int) ≤ 17592186044416 := by omega
  have HBD := As.mk hb
  clear hr hl hb h2 h3 h1
  go_enter Try.func16, Try.ntmps16
  go_wp2
  go_loop [4, 5] (fun v4 v9 => ∃ i : Nat, (i : Int) ≤ l.length ∧ v9 = .int .i64 (i : Int) ∧ v4 = .int .u64 ((l.take i).sum : Int) ∧ ((l.take i).sum : Int) ≤ 2100000000000000) (fun _ v9 => (l.length - intOf v9).toNat)
  case atStart => exact ⟨0, by omega, rfl, rfl, by simp⟩
  case round =>
    obtain ⟨i, hi, rfl, rfl, hs⟩ := hrel
    by_cases hlt : (i : Int) < l.length
    · have hlt' : i < l.length := by omega
      obtain ⟨ad, hA, hc⟩ := RdU.at HR.out i hlt'
      subst hA
      have hts := As.mk (take_sum l i hlt')
      have hle := As.mk (take_sum_le l (i + 1))
      have hbd : l.getD i 0 < 18446744073709551616 := by
        rw [List.getD_eq_getElem?_getD, List.getElem?_eq_getElem hlt']
        exact HBD.out _ (List.getElem_mem hlt')
      obtain ⟨x, hx⟩ : ∃ x, x = l.getD i 0 := ⟨_, rfl⟩
      rw [← hx] at hc hbd
      have HX := As.mk hx
      have hbd' : (x : Int) ≤ 18446744073709551615 := by omega
      clear hx hbd
      by_cases c1 : (x : Int) ≤ 2100000000000000
      · by_cases c2 : ((l.take i).sum : Int) + x ≤ 2100000000000000
        · go_wp2
          go_round
          case rel => exact ⟨i + 1, by omega, by go_num, by rw [hts.out, ← HX.out]; go_num, by rw [hts.out, ← HX.out]; omega⟩
          case measure => simp [intOf]; omega
        · have HE : As (tot l = (0, false)) := ⟨by have := hts.out; have := hle.out; have := HX.out; unfold tot; rw [if_neg (by omega)]⟩
          go_wp2
          go_ret2
          rw [HE.out]
          exact ⟨rfl, rfl⟩
      · have HE : As (tot l = (0, false)) := ⟨by have := hts.out; have := hle.out; have := HX.out; unfold tot; rw [if_neg (by omega)]⟩
        go_wp2
        go_ret2
        rw [HE.out]
        exact ⟨rfl, rfl⟩
    · have hi' : i = l.length := by omega
      have HE : As (tot l = ((l.take i).sum, true)) := ⟨by rw [hi', List.take_length]; unfold tot; rw [if_pos (by rw [hi', List.take_length] at hs; omega)]⟩
      clear hi'
      go_wp2
      go_ret2
      rw [HE.out]
      exact ⟨rfl, rfl⟩
theorem sum_to (v : Value) (l : List Nat) (m : Nat) (b : Bool) (w : World) (hq : tot l = (m, b)) (hr : RdU w v l) (hl : l.length ≤ 17592186044416) (hb : ∀ n ∈ l, n < 18446744073709551616) :
    Calls Try.prog 12 #[v] w fun e w' => e = .returned (.tuple #[.int .u64 (m : Int), .bool b]) ∧ w = w' := by
  have := sum_any v l w hr hl hb
  rw [hq] at this
  exact this
theorem total_to (v : Value) (l : List Nat) (m : Nat) (b : Bool) (w : World) (hq : tot l = (m, b)) (hr : RdU w v l) (hl : l.length ≤ 17592186044416) (hb : ∀ n ∈ l, n < 18446744073709551616) :
    Calls Try.prog 16 #[v] w fun e w' => e = .returned (.tuple #[.int .u64 (m : Int), .bool b]) ∧ w = w' := by
  have := total_any v l w hr hl hb
  rw [hq] at this
  exact this
theorem lit3 (w : World) (D : Nat) (hD : D = w.heap.size) : RdU (w.alloc (.cells #[.int .u64 1, .int .u64 2, .int .u64 3] 23)) (.slice (some ⟨D, 0, none⟩) 3 3) [1, 2, 3] :=
  hD ▸ (OwS.lit w w.heap.size 23 1 3 #[.int .u64 1, .int .u64 2, .int .u64 3] (Nat.le_refl _) (by decide) rfl).rd
theorem lit2 (w : World) (D : Nat) (hD : D = w.heap.size) : RdU (w.alloc (.cells #[.int .u64 2100000000000000, .int .u64 1] 23)) (.slice (some ⟨D, 0, none⟩) 2 2) [2100000000000000, 1] :=
  hD ▸ (OwS.lit w w.heap.size 23 1 2 #[.int .u64 2100000000000000, .int .u64 1] (Nat.le_refl _) (by decide) rfl).rd
set_option maxHeartbeats 1000000 in
set_option maxRecDepth 100000 in
theorem awake5_any (w : World) : Calls Try.prog 15 #[] w fun e w' => e = .returned (.bool true) ∧ Below w.heap.size w w' := by
  go_enter Try.func15, Try.ntmps15
  go_wp2_with (first | (go_at_call 12; (with_reducible refine (sum_to _ [1, 2, 3] 6 true _ (by decide) (lit3 _ _ (by simp)) (by decide) (by simp)).mono ?_); rintro e w' ⟨rfl, rfl⟩) | (go_at_call 12; (with_reducible refine (sum_to _ [2100000000000000, 1] 0 false _ (by decide) (lit2 _ _ (by simp)) (by decide) (by simp)).mono ?_); rintro e w' ⟨rfl, rfl⟩) | (go_at_call 12; (with_reducible refine (sum_to _ [] 0 true _ (by decide) (RdU.nil _) (by decide) (by simp)).mono ?_); rintro e w' ⟨rfl, rfl⟩) | (go_at_call 13; (with_reducible refine (less_yes _ _ _ (by omega) (by omega) (by omega)).mono ?_); rintro e w' ⟨rfl, rfl⟩) | (go_at_call 13; (with_reducible refine (less_no _ _ _ (by omega)).mono ?_); rintro e w' ⟨rfl, rfl⟩) | (go_at_call 14; (with_reducible refine (ok_yes _ _ (by omega)).mono ?_); rintro e w' ⟨rfl, rfl⟩) | (go_at_call 14; (with_reducible refine (ok_no _ _ (by omega)).mono ?_); rintro e w' ⟨rfl, rfl⟩))
  go_ret
  exact ⟨rfl, ((Below.refl _ _).alloc (Nat.le_refl _) _).alloc (by simp) _⟩
end Go.Proofs.Ytfbfdmgnicgalaa.M
