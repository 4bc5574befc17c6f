/- Numbers and counts: what was written is read as it was; what is cut is not. Plain lists. -/
import Derived.Test.YtfggkljgfadacaaW2
set_option linter.unusedVariables false
set_option linter.unusedSimpArgs false
namespace Go.Proofs.Ytfggkljgfadacaa.W
open Go.RowKit Go.Proofs.Ytfggkljgfadacaa.B Go.Proofs

theorem leVal_snoc (l : List UInt8) (b : UInt8) : leVal (l ++ [b]) = leVal l + 256 ^ l.length * b.toNat := by
  induction l with
  | nil => simp [leVal]
  | cons c r ih =>
    simp only [List.cons_append, leVal, ih, List.length_cons, Nat.pow_succ, Nat.mul_add]
    rw [Nat.mul_comm (256 ^ r.length) 256, Nat.mul_assoc]
    omega
theorem leVal_le (n k : Nat) : leVal (le n k) = n % 256 ^ k := by
  induction k with
  | zero => simp [le, leVal, Nat.mod_one]
  | succ k ih =>
    have h : (2 : Nat) ^ (8 * k) = 256 ^ k := by rw [Nat.pow_mul]
    rw [le, leVal_snoc, ih, le_length, UInt8.toNat_ofNat', h, Nat.mod_pow_succ (x := n) (b := 256) (k := k)]
theorem rnum_short (k : Nat) (l : List UInt8) (b : Bool) (h : l.length < k) : rnum k l b = (0, [], true) := by
  unfold rnum; rw [if_pos h]
theorem rnum_le (n k : Nat) (r : List UInt8) (b : Bool) (hn : n < 256 ^ k) : rnum k (le n k ++ r) b = (n, r, b) := by
  unfold rnum
  rw [if_neg (by rw [List.length_append, le_length]; omega)]
  have h1 : (le n k ++ r).take k = le n k := by
    rw [List.take_append_of_le_length (by rw [le_length]; omega), List.take_of_length_le (by rw [le_length]; omega)]
  have h2 : (le n k ++ r).drop k = r := by
    have := List.drop_left (l₁ := le n k) (l₂ := r)
    rwa [le_length] at this
  rw [h1, h2, leVal_le, Nat.mod_eq_of_lt hn]
theorem rnum_bad (k : Nat) (l : List UInt8) : (rnum k l true).2.2 = true := by
  unfold rnum; split <;> rfl
theorem rcount_bad (top : Int) (l : List UInt8) : rcount top l true = (0, [], true) := by
  have h : (rpre l true).1.2.2 = true := by
    have h1 := rnum_bad 1 l
    unfold rpre
    simp only
    split
    · rw [h1]; exact rnum_bad _ _
    · split
      · rw [h1]; exact rnum_bad _ _
      · split
        · rfl
        · exact h1
  unfold rcount
  simp only
  rw [if_pos (.inl h)]
theorem rcount_of (top : Int) (l : List UInt8) (b : Bool) (m q : Nat) (r : List UInt8) (h : rpre l b = ((m, r, false), q)) (h1 : q ≤ m) (h2 : (m : Int) ≤ top) : rcount top l b = (m, r, false) := by
  unfold rcount
  simp only
  rw [h]
  simp only
  rw [if_neg]
  rintro (h3 | h3 | h3 | h3)
  · cases h3
  · omega
  · omega
  · omega
theorem rcount_fail (top : Int) (l : List UInt8) (b : Bool) (h : (rpre l b).1.2.2 = true) : rcount top l b = (0, [], true) := by
  unfold rcount; simp only; rw [if_pos (.inl h)]
theorem rpre_cnt (n : Nat) (r : List UInt8) (hn : n < 4294967296) : ∃ q, rpre (cnt n ++ r) false = ((n, r, false), q) ∧ q ≤ n := by
  unfold cnt
  split
  · rename_i h
    refine ⟨0, ?_, Nat.zero_le _⟩
    unfold rpre
    rw [rnum_le n 1 r false (by omega)]
    simp only
    rw [if_neg (by omega), if_neg (by omega), if_neg (by omega)]
  · split
    · rename_i h1 h2
      refine ⟨253, ?_, by omega⟩
      unfold rpre
      rw [List.append_assoc, rnum_le 253 1 _ false (by omega)]
      simp only
      rw [if_pos trivial, rnum_le n 2 r false (by omega)]
    · rename_i h1 h2
      refine ⟨65536, ?_, by omega⟩
      unfold rpre
      rw [List.append_assoc, rnum_le 254 1 _ false (by omega)]
      simp only
      rw [if_neg (by omega), if_pos trivial, rnum_le n 4 r false (by omega)]
theorem rcount_cnt (top : Int) (n : Nat) (r : List UInt8) (hn : n < 4294967296) (ht : (n : Int) ≤ top) : rcount top (cnt n ++ r) false = (n, r, false) := by
  obtain ⟨q, h, hq⟩ := rpre_cnt n r hn
  exact rcount_of top _ _ n q r h hq ht
theorem take_le_append (n k K : Nat) (r : List UInt8) (h : k ≤ K) : (le n k ++ r).take K = le n k ++ r.take (K - k) := by
  rw [List.take_append, le_length, List.take_of_length_le (by rw [le_length]; exact h)]
theorem rcount_cut (top : Int) (n K : Nat) (hn : n < 4294967296) (hK : K < (cnt n).length) : rcount top ((cnt n).take K) false = (0, [], true) := by
  rcases Nat.eq_zero_or_pos K with rfl | hp
  · refine rcount_fail _ _ _ ?_
    simp [rpre, rnum]
  · refine rcount_fail _ _ _ ?_
    unfold cnt at hK ⊢
    split at hK
    · rw [le_length] at hK; omega
    · rename_i h1
      rw [if_neg h1]
      split at hK
      · rename_i h2
        rw [List.length_append, le_length, le_length] at hK
        rw [if_pos h2, take_le_append _ _ _ _ (by omega)]
        unfold rpre
        rw [rnum_le 253 1 _ false (by omega)]
        simp only
        rw [if_pos trivial, rnum_short 2 _ _ (by rw [List.length_take, le_length]; omega)]
      · rename_i h2
        rw [List.length_append, le_length, le_length] at hK
        rw [if_neg h2, take_le_append _ _ _ _ (by omega)]
        unfold rpre
        rw [rnum_le 254 1 _ false (by omega)]
        simp only
        rw [if_neg (by omega), if_pos trivial, rnum_short 4 _ _ (by rw [List.length_take, le_length]; omega)]
/-- Three written one behind the other, read as they were. -/
theorem three_read (A U N : Nat) (hA : A < 4294967296) (hU : U < 18446744073709551616) (hN : N < 4294967296) :
    rnum 4 (le A 4 ++ (le U 8 ++ cnt N)) false = (A, le U 8 ++ cnt N, false) ∧ rnum 8 (le U 8 ++ cnt N) false = (U, cnt N, false) ∧ rcount 4294967295 (cnt N) false = (N, [], false) := by
  refine ⟨rnum_le A 4 _ _ (by omega), rnum_le U 8 _ _ (by omega), ?_⟩
  have := rcount_cnt 4294967295 N [] hN (by omega)
  rwa [List.append_nil] at this
theorem three_cut (A U N K : Nat) (hA : A < 4294967296) (hU : U < 18446744073709551616) (hN : N < 4294967296) (hK : K < (le A 4 ++ (le U 8 ++ cnt N)).length) :
    ∃ x l1 b1 y l2 b2, rnum 4 ((le A 4 ++ (le U 8 ++ cnt N)).take K) false = (x, l1, b1) ∧ rnum 8 l1 b1 = (y, l2, b2) ∧ rcount 4294967295 l2 b2 = (0, [], true) := by
  by_cases h4 : K < 4
  · refine ⟨0, [], true, 0, [], true, rnum_short _ _ _ (by rw [List.length_take]; omega), rnum_short _ _ _ (by decide), rcount_bad _ _⟩
  · rw [take_le_append _ _ _ _ (by omega)]
    by_cases h8 : K - 4 < 8
    · exact ⟨A, _, false, 0, [], true, rnum_le A 4 _ _ (by omega), rnum_short _ _ _ (by rw [List.length_take]; omega), rcount_bad _ _⟩
    · rw [take_le_append _ _ _ _ (by omega)]
      rw [List.length_append, List.length_append, le_length, le_length] at hK
      exact ⟨A, _, false, U, _, false, rnum_le A 4 _ _ (by omega), rnum_le U 8 _ _ (by omega), rcount_cut _ _ _ hN (by omega)⟩
end Go.Proofs.Ytfggkljgfadacaa.W
