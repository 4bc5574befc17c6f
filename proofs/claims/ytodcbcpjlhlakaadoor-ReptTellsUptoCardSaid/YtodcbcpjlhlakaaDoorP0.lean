/- What is told, the plain law: words, numbers, bytes and lists are read as they were told. -/
import Derived.Test.YtodcbcpjlhlakaaDoorR18
import Derived.Lib.SplitLaws
set_option linter.unusedVariables false
set_option linter.unusedSimpArgs false
namespace Go.Proofs.YtodcbcpjlhlakaaDoor.W
open Go.RowKit Go.Proofs.YtodcbcpjlhlakaaDoor.B Go.Proofs

/-- A text cut at each byte of one kind. -/
def cutW (c : UInt8) : List UInt8 → List (List UInt8)
  | [] => [[]]
  | b :: l => if b = c then [] :: cutW c l else match cutW c l with
    | [] => [[b]]
    | x :: r => (b :: x) :: r
theorem cutW_ne (c : UInt8) (s : List UInt8) : ∃ x r, cutW c s = x :: r := by
  cases s with
  | nil => exact ⟨_, _, rfl⟩
  | cons b l =>
    unfold cutW
    split
    · exact ⟨_, _, rfl⟩
    · split <;> exact ⟨_, _, rfl⟩
theorem splitK_cut (c : UInt8) (s : List UInt8) : Lib.splitK [c] 0 (Lib.count s [c]) s = cutW c s := by
  induction s with
  | nil => rw [Lib.count_miss (by simp [Lib.index])]; rfl
  | cons b l ih =>
    by_cases h : b = c
    · subst h
      have hix : Lib.index (b :: l) [b] = 0 := by rw [Lib.index]; simp [List.isPrefixOf]
      rw [Lib.count_cons_eq, Nat.add_comm, Lib.splitK, hix, cutW, if_pos rfl, ← ih]
      rfl
    · have hp : ([c] : List UInt8).isPrefixOf (b :: l) = false := by simp [List.isPrefixOf, Ne.symm h]
      have hix : Lib.index (b :: l) [c] = if Lib.index l [c] == -1 then -1 else Lib.index l [c] + 1 := by rw [Lib.index, hp]; simp
      rw [Lib.count_cons_ne b c l h]
      rw [cutW, if_neg h, ← ih]
      by_cases hm : Lib.index l [c] = -1
      · rw [Lib.count_miss hm]
        rfl
      · have hge := Lib.index_ge l [c]
        obtain ⟨j, hj⟩ : ∃ j : Nat, Lib.index l [c] = j := ⟨(Lib.index l [c]).toNat, by omega⟩
        have hix' : Lib.index (b :: l) [c] = ((j + 1 : Nat) : Int) := by rw [hix, if_neg (fun e => hm (beq_iff_eq.1 e)), hj]; omega
        rw [Lib.count_hit (by simp) hj, Nat.add_comm, Lib.splitK, Lib.splitK, hix', hj]
        rw [if_neg (fun e => by have := beq_iff_eq.1 e; omega), if_neg (fun e => by have := beq_iff_eq.1 e; omega)]
        have e1 : (((j + 1 : Nat) : Int)).toNat = j + 1 := by omega
        have e2 : ((j : Int)).toNat = j := by omega
        rw [e1, e2]
        simp only [Nat.add_zero, List.length_cons, List.length_nil, List.take_succ_cons]
        rw [show j + 1 + (0 + 1) = (j + (0 + 1)) + 1 by omega, List.drop_succ_cons]
theorem wordsOf_eq (c : UInt8) (s : List UInt8) : wordsOf c s = cutW c s := by
  unfold wordsOf
  rw [Lib.splitB_data]
  exact splitK_cut c s
theorem cutW_none {c : UInt8} {s : List UInt8} (h : c ∉ s) : cutW c s = [s] := by
  induction s with
  | nil => rfl
  | cons b l ih =>
    rw [cutW, if_neg (fun e => h (by rw [e]; exact List.mem_cons_self ..)), ih (fun e => h (List.mem_cons_of_mem _ e))]
theorem cutW_app {c : UInt8} {a s : List UInt8} (h : c ∉ a) : cutW c (a ++ c :: s) = a :: cutW c s := by
  induction a with
  | nil => rw [List.nil_append, cutW, if_pos rfl]
  | cons b l ih =>
    rw [List.cons_append, cutW, if_neg (fun e => h (by rw [e]; exact List.mem_cons_self ..)), ih (fun e => h (List.mem_cons_of_mem _ e))]
theorem cutW_join {c : UInt8} (x : List UInt8) (xs : List (List UInt8)) (h : ∀ y ∈ x :: xs, c ∉ y) : cutW c (Lib.join (x :: xs) [c]) = x :: xs := by
  induction xs generalizing x with
  | nil => rw [Lib.join_one]; exact cutW_none (h x (List.mem_cons_self ..))
  | cons y r ih =>
    have e : Lib.join (x :: y :: r) [c] = x ++ c :: Lib.join (y :: r) [c] := by
      rw [Lib.join_cons, Lib.join_cons]
      simp [Lib.joinTail]
    rw [e, cutW_app (h x (List.mem_cons_self ..)), ih y (fun z hz => h z (List.mem_cons_of_mem _ hz))]
theorem cutW_bounds (c : UInt8) (s : List UInt8) : (cutW c s).length ≤ s.length + 1 ∧ ∀ x ∈ cutW c s, x.length ≤ s.length := by
  induction s with
  | nil => exact ⟨Nat.le_refl 1, fun x hx => by simp [cutW] at hx; subst hx; simp⟩
  | cons b l ih =>
    obtain ⟨h1, h2⟩ := ih
    unfold cutW
    split
    · refine ⟨by simp only [List.length_cons]; omega, fun x hx => ?_⟩
      rcases List.mem_cons.1 hx with rfl | hx
      · simp
      · have := h2 x hx; simp only [List.length_cons]; omega
    · obtain ⟨y, r, he⟩ := cutW_ne c l
      rw [he] at h1 h2 ⊢
      refine ⟨by simp only [List.length_cons] at *; omega, fun x hx => ?_⟩
      rcases List.mem_cons.1 hx with rfl | hx
      · have := h2 y (List.mem_cons_self ..); simp only [List.length_cons]; omega
      · have := h2 x (List.mem_cons_of_mem _ hx); simp only [List.length_cons]; omega
/-- The words, put together again, are the text. -/
theorem cutW_back (c : UInt8) (s : List UInt8) : Lib.join (cutW c s) [c] = s := by
  induction s with
  | nil => rfl
  | cons b l ih =>
    obtain ⟨y, r, he⟩ := cutW_ne c l
    unfold cutW
    rw [he] at ih ⊢
    split
    · next h =>
      subst h
      rw [Lib.join_cons] at ih ⊢
      simp only [List.nil_append]
      rw [show Lib.joinTail [b] (y :: r) = b :: (y ++ Lib.joinTail [b] r) by simp [Lib.joinTail], ih]
    · simp only
      rw [Lib.join_cons] at ih ⊢
      rw [List.cons_append, ih]

/- Numbers. -/
theorem parse_snoc : ∀ (l : List UInt8) (acc v : Nat) (d : Nat), Lib.parseUint10 acc l = .ok v → v < 1000000000 → d < 10 → Lib.parseUint10 acc (l ++ [UInt8.ofNat (48 + d)]) = .ok (v * 10 + d)
  | [], acc, v, d, h, hv, hd => by
    simp only [Lib.parseUint10] at h
    injection h with h
    subst h
    have e : (UInt8.ofNat (48 + d)).toNat = 48 + d := by simp [UInt8.toNat_ofNat']; omega
    rw [List.nil_append, Lib.parseUint10, e, if_pos (by omega), if_neg (by omega), if_neg (by omega), show 48 + d - 48 = d by omega]
    rfl
  | c :: r, acc, v, d, h, hv, hd => by
    rw [Lib.parseUint10] at h
    rw [List.cons_append, Lib.parseUint10]
    split at h
    · next h1 =>
      rw [if_pos h1]
      split at h
      · cases h
      · next h2 =>
        rw [if_neg h2]
        split at h
        · cases h
        · next h3 =>
          rw [if_neg h3]
          exact parse_snoc r _ v d h hv hd
    · cases h
theorem parse_dec (u : Nat) (h : u < 1000000000) : Lib.parseUint10 0 (Lib.decDigits u) = .ok u := by
  induction u using Nat.strongRecOn with
  | _ u ih =>
    by_cases h0 : u < 10
    · have hx := parse_snoc [] 0 0 u rfl (by omega) h0
      rw [Lib.decDigits, dif_pos h0]
      simpa using hx
    · rw [Lib.decDigits, dif_neg h0, parse_snoc _ 0 (u / 10) (u % 10) (ih (u / 10) (by omega) (by omega)) (by omega) (by omega)]
      congr 1
      omega
theorem dec_all (u : Nat) : ∀ x ∈ Lib.decDigits u, 48 ≤ x.toNat ∧ x.toNat ≤ 57 := by
  induction u using Nat.strongRecOn with
  | _ u ih =>
    intro x hx
    by_cases h0 : u < 10
    · rw [Lib.decDigits, dif_pos h0] at hx
      simp only [List.mem_singleton] at hx
      subst hx
      simp [UInt8.toNat_ofNat']
      omega
    · rw [Lib.decDigits, dif_neg h0] at hx
      rcases List.mem_append.1 hx with hx | hx
      · exact ih (u / 10) (by omega) x hx
      · simp only [List.mem_singleton] at hx
        subst hx
        simp [UInt8.toNat_ofNat']
        omega
theorem dec_len (k : Nat) : ∀ u : Nat, u < 10 ^ (k + 1) → (Lib.decDigits u).length ≤ k + 1 := by
  induction k with
  | zero =>
    intro u h
    rw [Lib.decDigits, dif_pos (by simpa using h)]
    simp
  | succ k ih =>
    intro u h
    by_cases h0 : u < 10
    · rw [Lib.decDigits, dif_pos h0]; simp
    · rw [Lib.decDigits, dif_neg h0, List.length_append]
      have := ih (u / 10) (by rw [Nat.pow_succ] at h; omega)
      simp only [List.length_cons, List.length_nil]
      omega
theorem dec_ne (u : Nat) : Lib.decDigits u ≠ [] := by
  rw [Lib.decDigits]
  split <;> simp
theorem itoa_small (n : Int) (h0 : 0 ≤ n) : Lib.itoa n = Lib.decDigits n.toNat := by
  unfold Lib.itoa
  rw [if_neg (by omega)]
theorem itoa_all (n : Int) (h0 : 0 ≤ n) : ∀ x ∈ Lib.itoa n, 48 ≤ x.toNat ∧ x.toNat ≤ 57 := by rw [itoa_small n h0]; exact dec_all _
theorem numP_itoa (n : Int) (h0 : 0 ≤ n) (h1 : n < 1000000000) : numP (Lib.itoa n) = (n, true) := by
  have hi := itoa_small n h0
  have ha : Lib.atoiAll (Lib.itoa n) = .ok n := by
    rw [hi]
    have hp := parse_dec n.toNat (by omega)
    have hne := dec_ne n.toNat
    have hall := dec_all n.toNat
    generalize Lib.decDigits n.toNat = L at hp hne hall
    cases L with
    | nil => exact absurd rfl hne
    | cons c r =>
      have := hall c (List.mem_cons_self ..)
      unfold Lib.atoiAll
      simp only
      rw [if_neg (by omega), Lib.parseMag, if_neg (by simp), hp]
      simp only
      rw [if_neg (by omega), if_neg (by omega), if_neg (by omega)]
      congr 1
      omega
  unfold numP
  rw [ha]
  simp only
  rw [if_pos ⟨h0, True.intro, by rw [hi]; exact dec_len 8 n.toNat (by omega)⟩]
theorem numP_ok {s : List UInt8} (h : (numP s).2 = true) : 0 ≤ (numP s).1 ∧ (numP s).1 < 1000000000000000000 ∧ Lib.itoa (numP s).1 = s := by
  unfold numP at h ⊢
  split
  · next n hn =>
    rw [hn] at h
    simp only at h
    split at h
    · next hc =>
      rw [if_pos hc]
      refine ⟨hc.1, ?_, hc.2.1⟩
      have hb := atoiAll_bounds hn
      simp only
      by_cases h9 : n < 1000000000000000000
      · exact h9
      · exfalso
        have hl := hc.2.2
        rw [← hc.2.1, itoa_small n hc.1] at hl
        have hd := Lib.lt_pow_nDigits n.toNat
        have hdl : (Lib.decDigits n.toNat).length = Lib.nDigits n.toNat := by rw [Lib.decDigits_eq]; simp
        rw [hdl] at hl
        have : 10 ^ Lib.nDigits n.toNat ≤ 10 ^ 9 := Nat.pow_le_pow_right (by decide) hl
        have : n.toNat < 10 ^ 9 := by omega
        omega
    · cases h
  · next hx =>
    split at h
    · next n hn => exact absurd hn (hx n)
    · cases h

/- Hex. -/
theorem nib_dig (p : Nat) (h : p < 16) : nib (dig p) = p := by
  have : ∀ p : Nat, p < 16 → nib (dig p) = p := by decide
  exact this p h
theorem unhex_flat (b : List UInt8) : unhexL (b.flatMap hex2) = b := by
  induction b with
  | nil => rfl
  | cons x r ih =>
    rw [List.flatMap_cons]
    have hx := x.toNat_lt
    have : hex2 x ++ r.flatMap hex2 = dig (x.toNat / 16) :: dig (x.toNat % 16) :: r.flatMap hex2 := rfl
    rw [this, unhexL, ih, nib_dig _ (by omega), nib_dig _ (by omega), show 16 * (x.toNat / 16) + x.toNat % 16 = x.toNat by omega, UInt8.ofNat_toNat]
theorem flat_ne (b : List UInt8) : b.flatMap hex2 ≠ [45] := by
  intro h
  have := congrArg List.length h
  rw [hex2_length] at this
  simp at this
  omega
theorem bytesL_hex (b : List UInt8) : bytesL (hexL b) = b := by
  unfold hexL
  split
  · next h => subst h; rfl
  · unfold bytesL
    rw [if_neg (flat_ne b), unhex_flat]
theorem dig_free (p : Nat) (h : p < 16) : dig p ≠ 32 ∧ dig p ≠ 44 ∧ dig p ≠ 45 := by
  have : ∀ p : Nat, p < 16 → dig p ≠ 32 ∧ dig p ≠ 44 ∧ dig p ≠ 45 := by decide
  exact this p h
theorem flat_free (b : List UInt8) : ∀ x ∈ b.flatMap hex2, x ≠ 32 ∧ x ≠ 44 ∧ x ≠ 45 := by
  intro x hx
  obtain ⟨y, _, hy⟩ := List.mem_flatMap.1 hx
  have hl := y.toNat_lt
  simp only [hex2, List.mem_cons, List.not_mem_nil, or_false] at hy
  rcases hy with rfl | rfl
  · exact dig_free _ (by omega)
  · exact dig_free _ (by omega)
theorem hexL_free (b : List UInt8) : (32 : UInt8) ∉ hexL b ∧ (44 : UInt8) ∉ hexL b := by
  unfold hexL
  split
  · decide
  · exact ⟨fun h => (flat_free b _ h).1 rfl, fun h => (flat_free b _ h).2.1 rfl⟩
theorem hexL_dash {b : List UInt8} (h : hexL b = [45]) : b = [] := by
  have := bytesL_hex b
  rw [h] at this
  rw [← this]
  rfl
theorem join_free (xs : List (List UInt8)) : (32 : UInt8) ∉ Lib.join (xs.map hexL) [44] := by
  cases xs with
  | nil => decide
  | cons x r =>
    rw [List.map_cons, Lib.join_cons]
    intro h
    rcases List.mem_append.1 h with h | h
    · exact (hexL_free x).1 h
    · unfold Lib.joinTail at h
      obtain ⟨l, hl, hm⟩ := List.mem_flatten.1 h
      obtain ⟨y, hy, rfl⟩ := List.mem_map.1 hl
      obtain ⟨z, hz, rfl⟩ := List.mem_map.1 hy
      rcases List.mem_append.1 hm with hm | hm
      · simp at hm
      · exact (hexL_free z).1 hm
theorem joinL_free (xs : List (List UInt8)) : (32 : UInt8) ∉ joinL (xs.map hexL) := by
  unfold joinL
  split
  · decide
  · exact join_free xs
/-- One list of nothing is told as none is. -/
def tidy (ls : List (List UInt8)) : List (List UInt8) := if ls = [[]] then [] else ls
theorem map_bytes (ls : List (List UInt8)) : (ls.map hexL).map bytesL = ls := by
  rw [List.map_map]
  have : (bytesL ∘ hexL) = id := by funext b; exact bytesL_hex b
  rw [this, List.map_id]
theorem listsL_join (ls : List (List UInt8)) : listsL (joinL (ls.map hexL)) = tidy ls := by
  cases ls with
  | nil => rfl
  | cons x r =>
    unfold joinL
    rw [if_neg (by simp)]
    have hw : wordsOf 44 (Lib.join ((x :: r).map hexL) [44]) = (x :: r).map hexL := by
      rw [wordsOf_eq, List.map_cons]
      refine cutW_join _ _ ?_
      rw [← List.map_cons]
      intro y hy
      obtain ⟨z, _, rfl⟩ := List.mem_map.1 hy
      exact (hexL_free z).2
    unfold listsL
    by_cases h : Lib.join ((x :: r).map hexL) [44] = [45]
    · rw [if_pos h]
      rw [h] at hw
      cases r with
      | nil =>
        have : hexL x = [45] := by
          rw [List.map_cons, List.map_nil, Lib.join_one] at h
          exact h
        rw [hexL_dash this]
        rfl
      | cons y r =>
        have := congrArg List.length hw
        rw [wordsOf_eq, cutW_none (by decide)] at this
        simp at this
    · rw [if_neg h, hw, map_bytes]
      unfold tidy
      rw [if_neg]
      intro e
      rw [e] at h
      exact h rfl
end Go.Proofs.YtodcbcpjlhlakaaDoor.W
