/- What is told: the document's numbers; yes and no. -/
import Derived.Test.YtodcbcpjlhlakaaDoorR3
set_option linter.unusedVariables false
set_option linter.unusedSimpArgs false
namespace Go.Proofs.YtodcbcpjlhlakaaDoor.W
open Go.RowKit Go.Proofs.YtodcbcpjlhlakaaDoor.B Go.Proofs Go.Lib

theorem decDigits_ne (u : Nat) : decDigits u ≠ [] := by
  rw [decDigits]; split <;> simp
theorem decDigits_step (m : Nat) (h : 0 < m) : decDigits m = (if m / 10 = 0 then [] else decDigits (m / 10)) ++ [UInt8.ofNat (48 + m % 10)] := by
  rw [decDigits]
  split
  · rename_i h1
    rw [if_pos (by omega), show m % 10 = m by omega]
    rfl
  · rename_i h1
    rw [if_neg (by omega)]
def digM (v0 v3 : Value) : Nat := 2 * (RowKit.intOf v0).toNat + (match v3 with | .string b => if b.size = 0 then 1 else 0 | _ => 0)
/-- What is left of a number, and what is told of it. -/
def Told (u m : Nat) (s : List UInt8) : Prop := (s = [] ∧ m = u) ∨ (s ≠ [] ∧ decDigits u = (if m = 0 then [] else decDigits m) ++ s)
theorem Told.step {u m : Nat} {s : List UInt8} (h : Told u m s) (hc : 0 < m ∨ s = []) : Told u (m / 10) (UInt8.ofNat (48 + m % 10) :: s) := by
  refine .inr ⟨by simp, ?_⟩
  rcases h with ⟨rfl, rfl⟩ | ⟨h1, h2⟩
  · rcases Nat.eq_zero_or_pos m with h0 | h0
    · subst h0
      rw [decDigits]
      simp
    · exact decDigits_step m h0
  · have h0 : 0 < m := by
      rcases hc with h | h
      · exact h
      · exact absurd h h1
    rw [h2, if_neg (by omega), decDigits_step m h0]
    simp
theorem nDigits_20 (u : Nat) (hu : u < 18446744073709551616) : nDigits u ≤ 20 := by
  rcases Nat.eq_zero_or_pos u with h | h
  · subst h; rw [nDigits_small (by decide)]; decide
  · have := numDigits_eq u h hu; split at this <;> omega
theorem Told.small {u m : Nat} {s : List UInt8} (h : Told u m s) (hu : u < 18446744073709551616) : s.length ≤ 20 := by
  rcases h with ⟨rfl, _⟩ | ⟨_, h⟩
  · decide
  · have h1 := congrArg List.length h
    rw [decDigits_length, List.length_append] at h1
    have := nDigits_20 u hu
    omega
theorem u8_digit (d : Nat) (h : d < 10) : (48 + (d : Int)) = ((UInt8.ofNat (48 + d)).toNat : Int) := by
  rw [u8_ofNat]; omega
set_option maxHeartbeats 1000000 in
set_option maxRecDepth 100000 in
theorem digits_any (u : Nat) (hu : u < 18446744073709551616) (w : World) :
    Calls Tryd.prog 29 #[.int .u64 (u : Int)] w fun e w' => e = .returned (str (decDigits u)) ∧ Below w.heap.size w w' := by
  obtain ⟨x0, hx0⟩ : ∃ x0 : Int, x0 = (u : Int) := ⟨_, rfl⟩
  have hx1 : 0 ≤ x0 := by omega
  have hx2 : x0 < 18446744073709551616 := by omega
  have HU := As.mk hu
  have HX0 : As (x0.toNat = u) := ⟨by omega⟩
  rw [← hx0]
  clear hx0 hu
  go_enter Tryd.func29, Tryd.ntmps29
  go_wp2
  go_loopw [0, 3] (fun v0 v3 wr => ∃ (x : Int) (s : List UInt8), v0 = .int .u64 x ∧ v3 = .string ⟨s.toArray⟩ ∧ 0 ≤ x ∧ x < 18446744073709551616 ∧ As (Told u x.toNat s) ∧ As (Below w.heap.size w wr)) (fun v0 v3 _ => digM v0 v3)
  case atStart => exact ⟨x0, [], rfl, rfl, hx1, hx2, ⟨.inl ⟨rfl, HX0.out⟩⟩, ⟨Below.refl _ _⟩⟩
  case round =>
    obtain ⟨x, s, rfl, rfl, hm0, hm, HT, HB⟩ := hrel
    clear hx1 hx2
    obtain ⟨d, hd⟩ : ∃ d : Int, x % 10 = d := ⟨_, rfl⟩
    obtain ⟨q, hq⟩ : ∃ q : Int, x / 10 = q := ⟨_, rfl⟩
    have HS : As (s.length ≤ 20) := ⟨HT.out.small HU.out⟩
    have hd0 : 0 ≤ d := by omega
    have hd10 : d < 10 := by omega
    have hq0 : 0 ≤ q := by omega
    have hqm : q < 18446744073709551616 := by omega
    have HD : As (48 + d = ((UInt8.ofNat (48 + d.toNat)).toNat : Int)) := ⟨by have := u8_digit d.toNat (by omega); omega⟩
    have HDN : As (d.toNat = x.toNat % 10 ∧ q.toNat = x.toNat / 10 ∧ q ≤ x) := ⟨by omega⟩
    have HB4 : As (Below w.heap.size w (wr.alloc (.cells #[.int .u8 (48 + d)] 5))) := ⟨HB.out.alloc HB.out.size _⟩
    obtain ⟨bb, hbb⟩ : ∃ b : UInt8, b = UInt8.ofNat (48 + d.toNat) := ⟨_, rfl⟩
    rw [← hbb] at HD
    by_cases hgo : 0 < x
    · have HT2 : As (Told u q.toNat (bb :: s)) := ⟨by rw [hbb, HDN.out.1, HDN.out.2.1]; exact HT.out.step (.inl (by omega))⟩
      clear hbb
      go_wp2_with (first | ((with_reducible refine wpList_str (o := ⟨some 15, _, _, _, _, _⟩) ?hgd (.tmp 14) 29 9 5 rfl Tryd.underlying29 Tryd.underlying5 Tryd.underlying9 (.slice (some ⟨wr.heap.size, 0, none⟩) 1 1) rfl [bb] (RdB.one wr 5 _ _ HD.out) ?_); (case hgd => first | exact .inl rfl | exact .inr rfl)) | ((with_reducible refine wpList_cat ?hgd (.tmp 15) (.tmp 16) rfl [bb] s ?hx ?hy ?hl ?_); (case hgd => exact rfl); (case hx => exact rfl); (case hy => exact rfl); (case hl => have := HS.out; show 1 + s.length ≤ _; omega)))
      go_roundw
      case rel => exact ⟨q, bb :: s, by rw [hq], rfl, by omega, by omega, HT2, HB4⟩
      case measure => have := HDN.out.2.2; simp [digM, RowKit.intOf, ByteArray.size]; omega
    · have hxz : x = 0 := by omega
      by_cases h0 : s = []
      · have HT2 : As (Told u 0 [48]) := ⟨by have h := HT.out.step (.inr h0); rw [hxz, h0] at h; exact h⟩
        have HB5 : As (Below w.heap.size w (wr.alloc (.cells #[.int .u8 48] 5))) := ⟨HB.out.alloc HB.out.size _⟩
        subst hxz h0
        clear hd hq hd0 hd10 hq0 hqm HD HDN HB4 hgo
        go_wp2_with (first | ((with_reducible refine wpList_str (o := ⟨some 15, _, _, _, _, _⟩) ?hgd (.tmp 14) 29 9 5 rfl Tryd.underlying29 Tryd.underlying5 Tryd.underlying9 (.slice (some ⟨wr.heap.size, 0, none⟩) 1 1) rfl [48] (RdB.one wr 5 48 48 rfl) ?_); (case hgd => first | exact .inl rfl | exact .inr rfl)) | ((with_reducible refine wpList_cat ?hgd (.tmp 15) (.tmp 16) rfl [48] [] ?hx ?hy ?hl ?_); (case hgd => exact rfl); (case hx => exact rfl); (case hy => exact rfl); (case hl => decide)))
        go_roundw
        case rel => exact ⟨0, [48], rfl, rfl, by omega, by omega, HT2, HB5⟩
        case measure => simp [digM, RowKit.intOf, ByteArray.size]
      · have hs0 : (s == []) = false := beq_eq_false_iff_ne.2 h0
        have HF : As (decDigits u = s) := ⟨by rcases HT.out with h | h; exact absurd h.1 h0; have h2 := h.2; rw [hxz] at h2; simpa using h2⟩
        subst hxz
        go_wp2
        go_ret
        rw [HF.out]
        exact ⟨rfl, HB.out⟩
set_option maxRecDepth 100000 in
theorem qnum_any (n : Int) (h0 : -9223372036854775808 ≤ n) (h1 : n ≤ 9223372036854775807) (w : World) :
    Calls Tryd.prog 24 #[.int .i64 n] w fun e w' => e = .returned (str (itoa n)) ∧ Below w.heap.size w w' := by
  by_cases hn : n < 0
  · obtain ⟨u, hu⟩ : ∃ u : Nat, u = n.natAbs := ⟨_, rfl⟩
    have HL : As ((decDigits u).length ≤ 20) := ⟨by rw [decDigits_length]; exact nDigits_20 u (by omega)⟩
    have HU : As (u < 18446744073709551616) := ⟨by omega⟩
    have HI : As (itoa n = 45 :: decDigits u) := ⟨by unfold itoa; rw [if_pos hn, hu]⟩
    have hw1 : IntKind.i64.wrap (n + 1) = n + 1 := IntWalk.i64_in _ (by omega)
    have hw2 : IntKind.i64.wrap (-(n + 1)) = -(n + 1) := IntWalk.i64_in _ (by omega)
    have hw3 : IntKind.u64.wrap (-(n + 1)) = -(n + 1) := IntWalk.u64_in _ (by omega)
    have hw4 : IntKind.u64.wrap (-(n + 1) + 1) = (u : Int) := by rw [IntWalk.u64_in _ (by omega)]; omega
    clear hu
    go_enter Tryd.func24, Tryd.ntmps24
    go_wp2_with (first | (go_at_call 29; (with_reducible refine (digits_any u HU.out _).mono ?_); rintro e w1 ⟨rfl, hb⟩; have HB := As.mk hb; clear hb) | ((with_reducible refine wpList_cat ?hgd (.const (.string ⟨#[45]⟩)) (.tmp 10) rfl [45] (decDigits u) ?hx ?hy ?hl ?_); (case hgd => exact rfl); (case hx => exact rfl); (case hy => exact rfl); (case hl => have := HL.out; show 1 + (decDigits u).length ≤ _; omega)))
    go_ret
    rw [HI.out]
    exact ⟨rfl, HB.out⟩
  · obtain ⟨u, rfl⟩ : ∃ u : Nat, n = (u : Int) := ⟨n.toNat, by omega⟩
    have HI : As (itoa (u : Int) = decDigits u) := ⟨by unfold itoa; rw [if_neg hn]; rfl⟩
    have hw3 : IntKind.u64.wrap (u : Int) = (u : Int) := IntWalk.u64_in _ (by omega)
    have HU : As (u < 18446744073709551616) := ⟨by omega⟩
    clear h0 h1
    go_enter Tryd.func24, Tryd.ntmps24
    go_wp2_with (go_at_call 29; (with_reducible refine (digits_any u HU.out _).mono ?_); rintro e w1 ⟨rfl, hb⟩; have HB := As.mk hb; clear hb)
    go_ret
    rw [HI.out]
    exact ⟨rfl, HB.out⟩
def goodL (b : Bool) : List UInt8 := if b = true then [121] else [110]
theorem good_any (b : Bool) (w : World) : Calls Tryd.prog 21 #[.bool b] w fun e w' => e = .returned (str (goodL b)) ∧ w' = w := by
  cases b with
  | true =>
    go_enter Tryd.func21, Tryd.ntmps21
    go_wp2
    go_ret
    exact ⟨rfl, rfl⟩
  | false =>
    go_enter Tryd.func21, Tryd.ntmps21
    go_wp2
    go_ret
    exact ⟨rfl, rfl⟩
theorem qgood_any (b : Bool) (w : World) : Calls Tryd.prog 25 #[.bool b] w fun e w' => e = .returned (str ([32] ++ goodL b ++ [32])) ∧ w' = w := by
  cases b with
  | true =>
    go_enter Tryd.func25, Tryd.ntmps25
    go_wp2
    go_ret
    exact ⟨rfl, rfl⟩
  | false =>
    go_enter Tryd.func25, Tryd.ntmps25
    go_wp2
    go_ret
    exact ⟨rfl, rfl⟩
end Go.Proofs.YtodcbcpjlhlakaaDoor.W
