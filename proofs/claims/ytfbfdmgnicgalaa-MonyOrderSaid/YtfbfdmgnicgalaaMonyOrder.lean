/- A sum hangs on no order of its amounts, nor on where they are parted: the walk of MonyOrder. -/
import Derived.Test.YtfbfdmgnicgalaaMonyCap
set_option linter.unusedVariables false
set_option linter.unusedSimpArgs false
namespace Go.Proofs.Ytfbfdmgnicgalaa.W
open Go.RowKit Go.Proofs.Ytfbfdmgnicgalaa.B Go.Proofs.Ytfbfdmgnicgalaa.M Go.Proofs

theorem and255 (n : Int) : bits .and .i64 n 255 = n % 256 := by
  have h255 : (BitVec.ofInt 64 255).toNat = 2 ^ 8 - 1 := by decide
  have key : (BitVec.ofInt 64 n &&& BitVec.ofInt 64 255).toNat = (n % ((2 ^ 64 : Nat) : Int)).toNat % 2 ^ 8 := by
    rw [BitVec.toNat_and, BitVec.toNat_ofInt, h255, Nat.and_two_pow_sub_one_eq_mod]
  show IntKind.i64.wrap ((BitVec.ofInt 64 n &&& BitVec.ofInt 64 255).toNat : Nat) = n % 256
  rw [key, IntKind.wrap_i64]
  omega
theorem size23 : (Try.prog.info? 23).map (·.size) = some 1 := by kernel_rfl
theorem litn (w : World) (D : Nat) (hD : D = w.heap.size) (n : Nat) (base : Nat) (hb : base ≤ w.heap.size) : OwU (w.alloc (.cells #[.int .u64 (n : Int)] 23)) base 23 (.slice (some ⟨D, 0, none⟩) 1 1) [n] :=
  hD ▸ OwS.lit w base 23 1 1 #[.int .u64 (n : Int)] hb (by decide) rfl
theorem litp (w : World) (D : Nat) (hD : D = w.heap.size) (n m : Nat) (x y : Int) (hx : x = (n : Int)) (hy : y = (m : Int)) : RdU (w.alloc (.cells #[.int .u64 x, .int .u64 y] 23)) (.slice (some ⟨D, 0, none⟩) 2 2) [n, m] := by
  subst hx hy
  exact hD ▸ (OwS.lit w w.heap.size 23 1 2 #[.int .u64 (n : Int), .int .u64 (m : Int)] (Nat.le_refl _) (by decide) rfl).rd
/-- Amounts, and the same from behind, in rows of their own. -/
structure Both (w wr : World) (v b : Value) (xs : List Nat) : Prop where
  own : OwU wr w.heap.size 23 v xs
  back : OwU wr w.heap.size 23 b xs.reverse
  apart : ∀ k, b.ownBlock = some k → v.ownBlock ≠ some k
  below : Below w.heap.size w wr
  lt : ∀ n ∈ xs, n < 18446744073709551616
theorem cutU (w : World) (A : Option Addr) (n c : Nat) (l : List Nat) (h : RdU w (.slice A n c) l) (k : Nat) (hk : k ≤ n) :
    RdU w (.slice A k c) (l.take k) ∧ ∃ A', (∀ W : World, (Instr.slice 22 (.slice A n c) (some (.int .i64 (k : Int))) none none).run Try.prog W = .ok (.slice A' (n - k) (c - k)) W) ∧ RdU w (.slice A' (n - k) (c - k)) (l.drop k) := by
  obtain ⟨A0, c0, he, h3, h4, h5⟩ := RdU.form h
  injection he with e1 e2 e3
  subst e1 e2 e3
  have hc := RdS.to h k hk
  have hd := RdS.cut h k l.length hk (Nat.le_refl _)
  refine ⟨?_, _, fun W => run_cut_from (P := Try.prog) 22 23 1 Try.underlying22 size23 A l.length c k hk W, ?_⟩
  · unfold RdU
    rw [List.length_take, Nat.min_eq_left hk, List.map_take]
    simpa using hc
  · have e : ((l.map u64v).drop (k * 1)).take ((l.length - k) * 1) = (l.drop k).map u64v := by
      rw [List.take_of_length_le (by simp), Nat.mul_one, List.map_drop]
    rw [e] at hd
    unfold RdU
    rw [List.length_drop]
    exact hd
theorem dj_ne {v b : Value} (h : ∀ k, b.ownBlock = some k → v.ownBlock ≠ some k) : b.ownBlock = none ∨ b.ownBlock ≠ v.ownBlock := by
  rcases hb : b.ownBlock with _ | k
  · exact .inl rfl
  · exact .inr fun e => h k hb e.symm
theorem dj_grow {w : World} {base : Nat} {e : TypeId} {v v' b : Value} {n : Nat} {ys : List Value} (h : ∀ k, b.ownBlock = some k → v.ownBlock ≠ some k) (hb : OwS w base e 1 b n ys) (ht : v'.ownBlock = v.ownBlock ∨ ∃ k, v'.ownBlock = some k ∧ w.heap.size ≤ k) :
    ∀ k, b.ownBlock = some k → v'.ownBlock ≠ some k := by
  intro k hk he
  rcases ht with ht | ⟨k', h1, h2⟩
  · exact h k hk (ht ▸ he)
  · have := (hb.lt k hk).2
    rw [h1] at he
    injection he with he
    omega
theorem dj_new {w : World} {base : Nat} {e : TypeId} {v b x : Value} {n D : Nat} {ys : List Value} (hv : OwS w base e 1 v n ys) (hD : w.heap.size ≤ D) (hx : x.ownBlock = some D) (ht : b.ownBlock = x.ownBlock ∨ ∃ k, b.ownBlock = some k ∧ w.heap.size ≤ k) :
    ∀ k, b.ownBlock = some k → v.ownBlock ≠ some k := by
  intro k hk he
  have := (hv.lt k he).2
  rcases ht with ht | ⟨k', h1, h2⟩
  · rw [ht, hx] at hk
    injection hk with hk
    omega
  · rw [h1] at hk
    injection hk with hk
    omega
set_option maxHeartbeats 4000000 in
set_option maxRecDepth 100000 in
theorem monyOrder_walk (v : Value) (l : List Nat) (at_ : Int) (w : World) (hr : RdU w v l) (hl : l.length ≤ 17592186044416) (hb : ∀ n ∈ l, n < 18446744073709551616) :
    Calls Try.prog 6 #[v, .int .i64 at_] w fun e w' => e = .returned (.bool true) ∧ Below w.heap.size w w' := by
  obtain ⟨A, c, rfl, h1, h2, h3⟩ := RdU.form hr
  have HR := As.mk hr
  have hl' : (l.length : Int) ≤ 17592186044416 := by omega
  have HBD := As.mk hb
  clear hr hl hb h2 h3 h1
  by_cases c60 : (60 : Int) < l.length
  · go_enter Try.func6, Try.ntmps6
    go_wp2_with ((go_at_call 15; (with_reducible refine (awake5_any _).mono ?_); rintro e w' ⟨rfl, hb⟩; have HA := As.mk hb; clear hb))
    go_ret
    exact ⟨rfl, HA.out⟩
  have hl60 : (l.length : Int) ≤ 60 := by omega
  clear c60 hl'
  go_enter Try.func6, Try.ntmps6
  go_wp2
  go_loopw [5, 6, 25] (fun v5 v6 v25 wr => ∃ (i : Nat) (xs : List Nat), v25 = .int .i64 (i : Int) ∧ (i : Int) ≤ l.length ∧ As (xs.length = i ∧ Both w wr v5 v6 xs)) (fun _ _ v25 _ => (l.length - intOf v25).toNat)
  case atStart => exact ⟨0, [], rfl, by omega, ⟨rfl, OwS.nil _ _ _ _, OwS.nil _ _ _ _, (fun k h => by simp [Value.ownBlock] at h), Below.refl _ _, by simp⟩⟩
  case round =>
    obtain ⟨i, xs, rfl, hi, HP⟩ := hrel
    by_cases c1 : (i : Int) < l.length
    · have hlt' : i < l.length := by omega
      obtain ⟨ad, hA, hc⟩ := RdU.at HR.out i hlt'
      subst hA
      have HC0 := As.mk hc
      replace hc := cell_of_below HP.out.2.below hc
      obtain ⟨x, hx⟩ : ∃ x, x = l.getD i 0 := ⟨_, rfl⟩
      rw [← hx] at hc HC0
      have hm : ((x : Int) % 2200000000000000) = ((x % 2200000000000000 : Nat) : Int) := by simp
      obtain ⟨m, hmm⟩ : ∃ m, m = x % 2200000000000000 := ⟨_, rfl⟩
      have hmlt : m < 2200000000000000 := by rw [hmm]; exact Nat.mod_lt _ (by omega)
      rw [← hmm] at hm
      have hml : (m : Int) ≤ 2200000000000000 := by omega
      have hxb : x < 18446744073709551616 := by
        rw [hx, List.getD_eq_getElem?_getD, List.getElem?_eq_getElem hlt']
        exact HBD.out _ (List.getElem_mem hlt')
      have hxb' : (x : Int) ≤ 18446744073709551615 := by omega
      have HML := As.mk hmlt
      have HO := As.mk HP.out.2.own
      have HK := As.mk HP.out.2.back
      have HD := As.mk HP.out.2.apart
      have HB := As.mk HP.out.2.below
      have HL := As.mk (show xs.length ≤ 60 by have := HP.out.1; omega)
      clear hx hmm hmlt hxb
      have hsz0 := As.mk (show w.heap.size ≤ wr.heap.size from HB.out.size)
      go_wp2_with (first | (at_builtin; refine wpList_app (w.heap.size) rfl (.tmp 41) (.tmp 42) 22 23 (.int .u64 0) 1 8 rfl Try.underlying22 info23 rfl (by decide) (.slice (some ⟨x1w.heap.size, 0, none⟩) 1 1) u6 rfl rfl 1 ([m].map u64v) ?own xs.reverse.length (xs.reverse.map u64v) ?rd (u64v_one _) ?b1 ?b2 ?b3 ?_; (case own => exact litn x1w _ rfl m _ HB.out.size); (case rd => exact (HK2.out.rd.alloc _)); (case b1 => have := HL.out; rw [List.length_reverse]; unfold maxLen; omega); (case b2 => have := HL.out; rw [List.length_reverse]; omega); (case b3 => have := HB.out.size; simp; omega); intro x2 x2w ho hg ht; have HK3 := As.mk (show OwU x2w w.heap.size 23 x2 ([m] ++ xs.reverse) by unfold OwU; rw [List.length_append, List.map_append]; exact ho); have HD3 := As.mk (dj_new HO2.out (Nat.le_refl _) rfl (ht.imp id (fun ⟨k, h1, h2⟩ => ⟨k, h1, by simp at h2; omega⟩))); have HO3 := As.mk ((HO2.out.alloc _).kept hg (by rcases hq : x1.ownBlock with _ | k; exact .inl rfl; exact .inr (fun e => by have := (HO2.out.lt k hq).2; simp [Value.ownBlock] at e; omega))); have HB2 := As.mk ((HB.out.alloc HB.out.size _).grown hg (by have := HB.out.size; simp; omega) (fun b hb => by have := HB.out.size; simp [Value.ownBlock] at hb; omega)); clear ho hg ht HB; have HB := HB2; clear HB2) | (at_builtin; refine wpList_app (w.heap.size) rfl (.tmp 28) (.tmp 34) 22 23 (.int .u64 0) 1 8 rfl Try.underlying22 info23 rfl (by decide) u5 (.slice (some ⟨wr.heap.size, 0, none⟩) 1 1) rfl rfl xs.length (xs.map u64v) ?own 1 ([m].map u64v) ?rd (u64v_one [m]) ?b1 ?b2 ?b3 ?_; (case own => exact OwS.alloc HO.out _); (case rd => exact RdU.one _ _ _ _ rfl); (case b1 => have := HL.out; unfold maxLen; omega); (case b2 => have := HL.out; omega); (case b3 => have := HB.out.size; simp; omega); intro x1 x1w ho hg ht; have HO2 := As.mk (show OwU x1w w.heap.size 23 x1 (xs ++ [m]) by unfold OwU; rw [List.length_append, List.map_append]; exact ho); have HK2 := As.mk ((HK.out.alloc _).kept hg (dj_ne HD.out)); have HB2 := As.mk ((HB.out.alloc HB.out.size _).grown hg (by have := HB.out.size; simp; omega) (fun b hb => (HO.out.lt b hb).1)); have hc2 := cell_of_below HB2.out HC0.out; clear ho hg ht HB; have HB := HB2; clear HB2))
      go_roundw
      case rel =>
        refine ⟨i + 1, xs ++ [m], by go_num, by omega, ⟨by have := HP.out.1; simp; omega, HO3.out, ?_, HD3.out, HB.out, ?_⟩⟩
        · rw [List.reverse_append]; exact HK3.out
        · intro n hn
          rcases List.mem_append.1 hn with h | h
          · exact HP.out.2.lt n h
          · have := HML.out; simp at h; omega
      case measure => simp [intOf]; omega
    · have hn : As (xs.length ≤ 60) := ⟨by have := HP.out.1; omega⟩
      have h255 := and255 at_
      have HO := As.mk HP.out.2.own
      have HK := As.mk HP.out.2.back
      have HB := As.mk HP.out.2.below
      obtain ⟨A5, c5, rfl, -⟩ := RdU.form HO.out.rd
      have hxl : (xs.length : Int) ≤ 60 := by have := hn.out; omega
      obtain ⟨K, hK0, hK⟩ : ∃ K : Nat, K ≤ xs.length ∧ at_ % 256 % ((xs.length : Int) + 1) = (K : Int) := ⟨(at_ % 256 % ((xs.length : Int) + 1)).toNat, by
        have h1 := Int.emod_nonneg (at_ % 256) (show (xs.length : Int) + 1 ≠ 0 by omega)
        have h2 := Int.emod_lt_of_pos (at_ % 256) (show 0 < (xs.length : Int) + 1 by omega)
        omega, by
        have h1 := Int.emod_nonneg (at_ % 256) (show (xs.length : Int) + 1 ≠ 0 by omega)
        omega⟩
      have HT0 := fun W => run_cut_to (P := Try.prog) 22 23 1 Try.underlying22 size23 A5 xs.length c5 K (by obtain ⟨_, _, he, h, _⟩ := RdU.form HO.out.rd; injection he with e1 e2 e3; omega) W
      obtain ⟨hTR, A', hS0, hDR⟩ := cutU wr A5 xs.length c5 xs HO.out.rd K hK0
      have HTR := As.mk hTR
      have HDR := As.mk hDR
      have XL := As.mk (show xs.length ≤ 17592186044416 by have := hn.out; omega)
      have RL := As.mk (show xs.reverse.length ≤ 17592186044416 by have := hn.out; simp; omega)
      have TL := As.mk (show (xs.take K).length ≤ 17592186044416 by have := hn.out; simp; omega)
      have DL := As.mk (show (xs.drop K).length ≤ 17592186044416 by have := hn.out; simp; omega)
      have XB := As.mk HP.out.2.lt
      have RB : As (∀ n ∈ xs.reverse, n < 18446744073709551616) := ⟨fun n h => XB.out n (List.mem_reverse.1 h)⟩
      have TB : As (∀ n ∈ xs.take K, n < 18446744073709551616) := ⟨fun n h => XB.out n (List.mem_of_mem_take h)⟩
      have DB : As (∀ n ∈ xs.drop K, n < 18446744073709551616) := ⟨fun n h => XB.out n (List.mem_of_mem_drop h)⟩
      have hK0i : (K : Int) ≤ xs.length := by omega
      obtain ⟨S1, hS⟩ : ∃ n, (xs.take K).sum = n := ⟨_, rfl⟩
      obtain ⟨S2, hT⟩ : ∃ n, (xs.drop K).sum = n := ⟨_, rfl⟩
      have hX : xs.sum = S1 + S2 := by rw [← hS, ← hT, ← List.sum_append, List.take_append_drop]
      have hex : (l.length : Int) ≤ i := by omega
      clear hTR hDR hK0 HP c1
      by_cases d1 : S1 ≤ 2100000000000000
      · by_cases d2 : S2 ≤ 2100000000000000
        · by_cases d3 : S1 + S2 ≤ 2100000000000000
          · have TX : As (tot xs = (S1 + S2, true)) := ⟨by unfold tot; rw [hX, if_pos (by omega)]⟩
            have TR : As (tot xs.reverse = (S1 + S2, true)) := ⟨by rw [← TX.out]; unfold tot; rw [List.sum_reverse]⟩
            have TT : As (tot (xs.take K) = (S1, true)) := ⟨by unfold tot; rw [hS, if_pos (by omega)]⟩
            have TD : As (tot (xs.drop K) = (S2, true)) := ⟨by unfold tot; rw [hT, if_pos (by omega)]⟩
            have T3 : As (tot [S1, S2] = (S1 + S2, true)) := ⟨by unfold tot; rw [show [S1, S2].sum = S1 + S2 by simp, if_pos (by omega)]⟩
            have T3L : As (∀ n ∈ [S1, S2], n < 18446744073709551616) := ⟨by simp <;> omega⟩
            clear hS hT hX d1 d2 d3
            go_wp2_with (first | (go_at_call 12; (with_reducible refine (sum_to _ [S1, S2] (S1 + S2) true _ T3.out (litp _ _ (by simp) _ _ _ _ (by first | rfl | simp) (by first | rfl | simp)) (by simp) T3L.out).mono ?_); rintro e w' ⟨rfl, rfl⟩) | (go_at_call 12; (with_reducible refine (sum_to _ (xs.drop K) S2 true _ TD.out HDR.out DL.out DB.out).mono ?_); rintro e w' ⟨rfl, rfl⟩) | (go_at_call 12; (with_reducible refine (sum_to _ (xs.take K) S1 true _ TT.out HTR.out TL.out TB.out).mono ?_); rintro e w' ⟨rfl, rfl⟩) | (go_at_call 12; (with_reducible refine (sum_to _ xs.reverse (S1 + S2) true _ TR.out HK.out.rd RL.out RB.out).mono ?_); rintro e w' ⟨rfl, rfl⟩) | (go_at_call 12; (with_reducible refine (sum_to _ xs (S1 + S2) true _ TX.out HO.out.rd XL.out XB.out).mono ?_); rintro e w' ⟨rfl, rfl⟩) | (go_at_call 15; (with_reducible refine (awake5_any _).mono ?_); rintro e w' ⟨rfl, hb⟩; have HA := As.mk hb; clear hb))
            go_ret
            exact ⟨rfl, (HB.out.alloc HB.out.size _).trans (HA.out.mono (by have := HB.out.size; simp; omega))⟩
          · have TX : As (tot xs = (0, false)) := ⟨by unfold tot; rw [hX, if_neg (by omega)]⟩
            have TR : As (tot xs.reverse = (0, false)) := ⟨by rw [← TX.out]; unfold tot; rw [List.sum_reverse]⟩
            have TT : As (tot (xs.take K) = (S1, true)) := ⟨by unfold tot; rw [hS, if_pos (by omega)]⟩
            have TD : As (tot (xs.drop K) = (S2, true)) := ⟨by unfold tot; rw [hT, if_pos (by omega)]⟩
            have T3 : As (tot [S1, S2] = (0, false)) := ⟨by unfold tot; rw [show [S1, S2].sum = S1 + S2 by simp, if_neg (by omega)]⟩
            have T3L : As (∀ n ∈ [S1, S2], n < 18446744073709551616) := ⟨by simp <;> omega⟩
            clear hS hT hX d1 d2 d3
            go_wp2_with (first | (go_at_call 12; (with_reducible refine (sum_to _ [S1, S2] (0) false _ T3.out (litp _ _ (by simp) _ _ _ _ (by first | rfl | simp) (by first | rfl | simp)) (by simp) T3L.out).mono ?_); rintro e w' ⟨rfl, rfl⟩) | (go_at_call 12; (with_reducible refine (sum_to _ (xs.drop K) S2 true _ TD.out HDR.out DL.out DB.out).mono ?_); rintro e w' ⟨rfl, rfl⟩) | (go_at_call 12; (with_reducible refine (sum_to _ (xs.take K) S1 true _ TT.out HTR.out TL.out TB.out).mono ?_); rintro e w' ⟨rfl, rfl⟩) | (go_at_call 12; (with_reducible refine (sum_to _ xs.reverse (0) false _ TR.out HK.out.rd RL.out RB.out).mono ?_); rintro e w' ⟨rfl, rfl⟩) | (go_at_call 12; (with_reducible refine (sum_to _ xs (0) false _ TX.out HO.out.rd XL.out XB.out).mono ?_); rintro e w' ⟨rfl, rfl⟩) | (go_at_call 15; (with_reducible refine (awake5_any _).mono ?_); rintro e w' ⟨rfl, hb⟩; have HA := As.mk hb; clear hb))
            go_ret
            exact ⟨rfl, (HB.out.alloc HB.out.size _).trans (HA.out.mono (by have := HB.out.size; simp; omega))⟩
        · have TX : As (tot xs = (0, false)) := ⟨by unfold tot; rw [hX, if_neg (by omega)]⟩
          have TR : As (tot xs.reverse = (0, false)) := ⟨by rw [← TX.out]; unfold tot; rw [List.sum_reverse]⟩
          have TT : As (tot (xs.take K) = (S1, true)) := ⟨by unfold tot; rw [hS, if_pos (by omega)]⟩
          have TD : As (tot (xs.drop K) = (0, false)) := ⟨by unfold tot; rw [hT, if_neg (by omega)]⟩
          have T3 : As (tot [S1, 0] = (S1, true)) := ⟨by unfold tot; rw [show [S1, 0].sum = S1 by simp, if_pos (by omega)]⟩
          have T3L : As (∀ n ∈ [S1, 0], n < 18446744073709551616) := ⟨by simp <;> omega⟩
          clear hS hT hX d1 d2
          go_wp2_with (first | (go_at_call 12; (with_reducible refine (sum_to _ [S1, 0] (S1) true _ T3.out (litp _ _ (by simp) _ _ _ _ (by first | rfl | simp) (by first | rfl | simp)) (by simp) T3L.out).mono ?_); rintro e w' ⟨rfl, rfl⟩) | (go_at_call 12; (with_reducible refine (sum_to _ (xs.drop K) 0 false _ TD.out HDR.out DL.out DB.out).mono ?_); rintro e w' ⟨rfl, rfl⟩) | (go_at_call 12; (with_reducible refine (sum_to _ (xs.take K) S1 true _ TT.out HTR.out TL.out TB.out).mono ?_); rintro e w' ⟨rfl, rfl⟩) | (go_at_call 12; (with_reducible refine (sum_to _ xs.reverse (0) false _ TR.out HK.out.rd RL.out RB.out).mono ?_); rintro e w' ⟨rfl, rfl⟩) | (go_at_call 12; (with_reducible refine (sum_to _ xs (0) false _ TX.out HO.out.rd XL.out XB.out).mono ?_); rintro e w' ⟨rfl, rfl⟩) | (go_at_call 15; (with_reducible refine (awake5_any _).mono ?_); rintro e w' ⟨rfl, hb⟩; have HA := As.mk hb; clear hb))
          go_ret
          exact ⟨rfl, (HB.out.alloc HB.out.size _).trans (HA.out.mono (by have := HB.out.size; simp; omega))⟩
      · by_cases d2 : S2 ≤ 2100000000000000
        · have TX : As (tot xs = (0, false)) := ⟨by unfold tot; rw [hX, if_neg (by omega)]⟩
          have TR : As (tot xs.reverse = (0, false)) := ⟨by rw [← TX.out]; unfold tot; rw [List.sum_reverse]⟩
          have TT : As (tot (xs.take K) = (0, false)) := ⟨by unfold tot; rw [hS, if_neg (by omega)]⟩
          have TD : As (tot (xs.drop K) = (S2, true)) := ⟨by unfold tot; rw [hT, if_pos (by omega)]⟩
          have T3 : As (tot [0, S2] = (S2, true)) := ⟨by unfold tot; rw [show [0, S2].sum = S2 by simp, if_pos (by omega)]⟩
          have T3L : As (∀ n ∈ [0, S2], n < 18446744073709551616) := ⟨by simp <;> omega⟩
          clear hS hT hX d1 d2
          go_wp2_with (first | (go_at_call 12; (with_reducible refine (sum_to _ [0, S2] (S2) true _ T3.out (litp _ _ (by simp) _ _ _ _ (by first | rfl | simp) (by first | rfl | simp)) (by simp) T3L.out).mono ?_); rintro e w' ⟨rfl, rfl⟩) | (go_at_call 12; (with_reducible refine (sum_to _ (xs.drop K) S2 true _ TD.out HDR.out DL.out DB.out).mono ?_); rintro e w' ⟨rfl, rfl⟩) | (go_at_call 12; (with_reducible refine (sum_to _ (xs.take K) 0 false _ TT.out HTR.out TL.out TB.out).mono ?_); rintro e w' ⟨rfl, rfl⟩) | (go_at_call 12; (with_reducible refine (sum_to _ xs.reverse (0) false _ TR.out HK.out.rd RL.out RB.out).mono ?_); rintro e w' ⟨rfl, rfl⟩) | (go_at_call 12; (with_reducible refine (sum_to _ xs (0) false _ TX.out HO.out.rd XL.out XB.out).mono ?_); rintro e w' ⟨rfl, rfl⟩) | (go_at_call 15; (with_reducible refine (awake5_any _).mono ?_); rintro e w' ⟨rfl, hb⟩; have HA := As.mk hb; clear hb))
          go_ret
          exact ⟨rfl, (HB.out.alloc HB.out.size _).trans (HA.out.mono (by have := HB.out.size; simp; omega))⟩
        · have TX : As (tot xs = (0, false)) := ⟨by unfold tot; rw [hX, if_neg (by omega)]⟩
          have TR : As (tot xs.reverse = (0, false)) := ⟨by rw [← TX.out]; unfold tot; rw [List.sum_reverse]⟩
          have TT : As (tot (xs.take K) = (0, false)) := ⟨by unfold tot; rw [hS, if_neg (by omega)]⟩
          have TD : As (tot (xs.drop K) = (0, false)) := ⟨by unfold tot; rw [hT, if_neg (by omega)]⟩
          have T3 : As (tot [0, 0] = (0, true)) := ⟨by unfold tot; rw [show [0, 0].sum = 0 by simp, if_pos (by omega)]⟩
          have T3L : As (∀ n ∈ [0, 0], n < 18446744073709551616) := ⟨by simp <;> omega⟩
          clear hS hT hX d1 d2
          go_wp2_with (first | (go_at_call 12; (with_reducible refine (sum_to _ [0, 0] (0) true _ T3.out (litp _ _ (by simp) _ _ _ _ (by first | rfl | simp) (by first | rfl | simp)) (by simp) T3L.out).mono ?_); rintro e w' ⟨rfl, rfl⟩) | (go_at_call 12; (with_reducible refine (sum_to _ (xs.drop K) 0 false _ TD.out HDR.out DL.out DB.out).mono ?_); rintro e w' ⟨rfl, rfl⟩) | (go_at_call 12; (with_reducible refine (sum_to _ (xs.take K) 0 false _ TT.out HTR.out TL.out TB.out).mono ?_); rintro e w' ⟨rfl, rfl⟩) | (go_at_call 12; (with_reducible refine (sum_to _ xs.reverse (0) false _ TR.out HK.out.rd RL.out RB.out).mono ?_); rintro e w' ⟨rfl, rfl⟩) | (go_at_call 12; (with_reducible refine (sum_to _ xs (0) false _ TX.out HO.out.rd XL.out XB.out).mono ?_); rintro e w' ⟨rfl, rfl⟩) | (go_at_call 15; (with_reducible refine (awake5_any _).mono ?_); rintro e w' ⟨rfl, hb⟩; have HA := As.mk hb; clear hb))
          go_ret
          exact ⟨rfl, (HB.out.alloc HB.out.size _).trans (HA.out.mono (by have := HB.out.size; simp; omega))⟩
theorem monyOrder_row (a : Option Addr) (len cap : Nat) (zs : List Int) {w : World} (h : IsRow .u64 w a len cap zs) (hb : len * 8 ≤ 140737488351232) (at_ : Int) (wat : (Lit.int .i64 at_).wf = true) : Calls Try.prog 6 #[.slice a len cap, .int .i64 at_] w fun e w' => e = .returned (.bool true) ∧ Below w.heap.size w w' := by
  obtain ⟨l, hl, hr, hlt⟩ := h.rdU
  exact monyOrder_walk _ l at_ _ hr (by omega) hlt
end Go.Proofs.Ytfbfdmgnicgalaa.W
