/- However the cap is parted, its parts sum to it, and one more does not: the walk of MonyCap. -/
import Derived.Test.YtfbfdmgnicgalaaM2
import Derived.Deep.DeepCutAuto
import Derived.Deep.CutBlock
set_option linter.unusedVariables false
set_option linter.unusedSimpArgs false
namespace Go.Proofs.Ytfbfdmgnicgalaa.W
open Go.RowKit Go.Proofs.Ytfbfdmgnicgalaa.B Go.Proofs.Ytfbfdmgnicgalaa.M Go.Proofs

theorem info23 : (Try.prog.info? 23).map (fun i => (i.zero, i.size, i.bytes)) = some (some (.int .u64 0), 1, 8) := by kernel_rfl
theorem le_sum : ∀ (l : List Nat) (n : Nat), n ∈ l → n ≤ l.sum
  | a :: r, n, h => by
    rw [List.sum_cons]
    rcases List.mem_cons.1 h with rfl | h
    · omega
    · have := le_sum r n h; omega
/-- What holds of the parts that have been taken so far. -/
structure Parts (w wr : World) (v : Value) (xs : List Nat) (R : Nat) : Prop where
  own : OwU wr w.heap.size 23 v xs
  below : Below w.heap.size w wr
  sum : xs.sum + R = 2100000000000000
  len : xs.length ≤ 20
theorem Parts.lt {w wr : World} {v : Value} {xs : List Nat} {R : Nat} (h : Parts w wr v xs R) : ∀ n ∈ xs, n < 18446744073709551616 := by
  intro n hn
  have h1 : n ≤ xs.sum := le_sum xs n hn
  have := h.sum
  omega
set_option maxHeartbeats 4000000 in
set_option maxRecDepth 100000 in
theorem monyCap_walk (v : Value) (l : List Nat) (w : World) (hr : RdU w v l) (hl : l.length ≤ 17592186044416) (hb : ∀ n ∈ l, n < 18446744073709551616) :
    Calls Try.prog 3 #[v] w fun e w' => e = .returned (.bool true) ∧ Below w.heap.size w w' := by
  obtain ⟨A, c, rfl, h1, h2, h3⟩ := RdU.form hr
  have HR := As.mk hr
  have hl' : (l.length : Int) ≤ 17592186044416 := by omega
  have HBD := As.mk hb
  clear hr hl hb h2 h3 h1
  go_enter Try.func3, Try.ntmps3
  go_upto_block 0 with (fail)
  go_cut [4, 5] (fun v4 v5 wc => ∃ (R : Nat) (xs : List Nat), v4 = .int .u64 (R : Int) ∧ (R : Int) ≤ 2100000000000000 ∧ As (Parts w wc v5 xs R))
  case first =>
    go_wp2
    go_loopw [4, 5, 6] (fun v4 v5 v6 wr => ∃ (i R : Nat) (xs : List Nat), v4 = .int .u64 (R : Int) ∧ v6 = .int .i64 (i : Int) ∧ (i : Int) ≤ 20 ∧ (R : Int) ≤ 2100000000000000 ∧ As (xs.length = i ∧ Parts w wr v5 xs R)) (fun _ _ v6 _ => (20 - intOf v6).toNat)
    case atStart => exact ⟨0, 2100000000000000, [], rfl, rfl, by omega, by omega, ⟨rfl, OwS.nil _ _ _ _, Below.refl _ _, rfl, by simp⟩⟩
    case round =>
      obtain ⟨i, R, xs, rfl, rfl, hi, hR, HP⟩ := hrel
      by_cases c1 : (i : Int) < l.length
      · by_cases c2 : (i : Int) < 20
        · have hlt' : i < l.length := by omega
          obtain ⟨ad, hA, hc⟩ := RdU.at HR.out i hlt'
          subst hA
          replace hc := cell_of_below HP.out.2.below hc
          have hbd : l.getD i 0 < 18446744073709551616 := by
            rw [List.getD_eq_getElem?_getD, List.getElem?_eq_getElem hlt']
            exact HBD.out _ (List.getElem_mem hlt')
          obtain ⟨x, hx⟩ : ∃ x, x = l.getD i 0 := ⟨_, rfl⟩
          rw [← hx] at hc hbd
          have hbd' : (x : Int) ≤ 18446744073709551615 := by omega
          have hm : ((x : Int) % ((R : Int) + 1)) = ((x % (R + 1) : Nat) : Int) := by simp
          have hm' : x % (R + 1) ≤ R := by have := Nat.mod_lt x (show 0 < R + 1 by omega); omega
          have HM := As.mk hm'
          obtain ⟨m, hmm⟩ : ∃ m, m = x % (R + 1) := ⟨_, rfl⟩
          rw [← hmm] at hm hm'
          have hmi : (m : Int) ≤ R := by omega
          have hz : ((R : Int) + 1 == 0) = false := by simp; omega
          have HMM := As.mk hmm
          have hl20 := As.mk (show xs.length < 20 by have := HP.out.1; omega)
          have HO := As.mk HP.out.2.own
          have HB := As.mk HP.out.2.below
          clear hx hbd hm' hmm
          go_wp2_with (at_builtin; refine wpList_app (w.heap.size) rfl (.tmp 32) (.tmp 34) 22 23 (.int .u64 0) 1 8 rfl Try.underlying22 info23 rfl (by decide) (u5) (.slice (some ⟨(wr).heap.size, 0, none⟩) 1 1) rfl rfl (xs).length ((xs).map u64v) ?own 1 ([m].map u64v) ?rd (u64v_one [m]) ?b1 ?b2 ?b3 ?_; (case own => exact OwS.alloc HO.out _); (case rd => exact RdU.one _ _ _ _ (by first | rfl | go_num | simp)); (case b1 => have := (hl20.out); unfold maxLen; (try simp only [List.length_append, List.length_singleton] at *); omega); (case b2 => have := (hl20.out); (try simp only [List.length_append, List.length_singleton] at *); omega); (case b3 => have := HB.out.size; simp; omega); intro v' v'w ho hg ht; have HO2 := As.mk (show OwU v'w (w.heap.size) 23 v' ((xs) ++ [m]) by unfold OwU; rw [List.length_append, List.map_append]; exact ho); have HB2 := As.mk ((HB.out.alloc HB.out.size _).grown hg (by have := HB.out.size; simp; omega) (fun b hb => (HO.out.lt b hb).1)); clear ho hg ht; clear HB; have HB := HB2; clear HB2)
          go_roundw
          case rel =>
            refine ⟨i + 1, R - m, xs ++ [m], by congr 1; omega, by go_num, by omega, by omega, ⟨?_, HO2.out, HB.out, ?_, ?_⟩⟩
            · have := HP.out.1; simp; omega
            · have := HP.out.2.sum; simp; omega
            · have := hl20.out; simp; omega
          case measure => simp [intOf]; omega
        · go_wp2
          go_meet
          case rel => exact ⟨R, xs, rfl, hR, ⟨HP.out.2⟩⟩
      · go_wp2
        go_meet
        case rel => exact ⟨R, xs, rfl, hR, ⟨HP.out.2⟩⟩
  case rest =>
    obtain ⟨R, xs, rfl, hR, HP⟩ := hcut
    have HO := As.mk HP.out.own
    have HB := As.mk HP.out.below
    have HL := As.mk HP.out.len
    have HL1 := As.mk (show (xs ++ [R]).length ≤ 21 by have := HP.out.len; simp; omega)
    have hsum : (xs ++ [R]).sum = 2100000000000000 := by have := HP.out.sum; simp; omega
    have hlt : ∀ n ∈ xs ++ [R], n < 18446744073709551616 := by
      intro n hn
      have := le_sum _ n hn
      omega
    have hlt1 : ∀ n ∈ xs ++ [R] ++ [1], n < 18446744073709551616 := by
      intro n hn
      rcases List.mem_append.1 hn with h | h
      · exact hlt n h
      · simp at h; omega
    have T1 : As (tot (xs ++ [R]) = (2100000000000000, true)) := ⟨by unfold tot; rw [hsum]; rfl⟩
    have T2 : As (tot (xs ++ [R] ++ [1]) = (0, false)) := ⟨by unfold tot; rw [List.sum_append, hsum]; rfl⟩
    have L1 := As.mk hlt
    have L2 := As.mk hlt1
    have hR0 : 0 ≤ (R : Int) := by omega
    clear HP hsum hlt hlt1
    go_wp2_with (first | (at_builtin; refine wpList_app (w.heap.size) rfl (.tmp 49) (.tmp 50) 22 23 (.int .u64 0) 1 8 rfl Try.underlying22 info23 rfl (by decide) (x1) (.slice (some ⟨(x1w).heap.size, 0, none⟩) 1 1) rfl rfl (xs ++ [R]).length ((xs ++ [R]).map u64v) ?own 1 ([1].map u64v) ?rd (u64v_one [1]) ?b1 ?b2 ?b3 ?_; (case own => exact OwS.alloc HO2.out _); (case rd => exact RdU.one _ _ _ _ (by first | rfl | go_num | simp)); (case b1 => have := (HL1.out); unfold maxLen; (try simp only [List.length_append, List.length_singleton] at *); omega); (case b2 => have := (HL1.out); (try simp only [List.length_append, List.length_singleton] at *); omega); (case b3 => have := HB.out.size; simp; omega); intro x2 x2w ho hg ht; have HO3 := As.mk (show OwU x2w (w.heap.size) 23 x2 ((xs ++ [R]) ++ [1]) by unfold OwU; rw [List.length_append, List.map_append]; exact ho); have HB2 := As.mk ((HB.out.alloc HB.out.size _).grown hg (by have := HB.out.size; simp; omega) (fun b hb => (HO2.out.lt b hb).1)); clear ho hg ht; clear HB; have HB := HB2; clear HB2) | (at_builtin; refine wpList_app (w.heap.size) rfl (.tmp 39) (.tmp 41) 22 23 (.int .u64 0) 1 8 rfl Try.underlying22 info23 rfl (by decide) (u5) (.slice (some ⟨(wc).heap.size, 0, none⟩) 1 1) rfl rfl (xs).length ((xs).map u64v) ?own 1 ([R].map u64v) ?rd (u64v_one [R]) ?b1 ?b2 ?b3 ?_; (case own => exact OwS.alloc HO.out _); (case rd => exact RdU.one _ _ _ _ (by first | rfl | go_num | simp)); (case b1 => have := (HL.out); unfold maxLen; (try simp only [List.length_append, List.length_singleton] at *); omega); (case b2 => have := (HL.out); (try simp only [List.length_append, List.length_singleton] at *); omega); (case b3 => have := HB.out.size; simp; omega); intro x1 x1w ho hg ht; have HO2 := As.mk (show OwU x1w (w.heap.size) 23 x1 ((xs) ++ [R]) by unfold OwU; rw [List.length_append, List.map_append]; exact ho); have HB2 := As.mk ((HB.out.alloc HB.out.size _).grown hg (by have := HB.out.size; simp; omega) (fun b hb => (HO.out.lt b hb).1)); clear ho hg ht; clear HB; have HB := HB2; clear HB2) | (go_at_call 12; (with_reducible refine (sum_to _ (xs ++ [R] ++ [1]) 0 false _ T2.out HO3.out.rd (by have := HL.out; simp; omega) L2.out).mono ?_); rintro e w' ⟨rfl, rfl⟩) | (go_at_call 12; (with_reducible refine (sum_to _ (xs ++ [R]) 2100000000000000 true _ T1.out HO2.out.rd (by have := HL.out; simp; omega) L1.out).mono ?_); rintro e w' ⟨rfl, rfl⟩) | (go_at_call 13; (with_reducible refine (less_yes _ _ _ (by omega) (by omega) (by omega)).mono ?_); rintro e w' ⟨rfl, rfl⟩) | (go_at_call 14; (with_reducible refine (ok_yes _ _ (by omega)).mono ?_); rintro e w' ⟨rfl, rfl⟩) | (go_at_call 14; (with_reducible refine (ok_no _ _ (by omega)).mono ?_); rintro e w' ⟨rfl, rfl⟩) | (go_at_call 15; (with_reducible refine (awake5_any _).mono ?_); rintro e w' ⟨rfl, hb⟩; have HA := As.mk hb; clear hb))
    go_ret
    exact ⟨rfl, HB.out.trans (HA.out.mono HB.out.size)⟩
theorem monyCap_row (a : Option Addr) (len cap : Nat) (zs : List Int) {w : World} (h : IsRow .u64 w a len cap zs) (hb : len * 8 ≤ 140737488351232) : Calls Try.prog 3 #[.slice a len cap] w fun e w' => e = .returned (.bool true) ∧ Below w.heap.size w w' := by
  obtain ⟨l, hl, hr, hlt⟩ := h.rdU
  exact monyCap_walk _ l _ hr (by omega) hlt
end Go.Proofs.Ytfbfdmgnicgalaa.W
