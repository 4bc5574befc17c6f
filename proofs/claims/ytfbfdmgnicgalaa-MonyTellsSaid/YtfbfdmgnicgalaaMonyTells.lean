/- Any amounts come to the sum that the document says, or to none; one less another likewise: the walk of MonyTells. -/
import Derived.Test.YtfbfdmgnicgalaaMonyCap
import Derived.Deep.RegionHeld3
import Derived.Deep.QuietTactic
import Derived.BigQuiet
import Derived.BigRegion
import Derived.StillTailTactics
set_option linter.unusedVariables false
set_option linter.unusedSimpArgs false
namespace Go.Proofs.Ytfbfdmgnicgalaa.W
open Go.RowKit Go.Proofs.Ytfbfdmgnicgalaa.B Go.Proofs.Ytfbfdmgnicgalaa.M Go.Proofs

theorem set_u64 (ys : List Nat) (i : Nat) (V : Int) (h : 0 ≤ V) : (ys.map u64v).set i (.int .u64 V) = (ys.set i V.toNat).map u64v := by
  rw [List.map_set]
  congr 1
  unfold u64v
  congr 1
  omega
theorem wrap_u64_bd (x : Int) : 0 ≤ IntKind.u64.wrap x ∧ IntKind.u64.wrap x < 18446744073709551616 := by
  simp only [IntKind.wrap, IntKind.bits, IntKind.signed]
  simp
  omega
set_option maxHeartbeats 4000000 in
set_option maxRecDepth 100000 in
theorem monyTells_near (v : Value) (l : List Nat) (a b : Int) (w : World) (hr : RdU w v l) (hl : l.length ≤ 60) (hb : ∀ n ∈ l, n < 18446744073709551616) (ha0 : 0 ≤ a) (ha1 : a ≤ 18446744073709551615) (hb0 : 0 ≤ b) (hb1 : b ≤ 18446744073709551615) :
    Calls Try.prog 5 #[v, .int .u64 a, .int .u64 b, .bool true] w fun e w' => e = .returned (.bool true) ∧ Below w.heap.size w w' := by
  obtain ⟨A, c, rfl, h1, h2, h3⟩ := RdU.form hr
  have HR := As.mk hr
  have hl' : (l.length : Int) ≤ 60 := by omega
  have HL := As.mk hl
  have HBD := As.mk hb
  clear hr hl hb h2 h3 h1
  go_enter Try.func5, Try.ntmps5
  go_upto_block 0 with ((at_builtin; refine wpList_app (w.heap.size) rfl (.tmp 21) (.tmp 22) 22 23 (.int .u64 0) 1 8 rfl Try.underlying22 info23 rfl (by decide) (.slice (some ⟨w.heap.size, 0, none⟩) 0 0) (.slice A l.length c) rfl rfl 0 [] ?own l.length (l.map u64v) ?rd (u64v_one _) ?b1 ?b2 ?b3 ?_; (case own => exact OwU.empty w _ _ (Nat.le_refl _)); (case rd => exact HR.out.alloc _); (case b1 => have := HL.out; unfold maxLen; omega); (case b2 => have := HL.out; omega); (case b3 => simp); intro x1 x1w ho hg ht; have HO := As.mk (show OwU x1w w.heap.size 23 x1 l by simpa using ho); have HB := As.mk ((Below.refl w.heap.size w).alloc (Nat.le_refl _) (.cells #[] 23) |>.grown hg (by simp) (by simp [Value.ownBlock])); clear ho hg ht; obtain ⟨A1, c1, rfl, -⟩ := RdU.form HO.out.rd))
  go_cut [9] (fun v9 wc => ∃ (A9 : Option Addr) (c9 : Nat) (ys : List Nat), v9 = .slice A9 l.length c9 ∧ As (ys.length = l.length ∧ OwS wc w.heap.size 23 1 (.slice A9 l.length c9) l.length (ys.map u64v) ∧ Below w.heap.size w wc ∧ ∀ n ∈ ys, n < 18446744073709551616))
  case first =>
    go_wp2
    go_loopw [27] (fun v27 wr => ∃ (i : Nat) (ys : List Nat), v27 = .int .i64 (i : Int) ∧ (i : Int) ≤ l.length ∧ As (ys.length = l.length ∧ OwS wr w.heap.size 23 1 (.slice A1 l.length c1) l.length (ys.map u64v) ∧ Below w.heap.size w wr ∧ ∀ n ∈ ys, n < 18446744073709551616)) (fun v27 _ => (l.length - intOf v27).toNat)
    case atStart => exact ⟨0, l, rfl, by omega, ⟨rfl, HO.out, HB.out, HBD.out⟩⟩
    case round =>
      obtain ⟨i, ys, rfl, hi, HP⟩ := hrel
      by_cases c2 : (i : Int) < l.length
      · have hlt' : i < l.length := by omega
        obtain ⟨ad, hA, hc⟩ := RdU.at HR.out i hlt'
        subst hA
        replace hc := cell_of_below HP.out.2.2.1 hc
        obtain ⟨g, off, hA1, hbg, -, hsome, hfr⟩ := OwS.cellAt HP.out.2.1 i hlt'
        subst hA1
        obtain ⟨old, hold⟩ := Option.isSome_iff_exists.1 hsome
        have hz : ((l.length : Int) == 0) = false := beq_eq_false_iff_ne.mpr (by omega)
        clear hsome
        have HBG := As.mk hbg
        have hw1 : IntKind.u64.wrap (l.length : Int) = (l.length : Int) := IntWalk.u64_in _ (by omega)
        have hne : ¬ l = [] := by intro e; rw [e] at hlt'; simp at hlt'
        clear hbg
        go_wp2
        go_still_tail 13, (by kernel_rfl)
        change wpList _ _ _ _ _ wr.drew
        go_wp2
        go_roundw
        case rel =>
          have hV := wrap_u64_bd (IntKind.u64.wrap (2100000000000000 / ↑l.length + bits BinOp.and IntKind.u64 (↑l[i]) 3) - 1)
          generalize IntKind.u64.wrap (IntKind.u64.wrap (2100000000000000 / ↑l.length + bits BinOp.and IntKind.u64 (↑l[i]) 3) - 1) = V at *
          have hs := HP.out.2.1.set i hlt' (.int .u64 V)
          rw [set_u64 ys i V hV.1] at hs
          refine ⟨i + 1, ys.set i V.toNat, by go_num, by omega, ⟨by rw [List.length_set]; exact HP.out.1, hs, (HP.out.2.2.1.setCell (p := ⟨g, off + i, none⟩) HBG.out (.int .u64 V)).drew, ?_⟩⟩
          intro n hn
          rcases List.mem_or_eq_of_mem_set hn with h | rfl
          · exact HP.out.2.2.2 n h
          · omega
        case measure => simp [intOf]; omega
      · go_wp2
        go_meet
        case rel => exact ⟨A1, c1, ys, rfl, HP⟩
  case rest =>
    obtain ⟨A9, c9, ys, rfl, HC⟩ := hcut
    have HY := As.mk HC.out.1
    have HO9 : As (OwU wc w.heap.size 23 (.slice A9 l.length c9) ys) := ⟨by unfold OwU; rw [HC.out.1]; exact HC.out.2.1⟩
    have HB9 := As.mk HC.out.2.2.1
    have HYB := As.mk HC.out.2.2.2
    obtain ⟨t1, t2, ht⟩ : ∃ t1 t2, tot ys = (t1, t2) := ⟨_, _, rfl⟩
    have HT := As.mk ht
    clear HC ht HO HB
    by_cases ab : a < b
    · by_cases ac : a ≤ 2100000000000000
      · go_wp2_with (first | (go_at_call 12; (with_reducible refine (sum_to _ ys t1 t2 _ HT.out HO9.out.rd (by have := HL.out; have := HY.out; omega) HYB.out).mono ?_); rintro e w' ⟨rfl, rfl⟩) | (go_at_call 16; (with_reducible refine (total_to _ ys t1 t2 _ HT.out HO9.out.rd (by have := HL.out; have := HY.out; omega) HYB.out).mono ?_); rintro e w' ⟨rfl, rfl⟩) | (go_at_call 13; (with_reducible refine (less_no _ _ _ (by omega)).mono ?_); rintro e w' ⟨rfl, rfl⟩) | (go_at_call 13; (with_reducible refine (less_yes _ _ _ (by omega) (by omega) (by omega)).mono ?_); rintro e w' ⟨rfl, rfl⟩) | (go_at_call 14; (with_reducible refine (ok_yes _ _ (by omega)).mono ?_); rintro e w' ⟨rfl, rfl⟩) | (go_at_call 14; (with_reducible refine (ok_no _ _ (by omega)).mono ?_); rintro e w' ⟨rfl, rfl⟩) | (go_at_call 15; (with_reducible refine (awake5_any _).mono ?_); rintro e w' ⟨rfl, hb⟩; have HA := As.mk hb; clear hb))
        go_ret
        exact ⟨by first | rfl | (simp; omega), HB9.out.trans (HA.out.mono HB9.out.size)⟩
      · have ac' : 2100000000000000 < a := by omega
        go_wp2_with (first | (go_at_call 12; (with_reducible refine (sum_to _ ys t1 t2 _ HT.out HO9.out.rd (by have := HL.out; have := HY.out; omega) HYB.out).mono ?_); rintro e w' ⟨rfl, rfl⟩) | (go_at_call 16; (with_reducible refine (total_to _ ys t1 t2 _ HT.out HO9.out.rd (by have := HL.out; have := HY.out; omega) HYB.out).mono ?_); rintro e w' ⟨rfl, rfl⟩) | (go_at_call 13; (with_reducible refine (less_no _ _ _ (by omega)).mono ?_); rintro e w' ⟨rfl, rfl⟩) | (go_at_call 13; (with_reducible refine (less_yes _ _ _ (by omega) (by omega) (by omega)).mono ?_); rintro e w' ⟨rfl, rfl⟩) | (go_at_call 14; (with_reducible refine (ok_yes _ _ (by omega)).mono ?_); rintro e w' ⟨rfl, rfl⟩) | (go_at_call 14; (with_reducible refine (ok_no _ _ (by omega)).mono ?_); rintro e w' ⟨rfl, rfl⟩) | (go_at_call 15; (with_reducible refine (awake5_any _).mono ?_); rintro e w' ⟨rfl, hb⟩; have HA := As.mk hb; clear hb))
        go_ret
        exact ⟨by first | rfl | (simp; omega), HB9.out.trans (HA.out.mono HB9.out.size)⟩
    · have ab' : b ≤ a := by omega
      by_cases ac : a ≤ 2100000000000000
      · go_wp2_with (first | (go_at_call 12; (with_reducible refine (sum_to _ ys t1 t2 _ HT.out HO9.out.rd (by have := HL.out; have := HY.out; omega) HYB.out).mono ?_); rintro e w' ⟨rfl, rfl⟩) | (go_at_call 16; (with_reducible refine (total_to _ ys t1 t2 _ HT.out HO9.out.rd (by have := HL.out; have := HY.out; omega) HYB.out).mono ?_); rintro e w' ⟨rfl, rfl⟩) | (go_at_call 13; (with_reducible refine (less_no _ _ _ (by omega)).mono ?_); rintro e w' ⟨rfl, rfl⟩) | (go_at_call 13; (with_reducible refine (less_yes _ _ _ (by omega) (by omega) (by omega)).mono ?_); rintro e w' ⟨rfl, rfl⟩) | (go_at_call 14; (with_reducible refine (ok_yes _ _ (by omega)).mono ?_); rintro e w' ⟨rfl, rfl⟩) | (go_at_call 14; (with_reducible refine (ok_no _ _ (by omega)).mono ?_); rintro e w' ⟨rfl, rfl⟩) | (go_at_call 15; (with_reducible refine (awake5_any _).mono ?_); rintro e w' ⟨rfl, hb⟩; have HA := As.mk hb; clear hb))
        go_ret
        exact ⟨by first | rfl | (simp; omega), HB9.out.trans (HA.out.mono HB9.out.size)⟩
      · have ac' : 2100000000000000 < a := by omega
        go_wp2_with (first | (go_at_call 12; (with_reducible refine (sum_to _ ys t1 t2 _ HT.out HO9.out.rd (by have := HL.out; have := HY.out; omega) HYB.out).mono ?_); rintro e w' ⟨rfl, rfl⟩) | (go_at_call 16; (with_reducible refine (total_to _ ys t1 t2 _ HT.out HO9.out.rd (by have := HL.out; have := HY.out; omega) HYB.out).mono ?_); rintro e w' ⟨rfl, rfl⟩) | (go_at_call 13; (with_reducible refine (less_no _ _ _ (by omega)).mono ?_); rintro e w' ⟨rfl, rfl⟩) | (go_at_call 13; (with_reducible refine (less_yes _ _ _ (by omega) (by omega) (by omega)).mono ?_); rintro e w' ⟨rfl, rfl⟩) | (go_at_call 14; (with_reducible refine (ok_yes _ _ (by omega)).mono ?_); rintro e w' ⟨rfl, rfl⟩) | (go_at_call 14; (with_reducible refine (ok_no _ _ (by omega)).mono ?_); rintro e w' ⟨rfl, rfl⟩) | (go_at_call 15; (with_reducible refine (awake5_any _).mono ?_); rintro e w' ⟨rfl, hb⟩; have HA := As.mk hb; clear hb))
        go_ret
        exact ⟨by first | rfl | (simp; omega), HB9.out.trans (HA.out.mono HB9.out.size)⟩
set_option maxHeartbeats 4000000 in
set_option maxRecDepth 100000 in
theorem monyTells_far (v : Value) (l : List Nat) (a b : Int) (w : World) (hr : RdU w v l) (hl : l.length ≤ 60) (hb : ∀ n ∈ l, n < 18446744073709551616) (ha0 : 0 ≤ a) (ha1 : a ≤ 18446744073709551615) (hb0 : 0 ≤ b) (hb1 : b ≤ 18446744073709551615) :
    Calls Try.prog 5 #[v, .int .u64 a, .int .u64 b, .bool false] w fun e w' => e = .returned (.bool true) ∧ Below w.heap.size w w' := by
  obtain ⟨A, c, rfl, h1, h2, h3⟩ := RdU.form hr
  have HR := As.mk hr
  have hl' : (l.length : Int) ≤ 60 := by omega
  have HL := As.mk hl
  have HYB := As.mk hb
  obtain ⟨ys, hys⟩ : ∃ ys, ys = l := ⟨_, rfl⟩
  have HY := As.mk (show ys.length = l.length by rw [hys])
  have HYB : As (∀ n ∈ ys, n < 18446744073709551616) := ⟨by rw [hys]; exact hb⟩
  have HYS := As.mk hys
  obtain ⟨t1, t2, ht⟩ : ∃ t1 t2, tot ys = (t1, t2) := ⟨_, _, rfl⟩
  have HT := As.mk ht
  clear hr hl hb h2 h3 h1 hys ht
  go_enter Try.func5, Try.ntmps5
  go_upto_region 4 with ((at_builtin; refine wpList_app (w.heap.size) rfl (.tmp 21) (.tmp 22) 22 23 (.int .u64 0) 1 8 rfl Try.underlying22 info23 rfl (by decide) (.slice (some ⟨w.heap.size, 0, none⟩) 0 0) (.slice A l.length c) rfl rfl 0 [] ?own l.length (l.map u64v) ?rd (u64v_one _) ?b1 ?b2 ?b3 ?_; (case own => exact OwU.empty w _ _ (Nat.le_refl _)); (case rd => exact HR.out.alloc _); (case b1 => have := HL.out; unfold maxLen; omega); (case b2 => have := HL.out; omega); (case b3 => simp); intro x1 x1w ho hg ht; have HO := As.mk (show OwU x1w w.heap.size 23 x1 l by simpa using ho); have HB := As.mk ((Below.refl w.heap.size w).alloc (Nat.le_refl _) (.cells #[] 23) |>.grown hg (by simp) (by simp [Value.ownBlock])); clear ho hg ht; have HO9 := As.mk (show OwU x1w w.heap.size 23 x1 ys by rw [HYS.out]; exact HO.out); have HB9 := HB; clear HO HB; obtain ⟨A9, c9, rfl, -⟩ := RdU.form HO9.out.rd))
  by_cases ab : a < b
  · by_cases ac : a ≤ 2100000000000000
    · go_wp2_with (first | (go_at_call 12; (with_reducible refine (sum_to _ ys t1 t2 _ HT.out HO9.out.rd (by have := HL.out; have := HY.out; omega) HYB.out).mono ?_); rintro e w' ⟨rfl, rfl⟩) | (go_at_call 16; (with_reducible refine (total_to _ ys t1 t2 _ HT.out HO9.out.rd (by have := HL.out; have := HY.out; omega) HYB.out).mono ?_); rintro e w' ⟨rfl, rfl⟩) | (go_at_call 13; (with_reducible refine (less_no _ _ _ (by omega)).mono ?_); rintro e w' ⟨rfl, rfl⟩) | (go_at_call 13; (with_reducible refine (less_yes _ _ _ (by omega) (by omega) (by omega)).mono ?_); rintro e w' ⟨rfl, rfl⟩) | (go_at_call 14; (with_reducible refine (ok_yes _ _ (by omega)).mono ?_); rintro e w' ⟨rfl, rfl⟩) | (go_at_call 14; (with_reducible refine (ok_no _ _ (by omega)).mono ?_); rintro e w' ⟨rfl, rfl⟩) | (go_at_call 15; (with_reducible refine (awake5_any _).mono ?_); rintro e w' ⟨rfl, hb⟩; have HA := As.mk hb; clear hb))
      go_ret
      exact ⟨by first | rfl | (simp; omega), HB9.out.trans (HA.out.mono HB9.out.size)⟩
    · have ac' : 2100000000000000 < a := by omega
      go_wp2_with (first | (go_at_call 12; (with_reducible refine (sum_to _ ys t1 t2 _ HT.out HO9.out.rd (by have := HL.out; have := HY.out; omega) HYB.out).mono ?_); rintro e w' ⟨rfl, rfl⟩) | (go_at_call 16; (with_reducible refine (total_to _ ys t1 t2 _ HT.out HO9.out.rd (by have := HL.out; have := HY.out; omega) HYB.out).mono ?_); rintro e w' ⟨rfl, rfl⟩) | (go_at_call 13; (with_reducible refine (less_no _ _ _ (by omega)).mono ?_); rintro e w' ⟨rfl, rfl⟩) | (go_at_call 13; (with_reducible refine (less_yes _ _ _ (by omega) (by omega) (by omega)).mono ?_); rintro e w' ⟨rfl, rfl⟩) | (go_at_call 14; (with_reducible refine (ok_yes _ _ (by omega)).mono ?_); rintro e w' ⟨rfl, rfl⟩) | (go_at_call 14; (with_reducible refine (ok_no _ _ (by omega)).mono ?_); rintro e w' ⟨rfl, rfl⟩) | (go_at_call 15; (with_reducible refine (awake5_any _).mono ?_); rintro e w' ⟨rfl, hb⟩; have HA := As.mk hb; clear hb))
      go_ret
      exact ⟨by first | rfl | (simp; omega), HB9.out.trans (HA.out.mono HB9.out.size)⟩
  · have ab' : b ≤ a := by omega
    by_cases ac : a ≤ 2100000000000000
    · go_wp2_with (first | (go_at_call 12; (with_reducible refine (sum_to _ ys t1 t2 _ HT.out HO9.out.rd (by have := HL.out; have := HY.out; omega) HYB.out).mono ?_); rintro e w' ⟨rfl, rfl⟩) | (go_at_call 16; (with_reducible refine (total_to _ ys t1 t2 _ HT.out HO9.out.rd (by have := HL.out; have := HY.out; omega) HYB.out).mono ?_); rintro e w' ⟨rfl, rfl⟩) | (go_at_call 13; (with_reducible refine (less_no _ _ _ (by omega)).mono ?_); rintro e w' ⟨rfl, rfl⟩) | (go_at_call 13; (with_reducible refine (less_yes _ _ _ (by omega) (by omega) (by omega)).mono ?_); rintro e w' ⟨rfl, rfl⟩) | (go_at_call 14; (with_reducible refine (ok_yes _ _ (by omega)).mono ?_); rintro e w' ⟨rfl, rfl⟩) | (go_at_call 14; (with_reducible refine (ok_no _ _ (by omega)).mono ?_); rintro e w' ⟨rfl, rfl⟩) | (go_at_call 15; (with_reducible refine (awake5_any _).mono ?_); rintro e w' ⟨rfl, hb⟩; have HA := As.mk hb; clear hb))
      go_ret
      exact ⟨by first | rfl | (simp; omega), HB9.out.trans (HA.out.mono HB9.out.size)⟩
    · have ac' : 2100000000000000 < a := by omega
      go_wp2_with (first | (go_at_call 12; (with_reducible refine (sum_to _ ys t1 t2 _ HT.out HO9.out.rd (by have := HL.out; have := HY.out; omega) HYB.out).mono ?_); rintro e w' ⟨rfl, rfl⟩) | (go_at_call 16; (with_reducible refine (total_to _ ys t1 t2 _ HT.out HO9.out.rd (by have := HL.out; have := HY.out; omega) HYB.out).mono ?_); rintro e w' ⟨rfl, rfl⟩) | (go_at_call 13; (with_reducible refine (less_no _ _ _ (by omega)).mono ?_); rintro e w' ⟨rfl, rfl⟩) | (go_at_call 13; (with_reducible refine (less_yes _ _ _ (by omega) (by omega) (by omega)).mono ?_); rintro e w' ⟨rfl, rfl⟩) | (go_at_call 14; (with_reducible refine (ok_yes _ _ (by omega)).mono ?_); rintro e w' ⟨rfl, rfl⟩) | (go_at_call 14; (with_reducible refine (ok_no _ _ (by omega)).mono ?_); rintro e w' ⟨rfl, rfl⟩) | (go_at_call 15; (with_reducible refine (awake5_any _).mono ?_); rintro e w' ⟨rfl, hb⟩; have HA := As.mk hb; clear hb))
      go_ret
      exact ⟨by first | rfl | (simp; omega), HB9.out.trans (HA.out.mono HB9.out.size)⟩
set_option maxHeartbeats 1000000 in
set_option maxRecDepth 100000 in
theorem monyTells_long (v : Value) (l : List Nat) (a b : Int) (c : Bool) (w : World) (hr : RdU w v l) (hl : 60 < l.length) (hl2 : l.length ≤ 17592186044416) :
    Calls Try.prog 5 #[v, .int .u64 a, .int .u64 b, .bool c] w fun e w' => e = .returned (.bool true) ∧ Below w.heap.size w w' := by
  obtain ⟨A, c, rfl, h1, h2, h3⟩ := RdU.form hr
  have hl' : (60 : Int) < (l.length : Int) := by omega
  have hl2' : (l.length : Int) ≤ 17592186044416 := by omega
  clear hr hl h2 h3 h1 hl2
  go_enter Try.func5, Try.ntmps5
  go_wp2_with ((go_at_call 15; (with_reducible refine (awake5_any _).mono ?_); rintro e w' ⟨rfl, hb⟩; have HA := As.mk hb; clear hb))
  go_ret
  exact ⟨rfl, HA.out⟩
theorem monyTells_row (a0 : Option Addr) (len cap : Nat) (zs : List Int) {w : World} (h : IsRow .u64 w a0 len cap zs) (hb : len * 8 ≤ 140737488351232) (a : Int) (wa : (Lit.int .u64 a).wf = true) (b : Int) (wb : (Lit.int .u64 b).wf = true) (near : Bool) :
    Calls Try.prog 5 #[.slice a0 len cap, .int .u64 a, .int .u64 b, .bool near] w fun e w' => e = .returned (.bool true) ∧ Below w.heap.size w w' := by
  obtain ⟨l, hl, hr, hlt⟩ := h.rdU
  have ha := bounds_u64 wa
  have hb' := bounds_u64 wb
  by_cases h60 : l.length ≤ 60
  · cases near with
    | true => exact monyTells_near _ l a b _ hr h60 hlt ha.1 ha.2 hb'.1 hb'.2
    | false => exact monyTells_far _ l a b _ hr h60 hlt ha.1 ha.2 hb'.1 hb'.2
  · exact monyTells_long _ l a b near _ hr (by omega) (by omega)
end Go.Proofs.Ytfbfdmgnicgalaa.W
