/- txns.Same. -/
import Derived.Test.YtfggkljgfadacaaT18
set_option linter.unusedVariables false
set_option linter.unusedSimpArgs false
namespace Go.Proofs.Ytfggkljgfadacaa.W
open Go.RowKit Go.Proofs.Ytfggkljgfadacaa.B Go.Proofs

set_option maxHeartbeats 1000000 in
set_option maxRecDepth 100000 in
theorem eqins_any (v v' : Value) (xs ys : List LIn) (w : World) (hr : RdIns w v xs) (hr' : RdIns w v' ys) :
    Calls Try.prog 78 #[v, v', .func (.func 79) #[] #[]] w fun e w' => e = .returned (.bool (decide (xs = ys))) ∧ Below w.heap.size w w' := by
  obtain ⟨A, c, rfl, _⟩ := hr.form
  obtain ⟨A', c', rfl, _⟩ := hr'.form
  have HR := As.mk hr
  have HR' := As.mk hr'
  have hm : (xs.length : Int) ≤ 9223372036854775807 := by have := hr.len; unfold maxLen at this; omega
  have hm' : (ys.length : Int) ≤ 9223372036854775807 := by have := hr'.len; unfold maxLen at this; omega
  clear hr hr'
  by_cases hl : xs.length = ys.length
  · have HL := As.mk hl
    have hlt' : (xs.length : Int) ≤ ys.length := by omega
    have hd : ((xs.length : Int) != (ys.length : Int)) = false := by rw [hl]; exact bne_self_eq_false _
    clear hl
    go_enter Try.func78, Try.ntmps78
    go_wp2
    go_loopw [17] (fun v17 wr => ∃ k : Nat, v17 = .int .i64 (k : Int) ∧ (k : Int) ≤ xs.length ∧ As (Below w.heap.size w wr) ∧ As (xs.take k = ys.take k)) (fun v17 _ => xs.length - (intOf v17).toNat)
    case atStart => exact ⟨0, rfl, by omega, ⟨Below.refl _ _⟩, ⟨rfl⟩⟩
    case round =>
      obtain ⟨k, rfl, hk, HB, HJ⟩ := hrel
      by_cases hlt : (k : Int) < xs.length
      · obtain ⟨x, hx⟩ : ∃ x, xs[k]? = some x := ⟨_, List.getElem?_eq_getElem (by omega)⟩
        obtain ⟨y, hy⟩ : ∃ y, ys[k]? = some y := ⟨_, List.getElem?_eq_getElem (by omega)⟩
        have HK := As.mk hx
        have HK' := As.mk hy
        obtain ⟨g, o, cs, rfl, hcl, hin, hrange⟩ := RdL.at (HR.out.below InC.stable HB.out) k x hx
        have hlt2 : (k : Int) < ys.length := by omega
        obtain ⟨g', o', cs', rfl, hcl', hin', hrange'⟩ := RdL.at (HR'.out.below InC.stable HB.out) k y hy
        have HCL := As.mk hcl
        have HIN := As.mk hin
        have HRG := As.mk hrange
        have H1 := As.mk hin.one
        have HCL' := As.mk hcl'
        have HIN' := As.mk hin'
        have HRG' := As.mk hrange'
        have H1' := As.mk hin'.one
        clear hx hy hcl hin hrange hcl' hin' hrange'
        go_upto_region 6 with (first | ((with_reducible refine wpList_load_mid (op := ⟨_, .load 55 (.tmp 20), _, _, _, _⟩) ?hgd 55 (.tmp 20) rfl _ _ ?hx cs _ HRG.out Try.underlying55 rfl ?hi ?_); (case hgd => exact rfl); (case hx => exact rfl); (case hi => rw [HCL.out]; kernel_rfl)) | ((with_reducible refine wpList_store_new (op := ⟨_, .store 55 (.tmp 8) (.tmp 21), _, _, _, _⟩) ?hgd 55 (.tmp 8) (.tmp 21) rfl (wr) ?cc55 cs ?hw ?hx ?hy ?hi ?hc H1.out ?_); (case hgd => exact rfl); (case hw => exact rfl); (case hx => exact rfl); (case hy => exact rfl); (case hi => rw [HCL.out]; kernel_rfl); (case hc => rw [HCL.out]; exact rfl)))
        have HW1 : As (Below wr.heap.size wr (wr.alloc (.cells cs.toArray 55)) ∧ Box (wr.alloc (.cells cs.toArray 55)) wr.heap.size cs.toArray 55) := ⟨below_al _ _, Box.new _ _ _⟩
        obtain ⟨G, hG⟩ : ∃ G, G = wr.heap.size := ⟨_, rfl⟩
        have HGW := As.mk hG
        have HW2 : As (Box (wr.alloc (.cells cs.toArray 55)) G cs.toArray 55) := ⟨by rw [hG]; exact HW1.out.2⟩
        rw [← hG]
        clear hG
        generalize wr.alloc (.cells cs.toArray 55) = W1 at HW1 HW2 ⊢
        have HRG1 := As.mk (rangeAt_below HRG'.out HW1.out.1)
        go_upto_region 7 with (first | ((with_reducible refine wpList_load_mid (op := ⟨_, .load 55 (.tmp 24), _, _, _, _⟩) ?hgd 55 (.tmp 24) rfl _ _ ?hx cs' _ HRG1.out Try.underlying55 rfl ?hi ?_); (case hgd => exact rfl); (case hx => exact rfl); (case hi => rw [HCL'.out]; kernel_rfl)) | ((with_reducible refine wpList_store_new (op := ⟨_, .store 55 (.tmp 9) (.tmp 25), _, _, _, _⟩) ?hgd 55 (.tmp 9) (.tmp 25) rfl (W1) ?cc55 cs' ?hw ?hx ?hy ?hi ?hc H1'.out ?_); (case hgd => exact rfl); (case hw => exact rfl); (case hx => exact rfl); (case hy => exact rfl); (case hi => rw [HCL'.out]; kernel_rfl); (case hc => rw [HCL'.out]; exact rfl)))
        have HW3 : As (Below wr.heap.size wr (W1.alloc (.cells cs'.toArray 55)) ∧ Box (W1.alloc (.cells cs'.toArray 55)) W1.heap.size cs'.toArray 55 ∧ Box (W1.alloc (.cells cs'.toArray 55)) G cs.toArray 55) := ⟨HW1.out.1.alloc HW1.out.1.size _, Box.new _ _ _, HW2.out.below (below_al _ _)⟩
        generalize W1.alloc (.cells cs'.toArray 55) = W2 at HW3 ⊢
        have HR2 := As.mk (range_of_block HW3.out.2.2)
        have HR3 := As.mk (range_of_block HW3.out.2.1)
        have HIN2 := As.mk (InC.stable _ _ _ _ HIN.out HW3.out.1)
        have HIN3 := As.mk (InC.stable _ _ _ _ HIN'.out HW3.out.1)
        have HB3 := As.mk (HB.out.trans (HW3.out.1.mono HB.out.size))
        by_cases he : x = y
        · have HE := As.mk he
          have hbb : decide (x = y) = true := decide_eq_true he
          clear he
          go_wp2_with (first | ((with_reducible refine wpList_load_mid (op := ⟨_, .load 55 (.tmp 8), _, _, _, _⟩) ?hgd 55 (.tmp 8) rfl _ _ ?hx cs _ HR2.out Try.underlying55 rfl ?hi ?_); (case hgd => exact rfl); (case hx => exact rfl); (case hi => rw [HCL.out]; kernel_rfl)) | ((with_reducible refine wpList_load_mid (op := ⟨_, .load 55 (.tmp 9), _, _, _, _⟩) ?hgd 55 (.tmp 9) rfl _ _ ?hx cs' _ HR3.out Try.underlying55 rfl ?hi ?_); (case hgd => exact rfl); (case hx => exact rfl); (case hi => rw [HCL'.out]; kernel_rfl)) | (go_at_call 79; (with_reducible refine (samein_any _ _ x y _ HIN2.out HIN3.out).mono ?_); rintro e w3 ⟨rfl, hb⟩; have HB4 := As.mk (HB3.out.trans (hb.mono HB3.out.size)); clear hb))
          go_roundw
          case rel => exact ⟨k + 1, by go_num, by omega, HB4, ⟨take_eq_step HK.out HK'.out HJ.out HE.out⟩⟩
          case measure => simp [intOf]; omega
        · have HE := As.mk he
          have hbb : decide (x = y) = false := decide_eq_false he
          clear he
          go_wp2_with (first | ((with_reducible refine wpList_load_mid (op := ⟨_, .load 55 (.tmp 8), _, _, _, _⟩) ?hgd 55 (.tmp 8) rfl _ _ ?hx cs _ HR2.out Try.underlying55 rfl ?hi ?_); (case hgd => exact rfl); (case hx => exact rfl); (case hi => rw [HCL.out]; kernel_rfl)) | ((with_reducible refine wpList_load_mid (op := ⟨_, .load 55 (.tmp 9), _, _, _, _⟩) ?hgd 55 (.tmp 9) rfl _ _ ?hx cs' _ HR3.out Try.underlying55 rfl ?hi ?_); (case hgd => exact rfl); (case hx => exact rfl); (case hi => rw [HCL'.out]; kernel_rfl)) | (go_at_call 79; (with_reducible refine (samein_any _ _ x y _ HIN2.out HIN3.out).mono ?_); rintro e w3 ⟨rfl, hb⟩; have HB4 := As.mk (HB3.out.trans (hb.mono HB3.out.size)); clear hb))
          go_ret
          rw [decide_eq_false (ne_at HK.out HK'.out HE.out)]
          exact ⟨rfl, HB4.out⟩
      · have HE : As (xs = ys) := ⟨by have := HJ.out; rwa [List.take_of_length_le (by omega), List.take_of_length_le (by have := HL.out; omega)] at this⟩
        go_wp2
        go_ret
        rw [decide_eq_true HE.out]
        exact ⟨rfl, HB.out⟩
  · have HL := As.mk hl
    have hd : ((xs.length : Int) != (ys.length : Int)) = true := by rw [bne_iff_ne]; omega
    clear hl
    go_enter Try.func78, Try.ntmps78
    go_wp2
    go_ret
    rw [decide_eq_false (fun h => HL.out (by rw [h]))]
    exact ⟨rfl, Below.refl _ _⟩
set_option maxHeartbeats 1000000 in
set_option maxRecDepth 100000 in
theorem sameout_any (v v' : Value) (x y : LOut) (w : World) (hr : RdB w v x.script) (hr' : RdB w v' y.script) (hv : x.value < 18446744073709551616) (hv' : y.value < 18446744073709551616) :
    Calls Try.prog 81 #[.agg #[.int .u64 (x.value : Int), v], .agg #[.int .u64 (y.value : Int), v']] w fun e w' => e = .returned (.bool (decide (x = y))) ∧ Below w.heap.size w w' := by
  obtain ⟨A, c, rfl, _⟩ := hr.form
  obtain ⟨A', c', rfl, _⟩ := hr'.form
  have HXY : As ((x = y) ↔ x.value = y.value ∧ x.script = y.script) := ⟨by cases x; cases y; simp⟩
  have HB : As (Below w.heap.size w ((w.alloc (.cells #[.int .u64 (x.value : Int), .slice A x.script.length c] 57)).alloc (.cells #[.int .u64 (y.value : Int), .slice A' y.script.length c'] 57))) := ⟨((Below.refl _ _).alloc (Nat.le_refl _) _).alloc (by simp) _⟩
  have HS := As.mk (hr.below HB.out)
  have HS' := As.mk (hr'.below HB.out)
  clear hr hr' hv hv'
  by_cases he : x.value = y.value
  · have HV := As.mk he
    have hb : ((x.value : Int) == (y.value : Int)) = true := by rw [he]; exact beq_self_eq_true _
    clear he
    go_enter Try.func81, Try.ntmps81
    go_wp2_with (go_at_call 85; (with_reducible refine (equal_any _ _ _ _ _ HS.out HS'.out).mono ?_); rintro e w' ⟨rfl, rfl⟩)
    go_ret
    refine ⟨ret_bool (a := (x.script == y.script)) ?_, HB.out⟩
    rw [Bool.eq_iff_iff, decide_eq_true_iff, beq_iff_eq, HXY.out]
    exact ⟨fun h => ⟨HV.out, h⟩, fun h => h.2⟩
  · have HV := As.mk he
    have hb : ((x.value : Int) == (y.value : Int)) = false := beq_eq_false_iff_ne.mpr (by omega)
    clear he
    go_enter Try.func81, Try.ntmps81
    go_wp2
    go_ret
    rw [decide_eq_false (fun h => HV.out (HXY.out.1 h).1)]
    exact ⟨rfl, HB.out⟩
end Go.Proofs.Ytfggkljgfadacaa.W
