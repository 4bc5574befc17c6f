/- The document's May, witness and bytes of layer 3. -/
import Derived.Test.YtfggkljgfadacaaT25
set_option linter.unusedVariables false
set_option linter.unusedSimpArgs false
namespace Go.Proofs.Ytfggkljgfadacaa.W
open Go.RowKit Go.Proofs.Ytfggkljgfadacaa.B Go.Proofs

set_option maxHeartbeats 1000000 in
set_option maxRecDepth 100000 in
theorem qwit_any (cs : List Value) (t : LTx) (w : World) {b : Bool} (hq : decide (hasW t) = b) (hr : TxC w cs t) :
    Calls Try.prog 82 #[.agg cs.toArray] w fun e w' => e = .returned (.bool b) ∧ Below w.heap.size w w' := by
  obtain ⟨iv, ov, rfl, hi, ho, _⟩ := hr
  obtain ⟨AI, ci, rfl, _⟩ := hi.form
  obtain ⟨AO, co, rfl, _⟩ := ho.form
  have hml : (t.ins.length : Int) ≤ 9223372036854775807 := by have := hi.len; unfold maxLen at this; omega
  have HI := As.mk hi
  have HQ := As.mk hq
  clear hi ho hq
  go_enter Try.func82, Try.ntmps82
  go_upto_region 1 with fail
  have HB : As (Below w.heap.size w (w.alloc (.cells #[.int .u32 (t.ver : Int), .slice AI t.ins.length ci, .slice AO t.outs.length co, .int .u32 (t.lock : Int)] 51)) ∧ Box (w.alloc (.cells #[.int .u32 (t.ver : Int), .slice AI t.ins.length ci, .slice AO t.outs.length co, .int .u32 (t.lock : Int)] 51)) w.heap.size #[.int .u32 (t.ver : Int), .slice AI t.ins.length ci, .slice AO t.outs.length co, .int .u32 (t.lock : Int)] 51) := ⟨below_al _ _, Box.new _ _ _⟩
  change Code.wp _ _ _ _ (w.alloc (.cells #[.int .u32 (t.ver : Int), .slice AI t.ins.length ci, .slice AO t.outs.length co, .int .u32 (t.lock : Int)] 51))
  generalize w.alloc (.cells #[.int .u32 (t.ver : Int), .slice AI t.ins.length ci, .slice AO t.outs.length co, .int .u32 (t.lock : Int)] 51) = W at HB ⊢
  go_wp2
  go_loopw [3] (fun v3 wr => ∃ k : Nat, v3 = .int .i64 (k : Int) ∧ (k : Int) ≤ t.ins.length ∧ wr = W ∧ As (∀ x ∈ t.ins.take k, x.wit.length ≤ 0)) (fun v3 _ => t.ins.length - (intOf v3).toNat)
  case atStart => exact ⟨0, rfl, by omega, rfl, ⟨fun b h => by simp at h⟩⟩
  case round =>
    obtain ⟨k, rfl, hk, rfl, HJ⟩ := hrel
    have d1 := HB.out.2.cell 1 _ rfl
    by_cases hlt : (k : Int) < t.ins.length
    · obtain ⟨g, o, cs, x, A1, c1, A2, c2, rfl, HK, HLC, HG, H1, HX, h32, h33, h34, h35, HS, HW⟩ := RdIns.at HI.out k (by omega)
      have d35 := cell_below HB.out.1 (HG.out 35 _ h35)
      clear h32 h33 h34 h35
      by_cases hw : (0 : Int) < x.wit.length
      · have HF : As (b = true) := ⟨by rw [← HQ.out]; exact decide_eq_true ⟨x, List.mem_of_getElem? HK.out, by omega⟩⟩
        go_wp2
        go_ret
        rw [HF.out]
        exact ⟨rfl, HB.out.1⟩
      · go_wp2
        go_roundw
        case rel => exact ⟨k + 1, by go_num, by omega, by first | rfl | trivial, ⟨take_step HK.out HJ.out (by omega)⟩⟩
        case measure => simp [intOf]; omega
    · have HF : As (b = false) := ⟨by
        rw [← HQ.out]
        refine decide_eq_false ?_
        rintro ⟨x, hx, hw⟩
        have := HJ.out x (by rwa [List.take_of_length_le (by omega)])
        omega⟩
      go_wp2
      go_ret
      rw [HF.out]
      exact ⟨rfl, HB.out.1⟩
set_option maxHeartbeats 4000000 in
set_option maxRecDepth 100000 in
theorem qmay_any (cs : List Value) (t : LTx) (w : World) {b : Bool} (hq : decide (mayT t) = b) (hr : TxC w cs t) :
    Calls Try.prog 54 #[.agg cs.toArray] w fun e w' => e = .returned (.bool b) ∧ Below w.heap.size w w' := by
  obtain ⟨iv, ov, rfl, hi, ho, _⟩ := hr
  obtain ⟨AI, ci, rfl, _⟩ := hi.form
  obtain ⟨AO, co, rfl, _⟩ := ho.form
  have HI := As.mk hi
  have HO := As.mk ho
  have HQ := As.mk hq
  clear hi ho hq
  go_enter Try.func54, Try.ntmps54
  go_upto_region 1 with fail
  have HB : As (Below w.heap.size w (w.alloc (.cells #[.int .u32 (t.ver : Int), .slice AI t.ins.length ci, .slice AO t.outs.length co, .int .u32 (t.lock : Int)] 51)) ∧ Box (w.alloc (.cells #[.int .u32 (t.ver : Int), .slice AI t.ins.length ci, .slice AO t.outs.length co, .int .u32 (t.lock : Int)] 51)) w.heap.size #[.int .u32 (t.ver : Int), .slice AI t.ins.length ci, .slice AO t.outs.length co, .int .u32 (t.lock : Int)] 51) := ⟨below_al _ _, Box.new _ _ _⟩
  change Code.wp _ _ _ _ (w.alloc (.cells #[.int .u32 (t.ver : Int), .slice AI t.ins.length ci, .slice AO t.outs.length co, .int .u32 (t.lock : Int)] 51))
  generalize w.alloc (.cells #[.int .u32 (t.ver : Int), .slice AI t.ins.length ci, .slice AO t.outs.length co, .int .u32 (t.lock : Int)] 51) = W at HB ⊢
  have d1 := HB.out.2.cell 1 _ rfl
  have d2 := HB.out.2.cell 2 _ rfl
  by_cases n1 : (t.ins.length : Int) < 1
  · have HF : As (b = false) := ⟨by rw [← HQ.out]; exact decide_eq_false (fun h => by have := h.2.2; omega)⟩
    go_wp2
    go_ret
    rw [HF.out]
    exact ⟨rfl, HB.out.1⟩
  by_cases n2 : (50 : Int) < t.ins.length
  · have HF : As (b = false) := ⟨by rw [← HQ.out]; exact decide_eq_false (fun h => by have := h.2.2; omega)⟩
    go_wp2
    go_ret
    rw [HF.out]
    exact ⟨rfl, HB.out.1⟩
  by_cases n3 : (t.outs.length : Int) < 1
  · have HF : As (b = false) := ⟨by rw [← HQ.out]; exact decide_eq_false (fun h => by have := h.2.2; omega)⟩
    go_wp2
    go_ret
    rw [HF.out]
    exact ⟨rfl, HB.out.1⟩
  by_cases n4 : (50 : Int) < t.outs.length
  · have HF : As (b = false) := ⟨by rw [← HQ.out]; exact decide_eq_false (fun h => by have := h.2.2; omega)⟩
    go_wp2
    go_ret
    rw [HF.out]
    exact ⟨rfl, HB.out.1⟩
  have hmi : (t.ins.length : Int) ≤ 50 := by omega
  have hmo : (t.outs.length : Int) ≤ 50 := by omega
  have HN : As (1 ≤ t.ins.length ∧ t.ins.length ≤ 50 ∧ 1 ≤ t.outs.length ∧ t.outs.length ≤ 50) := ⟨by omega⟩
  go_wp2
  clear n1 n2 n3 n4
  go_loopw [3] (fun v3 wr => ∃ k : Nat, v3 = .int .i64 (k : Int) ∧ (k : Int) ≤ t.ins.length ∧ wr = W ∧ As (∀ x ∈ t.ins.take k, okIn x)) (fun v3 _ => t.ins.length - (intOf v3).toNat)
  case atStart => exact ⟨0, rfl, by omega, rfl, ⟨fun b h => by simp at h⟩⟩
  case round =>
    obtain ⟨k, rfl, hk, rfl, HJ⟩ := hrel
    by_cases hlt : (k : Int) < t.ins.length
    · obtain ⟨g, o, cs, x, A1, c1, A2, c2, rfl, HK, HLC, HG, H1, HX, h32, h33, h34, h35, HS, HW⟩ := RdIns.at HI.out k (by omega)
      have d33 := cell_below HB.out.1 (HG.out 33 _ h33)
      have d35 := cell_below HB.out.1 (HG.out 35 _ h35)
      have hwm : (x.wit.length : Int) ≤ 9223372036854775807 := by have := HW.out.len; unfold maxLen at this; omega
      clear h32 h33 h34 h35
      by_cases s5 : (500 : Int) < x.script.length
      · have HF : As (b = false) := ⟨by rw [← HQ.out]; exact decide_eq_false (fun h => by have := (h.1 x (List.mem_of_getElem? HK.out)).1; omega)⟩
        go_wp2
        go_ret
        rw [HF.out]
        exact ⟨rfl, HB.out.1⟩
      by_cases w10 : (10 : Int) < x.wit.length
      · have HF : As (b = false) := ⟨by rw [← HQ.out]; exact decide_eq_false (fun h => by have := (h.1 x (List.mem_of_getElem? HK.out)).2.1; omega)⟩
        go_wp2
        go_ret
        rw [HF.out]
        exact ⟨rfl, HB.out.1⟩
      have HSW : As (x.script.length ≤ 500 ∧ x.wit.length ≤ 10) := ⟨by omega⟩
      go_wp2
      clear s5 w10 d33
      go_loopw [4] (fun v4 w2 => ∃ j : Nat, v4 = .int .i64 (j : Int) ∧ (j : Int) ≤ x.wit.length ∧ w2 = wr ∧ As (∀ b ∈ x.wit.take j, b.length ≤ 500)) (fun v4 _ => x.wit.length - (intOf v4).toNat)
      case atStart => exact ⟨0, rfl, by omega, rfl, ⟨fun b h => by simp at h⟩⟩
      case round =>
        obtain ⟨j, rfl, hj, rfl, HJ2⟩ := hrel
        by_cases hjl : (j : Int) < x.wit.length
        · obtain ⟨g2, o2, Ab, y, cb, rfl, HKb, hcb, HBb⟩ := RdW.at HW.out j (by omega)
          have kb := cell_below HB.out.1 hcb
          clear hcb
          by_cases y5 : (500 : Int) < y.length
          · have HF : As (b = false) := ⟨by rw [← HQ.out]; exact decide_eq_false (fun h => by have := (h.1 x (List.mem_of_getElem? HK.out)).2.2 y (List.mem_of_getElem? HKb.out); omega)⟩
            go_wp2
            go_ret
            rw [HF.out]
            exact ⟨rfl, HB.out.1⟩
          · go_wp2
            go_roundw
            case rel => exact ⟨j + 1, by go_num, by omega, by first | rfl | trivial, ⟨take_step HKb.out HJ2.out (by omega)⟩⟩
            case measure => simp [intOf]; omega
        · have HOK : As (okIn x) := ⟨HSW.out.1, HSW.out.2, fun y hy => HJ2.out y (by rwa [List.take_of_length_le (by omega)])⟩
          go_wp2
          go_roundw
          case rel => exact ⟨k + 1, by go_num, by omega, by first | rfl | trivial, ⟨take_step HK.out HJ.out HOK.out⟩⟩
          case measure => simp [intOf]; omega
    · have HJA : As (∀ x ∈ t.ins, okIn x) := ⟨fun x hx => HJ.out x (by rwa [List.take_of_length_le (by omega)])⟩
      clear HJ
      go_wp2
      clear hlt
      go_loopw [5] (fun v5 w2 => ∃ j : Nat, v5 = .int .i64 (j : Int) ∧ (j : Int) ≤ t.outs.length ∧ w2 = wr ∧ As (∀ y ∈ t.outs.take j, okOut y)) (fun v5 _ => t.outs.length - (intOf v5).toNat)
      case atStart => exact ⟨0, rfl, by omega, rfl, ⟨fun b h => by simp at h⟩⟩
      case round =>
        obtain ⟨j, rfl, hj, rfl, HJ2⟩ := hrel
        by_cases hjl : (j : Int) < t.outs.length
        · obtain ⟨g, o, y, A1, c1, rfl, HK, h0, h1, HS, HV⟩ := RdOuts.at HO.out j (by omega)
          have k1 := cell_below HB.out.1 h1
          clear h0 h1
          by_cases y5 : (500 : Int) < y.script.length
          · have HF : As (b = false) := ⟨by rw [← HQ.out]; exact decide_eq_false (fun h => by have := h.2.1 y (List.mem_of_getElem? HK.out); unfold okOut at this; omega)⟩
            go_wp2
            go_ret
            rw [HF.out]
            exact ⟨rfl, HB.out.1⟩
          · go_wp2
            go_roundw
            case rel => exact ⟨j + 1, by go_num, by omega, by first | rfl | trivial, ⟨take_step HK.out HJ2.out (by unfold okOut; omega)⟩⟩
            case measure => simp [intOf]; omega
        · have HF : As (b = true) := ⟨by rw [← HQ.out]; exact decide_eq_true ⟨HJA.out, fun y hy => HJ2.out y (by rwa [List.take_of_length_le (by omega)]), HN.out⟩⟩
          go_wp2
          go_ret
          rw [HF.out]
          exact ⟨rfl, HB.out.1⟩
set_option maxHeartbeats 1000000 in
theorem qcounted_any (v y : Value) (l x : List UInt8) (w : World) (hr : RdB w v l) (hy : RdB w y x) (hl : l.length ≤ 1000000) (hx : x.length ≤ 100000) :
    Calls Try.prog 84 #[v, y] w fun e w' => ∃ r, e = .returned r ∧ OwB w' w.heap.size 5 r (l ++ cntB x) ∧ Below w.heap.size w w' := by
  obtain ⟨A, c, rfl, _⟩ := hy.form
  have HR := As.mk hr
  have HY := As.mk hy
  have HL := As.mk (And.intro hl hx)
  clear hr hy hl hx
  have HB : As (Below w.heap.size w w) := ⟨Below.refl _ _⟩
  go_enter Try.func84, Try.ntmps84
  go_wp2_with (first | (go_at_call 28; (with_reducible refine (count_ref _ l _ _ HR.out (by have := HL.out; omega)).mono ?_); rintro e w1 ⟨r, rfl, ho, hb⟩; have HO := As.mk ho; have HY2 := As.mk (HY.out.below hb); clear HB; have HB := As.mk hb; clear ho hb) | (at_builtin; refine wpList_app (w.heap.size) rfl (.tmp 8) (.tmp 9) 24 5 (.int .u8 0) 1 1 rfl Try.underlying24 info5 rfl (by decide) (r) (.slice A x.length c) rfl rfl (l ++ cnt (clampU (x.length : Int))).length ((l ++ cnt (clampU (x.length : Int))).map u8v) ?own (x.length) ((x).map u8v) ?rd (u8v_one _) ?b1 ?b2 ?b3 ?_; (case own => exact (HO.out)); (case rd => exact (HY2.out)); (case b1 => have := HL.out; have := cnt_length (clampU (x.length : Int)); (try simp only [List.length_append]); unfold maxLen; omega); (case b2 => have := HL.out; have := cnt_length (clampU (x.length : Int)); (try simp only [List.length_append]); omega); (case b3 => have := HB.out.size; first | omega | (simp; done) | (simp; omega)); intro v1 v1w ho hg ht; have HO1 := As.mk (show OwB v1w (w.heap.size) 5 v1 ((l ++ cnt (clampU (x.length : Int))) ++ (x)) by (have hm : (x).length = x.length := by first | rfl | exact HC.out | simp [le_length]); unfold OwB; rw [List.length_append, List.map_append, hm]; exact ho); have HB2 : As (Below w.heap.size w v1w) := As.mk (Below.grown (by repeat' first | exact HB.out | refine Below.alloc ?_ (by have := HB.out.size; first | omega | (simp; done) | (simp; omega)) _) hg (by have := HB.out.size; first | omega | (simp; done) | (simp; omega)) (fun b hb => (HO.out.lt b hb).1)); have HGv1 := As.mk hg; clear ho hg ht; clear HB; have HB := HB2; clear HB2))
  go_ret
  refine ⟨_, rfl, ?_, HB.out⟩
  have h := HO1.out
  rw [clampU_len _ (by have := HL.out; omega), List.append_assoc] at h
  exact h
end Go.Proofs.Ytfggkljgfadacaa.W
