/- The document's layer 3: May, Base, Bytes. -/
import Derived.Test.YtfggkljgfadacaaT25
import Derived.Deep.RegionHeld3
set_option linter.unusedVariables false
set_option linter.unusedSimpArgs false
namespace Go.Proofs.Ytfggkljgfadacaa.W
open Go.RowKit Go.Proofs.Ytfggkljgfadacaa.B Go.Proofs

set_option maxHeartbeats 1000000 in
set_option maxRecDepth 100000 in
theorem qwit_any (cs : List Value) (t : LTx) (w : World) {b : Bool} (hq : decide (hasW t) = b) (hr : TxC w cs t) :
    Calls Try.prog 82 #[.agg cs.toArray] w fun e w' => e = .returned (.bool b) ∧ Below w.heap.size w w' := by
  obtain ⟨iv, ov, rfl, hi, ho, _⟩ := hr
  obtain ⟨AI, ci, rfl, _⟩ := hi.form
  obtain ⟨AO, co, rfl, _⟩ := ho.form
  have hml : (t.ins.length : Int) ≤ 9223372036854775807 := by have := hi.len; unfold maxLen at this; omega
  have HI := As.mk hi
  have HQ := As.mk hq
  clear hi ho hq
  go_enter Try.func82, Try.ntmps82
  go_upto_region 1 with fail
  have HB : As (Below w.heap.size w (w.alloc (.cells #[.int .u32 (t.ver : Int), .slice AI t.ins.length ci, .slice AO t.outs.length co, .int .u32 (t.lock : Int)] 51)) ∧ Box (w.alloc (.cells #[.int .u32 (t.ver : Int), .slice AI t.ins.length ci, .slice AO t.outs.length co, .int .u32 (t.lock : Int)] 51)) w.heap.size #[.int .u32 (t.ver : Int), .slice AI t.ins.length ci, .slice AO t.outs.length co, .int .u32 (t.lock : Int)] 51) := ⟨below_al _ _, Box.new _ _ _⟩
  change Code.wp _ _ _ _ (w.alloc (.cells #[.int .u32 (t.ver : Int), .slice AI t.ins.length ci, .slice AO t.outs.length co, .int .u32 (t.lock : Int)] 51))
  generalize w.alloc (.cells #[.int .u32 (t.ver : Int), .slice AI t.ins.length ci, .slice AO t.outs.length co, .int .u32 (t.lock : Int)] 51) = W at HB ⊢
  go_wp2
  go_loopw [3] (fun v3 wr => ∃ k : Nat, v3 = .int .i64 (k : Int) ∧ (k : Int) ≤ t.ins.length ∧ wr = W ∧ As (∀ x ∈ t.ins.take k, x.wit.length ≤ 0)) (fun v3 _ => t.ins.length - (intOf v3).toNat)
  case atStart => exact ⟨0, rfl, by omega, rfl, ⟨fun b h => by simp at h⟩⟩
  case round =>
    obtain ⟨k, rfl, hk, rfl, HJ⟩ := hrel
    have d1 := HB.out.2.cell 1 _ rfl
    by_cases hlt : (k : Int) < t.ins.length
    · obtain ⟨g, o, cs, x, A1, c1, A2, c2, rfl, HK, HLC, HG, H1, HX, h32, h33, h34, h35, HS, HW⟩ := RdIns.at HI.out k (by omega)
      have d35 := cell_below HB.out.1 (HG.out 35 _ h35)
      clear h32 h33 h34 h35
      by_cases hw : (0 : Int) < x.wit.length
      · have HF : As (b = true) := ⟨by rw [← HQ.out]; exact decide_eq_true ⟨x, List.mem_of_getElem? HK.out, by omega⟩⟩
        go_wp2
        go_ret
        rw [HF.out]
        exact ⟨rfl, HB.out.1⟩
      · go_wp2
        go_roundw
        case rel => exact ⟨k + 1, by go_num, by omega, by first | rfl | trivial, ⟨take_step HK.out HJ.out (by omega)⟩⟩
        case measure => simp [intOf]; omega
    · have HF : As (b = false) := ⟨by
        rw [← HQ.out]
        refine decide_eq_false ?_
        rintro ⟨x, hx, hw⟩
        have := HJ.out x (by rwa [List.take_of_length_le (by omega)])
        omega⟩
      go_wp2
      go_ret
      rw [HF.out]
      exact ⟨rfl, HB.out.1⟩
set_option maxHeartbeats 4000000 in
set_option maxRecDepth 100000 in
theorem qmay_any (cs : List Value) (t : LTx) (w : World) {b : Bool} (hq : decide (mayT t) = b) (hr : TxC w cs t) :
    Calls Try.prog 54 #[.agg cs.toArray] w fun e w' => e = .returned (.bool b) ∧ Below w.heap.size w w' := by
  obtain ⟨iv, ov, rfl, hi, ho, _⟩ := hr
  obtain ⟨AI, ci, rfl, _⟩ := hi.form
  obtain ⟨AO, co, rfl, _⟩ := ho.form
  have HI := As.mk hi
  have HO := As.mk ho
  have HQ := As.mk hq
  clear hi ho hq
  go_enter Try.func54, Try.ntmps54
  go_upto_region 1 with fail
  have HB : As (Below w.heap.size w (w.alloc (.cells #[.int .u32 (t.ver : Int), .slice AI t.ins.length ci, .slice AO t.outs.length co, .int .u32 (t.lock : Int)] 51)) ∧ Box (w.alloc (.cells #[.int .u32 (t.ver : Int), .slice AI t.ins.length ci, .slice AO t.outs.length co, .int .u32 (t.lock : Int)] 51)) w.heap.size #[.int .u32 (t.ver : Int), .slice AI t.ins.length ci, .slice AO t.outs.length co, .int .u32 (t.lock : Int)] 51) := ⟨below_al _ _, Box.new _ _ _⟩
  change Code.wp _ _ _ _ (w.alloc (.cells #[.int .u32 (t.ver : Int), .slice AI t.ins.length ci, .slice AO t.outs.length co, .int .u32 (t.lock : Int)] 51))
  generalize w.alloc (.cells #[.int .u32 (t.ver : Int), .slice AI t.ins.length ci, .slice AO t.outs.length co, .int .u32 (t.lock : Int)] 51) = W at HB ⊢
  have d1 := HB.out.2.cell 1 _ rfl
  have d2 := HB.out.2.cell 2 _ rfl
  by_cases n1 : (t.ins.length : Int) < 1
  · have HF : As (b = false) := ⟨by rw [← HQ.out]; exact decide_eq_false (fun h => by have := h.2.2; omega)⟩
    go_wp2
    go_ret
    rw [HF.out]
    exact ⟨rfl, HB.out.1⟩
  by_cases n2 : (50 : Int) < t.ins.length
  · have HF : As (b = false) := ⟨by rw [← HQ.out]; exact decide_eq_false (fun h => by have := h.2.2; omega)⟩
    go_wp2
    go_ret
    rw [HF.out]
    exact ⟨rfl, HB.out.1⟩
  by_cases n3 : (t.outs.length : Int) < 1
  · have HF : As (b = false) := ⟨by rw [← HQ.out]; exact decide_eq_false (fun h => by have := h.2.2; omega)⟩
    go_wp2
    go_ret
    rw [HF.out]
    exact ⟨rfl, HB.out.1⟩
  by_cases n4 : (50 : Int) < t.outs.length
  · have HF : As (b = false) := ⟨by rw [← HQ.out]; exact decide_eq_false (fun h => by have := h.2.2; omega)⟩
    go_wp2
    go_ret
    rw [HF.out]
    exact ⟨rfl, HB.out.1⟩
  have hmi : (t.ins.length : Int) ≤ 50 := by omega
  have hmo : (t.outs.length : Int) ≤ 50 := by omega
  have HN : As (1 ≤ t.ins.length ∧ t.ins.length ≤ 50 ∧ 1 ≤ t.outs.length ∧ t.outs.length ≤ 50) := ⟨by omega⟩
  go_wp2
  clear n1 n2 n3 n4
  go_loopw [3] (fun v3 wr => ∃ k : Nat, v3 = .int .i64 (k : Int) ∧ (k : Int) ≤ t.ins.length ∧ wr = W ∧ As (∀ x ∈ t.ins.take k, okIn x)) (fun v3 _ => t.ins.length - (intOf v3).toNat)
  case atStart => exact ⟨0, rfl, by omega, rfl, ⟨fun b h => by simp at h⟩⟩
  case round =>
    obtain ⟨k, rfl, hk, rfl, HJ⟩ := hrel
    by_cases hlt : (k : Int) < t.ins.length
    · obtain ⟨g, o, cs, x, A1, c1, A2, c2, rfl, HK, HLC, HG, H1, HX, h32, h33, h34, h35, HS, HW⟩ := RdIns.at HI.out k (by omega)
      have d33 := cell_below HB.out.1 (HG.out 33 _ h33)
      have d35 := cell_below HB.out.1 (HG.out 35 _ h35)
      have hwm : (x.wit.length : Int) ≤ 9223372036854775807 := by have := HW.out.len; unfold maxLen at this; omega
      clear h32 h33 h34 h35
      by_cases s5 : (500 : Int) < x.script.length
      · have HF : As (b = false) := ⟨by rw [← HQ.out]; exact decide_eq_false (fun h => by have := (h.1 x (List.mem_of_getElem? HK.out)).1; omega)⟩
        go_wp2
        go_ret
        rw [HF.out]
        exact ⟨rfl, HB.out.1⟩
      by_cases w10 : (10 : Int) < x.wit.length
      · have HF : As (b = false) := ⟨by rw [← HQ.out]; exact decide_eq_false (fun h => by have := (h.1 x (List.mem_of_getElem? HK.out)).2.1; omega)⟩
        go_wp2
        go_ret
        rw [HF.out]
        exact ⟨rfl, HB.out.1⟩
      have HSW : As (x.script.length ≤ 500 ∧ x.wit.length ≤ 10) := ⟨by omega⟩
      go_wp2
      clear s5 w10 d33
      go_loopw [4] (fun v4 w2 => ∃ j : Nat, v4 = .int .i64 (j : Int) ∧ (j : Int) ≤ x.wit.length ∧ w2 = wr ∧ As (∀ b ∈ x.wit.take j, b.length ≤ 500)) (fun v4 _ => x.wit.length - (intOf v4).toNat)
      case atStart => exact ⟨0, rfl, by omega, rfl, ⟨fun b h => by simp at h⟩⟩
      case round =>
        obtain ⟨j, rfl, hj, rfl, HJ2⟩ := hrel
        by_cases hjl : (j : Int) < x.wit.length
        · obtain ⟨g2, o2, Ab, y, cb, rfl, HKb, hcb, HBb⟩ := RdW.at HW.out j (by omega)
          have kb := cell_below HB.out.1 hcb
          clear hcb
          by_cases y5 : (500 : Int) < y.length
          · have HF : As (b = false) := ⟨by rw [← HQ.out]; exact decide_eq_false (fun h => by have := (h.1 x (List.mem_of_getElem? HK.out)).2.2 y (List.mem_of_getElem? HKb.out); omega)⟩
            go_wp2
            go_ret
            rw [HF.out]
            exact ⟨rfl, HB.out.1⟩
          · go_wp2
            go_roundw
            case rel => exact ⟨j + 1, by go_num, by omega, by first | rfl | trivial, ⟨take_step HKb.out HJ2.out (by omega)⟩⟩
            case measure => simp [intOf]; omega
        · have HOK : As (okIn x) := ⟨HSW.out.1, HSW.out.2, fun y hy => HJ2.out y (by rwa [List.take_of_length_le (by omega)])⟩
          go_wp2
          go_roundw
          case rel => exact ⟨k + 1, by go_num, by omega, by first | rfl | trivial, ⟨take_step HK.out HJ.out HOK.out⟩⟩
          case measure => simp [intOf]; omega
    · have HJA : As (∀ x ∈ t.ins, okIn x) := ⟨fun x hx => HJ.out x (by rwa [List.take_of_length_le (by omega)])⟩
      clear HJ
      go_wp2
      clear hlt
      go_loopw [5] (fun v5 w2 => ∃ j : Nat, v5 = .int .i64 (j : Int) ∧ (j : Int) ≤ t.outs.length ∧ w2 = wr ∧ As (∀ y ∈ t.outs.take j, okOut y)) (fun v5 _ => t.outs.length - (intOf v5).toNat)
      case atStart => exact ⟨0, rfl, by omega, rfl, ⟨fun b h => by simp at h⟩⟩
      case round =>
        obtain ⟨j, rfl, hj, rfl, HJ2⟩ := hrel
        by_cases hjl : (j : Int) < t.outs.length
        · obtain ⟨g, o, y, A1, c1, rfl, HK, h0, h1, HS, HV⟩ := RdOuts.at HO.out j (by omega)
          have k1 := cell_below HB.out.1 h1
          clear h0 h1
          by_cases y5 : (500 : Int) < y.script.length
          · have HF : As (b = false) := ⟨by rw [← HQ.out]; exact decide_eq_false (fun h => by have := h.2.1 y (List.mem_of_getElem? HK.out); unfold okOut at this; omega)⟩
            go_wp2
            go_ret
            rw [HF.out]
            exact ⟨rfl, HB.out.1⟩
          · go_wp2
            go_roundw
            case rel => exact ⟨j + 1, by go_num, by omega, by first | rfl | trivial, ⟨take_step HK.out HJ2.out (by unfold okOut; omega)⟩⟩
            case measure => simp [intOf]; omega
        · have HF : As (b = true) := ⟨by rw [← HQ.out]; exact decide_eq_true ⟨HJA.out, fun y hy => HJ2.out y (by rwa [List.take_of_length_le (by omega)]), HN.out⟩⟩
          go_wp2
          go_ret
          rw [HF.out]
          exact ⟨rfl, HB.out.1⟩
set_option maxHeartbeats 1000000 in
theorem qcounted_any (v y : Value) (l x : List UInt8) (w : World) (hr : RdB w v l) (hy : RdB w y x) (hl : l.length ≤ 1000000) (hx : x.length ≤ 100000) :
    Calls Try.prog 84 #[v, y] w fun e w' => ∃ r, e = .returned r ∧ OwB w' w.heap.size 5 r (l ++ cntB x) ∧ Below w.heap.size w w' := by
  obtain ⟨A, c, rfl, _⟩ := hy.form
  have HR := As.mk hr
  have HY := As.mk hy
  have HL := As.mk (And.intro hl hx)
  clear hr hy hl hx
  have HB : As (Below w.heap.size w w) := ⟨Below.refl _ _⟩
  go_enter Try.func84, Try.ntmps84
  go_wp2_with (first | (go_at_call 28; (with_reducible refine (count_ref _ l _ _ HR.out (by have := HL.out; omega)).mono ?_); rintro e w1 ⟨r, rfl, ho, hb⟩; have HO := As.mk ho; have HY2 := As.mk (HY.out.below hb); clear HB; have HB := As.mk hb; clear ho hb) | (at_builtin; refine wpList_app (w.heap.size) rfl (.tmp 8) (.tmp 9) 24 5 (.int .u8 0) 1 1 rfl Try.underlying24 info5 rfl (by decide) (r) (.slice A x.length c) rfl rfl (l ++ cnt (clampU (x.length : Int))).length ((l ++ cnt (clampU (x.length : Int))).map u8v) ?own (x.length) ((x).map u8v) ?rd (u8v_one _) ?b1 ?b2 ?b3 ?_; (case own => exact (HO.out)); (case rd => exact (HY2.out)); (case b1 => have := HL.out; have := cnt_length (clampU (x.length : Int)); (try simp only [List.length_append]); unfold maxLen; omega); (case b2 => have := HL.out; have := cnt_length (clampU (x.length : Int)); (try simp only [List.length_append]); omega); (case b3 => have := HB.out.size; first | omega | (simp; done) | (simp; omega)); intro v1 v1w ho hg ht; have HO1 := As.mk (show OwB v1w (w.heap.size) 5 v1 ((l ++ cnt (clampU (x.length : Int))) ++ (x)) by (have hm : (x).length = x.length := by first | rfl | exact HC.out | simp [le_length]); unfold OwB; rw [List.length_append, List.map_append, hm]; exact ho); have HB2 : As (Below w.heap.size w v1w) := As.mk (Below.grown (by repeat' first | exact HB.out | refine Below.alloc ?_ (by have := HB.out.size; first | omega | (simp; done) | (simp; omega)) _) hg (by have := HB.out.size; first | omega | (simp; done) | (simp; omega)) (fun b hb => (HO.out.lt b hb).1)); have HGv1 := As.mk hg; clear ho hg ht; clear HB; have HB := HB2; clear HB2))
  go_ret
  refine ⟨_, rfl, ?_, HB.out⟩
  have h := HO1.out
  rw [clampU_len _ (by have := HL.out; omega), List.append_assoc] at h
  exact h
end Go.Proofs.Ytfggkljgfadacaa.W
namespace Go.Proofs.Ytfggkljgfadacaa.W
open Go.RowKit Go.Proofs.Ytfggkljgfadacaa.B Go.Proofs

set_option maxHeartbeats 8000000 in
set_option maxRecDepth 100000 in
theorem qbody_any (v : Value) (l : List UInt8) (cs : List Value) (t : LTx) (w : World) (hb : RdB w v l) (hl : l.length ≤ 1000) (hr : TxC w cs t) (hm : mayT t) :
    Calls Try.prog 83 #[v, .agg cs.toArray] w fun e w' => ∃ r, e = .returned r ∧ OwB w' w.heap.size 5 r (l ++ bodyB t) ∧ Below w.heap.size w w' := by
  obtain ⟨iv, ov, rfl, hi, ho, _⟩ := hr
  obtain ⟨AI, ci, rfl, hi1, hi2, _⟩ := hi.form
  obtain ⟨AO, co, rfl, ho1, ho2, _⟩ := ho.form
  have HI := As.mk hi
  have HO := As.mk ho
  have HV := As.mk hb
  have HL := As.mk hl
  have HM := As.mk hm
  have hmi : (t.ins.length : Int) ≤ 50 := by have := hm.2.2; omega
  have hmo : (t.outs.length : Int) ≤ 50 := by have := hm.2.2; omega
  clear hi ho hi1 hi2 ho1 ho2 hb hl hm
  have HX : As (Box (w.alloc (.cells #[.int .u32 (t.ver : Int), .slice AI t.ins.length ci, .slice AO t.outs.length co, .int .u32 (t.lock : Int)] 51)) w.heap.size #[.int .u32 (t.ver : Int), .slice AI t.ins.length ci, .slice AO t.outs.length co, .int .u32 (t.lock : Int)] 51) := ⟨Box.new _ _ _⟩
  have d1 := HX.out.cell 1 _ rfl
  go_enter Try.func83, Try.ntmps83
  go_upto_region 2 with (go_at_call 28; (with_reducible refine (count_ref _ l _ _ (HV.out.alloc _) (by have := HL.out; omega)).mono ?_); rintro e w1 ⟨r, rfl, ho, hb⟩; have HR := As.mk ho; have HB := As.mk hb; clear ho hb)
  have HE : As (Below w.heap.size w w1 ∧ Box w1 w.heap.size #[.int .u32 (t.ver : Int), .slice AI t.ins.length ci, .slice AO t.outs.length co, .int .u32 (t.lock : Int)] 51) := ⟨((Below.refl _ _).alloc (Nat.le_refl _) _).trans (HB.out.mono (by simp)), HX.out.below HB.out⟩
  have HO1 : As (OwB w1 (w.heap.size + 1) 5 r (l ++ cnt t.ins.length)) := ⟨by have := HR.out; rw [clampU_len _ (by omega)] at this; simpa using this⟩
  clear HR HB HX d1
  go_wp2
  go_loopw [0, 5] (fun v0 v5 wr => ∃ (k : Nat) (L : List UInt8), v5 = .int .i64 (k : Int) ∧ (k : Int) ≤ t.ins.length ∧ As (Below w.heap.size w wr ∧ Box wr w.heap.size #[.int .u32 (t.ver : Int), .slice AI t.ins.length ci, .slice AO t.outs.length co, .int .u32 (t.lock : Int)] 51) ∧ As (OwB wr (w.heap.size + 1) 5 v0 L) ∧ As (L = l ++ cnt t.ins.length ++ (t.ins.take k).flatMap inB ∧ L.length ≤ l.length + 5 + 545 * k)) (fun _ v5 _ => t.ins.length - (intOf v5).toNat)
  case atStart => exact ⟨0, _, rfl, by omega, HE, HO1, ⟨by simp, by have := cnt_length t.ins.length; simp only [List.length_append]; omega⟩⟩
  case round =>
    obtain ⟨k, L, rfl, hk, HB, HV0, HLL⟩ := hrel
    have d1 := HB.out.2.cell 1 _ rfl
    by_cases hlt : (k : Int) < t.ins.length
    · obtain ⟨g, o, cs, x, A1, c1, A2, c2, rfl, HK, HLC, HG, H1, HX, h32, h33, h34, h35, HS, HW⟩ := RdIns.at HI.out k (by omega)
      have HGr := As.mk (rangeAt_below HG.out HB.out.1)
      have HOK := As.mk (HM.out.1 x (List.mem_of_getElem? HK.out))
      obtain ⟨W1, hW1⟩ : ∃ W, W = wr.alloc (.cells cs.toArray 55) := ⟨_, rfl⟩
      obtain ⟨G, hG⟩ : ∃ G, G = wr.heap.size := ⟨_, rfl⟩
      have HQ : As (KeepI w W1 #[.int .u32 (t.ver : Int), .slice (some ⟨g, o, none⟩) t.ins.length ci, .slice AO t.outs.length co, .int .u32 (t.lock : Int)] G x A1 c1) := ⟨by
        subst hW1 hG
        have hbx := Box.new wr cs.toArray 55
        exact ⟨HB.out.1.alloc HB.out.1.size _, HB.out.2.below ((Below.refl _ _).alloc (Nat.le_refl _) _), hbx.cell 32 _ (by simpa using h32), hbx.cell 33 _ (by simpa using h33), hbx.cell 34 _ (by simpa using h34)⟩⟩
      have HP : As (RdB W1 (.slice (some ⟨G, 0, none⟩) 32 32) x.prev) := ⟨by subst hW1 hG; exact prev_rd (Box.new _ _ _) HX.out⟩
      have HV1 : As (OwB W1 (w.heap.size + 1) 5 u0 L) := ⟨by subst hW1; exact HV0.out.alloc _⟩
      have HN : As (∀ b, u0.ownBlock = some b → w.heap.size < b ∧ b ≠ G) := ⟨fun b hb => by have := HV0.out.lt b hb; omega⟩
      have HGG : As (w.heap.size + 1 ≤ G ∧ G < W1.heap.size) := ⟨by subst hW1 hG; have := HB.out.2.lt; refine ⟨this, ?_⟩; simp⟩
      go_upto_region 6 with (first | ((with_reducible refine wpList_load_mid (op := ⟨_, .load 55 (.tmp 23), _, _, _, _⟩) ?hgd 55 (.tmp 23) rfl _ _ ?hx cs _ HGr.out Try.underlying55 rfl ?hi ?_); (case hgd => exact rfl); (case hx => exact rfl); (case hi => rw [HLC.out]; kernel_rfl)) | ((with_reducible refine wpList_store_new (op := ⟨_, .store 55 (.tmp 6) (.tmp 24), _, _, _, _⟩) ?hgd 55 (.tmp 6) (.tmp 24) rfl (wr) ?cc55 cs ?hw ?hx ?hy ?hi ?hc H1.out ?_); (case hgd => exact rfl); (case hw => exact rfl); (case hx => exact rfl); (case hy => exact rfl); (case hi => rw [HLC.out]; kernel_rfl); (case hc => rw [HLC.out]; exact rfl)))
      rw [← hW1, ← hG]
      clear hW1 hG HV0 HB h32 h33 h34 h35 HGr d1
      refine wp_region_held_drew (S := (fun W : World => KeepI w W #[.int .u32 (t.ver : Int), .slice (some ⟨g, o, none⟩) t.ins.length ci, .slice AO t.outs.length co, .int .u32 (t.lock : Int)] G x A1 c1)) (by kernel_rfl) ?_ (fun hHeld => ?_)
      · exact HQ.out.drew
      refine wpAnyH_take (i := 0) (oi := ?_) (v := ?_) (by simp only [List.getElem?_toArray, List.getElem?_cons_zero, List.getElem?_cons_succ]; rfl) (by kernel_rfl) (by kernel_rfl) (by kernel_rfl) (by exact fun _ _ _ h => h) (Or.inl ⟨by rfl, ?_⟩) (by assumption) ?_
      rotate_left
      · (intro w hSw; (try dsimp only at hSw); obtain ⟨-, -, q32, q33, q34⟩ := hSw; go_simp; first | done | with_reducible rfl)
      try simp only [Act.put, List.setIfInBounds_toArray, List.set_cons_zero, List.set_cons_succ]
      refine wpAnyH_take (i := 1) (oi := ?_) (v := ?_) (by simp only [List.getElem?_toArray, List.getElem?_cons_zero, List.getElem?_cons_succ]; rfl) (by kernel_rfl) (by kernel_rfl) (by kernel_rfl) (by exact fun _ _ _ h => h) (Or.inl ⟨by rfl, ?_⟩) (by assumption) ?_
      rotate_left
      · (intro w hSw; (try dsimp only at hSw); obtain ⟨-, -, q32, q33, q34⟩ := hSw; go_simp; first | done | with_reducible rfl)
      try simp only [Act.put, List.setIfInBounds_toArray, List.set_cons_zero, List.set_cons_succ]
      refine wpAnyH_take (i := 2) (oi := ?_) (v := ?_) (by simp only [List.getElem?_toArray, List.getElem?_cons_zero, List.getElem?_cons_succ]; rfl) (by kernel_rfl) (by kernel_rfl) (by kernel_rfl) (by exact fun _ _ _ h => h) (Or.inl ⟨by rfl, ?_⟩) (by assumption) ?_
      rotate_left
      · (intro w hSw; (try dsimp only at hSw); obtain ⟨-, -, q32, q33, q34⟩ := hSw; go_simp; first | done | with_reducible rfl)
      try simp only [Act.put, List.setIfInBounds_toArray, List.set_cons_zero, List.set_cons_succ]
      refine wpAnyH_take (i := 4) (oi := ?_) (v := ?_) (by simp only [List.getElem?_toArray, List.getElem?_cons_zero, List.getElem?_cons_succ]; rfl) (by kernel_rfl) (by kernel_rfl) (by kernel_rfl) (by exact fun _ _ _ h => h) (Or.inl ⟨by rfl, ?_⟩) (by assumption) ?_
      rotate_left
      · (intro w hSw; (try dsimp only at hSw); obtain ⟨-, -, q32, q33, q34⟩ := hSw; go_simp; first | done | with_reducible rfl)
      try simp only [Act.put, List.setIfInBounds_toArray, List.set_cons_zero, List.set_cons_succ]
      refine wpAnyH_take (i := 5) (oi := ?_) (v := ?_) (by simp only [List.getElem?_toArray, List.getElem?_cons_zero, List.getElem?_cons_succ]; rfl) (by kernel_rfl) (by kernel_rfl) (by kernel_rfl) (by exact fun _ _ _ h => h) (Or.inl ⟨by rfl, ?_⟩) (by assumption) ?_
      rotate_left
      · (intro w hSw; (try dsimp only at hSw); obtain ⟨-, -, q32, q33, q34⟩ := hSw; go_simp; first | done | with_reducible rfl)
      try simp only [Act.put, List.setIfInBounds_toArray, List.set_cons_zero, List.set_cons_succ]
      refine wpAnyH_take (i := 7) (oi := ?_) (v := ?_) (by simp only [List.getElem?_toArray, List.getElem?_cons_zero, List.getElem?_cons_succ]; rfl) (by kernel_rfl) (by kernel_rfl) (by kernel_rfl) (by exact fun _ _ _ h => h) (Or.inl ⟨by rfl, ?_⟩) (by assumption) ?_
      rotate_left
      · (intro w hSw; (try dsimp only at hSw); obtain ⟨-, -, q32, q33, q34⟩ := hSw; go_simp; first | done | with_reducible rfl)
      try simp only [Act.put, List.setIfInBounds_toArray, List.set_cons_zero, List.set_cons_succ]
      refine wpAnyH_take (i := 8) (oi := ?_) (v := ?_) (by simp only [List.getElem?_toArray, List.getElem?_cons_zero, List.getElem?_cons_succ]; rfl) (by kernel_rfl) (by kernel_rfl) (by kernel_rfl) (by exact fun _ _ _ h => h) (Or.inl ⟨by rfl, ?_⟩) (by assumption) ?_
      rotate_left
      · (intro w hSw; (try dsimp only at hSw); obtain ⟨-, -, q32, q33, q34⟩ := hSw; go_simp; first | done | with_reducible rfl)
      try simp only [Act.put, List.setIfInBounds_toArray, List.set_cons_zero, List.set_cons_succ]
      refine wpAnyH_take (i := 10) (oi := ?_) (v := ?_) (by simp only [List.getElem?_toArray, List.getElem?_cons_zero, List.getElem?_cons_succ]; rfl) (by kernel_rfl) (by kernel_rfl) (by kernel_rfl) (by exact fun _ _ _ h => h) (Or.inl ⟨by rfl, ?_⟩) (by assumption) ?_
      rotate_left
      · (intro w hSw; (try dsimp only at hSw); obtain ⟨-, -, q32, q33, q34⟩ := hSw; go_simp; first | done | with_reducible rfl)
      try simp only [Act.put, List.setIfInBounds_toArray, List.set_cons_zero, List.set_cons_succ]
      refine wpAnyH_take (i := 11) (oi := ?_) (v := ?_) (by simp only [List.getElem?_toArray, List.getElem?_cons_zero, List.getElem?_cons_succ]; rfl) (by kernel_rfl) (by kernel_rfl) (by kernel_rfl) (by exact fun _ _ _ h => h) (Or.inl ⟨by rfl, ?_⟩) (by assumption) ?_
      rotate_left
      · (intro w hSw; (try dsimp only at hSw); obtain ⟨-, -, q32, q33, q34⟩ := hSw; go_simp; first | done | with_reducible rfl)
      try simp only [Act.put, List.setIfInBounds_toArray, List.set_cons_zero, List.set_cons_succ]
      refine wpAnyH_ready (rs := [3]) (by kernel_rfl) (by simp) ?_
      refine AllReadyH.cons (o := ?_) (by simp only [List.getElem?_toArray, List.getElem?_cons_zero, List.getElem?_cons_succ]; rfl) (fun K hK => ?_) ?_
      · refine step_appB ?hgd (.tmp 25) (.tmp 27) ?ho ?hty (w.heap.size + 1) (u0) (L) ?hs ?hown (.slice (some ⟨G, 0, none⟩) 32 32) (x.prev) ?hx ?hy ?hl ?hb ?_
        case hgd => rfl
        case ho => rfl
        case hty => rfl
        case hs => rfl
        case hown => exact (OwS.drew HV1.out)
        case hx => rfl
        case hy => exact (RdS.drew HP.out)
        case hl => (have := HLL.out.2; have := HL.out; have := HX.out.prev; omega)
        case hb => have := HGG.out; simp; omega
        intro v3 w3 ho hg
        have hS2 := hHeld.grown hg HN.out
        have HO3 := As.mk ho
        clear ho hg
        refine hK.out _ _ ?_ (fun hHeld2 => ?_)
        · exact hS2
        clear hK K hHeld
        have hHeld := hHeld2
        clear hHeld2
        try simp only [Act.put, List.setIfInBounds_toArray, List.set_cons_zero, List.set_cons_succ]
        refine wpAnyH_ready (rs := [6]) (by kernel_rfl) (by simp) ?_
        refine AllReadyH.cons (o := ?_) (by simp only [List.getElem?_toArray, List.getElem?_cons_zero, List.getElem?_cons_succ]; rfl) (fun K hK => ?_) ?_
        · go_simp
          refine (small_ref _ (L ++ x.prev) x.vout _ _ HO3.out.rd (by have := HLL.out.2; have := HL.out; have := HX.out.prev; rw [List.length_append]; omega) HX.out.vout rfl).mono ?_
          rintro e w6 ⟨r6, rfl, ho, hb⟩
          have HO6 := As.mk ho
          have hS2 := hHeld.below hb
          clear ho hb
          dsimp only
          refine hK.out _ _ ?_ (fun hHeld2 => ?_)
          · exact hS2
          clear hK K hHeld
          have hHeld := hHeld2
          clear hHeld2
          try simp only [Act.put, List.setIfInBounds_toArray, List.set_cons_zero, List.set_cons_succ]
          refine wpAnyH_ready (rs := [9]) (by kernel_rfl) (by simp) ?_
          refine AllReadyH.cons (o := ?_) (by simp only [List.getElem?_toArray, List.getElem?_cons_zero, List.getElem?_cons_succ]; rfl) (fun K hK => ?_) ?_
          · go_simp
            refine (qcounted_any _ _ (L ++ x.prev ++ le x.vout 4) x.script _ HO6.out.rd (HS.out.below hHeld.1) (by have := HLL.out.2; have := HL.out; have := HX.out.prev; simp only [List.length_append, le_length]; omega) (by have := HOK.out.1; omega)).mono ?_
            rintro e w7 ⟨r7, rfl, ho, hb⟩
            have HO7 := As.mk ho
            have hS2 := hHeld.below hb
            have H67 := As.mk (Nat.lt_of_lt_of_le hHeld.2.1.lt hb.size)
            clear ho hb
            dsimp only
            refine hK.out _ _ ?_ (fun hHeld2 => ?_)
            · exact hS2
            clear hK K hHeld
            have hHeld := hHeld2
            clear hHeld2
            try simp only [Act.put, List.setIfInBounds_toArray, List.set_cons_zero, List.set_cons_succ]
            refine wpAnyH_ready (rs := [12]) (by kernel_rfl) (by simp) ?_
            refine AllReadyH.cons (o := ?_) (by simp only [List.getElem?_toArray, List.getElem?_cons_zero, List.getElem?_cons_succ]; rfl) (fun K hK => ?_) ?_
            · go_simp
              refine (small_ref _ (L ++ x.prev ++ le x.vout 4 ++ cntB x.script) x.seq _ _ HO7.out.rd (by have := HLL.out.2; have := HL.out; have := HX.out.prev; have := cntB_length _ HOK.out.1; simp only [List.length_append, le_length]; omega) HX.out.seq rfl).mono ?_
              rintro e w8 ⟨r8, rfl, ho, hb⟩
              have HO8 := As.mk ho
              have hS2 := hHeld.below hb
              clear ho hb
              dsimp only
              refine hK.out _ _ ?_ (fun hHeld2 => ?_)
              · exact hS2
              clear hK K hHeld
              have hHeld := hHeld2
              clear hHeld2
              try simp only [Act.put, List.setIfInBounds_toArray, List.set_cons_zero, List.set_cons_succ]
              refine wpAnyH_take (i := 13) (oi := ?_) (v := ?_) (by simp only [List.getElem?_toArray, List.getElem?_cons_zero, List.getElem?_cons_succ]; rfl) (by kernel_rfl) (by kernel_rfl) (by kernel_rfl) (by exact fun _ _ _ h => h) (Or.inl ⟨by rfl, ?_⟩) (by assumption) ?_
              rotate_left
              · (intro w hSw; (try dsimp only at hSw); obtain ⟨-, -, q32, q33, q34⟩ := hSw; go_simp; first | done | with_reducible rfl)
              try simp only [Act.put, List.setIfInBounds_toArray, List.set_cons_zero, List.set_cons_succ]
              refine wpAnyH_done (by kernel_rfl) ?_ _
              go_wp2_with fail
              go_roundw
              case rel =>
                refine ⟨k + 1, _, by go_num, by omega, ⟨hHeld.1, hHeld.2.1⟩, ⟨OwS.mono HO8.out ?_⟩, ⟨?_, ?_⟩⟩
                · exact H67.out
                · rw [flatMap_step inB HK.out, HLL.out.1]; simp only [inB, List.append_assoc]
                · have h1 := inB_length x HOK.out HX.out.prev; have h2 := HLL.out.2; unfold inB at h1; simp only [List.length_append] at h1 ⊢; omega
              case measure => simp [intOf]; omega
            exact AllReadyH.nil
          exact AllReadyH.nil
        exact AllReadyH.nil
      exact AllReadyH.nil
    · have HL2 : As (L = l ++ cnt t.ins.length ++ t.ins.flatMap inB ∧ L.length ≤ 30000) := ⟨by have := HLL.out.1; rwa [List.take_of_length_le (by omega)] at this, by have := HLL.out.2; have := HL.out; omega⟩
      have d2 := HB.out.2.cell 2 _ rfl
      go_upto_region 8 with (go_at_call 28; (with_reducible refine (count_ref _ L _ _ HV0.out.rd (by have := HL2.out; omega)).mono ?_); rintro e w2 ⟨r2, rfl, ho, hb⟩; have HR2 := As.mk ho; have HB2 := As.mk hb; clear ho hb)
      have HE2 : As (Below w.heap.size w w2 ∧ Box w2 w.heap.size #[.int .u32 (t.ver : Int), .slice AI t.ins.length ci, .slice AO t.outs.length co, .int .u32 (t.lock : Int)] 51) := ⟨HB.out.1.trans (HB2.out.mono HB.out.1.size), HB.out.2.below HB2.out⟩
      have HO2 : As (OwB w2 (w.heap.size + 1) 5 r2 (L ++ cnt t.outs.length)) := ⟨by have := HR2.out; rw [clampU_len _ (by omega)] at this; exact OwS.mono this HB.out.2.lt⟩
      clear HR2 HB2 HB HLL d2 d1 hk hlt HV0 HE HO1
      go_wp2
      go_loopw [0, 7] (fun v0 v7 wr => ∃ (k : Nat) (M : List UInt8), v7 = .int .i64 (k : Int) ∧ (k : Int) ≤ t.outs.length ∧ As (Below w.heap.size w wr ∧ Box wr w.heap.size #[.int .u32 (t.ver : Int), .slice AI t.ins.length ci, .slice AO t.outs.length co, .int .u32 (t.lock : Int)] 51) ∧ As (OwB wr (w.heap.size + 1) 5 v0 M) ∧ As (M = L ++ cnt t.outs.length ++ (t.outs.take k).flatMap outB ∧ M.length ≤ L.length + 5 + 513 * k)) (fun _ v7 _ => t.outs.length - (intOf v7).toNat)
      case atStart => exact ⟨0, _, rfl, by omega, HE2, HO2, ⟨by simp, by have := cnt_length t.outs.length; simp only [List.length_append]; omega⟩⟩
      case round =>
        obtain ⟨k, M, rfl, hk, HB, HV0, HLL⟩ := hrel
        have d2 := HB.out.2.cell 2 _ rfl
        by_cases hlt : (k : Int) < t.outs.length
        · obtain ⟨g, o, x, A1, c1, rfl, HK, h0, h1, HS, HVAL⟩ := RdOuts.at HO.out k (by omega)
          have HOK := As.mk (HM.out.2.1 x (List.mem_of_getElem? HK.out))
          have HK0 := As.mk (And.intro (cell_below HB.out.1 h0) (cell_below HB.out.1 h1))
          clear h0 h1
          have hkl : k < t.outs.length := by omega
          go_upto_region 11 with (fail)
          have HD2 := As.mk d2
          clear d2
          refine wp_region_held_drew (S := (fun V : World => Below wr.heap.size wr V)) (by kernel_rfl) ?_ (fun hHeld => ?_)
          · exact below_dr wr
          refine wpAnyH_take (i := 0) (oi := ?_) (v := ?_) (by simp only [List.getElem?_toArray, List.getElem?_cons_zero, List.getElem?_cons_succ]; rfl) (by kernel_rfl) (by kernel_rfl) (by kernel_rfl) (by exact fun _ _ _ h => h) (Or.inl ⟨by rfl, ?_⟩) (by assumption) ?_
          rotate_left
          · (intro w hSw; (try dsimp only at hSw); have q2 := cell_of_below hSw HD2.out; have q3 := cell_of_below hSw HK0.out.1; have q4 := cell_of_below hSw HK0.out.2; clear hSw; go_simp; first | done | with_reducible rfl)
          try simp only [Act.put, List.setIfInBounds_toArray, List.set_cons_zero, List.set_cons_succ]
          refine wpAnyH_take (i := 1) (oi := ?_) (v := ?_) (by simp only [List.getElem?_toArray, List.getElem?_cons_zero, List.getElem?_cons_succ]; rfl) (by kernel_rfl) (by kernel_rfl) (by kernel_rfl) (by exact fun _ _ _ h => h) (Or.inl ⟨by rfl, ?_⟩) (by assumption) ?_
          rotate_left
          · (intro w hSw; (try dsimp only at hSw); have q2 := cell_of_below hSw HD2.out; have q3 := cell_of_below hSw HK0.out.1; have q4 := cell_of_below hSw HK0.out.2; clear hSw; go_simp; first | done | with_reducible rfl)
          try simp only [Act.put, List.setIfInBounds_toArray, List.set_cons_zero, List.set_cons_succ]
          refine wpAnyH_take (i := 2) (oi := ?_) (v := ?_) (by simp only [List.getElem?_toArray, List.getElem?_cons_zero, List.getElem?_cons_succ]; rfl) (by kernel_rfl) (by kernel_rfl) (by kernel_rfl) (by exact fun _ _ _ h => h) (Or.inl ⟨by rfl, ?_⟩) (by assumption) ?_
          rotate_left
          · (intro w hSw; (try dsimp only at hSw); have q2 := cell_of_below hSw HD2.out; have q3 := cell_of_below hSw HK0.out.1; have q4 := cell_of_below hSw HK0.out.2; clear hSw; go_simp; first | done | with_reducible rfl)
          try simp only [Act.put, List.setIfInBounds_toArray, List.set_cons_zero, List.set_cons_succ]
          refine wpAnyH_take (i := 3) (oi := ?_) (v := ?_) (by simp only [List.getElem?_toArray, List.getElem?_cons_zero, List.getElem?_cons_succ]; rfl) (by kernel_rfl) (by kernel_rfl) (by kernel_rfl) (by exact fun _ _ _ h => h) (Or.inl ⟨by rfl, ?_⟩) (by assumption) ?_
          rotate_left
          · (intro w hSw; (try dsimp only at hSw); have q2 := cell_of_below hSw HD2.out; have q3 := cell_of_below hSw HK0.out.1; have q4 := cell_of_below hSw HK0.out.2; clear hSw; go_simp; first | done | with_reducible rfl)
          try simp only [Act.put, List.setIfInBounds_toArray, List.set_cons_zero, List.set_cons_succ]
          refine wpAnyH_take (i := 4) (oi := ?_) (v := ?_) (by simp only [List.getElem?_toArray, List.getElem?_cons_zero, List.getElem?_cons_succ]; rfl) (by kernel_rfl) (by kernel_rfl) (by kernel_rfl) (by exact fun _ _ _ h => h) (Or.inl ⟨by rfl, ?_⟩) (by assumption) ?_
          rotate_left
          · (intro w hSw; (try dsimp only at hSw); have q2 := cell_of_below hSw HD2.out; have q3 := cell_of_below hSw HK0.out.1; have q4 := cell_of_below hSw HK0.out.2; clear hSw; go_simp; first | done | with_reducible rfl)
          try simp only [Act.put, List.setIfInBounds_toArray, List.set_cons_zero, List.set_cons_succ]
          refine wpAnyH_take (i := 5) (oi := ?_) (v := ?_) (by simp only [List.getElem?_toArray, List.getElem?_cons_zero, List.getElem?_cons_succ]; rfl) (by kernel_rfl) (by kernel_rfl) (by kernel_rfl) (by exact fun _ _ _ h => h) (Or.inl ⟨by rfl, ?_⟩) (by assumption) ?_
          rotate_left
          · (intro w hSw; (try dsimp only at hSw); have q2 := cell_of_below hSw HD2.out; have q3 := cell_of_below hSw HK0.out.1; have q4 := cell_of_below hSw HK0.out.2; clear hSw; go_simp; first | done | with_reducible rfl)
          try simp only [Act.put, List.setIfInBounds_toArray, List.set_cons_zero, List.set_cons_succ]
          refine wpAnyH_take (i := 6) (oi := ?_) (v := ?_) (by simp only [List.getElem?_toArray, List.getElem?_cons_zero, List.getElem?_cons_succ]; rfl) (by kernel_rfl) (by kernel_rfl) (by kernel_rfl) (by exact fun _ _ _ h => h) (Or.inl ⟨by rfl, ?_⟩) (by assumption) ?_
          rotate_left
          · (intro w hSw; (try dsimp only at hSw); have q2 := cell_of_below hSw HD2.out; have q3 := cell_of_below hSw HK0.out.1; have q4 := cell_of_below hSw HK0.out.2; clear hSw; go_simp; first | done | with_reducible rfl)
          try simp only [Act.put, List.setIfInBounds_toArray, List.set_cons_zero, List.set_cons_succ]
          refine wpAnyH_take (i := 8) (oi := ?_) (v := ?_) (by simp only [List.getElem?_toArray, List.getElem?_cons_zero, List.getElem?_cons_succ]; rfl) (by kernel_rfl) (by kernel_rfl) (by kernel_rfl) (by exact fun _ _ _ h => h) (Or.inl ⟨by rfl, ?_⟩) (by assumption) ?_
          rotate_left
          · (intro w hSw; (try dsimp only at hSw); have q2 := cell_of_below hSw HD2.out; have q3 := cell_of_below hSw HK0.out.1; have q4 := cell_of_below hSw HK0.out.2; clear hSw; go_simp; first | done | with_reducible rfl)
          try simp only [Act.put, List.setIfInBounds_toArray, List.set_cons_zero, List.set_cons_succ]
          refine wpAnyH_take (i := 9) (oi := ?_) (v := ?_) (by simp only [List.getElem?_toArray, List.getElem?_cons_zero, List.getElem?_cons_succ]; rfl) (by kernel_rfl) (by kernel_rfl) (by kernel_rfl) (by exact fun _ _ _ h => h) (Or.inl ⟨by rfl, ?_⟩) (by assumption) ?_
          rotate_left
          · (intro w hSw; (try dsimp only at hSw); have q2 := cell_of_below hSw HD2.out; have q3 := cell_of_below hSw HK0.out.1; have q4 := cell_of_below hSw HK0.out.2; clear hSw; go_simp; first | done | with_reducible rfl)
          try simp only [Act.put, List.setIfInBounds_toArray, List.set_cons_zero, List.set_cons_succ]
          refine wpAnyH_take (i := 10) (oi := ?_) (v := ?_) (by simp only [List.getElem?_toArray, List.getElem?_cons_zero, List.getElem?_cons_succ]; rfl) (by kernel_rfl) (by kernel_rfl) (by kernel_rfl) (by exact fun _ _ _ h => h) (Or.inl ⟨by rfl, ?_⟩) (by assumption) ?_
          rotate_left
          · (intro w hSw; (try dsimp only at hSw); have q2 := cell_of_below hSw HD2.out; have q3 := cell_of_below hSw HK0.out.1; have q4 := cell_of_below hSw HK0.out.2; clear hSw; go_simp; first | done | with_reducible rfl)
          try simp only [Act.put, List.setIfInBounds_toArray, List.set_cons_zero, List.set_cons_succ]
          refine wpAnyH_take (i := 11) (oi := ?_) (v := ?_) (by simp only [List.getElem?_toArray, List.getElem?_cons_zero, List.getElem?_cons_succ]; rfl) (by kernel_rfl) (by kernel_rfl) (by kernel_rfl) (by exact fun _ _ _ h => h) (Or.inl ⟨by rfl, ?_⟩) (by assumption) ?_
          rotate_left
          · (intro w hSw; (try dsimp only at hSw); have q2 := cell_of_below hSw HD2.out; have q3 := cell_of_below hSw HK0.out.1; have q4 := cell_of_below hSw HK0.out.2; clear hSw; go_simp; first | done | with_reducible rfl)
          try simp only [Act.put, List.setIfInBounds_toArray, List.set_cons_zero, List.set_cons_succ]
          refine wpAnyH_take (i := 12) (oi := ?_) (v := ?_) (by simp only [List.getElem?_toArray, List.getElem?_cons_zero, List.getElem?_cons_succ]; rfl) (by kernel_rfl) (by kernel_rfl) (by kernel_rfl) (by exact fun _ _ _ h => h) (Or.inl ⟨by rfl, ?_⟩) (by assumption) ?_
          rotate_left
          · (intro w hSw; (try dsimp only at hSw); have q2 := cell_of_below hSw HD2.out; have q3 := cell_of_below hSw HK0.out.1; have q4 := cell_of_below hSw HK0.out.2; clear hSw; go_simp; first | done | with_reducible rfl)
          try simp only [Act.put, List.setIfInBounds_toArray, List.set_cons_zero, List.set_cons_succ]
          refine wpAnyH_take (i := 13) (oi := ?_) (v := ?_) (by simp only [List.getElem?_toArray, List.getElem?_cons_zero, List.getElem?_cons_succ]; rfl) (by kernel_rfl) (by kernel_rfl) (by kernel_rfl) (by exact fun _ _ _ h => h) (Or.inl ⟨by rfl, ?_⟩) (by assumption) ?_
          rotate_left
          · (intro w hSw; (try dsimp only at hSw); have q2 := cell_of_below hSw HD2.out; have q3 := cell_of_below hSw HK0.out.1; have q4 := cell_of_below hSw HK0.out.2; clear hSw; go_simp; first | done | with_reducible rfl)
          try simp only [Act.put, List.setIfInBounds_toArray, List.set_cons_zero, List.set_cons_succ]
          refine wpAnyH_ready (rs := [7]) (by kernel_rfl) (by simp) ?_
          refine AllReadyH.cons (o := ?_) (by simp only [List.getElem?_toArray, List.getElem?_cons_zero, List.getElem?_cons_succ]; rfl) (fun K hK => ?_) ?_
          · go_simp
            refine (big_ref _ M x.value _ _ (RdS.drew HV0.out.rd) (by have := HLL.out.2; have := HL2.out.2; omega) HVAL.out rfl).mono ?_
            rintro e w3 ⟨r3, rfl, ho, hb⟩
            have HO3 := As.mk ho
            have hS2 := hHeld.trans (hb.mono hHeld.size)
            clear ho hb
            dsimp only
            refine hK.out _ _ ?_ (fun hHeld2 => ?_)
            · exact hS2
            clear hK K hHeld
            have hHeld := hHeld2
            clear hHeld2
            try simp only [Act.put, List.setIfInBounds_toArray, List.set_cons_zero, List.set_cons_succ]
            refine wpAnyH_ready (rs := [14]) (by kernel_rfl) (by simp) ?_
            refine AllReadyH.cons (o := ?_) (by simp only [List.getElem?_toArray, List.getElem?_cons_zero, List.getElem?_cons_succ]; rfl) (fun K hK => ?_) ?_
            · go_simp
              refine (qcounted_any _ _ (M ++ le x.value 8) x.script _ HO3.out.rd (HS.out.below (HB.out.1.trans (hHeld.mono HB.out.1.size))) (by have := HLL.out.2; have := HL2.out.2; simp only [List.length_append, le_length]; omega) (by have := HOK.out; unfold okOut at this; omega)).mono ?_
              rintro e w4 ⟨r4, rfl, ho, hb⟩
              have HO4 := As.mk (OwS.mono ho hHeld.size)
              have hS2 := hHeld.trans (hb.mono hHeld.size)
              clear ho hb
              dsimp only
              refine hK.out _ _ ?_ (fun hHeld2 => ?_)
              · exact hS2
              clear hK K hHeld
              have hHeld := hHeld2
              clear hHeld2
              try simp only [Act.put, List.setIfInBounds_toArray, List.set_cons_zero, List.set_cons_succ]
              refine wpAnyH_take (i := 15) (oi := ?_) (v := ?_) (by simp only [List.getElem?_toArray, List.getElem?_cons_zero, List.getElem?_cons_succ]; rfl) (by kernel_rfl) (by kernel_rfl) (by kernel_rfl) (by exact fun _ _ _ h => h) (Or.inl ⟨by rfl, ?_⟩) (by assumption) ?_
              rotate_left
              · (intro w hSw; (try dsimp only at hSw); have q2 := cell_of_below hSw HD2.out; have q3 := cell_of_below hSw HK0.out.1; have q4 := cell_of_below hSw HK0.out.2; clear hSw; go_simp; first | done | with_reducible rfl)
              try simp only [Act.put, List.setIfInBounds_toArray, List.set_cons_zero, List.set_cons_succ]
              refine wpAnyH_done (by kernel_rfl) ?_ _
              go_wp2_with fail
              go_roundw
              case rel =>
                refine ⟨k + 1, _, by go_num, by omega, ⟨HB.out.1.trans (hHeld.mono HB.out.1.size), HB.out.2.below hHeld⟩, ⟨OwS.mono HO4.out HB.out.2.lt⟩, ⟨?_, ?_⟩⟩
                · rw [flatMap_step outB HK.out, HLL.out.1]; simp only [outB, List.append_assoc]
                · have h1 := outB_length x HOK.out; have h2 := HLL.out.2; unfold outB at h1; simp only [List.length_append] at h1 ⊢; omega
              case measure => simp [intOf]; omega
            exact AllReadyH.nil
          exact AllReadyH.nil
        · go_wp2
          go_ret
          refine ⟨_, rfl, ?_, HB.out.1⟩
          have h := HV0.out
          have h2 := HLL.out.1
          rw [List.take_of_length_le (by omega)] at h2
          rw [h2, HL2.out.1] at h
          have e : l ++ bodyB t = l ++ cnt t.ins.length ++ t.ins.flatMap inB ++ cnt t.outs.length ++ t.outs.flatMap outB := by simp only [bodyB, List.append_assoc]
          rw [e]
          exact OwS.mono h (by omega)
end Go.Proofs.Ytfggkljgfadacaa.W
namespace Go.Proofs.Ytfggkljgfadacaa.W
open Go.RowKit Go.Proofs.Ytfggkljgfadacaa.B Go.Proofs

set_option maxHeartbeats 8000000 in
set_option maxRecDepth 100000 in
theorem qbase_not (cs : List Value) (t : LTx) (w : World) (hr : TxC w cs t) (hm : ¬ mayT t) :
    Calls Try.prog 56 #[.agg cs.toArray] w fun e w' => e = .returned (.slice none 0 0) ∧ Below w.heap.size w w' := by
  obtain ⟨iv, ov, rfl, hi, ho, hver, hlock⟩ := hr
  obtain ⟨AI, ci, rfl, hi1, hi2, _⟩ := hi.form
  obtain ⟨AO, co, rfl, ho1, ho2, _⟩ := ho.form
  have HT := As.mk (show TxC w [.int .u32 (t.ver : Int), .slice AI t.ins.length ci, .slice AO t.outs.length co, .int .u32 (t.lock : Int)] t from ⟨_, _, rfl, hi, ho, hver, hlock⟩)
  have HI := As.mk hi
  have HVER := As.mk hver
  have HLOCK := As.mk hlock
  have HX : As (Below w.heap.size w (w.alloc (.cells #[.int .u32 (t.ver : Int), .slice AI t.ins.length ci, .slice AO t.outs.length co, .int .u32 (t.lock : Int)] 51)) ∧ Box (w.alloc (.cells #[.int .u32 (t.ver : Int), .slice AI t.ins.length ci, .slice AO t.outs.length co, .int .u32 (t.lock : Int)] 51)) w.heap.size #[.int .u32 (t.ver : Int), .slice AI t.ins.length ci, .slice AO t.outs.length co, .int .u32 (t.lock : Int)] 51) := ⟨(Below.refl _ _).alloc (Nat.le_refl _) _, Box.new _ _ _⟩
  have HDM : As (decide (mayT t) = false) := ⟨dec_not hm⟩
  clear hm hi ho hi1 hi2 ho1 ho2 hver hlock
  have d0 := HX.out.2.cell 0 _ rfl
  have d1 := HX.out.2.cell 1 _ rfl
  have d2 := HX.out.2.cell 2 _ rfl
  have d3 := HX.out.2.cell 3 _ rfl
  go_enter Try.func56, Try.ntmps56
  go_wp2_with (go_at_call 54; (with_reducible refine (qmay_any _ t _ HDM.out (TxC.below HT.out HX.out.1)).mono ?_); rintro e w1 ⟨rfl, hb⟩; have HX1 := As.mk (And.intro (HX.out.1.trans (hb.mono (by first | exact HX.out.1.size | simp))) (HX.out.2.below hb)); clear hb d0 d1 d2 d3; have d0 := HX1.out.2.cell 0 _ rfl; have d1 := HX1.out.2.cell 1 _ rfl; have d2 := HX1.out.2.cell 2 _ rfl; have d3 := HX1.out.2.cell 3 _ rfl)
  go_ret
  exact ⟨rfl, HX1.out.1⟩
set_option maxHeartbeats 8000000 in
set_option maxRecDepth 100000 in
theorem qbase_may (cs : List Value) (t : LTx) (w : World) (hr : TxC w cs t) (hm : mayT t) :
    Calls Try.prog 56 #[.agg cs.toArray] w fun e w' => ∃ r, e = .returned r ∧ OwB w' w.heap.size 5 r (baseB t) ∧ Below w.heap.size w w' := by
  obtain ⟨iv, ov, rfl, hi, ho, hver, hlock⟩ := hr
  obtain ⟨AI, ci, rfl, hi1, hi2, _⟩ := hi.form
  obtain ⟨AO, co, rfl, ho1, ho2, _⟩ := ho.form
  have HT := As.mk (show TxC w [.int .u32 (t.ver : Int), .slice AI t.ins.length ci, .slice AO t.outs.length co, .int .u32 (t.lock : Int)] t from ⟨_, _, rfl, hi, ho, hver, hlock⟩)
  have HI := As.mk hi
  have HVER := As.mk hver
  have HLOCK := As.mk hlock
  have HX : As (Below w.heap.size w (w.alloc (.cells #[.int .u32 (t.ver : Int), .slice AI t.ins.length ci, .slice AO t.outs.length co, .int .u32 (t.lock : Int)] 51)) ∧ Box (w.alloc (.cells #[.int .u32 (t.ver : Int), .slice AI t.ins.length ci, .slice AO t.outs.length co, .int .u32 (t.lock : Int)] 51)) w.heap.size #[.int .u32 (t.ver : Int), .slice AI t.ins.length ci, .slice AO t.outs.length co, .int .u32 (t.lock : Int)] 51) := ⟨(Below.refl _ _).alloc (Nat.le_refl _) _, Box.new _ _ _⟩
  have HDM : As (decide (mayT t) = true) := ⟨decide_eq_true hm⟩
  have HM := As.mk hm
  have HBL := As.mk (bodyB_length t hm HT.out.prev)
  clear hm hi ho hi1 hi2 ho1 ho2 hver hlock
  have d0 := HX.out.2.cell 0 _ rfl
  have d1 := HX.out.2.cell 1 _ rfl
  have d2 := HX.out.2.cell 2 _ rfl
  have d3 := HX.out.2.cell 3 _ rfl
  go_enter Try.func56, Try.ntmps56
  go_upto_region 3 with (go_at_call 54; (with_reducible refine (qmay_any _ t _ HDM.out (TxC.below HT.out HX.out.1)).mono ?_); rintro e w1 ⟨rfl, hb⟩; have HX1 := As.mk (And.intro (HX.out.1.trans (hb.mono (by first | exact HX.out.1.size | simp))) (HX.out.2.below hb)); clear hb d0 d1 d2 d3; have d0 := HX1.out.2.cell 0 _ rfl; have d1 := HX1.out.2.cell 1 _ rfl; have d2 := HX1.out.2.cell 2 _ rfl; have d3 := HX1.out.2.cell 3 _ rfl)
  clear d0 d1 d2 d3
  refine wp_region_held_drew (S := (fun W : World => Below w.heap.size w W ∧ Box W w.heap.size #[.int .u32 (t.ver : Int), .slice AI t.ins.length ci, .slice AO t.outs.length co, .int .u32 (t.lock : Int)] 51)) (by kernel_rfl) ?_ (fun hHeld => ?_)
  · exact ⟨HX1.out.1.drew, HX1.out.2⟩
  refine wpAnyH_take (i := 0) (oi := ?_) (v := ?_) (by simp only [List.getElem?_toArray, List.getElem?_cons_zero, List.getElem?_cons_succ]; rfl) (by kernel_rfl) (by kernel_rfl) (by kernel_rfl) (by exact fun _ _ _ h => h) (Or.inl ⟨by rfl, ?_⟩) (by assumption) ?_
  rotate_left
  · (intro w hSw; (try dsimp only at hSw); have q0 := hSw.2.cell 0 _ rfl; have q1 := hSw.2.cell 1 _ rfl; have q2 := hSw.2.cell 2 _ rfl; have q3 := hSw.2.cell 3 _ rfl; clear hSw; go_simp; first | done | with_reducible rfl)
  try simp only [Act.put, List.setIfInBounds_toArray, List.set_cons_zero, List.set_cons_succ]
  refine wpAnyH_take (i := 1) (oi := ?_) (v := ?_) (by simp only [List.getElem?_toArray, List.getElem?_cons_zero, List.getElem?_cons_succ]; rfl) (by kernel_rfl) (by kernel_rfl) (by kernel_rfl) (by exact fun _ _ _ h => h) (Or.inl ⟨by rfl, ?_⟩) (by assumption) ?_
  rotate_left
  · (intro w hSw; (try dsimp only at hSw); have q0 := hSw.2.cell 0 _ rfl; have q1 := hSw.2.cell 1 _ rfl; have q2 := hSw.2.cell 2 _ rfl; have q3 := hSw.2.cell 3 _ rfl; clear hSw; go_simp; first | done | with_reducible rfl)
  try simp only [Act.put, List.setIfInBounds_toArray, List.set_cons_zero, List.set_cons_succ]
  refine wpAnyH_take (i := 3) (oi := ?_) (v := ?_) (by simp only [List.getElem?_toArray, List.getElem?_cons_zero, List.getElem?_cons_succ]; rfl) (by kernel_rfl) (by kernel_rfl) (by kernel_rfl) (by exact fun _ _ _ h => h) (Or.inl ⟨by rfl, ?_⟩) (by assumption) ?_
  rotate_left
  · (intro w hSw; (try dsimp only at hSw); have q0 := hSw.2.cell 0 _ rfl; have q1 := hSw.2.cell 1 _ rfl; have q2 := hSw.2.cell 2 _ rfl; have q3 := hSw.2.cell 3 _ rfl; clear hSw; go_simp; first | done | with_reducible rfl)
  try simp only [Act.put, List.setIfInBounds_toArray, List.set_cons_zero, List.set_cons_succ]
  refine wpAnyH_take (i := 5) (oi := ?_) (v := ?_) (by simp only [List.getElem?_toArray, List.getElem?_cons_zero, List.getElem?_cons_succ]; rfl) (by kernel_rfl) (by kernel_rfl) (by kernel_rfl) (by exact fun _ _ _ h => h) (Or.inl ⟨by rfl, ?_⟩) (by assumption) ?_
  rotate_left
  · (intro w hSw; (try dsimp only at hSw); have q0 := hSw.2.cell 0 _ rfl; have q1 := hSw.2.cell 1 _ rfl; have q2 := hSw.2.cell 2 _ rfl; have q3 := hSw.2.cell 3 _ rfl; clear hSw; go_simp; first | done | with_reducible rfl)
  try simp only [Act.put, List.setIfInBounds_toArray, List.set_cons_zero, List.set_cons_succ]
  refine wpAnyH_take (i := 6) (oi := ?_) (v := ?_) (by simp only [List.getElem?_toArray, List.getElem?_cons_zero, List.getElem?_cons_succ]; rfl) (by kernel_rfl) (by kernel_rfl) (by kernel_rfl) (by exact fun _ _ _ h => h) (Or.inl ⟨by rfl, ?_⟩) (by assumption) ?_
  rotate_left
  · (intro w hSw; (try dsimp only at hSw); have q0 := hSw.2.cell 0 _ rfl; have q1 := hSw.2.cell 1 _ rfl; have q2 := hSw.2.cell 2 _ rfl; have q3 := hSw.2.cell 3 _ rfl; clear hSw; go_simp; first | done | with_reducible rfl)
  try simp only [Act.put, List.setIfInBounds_toArray, List.set_cons_zero, List.set_cons_succ]
  refine wpAnyH_ready (rs := [2]) (by kernel_rfl) (by simp) ?_
  refine AllReadyH.cons (o := ?_) (by simp only [List.getElem?_toArray, List.getElem?_cons_zero, List.getElem?_cons_succ]; rfl) (fun K hK => ?_) ?_
  · go_simp
    refine (small_ref _ [] t.ver _ _ (RdB.nil _) (by simp) HVER.out rfl).mono ?_
    rintro e w2 ⟨r2, rfl, ho, hb⟩
    have HO2 := As.mk (show OwB w2 (w.heap.size + 1) 5 r2 (le t.ver 4) from OwS.mono ho hHeld.2.lt)
    have hS2 := And.intro (hHeld.1.trans (hb.mono hHeld.1.size)) (hHeld.2.below hb)
    clear ho hb
    dsimp only
    refine hK.out _ _ ?_ (fun hHeld2 => ?_)
    · exact hS2
    clear hK K hHeld
    have hHeld := hHeld2
    clear hHeld2
    try simp only [Act.put, List.setIfInBounds_toArray, List.set_cons_zero, List.set_cons_succ]
    refine wpAnyH_ready (rs := [4]) (by kernel_rfl) (by simp) ?_
    refine AllReadyH.cons (o := ?_) (by simp only [List.getElem?_toArray, List.getElem?_cons_zero, List.getElem?_cons_succ]; rfl) (fun K hK => ?_) ?_
    · go_simp
      refine (qbody_any _ (le t.ver 4) _ t _ HO2.out.rd (by simp [le_length]) (TxC.below HT.out hHeld.1) HM.out).mono ?_
      rintro e w4 ⟨r4, rfl, ho, hb⟩
      have HO4 := As.mk (show OwB w4 w2.heap.size 5 r4 _ from ho)
      have hS2 := And.intro (hHeld.1.trans (hb.mono hHeld.1.size)) (hHeld.2.below hb)
      clear ho hb
      dsimp only
      refine hK.out _ _ ?_ (fun hHeld2 => ?_)
      · exact hS2
      clear hK K hHeld
      have hHeld := hHeld2
      clear hHeld2
      try simp only [Act.put, List.setIfInBounds_toArray, List.set_cons_zero, List.set_cons_succ]
      refine wpAnyH_ready (rs := [7]) (by kernel_rfl) (by simp) ?_
      refine AllReadyH.cons (o := ?_) (by simp only [List.getElem?_toArray, List.getElem?_cons_zero, List.getElem?_cons_succ]; rfl) (fun K hK => ?_) ?_
      · go_simp
        refine (small_ref _ (le t.ver 4 ++ bodyB t) t.lock _ _ HO4.out.rd (by have := HBL.out; simp only [List.length_append, le_length]; omega) HLOCK.out rfl).mono ?_
        rintro e w5 ⟨r5, rfl, ho, hb⟩
        have HO5 := As.mk (OwS.mono ho hHeld.1.size)
        have hS2 := And.intro (hHeld.1.trans (hb.mono hHeld.1.size)) (hHeld.2.below hb)
        clear ho hb
        dsimp only
        refine hK.out _ _ ?_ (fun hHeld2 => ?_)
        · exact hS2
        clear hK K hHeld
        have hHeld := hHeld2
        clear hHeld2
        try simp only [Act.put, List.setIfInBounds_toArray, List.set_cons_zero, List.set_cons_succ]
        refine wpAnyH_take (i := 8) (oi := ?_) (v := ?_) (by simp only [List.getElem?_toArray, List.getElem?_cons_zero, List.getElem?_cons_succ]; rfl) (by kernel_rfl) (by kernel_rfl) (by kernel_rfl) (by exact fun _ _ _ h => h) (Or.inl ⟨by rfl, ?_⟩) (by assumption) ?_
        rotate_left
        · (intro w hSw; (try dsimp only at hSw); have q0 := hSw.2.cell 0 _ rfl; have q1 := hSw.2.cell 1 _ rfl; have q2 := hSw.2.cell 2 _ rfl; have q3 := hSw.2.cell 3 _ rfl; clear hSw; go_simp; first | done | with_reducible rfl)
        try simp only [Act.put, List.setIfInBounds_toArray, List.set_cons_zero, List.set_cons_succ]
        refine wpAnyH_done (by kernel_rfl) ?_ _
        go_wp2_with fail
        go_ret
        exact ⟨_, rfl, HO5.out, hHeld.1⟩
      exact AllReadyH.nil
    exact AllReadyH.nil
  exact AllReadyH.nil
theorem qbase_any (cs : List Value) (t : LTx) (w : World) (hr : TxC w cs t) :
    Calls Try.prog 56 #[.agg cs.toArray] w fun e w' => ∃ r, e = .returned r ∧ OwB w' w.heap.size 5 r (baseT t) ∧ Below w.heap.size w w' := by
  by_cases hm : mayT t
  · unfold baseT; rw [if_pos hm]; exact qbase_may cs t w hr hm
  · refine (qbase_not cs t w hr hm).mono ?_
    rintro e w' ⟨rfl, hb⟩
    refine ⟨_, rfl, ?_, hb⟩
    unfold baseT
    rw [if_neg hm]
    exact OwS.nil _ _ _ _
set_option maxHeartbeats 8000000 in
set_option maxRecDepth 100000 in
theorem qbytes_base (cs : List Value) (t : LTx) (w : World) (hr : TxC w cs t) (hm : ¬ (mayT t ∧ hasW t)) :
    Calls Try.prog 55 #[.agg cs.toArray] w fun e w' => ∃ r, e = .returned r ∧ OwB w' w.heap.size 5 r (baseT t) ∧ Below w.heap.size w w' := by
  obtain ⟨iv, ov, rfl, hi, ho, hver, hlock⟩ := hr
  obtain ⟨AI, ci, rfl, hi1, hi2, _⟩ := hi.form
  obtain ⟨AO, co, rfl, ho1, ho2, _⟩ := ho.form
  have HT := As.mk (show TxC w [.int .u32 (t.ver : Int), .slice AI t.ins.length ci, .slice AO t.outs.length co, .int .u32 (t.lock : Int)] t from ⟨_, _, rfl, hi, ho, hver, hlock⟩)
  have HI := As.mk hi
  have HVER := As.mk hver
  have HLOCK := As.mk hlock
  have HX : As (Below w.heap.size w (w.alloc (.cells #[.int .u32 (t.ver : Int), .slice AI t.ins.length ci, .slice AO t.outs.length co, .int .u32 (t.lock : Int)] 51)) ∧ Box (w.alloc (.cells #[.int .u32 (t.ver : Int), .slice AI t.ins.length ci, .slice AO t.outs.length co, .int .u32 (t.lock : Int)] 51)) w.heap.size #[.int .u32 (t.ver : Int), .slice AI t.ins.length ci, .slice AO t.outs.length co, .int .u32 (t.lock : Int)] 51) := ⟨(Below.refl _ _).alloc (Nat.le_refl _) _, Box.new _ _ _⟩
  have HM := As.mk hm
  clear hm hi ho hi1 hi2 ho1 ho2 hver hlock
  have d0 := HX.out.2.cell 0 _ rfl
  have d1 := HX.out.2.cell 1 _ rfl
  have d2 := HX.out.2.cell 2 _ rfl
  have d3 := HX.out.2.cell 3 _ rfl
  by_cases hm : mayT t
  · have HDM : As (decide (mayT t) = true) := ⟨decide_eq_true hm⟩
    have HDW : As (decide (hasW t) = false) := ⟨decide_eq_false (fun h => HM.out ⟨hm, h⟩)⟩
    clear hm
    go_enter Try.func55, Try.ntmps55
    go_wp2_with (first | (go_at_call 54; (with_reducible refine (qmay_any _ t _ HDM.out (TxC.below HT.out HX.out.1)).mono ?_); rintro e w1 ⟨rfl, hb⟩; have HX1 := As.mk (And.intro (HX.out.1.trans (hb.mono (by first | exact HX.out.1.size | simp))) (HX.out.2.below hb)); clear hb d0 d1 d2 d3; have d0 := HX1.out.2.cell 0 _ rfl; have d1 := HX1.out.2.cell 1 _ rfl; have d2 := HX1.out.2.cell 2 _ rfl; have d3 := HX1.out.2.cell 3 _ rfl) | (go_at_call 82; (with_reducible refine (qwit_any _ t _ HDW.out (TxC.below HT.out HX1.out.1)).mono ?_); rintro e w2 ⟨rfl, hb⟩; have HX2 := As.mk (And.intro (HX1.out.1.trans (hb.mono (by first | exact HX1.out.1.size | simp))) (HX1.out.2.below hb)); clear hb d0 d1 d2 d3; have d0 := HX2.out.2.cell 0 _ rfl; have d1 := HX2.out.2.cell 1 _ rfl; have d2 := HX2.out.2.cell 2 _ rfl; have d3 := HX2.out.2.cell 3 _ rfl) | (go_at_call 56; (with_reducible refine (qbase_any _ t _ (TxC.below HT.out (by first | exact HX2.out.1 | exact HX1.out.1))).mono ?_); rintro e w3 ⟨r3, rfl, ho, hb⟩; have HO3 := As.mk ho; have HX3 := As.mk (And.intro (by first | exact HX2.out.1.trans (hb.mono HX2.out.1.size) | exact HX1.out.1.trans (hb.mono HX1.out.1.size)) trivial); clear hb ho))
    go_ret
    exact ⟨_, rfl, OwS.mono HO3.out (by first | exact HX2.out.1.size | exact HX1.out.1.size), HX3.out.1⟩
  · have HDM : As (decide (mayT t) = false) := ⟨decide_eq_false hm⟩
    clear hm
    go_enter Try.func55, Try.ntmps55
    go_wp2_with (first | (go_at_call 54; (with_reducible refine (qmay_any _ t _ HDM.out (TxC.below HT.out HX.out.1)).mono ?_); rintro e w1 ⟨rfl, hb⟩; have HX1 := As.mk (And.intro (HX.out.1.trans (hb.mono (by first | exact HX.out.1.size | simp))) (HX.out.2.below hb)); clear hb d0 d1 d2 d3; have d0 := HX1.out.2.cell 0 _ rfl; have d1 := HX1.out.2.cell 1 _ rfl; have d2 := HX1.out.2.cell 2 _ rfl; have d3 := HX1.out.2.cell 3 _ rfl) | (go_at_call 56; (with_reducible refine (qbase_any _ t _ (TxC.below HT.out (by first | exact HX2.out.1 | exact HX1.out.1))).mono ?_); rintro e w3 ⟨r3, rfl, ho, hb⟩; have HO3 := As.mk ho; have HX3 := As.mk (And.intro (by first | exact HX2.out.1.trans (hb.mono HX2.out.1.size) | exact HX1.out.1.trans (hb.mono HX1.out.1.size)) trivial); clear hb ho))
    go_ret
    exact ⟨_, rfl, OwS.mono HO3.out (by first | exact HX2.out.1.size | exact HX1.out.1.size), HX3.out.1⟩
set_option maxHeartbeats 8000000 in
set_option maxRecDepth 100000 in
theorem qbytes_wit (cs : List Value) (t : LTx) (w : World) (hr : TxC w cs t) (hm : mayT t) (hw : hasW t) :
    Calls Try.prog 55 #[.agg cs.toArray] w fun e w' => ∃ r, e = .returned r ∧ OwB w' w.heap.size 5 r (le t.ver 4 ++ [0, 1] ++ bodyB t ++ t.ins.flatMap witB ++ le t.lock 4) ∧ Below w.heap.size w w' := by
  obtain ⟨iv, ov, rfl, hi, ho, hver, hlock⟩ := hr
  obtain ⟨AI, ci, rfl, hi1, hi2, _⟩ := hi.form
  obtain ⟨AO, co, rfl, ho1, ho2, _⟩ := ho.form
  have HT := As.mk (show TxC w [.int .u32 (t.ver : Int), .slice AI t.ins.length ci, .slice AO t.outs.length co, .int .u32 (t.lock : Int)] t from ⟨_, _, rfl, hi, ho, hver, hlock⟩)
  have HI := As.mk hi
  have HVER := As.mk hver
  have HLOCK := As.mk hlock
  have HX : As (Below w.heap.size w (w.alloc (.cells #[.int .u32 (t.ver : Int), .slice AI t.ins.length ci, .slice AO t.outs.length co, .int .u32 (t.lock : Int)] 51)) ∧ Box (w.alloc (.cells #[.int .u32 (t.ver : Int), .slice AI t.ins.length ci, .slice AO t.outs.length co, .int .u32 (t.lock : Int)] 51)) w.heap.size #[.int .u32 (t.ver : Int), .slice AI t.ins.length ci, .slice AO t.outs.length co, .int .u32 (t.lock : Int)] 51) := ⟨(Below.refl _ _).alloc (Nat.le_refl _) _, Box.new _ _ _⟩
  have HDM : As (decide (mayT t) = true) := ⟨decide_eq_true hm⟩
  have HDW : As (decide (hasW t) = true) := ⟨decide_eq_true hw⟩
  have HM := As.mk hm
  have hmi : (t.ins.length : Int) ≤ 50 := by have := hm.2.2; omega
  have HBL := As.mk (bodyB_length t hm HT.out.prev)
  clear hm hw hi ho hi1 hi2 ho1 ho2 hver hlock
  have d0 := HX.out.2.cell 0 _ rfl
  have d1 := HX.out.2.cell 1 _ rfl
  have d2 := HX.out.2.cell 2 _ rfl
  have d3 := HX.out.2.cell 3 _ rfl
  go_enter Try.func55, Try.ntmps55
  go_upto_region 3 with (first | (go_at_call 54; (with_reducible refine (qmay_any _ t _ HDM.out (TxC.below HT.out HX.out.1)).mono ?_); rintro e w1 ⟨rfl, hb⟩; have HX1 := As.mk (And.intro (HX.out.1.trans (hb.mono (by first | exact HX.out.1.size | simp))) (HX.out.2.below hb)); clear hb d0 d1 d2 d3; have d0 := HX1.out.2.cell 0 _ rfl; have d1 := HX1.out.2.cell 1 _ rfl; have d2 := HX1.out.2.cell 2 _ rfl; have d3 := HX1.out.2.cell 3 _ rfl) | (go_at_call 82; (with_reducible refine (qwit_any _ t _ HDW.out (TxC.below HT.out HX1.out.1)).mono ?_); rintro e w2 ⟨rfl, hb⟩; have HX2 := As.mk (And.intro (HX1.out.1.trans (hb.mono (by first | exact HX1.out.1.size | simp))) (HX1.out.2.below hb)); clear hb d0 d1 d2 d3; have d0 := HX2.out.2.cell 0 _ rfl; have d1 := HX2.out.2.cell 1 _ rfl; have d2 := HX2.out.2.cell 2 _ rfl; have d3 := HX2.out.2.cell 3 _ rfl))
  clear d0 d1 d2 d3
  have HXM : As (Below w.heap.size w w2 ∧ Box w2 w.heap.size #[.int .u32 (t.ver : Int), .slice AI t.ins.length ci, .slice AO t.outs.length co, .int .u32 (t.lock : Int)] 51) := HX2
  go_cut [3] (fun v3 wc => As (OwB wc (w.heap.size + 1) 5 v3 (le t.ver 4 ++ [0, 1] ++ bodyB t)) ∧ As (Below w.heap.size w wc ∧ Box wc w.heap.size #[.int .u32 (t.ver : Int), .slice AI t.ins.length ci, .slice AO t.outs.length co, .int .u32 (t.lock : Int)] 51))
  case first =>
    refine wp_region_held_drew (S := (fun W : World => Below w.heap.size w W ∧ Box W w.heap.size #[.int .u32 (t.ver : Int), .slice AI t.ins.length ci, .slice AO t.outs.length co, .int .u32 (t.lock : Int)] 51)) (by kernel_rfl) ?_ (fun hHeld => ?_)
    · exact ⟨HXM.out.1.drew, HXM.out.2⟩
    refine wpAnyH_take (i := 0) (oi := ?_) (v := ?_) (by simp only [List.getElem?_toArray, List.getElem?_cons_zero, List.getElem?_cons_succ]; rfl) (by kernel_rfl) (by kernel_rfl) (by kernel_rfl) (by exact fun _ _ _ h => h) (Or.inl ⟨by rfl, ?_⟩) (by assumption) ?_
    rotate_left
    · (intro w hSw; (try dsimp only at hSw); have q0 := hSw.2.cell 0 _ rfl; have q1 := hSw.2.cell 1 _ rfl; have q2 := hSw.2.cell 2 _ rfl; have q3 := hSw.2.cell 3 _ rfl; clear hSw; go_simp; first | done | with_reducible rfl)
    try simp only [Act.put, List.setIfInBounds_toArray, List.set_cons_zero, List.set_cons_succ]
    refine wpAnyH_take (i := 1) (oi := ?_) (v := ?_) (by simp only [List.getElem?_toArray, List.getElem?_cons_zero, List.getElem?_cons_succ]; rfl) (by kernel_rfl) (by kernel_rfl) (by kernel_rfl) (by exact fun _ _ _ h => h) (Or.inl ⟨by rfl, ?_⟩) (by assumption) ?_
    rotate_left
    · (intro w hSw; (try dsimp only at hSw); have q0 := hSw.2.cell 0 _ rfl; have q1 := hSw.2.cell 1 _ rfl; have q2 := hSw.2.cell 2 _ rfl; have q3 := hSw.2.cell 3 _ rfl; clear hSw; go_simp; first | done | with_reducible rfl)
    try simp only [Act.put, List.setIfInBounds_toArray, List.set_cons_zero, List.set_cons_succ]
    refine wpAnyH_take (i := 5) (oi := ?_) (v := ?_) (by simp only [List.getElem?_toArray, List.getElem?_cons_zero, List.getElem?_cons_succ]; rfl) (by kernel_rfl) (by kernel_rfl) (by kernel_rfl) (by exact fun _ _ _ h => h) (Or.inl ⟨by rfl, ?_⟩) (by assumption) ?_
    rotate_left
    · (intro w hSw; (try dsimp only at hSw); have q0 := hSw.2.cell 0 _ rfl; have q1 := hSw.2.cell 1 _ rfl; have q2 := hSw.2.cell 2 _ rfl; have q3 := hSw.2.cell 3 _ rfl; clear hSw; go_simp; first | done | with_reducible rfl)
    try simp only [Act.put, List.setIfInBounds_toArray, List.set_cons_zero, List.set_cons_succ]
    refine wpAnyH_ready (rs := [2, 3]) (by kernel_rfl) (by simp) ?_
    refine AllReadyH.cons (o := ?_) (by simp only [List.getElem?_toArray, List.getElem?_cons_zero, List.getElem?_cons_succ]; rfl) (fun K hK => ?_) ?_
    · go_simp
      refine (small_ref _ [] t.ver _ _ (RdB.nil _) (by simp) HVER.out rfl).mono ?_
      rintro e w5 ⟨r2, rfl, ho, hb⟩
      have HO2 := As.mk (show OwB w5 (w.heap.size + 1) 5 r2 (le t.ver 4) from OwS.mono ho hHeld.2.lt)
      have hS2 : Below w.heap.size w w5 ∧ Box w5 w.heap.size #[.int .u32 (t.ver : Int), .slice AI t.ins.length ci, .slice AO t.outs.length co, .int .u32 (t.lock : Int)] 51 := ⟨hHeld.1.trans (hb.mono hHeld.1.size), hHeld.2.below hb⟩
      clear ho hb
      dsimp only
      refine hK.out _ _ ?_ (fun hHeld2 => ?_)
      · exact hS2
      clear hK K hHeld
      have hHeld := hHeld2
      clear hHeld2
      try simp only [Act.put, List.setIfInBounds_toArray, List.set_cons_zero, List.set_cons_succ]
      refine wpAnyH_ready (rs := [3]) (by kernel_rfl) (by simp) ?_
      refine AllReadyH.cons (o := ?_) (by simp only [List.getElem?_toArray, List.getElem?_cons_zero, List.getElem?_cons_succ]; rfl) (fun K hK => ?_) ?_
      · go_simp
        have HO9 := As.mk (OwS.alloc HO2.out (.cells #[.int .u8 0, .int .u8 1] 5))
        clear HO2
        have HO2 := HO9
        clear HO9
        have HR3 := As.mk (lit_rds w5 5 [0, 1] #[.int .u8 0, .int .u8 1] rfl 2 rfl (by decide))
        have hS2 : Below w.heap.size w (World.alloc _ _) ∧ Box (World.alloc _ _) w.heap.size #[.int .u32 (t.ver : Int), .slice AI t.ins.length ci, .slice AO t.outs.length co, .int .u32 (t.lock : Int)] 51 := ⟨hHeld.1.alloc hHeld.1.size (.cells #[.int .u8 0, .int .u8 1] 5), hHeld.2.below ((Below.refl _ _).alloc (Nat.le_refl _) (.cells #[.int .u8 0, .int .u8 1] 5))⟩
        refine hK.out _ _ ?_ (fun hHeld2 => ?_)
        · exact hS2
        clear hK K hHeld
        have hHeld := hHeld2
        clear hHeld2
        try simp only [Act.put, List.setIfInBounds_toArray, List.set_cons_zero, List.set_cons_succ]
        refine wpAnyH_ready (rs := [4]) (by kernel_rfl) (by simp) ?_
        refine AllReadyH.cons (o := ?_) (by simp only [List.getElem?_toArray, List.getElem?_cons_zero, List.getElem?_cons_succ]; rfl) (fun K hK => ?_) ?_
        · refine step_appB ?hgd (.tmp 18) (.tmp 19) ?ho ?hty (w.heap.size + 1) (r2) (le t.ver 4) ?hs ?hown (.slice (some ⟨w5.heap.size, 0, none⟩) 2 2) ([0, 1]) ?hx ?hy ?hl ?hb ?_
          case hgd => rfl
          case ho => rfl
          case hty => rfl
          case hs => rfl
          case hown => exact (HO2.out)
          case hx => rfl
          case hy => exact (HR3.out)
          case hl => (simp [le_length])
          case hb => exact hHeld.2.lt
          intro v4 w4 ho hg
          have hS2 : Below w.heap.size w w4 ∧ Box w4 w.heap.size #[.int .u32 (t.ver : Int), .slice AI t.ins.length ci, .slice AO t.outs.length co, .int .u32 (t.lock : Int)] 51 := ⟨OwB.below_of HO2.out hg hHeld.1 (by omega) hHeld.1.size, hHeld.2.grown hg (fun e => by have := (HO2.out.lt _ e).1; omega)⟩
          have HO4 := As.mk ho
          clear ho hg
          refine hK.out _ _ ?_ (fun hHeld2 => ?_)
          · exact hS2
          clear hK K hHeld
          have hHeld := hHeld2
          clear hHeld2
          try simp only [Act.put, List.setIfInBounds_toArray, List.set_cons_zero, List.set_cons_succ]
          refine wpAnyH_ready (rs := [6]) (by kernel_rfl) (by simp) ?_
          refine AllReadyH.cons (o := ?_) (by simp only [List.getElem?_toArray, List.getElem?_cons_zero, List.getElem?_cons_succ]; rfl) (fun K hK => ?_) ?_
          · go_simp
            refine (qbody_any _ (le t.ver 4 ++ [0, 1]) _ t _ HO4.out.rd (by simp [le_length]) (TxC.below HT.out hHeld.1) HM.out).mono ?_
            rintro e w6 ⟨r6, rfl, ho, hb⟩
            have HO6 := As.mk (OwS.mono ho hHeld.2.lt)
            have hS2 : Below w.heap.size w w6 ∧ Box w6 w.heap.size #[.int .u32 (t.ver : Int), .slice AI t.ins.length ci, .slice AO t.outs.length co, .int .u32 (t.lock : Int)] 51 := ⟨hHeld.1.trans (hb.mono hHeld.1.size), hHeld.2.below hb⟩
            clear ho hb
            dsimp only
            refine hK.out _ _ ?_ (fun hHeld2 => ?_)
            · exact hS2
            clear hK K hHeld
            have hHeld := hHeld2
            clear hHeld2
            try simp only [Act.put, List.setIfInBounds_toArray, List.set_cons_zero, List.set_cons_succ]
            refine wpAnyH_take (i := 7) (oi := ?_) (v := ?_) (by simp only [List.getElem?_toArray, List.getElem?_cons_zero, List.getElem?_cons_succ]; rfl) (by kernel_rfl) (by kernel_rfl) (by kernel_rfl) (by exact fun _ _ _ h => h) (Or.inl ⟨by rfl, ?_⟩) (by assumption) ?_
            rotate_left
            · (intro w hSw; (try dsimp only at hSw); have q0 := hSw.2.cell 0 _ rfl; have q1 := hSw.2.cell 1 _ rfl; have q2 := hSw.2.cell 2 _ rfl; have q3 := hSw.2.cell 3 _ rfl; clear hSw; go_simp; first | done | with_reducible rfl)
            try simp only [Act.put, List.setIfInBounds_toArray, List.set_cons_zero, List.set_cons_succ]
            refine wpAnyH_done (by kernel_rfl) ?_ _
            go_wp2_with fail
            go_meet
            exact ⟨HO6, ⟨hHeld⟩⟩
          exact AllReadyH.nil
        exact AllReadyH.nil
      exact AllReadyH.nil
    refine AllReadyH.cons (o := ?_) (by simp only [List.getElem?_toArray, List.getElem?_cons_zero, List.getElem?_cons_succ]; rfl) (fun K hK => ?_) ?_
    · go_simp
      have HR3 := As.mk (lit_rds w2.drew 5 [0, 1] #[.int .u8 0, .int .u8 1] rfl 2 rfl (by decide))
      have hS2 : Below w.heap.size w (World.alloc _ _) ∧ Box (World.alloc _ _) w.heap.size #[.int .u32 (t.ver : Int), .slice AI t.ins.length ci, .slice AO t.outs.length co, .int .u32 (t.lock : Int)] 51 := ⟨hHeld.1.alloc hHeld.1.size (.cells #[.int .u8 0, .int .u8 1] 5), hHeld.2.below ((Below.refl _ _).alloc (Nat.le_refl _) (.cells #[.int .u8 0, .int .u8 1] 5))⟩
      refine hK.out _ _ ?_ (fun hHeld2 => ?_)
      · exact hS2
      clear hK K hHeld
      have hHeld := hHeld2
      clear hHeld2
      try simp only [Act.put, List.setIfInBounds_toArray, List.set_cons_zero, List.set_cons_succ]
      refine wpAnyH_ready (rs := [2]) (by kernel_rfl) (by simp) ?_
      refine AllReadyH.cons (o := ?_) (by simp only [List.getElem?_toArray, List.getElem?_cons_zero, List.getElem?_cons_succ]; rfl) (fun K hK => ?_) ?_
      · go_simp
        refine (small_ref _ [] t.ver _ _ (RdB.nil _) (by simp) HVER.out rfl).mono ?_
        rintro e w5 ⟨r2, rfl, ho, hb⟩
        have HO2 := As.mk (show OwB w5 (w.heap.size + 1) 5 r2 (le t.ver 4) from OwS.mono ho hHeld.2.lt)
        have HR2 := As.mk (RdS.below HR3.out hb)
        clear HR3
        have HR3 := HR2
        clear HR2
        have hS2 : Below w.heap.size w w5 ∧ Box w5 w.heap.size #[.int .u32 (t.ver : Int), .slice AI t.ins.length ci, .slice AO t.outs.length co, .int .u32 (t.lock : Int)] 51 := ⟨hHeld.1.trans (hb.mono hHeld.1.size), hHeld.2.below hb⟩
        clear ho hb
        dsimp only
        refine hK.out _ _ ?_ (fun hHeld2 => ?_)
        · exact hS2
        clear hK K hHeld
        have hHeld := hHeld2
        clear hHeld2
        try simp only [Act.put, List.setIfInBounds_toArray, List.set_cons_zero, List.set_cons_succ]
        refine wpAnyH_ready (rs := [4]) (by kernel_rfl) (by simp) ?_
        refine AllReadyH.cons (o := ?_) (by simp only [List.getElem?_toArray, List.getElem?_cons_zero, List.getElem?_cons_succ]; rfl) (fun K hK => ?_) ?_
        · refine step_appB ?hgd (.tmp 18) (.tmp 19) ?ho ?hty (w.heap.size + 1) (r2) (le t.ver 4) ?hs ?hown (.slice (some ⟨w2.heap.size, 0, none⟩) 2 2) ([0, 1]) ?hx ?hy ?hl ?hb ?_
          case hgd => rfl
          case ho => rfl
          case hty => rfl
          case hs => rfl
          case hown => exact (HO2.out)
          case hx => rfl
          case hy => exact (HR3.out)
          case hl => (simp [le_length])
          case hb => exact hHeld.2.lt
          intro v4 w4 ho hg
          have hS2 : Below w.heap.size w w4 ∧ Box w4 w.heap.size #[.int .u32 (t.ver : Int), .slice AI t.ins.length ci, .slice AO t.outs.length co, .int .u32 (t.lock : Int)] 51 := ⟨OwB.below_of HO2.out hg hHeld.1 (by omega) hHeld.1.size, hHeld.2.grown hg (fun e => by have := (HO2.out.lt _ e).1; omega)⟩
          have HO4 := As.mk ho
          clear ho hg
          refine hK.out _ _ ?_ (fun hHeld2 => ?_)
          · exact hS2
          clear hK K hHeld
          have hHeld := hHeld2
          clear hHeld2
          try simp only [Act.put, List.setIfInBounds_toArray, List.set_cons_zero, List.set_cons_succ]
          refine wpAnyH_ready (rs := [6]) (by kernel_rfl) (by simp) ?_
          refine AllReadyH.cons (o := ?_) (by simp only [List.getElem?_toArray, List.getElem?_cons_zero, List.getElem?_cons_succ]; rfl) (fun K hK => ?_) ?_
          · go_simp
            refine (qbody_any _ (le t.ver 4 ++ [0, 1]) _ t _ HO4.out.rd (by simp [le_length]) (TxC.below HT.out hHeld.1) HM.out).mono ?_
            rintro e w6 ⟨r6, rfl, ho, hb⟩
            have HO6 := As.mk (OwS.mono ho hHeld.2.lt)
            have hS2 : Below w.heap.size w w6 ∧ Box w6 w.heap.size #[.int .u32 (t.ver : Int), .slice AI t.ins.length ci, .slice AO t.outs.length co, .int .u32 (t.lock : Int)] 51 := ⟨hHeld.1.trans (hb.mono hHeld.1.size), hHeld.2.below hb⟩
            clear ho hb
            dsimp only
            refine hK.out _ _ ?_ (fun hHeld2 => ?_)
            · exact hS2
            clear hK K hHeld
            have hHeld := hHeld2
            clear hHeld2
            try simp only [Act.put, List.setIfInBounds_toArray, List.set_cons_zero, List.set_cons_succ]
            refine wpAnyH_take (i := 7) (oi := ?_) (v := ?_) (by simp only [List.getElem?_toArray, List.getElem?_cons_zero, List.getElem?_cons_succ]; rfl) (by kernel_rfl) (by kernel_rfl) (by kernel_rfl) (by exact fun _ _ _ h => h) (Or.inl ⟨by rfl, ?_⟩) (by assumption) ?_
            rotate_left
            · (intro w hSw; (try dsimp only at hSw); have q0 := hSw.2.cell 0 _ rfl; have q1 := hSw.2.cell 1 _ rfl; have q2 := hSw.2.cell 2 _ rfl; have q3 := hSw.2.cell 3 _ rfl; clear hSw; go_simp; first | done | with_reducible rfl)
            try simp only [Act.put, List.setIfInBounds_toArray, List.set_cons_zero, List.set_cons_succ]
            refine wpAnyH_done (by kernel_rfl) ?_ _
            go_wp2_with fail
            go_meet
            exact ⟨HO6, ⟨hHeld⟩⟩
          exact AllReadyH.nil
        exact AllReadyH.nil
      exact AllReadyH.nil
    exact AllReadyH.nil
  case rest =>
    obtain ⟨HO0, HB0⟩ := hcut
    have HLB : As ((le t.ver 4 ++ [0, 1] ++ bodyB t).length ≤ 61000) := ⟨by have := HBL.out; simp only [List.length_append, le_length, List.length_cons, List.length_nil]; omega⟩
    obtain ⟨B0, hB0⟩ : ∃ B, B = le t.ver 4 ++ [0, 1] ++ bodyB t := ⟨_, rfl⟩
    rw [← hB0] at HO0 HLB
    have HBE := As.mk hB0
    clear hB0 HXM HX HX1 HX2 HT HVER HBL
    go_wp2
    go_loopw [3, 4] (fun v3 v4 wr => ∃ (k : Nat) (L : List UInt8), v4 = .int .i64 (k : Int) ∧ (k : Int) ≤ t.ins.length ∧ As (Below w.heap.size w wr ∧ Box wr w.heap.size #[.int .u32 (t.ver : Int), .slice AI t.ins.length ci, .slice AO t.outs.length co, .int .u32 (t.lock : Int)] 51) ∧ As (OwB wr (w.heap.size + 1) 5 v3 L) ∧ As (L = B0 ++ (t.ins.take k).flatMap witB ∧ L.length ≤ B0.length + 5055 * k)) (fun _ v4 _ => t.ins.length - (intOf v4).toNat)
    case atStart => exact ⟨0, _, rfl, by omega, HB0, HO0, ⟨by simp, by simp⟩⟩
    case round =>
      obtain ⟨k, L, rfl, hk, HB, HV0, HLL⟩ := hrel
      have d1 := HB.out.2.cell 1 _ rfl
      by_cases hlt : (k : Int) < t.ins.length
      · obtain ⟨g, o, cs, x, A1, c1, A2, c2, rfl, HK, HLC, HG, H1, HX, h32, h33, h34, h35, HS, HW⟩ := RdIns.at HI.out k (by omega)
        have HOK := As.mk (HM.out.1 x (List.mem_of_getElem? HK.out))
        have hwl : (x.wit.length : Int) ≤ 10 := by have := HOK.out.2.1; omega
        have HG35 := As.mk (HG.out 35 _ h35)
        have d35 := cell_below HB.out.1 HG35.out
        clear h32 h33 h34 h35
        go_upto_region 8 with (go_at_call 28; (with_reducible refine (count_ref _ L _ _ HV0.out.rd (by have := HLL.out.2; have := HLB.out; omega)).mono ?_); rintro e w3 ⟨r3, rfl, ho, hb⟩; have HR3 := As.mk ho; have HZ3 := As.mk (And.intro (HB.out.1.trans (hb.mono HB.out.1.size)) (HB.out.2.below hb)); clear ho hb)
        have HO3 : As (OwB w3 (w.heap.size + 1) 5 r3 (L ++ cnt x.wit.length)) := ⟨by have := HR3.out; rw [clampU_len _ (by omega)] at this; exact OwS.mono this HB.out.2.lt⟩
        clear HR3 d35 d1 hlt
        have hlt : (k : Int) < t.ins.length := by have := (List.getElem?_eq_some_iff.1 HK.out).1; omega
        go_wp2
        go_loopw [3, 5] (fun v3 v5 w2 => ∃ (j : Nat) (M : List UInt8), v5 = .int .i64 (j : Int) ∧ (j : Int) ≤ x.wit.length ∧ As (Below w.heap.size w w2 ∧ Box w2 w.heap.size #[.int .u32 (t.ver : Int), .slice (some ⟨g, o, none⟩) t.ins.length ci, .slice AO t.outs.length co, .int .u32 (t.lock : Int)] 51) ∧ As (OwB w2 (w.heap.size + 1) 5 v3 M) ∧ As (M = L ++ cnt x.wit.length ++ (x.wit.take j).flatMap cntB ∧ M.length ≤ L.length + 5 + 505 * j)) (fun _ v5 _ => x.wit.length - (intOf v5).toNat)
        case atStart => exact ⟨0, _, rfl, by omega, HZ3, HO3, ⟨by simp, by have := cnt_length x.wit.length; simp only [List.length_append]; omega⟩⟩
        case round =>
          obtain ⟨j, M, rfl, hj, HBj, HVj, HMM⟩ := hrel
          have d1 := HBj.out.2.cell 1 _ rfl
          have d35 := cell_below HBj.out.1 HG35.out
          by_cases hjl : (j : Int) < x.wit.length
          · obtain ⟨g2, o2, Ab, b, cb, rfl, HKb, hcb, HBb⟩ := RdW.at HW.out j (by omega)
            have kb := cell_below HBj.out.1 hcb
            clear hcb
            have HLb := As.mk (HOK.out.2.2 b (List.mem_of_getElem? HKb.out))
            go_wp2_with (go_at_call 84; (with_reducible refine (qcounted_any _ _ M b _ HVj.out.rd (HBb.out.below HBj.out.1) (by have := HMM.out.2; have := HLL.out.2; have := HLB.out; omega) (by have := HLb.out; omega)).mono ?_); rintro e w4 ⟨r4, rfl, ho, hb⟩; have HO4 := As.mk ho; have HB4 := As.mk (And.intro (HBj.out.1.trans (hb.mono HBj.out.1.size)) (HBj.out.2.below hb)); clear ho hb)
            go_roundw
            case rel =>
              refine ⟨j + 1, _, by go_num, by omega, HB4, ⟨OwS.mono HO4.out HBj.out.2.lt⟩, ⟨?_, ?_⟩⟩
              · rw [flatMap_step cntB HKb.out, HMM.out.1]; simp only [List.append_assoc]
              · have h1 := cntB_length b HLb.out; have h2 := HMM.out.2; rw [List.length_append]; omega
            case measure => simp [intOf]; omega
          · have HM2 : As (M = L ++ witB x) := ⟨by have := HMM.out.1; rw [List.take_of_length_le (by omega)] at this; rw [this, witB, List.append_assoc]⟩
            have hML := witB_length x HOK.out
            have HML := As.mk hML
            clear hML
            go_wp2
            go_roundw
            case rel =>
              refine ⟨k + 1, _, by go_num, by omega, HBj, HVj, ⟨?_, ?_⟩⟩
              · rw [flatMap_step witB HK.out, HM2.out, HLL.out.1]; simp only [List.append_assoc]
              · rw [HM2.out, List.length_append]; have := HML.out; have := HLL.out.2; omega
            case measure => simp [intOf]; omega
      · have HL2 : As (L = B0 ++ t.ins.flatMap witB) := ⟨by have := HLL.out.1; rwa [List.take_of_length_le (by omega)] at this⟩
        have d3 := HB.out.2.cell 3 _ rfl
        go_wp2_with (go_at_call 26; (with_reducible refine (small_ref _ L t.lock _ _ HV0.out.rd (by have := HLL.out.2; have := HLB.out; omega) HLOCK.out rfl).mono ?_); rintro e w4 ⟨r4, rfl, ho, hb⟩; have HO4 := As.mk ho; have HB4 := As.mk (HB.out.1.trans (hb.mono HB.out.1.size)); clear ho hb)
        go_ret
        refine ⟨_, rfl, ?_, HB4.out⟩
        have e := HL2.out
        rw [HBE.out] at e
        rw [← e]
        exact OwS.mono HO4.out HB.out.1.size
theorem qbytes_any (cs : List Value) (t : LTx) (w : World) (hr : TxC w cs t) :
    Calls Try.prog 55 #[.agg cs.toArray] w fun e w' => ∃ r, e = .returned r ∧ OwB w' w.heap.size 5 r (bytesT t) ∧ Below w.heap.size w w' := by
  by_cases hm : mayT t ∧ hasW t
  · refine (qbytes_wit cs t w hr hm.1 hm.2).mono ?_
    rintro e w' ⟨r, rfl, ho, hb⟩
    refine ⟨r, rfl, ?_, hb⟩
    unfold bytesT bytesB
    rw [if_pos hm.1, if_pos hm.2]
    exact ho
  · refine (qbytes_base cs t w hr hm).mono ?_
    rintro e w' ⟨r, rfl, ho, hb⟩
    refine ⟨r, rfl, ?_, hb⟩
    have e : bytesT t = baseT t := by
      unfold bytesT bytesB baseT
      by_cases h : mayT t
      · rw [if_pos h, if_pos h, if_neg (fun h2 => hm ⟨h, h2⟩)]
      · rw [if_neg h, if_neg h]
    rw [e]
    exact ho
end Go.Proofs.Ytfggkljgfadacaa.W
