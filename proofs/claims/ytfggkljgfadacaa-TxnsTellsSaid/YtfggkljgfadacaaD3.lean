/- The document's Base, Bytes and Weight of layer 3. -/
import Derived.Test.YtfggkljgfadacaaD2
set_option linter.unusedVariables false
set_option linter.unusedSimpArgs false
namespace Go.Proofs.Ytfggkljgfadacaa.W
open Go.RowKit Go.Proofs.Ytfggkljgfadacaa.B Go.Proofs

set_option maxHeartbeats 8000000 in
set_option maxRecDepth 100000 in
theorem qbase_not (cs : List Value) (t : LTx) (w : World) (hr : TxC w cs t) (hm : ¬ mayT t) :
    Calls Try.prog 56 #[.agg cs.toArray] w fun e w' => e = .returned (.slice none 0 0) ∧ Below w.heap.size w w' := by
  obtain ⟨iv, ov, rfl, hi, ho, hver, hlock⟩ := hr
  obtain ⟨AI, ci, rfl, hi1, hi2, _⟩ := hi.form
  obtain ⟨AO, co, rfl, ho1, ho2, _⟩ := ho.form
  have HT := As.mk (show TxC w [.int .u32 (t.ver : Int), .slice AI t.ins.length ci, .slice AO t.outs.length co, .int .u32 (t.lock : Int)] t from ⟨_, _, rfl, hi, ho, hver, hlock⟩)
  have HI := As.mk hi
  have HVER := As.mk hver
  have HLOCK := As.mk hlock
  have HX : As (Below w.heap.size w (w.alloc (.cells #[.int .u32 (t.ver : Int), .slice AI t.ins.length ci, .slice AO t.outs.length co, .int .u32 (t.lock : Int)] 51)) ∧ Box (w.alloc (.cells #[.int .u32 (t.ver : Int), .slice AI t.ins.length ci, .slice AO t.outs.length co, .int .u32 (t.lock : Int)] 51)) w.heap.size #[.int .u32 (t.ver : Int), .slice AI t.ins.length ci, .slice AO t.outs.length co, .int .u32 (t.lock : Int)] 51) := ⟨(Below.refl _ _).alloc (Nat.le_refl _) _, Box.new _ _ _⟩
  have HDM : As (decide (mayT t) = false) := ⟨dec_not hm⟩
  clear hm hi ho hi1 hi2 ho1 ho2 hver hlock
  have d0 := HX.out.2.cell 0 _ rfl
  have d1 := HX.out.2.cell 1 _ rfl
  have d2 := HX.out.2.cell 2 _ rfl
  have d3 := HX.out.2.cell 3 _ rfl
  go_enter Try.func56, Try.ntmps56
  go_wp2_with (go_at_call 54; (with_reducible refine (qmay_any _ t _ HDM.out (TxC.below HT.out HX.out.1)).mono ?_); rintro e w1 ⟨rfl, hb⟩; have HX1 := As.mk (And.intro (HX.out.1.trans (hb.mono (by first | exact HX.out.1.size | simp))) (HX.out.2.below hb)); clear hb d0 d1 d2 d3; have d0 := HX1.out.2.cell 0 _ rfl; have d1 := HX1.out.2.cell 1 _ rfl; have d2 := HX1.out.2.cell 2 _ rfl; have d3 := HX1.out.2.cell 3 _ rfl)
  go_ret
  exact ⟨rfl, HX1.out.1⟩
set_option maxHeartbeats 8000000 in
set_option maxRecDepth 100000 in
theorem qbase_may (cs : List Value) (t : LTx) (w : World) (hr : TxC w cs t) (hm : mayT t) :
    Calls Try.prog 56 #[.agg cs.toArray] w fun e w' => ∃ r, e = .returned r ∧ OwB w' w.heap.size 5 r (baseB t) ∧ Below w.heap.size w w' := by
  obtain ⟨iv, ov, rfl, hi, ho, hver, hlock⟩ := hr
  obtain ⟨AI, ci, rfl, hi1, hi2, _⟩ := hi.form
  obtain ⟨AO, co, rfl, ho1, ho2, _⟩ := ho.form
  have HT := As.mk (show TxC w [.int .u32 (t.ver : Int), .slice AI t.ins.length ci, .slice AO t.outs.length co, .int .u32 (t.lock : Int)] t from ⟨_, _, rfl, hi, ho, hver, hlock⟩)
  have HI := As.mk hi
  have HVER := As.mk hver
  have HLOCK := As.mk hlock
  have HX : As (Below w.heap.size w (w.alloc (.cells #[.int .u32 (t.ver : Int), .slice AI t.ins.length ci, .slice AO t.outs.length co, .int .u32 (t.lock : Int)] 51)) ∧ Box (w.alloc (.cells #[.int .u32 (t.ver : Int), .slice AI t.ins.length ci, .slice AO t.outs.length co, .int .u32 (t.lock : Int)] 51)) w.heap.size #[.int .u32 (t.ver : Int), .slice AI t.ins.length ci, .slice AO t.outs.length co, .int .u32 (t.lock : Int)] 51) := ⟨(Below.refl _ _).alloc (Nat.le_refl _) _, Box.new _ _ _⟩
  have HDM : As (decide (mayT t) = true) := ⟨decide_eq_true hm⟩
  have HM := As.mk hm
  have HBL := As.mk (bodyB_length t hm HT.out.prev)
  clear hm hi ho hi1 hi2 ho1 ho2 hver hlock
  have d0 := HX.out.2.cell 0 _ rfl
  have d1 := HX.out.2.cell 1 _ rfl
  have d2 := HX.out.2.cell 2 _ rfl
  have d3 := HX.out.2.cell 3 _ rfl
  go_enter Try.func56, Try.ntmps56
  go_upto_region 3 with (go_at_call 54; (with_reducible refine (qmay_any _ t _ HDM.out (TxC.below HT.out HX.out.1)).mono ?_); rintro e w1 ⟨rfl, hb⟩; have HX1 := As.mk (And.intro (HX.out.1.trans (hb.mono (by first | exact HX.out.1.size | simp))) (HX.out.2.below hb)); clear hb d0 d1 d2 d3; have d0 := HX1.out.2.cell 0 _ rfl; have d1 := HX1.out.2.cell 1 _ rfl; have d2 := HX1.out.2.cell 2 _ rfl; have d3 := HX1.out.2.cell 3 _ rfl)
  clear d0 d1 d2 d3
  refine wp_region_held_drew (S := (fun W : World => Below w.heap.size w W ∧ Box W w.heap.size #[.int .u32 (t.ver : Int), .slice AI t.ins.length ci, .slice AO t.outs.length co, .int .u32 (t.lock : Int)] 51)) (by kernel_rfl) ?_ (fun hHeld => ?_)
  · exact ⟨HX1.out.1.drew, HX1.out.2⟩
  refine wpAnyH_take (i := 0) (oi := ?_) (v := ?_) (by simp only [List.getElem?_toArray, List.getElem?_cons_zero, List.getElem?_cons_succ]; rfl) (by kernel_rfl) (by kernel_rfl) (by kernel_rfl) (by exact fun _ _ _ h => h) (Or.inl ⟨by rfl, ?_⟩) (by assumption) ?_
  rotate_left
  · (intro w hSw; (try dsimp only at hSw); have q0 := hSw.2.cell 0 _ rfl; have q1 := hSw.2.cell 1 _ rfl; have q2 := hSw.2.cell 2 _ rfl; have q3 := hSw.2.cell 3 _ rfl; clear hSw; go_simp; first | done | with_reducible rfl)
  try simp only [Act.put, List.setIfInBounds_toArray, List.set_cons_zero, List.set_cons_succ]
  refine wpAnyH_take (i := 1) (oi := ?_) (v := ?_) (by simp only [List.getElem?_toArray, List.getElem?_cons_zero, List.getElem?_cons_succ]; rfl) (by kernel_rfl) (by kernel_rfl) (by kernel_rfl) (by exact fun _ _ _ h => h) (Or.inl ⟨by rfl, ?_⟩) (by assumption) ?_
  rotate_left
  · (intro w hSw; (try dsimp only at hSw); have q0 := hSw.2.cell 0 _ rfl; have q1 := hSw.2.cell 1 _ rfl; have q2 := hSw.2.cell 2 _ rfl; have q3 := hSw.2.cell 3 _ rfl; clear hSw; go_simp; first | done | with_reducible rfl)
  try simp only [Act.put, List.setIfInBounds_toArray, List.set_cons_zero, List.set_cons_succ]
  refine wpAnyH_take (i := 3) (oi := ?_) (v := ?_) (by simp only [List.getElem?_toArray, List.getElem?_cons_zero, List.getElem?_cons_succ]; rfl) (by kernel_rfl) (by kernel_rfl) (by kernel_rfl) (by exact fun _ _ _ h => h) (Or.inl ⟨by rfl, ?_⟩) (by assumption) ?_
  rotate_left
  · (intro w hSw; (try dsimp only at hSw); have q0 := hSw.2.cell 0 _ rfl; have q1 := hSw.2.cell 1 _ rfl; have q2 := hSw.2.cell 2 _ rfl; have q3 := hSw.2.cell 3 _ rfl; clear hSw; go_simp; first | done | with_reducible rfl)
  try simp only [Act.put, List.setIfInBounds_toArray, List.set_cons_zero, List.set_cons_succ]
  refine wpAnyH_take (i := 5) (oi := ?_) (v := ?_) (by simp only [List.getElem?_toArray, List.getElem?_cons_zero, List.getElem?_cons_succ]; rfl) (by kernel_rfl) (by kernel_rfl) (by kernel_rfl) (by exact fun _ _ _ h => h) (Or.inl ⟨by rfl, ?_⟩) (by assumption) ?_
  rotate_left
  · (intro w hSw; (try dsimp only at hSw); have q0 := hSw.2.cell 0 _ rfl; have q1 := hSw.2.cell 1 _ rfl; have q2 := hSw.2.cell 2 _ rfl; have q3 := hSw.2.cell 3 _ rfl; clear hSw; go_simp; first | done | with_reducible rfl)
  try simp only [Act.put, List.setIfInBounds_toArray, List.set_cons_zero, List.set_cons_succ]
  refine wpAnyH_take (i := 6) (oi := ?_) (v := ?_) (by simp only [List.getElem?_toArray, List.getElem?_cons_zero, List.getElem?_cons_succ]; rfl) (by kernel_rfl) (by kernel_rfl) (by kernel_rfl) (by exact fun _ _ _ h => h) (Or.inl ⟨by rfl, ?_⟩) (by assumption) ?_
  rotate_left
  · (intro w hSw; (try dsimp only at hSw); have q0 := hSw.2.cell 0 _ rfl; have q1 := hSw.2.cell 1 _ rfl; have q2 := hSw.2.cell 2 _ rfl; have q3 := hSw.2.cell 3 _ rfl; clear hSw; go_simp; first | done | with_reducible rfl)
  try simp only [Act.put, List.setIfInBounds_toArray, List.set_cons_zero, List.set_cons_succ]
  refine wpAnyH_ready (rs := [2]) (by kernel_rfl) (by simp) ?_
  refine AllReadyH.cons (o := ?_) (by simp only [List.getElem?_toArray, List.getElem?_cons_zero, List.getElem?_cons_succ]; rfl) (fun K hK => ?_) ?_
  · go_simp
    refine (small_ref _ [] t.ver _ _ (RdB.nil _) (by simp) HVER.out rfl).mono ?_
    rintro e w2 ⟨r2, rfl, ho, hb⟩
    have HO2 := As.mk (show OwB w2 (w.heap.size + 1) 5 r2 (le t.ver 4) from OwS.mono ho hHeld.2.lt)
    have hS2 := And.intro (hHeld.1.trans (hb.mono hHeld.1.size)) (hHeld.2.below hb)
    clear ho hb
    dsimp only
    refine hK.out _ _ ?_ (fun hHeld2 => ?_)
    · exact hS2
    clear hK K hHeld
    have hHeld := hHeld2
    clear hHeld2
    try simp only [Act.put, List.setIfInBounds_toArray, List.set_cons_zero, List.set_cons_succ]
    refine wpAnyH_ready (rs := [4]) (by kernel_rfl) (by simp) ?_
    refine AllReadyH.cons (o := ?_) (by simp only [List.getElem?_toArray, List.getElem?_cons_zero, List.getElem?_cons_succ]; rfl) (fun K hK => ?_) ?_
    · go_simp
      refine (qbody_any _ (le t.ver 4) _ t _ HO2.out.rd (by simp [le_length]) (TxC.below HT.out hHeld.1) HM.out).mono ?_
      rintro e w4 ⟨r4, rfl, ho, hb⟩
      have HO4 := As.mk (show OwB w4 w2.heap.size 5 r4 _ from ho)
      have hS2 := And.intro (hHeld.1.trans (hb.mono hHeld.1.size)) (hHeld.2.below hb)
      clear ho hb
      dsimp only
      refine hK.out _ _ ?_ (fun hHeld2 => ?_)
      · exact hS2
      clear hK K hHeld
      have hHeld := hHeld2
      clear hHeld2
      try simp only [Act.put, List.setIfInBounds_toArray, List.set_cons_zero, List.set_cons_succ]
      refine wpAnyH_ready (rs := [7]) (by kernel_rfl) (by simp) ?_
      refine AllReadyH.cons (o := ?_) (by simp only [List.getElem?_toArray, List.getElem?_cons_zero, List.getElem?_cons_succ]; rfl) (fun K hK => ?_) ?_
      · go_simp
        refine (small_ref _ (le t.ver 4 ++ bodyB t) t.lock _ _ HO4.out.rd (by have := HBL.out; simp only [List.length_append, le_length]; omega) HLOCK.out rfl).mono ?_
        rintro e w5 ⟨r5, rfl, ho, hb⟩
        have HO5 := As.mk (OwS.mono ho hHeld.1.size)
        have hS2 := And.intro (hHeld.1.trans (hb.mono hHeld.1.size)) (hHeld.2.below hb)
        clear ho hb
        dsimp only
        refine hK.out _ _ ?_ (fun hHeld2 => ?_)
        · exact hS2
        clear hK K hHeld
        have hHeld := hHeld2
        clear hHeld2
        try simp only [Act.put, List.setIfInBounds_toArray, List.set_cons_zero, List.set_cons_succ]
        refine wpAnyH_take (i := 8) (oi := ?_) (v := ?_) (by simp only [List.getElem?_toArray, List.getElem?_cons_zero, List.getElem?_cons_succ]; rfl) (by kernel_rfl) (by kernel_rfl) (by kernel_rfl) (by exact fun _ _ _ h => h) (Or.inl ⟨by rfl, ?_⟩) (by assumption) ?_
        rotate_left
        · (intro w hSw; (try dsimp only at hSw); have q0 := hSw.2.cell 0 _ rfl; have q1 := hSw.2.cell 1 _ rfl; have q2 := hSw.2.cell 2 _ rfl; have q3 := hSw.2.cell 3 _ rfl; clear hSw; go_simp; first | done | with_reducible rfl)
        try simp only [Act.put, List.setIfInBounds_toArray, List.set_cons_zero, List.set_cons_succ]
        refine wpAnyH_done (by kernel_rfl) ?_ _
        go_wp2_with fail
        go_ret
        exact ⟨_, rfl, HO5.out, hHeld.1⟩
      exact AllReadyH.nil
    exact AllReadyH.nil
  exact AllReadyH.nil
theorem qbase_any (cs : List Value) (t : LTx) (w : World) (hr : TxC w cs t) :
    Calls Try.prog 56 #[.agg cs.toArray] w fun e w' => ∃ r, e = .returned r ∧ OwB w' w.heap.size 5 r (baseT t) ∧ Below w.heap.size w w' := by
  by_cases hm : mayT t
  · unfold baseT; rw [if_pos hm]; exact qbase_may cs t w hr hm
  · refine (qbase_not cs t w hr hm).mono ?_
    rintro e w' ⟨rfl, hb⟩
    refine ⟨_, rfl, ?_, hb⟩
    unfold baseT
    rw [if_neg hm]
    exact OwS.nil _ _ _ _
set_option maxHeartbeats 8000000 in
set_option maxRecDepth 100000 in
theorem qbytes_base (cs : List Value) (t : LTx) (w : World) (hr : TxC w cs t) (hm : ¬ (mayT t ∧ hasW t)) :
    Calls Try.prog 55 #[.agg cs.toArray] w fun e w' => ∃ r, e = .returned r ∧ OwB w' w.heap.size 5 r (baseT t) ∧ Below w.heap.size w w' := by
  obtain ⟨iv, ov, rfl, hi, ho, hver, hlock⟩ := hr
  obtain ⟨AI, ci, rfl, hi1, hi2, _⟩ := hi.form
  obtain ⟨AO, co, rfl, ho1, ho2, _⟩ := ho.form
  have HT := As.mk (show TxC w [.int .u32 (t.ver : Int), .slice AI t.ins.length ci, .slice AO t.outs.length co, .int .u32 (t.lock : Int)] t from ⟨_, _, rfl, hi, ho, hver, hlock⟩)
  have HI := As.mk hi
  have HVER := As.mk hver
  have HLOCK := As.mk hlock
  have HX : As (Below w.heap.size w (w.alloc (.cells #[.int .u32 (t.ver : Int), .slice AI t.ins.length ci, .slice AO t.outs.length co, .int .u32 (t.lock : Int)] 51)) ∧ Box (w.alloc (.cells #[.int .u32 (t.ver : Int), .slice AI t.ins.length ci, .slice AO t.outs.length co, .int .u32 (t.lock : Int)] 51)) w.heap.size #[.int .u32 (t.ver : Int), .slice AI t.ins.length ci, .slice AO t.outs.length co, .int .u32 (t.lock : Int)] 51) := ⟨(Below.refl _ _).alloc (Nat.le_refl _) _, Box.new _ _ _⟩
  have HM := As.mk hm
  clear hm hi ho hi1 hi2 ho1 ho2 hver hlock
  have d0 := HX.out.2.cell 0 _ rfl
  have d1 := HX.out.2.cell 1 _ rfl
  have d2 := HX.out.2.cell 2 _ rfl
  have d3 := HX.out.2.cell 3 _ rfl
  by_cases hm : mayT t
  · have HDM : As (decide (mayT t) = true) := ⟨decide_eq_true hm⟩
    have HDW : As (decide (hasW t) = false) := ⟨decide_eq_false (fun h => HM.out ⟨hm, h⟩)⟩
    clear hm
    go_enter Try.func55, Try.ntmps55
    go_wp2_with (first | (go_at_call 54; (with_reducible refine (qmay_any _ t _ HDM.out (TxC.below HT.out HX.out.1)).mono ?_); rintro e w1 ⟨rfl, hb⟩; have HX1 := As.mk (And.intro (HX.out.1.trans (hb.mono (by first | exact HX.out.1.size | simp))) (HX.out.2.below hb)); clear hb d0 d1 d2 d3; have d0 := HX1.out.2.cell 0 _ rfl; have d1 := HX1.out.2.cell 1 _ rfl; have d2 := HX1.out.2.cell 2 _ rfl; have d3 := HX1.out.2.cell 3 _ rfl) | (go_at_call 82; (with_reducible refine (qwit_any _ t _ HDW.out (TxC.below HT.out HX1.out.1)).mono ?_); rintro e w2 ⟨rfl, hb⟩; have HX2 := As.mk (And.intro (HX1.out.1.trans (hb.mono (by first | exact HX1.out.1.size | simp))) (HX1.out.2.below hb)); clear hb d0 d1 d2 d3; have d0 := HX2.out.2.cell 0 _ rfl; have d1 := HX2.out.2.cell 1 _ rfl; have d2 := HX2.out.2.cell 2 _ rfl; have d3 := HX2.out.2.cell 3 _ rfl) | (go_at_call 56; (with_reducible refine (qbase_any _ t _ (TxC.below HT.out (by first | exact HX2.out.1 | exact HX1.out.1))).mono ?_); rintro e w3 ⟨r3, rfl, ho, hb⟩; have HO3 := As.mk ho; have HX3 := As.mk (And.intro (by first | exact HX2.out.1.trans (hb.mono HX2.out.1.size) | exact HX1.out.1.trans (hb.mono HX1.out.1.size)) trivial); clear hb ho))
    go_ret
    exact ⟨_, rfl, OwS.mono HO3.out (by first | exact HX2.out.1.size | exact HX1.out.1.size), HX3.out.1⟩
  · have HDM : As (decide (mayT t) = false) := ⟨decide_eq_false hm⟩
    clear hm
    go_enter Try.func55, Try.ntmps55
    go_wp2_with (first | (go_at_call 54; (with_reducible refine (qmay_any _ t _ HDM.out (TxC.below HT.out HX.out.1)).mono ?_); rintro e w1 ⟨rfl, hb⟩; have HX1 := As.mk (And.intro (HX.out.1.trans (hb.mono (by first | exact HX.out.1.size | simp))) (HX.out.2.below hb)); clear hb d0 d1 d2 d3; have d0 := HX1.out.2.cell 0 _ rfl; have d1 := HX1.out.2.cell 1 _ rfl; have d2 := HX1.out.2.cell 2 _ rfl; have d3 := HX1.out.2.cell 3 _ rfl) | (go_at_call 56; (with_reducible refine (qbase_any _ t _ (TxC.below HT.out (by first | exact HX2.out.1 | exact HX1.out.1))).mono ?_); rintro e w3 ⟨r3, rfl, ho, hb⟩; have HO3 := As.mk ho; have HX3 := As.mk (And.intro (by first | exact HX2.out.1.trans (hb.mono HX2.out.1.size) | exact HX1.out.1.trans (hb.mono HX1.out.1.size)) trivial); clear hb ho))
    go_ret
    exact ⟨_, rfl, OwS.mono HO3.out (by first | exact HX2.out.1.size | exact HX1.out.1.size), HX3.out.1⟩
set_option maxHeartbeats 8000000 in
set_option maxRecDepth 100000 in
theorem qbytes_wit (cs : List Value) (t : LTx) (w : World) (hr : TxC w cs t) (hm : mayT t) (hw : hasW t) :
    Calls Try.prog 55 #[.agg cs.toArray] w fun e w' => ∃ r, e = .returned r ∧ OwB w' w.heap.size 5 r (le t.ver 4 ++ [0, 1] ++ bodyB t ++ t.ins.flatMap witB ++ le t.lock 4) ∧ Below w.heap.size w w' := by
  obtain ⟨iv, ov, rfl, hi, ho, hver, hlock⟩ := hr
  obtain ⟨AI, ci, rfl, hi1, hi2, _⟩ := hi.form
  obtain ⟨AO, co, rfl, ho1, ho2, _⟩ := ho.form
  have HT := As.mk (show TxC w [.int .u32 (t.ver : Int), .slice AI t.ins.length ci, .slice AO t.outs.length co, .int .u32 (t.lock : Int)] t from ⟨_, _, rfl, hi, ho, hver, hlock⟩)
  have HI := As.mk hi
  have HVER := As.mk hver
  have HLOCK := As.mk hlock
  have HX : As (Below w.heap.size w (w.alloc (.cells #[.int .u32 (t.ver : Int), .slice AI t.ins.length ci, .slice AO t.outs.length co, .int .u32 (t.lock : Int)] 51)) ∧ Box (w.alloc (.cells #[.int .u32 (t.ver : Int), .slice AI t.ins.length ci, .slice AO t.outs.length co, .int .u32 (t.lock : Int)] 51)) w.heap.size #[.int .u32 (t.ver : Int), .slice AI t.ins.length ci, .slice AO t.outs.length co, .int .u32 (t.lock : Int)] 51) := ⟨(Below.refl _ _).alloc (Nat.le_refl _) _, Box.new _ _ _⟩
  have HDM : As (decide (mayT t) = true) := ⟨decide_eq_true hm⟩
  have HDW : As (decide (hasW t) = true) := ⟨decide_eq_true hw⟩
  have HM := As.mk hm
  have hmi : (t.ins.length : Int) ≤ 50 := by have := hm.2.2; omega
  have HBL := As.mk (bodyB_length t hm HT.out.prev)
  clear hm hw hi ho hi1 hi2 ho1 ho2 hver hlock
  have d0 := HX.out.2.cell 0 _ rfl
  have d1 := HX.out.2.cell 1 _ rfl
  have d2 := HX.out.2.cell 2 _ rfl
  have d3 := HX.out.2.cell 3 _ rfl
  go_enter Try.func55, Try.ntmps55
  go_upto_region 3 with (first | (go_at_call 54; (with_reducible refine (qmay_any _ t _ HDM.out (TxC.below HT.out HX.out.1)).mono ?_); rintro e w1 ⟨rfl, hb⟩; have HX1 := As.mk (And.intro (HX.out.1.trans (hb.mono (by first | exact HX.out.1.size | simp))) (HX.out.2.below hb)); clear hb d0 d1 d2 d3; have d0 := HX1.out.2.cell 0 _ rfl; have d1 := HX1.out.2.cell 1 _ rfl; have d2 := HX1.out.2.cell 2 _ rfl; have d3 := HX1.out.2.cell 3 _ rfl) | (go_at_call 82; (with_reducible refine (qwit_any _ t _ HDW.out (TxC.below HT.out HX1.out.1)).mono ?_); rintro e w2 ⟨rfl, hb⟩; have HX2 := As.mk (And.intro (HX1.out.1.trans (hb.mono (by first | exact HX1.out.1.size | simp))) (HX1.out.2.below hb)); clear hb d0 d1 d2 d3; have d0 := HX2.out.2.cell 0 _ rfl; have d1 := HX2.out.2.cell 1 _ rfl; have d2 := HX2.out.2.cell 2 _ rfl; have d3 := HX2.out.2.cell 3 _ rfl))
  clear d0 d1 d2 d3
  have HXM : As (Below w.heap.size w w2 ∧ Box w2 w.heap.size #[.int .u32 (t.ver : Int), .slice AI t.ins.length ci, .slice AO t.outs.length co, .int .u32 (t.lock : Int)] 51) := HX2
  go_cut [3] (fun v3 wc => As (OwB wc (w.heap.size + 1) 5 v3 (le t.ver 4 ++ [0, 1] ++ bodyB t)) ∧ As (Below w.heap.size w wc ∧ Box wc w.heap.size #[.int .u32 (t.ver : Int), .slice AI t.ins.length ci, .slice AO t.outs.length co, .int .u32 (t.lock : Int)] 51))
  case first =>
    refine wp_region_held_drew (S := (fun W : World => Below w.heap.size w W ∧ Box W w.heap.size #[.int .u32 (t.ver : Int), .slice AI t.ins.length ci, .slice AO t.outs.length co, .int .u32 (t.lock : Int)] 51)) (by kernel_rfl) ?_ (fun hHeld => ?_)
    · exact ⟨HXM.out.1.drew, HXM.out.2⟩
    refine wpAnyH_take (i := 0) (oi := ?_) (v := ?_) (by simp only [List.getElem?_toArray, List.getElem?_cons_zero, List.getElem?_cons_succ]; rfl) (by kernel_rfl) (by kernel_rfl) (by kernel_rfl) (by exact fun _ _ _ h => h) (Or.inl ⟨by rfl, ?_⟩) (by assumption) ?_
    rotate_left
    · (intro w hSw; (try dsimp only at hSw); have q0 := hSw.2.cell 0 _ rfl; have q1 := hSw.2.cell 1 _ rfl; have q2 := hSw.2.cell 2 _ rfl; have q3 := hSw.2.cell 3 _ rfl; clear hSw; go_simp; first | done | with_reducible rfl)
    try simp only [Act.put, List.setIfInBounds_toArray, List.set_cons_zero, List.set_cons_succ]
    refine wpAnyH_take (i := 1) (oi := ?_) (v := ?_) (by simp only [List.getElem?_toArray, List.getElem?_cons_zero, List.getElem?_cons_succ]; rfl) (by kernel_rfl) (by kernel_rfl) (by kernel_rfl) (by exact fun _ _ _ h => h) (Or.inl ⟨by rfl, ?_⟩) (by assumption) ?_
    rotate_left
    · (intro w hSw; (try dsimp only at hSw); have q0 := hSw.2.cell 0 _ rfl; have q1 := hSw.2.cell 1 _ rfl; have q2 := hSw.2.cell 2 _ rfl; have q3 := hSw.2.cell 3 _ rfl; clear hSw; go_simp; first | done | with_reducible rfl)
    try simp only [Act.put, List.setIfInBounds_toArray, List.set_cons_zero, List.set_cons_succ]
    refine wpAnyH_take (i := 5) (oi := ?_) (v := ?_) (by simp only [List.getElem?_toArray, List.getElem?_cons_zero, List.getElem?_cons_succ]; rfl) (by kernel_rfl) (by kernel_rfl) (by kernel_rfl) (by exact fun _ _ _ h => h) (Or.inl ⟨by rfl, ?_⟩) (by assumption) ?_
    rotate_left
    · (intro w hSw; (try dsimp only at hSw); have q0 := hSw.2.cell 0 _ rfl; have q1 := hSw.2.cell 1 _ rfl; have q2 := hSw.2.cell 2 _ rfl; have q3 := hSw.2.cell 3 _ rfl; clear hSw; go_simp; first | done | with_reducible rfl)
    try simp only [Act.put, List.setIfInBounds_toArray, List.set_cons_zero, List.set_cons_succ]
    refine wpAnyH_ready (rs := [2, 3]) (by kernel_rfl) (by simp) ?_
    refine AllReadyH.cons (o := ?_) (by simp only [List.getElem?_toArray, List.getElem?_cons_zero, List.getElem?_cons_succ]; rfl) (fun K hK => ?_) ?_
    · go_simp
      refine (small_ref _ [] t.ver _ _ (RdB.nil _) (by simp) HVER.out rfl).mono ?_
      rintro e w5 ⟨r2, rfl, ho, hb⟩
      have HO2 := As.mk (show OwB w5 (w.heap.size + 1) 5 r2 (le t.ver 4) from OwS.mono ho hHeld.2.lt)
      have hS2 : Below w.heap.size w w5 ∧ Box w5 w.heap.size #[.int .u32 (t.ver : Int), .slice AI t.ins.length ci, .slice AO t.outs.length co, .int .u32 (t.lock : Int)] 51 := ⟨hHeld.1.trans (hb.mono hHeld.1.size), hHeld.2.below hb⟩
      clear ho hb
      dsimp only
      refine hK.out _ _ ?_ (fun hHeld2 => ?_)
      · exact hS2
      clear hK K hHeld
      have hHeld := hHeld2
      clear hHeld2
      try simp only [Act.put, List.setIfInBounds_toArray, List.set_cons_zero, List.set_cons_succ]
      refine wpAnyH_ready (rs := [3]) (by kernel_rfl) (by simp) ?_
      refine AllReadyH.cons (o := ?_) (by simp only [List.getElem?_toArray, List.getElem?_cons_zero, List.getElem?_cons_succ]; rfl) (fun K hK => ?_) ?_
      · go_simp
        have HO9 := As.mk (OwS.alloc HO2.out (.cells #[.int .u8 0, .int .u8 1] 5))
        clear HO2
        have HO2 := HO9
        clear HO9
        have HR3 := As.mk (lit_rds w5 5 [0, 1] #[.int .u8 0, .int .u8 1] rfl 2 rfl (by decide))
        have hS2 : Below w.heap.size w (World.alloc _ _) ∧ Box (World.alloc _ _) w.heap.size #[.int .u32 (t.ver : Int), .slice AI t.ins.length ci, .slice AO t.outs.length co, .int .u32 (t.lock : Int)] 51 := ⟨hHeld.1.alloc hHeld.1.size (.cells #[.int .u8 0, .int .u8 1] 5), hHeld.2.below ((Below.refl _ _).alloc (Nat.le_refl _) (.cells #[.int .u8 0, .int .u8 1] 5))⟩
        refine hK.out _ _ ?_ (fun hHeld2 => ?_)
        · exact hS2
        clear hK K hHeld
        have hHeld := hHeld2
        clear hHeld2
        try simp only [Act.put, List.setIfInBounds_toArray, List.set_cons_zero, List.set_cons_succ]
        refine wpAnyH_ready (rs := [4]) (by kernel_rfl) (by simp) ?_
        refine AllReadyH.cons (o := ?_) (by simp only [List.getElem?_toArray, List.getElem?_cons_zero, List.getElem?_cons_succ]; rfl) (fun K hK => ?_) ?_
        · refine step_appB ?hgd (.tmp 18) (.tmp 19) ?ho ?hty (w.heap.size + 1) (r2) (le t.ver 4) ?hs ?hown (.slice (some ⟨w5.heap.size, 0, none⟩) 2 2) ([0, 1]) ?hx ?hy ?hl ?hb ?_
          case hgd => rfl
          case ho => rfl
          case hty => rfl
          case hs => rfl
          case hown => exact (HO2.out)
          case hx => rfl
          case hy => exact (HR3.out)
          case hl => (simp [le_length])
          case hb => exact hHeld.2.lt
          intro v4 w4 ho hg
          have hS2 : Below w.heap.size w w4 ∧ Box w4 w.heap.size #[.int .u32 (t.ver : Int), .slice AI t.ins.length ci, .slice AO t.outs.length co, .int .u32 (t.lock : Int)] 51 := ⟨OwB.below_of HO2.out hg hHeld.1 (by omega) hHeld.1.size, hHeld.2.grown hg (fun e => by have := (HO2.out.lt _ e).1; omega)⟩
          have HO4 := As.mk ho
          clear ho hg
          refine hK.out _ _ ?_ (fun hHeld2 => ?_)
          · exact hS2
          clear hK K hHeld
          have hHeld := hHeld2
          clear hHeld2
          try simp only [Act.put, List.setIfInBounds_toArray, List.set_cons_zero, List.set_cons_succ]
          refine wpAnyH_ready (rs := [6]) (by kernel_rfl) (by simp) ?_
          refine AllReadyH.cons (o := ?_) (by simp only [List.getElem?_toArray, List.getElem?_cons_zero, List.getElem?_cons_succ]; rfl) (fun K hK => ?_) ?_
          · go_simp
            refine (qbody_any _ (le t.ver 4 ++ [0, 1]) _ t _ HO4.out.rd (by simp [le_length]) (TxC.below HT.out hHeld.1) HM.out).mono ?_
            rintro e w6 ⟨r6, rfl, ho, hb⟩
            have HO6 := As.mk (OwS.mono ho hHeld.2.lt)
            have hS2 : Below w.heap.size w w6 ∧ Box w6 w.heap.size #[.int .u32 (t.ver : Int), .slice AI t.ins.length ci, .slice AO t.outs.length co, .int .u32 (t.lock : Int)] 51 := ⟨hHeld.1.trans (hb.mono hHeld.1.size), hHeld.2.below hb⟩
            clear ho hb
            dsimp only
            refine hK.out _ _ ?_ (fun hHeld2 => ?_)
            · exact hS2
            clear hK K hHeld
            have hHeld := hHeld2
            clear hHeld2
            try simp only [Act.put, List.setIfInBounds_toArray, List.set_cons_zero, List.set_cons_succ]
            refine wpAnyH_take (i := 7) (oi := ?_) (v := ?_) (by simp only [List.getElem?_toArray, List.getElem?_cons_zero, List.getElem?_cons_succ]; rfl) (by kernel_rfl) (by kernel_rfl) (by kernel_rfl) (by exact fun _ _ _ h => h) (Or.inl ⟨by rfl, ?_⟩) (by assumption) ?_
            rotate_left
            · (intro w hSw; (try dsimp only at hSw); have q0 := hSw.2.cell 0 _ rfl; have q1 := hSw.2.cell 1 _ rfl; have q2 := hSw.2.cell 2 _ rfl; have q3 := hSw.2.cell 3 _ rfl; clear hSw; go_simp; first | done | with_reducible rfl)
            try simp only [Act.put, List.setIfInBounds_toArray, List.set_cons_zero, List.set_cons_succ]
            refine wpAnyH_done (by kernel_rfl) ?_ _
            go_wp2_with fail
            go_meet
            exact ⟨HO6, ⟨hHeld⟩⟩
          exact AllReadyH.nil
        exact AllReadyH.nil
      exact AllReadyH.nil
    refine AllReadyH.cons (o := ?_) (by simp only [List.getElem?_toArray, List.getElem?_cons_zero, List.getElem?_cons_succ]; rfl) (fun K hK => ?_) ?_
    · go_simp
      have HR3 := As.mk (lit_rds w2.drew 5 [0, 1] #[.int .u8 0, .int .u8 1] rfl 2 rfl (by decide))
      have hS2 : Below w.heap.size w (World.alloc _ _) ∧ Box (World.alloc _ _) w.heap.size #[.int .u32 (t.ver : Int), .slice AI t.ins.length ci, .slice AO t.outs.length co, .int .u32 (t.lock : Int)] 51 := ⟨hHeld.1.alloc hHeld.1.size (.cells #[.int .u8 0, .int .u8 1] 5), hHeld.2.below ((Below.refl _ _).alloc (Nat.le_refl _) (.cells #[.int .u8 0, .int .u8 1] 5))⟩
      refine hK.out _ _ ?_ (fun hHeld2 => ?_)
      · exact hS2
      clear hK K hHeld
      have hHeld := hHeld2
      clear hHeld2
      try simp only [Act.put, List.setIfInBounds_toArray, List.set_cons_zero, List.set_cons_succ]
      refine wpAnyH_ready (rs := [2]) (by kernel_rfl) (by simp) ?_
      refine AllReadyH.cons (o := ?_) (by simp only [List.getElem?_toArray, List.getElem?_cons_zero, List.getElem?_cons_succ]; rfl) (fun K hK => ?_) ?_
      · go_simp
        refine (small_ref _ [] t.ver _ _ (RdB.nil _) (by simp) HVER.out rfl).mono ?_
        rintro e w5 ⟨r2, rfl, ho, hb⟩
        have HO2 := As.mk (show OwB w5 (w.heap.size + 1) 5 r2 (le t.ver 4) from OwS.mono ho hHeld.2.lt)
        have HR2 := As.mk (RdS.below HR3.out hb)
        clear HR3
        have HR3 := HR2
        clear HR2
        have hS2 : Below w.heap.size w w5 ∧ Box w5 w.heap.size #[.int .u32 (t.ver : Int), .slice AI t.ins.length ci, .slice AO t.outs.length co, .int .u32 (t.lock : Int)] 51 := ⟨hHeld.1.trans (hb.mono hHeld.1.size), hHeld.2.below hb⟩
        clear ho hb
        dsimp only
        refine hK.out _ _ ?_ (fun hHeld2 => ?_)
        · exact hS2
        clear hK K hHeld
        have hHeld := hHeld2
        clear hHeld2
        try simp only [Act.put, List.setIfInBounds_toArray, List.set_cons_zero, List.set_cons_succ]
        refine wpAnyH_ready (rs := [4]) (by kernel_rfl) (by simp) ?_
        refine AllReadyH.cons (o := ?_) (by simp only [List.getElem?_toArray, List.getElem?_cons_zero, List.getElem?_cons_succ]; rfl) (fun K hK => ?_) ?_
        · refine step_appB ?hgd (.tmp 18) (.tmp 19) ?ho ?hty (w.heap.size + 1) (r2) (le t.ver 4) ?hs ?hown (.slice (some ⟨w2.heap.size, 0, none⟩) 2 2) ([0, 1]) ?hx ?hy ?hl ?hb ?_
          case hgd => rfl
          case ho => rfl
          case hty => rfl
          case hs => rfl
          case hown => exact (HO2.out)
          case hx => rfl
          case hy => exact (HR3.out)
          case hl => (simp [le_length])
          case hb => exact hHeld.2.lt
          intro v4 w4 ho hg
          have hS2 : Below w.heap.size w w4 ∧ Box w4 w.heap.size #[.int .u32 (t.ver : Int), .slice AI t.ins.length ci, .slice AO t.outs.length co, .int .u32 (t.lock : Int)] 51 := ⟨OwB.below_of HO2.out hg hHeld.1 (by omega) hHeld.1.size, hHeld.2.grown hg (fun e => by have := (HO2.out.lt _ e).1; omega)⟩
          have HO4 := As.mk ho
          clear ho hg
          refine hK.out _ _ ?_ (fun hHeld2 => ?_)
          · exact hS2
          clear hK K hHeld
          have hHeld := hHeld2
          clear hHeld2
          try simp only [Act.put, List.setIfInBounds_toArray, List.set_cons_zero, List.set_cons_succ]
          refine wpAnyH_ready (rs := [6]) (by kernel_rfl) (by simp) ?_
          refine AllReadyH.cons (o := ?_) (by simp only [List.getElem?_toArray, List.getElem?_cons_zero, List.getElem?_cons_succ]; rfl) (fun K hK => ?_) ?_
          · go_simp
            refine (qbody_any _ (le t.ver 4 ++ [0, 1]) _ t _ HO4.out.rd (by simp [le_length]) (TxC.below HT.out hHeld.1) HM.out).mono ?_
            rintro e w6 ⟨r6, rfl, ho, hb⟩
            have HO6 := As.mk (OwS.mono ho hHeld.2.lt)
            have hS2 : Below w.heap.size w w6 ∧ Box w6 w.heap.size #[.int .u32 (t.ver : Int), .slice AI t.ins.length ci, .slice AO t.outs.length co, .int .u32 (t.lock : Int)] 51 := ⟨hHeld.1.trans (hb.mono hHeld.1.size), hHeld.2.below hb⟩
            clear ho hb
            dsimp only
            refine hK.out _ _ ?_ (fun hHeld2 => ?_)
            · exact hS2
            clear hK K hHeld
            have hHeld := hHeld2
            clear hHeld2
            try simp only [Act.put, List.setIfInBounds_toArray, List.set_cons_zero, List.set_cons_succ]
            refine wpAnyH_take (i := 7) (oi := ?_) (v := ?_) (by simp only [List.getElem?_toArray, List.getElem?_cons_zero, List.getElem?_cons_succ]; rfl) (by kernel_rfl) (by kernel_rfl) (by kernel_rfl) (by exact fun _ _ _ h => h) (Or.inl ⟨by rfl, ?_⟩) (by assumption) ?_
            rotate_left
            · (intro w hSw; (try dsimp only at hSw); have q0 := hSw.2.cell 0 _ rfl; have q1 := hSw.2.cell 1 _ rfl; have q2 := hSw.2.cell 2 _ rfl; have q3 := hSw.2.cell 3 _ rfl; clear hSw; go_simp; first | done | with_reducible rfl)
            try simp only [Act.put, List.setIfInBounds_toArray, List.set_cons_zero, List.set_cons_succ]
            refine wpAnyH_done (by kernel_rfl) ?_ _
            go_wp2_with fail
            go_meet
            exact ⟨HO6, ⟨hHeld⟩⟩
          exact AllReadyH.nil
        exact AllReadyH.nil
      exact AllReadyH.nil
    exact AllReadyH.nil
  case rest =>
    obtain ⟨HO0, HB0⟩ := hcut
    have HLB : As ((le t.ver 4 ++ [0, 1] ++ bodyB t).length ≤ 61000) := ⟨by have := HBL.out; simp only [List.length_append, le_length, List.length_cons, List.length_nil]; omega⟩
    obtain ⟨B0, hB0⟩ : ∃ B, B = le t.ver 4 ++ [0, 1] ++ bodyB t := ⟨_, rfl⟩
    rw [← hB0] at HO0 HLB
    have HBE := As.mk hB0
    clear hB0 HXM HX HX1 HX2 HT HVER HBL
    go_wp2
    go_loopw [3, 4] (fun v3 v4 wr => ∃ (k : Nat) (L : List UInt8), v4 = .int .i64 (k : Int) ∧ (k : Int) ≤ t.ins.length ∧ As (Below w.heap.size w wr ∧ Box wr w.heap.size #[.int .u32 (t.ver : Int), .slice AI t.ins.length ci, .slice AO t.outs.length co, .int .u32 (t.lock : Int)] 51) ∧ As (OwB wr (w.heap.size + 1) 5 v3 L) ∧ As (L = B0 ++ (t.ins.take k).flatMap witB ∧ L.length ≤ B0.length + 5055 * k)) (fun _ v4 _ => t.ins.length - (intOf v4).toNat)
    case atStart => exact ⟨0, _, rfl, by omega, HB0, HO0, ⟨by simp, by simp⟩⟩
    case round =>
      obtain ⟨k, L, rfl, hk, HB, HV0, HLL⟩ := hrel
      have d1 := HB.out.2.cell 1 _ rfl
      by_cases hlt : (k : Int) < t.ins.length
      · obtain ⟨g, o, cs, x, A1, c1, A2, c2, rfl, HK, HLC, HG, H1, HX, h32, h33, h34, h35, HS, HW⟩ := RdIns.at HI.out k (by omega)
        have HOK := As.mk (HM.out.1 x (List.mem_of_getElem? HK.out))
        have hwl : (x.wit.length : Int) ≤ 10 := by have := HOK.out.2.1; omega
        have HG35 := As.mk (HG.out 35 _ h35)
        have d35 := cell_below HB.out.1 HG35.out
        clear h32 h33 h34 h35
        go_upto_region 8 with (go_at_call 28; (with_reducible refine (count_ref _ L _ _ HV0.out.rd (by have := HLL.out.2; have := HLB.out; omega)).mono ?_); rintro e w3 ⟨r3, rfl, ho, hb⟩; have HR3 := As.mk ho; have HZ3 := As.mk (And.intro (HB.out.1.trans (hb.mono HB.out.1.size)) (HB.out.2.below hb)); clear ho hb)
        have HO3 : As (OwB w3 (w.heap.size + 1) 5 r3 (L ++ cnt x.wit.length)) := ⟨by have := HR3.out; rw [clampU_len _ (by omega)] at this; exact OwS.mono this HB.out.2.lt⟩
        clear HR3 d35 d1 hlt
        have hlt : (k : Int) < t.ins.length := by have := (List.getElem?_eq_some_iff.1 HK.out).1; omega
        go_wp2
        go_loopw [3, 5] (fun v3 v5 w2 => ∃ (j : Nat) (M : List UInt8), v5 = .int .i64 (j : Int) ∧ (j : Int) ≤ x.wit.length ∧ As (Below w.heap.size w w2 ∧ Box w2 w.heap.size #[.int .u32 (t.ver : Int), .slice (some ⟨g, o, none⟩) t.ins.length ci, .slice AO t.outs.length co, .int .u32 (t.lock : Int)] 51) ∧ As (OwB w2 (w.heap.size + 1) 5 v3 M) ∧ As (M = L ++ cnt x.wit.length ++ (x.wit.take j).flatMap cntB ∧ M.length ≤ L.length + 5 + 505 * j)) (fun _ v5 _ => x.wit.length - (intOf v5).toNat)
        case atStart => exact ⟨0, _, rfl, by omega, HZ3, HO3, ⟨by simp, by have := cnt_length x.wit.length; simp only [List.length_append]; omega⟩⟩
        case round =>
          obtain ⟨j, M, rfl, hj, HBj, HVj, HMM⟩ := hrel
          have d1 := HBj.out.2.cell 1 _ rfl
          have d35 := cell_below HBj.out.1 HG35.out
          by_cases hjl : (j : Int) < x.wit.length
          · obtain ⟨g2, o2, Ab, b, cb, rfl, HKb, hcb, HBb⟩ := RdW.at HW.out j (by omega)
            have kb := cell_below HBj.out.1 hcb
            clear hcb
            have HLb := As.mk (HOK.out.2.2 b (List.mem_of_getElem? HKb.out))
            go_wp2_with (go_at_call 84; (with_reducible refine (qcounted_any _ _ M b _ HVj.out.rd (HBb.out.below HBj.out.1) (by have := HMM.out.2; have := HLL.out.2; have := HLB.out; omega) (by have := HLb.out; omega)).mono ?_); rintro e w4 ⟨r4, rfl, ho, hb⟩; have HO4 := As.mk ho; have HB4 := As.mk (And.intro (HBj.out.1.trans (hb.mono HBj.out.1.size)) (HBj.out.2.below hb)); clear ho hb)
            go_roundw
            case rel =>
              refine ⟨j + 1, _, by go_num, by omega, HB4, ⟨OwS.mono HO4.out HBj.out.2.lt⟩, ⟨?_, ?_⟩⟩
              · rw [flatMap_step cntB HKb.out, HMM.out.1]; simp only [List.append_assoc]
              · have h1 := cntB_length b HLb.out; have h2 := HMM.out.2; rw [List.length_append]; omega
            case measure => simp [intOf]; omega
          · have HM2 : As (M = L ++ witB x) := ⟨by have := HMM.out.1; rw [List.take_of_length_le (by omega)] at this; rw [this, witB, List.append_assoc]⟩
            have hML := witB_length x HOK.out
            have HML := As.mk hML
            clear hML
            go_wp2
            go_roundw
            case rel =>
              refine ⟨k + 1, _, by go_num, by omega, HBj, HVj, ⟨?_, ?_⟩⟩
              · rw [flatMap_step witB HK.out, HM2.out, HLL.out.1]; simp only [List.append_assoc]
              · rw [HM2.out, List.length_append]; have := HML.out; have := HLL.out.2; omega
            case measure => simp [intOf]; omega
      · have HL2 : As (L = B0 ++ t.ins.flatMap witB) := ⟨by have := HLL.out.1; rwa [List.take_of_length_le (by omega)] at this⟩
        have d3 := HB.out.2.cell 3 _ rfl
        go_wp2_with (go_at_call 26; (with_reducible refine (small_ref _ L t.lock _ _ HV0.out.rd (by have := HLL.out.2; have := HLB.out; omega) HLOCK.out rfl).mono ?_); rintro e w4 ⟨r4, rfl, ho, hb⟩; have HO4 := As.mk ho; have HB4 := As.mk (HB.out.1.trans (hb.mono HB.out.1.size)); clear ho hb)
        go_ret
        refine ⟨_, rfl, ?_, HB4.out⟩
        have e := HL2.out
        rw [HBE.out] at e
        rw [← e]
        exact OwS.mono HO4.out HB.out.1.size
theorem qbytes_any (cs : List Value) (t : LTx) (w : World) (hr : TxC w cs t) :
    Calls Try.prog 55 #[.agg cs.toArray] w fun e w' => ∃ r, e = .returned r ∧ OwB w' w.heap.size 5 r (bytesT t) ∧ Below w.heap.size w w' := by
  by_cases hm : mayT t ∧ hasW t
  · refine (qbytes_wit cs t w hr hm.1 hm.2).mono ?_
    rintro e w' ⟨r, rfl, ho, hb⟩
    refine ⟨r, rfl, ?_, hb⟩
    unfold bytesT bytesB
    rw [if_pos hm.1, if_pos hm.2]
    exact ho
  · refine (qbytes_base cs t w hr hm).mono ?_
    rintro e w' ⟨r, rfl, ho, hb⟩
    refine ⟨r, rfl, ?_, hb⟩
    have e : bytesT t = baseT t := by
      unfold bytesT bytesB baseT
      by_cases h : mayT t
      · rw [if_pos h, if_pos h, if_neg (fun h2 => hm ⟨h, h2⟩)]
      · rw [if_neg h, if_neg h]
    rw [e]
    exact ho
end Go.Proofs.Ytfggkljgfadacaa.W
