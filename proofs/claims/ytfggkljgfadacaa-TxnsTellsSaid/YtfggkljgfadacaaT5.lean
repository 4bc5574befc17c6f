/- txns.Base, txns.witnessed, txns.Bytes. -/
import Derived.Test.YtfggkljgfadacaaT4
set_option linter.unusedVariables false
set_option linter.unusedSimpArgs false
namespace Go.Proofs.Ytfggkljgfadacaa.W
open Go.RowKit Go.Proofs.Ytfggkljgfadacaa.B Go.Proofs

theorem flat_le {α : Type} (f : α → List UInt8) (c : Nat) : ∀ (xs : List α), (∀ x ∈ xs, (f x).length ≤ c) → (xs.flatMap f).length ≤ c * xs.length
  | [], _ => by simp
  | x :: xs, h => by
    have h1 := h x (by simp)
    have h2 := flat_le f c xs (fun y hy => h y (by simp [hy]))
    simp only [List.flatMap_cons, List.length_append, List.length_cons, Nat.mul_add, Nat.mul_one]
    omega
theorem bodyB_length (t : LTx) (h : mayT t) (hp : ∀ x ∈ t.ins, x.prev.length = 32) : (bodyB t).length ≤ 60000 := by
  have h1 := flat_le inB 545 t.ins (fun x hx => inB_length x (h.1 x hx) (hp x hx))
  have h2 := flat_le outB 513 t.outs (fun x hx => outB_length x (h.2.1 x hx))
  have h3 := cnt_length t.ins.length
  have h4 := cnt_length t.outs.length
  have h5 := h.2.2
  unfold bodyB
  simp only [List.length_append]
  omega
theorem RdIns.prev {w : World} {v : Value} {xs : List LIn} (h : RdIns w v xs) : ∀ x ∈ xs, x.prev.length = 32 := by
  intro x hx
  obtain ⟨A, c, rfl, _⟩ := h.form
  obtain ⟨k, hk, rfl⟩ := List.mem_iff_getElem.1 hx
  obtain ⟨g, o, cs, _, _, hi, _⟩ := RdL.at h k _ (List.getElem?_eq_getElem hk)
  exact hi.prev
theorem TxC.prev {w : World} {cs : List Value} {t : LTx} (h : TxC w cs t) : ∀ x ∈ t.ins, x.prev.length = 32 := by
  obtain ⟨iv, ov, rfl, hi, _⟩ := h
  exact hi.prev
theorem TxC.below {w w' : World} {cs : List Value} {t : LTx} (h : TxC w cs t) (hb : Below w.heap.size w w') : TxC w' cs t := TxC.stable _ _ _ _ h hb
theorem dec_not {p : Prop} [Decidable p] (h : ¬ p) : decide p = false := decide_eq_false h

set_option maxHeartbeats 8000000 in
set_option maxRecDepth 100000 in
theorem base_not (cs : List Value) (t : LTx) (w : World) (hr : TxC w cs t) (hm : ¬ mayT t) :
    Calls Try.prog 49 #[.agg cs.toArray] w fun e w' => e = .returned (.slice none 0 0) ∧ Below w.heap.size w w' := by
  obtain ⟨iv, ov, rfl, hi, ho, hver, hlock⟩ := hr
  obtain ⟨AI, ci, rfl, hi1, hi2, _⟩ := hi.form
  obtain ⟨AO, co, rfl, ho1, ho2, _⟩ := ho.form
  have HT := As.mk (show TxC w [.int .u32 (t.ver : Int), .slice AI t.ins.length ci, .slice AO t.outs.length co, .int .u32 (t.lock : Int)] t from ⟨_, _, rfl, hi, ho, hver, hlock⟩)
  have HI := As.mk hi
  have HVER := As.mk hver
  have HLOCK := As.mk hlock
  have HX : As (Below w.heap.size w (w.alloc (.cells #[.int .u32 (t.ver : Int), .slice AI t.ins.length ci, .slice AO t.outs.length co, .int .u32 (t.lock : Int)] 51)) ∧ Box (w.alloc (.cells #[.int .u32 (t.ver : Int), .slice AI t.ins.length ci, .slice AO t.outs.length co, .int .u32 (t.lock : Int)] 51)) w.heap.size #[.int .u32 (t.ver : Int), .slice AI t.ins.length ci, .slice AO t.outs.length co, .int .u32 (t.lock : Int)] 51) := ⟨(Below.refl _ _).alloc (Nat.le_refl _) _, Box.new _ _ _⟩
  have dm : decide (mayT t) = false := dec_not hm
  clear hm hi ho hi1 hi2 ho1 ho2 hver hlock
  have d0 := HX.out.2.cell 0 _ rfl
  have d1 := HX.out.2.cell 1 _ rfl
  have d2 := HX.out.2.cell 2 _ rfl
  have d3 := HX.out.2.cell 3 _ rfl
  go_enter Try.func49, Try.ntmps49
  go_wp2_with (go_at_call 48; (with_reducible refine (may_any _ t _ (TxC.below HT.out HX.out.1)).mono ?_); rintro e w1 ⟨rfl, hb⟩; have HX1 := As.mk (And.intro (HX.out.1.trans (hb.mono (by simp))) (HX.out.2.below hb)); clear hb d0 d1 d2 d3; have d0 := HX1.out.2.cell 0 _ rfl; have d1 := HX1.out.2.cell 1 _ rfl; have d2 := HX1.out.2.cell 2 _ rfl; have d3 := HX1.out.2.cell 3 _ rfl)
  go_ret
  exact ⟨rfl, HX1.out.1⟩
set_option maxHeartbeats 8000000 in
set_option maxRecDepth 100000 in
theorem base_may (cs : List Value) (t : LTx) (w : World) (hr : TxC w cs t) (hm : mayT t) :
    Calls Try.prog 49 #[.agg cs.toArray] w fun e w' => ∃ r, e = .returned r ∧ OwB w' w.heap.size 5 r (baseB t) ∧ Below w.heap.size w w' := by
  obtain ⟨iv, ov, rfl, hi, ho, hver, hlock⟩ := hr
  obtain ⟨AI, ci, rfl, hi1, hi2, _⟩ := hi.form
  obtain ⟨AO, co, rfl, ho1, ho2, _⟩ := ho.form
  have HT := As.mk (show TxC w [.int .u32 (t.ver : Int), .slice AI t.ins.length ci, .slice AO t.outs.length co, .int .u32 (t.lock : Int)] t from ⟨_, _, rfl, hi, ho, hver, hlock⟩)
  have HI := As.mk hi
  have HVER := As.mk hver
  have HLOCK := As.mk hlock
  have HX : As (Below w.heap.size w (w.alloc (.cells #[.int .u32 (t.ver : Int), .slice AI t.ins.length ci, .slice AO t.outs.length co, .int .u32 (t.lock : Int)] 51)) ∧ Box (w.alloc (.cells #[.int .u32 (t.ver : Int), .slice AI t.ins.length ci, .slice AO t.outs.length co, .int .u32 (t.lock : Int)] 51)) w.heap.size #[.int .u32 (t.ver : Int), .slice AI t.ins.length ci, .slice AO t.outs.length co, .int .u32 (t.lock : Int)] 51) := ⟨(Below.refl _ _).alloc (Nat.le_refl _) _, Box.new _ _ _⟩
  have dm : decide (mayT t) = true := decide_eq_true hm
  have HM := As.mk hm
  have HBL := As.mk (bodyB_length t hm HT.out.prev)
  clear hm hi ho hi1 hi2 ho1 ho2 hver hlock
  have d0 := HX.out.2.cell 0 _ rfl
  have d1 := HX.out.2.cell 1 _ rfl
  have d2 := HX.out.2.cell 2 _ rfl
  have d3 := HX.out.2.cell 3 _ rfl
  go_enter Try.func49, Try.ntmps49
  go_upto_region 3 with (go_at_call 48; (with_reducible refine (may_any _ t _ (TxC.below HT.out HX.out.1)).mono ?_); rintro e w1 ⟨rfl, hb⟩; have HX1 := As.mk (And.intro (HX.out.1.trans (hb.mono (by simp))) (HX.out.2.below hb)); clear hb d0 d1 d2 d3; have d0 := HX1.out.2.cell 0 _ rfl; have d1 := HX1.out.2.cell 1 _ rfl; have d2 := HX1.out.2.cell 2 _ rfl; have d3 := HX1.out.2.cell 3 _ rfl)
  clear d0 d1 d2 d3
  refine wp_region_held_drew (S := (fun W : World => Below w.heap.size w W ∧ Box W w.heap.size #[.int .u32 (t.ver : Int), .slice AI t.ins.length ci, .slice AO t.outs.length co, .int .u32 (t.lock : Int)] 51)) (by kernel_rfl) ?_ (fun hHeld => ?_)
  · exact ⟨HX1.out.1.drew, HX1.out.2⟩
  refine wpAnyH_take (i := 0) (oi := ?_) (v := ?_) (by simp only [List.getElem?_toArray, List.getElem?_cons_zero, List.getElem?_cons_succ]; rfl) (by kernel_rfl) (by kernel_rfl) (by kernel_rfl) (by exact fun _ _ _ h => h) (Or.inl ⟨by rfl, ?_⟩) (by assumption) ?_
  rotate_left
  · (intro w hSw; (try dsimp only at hSw); have q0 := hSw.2.cell 0 _ rfl; have q1 := hSw.2.cell 1 _ rfl; have q2 := hSw.2.cell 2 _ rfl; have q3 := hSw.2.cell 3 _ rfl; clear hSw; go_simp; first | done | with_reducible rfl)
  try simp only [Act.put, List.setIfInBounds_toArray, List.set_cons_zero, List.set_cons_succ]
  refine wpAnyH_take (i := 1) (oi := ?_) (v := ?_) (by simp only [List.getElem?_toArray, List.getElem?_cons_zero, List.getElem?_cons_succ]; rfl) (by kernel_rfl) (by kernel_rfl) (by kernel_rfl) (by exact fun _ _ _ h => h) (Or.inl ⟨by rfl, ?_⟩) (by assumption) ?_
  rotate_left
  · (intro w hSw; (try dsimp only at hSw); have q0 := hSw.2.cell 0 _ rfl; have q1 := hSw.2.cell 1 _ rfl; have q2 := hSw.2.cell 2 _ rfl; have q3 := hSw.2.cell 3 _ rfl; clear hSw; go_simp; first | done | with_reducible rfl)
  try simp only [Act.put, List.setIfInBounds_toArray, List.set_cons_zero, List.set_cons_succ]
  refine wpAnyH_take (i := 3) (oi := ?_) (v := ?_) (by simp only [List.getElem?_toArray, List.getElem?_cons_zero, List.getElem?_cons_succ]; rfl) (by kernel_rfl) (by kernel_rfl) (by kernel_rfl) (by exact fun _ _ _ h => h) (Or.inl ⟨by rfl, ?_⟩) (by assumption) ?_
  rotate_left
  · (intro w hSw; (try dsimp only at hSw); have q0 := hSw.2.cell 0 _ rfl; have q1 := hSw.2.cell 1 _ rfl; have q2 := hSw.2.cell 2 _ rfl; have q3 := hSw.2.cell 3 _ rfl; clear hSw; go_simp; first | done | with_reducible rfl)
  try simp only [Act.put, List.setIfInBounds_toArray, List.set_cons_zero, List.set_cons_succ]
  refine wpAnyH_take (i := 5) (oi := ?_) (v := ?_) (by simp only [List.getElem?_toArray, List.getElem?_cons_zero, List.getElem?_cons_succ]; rfl) (by kernel_rfl) (by kernel_rfl) (by kernel_rfl) (by exact fun _ _ _ h => h) (Or.inl ⟨by rfl, ?_⟩) (by assumption) ?_
  rotate_left
  · (intro w hSw; (try dsimp only at hSw); have q0 := hSw.2.cell 0 _ rfl; have q1 := hSw.2.cell 1 _ rfl; have q2 := hSw.2.cell 2 _ rfl; have q3 := hSw.2.cell 3 _ rfl; clear hSw; go_simp; first | done | with_reducible rfl)
  try simp only [Act.put, List.setIfInBounds_toArray, List.set_cons_zero, List.set_cons_succ]
  refine wpAnyH_take (i := 6) (oi := ?_) (v := ?_) (by simp only [List.getElem?_toArray, List.getElem?_cons_zero, List.getElem?_cons_succ]; rfl) (by kernel_rfl) (by kernel_rfl) (by kernel_rfl) (by exact fun _ _ _ h => h) (Or.inl ⟨by rfl, ?_⟩) (by assumption) ?_
  rotate_left
  · (intro w hSw; (try dsimp only at hSw); have q0 := hSw.2.cell 0 _ rfl; have q1 := hSw.2.cell 1 _ rfl; have q2 := hSw.2.cell 2 _ rfl; have q3 := hSw.2.cell 3 _ rfl; clear hSw; go_simp; first | done | with_reducible rfl)
  try simp only [Act.put, List.setIfInBounds_toArray, List.set_cons_zero, List.set_cons_succ]
  refine wpAnyH_ready (rs := [2]) (by kernel_rfl) (by simp) ?_
  refine AllReadyH.cons (o := ?_) (by simp only [List.getElem?_toArray, List.getElem?_cons_zero, List.getElem?_cons_succ]; rfl) (fun K hK => ?_) ?_
  · go_simp
    refine (small_any _ [] t.ver _ _ (RdB.nil _) (by simp) HVER.out rfl).mono ?_
    rintro e w2 ⟨r2, rfl, ho, hb⟩
    have HO2 := As.mk (show OwB w2 (w.heap.size + 1) 5 r2 (le t.ver 4) from OwS.mono ho hHeld.2.lt)
    have hS2 := And.intro (hHeld.1.trans (hb.mono hHeld.1.size)) (hHeld.2.below hb)
    clear ho hb
    dsimp only
    refine hK.out _ _ ?_ (fun hHeld2 => ?_)
    · exact hS2
    clear hK K hHeld
    have hHeld := hHeld2
    clear hHeld2
    try simp only [Act.put, List.setIfInBounds_toArray, List.set_cons_zero, List.set_cons_succ]
    refine wpAnyH_ready (rs := [4]) (by kernel_rfl) (by simp) ?_
    refine AllReadyH.cons (o := ?_) (by simp only [List.getElem?_toArray, List.getElem?_cons_zero, List.getElem?_cons_succ]; rfl) (fun K hK => ?_) ?_
    · go_simp
      refine (body_any _ (le t.ver 4) _ t _ HO2.out.rd (by simp [le_length]) (TxC.below HT.out hHeld.1) HM.out).mono ?_
      rintro e w4 ⟨r4, rfl, ho, hb⟩
      have HO4 := As.mk (show OwB w4 w2.heap.size 5 r4 _ from ho)
      have hS2 := And.intro (hHeld.1.trans (hb.mono hHeld.1.size)) (hHeld.2.below hb)
      clear ho hb
      dsimp only
      refine hK.out _ _ ?_ (fun hHeld2 => ?_)
      · exact hS2
      clear hK K hHeld
      have hHeld := hHeld2
      clear hHeld2
      try simp only [Act.put, List.setIfInBounds_toArray, List.set_cons_zero, List.set_cons_succ]
      refine wpAnyH_ready (rs := [7]) (by kernel_rfl) (by simp) ?_
      refine AllReadyH.cons (o := ?_) (by simp only [List.getElem?_toArray, List.getElem?_cons_zero, List.getElem?_cons_succ]; rfl) (fun K hK => ?_) ?_
      · go_simp
        refine (small_any _ (le t.ver 4 ++ bodyB t) t.lock _ _ HO4.out.rd (by have := HBL.out; simp only [List.length_append, le_length]; omega) HLOCK.out rfl).mono ?_
        rintro e w5 ⟨r5, rfl, ho, hb⟩
        have HO5 := As.mk (OwS.mono ho hHeld.1.size)
        have hS2 := And.intro (hHeld.1.trans (hb.mono hHeld.1.size)) (hHeld.2.below hb)
        clear ho hb
        dsimp only
        refine hK.out _ _ ?_ (fun hHeld2 => ?_)
        · exact hS2
        clear hK K hHeld
        have hHeld := hHeld2
        clear hHeld2
        try simp only [Act.put, List.setIfInBounds_toArray, List.set_cons_zero, List.set_cons_succ]
        refine wpAnyH_take (i := 8) (oi := ?_) (v := ?_) (by simp only [List.getElem?_toArray, List.getElem?_cons_zero, List.getElem?_cons_succ]; rfl) (by kernel_rfl) (by kernel_rfl) (by kernel_rfl) (by exact fun _ _ _ h => h) (Or.inl ⟨by rfl, ?_⟩) (by assumption) ?_
        rotate_left
        · (intro w hSw; (try dsimp only at hSw); have q0 := hSw.2.cell 0 _ rfl; have q1 := hSw.2.cell 1 _ rfl; have q2 := hSw.2.cell 2 _ rfl; have q3 := hSw.2.cell 3 _ rfl; clear hSw; go_simp; first | done | with_reducible rfl)
        try simp only [Act.put, List.setIfInBounds_toArray, List.set_cons_zero, List.set_cons_succ]
        refine wpAnyH_done (by kernel_rfl) ?_ _
        go_wp2_with fail
        go_ret
        exact ⟨_, rfl, HO5.out, hHeld.1⟩
      exact AllReadyH.nil
    exact AllReadyH.nil
  exact AllReadyH.nil
/-- Base's bytes: of what may be. -/
def baseT (t : LTx) : List UInt8 := if mayT t then baseB t else []
theorem base_any (cs : List Value) (t : LTx) (w : World) (hr : TxC w cs t) :
    Calls Try.prog 49 #[.agg cs.toArray] w fun e w' => ∃ r, e = .returned r ∧ OwB w' w.heap.size 5 r (baseT t) ∧ Below w.heap.size w w' := by
  by_cases hm : mayT t
  · unfold baseT; rw [if_pos hm]; exact base_may cs t w hr hm
  · refine (base_not cs t w hr hm).mono ?_
    rintro e w' ⟨rfl, hb⟩
    refine ⟨_, rfl, ?_, hb⟩
    unfold baseT
    rw [if_neg hm]
    exact OwS.nil _ _ _ _
set_option maxHeartbeats 8000000 in
set_option maxRecDepth 100000 in
theorem witnessed_any (cs : List Value) (t : LTx) (w : World) (hr : TxC w cs t) :
    Calls Try.prog 72 #[.agg cs.toArray] w fun e w' => e = .returned (.bool (decide (hasW t))) ∧ Below w.heap.size w w' := by
  obtain ⟨iv, ov, rfl, hi, ho, hver, hlock⟩ := hr
  obtain ⟨AI, ci, rfl, hi1, hi2, _⟩ := hi.form
  obtain ⟨AO, co, rfl, ho1, ho2, _⟩ := ho.form
  have HT := As.mk (show TxC w [.int .u32 (t.ver : Int), .slice AI t.ins.length ci, .slice AO t.outs.length co, .int .u32 (t.lock : Int)] t from ⟨_, _, rfl, hi, ho, hver, hlock⟩)
  have HI := As.mk hi
  have HVER := As.mk hver
  have HLOCK := As.mk hlock
  have HX : As (Below w.heap.size w (w.alloc (.cells #[.int .u32 (t.ver : Int), .slice AI t.ins.length ci, .slice AO t.outs.length co, .int .u32 (t.lock : Int)] 51)) ∧ Box (w.alloc (.cells #[.int .u32 (t.ver : Int), .slice AI t.ins.length ci, .slice AO t.outs.length co, .int .u32 (t.lock : Int)] 51)) w.heap.size #[.int .u32 (t.ver : Int), .slice AI t.ins.length ci, .slice AO t.outs.length co, .int .u32 (t.lock : Int)] 51) := ⟨(Below.refl _ _).alloc (Nat.le_refl _) _, Box.new _ _ _⟩
  clear hi ho hi1 hi2 ho1 ho2 hver hlock
  have d0 := HX.out.2.cell 0 _ rfl
  have d1 := HX.out.2.cell 1 _ rfl
  have d2 := HX.out.2.cell 2 _ rfl
  have d3 := HX.out.2.cell 3 _ rfl
  go_enter Try.func72, Try.ntmps72
  go_wp2_with (go_at_call 95; (with_reducible refine (contains_wit _ t.ins _ (HI.out.below InC.stable HX.out.1)).mono ?_); rintro e w1 ⟨r, rfl, hb, hr⟩; have HB := As.mk (HX.out.1.trans (hb.mono (by simp))); have HR := As.mk hr; clear hb hr)
  go_ret
  refine ⟨congrArg (fun b => Ending.returned (.bool b)) ?_, HB.out⟩
  rw [Bool.eq_iff_iff, decide_eq_true_iff]
  exact HR.out
end Go.Proofs.Ytfggkljgfadacaa.W
