/- Layer 8: Weight, Check, Good. -/
import Derived.Test.YtfggkljgfadacaaSB
set_option linter.unusedVariables false
set_option linter.unusedSimpArgs false
namespace Go.Proofs.Ytfggkljgfadacaa.W
open Go.RowKit Go.Proofs.Ytfggkljgfadacaa.B Go.Proofs

def weightT (t : LTx) : Nat := 3 * (baseT t).length + (bytesT t).length
theorem bytesT_bound {t : LTx} (hf : fitT t) : (bytesT t).length ≤ 400000 := by
  by_cases h : mayT t
  · rw [bytesT_may h]; exact bytesB_length t h hf
  · unfold bytesT; rw [if_neg h]; simp
theorem baseT_bound {t : LTx} (hf : fitT t) : (baseT t).length ≤ 100000 := by
  by_cases h : mayT t
  · exact baseT_length h hf
  · unfold baseT; rw [if_neg h]; simp
set_option maxHeartbeats 1000000 in
set_option maxRecDepth 100000 in
theorem weight_any (cs : List Value) (t : LTx) (w : World) {n : Nat} (hq : weightT t = n) (hr : TxC w cs t) :
    Calls Try.prog 65 #[.agg cs.toArray] w fun e w' => e = .returned (.int .i64 (n : Int)) ∧ Below w.heap.size w w' := by
  have hf := hr.fit
  have hl1 := baseT_bound hf
  have hl2 := bytesT_bound hf
  obtain ⟨AI, cI, AO, cO, rfl⟩ := hr.four
  have HTX := As.mk hr
  obtain ⟨L1, hL1⟩ : ∃ L, (baseT t).length = L := ⟨_, rfl⟩
  obtain ⟨L2, hL2⟩ : ∃ L, (bytesT t).length = L := ⟨_, rfl⟩
  have HL1 := As.mk hL1
  have HL2 := As.mk hL2
  have hn : n = 3 * L1 + L2 := by rw [← hq, ← hL1, ← hL2]; rfl
  rw [hL1] at hl1
  rw [hL2] at hl2
  obtain ⟨M3, hM3⟩ : ∃ m : Int, m = 3 * (L1 : Int) := ⟨_, rfl⟩
  have e1 : IntKind.i64.wrap (3 * (L1 : Int)) = M3 := by rw [IntWalk.i64_in _ (by omega)]; exact hM3.symm
  have e2 : IntKind.i64.wrap (M3 + (L2 : Int)) = (n : Int) := by rw [IntWalk.i64_in _ (by omega)]; omega
  clear hr hq hf hL1 hL2 hl1 hl2 hn hM3
  go_enter Try.func65, Try.ntmps65
  go_upto_region 1 with fail
  have HX : As (BxT (w.alloc (.cells #[.int .u32 (t.ver : Int), .slice AI t.ins.length cI, .slice AO t.outs.length cO, .int .u32 (t.lock : Int)] 51)) w.heap.size [.int .u32 (t.ver : Int), .slice AI t.ins.length cI, .slice AO t.outs.length cO, .int .u32 (t.lock : Int)] t) := ⟨BxT.new HTX.out⟩
  have HB : As (Below w.heap.size w (w.alloc (.cells #[.int .u32 (t.ver : Int), .slice AI t.ins.length cI, .slice AO t.outs.length cO, .int .u32 (t.lock : Int)] 51))) := ⟨below_al _ _⟩
  change Code.wp _ _ _ _ (w.alloc (.cells #[.int .u32 (t.ver : Int), .slice AI t.ins.length cI, .slice AO t.outs.length cO, .int .u32 (t.lock : Int)] 51))
  generalize w.alloc (.cells #[.int .u32 (t.ver : Int), .slice AI t.ins.length cI, .slice AO t.outs.length cO, .int .u32 (t.lock : Int)] 51) = W at HX HB ⊢
  refine wp_region_held_drew (S := (fun V : World => Below W.heap.size W V)) (by kernel_rfl) ?_ (fun hHeld => ?_)
  · exact below_dr W
  refine wpAnyH_take (i := 0) (oi := ?_) (v := ?_) (by simp only [List.getElem?_toArray, List.getElem?_cons_zero, List.getElem?_cons_succ]; rfl) (by kernel_rfl) (by kernel_rfl) (by kernel_rfl) (by exact fun _ _ _ h => h) (Or.inl ⟨by rfl, ?_⟩) (by assumption) ?_
  rotate_left
  · (intro w hSw; (try dsimp only at hSw); obtain ⟨q0, q1, q2, q3⟩ := (HX.out.below hSw).four; clear hSw; go_simp; first | done | with_reducible rfl)
  try simp only [Act.put, List.setIfInBounds_toArray, List.set_cons_zero, List.set_cons_succ]
  refine wpAnyH_take (i := 4) (oi := ?_) (v := ?_) (by simp only [List.getElem?_toArray, List.getElem?_cons_zero, List.getElem?_cons_succ]; rfl) (by kernel_rfl) (by kernel_rfl) (by kernel_rfl) (by exact fun _ _ _ h => h) (Or.inl ⟨by rfl, ?_⟩) (by assumption) ?_
  rotate_left
  · (intro w hSw; (try dsimp only at hSw); obtain ⟨q0, q1, q2, q3⟩ := (HX.out.below hSw).four; clear hSw; go_simp; first | done | with_reducible rfl)
  try simp only [Act.put, List.setIfInBounds_toArray, List.set_cons_zero, List.set_cons_succ]
  refine wpAnyH_ready (rs := [1]) (by kernel_rfl) (by simp) ?_
  refine AllReadyH.cons (o := ?_) (by simp only [List.getElem?_toArray, List.getElem?_cons_zero, List.getElem?_cons_succ]; rfl) (fun K hK => ?_) ?_
  · go_simp
    refine (base_any _ t _ (HX.out.below hHeld).tx).mono ?_
    rintro e w2 ⟨r2, rfl, ho, hb⟩
    obtain ⟨A2, c2, rfl⟩ := RdB.formN (n := L1) ho.rd HL1.out
    have hS2 := hHeld.trans (hb.mono hHeld.size)
    clear ho hb
    dsimp only
    refine hK.out _ _ ?_ (fun hHeld2 => ?_)
    · exact hS2
    clear hK K hHeld
    have hHeld := hHeld2
    clear hHeld2
    try simp only [Act.put, List.setIfInBounds_toArray, List.set_cons_zero, List.set_cons_succ]
    refine wpAnyH_take (i := 2) (oi := ?_) (v := ?_) (by simp only [List.getElem?_toArray, List.getElem?_cons_zero, List.getElem?_cons_succ]; rfl) (by kernel_rfl) (by kernel_rfl) (by kernel_rfl) (by exact fun _ _ _ h => h) (Or.inl ⟨by rfl, ?_⟩) (by assumption) ?_
    rotate_left
    · (intro w hSw; (try dsimp only at hSw); obtain ⟨q0, q1, q2, q3⟩ := (HX.out.below hSw).four; clear hSw; go_simp; first | done | with_reducible rfl)
    try simp only [Act.put, List.setIfInBounds_toArray, List.set_cons_zero, List.set_cons_succ]
    refine wpAnyH_take (i := 3) (oi := ?_) (v := ?_) (by simp only [List.getElem?_toArray, List.getElem?_cons_zero, List.getElem?_cons_succ]; rfl) (by kernel_rfl) (by kernel_rfl) (by kernel_rfl) (by exact fun _ _ _ h => h) (Or.inl ⟨by rfl, ?_⟩) (by assumption) ?_
    rotate_left
    · (intro w hSw; (try dsimp only at hSw); obtain ⟨q0, q1, q2, q3⟩ := (HX.out.below hSw).four; clear hSw; go_simp; first | done | with_reducible rfl)
    try simp only [Act.put, List.setIfInBounds_toArray, List.set_cons_zero, List.set_cons_succ]
    refine wpAnyH_ready (rs := [5]) (by kernel_rfl) (by simp) ?_
    refine AllReadyH.cons (o := ?_) (by simp only [List.getElem?_toArray, List.getElem?_cons_zero, List.getElem?_cons_succ]; rfl) (fun K hK => ?_) ?_
    · go_simp
      refine (bytes_any _ t _ (HX.out.below hHeld).tx).mono ?_
      rintro e w3 ⟨r3, rfl, ho, hb⟩
      obtain ⟨A3, c3, rfl⟩ := RdB.formN (n := L2) ho.rd HL2.out
      have hS2 := hHeld.trans (hb.mono hHeld.size)
      clear ho hb
      dsimp only
      refine hK.out _ _ ?_ (fun hHeld2 => ?_)
      · exact hS2
      clear hK K hHeld
      have hHeld := hHeld2
      clear hHeld2
      try simp only [Act.put, List.setIfInBounds_toArray, List.set_cons_zero, List.set_cons_succ]
      refine wpAnyH_take (i := 6) (oi := ?_) (v := ?_) (by simp only [List.getElem?_toArray, List.getElem?_cons_zero, List.getElem?_cons_succ]; rfl) (by kernel_rfl) (by kernel_rfl) (by kernel_rfl) (by exact fun _ _ _ h => h) (Or.inl ⟨by rfl, ?_⟩) (by assumption) ?_
      rotate_left
      · (intro w hSw; (try dsimp only at hSw); obtain ⟨q0, q1, q2, q3⟩ := (HX.out.below hSw).four; clear hSw; go_simp; first | done | with_reducible rfl)
      try simp only [Act.put, List.setIfInBounds_toArray, List.set_cons_zero, List.set_cons_succ]
      refine wpAnyH_take (i := 7) (oi := ?_) (v := ?_) (by simp only [List.getElem?_toArray, List.getElem?_cons_zero, List.getElem?_cons_succ]; rfl) (by kernel_rfl) (by kernel_rfl) (by kernel_rfl) (by exact fun _ _ _ h => h) (Or.inl ⟨by rfl, ?_⟩) (by assumption) ?_
      rotate_left
      · (intro w hSw; (try dsimp only at hSw); obtain ⟨q0, q1, q2, q3⟩ := (HX.out.below hSw).four; clear hSw; go_simp; first | done | with_reducible rfl)
      try simp only [Act.put, List.setIfInBounds_toArray, List.set_cons_zero, List.set_cons_succ]
      refine wpAnyH_take (i := 8) (oi := ?_) (v := ?_) (by simp only [List.getElem?_toArray, List.getElem?_cons_zero, List.getElem?_cons_succ]; rfl) (by kernel_rfl) (by kernel_rfl) (by kernel_rfl) (by exact fun _ _ _ h => h) (Or.inl ⟨by rfl, ?_⟩) (by assumption) ?_
      rotate_left
      · (intro w hSw; (try dsimp only at hSw); obtain ⟨q0, q1, q2, q3⟩ := (HX.out.below hSw).four; clear hSw; go_simp; first | done | with_reducible rfl)
      try simp only [Act.put, List.setIfInBounds_toArray, List.set_cons_zero, List.set_cons_succ]
      refine wpAnyH_done (by kernel_rfl) ?_ _
      have HH := As.mk (HB.out.trans (hHeld.mono HB.out.size))
      clear hHeld
      go_wp2
      go_ret
      exact ⟨rfl, HH.out⟩
    exact AllReadyH.nil
  exact AllReadyH.nil
theorem insC_to (cs : List Value) (t : LTx) (w : World) {c : Int} (hq : insT t.ins = c) (hr : TxC w cs t) (hn : t.ins.length ≤ 1000) :
    Calls Try.prog 66 #[.agg cs.toArray] w fun e w' => e = .returned (.int .i64 c) ∧ Below w.heap.size w w' := by rw [← hq]; exact ins_any cs t w hr hn
theorem kinds_to (cs : List Value) (t : LTx) (w : World) {c : Int} (hq : kindsT t.outs = c) (hr : TxC w cs t) :
    Calls Try.prog 67 #[.agg cs.toArray] w fun e w' => e = .returned (.int .i64 c) ∧ Below w.heap.size w w' := by rw [← hq]; exact kinds_any cs t w hr
theorem dusts_to (cs : List Value) (t : LTx) (w : World) {n : Nat} (hq : t.outs.countP dustB = n) (hr : TxC w cs t) (hn : t.outs.length ≤ 1000) :
    Calls Try.prog 70 #[.agg cs.toArray] w fun e w' => ∃ A c, e = .returned (.slice A n c) ∧ Below w.heap.size w w' := by rw [← hq]; exact dusts_any cs t w hr hn
theorem sum_to (v : Value) (l : List Nat) (m : Nat) (b : Bool) (w : World) (hq : tot l = (m, b)) (hr : RdU w v l) (hl : l.length ≤ 17592186044416) (hb : ∀ n ∈ l, n < 18446744073709551616) :
    Calls Try.prog 68 #[v] w fun e w' => e = .returned (.tuple #[.int .u64 (m : Int), .bool b]) ∧ w = w' := by
  have := sum_any v l w hr hl hb
  rw [hq] at this
  exact this
/-- Why a transaction is not taken at all. -/
def checkT (t : LTx) : Int :=
  if mayT t then
    if t.ver = 0 ∨ 3 < t.ver then 2 else if 80000 < weightT t then 3 else if insT t.ins ≠ 0 then insT t.ins else if kindsT t.outs ≠ 0 then kindsT t.outs
    else if (tot (valuesT t.outs)).2 = false then 8 else if 1 < t.outs.countP dustB then 9 else 0
  else 1
set_option maxHeartbeats 4000000 in
set_option maxRecDepth 100000 in
theorem check_any (cs : List Value) (t : LTx) (w : World) (hr : TxC w cs t) :
    Calls Try.prog 43 #[.agg cs.toArray] w fun e w' => e = .returned (.int .i64 (checkT t)) ∧ Below w.heap.size w w' := by
  have HFT := As.mk hr.fit
  obtain ⟨AI, cI, AO, cO, rfl⟩ := hr.four
  have HTX := As.mk hr
  clear hr
  go_enter Try.func43, Try.ntmps43
  go_upto_block 0 with fail
  have HX : As (BxT (w.alloc (.cells #[.int .u32 (t.ver : Int), .slice AI t.ins.length cI, .slice AO t.outs.length cO, .int .u32 (t.lock : Int)] 51)) w.heap.size [.int .u32 (t.ver : Int), .slice AI t.ins.length cI, .slice AO t.outs.length cO, .int .u32 (t.lock : Int)] t) := ⟨BxT.new HTX.out⟩
  have HB : As (Below w.heap.size w (w.alloc (.cells #[.int .u32 (t.ver : Int), .slice AI t.ins.length cI, .slice AO t.outs.length cO, .int .u32 (t.lock : Int)] 51))) := ⟨below_al _ _⟩
  change Code.wp _ _ _ _ (w.alloc (.cells #[.int .u32 (t.ver : Int), .slice AI t.ins.length cI, .slice AO t.outs.length cO, .int .u32 (t.lock : Int)] 51))
  generalize w.alloc (.cells #[.int .u32 (t.ver : Int), .slice AI t.ins.length cI, .slice AO t.outs.length cO, .int .u32 (t.lock : Int)] 51) = W at HX HB ⊢
  obtain ⟨q0, q1, q2, q3⟩ := BxT.four HX.out
  by_cases hm : mayT t
  · have d1 : decide (mayT t) = true := decide_eq_true hm
    have HM := As.mk hm
    have HNI : As (t.ins.length ≤ 1000) := ⟨by have := hm.2.2.2.1; omega⟩
    have HNO : As (t.outs.length ≤ 1000) := ⟨by have := hm.2.2.2.2.2; omega⟩
    have HVL : As ((valuesT t.outs).length ≤ 17592186044416) := ⟨by unfold valuesT; rw [List.length_map]; have := HNO.out; omega⟩
    have HVB : As (∀ n ∈ valuesT t.outs, n < 18446744073709551616) := ⟨fun n hn => by obtain ⟨y, hy, rfl⟩ := List.mem_map.1 hn; exact HFT.out.2.2.2 y hy⟩
    clear hm
    by_cases v0 : t.ver = 0
    · have e0 : ((t.ver : Int) == 0) = true := by rw [v0]; rfl
      have HV0 := As.mk v0
      clear v0
      have HF : As (checkT t = 2) := ⟨by unfold checkT; rw [if_pos HM.out, if_pos (.inl HV0.out)]⟩
      go_wp2_with (first | (go_at_call 48; (with_reducible refine (may_any _ t _ (BxT.tx HX.out)).mono ?_); rintro e w' ⟨rfl, hb⟩; have HB2 := As.mk (Below.trans HB.out (hb.mono (below_size HB.out))); have HX2 := As.mk (BxT.below HX.out hb); clear hb HB HX q0 q1 q2 q3; have HB := HB2; have HX := HX2; clear HB2 HX2; obtain ⟨q0, q1, q2, q3⟩ := BxT.four HX.out))
      go_ret
      rw [HF.out]
      exact ⟨rfl, HB.out⟩
    · have e0 : ((t.ver : Int) == 0) = false := beq_eq_false_iff_ne.2 (by omega)
      have HV0 := As.mk v0
      clear v0
      by_cases v3 : (3 : Int) < t.ver
      · have HV3 : As (3 < t.ver) := ⟨by omega⟩
        have HF : As (checkT t = 2) := ⟨by unfold checkT; rw [if_pos HM.out, if_pos (.inr HV3.out)]⟩
        go_wp2_with (first | (go_at_call 48; (with_reducible refine (may_any _ t _ (BxT.tx HX.out)).mono ?_); rintro e w' ⟨rfl, hb⟩; have HB2 := As.mk (Below.trans HB.out (hb.mono (below_size HB.out))); have HX2 := As.mk (BxT.below HX.out hb); clear hb HB HX q0 q1 q2 q3; have HB := HB2; have HX := HX2; clear HB2 HX2; obtain ⟨q0, q1, q2, q3⟩ := BxT.four HX.out))
        go_ret
        rw [HF.out]
        exact ⟨rfl, HB.out⟩
      · have HVN : As (¬ (t.ver = 0 ∨ 3 < t.ver)) := ⟨by have := HV0.out; omega⟩
        obtain ⟨n, hn⟩ : ∃ n, weightT t = n := ⟨_, rfl⟩
        have HWT := As.mk hn
        clear hn
        by_cases w8 : (80000 : Int) < n
        · have HW8 : As (80000 < n) := ⟨by omega⟩
          have HF : As (checkT t = 3) := ⟨by unfold checkT; rw [if_pos HM.out, if_neg HVN.out, HWT.out, if_pos HW8.out]⟩
          go_wp2_with (first | (go_at_call 48; (with_reducible refine (may_any _ t _ (BxT.tx HX.out)).mono ?_); rintro e w' ⟨rfl, hb⟩; have HB2 := As.mk (Below.trans HB.out (hb.mono (below_size HB.out))); have HX2 := As.mk (BxT.below HX.out hb); clear hb HB HX q0 q1 q2 q3; have HB := HB2; have HX := HX2; clear HB2 HX2; obtain ⟨q0, q1, q2, q3⟩ := BxT.four HX.out) | (go_at_call 65; (with_reducible refine (weight_any _ t _ HWT.out (BxT.tx HX.out)).mono ?_); rintro e w' ⟨rfl, hb⟩; have HB2 := As.mk (Below.trans HB.out (hb.mono (below_size HB.out))); have HX2 := As.mk (BxT.below HX.out hb); clear hb HB HX q0 q1 q2 q3; have HB := HB2; have HX := HX2; clear HB2 HX2; obtain ⟨q0, q1, q2, q3⟩ := BxT.four HX.out))
          go_ret
          rw [HF.out]
          exact ⟨rfl, HB.out⟩
        · have HW8 : As (¬ 80000 < n) := ⟨by omega⟩
          obtain ⟨c, hc⟩ : ∃ c, insT t.ins = c := ⟨_, rfl⟩
          have HIT := As.mk hc
          clear hc
          by_cases c0 : c = 0
          · subst c0
            obtain ⟨k, hk⟩ : ∃ c, kindsT t.outs = c := ⟨_, rfl⟩
            have HKT := As.mk hk
            clear hk
            by_cases k0 : k = 0
            · subst k0
              obtain ⟨m, b, hst⟩ : ∃ m b, tot (valuesT t.outs) = (m, b) := ⟨_, _, rfl⟩
              have HST := As.mk hst
              clear hst
              cases b with
              | false =>
                have HF : As (checkT t = 8) := ⟨by unfold checkT; rw [if_pos HM.out, if_neg HVN.out, HWT.out, if_neg HW8.out, HIT.out, if_neg (by decide), HKT.out, if_neg (by decide), HST.out, if_pos rfl]⟩
                go_wp2_with (first | (go_at_call 48; (with_reducible refine (may_any _ t _ (BxT.tx HX.out)).mono ?_); rintro e w' ⟨rfl, hb⟩; have HB2 := As.mk (Below.trans HB.out (hb.mono (below_size HB.out))); have HX2 := As.mk (BxT.below HX.out hb); clear hb HB HX q0 q1 q2 q3; have HB := HB2; have HX := HX2; clear HB2 HX2; obtain ⟨q0, q1, q2, q3⟩ := BxT.four HX.out) | (go_at_call 65; (with_reducible refine (weight_any _ t _ HWT.out (BxT.tx HX.out)).mono ?_); rintro e w' ⟨rfl, hb⟩; have HB2 := As.mk (Below.trans HB.out (hb.mono (below_size HB.out))); have HX2 := As.mk (BxT.below HX.out hb); clear hb HB HX q0 q1 q2 q3; have HB := HB2; have HX := HX2; clear HB2 HX2; obtain ⟨q0, q1, q2, q3⟩ := BxT.four HX.out) | (go_at_call 66; (with_reducible refine (insC_to _ t _ HIT.out (BxT.tx HX.out) HNI.out).mono ?_); rintro e w' ⟨rfl, hb⟩; have HB2 := As.mk (Below.trans HB.out (hb.mono (below_size HB.out))); have HX2 := As.mk (BxT.below HX.out hb); clear hb HB HX q0 q1 q2 q3; have HB := HB2; have HX := HX2; clear HB2 HX2; obtain ⟨q0, q1, q2, q3⟩ := BxT.four HX.out) | (go_at_call 67; (with_reducible refine (kinds_to _ t _ HKT.out (BxT.tx HX.out)).mono ?_); rintro e w' ⟨rfl, hb⟩; have HB2 := As.mk (Below.trans HB.out (hb.mono (below_size HB.out))); have HX2 := As.mk (BxT.below HX.out hb); clear hb HB HX q0 q1 q2 q3; have HB := HB2; have HX := HX2; clear HB2 HX2; obtain ⟨q0, q1, q2, q3⟩ := BxT.four HX.out) | (go_at_call 69; (with_reducible refine (values_any _ t _ (BxT.tx HX.out) HNO.out).mono ?_); rintro e w' ⟨r, rfl, ho, hb⟩; have HB2 := As.mk (Below.trans HB.out (hb.mono (below_size HB.out))); have HX2 := As.mk (BxT.below HX.out hb); have HVV := As.mk ho; clear ho; clear hb HB HX q0 q1 q2 q3; have HB := HB2; have HX := HX2; clear HB2 HX2; obtain ⟨q0, q1, q2, q3⟩ := BxT.four HX.out) | (go_at_call 68; (with_reducible refine (sum_to _ _ _ _ _ HST.out HVV.out HVL.out HVB.out).mono ?_); rintro e w' ⟨rfl, rfl⟩))
                go_ret
                rw [HF.out]
                exact ⟨rfl, HB.out⟩
              | true =>
                obtain ⟨d, hd⟩ : ∃ d, t.outs.countP dustB = d := ⟨_, rfl⟩
                have HDT := As.mk hd
                clear hd
                by_cases d9 : (1 : Int) < d
                · have HD9 : As (1 < d) := ⟨by omega⟩
                  have HF : As (checkT t = 9) := ⟨by unfold checkT; rw [if_pos HM.out, if_neg HVN.out, HWT.out, if_neg HW8.out, HIT.out, if_neg (by decide), HKT.out, if_neg (by decide), HST.out, if_neg (by simp), HDT.out, if_pos HD9.out]⟩
                  go_wp2_with (first | (go_at_call 48; (with_reducible refine (may_any _ t _ (BxT.tx HX.out)).mono ?_); rintro e w' ⟨rfl, hb⟩; have HB2 := As.mk (Below.trans HB.out (hb.mono (below_size HB.out))); have HX2 := As.mk (BxT.below HX.out hb); clear hb HB HX q0 q1 q2 q3; have HB := HB2; have HX := HX2; clear HB2 HX2; obtain ⟨q0, q1, q2, q3⟩ := BxT.four HX.out) | (go_at_call 65; (with_reducible refine (weight_any _ t _ HWT.out (BxT.tx HX.out)).mono ?_); rintro e w' ⟨rfl, hb⟩; have HB2 := As.mk (Below.trans HB.out (hb.mono (below_size HB.out))); have HX2 := As.mk (BxT.below HX.out hb); clear hb HB HX q0 q1 q2 q3; have HB := HB2; have HX := HX2; clear HB2 HX2; obtain ⟨q0, q1, q2, q3⟩ := BxT.four HX.out) | (go_at_call 66; (with_reducible refine (insC_to _ t _ HIT.out (BxT.tx HX.out) HNI.out).mono ?_); rintro e w' ⟨rfl, hb⟩; have HB2 := As.mk (Below.trans HB.out (hb.mono (below_size HB.out))); have HX2 := As.mk (BxT.below HX.out hb); clear hb HB HX q0 q1 q2 q3; have HB := HB2; have HX := HX2; clear HB2 HX2; obtain ⟨q0, q1, q2, q3⟩ := BxT.four HX.out) | (go_at_call 67; (with_reducible refine (kinds_to _ t _ HKT.out (BxT.tx HX.out)).mono ?_); rintro e w' ⟨rfl, hb⟩; have HB2 := As.mk (Below.trans HB.out (hb.mono (below_size HB.out))); have HX2 := As.mk (BxT.below HX.out hb); clear hb HB HX q0 q1 q2 q3; have HB := HB2; have HX := HX2; clear HB2 HX2; obtain ⟨q0, q1, q2, q3⟩ := BxT.four HX.out) | (go_at_call 69; (with_reducible refine (values_any _ t _ (BxT.tx HX.out) HNO.out).mono ?_); rintro e w' ⟨r, rfl, ho, hb⟩; have HB2 := As.mk (Below.trans HB.out (hb.mono (below_size HB.out))); have HX2 := As.mk (BxT.below HX.out hb); have HVV := As.mk ho; clear ho; clear hb HB HX q0 q1 q2 q3; have HB := HB2; have HX := HX2; clear HB2 HX2; obtain ⟨q0, q1, q2, q3⟩ := BxT.four HX.out) | (go_at_call 68; (with_reducible refine (sum_to _ _ _ _ _ HST.out HVV.out HVL.out HVB.out).mono ?_); rintro e w' ⟨rfl, rfl⟩) | (go_at_call 70; (with_reducible refine (dusts_to _ t _ HDT.out (BxT.tx HX.out) HNO.out).mono ?_); rintro e w' ⟨A7, c7, rfl, hb⟩; have HB2 := As.mk (Below.trans HB.out (hb.mono (below_size HB.out))); have HX2 := As.mk (BxT.below HX.out hb); clear hb HB HX q0 q1 q2 q3; have HB := HB2; have HX := HX2; clear HB2 HX2; obtain ⟨q0, q1, q2, q3⟩ := BxT.four HX.out))
                  go_ret
                  rw [HF.out]
                  exact ⟨rfl, HB.out⟩
                · have HD9 : As (¬ 1 < d) := ⟨by omega⟩
                  have HF : As (checkT t = 0) := ⟨by unfold checkT; rw [if_pos HM.out, if_neg HVN.out, HWT.out, if_neg HW8.out, HIT.out, if_neg (by decide), HKT.out, if_neg (by decide), HST.out, if_neg (by simp), HDT.out, if_neg HD9.out]⟩
                  go_wp2_with (first | (go_at_call 48; (with_reducible refine (may_any _ t _ (BxT.tx HX.out)).mono ?_); rintro e w' ⟨rfl, hb⟩; have HB2 := As.mk (Below.trans HB.out (hb.mono (below_size HB.out))); have HX2 := As.mk (BxT.below HX.out hb); clear hb HB HX q0 q1 q2 q3; have HB := HB2; have HX := HX2; clear HB2 HX2; obtain ⟨q0, q1, q2, q3⟩ := BxT.four HX.out) | (go_at_call 65; (with_reducible refine (weight_any _ t _ HWT.out (BxT.tx HX.out)).mono ?_); rintro e w' ⟨rfl, hb⟩; have HB2 := As.mk (Below.trans HB.out (hb.mono (below_size HB.out))); have HX2 := As.mk (BxT.below HX.out hb); clear hb HB HX q0 q1 q2 q3; have HB := HB2; have HX := HX2; clear HB2 HX2; obtain ⟨q0, q1, q2, q3⟩ := BxT.four HX.out) | (go_at_call 66; (with_reducible refine (insC_to _ t _ HIT.out (BxT.tx HX.out) HNI.out).mono ?_); rintro e w' ⟨rfl, hb⟩; have HB2 := As.mk (Below.trans HB.out (hb.mono (below_size HB.out))); have HX2 := As.mk (BxT.below HX.out hb); clear hb HB HX q0 q1 q2 q3; have HB := HB2; have HX := HX2; clear HB2 HX2; obtain ⟨q0, q1, q2, q3⟩ := BxT.four HX.out) | (go_at_call 67; (with_reducible refine (kinds_to _ t _ HKT.out (BxT.tx HX.out)).mono ?_); rintro e w' ⟨rfl, hb⟩; have HB2 := As.mk (Below.trans HB.out (hb.mono (below_size HB.out))); have HX2 := As.mk (BxT.below HX.out hb); clear hb HB HX q0 q1 q2 q3; have HB := HB2; have HX := HX2; clear HB2 HX2; obtain ⟨q0, q1, q2, q3⟩ := BxT.four HX.out) | (go_at_call 69; (with_reducible refine (values_any _ t _ (BxT.tx HX.out) HNO.out).mono ?_); rintro e w' ⟨r, rfl, ho, hb⟩; have HB2 := As.mk (Below.trans HB.out (hb.mono (below_size HB.out))); have HX2 := As.mk (BxT.below HX.out hb); have HVV := As.mk ho; clear ho; clear hb HB HX q0 q1 q2 q3; have HB := HB2; have HX := HX2; clear HB2 HX2; obtain ⟨q0, q1, q2, q3⟩ := BxT.four HX.out) | (go_at_call 68; (with_reducible refine (sum_to _ _ _ _ _ HST.out HVV.out HVL.out HVB.out).mono ?_); rintro e w' ⟨rfl, rfl⟩) | (go_at_call 70; (with_reducible refine (dusts_to _ t _ HDT.out (BxT.tx HX.out) HNO.out).mono ?_); rintro e w' ⟨A7, c7, rfl, hb⟩; have HB2 := As.mk (Below.trans HB.out (hb.mono (below_size HB.out))); have HX2 := As.mk (BxT.below HX.out hb); clear hb HB HX q0 q1 q2 q3; have HB := HB2; have HX := HX2; clear HB2 HX2; obtain ⟨q0, q1, q2, q3⟩ := BxT.four HX.out))
                  go_ret
                  rw [HF.out]
                  exact ⟨rfl, HB.out⟩
            · have e2 : (k != 0) = true := bne_iff_ne.2 k0
              have HK0 := As.mk k0
              clear k0
              have HF : As (checkT t = k) := ⟨by unfold checkT; rw [if_pos HM.out, if_neg HVN.out, HWT.out, if_neg HW8.out, HIT.out, if_neg (by decide), HKT.out, if_pos HK0.out]⟩
              go_wp2_with (first | (go_at_call 48; (with_reducible refine (may_any _ t _ (BxT.tx HX.out)).mono ?_); rintro e w' ⟨rfl, hb⟩; have HB2 := As.mk (Below.trans HB.out (hb.mono (below_size HB.out))); have HX2 := As.mk (BxT.below HX.out hb); clear hb HB HX q0 q1 q2 q3; have HB := HB2; have HX := HX2; clear HB2 HX2; obtain ⟨q0, q1, q2, q3⟩ := BxT.four HX.out) | (go_at_call 65; (with_reducible refine (weight_any _ t _ HWT.out (BxT.tx HX.out)).mono ?_); rintro e w' ⟨rfl, hb⟩; have HB2 := As.mk (Below.trans HB.out (hb.mono (below_size HB.out))); have HX2 := As.mk (BxT.below HX.out hb); clear hb HB HX q0 q1 q2 q3; have HB := HB2; have HX := HX2; clear HB2 HX2; obtain ⟨q0, q1, q2, q3⟩ := BxT.four HX.out) | (go_at_call 66; (with_reducible refine (insC_to _ t _ HIT.out (BxT.tx HX.out) HNI.out).mono ?_); rintro e w' ⟨rfl, hb⟩; have HB2 := As.mk (Below.trans HB.out (hb.mono (below_size HB.out))); have HX2 := As.mk (BxT.below HX.out hb); clear hb HB HX q0 q1 q2 q3; have HB := HB2; have HX := HX2; clear HB2 HX2; obtain ⟨q0, q1, q2, q3⟩ := BxT.four HX.out) | (go_at_call 67; (with_reducible refine (kinds_to _ t _ HKT.out (BxT.tx HX.out)).mono ?_); rintro e w' ⟨rfl, hb⟩; have HB2 := As.mk (Below.trans HB.out (hb.mono (below_size HB.out))); have HX2 := As.mk (BxT.below HX.out hb); clear hb HB HX q0 q1 q2 q3; have HB := HB2; have HX := HX2; clear HB2 HX2; obtain ⟨q0, q1, q2, q3⟩ := BxT.four HX.out))
              go_ret
              rw [HF.out]
              exact ⟨rfl, HB.out⟩
          · have e1 : (c != 0) = true := bne_iff_ne.2 c0
            have HC0 := As.mk c0
            clear c0
            have HF : As (checkT t = c) := ⟨by unfold checkT; rw [if_pos HM.out, if_neg HVN.out, HWT.out, if_neg HW8.out, HIT.out, if_pos HC0.out]⟩
            go_wp2_with (first | (go_at_call 48; (with_reducible refine (may_any _ t _ (BxT.tx HX.out)).mono ?_); rintro e w' ⟨rfl, hb⟩; have HB2 := As.mk (Below.trans HB.out (hb.mono (below_size HB.out))); have HX2 := As.mk (BxT.below HX.out hb); clear hb HB HX q0 q1 q2 q3; have HB := HB2; have HX := HX2; clear HB2 HX2; obtain ⟨q0, q1, q2, q3⟩ := BxT.four HX.out) | (go_at_call 65; (with_reducible refine (weight_any _ t _ HWT.out (BxT.tx HX.out)).mono ?_); rintro e w' ⟨rfl, hb⟩; have HB2 := As.mk (Below.trans HB.out (hb.mono (below_size HB.out))); have HX2 := As.mk (BxT.below HX.out hb); clear hb HB HX q0 q1 q2 q3; have HB := HB2; have HX := HX2; clear HB2 HX2; obtain ⟨q0, q1, q2, q3⟩ := BxT.four HX.out) | (go_at_call 66; (with_reducible refine (insC_to _ t _ HIT.out (BxT.tx HX.out) HNI.out).mono ?_); rintro e w' ⟨rfl, hb⟩; have HB2 := As.mk (Below.trans HB.out (hb.mono (below_size HB.out))); have HX2 := As.mk (BxT.below HX.out hb); clear hb HB HX q0 q1 q2 q3; have HB := HB2; have HX := HX2; clear HB2 HX2; obtain ⟨q0, q1, q2, q3⟩ := BxT.four HX.out))
            go_ret
            rw [HF.out]
            exact ⟨rfl, HB.out⟩
  · have d1 : decide (mayT t) = false := decide_eq_false hm
    have HM := As.mk hm
    clear hm
    have HF : As (checkT t = 1) := ⟨by unfold checkT; rw [if_neg HM.out]⟩
    go_wp2_with (first | (go_at_call 48; (with_reducible refine (may_any _ t _ (BxT.tx HX.out)).mono ?_); rintro e w' ⟨rfl, hb⟩; have HB2 := As.mk (Below.trans HB.out (hb.mono (below_size HB.out))); have HX2 := As.mk (BxT.below HX.out hb); clear hb HB HX q0 q1 q2 q3; have HB := HB2; have HX := HX2; clear HB2 HX2; obtain ⟨q0, q1, q2, q3⟩ := BxT.four HX.out))
    go_ret
    rw [HF.out]
    exact ⟨rfl, HB.out⟩
theorem check_to (cs : List Value) (t : LTx) (w : World) {c : Int} (hq : checkT t = c) (hr : TxC w cs t) :
    Calls Try.prog 43 #[.agg cs.toArray] w fun e w' => e = .returned (.int .i64 c) ∧ Below w.heap.size w w' := by rw [← hq]; exact check_any cs t w hr
end Go.Proofs.Ytfggkljgfadacaa.W
namespace Go.Proofs.Ytfggkljgfadacaa.W
open Go.RowKit Go.Proofs.Ytfggkljgfadacaa.B Go.Proofs

theorem InE.apartO {base : Nat} {w w' : World} {row : Option Nat} {k : TypeId} (hg : w.grownBy w' row) (hk : Kd w row k) (h1 : (24 : TypeId) ≠ k) (h2 : (5 : TypeId) ≠ k) : ∀ own cs x, InE base w own cs x → InE base w' own cs x := by
  rintro own cs x ⟨sv, wv, h, hl, hs, ⟨us, k1, k2, k3⟩, h3⟩
  refine ⟨sv, wv, h, hl, ⟨OwS.apartO hs.1 hg hk h2, hs.2⟩, ⟨us, OwS.apartO k1 hg hk h1, k2, fun i b hb => ?_⟩, h3⟩
  obtain ⟨u, q1, q2, q3⟩ := k3 i b hb
  exact ⟨u, q1, ⟨OwS.apartO q2.1 hg hk h2, q2.2⟩, q3⟩
/-- One output turned. -/
theorem OwTx.setOut {w : World} {base n cO : Nat} {AO : Option Addr} {v0 iv v3 : Value} {t : LTx} (h : OwTx w base [v0, iv, .slice AO n cO, v3] t) (k : Nat) (y : LOut) (hk : t.outs[k]? = some y) :
    ∃ g o, AO = some ⟨g, o, none⟩ ∧ base ≤ g ∧ g < w.heap.size ∧ (w.cell? ⟨g, o + k * 2, none⟩).isSome = true ∧ w.frozen? ⟨g, o + k * 2, none⟩ = false ∧ (w.cell? ⟨g, o + k * 2 + 1, none⟩).isSome = true ∧ w.frozen? ⟨g, o + k * 2 + 1, none⟩ = false ∧ Kd w (some g) 57 ∧
      ∀ (x : Nat) (s : Value) (b : List UInt8), x < 18446744073709551616 → OwC w w.heap.size s b ∨ (∃ m, g < m ∧ OwC w m s b) → OwTx ((w.setCell ⟨g, o + k * 2, none⟩ (.int .u64 (x : Int))).setCell ⟨g, o + k * 2 + 1, none⟩ s) base [v0, iv, .slice AO n cO, v3] { t with outs := t.outs.set k ⟨x, b⟩ } := by
  obtain ⟨iv', ov', mid, he, h1, h2, h3, h4, h5, h6⟩ := h
  injection he with e0 he
  injection he with e1 he
  injection he with e2 he
  injection he with e3 _
  subst e0 e1 e2 e3
  have hlt := (List.getElem?_eq_some_iff.1 hk).1
  obtain ⟨g, o, rfl, hg0, hg1, hcf⟩ := OwG.block h2 k hlt
  have c0 := hcf 0 (by decide)
  have c1 := hcf 1 (by decide)
  rw [Nat.add_zero] at c0
  rw [← Nat.add_assoc] at c1
  have hkd : Kd w (some g) 57 := h2.kd
  refine ⟨g, o, rfl, by omega, hg1, c0.1, c0.2, c1.1, c1.2, hkd, fun x s b hx hs => ?_⟩
  have hs' : ∃ m, g < m ∧ OwC w m s b := by
    rcases hs with hs | hs
    · exact ⟨_, hg1, hs⟩
    · exact hs
  obtain ⟨m, hgm, hs⟩ := hs'
  have g1 := grown_set w g (o + k * 2) (.int .u64 (x : Int))
  have hkd1 : Kd (w.setCell ⟨g, o + k * 2, none⟩ (.int .u64 (x : Int))) (some g) 57 := by
    have q := OwG.set h2 k y { y with value := x } hk 0 (by decide) (.int .u64 (x : Int)) (fun cs _ hc => by
      obtain ⟨u, rfl, hu, hv⟩ := hc
      rw [Nat.add_zero]
      exact ⟨u, rfl, hu.kept g1 hu.2, hx⟩) (fun cs y' hc => by
      obtain ⟨u, rfl, hu, hv⟩ := hc
      rw [Nat.add_zero]
      exact ⟨u, rfl, hu.kept g1 hu.2, hv⟩)
    rw [Nat.add_zero] at q
    exact q.kd
  have q := OwG.set h2 k y { y with value := x } hk 0 (by decide) (.int .u64 (x : Int)) (fun cs _ hc => by
    obtain ⟨u, rfl, hu, hv⟩ := hc
    rw [Nat.add_zero]
    exact ⟨u, rfl, hu.kept g1 hu.2, hx⟩) (fun cs y' hc => by
    obtain ⟨u, rfl, hu, hv⟩ := hc
    rw [Nat.add_zero]
    exact ⟨u, rfl, hu.kept g1 hu.2, hv⟩)
  rw [Nat.add_zero] at q
  have g2 := grown_set (w.setCell ⟨g, o + k * 2, none⟩ (.int .u64 (x : Int))) g (o + k * 2 + 1) s
  have hoff : Off (some g) s := fun d hd e => by injection e with e; have := (OwC.lt hs d hd).1; omega
  have hs2 := (hs.kept g1 hoff).kept g2 hoff
  have q' := OwG.set q k { y with value := x } ⟨x, b⟩ (List.getElem?_set_self hlt) 1 (by decide) s (fun cs _ hc => by
    obtain ⟨u, rfl, hu, hv⟩ := hc
    rw [← Nat.add_assoc]
    exact ⟨s, rfl, ⟨hs2.mono (by omega), hoff⟩, hv⟩) (fun cs y' hc => by
    obtain ⟨u, rfl, hu, hv⟩ := hc
    rw [← Nat.add_assoc]
    exact ⟨u, rfl, hu.kept g2 hu.2, hv⟩)
  rw [← Nat.add_assoc, List.set_set] at q'
  refine ⟨_, _, mid, rfl, ?_, q', h3, h4, h5, h6⟩
  exact OwG.kept (row := some g) (fun cs x hx => InE.apartO g2 hkd1 (by decide) (by decide) _ cs x hx) (OwG.kept (row := some g) (fun cs x hx => InE.apartO g1 hkd (by decide) (by decide) _ cs x hx) h1 g1 (fun d hd e => by injection e with e; have := h4 d hd; omega)) g2 (fun d hd e => by injection e with e; have := h4 d hd; omega)
/-- How Good stands. -/
def GS (w W : World) (R G : Nat) (cs : List Value) (t : LTx) : Prop := Below w.heap.size w W ∧ Box W R zTx 51 ∧ Box W G cs.toArray 51 ∧ OwTx W (R + 1) cs t
theorem GS.below {w W W' : World} {R G : Nat} {cs : List Value} {t : LTx} (h : GS w W R G cs t) (hb : Below W.heap.size W W') : GS w W' R G cs t := ⟨h.1.trans (hb.mono h.1.size), h.2.1.below hb, h.2.2.1.below hb, h.2.2.2.below hb⟩
theorem GS.set2 {w W : World} {R G g a b : Nat} {x s : Value} {cs : List Value} {t t' : LTx} (h : GS w W R G cs t) (hg : R + 1 ≤ g) (hk : Kd W (some g) 57) (ho : OwTx ((W.setCell ⟨g, a, none⟩ x).setCell ⟨g, b, none⟩ s) (R + 1) cs t') (hR : w.heap.size ≤ R := by omega) : GS w ((W.setCell ⟨g, a, none⟩ x).setCell ⟨g, b, none⟩ s) R G cs t' := by
  obtain ⟨h1, h2, h3, h4⟩ := h
  have g1 := grown_set W g a x
  have g2 := grown_set (W.setCell ⟨g, a, none⟩ x) g b s
  have h12 := grown_trans g1 g2
  exact ⟨(h1.setCell (show w.heap.size ≤ g by omega) _).setCell (show w.heap.size ≤ g by omega) _, h2.apartO h12 hk (by decide), h3.apartO h12 hk (by decide), ho⟩
/-- What Good makes. -/
def inG (p : Nat → Prop) (i : Nat) (x : LIn) : Prop := x.prev.length = 32 ∧ (x.script.length ≤ 1 ∧ x.vout ≤ 3) ∧ x.wit.length ≤ 2 ∧ (∀ b ∈ x.wit, b.length ≤ 1) ∧ (p i → x.prev[31]? = some (u8i ((i : Int) + 1)))
def outG (p : Nat → Prop) (i : Nat) (y : LOut) : Prop := y.script.length ≤ 34 ∧ (p i → y.value = 5000 + i ∧ (y.script = scriptB 1 ∨ y.script = scriptB 4))
def goodP (t : LTx) : Prop := (t.ver = 2 ∨ t.ver = 3) ∧ (1 ≤ t.ins.length ∧ t.ins.length ≤ 4) ∧ (1 ≤ t.outs.length ∧ t.outs.length ≤ 4) ∧ (∀ i x, t.ins[i]? = some x → inG (fun _ => True) i x) ∧ (∀ i y, t.outs[i]? = some y → outG (fun _ => True) i y)
theorem txOf_inG (n m : Int) : ∀ (i : Nat) (x : LIn), (txOf n m).ins[i]? = some x → inG (· < 0) i x := by
  intro i x hx
  obtain ⟨j, hj, rfl⟩ := List.mem_map.1 (List.mem_of_getElem? hx)
  refine ⟨prev_in m j, ?_, ?_, ?_, fun h => absurd h (by omega)⟩
  · constructor
    · show (if m / 262144 % 4 = 0 then [u8i (m / 16)] else []).length ≤ 1
      split <;> simp
    · show (m / 2 ^ (2 * j) % 4).toNat ≤ 3
      omega
  · show (if m / 2 ^ (12 + j) % 4 = 0 then [[u8i m], []].take (m / 65536 % 2 + 1).toNat else [] : List (List UInt8)).length ≤ 2
    split
    · rw [List.length_take]; simp; omega
    · simp
  · intro b hb
    have hb' : b ∈ (if m / 2 ^ (12 + j) % 4 = 0 then [[u8i m], []].take (m / 65536 % 2 + 1).toNat else [] : List (List UInt8)) := hb
    split at hb'
    · have := List.mem_of_mem_take hb'
      simp at this
      rcases this with rfl | rfl <;> simp
    · cases hb'
theorem txOf_outG (n m : Int) : ∀ (i : Nat) (y : LOut), (txOf n m).outs[i]? = some y → outG (· < 0) i y := by
  intro i y hy
  obtain ⟨j, hj, rfl⟩ := List.mem_map.1 (List.mem_of_getElem? hy)
  exact ⟨scriptB_length _, fun h => absurd h (by omega)⟩
theorem txOf_outs (n m : Int) : 1 ≤ (txOf n m).outs.length ∧ (txOf n m).outs.length ≤ 4 := by
  show 1 ≤ ((List.range (n / 1024 % 4 + 1).toNat).map (outOf n m)).length ∧ ((List.range (n / 1024 % 4 + 1).toNat).map (outOf n m)).length ≤ 4
  rw [List.length_map, List.length_range]; omega
theorem inG_step {xs : List LIn} {i : Nat} {x : LIn} (h : ∀ (j : Nat) (x : LIn), xs[j]? = some x → inG (· < i) j x) (hx : xs[i]? = some x) : ∀ (j : Nat) (z : LIn), (xs.set i { x with prev := x.prev.set 31 (u8i ((i : Int) + 1)) })[j]? = some z → inG (· < i + 1) j z := by
  intro j z hz
  have hlt := (List.getElem?_eq_some_iff.1 hx).1
  by_cases hij : j = i
  · subst hij
    rw [List.getElem?_set_self hlt] at hz
    obtain rfl := Option.some.inj hz
    obtain ⟨h1, h2, h3, h4, _⟩ := h j x hx
    exact ⟨by rw [List.length_set]; exact h1, h2, h3, h4, fun _ => by rw [List.getElem?_set_self (by omega)]⟩
  · rw [List.getElem?_set_ne (fun e => hij e.symm)] at hz
    obtain ⟨h1, h2, h3, h4, h5⟩ := h j z hz
    exact ⟨h1, h2, h3, h4, fun hj => h5 (by omega)⟩
theorem out_step {ys : List LOut} {i X : Nat} {s1 : Int} (h : ∀ (j : Nat) (y : LOut), ys[j]? = some y → outG (· < i) j y) (hX : X = 5000 + i) (hs : s1 = 1 ∨ s1 = 4) : ∀ (j : Nat) (z : LOut), (ys.set i ⟨X, scriptB s1⟩)[j]? = some z → outG (· < i + 1) j z := by
  intro j z hz
  by_cases hij : j = i
  · subst hij
    have hlt : j < ys.length := by have := (List.getElem?_eq_some_iff.1 hz).1; simpa using this
    rw [List.getElem?_set_self hlt] at hz
    obtain rfl := Option.some.inj hz
    exact ⟨scriptB_length _, fun _ => ⟨hX, by rcases hs with rfl | rfl <;> simp⟩⟩
  · rw [List.getElem?_set_ne (fun e => hij e.symm)] at hz
    obtain ⟨h1, h2⟩ := h j z hz
    exact ⟨h1, fun hj => h2 (by omega)⟩
set_option maxHeartbeats 4000000 in
set_option maxRecDepth 100000 in
theorem good_own (n m : Int) (w : World) : Calls Try.prog 34 #[.int .i64 n, .int .i64 m] w fun e w' => ∃ cs t, e = .returned (.agg cs.toArray) ∧ OwTx w' w.heap.size cs t ∧ goodP t ∧ Below w.heap.size w w' := by
  obtain ⟨n1, hn1⟩ : ∃ x, bits .or .i64 (bits .andNot .i64 n 3) 1 = x := ⟨_, rfl⟩
  obtain ⟨m1, hm1⟩ : ∃ x, bits .andNot .i64 m 63 = x := ⟨_, rfl⟩
  obtain ⟨b, hb0, hb1⟩ : ∃ b : Nat, bits .and .i64 n 1 = (b : Int) ∧ b < 2 ^ 1 := mask_nat n 1 1 (by decide) (by decide)
  obtain ⟨V, hV⟩ : ∃ V, V = b + 2 := ⟨_, rfl⟩
  have HVV : As (V = 2 ∨ V = 3) := ⟨by omega⟩
  have hb2 : IntKind.i64.wrap ((b : Int) + 2) = (V : Int) := by rw [IntWalk.i64_in _ (by omega)]; omega
  have hV3 : (V : Int) ≤ 3 := by omega
  have hV32 : IntKind.u32.wrap (V : Int) = (V : Int) := by rw [IntWalk.u32_in _ (by omega)]
  clear hV hb1
  go_enter Try.func34, Try.ntmps34
  go_upto_region 2 with (go_at_call 51; (with_reducible refine (tx_any n1 m1 _).mono ?_); rintro e w2 ⟨cs, rfl, ht, hb⟩; have HX := As.mk ht.own; obtain ⟨AI, cI, AO, cO, rfl⟩ := OwTx.form HX.out; have HB := As.mk hb; clear ht hb)
  clear hn1 hm1
  obtain ⟨T, hT⟩ : ∃ T, T = txOf n1 m1 := ⟨_, rfl⟩
  have HT := As.mk hT
  have HNI : As (1 ≤ T.ins.length ∧ T.ins.length ≤ 4) := ⟨by rw [hT]; exact txOf_ins n1 m1⟩
  have HNO : As (1 ≤ T.outs.length ∧ T.outs.length ≤ 4) := ⟨by rw [hT]; exact txOf_outs n1 m1⟩
  rw [← hT] at HX ⊢
  clear hT
  obtain ⟨R, hR⟩ : ∃ R, R = w.heap.size := ⟨_, rfl⟩
  have HR := As.mk hR
  have HS0 : As (GS w (w2.alloc (.cells [.int .u32 (T.ver : Int), .slice AI T.ins.length cI, .slice AO T.outs.length cO, .int .u32 (T.lock : Int)].toArray 51)) R w2.heap.size [.int .u32 (T.ver : Int), .slice AI T.ins.length cI, .slice AO T.outs.length cO, .int .u32 (T.lock : Int)] T) := ⟨by
    have h1 := below_al w (.cells zTx 51)
    have h2 := below_al w2 (.cells [.int .u32 (T.ver : Int), .slice AI T.ins.length cI, .slice AO T.outs.length cO, .int .u32 (T.lock : Int)].toArray 51)
    have h3 := h1.trans (HB.out.mono h1.size)
    refine ⟨h3.trans (h2.mono h3.size), ?_, Box.new _ _ _, ?_⟩
    · rw [hR]
      exact ((Box.new w zTx 51).below HB.out).below h2
    · have h4 := HX.out.below h2
      have e : (w.alloc (.cells zTx 51)).heap.size = R + 1 := by rw [hR]; simp
      rw [← e]
      exact h4⟩
  obtain ⟨G, hG⟩ : ∃ G, G = w2.heap.size := ⟨_, rfl⟩
  rw [← hG] at HS0 ⊢
  rw [← hR]
  have HGR : R < G := by have h1 : (w.alloc (.cells zTx 51)).heap.size ≤ w2.heap.size := HB.out.size; have h2 : (w.alloc (.cells zTx 51)).heap.size = w.heap.size + 1 := by simp
                         omega
  clear hG hR HX HB
  change Code.wp _ _ _ _ (w2.alloc (.cells [.int .u32 (T.ver : Int), .slice AI T.ins.length cI, .slice AO T.outs.length cO, .int .u32 (T.lock : Int)].toArray 51))
  generalize w2.alloc (.cells [.int .u32 (T.ver : Int), .slice AI T.ins.length cI, .slice AO T.outs.length cO, .int .u32 (T.lock : Int)].toArray 51) = W at HS0 ⊢
  obtain ⟨NI, hNI⟩ : ∃ N, N = T.ins.length := ⟨_, rfl⟩
  obtain ⟨M, hM⟩ : ∃ N, N = T.outs.length := ⟨_, rfl⟩
  obtain ⟨L, hL⟩ : ∃ N, N = T.lock := ⟨_, rfl⟩
  have hN4 : (NI : Int) ≤ 4 := by have := HNI.out; omega
  have hM4 : (M : Int) ≤ 4 := by have := HNO.out; omega
  have hN1 : As (1 ≤ NI ∧ NI ≤ 4) := ⟨by rw [hNI]; exact HNI.out⟩
  have hM1 : As (1 ≤ M ∧ M ≤ 4) := ⟨by rw [hM]; exact HNO.out⟩
  have HP0 : As (T.ins.length = NI ∧ T.outs.length = M ∧ (∀ (j : Nat) (x : LIn), T.ins[j]? = some x → inG (· < 0) j x) ∧ (∀ (j : Nat) (y : LOut), T.outs[j]? = some y → outG (· < 0) j y)) := ⟨hNI.symm, hM.symm, by rw [HT.out]; exact txOf_inG n1 m1, by rw [HT.out]; exact txOf_outG n1 m1⟩
  rw [← hNI, ← hM, ← hL] at HS0 ⊢
  have HS1 : As (GS w (W.setCell ⟨G, 0, none⟩ (.int .u32 (V : Int))) R G [.int .u32 (V : Int), .slice AI NI cI, .slice AO M cO, .int .u32 (L : Int)] { T with ver := V }) := ⟨by
    have gset := grown_set W G 0 (.int .u32 (V : Int))
    obtain ⟨h1, h2, h3, h4⟩ := HS0.out
    have hkd : Kd W (some G) 51 := h3.kd
    have hGR : R < G := HGR
    refine ⟨h1.setCell (show w.heap.size ≤ G by have := HR.out; omega) _, h2.grown gset (fun e => by injection e with e; omega), Box.set h3 0 (.int .u32 (V : Int)), ?_⟩
    obtain ⟨iv, ov, mid, he, k1, k2, k3, k4, k5, k6⟩ := h4
    injection he with e0 he
    injection he with e1 he
    injection he with e2 he
    injection he with e3 _
    refine ⟨iv, ov, mid, ?_, ?_, ?_, k3, k4, show V < 4294967296 by omega, k6⟩
    · rw [e1, e2, e3]
    · exact OwG.kept (row := some G) (fun cs x hx => InE.apartO gset hkd (by decide) (by decide) _ cs x hx) k1 gset (fun d hd e => by injection e with e; obtain ⟨cur, hc⟩ := OwG.kd k1 d hd; obtain ⟨cur', hc'⟩ := hkd G rfl; rw [← e, hc'] at hc; injection hc with hc; injection hc with _ hc _; cases hc)
    · refine OwG.kept (row := some G) (fun cs y hy => ?_) k2 gset (fun d hd e => by injection e with e; obtain ⟨cur, hc⟩ := OwG.kd k2 d hd; obtain ⟨cur', hc'⟩ := hkd G rfl; rw [← e, hc'] at hc; injection hc with hc; injection hc with _ hc _; cases hc)
      obtain ⟨u, hcs, hu, hv⟩ := hy
      exact ⟨u, hcs, ⟨hu.1.apartO gset hkd (by decide), hu.2⟩, hv⟩⟩
  obtain ⟨q0, q1, q2, q3, fz⟩ := Box.four HS0.out.2.2.1
  go_upto_region 3 with fail
  clear q0 q1 q2 q3 fz hNI hM hL HS0 hV32 hb2 hb0
  change Code.wp _ _ _ _ (W.setCell ⟨G, 0, none⟩ (.int .u32 (V : Int)))
  generalize W.setCell ⟨G, 0, none⟩ (.int .u32 (V : Int)) = W1 at HS1 ⊢
  have HPT : As (({ T with ver := V } : LTx).ver = V ∧ ({ T with ver := V } : LTx).ins.length = NI ∧ ({ T with ver := V } : LTx).outs.length = M ∧ (∀ (j : Nat) (x : LIn), ({ T with ver := V } : LTx).ins[j]? = some x → inG (· < 0) j x) ∧ (∀ (j : Nat) (y : LOut), ({ T with ver := V } : LTx).outs[j]? = some y → outG (· < 0) j y)) := ⟨rfl, HP0.out⟩
  generalize ({ T with ver := V } : LTx) = t0 at HS1 HPT
  clear HP0
  obtain ⟨q0, q1, q2, q3, _⟩ := Box.four HS1.out.2.2.1
  go_wp2
  clear q0 q1 q2 q3
  go_loopw [6, 22] (fun v6 v22 wr => ∃ (i : Nat) (t : LTx), v22 = .int .i64 (i : Int) ∧ (i : Int) ≤ NI ∧ As (GS w wr R G [.int .u32 (V : Int), .slice AI NI cI, .slice AO M cO, .int .u32 (L : Int)] t) ∧ As (t.ver = V ∧ t.ins.length = NI ∧ t.outs.length = M ∧ (∀ (j : Nat) (x : LIn), t.ins[j]? = some x → inG (· < i) j x) ∧ (∀ (j : Nat) (y : LOut), t.outs[j]? = some y → outG (· < 0) j y))) (fun _ v22 _ => NI - (intOf v22).toNat)
  case atStart => exact ⟨0, t0, rfl, by omega, HS1, HPT⟩
  case round =>
    clear HS1 HPT
    obtain ⟨i, t, rfl, hi, HK, HP⟩ := hrel
    by_cases hlt : (i : Int) < NI
    · have HXX := As.mk (List.getElem?_eq_getElem (show i < t.ins.length by have := HP.out.2.1; omega))
      generalize t.ins[i]'(by have := HP.out.2.1; omega) = x at HXX
      obtain ⟨iv', ov', mid, he, k1, _⟩ := HK.out.2.2.2
      injection he with e0 he
      injection he with e1 he
      subst e1
      obtain ⟨g, o, rfl, hg0, hg1, hcf⟩ := OwG.block k1 i (by have := HP.out.2.1; omega)
      obtain ⟨hc, hf⟩ := hcf 31 (by decide)
      have HKD : As (Kd wr (some g) 55 ∧ R + 1 ≤ g) := ⟨k1.kd, hg0⟩
      rw [← Nat.add_assoc] at hc hf
      obtain ⟨u31, hc31⟩ := Option.isSome_iff_exists.1 hc
      clear hc
      clear k1 hcf he e0 hg0 hg1
      obtain ⟨U, hU⟩ : ∃ U : UInt8, U = u8i ((i : Int) + 1) := ⟨_, rfl⟩
      have HU := As.mk hU
      have hu8 : IntKind.u8.wrap ((i : Int) + 1) = (U.toNat : Int) := by rw [hU, u8i_val]; rw [IntWalk.u8_in _ (by omega)]; omega
      clear hU
      have HK2 : As (GS w (wr.setCell ⟨g, o + i * 36 + 31, none⟩ (.int .u8 (U.toNat : Int))) R G [.int .u32 (V : Int), .slice (some ⟨g, o, none⟩) NI cI, .slice AO M cO, .int .u32 (L : Int)] { t with ins := t.ins.set i { x with prev := x.prev.set 31 U } }) := ⟨by
        obtain ⟨h1, h2, h3, h4⟩ := HK.out
        have gset := grown_set wr g (o + i * 36 + 31) (.int .u8 (U.toNat : Int))
        refine ⟨h1.setCell (show w.heap.size ≤ g by have := HR.out; have := HKD.out.2; omega) _, h2.apartO gset HKD.out.1 (by decide), h3.apartO gset HKD.out.1 (by decide), ?_⟩
        refine OwTx.setIn h4 i x { x with prev := x.prev.set 31 U } HXX.out 31 (by decide) (u8v U) (fun cs hl hc => ?_)
        obtain ⟨sv, wv, rfl, r0, r1, r2, r3, r4⟩ := InE.at (o := o + i * 36 + 31) (v := u8v U) cs x hc
        refine ⟨sv, wv, ?_, by rw [List.length_set]; exact r0, r1, r2, r3, r4⟩
        rw [List.set_append_left _ _ (by rw [List.length_map]; omega), List.map_set]⟩
      obtain ⟨q0, q1, q2, q3, _⟩ := Box.four HK.out.2.2.1
      go_wp2
      go_roundw
      case rel => exact ⟨i + 1, _, by go_num, by omega, HK2, ⟨HP.out.1, by rw [List.length_set]; exact HP.out.2.1, HP.out.2.2.1, by rw [HU.out]; exact inG_step HP.out.2.2.2.1 HXX.out, HP.out.2.2.2.2⟩⟩
      case measure => simp [intOf]; omega
    · have hie : i = NI := by omega
      have HIN : As (t.ver = V ∧ t.ins.length = NI ∧ ∀ (j : Nat) (x : LIn), t.ins[j]? = some x → inG (fun _ => True) j x) := ⟨HP.out.1, HP.out.2.1, fun j x hx => by
        obtain ⟨h1, h2, h3, h4, h5⟩ := HP.out.2.2.2.1 j x hx
        have hj := (List.getElem?_eq_some_iff.1 hx).1
        exact ⟨h1, h2, h3, h4, fun _ => h5 (by have := HP.out.2.1; omega)⟩⟩
      have HOT : As (t.outs.length = M ∧ ∀ (j : Nat) (y : LOut), t.outs[j]? = some y → outG (· < 0) j y) := ⟨HP.out.2.2.1, HP.out.2.2.2.2⟩
      clear hie HP
      obtain ⟨q0, q1, q2, q3, _⟩ := Box.four HK.out.2.2.1
      go_wp2
      clear q0 q1 q2 q3
      go_loopw [7, 38] (fun v7 v38 wr => ∃ (i : Nat) (t : LTx), v38 = .int .i64 (i : Int) ∧ (i : Int) ≤ M ∧ 0 ≤ (i : Int) ∧ As (GS w wr R G [.int .u32 (V : Int), .slice AI NI cI, .slice AO M cO, .int .u32 (L : Int)] t) ∧ As (t.outs.length = M ∧ (t.ver = V ∧ t.ins.length = NI ∧ ∀ (j : Nat) (x : LIn), t.ins[j]? = some x → inG (fun _ => True) j x) ∧ (∀ (j : Nat) (y : LOut), t.outs[j]? = some y → outG (· < i) j y))) (fun _ v38 _ => M - (intOf v38).toNat)
      case atStart => exact ⟨0, t, rfl, by omega, by omega, HK, ⟨HOT.out.1, HIN.out, HOT.out.2⟩⟩
      case round =>
        clear HK HIN HOT
        obtain ⟨i, t, rfl, hi, hi0, HK, HP⟩ := hrel
        by_cases hlt : (i : Int) < M
        · have HY := As.mk (List.getElem?_eq_getElem (show i < t.outs.length by have := HP.out.1; omega))
          generalize t.outs[i]'(by have := HP.out.1; omega) = y at HY
          obtain ⟨g, o, rfl, _, hgl, _⟩ := OwTx.setOut HK.out.2.2.2 i y HY.out
          have HGL := As.mk hgl
          clear hgl
          obtain ⟨X0, hX0⟩ : ∃ x : Int, x = (i : Int) := ⟨_, rfl⟩
          obtain ⟨X, hX⟩ : ∃ x : Nat, x = 5000 + i := ⟨_, rfl⟩
          have HXX := As.mk hX
          have HX18 : As (X < 18446744073709551616) := ⟨by omega⟩
          have f1 : IntKind.u64.wrap (i : Int) = X0 := by rw [IntWalk.u64_in _ (by omega)]; exact hX0.symm
          have f2 : IntKind.u64.wrap (5000 + X0) = (X : Int) := by rw [IntWalk.u64_in _ (by omega)]; omega
          obtain ⟨B, hB, hB2⟩ : ∃ B : Nat, bits .and .i64 (n / 2 ^ min (IntKind.u64.wrap (IntKind.i64.wrap (4 + (i : Int)))).toNat 64) 1 = (B : Int) ∧ B < 2 ^ 1 := mask_nat _ 1 1 (by decide) (by decide)
          obtain ⟨B3, hB3⟩ : ∃ x : Int, x = 3 * (B : Int) := ⟨_, rfl⟩
          obtain ⟨s1, hs1⟩ : ∃ x : Int, x = 1 + B3 := ⟨_, rfl⟩
          have f3 : IntKind.i64.wrap (3 * (B : Int)) = B3 := by rw [IntWalk.i64_in _ (by omega)]; exact hB3.symm
          have f4 : IntKind.i64.wrap (1 + B3) = s1 := by rw [IntWalk.i64_in _ (by omega)]; exact hs1.symm
          have HSS : As (s1 = 1 ∨ s1 = 4) := ⟨by omega⟩
          clear hX hX0 hB2 hB3 hs1
          go_upto_region 11 with fail
          refine wp_region_held_drew (S := (fun V : World => V.cell? ⟨G, 2, none⟩ = some (.slice (some ⟨g, o, none⟩) M cO))) (by kernel_rfl) ?_ (fun hHeld => ?_)
          · exact (GS.below HK.out (below_dr wr)).2.2.1.cell 2 _ rfl
          refine wpAnyH_take (i := 0) (oi := ?_) (v := ?_) (by simp only [List.getElem?_toArray, List.getElem?_cons_zero, List.getElem?_cons_succ]; rfl) (by kernel_rfl) (by kernel_rfl) (by kernel_rfl) (by exact fun _ _ _ h => h) (Or.inl ⟨by rfl, ?_⟩) (by assumption) ?_
          rotate_left
          · (intro w hSw; (try dsimp only at hSw); go_simp; first | done | with_reducible rfl)
          try simp only [Act.put, List.setIfInBounds_toArray, List.set_cons_zero, List.set_cons_succ]
          refine wpAnyH_take (i := 1) (oi := ?_) (v := ?_) (by simp only [List.getElem?_toArray, List.getElem?_cons_zero, List.getElem?_cons_succ]; rfl) (by kernel_rfl) (by kernel_rfl) (by kernel_rfl) (by exact fun _ _ _ h => h) (Or.inl ⟨by rfl, ?_⟩) (by assumption) ?_
          rotate_left
          · (intro w hSw; (try dsimp only at hSw); go_simp; first | done | with_reducible rfl)
          try simp only [Act.put, List.setIfInBounds_toArray, List.set_cons_zero, List.set_cons_succ]
          refine wpAnyH_take (i := 2) (oi := ?_) (v := ?_) (by simp only [List.getElem?_toArray, List.getElem?_cons_zero, List.getElem?_cons_succ]; rfl) (by kernel_rfl) (by kernel_rfl) (by kernel_rfl) (by exact fun _ _ _ h => h) (Or.inl ⟨by rfl, ?_⟩) (by assumption) ?_
          rotate_left
          · (intro w hSw; (try dsimp only at hSw); go_simp; first | done | with_reducible rfl)
          try simp only [Act.put, List.setIfInBounds_toArray, List.set_cons_zero, List.set_cons_succ]
          refine wpAnyH_take (i := 3) (oi := ?_) (v := ?_) (by simp only [List.getElem?_toArray, List.getElem?_cons_zero, List.getElem?_cons_succ]; rfl) (by kernel_rfl) (by kernel_rfl) (by kernel_rfl) (by exact fun _ _ _ h => h) (Or.inl ⟨by rfl, ?_⟩) (by assumption) ?_
          rotate_left
          · (intro w hSw; (try dsimp only at hSw); go_simp; first | done | with_reducible rfl)
          try simp only [Act.put, List.setIfInBounds_toArray, List.set_cons_zero, List.set_cons_succ]
          refine wpAnyH_take (i := 4) (oi := ?_) (v := ?_) (by simp only [List.getElem?_toArray, List.getElem?_cons_zero, List.getElem?_cons_succ]; rfl) (by kernel_rfl) (by kernel_rfl) (by kernel_rfl) (by exact fun _ _ _ h => h) (Or.inl ⟨by rfl, ?_⟩) (by assumption) ?_
          rotate_left
          · (intro w hSw; (try dsimp only at hSw); go_simp; first | done | with_reducible rfl)
          try simp only [Act.put, List.setIfInBounds_toArray, List.set_cons_zero, List.set_cons_succ]
          refine wpAnyH_take (i := 5) (oi := ?_) (v := ?_) (by simp only [List.getElem?_toArray, List.getElem?_cons_zero, List.getElem?_cons_succ]; rfl) (by kernel_rfl) (by kernel_rfl) (by kernel_rfl) (by exact fun _ _ _ h => h) (Or.inl ⟨by rfl, ?_⟩) (by assumption) ?_
          rotate_left
          · (intro w hSw; (try dsimp only at hSw); go_simp; first | done | with_reducible rfl)
          try simp only [Act.put, List.setIfInBounds_toArray, List.set_cons_zero, List.set_cons_succ]
          refine wpAnyH_take (i := 6) (oi := ?_) (v := ?_) (by simp only [List.getElem?_toArray, List.getElem?_cons_zero, List.getElem?_cons_succ]; rfl) (by kernel_rfl) (by kernel_rfl) (by kernel_rfl) (by exact fun _ _ _ h => h) (Or.inl ⟨by rfl, ?_⟩) (by assumption) ?_
          rotate_left
          · (intro w hSw; (try dsimp only at hSw); go_simp; first | done | with_reducible rfl)
          try simp only [Act.put, List.setIfInBounds_toArray, List.set_cons_zero, List.set_cons_succ]
          refine wpAnyH_take (i := 7) (oi := ?_) (v := ?_) (by simp only [List.getElem?_toArray, List.getElem?_cons_zero, List.getElem?_cons_succ]; rfl) (by kernel_rfl) (by kernel_rfl) (by kernel_rfl) (by exact fun _ _ _ h => h) (Or.inl ⟨by rfl, ?_⟩) (by assumption) ?_
          rotate_left
          · (intro w hSw; (try dsimp only at hSw); go_simp; first | done | with_reducible rfl)
          try simp only [Act.put, List.setIfInBounds_toArray, List.set_cons_zero, List.set_cons_succ]
          refine wpAnyH_take (i := 8) (oi := ?_) (v := ?_) (by simp only [List.getElem?_toArray, List.getElem?_cons_zero, List.getElem?_cons_succ]; rfl) (by kernel_rfl) (by kernel_rfl) (by kernel_rfl) (by exact fun _ _ _ h => h) (Or.inl ⟨by rfl, ?_⟩) (by assumption) ?_
          rotate_left
          · (intro w hSw; (try dsimp only at hSw); go_simp; first | done | with_reducible rfl)
          try simp only [Act.put, List.setIfInBounds_toArray, List.set_cons_zero, List.set_cons_succ]
          refine wpAnyH_take (i := 9) (oi := ?_) (v := ?_) (by simp only [List.getElem?_toArray, List.getElem?_cons_zero, List.getElem?_cons_succ]; rfl) (by kernel_rfl) (by kernel_rfl) (by kernel_rfl) (by exact fun _ _ _ h => h) (Or.inl ⟨by rfl, ?_⟩) (by assumption) ?_
          rotate_left
          · (intro w hSw; (try dsimp only at hSw); go_simp; first | done | with_reducible rfl)
          try simp only [Act.put, List.setIfInBounds_toArray, List.set_cons_zero, List.set_cons_succ]
          refine wpAnyH_take (i := 10) (oi := ?_) (v := ?_) (by simp only [List.getElem?_toArray, List.getElem?_cons_zero, List.getElem?_cons_succ]; rfl) (by kernel_rfl) (by kernel_rfl) (by kernel_rfl) (by exact fun _ _ _ h => h) (Or.inl ⟨by rfl, ?_⟩) (by assumption) ?_
          rotate_left
          · (intro w hSw; (try dsimp only at hSw); go_simp; first | done | with_reducible rfl)
          try simp only [Act.put, List.setIfInBounds_toArray, List.set_cons_zero, List.set_cons_succ]
          refine wpAnyH_take (i := 11) (oi := ?_) (v := ?_) (by simp only [List.getElem?_toArray, List.getElem?_cons_zero, List.getElem?_cons_succ]; rfl) (by kernel_rfl) (by kernel_rfl) (by kernel_rfl) (by exact fun _ _ _ h => h) (Or.inl ⟨by rfl, ?_⟩) (by assumption) ?_
          rotate_left
          · (intro w hSw; (try dsimp only at hSw); go_simp; first | done | with_reducible rfl)
          try simp only [Act.put, List.setIfInBounds_toArray, List.set_cons_zero, List.set_cons_succ]
          refine wpAnyH_take (i := 12) (oi := ?_) (v := ?_) (by simp only [List.getElem?_toArray, List.getElem?_cons_zero, List.getElem?_cons_succ]; rfl) (by kernel_rfl) (by kernel_rfl) (by kernel_rfl) (by exact fun _ _ _ h => h) (Or.inl ⟨by rfl, ?_⟩) (by assumption) ?_
          rotate_left
          · (intro w hSw; (try dsimp only at hSw); go_simp; first | done | with_reducible rfl)
          try simp only [Act.put, List.setIfInBounds_toArray, List.set_cons_zero, List.set_cons_succ]
          refine wpAnyH_take (i := 13) (oi := ?_) (v := ?_) (by simp only [List.getElem?_toArray, List.getElem?_cons_zero, List.getElem?_cons_succ]; rfl) (by kernel_rfl) (by kernel_rfl) (by kernel_rfl) (by exact fun _ _ _ h => h) (Or.inl ⟨by rfl, ?_⟩) (by assumption) ?_
          rotate_left
          · (intro w hSw; (try dsimp only at hSw); go_simp; first | done | with_reducible rfl)
          try simp only [Act.put, List.setIfInBounds_toArray, List.set_cons_zero, List.set_cons_succ]
          refine wpAnyH_ready (rs := [14]) (by kernel_rfl) (by simp) ?_
          refine AllReadyH.cons (o := ?_) (by simp only [List.getElem?_toArray, List.getElem?_cons_zero, List.getElem?_cons_succ]; rfl) (fun K hK => ?_) ?_
          · go_simp
            refine (script_any s1 _).mono ?_
            rintro e w3 ⟨sv, rfl, ho, hb⟩
            obtain ⟨As3, cs3, rfl⟩ := RdB.formN ho.rd rfl
            have HS3 := As.mk ho
            have HT3 := As.mk (GS.below HK.out ((below_dr wr).trans hb))
            have HZ3 := As.mk hb.size
            have hS2 := HT3.out.2.2.1.cell 2 _ rfl
            clear ho hb
            dsimp only
            refine hK.out _ _ ?_ (fun hHeld2 => ?_)
            · exact hS2
            clear hK K hHeld
            have hHeld := hHeld2
            clear hHeld2
            try simp only [Act.put, List.setIfInBounds_toArray, List.set_cons_zero, List.set_cons_succ]
            refine wpAnyH_take (i := 15) (oi := ?_) (v := ?_) (by simp only [List.getElem?_toArray, List.getElem?_cons_zero, List.getElem?_cons_succ]; rfl) (by kernel_rfl) (by kernel_rfl) (by kernel_rfl) (by exact fun _ _ _ h => h) (Or.inl ⟨by rfl, ?_⟩) (by assumption) ?_
            rotate_left
            · (intro w hSw; (try dsimp only at hSw); go_simp; first | done | with_reducible rfl)
            try simp only [Act.put, List.setIfInBounds_toArray, List.set_cons_zero, List.set_cons_succ]
            refine wpAnyH_take (i := 16) (oi := ?_) (v := ?_) (by simp only [List.getElem?_toArray, List.getElem?_cons_zero, List.getElem?_cons_succ]; rfl) (by kernel_rfl) (by kernel_rfl) (by kernel_rfl) (by exact fun _ _ _ h => h) (Or.inl ⟨by rfl, ?_⟩) (by assumption) ?_
            rotate_left
            · (intro w hSw; (try dsimp only at hSw); go_simp; first | done | with_reducible rfl)
            try simp only [Act.put, List.setIfInBounds_toArray, List.set_cons_zero, List.set_cons_succ]
            refine wpAnyH_ready (rs := [17]) (by kernel_rfl) (by simp) ?_
            refine AllReadyH.cons (o := ?_) (by simp only [List.getElem?_toArray, List.getElem?_cons_zero, List.getElem?_cons_succ]; rfl) (fun K hK => ?_) ?_
            · obtain ⟨g', o', he, hg0, hg1, hc0, hf0, hc1, hf1, hkd, F⟩ := OwTx.setOut HT3.out.2.2.2 i y HY.out
              obtain ⟨u0, hc00⟩ := Option.isSome_iff_exists.1 hc0
              obtain ⟨u1, hc11⟩ := Option.isSome_iff_exists.1 hc1
              clear hc0 hc1
              obtain ⟨he1, he2⟩ := slice_same he
              subst he1 he2
              have HF := As.mk (F X (.slice As3 (scriptB s1).length cs3) (scriptB s1) HX18.out (.inr ⟨wr.heap.size, HGL.out, HS3.out⟩))
              have HGK := As.mk (And.intro hg0 hkd)
              clear F he hkd hg0 hg1
              go_simp
              have HT4 := As.mk (GS.set2 HT3.out HGK.out.1 HGK.out.2 HF.out (Nat.le_of_eq HR.out.symm))
              have hS2 := HT4.out.2.2.1.cell 2 _ rfl
              clear hc00 hf0 hc11 hf1
              refine hK.out _ _ ?_ (fun hHeld2 => ?_)
              · exact hS2
              clear hK K hHeld
              have hHeld := hHeld2
              clear hHeld2
              try simp only [Act.put, List.setIfInBounds_toArray, List.set_cons_zero, List.set_cons_succ]
              refine wpAnyH_done (by kernel_rfl) ?_ _
              clear hHeld
              go_wp2
              go_roundw
              case rel => exact ⟨i + 1, _, by go_num, by omega, by omega, HT4, ⟨by rw [List.length_set]; exact HP.out.1, HP.out.2.1, out_step HP.out.2.2 HXX.out HSS.out⟩⟩
              case measure => simp [intOf]; omega
            exact AllReadyH.nil
          exact AllReadyH.nil
        · have hie : i = M := by omega
          have HGP : As (goodP t) := ⟨by rw [HP.out.2.1.1]; exact HVV.out, by rw [HP.out.2.1.2.1]; exact hN1.out, by rw [HP.out.1]; exact hM1.out, HP.out.2.1.2.2, fun j y hy => by
            obtain ⟨h1, h2⟩ := HP.out.2.2 j y hy
            have hj := (List.getElem?_eq_some_iff.1 hy).1
            exact ⟨h1, fun _ => h2 (by have := HP.out.1; omega)⟩⟩
          clear hie
          obtain ⟨d0, d1, d2, d3, -⟩ := Box.four HK.out.2.2.1
          have HBR : As (Box wr R #[.int .u32 0, .slice none 0 0, .slice none 0 0, .int .u32 0] 51) := ⟨HK.out.2.1⟩
          obtain ⟨q0, q1, q2, q3, fz⟩ := Box.four HBR.out
          go_wp2
          have HW4 := As.mk (And.intro (set4_box HBR.out (.int .u32 (V : Int)) (.slice AI NI cI) (.slice AO M cO) (.int .u32 (L : Int))) (set4_grown wr R (.int .u32 (V : Int)) (.slice AI NI cI) (.slice AO M cO) (.int .u32 (L : Int))))
          clear q0 q1 q2 q3 fz d0 d1 d2 d3
          change bodyPost _ _ _ _ _ ((((wr.setCell ⟨R, 0, none⟩ (.int .u32 (V : Int))).setCell ⟨R, 1, none⟩ (.slice AI NI cI)).setCell ⟨R, 2, none⟩ (.slice AO M cO)).setCell ⟨R, 3, none⟩ (.int .u32 (L : Int)))
          generalize ((((wr.setCell ⟨R, 0, none⟩ (.int .u32 (V : Int))).setCell ⟨R, 1, none⟩ (.slice AI NI cI)).setCell ⟨R, 2, none⟩ (.slice AO M cO)).setCell ⟨R, 3, none⟩ (.int .u32 (L : Int))) = W15 at HW4 ⊢
          obtain ⟨q0, q1, q2, q3, -⟩ := Box.four HW4.out.1
          refine bodyPost_ret (v := .agg #[.int .u32 (V : Int), .slice AI NI cI, .slice AO M cO, .int .u32 (L : Int)]) (by simp [results, Try.results51, go_sem, q0, q1, q2, q3]) rfl ?_
          exact ⟨[.int .u32 (V : Int), .slice AI NI cI, .slice AO M cO, .int .u32 (L : Int)], rfl, t, (HK.out.2.2.2.read HW4.out.2 (Nat.lt_succ_self R)).mono (by have := HR.out; omega), HGP.out, HK.out.1.grown HW4.out.2 HK.out.1.size (fun k hk => by injection hk with hk; have := HR.out; omega)⟩
theorem good_any (n m : Int) (w : World) : Calls Try.prog 34 #[.int .i64 n, .int .i64 m] w fun e w' => ∃ cs t, e = .returned (.agg cs.toArray) ∧ TxC w' cs t ∧ goodP t ∧ Below w.heap.size w w' := by
  refine (good_own n m w).mono ?_
  rintro e w' ⟨cs, t, rfl, ho, hg, hb⟩
  exact ⟨cs, t, rfl, ho.rd, hg, hb⟩
end Go.Proofs.Ytfggkljgfadacaa.W
