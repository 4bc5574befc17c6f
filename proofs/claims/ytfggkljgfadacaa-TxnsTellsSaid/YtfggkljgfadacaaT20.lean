/- txns.Same. -/
import Derived.Test.YtfggkljgfadacaaT19
set_option linter.unusedVariables false
set_option linter.unusedSimpArgs false
namespace Go.Proofs.Ytfggkljgfadacaa.W
open Go.RowKit Go.Proofs.Ytfggkljgfadacaa.B Go.Proofs

set_option maxHeartbeats 1000000 in
set_option maxRecDepth 100000 in
theorem eqouts_any (v v' : Value) (xs ys : List LOut) (w : World) (hr : RdOuts w v xs) (hr' : RdOuts w v' ys) :
    Calls Try.prog 80 #[v, v', .func (.func 81) #[] #[]] w fun e w' => e = .returned (.bool (decide (xs = ys))) ∧ Below w.heap.size w w' := by
  obtain ⟨A, c, rfl, _⟩ := hr.form
  obtain ⟨A', c', rfl, _⟩ := hr'.form
  have HR := As.mk hr
  have HR' := As.mk hr'
  have hm : (xs.length : Int) ≤ 9223372036854775807 := by have := hr.len; unfold maxLen at this; omega
  have hm' : (ys.length : Int) ≤ 9223372036854775807 := by have := hr'.len; unfold maxLen at this; omega
  clear hr hr'
  by_cases hl : xs.length = ys.length
  · have HL := As.mk hl
    have hlt' : (xs.length : Int) ≤ ys.length := by omega
    have hd : ((xs.length : Int) != (ys.length : Int)) = false := by rw [hl]; exact bne_self_eq_false _
    clear hl
    go_enter Try.func80, Try.ntmps80
    go_wp2
    go_loopw [17] (fun v17 wr => ∃ k : Nat, v17 = .int .i64 (k : Int) ∧ (k : Int) ≤ xs.length ∧ As (Below w.heap.size w wr) ∧ As (xs.take k = ys.take k)) (fun v17 _ => xs.length - (intOf v17).toNat)
    case atStart => exact ⟨0, rfl, by omega, ⟨Below.refl _ _⟩, ⟨rfl⟩⟩
    case round =>
      obtain ⟨k, rfl, hk, HB, HJ⟩ := hrel
      by_cases hlt : (k : Int) < xs.length
      · obtain ⟨g, o, x, A1, c1, rfl, HK, h0, h1, HS, HV⟩ := RdOuts.at (HR.out.below OutC.stable HB.out) k (by omega)
        have hlt2 : (k : Int) < ys.length := by omega
        obtain ⟨g', o', y, A1', c1', rfl, HK', h0', h1', HS', HV'⟩ := RdOuts.at (HR'.out.below OutC.stable HB.out) k (by omega)
        have HB2 : As (Below wr.heap.size wr ((wr.alloc (.cells #[.int .u64 (x.value : Int), .slice A1 x.script.length c1] 57)).alloc (.cells #[.int .u64 (y.value : Int), .slice A1' y.script.length c1'] 57))) := ⟨((Below.refl _ _).alloc (Nat.le_refl _) _).alloc (by simp) _⟩
        have HB3 := As.mk (HB.out.trans (HB2.out.mono HB.out.size))
        have HS2 := As.mk (HS.out.below HB2.out)
        have HS2' := As.mk (HS'.out.below HB2.out)
        have q0 := cell_of_below (below_al wr (.cells #[.int .u64 (x.value : Int), .slice A1 x.script.length c1] 57)) h0'
        have q1 := cell_of_below (below_al wr (.cells #[.int .u64 (x.value : Int), .slice A1 x.script.length c1] 57)) h1'
        by_cases he : x = y
        · have HE := As.mk he
          have hbb : decide (x = y) = true := decide_eq_true he
          clear he
          go_wp2_with (go_at_call 81; (with_reducible refine (sameout_any _ _ x y _ HS2.out HS2'.out HV.out HV'.out).mono ?_); rintro e w3 ⟨rfl, hb⟩; have HB4 := As.mk (HB3.out.trans (hb.mono HB3.out.size)); clear hb)
          go_roundw
          case rel => exact ⟨k + 1, by go_num, by omega, HB4, ⟨take_eq_step HK.out HK'.out HJ.out HE.out⟩⟩
          case measure => simp [intOf]; omega
        · have HE := As.mk he
          have hbb : decide (x = y) = false := decide_eq_false he
          clear he
          go_wp2_with (go_at_call 81; (with_reducible refine (sameout_any _ _ x y _ HS2.out HS2'.out HV.out HV'.out).mono ?_); rintro e w3 ⟨rfl, hb⟩; have HB4 := As.mk (HB3.out.trans (hb.mono HB3.out.size)); clear hb)
          go_ret
          rw [decide_eq_false (ne_at HK.out HK'.out HE.out)]
          exact ⟨rfl, HB4.out⟩
      · have HE : As (xs = ys) := ⟨by have := HJ.out; rwa [List.take_of_length_le (by omega), List.take_of_length_le (by have := HL.out; omega)] at this⟩
        go_wp2
        go_ret
        rw [decide_eq_true HE.out]
        exact ⟨rfl, HB.out⟩
  · have HL := As.mk hl
    have hd : ((xs.length : Int) != (ys.length : Int)) = true := by rw [bne_iff_ne]; omega
    clear hl
    go_enter Try.func80, Try.ntmps80
    go_wp2
    go_ret
    rw [decide_eq_false (fun h => HL.out (by rw [h]))]
    exact ⟨rfl, Below.refl _ _⟩
set_option maxHeartbeats 1000000 in
set_option maxRecDepth 100000 in
theorem same_any (cs cs' : List Value) (t u : LTx) (w : World) (hr : TxC w cs t) (hr' : TxC w cs' u) :
    Calls Try.prog 53 #[.agg cs.toArray, .agg cs'.toArray] w fun e w' => e = .returned (.bool (decide (t = u))) ∧ Below w.heap.size w w' := by
  obtain ⟨iv, ov, rfl, hi, ho, hver, hlock⟩ := hr
  obtain ⟨iv', ov', rfl, hi', ho', hver', hlock'⟩ := hr'
  obtain ⟨AI, ci, rfl, hi1, hi2, _⟩ := hi.form
  obtain ⟨AO, co, rfl, ho1, ho2, _⟩ := ho.form
  obtain ⟨AI', ci', rfl, _, _, _⟩ := hi'.form
  obtain ⟨AO', co', rfl, _, _, _⟩ := ho'.form
  have HXY : As ((t = u) ↔ t.ver = u.ver ∧ t.lock = u.lock ∧ t.ins = u.ins ∧ t.outs = u.outs) := ⟨by cases t; cases u; simp only [LTx.mk.injEq]; exact ⟨fun h => ⟨h.1, h.2.2.2, h.2.1, h.2.2.1⟩, fun h => ⟨h.1, h.2.2.1, h.2.2.2, h.2.1⟩⟩⟩
  have HB : As (Below w.heap.size w ((w.alloc (.cells #[.int .u32 (t.ver : Int), .slice AI t.ins.length ci, .slice AO t.outs.length co, .int .u32 (t.lock : Int)] 51)).alloc (.cells #[.int .u32 (u.ver : Int), .slice AI' u.ins.length ci', .slice AO' u.outs.length co', .int .u32 (u.lock : Int)] 51)) ∧ Box ((w.alloc (.cells #[.int .u32 (t.ver : Int), .slice AI t.ins.length ci, .slice AO t.outs.length co, .int .u32 (t.lock : Int)] 51)).alloc (.cells #[.int .u32 (u.ver : Int), .slice AI' u.ins.length ci', .slice AO' u.outs.length co', .int .u32 (u.lock : Int)] 51)) w.heap.size #[.int .u32 (t.ver : Int), .slice AI t.ins.length ci, .slice AO t.outs.length co, .int .u32 (t.lock : Int)] 51 ∧ Box ((w.alloc (.cells #[.int .u32 (t.ver : Int), .slice AI t.ins.length ci, .slice AO t.outs.length co, .int .u32 (t.lock : Int)] 51)).alloc (.cells #[.int .u32 (u.ver : Int), .slice AI' u.ins.length ci', .slice AO' u.outs.length co', .int .u32 (u.lock : Int)] 51)) (w.heap.size + 1) #[.int .u32 (u.ver : Int), .slice AI' u.ins.length ci', .slice AO' u.outs.length co', .int .u32 (u.lock : Int)] 51) :=
    ⟨((Below.refl _ _).alloc (Nat.le_refl _) _).alloc (by simp) _, (Box.new w _ _).below (below_al _ _), by have := Box.new (w.alloc (.cells #[.int .u32 (t.ver : Int), .slice AI t.ins.length ci, .slice AO t.outs.length co, .int .u32 (t.lock : Int)] 51)) #[.int .u32 (u.ver : Int), .slice AI' u.ins.length ci', .slice AO' u.outs.length co', .int .u32 (u.lock : Int)] 51; simpa using this⟩
  have HI := As.mk (hi.below InC.stable HB.out.1)
  have HO := As.mk (ho.below OutC.stable HB.out.1)
  have HI' := As.mk (hi'.below InC.stable HB.out.1)
  have HO' := As.mk (ho'.below OutC.stable HB.out.1)
  clear hi ho hi' ho' hver hlock hver' hlock' hi1 hi2 ho1 ho2
  go_enter Try.func53, Try.ntmps53
  go_upto_region 1 with fail
  change Code.wp _ _ _ _ ((w.alloc (.cells #[.int .u32 (t.ver : Int), .slice AI t.ins.length ci, .slice AO t.outs.length co, .int .u32 (t.lock : Int)] 51)).alloc (.cells #[.int .u32 (u.ver : Int), .slice AI' u.ins.length ci', .slice AO' u.outs.length co', .int .u32 (u.lock : Int)] 51))
  generalize (w.alloc (.cells #[.int .u32 (t.ver : Int), .slice AI t.ins.length ci, .slice AO t.outs.length co, .int .u32 (t.lock : Int)] 51)).alloc (.cells #[.int .u32 (u.ver : Int), .slice AI' u.ins.length ci', .slice AO' u.outs.length co', .int .u32 (u.lock : Int)] 51) = W at HB HI HO HI' HO' ⊢
  obtain ⟨d0, d1, d2, d3, -⟩ := Box.four HB.out.2.1
  obtain ⟨e0, e1, e2, e3, -⟩ := Box.four HB.out.2.2
  by_cases hv : t.ver = u.ver
  · have HV := As.mk hv
    have bv : ((t.ver : Int) == (u.ver : Int)) = true := by rw [hv]; exact beq_self_eq_true _
    clear hv
    by_cases hl : t.lock = u.lock
    · have HL := As.mk hl
      have bl : ((t.lock : Int) == (u.lock : Int)) = true := by rw [hl]; exact beq_self_eq_true _
      clear hl
      by_cases hi : t.ins = u.ins
      · have HII := As.mk hi
        have bi : decide (t.ins = u.ins) = true := decide_eq_true hi
        clear hi
        go_wp2_with (first | (go_at_call 78; (with_reducible refine (eqins_any _ _ t.ins u.ins _ HI.out HI'.out).mono ?_); rintro e w3 ⟨rfl, hb⟩; have HB3 := As.mk (HB.out.1.trans (hb.mono HB.out.1.size)); have HO3 := As.mk (HO.out.below OutC.stable hb); have HO3' := As.mk (HO'.out.below OutC.stable hb); have f0 := Box.four (HB.out.2.1.below hb); have f1 := Box.four (HB.out.2.2.below hb); clear hb d0 d1 d2 d3 e0 e1 e2 e3; obtain ⟨d0, d1, d2, d3, -⟩ := f0; obtain ⟨e0, e1, e2, e3, -⟩ := f1) | (go_at_call 80; (with_reducible refine (eqouts_any _ _ t.outs u.outs _ HO3.out HO3'.out).mono ?_); rintro e w4 ⟨rfl, hb⟩; have HB4 := As.mk (HB3.out.trans (hb.mono HB3.out.size)); clear hb))
        go_ret
        refine ⟨ret_bool (a := decide (t.outs = u.outs)) ?_, HB4.out⟩
        rw [Bool.eq_iff_iff, decide_eq_true_iff, decide_eq_true_iff, HXY.out]
        exact ⟨fun h => ⟨HV.out, HL.out, HII.out, h⟩, fun h => h.2.2.2⟩
      · have HN := As.mk hi
        have bi : decide (t.ins = u.ins) = false := decide_eq_false hi
        clear hi
        go_wp2_with (first | (go_at_call 78; (with_reducible refine (eqins_any _ _ t.ins u.ins _ HI.out HI'.out).mono ?_); rintro e w3 ⟨rfl, hb⟩; have HB3 := As.mk (HB.out.1.trans (hb.mono HB.out.1.size)); clear hb))
        go_ret
        rw [decide_eq_false (fun h => HN.out (HXY.out.1 h).2.2.1)]
        exact ⟨rfl, HB3.out⟩
    · have HN := As.mk hl
      have bl : ((t.lock : Int) == (u.lock : Int)) = false := beq_eq_false_iff_ne.mpr (by omega)
      clear hl
      go_wp2
      go_ret
      rw [decide_eq_false (fun h => HN.out (HXY.out.1 h).2.1)]
      exact ⟨rfl, HB.out.1⟩
  · have HN := As.mk hv
    have bv : ((t.ver : Int) == (u.ver : Int)) = false := beq_eq_false_iff_ne.mpr (by omega)
    clear hv
    go_wp2
    go_ret
    rw [decide_eq_false (fun h => HN.out (HXY.out.1 h).1)]
    exact ⟨rfl, HB.out.1⟩
end Go.Proofs.Ytfggkljgfadacaa.W
