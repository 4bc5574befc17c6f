/- Same of the document. -/
import Derived.Test.YtfggkljgfadacaaT26
set_option linter.unusedVariables false
set_option linter.unusedSimpArgs false
namespace Go.Proofs.Ytfggkljgfadacaa.W
open Go.RowKit Go.Proofs.Ytfggkljgfadacaa.B Go.Proofs

theorem run_neq53 (w : World) (X Y : List UInt8) (hX : X.length = 32) (hY : Y.length = 32) : (binOp .neq 53 (.agg (X.map u8v).toArray) (.agg (Y.map u8v).toArray)).run Try.prog w = .ok (.bool (!(X == Y))) w := by
  obtain ⟨i, hi, _⟩ := Option.map_eq_some_iff.1 info5
  rw [run_neq_struct, run_equalIn_u8s (P := Try.prog) w 9998 Try.underlying53 Try.underlying5 hi cells5 X Y hX hY]
  rfl
def ZI : Array Value := (Z32 ++ [Value.int .u32 0, Value.slice none 0 0, Value.int .u32 0, Value.slice none 0 0]).toArray
theorem zi_size : ZI.size = 36 := by kernel_rfl
theorem step_storeRow {P : Program} {ops : Array Oper} {o : Oper} {a : Act} {w : World} {K : Act → World → Prop} {Q : Exit → Act → World → Prop} {F : Prop} (hgd : o.guard = none) (ty : TypeId) (x y : Operand) (ho : o.op = .store ty x y)
    (g : Nat) (cells : Array Value) (hx : a.eval x = .pointer (some ⟨g, 0, none⟩)) (hy : a.eval y = .agg cells) (t : TypeId) (old : Array Value) (hg : Box w g old t) (hi : (P.info? ty).map (·.size) = some cells.size)
    (hold : old.size = cells.size) (h1 : cells.all (·.oneCell') = true) (h : K (a.put o.dst undef) (w.setRow g cells)) : if Region.wanted o (yielded ops a.tmps) = true then Oper.wp P o a w K Q else F := by
  have hw : Region.wanted o (yielded ops a.tmps) = true := by simp [Region.wanted, hgd]
  rw [if_pos hw]
  exact wp_store_row ty x y ho g cells hx hy t old hg hi hold h1 h
/-- A load of many cells, as an operation's run. -/
theorem exec_load_mid {P : Program} {ρ : Operand → Value} {op : Oper} {w : World} (ty : TypeId) (x : Operand) (ho : op.op = .load ty x) (b o : Nat) (hx : ρ x = .pointer (some ⟨b, o, none⟩)) (cs : List Value) (d : TypeDesc) (hc : w.rangeAt b o cs)
    (hu : P.underlying ty = some d) (hd : d.isRow = true) (hi : (P.info? ty).map (·.size) = some cs.length) : (execOp ρ op).run P w = .ok (.value (.agg cs.toArray)) w := by
  unfold execOp
  simp only [ho, hx, Instr.loadAt, Instr.sureAddr, Sem.run_bind, Sem.run_pure, Result.andThen_ok, run_loadVar_mid w b o ty cs d hc hu hd hi]
theorem below_row {B : Nat} {w0 w : World} (h : Below B w0 w) {g : Nat} (hg : B ≤ g) (cs : Array Value) : Below B w0 (w.setRow g cs) := below_setRow h hg cs
set_option maxHeartbeats 4000000 in
set_option maxRecDepth 100000 in
theorem qsame_any (cs cs' : List Value) (t u : LTx) (w : World) (hr : TxC w cs t) (hr' : TxC w cs' u) :
    Calls Try.prog 52 #[.agg cs.toArray, .agg cs'.toArray] w fun e w' => e = .returned (.bool (decide (t = u))) ∧ Below w.heap.size w w' := by
  obtain ⟨iv, ov, rfl, hi, ho, hver, hlock⟩ := hr
  obtain ⟨iv', ov', rfl, hi', ho', hver', hlock'⟩ := hr'
  obtain ⟨AI, ci, rfl, hi1, hi2, _⟩ := hi.form
  obtain ⟨AO, co, rfl, ho1, ho2, _⟩ := ho.form
  obtain ⟨AI', ci', rfl, hj1, hj2, _⟩ := hi'.form
  obtain ⟨AO', co', rfl, hp1, hp2, _⟩ := ho'.form
  have HXY : As ((t = u) ↔ t.ver = u.ver ∧ t.lock = u.lock ∧ t.ins = u.ins ∧ t.outs = u.outs) := ⟨by cases t; cases u; simp only [LTx.mk.injEq]; exact ⟨fun h => ⟨h.1, h.2.2.2, h.2.1, h.2.2.1⟩, fun h => ⟨h.1, h.2.2.1, h.2.2.2, h.2.1⟩⟩⟩
  have HB : As (Below w.heap.size w ((w.alloc (.cells #[.int .u32 (t.ver : Int), .slice AI t.ins.length ci, .slice AO t.outs.length co, .int .u32 (t.lock : Int)] 51)).alloc (.cells #[.int .u32 (u.ver : Int), .slice AI' u.ins.length ci', .slice AO' u.outs.length co', .int .u32 (u.lock : Int)] 51)) ∧ Box ((w.alloc (.cells #[.int .u32 (t.ver : Int), .slice AI t.ins.length ci, .slice AO t.outs.length co, .int .u32 (t.lock : Int)] 51)).alloc (.cells #[.int .u32 (u.ver : Int), .slice AI' u.ins.length ci', .slice AO' u.outs.length co', .int .u32 (u.lock : Int)] 51)) w.heap.size #[.int .u32 (t.ver : Int), .slice AI t.ins.length ci, .slice AO t.outs.length co, .int .u32 (t.lock : Int)] 51 ∧ Box ((w.alloc (.cells #[.int .u32 (t.ver : Int), .slice AI t.ins.length ci, .slice AO t.outs.length co, .int .u32 (t.lock : Int)] 51)).alloc (.cells #[.int .u32 (u.ver : Int), .slice AI' u.ins.length ci', .slice AO' u.outs.length co', .int .u32 (u.lock : Int)] 51)) (w.heap.size + 1) #[.int .u32 (u.ver : Int), .slice AI' u.ins.length ci', .slice AO' u.outs.length co', .int .u32 (u.lock : Int)] 51) :=
    ⟨((Below.refl _ _).alloc (Nat.le_refl _) _).alloc (by simp) _, (Box.new w _ _).below (below_al _ _), by have := Box.new (w.alloc (.cells #[.int .u32 (t.ver : Int), .slice AI t.ins.length ci, .slice AO t.outs.length co, .int .u32 (t.lock : Int)] 51)) #[.int .u32 (u.ver : Int), .slice AI' u.ins.length ci', .slice AO' u.outs.length co', .int .u32 (u.lock : Int)] 51; simpa using this⟩
  have HI := As.mk (hi.below InC.stable HB.out.1)
  have HO := As.mk (ho.below OutC.stable HB.out.1)
  have HI' := As.mk (hi'.below InC.stable HB.out.1)
  have HO' := As.mk (ho'.below OutC.stable HB.out.1)
  have hm1 : (t.ins.length : Int) ≤ 9223372036854775807 := by unfold maxLen at hi2; omega
  have hm2 : (t.outs.length : Int) ≤ 9223372036854775807 := by unfold maxLen at ho2; omega
  clear hi ho hi' ho' hver hlock hver' hlock' hi1 hi2 ho1 ho2 hj1 hj2 hp1 hp2
  go_enter Try.func52, Try.ntmps52
  go_upto_region 1 with fail
  change Code.wp _ _ _ _ ((w.alloc (.cells #[.int .u32 (t.ver : Int), .slice AI t.ins.length ci, .slice AO t.outs.length co, .int .u32 (t.lock : Int)] 51)).alloc (.cells #[.int .u32 (u.ver : Int), .slice AI' u.ins.length ci', .slice AO' u.outs.length co', .int .u32 (u.lock : Int)] 51))
  generalize (w.alloc (.cells #[.int .u32 (t.ver : Int), .slice AI t.ins.length ci, .slice AO t.outs.length co, .int .u32 (t.lock : Int)] 51)).alloc (.cells #[.int .u32 (u.ver : Int), .slice AI' u.ins.length ci', .slice AO' u.outs.length co', .int .u32 (u.lock : Int)] 51) = W at HB HI HO HI' HO' ⊢
  obtain ⟨A, hA⟩ : ∃ A, A = w.heap.size := ⟨_, rfl⟩
  obtain ⟨B, hB⟩ : ∃ A, A = w.heap.size + 1 := ⟨_, rfl⟩
  have HBA : As (Box W A #[.int .u32 (t.ver : Int), .slice AI t.ins.length ci, .slice AO t.outs.length co, .int .u32 (t.lock : Int)] 51 ∧ Box W B #[.int .u32 (u.ver : Int), .slice AI' u.ins.length ci', .slice AO' u.outs.length co', .int .u32 (u.lock : Int)] 51) := ⟨by rw [hA, hB]; exact HB.out.2⟩
  rw [← hB, ← hA]
  clear hA hB
  obtain ⟨d0, d1, d2, d3, -⟩ := Box.four HBA.out.1
  obtain ⟨e0, e1, e2, e3, -⟩ := Box.four HBA.out.2
  by_cases hv : t.ver = u.ver
  rotate_left
  · have HN := As.mk hv
    have b1 : ((t.ver : Int) == (u.ver : Int)) = false := beq_eq_false_iff_ne.mpr (by omega)
    have b2 : ((t.ver : Int) != (u.ver : Int)) = true := by rw [bne_iff_ne]; omega
    clear hv
    go_wp2
    go_ret
    rw [decide_eq_false (fun h => HN.out ((HXY.out.1 h).1))]
    exact ⟨rfl, HB.out.1⟩
  have b1hv : ((t.ver : Int) == (u.ver : Int)) = true := by rw [hv]; exact beq_self_eq_true _
  have b2hv : ((t.ver : Int) != (u.ver : Int)) = false := by rw [hv]; exact bne_self_eq_false _
  have Hhv := As.mk hv
  clear hv
  by_cases hl : t.lock = u.lock
  rotate_left
  · have HN := As.mk hl
    have b1 : ((t.lock : Int) == (u.lock : Int)) = false := beq_eq_false_iff_ne.mpr (by omega)
    have b2 : ((t.lock : Int) != (u.lock : Int)) = true := by rw [bne_iff_ne]; omega
    clear hl
    go_wp2
    go_ret
    rw [decide_eq_false (fun h => HN.out ((HXY.out.1 h).2.1))]
    exact ⟨rfl, HB.out.1⟩
  have b1hl : ((t.lock : Int) == (u.lock : Int)) = true := by rw [hl]; exact beq_self_eq_true _
  have b2hl : ((t.lock : Int) != (u.lock : Int)) = false := by rw [hl]; exact bne_self_eq_false _
  have Hhl := As.mk hl
  clear hl
  by_cases hi : t.ins.length = u.ins.length
  rotate_left
  · have HN := As.mk hi
    have b1 : ((t.ins.length : Int) == (u.ins.length : Int)) = false := beq_eq_false_iff_ne.mpr (by omega)
    have b2 : ((t.ins.length : Int) != (u.ins.length : Int)) = true := by rw [bne_iff_ne]; omega
    clear hi
    go_wp2
    go_ret
    rw [decide_eq_false (fun h => HN.out (by rw [(HXY.out.1 h).2.2.1]))]
    exact ⟨rfl, HB.out.1⟩
  have b1hi : ((t.ins.length : Int) == (u.ins.length : Int)) = true := by rw [hi]; exact beq_self_eq_true _
  have b2hi : ((t.ins.length : Int) != (u.ins.length : Int)) = false := by rw [hi]; exact bne_self_eq_false _
  have Hhi := As.mk hi
  clear hi
  by_cases ho : t.outs.length = u.outs.length
  rotate_left
  · have HN := As.mk ho
    have b1 : ((t.outs.length : Int) == (u.outs.length : Int)) = false := beq_eq_false_iff_ne.mpr (by omega)
    have b2 : ((t.outs.length : Int) != (u.outs.length : Int)) = true := by rw [bne_iff_ne]; omega
    clear ho
    go_wp2
    go_ret
    rw [decide_eq_false (fun h => HN.out (by rw [(HXY.out.1 h).2.2.2]))]
    exact ⟨rfl, HB.out.1⟩
  have b1ho : ((t.outs.length : Int) == (u.outs.length : Int)) = true := by rw [ho]; exact beq_self_eq_true _
  have b2ho : ((t.outs.length : Int) != (u.outs.length : Int)) = false := by rw [ho]; exact bne_self_eq_false _
  have Hho := As.mk ho
  clear ho
  go_wp2
  clear d0 d3 e0 e3 b1hv b2hv b1hl b2hl b1hi b2hi b1ho b2ho d1 d2 e1 e2
  go_loopw [5] (fun v5 wr => ∃ k : Nat, v5 = .int .i64 (k : Int) ∧ (k : Int) ≤ t.ins.length ∧ As (Below W.heap.size W wr) ∧ As (t.ins.take k = u.ins.take k)) (fun v5 _ => t.ins.length - (intOf v5).toNat)
  case atStart => exact ⟨0, rfl, by omega, ⟨Below.refl _ _⟩, ⟨rfl⟩⟩
  case round =>
    obtain ⟨k, rfl, hk, HBW, HJ⟩ := hrel
    have HBX := As.mk (And.intro (HBA.out.1.below HBW.out) (HBA.out.2.below HBW.out))
    obtain ⟨d0, d1, d2, d3, -⟩ := Box.four HBX.out.1
    obtain ⟨e0, e1, e2, e3, -⟩ := Box.four HBX.out.2
    clear d0 d3 e0 e3
    by_cases hlt : (k : Int) < t.ins.length
    · have hlt2 : (k : Int) < u.ins.length := by have := Hhi.out; omega
      obtain ⟨x, hx⟩ : ∃ x, t.ins[k]? = some x := ⟨_, List.getElem?_eq_getElem (by omega)⟩
      obtain ⟨y, hy⟩ : ∃ y, u.ins[k]? = some y := ⟨_, List.getElem?_eq_getElem (by omega)⟩
      have HK := As.mk hx
      have HK' := As.mk hy
      obtain ⟨g, o, cs, rfl, hcl, hin, hrange⟩ := RdL.at (HI.out.below InC.stable HBW.out) k x hx
      obtain ⟨g', o', cs', rfl, hcl', hin', hrange'⟩ := RdL.at (HI'.out.below InC.stable HBW.out) k y hy
      have HCL := As.mk hcl
      have HIN := As.mk hin
      have HRG := As.mk hrange
      have H1 := As.mk hin.one
      have HCL' := As.mk hcl'
      have HIN' := As.mk hin'
      have HRG' := As.mk hrange'
      have H1' := As.mk hin'.one
      clear hx hy hcl hin hrange hcl' hin' hrange'
      go_upto_region 6 with fail
      go_cut [6, 7] (fun v6 v7 wc => ∃ X Y, v6 = .pointer (some ⟨X, 0, none⟩) ∧ v7 = .pointer (some ⟨Y, 0, none⟩) ∧ As (Below wr.heap.size wr wc ∧ Box wc X cs.toArray 55 ∧ Box wc Y cs'.toArray 55))
      case first =>
        refine wp_region_held_drew (S := (fun W : World => Below wr.heap.size wr W)) (by kernel_rfl) ?_ (fun hHeld => ?_)
        · exact below_dr wr
        refine wpAnyH_take (i := 0) (oi := ?_) (v := ?_) (by simp only [List.getElem?_toArray, List.getElem?_cons_zero, List.getElem?_cons_succ]; rfl) (by kernel_rfl) (by kernel_rfl) (by kernel_rfl) (by exact fun _ _ _ h => h) (Or.inl ⟨by rfl, ?_⟩) (by assumption) ?_
        rotate_left
        · (intro w hSw; (try dsimp only at hSw); have q1 := cell_of_below hSw d1; have q2 := cell_of_below hSw e1; clear hSw; go_simp; first | done | with_reducible rfl)
        try simp only [Act.put, List.setIfInBounds_toArray, List.set_cons_zero, List.set_cons_succ]
        refine wpAnyH_take (i := 1) (oi := ?_) (v := ?_) (by simp only [List.getElem?_toArray, List.getElem?_cons_zero, List.getElem?_cons_succ]; rfl) (by kernel_rfl) (by kernel_rfl) (by kernel_rfl) (by exact fun _ _ _ h => h) (Or.inl ⟨by rfl, ?_⟩) (by assumption) ?_
        rotate_left
        · (intro w hSw; (try dsimp only at hSw); have q1 := cell_of_below hSw d1; have q2 := cell_of_below hSw e1; clear hSw; go_simp; first | done | with_reducible rfl)
        try simp only [Act.put, List.setIfInBounds_toArray, List.set_cons_zero, List.set_cons_succ]
        refine wpAnyH_take (i := 2) (oi := ?_) (v := ?_) (by simp only [List.getElem?_toArray, List.getElem?_cons_zero, List.getElem?_cons_succ]; rfl) (by kernel_rfl) (by kernel_rfl) (by kernel_rfl) (by exact fun _ _ _ h => h) (Or.inl ⟨by rfl, ?_⟩) (by assumption) ?_
        rotate_left
        · (intro w hSw; (try dsimp only at hSw); have q1 := cell_of_below hSw d1; have q2 := cell_of_below hSw e1; clear hSw; go_simp; first | done | with_reducible rfl)
        try simp only [Act.put, List.setIfInBounds_toArray, List.set_cons_zero, List.set_cons_succ]
        refine wpAnyH_take (i := 3) (oi := ?_) (v := ?_) (by simp only [List.getElem?_toArray, List.getElem?_cons_zero, List.getElem?_cons_succ]; rfl) (by kernel_rfl) (by kernel_rfl) (by kernel_rfl) (by exact fun _ _ _ h => h) (Or.inl ⟨by rfl, ?_⟩) (by assumption) ?_
        rotate_left
        · (intro w hSw; (try dsimp only at hSw); have q1 := cell_of_below hSw d1; have q2 := cell_of_below hSw e1; clear hSw; go_simp; first | done | with_reducible rfl)
        try simp only [Act.put, List.setIfInBounds_toArray, List.set_cons_zero, List.set_cons_succ]
        refine wpAnyH_take (i := 4) (oi := ?_) (v := ?_) (by simp only [List.getElem?_toArray, List.getElem?_cons_zero, List.getElem?_cons_succ]; rfl) (by kernel_rfl) (by kernel_rfl) (by kernel_rfl) (by exact fun _ _ _ h => h) (Or.inl ⟨by rfl, ?_⟩) (by assumption) ?_
        rotate_left
        · (intro w2 hw2; refine exec_load_mid 55 (.tmp 49) ?_ g (o + k * 36) ?_ cs _ ?_ Try.underlying55 rfl ?_; rfl; rfl; exact rangeAt_below HRG.out hw2; (rw [HCL.out]; kernel_rfl))
        try simp only [Act.put, List.setIfInBounds_toArray, List.set_cons_zero, List.set_cons_succ]
        refine wpAnyH_take (i := 5) (oi := ?_) (v := ?_) (by simp only [List.getElem?_toArray, List.getElem?_cons_zero, List.getElem?_cons_succ]; rfl) (by kernel_rfl) (by kernel_rfl) (by kernel_rfl) (by exact fun _ _ _ h => h) (Or.inl ⟨by rfl, ?_⟩) (by assumption) ?_
        rotate_left
        · (intro w hSw; (try dsimp only at hSw); have q1 := cell_of_below hSw d1; have q2 := cell_of_below hSw e1; clear hSw; go_simp; first | done | with_reducible rfl)
        try simp only [Act.put, List.setIfInBounds_toArray, List.set_cons_zero, List.set_cons_succ]
        refine wpAnyH_take (i := 6) (oi := ?_) (v := ?_) (by simp only [List.getElem?_toArray, List.getElem?_cons_zero, List.getElem?_cons_succ]; rfl) (by kernel_rfl) (by kernel_rfl) (by kernel_rfl) (by exact fun _ _ _ h => h) (Or.inl ⟨by rfl, ?_⟩) (by assumption) ?_
        rotate_left
        · (intro w hSw; (try dsimp only at hSw); have q1 := cell_of_below hSw d1; have q2 := cell_of_below hSw e1; clear hSw; go_simp; first | done | with_reducible rfl)
        try simp only [Act.put, List.setIfInBounds_toArray, List.set_cons_zero, List.set_cons_succ]
        refine wpAnyH_take (i := 7) (oi := ?_) (v := ?_) (by simp only [List.getElem?_toArray, List.getElem?_cons_zero, List.getElem?_cons_succ]; rfl) (by kernel_rfl) (by kernel_rfl) (by kernel_rfl) (by exact fun _ _ _ h => h) (Or.inl ⟨by rfl, ?_⟩) (by assumption) ?_
        rotate_left
        · (intro w hSw; (try dsimp only at hSw); have q1 := cell_of_below hSw d1; have q2 := cell_of_below hSw e1; clear hSw; go_simp; first | done | with_reducible rfl)
        try simp only [Act.put, List.setIfInBounds_toArray, List.set_cons_zero, List.set_cons_succ]
        refine wpAnyH_take (i := 8) (oi := ?_) (v := ?_) (by simp only [List.getElem?_toArray, List.getElem?_cons_zero, List.getElem?_cons_succ]; rfl) (by kernel_rfl) (by kernel_rfl) (by kernel_rfl) (by exact fun _ _ _ h => h) (Or.inl ⟨by rfl, ?_⟩) (by assumption) ?_
        rotate_left
        · (intro w hSw; (try dsimp only at hSw); have q1 := cell_of_below hSw d1; have q2 := cell_of_below hSw e1; clear hSw; go_simp; first | done | with_reducible rfl)
        try simp only [Act.put, List.setIfInBounds_toArray, List.set_cons_zero, List.set_cons_succ]
        refine wpAnyH_take (i := 9) (oi := ?_) (v := ?_) (by simp only [List.getElem?_toArray, List.getElem?_cons_zero, List.getElem?_cons_succ]; rfl) (by kernel_rfl) (by kernel_rfl) (by kernel_rfl) (by exact fun _ _ _ h => h) (Or.inl ⟨by rfl, ?_⟩) (by assumption) ?_
        rotate_left
        · (intro w2 hw2; refine exec_load_mid 55 (.tmp 54) ?_ g' (o' + k * 36) ?_ cs' _ ?_ Try.underlying55 rfl ?_; rfl; rfl; exact rangeAt_below HRG'.out hw2; (rw [HCL'.out]; kernel_rfl))
        try simp only [Act.put, List.setIfInBounds_toArray, List.set_cons_zero, List.set_cons_succ]
        refine wpAnyH_ready (rs := [10, 11]) (by kernel_rfl) (by simp) ?_
        refine AllReadyH.cons (o := ?_) (by simp only [List.getElem?_toArray, List.getElem?_cons_zero, List.getElem?_cons_succ]; rfl) (fun K hK => ?_) ?_
        · go_simp
          have hS2 : Below wr.heap.size wr (wr.drew.alloc (.cells ZI 55)) := (below_dr wr).alloc (Nat.le_refl _) _
          have HX : As (Box (wr.drew.alloc (.cells ZI 55)) wr.heap.size ZI 55) := ⟨Box.new wr.drew ZI 55⟩
          refine hK.out _ _ ?_ (fun hHeld2 => ?_)
          · exact hS2
          clear hK K hHeld
          have hHeld := hHeld2
          clear hHeld2
          try simp only [Act.put, List.setIfInBounds_toArray, List.set_cons_zero, List.set_cons_succ]
          refine wpAnyH_ready (rs := [11]) (by kernel_rfl) (by simp) ?_
          refine AllReadyH.cons (o := ?_) (by simp only [List.getElem?_toArray, List.getElem?_cons_zero, List.getElem?_cons_succ]; rfl) (fun K hK => ?_) ?_
          · go_simp
            have hS2 : Below wr.heap.size wr ((wr.drew.alloc (.cells ZI 55)).alloc (.cells ZI 55)) := ((below_dr wr).alloc (Nat.le_refl _) _).alloc (by simp) _
            have HX2 : As (Box ((wr.drew.alloc (.cells ZI 55)).alloc (.cells ZI 55)) wr.heap.size ZI 55) := ⟨HX.out.below (below_al _ _)⟩
            have HY2 : As (Box ((wr.drew.alloc (.cells ZI 55)).alloc (.cells ZI 55)) (wr.heap.size + 1) ZI 55) := ⟨by have := Box.new (wr.drew.alloc (.cells ZI 55)) ZI 55; simpa using this⟩
            refine hK.out _ _ ?_ (fun hHeld2 => ?_)
            · exact hS2
            clear hK K hHeld
            have hHeld := hHeld2
            clear hHeld2
            try simp only [Act.put, List.setIfInBounds_toArray, List.set_cons_zero, List.set_cons_succ]
            refine wpAnyH_ready (rs := [12]) (by kernel_rfl) (by simp) ?_
            refine AllReadyH.cons (o := ?_) (by simp only [List.getElem?_toArray, List.getElem?_cons_zero, List.getElem?_cons_succ]; rfl) (fun K hK => ?_) ?_
            · refine step_storeRow ?hgd 55 (.tmp 6) (.tmp 50) ?ho (wr.heap.size) cs.toArray ?hx ?hy 55 ZI HX2.out ?hi ?hold ?h1 ?_
              case hgd => rfl
              case ho => rfl
              case hx => rfl
              case hy => rfl
              case hi => rw [List.size_toArray, HCL.out]; kernel_rfl
              case hold => simp only [List.size_toArray]; rw [HCL.out]; exact zi_size
              case h1 => exact all_oneCell_toArray H1.out
              have hS2 : Below wr.heap.size wr (World.setRow _ (wr.heap.size) cs.toArray) := below_row hHeld (by omega) _
              have HX3 := As.mk (show Box (World.setRow _ (wr.heap.size) cs.toArray) (wr.heap.size) cs.toArray 55 from setRow_heap _ _ _ _ 55 _ HX2.out)
              have HY3 := As.mk (show Box (World.setRow _ (wr.heap.size) cs.toArray) (wr.heap.size + 1) ZI 55 from (setRow_other _ _ _ _ (by omega)).trans HY2.out)
              refine hK.out _ _ ?_ (fun hHeld2 => ?_)
              · exact hS2
              clear hK K hHeld
              have hHeld := hHeld2
              clear hHeld2
              try simp only [Act.put, List.setIfInBounds_toArray, List.set_cons_zero, List.set_cons_succ]
              refine wpAnyH_ready (rs := [13]) (by kernel_rfl) (by simp) ?_
              refine AllReadyH.cons (o := ?_) (by simp only [List.getElem?_toArray, List.getElem?_cons_zero, List.getElem?_cons_succ]; rfl) (fun K hK => ?_) ?_
              · refine step_storeRow ?hgd 55 (.tmp 7) (.tmp 55) ?ho (wr.heap.size + 1) cs'.toArray ?hx ?hy 55 ZI HY3.out ?hi ?hold ?h1 ?_
                case hgd => rfl
                case ho => rfl
                case hx => rfl
                case hy => rfl
                case hi => rw [List.size_toArray, HCL'.out]; kernel_rfl
                case hold => simp only [List.size_toArray]; rw [HCL'.out]; exact zi_size
                case h1 => exact all_oneCell_toArray H1'.out
                have hS2 : Below wr.heap.size wr (World.setRow _ (wr.heap.size + 1) cs'.toArray) := below_row hHeld (by omega) _
                have HY4 := As.mk (show Box (World.setRow _ (wr.heap.size + 1) cs'.toArray) (wr.heap.size + 1) cs'.toArray 55 from setRow_heap _ _ _ _ 55 _ HY3.out)
                have HX4 := As.mk (show Box (World.setRow _ (wr.heap.size + 1) cs'.toArray) (wr.heap.size) cs.toArray 55 from (setRow_other _ _ _ _ (by omega)).trans HX3.out)
                refine hK.out _ _ ?_ (fun hHeld2 => ?_)
                · exact hS2
                clear hK K hHeld
                have hHeld := hHeld2
                clear hHeld2
                try simp only [Act.put, List.setIfInBounds_toArray, List.set_cons_zero, List.set_cons_succ]
                refine wpAnyH_done (by kernel_rfl) ?_ _
                have HFIN := As.mk (And.intro hHeld (And.intro HX4.out HY4.out))
                clear hHeld
                go_wp2
                go_meet
                exact ⟨_, _, rfl, rfl, HFIN⟩
              exact AllReadyH.nil
            exact AllReadyH.nil
          exact AllReadyH.nil
        refine AllReadyH.cons (o := ?_) (by simp only [List.getElem?_toArray, List.getElem?_cons_zero, List.getElem?_cons_succ]; rfl) (fun K hK => ?_) ?_
        · go_simp
          have hS2 : Below wr.heap.size wr (wr.drew.alloc (.cells ZI 55)) := (below_dr wr).alloc (Nat.le_refl _) _
          have HY : As (Box (wr.drew.alloc (.cells ZI 55)) wr.heap.size ZI 55) := ⟨Box.new wr.drew ZI 55⟩
          refine hK.out _ _ ?_ (fun hHeld2 => ?_)
          · exact hS2
          clear hK K hHeld
          have hHeld := hHeld2
          clear hHeld2
          try simp only [Act.put, List.setIfInBounds_toArray, List.set_cons_zero, List.set_cons_succ]
          refine wpAnyH_ready (rs := [10]) (by kernel_rfl) (by simp) ?_
          refine AllReadyH.cons (o := ?_) (by simp only [List.getElem?_toArray, List.getElem?_cons_zero, List.getElem?_cons_succ]; rfl) (fun K hK => ?_) ?_
          · go_simp
            have hS2 : Below wr.heap.size wr ((wr.drew.alloc (.cells ZI 55)).alloc (.cells ZI 55)) := ((below_dr wr).alloc (Nat.le_refl _) _).alloc (by simp) _
            have HY2 : As (Box ((wr.drew.alloc (.cells ZI 55)).alloc (.cells ZI 55)) wr.heap.size ZI 55) := ⟨HY.out.below (below_al _ _)⟩
            have HX2 : As (Box ((wr.drew.alloc (.cells ZI 55)).alloc (.cells ZI 55)) (wr.heap.size + 1) ZI 55) := ⟨by have := Box.new (wr.drew.alloc (.cells ZI 55)) ZI 55; simpa using this⟩
            refine hK.out _ _ ?_ (fun hHeld2 => ?_)
            · exact hS2
            clear hK K hHeld
            have hHeld := hHeld2
            clear hHeld2
            try simp only [Act.put, List.setIfInBounds_toArray, List.set_cons_zero, List.set_cons_succ]
            refine wpAnyH_ready (rs := [12]) (by kernel_rfl) (by simp) ?_
            refine AllReadyH.cons (o := ?_) (by simp only [List.getElem?_toArray, List.getElem?_cons_zero, List.getElem?_cons_succ]; rfl) (fun K hK => ?_) ?_
            · refine step_storeRow ?hgd 55 (.tmp 6) (.tmp 50) ?ho (wr.heap.size + 1) cs.toArray ?hx ?hy 55 ZI HX2.out ?hi ?hold ?h1 ?_
              case hgd => rfl
              case ho => rfl
              case hx => rfl
              case hy => rfl
              case hi => rw [List.size_toArray, HCL.out]; kernel_rfl
              case hold => simp only [List.size_toArray]; rw [HCL.out]; exact zi_size
              case h1 => exact all_oneCell_toArray H1.out
              have hS2 : Below wr.heap.size wr (World.setRow _ (wr.heap.size + 1) cs.toArray) := below_row hHeld (by omega) _
              have HX3 := As.mk (show Box (World.setRow _ (wr.heap.size + 1) cs.toArray) (wr.heap.size + 1) cs.toArray 55 from setRow_heap _ _ _ _ 55 _ HX2.out)
              have HY3 := As.mk (show Box (World.setRow _ (wr.heap.size + 1) cs.toArray) (wr.heap.size) ZI 55 from (setRow_other _ _ _ _ (by omega)).trans HY2.out)
              refine hK.out _ _ ?_ (fun hHeld2 => ?_)
              · exact hS2
              clear hK K hHeld
              have hHeld := hHeld2
              clear hHeld2
              try simp only [Act.put, List.setIfInBounds_toArray, List.set_cons_zero, List.set_cons_succ]
              refine wpAnyH_ready (rs := [13]) (by kernel_rfl) (by simp) ?_
              refine AllReadyH.cons (o := ?_) (by simp only [List.getElem?_toArray, List.getElem?_cons_zero, List.getElem?_cons_succ]; rfl) (fun K hK => ?_) ?_
              · refine step_storeRow ?hgd 55 (.tmp 7) (.tmp 55) ?ho (wr.heap.size) cs'.toArray ?hx ?hy 55 ZI HY3.out ?hi ?hold ?h1 ?_
                case hgd => rfl
                case ho => rfl
                case hx => rfl
                case hy => rfl
                case hi => rw [List.size_toArray, HCL'.out]; kernel_rfl
                case hold => simp only [List.size_toArray]; rw [HCL'.out]; exact zi_size
                case h1 => exact all_oneCell_toArray H1'.out
                have hS2 : Below wr.heap.size wr (World.setRow _ (wr.heap.size) cs'.toArray) := below_row hHeld (by omega) _
                have HY4 := As.mk (show Box (World.setRow _ (wr.heap.size) cs'.toArray) (wr.heap.size) cs'.toArray 55 from setRow_heap _ _ _ _ 55 _ HY3.out)
                have HX4 := As.mk (show Box (World.setRow _ (wr.heap.size) cs'.toArray) (wr.heap.size + 1) cs.toArray 55 from (setRow_other _ _ _ _ (by omega)).trans HX3.out)
                refine hK.out _ _ ?_ (fun hHeld2 => ?_)
                · exact hS2
                clear hK K hHeld
                have hHeld := hHeld2
                clear hHeld2
                try simp only [Act.put, List.setIfInBounds_toArray, List.set_cons_zero, List.set_cons_succ]
                refine wpAnyH_done (by kernel_rfl) ?_ _
                have HFIN := As.mk (And.intro hHeld (And.intro HX4.out HY4.out))
                clear hHeld
                go_wp2
                go_meet
                exact ⟨_, _, rfl, rfl, HFIN⟩
              exact AllReadyH.nil
            exact AllReadyH.nil
          exact AllReadyH.nil
        exact AllReadyH.nil

      case rest =>
        obtain ⟨X, Y, rfl, rfl, HC⟩ := hcut
        clear d1 d2 e1 e2
        obtain ⟨px, hpx⟩ : ∃ p, p = x.prev.map u8v := ⟨_, rfl⟩
        obtain ⟨py, hpy⟩ : ∃ p, p = y.prev.map u8v := ⟨_, rfl⟩
        have HPL : As (px.length = 32) := ⟨by rw [hpx, List.length_map]; exact HIN.out.prev⟩
        have HPL' : As (py.length = 32) := ⟨by rw [hpy, List.length_map]; exact HIN'.out.prev⟩
        have HG : As (wc.rangeAt X 0 px) := ⟨by rw [hpx]; exact HIN.out.head HC.out.2.1⟩
        have HG' : As (wc.rangeAt Y 0 py) := ⟨by rw [hpy]; exact HIN'.out.head HC.out.2.2⟩
        obtain ⟨A1, A2, c1, c2, h32, h33, h34, h35, HS0, HW0⟩ := HIN.out.facts
        obtain ⟨A1', A2', c1', c2', h32', h33', h34', h35', HS0', HW0'⟩ := HIN'.out.facts
        have HS := As.mk (HS0.out.below HC.out.1)
        have HS' := As.mk (HS0'.out.below HC.out.1)
        have HW := As.mk (HW0.out.below ByC.stable HC.out.1)
        have HW' := As.mk (HW0'.out.below ByC.stable HC.out.1)
        have q32 := Box.cell HC.out.2.1 32 _ (by rw [List.getElem?_toArray]; exact h32)
        have q33 := Box.cell HC.out.2.1 33 _ (by rw [List.getElem?_toArray]; exact h33)
        have q34 := Box.cell HC.out.2.1 34 _ (by rw [List.getElem?_toArray]; exact h34)
        have q35 := Box.cell HC.out.2.1 35 _ (by rw [List.getElem?_toArray]; exact h35)
        have r32 := Box.cell HC.out.2.2 32 _ (by rw [List.getElem?_toArray]; exact h32')
        have r33 := Box.cell HC.out.2.2 33 _ (by rw [List.getElem?_toArray]; exact h33')
        have r34 := Box.cell HC.out.2.2 34 _ (by rw [List.getElem?_toArray]; exact h34')
        have r35 := Box.cell HC.out.2.2 35 _ (by rw [List.getElem?_toArray]; exact h35')
        have hgd := guard53
        have he := fun V => run_neq53 V x.prev y.prev HIN.out.prev HIN'.out.prev
        rw [← hpx, ← hpy] at he
        have k1 := run_str (P := Try.prog) 24 9 5 Try.underlying24 Try.underlying5 Try.underlying9 HS.out
        have k2 := run_str (P := Try.prog) 24 9 5 Try.underlying24 Try.underlying5 Try.underlying9 HS'.out
        have HXYI : As ((x = y) ↔ x.prev = y.prev ∧ x.vout = y.vout ∧ x.seq = y.seq ∧ x.script = y.script ∧ x.wit = y.wit) := ⟨by cases x; cases y; simp only [LIn.mk.injEq]; exact ⟨fun h => ⟨h.1, h.2.1, h.2.2.2.1, h.2.2.1, h.2.2.2.2⟩, fun h => ⟨h.1, h.2.1, h.2.2.2.1, h.2.2.1, h.2.2.2.2⟩⟩⟩
        have HBC := As.mk (HBW.out.trans (HC.out.1.mono HBW.out.size))
        have HBCW := As.mk (HB.out.1.trans (HBC.out.mono HB.out.1.size))
        clear hpx hpy h32 h33 h34 h35 h32' h33' h34' h35'
        by_cases hp : x.prev = y.prev
        rotate_left
        · have HN := As.mk hp
          have b1 : (x.prev == y.prev) = false := beq_eq_false_iff_ne.mpr hp
          clear hp
          go_wp2_with (first | (first | ((with_reducible refine wpList_load_mid (op := ⟨_, .load 53 (.tmp 56), _, _, _, _⟩) ?hgd 53 (.tmp 56) rfl _ _ ?hx px _ HG.out Try.underlying53 rfl ?hi ?_); (case hgd => exact rfl); (case hx => exact rfl); (case hi => rw [HPL.out]; kernel_rfl)) | ((with_reducible refine wpList_load_mid (op := ⟨_, .load 53 (.tmp 58), _, _, _, _⟩) ?hgd 53 (.tmp 58) rfl _ _ ?hx py _ HG'.out Try.underlying53 rfl ?hi ?_); (case hgd => exact rfl); (case hx => exact rfl); (case hi => rw [HPL'.out]; kernel_rfl))) | (go_at_call 77; (with_reducible refine (qrows_any _ _ _ _ _ HW.out HW'.out).mono ?_); rintro e w3 ⟨rfl, hb⟩; have HB4 := As.mk (HBC.out.trans (hb.mono HBC.out.size)); have HB5 := As.mk (HBCW.out.trans (hb.mono HBCW.out.size)); clear hb))
          go_ret
          rw [decide_eq_false (fun h => ne_at HK.out HK'.out (fun h => HN.out ((HXYI.out.1 h).1)) (HXY.out.1 h).2.2.1)]
          exact ⟨rfl, HBCW.out⟩
        have b1hp : (x.prev == y.prev) = true := by rw [hp]; exact beq_self_eq_true _
        have Hhp := As.mk hp
        clear hp
        by_cases hv : x.vout = y.vout
        rotate_left
        · have HN := As.mk hv
          have b1 : ((x.vout : Int) == (y.vout : Int)) = false := beq_eq_false_iff_ne.mpr (by omega)
          have b2 : ((x.vout : Int) != (y.vout : Int)) = true := by rw [bne_iff_ne]; omega
          clear hv
          go_wp2_with (first | (first | ((with_reducible refine wpList_load_mid (op := ⟨_, .load 53 (.tmp 56), _, _, _, _⟩) ?hgd 53 (.tmp 56) rfl _ _ ?hx px _ HG.out Try.underlying53 rfl ?hi ?_); (case hgd => exact rfl); (case hx => exact rfl); (case hi => rw [HPL.out]; kernel_rfl)) | ((with_reducible refine wpList_load_mid (op := ⟨_, .load 53 (.tmp 58), _, _, _, _⟩) ?hgd 53 (.tmp 58) rfl _ _ ?hx py _ HG'.out Try.underlying53 rfl ?hi ?_); (case hgd => exact rfl); (case hx => exact rfl); (case hi => rw [HPL'.out]; kernel_rfl))) | (go_at_call 77; (with_reducible refine (qrows_any _ _ _ _ _ HW.out HW'.out).mono ?_); rintro e w3 ⟨rfl, hb⟩; have HB4 := As.mk (HBC.out.trans (hb.mono HBC.out.size)); have HB5 := As.mk (HBCW.out.trans (hb.mono HBCW.out.size)); clear hb))
          go_ret
          rw [decide_eq_false (fun h => ne_at HK.out HK'.out (fun h => HN.out ((HXYI.out.1 h).2.1)) (HXY.out.1 h).2.2.1)]
          exact ⟨rfl, HBCW.out⟩
        have b1hv : ((x.vout : Int) == (y.vout : Int)) = true := by rw [hv]; exact beq_self_eq_true _
        have b2hv : ((x.vout : Int) != (y.vout : Int)) = false := by rw [hv]; exact bne_self_eq_false _
        have Hhv2 := As.mk hv
        clear hv
        by_cases hq : x.seq = y.seq
        rotate_left
        · have HN := As.mk hq
          have b1 : ((x.seq : Int) == (y.seq : Int)) = false := beq_eq_false_iff_ne.mpr (by omega)
          have b2 : ((x.seq : Int) != (y.seq : Int)) = true := by rw [bne_iff_ne]; omega
          clear hq
          go_wp2_with (first | (first | ((with_reducible refine wpList_load_mid (op := ⟨_, .load 53 (.tmp 56), _, _, _, _⟩) ?hgd 53 (.tmp 56) rfl _ _ ?hx px _ HG.out Try.underlying53 rfl ?hi ?_); (case hgd => exact rfl); (case hx => exact rfl); (case hi => rw [HPL.out]; kernel_rfl)) | ((with_reducible refine wpList_load_mid (op := ⟨_, .load 53 (.tmp 58), _, _, _, _⟩) ?hgd 53 (.tmp 58) rfl _ _ ?hx py _ HG'.out Try.underlying53 rfl ?hi ?_); (case hgd => exact rfl); (case hx => exact rfl); (case hi => rw [HPL'.out]; kernel_rfl))) | (go_at_call 77; (with_reducible refine (qrows_any _ _ _ _ _ HW.out HW'.out).mono ?_); rintro e w3 ⟨rfl, hb⟩; have HB4 := As.mk (HBC.out.trans (hb.mono HBC.out.size)); have HB5 := As.mk (HBCW.out.trans (hb.mono HBCW.out.size)); clear hb))
          go_ret
          rw [decide_eq_false (fun h => ne_at HK.out HK'.out (fun h => HN.out ((HXYI.out.1 h).2.2.1)) (HXY.out.1 h).2.2.1)]
          exact ⟨rfl, HBCW.out⟩
        have b1hq : ((x.seq : Int) == (y.seq : Int)) = true := by rw [hq]; exact beq_self_eq_true _
        have b2hq : ((x.seq : Int) != (y.seq : Int)) = false := by rw [hq]; exact bne_self_eq_false _
        have Hhq := As.mk hq
        clear hq
        by_cases hs : x.script = y.script
        rotate_left
        · have HN := As.mk hs
          have b1 : (x.script == y.script) = false := beq_eq_false_iff_ne.mpr hs
          clear hs
          go_wp2_with (first | (first | ((with_reducible refine wpList_load_mid (op := ⟨_, .load 53 (.tmp 56), _, _, _, _⟩) ?hgd 53 (.tmp 56) rfl _ _ ?hx px _ HG.out Try.underlying53 rfl ?hi ?_); (case hgd => exact rfl); (case hx => exact rfl); (case hi => rw [HPL.out]; kernel_rfl)) | ((with_reducible refine wpList_load_mid (op := ⟨_, .load 53 (.tmp 58), _, _, _, _⟩) ?hgd 53 (.tmp 58) rfl _ _ ?hx py _ HG'.out Try.underlying53 rfl ?hi ?_); (case hgd => exact rfl); (case hx => exact rfl); (case hi => rw [HPL'.out]; kernel_rfl))) | (go_at_call 77; (with_reducible refine (qrows_any _ _ _ _ _ HW.out HW'.out).mono ?_); rintro e w3 ⟨rfl, hb⟩; have HB4 := As.mk (HBC.out.trans (hb.mono HBC.out.size)); have HB5 := As.mk (HBCW.out.trans (hb.mono HBCW.out.size)); clear hb))
          go_ret
          rw [decide_eq_false (fun h => ne_at HK.out HK'.out (fun h => HN.out ((HXYI.out.1 h).2.2.2.1)) (HXY.out.1 h).2.2.1)]
          exact ⟨rfl, HBCW.out⟩
        have b1hs : (x.script == y.script) = true := by rw [hs]; exact beq_self_eq_true _
        have Hhs := As.mk hs
        clear hs
        by_cases hw : x.wit = y.wit
        rotate_left
        · have HN := As.mk hw
          have b1 : decide (x.wit = y.wit) = false := decide_eq_false hw
          clear hw
          go_wp2_with (first | (first | ((with_reducible refine wpList_load_mid (op := ⟨_, .load 53 (.tmp 56), _, _, _, _⟩) ?hgd 53 (.tmp 56) rfl _ _ ?hx px _ HG.out Try.underlying53 rfl ?hi ?_); (case hgd => exact rfl); (case hx => exact rfl); (case hi => rw [HPL.out]; kernel_rfl)) | ((with_reducible refine wpList_load_mid (op := ⟨_, .load 53 (.tmp 58), _, _, _, _⟩) ?hgd 53 (.tmp 58) rfl _ _ ?hx py _ HG'.out Try.underlying53 rfl ?hi ?_); (case hgd => exact rfl); (case hx => exact rfl); (case hi => rw [HPL'.out]; kernel_rfl))) | (go_at_call 77; (with_reducible refine (qrows_any _ _ _ _ _ HW.out HW'.out).mono ?_); rintro e w3 ⟨rfl, hb⟩; have HB4 := As.mk (HBC.out.trans (hb.mono HBC.out.size)); have HB5 := As.mk (HBCW.out.trans (hb.mono HBCW.out.size)); clear hb))
          go_ret
          rw [decide_eq_false (fun h => ne_at HK.out HK'.out (fun h => HN.out ((HXYI.out.1 h).2.2.2.2)) (HXY.out.1 h).2.2.1)]
          exact ⟨rfl, HB5.out⟩
        have b1hw : decide (x.wit = y.wit) = true := decide_eq_true hw
        have Hhw := As.mk hw
        clear hw
        have HEQ : As (x = y) := ⟨HXYI.out.2 ⟨Hhp.out, Hhv2.out, Hhq.out, Hhs.out, Hhw.out⟩⟩
        go_wp2_with (first | (first | ((with_reducible refine wpList_load_mid (op := ⟨_, .load 53 (.tmp 56), _, _, _, _⟩) ?hgd 53 (.tmp 56) rfl _ _ ?hx px _ HG.out Try.underlying53 rfl ?hi ?_); (case hgd => exact rfl); (case hx => exact rfl); (case hi => rw [HPL.out]; kernel_rfl)) | ((with_reducible refine wpList_load_mid (op := ⟨_, .load 53 (.tmp 58), _, _, _, _⟩) ?hgd 53 (.tmp 58) rfl _ _ ?hx py _ HG'.out Try.underlying53 rfl ?hi ?_); (case hgd => exact rfl); (case hx => exact rfl); (case hi => rw [HPL'.out]; kernel_rfl))) | (go_at_call 77; (with_reducible refine (qrows_any _ _ _ _ _ HW.out HW'.out).mono ?_); rintro e w3 ⟨rfl, hb⟩; have HB4 := As.mk (HBC.out.trans (hb.mono HBC.out.size)); have HB5 := As.mk (HBCW.out.trans (hb.mono HBCW.out.size)); clear hb))
        go_roundw
        case rel => exact ⟨k + 1, by go_num, by omega, HB4, ⟨take_eq_step HK.out HK'.out HJ.out HEQ.out⟩⟩
        case measure => simp [intOf]; omega
    · have HE : As (t.ins = u.ins) := ⟨by have := HJ.out; rwa [List.take_of_length_le (by omega), List.take_of_length_le (by have := Hhi.out; omega)] at this⟩
      clear HJ
      go_wp2
      clear d1 d2 e1 e2
      go_loopw [8] (fun v8 w2 => ∃ j : Nat, v8 = .int .i64 (j : Int) ∧ (j : Int) ≤ t.outs.length ∧ As (Below W.heap.size W w2) ∧ As (t.outs.take j = u.outs.take j)) (fun v8 _ => t.outs.length - (intOf v8).toNat)
      case atStart => exact ⟨0, rfl, by omega, HBW, ⟨rfl⟩⟩
      case round =>
        clear HBX hlt hk
        obtain ⟨j, rfl, hj, HBV, HJ⟩ := hrel
        have HBX := As.mk (And.intro (HBA.out.1.below HBV.out) (HBA.out.2.below HBV.out))
        obtain ⟨d0, d1, d2, d3, -⟩ := Box.four HBX.out.1
        obtain ⟨e0, e1, e2, e3, -⟩ := Box.four HBX.out.2
        clear d0 d1 d3 e0 e1 e3
        by_cases hlt : (j : Int) < t.outs.length
        · have hlt2 : (j : Int) < u.outs.length := by have := Hho.out; omega
          obtain ⟨g, o, x, A1, c1, rfl, HK, h0, h1, HS, _⟩ := RdOuts.at (HO.out.below OutC.stable HBV.out) j (by omega)
          obtain ⟨g', o', y, A1', c1', rfl, HK', h0', h1', HS', _⟩ := RdOuts.at (HO'.out.below OutC.stable HBV.out) j (by omega)
          have HBVW := As.mk (HB.out.1.trans (HBV.out.mono HB.out.1.size))
          by_cases hv : x.value = y.value
          · have b1 : ((x.value : Int) == (y.value : Int)) = true := by rw [hv]; exact beq_self_eq_true _
            have b2 : ((x.value : Int) != (y.value : Int)) = false := by rw [hv]; exact bne_self_eq_false _
            have HV := As.mk hv
            clear hv
            by_cases hs : x.script = y.script
            · have b3 : (x.script == y.script) = true := by rw [hs]; exact beq_self_eq_true _
              have HE : As (x = y) := ⟨by have h1 := HV.out; have h2 := hs; cases x; cases y; simp at h1 h2; rw [h1, h2]⟩
              clear hs
              go_upto_region 12 with fail
              refine wp_region_held_drew (S := (fun V : World => Below wr.heap.size wr V)) (by kernel_rfl) ?_ (fun hHeld => ?_)
              · exact below_dr wr
              refine wpAnyH_take (i := 0) (oi := ?_) (v := ?_) (by simp only [List.getElem?_toArray, List.getElem?_cons_zero, List.getElem?_cons_succ]; rfl) (by kernel_rfl) (by kernel_rfl) (by kernel_rfl) (by exact fun _ _ _ h => h) (Or.inl ⟨by rfl, ?_⟩) (by assumption) ?_
              rotate_left
              · (intro w hSw; (try dsimp only at hSw); have q1 := cell_of_below hSw d2; have q2 := cell_of_below hSw e2; have q3 := cell_of_below hSw h0; have q4 := cell_of_below hSw h0'; have q5 := cell_of_below hSw h1; have q6 := cell_of_below hSw h1'; have k1 := run_str (P := Try.prog) 24 9 5 Try.underlying24 Try.underlying5 Try.underlying9 (HS.out.below hSw); have k2 := run_str (P := Try.prog) 24 9 5 Try.underlying24 Try.underlying5 Try.underlying9 (HS'.out.below hSw); clear hSw; go_simp; first | done | with_reducible rfl)
              try simp only [Act.put, List.setIfInBounds_toArray, List.set_cons_zero, List.set_cons_succ]
              refine wpAnyH_take (i := 1) (oi := ?_) (v := ?_) (by simp only [List.getElem?_toArray, List.getElem?_cons_zero, List.getElem?_cons_succ]; rfl) (by kernel_rfl) (by kernel_rfl) (by kernel_rfl) (by exact fun _ _ _ h => h) (Or.inl ⟨by rfl, ?_⟩) (by assumption) ?_
              rotate_left
              · (intro w hSw; (try dsimp only at hSw); have q1 := cell_of_below hSw d2; have q2 := cell_of_below hSw e2; have q3 := cell_of_below hSw h0; have q4 := cell_of_below hSw h0'; have q5 := cell_of_below hSw h1; have q6 := cell_of_below hSw h1'; have k1 := run_str (P := Try.prog) 24 9 5 Try.underlying24 Try.underlying5 Try.underlying9 (HS.out.below hSw); have k2 := run_str (P := Try.prog) 24 9 5 Try.underlying24 Try.underlying5 Try.underlying9 (HS'.out.below hSw); clear hSw; go_simp; first | done | with_reducible rfl)
              try simp only [Act.put, List.setIfInBounds_toArray, List.set_cons_zero, List.set_cons_succ]
              refine wpAnyH_take (i := 2) (oi := ?_) (v := ?_) (by simp only [List.getElem?_toArray, List.getElem?_cons_zero, List.getElem?_cons_succ]; rfl) (by kernel_rfl) (by kernel_rfl) (by kernel_rfl) (by exact fun _ _ _ h => h) (Or.inl ⟨by rfl, ?_⟩) (by assumption) ?_
              rotate_left
              · (intro w hSw; (try dsimp only at hSw); have q1 := cell_of_below hSw d2; have q2 := cell_of_below hSw e2; have q3 := cell_of_below hSw h0; have q4 := cell_of_below hSw h0'; have q5 := cell_of_below hSw h1; have q6 := cell_of_below hSw h1'; have k1 := run_str (P := Try.prog) 24 9 5 Try.underlying24 Try.underlying5 Try.underlying9 (HS.out.below hSw); have k2 := run_str (P := Try.prog) 24 9 5 Try.underlying24 Try.underlying5 Try.underlying9 (HS'.out.below hSw); clear hSw; go_simp; first | done | with_reducible rfl)
              try simp only [Act.put, List.setIfInBounds_toArray, List.set_cons_zero, List.set_cons_succ]
              refine wpAnyH_take (i := 3) (oi := ?_) (v := ?_) (by simp only [List.getElem?_toArray, List.getElem?_cons_zero, List.getElem?_cons_succ]; rfl) (by kernel_rfl) (by kernel_rfl) (by kernel_rfl) (by exact fun _ _ _ h => h) (Or.inl ⟨by rfl, ?_⟩) (by assumption) ?_
              rotate_left
              · (intro w hSw; (try dsimp only at hSw); have q1 := cell_of_below hSw d2; have q2 := cell_of_below hSw e2; have q3 := cell_of_below hSw h0; have q4 := cell_of_below hSw h0'; have q5 := cell_of_below hSw h1; have q6 := cell_of_below hSw h1'; have k1 := run_str (P := Try.prog) 24 9 5 Try.underlying24 Try.underlying5 Try.underlying9 (HS.out.below hSw); have k2 := run_str (P := Try.prog) 24 9 5 Try.underlying24 Try.underlying5 Try.underlying9 (HS'.out.below hSw); clear hSw; go_simp; first | done | with_reducible rfl)
              try simp only [Act.put, List.setIfInBounds_toArray, List.set_cons_zero, List.set_cons_succ]
              refine wpAnyH_take (i := 4) (oi := ?_) (v := ?_) (by simp only [List.getElem?_toArray, List.getElem?_cons_zero, List.getElem?_cons_succ]; rfl) (by kernel_rfl) (by kernel_rfl) (by kernel_rfl) (by exact fun _ _ _ h => h) (Or.inl ⟨by rfl, ?_⟩) (by assumption) ?_
              rotate_left
              · (intro w hSw; (try dsimp only at hSw); have q1 := cell_of_below hSw d2; have q2 := cell_of_below hSw e2; have q3 := cell_of_below hSw h0; have q4 := cell_of_below hSw h0'; have q5 := cell_of_below hSw h1; have q6 := cell_of_below hSw h1'; have k1 := run_str (P := Try.prog) 24 9 5 Try.underlying24 Try.underlying5 Try.underlying9 (HS.out.below hSw); have k2 := run_str (P := Try.prog) 24 9 5 Try.underlying24 Try.underlying5 Try.underlying9 (HS'.out.below hSw); clear hSw; go_simp; first | done | with_reducible rfl)
              try simp only [Act.put, List.setIfInBounds_toArray, List.set_cons_zero, List.set_cons_succ]
              refine wpAnyH_take (i := 5) (oi := ?_) (v := ?_) (by simp only [List.getElem?_toArray, List.getElem?_cons_zero, List.getElem?_cons_succ]; rfl) (by kernel_rfl) (by kernel_rfl) (by kernel_rfl) (by exact fun _ _ _ h => h) (Or.inl ⟨by rfl, ?_⟩) (by assumption) ?_
              rotate_left
              · (intro w hSw; (try dsimp only at hSw); have q1 := cell_of_below hSw d2; have q2 := cell_of_below hSw e2; have q3 := cell_of_below hSw h0; have q4 := cell_of_below hSw h0'; have q5 := cell_of_below hSw h1; have q6 := cell_of_below hSw h1'; have k1 := run_str (P := Try.prog) 24 9 5 Try.underlying24 Try.underlying5 Try.underlying9 (HS.out.below hSw); have k2 := run_str (P := Try.prog) 24 9 5 Try.underlying24 Try.underlying5 Try.underlying9 (HS'.out.below hSw); clear hSw; go_simp; first | done | with_reducible rfl)
              try simp only [Act.put, List.setIfInBounds_toArray, List.set_cons_zero, List.set_cons_succ]
              refine wpAnyH_take (i := 6) (oi := ?_) (v := ?_) (by simp only [List.getElem?_toArray, List.getElem?_cons_zero, List.getElem?_cons_succ]; rfl) (by kernel_rfl) (by kernel_rfl) (by kernel_rfl) (by exact fun _ _ _ h => h) (Or.inl ⟨by rfl, ?_⟩) (by assumption) ?_
              rotate_left
              · (intro w hSw; (try dsimp only at hSw); have q1 := cell_of_below hSw d2; have q2 := cell_of_below hSw e2; have q3 := cell_of_below hSw h0; have q4 := cell_of_below hSw h0'; have q5 := cell_of_below hSw h1; have q6 := cell_of_below hSw h1'; have k1 := run_str (P := Try.prog) 24 9 5 Try.underlying24 Try.underlying5 Try.underlying9 (HS.out.below hSw); have k2 := run_str (P := Try.prog) 24 9 5 Try.underlying24 Try.underlying5 Try.underlying9 (HS'.out.below hSw); clear hSw; go_simp; first | done | with_reducible rfl)
              try simp only [Act.put, List.setIfInBounds_toArray, List.set_cons_zero, List.set_cons_succ]
              refine wpAnyH_take (i := 7) (oi := ?_) (v := ?_) (by simp only [List.getElem?_toArray, List.getElem?_cons_zero, List.getElem?_cons_succ]; rfl) (by kernel_rfl) (by kernel_rfl) (by kernel_rfl) (by exact fun _ _ _ h => h) (Or.inl ⟨by rfl, ?_⟩) (by assumption) ?_
              rotate_left
              · (intro w hSw; (try dsimp only at hSw); have q1 := cell_of_below hSw d2; have q2 := cell_of_below hSw e2; have q3 := cell_of_below hSw h0; have q4 := cell_of_below hSw h0'; have q5 := cell_of_below hSw h1; have q6 := cell_of_below hSw h1'; have k1 := run_str (P := Try.prog) 24 9 5 Try.underlying24 Try.underlying5 Try.underlying9 (HS.out.below hSw); have k2 := run_str (P := Try.prog) 24 9 5 Try.underlying24 Try.underlying5 Try.underlying9 (HS'.out.below hSw); clear hSw; go_simp; first | done | with_reducible rfl)
              try simp only [Act.put, List.setIfInBounds_toArray, List.set_cons_zero, List.set_cons_succ]
              refine wpAnyH_take (i := 8) (oi := ?_) (v := ?_) (by simp only [List.getElem?_toArray, List.getElem?_cons_zero, List.getElem?_cons_succ]; rfl) (by kernel_rfl) (by kernel_rfl) (by kernel_rfl) (by exact fun _ _ _ h => h) (Or.inl ⟨by rfl, ?_⟩) (by assumption) ?_
              rotate_left
              · (intro w hSw; (try dsimp only at hSw); have q1 := cell_of_below hSw d2; have q2 := cell_of_below hSw e2; have q3 := cell_of_below hSw h0; have q4 := cell_of_below hSw h0'; have q5 := cell_of_below hSw h1; have q6 := cell_of_below hSw h1'; have k1 := run_str (P := Try.prog) 24 9 5 Try.underlying24 Try.underlying5 Try.underlying9 (HS.out.below hSw); have k2 := run_str (P := Try.prog) 24 9 5 Try.underlying24 Try.underlying5 Try.underlying9 (HS'.out.below hSw); clear hSw; go_simp; first | done | with_reducible rfl)
              try simp only [Act.put, List.setIfInBounds_toArray, List.set_cons_zero, List.set_cons_succ]
              refine wpAnyH_take (i := 9) (oi := ?_) (v := ?_) (by simp only [List.getElem?_toArray, List.getElem?_cons_zero, List.getElem?_cons_succ]; rfl) (by kernel_rfl) (by kernel_rfl) (by kernel_rfl) (by exact fun _ _ _ h => h) (Or.inl ⟨by rfl, ?_⟩) (by assumption) ?_
              rotate_left
              · (intro w hSw; (try dsimp only at hSw); have q1 := cell_of_below hSw d2; have q2 := cell_of_below hSw e2; have q3 := cell_of_below hSw h0; have q4 := cell_of_below hSw h0'; have q5 := cell_of_below hSw h1; have q6 := cell_of_below hSw h1'; have k1 := run_str (P := Try.prog) 24 9 5 Try.underlying24 Try.underlying5 Try.underlying9 (HS.out.below hSw); have k2 := run_str (P := Try.prog) 24 9 5 Try.underlying24 Try.underlying5 Try.underlying9 (HS'.out.below hSw); clear hSw; go_simp; first | done | with_reducible rfl)
              try simp only [Act.put, List.setIfInBounds_toArray, List.set_cons_zero, List.set_cons_succ]
              refine wpAnyH_take (i := 10) (oi := ?_) (v := ?_) (by simp only [List.getElem?_toArray, List.getElem?_cons_zero, List.getElem?_cons_succ]; rfl) (by kernel_rfl) (by kernel_rfl) (by kernel_rfl) (by exact fun _ _ _ h => h) (Or.inl ⟨by rfl, ?_⟩) (by assumption) ?_
              rotate_left
              · (intro w hSw; (try dsimp only at hSw); have q1 := cell_of_below hSw d2; have q2 := cell_of_below hSw e2; have q3 := cell_of_below hSw h0; have q4 := cell_of_below hSw h0'; have q5 := cell_of_below hSw h1; have q6 := cell_of_below hSw h1'; have k1 := run_str (P := Try.prog) 24 9 5 Try.underlying24 Try.underlying5 Try.underlying9 (HS.out.below hSw); have k2 := run_str (P := Try.prog) 24 9 5 Try.underlying24 Try.underlying5 Try.underlying9 (HS'.out.below hSw); clear hSw; go_simp; first | done | with_reducible rfl)
              try simp only [Act.put, List.setIfInBounds_toArray, List.set_cons_zero, List.set_cons_succ]
              refine wpAnyH_take (i := 11) (oi := ?_) (v := ?_) (by simp only [List.getElem?_toArray, List.getElem?_cons_zero, List.getElem?_cons_succ]; rfl) (by kernel_rfl) (by kernel_rfl) (by kernel_rfl) (by exact fun _ _ _ h => h) (Or.inl ⟨by rfl, ?_⟩) (by assumption) ?_
              rotate_left
              · (intro w hSw; (try dsimp only at hSw); have q1 := cell_of_below hSw d2; have q2 := cell_of_below hSw e2; have q3 := cell_of_below hSw h0; have q4 := cell_of_below hSw h0'; have q5 := cell_of_below hSw h1; have q6 := cell_of_below hSw h1'; have k1 := run_str (P := Try.prog) 24 9 5 Try.underlying24 Try.underlying5 Try.underlying9 (HS.out.below hSw); have k2 := run_str (P := Try.prog) 24 9 5 Try.underlying24 Try.underlying5 Try.underlying9 (HS'.out.below hSw); clear hSw; go_simp; first | done | with_reducible rfl)
              try simp only [Act.put, List.setIfInBounds_toArray, List.set_cons_zero, List.set_cons_succ]
              refine wpAnyH_take (i := 12) (oi := ?_) (v := ?_) (by simp only [List.getElem?_toArray, List.getElem?_cons_zero, List.getElem?_cons_succ]; rfl) (by kernel_rfl) (by kernel_rfl) (by kernel_rfl) (by exact fun _ _ _ h => h) (Or.inl ⟨by rfl, ?_⟩) (by assumption) ?_
              rotate_left
              · (intro w hSw; (try dsimp only at hSw); have q1 := cell_of_below hSw d2; have q2 := cell_of_below hSw e2; have q3 := cell_of_below hSw h0; have q4 := cell_of_below hSw h0'; have q5 := cell_of_below hSw h1; have q6 := cell_of_below hSw h1'; have k1 := run_str (P := Try.prog) 24 9 5 Try.underlying24 Try.underlying5 Try.underlying9 (HS.out.below hSw); have k2 := run_str (P := Try.prog) 24 9 5 Try.underlying24 Try.underlying5 Try.underlying9 (HS'.out.below hSw); clear hSw; go_simp; first | done | with_reducible rfl)
              try simp only [Act.put, List.setIfInBounds_toArray, List.set_cons_zero, List.set_cons_succ]
              refine wpAnyH_take (i := 13) (oi := ?_) (v := ?_) (by simp only [List.getElem?_toArray, List.getElem?_cons_zero, List.getElem?_cons_succ]; rfl) (by kernel_rfl) (by kernel_rfl) (by kernel_rfl) (by exact fun _ _ _ h => h) (Or.inl ⟨by rfl, ?_⟩) (by assumption) ?_
              rotate_left
              · (intro w hSw; (try dsimp only at hSw); have q1 := cell_of_below hSw d2; have q2 := cell_of_below hSw e2; have q3 := cell_of_below hSw h0; have q4 := cell_of_below hSw h0'; have q5 := cell_of_below hSw h1; have q6 := cell_of_below hSw h1'; have k1 := run_str (P := Try.prog) 24 9 5 Try.underlying24 Try.underlying5 Try.underlying9 (HS.out.below hSw); have k2 := run_str (P := Try.prog) 24 9 5 Try.underlying24 Try.underlying5 Try.underlying9 (HS'.out.below hSw); clear hSw; go_simp; first | done | with_reducible rfl)
              try simp only [Act.put, List.setIfInBounds_toArray, List.set_cons_zero, List.set_cons_succ]
              refine wpAnyH_take (i := 14) (oi := ?_) (v := ?_) (by simp only [List.getElem?_toArray, List.getElem?_cons_zero, List.getElem?_cons_succ]; rfl) (by kernel_rfl) (by kernel_rfl) (by kernel_rfl) (by exact fun _ _ _ h => h) (Or.inl ⟨by rfl, ?_⟩) (by assumption) ?_
              rotate_left
              · (intro w hSw; (try dsimp only at hSw); have q1 := cell_of_below hSw d2; have q2 := cell_of_below hSw e2; have q3 := cell_of_below hSw h0; have q4 := cell_of_below hSw h0'; have q5 := cell_of_below hSw h1; have q6 := cell_of_below hSw h1'; have k1 := run_str (P := Try.prog) 24 9 5 Try.underlying24 Try.underlying5 Try.underlying9 (HS.out.below hSw); have k2 := run_str (P := Try.prog) 24 9 5 Try.underlying24 Try.underlying5 Try.underlying9 (HS'.out.below hSw); clear hSw; go_simp; first | done | with_reducible rfl)
              try simp only [Act.put, List.setIfInBounds_toArray, List.set_cons_zero, List.set_cons_succ]
              refine wpAnyH_take (i := 15) (oi := ?_) (v := ?_) (by simp only [List.getElem?_toArray, List.getElem?_cons_zero, List.getElem?_cons_succ]; rfl) (by kernel_rfl) (by kernel_rfl) (by kernel_rfl) (by exact fun _ _ _ h => h) (Or.inl ⟨by rfl, ?_⟩) (by assumption) ?_
              rotate_left
              · (intro w hSw; (try dsimp only at hSw); have q1 := cell_of_below hSw d2; have q2 := cell_of_below hSw e2; have q3 := cell_of_below hSw h0; have q4 := cell_of_below hSw h0'; have q5 := cell_of_below hSw h1; have q6 := cell_of_below hSw h1'; have k1 := run_str (P := Try.prog) 24 9 5 Try.underlying24 Try.underlying5 Try.underlying9 (HS.out.below hSw); have k2 := run_str (P := Try.prog) 24 9 5 Try.underlying24 Try.underlying5 Try.underlying9 (HS'.out.below hSw); clear hSw; go_simp; first | done | with_reducible rfl)
              try simp only [Act.put, List.setIfInBounds_toArray, List.set_cons_zero, List.set_cons_succ]
              refine wpAnyH_take (i := 16) (oi := ?_) (v := ?_) (by simp only [List.getElem?_toArray, List.getElem?_cons_zero, List.getElem?_cons_succ]; rfl) (by kernel_rfl) (by kernel_rfl) (by kernel_rfl) (by exact fun _ _ _ h => h) (Or.inl ⟨by rfl, ?_⟩) (by assumption) ?_
              rotate_left
              · (intro w hSw; (try dsimp only at hSw); have q1 := cell_of_below hSw d2; have q2 := cell_of_below hSw e2; have q3 := cell_of_below hSw h0; have q4 := cell_of_below hSw h0'; have q5 := cell_of_below hSw h1; have q6 := cell_of_below hSw h1'; have k1 := run_str (P := Try.prog) 24 9 5 Try.underlying24 Try.underlying5 Try.underlying9 (HS.out.below hSw); have k2 := run_str (P := Try.prog) 24 9 5 Try.underlying24 Try.underlying5 Try.underlying9 (HS'.out.below hSw); clear hSw; go_simp; first | done | with_reducible rfl)
              try simp only [Act.put, List.setIfInBounds_toArray, List.set_cons_zero, List.set_cons_succ]
              refine wpAnyH_take (i := 17) (oi := ?_) (v := ?_) (by simp only [List.getElem?_toArray, List.getElem?_cons_zero, List.getElem?_cons_succ]; rfl) (by kernel_rfl) (by kernel_rfl) (by kernel_rfl) (by exact fun _ _ _ h => h) (Or.inl ⟨by rfl, ?_⟩) (by assumption) ?_
              rotate_left
              · (intro w hSw; (try dsimp only at hSw); have q1 := cell_of_below hSw d2; have q2 := cell_of_below hSw e2; have q3 := cell_of_below hSw h0; have q4 := cell_of_below hSw h0'; have q5 := cell_of_below hSw h1; have q6 := cell_of_below hSw h1'; have k1 := run_str (P := Try.prog) 24 9 5 Try.underlying24 Try.underlying5 Try.underlying9 (HS.out.below hSw); have k2 := run_str (P := Try.prog) 24 9 5 Try.underlying24 Try.underlying5 Try.underlying9 (HS'.out.below hSw); clear hSw; go_simp; first | done | with_reducible rfl)
              try simp only [Act.put, List.setIfInBounds_toArray, List.set_cons_zero, List.set_cons_succ]
              refine wpAnyH_take (i := 18) (oi := ?_) (v := ?_) (by simp only [List.getElem?_toArray, List.getElem?_cons_zero, List.getElem?_cons_succ]; rfl) (by kernel_rfl) (by kernel_rfl) (by kernel_rfl) (by exact fun _ _ _ h => h) (Or.inl ⟨by rfl, ?_⟩) (by assumption) ?_
              rotate_left
              · (intro w hSw; (try dsimp only at hSw); have q1 := cell_of_below hSw d2; have q2 := cell_of_below hSw e2; have q3 := cell_of_below hSw h0; have q4 := cell_of_below hSw h0'; have q5 := cell_of_below hSw h1; have q6 := cell_of_below hSw h1'; have k1 := run_str (P := Try.prog) 24 9 5 Try.underlying24 Try.underlying5 Try.underlying9 (HS.out.below hSw); have k2 := run_str (P := Try.prog) 24 9 5 Try.underlying24 Try.underlying5 Try.underlying9 (HS'.out.below hSw); clear hSw; go_simp; first | done | with_reducible rfl)
              try simp only [Act.put, List.setIfInBounds_toArray, List.set_cons_zero, List.set_cons_succ]
              refine wpAnyH_take (i := 19) (oi := ?_) (v := ?_) (by simp only [List.getElem?_toArray, List.getElem?_cons_zero, List.getElem?_cons_succ]; rfl) (by kernel_rfl) (by kernel_rfl) (by kernel_rfl) (by exact fun _ _ _ h => h) (Or.inl ⟨by rfl, ?_⟩) (by assumption) ?_
              rotate_left
              · (intro w hSw; (try dsimp only at hSw); have q1 := cell_of_below hSw d2; have q2 := cell_of_below hSw e2; have q3 := cell_of_below hSw h0; have q4 := cell_of_below hSw h0'; have q5 := cell_of_below hSw h1; have q6 := cell_of_below hSw h1'; have k1 := run_str (P := Try.prog) 24 9 5 Try.underlying24 Try.underlying5 Try.underlying9 (HS.out.below hSw); have k2 := run_str (P := Try.prog) 24 9 5 Try.underlying24 Try.underlying5 Try.underlying9 (HS'.out.below hSw); clear hSw; go_simp; first | done | with_reducible rfl)
              try simp only [Act.put, List.setIfInBounds_toArray, List.set_cons_zero, List.set_cons_succ]
              refine wpAnyH_take (i := 20) (oi := ?_) (v := ?_) (by simp only [List.getElem?_toArray, List.getElem?_cons_zero, List.getElem?_cons_succ]; rfl) (by kernel_rfl) (by kernel_rfl) (by kernel_rfl) (by exact fun _ _ _ h => h) (Or.inl ⟨by rfl, ?_⟩) (by assumption) ?_
              rotate_left
              · (intro w hSw; (try dsimp only at hSw); have q1 := cell_of_below hSw d2; have q2 := cell_of_below hSw e2; have q3 := cell_of_below hSw h0; have q4 := cell_of_below hSw h0'; have q5 := cell_of_below hSw h1; have q6 := cell_of_below hSw h1'; have k1 := run_str (P := Try.prog) 24 9 5 Try.underlying24 Try.underlying5 Try.underlying9 (HS.out.below hSw); have k2 := run_str (P := Try.prog) 24 9 5 Try.underlying24 Try.underlying5 Try.underlying9 (HS'.out.below hSw); clear hSw; go_simp; first | done | with_reducible rfl)
              try simp only [Act.put, List.setIfInBounds_toArray, List.set_cons_zero, List.set_cons_succ]
              refine wpAnyH_take (i := 21) (oi := ?_) (v := ?_) (by simp only [List.getElem?_toArray, List.getElem?_cons_zero, List.getElem?_cons_succ]; rfl) (by kernel_rfl) (by kernel_rfl) (by kernel_rfl) (by exact fun _ _ _ h => h) (Or.inl ⟨by rfl, ?_⟩) (by assumption) ?_
              rotate_left
              · (intro w hSw; (try dsimp only at hSw); have q1 := cell_of_below hSw d2; have q2 := cell_of_below hSw e2; have q3 := cell_of_below hSw h0; have q4 := cell_of_below hSw h0'; have q5 := cell_of_below hSw h1; have q6 := cell_of_below hSw h1'; have k1 := run_str (P := Try.prog) 24 9 5 Try.underlying24 Try.underlying5 Try.underlying9 (HS.out.below hSw); have k2 := run_str (P := Try.prog) 24 9 5 Try.underlying24 Try.underlying5 Try.underlying9 (HS'.out.below hSw); clear hSw; go_simp; first | done | with_reducible rfl)
              try simp only [Act.put, List.setIfInBounds_toArray, List.set_cons_zero, List.set_cons_succ]
              refine wpAnyH_take (i := 22) (oi := ?_) (v := ?_) (by simp only [List.getElem?_toArray, List.getElem?_cons_zero, List.getElem?_cons_succ]; rfl) (by kernel_rfl) (by kernel_rfl) (by kernel_rfl) (by exact fun _ _ _ h => h) (Or.inl ⟨by rfl, ?_⟩) (by assumption) ?_
              rotate_left
              · (intro w hSw; (try dsimp only at hSw); have q1 := cell_of_below hSw d2; have q2 := cell_of_below hSw e2; have q3 := cell_of_below hSw h0; have q4 := cell_of_below hSw h0'; have q5 := cell_of_below hSw h1; have q6 := cell_of_below hSw h1'; have k1 := run_str (P := Try.prog) 24 9 5 Try.underlying24 Try.underlying5 Try.underlying9 (HS.out.below hSw); have k2 := run_str (P := Try.prog) 24 9 5 Try.underlying24 Try.underlying5 Try.underlying9 (HS'.out.below hSw); clear hSw; go_simp; first | done | with_reducible rfl)
              try simp only [Act.put, List.setIfInBounds_toArray, List.set_cons_zero, List.set_cons_succ]
              refine wpAnyH_take (i := 23) (oi := ?_) (v := ?_) (by simp only [List.getElem?_toArray, List.getElem?_cons_zero, List.getElem?_cons_succ]; rfl) (by kernel_rfl) (by kernel_rfl) (by kernel_rfl) (by exact fun _ _ _ h => h) (Or.inl ⟨by rfl, ?_⟩) (by assumption) ?_
              rotate_left
              · (intro w hSw; (try dsimp only at hSw); have q1 := cell_of_below hSw d2; have q2 := cell_of_below hSw e2; have q3 := cell_of_below hSw h0; have q4 := cell_of_below hSw h0'; have q5 := cell_of_below hSw h1; have q6 := cell_of_below hSw h1'; have k1 := run_str (P := Try.prog) 24 9 5 Try.underlying24 Try.underlying5 Try.underlying9 (HS.out.below hSw); have k2 := run_str (P := Try.prog) 24 9 5 Try.underlying24 Try.underlying5 Try.underlying9 (HS'.out.below hSw); clear hSw; go_simp; first | done | with_reducible rfl)
              try simp only [Act.put, List.setIfInBounds_toArray, List.set_cons_zero, List.set_cons_succ]
              refine wpAnyH_take (i := 24) (oi := ?_) (v := ?_) (by simp only [List.getElem?_toArray, List.getElem?_cons_zero, List.getElem?_cons_succ]; rfl) (by kernel_rfl) (by kernel_rfl) (by kernel_rfl) (by exact fun _ _ _ h => h) (Or.inl ⟨by rfl, ?_⟩) (by assumption) ?_
              rotate_left
              · (intro w hSw; (try dsimp only at hSw); have q1 := cell_of_below hSw d2; have q2 := cell_of_below hSw e2; have q3 := cell_of_below hSw h0; have q4 := cell_of_below hSw h0'; have q5 := cell_of_below hSw h1; have q6 := cell_of_below hSw h1'; have k1 := run_str (P := Try.prog) 24 9 5 Try.underlying24 Try.underlying5 Try.underlying9 (HS.out.below hSw); have k2 := run_str (P := Try.prog) 24 9 5 Try.underlying24 Try.underlying5 Try.underlying9 (HS'.out.below hSw); clear hSw; go_simp; first | done | with_reducible rfl)
              try simp only [Act.put, List.setIfInBounds_toArray, List.set_cons_zero, List.set_cons_succ]
              refine wpAnyH_take (i := 25) (oi := ?_) (v := ?_) (by simp only [List.getElem?_toArray, List.getElem?_cons_zero, List.getElem?_cons_succ]; rfl) (by kernel_rfl) (by kernel_rfl) (by kernel_rfl) (by exact fun _ _ _ h => h) (Or.inl ⟨by rfl, ?_⟩) (by assumption) ?_
              rotate_left
              · (intro w hSw; (try dsimp only at hSw); have q1 := cell_of_below hSw d2; have q2 := cell_of_below hSw e2; have q3 := cell_of_below hSw h0; have q4 := cell_of_below hSw h0'; have q5 := cell_of_below hSw h1; have q6 := cell_of_below hSw h1'; have k1 := run_str (P := Try.prog) 24 9 5 Try.underlying24 Try.underlying5 Try.underlying9 (HS.out.below hSw); have k2 := run_str (P := Try.prog) 24 9 5 Try.underlying24 Try.underlying5 Try.underlying9 (HS'.out.below hSw); clear hSw; go_simp; first | done | with_reducible rfl)
              try simp only [Act.put, List.setIfInBounds_toArray, List.set_cons_zero, List.set_cons_succ]
              refine wpAnyH_take (i := 26) (oi := ?_) (v := ?_) (by simp only [List.getElem?_toArray, List.getElem?_cons_zero, List.getElem?_cons_succ]; rfl) (by kernel_rfl) (by kernel_rfl) (by kernel_rfl) (by exact fun _ _ _ h => h) (Or.inl ⟨by rfl, ?_⟩) (by assumption) ?_
              rotate_left
              · (intro w hSw; (try dsimp only at hSw); have q1 := cell_of_below hSw d2; have q2 := cell_of_below hSw e2; have q3 := cell_of_below hSw h0; have q4 := cell_of_below hSw h0'; have q5 := cell_of_below hSw h1; have q6 := cell_of_below hSw h1'; have k1 := run_str (P := Try.prog) 24 9 5 Try.underlying24 Try.underlying5 Try.underlying9 (HS.out.below hSw); have k2 := run_str (P := Try.prog) 24 9 5 Try.underlying24 Try.underlying5 Try.underlying9 (HS'.out.below hSw); clear hSw; go_simp; first | done | with_reducible rfl)
              try simp only [Act.put, List.setIfInBounds_toArray, List.set_cons_zero, List.set_cons_succ]
              refine wpAnyH_take (i := 27) (oi := ?_) (v := ?_) (by simp only [List.getElem?_toArray, List.getElem?_cons_zero, List.getElem?_cons_succ]; rfl) (by kernel_rfl) (by kernel_rfl) (by kernel_rfl) (by exact fun _ _ _ h => h) (Or.inl ⟨by rfl, ?_⟩) (by assumption) ?_
              rotate_left
              · (intro w hSw; (try dsimp only at hSw); have q1 := cell_of_below hSw d2; have q2 := cell_of_below hSw e2; have q3 := cell_of_below hSw h0; have q4 := cell_of_below hSw h0'; have q5 := cell_of_below hSw h1; have q6 := cell_of_below hSw h1'; have k1 := run_str (P := Try.prog) 24 9 5 Try.underlying24 Try.underlying5 Try.underlying9 (HS.out.below hSw); have k2 := run_str (P := Try.prog) 24 9 5 Try.underlying24 Try.underlying5 Try.underlying9 (HS'.out.below hSw); clear hSw; go_simp; first | done | with_reducible rfl)
              try simp only [Act.put, List.setIfInBounds_toArray, List.set_cons_zero, List.set_cons_succ]
              refine wpAnyH_take (i := 28) (oi := ?_) (v := ?_) (by simp only [List.getElem?_toArray, List.getElem?_cons_zero, List.getElem?_cons_succ]; rfl) (by kernel_rfl) (by kernel_rfl) (by kernel_rfl) (by exact fun _ _ _ h => h) (Or.inl ⟨by rfl, ?_⟩) (by assumption) ?_
              rotate_left
              · (intro w hSw; (try dsimp only at hSw); have q1 := cell_of_below hSw d2; have q2 := cell_of_below hSw e2; have q3 := cell_of_below hSw h0; have q4 := cell_of_below hSw h0'; have q5 := cell_of_below hSw h1; have q6 := cell_of_below hSw h1'; have k1 := run_str (P := Try.prog) 24 9 5 Try.underlying24 Try.underlying5 Try.underlying9 (HS.out.below hSw); have k2 := run_str (P := Try.prog) 24 9 5 Try.underlying24 Try.underlying5 Try.underlying9 (HS'.out.below hSw); clear hSw; go_simp; first | done | with_reducible rfl)
              try simp only [Act.put, List.setIfInBounds_toArray, List.set_cons_zero, List.set_cons_succ]
              refine wpAnyH_take (i := 29) (oi := ?_) (v := ?_) (by simp only [List.getElem?_toArray, List.getElem?_cons_zero, List.getElem?_cons_succ]; rfl) (by kernel_rfl) (by kernel_rfl) (by kernel_rfl) (by exact fun _ _ _ h => h) (Or.inl ⟨by rfl, ?_⟩) (by assumption) ?_
              rotate_left
              · (intro w hSw; (try dsimp only at hSw); have q1 := cell_of_below hSw d2; have q2 := cell_of_below hSw e2; have q3 := cell_of_below hSw h0; have q4 := cell_of_below hSw h0'; have q5 := cell_of_below hSw h1; have q6 := cell_of_below hSw h1'; have k1 := run_str (P := Try.prog) 24 9 5 Try.underlying24 Try.underlying5 Try.underlying9 (HS.out.below hSw); have k2 := run_str (P := Try.prog) 24 9 5 Try.underlying24 Try.underlying5 Try.underlying9 (HS'.out.below hSw); clear hSw; go_simp; first | done | with_reducible rfl)
              try simp only [Act.put, List.setIfInBounds_toArray, List.set_cons_zero, List.set_cons_succ]
              refine wpAnyH_done (by kernel_rfl) ?_ _
              have HB4 := As.mk (HBV.out.trans (hHeld.mono HBV.out.size))
              clear hHeld
              go_wp2
              go_roundw
              case rel => exact ⟨j + 1, by go_num, by omega, HB4, ⟨take_eq_step HK.out HK'.out HJ.out HE.out⟩⟩
              case measure => simp [intOf]; omega
            · have b3 : (x.script == y.script) = false := beq_eq_false_iff_ne.mpr hs
              have HE : As (x ≠ y) := ⟨fun h => hs (by rw [h])⟩
              clear hs
              go_upto_region 12 with fail
              refine wp_region_held_drew (S := (fun V : World => Below wr.heap.size wr V)) (by kernel_rfl) ?_ (fun hHeld => ?_)
              · exact below_dr wr
              refine wpAnyH_take (i := 0) (oi := ?_) (v := ?_) (by simp only [List.getElem?_toArray, List.getElem?_cons_zero, List.getElem?_cons_succ]; rfl) (by kernel_rfl) (by kernel_rfl) (by kernel_rfl) (by exact fun _ _ _ h => h) (Or.inl ⟨by rfl, ?_⟩) (by assumption) ?_
              rotate_left
              · (intro w hSw; (try dsimp only at hSw); have q1 := cell_of_below hSw d2; have q2 := cell_of_below hSw e2; have q3 := cell_of_below hSw h0; have q4 := cell_of_below hSw h0'; have q5 := cell_of_below hSw h1; have q6 := cell_of_below hSw h1'; have k1 := run_str (P := Try.prog) 24 9 5 Try.underlying24 Try.underlying5 Try.underlying9 (HS.out.below hSw); have k2 := run_str (P := Try.prog) 24 9 5 Try.underlying24 Try.underlying5 Try.underlying9 (HS'.out.below hSw); clear hSw; go_simp; first | done | with_reducible rfl)
              try simp only [Act.put, List.setIfInBounds_toArray, List.set_cons_zero, List.set_cons_succ]
              refine wpAnyH_take (i := 1) (oi := ?_) (v := ?_) (by simp only [List.getElem?_toArray, List.getElem?_cons_zero, List.getElem?_cons_succ]; rfl) (by kernel_rfl) (by kernel_rfl) (by kernel_rfl) (by exact fun _ _ _ h => h) (Or.inl ⟨by rfl, ?_⟩) (by assumption) ?_
              rotate_left
              · (intro w hSw; (try dsimp only at hSw); have q1 := cell_of_below hSw d2; have q2 := cell_of_below hSw e2; have q3 := cell_of_below hSw h0; have q4 := cell_of_below hSw h0'; have q5 := cell_of_below hSw h1; have q6 := cell_of_below hSw h1'; have k1 := run_str (P := Try.prog) 24 9 5 Try.underlying24 Try.underlying5 Try.underlying9 (HS.out.below hSw); have k2 := run_str (P := Try.prog) 24 9 5 Try.underlying24 Try.underlying5 Try.underlying9 (HS'.out.below hSw); clear hSw; go_simp; first | done | with_reducible rfl)
              try simp only [Act.put, List.setIfInBounds_toArray, List.set_cons_zero, List.set_cons_succ]
              refine wpAnyH_take (i := 2) (oi := ?_) (v := ?_) (by simp only [List.getElem?_toArray, List.getElem?_cons_zero, List.getElem?_cons_succ]; rfl) (by kernel_rfl) (by kernel_rfl) (by kernel_rfl) (by exact fun _ _ _ h => h) (Or.inl ⟨by rfl, ?_⟩) (by assumption) ?_
              rotate_left
              · (intro w hSw; (try dsimp only at hSw); have q1 := cell_of_below hSw d2; have q2 := cell_of_below hSw e2; have q3 := cell_of_below hSw h0; have q4 := cell_of_below hSw h0'; have q5 := cell_of_below hSw h1; have q6 := cell_of_below hSw h1'; have k1 := run_str (P := Try.prog) 24 9 5 Try.underlying24 Try.underlying5 Try.underlying9 (HS.out.below hSw); have k2 := run_str (P := Try.prog) 24 9 5 Try.underlying24 Try.underlying5 Try.underlying9 (HS'.out.below hSw); clear hSw; go_simp; first | done | with_reducible rfl)
              try simp only [Act.put, List.setIfInBounds_toArray, List.set_cons_zero, List.set_cons_succ]
              refine wpAnyH_take (i := 3) (oi := ?_) (v := ?_) (by simp only [List.getElem?_toArray, List.getElem?_cons_zero, List.getElem?_cons_succ]; rfl) (by kernel_rfl) (by kernel_rfl) (by kernel_rfl) (by exact fun _ _ _ h => h) (Or.inl ⟨by rfl, ?_⟩) (by assumption) ?_
              rotate_left
              · (intro w hSw; (try dsimp only at hSw); have q1 := cell_of_below hSw d2; have q2 := cell_of_below hSw e2; have q3 := cell_of_below hSw h0; have q4 := cell_of_below hSw h0'; have q5 := cell_of_below hSw h1; have q6 := cell_of_below hSw h1'; have k1 := run_str (P := Try.prog) 24 9 5 Try.underlying24 Try.underlying5 Try.underlying9 (HS.out.below hSw); have k2 := run_str (P := Try.prog) 24 9 5 Try.underlying24 Try.underlying5 Try.underlying9 (HS'.out.below hSw); clear hSw; go_simp; first | done | with_reducible rfl)
              try simp only [Act.put, List.setIfInBounds_toArray, List.set_cons_zero, List.set_cons_succ]
              refine wpAnyH_take (i := 4) (oi := ?_) (v := ?_) (by simp only [List.getElem?_toArray, List.getElem?_cons_zero, List.getElem?_cons_succ]; rfl) (by kernel_rfl) (by kernel_rfl) (by kernel_rfl) (by exact fun _ _ _ h => h) (Or.inl ⟨by rfl, ?_⟩) (by assumption) ?_
              rotate_left
              · (intro w hSw; (try dsimp only at hSw); have q1 := cell_of_below hSw d2; have q2 := cell_of_below hSw e2; have q3 := cell_of_below hSw h0; have q4 := cell_of_below hSw h0'; have q5 := cell_of_below hSw h1; have q6 := cell_of_below hSw h1'; have k1 := run_str (P := Try.prog) 24 9 5 Try.underlying24 Try.underlying5 Try.underlying9 (HS.out.below hSw); have k2 := run_str (P := Try.prog) 24 9 5 Try.underlying24 Try.underlying5 Try.underlying9 (HS'.out.below hSw); clear hSw; go_simp; first | done | with_reducible rfl)
              try simp only [Act.put, List.setIfInBounds_toArray, List.set_cons_zero, List.set_cons_succ]
              refine wpAnyH_take (i := 5) (oi := ?_) (v := ?_) (by simp only [List.getElem?_toArray, List.getElem?_cons_zero, List.getElem?_cons_succ]; rfl) (by kernel_rfl) (by kernel_rfl) (by kernel_rfl) (by exact fun _ _ _ h => h) (Or.inl ⟨by rfl, ?_⟩) (by assumption) ?_
              rotate_left
              · (intro w hSw; (try dsimp only at hSw); have q1 := cell_of_below hSw d2; have q2 := cell_of_below hSw e2; have q3 := cell_of_below hSw h0; have q4 := cell_of_below hSw h0'; have q5 := cell_of_below hSw h1; have q6 := cell_of_below hSw h1'; have k1 := run_str (P := Try.prog) 24 9 5 Try.underlying24 Try.underlying5 Try.underlying9 (HS.out.below hSw); have k2 := run_str (P := Try.prog) 24 9 5 Try.underlying24 Try.underlying5 Try.underlying9 (HS'.out.below hSw); clear hSw; go_simp; first | done | with_reducible rfl)
              try simp only [Act.put, List.setIfInBounds_toArray, List.set_cons_zero, List.set_cons_succ]
              refine wpAnyH_take (i := 6) (oi := ?_) (v := ?_) (by simp only [List.getElem?_toArray, List.getElem?_cons_zero, List.getElem?_cons_succ]; rfl) (by kernel_rfl) (by kernel_rfl) (by kernel_rfl) (by exact fun _ _ _ h => h) (Or.inl ⟨by rfl, ?_⟩) (by assumption) ?_
              rotate_left
              · (intro w hSw; (try dsimp only at hSw); have q1 := cell_of_below hSw d2; have q2 := cell_of_below hSw e2; have q3 := cell_of_below hSw h0; have q4 := cell_of_below hSw h0'; have q5 := cell_of_below hSw h1; have q6 := cell_of_below hSw h1'; have k1 := run_str (P := Try.prog) 24 9 5 Try.underlying24 Try.underlying5 Try.underlying9 (HS.out.below hSw); have k2 := run_str (P := Try.prog) 24 9 5 Try.underlying24 Try.underlying5 Try.underlying9 (HS'.out.below hSw); clear hSw; go_simp; first | done | with_reducible rfl)
              try simp only [Act.put, List.setIfInBounds_toArray, List.set_cons_zero, List.set_cons_succ]
              refine wpAnyH_take (i := 7) (oi := ?_) (v := ?_) (by simp only [List.getElem?_toArray, List.getElem?_cons_zero, List.getElem?_cons_succ]; rfl) (by kernel_rfl) (by kernel_rfl) (by kernel_rfl) (by exact fun _ _ _ h => h) (Or.inl ⟨by rfl, ?_⟩) (by assumption) ?_
              rotate_left
              · (intro w hSw; (try dsimp only at hSw); have q1 := cell_of_below hSw d2; have q2 := cell_of_below hSw e2; have q3 := cell_of_below hSw h0; have q4 := cell_of_below hSw h0'; have q5 := cell_of_below hSw h1; have q6 := cell_of_below hSw h1'; have k1 := run_str (P := Try.prog) 24 9 5 Try.underlying24 Try.underlying5 Try.underlying9 (HS.out.below hSw); have k2 := run_str (P := Try.prog) 24 9 5 Try.underlying24 Try.underlying5 Try.underlying9 (HS'.out.below hSw); clear hSw; go_simp; first | done | with_reducible rfl)
              try simp only [Act.put, List.setIfInBounds_toArray, List.set_cons_zero, List.set_cons_succ]
              refine wpAnyH_take (i := 8) (oi := ?_) (v := ?_) (by simp only [List.getElem?_toArray, List.getElem?_cons_zero, List.getElem?_cons_succ]; rfl) (by kernel_rfl) (by kernel_rfl) (by kernel_rfl) (by exact fun _ _ _ h => h) (Or.inl ⟨by rfl, ?_⟩) (by assumption) ?_
              rotate_left
              · (intro w hSw; (try dsimp only at hSw); have q1 := cell_of_below hSw d2; have q2 := cell_of_below hSw e2; have q3 := cell_of_below hSw h0; have q4 := cell_of_below hSw h0'; have q5 := cell_of_below hSw h1; have q6 := cell_of_below hSw h1'; have k1 := run_str (P := Try.prog) 24 9 5 Try.underlying24 Try.underlying5 Try.underlying9 (HS.out.below hSw); have k2 := run_str (P := Try.prog) 24 9 5 Try.underlying24 Try.underlying5 Try.underlying9 (HS'.out.below hSw); clear hSw; go_simp; first | done | with_reducible rfl)
              try simp only [Act.put, List.setIfInBounds_toArray, List.set_cons_zero, List.set_cons_succ]
              refine wpAnyH_take (i := 9) (oi := ?_) (v := ?_) (by simp only [List.getElem?_toArray, List.getElem?_cons_zero, List.getElem?_cons_succ]; rfl) (by kernel_rfl) (by kernel_rfl) (by kernel_rfl) (by exact fun _ _ _ h => h) (Or.inl ⟨by rfl, ?_⟩) (by assumption) ?_
              rotate_left
              · (intro w hSw; (try dsimp only at hSw); have q1 := cell_of_below hSw d2; have q2 := cell_of_below hSw e2; have q3 := cell_of_below hSw h0; have q4 := cell_of_below hSw h0'; have q5 := cell_of_below hSw h1; have q6 := cell_of_below hSw h1'; have k1 := run_str (P := Try.prog) 24 9 5 Try.underlying24 Try.underlying5 Try.underlying9 (HS.out.below hSw); have k2 := run_str (P := Try.prog) 24 9 5 Try.underlying24 Try.underlying5 Try.underlying9 (HS'.out.below hSw); clear hSw; go_simp; first | done | with_reducible rfl)
              try simp only [Act.put, List.setIfInBounds_toArray, List.set_cons_zero, List.set_cons_succ]
              refine wpAnyH_take (i := 10) (oi := ?_) (v := ?_) (by simp only [List.getElem?_toArray, List.getElem?_cons_zero, List.getElem?_cons_succ]; rfl) (by kernel_rfl) (by kernel_rfl) (by kernel_rfl) (by exact fun _ _ _ h => h) (Or.inl ⟨by rfl, ?_⟩) (by assumption) ?_
              rotate_left
              · (intro w hSw; (try dsimp only at hSw); have q1 := cell_of_below hSw d2; have q2 := cell_of_below hSw e2; have q3 := cell_of_below hSw h0; have q4 := cell_of_below hSw h0'; have q5 := cell_of_below hSw h1; have q6 := cell_of_below hSw h1'; have k1 := run_str (P := Try.prog) 24 9 5 Try.underlying24 Try.underlying5 Try.underlying9 (HS.out.below hSw); have k2 := run_str (P := Try.prog) 24 9 5 Try.underlying24 Try.underlying5 Try.underlying9 (HS'.out.below hSw); clear hSw; go_simp; first | done | with_reducible rfl)
              try simp only [Act.put, List.setIfInBounds_toArray, List.set_cons_zero, List.set_cons_succ]
              refine wpAnyH_take (i := 11) (oi := ?_) (v := ?_) (by simp only [List.getElem?_toArray, List.getElem?_cons_zero, List.getElem?_cons_succ]; rfl) (by kernel_rfl) (by kernel_rfl) (by kernel_rfl) (by exact fun _ _ _ h => h) (Or.inl ⟨by rfl, ?_⟩) (by assumption) ?_
              rotate_left
              · (intro w hSw; (try dsimp only at hSw); have q1 := cell_of_below hSw d2; have q2 := cell_of_below hSw e2; have q3 := cell_of_below hSw h0; have q4 := cell_of_below hSw h0'; have q5 := cell_of_below hSw h1; have q6 := cell_of_below hSw h1'; have k1 := run_str (P := Try.prog) 24 9 5 Try.underlying24 Try.underlying5 Try.underlying9 (HS.out.below hSw); have k2 := run_str (P := Try.prog) 24 9 5 Try.underlying24 Try.underlying5 Try.underlying9 (HS'.out.below hSw); clear hSw; go_simp; first | done | with_reducible rfl)
              try simp only [Act.put, List.setIfInBounds_toArray, List.set_cons_zero, List.set_cons_succ]
              refine wpAnyH_take (i := 12) (oi := ?_) (v := ?_) (by simp only [List.getElem?_toArray, List.getElem?_cons_zero, List.getElem?_cons_succ]; rfl) (by kernel_rfl) (by kernel_rfl) (by kernel_rfl) (by exact fun _ _ _ h => h) (Or.inl ⟨by rfl, ?_⟩) (by assumption) ?_
              rotate_left
              · (intro w hSw; (try dsimp only at hSw); have q1 := cell_of_below hSw d2; have q2 := cell_of_below hSw e2; have q3 := cell_of_below hSw h0; have q4 := cell_of_below hSw h0'; have q5 := cell_of_below hSw h1; have q6 := cell_of_below hSw h1'; have k1 := run_str (P := Try.prog) 24 9 5 Try.underlying24 Try.underlying5 Try.underlying9 (HS.out.below hSw); have k2 := run_str (P := Try.prog) 24 9 5 Try.underlying24 Try.underlying5 Try.underlying9 (HS'.out.below hSw); clear hSw; go_simp; first | done | with_reducible rfl)
              try simp only [Act.put, List.setIfInBounds_toArray, List.set_cons_zero, List.set_cons_succ]
              refine wpAnyH_take (i := 13) (oi := ?_) (v := ?_) (by simp only [List.getElem?_toArray, List.getElem?_cons_zero, List.getElem?_cons_succ]; rfl) (by kernel_rfl) (by kernel_rfl) (by kernel_rfl) (by exact fun _ _ _ h => h) (Or.inl ⟨by rfl, ?_⟩) (by assumption) ?_
              rotate_left
              · (intro w hSw; (try dsimp only at hSw); have q1 := cell_of_below hSw d2; have q2 := cell_of_below hSw e2; have q3 := cell_of_below hSw h0; have q4 := cell_of_below hSw h0'; have q5 := cell_of_below hSw h1; have q6 := cell_of_below hSw h1'; have k1 := run_str (P := Try.prog) 24 9 5 Try.underlying24 Try.underlying5 Try.underlying9 (HS.out.below hSw); have k2 := run_str (P := Try.prog) 24 9 5 Try.underlying24 Try.underlying5 Try.underlying9 (HS'.out.below hSw); clear hSw; go_simp; first | done | with_reducible rfl)
              try simp only [Act.put, List.setIfInBounds_toArray, List.set_cons_zero, List.set_cons_succ]
              refine wpAnyH_take (i := 14) (oi := ?_) (v := ?_) (by simp only [List.getElem?_toArray, List.getElem?_cons_zero, List.getElem?_cons_succ]; rfl) (by kernel_rfl) (by kernel_rfl) (by kernel_rfl) (by exact fun _ _ _ h => h) (Or.inl ⟨by rfl, ?_⟩) (by assumption) ?_
              rotate_left
              · (intro w hSw; (try dsimp only at hSw); have q1 := cell_of_below hSw d2; have q2 := cell_of_below hSw e2; have q3 := cell_of_below hSw h0; have q4 := cell_of_below hSw h0'; have q5 := cell_of_below hSw h1; have q6 := cell_of_below hSw h1'; have k1 := run_str (P := Try.prog) 24 9 5 Try.underlying24 Try.underlying5 Try.underlying9 (HS.out.below hSw); have k2 := run_str (P := Try.prog) 24 9 5 Try.underlying24 Try.underlying5 Try.underlying9 (HS'.out.below hSw); clear hSw; go_simp; first | done | with_reducible rfl)
              try simp only [Act.put, List.setIfInBounds_toArray, List.set_cons_zero, List.set_cons_succ]
              refine wpAnyH_take (i := 15) (oi := ?_) (v := ?_) (by simp only [List.getElem?_toArray, List.getElem?_cons_zero, List.getElem?_cons_succ]; rfl) (by kernel_rfl) (by kernel_rfl) (by kernel_rfl) (by exact fun _ _ _ h => h) (Or.inl ⟨by rfl, ?_⟩) (by assumption) ?_
              rotate_left
              · (intro w hSw; (try dsimp only at hSw); have q1 := cell_of_below hSw d2; have q2 := cell_of_below hSw e2; have q3 := cell_of_below hSw h0; have q4 := cell_of_below hSw h0'; have q5 := cell_of_below hSw h1; have q6 := cell_of_below hSw h1'; have k1 := run_str (P := Try.prog) 24 9 5 Try.underlying24 Try.underlying5 Try.underlying9 (HS.out.below hSw); have k2 := run_str (P := Try.prog) 24 9 5 Try.underlying24 Try.underlying5 Try.underlying9 (HS'.out.below hSw); clear hSw; go_simp; first | done | with_reducible rfl)
              try simp only [Act.put, List.setIfInBounds_toArray, List.set_cons_zero, List.set_cons_succ]
              refine wpAnyH_take (i := 16) (oi := ?_) (v := ?_) (by simp only [List.getElem?_toArray, List.getElem?_cons_zero, List.getElem?_cons_succ]; rfl) (by kernel_rfl) (by kernel_rfl) (by kernel_rfl) (by exact fun _ _ _ h => h) (Or.inl ⟨by rfl, ?_⟩) (by assumption) ?_
              rotate_left
              · (intro w hSw; (try dsimp only at hSw); have q1 := cell_of_below hSw d2; have q2 := cell_of_below hSw e2; have q3 := cell_of_below hSw h0; have q4 := cell_of_below hSw h0'; have q5 := cell_of_below hSw h1; have q6 := cell_of_below hSw h1'; have k1 := run_str (P := Try.prog) 24 9 5 Try.underlying24 Try.underlying5 Try.underlying9 (HS.out.below hSw); have k2 := run_str (P := Try.prog) 24 9 5 Try.underlying24 Try.underlying5 Try.underlying9 (HS'.out.below hSw); clear hSw; go_simp; first | done | with_reducible rfl)
              try simp only [Act.put, List.setIfInBounds_toArray, List.set_cons_zero, List.set_cons_succ]
              refine wpAnyH_take (i := 17) (oi := ?_) (v := ?_) (by simp only [List.getElem?_toArray, List.getElem?_cons_zero, List.getElem?_cons_succ]; rfl) (by kernel_rfl) (by kernel_rfl) (by kernel_rfl) (by exact fun _ _ _ h => h) (Or.inl ⟨by rfl, ?_⟩) (by assumption) ?_
              rotate_left
              · (intro w hSw; (try dsimp only at hSw); have q1 := cell_of_below hSw d2; have q2 := cell_of_below hSw e2; have q3 := cell_of_below hSw h0; have q4 := cell_of_below hSw h0'; have q5 := cell_of_below hSw h1; have q6 := cell_of_below hSw h1'; have k1 := run_str (P := Try.prog) 24 9 5 Try.underlying24 Try.underlying5 Try.underlying9 (HS.out.below hSw); have k2 := run_str (P := Try.prog) 24 9 5 Try.underlying24 Try.underlying5 Try.underlying9 (HS'.out.below hSw); clear hSw; go_simp; first | done | with_reducible rfl)
              try simp only [Act.put, List.setIfInBounds_toArray, List.set_cons_zero, List.set_cons_succ]
              refine wpAnyH_take (i := 18) (oi := ?_) (v := ?_) (by simp only [List.getElem?_toArray, List.getElem?_cons_zero, List.getElem?_cons_succ]; rfl) (by kernel_rfl) (by kernel_rfl) (by kernel_rfl) (by exact fun _ _ _ h => h) (Or.inl ⟨by rfl, ?_⟩) (by assumption) ?_
              rotate_left
              · (intro w hSw; (try dsimp only at hSw); have q1 := cell_of_below hSw d2; have q2 := cell_of_below hSw e2; have q3 := cell_of_below hSw h0; have q4 := cell_of_below hSw h0'; have q5 := cell_of_below hSw h1; have q6 := cell_of_below hSw h1'; have k1 := run_str (P := Try.prog) 24 9 5 Try.underlying24 Try.underlying5 Try.underlying9 (HS.out.below hSw); have k2 := run_str (P := Try.prog) 24 9 5 Try.underlying24 Try.underlying5 Try.underlying9 (HS'.out.below hSw); clear hSw; go_simp; first | done | with_reducible rfl)
              try simp only [Act.put, List.setIfInBounds_toArray, List.set_cons_zero, List.set_cons_succ]
              refine wpAnyH_take (i := 19) (oi := ?_) (v := ?_) (by simp only [List.getElem?_toArray, List.getElem?_cons_zero, List.getElem?_cons_succ]; rfl) (by kernel_rfl) (by kernel_rfl) (by kernel_rfl) (by exact fun _ _ _ h => h) (Or.inl ⟨by rfl, ?_⟩) (by assumption) ?_
              rotate_left
              · (intro w hSw; (try dsimp only at hSw); have q1 := cell_of_below hSw d2; have q2 := cell_of_below hSw e2; have q3 := cell_of_below hSw h0; have q4 := cell_of_below hSw h0'; have q5 := cell_of_below hSw h1; have q6 := cell_of_below hSw h1'; have k1 := run_str (P := Try.prog) 24 9 5 Try.underlying24 Try.underlying5 Try.underlying9 (HS.out.below hSw); have k2 := run_str (P := Try.prog) 24 9 5 Try.underlying24 Try.underlying5 Try.underlying9 (HS'.out.below hSw); clear hSw; go_simp; first | done | with_reducible rfl)
              try simp only [Act.put, List.setIfInBounds_toArray, List.set_cons_zero, List.set_cons_succ]
              refine wpAnyH_take (i := 20) (oi := ?_) (v := ?_) (by simp only [List.getElem?_toArray, List.getElem?_cons_zero, List.getElem?_cons_succ]; rfl) (by kernel_rfl) (by kernel_rfl) (by kernel_rfl) (by exact fun _ _ _ h => h) (Or.inl ⟨by rfl, ?_⟩) (by assumption) ?_
              rotate_left
              · (intro w hSw; (try dsimp only at hSw); have q1 := cell_of_below hSw d2; have q2 := cell_of_below hSw e2; have q3 := cell_of_below hSw h0; have q4 := cell_of_below hSw h0'; have q5 := cell_of_below hSw h1; have q6 := cell_of_below hSw h1'; have k1 := run_str (P := Try.prog) 24 9 5 Try.underlying24 Try.underlying5 Try.underlying9 (HS.out.below hSw); have k2 := run_str (P := Try.prog) 24 9 5 Try.underlying24 Try.underlying5 Try.underlying9 (HS'.out.below hSw); clear hSw; go_simp; first | done | with_reducible rfl)
              try simp only [Act.put, List.setIfInBounds_toArray, List.set_cons_zero, List.set_cons_succ]
              refine wpAnyH_take (i := 21) (oi := ?_) (v := ?_) (by simp only [List.getElem?_toArray, List.getElem?_cons_zero, List.getElem?_cons_succ]; rfl) (by kernel_rfl) (by kernel_rfl) (by kernel_rfl) (by exact fun _ _ _ h => h) (Or.inl ⟨by rfl, ?_⟩) (by assumption) ?_
              rotate_left
              · (intro w hSw; (try dsimp only at hSw); have q1 := cell_of_below hSw d2; have q2 := cell_of_below hSw e2; have q3 := cell_of_below hSw h0; have q4 := cell_of_below hSw h0'; have q5 := cell_of_below hSw h1; have q6 := cell_of_below hSw h1'; have k1 := run_str (P := Try.prog) 24 9 5 Try.underlying24 Try.underlying5 Try.underlying9 (HS.out.below hSw); have k2 := run_str (P := Try.prog) 24 9 5 Try.underlying24 Try.underlying5 Try.underlying9 (HS'.out.below hSw); clear hSw; go_simp; first | done | with_reducible rfl)
              try simp only [Act.put, List.setIfInBounds_toArray, List.set_cons_zero, List.set_cons_succ]
              refine wpAnyH_take (i := 22) (oi := ?_) (v := ?_) (by simp only [List.getElem?_toArray, List.getElem?_cons_zero, List.getElem?_cons_succ]; rfl) (by kernel_rfl) (by kernel_rfl) (by kernel_rfl) (by exact fun _ _ _ h => h) (Or.inl ⟨by rfl, ?_⟩) (by assumption) ?_
              rotate_left
              · (intro w hSw; (try dsimp only at hSw); have q1 := cell_of_below hSw d2; have q2 := cell_of_below hSw e2; have q3 := cell_of_below hSw h0; have q4 := cell_of_below hSw h0'; have q5 := cell_of_below hSw h1; have q6 := cell_of_below hSw h1'; have k1 := run_str (P := Try.prog) 24 9 5 Try.underlying24 Try.underlying5 Try.underlying9 (HS.out.below hSw); have k2 := run_str (P := Try.prog) 24 9 5 Try.underlying24 Try.underlying5 Try.underlying9 (HS'.out.below hSw); clear hSw; go_simp; first | done | with_reducible rfl)
              try simp only [Act.put, List.setIfInBounds_toArray, List.set_cons_zero, List.set_cons_succ]
              refine wpAnyH_take (i := 23) (oi := ?_) (v := ?_) (by simp only [List.getElem?_toArray, List.getElem?_cons_zero, List.getElem?_cons_succ]; rfl) (by kernel_rfl) (by kernel_rfl) (by kernel_rfl) (by exact fun _ _ _ h => h) (Or.inl ⟨by rfl, ?_⟩) (by assumption) ?_
              rotate_left
              · (intro w hSw; (try dsimp only at hSw); have q1 := cell_of_below hSw d2; have q2 := cell_of_below hSw e2; have q3 := cell_of_below hSw h0; have q4 := cell_of_below hSw h0'; have q5 := cell_of_below hSw h1; have q6 := cell_of_below hSw h1'; have k1 := run_str (P := Try.prog) 24 9 5 Try.underlying24 Try.underlying5 Try.underlying9 (HS.out.below hSw); have k2 := run_str (P := Try.prog) 24 9 5 Try.underlying24 Try.underlying5 Try.underlying9 (HS'.out.below hSw); clear hSw; go_simp; first | done | with_reducible rfl)
              try simp only [Act.put, List.setIfInBounds_toArray, List.set_cons_zero, List.set_cons_succ]
              refine wpAnyH_take (i := 24) (oi := ?_) (v := ?_) (by simp only [List.getElem?_toArray, List.getElem?_cons_zero, List.getElem?_cons_succ]; rfl) (by kernel_rfl) (by kernel_rfl) (by kernel_rfl) (by exact fun _ _ _ h => h) (Or.inl ⟨by rfl, ?_⟩) (by assumption) ?_
              rotate_left
              · (intro w hSw; (try dsimp only at hSw); have q1 := cell_of_below hSw d2; have q2 := cell_of_below hSw e2; have q3 := cell_of_below hSw h0; have q4 := cell_of_below hSw h0'; have q5 := cell_of_below hSw h1; have q6 := cell_of_below hSw h1'; have k1 := run_str (P := Try.prog) 24 9 5 Try.underlying24 Try.underlying5 Try.underlying9 (HS.out.below hSw); have k2 := run_str (P := Try.prog) 24 9 5 Try.underlying24 Try.underlying5 Try.underlying9 (HS'.out.below hSw); clear hSw; go_simp; first | done | with_reducible rfl)
              try simp only [Act.put, List.setIfInBounds_toArray, List.set_cons_zero, List.set_cons_succ]
              refine wpAnyH_take (i := 25) (oi := ?_) (v := ?_) (by simp only [List.getElem?_toArray, List.getElem?_cons_zero, List.getElem?_cons_succ]; rfl) (by kernel_rfl) (by kernel_rfl) (by kernel_rfl) (by exact fun _ _ _ h => h) (Or.inl ⟨by rfl, ?_⟩) (by assumption) ?_
              rotate_left
              · (intro w hSw; (try dsimp only at hSw); have q1 := cell_of_below hSw d2; have q2 := cell_of_below hSw e2; have q3 := cell_of_below hSw h0; have q4 := cell_of_below hSw h0'; have q5 := cell_of_below hSw h1; have q6 := cell_of_below hSw h1'; have k1 := run_str (P := Try.prog) 24 9 5 Try.underlying24 Try.underlying5 Try.underlying9 (HS.out.below hSw); have k2 := run_str (P := Try.prog) 24 9 5 Try.underlying24 Try.underlying5 Try.underlying9 (HS'.out.below hSw); clear hSw; go_simp; first | done | with_reducible rfl)
              try simp only [Act.put, List.setIfInBounds_toArray, List.set_cons_zero, List.set_cons_succ]
              refine wpAnyH_take (i := 26) (oi := ?_) (v := ?_) (by simp only [List.getElem?_toArray, List.getElem?_cons_zero, List.getElem?_cons_succ]; rfl) (by kernel_rfl) (by kernel_rfl) (by kernel_rfl) (by exact fun _ _ _ h => h) (Or.inl ⟨by rfl, ?_⟩) (by assumption) ?_
              rotate_left
              · (intro w hSw; (try dsimp only at hSw); have q1 := cell_of_below hSw d2; have q2 := cell_of_below hSw e2; have q3 := cell_of_below hSw h0; have q4 := cell_of_below hSw h0'; have q5 := cell_of_below hSw h1; have q6 := cell_of_below hSw h1'; have k1 := run_str (P := Try.prog) 24 9 5 Try.underlying24 Try.underlying5 Try.underlying9 (HS.out.below hSw); have k2 := run_str (P := Try.prog) 24 9 5 Try.underlying24 Try.underlying5 Try.underlying9 (HS'.out.below hSw); clear hSw; go_simp; first | done | with_reducible rfl)
              try simp only [Act.put, List.setIfInBounds_toArray, List.set_cons_zero, List.set_cons_succ]
              refine wpAnyH_take (i := 27) (oi := ?_) (v := ?_) (by simp only [List.getElem?_toArray, List.getElem?_cons_zero, List.getElem?_cons_succ]; rfl) (by kernel_rfl) (by kernel_rfl) (by kernel_rfl) (by exact fun _ _ _ h => h) (Or.inl ⟨by rfl, ?_⟩) (by assumption) ?_
              rotate_left
              · (intro w hSw; (try dsimp only at hSw); have q1 := cell_of_below hSw d2; have q2 := cell_of_below hSw e2; have q3 := cell_of_below hSw h0; have q4 := cell_of_below hSw h0'; have q5 := cell_of_below hSw h1; have q6 := cell_of_below hSw h1'; have k1 := run_str (P := Try.prog) 24 9 5 Try.underlying24 Try.underlying5 Try.underlying9 (HS.out.below hSw); have k2 := run_str (P := Try.prog) 24 9 5 Try.underlying24 Try.underlying5 Try.underlying9 (HS'.out.below hSw); clear hSw; go_simp; first | done | with_reducible rfl)
              try simp only [Act.put, List.setIfInBounds_toArray, List.set_cons_zero, List.set_cons_succ]
              refine wpAnyH_take (i := 28) (oi := ?_) (v := ?_) (by simp only [List.getElem?_toArray, List.getElem?_cons_zero, List.getElem?_cons_succ]; rfl) (by kernel_rfl) (by kernel_rfl) (by kernel_rfl) (by exact fun _ _ _ h => h) (Or.inl ⟨by rfl, ?_⟩) (by assumption) ?_
              rotate_left
              · (intro w hSw; (try dsimp only at hSw); have q1 := cell_of_below hSw d2; have q2 := cell_of_below hSw e2; have q3 := cell_of_below hSw h0; have q4 := cell_of_below hSw h0'; have q5 := cell_of_below hSw h1; have q6 := cell_of_below hSw h1'; have k1 := run_str (P := Try.prog) 24 9 5 Try.underlying24 Try.underlying5 Try.underlying9 (HS.out.below hSw); have k2 := run_str (P := Try.prog) 24 9 5 Try.underlying24 Try.underlying5 Try.underlying9 (HS'.out.below hSw); clear hSw; go_simp; first | done | with_reducible rfl)
              try simp only [Act.put, List.setIfInBounds_toArray, List.set_cons_zero, List.set_cons_succ]
              refine wpAnyH_take (i := 29) (oi := ?_) (v := ?_) (by simp only [List.getElem?_toArray, List.getElem?_cons_zero, List.getElem?_cons_succ]; rfl) (by kernel_rfl) (by kernel_rfl) (by kernel_rfl) (by exact fun _ _ _ h => h) (Or.inl ⟨by rfl, ?_⟩) (by assumption) ?_
              rotate_left
              · (intro w hSw; (try dsimp only at hSw); have q1 := cell_of_below hSw d2; have q2 := cell_of_below hSw e2; have q3 := cell_of_below hSw h0; have q4 := cell_of_below hSw h0'; have q5 := cell_of_below hSw h1; have q6 := cell_of_below hSw h1'; have k1 := run_str (P := Try.prog) 24 9 5 Try.underlying24 Try.underlying5 Try.underlying9 (HS.out.below hSw); have k2 := run_str (P := Try.prog) 24 9 5 Try.underlying24 Try.underlying5 Try.underlying9 (HS'.out.below hSw); clear hSw; go_simp; first | done | with_reducible rfl)
              try simp only [Act.put, List.setIfInBounds_toArray, List.set_cons_zero, List.set_cons_succ]
              refine wpAnyH_done (by kernel_rfl) ?_ _
              have HB4 := As.mk (HBVW.out.trans (hHeld.mono HBVW.out.size))
              clear hHeld
              go_wp2
              go_ret
              rw [decide_eq_false (fun h => ne_at HK.out HK'.out HE.out (HXY.out.1 h).2.2.2)]
              exact ⟨rfl, HB4.out⟩
          · have b1 : ((x.value : Int) == (y.value : Int)) = false := beq_eq_false_iff_ne.mpr (by omega)
            have b2 : ((x.value : Int) != (y.value : Int)) = true := by rw [bne_iff_ne]; omega
            have HE : As (x ≠ y) := ⟨fun h => hv (by rw [h])⟩
            clear hv
            go_upto_region 12 with fail
            refine wp_region_held_drew (S := (fun V : World => Below wr.heap.size wr V)) (by kernel_rfl) ?_ (fun hHeld => ?_)
            · exact below_dr wr
            refine wpAnyH_take (i := 0) (oi := ?_) (v := ?_) (by simp only [List.getElem?_toArray, List.getElem?_cons_zero, List.getElem?_cons_succ]; rfl) (by kernel_rfl) (by kernel_rfl) (by kernel_rfl) (by exact fun _ _ _ h => h) (Or.inl ⟨by rfl, ?_⟩) (by assumption) ?_
            rotate_left
            · (intro w hSw; (try dsimp only at hSw); have q1 := cell_of_below hSw d2; have q2 := cell_of_below hSw e2; have q3 := cell_of_below hSw h0; have q4 := cell_of_below hSw h0'; have q5 := cell_of_below hSw h1; have q6 := cell_of_below hSw h1'; have k1 := run_str (P := Try.prog) 24 9 5 Try.underlying24 Try.underlying5 Try.underlying9 (HS.out.below hSw); have k2 := run_str (P := Try.prog) 24 9 5 Try.underlying24 Try.underlying5 Try.underlying9 (HS'.out.below hSw); clear hSw; go_simp; first | done | with_reducible rfl)
            try simp only [Act.put, List.setIfInBounds_toArray, List.set_cons_zero, List.set_cons_succ]
            refine wpAnyH_take (i := 1) (oi := ?_) (v := ?_) (by simp only [List.getElem?_toArray, List.getElem?_cons_zero, List.getElem?_cons_succ]; rfl) (by kernel_rfl) (by kernel_rfl) (by kernel_rfl) (by exact fun _ _ _ h => h) (Or.inl ⟨by rfl, ?_⟩) (by assumption) ?_
            rotate_left
            · (intro w hSw; (try dsimp only at hSw); have q1 := cell_of_below hSw d2; have q2 := cell_of_below hSw e2; have q3 := cell_of_below hSw h0; have q4 := cell_of_below hSw h0'; have q5 := cell_of_below hSw h1; have q6 := cell_of_below hSw h1'; have k1 := run_str (P := Try.prog) 24 9 5 Try.underlying24 Try.underlying5 Try.underlying9 (HS.out.below hSw); have k2 := run_str (P := Try.prog) 24 9 5 Try.underlying24 Try.underlying5 Try.underlying9 (HS'.out.below hSw); clear hSw; go_simp; first | done | with_reducible rfl)
            try simp only [Act.put, List.setIfInBounds_toArray, List.set_cons_zero, List.set_cons_succ]
            refine wpAnyH_take (i := 2) (oi := ?_) (v := ?_) (by simp only [List.getElem?_toArray, List.getElem?_cons_zero, List.getElem?_cons_succ]; rfl) (by kernel_rfl) (by kernel_rfl) (by kernel_rfl) (by exact fun _ _ _ h => h) (Or.inl ⟨by rfl, ?_⟩) (by assumption) ?_
            rotate_left
            · (intro w hSw; (try dsimp only at hSw); have q1 := cell_of_below hSw d2; have q2 := cell_of_below hSw e2; have q3 := cell_of_below hSw h0; have q4 := cell_of_below hSw h0'; have q5 := cell_of_below hSw h1; have q6 := cell_of_below hSw h1'; have k1 := run_str (P := Try.prog) 24 9 5 Try.underlying24 Try.underlying5 Try.underlying9 (HS.out.below hSw); have k2 := run_str (P := Try.prog) 24 9 5 Try.underlying24 Try.underlying5 Try.underlying9 (HS'.out.below hSw); clear hSw; go_simp; first | done | with_reducible rfl)
            try simp only [Act.put, List.setIfInBounds_toArray, List.set_cons_zero, List.set_cons_succ]
            refine wpAnyH_take (i := 3) (oi := ?_) (v := ?_) (by simp only [List.getElem?_toArray, List.getElem?_cons_zero, List.getElem?_cons_succ]; rfl) (by kernel_rfl) (by kernel_rfl) (by kernel_rfl) (by exact fun _ _ _ h => h) (Or.inl ⟨by rfl, ?_⟩) (by assumption) ?_
            rotate_left
            · (intro w hSw; (try dsimp only at hSw); have q1 := cell_of_below hSw d2; have q2 := cell_of_below hSw e2; have q3 := cell_of_below hSw h0; have q4 := cell_of_below hSw h0'; have q5 := cell_of_below hSw h1; have q6 := cell_of_below hSw h1'; have k1 := run_str (P := Try.prog) 24 9 5 Try.underlying24 Try.underlying5 Try.underlying9 (HS.out.below hSw); have k2 := run_str (P := Try.prog) 24 9 5 Try.underlying24 Try.underlying5 Try.underlying9 (HS'.out.below hSw); clear hSw; go_simp; first | done | with_reducible rfl)
            try simp only [Act.put, List.setIfInBounds_toArray, List.set_cons_zero, List.set_cons_succ]
            refine wpAnyH_take (i := 4) (oi := ?_) (v := ?_) (by simp only [List.getElem?_toArray, List.getElem?_cons_zero, List.getElem?_cons_succ]; rfl) (by kernel_rfl) (by kernel_rfl) (by kernel_rfl) (by exact fun _ _ _ h => h) (Or.inl ⟨by rfl, ?_⟩) (by assumption) ?_
            rotate_left
            · (intro w hSw; (try dsimp only at hSw); have q1 := cell_of_below hSw d2; have q2 := cell_of_below hSw e2; have q3 := cell_of_below hSw h0; have q4 := cell_of_below hSw h0'; have q5 := cell_of_below hSw h1; have q6 := cell_of_below hSw h1'; have k1 := run_str (P := Try.prog) 24 9 5 Try.underlying24 Try.underlying5 Try.underlying9 (HS.out.below hSw); have k2 := run_str (P := Try.prog) 24 9 5 Try.underlying24 Try.underlying5 Try.underlying9 (HS'.out.below hSw); clear hSw; go_simp; first | done | with_reducible rfl)
            try simp only [Act.put, List.setIfInBounds_toArray, List.set_cons_zero, List.set_cons_succ]
            refine wpAnyH_take (i := 5) (oi := ?_) (v := ?_) (by simp only [List.getElem?_toArray, List.getElem?_cons_zero, List.getElem?_cons_succ]; rfl) (by kernel_rfl) (by kernel_rfl) (by kernel_rfl) (by exact fun _ _ _ h => h) (Or.inl ⟨by rfl, ?_⟩) (by assumption) ?_
            rotate_left
            · (intro w hSw; (try dsimp only at hSw); have q1 := cell_of_below hSw d2; have q2 := cell_of_below hSw e2; have q3 := cell_of_below hSw h0; have q4 := cell_of_below hSw h0'; have q5 := cell_of_below hSw h1; have q6 := cell_of_below hSw h1'; have k1 := run_str (P := Try.prog) 24 9 5 Try.underlying24 Try.underlying5 Try.underlying9 (HS.out.below hSw); have k2 := run_str (P := Try.prog) 24 9 5 Try.underlying24 Try.underlying5 Try.underlying9 (HS'.out.below hSw); clear hSw; go_simp; first | done | with_reducible rfl)
            try simp only [Act.put, List.setIfInBounds_toArray, List.set_cons_zero, List.set_cons_succ]
            refine wpAnyH_take (i := 6) (oi := ?_) (v := ?_) (by simp only [List.getElem?_toArray, List.getElem?_cons_zero, List.getElem?_cons_succ]; rfl) (by kernel_rfl) (by kernel_rfl) (by kernel_rfl) (by exact fun _ _ _ h => h) (Or.inl ⟨by rfl, ?_⟩) (by assumption) ?_
            rotate_left
            · (intro w hSw; (try dsimp only at hSw); have q1 := cell_of_below hSw d2; have q2 := cell_of_below hSw e2; have q3 := cell_of_below hSw h0; have q4 := cell_of_below hSw h0'; have q5 := cell_of_below hSw h1; have q6 := cell_of_below hSw h1'; have k1 := run_str (P := Try.prog) 24 9 5 Try.underlying24 Try.underlying5 Try.underlying9 (HS.out.below hSw); have k2 := run_str (P := Try.prog) 24 9 5 Try.underlying24 Try.underlying5 Try.underlying9 (HS'.out.below hSw); clear hSw; go_simp; first | done | with_reducible rfl)
            try simp only [Act.put, List.setIfInBounds_toArray, List.set_cons_zero, List.set_cons_succ]
            refine wpAnyH_take (i := 7) (oi := ?_) (v := ?_) (by simp only [List.getElem?_toArray, List.getElem?_cons_zero, List.getElem?_cons_succ]; rfl) (by kernel_rfl) (by kernel_rfl) (by kernel_rfl) (by exact fun _ _ _ h => h) (Or.inl ⟨by rfl, ?_⟩) (by assumption) ?_
            rotate_left
            · (intro w hSw; (try dsimp only at hSw); have q1 := cell_of_below hSw d2; have q2 := cell_of_below hSw e2; have q3 := cell_of_below hSw h0; have q4 := cell_of_below hSw h0'; have q5 := cell_of_below hSw h1; have q6 := cell_of_below hSw h1'; have k1 := run_str (P := Try.prog) 24 9 5 Try.underlying24 Try.underlying5 Try.underlying9 (HS.out.below hSw); have k2 := run_str (P := Try.prog) 24 9 5 Try.underlying24 Try.underlying5 Try.underlying9 (HS'.out.below hSw); clear hSw; go_simp; first | done | with_reducible rfl)
            try simp only [Act.put, List.setIfInBounds_toArray, List.set_cons_zero, List.set_cons_succ]
            refine wpAnyH_take (i := 8) (oi := ?_) (v := ?_) (by simp only [List.getElem?_toArray, List.getElem?_cons_zero, List.getElem?_cons_succ]; rfl) (by kernel_rfl) (by kernel_rfl) (by kernel_rfl) (by exact fun _ _ _ h => h) (Or.inl ⟨by rfl, ?_⟩) (by assumption) ?_
            rotate_left
            · (intro w hSw; (try dsimp only at hSw); have q1 := cell_of_below hSw d2; have q2 := cell_of_below hSw e2; have q3 := cell_of_below hSw h0; have q4 := cell_of_below hSw h0'; have q5 := cell_of_below hSw h1; have q6 := cell_of_below hSw h1'; have k1 := run_str (P := Try.prog) 24 9 5 Try.underlying24 Try.underlying5 Try.underlying9 (HS.out.below hSw); have k2 := run_str (P := Try.prog) 24 9 5 Try.underlying24 Try.underlying5 Try.underlying9 (HS'.out.below hSw); clear hSw; go_simp; first | done | with_reducible rfl)
            try simp only [Act.put, List.setIfInBounds_toArray, List.set_cons_zero, List.set_cons_succ]
            refine wpAnyH_take (i := 9) (oi := ?_) (v := ?_) (by simp only [List.getElem?_toArray, List.getElem?_cons_zero, List.getElem?_cons_succ]; rfl) (by kernel_rfl) (by kernel_rfl) (by kernel_rfl) (by exact fun _ _ _ h => h) (Or.inl ⟨by rfl, ?_⟩) (by assumption) ?_
            rotate_left
            · (intro w hSw; (try dsimp only at hSw); have q1 := cell_of_below hSw d2; have q2 := cell_of_below hSw e2; have q3 := cell_of_below hSw h0; have q4 := cell_of_below hSw h0'; have q5 := cell_of_below hSw h1; have q6 := cell_of_below hSw h1'; have k1 := run_str (P := Try.prog) 24 9 5 Try.underlying24 Try.underlying5 Try.underlying9 (HS.out.below hSw); have k2 := run_str (P := Try.prog) 24 9 5 Try.underlying24 Try.underlying5 Try.underlying9 (HS'.out.below hSw); clear hSw; go_simp; first | done | with_reducible rfl)
            try simp only [Act.put, List.setIfInBounds_toArray, List.set_cons_zero, List.set_cons_succ]
            refine wpAnyH_take (i := 10) (oi := ?_) (v := ?_) (by simp only [List.getElem?_toArray, List.getElem?_cons_zero, List.getElem?_cons_succ]; rfl) (by kernel_rfl) (by kernel_rfl) (by kernel_rfl) (by exact fun _ _ _ h => h) (Or.inl ⟨by rfl, ?_⟩) (by assumption) ?_
            rotate_left
            · (intro w hSw; (try dsimp only at hSw); have q1 := cell_of_below hSw d2; have q2 := cell_of_below hSw e2; have q3 := cell_of_below hSw h0; have q4 := cell_of_below hSw h0'; have q5 := cell_of_below hSw h1; have q6 := cell_of_below hSw h1'; have k1 := run_str (P := Try.prog) 24 9 5 Try.underlying24 Try.underlying5 Try.underlying9 (HS.out.below hSw); have k2 := run_str (P := Try.prog) 24 9 5 Try.underlying24 Try.underlying5 Try.underlying9 (HS'.out.below hSw); clear hSw; go_simp; first | done | with_reducible rfl)
            try simp only [Act.put, List.setIfInBounds_toArray, List.set_cons_zero, List.set_cons_succ]
            refine wpAnyH_take (i := 11) (oi := ?_) (v := ?_) (by simp only [List.getElem?_toArray, List.getElem?_cons_zero, List.getElem?_cons_succ]; rfl) (by kernel_rfl) (by kernel_rfl) (by kernel_rfl) (by exact fun _ _ _ h => h) (Or.inl ⟨by rfl, ?_⟩) (by assumption) ?_
            rotate_left
            · (intro w hSw; (try dsimp only at hSw); have q1 := cell_of_below hSw d2; have q2 := cell_of_below hSw e2; have q3 := cell_of_below hSw h0; have q4 := cell_of_below hSw h0'; have q5 := cell_of_below hSw h1; have q6 := cell_of_below hSw h1'; have k1 := run_str (P := Try.prog) 24 9 5 Try.underlying24 Try.underlying5 Try.underlying9 (HS.out.below hSw); have k2 := run_str (P := Try.prog) 24 9 5 Try.underlying24 Try.underlying5 Try.underlying9 (HS'.out.below hSw); clear hSw; go_simp; first | done | with_reducible rfl)
            try simp only [Act.put, List.setIfInBounds_toArray, List.set_cons_zero, List.set_cons_succ]
            refine wpAnyH_take (i := 12) (oi := ?_) (v := ?_) (by simp only [List.getElem?_toArray, List.getElem?_cons_zero, List.getElem?_cons_succ]; rfl) (by kernel_rfl) (by kernel_rfl) (by kernel_rfl) (by exact fun _ _ _ h => h) (Or.inl ⟨by rfl, ?_⟩) (by assumption) ?_
            rotate_left
            · (intro w hSw; (try dsimp only at hSw); have q1 := cell_of_below hSw d2; have q2 := cell_of_below hSw e2; have q3 := cell_of_below hSw h0; have q4 := cell_of_below hSw h0'; have q5 := cell_of_below hSw h1; have q6 := cell_of_below hSw h1'; have k1 := run_str (P := Try.prog) 24 9 5 Try.underlying24 Try.underlying5 Try.underlying9 (HS.out.below hSw); have k2 := run_str (P := Try.prog) 24 9 5 Try.underlying24 Try.underlying5 Try.underlying9 (HS'.out.below hSw); clear hSw; go_simp; first | done | with_reducible rfl)
            try simp only [Act.put, List.setIfInBounds_toArray, List.set_cons_zero, List.set_cons_succ]
            refine wpAnyH_take (i := 13) (oi := ?_) (v := ?_) (by simp only [List.getElem?_toArray, List.getElem?_cons_zero, List.getElem?_cons_succ]; rfl) (by kernel_rfl) (by kernel_rfl) (by kernel_rfl) (by exact fun _ _ _ h => h) (Or.inl ⟨by rfl, ?_⟩) (by assumption) ?_
            rotate_left
            · (intro w hSw; (try dsimp only at hSw); have q1 := cell_of_below hSw d2; have q2 := cell_of_below hSw e2; have q3 := cell_of_below hSw h0; have q4 := cell_of_below hSw h0'; have q5 := cell_of_below hSw h1; have q6 := cell_of_below hSw h1'; have k1 := run_str (P := Try.prog) 24 9 5 Try.underlying24 Try.underlying5 Try.underlying9 (HS.out.below hSw); have k2 := run_str (P := Try.prog) 24 9 5 Try.underlying24 Try.underlying5 Try.underlying9 (HS'.out.below hSw); clear hSw; go_simp; first | done | with_reducible rfl)
            try simp only [Act.put, List.setIfInBounds_toArray, List.set_cons_zero, List.set_cons_succ]
            refine wpAnyH_take (i := 14) (oi := ?_) (v := undef) (by simp only [List.getElem?_toArray, List.getElem?_cons_zero, List.getElem?_cons_succ]; rfl) (by kernel_rfl) (by kernel_rfl) (by kernel_rfl) (by exact fun _ _ _ h => h) (Or.inr ⟨by rfl, rfl⟩) (by assumption) ?_
            try simp only [Act.put, List.setIfInBounds_toArray, List.set_cons_zero, List.set_cons_succ]
            refine wpAnyH_take (i := 15) (oi := ?_) (v := undef) (by simp only [List.getElem?_toArray, List.getElem?_cons_zero, List.getElem?_cons_succ]; rfl) (by kernel_rfl) (by kernel_rfl) (by kernel_rfl) (by exact fun _ _ _ h => h) (Or.inr ⟨by rfl, rfl⟩) (by assumption) ?_
            try simp only [Act.put, List.setIfInBounds_toArray, List.set_cons_zero, List.set_cons_succ]
            refine wpAnyH_take (i := 16) (oi := ?_) (v := undef) (by simp only [List.getElem?_toArray, List.getElem?_cons_zero, List.getElem?_cons_succ]; rfl) (by kernel_rfl) (by kernel_rfl) (by kernel_rfl) (by exact fun _ _ _ h => h) (Or.inr ⟨by rfl, rfl⟩) (by assumption) ?_
            try simp only [Act.put, List.setIfInBounds_toArray, List.set_cons_zero, List.set_cons_succ]
            refine wpAnyH_take (i := 17) (oi := ?_) (v := undef) (by simp only [List.getElem?_toArray, List.getElem?_cons_zero, List.getElem?_cons_succ]; rfl) (by kernel_rfl) (by kernel_rfl) (by kernel_rfl) (by exact fun _ _ _ h => h) (Or.inr ⟨by rfl, rfl⟩) (by assumption) ?_
            try simp only [Act.put, List.setIfInBounds_toArray, List.set_cons_zero, List.set_cons_succ]
            refine wpAnyH_take (i := 18) (oi := ?_) (v := undef) (by simp only [List.getElem?_toArray, List.getElem?_cons_zero, List.getElem?_cons_succ]; rfl) (by kernel_rfl) (by kernel_rfl) (by kernel_rfl) (by exact fun _ _ _ h => h) (Or.inr ⟨by rfl, rfl⟩) (by assumption) ?_
            try simp only [Act.put, List.setIfInBounds_toArray, List.set_cons_zero, List.set_cons_succ]
            refine wpAnyH_take (i := 19) (oi := ?_) (v := undef) (by simp only [List.getElem?_toArray, List.getElem?_cons_zero, List.getElem?_cons_succ]; rfl) (by kernel_rfl) (by kernel_rfl) (by kernel_rfl) (by exact fun _ _ _ h => h) (Or.inr ⟨by rfl, rfl⟩) (by assumption) ?_
            try simp only [Act.put, List.setIfInBounds_toArray, List.set_cons_zero, List.set_cons_succ]
            refine wpAnyH_take (i := 20) (oi := ?_) (v := undef) (by simp only [List.getElem?_toArray, List.getElem?_cons_zero, List.getElem?_cons_succ]; rfl) (by kernel_rfl) (by kernel_rfl) (by kernel_rfl) (by exact fun _ _ _ h => h) (Or.inr ⟨by rfl, rfl⟩) (by assumption) ?_
            try simp only [Act.put, List.setIfInBounds_toArray, List.set_cons_zero, List.set_cons_succ]
            refine wpAnyH_take (i := 21) (oi := ?_) (v := undef) (by simp only [List.getElem?_toArray, List.getElem?_cons_zero, List.getElem?_cons_succ]; rfl) (by kernel_rfl) (by kernel_rfl) (by kernel_rfl) (by exact fun _ _ _ h => h) (Or.inr ⟨by rfl, rfl⟩) (by assumption) ?_
            try simp only [Act.put, List.setIfInBounds_toArray, List.set_cons_zero, List.set_cons_succ]
            refine wpAnyH_take (i := 22) (oi := ?_) (v := undef) (by simp only [List.getElem?_toArray, List.getElem?_cons_zero, List.getElem?_cons_succ]; rfl) (by kernel_rfl) (by kernel_rfl) (by kernel_rfl) (by exact fun _ _ _ h => h) (Or.inr ⟨by rfl, rfl⟩) (by assumption) ?_
            try simp only [Act.put, List.setIfInBounds_toArray, List.set_cons_zero, List.set_cons_succ]
            refine wpAnyH_take (i := 23) (oi := ?_) (v := undef) (by simp only [List.getElem?_toArray, List.getElem?_cons_zero, List.getElem?_cons_succ]; rfl) (by kernel_rfl) (by kernel_rfl) (by kernel_rfl) (by exact fun _ _ _ h => h) (Or.inr ⟨by rfl, rfl⟩) (by assumption) ?_
            try simp only [Act.put, List.setIfInBounds_toArray, List.set_cons_zero, List.set_cons_succ]
            refine wpAnyH_take (i := 24) (oi := ?_) (v := undef) (by simp only [List.getElem?_toArray, List.getElem?_cons_zero, List.getElem?_cons_succ]; rfl) (by kernel_rfl) (by kernel_rfl) (by kernel_rfl) (by exact fun _ _ _ h => h) (Or.inr ⟨by rfl, rfl⟩) (by assumption) ?_
            try simp only [Act.put, List.setIfInBounds_toArray, List.set_cons_zero, List.set_cons_succ]
            refine wpAnyH_take (i := 25) (oi := ?_) (v := undef) (by simp only [List.getElem?_toArray, List.getElem?_cons_zero, List.getElem?_cons_succ]; rfl) (by kernel_rfl) (by kernel_rfl) (by kernel_rfl) (by exact fun _ _ _ h => h) (Or.inr ⟨by rfl, rfl⟩) (by assumption) ?_
            try simp only [Act.put, List.setIfInBounds_toArray, List.set_cons_zero, List.set_cons_succ]
            refine wpAnyH_take (i := 26) (oi := ?_) (v := undef) (by simp only [List.getElem?_toArray, List.getElem?_cons_zero, List.getElem?_cons_succ]; rfl) (by kernel_rfl) (by kernel_rfl) (by kernel_rfl) (by exact fun _ _ _ h => h) (Or.inr ⟨by rfl, rfl⟩) (by assumption) ?_
            try simp only [Act.put, List.setIfInBounds_toArray, List.set_cons_zero, List.set_cons_succ]
            refine wpAnyH_take (i := 27) (oi := ?_) (v := undef) (by simp only [List.getElem?_toArray, List.getElem?_cons_zero, List.getElem?_cons_succ]; rfl) (by kernel_rfl) (by kernel_rfl) (by kernel_rfl) (by exact fun _ _ _ h => h) (Or.inr ⟨by rfl, rfl⟩) (by assumption) ?_
            try simp only [Act.put, List.setIfInBounds_toArray, List.set_cons_zero, List.set_cons_succ]
            refine wpAnyH_take (i := 28) (oi := ?_) (v := undef) (by simp only [List.getElem?_toArray, List.getElem?_cons_zero, List.getElem?_cons_succ]; rfl) (by kernel_rfl) (by kernel_rfl) (by kernel_rfl) (by exact fun _ _ _ h => h) (Or.inr ⟨by rfl, rfl⟩) (by assumption) ?_
            try simp only [Act.put, List.setIfInBounds_toArray, List.set_cons_zero, List.set_cons_succ]
            refine wpAnyH_take (i := 29) (oi := ?_) (v := ?_) (by simp only [List.getElem?_toArray, List.getElem?_cons_zero, List.getElem?_cons_succ]; rfl) (by kernel_rfl) (by kernel_rfl) (by kernel_rfl) (by exact fun _ _ _ h => h) (Or.inl ⟨by rfl, ?_⟩) (by assumption) ?_
            rotate_left
            · (intro w hSw; (try dsimp only at hSw); have q1 := cell_of_below hSw d2; have q2 := cell_of_below hSw e2; have q3 := cell_of_below hSw h0; have q4 := cell_of_below hSw h0'; have q5 := cell_of_below hSw h1; have q6 := cell_of_below hSw h1'; have k1 := run_str (P := Try.prog) 24 9 5 Try.underlying24 Try.underlying5 Try.underlying9 (HS.out.below hSw); have k2 := run_str (P := Try.prog) 24 9 5 Try.underlying24 Try.underlying5 Try.underlying9 (HS'.out.below hSw); clear hSw; go_simp; first | done | with_reducible rfl)
            try simp only [Act.put, List.setIfInBounds_toArray, List.set_cons_zero, List.set_cons_succ]
            refine wpAnyH_done (by kernel_rfl) ?_ _
            have HB4 := As.mk (HBVW.out.trans (hHeld.mono HBVW.out.size))
            clear hHeld
            go_wp2
            go_ret
            rw [decide_eq_false (fun h => ne_at HK.out HK'.out HE.out (HXY.out.1 h).2.2.2)]
            exact ⟨rfl, HB4.out⟩
        · have HE2 : As (t.outs = u.outs) := ⟨by have := HJ.out; rwa [List.take_of_length_le (by omega), List.take_of_length_le (by have := Hho.out; omega)] at this⟩
          have HBVW := As.mk (HB.out.1.trans (HBV.out.mono HB.out.1.size))
          go_wp2
          go_ret
          rw [decide_eq_true (HXY.out.2 ⟨Hhv.out, Hhl.out, HE.out, HE2.out⟩)]
          exact ⟨rfl, HBVW.out⟩
end Go.Proofs.Ytfggkljgfadacaa.W
