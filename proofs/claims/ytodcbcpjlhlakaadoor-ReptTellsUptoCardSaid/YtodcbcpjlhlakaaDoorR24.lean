/- What is told: a step with the fields that its text tells. -/
import Derived.Test.YtodcbcpjlhlakaaDoorR23
set_option linter.unusedVariables false
set_option linter.unusedSimpArgs false
namespace Go.Proofs.YtodcbcpjlhlakaaDoor.W
open Go.RowKit Go.Proofs.YtodcbcpjlhlakaaDoor.B Go.Proofs

/-- How the world stands while only fills its step. -/
def OS (w V : World) (B B1 B2 : Nat) (c0 cs : List Value) : Prop :=
  Below w.heap.size w V ∧ Box V B c0.toArray 35 ∧ Box V B1 #[.int .i64 0, .int .i64 0, .int .i64 0, .bool false, .slice none 0 0, .slice none 0 0] 35 ∧ Box V B2 cs.toArray 35 ∧ w.heap.size ≤ B ∧ B < B1 ∧ B1 < B2
section
variable {w V V' : World} {B B1 B2 : Nat} {c0 cs : List Value}
theorem OS.set (h : OS w V B B1 B2 c0 cs) (j : Nat) (v : Value) : OS w (V.setCell ⟨B2, j, none⟩ v) B B1 B2 c0 (cs.set j v) := by
  obtain ⟨h1, h2, h3, h4, h5, h6, h7⟩ := h
  exact ⟨h1.setCell (p := ⟨B2, j, none⟩) (show w.heap.size ≤ B2 from by omega) v, h2.grown (grown_set V B2 j v) (fun e => by injection e with e; omega), h3.grown (grown_set V B2 j v) (fun e => by injection e with e; omega), h4.set j v, h5, h6, h7⟩
theorem OS.drew (h : OS w V B B1 B2 c0 cs) : OS w V.drew B B1 B2 c0 cs := ⟨h.1.drew, h.2.1, h.2.2.1, h.2.2.2.1, h.2.2.2.2⟩
theorem OS.bl (h : OS w V B B1 B2 c0 cs) : Below w.heap.size w V := h.1
theorem OS.b0 (h : OS w V B B1 B2 c0 cs) : Box V B c0.toArray 35 := h.2.1
theorem OS.b1 (h : OS w V B B1 B2 c0 cs) : Box V B1 #[.int .i64 0, .int .i64 0, .int .i64 0, .bool false, .slice none 0 0, .slice none 0 0] 35 := h.2.2.1
theorem OS.w1 (h : OS w V B B1 B2 c0 cs) : w.heap.size ≤ B1 := by have h1 := h.2.2.2.2.1; have h2 := h.2.2.2.2.2.1; omega
theorem OS.c2 (h : OS w V B B1 B2 c0 cs) (j : Nat) (v : Value) (hv : cs[j]? = some v) : V.cell? ⟨B2, j, none⟩ = some v := h.2.2.2.1.cell j v (by simpa using hv)
theorem OS.f2 (h : OS w V B B1 B2 c0 cs) (j : Nat) : V.frozen? ⟨B2, j, none⟩ = false := h.2.2.2.1.frozen j
end
/-- How only ends. -/
def OnlyE (s : LStep) (bv lv : Value) (w : World) (e : Ending) (w' : World) : Prop :=
  ∃ bv' lv', e = .returned (.agg (cellsS (onlyL s) bv' lv')) ∧ (bv' = bv ∧ (onlyL s).bs = s.bs ∨ bv' = .slice none 0 0 ∧ (onlyL s).bs = []) ∧ (lv' = lv ∧ (onlyL s).ls = s.ls ∨ lv' = .slice none 0 0 ∧ (onlyL s).ls = []) ∧ StepC w' (onlyL s) bv' lv' ∧ Below w.heap.size w w'
theorem only_end {s z : LStep} {bv lv bv' lv' : Value} {w w' : World} (hz : onlyL s = z) (h1 : bv' = bv ∧ z.bs = s.bs ∨ bv' = .slice none 0 0 ∧ z.bs = []) (h2 : lv' = lv ∧ z.ls = s.ls ∨ lv' = .slice none 0 0 ∧ z.ls = []) (hc : StepC w' z bv' lv') (hb : Below w.heap.size w w') :
    OnlyE s bv lv w (.returned (.agg (cellsS z bv' lv'))) w' := by
  subst hz
  exact ⟨bv', lv', rfl, h1, h2, hc, hb⟩
set_option maxHeartbeats 8000000 in
set_option maxRecDepth 100000 in
theorem only_any (s : LStep) (bv lv : Value) (w : World) (h : StepC w s bv lv) : Calls Tryd.prog 14 #[.agg (cellsS s bv lv)] w (OnlyE s bv lv w) := by
  obtain ⟨k, p, n, good, bs, ls⟩ := s
  obtain ⟨ha1, ha2⟩ := h
  simp only at ha1 ha2
  unfold cellsS
  dsimp only
  obtain ⟨A1, c1, rfl, -⟩ := RdB.form ha1
  obtain ⟨A2, c2, rfl, -⟩ := ha2.form
  have HA1 := As.mk ha1
  have HA2 := As.mk ha2
  clear ha1 ha2
  go_enter Tryd.func14, Tryd.ntmps14
  go_upto_region 2 with fail
  have HO : As (OS w (((w.alloc (.cells #[.int .i64 k, .int .i64 p, .int .i64 n, .bool good, .slice A1 bs.length c1, .slice A2 ls.length c2] 35)).alloc (.cells #[.int .i64 0, .int .i64 0, .int .i64 0, .bool false, .slice none 0 0, .slice none 0 0] 35)).alloc (.cells #[.int .i64 k, .int .i64 0, .int .i64 0, .bool false, .slice none 0 0, .slice none 0 0] 35)) w.heap.size (w.heap.size + 1) (w.heap.size + 1 + 1) [.int .i64 k, .int .i64 p, .int .i64 n, .bool good, .slice A1 bs.length c1, .slice A2 ls.length c2] [.int .i64 k, .int .i64 0, .int .i64 0, .bool false, .slice none 0 0, .slice none 0 0]) := ⟨by
    refine ⟨((below_al w _).alloc (by simp) _).alloc (by simp; omega) _, ?_, ?_, ?_, Nat.le_refl _, by omega, by omega⟩
    · exact Box.below (Box.below (Box.new w _ 35) (below_al _ _)) (below_al _ _)
    · have h := Box.below (Box.new (w.alloc (.cells #[.int .i64 k, .int .i64 p, .int .i64 n, .bool good, .slice A1 bs.length c1, .slice A2 ls.length c2] 35)) #[.int .i64 0, .int .i64 0, .int .i64 0, .bool false, .slice none 0 0, .slice none 0 0] 35) (below_al _ (.cells #[.int .i64 k, .int .i64 0, .int .i64 0, .bool false, .slice none 0 0, .slice none 0 0] 35))
      simpa using h
    · have h := Box.new ((w.alloc (.cells #[.int .i64 k, .int .i64 p, .int .i64 n, .bool good, .slice A1 bs.length c1, .slice A2 ls.length c2] 35)).alloc (.cells #[.int .i64 0, .int .i64 0, .int .i64 0, .bool false, .slice none 0 0, .slice none 0 0] 35)) #[.int .i64 k, .int .i64 0, .int .i64 0, .bool false, .slice none 0 0, .slice none 0 0] 35
      simpa using h⟩
  generalize (((w.alloc (.cells #[.int .i64 k, .int .i64 p, .int .i64 n, .bool good, .slice A1 bs.length c1, .slice A2 ls.length c2] 35)).alloc (.cells #[.int .i64 0, .int .i64 0, .int .i64 0, .bool false, .slice none 0 0, .slice none 0 0] 35)).alloc (.cells #[.int .i64 k, .int .i64 0, .int .i64 0, .bool false, .slice none 0 0, .slice none 0 0] 35)) = W0 at HO ⊢
  generalize w.heap.size + 1 + 1 = B2 at HO ⊢
  generalize w.heap.size + 1 = B1 at HO ⊢
  obtain ⟨B, hB⟩ : ∃ B, B = w.heap.size := ⟨_, rfl⟩
  have HWB := As.mk hB
  have HO3 : As (OS w W0 B B1 B2 [.int .i64 k, .int .i64 p, .int .i64 n, .bool good, .slice A1 bs.length c1, .slice A2 ls.length c2] [.int .i64 k, .int .i64 0, .int .i64 0, .bool false, .slice none 0 0, .slice none 0 0]) := ⟨by rw [hB]; exact HO.out⟩
  rw [← hB]
  clear hB HO
  have HO := HO3
  clear HO3
  by_cases h1 : k = 1
  · subst h1
    have s0 := HO.out.b0.cell 0 _ rfl
    go_upto_region 4 with fail
    clear s0
    have g0 := HO.out.c2 0 _ rfl
    have g1 := HO.out.c2 1 _ rfl
    have g2 := HO.out.c2 2 _ rfl
    have g3 := HO.out.c2 3 _ rfl
    have g4 := HO.out.c2 4 _ rfl
    have g5 := HO.out.c2 5 _ rfl
    have gf := HO.out.f2
    have HOD := As.mk HO.out.drew
    clear HO
    have HO := HOD
    clear HOD
    refine wp_region_held_drew (S := (fun V : World => Box V B #[.int .i64 1, .int .i64 p, .int .i64 n, .bool good, .slice A1 bs.length c1, .slice A2 ls.length c2] 35)) (by kernel_rfl) ?_ (fun hHeld => ?_)
    · exact HO.out.b0
    refine wpAnyH_take (i := 0) (oi := ?_) (v := ?_) (by simp only [List.getElem?_toArray, List.getElem?_cons_zero, List.getElem?_cons_succ]; rfl) (by kernel_rfl) (by kernel_rfl) (by kernel_rfl) (by exact fun _ _ _ h => h) (Or.inl ⟨by rfl, ?_⟩) (by assumption) ?_
    rotate_left
    · (intro w hSw; (try dsimp only at hSw); have s0 := hSw.cell 0 _ rfl; have s1 := hSw.cell 1 _ rfl; have s2 := hSw.cell 2 _ rfl; have s3 := hSw.cell 3 _ rfl; have s4 := hSw.cell 4 _ rfl; have s5 := hSw.cell 5 _ rfl; clear hSw; go_simp; first | done | with_reducible rfl)
    try simp only [Act.put, List.setIfInBounds_toArray, List.set_cons_zero, List.set_cons_succ]
    refine wpAnyH_take (i := 1) (oi := ?_) (v := ?_) (by simp only [List.getElem?_toArray, List.getElem?_cons_zero, List.getElem?_cons_succ]; rfl) (by kernel_rfl) (by kernel_rfl) (by kernel_rfl) (by exact fun _ _ _ h => h) (Or.inl ⟨by rfl, ?_⟩) (by assumption) ?_
    rotate_left
    · (intro w hSw; (try dsimp only at hSw); have s0 := hSw.cell 0 _ rfl; have s1 := hSw.cell 1 _ rfl; have s2 := hSw.cell 2 _ rfl; have s3 := hSw.cell 3 _ rfl; have s4 := hSw.cell 4 _ rfl; have s5 := hSw.cell 5 _ rfl; clear hSw; go_simp; first | done | with_reducible rfl)
    try simp only [Act.put, List.setIfInBounds_toArray, List.set_cons_zero, List.set_cons_succ]
    refine wpAnyH_take (i := 2) (oi := ?_) (v := ?_) (by simp only [List.getElem?_toArray, List.getElem?_cons_zero, List.getElem?_cons_succ]; rfl) (by kernel_rfl) (by kernel_rfl) (by kernel_rfl) (by exact fun _ _ _ h => h) (Or.inl ⟨by rfl, ?_⟩) (by assumption) ?_
    rotate_left
    · (intro w hSw; (try dsimp only at hSw); have s0 := hSw.cell 0 _ rfl; have s1 := hSw.cell 1 _ rfl; have s2 := hSw.cell 2 _ rfl; have s3 := hSw.cell 3 _ rfl; have s4 := hSw.cell 4 _ rfl; have s5 := hSw.cell 5 _ rfl; clear hSw; go_simp; first | done | with_reducible rfl)
    try simp only [Act.put, List.setIfInBounds_toArray, List.set_cons_zero, List.set_cons_succ]
    refine wpAnyH_take (i := 3) (oi := ?_) (v := ?_) (by simp only [List.getElem?_toArray, List.getElem?_cons_zero, List.getElem?_cons_succ]; rfl) (by kernel_rfl) (by kernel_rfl) (by kernel_rfl) (by exact fun _ _ _ h => h) (Or.inl ⟨by rfl, ?_⟩) (by assumption) ?_
    rotate_left
    · (intro w hSw; (try dsimp only at hSw); have s0 := hSw.cell 0 _ rfl; have s1 := hSw.cell 1 _ rfl; have s2 := hSw.cell 2 _ rfl; have s3 := hSw.cell 3 _ rfl; have s4 := hSw.cell 4 _ rfl; have s5 := hSw.cell 5 _ rfl; clear hSw; go_simp; first | done | with_reducible rfl)
    try simp only [Act.put, List.setIfInBounds_toArray, List.set_cons_zero, List.set_cons_succ]
    refine wpAnyH_take (i := 4) (oi := ?_) (v := ?_) (by simp only [List.getElem?_toArray, List.getElem?_cons_zero, List.getElem?_cons_succ]; rfl) (by kernel_rfl) (by kernel_rfl) (by kernel_rfl) (by exact fun _ _ _ h => h) (Or.inl ⟨by rfl, ?_⟩) (by assumption) ?_
    rotate_left
    · (intro w hSw; (try dsimp only at hSw); have s0 := hSw.cell 0 _ rfl; have s1 := hSw.cell 1 _ rfl; have s2 := hSw.cell 2 _ rfl; have s3 := hSw.cell 3 _ rfl; have s4 := hSw.cell 4 _ rfl; have s5 := hSw.cell 5 _ rfl; clear hSw; go_simp; first | done | with_reducible rfl)
    try simp only [Act.put, List.setIfInBounds_toArray, List.set_cons_zero, List.set_cons_succ]
    refine wpAnyH_take (i := 5) (oi := ?_) (v := ?_) (by simp only [List.getElem?_toArray, List.getElem?_cons_zero, List.getElem?_cons_succ]; rfl) (by kernel_rfl) (by kernel_rfl) (by kernel_rfl) (by exact fun _ _ _ h => h) (Or.inl ⟨by rfl, ?_⟩) (by assumption) ?_
    rotate_left
    · (intro w hSw; (try dsimp only at hSw); have s0 := hSw.cell 0 _ rfl; have s1 := hSw.cell 1 _ rfl; have s2 := hSw.cell 2 _ rfl; have s3 := hSw.cell 3 _ rfl; have s4 := hSw.cell 4 _ rfl; have s5 := hSw.cell 5 _ rfl; clear hSw; go_simp; first | done | with_reducible rfl)
    try simp only [Act.put, List.setIfInBounds_toArray, List.set_cons_zero, List.set_cons_succ]
    refine wpAnyH_take (i := 6) (oi := ?_) (v := ?_) (by simp only [List.getElem?_toArray, List.getElem?_cons_zero, List.getElem?_cons_succ]; rfl) (by kernel_rfl) (by kernel_rfl) (by kernel_rfl) (by exact fun _ _ _ h => h) (Or.inl ⟨by rfl, ?_⟩) (by assumption) ?_
    rotate_left
    · (intro w hSw; (try dsimp only at hSw); have s0 := hSw.cell 0 _ rfl; have s1 := hSw.cell 1 _ rfl; have s2 := hSw.cell 2 _ rfl; have s3 := hSw.cell 3 _ rfl; have s4 := hSw.cell 4 _ rfl; have s5 := hSw.cell 5 _ rfl; clear hSw; go_simp; first | done | with_reducible rfl)
    try simp only [Act.put, List.setIfInBounds_toArray, List.set_cons_zero, List.set_cons_succ]
    refine wpAnyH_ready (rs := [7]) (by kernel_rfl) (by simp) ?_
    refine AllReadyH.cons (o := ?_) (by simp only [List.getElem?_toArray, List.getElem?_cons_zero, List.getElem?_cons_succ]; rfl) (fun K hK => ?_) ?_
    · go_simp
      have HO2 := As.mk (HO.out.set 1 (.int .i64 p))
      have hS2 := HO2.out.b0
      clear HO
      have HO := HO2
      clear HO2
      refine hK.out _ _ ?_ (fun hHeld2 => ?_)
      · exact hS2
      clear hK K hHeld
      have hHeld := hHeld2
      clear hHeld2
      try simp only [Act.put, List.setIfInBounds_toArray, List.set_cons_zero, List.set_cons_succ]
      refine wpAnyH_take (i := 8) (oi := ?_) (v := ?_) (by simp only [List.getElem?_toArray, List.getElem?_cons_zero, List.getElem?_cons_succ]; rfl) (by kernel_rfl) (by kernel_rfl) (by kernel_rfl) (by exact fun _ _ _ h => h) (Or.inl ⟨by rfl, ?_⟩) (by assumption) ?_
      rotate_left
      · (intro w hSw; (try dsimp only at hSw); have s0 := hSw.cell 0 _ rfl; have s1 := hSw.cell 1 _ rfl; have s2 := hSw.cell 2 _ rfl; have s3 := hSw.cell 3 _ rfl; have s4 := hSw.cell 4 _ rfl; have s5 := hSw.cell 5 _ rfl; clear hSw; go_simp; first | done | with_reducible rfl)
      try simp only [Act.put, List.setIfInBounds_toArray, List.set_cons_zero, List.set_cons_succ]
      refine wpAnyH_ready (rs := [9]) (by kernel_rfl) (by simp) ?_
      refine AllReadyH.cons (o := ?_) (by simp only [List.getElem?_toArray, List.getElem?_cons_zero, List.getElem?_cons_succ]; rfl) (fun K hK => ?_) ?_
      · go_simp
        have HO2 := As.mk (HO.out.set 3 (.bool good))
        have hS2 := HO2.out.b0
        clear HO
        have HO := HO2
        clear HO2
        refine hK.out _ _ ?_ (fun hHeld2 => ?_)
        · exact hS2
        clear hK K hHeld
        have hHeld := hHeld2
        clear hHeld2
        try simp only [Act.put, List.setIfInBounds_toArray, List.set_cons_zero, List.set_cons_succ]
        refine wpAnyH_take (i := 10) (oi := ?_) (v := ?_) (by simp only [List.getElem?_toArray, List.getElem?_cons_zero, List.getElem?_cons_succ]; rfl) (by kernel_rfl) (by kernel_rfl) (by kernel_rfl) (by exact fun _ _ _ h => h) (Or.inl ⟨by rfl, ?_⟩) (by assumption) ?_
        rotate_left
        · (intro w hSw; (try dsimp only at hSw); have s0 := hSw.cell 0 _ rfl; have s1 := hSw.cell 1 _ rfl; have s2 := hSw.cell 2 _ rfl; have s3 := hSw.cell 3 _ rfl; have s4 := hSw.cell 4 _ rfl; have s5 := hSw.cell 5 _ rfl; clear hSw; go_simp; first | done | with_reducible rfl)
        try simp only [Act.put, List.setIfInBounds_toArray, List.set_cons_zero, List.set_cons_succ]
        refine wpAnyH_ready (rs := [11]) (by kernel_rfl) (by simp) ?_
        refine AllReadyH.cons (o := ?_) (by simp only [List.getElem?_toArray, List.getElem?_cons_zero, List.getElem?_cons_succ]; rfl) (fun K hK => ?_) ?_
        · go_simp
          have HO2 := As.mk (HO.out.set 4 (.slice A1 bs.length c1))
          have hS2 := HO2.out.b0
          clear HO
          have HO := HO2
          clear HO2
          refine hK.out _ _ ?_ (fun hHeld2 => ?_)
          · exact hS2
          clear hK K hHeld
          have hHeld := hHeld2
          clear hHeld2
          try simp only [Act.put, List.setIfInBounds_toArray, List.set_cons_zero, List.set_cons_succ]
          refine wpAnyH_done (by kernel_rfl) ?_ _
          clear hHeld g0 g1 g2 g3 g4 g5 gf
          go_upto_region 18 with fail
          have HO3 : As (OS w (((W0.setCell ⟨B2, 1, none⟩ (.int .i64 p)).setCell ⟨B2, 3, none⟩ (.bool good)).setCell ⟨B2, 4, none⟩ (.slice A1 bs.length c1)).drew B B1 B2 [.int .i64 1, .int .i64 p, .int .i64 n, .bool good, .slice A1 bs.length c1, .slice A2 ls.length c2] [.int .i64 1, .int .i64 p, .int .i64 0, .bool good, .slice A1 bs.length c1, .slice none 0 0]) := ⟨HO.out⟩
          clear HO
          have HO := HO3
          clear HO3
          generalize (((W0.setCell ⟨B2, 1, none⟩ (.int .i64 p)).setCell ⟨B2, 3, none⟩ (.bool good)).setCell ⟨B2, 4, none⟩ (.slice A1 bs.length c1)).drew = W1 at HO ⊢
          have HZ : As (onlyL ⟨1, p, n, good, bs, ls⟩ = ⟨1, p, 0, good, bs, []⟩) := ⟨rfl⟩
          have g5 := HO.out.c2 5 _ rfl
          go_upto_region 20 with fail
          have g0 := HO.out.c2 0 _ rfl
          have g1 := HO.out.c2 1 _ rfl
          have g2 := HO.out.c2 2 _ rfl
          have g3 := HO.out.c2 3 _ rfl
          have g4 := HO.out.c2 4 _ rfl
          have g5 := HO.out.c2 5 _ rfl
          have r0 := HO.out.b1.cell 0 _ rfl
          have r1 := HO.out.b1.cell 1 _ rfl
          have r2 := HO.out.b1.cell 2 _ rfl
          have r3 := HO.out.b1.cell 3 _ rfl
          have r4 := HO.out.b1.cell 4 _ rfl
          have r5 := HO.out.b1.cell 5 _ rfl
          have rf := HO.out.b1.frozen
          go_wp2
          have HF6 := As.mk (And.intro (set6_box HO.out.b1 (.int .i64 1) (.int .i64 p) (.int .i64 0) (.bool good) (.slice A1 bs.length c1) (.slice none 0 0)) (set6_below HO.out.bl HO.out.w1 (.int .i64 1) (.int .i64 p) (.int .i64 0) (.bool good) (.slice A1 bs.length c1) (.slice none 0 0)))
          generalize ((((((W1.setCell ⟨B1, 0, none⟩ (.int .i64 1)).setCell ⟨B1, 1, none⟩ (.int .i64 p)).setCell ⟨B1, 2, none⟩ (.int .i64 0)).setCell ⟨B1, 3, none⟩ (.bool good)).setCell ⟨B1, 4, none⟩ (.slice A1 bs.length c1)).setCell ⟨B1, 5, none⟩ (.slice none 0 0)) = WF at HF6 ⊢
          have q0 := HF6.out.1.cell 0 _ rfl
          have q1 := HF6.out.1.cell 1 _ rfl
          have q2 := HF6.out.1.cell 2 _ rfl
          have q3 := HF6.out.1.cell 3 _ rfl
          have q4 := HF6.out.1.cell 4 _ rfl
          have q5 := HF6.out.1.cell 5 _ rfl
          refine bodyPost_ret (v := .agg #[.int .i64 1, .int .i64 p, .int .i64 0, .bool good, .slice A1 bs.length c1, .slice none 0 0]) (by simp [results, Tryd.results14, go_sem, q0, q1, q2, q3, q4, q5]) rfl ?_
          exact only_end HZ.out (.inl ⟨rfl, rfl⟩) (.inr ⟨rfl, rfl⟩) ⟨RdS.below HA1.out HF6.out.2, RdW.nil _⟩ HF6.out.2
        exact AllReadyH.nil
      exact AllReadyH.nil
    exact AllReadyH.nil
  by_cases h2 : k = 2
  · subst h2
    have s0 := HO.out.b0.cell 0 _ rfl
    go_upto_region 6 with fail
    clear s0
    have g0 := HO.out.c2 0 _ rfl
    have g1 := HO.out.c2 1 _ rfl
    have g2 := HO.out.c2 2 _ rfl
    have g3 := HO.out.c2 3 _ rfl
    have g4 := HO.out.c2 4 _ rfl
    have g5 := HO.out.c2 5 _ rfl
    have gf := HO.out.f2
    have HOD := As.mk HO.out.drew
    clear HO
    have HO := HOD
    clear HOD
    refine wp_region_held_drew (S := (fun V : World => Box V B #[.int .i64 2, .int .i64 p, .int .i64 n, .bool good, .slice A1 bs.length c1, .slice A2 ls.length c2] 35)) (by kernel_rfl) ?_ (fun hHeld => ?_)
    · exact HO.out.b0
    refine wpAnyH_take (i := 0) (oi := ?_) (v := ?_) (by simp only [List.getElem?_toArray, List.getElem?_cons_zero, List.getElem?_cons_succ]; rfl) (by kernel_rfl) (by kernel_rfl) (by kernel_rfl) (by exact fun _ _ _ h => h) (Or.inl ⟨by rfl, ?_⟩) (by assumption) ?_
    rotate_left
    · (intro w hSw; (try dsimp only at hSw); have s0 := hSw.cell 0 _ rfl; have s1 := hSw.cell 1 _ rfl; have s2 := hSw.cell 2 _ rfl; have s3 := hSw.cell 3 _ rfl; have s4 := hSw.cell 4 _ rfl; have s5 := hSw.cell 5 _ rfl; clear hSw; go_simp; first | done | with_reducible rfl)
    try simp only [Act.put, List.setIfInBounds_toArray, List.set_cons_zero, List.set_cons_succ]
    refine wpAnyH_take (i := 1) (oi := ?_) (v := ?_) (by simp only [List.getElem?_toArray, List.getElem?_cons_zero, List.getElem?_cons_succ]; rfl) (by kernel_rfl) (by kernel_rfl) (by kernel_rfl) (by exact fun _ _ _ h => h) (Or.inl ⟨by rfl, ?_⟩) (by assumption) ?_
    rotate_left
    · (intro w hSw; (try dsimp only at hSw); have s0 := hSw.cell 0 _ rfl; have s1 := hSw.cell 1 _ rfl; have s2 := hSw.cell 2 _ rfl; have s3 := hSw.cell 3 _ rfl; have s4 := hSw.cell 4 _ rfl; have s5 := hSw.cell 5 _ rfl; clear hSw; go_simp; first | done | with_reducible rfl)
    try simp only [Act.put, List.setIfInBounds_toArray, List.set_cons_zero, List.set_cons_succ]
    refine wpAnyH_take (i := 2) (oi := ?_) (v := ?_) (by simp only [List.getElem?_toArray, List.getElem?_cons_zero, List.getElem?_cons_succ]; rfl) (by kernel_rfl) (by kernel_rfl) (by kernel_rfl) (by exact fun _ _ _ h => h) (Or.inl ⟨by rfl, ?_⟩) (by assumption) ?_
    rotate_left
    · (intro w hSw; (try dsimp only at hSw); have s0 := hSw.cell 0 _ rfl; have s1 := hSw.cell 1 _ rfl; have s2 := hSw.cell 2 _ rfl; have s3 := hSw.cell 3 _ rfl; have s4 := hSw.cell 4 _ rfl; have s5 := hSw.cell 5 _ rfl; clear hSw; go_simp; first | done | with_reducible rfl)
    try simp only [Act.put, List.setIfInBounds_toArray, List.set_cons_zero, List.set_cons_succ]
    refine wpAnyH_take (i := 3) (oi := ?_) (v := ?_) (by simp only [List.getElem?_toArray, List.getElem?_cons_zero, List.getElem?_cons_succ]; rfl) (by kernel_rfl) (by kernel_rfl) (by kernel_rfl) (by exact fun _ _ _ h => h) (Or.inl ⟨by rfl, ?_⟩) (by assumption) ?_
    rotate_left
    · (intro w hSw; (try dsimp only at hSw); have s0 := hSw.cell 0 _ rfl; have s1 := hSw.cell 1 _ rfl; have s2 := hSw.cell 2 _ rfl; have s3 := hSw.cell 3 _ rfl; have s4 := hSw.cell 4 _ rfl; have s5 := hSw.cell 5 _ rfl; clear hSw; go_simp; first | done | with_reducible rfl)
    try simp only [Act.put, List.setIfInBounds_toArray, List.set_cons_zero, List.set_cons_succ]
    refine wpAnyH_take (i := 4) (oi := ?_) (v := ?_) (by simp only [List.getElem?_toArray, List.getElem?_cons_zero, List.getElem?_cons_succ]; rfl) (by kernel_rfl) (by kernel_rfl) (by kernel_rfl) (by exact fun _ _ _ h => h) (Or.inl ⟨by rfl, ?_⟩) (by assumption) ?_
    rotate_left
    · (intro w hSw; (try dsimp only at hSw); have s0 := hSw.cell 0 _ rfl; have s1 := hSw.cell 1 _ rfl; have s2 := hSw.cell 2 _ rfl; have s3 := hSw.cell 3 _ rfl; have s4 := hSw.cell 4 _ rfl; have s5 := hSw.cell 5 _ rfl; clear hSw; go_simp; first | done | with_reducible rfl)
    try simp only [Act.put, List.setIfInBounds_toArray, List.set_cons_zero, List.set_cons_succ]
    refine wpAnyH_take (i := 5) (oi := ?_) (v := ?_) (by simp only [List.getElem?_toArray, List.getElem?_cons_zero, List.getElem?_cons_succ]; rfl) (by kernel_rfl) (by kernel_rfl) (by kernel_rfl) (by exact fun _ _ _ h => h) (Or.inl ⟨by rfl, ?_⟩) (by assumption) ?_
    rotate_left
    · (intro w hSw; (try dsimp only at hSw); have s0 := hSw.cell 0 _ rfl; have s1 := hSw.cell 1 _ rfl; have s2 := hSw.cell 2 _ rfl; have s3 := hSw.cell 3 _ rfl; have s4 := hSw.cell 4 _ rfl; have s5 := hSw.cell 5 _ rfl; clear hSw; go_simp; first | done | with_reducible rfl)
    try simp only [Act.put, List.setIfInBounds_toArray, List.set_cons_zero, List.set_cons_succ]
    refine wpAnyH_take (i := 6) (oi := ?_) (v := ?_) (by simp only [List.getElem?_toArray, List.getElem?_cons_zero, List.getElem?_cons_succ]; rfl) (by kernel_rfl) (by kernel_rfl) (by kernel_rfl) (by exact fun _ _ _ h => h) (Or.inl ⟨by rfl, ?_⟩) (by assumption) ?_
    rotate_left
    · (intro w hSw; (try dsimp only at hSw); have s0 := hSw.cell 0 _ rfl; have s1 := hSw.cell 1 _ rfl; have s2 := hSw.cell 2 _ rfl; have s3 := hSw.cell 3 _ rfl; have s4 := hSw.cell 4 _ rfl; have s5 := hSw.cell 5 _ rfl; clear hSw; go_simp; first | done | with_reducible rfl)
    try simp only [Act.put, List.setIfInBounds_toArray, List.set_cons_zero, List.set_cons_succ]
    refine wpAnyH_ready (rs := [7]) (by kernel_rfl) (by simp) ?_
    refine AllReadyH.cons (o := ?_) (by simp only [List.getElem?_toArray, List.getElem?_cons_zero, List.getElem?_cons_succ]; rfl) (fun K hK => ?_) ?_
    · go_simp
      have HO2 := As.mk (HO.out.set 1 (.int .i64 p))
      have hS2 := HO2.out.b0
      clear HO
      have HO := HO2
      clear HO2
      refine hK.out _ _ ?_ (fun hHeld2 => ?_)
      · exact hS2
      clear hK K hHeld
      have hHeld := hHeld2
      clear hHeld2
      try simp only [Act.put, List.setIfInBounds_toArray, List.set_cons_zero, List.set_cons_succ]
      refine wpAnyH_take (i := 8) (oi := ?_) (v := ?_) (by simp only [List.getElem?_toArray, List.getElem?_cons_zero, List.getElem?_cons_succ]; rfl) (by kernel_rfl) (by kernel_rfl) (by kernel_rfl) (by exact fun _ _ _ h => h) (Or.inl ⟨by rfl, ?_⟩) (by assumption) ?_
      rotate_left
      · (intro w hSw; (try dsimp only at hSw); have s0 := hSw.cell 0 _ rfl; have s1 := hSw.cell 1 _ rfl; have s2 := hSw.cell 2 _ rfl; have s3 := hSw.cell 3 _ rfl; have s4 := hSw.cell 4 _ rfl; have s5 := hSw.cell 5 _ rfl; clear hSw; go_simp; first | done | with_reducible rfl)
      try simp only [Act.put, List.setIfInBounds_toArray, List.set_cons_zero, List.set_cons_succ]
      refine wpAnyH_ready (rs := [9]) (by kernel_rfl) (by simp) ?_
      refine AllReadyH.cons (o := ?_) (by simp only [List.getElem?_toArray, List.getElem?_cons_zero, List.getElem?_cons_succ]; rfl) (fun K hK => ?_) ?_
      · go_simp
        have HO2 := As.mk (HO.out.set 3 (.bool good))
        have hS2 := HO2.out.b0
        clear HO
        have HO := HO2
        clear HO2
        refine hK.out _ _ ?_ (fun hHeld2 => ?_)
        · exact hS2
        clear hK K hHeld
        have hHeld := hHeld2
        clear hHeld2
        try simp only [Act.put, List.setIfInBounds_toArray, List.set_cons_zero, List.set_cons_succ]
        refine wpAnyH_take (i := 10) (oi := ?_) (v := ?_) (by simp only [List.getElem?_toArray, List.getElem?_cons_zero, List.getElem?_cons_succ]; rfl) (by kernel_rfl) (by kernel_rfl) (by kernel_rfl) (by exact fun _ _ _ h => h) (Or.inl ⟨by rfl, ?_⟩) (by assumption) ?_
        rotate_left
        · (intro w hSw; (try dsimp only at hSw); have s0 := hSw.cell 0 _ rfl; have s1 := hSw.cell 1 _ rfl; have s2 := hSw.cell 2 _ rfl; have s3 := hSw.cell 3 _ rfl; have s4 := hSw.cell 4 _ rfl; have s5 := hSw.cell 5 _ rfl; clear hSw; go_simp; first | done | with_reducible rfl)
        try simp only [Act.put, List.setIfInBounds_toArray, List.set_cons_zero, List.set_cons_succ]
        refine wpAnyH_ready (rs := [11]) (by kernel_rfl) (by simp) ?_
        refine AllReadyH.cons (o := ?_) (by simp only [List.getElem?_toArray, List.getElem?_cons_zero, List.getElem?_cons_succ]; rfl) (fun K hK => ?_) ?_
        · go_simp
          have HO2 := As.mk (HO.out.set 5 (.slice A2 ls.length c2))
          have hS2 := HO2.out.b0
          clear HO
          have HO := HO2
          clear HO2
          refine hK.out _ _ ?_ (fun hHeld2 => ?_)
          · exact hS2
          clear hK K hHeld
          have hHeld := hHeld2
          clear hHeld2
          try simp only [Act.put, List.setIfInBounds_toArray, List.set_cons_zero, List.set_cons_succ]
          refine wpAnyH_done (by kernel_rfl) ?_ _
          clear hHeld g0 g1 g2 g3 g4 g5 gf
          go_upto_region 18 with fail
          have HO3 : As (OS w (((W0.setCell ⟨B2, 1, none⟩ (.int .i64 p)).setCell ⟨B2, 3, none⟩ (.bool good)).setCell ⟨B2, 5, none⟩ (.slice A2 ls.length c2)).drew B B1 B2 [.int .i64 2, .int .i64 p, .int .i64 n, .bool good, .slice A1 bs.length c1, .slice A2 ls.length c2] [.int .i64 2, .int .i64 p, .int .i64 0, .bool good, .slice none 0 0, .slice A2 ls.length c2]) := ⟨HO.out⟩
          clear HO
          have HO := HO3
          clear HO3
          generalize (((W0.setCell ⟨B2, 1, none⟩ (.int .i64 p)).setCell ⟨B2, 3, none⟩ (.bool good)).setCell ⟨B2, 5, none⟩ (.slice A2 ls.length c2)).drew = W1 at HO ⊢
          have g5 := HO.out.c2 5 _ rfl
          by_cases h1 : ls.length = 1
          · obtain ⟨x, hx⟩ : ∃ x, ls = [x] := List.length_eq_one_iff.1 h1
            subst hx
            clear h1
            obtain ⟨g, oo, Bx, dx, rfl, hcx, hrx⟩ := RdW.at (HA2.out.below HO.out.bl) 0 x rfl
            rw [Nat.add_zero] at hcx
            by_cases h2 : x = []
            · subst h2
              have HZ : As (onlyL ⟨2, p, n, good, bs, [[]]⟩ = ⟨2, p, 0, good, [], []⟩) := ⟨rfl⟩
              have gf := HO.out.f2 5
              go_upto_region 20 with fail
              have HO2 := As.mk (HO.out.set 5 (.slice none 0 0))
              clear HO g5 gf hcx hrx
              have HO := HO2
              clear HO2
              generalize (W1.setCell ⟨B2, 5, none⟩ (.slice none 0 0)) = W2 at HO ⊢
              skip
              have g0 := HO.out.c2 0 _ rfl
              have g1 := HO.out.c2 1 _ rfl
              have g2 := HO.out.c2 2 _ rfl
              have g3 := HO.out.c2 3 _ rfl
              have g4 := HO.out.c2 4 _ rfl
              have g5 := HO.out.c2 5 _ rfl
              have r0 := HO.out.b1.cell 0 _ rfl
              have r1 := HO.out.b1.cell 1 _ rfl
              have r2 := HO.out.b1.cell 2 _ rfl
              have r3 := HO.out.b1.cell 3 _ rfl
              have r4 := HO.out.b1.cell 4 _ rfl
              have r5 := HO.out.b1.cell 5 _ rfl
              have rf := HO.out.b1.frozen
              go_wp2
              have HF6 := As.mk (And.intro (set6_box HO.out.b1 (.int .i64 2) (.int .i64 p) (.int .i64 0) (.bool good) (.slice none 0 0) (.slice none 0 0)) (set6_below HO.out.bl HO.out.w1 (.int .i64 2) (.int .i64 p) (.int .i64 0) (.bool good) (.slice none 0 0) (.slice none 0 0)))
              generalize ((((((W2.setCell ⟨B1, 0, none⟩ (.int .i64 2)).setCell ⟨B1, 1, none⟩ (.int .i64 p)).setCell ⟨B1, 2, none⟩ (.int .i64 0)).setCell ⟨B1, 3, none⟩ (.bool good)).setCell ⟨B1, 4, none⟩ (.slice none 0 0)).setCell ⟨B1, 5, none⟩ (.slice none 0 0)) = WF at HF6 ⊢
              have q0 := HF6.out.1.cell 0 _ rfl
              have q1 := HF6.out.1.cell 1 _ rfl
              have q2 := HF6.out.1.cell 2 _ rfl
              have q3 := HF6.out.1.cell 3 _ rfl
              have q4 := HF6.out.1.cell 4 _ rfl
              have q5 := HF6.out.1.cell 5 _ rfl
              refine bodyPost_ret (v := .agg #[.int .i64 2, .int .i64 p, .int .i64 0, .bool good, .slice none 0 0, .slice none 0 0]) (by simp [results, Tryd.results14, go_sem, q0, q1, q2, q3, q4, q5]) rfl ?_
              exact only_end HZ.out (.inr ⟨rfl, rfl⟩) (.inr ⟨rfl, rfl⟩) ⟨RdB.nil _, RdW.nil _⟩ HF6.out.2
            · have HZ : As (onlyL ⟨2, p, n, good, bs, [x]⟩ = ⟨2, p, 0, good, [], [x]⟩) := ⟨by simp [onlyL, tidy, h2]⟩
              have h3 : ((x.length : Int) == 0) = false := by rw [beq_eq_false_iff_ne]; have := List.length_pos_iff.2 h2; omega
              clear h2
              go_upto_region 20 with fail
              have g0 := HO.out.c2 0 _ rfl
              have g1 := HO.out.c2 1 _ rfl
              have g2 := HO.out.c2 2 _ rfl
              have g3 := HO.out.c2 3 _ rfl
              have g4 := HO.out.c2 4 _ rfl
              have g5 := HO.out.c2 5 _ rfl
              have r0 := HO.out.b1.cell 0 _ rfl
              have r1 := HO.out.b1.cell 1 _ rfl
              have r2 := HO.out.b1.cell 2 _ rfl
              have r3 := HO.out.b1.cell 3 _ rfl
              have r4 := HO.out.b1.cell 4 _ rfl
              have r5 := HO.out.b1.cell 5 _ rfl
              have rf := HO.out.b1.frozen
              go_wp2
              have HF6 := As.mk (And.intro (set6_box HO.out.b1 (.int .i64 2) (.int .i64 p) (.int .i64 0) (.bool good) (.slice none 0 0) (.slice (some ⟨g, oo, none⟩) 1 c2)) (set6_below HO.out.bl HO.out.w1 (.int .i64 2) (.int .i64 p) (.int .i64 0) (.bool good) (.slice none 0 0) (.slice (some ⟨g, oo, none⟩) 1 c2)))
              generalize ((((((W1.setCell ⟨B1, 0, none⟩ (.int .i64 2)).setCell ⟨B1, 1, none⟩ (.int .i64 p)).setCell ⟨B1, 2, none⟩ (.int .i64 0)).setCell ⟨B1, 3, none⟩ (.bool good)).setCell ⟨B1, 4, none⟩ (.slice none 0 0)).setCell ⟨B1, 5, none⟩ (.slice (some ⟨g, oo, none⟩) 1 c2)) = WF at HF6 ⊢
              have q0 := HF6.out.1.cell 0 _ rfl
              have q1 := HF6.out.1.cell 1 _ rfl
              have q2 := HF6.out.1.cell 2 _ rfl
              have q3 := HF6.out.1.cell 3 _ rfl
              have q4 := HF6.out.1.cell 4 _ rfl
              have q5 := HF6.out.1.cell 5 _ rfl
              refine bodyPost_ret (v := .agg #[.int .i64 2, .int .i64 p, .int .i64 0, .bool good, .slice none 0 0, .slice (some ⟨g, oo, none⟩) 1 c2]) (by simp [results, Tryd.results14, go_sem, q0, q1, q2, q3, q4, q5]) rfl ?_
              exact only_end HZ.out (.inr ⟨rfl, rfl⟩) (.inl ⟨rfl, rfl⟩) ⟨RdB.nil _, HA2.out.below HF6.out.2⟩ HF6.out.2
          · have hnl : ls ≠ [[]] := fun e => h1 (by rw [e]; rfl)
            have HZ : As (onlyL ⟨2, p, n, good, bs, ls⟩ = ⟨2, p, 0, good, [], ls⟩) := ⟨by simp [onlyL, tidy_eq hnl]⟩
            have h3 : ((ls.length : Int) == 1) = false := by rw [beq_eq_false_iff_ne]; omega
            clear h1 hnl
            go_upto_region 20 with fail
            have g0 := HO.out.c2 0 _ rfl
            have g1 := HO.out.c2 1 _ rfl
            have g2 := HO.out.c2 2 _ rfl
            have g3 := HO.out.c2 3 _ rfl
            have g4 := HO.out.c2 4 _ rfl
            have g5 := HO.out.c2 5 _ rfl
            have r0 := HO.out.b1.cell 0 _ rfl
            have r1 := HO.out.b1.cell 1 _ rfl
            have r2 := HO.out.b1.cell 2 _ rfl
            have r3 := HO.out.b1.cell 3 _ rfl
            have r4 := HO.out.b1.cell 4 _ rfl
            have r5 := HO.out.b1.cell 5 _ rfl
            have rf := HO.out.b1.frozen
            go_wp2
            have HF6 := As.mk (And.intro (set6_box HO.out.b1 (.int .i64 2) (.int .i64 p) (.int .i64 0) (.bool good) (.slice none 0 0) (.slice A2 ls.length c2)) (set6_below HO.out.bl HO.out.w1 (.int .i64 2) (.int .i64 p) (.int .i64 0) (.bool good) (.slice none 0 0) (.slice A2 ls.length c2)))
            generalize ((((((W1.setCell ⟨B1, 0, none⟩ (.int .i64 2)).setCell ⟨B1, 1, none⟩ (.int .i64 p)).setCell ⟨B1, 2, none⟩ (.int .i64 0)).setCell ⟨B1, 3, none⟩ (.bool good)).setCell ⟨B1, 4, none⟩ (.slice none 0 0)).setCell ⟨B1, 5, none⟩ (.slice A2 ls.length c2)) = WF at HF6 ⊢
            have q0 := HF6.out.1.cell 0 _ rfl
            have q1 := HF6.out.1.cell 1 _ rfl
            have q2 := HF6.out.1.cell 2 _ rfl
            have q3 := HF6.out.1.cell 3 _ rfl
            have q4 := HF6.out.1.cell 4 _ rfl
            have q5 := HF6.out.1.cell 5 _ rfl
            refine bodyPost_ret (v := .agg #[.int .i64 2, .int .i64 p, .int .i64 0, .bool good, .slice none 0 0, .slice A2 ls.length c2]) (by simp [results, Tryd.results14, go_sem, q0, q1, q2, q3, q4, q5]) rfl ?_
            exact only_end HZ.out (.inr ⟨rfl, rfl⟩) (.inl ⟨rfl, rfl⟩) ⟨RdB.nil _, HA2.out.below HF6.out.2⟩ HF6.out.2
        exact AllReadyH.nil
      exact AllReadyH.nil
    exact AllReadyH.nil
  by_cases h3 : k = 3
  · subst h3
    have s0 := HO.out.b0.cell 0 _ rfl
    go_upto_region 8 with fail
    clear s0
    have g0 := HO.out.c2 0 _ rfl
    have g1 := HO.out.c2 1 _ rfl
    have g2 := HO.out.c2 2 _ rfl
    have g3 := HO.out.c2 3 _ rfl
    have g4 := HO.out.c2 4 _ rfl
    have g5 := HO.out.c2 5 _ rfl
    have gf := HO.out.f2
    have HOD := As.mk HO.out.drew
    clear HO
    have HO := HOD
    clear HOD
    refine wp_region_held_drew (S := (fun V : World => Box V B #[.int .i64 3, .int .i64 p, .int .i64 n, .bool good, .slice A1 bs.length c1, .slice A2 ls.length c2] 35)) (by kernel_rfl) ?_ (fun hHeld => ?_)
    · exact HO.out.b0
    refine wpAnyH_take (i := 0) (oi := ?_) (v := ?_) (by simp only [List.getElem?_toArray, List.getElem?_cons_zero, List.getElem?_cons_succ]; rfl) (by kernel_rfl) (by kernel_rfl) (by kernel_rfl) (by exact fun _ _ _ h => h) (Or.inl ⟨by rfl, ?_⟩) (by assumption) ?_
    rotate_left
    · (intro w hSw; (try dsimp only at hSw); have s0 := hSw.cell 0 _ rfl; have s1 := hSw.cell 1 _ rfl; have s2 := hSw.cell 2 _ rfl; have s3 := hSw.cell 3 _ rfl; have s4 := hSw.cell 4 _ rfl; have s5 := hSw.cell 5 _ rfl; clear hSw; go_simp; first | done | with_reducible rfl)
    try simp only [Act.put, List.setIfInBounds_toArray, List.set_cons_zero, List.set_cons_succ]
    refine wpAnyH_take (i := 1) (oi := ?_) (v := ?_) (by simp only [List.getElem?_toArray, List.getElem?_cons_zero, List.getElem?_cons_succ]; rfl) (by kernel_rfl) (by kernel_rfl) (by kernel_rfl) (by exact fun _ _ _ h => h) (Or.inl ⟨by rfl, ?_⟩) (by assumption) ?_
    rotate_left
    · (intro w hSw; (try dsimp only at hSw); have s0 := hSw.cell 0 _ rfl; have s1 := hSw.cell 1 _ rfl; have s2 := hSw.cell 2 _ rfl; have s3 := hSw.cell 3 _ rfl; have s4 := hSw.cell 4 _ rfl; have s5 := hSw.cell 5 _ rfl; clear hSw; go_simp; first | done | with_reducible rfl)
    try simp only [Act.put, List.setIfInBounds_toArray, List.set_cons_zero, List.set_cons_succ]
    refine wpAnyH_take (i := 2) (oi := ?_) (v := ?_) (by simp only [List.getElem?_toArray, List.getElem?_cons_zero, List.getElem?_cons_succ]; rfl) (by kernel_rfl) (by kernel_rfl) (by kernel_rfl) (by exact fun _ _ _ h => h) (Or.inl ⟨by rfl, ?_⟩) (by assumption) ?_
    rotate_left
    · (intro w hSw; (try dsimp only at hSw); have s0 := hSw.cell 0 _ rfl; have s1 := hSw.cell 1 _ rfl; have s2 := hSw.cell 2 _ rfl; have s3 := hSw.cell 3 _ rfl; have s4 := hSw.cell 4 _ rfl; have s5 := hSw.cell 5 _ rfl; clear hSw; go_simp; first | done | with_reducible rfl)
    try simp only [Act.put, List.setIfInBounds_toArray, List.set_cons_zero, List.set_cons_succ]
    refine wpAnyH_take (i := 3) (oi := ?_) (v := ?_) (by simp only [List.getElem?_toArray, List.getElem?_cons_zero, List.getElem?_cons_succ]; rfl) (by kernel_rfl) (by kernel_rfl) (by kernel_rfl) (by exact fun _ _ _ h => h) (Or.inl ⟨by rfl, ?_⟩) (by assumption) ?_
    rotate_left
    · (intro w hSw; (try dsimp only at hSw); have s0 := hSw.cell 0 _ rfl; have s1 := hSw.cell 1 _ rfl; have s2 := hSw.cell 2 _ rfl; have s3 := hSw.cell 3 _ rfl; have s4 := hSw.cell 4 _ rfl; have s5 := hSw.cell 5 _ rfl; clear hSw; go_simp; first | done | with_reducible rfl)
    try simp only [Act.put, List.setIfInBounds_toArray, List.set_cons_zero, List.set_cons_succ]
    refine wpAnyH_take (i := 4) (oi := ?_) (v := ?_) (by simp only [List.getElem?_toArray, List.getElem?_cons_zero, List.getElem?_cons_succ]; rfl) (by kernel_rfl) (by kernel_rfl) (by kernel_rfl) (by exact fun _ _ _ h => h) (Or.inl ⟨by rfl, ?_⟩) (by assumption) ?_
    rotate_left
    · (intro w hSw; (try dsimp only at hSw); have s0 := hSw.cell 0 _ rfl; have s1 := hSw.cell 1 _ rfl; have s2 := hSw.cell 2 _ rfl; have s3 := hSw.cell 3 _ rfl; have s4 := hSw.cell 4 _ rfl; have s5 := hSw.cell 5 _ rfl; clear hSw; go_simp; first | done | with_reducible rfl)
    try simp only [Act.put, List.setIfInBounds_toArray, List.set_cons_zero, List.set_cons_succ]
    refine wpAnyH_ready (rs := [5]) (by kernel_rfl) (by simp) ?_
    refine AllReadyH.cons (o := ?_) (by simp only [List.getElem?_toArray, List.getElem?_cons_zero, List.getElem?_cons_succ]; rfl) (fun K hK => ?_) ?_
    · go_simp
      have HO2 := As.mk (HO.out.set 1 (.int .i64 p))
      have hS2 := HO2.out.b0
      clear HO
      have HO := HO2
      clear HO2
      refine hK.out _ _ ?_ (fun hHeld2 => ?_)
      · exact hS2
      clear hK K hHeld
      have hHeld := hHeld2
      clear hHeld2
      try simp only [Act.put, List.setIfInBounds_toArray, List.set_cons_zero, List.set_cons_succ]
      refine wpAnyH_take (i := 6) (oi := ?_) (v := ?_) (by simp only [List.getElem?_toArray, List.getElem?_cons_zero, List.getElem?_cons_succ]; rfl) (by kernel_rfl) (by kernel_rfl) (by kernel_rfl) (by exact fun _ _ _ h => h) (Or.inl ⟨by rfl, ?_⟩) (by assumption) ?_
      rotate_left
      · (intro w hSw; (try dsimp only at hSw); have s0 := hSw.cell 0 _ rfl; have s1 := hSw.cell 1 _ rfl; have s2 := hSw.cell 2 _ rfl; have s3 := hSw.cell 3 _ rfl; have s4 := hSw.cell 4 _ rfl; have s5 := hSw.cell 5 _ rfl; clear hSw; go_simp; first | done | with_reducible rfl)
      try simp only [Act.put, List.setIfInBounds_toArray, List.set_cons_zero, List.set_cons_succ]
      refine wpAnyH_ready (rs := [7]) (by kernel_rfl) (by simp) ?_
      refine AllReadyH.cons (o := ?_) (by simp only [List.getElem?_toArray, List.getElem?_cons_zero, List.getElem?_cons_succ]; rfl) (fun K hK => ?_) ?_
      · go_simp
        have HO2 := As.mk (HO.out.set 4 (.slice A1 bs.length c1))
        have hS2 := HO2.out.b0
        clear HO
        have HO := HO2
        clear HO2
        refine hK.out _ _ ?_ (fun hHeld2 => ?_)
        · exact hS2
        clear hK K hHeld
        have hHeld := hHeld2
        clear hHeld2
        try simp only [Act.put, List.setIfInBounds_toArray, List.set_cons_zero, List.set_cons_succ]
        refine wpAnyH_done (by kernel_rfl) ?_ _
        clear hHeld g0 g1 g2 g3 g4 g5 gf
        go_upto_region 18 with fail
        have HO3 : As (OS w ((W0.setCell ⟨B2, 1, none⟩ (.int .i64 p)).setCell ⟨B2, 4, none⟩ (.slice A1 bs.length c1)).drew B B1 B2 [.int .i64 3, .int .i64 p, .int .i64 n, .bool good, .slice A1 bs.length c1, .slice A2 ls.length c2] [.int .i64 3, .int .i64 p, .int .i64 0, .bool false, .slice A1 bs.length c1, .slice none 0 0]) := ⟨HO.out⟩
        clear HO
        have HO := HO3
        clear HO3
        generalize ((W0.setCell ⟨B2, 1, none⟩ (.int .i64 p)).setCell ⟨B2, 4, none⟩ (.slice A1 bs.length c1)).drew = W1 at HO ⊢
        have HZ : As (onlyL ⟨3, p, n, good, bs, ls⟩ = ⟨3, p, 0, false, bs, []⟩) := ⟨rfl⟩
        have g5 := HO.out.c2 5 _ rfl
        go_upto_region 20 with fail
        have g0 := HO.out.c2 0 _ rfl
        have g1 := HO.out.c2 1 _ rfl
        have g2 := HO.out.c2 2 _ rfl
        have g3 := HO.out.c2 3 _ rfl
        have g4 := HO.out.c2 4 _ rfl
        have g5 := HO.out.c2 5 _ rfl
        have r0 := HO.out.b1.cell 0 _ rfl
        have r1 := HO.out.b1.cell 1 _ rfl
        have r2 := HO.out.b1.cell 2 _ rfl
        have r3 := HO.out.b1.cell 3 _ rfl
        have r4 := HO.out.b1.cell 4 _ rfl
        have r5 := HO.out.b1.cell 5 _ rfl
        have rf := HO.out.b1.frozen
        go_wp2
        have HF6 := As.mk (And.intro (set6_box HO.out.b1 (.int .i64 3) (.int .i64 p) (.int .i64 0) (.bool false) (.slice A1 bs.length c1) (.slice none 0 0)) (set6_below HO.out.bl HO.out.w1 (.int .i64 3) (.int .i64 p) (.int .i64 0) (.bool false) (.slice A1 bs.length c1) (.slice none 0 0)))
        generalize ((((((W1.setCell ⟨B1, 0, none⟩ (.int .i64 3)).setCell ⟨B1, 1, none⟩ (.int .i64 p)).setCell ⟨B1, 2, none⟩ (.int .i64 0)).setCell ⟨B1, 3, none⟩ (.bool false)).setCell ⟨B1, 4, none⟩ (.slice A1 bs.length c1)).setCell ⟨B1, 5, none⟩ (.slice none 0 0)) = WF at HF6 ⊢
        have q0 := HF6.out.1.cell 0 _ rfl
        have q1 := HF6.out.1.cell 1 _ rfl
        have q2 := HF6.out.1.cell 2 _ rfl
        have q3 := HF6.out.1.cell 3 _ rfl
        have q4 := HF6.out.1.cell 4 _ rfl
        have q5 := HF6.out.1.cell 5 _ rfl
        refine bodyPost_ret (v := .agg #[.int .i64 3, .int .i64 p, .int .i64 0, .bool false, .slice A1 bs.length c1, .slice none 0 0]) (by simp [results, Tryd.results14, go_sem, q0, q1, q2, q3, q4, q5]) rfl ?_
        exact only_end HZ.out (.inl ⟨rfl, rfl⟩) (.inr ⟨rfl, rfl⟩) ⟨RdS.below HA1.out HF6.out.2, RdW.nil _⟩ HF6.out.2
      exact AllReadyH.nil
    exact AllReadyH.nil
  by_cases h4 : k = 4
  · subst h4
    have s0 := HO.out.b0.cell 0 _ rfl
    go_upto_region 10 with fail
    clear s0
    have g0 := HO.out.c2 0 _ rfl
    have g1 := HO.out.c2 1 _ rfl
    have g2 := HO.out.c2 2 _ rfl
    have g3 := HO.out.c2 3 _ rfl
    have g4 := HO.out.c2 4 _ rfl
    have g5 := HO.out.c2 5 _ rfl
    have gf := HO.out.f2
    have HOD := As.mk HO.out.drew
    clear HO
    have HO := HOD
    clear HOD
    refine wp_region_held_drew (S := (fun V : World => Box V B #[.int .i64 4, .int .i64 p, .int .i64 n, .bool good, .slice A1 bs.length c1, .slice A2 ls.length c2] 35)) (by kernel_rfl) ?_ (fun hHeld => ?_)
    · exact HO.out.b0
    refine wpAnyH_take (i := 0) (oi := ?_) (v := ?_) (by simp only [List.getElem?_toArray, List.getElem?_cons_zero, List.getElem?_cons_succ]; rfl) (by kernel_rfl) (by kernel_rfl) (by kernel_rfl) (by exact fun _ _ _ h => h) (Or.inl ⟨by rfl, ?_⟩) (by assumption) ?_
    rotate_left
    · (intro w hSw; (try dsimp only at hSw); have s0 := hSw.cell 0 _ rfl; have s1 := hSw.cell 1 _ rfl; have s2 := hSw.cell 2 _ rfl; have s3 := hSw.cell 3 _ rfl; have s4 := hSw.cell 4 _ rfl; have s5 := hSw.cell 5 _ rfl; clear hSw; go_simp; first | done | with_reducible rfl)
    try simp only [Act.put, List.setIfInBounds_toArray, List.set_cons_zero, List.set_cons_succ]
    refine wpAnyH_take (i := 1) (oi := ?_) (v := ?_) (by simp only [List.getElem?_toArray, List.getElem?_cons_zero, List.getElem?_cons_succ]; rfl) (by kernel_rfl) (by kernel_rfl) (by kernel_rfl) (by exact fun _ _ _ h => h) (Or.inl ⟨by rfl, ?_⟩) (by assumption) ?_
    rotate_left
    · (intro w hSw; (try dsimp only at hSw); have s0 := hSw.cell 0 _ rfl; have s1 := hSw.cell 1 _ rfl; have s2 := hSw.cell 2 _ rfl; have s3 := hSw.cell 3 _ rfl; have s4 := hSw.cell 4 _ rfl; have s5 := hSw.cell 5 _ rfl; clear hSw; go_simp; first | done | with_reducible rfl)
    try simp only [Act.put, List.setIfInBounds_toArray, List.set_cons_zero, List.set_cons_succ]
    refine wpAnyH_take (i := 2) (oi := ?_) (v := ?_) (by simp only [List.getElem?_toArray, List.getElem?_cons_zero, List.getElem?_cons_succ]; rfl) (by kernel_rfl) (by kernel_rfl) (by kernel_rfl) (by exact fun _ _ _ h => h) (Or.inl ⟨by rfl, ?_⟩) (by assumption) ?_
    rotate_left
    · (intro w hSw; (try dsimp only at hSw); have s0 := hSw.cell 0 _ rfl; have s1 := hSw.cell 1 _ rfl; have s2 := hSw.cell 2 _ rfl; have s3 := hSw.cell 3 _ rfl; have s4 := hSw.cell 4 _ rfl; have s5 := hSw.cell 5 _ rfl; clear hSw; go_simp; first | done | with_reducible rfl)
    try simp only [Act.put, List.setIfInBounds_toArray, List.set_cons_zero, List.set_cons_succ]
    refine wpAnyH_take (i := 3) (oi := ?_) (v := ?_) (by simp only [List.getElem?_toArray, List.getElem?_cons_zero, List.getElem?_cons_succ]; rfl) (by kernel_rfl) (by kernel_rfl) (by kernel_rfl) (by exact fun _ _ _ h => h) (Or.inl ⟨by rfl, ?_⟩) (by assumption) ?_
    rotate_left
    · (intro w hSw; (try dsimp only at hSw); have s0 := hSw.cell 0 _ rfl; have s1 := hSw.cell 1 _ rfl; have s2 := hSw.cell 2 _ rfl; have s3 := hSw.cell 3 _ rfl; have s4 := hSw.cell 4 _ rfl; have s5 := hSw.cell 5 _ rfl; clear hSw; go_simp; first | done | with_reducible rfl)
    try simp only [Act.put, List.setIfInBounds_toArray, List.set_cons_zero, List.set_cons_succ]
    refine wpAnyH_take (i := 4) (oi := ?_) (v := ?_) (by simp only [List.getElem?_toArray, List.getElem?_cons_zero, List.getElem?_cons_succ]; rfl) (by kernel_rfl) (by kernel_rfl) (by kernel_rfl) (by exact fun _ _ _ h => h) (Or.inl ⟨by rfl, ?_⟩) (by assumption) ?_
    rotate_left
    · (intro w hSw; (try dsimp only at hSw); have s0 := hSw.cell 0 _ rfl; have s1 := hSw.cell 1 _ rfl; have s2 := hSw.cell 2 _ rfl; have s3 := hSw.cell 3 _ rfl; have s4 := hSw.cell 4 _ rfl; have s5 := hSw.cell 5 _ rfl; clear hSw; go_simp; first | done | with_reducible rfl)
    try simp only [Act.put, List.setIfInBounds_toArray, List.set_cons_zero, List.set_cons_succ]
    refine wpAnyH_ready (rs := [5]) (by kernel_rfl) (by simp) ?_
    refine AllReadyH.cons (o := ?_) (by simp only [List.getElem?_toArray, List.getElem?_cons_zero, List.getElem?_cons_succ]; rfl) (fun K hK => ?_) ?_
    · go_simp
      have HO2 := As.mk (HO.out.set 1 (.int .i64 p))
      have hS2 := HO2.out.b0
      clear HO
      have HO := HO2
      clear HO2
      refine hK.out _ _ ?_ (fun hHeld2 => ?_)
      · exact hS2
      clear hK K hHeld
      have hHeld := hHeld2
      clear hHeld2
      try simp only [Act.put, List.setIfInBounds_toArray, List.set_cons_zero, List.set_cons_succ]
      refine wpAnyH_take (i := 6) (oi := ?_) (v := ?_) (by simp only [List.getElem?_toArray, List.getElem?_cons_zero, List.getElem?_cons_succ]; rfl) (by kernel_rfl) (by kernel_rfl) (by kernel_rfl) (by exact fun _ _ _ h => h) (Or.inl ⟨by rfl, ?_⟩) (by assumption) ?_
      rotate_left
      · (intro w hSw; (try dsimp only at hSw); have s0 := hSw.cell 0 _ rfl; have s1 := hSw.cell 1 _ rfl; have s2 := hSw.cell 2 _ rfl; have s3 := hSw.cell 3 _ rfl; have s4 := hSw.cell 4 _ rfl; have s5 := hSw.cell 5 _ rfl; clear hSw; go_simp; first | done | with_reducible rfl)
      try simp only [Act.put, List.setIfInBounds_toArray, List.set_cons_zero, List.set_cons_succ]
      refine wpAnyH_ready (rs := [7]) (by kernel_rfl) (by simp) ?_
      refine AllReadyH.cons (o := ?_) (by simp only [List.getElem?_toArray, List.getElem?_cons_zero, List.getElem?_cons_succ]; rfl) (fun K hK => ?_) ?_
      · go_simp
        have HO2 := As.mk (HO.out.set 5 (.slice A2 ls.length c2))
        have hS2 := HO2.out.b0
        clear HO
        have HO := HO2
        clear HO2
        refine hK.out _ _ ?_ (fun hHeld2 => ?_)
        · exact hS2
        clear hK K hHeld
        have hHeld := hHeld2
        clear hHeld2
        try simp only [Act.put, List.setIfInBounds_toArray, List.set_cons_zero, List.set_cons_succ]
        refine wpAnyH_done (by kernel_rfl) ?_ _
        clear hHeld g0 g1 g2 g3 g4 g5 gf
        go_upto_region 18 with fail
        have HO3 : As (OS w ((W0.setCell ⟨B2, 1, none⟩ (.int .i64 p)).setCell ⟨B2, 5, none⟩ (.slice A2 ls.length c2)).drew B B1 B2 [.int .i64 4, .int .i64 p, .int .i64 n, .bool good, .slice A1 bs.length c1, .slice A2 ls.length c2] [.int .i64 4, .int .i64 p, .int .i64 0, .bool false, .slice none 0 0, .slice A2 ls.length c2]) := ⟨HO.out⟩
        clear HO
        have HO := HO3
        clear HO3
        generalize ((W0.setCell ⟨B2, 1, none⟩ (.int .i64 p)).setCell ⟨B2, 5, none⟩ (.slice A2 ls.length c2)).drew = W1 at HO ⊢
        have g5 := HO.out.c2 5 _ rfl
        by_cases h1 : ls.length = 1
        · obtain ⟨x, hx⟩ : ∃ x, ls = [x] := List.length_eq_one_iff.1 h1
          subst hx
          clear h1
          obtain ⟨g, oo, Bx, dx, rfl, hcx, hrx⟩ := RdW.at (HA2.out.below HO.out.bl) 0 x rfl
          rw [Nat.add_zero] at hcx
          by_cases h2 : x = []
          · subst h2
            have HZ : As (onlyL ⟨4, p, n, good, bs, [[]]⟩ = ⟨4, p, 0, false, [], []⟩) := ⟨rfl⟩
            have gf := HO.out.f2 5
            go_upto_region 20 with fail
            have HO2 := As.mk (HO.out.set 5 (.slice none 0 0))
            clear HO g5 gf hcx hrx
            have HO := HO2
            clear HO2
            generalize (W1.setCell ⟨B2, 5, none⟩ (.slice none 0 0)) = W2 at HO ⊢
            skip
            have g0 := HO.out.c2 0 _ rfl
            have g1 := HO.out.c2 1 _ rfl
            have g2 := HO.out.c2 2 _ rfl
            have g3 := HO.out.c2 3 _ rfl
            have g4 := HO.out.c2 4 _ rfl
            have g5 := HO.out.c2 5 _ rfl
            have r0 := HO.out.b1.cell 0 _ rfl
            have r1 := HO.out.b1.cell 1 _ rfl
            have r2 := HO.out.b1.cell 2 _ rfl
            have r3 := HO.out.b1.cell 3 _ rfl
            have r4 := HO.out.b1.cell 4 _ rfl
            have r5 := HO.out.b1.cell 5 _ rfl
            have rf := HO.out.b1.frozen
            go_wp2
            have HF6 := As.mk (And.intro (set6_box HO.out.b1 (.int .i64 4) (.int .i64 p) (.int .i64 0) (.bool false) (.slice none 0 0) (.slice none 0 0)) (set6_below HO.out.bl HO.out.w1 (.int .i64 4) (.int .i64 p) (.int .i64 0) (.bool false) (.slice none 0 0) (.slice none 0 0)))
            generalize ((((((W2.setCell ⟨B1, 0, none⟩ (.int .i64 4)).setCell ⟨B1, 1, none⟩ (.int .i64 p)).setCell ⟨B1, 2, none⟩ (.int .i64 0)).setCell ⟨B1, 3, none⟩ (.bool false)).setCell ⟨B1, 4, none⟩ (.slice none 0 0)).setCell ⟨B1, 5, none⟩ (.slice none 0 0)) = WF at HF6 ⊢
            have q0 := HF6.out.1.cell 0 _ rfl
            have q1 := HF6.out.1.cell 1 _ rfl
            have q2 := HF6.out.1.cell 2 _ rfl
            have q3 := HF6.out.1.cell 3 _ rfl
            have q4 := HF6.out.1.cell 4 _ rfl
            have q5 := HF6.out.1.cell 5 _ rfl
            refine bodyPost_ret (v := .agg #[.int .i64 4, .int .i64 p, .int .i64 0, .bool false, .slice none 0 0, .slice none 0 0]) (by simp [results, Tryd.results14, go_sem, q0, q1, q2, q3, q4, q5]) rfl ?_
            exact only_end HZ.out (.inr ⟨rfl, rfl⟩) (.inr ⟨rfl, rfl⟩) ⟨RdB.nil _, RdW.nil _⟩ HF6.out.2
          · have HZ : As (onlyL ⟨4, p, n, good, bs, [x]⟩ = ⟨4, p, 0, false, [], [x]⟩) := ⟨by simp [onlyL, tidy, h2]⟩
            have h3 : ((x.length : Int) == 0) = false := by rw [beq_eq_false_iff_ne]; have := List.length_pos_iff.2 h2; omega
            clear h2
            go_upto_region 20 with fail
            have g0 := HO.out.c2 0 _ rfl
            have g1 := HO.out.c2 1 _ rfl
            have g2 := HO.out.c2 2 _ rfl
            have g3 := HO.out.c2 3 _ rfl
            have g4 := HO.out.c2 4 _ rfl
            have g5 := HO.out.c2 5 _ rfl
            have r0 := HO.out.b1.cell 0 _ rfl
            have r1 := HO.out.b1.cell 1 _ rfl
            have r2 := HO.out.b1.cell 2 _ rfl
            have r3 := HO.out.b1.cell 3 _ rfl
            have r4 := HO.out.b1.cell 4 _ rfl
            have r5 := HO.out.b1.cell 5 _ rfl
            have rf := HO.out.b1.frozen
            go_wp2
            have HF6 := As.mk (And.intro (set6_box HO.out.b1 (.int .i64 4) (.int .i64 p) (.int .i64 0) (.bool false) (.slice none 0 0) (.slice (some ⟨g, oo, none⟩) 1 c2)) (set6_below HO.out.bl HO.out.w1 (.int .i64 4) (.int .i64 p) (.int .i64 0) (.bool false) (.slice none 0 0) (.slice (some ⟨g, oo, none⟩) 1 c2)))
            generalize ((((((W1.setCell ⟨B1, 0, none⟩ (.int .i64 4)).setCell ⟨B1, 1, none⟩ (.int .i64 p)).setCell ⟨B1, 2, none⟩ (.int .i64 0)).setCell ⟨B1, 3, none⟩ (.bool false)).setCell ⟨B1, 4, none⟩ (.slice none 0 0)).setCell ⟨B1, 5, none⟩ (.slice (some ⟨g, oo, none⟩) 1 c2)) = WF at HF6 ⊢
            have q0 := HF6.out.1.cell 0 _ rfl
            have q1 := HF6.out.1.cell 1 _ rfl
            have q2 := HF6.out.1.cell 2 _ rfl
            have q3 := HF6.out.1.cell 3 _ rfl
            have q4 := HF6.out.1.cell 4 _ rfl
            have q5 := HF6.out.1.cell 5 _ rfl
            refine bodyPost_ret (v := .agg #[.int .i64 4, .int .i64 p, .int .i64 0, .bool false, .slice none 0 0, .slice (some ⟨g, oo, none⟩) 1 c2]) (by simp [results, Tryd.results14, go_sem, q0, q1, q2, q3, q4, q5]) rfl ?_
            exact only_end HZ.out (.inr ⟨rfl, rfl⟩) (.inl ⟨rfl, rfl⟩) ⟨RdB.nil _, HA2.out.below HF6.out.2⟩ HF6.out.2
        · have hnl : ls ≠ [[]] := fun e => h1 (by rw [e]; rfl)
          have HZ : As (onlyL ⟨4, p, n, good, bs, ls⟩ = ⟨4, p, 0, false, [], ls⟩) := ⟨by simp [onlyL, tidy_eq hnl]⟩
          have h3 : ((ls.length : Int) == 1) = false := by rw [beq_eq_false_iff_ne]; omega
          clear h1 hnl
          go_upto_region 20 with fail
          have g0 := HO.out.c2 0 _ rfl
          have g1 := HO.out.c2 1 _ rfl
          have g2 := HO.out.c2 2 _ rfl
          have g3 := HO.out.c2 3 _ rfl
          have g4 := HO.out.c2 4 _ rfl
          have g5 := HO.out.c2 5 _ rfl
          have r0 := HO.out.b1.cell 0 _ rfl
          have r1 := HO.out.b1.cell 1 _ rfl
          have r2 := HO.out.b1.cell 2 _ rfl
          have r3 := HO.out.b1.cell 3 _ rfl
          have r4 := HO.out.b1.cell 4 _ rfl
          have r5 := HO.out.b1.cell 5 _ rfl
          have rf := HO.out.b1.frozen
          go_wp2
          have HF6 := As.mk (And.intro (set6_box HO.out.b1 (.int .i64 4) (.int .i64 p) (.int .i64 0) (.bool false) (.slice none 0 0) (.slice A2 ls.length c2)) (set6_below HO.out.bl HO.out.w1 (.int .i64 4) (.int .i64 p) (.int .i64 0) (.bool false) (.slice none 0 0) (.slice A2 ls.length c2)))
          generalize ((((((W1.setCell ⟨B1, 0, none⟩ (.int .i64 4)).setCell ⟨B1, 1, none⟩ (.int .i64 p)).setCell ⟨B1, 2, none⟩ (.int .i64 0)).setCell ⟨B1, 3, none⟩ (.bool false)).setCell ⟨B1, 4, none⟩ (.slice none 0 0)).setCell ⟨B1, 5, none⟩ (.slice A2 ls.length c2)) = WF at HF6 ⊢
          have q0 := HF6.out.1.cell 0 _ rfl
          have q1 := HF6.out.1.cell 1 _ rfl
          have q2 := HF6.out.1.cell 2 _ rfl
          have q3 := HF6.out.1.cell 3 _ rfl
          have q4 := HF6.out.1.cell 4 _ rfl
          have q5 := HF6.out.1.cell 5 _ rfl
          refine bodyPost_ret (v := .agg #[.int .i64 4, .int .i64 p, .int .i64 0, .bool false, .slice none 0 0, .slice A2 ls.length c2]) (by simp [results, Tryd.results14, go_sem, q0, q1, q2, q3, q4, q5]) rfl ?_
          exact only_end HZ.out (.inr ⟨rfl, rfl⟩) (.inl ⟨rfl, rfl⟩) ⟨RdB.nil _, HA2.out.below HF6.out.2⟩ HF6.out.2
      exact AllReadyH.nil
    exact AllReadyH.nil
  by_cases h5 : k = 5
  · subst h5
    have s0 := HO.out.b0.cell 0 _ rfl
    have s1 := HO.out.b0.cell 1 _ rfl
    have g0 := HO.out.c2 1 _ rfl
    have gf := HO.out.f2 1
    go_upto_region 18 with fail
    have HO2 := As.mk (HO.out.set 1 (.int .i64 p))
    clear HO g0 gf s0 s1
    have HO := HO2
    clear HO2
    generalize (W0.setCell ⟨B2, 1, none⟩ (.int .i64 p)) = W1 at HO ⊢
    have HZ : As (onlyL ⟨5, p, n, good, bs, ls⟩ = ⟨5, p, 0, false, [], []⟩) := ⟨rfl⟩
    have g5 := HO.out.c2 5 _ rfl
    go_upto_region 20 with fail
    have g0 := HO.out.c2 0 _ rfl
    have g1 := HO.out.c2 1 _ rfl
    have g2 := HO.out.c2 2 _ rfl
    have g3 := HO.out.c2 3 _ rfl
    have g4 := HO.out.c2 4 _ rfl
    have g5 := HO.out.c2 5 _ rfl
    have r0 := HO.out.b1.cell 0 _ rfl
    have r1 := HO.out.b1.cell 1 _ rfl
    have r2 := HO.out.b1.cell 2 _ rfl
    have r3 := HO.out.b1.cell 3 _ rfl
    have r4 := HO.out.b1.cell 4 _ rfl
    have r5 := HO.out.b1.cell 5 _ rfl
    have rf := HO.out.b1.frozen
    go_wp2
    have HF6 := As.mk (And.intro (set6_box HO.out.b1 (.int .i64 5) (.int .i64 p) (.int .i64 0) (.bool false) (.slice none 0 0) (.slice none 0 0)) (set6_below HO.out.bl HO.out.w1 (.int .i64 5) (.int .i64 p) (.int .i64 0) (.bool false) (.slice none 0 0) (.slice none 0 0)))
    generalize ((((((W1.setCell ⟨B1, 0, none⟩ (.int .i64 5)).setCell ⟨B1, 1, none⟩ (.int .i64 p)).setCell ⟨B1, 2, none⟩ (.int .i64 0)).setCell ⟨B1, 3, none⟩ (.bool false)).setCell ⟨B1, 4, none⟩ (.slice none 0 0)).setCell ⟨B1, 5, none⟩ (.slice none 0 0)) = WF at HF6 ⊢
    have q0 := HF6.out.1.cell 0 _ rfl
    have q1 := HF6.out.1.cell 1 _ rfl
    have q2 := HF6.out.1.cell 2 _ rfl
    have q3 := HF6.out.1.cell 3 _ rfl
    have q4 := HF6.out.1.cell 4 _ rfl
    have q5 := HF6.out.1.cell 5 _ rfl
    refine bodyPost_ret (v := .agg #[.int .i64 5, .int .i64 p, .int .i64 0, .bool false, .slice none 0 0, .slice none 0 0]) (by simp [results, Tryd.results14, go_sem, q0, q1, q2, q3, q4, q5]) rfl ?_
    exact only_end HZ.out (.inr ⟨rfl, rfl⟩) (.inr ⟨rfl, rfl⟩) ⟨RdB.nil _, RdW.nil _⟩ HF6.out.2
  by_cases h6 : k = 6
  · subst h6
    have s0 := HO.out.b0.cell 0 _ rfl
    have s1 := HO.out.b0.cell 2 _ rfl
    have g0 := HO.out.c2 2 _ rfl
    have gf := HO.out.f2 2
    go_upto_region 18 with fail
    have HO2 := As.mk (HO.out.set 2 (.int .i64 n))
    clear HO g0 gf s0 s1
    have HO := HO2
    clear HO2
    generalize (W0.setCell ⟨B2, 2, none⟩ (.int .i64 n)) = W1 at HO ⊢
    have HZ : As (onlyL ⟨6, p, n, good, bs, ls⟩ = ⟨6, 0, n, false, [], []⟩) := ⟨rfl⟩
    have g5 := HO.out.c2 5 _ rfl
    go_upto_region 20 with fail
    have g0 := HO.out.c2 0 _ rfl
    have g1 := HO.out.c2 1 _ rfl
    have g2 := HO.out.c2 2 _ rfl
    have g3 := HO.out.c2 3 _ rfl
    have g4 := HO.out.c2 4 _ rfl
    have g5 := HO.out.c2 5 _ rfl
    have r0 := HO.out.b1.cell 0 _ rfl
    have r1 := HO.out.b1.cell 1 _ rfl
    have r2 := HO.out.b1.cell 2 _ rfl
    have r3 := HO.out.b1.cell 3 _ rfl
    have r4 := HO.out.b1.cell 4 _ rfl
    have r5 := HO.out.b1.cell 5 _ rfl
    have rf := HO.out.b1.frozen
    go_wp2
    have HF6 := As.mk (And.intro (set6_box HO.out.b1 (.int .i64 6) (.int .i64 0) (.int .i64 n) (.bool false) (.slice none 0 0) (.slice none 0 0)) (set6_below HO.out.bl HO.out.w1 (.int .i64 6) (.int .i64 0) (.int .i64 n) (.bool false) (.slice none 0 0) (.slice none 0 0)))
    generalize ((((((W1.setCell ⟨B1, 0, none⟩ (.int .i64 6)).setCell ⟨B1, 1, none⟩ (.int .i64 0)).setCell ⟨B1, 2, none⟩ (.int .i64 n)).setCell ⟨B1, 3, none⟩ (.bool false)).setCell ⟨B1, 4, none⟩ (.slice none 0 0)).setCell ⟨B1, 5, none⟩ (.slice none 0 0)) = WF at HF6 ⊢
    have q0 := HF6.out.1.cell 0 _ rfl
    have q1 := HF6.out.1.cell 1 _ rfl
    have q2 := HF6.out.1.cell 2 _ rfl
    have q3 := HF6.out.1.cell 3 _ rfl
    have q4 := HF6.out.1.cell 4 _ rfl
    have q5 := HF6.out.1.cell 5 _ rfl
    refine bodyPost_ret (v := .agg #[.int .i64 6, .int .i64 0, .int .i64 n, .bool false, .slice none 0 0, .slice none 0 0]) (by simp [results, Tryd.results14, go_sem, q0, q1, q2, q3, q4, q5]) rfl ?_
    exact only_end HZ.out (.inr ⟨rfl, rfl⟩) (.inr ⟨rfl, rfl⟩) ⟨RdB.nil _, RdW.nil _⟩ HF6.out.2
  by_cases h7 : k = 7
  · subst h7
    have s0 := HO.out.b0.cell 0 _ rfl
    go_upto_region 17 with fail
    clear s0
    have g0 := HO.out.c2 0 _ rfl
    have g1 := HO.out.c2 1 _ rfl
    have g2 := HO.out.c2 2 _ rfl
    have g3 := HO.out.c2 3 _ rfl
    have g4 := HO.out.c2 4 _ rfl
    have g5 := HO.out.c2 5 _ rfl
    have gf := HO.out.f2
    have HOD := As.mk HO.out.drew
    clear HO
    have HO := HOD
    clear HOD
    refine wp_region_held_drew (S := (fun V : World => Box V B #[.int .i64 7, .int .i64 p, .int .i64 n, .bool good, .slice A1 bs.length c1, .slice A2 ls.length c2] 35)) (by kernel_rfl) ?_ (fun hHeld => ?_)
    · exact HO.out.b0
    refine wpAnyH_take (i := 0) (oi := ?_) (v := ?_) (by simp only [List.getElem?_toArray, List.getElem?_cons_zero, List.getElem?_cons_succ]; rfl) (by kernel_rfl) (by kernel_rfl) (by kernel_rfl) (by exact fun _ _ _ h => h) (Or.inl ⟨by rfl, ?_⟩) (by assumption) ?_
    rotate_left
    · (intro w hSw; (try dsimp only at hSw); have s0 := hSw.cell 0 _ rfl; have s1 := hSw.cell 1 _ rfl; have s2 := hSw.cell 2 _ rfl; have s3 := hSw.cell 3 _ rfl; have s4 := hSw.cell 4 _ rfl; have s5 := hSw.cell 5 _ rfl; clear hSw; go_simp; first | done | with_reducible rfl)
    try simp only [Act.put, List.setIfInBounds_toArray, List.set_cons_zero, List.set_cons_succ]
    refine wpAnyH_take (i := 1) (oi := ?_) (v := ?_) (by simp only [List.getElem?_toArray, List.getElem?_cons_zero, List.getElem?_cons_succ]; rfl) (by kernel_rfl) (by kernel_rfl) (by kernel_rfl) (by exact fun _ _ _ h => h) (Or.inl ⟨by rfl, ?_⟩) (by assumption) ?_
    rotate_left
    · (intro w hSw; (try dsimp only at hSw); have s0 := hSw.cell 0 _ rfl; have s1 := hSw.cell 1 _ rfl; have s2 := hSw.cell 2 _ rfl; have s3 := hSw.cell 3 _ rfl; have s4 := hSw.cell 4 _ rfl; have s5 := hSw.cell 5 _ rfl; clear hSw; go_simp; first | done | with_reducible rfl)
    try simp only [Act.put, List.setIfInBounds_toArray, List.set_cons_zero, List.set_cons_succ]
    refine wpAnyH_take (i := 2) (oi := ?_) (v := ?_) (by simp only [List.getElem?_toArray, List.getElem?_cons_zero, List.getElem?_cons_succ]; rfl) (by kernel_rfl) (by kernel_rfl) (by kernel_rfl) (by exact fun _ _ _ h => h) (Or.inl ⟨by rfl, ?_⟩) (by assumption) ?_
    rotate_left
    · (intro w hSw; (try dsimp only at hSw); have s0 := hSw.cell 0 _ rfl; have s1 := hSw.cell 1 _ rfl; have s2 := hSw.cell 2 _ rfl; have s3 := hSw.cell 3 _ rfl; have s4 := hSw.cell 4 _ rfl; have s5 := hSw.cell 5 _ rfl; clear hSw; go_simp; first | done | with_reducible rfl)
    try simp only [Act.put, List.setIfInBounds_toArray, List.set_cons_zero, List.set_cons_succ]
    refine wpAnyH_take (i := 3) (oi := ?_) (v := ?_) (by simp only [List.getElem?_toArray, List.getElem?_cons_zero, List.getElem?_cons_succ]; rfl) (by kernel_rfl) (by kernel_rfl) (by kernel_rfl) (by exact fun _ _ _ h => h) (Or.inl ⟨by rfl, ?_⟩) (by assumption) ?_
    rotate_left
    · (intro w hSw; (try dsimp only at hSw); have s0 := hSw.cell 0 _ rfl; have s1 := hSw.cell 1 _ rfl; have s2 := hSw.cell 2 _ rfl; have s3 := hSw.cell 3 _ rfl; have s4 := hSw.cell 4 _ rfl; have s5 := hSw.cell 5 _ rfl; clear hSw; go_simp; first | done | with_reducible rfl)
    try simp only [Act.put, List.setIfInBounds_toArray, List.set_cons_zero, List.set_cons_succ]
    refine wpAnyH_take (i := 4) (oi := ?_) (v := ?_) (by simp only [List.getElem?_toArray, List.getElem?_cons_zero, List.getElem?_cons_succ]; rfl) (by kernel_rfl) (by kernel_rfl) (by kernel_rfl) (by exact fun _ _ _ h => h) (Or.inl ⟨by rfl, ?_⟩) (by assumption) ?_
    rotate_left
    · (intro w hSw; (try dsimp only at hSw); have s0 := hSw.cell 0 _ rfl; have s1 := hSw.cell 1 _ rfl; have s2 := hSw.cell 2 _ rfl; have s3 := hSw.cell 3 _ rfl; have s4 := hSw.cell 4 _ rfl; have s5 := hSw.cell 5 _ rfl; clear hSw; go_simp; first | done | with_reducible rfl)
    try simp only [Act.put, List.setIfInBounds_toArray, List.set_cons_zero, List.set_cons_succ]
    refine wpAnyH_ready (rs := [5]) (by kernel_rfl) (by simp) ?_
    refine AllReadyH.cons (o := ?_) (by simp only [List.getElem?_toArray, List.getElem?_cons_zero, List.getElem?_cons_succ]; rfl) (fun K hK => ?_) ?_
    · go_simp
      have HO2 := As.mk (HO.out.set 3 (.bool good))
      have hS2 := HO2.out.b0
      clear HO
      have HO := HO2
      clear HO2
      refine hK.out _ _ ?_ (fun hHeld2 => ?_)
      · exact hS2
      clear hK K hHeld
      have hHeld := hHeld2
      clear hHeld2
      try simp only [Act.put, List.setIfInBounds_toArray, List.set_cons_zero, List.set_cons_succ]
      refine wpAnyH_take (i := 6) (oi := ?_) (v := ?_) (by simp only [List.getElem?_toArray, List.getElem?_cons_zero, List.getElem?_cons_succ]; rfl) (by kernel_rfl) (by kernel_rfl) (by kernel_rfl) (by exact fun _ _ _ h => h) (Or.inl ⟨by rfl, ?_⟩) (by assumption) ?_
      rotate_left
      · (intro w hSw; (try dsimp only at hSw); have s0 := hSw.cell 0 _ rfl; have s1 := hSw.cell 1 _ rfl; have s2 := hSw.cell 2 _ rfl; have s3 := hSw.cell 3 _ rfl; have s4 := hSw.cell 4 _ rfl; have s5 := hSw.cell 5 _ rfl; clear hSw; go_simp; first | done | with_reducible rfl)
      try simp only [Act.put, List.setIfInBounds_toArray, List.set_cons_zero, List.set_cons_succ]
      refine wpAnyH_ready (rs := [7]) (by kernel_rfl) (by simp) ?_
      refine AllReadyH.cons (o := ?_) (by simp only [List.getElem?_toArray, List.getElem?_cons_zero, List.getElem?_cons_succ]; rfl) (fun K hK => ?_) ?_
      · go_simp
        have HO2 := As.mk (HO.out.set 4 (.slice A1 bs.length c1))
        have hS2 := HO2.out.b0
        clear HO
        have HO := HO2
        clear HO2
        refine hK.out _ _ ?_ (fun hHeld2 => ?_)
        · exact hS2
        clear hK K hHeld
        have hHeld := hHeld2
        clear hHeld2
        try simp only [Act.put, List.setIfInBounds_toArray, List.set_cons_zero, List.set_cons_succ]
        refine wpAnyH_done (by kernel_rfl) ?_ _
        clear hHeld g0 g1 g2 g3 g4 g5 gf
        go_upto_region 18 with fail
        have HO3 : As (OS w ((W0.setCell ⟨B2, 3, none⟩ (.bool good)).setCell ⟨B2, 4, none⟩ (.slice A1 bs.length c1)).drew B B1 B2 [.int .i64 7, .int .i64 p, .int .i64 n, .bool good, .slice A1 bs.length c1, .slice A2 ls.length c2] [.int .i64 7, .int .i64 0, .int .i64 0, .bool good, .slice A1 bs.length c1, .slice none 0 0]) := ⟨HO.out⟩
        clear HO
        have HO := HO3
        clear HO3
        generalize ((W0.setCell ⟨B2, 3, none⟩ (.bool good)).setCell ⟨B2, 4, none⟩ (.slice A1 bs.length c1)).drew = W1 at HO ⊢
        have HZ : As (onlyL ⟨7, p, n, good, bs, ls⟩ = ⟨7, 0, 0, good, bs, []⟩) := ⟨rfl⟩
        have g5 := HO.out.c2 5 _ rfl
        go_upto_region 20 with fail
        have g0 := HO.out.c2 0 _ rfl
        have g1 := HO.out.c2 1 _ rfl
        have g2 := HO.out.c2 2 _ rfl
        have g3 := HO.out.c2 3 _ rfl
        have g4 := HO.out.c2 4 _ rfl
        have g5 := HO.out.c2 5 _ rfl
        have r0 := HO.out.b1.cell 0 _ rfl
        have r1 := HO.out.b1.cell 1 _ rfl
        have r2 := HO.out.b1.cell 2 _ rfl
        have r3 := HO.out.b1.cell 3 _ rfl
        have r4 := HO.out.b1.cell 4 _ rfl
        have r5 := HO.out.b1.cell 5 _ rfl
        have rf := HO.out.b1.frozen
        go_wp2
        have HF6 := As.mk (And.intro (set6_box HO.out.b1 (.int .i64 7) (.int .i64 0) (.int .i64 0) (.bool good) (.slice A1 bs.length c1) (.slice none 0 0)) (set6_below HO.out.bl HO.out.w1 (.int .i64 7) (.int .i64 0) (.int .i64 0) (.bool good) (.slice A1 bs.length c1) (.slice none 0 0)))
        generalize ((((((W1.setCell ⟨B1, 0, none⟩ (.int .i64 7)).setCell ⟨B1, 1, none⟩ (.int .i64 0)).setCell ⟨B1, 2, none⟩ (.int .i64 0)).setCell ⟨B1, 3, none⟩ (.bool good)).setCell ⟨B1, 4, none⟩ (.slice A1 bs.length c1)).setCell ⟨B1, 5, none⟩ (.slice none 0 0)) = WF at HF6 ⊢
        have q0 := HF6.out.1.cell 0 _ rfl
        have q1 := HF6.out.1.cell 1 _ rfl
        have q2 := HF6.out.1.cell 2 _ rfl
        have q3 := HF6.out.1.cell 3 _ rfl
        have q4 := HF6.out.1.cell 4 _ rfl
        have q5 := HF6.out.1.cell 5 _ rfl
        refine bodyPost_ret (v := .agg #[.int .i64 7, .int .i64 0, .int .i64 0, .bool good, .slice A1 bs.length c1, .slice none 0 0]) (by simp [results, Tryd.results14, go_sem, q0, q1, q2, q3, q4, q5]) rfl ?_
        exact only_end HZ.out (.inl ⟨rfl, rfl⟩) (.inr ⟨rfl, rfl⟩) ⟨RdS.below HA1.out HF6.out.2, RdW.nil _⟩ HF6.out.2
      exact AllReadyH.nil
    exact AllReadyH.nil
  by_cases h9 : k = 9
  · subst h9
    have s0 := HO.out.b0.cell 0 _ rfl
    have s1 := HO.out.b0.cell 2 _ rfl
    have g0 := HO.out.c2 2 _ rfl
    have gf := HO.out.f2 2
    go_upto_region 18 with fail
    have HO2 := As.mk (HO.out.set 2 (.int .i64 n))
    clear HO g0 gf s0 s1
    have HO := HO2
    clear HO2
    generalize (W0.setCell ⟨B2, 2, none⟩ (.int .i64 n)) = W1 at HO ⊢
    have HZ : As (onlyL ⟨9, p, n, good, bs, ls⟩ = ⟨9, 0, n, false, [], []⟩) := ⟨rfl⟩
    have g5 := HO.out.c2 5 _ rfl
    go_upto_region 20 with fail
    have g0 := HO.out.c2 0 _ rfl
    have g1 := HO.out.c2 1 _ rfl
    have g2 := HO.out.c2 2 _ rfl
    have g3 := HO.out.c2 3 _ rfl
    have g4 := HO.out.c2 4 _ rfl
    have g5 := HO.out.c2 5 _ rfl
    have r0 := HO.out.b1.cell 0 _ rfl
    have r1 := HO.out.b1.cell 1 _ rfl
    have r2 := HO.out.b1.cell 2 _ rfl
    have r3 := HO.out.b1.cell 3 _ rfl
    have r4 := HO.out.b1.cell 4 _ rfl
    have r5 := HO.out.b1.cell 5 _ rfl
    have rf := HO.out.b1.frozen
    go_wp2
    have HF6 := As.mk (And.intro (set6_box HO.out.b1 (.int .i64 9) (.int .i64 0) (.int .i64 n) (.bool false) (.slice none 0 0) (.slice none 0 0)) (set6_below HO.out.bl HO.out.w1 (.int .i64 9) (.int .i64 0) (.int .i64 n) (.bool false) (.slice none 0 0) (.slice none 0 0)))
    generalize ((((((W1.setCell ⟨B1, 0, none⟩ (.int .i64 9)).setCell ⟨B1, 1, none⟩ (.int .i64 0)).setCell ⟨B1, 2, none⟩ (.int .i64 n)).setCell ⟨B1, 3, none⟩ (.bool false)).setCell ⟨B1, 4, none⟩ (.slice none 0 0)).setCell ⟨B1, 5, none⟩ (.slice none 0 0)) = WF at HF6 ⊢
    have q0 := HF6.out.1.cell 0 _ rfl
    have q1 := HF6.out.1.cell 1 _ rfl
    have q2 := HF6.out.1.cell 2 _ rfl
    have q3 := HF6.out.1.cell 3 _ rfl
    have q4 := HF6.out.1.cell 4 _ rfl
    have q5 := HF6.out.1.cell 5 _ rfl
    refine bodyPost_ret (v := .agg #[.int .i64 9, .int .i64 0, .int .i64 n, .bool false, .slice none 0 0, .slice none 0 0]) (by simp [results, Tryd.results14, go_sem, q0, q1, q2, q3, q4, q5]) rfl ?_
    exact only_end HZ.out (.inr ⟨rfl, rfl⟩) (.inr ⟨rfl, rfl⟩) ⟨RdB.nil _, RdW.nil _⟩ HF6.out.2
  have e1 : (k == 1) = false := beq_eq_false_iff_ne.2 h1
  have e2 : (k == 2) = false := beq_eq_false_iff_ne.2 h2
  have e3 : (k == 3) = false := beq_eq_false_iff_ne.2 h3
  have e4 : (k == 4) = false := beq_eq_false_iff_ne.2 h4
  have e5 : (k == 5) = false := beq_eq_false_iff_ne.2 h5
  have e6 : (k == 6) = false := beq_eq_false_iff_ne.2 h6
  have e7 : (k == 7) = false := beq_eq_false_iff_ne.2 h7
  have e9 : (k == 9) = false := beq_eq_false_iff_ne.2 h9
  have HZ : As (onlyL ⟨k, p, n, good, bs, ls⟩ = ⟨k, 0, 0, false, [], []⟩) := ⟨by simp [onlyL, h1, h2, h3, h4, h5, h6, h7, h9]⟩
  clear h1 h2 h3 h4 h5 h6 h7 h9
  have s0 := HO.out.b0.cell 0 _ rfl
  have g5 := HO.out.c2 5 _ rfl
  go_upto_region 20 with fail
  have g0 := HO.out.c2 0 _ rfl
  have g1 := HO.out.c2 1 _ rfl
  have g2 := HO.out.c2 2 _ rfl
  have g3 := HO.out.c2 3 _ rfl
  have g4 := HO.out.c2 4 _ rfl
  have g5 := HO.out.c2 5 _ rfl
  have r0 := HO.out.b1.cell 0 _ rfl
  have r1 := HO.out.b1.cell 1 _ rfl
  have r2 := HO.out.b1.cell 2 _ rfl
  have r3 := HO.out.b1.cell 3 _ rfl
  have r4 := HO.out.b1.cell 4 _ rfl
  have r5 := HO.out.b1.cell 5 _ rfl
  have rf := HO.out.b1.frozen
  go_wp2
  have HF6 := As.mk (And.intro (set6_box HO.out.b1 (.int .i64 k) (.int .i64 0) (.int .i64 0) (.bool false) (.slice none 0 0) (.slice none 0 0)) (set6_below HO.out.bl HO.out.w1 (.int .i64 k) (.int .i64 0) (.int .i64 0) (.bool false) (.slice none 0 0) (.slice none 0 0)))
  generalize ((((((W0.setCell ⟨B1, 0, none⟩ (.int .i64 k)).setCell ⟨B1, 1, none⟩ (.int .i64 0)).setCell ⟨B1, 2, none⟩ (.int .i64 0)).setCell ⟨B1, 3, none⟩ (.bool false)).setCell ⟨B1, 4, none⟩ (.slice none 0 0)).setCell ⟨B1, 5, none⟩ (.slice none 0 0)) = WF at HF6 ⊢
  have q0 := HF6.out.1.cell 0 _ rfl
  have q1 := HF6.out.1.cell 1 _ rfl
  have q2 := HF6.out.1.cell 2 _ rfl
  have q3 := HF6.out.1.cell 3 _ rfl
  have q4 := HF6.out.1.cell 4 _ rfl
  have q5 := HF6.out.1.cell 5 _ rfl
  refine bodyPost_ret (v := .agg #[.int .i64 k, .int .i64 0, .int .i64 0, .bool false, .slice none 0 0, .slice none 0 0]) (by simp [results, Tryd.results14, go_sem, q0, q1, q2, q3, q4, q5]) rfl ?_
  exact only_end HZ.out (.inr ⟨rfl, rfl⟩) (.inr ⟨rfl, rfl⟩) ⟨RdB.nil _, RdW.nil _⟩ HF6.out.2
end Go.Proofs.YtodcbcpjlhlakaaDoor.W
