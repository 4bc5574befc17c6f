/- What is told: two steps are the same. -/
import Derived.Test.YtodcbcpjlhlakaaDoorR22
set_option linter.unusedVariables false
set_option linter.unusedSimpArgs false
namespace Go.Proofs.YtodcbcpjlhlakaaDoor.W
open Go.RowKit Go.Proofs.YtodcbcpjlhlakaaDoor.B Go.Proofs

set_option maxHeartbeats 4000000 in
set_option maxRecDepth 100000 in
theorem same_any (a b : LStep) (bv lv bv' lv' : Value) (w : World) (ha : StepC w a bv lv) (hb : StepC w b bv' lv') :
    Calls Tryd.prog 13 #[.agg (cellsS a bv lv), .agg (cellsS b bv' lv')] w fun e w' => e = .returned (.bool (decide (a = b))) ∧ Below w.heap.size w w' := by
  obtain ⟨k, p, n, good, bs, ls⟩ := a
  obtain ⟨k', p', n', good', bs', ls'⟩ := b
  obtain ⟨ha1, ha2⟩ := ha
  obtain ⟨hb1, hb2⟩ := hb
  simp only at ha1 ha2 hb1 hb2
  unfold cellsS
  dsimp only
  obtain ⟨A1, c1, rfl, -⟩ := RdB.form ha1
  obtain ⟨A2, c2, rfl, m1, m2, -⟩ := ha2.form
  have HLM : As ((ls.length : Int) ≤ 9223372036854775807) := ⟨by unfold maxLen at m2; omega⟩
  clear m1 m2
  obtain ⟨B1, d1, rfl, -⟩ := RdB.form hb1
  obtain ⟨B2, d2, rfl, -⟩ := hb2.form
  obtain ⟨W0, hW0⟩ : ∃ W, W = w.alloc (.cells #[.int .i64 k, .int .i64 p, .int .i64 n, .bool good, .slice A1 bs.length c1, .slice A2 ls.length c2] 35) := ⟨_, rfl⟩
  obtain ⟨W1, hW1⟩ : ∃ W, W = W0.alloc (.cells #[.int .i64 k', .int .i64 p', .int .i64 n', .bool good', .slice B1 bs'.length d1, .slice B2 ls'.length d2] 35) := ⟨_, rfl⟩
  have hb0 : Below w.heap.size w W0 := by rw [hW0]; exact below_al _ _
  have hb1' : Below W0.heap.size W0 W1 := by rw [hW1]; exact below_al _ _
  have hx : ∀ (j : Nat) (v : Value), [Value.int .i64 k, .int .i64 p, .int .i64 n, .bool good, .slice A1 bs.length c1, .slice A2 ls.length c2][j]? = some v → W1.cell? ⟨w.heap.size, j, none⟩ = some v := fun j v hv => cell_below hb1' (by rw [hW0]; exact new_at _ _ _ _ _ hv)
  have hy : ∀ (j : Nat) (v : Value), [Value.int .i64 k', .int .i64 p', .int .i64 n', .bool good', .slice B1 bs'.length d1, .slice B2 ls'.length d2][j]? = some v → W1.cell? ⟨W0.heap.size, j, none⟩ = some v := fun j v hv => by rw [hW1]; exact new_at _ _ _ _ _ hv
  have HW := As.mk (hb0.trans (hb1'.mono hb0.size))
  have HA1 := As.mk (RdS.below ha1 HW.out)
  have HA2 := As.mk (ha2.below HW.out)
  have HB1 := As.mk (RdS.below hb1 HW.out)
  have HB2 := As.mk (hb2.below HW.out)
  have HX := As.mk hx
  have HY := As.mk hy
  have HE0 := As.mk hW0
  have HE1 := As.mk hW1
  clear ha1 ha2 hb1 hb2 hb0 hb1' hx hy hW0 hW1
  go_enter Tryd.func13, Tryd.ntmps13
  go_upto_region 1 with fail
  rw [← HE0.out]
  rw [← HE1.out]
  obtain ⟨G, hG⟩ : ∃ G, G = w.heap.size := ⟨_, rfl⟩
  obtain ⟨D, hD⟩ : ∃ D, D = W0.heap.size := ⟨_, rfl⟩
  have hGD : G + 1 = D := by rw [hG, hD, HE0.out]; simp
  rw [← hG] at HX ⊢
  rw [← hD] at HY
  rw [hGD]
  clear hG hD hGD HE0 HE1
  have x0 := HX.out 0 _ rfl
  have y0 := HY.out 0 _ rfl
  have x1 := HX.out 1 _ rfl
  have y1 := HY.out 1 _ rfl
  have x2 := HX.out 2 _ rfl
  have y2 := HY.out 2 _ rfl
  have x3 := HX.out 3 _ rfl
  have y3 := HY.out 3 _ rfl
  have x4 := HX.out 4 _ rfl
  have y4 := HY.out 4 _ rfl
  have x5 := HX.out 5 _ rfl
  have y5 := HY.out 5 _ rfl
  have kva := run_str (P := Tryd.prog) 29 9 5 Tryd.underlying29 Tryd.underlying5 Tryd.underlying9 HA1.out
  have kvb := run_str (P := Tryd.prog) 29 9 5 Tryd.underlying29 Tryd.underlying5 Tryd.underlying9 HB1.out
  by_cases h : k = k'
  rotate_left
  · have hne : (k == k') = false := beq_eq_false_iff_ne.2 h
    have HF : As (decide ((⟨k, p, n, good, bs, ls⟩ : LStep) = ⟨k', p', n', good', bs', ls'⟩) = false) := ⟨decide_eq_false (fun e => by injection e with e0 e1 e2 e3 e4 e5; first | exact h e0 | exact h e1 | exact h e2 | exact h e3 | exact h e4 | exact h (by rw [e5]))⟩
    go_wp2
    go_ret
    rw [HF.out]
    exact ⟨rfl, HW.out⟩
  subst h
  by_cases h : p = p'
  rotate_left
  · have hne : (p == p') = false := beq_eq_false_iff_ne.2 h
    have HF : As (decide ((⟨k, p, n, good, bs, ls⟩ : LStep) = ⟨k, p', n', good', bs', ls'⟩) = false) := ⟨decide_eq_false (fun e => by injection e with e0 e1 e2 e3 e4 e5; first | exact h e0 | exact h e1 | exact h e2 | exact h e3 | exact h e4 | exact h (by rw [e5]))⟩
    go_wp2
    go_ret
    rw [HF.out]
    exact ⟨rfl, HW.out⟩
  subst h
  by_cases h : n = n'
  rotate_left
  · have hne : (n == n') = false := beq_eq_false_iff_ne.2 h
    have HF : As (decide ((⟨k, p, n, good, bs, ls⟩ : LStep) = ⟨k, p, n', good', bs', ls'⟩) = false) := ⟨decide_eq_false (fun e => by injection e with e0 e1 e2 e3 e4 e5; first | exact h e0 | exact h e1 | exact h e2 | exact h e3 | exact h e4 | exact h (by rw [e5]))⟩
    go_wp2
    go_ret
    rw [HF.out]
    exact ⟨rfl, HW.out⟩
  subst h
  by_cases h : good = good'
  rotate_left
  · have hne : (good == good') = false := beq_eq_false_iff_ne.2 h
    have HF : As (decide ((⟨k, p, n, good, bs, ls⟩ : LStep) = ⟨k, p, n, good', bs', ls'⟩) = false) := ⟨decide_eq_false (fun e => by injection e with e0 e1 e2 e3 e4 e5; first | exact h e0 | exact h e1 | exact h e2 | exact h e3 | exact h e4 | exact h (by rw [e5]))⟩
    go_wp2
    go_ret
    rw [HF.out]
    exact ⟨rfl, HW.out⟩
  subst h
  by_cases h : bs = bs'
  rotate_left
  · have hne : (bs == bs') = false := beq_eq_false_iff_ne.2 h
    have HF : As (decide ((⟨k, p, n, good, bs, ls⟩ : LStep) = ⟨k, p, n, good, bs', ls'⟩) = false) := ⟨decide_eq_false (fun e => by injection e with e0 e1 e2 e3 e4 e5; first | exact h e0 | exact h e1 | exact h e2 | exact h e3 | exact h e4 | exact h (by rw [e5]))⟩
    go_wp2
    go_ret
    rw [HF.out]
    exact ⟨rfl, HW.out⟩
  subst h
  by_cases h : ls.length = ls'.length
  rotate_left
  · have hne : ((ls.length : Int) == (ls'.length : Int)) = false := by rw [beq_eq_false_iff_ne]; omega
    have HF : As (decide ((⟨k, p, n, good, bs, ls⟩ : LStep) = ⟨k, p, n, good, bs, ls'⟩) = false) := ⟨decide_eq_false (fun e => by injection e with e0 e1 e2 e3 e4 e5; first | exact h e0 | exact h e1 | exact h e2 | exact h e3 | exact h e4 | exact h (by rw [e5]))⟩
    go_wp2
    go_ret
    rw [HF.out]
    exact ⟨rfl, HW.out⟩
  rw [← h] at y5 HB2
  have X05 := As.mk x5
  have Y05 := As.mk y5
  have HLE : As (ls.length = ls'.length) := ⟨h⟩
  clear h
  go_upto_region 3 with fail
  clear x0 x1 x2 x3 x4 y0 y1 y2 y3 y4 kva kvb
  go_wp2
  clear x5 y5
  go_loopw [53] (fun v53 wr => ∃ K : Nat, v53 = .int .i64 (K : Int) ∧ (K : Int) ≤ ls.length ∧ As (ls.take K = ls'.take K) ∧ As (Below W1.heap.size W1 wr)) (fun v53 _ => ls.length - (intOf v53).toNat)
  case atStart => exact ⟨0, rfl, by omega, ⟨rfl⟩, ⟨Below.refl _ _⟩⟩
  case round =>
    obtain ⟨K, rfl, hk, HT, HB⟩ := hrel
    by_cases hlt : (K : Int) < ls.length
    · have hlt' : K < ls.length := by omega
      obtain ⟨x, hx⟩ : ∃ x, ls[K]? = some x := ⟨_, List.getElem?_eq_getElem hlt'⟩
      obtain ⟨y, hy⟩ : ∃ y, ls'[K]? = some y := ⟨_, List.getElem?_eq_getElem (by have := HLE.out; omega)⟩
      obtain ⟨g, o, B, d, rfl, hcx, hrx⟩ := RdW.at (HA2.out.below HB.out) K x hx
      obtain ⟨g', o', B', d', rfl, hcy, hry⟩ := RdW.at (HB2.out.below HB.out) K y hy
      have X5 := As.mk (cell_below HB.out X05.out)
      have Y5 := As.mk (cell_below HB.out Y05.out)
      have CX := As.mk hcx
      have CY := As.mk hcy
      have RX := As.mk hrx
      have RY := As.mk hry
      have TX : As (ls.take (K + 1) = ls.take K ++ [x]) := ⟨by rw [List.take_add_one, hx]; rfl⟩
      have TY : As (ls'.take (K + 1) = ls'.take K ++ [y]) := ⟨by rw [List.take_add_one, hy]; rfl⟩
      have HXY : As (ls = ls' → x = y) := ⟨fun e => by rw [e, hy] at hx; exact (Option.some.inj hx).symm⟩
      clear hcx hcy hrx hry hx hy
      go_upto_region 6 with fail
      by_cases h : x = y
      · have HT2 : As (ls.take (K + 1) = ls'.take (K + 1)) := ⟨by rw [TX.out, TY.out, HT.out, h]⟩
        subst h
        refine wp_region_held_drew (S := (fun V : World => Below wr.heap.size wr V)) (by kernel_rfl) ?_ (fun hHeld => ?_)
        · exact below_dr wr
        refine wpAnyH_take (i := 0) (oi := ?_) (v := ?_) (by simp only [List.getElem?_toArray, List.getElem?_cons_zero, List.getElem?_cons_succ]; rfl) (by kernel_rfl) (by kernel_rfl) (by kernel_rfl) (by exact fun _ _ _ h => h) (Or.inl ⟨by rfl, ?_⟩) (by assumption) ?_
        rotate_left
        · (intro w hSw; (try dsimp only at hSw); have e5 := cell_below hSw X5.out; have z5 := cell_below hSw Y5.out; have ex := cell_below hSw CX.out; have ey := cell_below hSw CY.out; have kx := run_str (P := Tryd.prog) 29 9 5 Tryd.underlying29 Tryd.underlying5 Tryd.underlying9 (RdS.below RX.out hSw); have ky := run_str (P := Tryd.prog) 29 9 5 Tryd.underlying29 Tryd.underlying5 Tryd.underlying9 (RdS.below RY.out hSw); clear hSw; go_simp; first | done | with_reducible rfl)
        try simp only [Act.put, List.setIfInBounds_toArray, List.set_cons_zero, List.set_cons_succ]
        refine wpAnyH_take (i := 1) (oi := ?_) (v := ?_) (by simp only [List.getElem?_toArray, List.getElem?_cons_zero, List.getElem?_cons_succ]; rfl) (by kernel_rfl) (by kernel_rfl) (by kernel_rfl) (by exact fun _ _ _ h => h) (Or.inl ⟨by rfl, ?_⟩) (by assumption) ?_
        rotate_left
        · (intro w hSw; (try dsimp only at hSw); have e5 := cell_below hSw X5.out; have z5 := cell_below hSw Y5.out; have ex := cell_below hSw CX.out; have ey := cell_below hSw CY.out; have kx := run_str (P := Tryd.prog) 29 9 5 Tryd.underlying29 Tryd.underlying5 Tryd.underlying9 (RdS.below RX.out hSw); have ky := run_str (P := Tryd.prog) 29 9 5 Tryd.underlying29 Tryd.underlying5 Tryd.underlying9 (RdS.below RY.out hSw); clear hSw; go_simp; first | done | with_reducible rfl)
        try simp only [Act.put, List.setIfInBounds_toArray, List.set_cons_zero, List.set_cons_succ]
        refine wpAnyH_take (i := 2) (oi := ?_) (v := ?_) (by simp only [List.getElem?_toArray, List.getElem?_cons_zero, List.getElem?_cons_succ]; rfl) (by kernel_rfl) (by kernel_rfl) (by kernel_rfl) (by exact fun _ _ _ h => h) (Or.inl ⟨by rfl, ?_⟩) (by assumption) ?_
        rotate_left
        · (intro w hSw; (try dsimp only at hSw); have e5 := cell_below hSw X5.out; have z5 := cell_below hSw Y5.out; have ex := cell_below hSw CX.out; have ey := cell_below hSw CY.out; have kx := run_str (P := Tryd.prog) 29 9 5 Tryd.underlying29 Tryd.underlying5 Tryd.underlying9 (RdS.below RX.out hSw); have ky := run_str (P := Tryd.prog) 29 9 5 Tryd.underlying29 Tryd.underlying5 Tryd.underlying9 (RdS.below RY.out hSw); clear hSw; go_simp; first | done | with_reducible rfl)
        try simp only [Act.put, List.setIfInBounds_toArray, List.set_cons_zero, List.set_cons_succ]
        refine wpAnyH_take (i := 3) (oi := ?_) (v := ?_) (by simp only [List.getElem?_toArray, List.getElem?_cons_zero, List.getElem?_cons_succ]; rfl) (by kernel_rfl) (by kernel_rfl) (by kernel_rfl) (by exact fun _ _ _ h => h) (Or.inl ⟨by rfl, ?_⟩) (by assumption) ?_
        rotate_left
        · (intro w hSw; (try dsimp only at hSw); have e5 := cell_below hSw X5.out; have z5 := cell_below hSw Y5.out; have ex := cell_below hSw CX.out; have ey := cell_below hSw CY.out; have kx := run_str (P := Tryd.prog) 29 9 5 Tryd.underlying29 Tryd.underlying5 Tryd.underlying9 (RdS.below RX.out hSw); have ky := run_str (P := Tryd.prog) 29 9 5 Tryd.underlying29 Tryd.underlying5 Tryd.underlying9 (RdS.below RY.out hSw); clear hSw; go_simp; first | done | with_reducible rfl)
        try simp only [Act.put, List.setIfInBounds_toArray, List.set_cons_zero, List.set_cons_succ]
        refine wpAnyH_take (i := 4) (oi := ?_) (v := ?_) (by simp only [List.getElem?_toArray, List.getElem?_cons_zero, List.getElem?_cons_succ]; rfl) (by kernel_rfl) (by kernel_rfl) (by kernel_rfl) (by exact fun _ _ _ h => h) (Or.inl ⟨by rfl, ?_⟩) (by assumption) ?_
        rotate_left
        · (intro w hSw; (try dsimp only at hSw); have e5 := cell_below hSw X5.out; have z5 := cell_below hSw Y5.out; have ex := cell_below hSw CX.out; have ey := cell_below hSw CY.out; have kx := run_str (P := Tryd.prog) 29 9 5 Tryd.underlying29 Tryd.underlying5 Tryd.underlying9 (RdS.below RX.out hSw); have ky := run_str (P := Tryd.prog) 29 9 5 Tryd.underlying29 Tryd.underlying5 Tryd.underlying9 (RdS.below RY.out hSw); clear hSw; go_simp; first | done | with_reducible rfl)
        try simp only [Act.put, List.setIfInBounds_toArray, List.set_cons_zero, List.set_cons_succ]
        refine wpAnyH_take (i := 5) (oi := ?_) (v := ?_) (by simp only [List.getElem?_toArray, List.getElem?_cons_zero, List.getElem?_cons_succ]; rfl) (by kernel_rfl) (by kernel_rfl) (by kernel_rfl) (by exact fun _ _ _ h => h) (Or.inl ⟨by rfl, ?_⟩) (by assumption) ?_
        rotate_left
        · (intro w hSw; (try dsimp only at hSw); have e5 := cell_below hSw X5.out; have z5 := cell_below hSw Y5.out; have ex := cell_below hSw CX.out; have ey := cell_below hSw CY.out; have kx := run_str (P := Tryd.prog) 29 9 5 Tryd.underlying29 Tryd.underlying5 Tryd.underlying9 (RdS.below RX.out hSw); have ky := run_str (P := Tryd.prog) 29 9 5 Tryd.underlying29 Tryd.underlying5 Tryd.underlying9 (RdS.below RY.out hSw); clear hSw; go_simp; first | done | with_reducible rfl)
        try simp only [Act.put, List.setIfInBounds_toArray, List.set_cons_zero, List.set_cons_succ]
        refine wpAnyH_take (i := 6) (oi := ?_) (v := ?_) (by simp only [List.getElem?_toArray, List.getElem?_cons_zero, List.getElem?_cons_succ]; rfl) (by kernel_rfl) (by kernel_rfl) (by kernel_rfl) (by exact fun _ _ _ h => h) (Or.inl ⟨by rfl, ?_⟩) (by assumption) ?_
        rotate_left
        · (intro w hSw; (try dsimp only at hSw); have e5 := cell_below hSw X5.out; have z5 := cell_below hSw Y5.out; have ex := cell_below hSw CX.out; have ey := cell_below hSw CY.out; have kx := run_str (P := Tryd.prog) 29 9 5 Tryd.underlying29 Tryd.underlying5 Tryd.underlying9 (RdS.below RX.out hSw); have ky := run_str (P := Tryd.prog) 29 9 5 Tryd.underlying29 Tryd.underlying5 Tryd.underlying9 (RdS.below RY.out hSw); clear hSw; go_simp; first | done | with_reducible rfl)
        try simp only [Act.put, List.setIfInBounds_toArray, List.set_cons_zero, List.set_cons_succ]
        refine wpAnyH_take (i := 7) (oi := ?_) (v := ?_) (by simp only [List.getElem?_toArray, List.getElem?_cons_zero, List.getElem?_cons_succ]; rfl) (by kernel_rfl) (by kernel_rfl) (by kernel_rfl) (by exact fun _ _ _ h => h) (Or.inl ⟨by rfl, ?_⟩) (by assumption) ?_
        rotate_left
        · (intro w hSw; (try dsimp only at hSw); have e5 := cell_below hSw X5.out; have z5 := cell_below hSw Y5.out; have ex := cell_below hSw CX.out; have ey := cell_below hSw CY.out; have kx := run_str (P := Tryd.prog) 29 9 5 Tryd.underlying29 Tryd.underlying5 Tryd.underlying9 (RdS.below RX.out hSw); have ky := run_str (P := Tryd.prog) 29 9 5 Tryd.underlying29 Tryd.underlying5 Tryd.underlying9 (RdS.below RY.out hSw); clear hSw; go_simp; first | done | with_reducible rfl)
        try simp only [Act.put, List.setIfInBounds_toArray, List.set_cons_zero, List.set_cons_succ]
        refine wpAnyH_take (i := 8) (oi := ?_) (v := ?_) (by simp only [List.getElem?_toArray, List.getElem?_cons_zero, List.getElem?_cons_succ]; rfl) (by kernel_rfl) (by kernel_rfl) (by kernel_rfl) (by exact fun _ _ _ h => h) (Or.inl ⟨by rfl, ?_⟩) (by assumption) ?_
        rotate_left
        · (intro w hSw; (try dsimp only at hSw); have e5 := cell_below hSw X5.out; have z5 := cell_below hSw Y5.out; have ex := cell_below hSw CX.out; have ey := cell_below hSw CY.out; have kx := run_str (P := Tryd.prog) 29 9 5 Tryd.underlying29 Tryd.underlying5 Tryd.underlying9 (RdS.below RX.out hSw); have ky := run_str (P := Tryd.prog) 29 9 5 Tryd.underlying29 Tryd.underlying5 Tryd.underlying9 (RdS.below RY.out hSw); clear hSw; go_simp; first | done | with_reducible rfl)
        try simp only [Act.put, List.setIfInBounds_toArray, List.set_cons_zero, List.set_cons_succ]
        refine wpAnyH_take (i := 9) (oi := ?_) (v := ?_) (by simp only [List.getElem?_toArray, List.getElem?_cons_zero, List.getElem?_cons_succ]; rfl) (by kernel_rfl) (by kernel_rfl) (by kernel_rfl) (by exact fun _ _ _ h => h) (Or.inl ⟨by rfl, ?_⟩) (by assumption) ?_
        rotate_left
        · (intro w hSw; (try dsimp only at hSw); have e5 := cell_below hSw X5.out; have z5 := cell_below hSw Y5.out; have ex := cell_below hSw CX.out; have ey := cell_below hSw CY.out; have kx := run_str (P := Tryd.prog) 29 9 5 Tryd.underlying29 Tryd.underlying5 Tryd.underlying9 (RdS.below RX.out hSw); have ky := run_str (P := Tryd.prog) 29 9 5 Tryd.underlying29 Tryd.underlying5 Tryd.underlying9 (RdS.below RY.out hSw); clear hSw; go_simp; first | done | with_reducible rfl)
        try simp only [Act.put, List.setIfInBounds_toArray, List.set_cons_zero, List.set_cons_succ]
        refine wpAnyH_take (i := 10) (oi := ?_) (v := ?_) (by simp only [List.getElem?_toArray, List.getElem?_cons_zero, List.getElem?_cons_succ]; rfl) (by kernel_rfl) (by kernel_rfl) (by kernel_rfl) (by exact fun _ _ _ h => h) (Or.inl ⟨by rfl, ?_⟩) (by assumption) ?_
        rotate_left
        · (intro w hSw; (try dsimp only at hSw); have e5 := cell_below hSw X5.out; have z5 := cell_below hSw Y5.out; have ex := cell_below hSw CX.out; have ey := cell_below hSw CY.out; have kx := run_str (P := Tryd.prog) 29 9 5 Tryd.underlying29 Tryd.underlying5 Tryd.underlying9 (RdS.below RX.out hSw); have ky := run_str (P := Tryd.prog) 29 9 5 Tryd.underlying29 Tryd.underlying5 Tryd.underlying9 (RdS.below RY.out hSw); clear hSw; go_simp; first | done | with_reducible rfl)
        try simp only [Act.put, List.setIfInBounds_toArray, List.set_cons_zero, List.set_cons_succ]
        refine wpAnyH_take (i := 11) (oi := ?_) (v := ?_) (by simp only [List.getElem?_toArray, List.getElem?_cons_zero, List.getElem?_cons_succ]; rfl) (by kernel_rfl) (by kernel_rfl) (by kernel_rfl) (by exact fun _ _ _ h => h) (Or.inl ⟨by rfl, ?_⟩) (by assumption) ?_
        rotate_left
        · (intro w hSw; (try dsimp only at hSw); have e5 := cell_below hSw X5.out; have z5 := cell_below hSw Y5.out; have ex := cell_below hSw CX.out; have ey := cell_below hSw CY.out; have kx := run_str (P := Tryd.prog) 29 9 5 Tryd.underlying29 Tryd.underlying5 Tryd.underlying9 (RdS.below RX.out hSw); have ky := run_str (P := Tryd.prog) 29 9 5 Tryd.underlying29 Tryd.underlying5 Tryd.underlying9 (RdS.below RY.out hSw); clear hSw; go_simp; first | done | with_reducible rfl)
        try simp only [Act.put, List.setIfInBounds_toArray, List.set_cons_zero, List.set_cons_succ]
        refine wpAnyH_take (i := 12) (oi := ?_) (v := ?_) (by simp only [List.getElem?_toArray, List.getElem?_cons_zero, List.getElem?_cons_succ]; rfl) (by kernel_rfl) (by kernel_rfl) (by kernel_rfl) (by exact fun _ _ _ h => h) (Or.inl ⟨by rfl, ?_⟩) (by assumption) ?_
        rotate_left
        · (intro w hSw; (try dsimp only at hSw); have e5 := cell_below hSw X5.out; have z5 := cell_below hSw Y5.out; have ex := cell_below hSw CX.out; have ey := cell_below hSw CY.out; have kx := run_str (P := Tryd.prog) 29 9 5 Tryd.underlying29 Tryd.underlying5 Tryd.underlying9 (RdS.below RX.out hSw); have ky := run_str (P := Tryd.prog) 29 9 5 Tryd.underlying29 Tryd.underlying5 Tryd.underlying9 (RdS.below RY.out hSw); clear hSw; go_simp; first | done | with_reducible rfl)
        try simp only [Act.put, List.setIfInBounds_toArray, List.set_cons_zero, List.set_cons_succ]
        refine wpAnyH_done (by kernel_rfl) ?_ _
        have HBN := As.mk (HB.out.trans (hHeld.mono HB.out.size))
        clear hHeld
        go_wp2
        go_roundw
        all_goals (have hl := HLM.out; rw [IntWalk.wrap64_in ((K : Int) + 1) (by omega)])
        case rel => exact ⟨K + 1, by go_num, by omega, HT2, HBN⟩
        case measure => simp [intOf]; omega
      · have HF2 : As (decide (ls = ls') = false) := ⟨decide_eq_false (fun e => h (HXY.out e))⟩
        have HF : As (decide ((⟨k, p, n, good, bs, ls⟩ : LStep) = ⟨k, p, n, good, bs, ls'⟩) = false) := ⟨decide_eq_false (fun e => by injection e with e0 e1 e2 e3 e4 e5; exact h (HXY.out e5))⟩
        have hne : (x == y) = false := beq_eq_false_iff_ne.2 h
        clear h
        refine wp_region_held_drew (S := (fun V : World => Below wr.heap.size wr V)) (by kernel_rfl) ?_ (fun hHeld => ?_)
        · exact below_dr wr
        refine wpAnyH_take (i := 0) (oi := ?_) (v := ?_) (by simp only [List.getElem?_toArray, List.getElem?_cons_zero, List.getElem?_cons_succ]; rfl) (by kernel_rfl) (by kernel_rfl) (by kernel_rfl) (by exact fun _ _ _ h => h) (Or.inl ⟨by rfl, ?_⟩) (by assumption) ?_
        rotate_left
        · (intro w hSw; (try dsimp only at hSw); have e5 := cell_below hSw X5.out; have z5 := cell_below hSw Y5.out; have ex := cell_below hSw CX.out; have ey := cell_below hSw CY.out; have kx := run_str (P := Tryd.prog) 29 9 5 Tryd.underlying29 Tryd.underlying5 Tryd.underlying9 (RdS.below RX.out hSw); have ky := run_str (P := Tryd.prog) 29 9 5 Tryd.underlying29 Tryd.underlying5 Tryd.underlying9 (RdS.below RY.out hSw); clear hSw; go_simp; first | done | with_reducible rfl)
        try simp only [Act.put, List.setIfInBounds_toArray, List.set_cons_zero, List.set_cons_succ]
        refine wpAnyH_take (i := 1) (oi := ?_) (v := ?_) (by simp only [List.getElem?_toArray, List.getElem?_cons_zero, List.getElem?_cons_succ]; rfl) (by kernel_rfl) (by kernel_rfl) (by kernel_rfl) (by exact fun _ _ _ h => h) (Or.inl ⟨by rfl, ?_⟩) (by assumption) ?_
        rotate_left
        · (intro w hSw; (try dsimp only at hSw); have e5 := cell_below hSw X5.out; have z5 := cell_below hSw Y5.out; have ex := cell_below hSw CX.out; have ey := cell_below hSw CY.out; have kx := run_str (P := Tryd.prog) 29 9 5 Tryd.underlying29 Tryd.underlying5 Tryd.underlying9 (RdS.below RX.out hSw); have ky := run_str (P := Tryd.prog) 29 9 5 Tryd.underlying29 Tryd.underlying5 Tryd.underlying9 (RdS.below RY.out hSw); clear hSw; go_simp; first | done | with_reducible rfl)
        try simp only [Act.put, List.setIfInBounds_toArray, List.set_cons_zero, List.set_cons_succ]
        refine wpAnyH_take (i := 2) (oi := ?_) (v := ?_) (by simp only [List.getElem?_toArray, List.getElem?_cons_zero, List.getElem?_cons_succ]; rfl) (by kernel_rfl) (by kernel_rfl) (by kernel_rfl) (by exact fun _ _ _ h => h) (Or.inl ⟨by rfl, ?_⟩) (by assumption) ?_
        rotate_left
        · (intro w hSw; (try dsimp only at hSw); have e5 := cell_below hSw X5.out; have z5 := cell_below hSw Y5.out; have ex := cell_below hSw CX.out; have ey := cell_below hSw CY.out; have kx := run_str (P := Tryd.prog) 29 9 5 Tryd.underlying29 Tryd.underlying5 Tryd.underlying9 (RdS.below RX.out hSw); have ky := run_str (P := Tryd.prog) 29 9 5 Tryd.underlying29 Tryd.underlying5 Tryd.underlying9 (RdS.below RY.out hSw); clear hSw; go_simp; first | done | with_reducible rfl)
        try simp only [Act.put, List.setIfInBounds_toArray, List.set_cons_zero, List.set_cons_succ]
        refine wpAnyH_take (i := 3) (oi := ?_) (v := ?_) (by simp only [List.getElem?_toArray, List.getElem?_cons_zero, List.getElem?_cons_succ]; rfl) (by kernel_rfl) (by kernel_rfl) (by kernel_rfl) (by exact fun _ _ _ h => h) (Or.inl ⟨by rfl, ?_⟩) (by assumption) ?_
        rotate_left
        · (intro w hSw; (try dsimp only at hSw); have e5 := cell_below hSw X5.out; have z5 := cell_below hSw Y5.out; have ex := cell_below hSw CX.out; have ey := cell_below hSw CY.out; have kx := run_str (P := Tryd.prog) 29 9 5 Tryd.underlying29 Tryd.underlying5 Tryd.underlying9 (RdS.below RX.out hSw); have ky := run_str (P := Tryd.prog) 29 9 5 Tryd.underlying29 Tryd.underlying5 Tryd.underlying9 (RdS.below RY.out hSw); clear hSw; go_simp; first | done | with_reducible rfl)
        try simp only [Act.put, List.setIfInBounds_toArray, List.set_cons_zero, List.set_cons_succ]
        refine wpAnyH_take (i := 4) (oi := ?_) (v := ?_) (by simp only [List.getElem?_toArray, List.getElem?_cons_zero, List.getElem?_cons_succ]; rfl) (by kernel_rfl) (by kernel_rfl) (by kernel_rfl) (by exact fun _ _ _ h => h) (Or.inl ⟨by rfl, ?_⟩) (by assumption) ?_
        rotate_left
        · (intro w hSw; (try dsimp only at hSw); have e5 := cell_below hSw X5.out; have z5 := cell_below hSw Y5.out; have ex := cell_below hSw CX.out; have ey := cell_below hSw CY.out; have kx := run_str (P := Tryd.prog) 29 9 5 Tryd.underlying29 Tryd.underlying5 Tryd.underlying9 (RdS.below RX.out hSw); have ky := run_str (P := Tryd.prog) 29 9 5 Tryd.underlying29 Tryd.underlying5 Tryd.underlying9 (RdS.below RY.out hSw); clear hSw; go_simp; first | done | with_reducible rfl)
        try simp only [Act.put, List.setIfInBounds_toArray, List.set_cons_zero, List.set_cons_succ]
        refine wpAnyH_take (i := 5) (oi := ?_) (v := ?_) (by simp only [List.getElem?_toArray, List.getElem?_cons_zero, List.getElem?_cons_succ]; rfl) (by kernel_rfl) (by kernel_rfl) (by kernel_rfl) (by exact fun _ _ _ h => h) (Or.inl ⟨by rfl, ?_⟩) (by assumption) ?_
        rotate_left
        · (intro w hSw; (try dsimp only at hSw); have e5 := cell_below hSw X5.out; have z5 := cell_below hSw Y5.out; have ex := cell_below hSw CX.out; have ey := cell_below hSw CY.out; have kx := run_str (P := Tryd.prog) 29 9 5 Tryd.underlying29 Tryd.underlying5 Tryd.underlying9 (RdS.below RX.out hSw); have ky := run_str (P := Tryd.prog) 29 9 5 Tryd.underlying29 Tryd.underlying5 Tryd.underlying9 (RdS.below RY.out hSw); clear hSw; go_simp; first | done | with_reducible rfl)
        try simp only [Act.put, List.setIfInBounds_toArray, List.set_cons_zero, List.set_cons_succ]
        refine wpAnyH_take (i := 6) (oi := ?_) (v := ?_) (by simp only [List.getElem?_toArray, List.getElem?_cons_zero, List.getElem?_cons_succ]; rfl) (by kernel_rfl) (by kernel_rfl) (by kernel_rfl) (by exact fun _ _ _ h => h) (Or.inl ⟨by rfl, ?_⟩) (by assumption) ?_
        rotate_left
        · (intro w hSw; (try dsimp only at hSw); have e5 := cell_below hSw X5.out; have z5 := cell_below hSw Y5.out; have ex := cell_below hSw CX.out; have ey := cell_below hSw CY.out; have kx := run_str (P := Tryd.prog) 29 9 5 Tryd.underlying29 Tryd.underlying5 Tryd.underlying9 (RdS.below RX.out hSw); have ky := run_str (P := Tryd.prog) 29 9 5 Tryd.underlying29 Tryd.underlying5 Tryd.underlying9 (RdS.below RY.out hSw); clear hSw; go_simp; first | done | with_reducible rfl)
        try simp only [Act.put, List.setIfInBounds_toArray, List.set_cons_zero, List.set_cons_succ]
        refine wpAnyH_take (i := 7) (oi := ?_) (v := ?_) (by simp only [List.getElem?_toArray, List.getElem?_cons_zero, List.getElem?_cons_succ]; rfl) (by kernel_rfl) (by kernel_rfl) (by kernel_rfl) (by exact fun _ _ _ h => h) (Or.inl ⟨by rfl, ?_⟩) (by assumption) ?_
        rotate_left
        · (intro w hSw; (try dsimp only at hSw); have e5 := cell_below hSw X5.out; have z5 := cell_below hSw Y5.out; have ex := cell_below hSw CX.out; have ey := cell_below hSw CY.out; have kx := run_str (P := Tryd.prog) 29 9 5 Tryd.underlying29 Tryd.underlying5 Tryd.underlying9 (RdS.below RX.out hSw); have ky := run_str (P := Tryd.prog) 29 9 5 Tryd.underlying29 Tryd.underlying5 Tryd.underlying9 (RdS.below RY.out hSw); clear hSw; go_simp; first | done | with_reducible rfl)
        try simp only [Act.put, List.setIfInBounds_toArray, List.set_cons_zero, List.set_cons_succ]
        refine wpAnyH_take (i := 8) (oi := ?_) (v := ?_) (by simp only [List.getElem?_toArray, List.getElem?_cons_zero, List.getElem?_cons_succ]; rfl) (by kernel_rfl) (by kernel_rfl) (by kernel_rfl) (by exact fun _ _ _ h => h) (Or.inl ⟨by rfl, ?_⟩) (by assumption) ?_
        rotate_left
        · (intro w hSw; (try dsimp only at hSw); have e5 := cell_below hSw X5.out; have z5 := cell_below hSw Y5.out; have ex := cell_below hSw CX.out; have ey := cell_below hSw CY.out; have kx := run_str (P := Tryd.prog) 29 9 5 Tryd.underlying29 Tryd.underlying5 Tryd.underlying9 (RdS.below RX.out hSw); have ky := run_str (P := Tryd.prog) 29 9 5 Tryd.underlying29 Tryd.underlying5 Tryd.underlying9 (RdS.below RY.out hSw); clear hSw; go_simp; first | done | with_reducible rfl)
        try simp only [Act.put, List.setIfInBounds_toArray, List.set_cons_zero, List.set_cons_succ]
        refine wpAnyH_take (i := 9) (oi := ?_) (v := ?_) (by simp only [List.getElem?_toArray, List.getElem?_cons_zero, List.getElem?_cons_succ]; rfl) (by kernel_rfl) (by kernel_rfl) (by kernel_rfl) (by exact fun _ _ _ h => h) (Or.inl ⟨by rfl, ?_⟩) (by assumption) ?_
        rotate_left
        · (intro w hSw; (try dsimp only at hSw); have e5 := cell_below hSw X5.out; have z5 := cell_below hSw Y5.out; have ex := cell_below hSw CX.out; have ey := cell_below hSw CY.out; have kx := run_str (P := Tryd.prog) 29 9 5 Tryd.underlying29 Tryd.underlying5 Tryd.underlying9 (RdS.below RX.out hSw); have ky := run_str (P := Tryd.prog) 29 9 5 Tryd.underlying29 Tryd.underlying5 Tryd.underlying9 (RdS.below RY.out hSw); clear hSw; go_simp; first | done | with_reducible rfl)
        try simp only [Act.put, List.setIfInBounds_toArray, List.set_cons_zero, List.set_cons_succ]
        refine wpAnyH_take (i := 10) (oi := ?_) (v := ?_) (by simp only [List.getElem?_toArray, List.getElem?_cons_zero, List.getElem?_cons_succ]; rfl) (by kernel_rfl) (by kernel_rfl) (by kernel_rfl) (by exact fun _ _ _ h => h) (Or.inl ⟨by rfl, ?_⟩) (by assumption) ?_
        rotate_left
        · (intro w hSw; (try dsimp only at hSw); have e5 := cell_below hSw X5.out; have z5 := cell_below hSw Y5.out; have ex := cell_below hSw CX.out; have ey := cell_below hSw CY.out; have kx := run_str (P := Tryd.prog) 29 9 5 Tryd.underlying29 Tryd.underlying5 Tryd.underlying9 (RdS.below RX.out hSw); have ky := run_str (P := Tryd.prog) 29 9 5 Tryd.underlying29 Tryd.underlying5 Tryd.underlying9 (RdS.below RY.out hSw); clear hSw; go_simp; first | done | with_reducible rfl)
        try simp only [Act.put, List.setIfInBounds_toArray, List.set_cons_zero, List.set_cons_succ]
        refine wpAnyH_take (i := 11) (oi := ?_) (v := ?_) (by simp only [List.getElem?_toArray, List.getElem?_cons_zero, List.getElem?_cons_succ]; rfl) (by kernel_rfl) (by kernel_rfl) (by kernel_rfl) (by exact fun _ _ _ h => h) (Or.inl ⟨by rfl, ?_⟩) (by assumption) ?_
        rotate_left
        · (intro w hSw; (try dsimp only at hSw); have e5 := cell_below hSw X5.out; have z5 := cell_below hSw Y5.out; have ex := cell_below hSw CX.out; have ey := cell_below hSw CY.out; have kx := run_str (P := Tryd.prog) 29 9 5 Tryd.underlying29 Tryd.underlying5 Tryd.underlying9 (RdS.below RX.out hSw); have ky := run_str (P := Tryd.prog) 29 9 5 Tryd.underlying29 Tryd.underlying5 Tryd.underlying9 (RdS.below RY.out hSw); clear hSw; go_simp; first | done | with_reducible rfl)
        try simp only [Act.put, List.setIfInBounds_toArray, List.set_cons_zero, List.set_cons_succ]
        refine wpAnyH_take (i := 12) (oi := ?_) (v := ?_) (by simp only [List.getElem?_toArray, List.getElem?_cons_zero, List.getElem?_cons_succ]; rfl) (by kernel_rfl) (by kernel_rfl) (by kernel_rfl) (by exact fun _ _ _ h => h) (Or.inl ⟨by rfl, ?_⟩) (by assumption) ?_
        rotate_left
        · (intro w hSw; (try dsimp only at hSw); have e5 := cell_below hSw X5.out; have z5 := cell_below hSw Y5.out; have ex := cell_below hSw CX.out; have ey := cell_below hSw CY.out; have kx := run_str (P := Tryd.prog) 29 9 5 Tryd.underlying29 Tryd.underlying5 Tryd.underlying9 (RdS.below RX.out hSw); have ky := run_str (P := Tryd.prog) 29 9 5 Tryd.underlying29 Tryd.underlying5 Tryd.underlying9 (RdS.below RY.out hSw); clear hSw; go_simp; first | done | with_reducible rfl)
        try simp only [Act.put, List.setIfInBounds_toArray, List.set_cons_zero, List.set_cons_succ]
        refine wpAnyH_done (by kernel_rfl) ?_ _
        have HBN := As.mk (HB.out.trans (hHeld.mono HB.out.size))
        clear hHeld
        go_wp2
        go_ret
        first | rw [HF.out] | rw [HF2.out]
        exact ⟨rfl, HW.out.trans (HBN.out.mono HW.out.size)⟩
    · have HF : As (decide ((⟨k, p, n, good, bs, ls⟩ : LStep) = ⟨k, p, n, good, bs, ls'⟩) = true) := ⟨decide_eq_true (by
        have e : K = ls.length := by omega
        have h := HT.out
        rw [e, List.take_length, HLE.out, List.take_length] at h
        rw [h])⟩
      have HF2 : As (decide (ls = ls') = true) := ⟨decide_eq_true (by
        have e : K = ls.length := by omega
        have h := HT.out
        rw [e, List.take_length, HLE.out, List.take_length] at h
        exact h)⟩
      go_wp2
      go_ret
      first | rw [HF.out] | rw [HF2.out]
      exact ⟨rfl, HW.out.trans (HB.out.mono HW.out.size)⟩
end Go.Proofs.YtodcbcpjlhlakaaDoor.W
