/- Rates against each other, and what sizes need, by a row of such: the walk of RateForms. -/
import Derived.Test.YtfbfdmgnicgalaaRateOrder
import Derived.Lib.SmallJoins
set_option linter.unusedVariables false
set_option linter.unusedSimpArgs false
namespace Go.Proofs.Ytfbfdmgnicgalaa.W
open Go.RowKit Go.Proofs.Ytfbfdmgnicgalaa.B Go.Proofs

/-- A row of either table lies there. -/
def Row8 (W : World) (D E i j : Nat) (f1 s1 f2 s2 c p n r : Int) : Prop := W.cell? ⟨D, i * 5, none⟩ = some (.int .u64 f1) ∧ W.cell? ⟨D, i * 5 + 1, none⟩ = some (.int .i64 s1) ∧ W.cell? ⟨D, i * 5 + 2, none⟩ = some (.int .u64 f2) ∧ W.cell? ⟨D, i * 5 + 3, none⟩ = some (.int .i64 s2) ∧ W.cell? ⟨D, i * 5 + 4, none⟩ = some (.int .i64 c) ∧ W.cell? ⟨E, j * 3, none⟩ = some (.int .u64 p) ∧ W.cell? ⟨E, j * 3 + 1, none⟩ = some (.int .i64 n) ∧ W.cell? ⟨E, j * 3 + 2, none⟩ = some (.int .u64 r)
theorem Row8.below {W W' : World} {D E i j : Nat} {f1 s1 f2 s2 c p n r : Int} (h : Row8 W D E i j f1 s1 f2 s2 c p n r) (hb : Below W.heap.size W W') : Row8 W' D E i j f1 s1 f2 s2 c p n r :=
  ⟨cell_of_below hb h.1, cell_of_below hb h.2.1, cell_of_below hb h.2.2.1, cell_of_below hb h.2.2.2.1, cell_of_below hb h.2.2.2.2.1, cell_of_below hb h.2.2.2.2.2.1, cell_of_below hb h.2.2.2.2.2.2.1, cell_of_below hb h.2.2.2.2.2.2.2⟩
def tabA : Array Value := #[.int .u64 0, .int .i64 0, .int .u64 0, .int .i64 0, .int .i64 0, .int .u64 1, .int .i64 0, .int .u64 1, .int .i64 1, .int .i64 0, .int .u64 1, .int .i64 (-5), .int .u64 1, .int .i64 1, .int .i64 0, .int .u64 1, .int .i64 3, .int .u64 2, .int .i64 6, .int .i64 0, .int .u64 1, .int .i64 3, .int .u64 333, .int .i64 1000, .int .i64 1, .int .u64 1, .int .i64 3, .int .u64 334, .int .i64 1000, .int .i64 (-1), .int .u64 18446744073709551615, .int .i64 4611686018427387904, .int .u64 18446744073709551614, .int .i64 4611686018427387904, .int .i64 1, .int .u64 18446744073709551615, .int .i64 9223372036854775807, .int .u64 2, .int .i64 1, .int .i64 1, .int .u64 18446744073709551614, .int .i64 9223372036854775807, .int .u64 2, .int .i64 1, .int .i64 0, .int .u64 0, .int .i64 9, .int .u64 0, .int .i64 1, .int .i64 0]
def tabB : Array Value := #[.int .u64 0, .int .i64 5, .int .u64 0, .int .u64 1, .int .i64 1, .int .u64 1, .int .u64 1000, .int .i64 0, .int .u64 0, .int .u64 1000, .int .i64 (-5), .int .u64 0, .int .u64 999, .int .i64 1, .int .u64 1, .int .u64 1001, .int .i64 1, .int .u64 2, .int .u64 1000, .int .i64 1073741824, .int .u64 1073741824, .int .u64 1000, .int .i64 1073741829, .int .u64 1073741824, .int .u64 18446744073709551615, .int .i64 1000, .int .u64 18446744073709551615, .int .u64 18446744073709551615, .int .i64 999, .int .u64 18428297329635842064, .int .u64 2000, .int .i64 141, .int .u64 282]
theorem rowA (i : Nat) (hi : i < 10) : ∃ f1 s1 f2 s2 c : Int, 0 ≤ f1 ∧ f1 ≤ 18446744073709551615 ∧ 0 ≤ f2 ∧ f2 ≤ 18446744073709551615 ∧ s1 ≤ 9223372036854775807 ∧ s2 ≤ 9223372036854775807 ∧ -1 ≤ c ∧ c ≤ 1 ∧ cmpR f1 s1 f2 s2 = c ∧ cmpR f2 s2 f1 s1 = -c ∧
    tabA[i * 5]? = some (.int .u64 f1) ∧ tabA[i * 5 + 1]? = some (.int .i64 s1) ∧ tabA[i * 5 + 2]? = some (.int .u64 f2) ∧ tabA[i * 5 + 3]? = some (.int .i64 s2) ∧ tabA[i * 5 + 4]? = some (.int .i64 c) := by
  have h : i = 0 ∨ i = 1 ∨ i = 2 ∨ i = 3 ∨ i = 4 ∨ i = 5 ∨ i = 6 ∨ i = 7 ∨ i = 8 ∨ i = 9 := by omega
  rcases h with rfl | rfl | rfl | rfl | rfl | rfl | rfl | rfl | rfl | rfl
  · exact ⟨0, 0, 0, 0, 0, by decide, by decide, by decide, by decide, by decide, by decide, by decide, by decide, by decide, by decide, rfl, rfl, rfl, rfl, rfl⟩
  · exact ⟨1, 0, 1, 1, 0, by decide, by decide, by decide, by decide, by decide, by decide, by decide, by decide, by decide, by decide, rfl, rfl, rfl, rfl, rfl⟩
  · exact ⟨1, (-5), 1, 1, 0, by decide, by decide, by decide, by decide, by decide, by decide, by decide, by decide, by decide, by decide, rfl, rfl, rfl, rfl, rfl⟩
  · exact ⟨1, 3, 2, 6, 0, by decide, by decide, by decide, by decide, by decide, by decide, by decide, by decide, by decide, by decide, rfl, rfl, rfl, rfl, rfl⟩
  · exact ⟨1, 3, 333, 1000, 1, by decide, by decide, by decide, by decide, by decide, by decide, by decide, by decide, by decide, by decide, rfl, rfl, rfl, rfl, rfl⟩
  · exact ⟨1, 3, 334, 1000, (-1), by decide, by decide, by decide, by decide, by decide, by decide, by decide, by decide, by decide, by decide, rfl, rfl, rfl, rfl, rfl⟩
  · exact ⟨18446744073709551615, 4611686018427387904, 18446744073709551614, 4611686018427387904, 1, by decide, by decide, by decide, by decide, by decide, by decide, by decide, by decide, by decide, by decide, rfl, rfl, rfl, rfl, rfl⟩
  · exact ⟨18446744073709551615, 9223372036854775807, 2, 1, 1, by decide, by decide, by decide, by decide, by decide, by decide, by decide, by decide, by decide, by decide, rfl, rfl, rfl, rfl, rfl⟩
  · exact ⟨18446744073709551614, 9223372036854775807, 2, 1, 0, by decide, by decide, by decide, by decide, by decide, by decide, by decide, by decide, by decide, by decide, rfl, rfl, rfl, rfl, rfl⟩
  · exact ⟨0, 9, 0, 1, 0, by decide, by decide, by decide, by decide, by decide, by decide, by decide, by decide, by decide, by decide, rfl, rfl, rfl, rfl, rfl⟩
theorem rowB (j : Nat) (hj : j < 11) : ∃ p n r : Int, 0 ≤ p ∧ p ≤ 18446744073709551615 ∧ (needR p.toNat n : Int) = r ∧ tabB[j * 3]? = some (.int .u64 p) ∧ tabB[j * 3 + 1]? = some (.int .i64 n) ∧ tabB[j * 3 + 2]? = some (.int .u64 r) := by
  have h : j = 0 ∨ j = 1 ∨ j = 2 ∨ j = 3 ∨ j = 4 ∨ j = 5 ∨ j = 6 ∨ j = 7 ∨ j = 8 ∨ j = 9 ∨ j = 10 := by omega
  rcases h with rfl | rfl | rfl | rfl | rfl | rfl | rfl | rfl | rfl | rfl | rfl
  · exact ⟨0, 5, 0, by decide, by decide, by decide +kernel, rfl, rfl, rfl⟩
  · exact ⟨1, 1, 1, by decide, by decide, by decide +kernel, rfl, rfl, rfl⟩
  · exact ⟨1000, 0, 0, by decide, by decide, by decide +kernel, rfl, rfl, rfl⟩
  · exact ⟨1000, (-5), 0, by decide, by decide, by decide +kernel, rfl, rfl, rfl⟩
  · exact ⟨999, 1, 1, by decide, by decide, by decide +kernel, rfl, rfl, rfl⟩
  · exact ⟨1001, 1, 2, by decide, by decide, by decide +kernel, rfl, rfl, rfl⟩
  · exact ⟨1000, 1073741824, 1073741824, by decide, by decide, by decide +kernel, rfl, rfl, rfl⟩
  · exact ⟨1000, 1073741829, 1073741824, by decide, by decide, by decide +kernel, rfl, rfl, rfl⟩
  · exact ⟨18446744073709551615, 1000, 18446744073709551615, by decide, by decide, by decide +kernel, rfl, rfl, rfl⟩
  · exact ⟨18446744073709551615, 999, 18428297329635842064, by decide, by decide, by decide +kernel, rfl, rfl, rfl⟩
  · exact ⟨2000, 141, 282, by decide, by decide, by decide +kernel, rfl, rfl, rfl⟩
set_option maxRecDepth 100000 in
set_option maxHeartbeats 8000000 in
theorem rateForms_walk (which : Int) (w : World) :
    Calls Try.prog 8 #[.int .i64 which] w fun e w' => e = .returned (.bool true) ∧ Below w.heap.size w w' := by
  have m1 : bits .and .i64 which 255 = which % 256 := by rw [i64_mask which _ 8 (by decide) (by decide)]; rfl
  have m2 : bits .and .i64 (which / 256) 255 = which / 256 % 256 := by rw [i64_mask (which / 256) _ 8 (by decide) (by decide)]; rfl
  obtain ⟨i, hi, hi2⟩ : ∃ i : Nat, which % 256 % 10 = (i : Int) ∧ i < 10 := ⟨(which % 256 % 10).toNat, by omega, by omega⟩
  obtain ⟨j, hj, hj2⟩ : ∃ j : Nat, which / 256 % 256 % 11 = (j : Int) ∧ j < 11 := ⟨(which / 256 % 256 % 11).toNat, by omega, by omega⟩
  have hit : (which % 256).tmod 10 = (i : Int) := by rw [Int.tmod_eq_emod_of_nonneg (by omega)]; exact hi
  have hjt : (which / 256 % 256).tmod 11 = (j : Int) := by rw [Int.tmod_eq_emod_of_nonneg (by omega)]; exact hj
  have hi3 : (i : Int) < 10 := by omega
  have hj3 : (j : Int) < 11 := by omega
  clear hi hj
  go_enter Try.func8, Try.ntmps8
  go_upto_region 2 with (fail)
  go_cut [4] (fun v4 wc => v4 = .slice (some ⟨w.heap.size, 0, none⟩) 10 10 ∧ As (wc = w.alloc (.cells tabA 41)))
  case first =>
    go_wp2_with fail
    go_meet
    exact ⟨rfl, ⟨rfl⟩⟩
  case rest =>
    obtain ⟨rfl, HW⟩ := hcut
    have hA0 : As (World.heap wc = wc.heap) := ⟨rfl⟩
    obtain ⟨wA, hwA⟩ : ∃ x, x = wc := ⟨_, rfl⟩
    rw [← hwA] at HW
    rw [← hwA]
    clear hwA hA0
    go_upto_region 3 with (fail)
    go_cut [5] (fun v5 wc => v5 = .slice (some ⟨wA.heap.size, 0, none⟩) 11 11 ∧ As (wc = wA.alloc (.cells tabB 43)))
    case first =>
      go_wp2_with fail
      go_meet
      exact ⟨rfl, ⟨rfl⟩⟩
    case rest =>
      obtain ⟨rfl, HV⟩ := hcut
      obtain ⟨f1, s1, f2, s2, c, q1, q2, q3, q4, q5, q6, q7, q8, k1, k2, z0, z1, z2, z3, z4⟩ := rowA i hi2
      obtain ⟨p, n, r, q9, q10, k3, y0, y1, y2⟩ := rowB j hj2
      have HK1 := As.mk k1
      have HK2 := As.mk k2
      have HK3 := As.mk k3
      obtain ⟨D, hD⟩ : ∃ D, D = w.heap.size := ⟨_, rfl⟩
      obtain ⟨E, hE⟩ : ∃ E, E = wA.heap.size := ⟨_, rfl⟩
      have hA : wc.heap[D]? = some (.cells tabA 41 (0, 0)) := by
        rw [HV.out, hD, HW.out]; exact heap_alloc2_old _ _ _
      have hB : wc.heap[E]? = some (.cells tabB 43 (0, 0)) := by
        rw [HV.out, hE]; exact heap_alloc_new _ _
      have HB : As (Below w.heap.size w wc) := ⟨by rw [HV.out, HW.out]; exact ((Below.refl _ _).alloc (Nat.le_refl _) _).alloc (by simp) _⟩
      rw [← hD, ← hE]
      have hS0 : wc.cell? ⟨D, i * 5, none⟩ = some (.int .u64 f1) ∧ wc.cell? ⟨D, i * 5 + 1, none⟩ = some (.int .i64 s1) ∧ wc.cell? ⟨D, i * 5 + 2, none⟩ = some (.int .u64 f2) ∧ wc.cell? ⟨D, i * 5 + 3, none⟩ = some (.int .i64 s2) ∧ wc.cell? ⟨D, i * 5 + 4, none⟩ = some (.int .i64 c) ∧
          wc.cell? ⟨E, j * 3, none⟩ = some (.int .u64 p) ∧ wc.cell? ⟨E, j * 3 + 1, none⟩ = some (.int .i64 n) ∧ wc.cell? ⟨E, j * 3 + 2, none⟩ = some (.int .u64 r) := by
        refine ⟨?_, ?_, ?_, ?_, ?_, ?_, ?_, ?_⟩ <;> (first | rw [Go.Joins.cell_of_block hA] | rw [Go.Joins.cell_of_block hB]) <;> assumption
      have HS0 : As (Row8 wc D E i j f1 s1 f2 s2 c p n r) := ⟨hS0⟩
      clear hS0 hA hB k1 k2 k3 z0 z1 z2 z3 z4 y0 y1 y2 HV HW hD hE hi2 hj2
      go_upto_region 4 with (fail)
      go_cut [6, 7] (fun v6 v7 wd => ∃ X Y : Nat, v6 = .pointer (some ⟨X, 0, none⟩) ∧ v7 = .pointer (some ⟨Y, 0, none⟩) ∧ As (wd.heap[X]? = some (.cells #[.int .u64 f1, .int .i64 s1, .int .u64 f2, .int .i64 s2, .int .i64 c] 41 (0, 0)) ∧ wd.heap[Y]? = some (.cells #[.int .u64 p, .int .i64 n, .int .u64 r] 43 (0, 0)) ∧ Below w.heap.size w wd))
      case first =>
        refine wp_region_held_drew (S := (fun W : World => Row8 W D E i j f1 s1 f2 s2 c p n r)) (by kernel_rfl) ?_ (fun hHeld => ?_)
        · exact HS0.out.below (Below.refl _ _).drew
        refine wpAnyH_take (i := 0) (oi := ?_) (v := ?_) (by simp only [List.getElem?_toArray, List.getElem?_cons_zero, List.getElem?_cons_succ]; rfl) (by kernel_rfl) (by kernel_rfl) (by kernel_rfl) (by exact fun _ _ _ h => h) (Or.inl ⟨by rfl, ?_⟩) (by assumption) ?_
        rotate_left
        · (intro w hSw; (try dsimp only at hSw); unfold Row8 at hSw; go_simp; first | done | with_reducible rfl)
        try simp only [Act.put, List.setIfInBounds_toArray, List.set_cons_zero, List.set_cons_succ]
        refine wpAnyH_take (i := 1) (oi := ?_) (v := ?_) (by simp only [List.getElem?_toArray, List.getElem?_cons_zero, List.getElem?_cons_succ]; rfl) (by kernel_rfl) (by kernel_rfl) (by kernel_rfl) (by exact fun _ _ _ h => h) (Or.inl ⟨by rfl, ?_⟩) (by assumption) ?_
        rotate_left
        · (intro w hSw; (try dsimp only at hSw); unfold Row8 at hSw; go_simp; first | done | with_reducible rfl)
        try simp only [Act.put, List.setIfInBounds_toArray, List.set_cons_zero, List.set_cons_succ]
        refine wpAnyH_take (i := 2) (oi := ?_) (v := ?_) (by simp only [List.getElem?_toArray, List.getElem?_cons_zero, List.getElem?_cons_succ]; rfl) (by kernel_rfl) (by kernel_rfl) (by kernel_rfl) (by exact fun _ _ _ h => h) (Or.inl ⟨by rfl, ?_⟩) (by assumption) ?_
        rotate_left
        · (intro w hSw; (try dsimp only at hSw); unfold Row8 at hSw; go_simp; first | done | with_reducible rfl)
        try simp only [Act.put, List.setIfInBounds_toArray, List.set_cons_zero, List.set_cons_succ]
        refine wpAnyH_take (i := 3) (oi := ?_) (v := ?_) (by simp only [List.getElem?_toArray, List.getElem?_cons_zero, List.getElem?_cons_succ]; rfl) (by kernel_rfl) (by kernel_rfl) (by kernel_rfl) (by exact fun _ _ _ h => h) (Or.inl ⟨by rfl, ?_⟩) (by assumption) ?_
        rotate_left
        · (intro w hSw; (try dsimp only at hSw); unfold Row8 at hSw; go_simp; first | done | with_reducible rfl)
        try simp only [Act.put, List.setIfInBounds_toArray, List.set_cons_zero, List.set_cons_succ]
        refine wpAnyH_take (i := 4) (oi := ?_) (v := ?_) (by simp only [List.getElem?_toArray, List.getElem?_cons_zero, List.getElem?_cons_succ]; rfl) (by kernel_rfl) (by kernel_rfl) (by kernel_rfl) (by exact fun _ _ _ h => h) (Or.inl ⟨by rfl, ?_⟩) (by assumption) ?_
        rotate_left
        · (intro w hSw; (try dsimp only at hSw); unfold Row8 at hSw; go_simp; first | done | with_reducible rfl)
        try simp only [Act.put, List.setIfInBounds_toArray, List.set_cons_zero, List.set_cons_succ]
        refine wpAnyH_take (i := 5) (oi := ?_) (v := ?_) (by simp only [List.getElem?_toArray, List.getElem?_cons_zero, List.getElem?_cons_succ]; rfl) (by kernel_rfl) (by kernel_rfl) (by kernel_rfl) (by exact fun _ _ _ h => h) (Or.inl ⟨by rfl, ?_⟩) (by assumption) ?_
        rotate_left
        · (intro w hSw; (try dsimp only at hSw); unfold Row8 at hSw; go_simp; first | done | with_reducible rfl)
        try simp only [Act.put, List.setIfInBounds_toArray, List.set_cons_zero, List.set_cons_succ]
        refine wpAnyH_take (i := 6) (oi := ?_) (v := ?_) (by simp only [List.getElem?_toArray, List.getElem?_cons_zero, List.getElem?_cons_succ]; rfl) (by kernel_rfl) (by kernel_rfl) (by kernel_rfl) (by exact fun _ _ _ h => h) (Or.inl ⟨by rfl, ?_⟩) (by assumption) ?_
        rotate_left
        · (intro w hSw; (try dsimp only at hSw); unfold Row8 at hSw; go_simp; first | done | with_reducible rfl)
        try simp only [Act.put, List.setIfInBounds_toArray, List.set_cons_zero, List.set_cons_succ]
        refine wpAnyH_take (i := 7) (oi := ?_) (v := ?_) (by simp only [List.getElem?_toArray, List.getElem?_cons_zero, List.getElem?_cons_succ]; rfl) (by kernel_rfl) (by kernel_rfl) (by kernel_rfl) (by exact fun _ _ _ h => h) (Or.inl ⟨by rfl, ?_⟩) (by assumption) ?_
        rotate_left
        · (intro w hSw; (try dsimp only at hSw); unfold Row8 at hSw; go_simp; first | done | with_reducible rfl)
        try simp only [Act.put, List.setIfInBounds_toArray, List.set_cons_zero, List.set_cons_succ]
        refine wpAnyH_take (i := 8) (oi := ?_) (v := ?_) (by simp only [List.getElem?_toArray, List.getElem?_cons_zero, List.getElem?_cons_succ]; rfl) (by kernel_rfl) (by kernel_rfl) (by kernel_rfl) (by exact fun _ _ _ h => h) (Or.inl ⟨by rfl, ?_⟩) (by assumption) ?_
        rotate_left
        · (intro w hSw; (try dsimp only at hSw); unfold Row8 at hSw; go_simp; first | done | with_reducible rfl)
        try simp only [Act.put, List.setIfInBounds_toArray, List.set_cons_zero, List.set_cons_succ]
        refine wpAnyH_take (i := 9) (oi := ?_) (v := ?_) (by simp only [List.getElem?_toArray, List.getElem?_cons_zero, List.getElem?_cons_succ]; rfl) (by kernel_rfl) (by kernel_rfl) (by kernel_rfl) (by exact fun _ _ _ h => h) (Or.inl ⟨by rfl, ?_⟩) (by assumption) ?_
        rotate_left
        · (intro w hSw; (try dsimp only at hSw); unfold Row8 at hSw; go_simp; first | done | with_reducible rfl)
        try simp only [Act.put, List.setIfInBounds_toArray, List.set_cons_zero, List.set_cons_succ]
        refine wpAnyH_take (i := 10) (oi := ?_) (v := ?_) (by simp only [List.getElem?_toArray, List.getElem?_cons_zero, List.getElem?_cons_succ]; rfl) (by kernel_rfl) (by kernel_rfl) (by kernel_rfl) (by exact fun _ _ _ h => h) (Or.inl ⟨by rfl, ?_⟩) (by assumption) ?_
        rotate_left
        · (intro w hSw; (try dsimp only at hSw); unfold Row8 at hSw; go_simp; first | done | with_reducible rfl)
        try simp only [Act.put, List.setIfInBounds_toArray, List.set_cons_zero, List.set_cons_succ]
        refine wpAnyH_take (i := 11) (oi := ?_) (v := ?_) (by simp only [List.getElem?_toArray, List.getElem?_cons_zero, List.getElem?_cons_succ]; rfl) (by kernel_rfl) (by kernel_rfl) (by kernel_rfl) (by exact fun _ _ _ h => h) (Or.inl ⟨by rfl, ?_⟩) (by assumption) ?_
        rotate_left
        · (intro w hSw; (try dsimp only at hSw); unfold Row8 at hSw; go_simp; first | done | with_reducible rfl)
        try simp only [Act.put, List.setIfInBounds_toArray, List.set_cons_zero, List.set_cons_succ]
        refine wpAnyH_take (i := 12) (oi := ?_) (v := ?_) (by simp only [List.getElem?_toArray, List.getElem?_cons_zero, List.getElem?_cons_succ]; rfl) (by kernel_rfl) (by kernel_rfl) (by kernel_rfl) (by exact fun _ _ _ h => h) (Or.inl ⟨by rfl, ?_⟩) (by assumption) ?_
        rotate_left
        · (intro w hSw; (try dsimp only at hSw); unfold Row8 at hSw; go_simp; first | done | with_reducible rfl)
        try simp only [Act.put, List.setIfInBounds_toArray, List.set_cons_zero, List.set_cons_succ]
        refine wpAnyH_take (i := 13) (oi := ?_) (v := ?_) (by simp only [List.getElem?_toArray, List.getElem?_cons_zero, List.getElem?_cons_succ]; rfl) (by kernel_rfl) (by kernel_rfl) (by kernel_rfl) (by exact fun _ _ _ h => h) (Or.inl ⟨by rfl, ?_⟩) (by assumption) ?_
        rotate_left
        · (intro w hSw; (try dsimp only at hSw); unfold Row8 at hSw; go_simp; first | done | with_reducible rfl)
        try simp only [Act.put, List.setIfInBounds_toArray, List.set_cons_zero, List.set_cons_succ]
        refine wpAnyH_take (i := 14) (oi := ?_) (v := ?_) (by simp only [List.getElem?_toArray, List.getElem?_cons_zero, List.getElem?_cons_succ]; rfl) (by kernel_rfl) (by kernel_rfl) (by kernel_rfl) (by exact fun _ _ _ h => h) (Or.inl ⟨by rfl, ?_⟩) (by assumption) ?_
        rotate_left
        · (intro w hSw; (try dsimp only at hSw); unfold Row8 at hSw; go_simp; first | done | with_reducible rfl)
        try simp only [Act.put, List.setIfInBounds_toArray, List.set_cons_zero, List.set_cons_succ]
        refine wpAnyH_take (i := 15) (oi := ?_) (v := ?_) (by simp only [List.getElem?_toArray, List.getElem?_cons_zero, List.getElem?_cons_succ]; rfl) (by kernel_rfl) (by kernel_rfl) (by kernel_rfl) (by exact fun _ _ _ h => h) (Or.inl ⟨by rfl, ?_⟩) (by assumption) ?_
        rotate_left
        · (intro w hSw; (try dsimp only at hSw); unfold Row8 at hSw; go_simp; first | done | with_reducible rfl)
        try simp only [Act.put, List.setIfInBounds_toArray, List.set_cons_zero, List.set_cons_succ]
        refine wpAnyH_take (i := 16) (oi := ?_) (v := ?_) (by simp only [List.getElem?_toArray, List.getElem?_cons_zero, List.getElem?_cons_succ]; rfl) (by kernel_rfl) (by kernel_rfl) (by kernel_rfl) (by exact fun _ _ _ h => h) (Or.inl ⟨by rfl, ?_⟩) (by assumption) ?_
        rotate_left
        · (intro w hSw; (try dsimp only at hSw); unfold Row8 at hSw; go_simp; first | done | with_reducible rfl)
        try simp only [Act.put, List.setIfInBounds_toArray, List.set_cons_zero, List.set_cons_succ]
        refine wpAnyH_ready (rs := [17, 18]) (by kernel_rfl) (by simp) ?_
        refine AllReadyH.cons (o := ?_) (by simp only [List.getElem?_toArray, List.getElem?_cons_zero, List.getElem?_cons_succ]; rfl) (fun K hK => ?_) ?_
        · go_simp
          refine hK.out _ _ ?_ (fun hHeld2 => ?_)
          · exact HS0.out.below (by repeat' first | exact Below.refl _ _ | refine Below.drew ?_ | refine Below.alloc ?_ (by first | (simp; done) | (simp; omega)) _)
          clear hK K hHeld
          have hHeld := hHeld2
          clear hHeld2
          try simp only [Act.put, List.setIfInBounds_toArray, List.set_cons_zero, List.set_cons_succ]
          refine wpAnyH_ready (rs := [18]) (by kernel_rfl) (by simp) ?_
          refine AllReadyH.cons (o := ?_) (by simp only [List.getElem?_toArray, List.getElem?_cons_zero, List.getElem?_cons_succ]; rfl) (fun K hK => ?_) ?_
          · go_simp
            refine hK.out _ _ ?_ (fun hHeld2 => ?_)
            · exact HS0.out.below (by repeat' first | exact Below.refl _ _ | refine Below.drew ?_ | refine Below.alloc ?_ (by first | (simp; done) | (simp; omega)) _)
            clear hK K hHeld
            have hHeld := hHeld2
            clear hHeld2
            try simp only [Act.put, List.setIfInBounds_toArray, List.set_cons_zero, List.set_cons_succ]
            refine wpAnyH_ready (rs := [19]) (by kernel_rfl) (by simp) ?_
            refine AllReadyH.cons (o := ?_) (by simp only [List.getElem?_toArray, List.getElem?_cons_zero, List.getElem?_cons_succ]; rfl) (fun K hK => ?_) ?_
            · go_simp
              refine hK.out _ _ ?_ (fun hHeld2 => ?_)
              · exact HS0.out.below (by repeat' first | exact Below.refl _ _ | refine Below.drew ?_ | refine Below.alloc ?_ (by first | (simp; done) | (simp; omega)) _)
              clear hK K hHeld
              have hHeld := hHeld2
              clear hHeld2
              try simp only [Act.put, List.setIfInBounds_toArray, List.set_cons_zero, List.set_cons_succ]
              refine wpAnyH_ready (rs := [20]) (by kernel_rfl) (by simp) ?_
              refine AllReadyH.cons (o := ?_) (by simp only [List.getElem?_toArray, List.getElem?_cons_zero, List.getElem?_cons_succ]; rfl) (fun K hK => ?_) ?_
              · go_simp
                refine hK.out _ _ ?_ (fun hHeld2 => ?_)
                · exact HS0.out.below (by repeat' first | exact Below.refl _ _ | refine Below.drew ?_ | refine Below.alloc ?_ (by first | (simp; done) | (simp; omega)) _)
                clear hK K hHeld
                have hHeld := hHeld2
                clear hHeld2
                try simp only [Act.put, List.setIfInBounds_toArray, List.set_cons_zero, List.set_cons_succ]
                refine wpAnyH_done (by kernel_rfl) ?_ _
                go_wp2_with fail
                go_meet
                have hbb := HB.out
                first | (refine ⟨wc.heap.size, wc.heap.size + 1, rfl, rfl, ⟨heap_alloc2_old _ _ _, heap_alloc2_new _ _ _, ?_⟩⟩; exact ((hbb.alloc hbb.size _).alloc (by have := hbb.size; simp; omega) _).drew) | (refine ⟨wc.heap.size + 1, wc.heap.size, rfl, rfl, ⟨heap_alloc2_new _ _ _, heap_alloc2_old _ _ _, ?_⟩⟩; exact ((hbb.alloc hbb.size _).alloc (by have := hbb.size; simp; omega) _).drew)
              exact AllReadyH.nil
            exact AllReadyH.nil
          exact AllReadyH.nil
        refine AllReadyH.cons (o := ?_) (by simp only [List.getElem?_toArray, List.getElem?_cons_zero, List.getElem?_cons_succ]; rfl) (fun K hK => ?_) ?_
        · go_simp
          refine hK.out _ _ ?_ (fun hHeld2 => ?_)
          · exact HS0.out.below (by repeat' first | exact Below.refl _ _ | refine Below.drew ?_ | refine Below.alloc ?_ (by first | (simp; done) | (simp; omega)) _)
          clear hK K hHeld
          have hHeld := hHeld2
          clear hHeld2
          try simp only [Act.put, List.setIfInBounds_toArray, List.set_cons_zero, List.set_cons_succ]
          refine wpAnyH_ready (rs := [17]) (by kernel_rfl) (by simp) ?_
          refine AllReadyH.cons (o := ?_) (by simp only [List.getElem?_toArray, List.getElem?_cons_zero, List.getElem?_cons_succ]; rfl) (fun K hK => ?_) ?_
          · go_simp
            refine hK.out _ _ ?_ (fun hHeld2 => ?_)
            · exact HS0.out.below (by repeat' first | exact Below.refl _ _ | refine Below.drew ?_ | refine Below.alloc ?_ (by first | (simp; done) | (simp; omega)) _)
            clear hK K hHeld
            have hHeld := hHeld2
            clear hHeld2
            try simp only [Act.put, List.setIfInBounds_toArray, List.set_cons_zero, List.set_cons_succ]
            refine wpAnyH_ready (rs := [19]) (by kernel_rfl) (by simp) ?_
            refine AllReadyH.cons (o := ?_) (by simp only [List.getElem?_toArray, List.getElem?_cons_zero, List.getElem?_cons_succ]; rfl) (fun K hK => ?_) ?_
            · go_simp
              refine hK.out _ _ ?_ (fun hHeld2 => ?_)
              · exact HS0.out.below (by repeat' first | exact Below.refl _ _ | refine Below.drew ?_ | refine Below.alloc ?_ (by first | (simp; done) | (simp; omega)) _)
              clear hK K hHeld
              have hHeld := hHeld2
              clear hHeld2
              try simp only [Act.put, List.setIfInBounds_toArray, List.set_cons_zero, List.set_cons_succ]
              refine wpAnyH_ready (rs := [20]) (by kernel_rfl) (by simp) ?_
              refine AllReadyH.cons (o := ?_) (by simp only [List.getElem?_toArray, List.getElem?_cons_zero, List.getElem?_cons_succ]; rfl) (fun K hK => ?_) ?_
              · go_simp
                refine hK.out _ _ ?_ (fun hHeld2 => ?_)
                · exact HS0.out.below (by repeat' first | exact Below.refl _ _ | refine Below.drew ?_ | refine Below.alloc ?_ (by first | (simp; done) | (simp; omega)) _)
                clear hK K hHeld
                have hHeld := hHeld2
                clear hHeld2
                try simp only [Act.put, List.setIfInBounds_toArray, List.set_cons_zero, List.set_cons_succ]
                refine wpAnyH_done (by kernel_rfl) ?_ _
                go_wp2_with fail
                go_meet
                have hbb := HB.out
                first | (refine ⟨wc.heap.size, wc.heap.size + 1, rfl, rfl, ⟨heap_alloc2_old _ _ _, heap_alloc2_new _ _ _, ?_⟩⟩; exact ((hbb.alloc hbb.size _).alloc (by have := hbb.size; simp; omega) _).drew) | (refine ⟨wc.heap.size + 1, wc.heap.size, rfl, rfl, ⟨heap_alloc2_new _ _ _, heap_alloc2_old _ _ _, ?_⟩⟩; exact ((hbb.alloc hbb.size _).alloc (by have := hbb.size; simp; omega) _).drew)
              exact AllReadyH.nil
            exact AllReadyH.nil
          exact AllReadyH.nil
        exact AllReadyH.nil
      case rest =>
        obtain ⟨X, Y, rfl, rfl, HC⟩ := hcut
        clear HS0 HB hit hjt hi3 hj3 m1 m2
        have HX := As.mk HC.out.1
        have HY := As.mk HC.out.2.1
        have HB : As (Below w.heap.size w wc.drew) := ⟨HC.out.2.2.drew⟩
        clear HC
        have hneg : IntKind.i64.wrap (-c) = -c := IntWalk.i64_in _ (by omega)
        go_upto_region 5 with (fail)
        refine wp_region_held_drew (S := (fun W : World => W.heap[X]? = some (.cells #[.int .u64 f1, .int .i64 s1, .int .u64 f2, .int .i64 s2, .int .i64 c] 41 (0, 0)) ∧ W.heap[Y]? = some (.cells #[.int .u64 p, .int .i64 n, .int .u64 r] 43 (0, 0)))) (by kernel_rfl) ?_ (fun hHeld => ?_)
        · exact ⟨HX.out, HY.out⟩
        refine wpAnyH_take (i := 0) (oi := ?_) (v := ?_) (by simp only [List.getElem?_toArray, List.getElem?_cons_zero, List.getElem?_cons_succ]; rfl) (by kernel_rfl) (by kernel_rfl) (by kernel_rfl) (by exact fun _ _ _ h => h) (Or.inl ⟨by rfl, ?_⟩) (by assumption) ?_
        rotate_left
        · (intro w hSw; (try dsimp only at hSw); obtain ⟨hSx, hSy⟩ := hSw; have s0 := Go.Joins.cell_of_block hSx 0; have s1 := Go.Joins.cell_of_block hSx 1; have s2 := Go.Joins.cell_of_block hSx 2; have s3 := Go.Joins.cell_of_block hSx 3; have s4 := Go.Joins.cell_of_block hSx 4; have t0 := Go.Joins.cell_of_block hSy 0; have t1 := Go.Joins.cell_of_block hSy 1; have t2 := Go.Joins.cell_of_block hSy 2; clear hSx hSy; simp only [List.getElem?_toArray, List.getElem?_cons_zero, List.getElem?_cons_succ] at s0 s1 s2 s3 s4 t0 t1 t2; go_simp; first | done | with_reducible rfl)
        try simp only [Act.put, List.setIfInBounds_toArray, List.set_cons_zero, List.set_cons_succ]
        refine wpAnyH_take (i := 1) (oi := ?_) (v := ?_) (by simp only [List.getElem?_toArray, List.getElem?_cons_zero, List.getElem?_cons_succ]; rfl) (by kernel_rfl) (by kernel_rfl) (by kernel_rfl) (by exact fun _ _ _ h => h) (Or.inl ⟨by rfl, ?_⟩) (by assumption) ?_
        rotate_left
        · (intro w hSw; (try dsimp only at hSw); obtain ⟨hSx, hSy⟩ := hSw; have s0 := Go.Joins.cell_of_block hSx 0; have s1 := Go.Joins.cell_of_block hSx 1; have s2 := Go.Joins.cell_of_block hSx 2; have s3 := Go.Joins.cell_of_block hSx 3; have s4 := Go.Joins.cell_of_block hSx 4; have t0 := Go.Joins.cell_of_block hSy 0; have t1 := Go.Joins.cell_of_block hSy 1; have t2 := Go.Joins.cell_of_block hSy 2; clear hSx hSy; simp only [List.getElem?_toArray, List.getElem?_cons_zero, List.getElem?_cons_succ] at s0 s1 s2 s3 s4 t0 t1 t2; go_simp; first | done | with_reducible rfl)
        try simp only [Act.put, List.setIfInBounds_toArray, List.set_cons_zero, List.set_cons_succ]
        refine wpAnyH_take (i := 2) (oi := ?_) (v := ?_) (by simp only [List.getElem?_toArray, List.getElem?_cons_zero, List.getElem?_cons_succ]; rfl) (by kernel_rfl) (by kernel_rfl) (by kernel_rfl) (by exact fun _ _ _ h => h) (Or.inl ⟨by rfl, ?_⟩) (by assumption) ?_
        rotate_left
        · (intro w hSw; (try dsimp only at hSw); obtain ⟨hSx, hSy⟩ := hSw; have s0 := Go.Joins.cell_of_block hSx 0; have s1 := Go.Joins.cell_of_block hSx 1; have s2 := Go.Joins.cell_of_block hSx 2; have s3 := Go.Joins.cell_of_block hSx 3; have s4 := Go.Joins.cell_of_block hSx 4; have t0 := Go.Joins.cell_of_block hSy 0; have t1 := Go.Joins.cell_of_block hSy 1; have t2 := Go.Joins.cell_of_block hSy 2; clear hSx hSy; simp only [List.getElem?_toArray, List.getElem?_cons_zero, List.getElem?_cons_succ] at s0 s1 s2 s3 s4 t0 t1 t2; go_simp; first | done | with_reducible rfl)
        try simp only [Act.put, List.setIfInBounds_toArray, List.set_cons_zero, List.set_cons_succ]
        refine wpAnyH_take (i := 3) (oi := ?_) (v := ?_) (by simp only [List.getElem?_toArray, List.getElem?_cons_zero, List.getElem?_cons_succ]; rfl) (by kernel_rfl) (by kernel_rfl) (by kernel_rfl) (by exact fun _ _ _ h => h) (Or.inl ⟨by rfl, ?_⟩) (by assumption) ?_
        rotate_left
        · (intro w hSw; (try dsimp only at hSw); obtain ⟨hSx, hSy⟩ := hSw; have s0 := Go.Joins.cell_of_block hSx 0; have s1 := Go.Joins.cell_of_block hSx 1; have s2 := Go.Joins.cell_of_block hSx 2; have s3 := Go.Joins.cell_of_block hSx 3; have s4 := Go.Joins.cell_of_block hSx 4; have t0 := Go.Joins.cell_of_block hSy 0; have t1 := Go.Joins.cell_of_block hSy 1; have t2 := Go.Joins.cell_of_block hSy 2; clear hSx hSy; simp only [List.getElem?_toArray, List.getElem?_cons_zero, List.getElem?_cons_succ] at s0 s1 s2 s3 s4 t0 t1 t2; go_simp; first | done | with_reducible rfl)
        try simp only [Act.put, List.setIfInBounds_toArray, List.set_cons_zero, List.set_cons_succ]
        refine wpAnyH_take (i := 5) (oi := ?_) (v := ?_) (by simp only [List.getElem?_toArray, List.getElem?_cons_zero, List.getElem?_cons_succ]; rfl) (by kernel_rfl) (by kernel_rfl) (by kernel_rfl) (by exact fun _ _ _ h => h) (Or.inl ⟨by rfl, ?_⟩) (by assumption) ?_
        rotate_left
        · (intro w hSw; (try dsimp only at hSw); obtain ⟨hSx, hSy⟩ := hSw; have s0 := Go.Joins.cell_of_block hSx 0; have s1 := Go.Joins.cell_of_block hSx 1; have s2 := Go.Joins.cell_of_block hSx 2; have s3 := Go.Joins.cell_of_block hSx 3; have s4 := Go.Joins.cell_of_block hSx 4; have t0 := Go.Joins.cell_of_block hSy 0; have t1 := Go.Joins.cell_of_block hSy 1; have t2 := Go.Joins.cell_of_block hSy 2; clear hSx hSy; simp only [List.getElem?_toArray, List.getElem?_cons_zero, List.getElem?_cons_succ] at s0 s1 s2 s3 s4 t0 t1 t2; go_simp; first | done | with_reducible rfl)
        try simp only [Act.put, List.setIfInBounds_toArray, List.set_cons_zero, List.set_cons_succ]
        refine wpAnyH_take (i := 6) (oi := ?_) (v := ?_) (by simp only [List.getElem?_toArray, List.getElem?_cons_zero, List.getElem?_cons_succ]; rfl) (by kernel_rfl) (by kernel_rfl) (by kernel_rfl) (by exact fun _ _ _ h => h) (Or.inl ⟨by rfl, ?_⟩) (by assumption) ?_
        rotate_left
        · (intro w hSw; (try dsimp only at hSw); obtain ⟨hSx, hSy⟩ := hSw; have s0 := Go.Joins.cell_of_block hSx 0; have s1 := Go.Joins.cell_of_block hSx 1; have s2 := Go.Joins.cell_of_block hSx 2; have s3 := Go.Joins.cell_of_block hSx 3; have s4 := Go.Joins.cell_of_block hSx 4; have t0 := Go.Joins.cell_of_block hSy 0; have t1 := Go.Joins.cell_of_block hSy 1; have t2 := Go.Joins.cell_of_block hSy 2; clear hSx hSy; simp only [List.getElem?_toArray, List.getElem?_cons_zero, List.getElem?_cons_succ] at s0 s1 s2 s3 s4 t0 t1 t2; go_simp; first | done | with_reducible rfl)
        try simp only [Act.put, List.setIfInBounds_toArray, List.set_cons_zero, List.set_cons_succ]
        refine wpAnyH_ready (rs := [4]) (by kernel_rfl) (by simp) ?_
        refine AllReadyH.cons (o := ?_) (by simp only [List.getElem?_toArray, List.getElem?_cons_zero, List.getElem?_cons_succ]; rfl) (fun K hK => ?_) ?_
        · go_simp
          refine (compare_to f1 s1 f2 s2 c HK1.out (by omega) (by omega) (by omega) (by omega) (by omega) (by omega) _).mono ?_
          rintro e w6 ⟨rfl, hb⟩
          have HB2 := As.mk (HB.out.trans (hb.mono HB.out.size))
          have hS2 := And.intro (blk_below hHeld.1 hb) (blk_below hHeld.2 hb)
          clear hb HB
          have HB := HB2
          clear HB2
          dsimp only
          refine hK.out _ _ ?_ (fun hHeld2 => ?_)
          · exact hS2
          clear hK K hHeld
          have hHeld := hHeld2
          clear hHeld2
          try simp only [Act.put, List.setIfInBounds_toArray, List.set_cons_zero, List.set_cons_succ]
          refine wpAnyH_take (i := 7) (oi := ?_) (v := ?_) (by simp only [List.getElem?_toArray, List.getElem?_cons_zero, List.getElem?_cons_succ]; rfl) (by kernel_rfl) (by kernel_rfl) (by kernel_rfl) (by exact fun _ _ _ h => h) (Or.inl ⟨by rfl, ?_⟩) (by assumption) ?_
          rotate_left
          · (intro w hSw; (try dsimp only at hSw); obtain ⟨hSx, hSy⟩ := hSw; have s0 := Go.Joins.cell_of_block hSx 0; have s1 := Go.Joins.cell_of_block hSx 1; have s2 := Go.Joins.cell_of_block hSx 2; have s3 := Go.Joins.cell_of_block hSx 3; have s4 := Go.Joins.cell_of_block hSx 4; have t0 := Go.Joins.cell_of_block hSy 0; have t1 := Go.Joins.cell_of_block hSy 1; have t2 := Go.Joins.cell_of_block hSy 2; clear hSx hSy; simp only [List.getElem?_toArray, List.getElem?_cons_zero, List.getElem?_cons_succ] at s0 s1 s2 s3 s4 t0 t1 t2; go_simp; first | done | with_reducible rfl)
          try simp only [Act.put, List.setIfInBounds_toArray, List.set_cons_zero, List.set_cons_succ]
          refine wpAnyH_take (i := 8) (oi := ?_) (v := ?_) (by simp only [List.getElem?_toArray, List.getElem?_cons_zero, List.getElem?_cons_succ]; rfl) (by kernel_rfl) (by kernel_rfl) (by kernel_rfl) (by exact fun _ _ _ h => h) (Or.inl ⟨by rfl, ?_⟩) (by assumption) ?_
          rotate_left
          · (intro w hSw; (try dsimp only at hSw); obtain ⟨hSx, hSy⟩ := hSw; have s0 := Go.Joins.cell_of_block hSx 0; have s1 := Go.Joins.cell_of_block hSx 1; have s2 := Go.Joins.cell_of_block hSx 2; have s3 := Go.Joins.cell_of_block hSx 3; have s4 := Go.Joins.cell_of_block hSx 4; have t0 := Go.Joins.cell_of_block hSy 0; have t1 := Go.Joins.cell_of_block hSy 1; have t2 := Go.Joins.cell_of_block hSy 2; clear hSx hSy; simp only [List.getElem?_toArray, List.getElem?_cons_zero, List.getElem?_cons_succ] at s0 s1 s2 s3 s4 t0 t1 t2; go_simp; first | done | with_reducible rfl)
          try simp only [Act.put, List.setIfInBounds_toArray, List.set_cons_zero, List.set_cons_succ]
          refine wpAnyH_take (i := 9) (oi := ?_) (v := ?_) (by simp only [List.getElem?_toArray, List.getElem?_cons_zero, List.getElem?_cons_succ]; rfl) (by kernel_rfl) (by kernel_rfl) (by kernel_rfl) (by exact fun _ _ _ h => h) (Or.inl ⟨by rfl, ?_⟩) (by assumption) ?_
          rotate_left
          · (intro w hSw; (try dsimp only at hSw); obtain ⟨hSx, hSy⟩ := hSw; have s0 := Go.Joins.cell_of_block hSx 0; have s1 := Go.Joins.cell_of_block hSx 1; have s2 := Go.Joins.cell_of_block hSx 2; have s3 := Go.Joins.cell_of_block hSx 3; have s4 := Go.Joins.cell_of_block hSx 4; have t0 := Go.Joins.cell_of_block hSy 0; have t1 := Go.Joins.cell_of_block hSy 1; have t2 := Go.Joins.cell_of_block hSy 2; clear hSx hSy; simp only [List.getElem?_toArray, List.getElem?_cons_zero, List.getElem?_cons_succ] at s0 s1 s2 s3 s4 t0 t1 t2; go_simp; first | done | with_reducible rfl)
          try simp only [Act.put, List.setIfInBounds_toArray, List.set_cons_zero, List.set_cons_succ]
          refine wpAnyH_take (i := 10) (oi := ?_) (v := ?_) (by simp only [List.getElem?_toArray, List.getElem?_cons_zero, List.getElem?_cons_succ]; rfl) (by kernel_rfl) (by kernel_rfl) (by kernel_rfl) (by exact fun _ _ _ h => h) (Or.inl ⟨by rfl, ?_⟩) (by assumption) ?_
          rotate_left
          · (intro w hSw; (try dsimp only at hSw); obtain ⟨hSx, hSy⟩ := hSw; have s0 := Go.Joins.cell_of_block hSx 0; have s1 := Go.Joins.cell_of_block hSx 1; have s2 := Go.Joins.cell_of_block hSx 2; have s3 := Go.Joins.cell_of_block hSx 3; have s4 := Go.Joins.cell_of_block hSx 4; have t0 := Go.Joins.cell_of_block hSy 0; have t1 := Go.Joins.cell_of_block hSy 1; have t2 := Go.Joins.cell_of_block hSy 2; clear hSx hSy; simp only [List.getElem?_toArray, List.getElem?_cons_zero, List.getElem?_cons_succ] at s0 s1 s2 s3 s4 t0 t1 t2; go_simp; first | done | with_reducible rfl)
          try simp only [Act.put, List.setIfInBounds_toArray, List.set_cons_zero, List.set_cons_succ]
          refine wpAnyH_take (i := 11) (oi := ?_) (v := ?_) (by simp only [List.getElem?_toArray, List.getElem?_cons_zero, List.getElem?_cons_succ]; rfl) (by kernel_rfl) (by kernel_rfl) (by kernel_rfl) (by exact fun _ _ _ h => h) (Or.inl ⟨by rfl, ?_⟩) (by assumption) ?_
          rotate_left
          · (intro w hSw; (try dsimp only at hSw); obtain ⟨hSx, hSy⟩ := hSw; have s0 := Go.Joins.cell_of_block hSx 0; have s1 := Go.Joins.cell_of_block hSx 1; have s2 := Go.Joins.cell_of_block hSx 2; have s3 := Go.Joins.cell_of_block hSx 3; have s4 := Go.Joins.cell_of_block hSx 4; have t0 := Go.Joins.cell_of_block hSy 0; have t1 := Go.Joins.cell_of_block hSy 1; have t2 := Go.Joins.cell_of_block hSy 2; clear hSx hSy; simp only [List.getElem?_toArray, List.getElem?_cons_zero, List.getElem?_cons_succ] at s0 s1 s2 s3 s4 t0 t1 t2; go_simp; first | done | with_reducible rfl)
          try simp only [Act.put, List.setIfInBounds_toArray, List.set_cons_zero, List.set_cons_succ]
          refine wpAnyH_take (i := 12) (oi := ?_) (v := ?_) (by simp only [List.getElem?_toArray, List.getElem?_cons_zero, List.getElem?_cons_succ]; rfl) (by kernel_rfl) (by kernel_rfl) (by kernel_rfl) (by exact fun _ _ _ h => h) (Or.inl ⟨by rfl, ?_⟩) (by assumption) ?_
          rotate_left
          · (intro w hSw; (try dsimp only at hSw); obtain ⟨hSx, hSy⟩ := hSw; have s0 := Go.Joins.cell_of_block hSx 0; have s1 := Go.Joins.cell_of_block hSx 1; have s2 := Go.Joins.cell_of_block hSx 2; have s3 := Go.Joins.cell_of_block hSx 3; have s4 := Go.Joins.cell_of_block hSx 4; have t0 := Go.Joins.cell_of_block hSy 0; have t1 := Go.Joins.cell_of_block hSy 1; have t2 := Go.Joins.cell_of_block hSy 2; clear hSx hSy; simp only [List.getElem?_toArray, List.getElem?_cons_zero, List.getElem?_cons_succ] at s0 s1 s2 s3 s4 t0 t1 t2; go_simp; first | done | with_reducible rfl)
          try simp only [Act.put, List.setIfInBounds_toArray, List.set_cons_zero, List.set_cons_succ]
          refine wpAnyH_take (i := 14) (oi := ?_) (v := ?_) (by simp only [List.getElem?_toArray, List.getElem?_cons_zero, List.getElem?_cons_succ]; rfl) (by kernel_rfl) (by kernel_rfl) (by kernel_rfl) (by exact fun _ _ _ h => h) (Or.inl ⟨by rfl, ?_⟩) (by assumption) ?_
          rotate_left
          · (intro w hSw; (try dsimp only at hSw); obtain ⟨hSx, hSy⟩ := hSw; have s0 := Go.Joins.cell_of_block hSx 0; have s1 := Go.Joins.cell_of_block hSx 1; have s2 := Go.Joins.cell_of_block hSx 2; have s3 := Go.Joins.cell_of_block hSx 3; have s4 := Go.Joins.cell_of_block hSx 4; have t0 := Go.Joins.cell_of_block hSy 0; have t1 := Go.Joins.cell_of_block hSy 1; have t2 := Go.Joins.cell_of_block hSy 2; clear hSx hSy; simp only [List.getElem?_toArray, List.getElem?_cons_zero, List.getElem?_cons_succ] at s0 s1 s2 s3 s4 t0 t1 t2; go_simp; first | done | with_reducible rfl)
          try simp only [Act.put, List.setIfInBounds_toArray, List.set_cons_zero, List.set_cons_succ]
          refine wpAnyH_take (i := 15) (oi := ?_) (v := ?_) (by simp only [List.getElem?_toArray, List.getElem?_cons_zero, List.getElem?_cons_succ]; rfl) (by kernel_rfl) (by kernel_rfl) (by kernel_rfl) (by exact fun _ _ _ h => h) (Or.inl ⟨by rfl, ?_⟩) (by assumption) ?_
          rotate_left
          · (intro w hSw; (try dsimp only at hSw); obtain ⟨hSx, hSy⟩ := hSw; have s0 := Go.Joins.cell_of_block hSx 0; have s1 := Go.Joins.cell_of_block hSx 1; have s2 := Go.Joins.cell_of_block hSx 2; have s3 := Go.Joins.cell_of_block hSx 3; have s4 := Go.Joins.cell_of_block hSx 4; have t0 := Go.Joins.cell_of_block hSy 0; have t1 := Go.Joins.cell_of_block hSy 1; have t2 := Go.Joins.cell_of_block hSy 2; clear hSx hSy; simp only [List.getElem?_toArray, List.getElem?_cons_zero, List.getElem?_cons_succ] at s0 s1 s2 s3 s4 t0 t1 t2; go_simp; first | done | with_reducible rfl)
          try simp only [Act.put, List.setIfInBounds_toArray, List.set_cons_zero, List.set_cons_succ]
          refine wpAnyH_take (i := 16) (oi := ?_) (v := ?_) (by simp only [List.getElem?_toArray, List.getElem?_cons_zero, List.getElem?_cons_succ]; rfl) (by kernel_rfl) (by kernel_rfl) (by kernel_rfl) (by exact fun _ _ _ h => h) (Or.inl ⟨by rfl, ?_⟩) (by assumption) ?_
          rotate_left
          · (intro w hSw; (try dsimp only at hSw); obtain ⟨hSx, hSy⟩ := hSw; have s0 := Go.Joins.cell_of_block hSx 0; have s1 := Go.Joins.cell_of_block hSx 1; have s2 := Go.Joins.cell_of_block hSx 2; have s3 := Go.Joins.cell_of_block hSx 3; have s4 := Go.Joins.cell_of_block hSx 4; have t0 := Go.Joins.cell_of_block hSy 0; have t1 := Go.Joins.cell_of_block hSy 1; have t2 := Go.Joins.cell_of_block hSy 2; clear hSx hSy; simp only [List.getElem?_toArray, List.getElem?_cons_zero, List.getElem?_cons_succ] at s0 s1 s2 s3 s4 t0 t1 t2; go_simp; first | done | with_reducible rfl)
          try simp only [Act.put, List.setIfInBounds_toArray, List.set_cons_zero, List.set_cons_succ]
          refine wpAnyH_ready (rs := [13]) (by kernel_rfl) (by simp) ?_
          refine AllReadyH.cons (o := ?_) (by simp only [List.getElem?_toArray, List.getElem?_cons_zero, List.getElem?_cons_succ]; rfl) (fun K hK => ?_) ?_
          · go_simp
            refine (compare_to f2 s2 f1 s1 (-c) HK2.out (by omega) (by omega) (by omega) (by omega) (by omega) (by omega) _).mono ?_
            rintro e w6 ⟨rfl, hb⟩
            have HB2 := As.mk (HB.out.trans (hb.mono HB.out.size))
            have hS2 := And.intro (blk_below hHeld.1 hb) (blk_below hHeld.2 hb)
            clear hb HB
            have HB := HB2
            clear HB2
            dsimp only
            refine hK.out _ _ ?_ (fun hHeld2 => ?_)
            · exact hS2
            clear hK K hHeld
            have hHeld := hHeld2
            clear hHeld2
            try simp only [Act.put, List.setIfInBounds_toArray, List.set_cons_zero, List.set_cons_succ]
            refine wpAnyH_take (i := 17) (oi := ?_) (v := ?_) (by simp only [List.getElem?_toArray, List.getElem?_cons_zero, List.getElem?_cons_succ]; rfl) (by kernel_rfl) (by kernel_rfl) (by kernel_rfl) (by exact fun _ _ _ h => h) (Or.inl ⟨by rfl, ?_⟩) (by assumption) ?_
            rotate_left
            · (intro w hSw; (try dsimp only at hSw); obtain ⟨hSx, hSy⟩ := hSw; have s0 := Go.Joins.cell_of_block hSx 0; have s1 := Go.Joins.cell_of_block hSx 1; have s2 := Go.Joins.cell_of_block hSx 2; have s3 := Go.Joins.cell_of_block hSx 3; have s4 := Go.Joins.cell_of_block hSx 4; have t0 := Go.Joins.cell_of_block hSy 0; have t1 := Go.Joins.cell_of_block hSy 1; have t2 := Go.Joins.cell_of_block hSy 2; clear hSx hSy; simp only [List.getElem?_toArray, List.getElem?_cons_zero, List.getElem?_cons_succ] at s0 s1 s2 s3 s4 t0 t1 t2; go_simp; first | done | with_reducible rfl)
            try simp only [Act.put, List.setIfInBounds_toArray, List.set_cons_zero, List.set_cons_succ]
            refine wpAnyH_take (i := 18) (oi := ?_) (v := ?_) (by simp only [List.getElem?_toArray, List.getElem?_cons_zero, List.getElem?_cons_succ]; rfl) (by kernel_rfl) (by kernel_rfl) (by kernel_rfl) (by exact fun _ _ _ h => h) (Or.inl ⟨by rfl, ?_⟩) (by assumption) ?_
            rotate_left
            · (intro w hSw; (try dsimp only at hSw); obtain ⟨hSx, hSy⟩ := hSw; have s0 := Go.Joins.cell_of_block hSx 0; have s1 := Go.Joins.cell_of_block hSx 1; have s2 := Go.Joins.cell_of_block hSx 2; have s3 := Go.Joins.cell_of_block hSx 3; have s4 := Go.Joins.cell_of_block hSx 4; have t0 := Go.Joins.cell_of_block hSy 0; have t1 := Go.Joins.cell_of_block hSy 1; have t2 := Go.Joins.cell_of_block hSy 2; clear hSx hSy; simp only [List.getElem?_toArray, List.getElem?_cons_zero, List.getElem?_cons_succ] at s0 s1 s2 s3 s4 t0 t1 t2; go_simp; first | done | with_reducible rfl)
            try simp only [Act.put, List.setIfInBounds_toArray, List.set_cons_zero, List.set_cons_succ]
            refine wpAnyH_take (i := 19) (oi := ?_) (v := ?_) (by simp only [List.getElem?_toArray, List.getElem?_cons_zero, List.getElem?_cons_succ]; rfl) (by kernel_rfl) (by kernel_rfl) (by kernel_rfl) (by exact fun _ _ _ h => h) (Or.inl ⟨by rfl, ?_⟩) (by assumption) ?_
            rotate_left
            · (intro w hSw; (try dsimp only at hSw); obtain ⟨hSx, hSy⟩ := hSw; have s0 := Go.Joins.cell_of_block hSx 0; have s1 := Go.Joins.cell_of_block hSx 1; have s2 := Go.Joins.cell_of_block hSx 2; have s3 := Go.Joins.cell_of_block hSx 3; have s4 := Go.Joins.cell_of_block hSx 4; have t0 := Go.Joins.cell_of_block hSy 0; have t1 := Go.Joins.cell_of_block hSy 1; have t2 := Go.Joins.cell_of_block hSy 2; clear hSx hSy; simp only [List.getElem?_toArray, List.getElem?_cons_zero, List.getElem?_cons_succ] at s0 s1 s2 s3 s4 t0 t1 t2; go_simp; first | done | with_reducible rfl)
            try simp only [Act.put, List.setIfInBounds_toArray, List.set_cons_zero, List.set_cons_succ]
            refine wpAnyH_take (i := 20) (oi := ?_) (v := ?_) (by simp only [List.getElem?_toArray, List.getElem?_cons_zero, List.getElem?_cons_succ]; rfl) (by kernel_rfl) (by kernel_rfl) (by kernel_rfl) (by exact fun _ _ _ h => h) (Or.inl ⟨by rfl, ?_⟩) (by assumption) ?_
            rotate_left
            · (intro w hSw; (try dsimp only at hSw); obtain ⟨hSx, hSy⟩ := hSw; have s0 := Go.Joins.cell_of_block hSx 0; have s1 := Go.Joins.cell_of_block hSx 1; have s2 := Go.Joins.cell_of_block hSx 2; have s3 := Go.Joins.cell_of_block hSx 3; have s4 := Go.Joins.cell_of_block hSx 4; have t0 := Go.Joins.cell_of_block hSy 0; have t1 := Go.Joins.cell_of_block hSy 1; have t2 := Go.Joins.cell_of_block hSy 2; clear hSx hSy; simp only [List.getElem?_toArray, List.getElem?_cons_zero, List.getElem?_cons_succ] at s0 s1 s2 s3 s4 t0 t1 t2; go_simp; first | done | with_reducible rfl)
            try simp only [Act.put, List.setIfInBounds_toArray, List.set_cons_zero, List.set_cons_succ]
            refine wpAnyH_take (i := 21) (oi := ?_) (v := ?_) (by simp only [List.getElem?_toArray, List.getElem?_cons_zero, List.getElem?_cons_succ]; rfl) (by kernel_rfl) (by kernel_rfl) (by kernel_rfl) (by exact fun _ _ _ h => h) (Or.inl ⟨by rfl, ?_⟩) (by assumption) ?_
            rotate_left
            · (intro w hSw; (try dsimp only at hSw); obtain ⟨hSx, hSy⟩ := hSw; have s0 := Go.Joins.cell_of_block hSx 0; have s1 := Go.Joins.cell_of_block hSx 1; have s2 := Go.Joins.cell_of_block hSx 2; have s3 := Go.Joins.cell_of_block hSx 3; have s4 := Go.Joins.cell_of_block hSx 4; have t0 := Go.Joins.cell_of_block hSy 0; have t1 := Go.Joins.cell_of_block hSy 1; have t2 := Go.Joins.cell_of_block hSy 2; clear hSx hSy; simp only [List.getElem?_toArray, List.getElem?_cons_zero, List.getElem?_cons_succ] at s0 s1 s2 s3 s4 t0 t1 t2; go_simp; first | done | with_reducible rfl)
            try simp only [Act.put, List.setIfInBounds_toArray, List.set_cons_zero, List.set_cons_succ]
            refine wpAnyH_take (i := 22) (oi := ?_) (v := ?_) (by simp only [List.getElem?_toArray, List.getElem?_cons_zero, List.getElem?_cons_succ]; rfl) (by kernel_rfl) (by kernel_rfl) (by kernel_rfl) (by exact fun _ _ _ h => h) (Or.inl ⟨by rfl, ?_⟩) (by assumption) ?_
            rotate_left
            · (intro w hSw; (try dsimp only at hSw); obtain ⟨hSx, hSy⟩ := hSw; have s0 := Go.Joins.cell_of_block hSx 0; have s1 := Go.Joins.cell_of_block hSx 1; have s2 := Go.Joins.cell_of_block hSx 2; have s3 := Go.Joins.cell_of_block hSx 3; have s4 := Go.Joins.cell_of_block hSx 4; have t0 := Go.Joins.cell_of_block hSy 0; have t1 := Go.Joins.cell_of_block hSy 1; have t2 := Go.Joins.cell_of_block hSy 2; clear hSx hSy; simp only [List.getElem?_toArray, List.getElem?_cons_zero, List.getElem?_cons_succ] at s0 s1 s2 s3 s4 t0 t1 t2; go_simp; first | done | with_reducible rfl)
            try simp only [Act.put, List.setIfInBounds_toArray, List.set_cons_zero, List.set_cons_succ]
            refine wpAnyH_take (i := 23) (oi := ?_) (v := ?_) (by simp only [List.getElem?_toArray, List.getElem?_cons_zero, List.getElem?_cons_succ]; rfl) (by kernel_rfl) (by kernel_rfl) (by kernel_rfl) (by exact fun _ _ _ h => h) (Or.inl ⟨by rfl, ?_⟩) (by assumption) ?_
            rotate_left
            · (intro w hSw; (try dsimp only at hSw); obtain ⟨hSx, hSy⟩ := hSw; have s0 := Go.Joins.cell_of_block hSx 0; have s1 := Go.Joins.cell_of_block hSx 1; have s2 := Go.Joins.cell_of_block hSx 2; have s3 := Go.Joins.cell_of_block hSx 3; have s4 := Go.Joins.cell_of_block hSx 4; have t0 := Go.Joins.cell_of_block hSy 0; have t1 := Go.Joins.cell_of_block hSy 1; have t2 := Go.Joins.cell_of_block hSy 2; clear hSx hSy; simp only [List.getElem?_toArray, List.getElem?_cons_zero, List.getElem?_cons_succ] at s0 s1 s2 s3 s4 t0 t1 t2; go_simp; first | done | with_reducible rfl)
            try simp only [Act.put, List.setIfInBounds_toArray, List.set_cons_zero, List.set_cons_succ]
            refine wpAnyH_take (i := 25) (oi := ?_) (v := ?_) (by simp only [List.getElem?_toArray, List.getElem?_cons_zero, List.getElem?_cons_succ]; rfl) (by kernel_rfl) (by kernel_rfl) (by kernel_rfl) (by exact fun _ _ _ h => h) (Or.inl ⟨by rfl, ?_⟩) (by assumption) ?_
            rotate_left
            · (intro w hSw; (try dsimp only at hSw); obtain ⟨hSx, hSy⟩ := hSw; have s0 := Go.Joins.cell_of_block hSx 0; have s1 := Go.Joins.cell_of_block hSx 1; have s2 := Go.Joins.cell_of_block hSx 2; have s3 := Go.Joins.cell_of_block hSx 3; have s4 := Go.Joins.cell_of_block hSx 4; have t0 := Go.Joins.cell_of_block hSy 0; have t1 := Go.Joins.cell_of_block hSy 1; have t2 := Go.Joins.cell_of_block hSy 2; clear hSx hSy; simp only [List.getElem?_toArray, List.getElem?_cons_zero, List.getElem?_cons_succ] at s0 s1 s2 s3 s4 t0 t1 t2; go_simp; first | done | with_reducible rfl)
            try simp only [Act.put, List.setIfInBounds_toArray, List.set_cons_zero, List.set_cons_succ]
            refine wpAnyH_take (i := 26) (oi := ?_) (v := ?_) (by simp only [List.getElem?_toArray, List.getElem?_cons_zero, List.getElem?_cons_succ]; rfl) (by kernel_rfl) (by kernel_rfl) (by kernel_rfl) (by exact fun _ _ _ h => h) (Or.inl ⟨by rfl, ?_⟩) (by assumption) ?_
            rotate_left
            · (intro w hSw; (try dsimp only at hSw); obtain ⟨hSx, hSy⟩ := hSw; have s0 := Go.Joins.cell_of_block hSx 0; have s1 := Go.Joins.cell_of_block hSx 1; have s2 := Go.Joins.cell_of_block hSx 2; have s3 := Go.Joins.cell_of_block hSx 3; have s4 := Go.Joins.cell_of_block hSx 4; have t0 := Go.Joins.cell_of_block hSy 0; have t1 := Go.Joins.cell_of_block hSy 1; have t2 := Go.Joins.cell_of_block hSy 2; clear hSx hSy; simp only [List.getElem?_toArray, List.getElem?_cons_zero, List.getElem?_cons_succ] at s0 s1 s2 s3 s4 t0 t1 t2; go_simp; first | done | with_reducible rfl)
            try simp only [Act.put, List.setIfInBounds_toArray, List.set_cons_zero, List.set_cons_succ]
            refine wpAnyH_ready (rs := [24]) (by kernel_rfl) (by simp) ?_
            refine AllReadyH.cons (o := ?_) (by simp only [List.getElem?_toArray, List.getElem?_cons_zero, List.getElem?_cons_succ]; rfl) (fun K hK => ?_) ?_
            · go_simp
              refine (need_to p n r HK3.out (by omega) (by omega) _).mono ?_
              rintro e w6 ⟨rfl, hb⟩
              have HB2 := As.mk (HB.out.trans (hb.mono HB.out.size))
              have hS2 := And.intro (blk_below hHeld.1 hb) (blk_below hHeld.2 hb)
              clear hb HB
              have HB := HB2
              clear HB2
              dsimp only
              refine hK.out _ _ ?_ (fun hHeld2 => ?_)
              · exact hS2
              clear hK K hHeld
              have hHeld := hHeld2
              clear hHeld2
              try simp only [Act.put, List.setIfInBounds_toArray, List.set_cons_zero, List.set_cons_succ]
              refine wpAnyH_take (i := 27) (oi := ?_) (v := ?_) (by simp only [List.getElem?_toArray, List.getElem?_cons_zero, List.getElem?_cons_succ]; rfl) (by kernel_rfl) (by kernel_rfl) (by kernel_rfl) (by exact fun _ _ _ h => h) (Or.inl ⟨by rfl, ?_⟩) (by assumption) ?_
              rotate_left
              · (intro w hSw; (try dsimp only at hSw); obtain ⟨hSx, hSy⟩ := hSw; have s0 := Go.Joins.cell_of_block hSx 0; have s1 := Go.Joins.cell_of_block hSx 1; have s2 := Go.Joins.cell_of_block hSx 2; have s3 := Go.Joins.cell_of_block hSx 3; have s4 := Go.Joins.cell_of_block hSx 4; have t0 := Go.Joins.cell_of_block hSy 0; have t1 := Go.Joins.cell_of_block hSy 1; have t2 := Go.Joins.cell_of_block hSy 2; clear hSx hSy; simp only [List.getElem?_toArray, List.getElem?_cons_zero, List.getElem?_cons_succ] at s0 s1 s2 s3 s4 t0 t1 t2; go_simp; first | done | with_reducible rfl)
              try simp only [Act.put, List.setIfInBounds_toArray, List.set_cons_zero, List.set_cons_succ]
              refine wpAnyH_take (i := 28) (oi := ?_) (v := ?_) (by simp only [List.getElem?_toArray, List.getElem?_cons_zero, List.getElem?_cons_succ]; rfl) (by kernel_rfl) (by kernel_rfl) (by kernel_rfl) (by exact fun _ _ _ h => h) (Or.inl ⟨by rfl, ?_⟩) (by assumption) ?_
              rotate_left
              · (intro w hSw; (try dsimp only at hSw); obtain ⟨hSx, hSy⟩ := hSw; have s0 := Go.Joins.cell_of_block hSx 0; have s1 := Go.Joins.cell_of_block hSx 1; have s2 := Go.Joins.cell_of_block hSx 2; have s3 := Go.Joins.cell_of_block hSx 3; have s4 := Go.Joins.cell_of_block hSx 4; have t0 := Go.Joins.cell_of_block hSy 0; have t1 := Go.Joins.cell_of_block hSy 1; have t2 := Go.Joins.cell_of_block hSy 2; clear hSx hSy; simp only [List.getElem?_toArray, List.getElem?_cons_zero, List.getElem?_cons_succ] at s0 s1 s2 s3 s4 t0 t1 t2; go_simp; first | done | with_reducible rfl)
              try simp only [Act.put, List.setIfInBounds_toArray, List.set_cons_zero, List.set_cons_succ]
              refine wpAnyH_take (i := 29) (oi := ?_) (v := ?_) (by simp only [List.getElem?_toArray, List.getElem?_cons_zero, List.getElem?_cons_succ]; rfl) (by kernel_rfl) (by kernel_rfl) (by kernel_rfl) (by exact fun _ _ _ h => h) (Or.inl ⟨by rfl, ?_⟩) (by assumption) ?_
              rotate_left
              · (intro w hSw; (try dsimp only at hSw); obtain ⟨hSx, hSy⟩ := hSw; have s0 := Go.Joins.cell_of_block hSx 0; have s1 := Go.Joins.cell_of_block hSx 1; have s2 := Go.Joins.cell_of_block hSx 2; have s3 := Go.Joins.cell_of_block hSx 3; have s4 := Go.Joins.cell_of_block hSx 4; have t0 := Go.Joins.cell_of_block hSy 0; have t1 := Go.Joins.cell_of_block hSy 1; have t2 := Go.Joins.cell_of_block hSy 2; clear hSx hSy; simp only [List.getElem?_toArray, List.getElem?_cons_zero, List.getElem?_cons_succ] at s0 s1 s2 s3 s4 t0 t1 t2; go_simp; first | done | with_reducible rfl)
              try simp only [Act.put, List.setIfInBounds_toArray, List.set_cons_zero, List.set_cons_succ]
              refine wpAnyH_ready (rs := [30]) (by kernel_rfl) (by simp) ?_
              refine AllReadyH.cons (o := ?_) (by simp only [List.getElem?_toArray, List.getElem?_cons_zero, List.getElem?_cons_succ]; rfl) (fun K hK => ?_) ?_
              · go_simp
                refine (awake7_any _).mono ?_
                rintro e w6 ⟨rfl, hb⟩
                have HB2 := As.mk (HB.out.trans (hb.mono HB.out.size))
                have hS2 := And.intro (blk_below hHeld.1 hb) (blk_below hHeld.2 hb)
                clear hb HB
                have HB := HB2
                clear HB2
                dsimp only
                refine hK.out _ _ ?_ (fun hHeld2 => ?_)
                · exact hS2
                clear hK K hHeld
                have hHeld := hHeld2
                clear hHeld2
                try simp only [Act.put, List.setIfInBounds_toArray, List.set_cons_zero, List.set_cons_succ]
                refine wpAnyH_take (i := 31) (oi := ?_) (v := ?_) (by simp only [List.getElem?_toArray, List.getElem?_cons_zero, List.getElem?_cons_succ]; rfl) (by kernel_rfl) (by kernel_rfl) (by kernel_rfl) (by exact fun _ _ _ h => h) (Or.inl ⟨by rfl, ?_⟩) (by assumption) ?_
                rotate_left
                · (intro w hSw; (try dsimp only at hSw); obtain ⟨hSx, hSy⟩ := hSw; have s0 := Go.Joins.cell_of_block hSx 0; have s1 := Go.Joins.cell_of_block hSx 1; have s2 := Go.Joins.cell_of_block hSx 2; have s3 := Go.Joins.cell_of_block hSx 3; have s4 := Go.Joins.cell_of_block hSx 4; have t0 := Go.Joins.cell_of_block hSy 0; have t1 := Go.Joins.cell_of_block hSy 1; have t2 := Go.Joins.cell_of_block hSy 2; clear hSx hSy; simp only [List.getElem?_toArray, List.getElem?_cons_zero, List.getElem?_cons_succ] at s0 s1 s2 s3 s4 t0 t1 t2; go_simp; first | done | with_reducible rfl)
                try simp only [Act.put, List.setIfInBounds_toArray, List.set_cons_zero, List.set_cons_succ]
                refine wpAnyH_take (i := 32) (oi := ?_) (v := ?_) (by simp only [List.getElem?_toArray, List.getElem?_cons_zero, List.getElem?_cons_succ]; rfl) (by kernel_rfl) (by kernel_rfl) (by kernel_rfl) (by exact fun _ _ _ h => h) (Or.inl ⟨by rfl, ?_⟩) (by assumption) ?_
                rotate_left
                · (intro w hSw; (try dsimp only at hSw); obtain ⟨hSx, hSy⟩ := hSw; have s0 := Go.Joins.cell_of_block hSx 0; have s1 := Go.Joins.cell_of_block hSx 1; have s2 := Go.Joins.cell_of_block hSx 2; have s3 := Go.Joins.cell_of_block hSx 3; have s4 := Go.Joins.cell_of_block hSx 4; have t0 := Go.Joins.cell_of_block hSy 0; have t1 := Go.Joins.cell_of_block hSy 1; have t2 := Go.Joins.cell_of_block hSy 2; clear hSx hSy; simp only [List.getElem?_toArray, List.getElem?_cons_zero, List.getElem?_cons_succ] at s0 s1 s2 s3 s4 t0 t1 t2; go_simp; first | done | with_reducible rfl)
                try simp only [Act.put, List.setIfInBounds_toArray, List.set_cons_zero, List.set_cons_succ]
                refine wpAnyH_done (by kernel_rfl) ?_ _
                go_wp2_with fail
                go_ret
                exact ⟨rfl, HB.out⟩
              exact AllReadyH.nil
            exact AllReadyH.nil
          exact AllReadyH.nil
        exact AllReadyH.nil
theorem rateForms_row (which : Int) (w0 : (Lit.int .i64 which).wf = true) (w : World) :
    Calls Try.prog 8 #[.int .i64 which] w fun e w' => e = .returned (.bool true) ∧ Below w.heap.size w w' := rateForms_walk which w
end Go.Proofs.Ytfbfdmgnicgalaa.W
