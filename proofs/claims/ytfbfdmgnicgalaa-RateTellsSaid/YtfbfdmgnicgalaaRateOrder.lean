/- Rates stand in one order; a greater fee is more: the walk of RateOrder. -/
import Derived.Test.YtfbfdmgnicgalaaRateMeans
set_option linter.unusedVariables false
set_option linter.unusedSimpArgs false
namespace Go.Proofs.Ytfbfdmgnicgalaa.W
open Go.RowKit Go.Proofs.Ytfbfdmgnicgalaa.B Go.Proofs

theorem szI_pos (s : Int) : 1 ≤ szI s := by unfold szI; split <;> omega
theorem szI_le (s : Int) (h : s ≤ 9223372036854775807) : szI s ≤ 9223372036854775807 := by unfold szI; split <;> omega
theorem cross_le (a b c x y z : Int) (hx : 0 < x) (hy : 0 < y) (hz : 0 < z) (h1 : a * y ≤ b * x) (h2 : b * z ≤ c * y) : a * z ≤ c * x := by
  have e1 := Int.mul_le_mul_of_nonneg_right h1 (Int.le_of_lt hz)
  have e2 := Int.mul_le_mul_of_nonneg_right h2 (Int.le_of_lt hx)
  have e3 : b * x * z = b * z * x := by rw [Int.mul_assoc, Int.mul_comm x z, ← Int.mul_assoc]
  have e4 : a * y * z = a * z * y := by rw [Int.mul_assoc, Int.mul_comm y z, ← Int.mul_assoc]
  have e5 : c * y * x = c * x * y := by rw [Int.mul_assoc, Int.mul_comm y x, ← Int.mul_assoc]
  have e6 : a * z * y ≤ c * x * y := by omega
  exact Int.le_of_mul_le_mul_right e6 hy
theorem cross_lt (a b c x y z : Int) (hx : 0 < x) (hy : 0 < y) (hz : 0 < z) (h1 : a * y < b * x) (h2 : b * z ≤ c * y) : a * z < c * x := by
  have e1 := Int.mul_lt_mul_of_pos_right h1 hz
  have e2 := Int.mul_le_mul_of_nonneg_right h2 (Int.le_of_lt hx)
  have e3 : b * x * z = b * z * x := by rw [Int.mul_assoc, Int.mul_comm x z, ← Int.mul_assoc]
  have e4 : a * y * z = a * z * y := by rw [Int.mul_assoc, Int.mul_comm y z, ← Int.mul_assoc]
  have e5 : c * y * x = c * x * y := by rw [Int.mul_assoc, Int.mul_comm y x, ← Int.mul_assoc]
  have e6 : a * z * y < c * x * y := by omega
  exact Int.lt_of_mul_lt_mul_right e6 (Int.le_of_lt hy)
theorem cross_lt' (a b c x y z : Int) (hx : 0 < x) (hy : 0 < y) (hz : 0 < z) (h1 : a * y ≤ b * x) (h2 : b * z < c * y) : a * z < c * x := by
  have e1 := Int.mul_le_mul_of_nonneg_right h1 (Int.le_of_lt hz)
  have e2 := Int.mul_lt_mul_of_pos_right h2 hx
  have e3 : b * x * z = b * z * x := by rw [Int.mul_assoc, Int.mul_comm x z, ← Int.mul_assoc]
  have e4 : a * y * z = a * z * y := by rw [Int.mul_assoc, Int.mul_comm y z, ← Int.mul_assoc]
  have e5 : c * y * x = c * x * y := by rw [Int.mul_assoc, Int.mul_comm y x, ← Int.mul_assoc]
  have e6 : a * z * y < c * x * y := by omega
  exact Int.lt_of_mul_lt_mul_right e6 (Int.le_of_lt hy)
/-- How three rates may stand. -/
def Stand (x y z : Int) : Prop :=
  (x = -1 ∧ y = -1 ∧ z = -1) ∨ (x = -1 ∧ y = 0 ∧ z = -1) ∨ (x = 0 ∧ y = -1 ∧ z = -1) ∨ (x = 0 ∧ y = 0 ∧ z = 0) ∨ (x = 0 ∧ y = 1 ∧ z = 1) ∨ (x = 1 ∧ y = 0 ∧ z = 1) ∨ (x = 1 ∧ y = 1 ∧ z = 1) ∨
  (x = -1 ∧ y = 1 ∧ z = -1) ∨ (x = -1 ∧ y = 1 ∧ z = 0) ∨ (x = -1 ∧ y = 1 ∧ z = 1) ∨ (x = 1 ∧ y = -1 ∧ z = -1) ∨ (x = 1 ∧ y = -1 ∧ z = 0) ∨ (x = 1 ∧ y = -1 ∧ z = 1)
theorem sgn_cases (a b : Int) : (sgn a b = -1 ∧ a < b) ∨ (sgn a b = 0 ∧ a = b) ∨ (sgn a b = 1 ∧ b < a) := by
  rcases Int.lt_trichotomy a b with h | h | h
  · exact .inl ⟨sgn_lt a b h, h⟩
  · exact .inr (.inl ⟨sgn_eq a b h, h⟩)
  · exact .inr (.inr ⟨sgn_gt a b h, h⟩)
theorem stand (f1 s1 f2 s2 f3 s3 : Int) : Stand (cmpR f1 s1 f2 s2) (cmpR f2 s2 f3 s3) (cmpR f1 s1 f3 s3) := by
  have p1 := szI_pos s1
  have p2 := szI_pos s2
  have p3 := szI_pos s3
  unfold cmpR
  generalize szI s1 = x at *
  generalize szI s2 = y at *
  generalize szI s3 = z at *
  have t1 := cross_le f1 f2 f3 x y z (by omega) (by omega) (by omega)
  have t2 := cross_lt f1 f2 f3 x y z (by omega) (by omega) (by omega)
  have t3 := cross_lt' f1 f2 f3 x y z (by omega) (by omega) (by omega)
  have t4 := cross_le f3 f2 f1 z y x (by omega) (by omega) (by omega)
  have t5 := cross_lt f3 f2 f1 z y x (by omega) (by omega) (by omega)
  have t6 := cross_lt' f3 f2 f1 z y x (by omega) (by omega) (by omega)
  have c1 := sgn_cases (f1 * y) (f2 * x)
  have c2 := sgn_cases (f2 * z) (f3 * y)
  have c3 := sgn_cases (f1 * z) (f3 * x)
  unfold Stand
  generalize sgn (f1 * y) (f2 * x) = a at *
  generalize sgn (f2 * z) (f3 * y) = b at *
  generalize sgn (f1 * z) (f3 * x) = c at *
  generalize f1 * y = A at *
  generalize f2 * x = B at *
  generalize f2 * z = C at *
  generalize f3 * y = D at *
  generalize f1 * z = E at *
  generalize f3 * x = F at *
  rcases c1 with ⟨rfl, h1⟩ | ⟨rfl, h1⟩ | ⟨rfl, h1⟩ <;> rcases c2 with ⟨rfl, h2⟩ | ⟨rfl, h2⟩ | ⟨rfl, h2⟩ <;> rcases c3 with ⟨rfl, h3⟩ | ⟨rfl, h3⟩ | ⟨rfl, h3⟩ <;> first | (simp; done) | (exfalso; omega)
/-- One fee more is more. -/
theorem cmp_more (f s : Int) : cmpR f s (f + 1) s = -1 := by
  unfold cmpR
  have := szI_pos s
  refine sgn_lt _ _ ?_
  rw [Int.add_mul]
  omega
theorem per_more (f : Nat) (s : Int) : perR f s ≤ perR (f + 1) s := by
  unfold perR upN
  have h : (1000 * f + szN s - 1) / szN s ≤ (1000 * (f + 1) + szN s - 1) / szN s := Nat.div_le_div_right (by omega)
  omega
set_option maxRecDepth 100000 in
set_option maxHeartbeats 8000000 in
theorem rateOrder_walk (fa sa fb sb fc sc : Int) (a0 : 0 ≤ fa) (a1 : fa ≤ 18446744073709551615) (b0 : 0 ≤ fb) (b1 : fb ≤ 18446744073709551615) (c0 : 0 ≤ fc) (c1 : fc ≤ 18446744073709551615)
    (a2 : sa ≤ 9223372036854775807) (b2 : sb ≤ 9223372036854775807) (c2 : sc ≤ 9223372036854775807) (w : World) :
    Calls Try.prog 9 #[.agg #[.int .u64 fa, .int .i64 sa], .agg #[.int .u64 fb, .int .i64 sb], .agg #[.int .u64 fc, .int .i64 sc]] w fun e w' => e = .returned (.bool true) ∧ Below w.heap.size w w' := by
  obtain ⟨x, hx⟩ : ∃ x, x = cmpR fa sa fb sb := ⟨_, rfl⟩
  obtain ⟨y, hy⟩ : ∃ x, x = cmpR fb sb fc sc := ⟨_, rfl⟩
  obtain ⟨z, hz⟩ : ∃ x, x = cmpR fa sa fc sc := ⟨_, rfl⟩
  have HS := As.mk (show Stand x y z by rw [hx, hy, hz]; exact stand _ _ _ _ _ _)
  have HX := As.mk hx.symm
  have HY := As.mk hy.symm
  have HZ := As.mk hz.symm
  clear hx hy hz
  have HB : As (Below w.heap.size w w) := ⟨Below.refl _ _⟩
  have hS0 : Rt (((w.alloc (.cells #[.int .u64 fa, .int .i64 sa] 40)).alloc (.cells #[.int .u64 fb, .int .i64 sb] 40)).alloc (.cells #[.int .u64 fc, .int .i64 sc] 40)) w.heap.size fa sa ∧
      Rt (((w.alloc (.cells #[.int .u64 fa, .int .i64 sa] 40)).alloc (.cells #[.int .u64 fb, .int .i64 sb] 40)).alloc (.cells #[.int .u64 fc, .int .i64 sc] 40)) (w.heap.size + 1) fb sb ∧
      Rt (((w.alloc (.cells #[.int .u64 fa, .int .i64 sa] 40)).alloc (.cells #[.int .u64 fb, .int .i64 sb] 40)).alloc (.cells #[.int .u64 fc, .int .i64 sc] 40)) (w.heap.size + 1 + 1) fc sc := by
    refine ⟨Rt.alloc (Rt.alloc (Rt.new w fa sa) _) _, Rt.alloc ?_ _, ?_⟩
    · have := Rt.new (w.alloc (.cells #[.int .u64 fa, .int .i64 sa] 40)) fb sb
      simpa using this
    · have := Rt.new ((w.alloc (.cells #[.int .u64 fa, .int .i64 sa] 40)).alloc (.cells #[.int .u64 fb, .int .i64 sb] 40)) fc sc
      simpa using this
  have HS0 := As.mk hS0
  clear hS0
  go_enter Try.func9, Try.ntmps9
  go_upto_region 1 with (fail)
  have HB2 : As (Below w.heap.size w (((w.alloc (.cells #[.int .u64 fa, .int .i64 sa] 40)).alloc (.cells #[.int .u64 fb, .int .i64 sb] 40)).alloc (.cells #[.int .u64 fc, .int .i64 sc] 40)).drew) := ⟨((((HB.out.alloc HB.out.size _).alloc (by simp) _).alloc (by simp; omega) _)).drew⟩
  clear HB
  have HB := HB2
  clear HB2
  refine wp_region_held_drew (S := (fun W : World => Rt W w.heap.size fa sa ∧ Rt W (w.heap.size + 1) fb sb ∧ Rt W (w.heap.size + 1 + 1) fc sc)) (by kernel_rfl) ?_ (fun hHeld => ?_)
  · exact ⟨HS0.out.1.drew, HS0.out.2.1.drew, HS0.out.2.2.drew⟩
  refine wpAnyH_take (i := 0) (oi := ?_) (v := ?_) (by simp only [List.getElem?_toArray, List.getElem?_cons_zero, List.getElem?_cons_succ]; rfl) (by kernel_rfl) (by kernel_rfl) (by kernel_rfl) (by exact fun _ _ _ h => h) (Or.inl ⟨by rfl, ?_⟩) (by assumption) ?_
  rotate_left
  · (intro w hSw; (try dsimp only at hSw); obtain ⟨hSx, hSy, hSz⟩ := hSw; obtain ⟨sx0, sx1, -, -⟩ := hSx.cells; obtain ⟨sy0, sy1, -, -⟩ := hSy.cells; obtain ⟨sz0, sz1, -, -⟩ := hSz.cells; clear hSx hSy hSz; go_simp; first | done | with_reducible rfl)
  try simp only [Act.put, List.setIfInBounds_toArray, List.set_cons_zero, List.set_cons_succ]
  refine wpAnyH_take (i := 1) (oi := ?_) (v := ?_) (by simp only [List.getElem?_toArray, List.getElem?_cons_zero, List.getElem?_cons_succ]; rfl) (by kernel_rfl) (by kernel_rfl) (by kernel_rfl) (by exact fun _ _ _ h => h) (Or.inl ⟨by rfl, ?_⟩) (by assumption) ?_
  rotate_left
  · (intro w hSw; (try dsimp only at hSw); obtain ⟨hSx, hSy, hSz⟩ := hSw; obtain ⟨sx0, sx1, -, -⟩ := hSx.cells; obtain ⟨sy0, sy1, -, -⟩ := hSy.cells; obtain ⟨sz0, sz1, -, -⟩ := hSz.cells; clear hSx hSy hSz; go_simp; first | done | with_reducible rfl)
  try simp only [Act.put, List.setIfInBounds_toArray, List.set_cons_zero, List.set_cons_succ]
  refine wpAnyH_take (i := 3) (oi := ?_) (v := ?_) (by simp only [List.getElem?_toArray, List.getElem?_cons_zero, List.getElem?_cons_succ]; rfl) (by kernel_rfl) (by kernel_rfl) (by kernel_rfl) (by exact fun _ _ _ h => h) (Or.inl ⟨by rfl, ?_⟩) (by assumption) ?_
  rotate_left
  · (intro w hSw; (try dsimp only at hSw); obtain ⟨hSx, hSy, hSz⟩ := hSw; obtain ⟨sx0, sx1, -, -⟩ := hSx.cells; obtain ⟨sy0, sy1, -, -⟩ := hSy.cells; obtain ⟨sz0, sz1, -, -⟩ := hSz.cells; clear hSx hSy hSz; go_simp; first | done | with_reducible rfl)
  try simp only [Act.put, List.setIfInBounds_toArray, List.set_cons_zero, List.set_cons_succ]
  refine wpAnyH_take (i := 4) (oi := ?_) (v := ?_) (by simp only [List.getElem?_toArray, List.getElem?_cons_zero, List.getElem?_cons_succ]; rfl) (by kernel_rfl) (by kernel_rfl) (by kernel_rfl) (by exact fun _ _ _ h => h) (Or.inl ⟨by rfl, ?_⟩) (by assumption) ?_
  rotate_left
  · (intro w hSw; (try dsimp only at hSw); obtain ⟨hSx, hSy, hSz⟩ := hSw; obtain ⟨sx0, sx1, -, -⟩ := hSx.cells; obtain ⟨sy0, sy1, -, -⟩ := hSy.cells; obtain ⟨sz0, sz1, -, -⟩ := hSz.cells; clear hSx hSy hSz; go_simp; first | done | with_reducible rfl)
  try simp only [Act.put, List.setIfInBounds_toArray, List.set_cons_zero, List.set_cons_succ]
  refine wpAnyH_take (i := 6) (oi := ?_) (v := ?_) (by simp only [List.getElem?_toArray, List.getElem?_cons_zero, List.getElem?_cons_succ]; rfl) (by kernel_rfl) (by kernel_rfl) (by kernel_rfl) (by exact fun _ _ _ h => h) (Or.inl ⟨by rfl, ?_⟩) (by assumption) ?_
  rotate_left
  · (intro w hSw; (try dsimp only at hSw); obtain ⟨hSx, hSy, hSz⟩ := hSw; obtain ⟨sx0, sx1, -, -⟩ := hSx.cells; obtain ⟨sy0, sy1, -, -⟩ := hSy.cells; obtain ⟨sz0, sz1, -, -⟩ := hSz.cells; clear hSx hSy hSz; go_simp; first | done | with_reducible rfl)
  try simp only [Act.put, List.setIfInBounds_toArray, List.set_cons_zero, List.set_cons_succ]
  refine wpAnyH_take (i := 7) (oi := ?_) (v := ?_) (by simp only [List.getElem?_toArray, List.getElem?_cons_zero, List.getElem?_cons_succ]; rfl) (by kernel_rfl) (by kernel_rfl) (by kernel_rfl) (by exact fun _ _ _ h => h) (Or.inl ⟨by rfl, ?_⟩) (by assumption) ?_
  rotate_left
  · (intro w hSw; (try dsimp only at hSw); obtain ⟨hSx, hSy, hSz⟩ := hSw; obtain ⟨sx0, sx1, -, -⟩ := hSx.cells; obtain ⟨sy0, sy1, -, -⟩ := hSy.cells; obtain ⟨sz0, sz1, -, -⟩ := hSz.cells; clear hSx hSy hSz; go_simp; first | done | with_reducible rfl)
  try simp only [Act.put, List.setIfInBounds_toArray, List.set_cons_zero, List.set_cons_succ]
  refine wpAnyH_ready (rs := [2]) (by kernel_rfl) (by simp) ?_
  refine AllReadyH.cons (o := ?_) (by simp only [List.getElem?_toArray, List.getElem?_cons_zero, List.getElem?_cons_succ]; rfl) (fun K hK => ?_) ?_
  · go_simp
    refine (compare_to fa sa fb sb x HX.out (by omega) (by omega) (by omega) (by omega) (by omega) (by omega) _).mono ?_
    rintro e w5 ⟨rfl, hb⟩
    have HB2 := As.mk (HB.out.trans (hb.mono HB.out.size))
    have hS2 := And.intro (hHeld.1.below hb) (And.intro (hHeld.2.1.below hb) (hHeld.2.2.below hb))
    clear hb HB
    have HB := HB2
    clear HB2
    dsimp only
    refine hK.out _ _ ?_ (fun hHeld2 => ?_)
    · exact hS2
    clear hK K hHeld
    have hHeld := hHeld2
    clear hHeld2
    try simp only [Act.put, List.setIfInBounds_toArray, List.set_cons_zero, List.set_cons_succ]
    refine wpAnyH_ready (rs := [5]) (by kernel_rfl) (by simp) ?_
    refine AllReadyH.cons (o := ?_) (by simp only [List.getElem?_toArray, List.getElem?_cons_zero, List.getElem?_cons_succ]; rfl) (fun K hK => ?_) ?_
    · go_simp
      refine (compare_to fb sb fc sc y HY.out (by omega) (by omega) (by omega) (by omega) (by omega) (by omega) _).mono ?_
      rintro e w5 ⟨rfl, hb⟩
      have HB2 := As.mk (HB.out.trans (hb.mono HB.out.size))
      have hS2 := And.intro (hHeld.1.below hb) (And.intro (hHeld.2.1.below hb) (hHeld.2.2.below hb))
      clear hb HB
      have HB := HB2
      clear HB2
      dsimp only
      refine hK.out _ _ ?_ (fun hHeld2 => ?_)
      · exact hS2
      clear hK K hHeld
      have hHeld := hHeld2
      clear hHeld2
      try simp only [Act.put, List.setIfInBounds_toArray, List.set_cons_zero, List.set_cons_succ]
      refine wpAnyH_ready (rs := [8]) (by kernel_rfl) (by simp) ?_
      refine AllReadyH.cons (o := ?_) (by simp only [List.getElem?_toArray, List.getElem?_cons_zero, List.getElem?_cons_succ]; rfl) (fun K hK => ?_) ?_
      · go_simp
        refine (compare_to fa sa fc sc z HZ.out (by omega) (by omega) (by omega) (by omega) (by omega) (by omega) _).mono ?_
        rintro e w5 ⟨rfl, hb⟩
        have HB2 := As.mk (HB.out.trans (hb.mono HB.out.size))
        have hS2 := And.intro (hHeld.1.below hb) (And.intro (hHeld.2.1.below hb) (hHeld.2.2.below hb))
        clear hb HB
        have HB := HB2
        clear HB2
        dsimp only
        refine hK.out _ _ ?_ (fun hHeld2 => ?_)
        · exact hS2
        clear hK K hHeld
        have hHeld := hHeld2
        clear hHeld2
        try simp only [Act.put, List.setIfInBounds_toArray, List.set_cons_zero, List.set_cons_succ]
        refine wpAnyH_take (i := 9) (oi := ?_) (v := ?_) (by simp only [List.getElem?_toArray, List.getElem?_cons_zero, List.getElem?_cons_succ]; rfl) (by kernel_rfl) (by kernel_rfl) (by kernel_rfl) (by exact fun _ _ _ h => h) (Or.inl ⟨by rfl, ?_⟩) (by assumption) ?_
        rotate_left
        · (intro w hSw; (try dsimp only at hSw); obtain ⟨hSx, hSy, hSz⟩ := hSw; obtain ⟨sx0, sx1, -, -⟩ := hSx.cells; obtain ⟨sy0, sy1, -, -⟩ := hSy.cells; obtain ⟨sz0, sz1, -, -⟩ := hSz.cells; clear hSx hSy hSz; go_simp; first | done | with_reducible rfl)
        try simp only [Act.put, List.setIfInBounds_toArray, List.set_cons_zero, List.set_cons_succ]
        refine wpAnyH_take (i := 10) (oi := ?_) (v := ?_) (by simp only [List.getElem?_toArray, List.getElem?_cons_zero, List.getElem?_cons_succ]; rfl) (by kernel_rfl) (by kernel_rfl) (by kernel_rfl) (by exact fun _ _ _ h => h) (Or.inl ⟨by rfl, ?_⟩) (by assumption) ?_
        rotate_left
        · (intro w hSw; (try dsimp only at hSw); obtain ⟨hSx, hSy, hSz⟩ := hSw; obtain ⟨sx0, sx1, -, -⟩ := hSx.cells; obtain ⟨sy0, sy1, -, -⟩ := hSy.cells; obtain ⟨sz0, sz1, -, -⟩ := hSz.cells; clear hSx hSy hSz; go_simp; first | done | with_reducible rfl)
        try simp only [Act.put, List.setIfInBounds_toArray, List.set_cons_zero, List.set_cons_succ]
        refine wpAnyH_take (i := 11) (oi := ?_) (v := ?_) (by simp only [List.getElem?_toArray, List.getElem?_cons_zero, List.getElem?_cons_succ]; rfl) (by kernel_rfl) (by kernel_rfl) (by kernel_rfl) (by exact fun _ _ _ h => h) (Or.inl ⟨by rfl, ?_⟩) (by assumption) ?_
        rotate_left
        · (intro w hSw; (try dsimp only at hSw); obtain ⟨hSx, hSy, hSz⟩ := hSw; obtain ⟨sx0, sx1, -, -⟩ := hSx.cells; obtain ⟨sy0, sy1, -, -⟩ := hSy.cells; obtain ⟨sz0, sz1, -, -⟩ := hSz.cells; clear hSx hSy hSz; go_simp; first | done | with_reducible rfl)
        try simp only [Act.put, List.setIfInBounds_toArray, List.set_cons_zero, List.set_cons_succ]
        refine wpAnyH_done (by kernel_rfl) ?_ _
        have HRA := As.mk hHeld.1
        clear hHeld HS0
        go_upto_region 2 with (fail)
        go_cut [65] (fun v65 wc => v65 = .bool false ∧ w5 = wc)
        case first =>
          have hs := HS.out
          unfold Stand at hs
          clear HS HX HY HZ
          rcases hs with ⟨rfl, rfl, rfl⟩ | ⟨rfl, rfl, rfl⟩ | ⟨rfl, rfl, rfl⟩ | ⟨rfl, rfl, rfl⟩ | ⟨rfl, rfl, rfl⟩ | ⟨rfl, rfl, rfl⟩ | ⟨rfl, rfl, rfl⟩ | ⟨rfl, rfl, rfl⟩ | ⟨rfl, rfl, rfl⟩ | ⟨rfl, rfl, rfl⟩ | ⟨rfl, rfl, rfl⟩ | ⟨rfl, rfl, rfl⟩ | ⟨rfl, rfl, rfl⟩
          all_goals
            go_wp2_with fail
            go_meet
            exact ⟨rfl, rfl⟩
        case rest =>
          obtain ⟨rfl, rfl⟩ := hcut
          obtain ⟨p0, p1, -, -⟩ := HRA.out.cells
          have hpl := HB.out.size
          by_cases k : fa < 18446744073709551615
          · obtain ⟨q1, hq1⟩ : ∃ q : Int, q = (perR fa.toNat sa : Int) := ⟨_, rfl⟩
            obtain ⟨q2, hq2⟩ : ∃ q : Int, q = (perR (fa + 1).toNat sa : Int) := ⟨_, rfl⟩
            have hq : q1 ≤ q2 := by
              have := per_more fa.toNat sa
              rw [hq1, hq2, show (fa + 1).toNat = fa.toNat + 1 by omega]
              omega
            have HQ1 := As.mk hq1.symm
            have HQ2 := As.mk hq2.symm
            have HK := As.mk k
            clear hq1 hq2
            go_upto_region 7 with (fail)
            have hD : As (Rt (w5.alloc (.cells #[.int .u64 (fa + 1), .int .i64 sa] 40)) w5.heap.size (fa + 1) sa) := ⟨Rt.new _ _ _⟩
            have hR : As (Rt (w5.alloc (.cells #[.int .u64 (fa + 1), .int .i64 sa] 40)) w.heap.size fa sa) := ⟨HRA.out.alloc _⟩
            have HB2 : As (Below w.heap.size w (w5.alloc (.cells #[.int .u64 (fa + 1), .int .i64 sa] 40)).drew) := ⟨(HB.out.alloc HB.out.size _).drew⟩
            clear HB HRA p0 p1
            have HB := HB2
            clear HB2
            go_cut [84] (fun v84 wc => v84 = .bool false ∧ As (Below w.heap.size w wc))
            case first =>
              refine wp_region_held_drew (S := (fun W : World => Rt W w.heap.size fa sa ∧ Rt W w5.heap.size (fa + 1) sa)) (by kernel_rfl) ?_ (fun hHeld => ?_)
              · exact ⟨hR.out.drew, hD.out.drew⟩
              refine wpAnyH_take (i := 0) (oi := ?_) (v := ?_) (by simp only [List.getElem?_toArray, List.getElem?_cons_zero, List.getElem?_cons_succ]; rfl) (by kernel_rfl) (by kernel_rfl) (by kernel_rfl) (by exact fun _ _ _ h => h) (Or.inl ⟨by rfl, ?_⟩) (by assumption) ?_
              rotate_left
              · (intro w hSw; (try dsimp only at hSw); obtain ⟨hSx, hSy⟩ := hSw; obtain ⟨sx0, sx1, -, -⟩ := hSx.cells; obtain ⟨sy0, sy1, -, -⟩ := hSy.cells; clear hSx hSy; go_simp; first | done | with_reducible rfl)
              try simp only [Act.put, List.setIfInBounds_toArray, List.set_cons_zero, List.set_cons_succ]
              refine wpAnyH_take (i := 1) (oi := ?_) (v := ?_) (by simp only [List.getElem?_toArray, List.getElem?_cons_zero, List.getElem?_cons_succ]; rfl) (by kernel_rfl) (by kernel_rfl) (by kernel_rfl) (by exact fun _ _ _ h => h) (Or.inl ⟨by rfl, ?_⟩) (by assumption) ?_
              rotate_left
              · (intro w hSw; (try dsimp only at hSw); obtain ⟨hSx, hSy⟩ := hSw; obtain ⟨sx0, sx1, -, -⟩ := hSx.cells; obtain ⟨sy0, sy1, -, -⟩ := hSy.cells; clear hSx hSy; go_simp; first | done | with_reducible rfl)
              try simp only [Act.put, List.setIfInBounds_toArray, List.set_cons_zero, List.set_cons_succ]
              refine wpAnyH_ready (rs := [2]) (by kernel_rfl) (by simp) ?_
              refine AllReadyH.cons (o := ?_) (by simp only [List.getElem?_toArray, List.getElem?_cons_zero, List.getElem?_cons_succ]; rfl) (fun K hK => ?_) ?_
              · go_simp
                refine (compare_to fa sa (fa + 1) sa (-1) (cmp_more fa sa) (by omega) (by omega) (by omega) (by omega) (by omega) (by omega) _).mono ?_
                rintro e w6 ⟨rfl, hb⟩
                have HB2 := As.mk (HB.out.trans (hb.mono HB.out.size))
                have hS2 := And.intro (hHeld.1.below hb) (hHeld.2.below hb)
                clear hb HB
                have HB := HB2
                clear HB2
                dsimp only
                refine hK.out _ _ ?_ (fun hHeld2 => ?_)
                · exact hS2
                clear hK K hHeld
                have hHeld := hHeld2
                clear hHeld2
                try simp only [Act.put, List.setIfInBounds_toArray, List.set_cons_zero, List.set_cons_succ]
                refine wpAnyH_take (i := 3) (oi := ?_) (v := ?_) (by simp only [List.getElem?_toArray, List.getElem?_cons_zero, List.getElem?_cons_succ]; rfl) (by kernel_rfl) (by kernel_rfl) (by kernel_rfl) (by exact fun _ _ _ h => h) (Or.inl ⟨by rfl, ?_⟩) (by assumption) ?_
                rotate_left
                · (intro w hSw; (try dsimp only at hSw); obtain ⟨hSx, hSy⟩ := hSw; obtain ⟨sx0, sx1, -, -⟩ := hSx.cells; obtain ⟨sy0, sy1, -, -⟩ := hSy.cells; clear hSx hSy; go_simp; first | done | with_reducible rfl)
                try simp only [Act.put, List.setIfInBounds_toArray, List.set_cons_zero, List.set_cons_succ]
                refine wpAnyH_take (i := 4) (oi := ?_) (v := ?_) (by simp only [List.getElem?_toArray, List.getElem?_cons_zero, List.getElem?_cons_succ]; rfl) (by kernel_rfl) (by kernel_rfl) (by kernel_rfl) (by exact fun _ _ _ h => h) (Or.inl ⟨by rfl, ?_⟩) (by assumption) ?_
                rotate_left
                · (intro w hSw; (try dsimp only at hSw); obtain ⟨hSx, hSy⟩ := hSw; obtain ⟨sx0, sx1, -, -⟩ := hSx.cells; obtain ⟨sy0, sy1, -, -⟩ := hSy.cells; clear hSx hSy; go_simp; first | done | with_reducible rfl)
                try simp only [Act.put, List.setIfInBounds_toArray, List.set_cons_zero, List.set_cons_succ]
                refine wpAnyH_take (i := 5) (oi := ?_) (v := ?_) (by simp only [List.getElem?_toArray, List.getElem?_cons_zero, List.getElem?_cons_succ]; rfl) (by kernel_rfl) (by kernel_rfl) (by kernel_rfl) (by exact fun _ _ _ h => h) (Or.inl ⟨by rfl, ?_⟩) (by assumption) ?_
                rotate_left
                · (intro w hSw; (try dsimp only at hSw); obtain ⟨hSx, hSy⟩ := hSw; obtain ⟨sx0, sx1, -, -⟩ := hSx.cells; obtain ⟨sy0, sy1, -, -⟩ := hSy.cells; clear hSx hSy; go_simp; first | done | with_reducible rfl)
                try simp only [Act.put, List.setIfInBounds_toArray, List.set_cons_zero, List.set_cons_succ]
                refine wpAnyH_take (i := 7) (oi := ?_) (v := ?_) (by simp only [List.getElem?_toArray, List.getElem?_cons_zero, List.getElem?_cons_succ]; rfl) (by kernel_rfl) (by kernel_rfl) (by kernel_rfl) (by exact fun _ _ _ h => h) (Or.inl ⟨by rfl, ?_⟩) (by assumption) ?_
                rotate_left
                · (intro w hSw; (try dsimp only at hSw); obtain ⟨hSx, hSy⟩ := hSw; obtain ⟨sx0, sx1, -, -⟩ := hSx.cells; obtain ⟨sy0, sy1, -, -⟩ := hSy.cells; clear hSx hSy; go_simp; first | done | with_reducible rfl)
                try simp only [Act.put, List.setIfInBounds_toArray, List.set_cons_zero, List.set_cons_succ]
                refine wpAnyH_ready (rs := [6]) (by kernel_rfl) (by simp) ?_
                refine AllReadyH.cons (o := ?_) (by simp only [List.getElem?_toArray, List.getElem?_cons_zero, List.getElem?_cons_succ]; rfl) (fun K hK => ?_) ?_
                · go_simp
                  refine (per_to (fa + 1) sa q2 HQ2.out (by omega) (by omega) (by omega) _).mono ?_
                  rintro e w6 ⟨rfl, hb⟩
                  have HB2 := As.mk (HB.out.trans (hb.mono HB.out.size))
                  have hS2 := And.intro (hHeld.1.below hb) (hHeld.2.below hb)
                  clear hb HB
                  have HB := HB2
                  clear HB2
                  dsimp only
                  refine hK.out _ _ ?_ (fun hHeld2 => ?_)
                  · exact hS2
                  clear hK K hHeld
                  have hHeld := hHeld2
                  clear hHeld2
                  try simp only [Act.put, List.setIfInBounds_toArray, List.set_cons_zero, List.set_cons_succ]
                  refine wpAnyH_ready (rs := [8]) (by kernel_rfl) (by simp) ?_
                  refine AllReadyH.cons (o := ?_) (by simp only [List.getElem?_toArray, List.getElem?_cons_zero, List.getElem?_cons_succ]; rfl) (fun K hK => ?_) ?_
                  · go_simp
                    refine (per_to fa sa q1 HQ1.out (by omega) (by omega) (by omega) _).mono ?_
                    rintro e w6 ⟨rfl, hb⟩
                    have HB2 := As.mk (HB.out.trans (hb.mono HB.out.size))
                    have hS2 := And.intro (hHeld.1.below hb) (hHeld.2.below hb)
                    clear hb HB
                    have HB := HB2
                    clear HB2
                    dsimp only
                    refine hK.out _ _ ?_ (fun hHeld2 => ?_)
                    · exact hS2
                    clear hK K hHeld
                    have hHeld := hHeld2
                    clear hHeld2
                    try simp only [Act.put, List.setIfInBounds_toArray, List.set_cons_zero, List.set_cons_succ]
                    refine wpAnyH_take (i := 9) (oi := ?_) (v := ?_) (by simp only [List.getElem?_toArray, List.getElem?_cons_zero, List.getElem?_cons_succ]; rfl) (by kernel_rfl) (by kernel_rfl) (by kernel_rfl) (by exact fun _ _ _ h => h) (Or.inl ⟨by rfl, ?_⟩) (by assumption) ?_
                    rotate_left
                    · (intro w hSw; (try dsimp only at hSw); obtain ⟨hSx, hSy⟩ := hSw; obtain ⟨sx0, sx1, -, -⟩ := hSx.cells; obtain ⟨sy0, sy1, -, -⟩ := hSy.cells; clear hSx hSy; go_simp; first | done | with_reducible rfl)
                    try simp only [Act.put, List.setIfInBounds_toArray, List.set_cons_zero, List.set_cons_succ]
                    refine wpAnyH_take (i := 10) (oi := ?_) (v := ?_) (by simp only [List.getElem?_toArray, List.getElem?_cons_zero, List.getElem?_cons_succ]; rfl) (by kernel_rfl) (by kernel_rfl) (by kernel_rfl) (by exact fun _ _ _ h => h) (Or.inl ⟨by rfl, ?_⟩) (by assumption) ?_
                    rotate_left
                    · (intro w hSw; (try dsimp only at hSw); obtain ⟨hSx, hSy⟩ := hSw; obtain ⟨sx0, sx1, -, -⟩ := hSx.cells; obtain ⟨sy0, sy1, -, -⟩ := hSy.cells; clear hSx hSy; go_simp; first | done | with_reducible rfl)
                    try simp only [Act.put, List.setIfInBounds_toArray, List.set_cons_zero, List.set_cons_succ]
                    refine wpAnyH_done (by kernel_rfl) ?_ _
                    go_wp2_with fail
                    go_meet
                    exact ⟨congrArg Value.bool (decide_eq_false (by omega)), HB⟩
                  exact AllReadyH.nil
                exact AllReadyH.nil
              exact AllReadyH.nil
            case rest =>
              obtain ⟨rfl, HBc⟩ := hcut
              go_wp2_with (go_at_call 21; (with_reducible refine (awake7_any _).mono ?_); rintro e w' ⟨rfl, hb⟩; have HBa := As.mk hb; clear hb)
              go_ret
              exact ⟨rfl, HBc.out.trans (HBa.out.mono HBc.out.size)⟩
          · go_wp2_with (go_at_call 21; (with_reducible refine (awake7_any _).mono ?_); rintro e w' ⟨rfl, hb⟩; have HBa := As.mk hb; clear hb)
            go_ret
            exact ⟨rfl, ((HB.out.alloc HB.out.size _)).trans (HBa.out.mono (by have := HB.out.size; simp; omega))⟩
      exact AllReadyH.nil
    exact AllReadyH.nil
  exact AllReadyH.nil
theorem rateOrder_row (fa sa : Int) (w0 : (Lit.int .u64 fa).wf = true) (w1 : (Lit.int .i64 sa).wf = true) (fb sb : Int) (w2 : (Lit.int .u64 fb).wf = true) (w3 : (Lit.int .i64 sb).wf = true) (fc sc : Int) (w4 : (Lit.int .u64 fc).wf = true) (w5 : (Lit.int .i64 sc).wf = true) (w : World) :
    Calls Try.prog 9 #[.agg #[.int .u64 fa, .int .i64 sa], .agg #[.int .u64 fb, .int .i64 sb], .agg #[.int .u64 fc, .int .i64 sc]] w fun e w' => e = .returned (.bool true) ∧ Below w.heap.size w w' :=
  rateOrder_walk fa sa fb sb fc sc (bounds_u64 w0).1 (bounds_u64 w0).2 (bounds_u64 w2).1 (bounds_u64 w2).2 (bounds_u64 w4).1 (bounds_u64 w4).2 (bounds_i64 w1).2 (bounds_i64 w3).2 (bounds_i64 w5).2 w
end Go.Proofs.Ytfbfdmgnicgalaa.W
