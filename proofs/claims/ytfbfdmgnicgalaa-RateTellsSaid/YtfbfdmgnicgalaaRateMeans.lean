/- What one needs for a size at a rate is enough and one less is not; two rates taken together stand between them: the walk of RateMeans. -/
import Derived.Test.YtfbfdmgnicgalaaR8
set_option linter.unusedVariables false
set_option linter.unusedSimpArgs false
namespace Go.Proofs.Ytfbfdmgnicgalaa.W
open Go.RowKit Go.Proofs.Ytfbfdmgnicgalaa.B Go.Proofs

theorem i64_mask (n m : Int) (k : Nat) (h : (BitVec.ofInt 64 m).toNat = 2 ^ k - 1) (hk : k ≤ 62) : bits .and .i64 n m = n % 2 ^ k := by
  have key : (BitVec.ofInt 64 n &&& BitVec.ofInt 64 m).toNat = (n % ((2 ^ 64 : Nat) : Int)).toNat % 2 ^ k := by
    rw [BitVec.toNat_and, BitVec.toNat_ofInt, h, Nat.and_two_pow_sub_one_eq_mod]
  show IntKind.i64.wrap ((BitVec.ofInt 64 n &&& BitVec.ofInt 64 m).toNat : Nat) = n % 2 ^ k
  have hle : (2 : Nat) ^ k ≤ 2 ^ 62 := Nat.pow_le_pow_right (by decide) hk
  have hlt : (n % ((2 ^ 64 : Nat) : Int)).toNat % 2 ^ k < 2 ^ k := Nat.mod_lt _ (Nat.two_pow_pos k)
  have hd : (2 : Int) ^ k ∣ ((2 ^ 64 : Nat) : Int) := by
    have : (2 ^ 64 : Nat) = 2 ^ k * 2 ^ (64 - k) := by rw [← Nat.pow_add]; congr 1; omega
    exact ⟨2 ^ (64 - k), by rw [this]; simp⟩
  rw [key, IntWalk.i64_in _ (by omega)]
  rw [Int.natCast_emod, Int.toNat_of_nonneg (Int.emod_nonneg _ (by decide))]
  rw [show ((2 ^ k : Nat) : Int) = 2 ^ k by simp]
  exact Int.emod_emod_of_dvd n hd
theorem u64_mask (n m : Int) (k : Nat) (h : (BitVec.ofInt 64 m).toNat = 2 ^ k - 1) (hk : k ≤ 62) : bits .and .u64 n m = n % 2 ^ k := by
  have key : (BitVec.ofInt 64 n &&& BitVec.ofInt 64 m).toNat = (n % ((2 ^ 64 : Nat) : Int)).toNat % 2 ^ k := by
    rw [BitVec.toNat_and, BitVec.toNat_ofInt, h, Nat.and_two_pow_sub_one_eq_mod]
  show IntKind.u64.wrap ((BitVec.ofInt 64 n &&& BitVec.ofInt 64 m).toNat : Nat) = n % 2 ^ k
  have hle : (2 : Nat) ^ k ≤ 2 ^ 62 := Nat.pow_le_pow_right (by decide) hk
  have hlt : (n % ((2 ^ 64 : Nat) : Int)).toNat % 2 ^ k < 2 ^ k := Nat.mod_lt _ (Nat.two_pow_pos k)
  have hd : (2 : Int) ^ k ∣ ((2 ^ 64 : Nat) : Int) := by
    have : (2 ^ 64 : Nat) = 2 ^ k * 2 ^ (64 - k) := by rw [← Nat.pow_add]; congr 1; omega
    exact ⟨2 ^ (64 - k), by rw [this]; simp⟩
  rw [key, IntWalk.u64_in _ (by omega)]
  rw [Int.natCast_emod, Int.toNat_of_nonneg (Int.emod_nonneg _ (by decide))]
  rw [show ((2 ^ k : Nat) : Int) = 2 ^ k by simp]
  exact Int.emod_emod_of_dvd n hd
theorem cmpR_pos (f1 s1 f2 s2 : Int) (h1 : 1 ≤ s1) (h2 : 1 ≤ s2) : cmpR f1 s1 f2 s2 = sgn (f1 * s2) (f2 * s1) := by
  unfold cmpR szI
  rw [if_neg (by omega), if_neg (by omega)]
theorem sgn_lt (a b : Int) (h : a < b) : sgn a b = -1 := by unfold sgn; rw [if_pos h]
theorem sgn_eq (a b : Int) (h : a = b) : sgn a b = 0 := by unfold sgn; rw [if_neg (by omega), if_neg (by omega)]
theorem sgn_gt (a b : Int) (h : b < a) : sgn a b = 1 := by unfold sgn; rw [if_neg (by omega), if_pos h]
/-- What a size needs where all is small. -/
theorem need_small (p z : Int) (hp : 1 ≤ p) (hp1 : p ≤ 1048576) (hz : 1 ≤ z) (hz1 : z ≤ 65536) :
    ∃ N : Int, (needR p.toNat z : Int) = N ∧ 1 ≤ N ∧ N ≤ 68719476736 ∧ p * z ≤ N * 1000 ∧ (N - 1) * 1000 < p * z := by
  obtain ⟨a, rfl⟩ := Int.eq_ofNat_of_zero_le (show 0 ≤ p by omega)
  obtain ⟨b, rfl⟩ := Int.eq_ofNat_of_zero_le (show 0 ≤ z by omega)
  have hn : needN (b : Int) = b := by unfold needN; rw [if_neg (by omega), if_neg (by omega)]; rfl
  refine ⟨_, rfl, ?_⟩
  unfold needR upN
  rw [hn, Int.toNat_natCast]
  have h1 : a * b ≤ 1048576 * 65536 := Nat.mul_le_mul (by omega) (by omega)
  have h2 : 1 ≤ a * b := Nat.mul_pos (by omega) (by omega)
  have h3 : ((a : Int) * b) = ((a * b : Nat) : Int) := by simp
  rw [h3]
  generalize a * b = q at *
  omega
/-- Two rates taken together stand between them. -/
theorem between (f1 s1 f2 s2 : Int) (h1 : 1 ≤ s1) (h2 : 1 ≤ s2) (h : f1 * s2 ≤ f2 * s1) : ∃ r : Int, (r = 0 ∨ r = -1) ∧ cmpR f1 s1 f2 s2 = r ∧ cmpR f1 s1 (f1 + f2) (s1 + s2) = r ∧ cmpR (f1 + f2) (s1 + s2) f2 s2 = r := by
  have e1 : f1 * (s1 + s2) = f1 * s1 + f1 * s2 := Int.mul_add _ _ _
  have e2 : (f1 + f2) * s1 = f1 * s1 + f2 * s1 := Int.add_mul _ _ _
  have e3 : (f1 + f2) * s2 = f1 * s2 + f2 * s2 := Int.add_mul _ _ _
  have e4 : f2 * (s1 + s2) = f2 * s1 + f2 * s2 := Int.mul_add _ _ _
  rcases Int.lt_or_le (f1 * s2) (f2 * s1) with hl | hl
  · refine ⟨-1, .inr rfl, ?_, ?_, ?_⟩
    · rw [cmpR_pos _ _ _ _ h1 h2]; exact sgn_lt _ _ hl
    · rw [cmpR_pos _ _ _ _ h1 (by omega)]; exact sgn_lt _ _ (by omega)
    · rw [cmpR_pos _ _ _ _ (by omega) h2]; exact sgn_lt _ _ (by omega)
  · refine ⟨0, .inl rfl, ?_, ?_, ?_⟩
    · rw [cmpR_pos _ _ _ _ h1 h2]; exact sgn_eq _ _ (by omega)
    · rw [cmpR_pos _ _ _ _ h1 (by omega)]; exact sgn_eq _ _ (by omega)
    · rw [cmpR_pos _ _ _ _ (by omega) h2]; exact sgn_eq _ _ (by omega)
theorem blk_below {w w' : World} {B : Nat} {o : Obj} (h : w.heap[B]? = some o) (hb : Below w.heap.size w w') : w'.heap[B]? = some o := by
  rw [hb.block B (Array.getElem?_eq_some_iff.1 h).1]; exact h
theorem blk_lt {w : World} {B : Nat} {o : Obj} (h : w.heap[B]? = some o) : B < w.heap.size := (Array.getElem?_eq_some_iff.1 h).1
/-- A rate that lies in a block. -/
def Rt (w : World) (B : Nat) (f s : Int) : Prop := w.heap[B]? = some (.cells #[.int .u64 f, .int .i64 s] 40 (0, 0))
theorem Rt.below {w w' : World} {B : Nat} {f s : Int} (h : Rt w B f s) (hb : Below w.heap.size w w') : Rt w' B f s := blk_below h hb
theorem Rt.alloc {w : World} {B : Nat} {f s : Int} (h : Rt w B f s) (o : Obj) : Rt (w.alloc o) B f s := blk_below h ((Below.refl _ _).alloc (Nat.le_refl _) o)
theorem Rt.new (w : World) (f s : Int) : Rt (w.alloc (.cells #[.int .u64 f, .int .i64 s] 40)) w.heap.size f s := heap_alloc_new w _
theorem Rt.cells {w : World} {B : Nat} {f s : Int} (h : Rt w B f s) : w.cell? ⟨B, 0, none⟩ = some (.int .u64 f) ∧ w.cell? ⟨B, 1, none⟩ = some (.int .i64 s) ∧ w.frozen? ⟨B, 0, none⟩ = false ∧ w.frozen? ⟨B, 1, none⟩ = false := two_cell h
theorem Rt.lt {w : World} {B : Nat} {f s : Int} (h : Rt w B f s) : B < w.heap.size := blk_lt h
theorem Rt.other {w : World} {B C : Nat} {f s : Int} (h : Rt w B f s) (hne : B ≠ C) (o : Nat) (u : Value) : Rt (w.setCell ⟨C, o, none⟩ u) B f s := by
  unfold Rt
  rw [Below.heap_setCell _ _ _ _ hne]
  exact h
theorem Rt.set {w : World} {B : Nat} {f s : Int} (h : Rt w B f s) (f' s' : Int) : Rt ((w.setCell ⟨B, 0, none⟩ (.int .u64 f')).setCell ⟨B, 1, none⟩ (.int .i64 s')) B f' s' := two_set1 (two_set0 h _) _
theorem Rt.drew {w : World} {B : Nat} {f s : Int} (h : Rt w B f s) : Rt w.drew B f s := h
set_option maxRecDepth 100000 in
set_option maxHeartbeats 4000000 in
theorem rateMeans_walk (per size fa sa fb sb : Int) (hfa : 0 ≤ fa) (hfb : 0 ≤ fb) (w : World) :
    Calls Try.prog 11 #[.int .i64 per, .int .i64 size, .agg #[.int .u64 fa, .int .i64 sa], .agg #[.int .u64 fb, .int .i64 sb]] w fun e w' => e = .returned (.bool true) ∧ Below w.heap.size w w' := by
  obtain ⟨p, hp⟩ : ∃ p, p = per % 2 ^ 20 := ⟨_, rfl⟩
  obtain ⟨z, hz⟩ : ∃ z, z = size % 2 ^ 16 := ⟨_, rfl⟩
  obtain ⟨f1, hf1⟩ : ∃ z, z = fa % 2 ^ 24 := ⟨_, rfl⟩
  obtain ⟨f2, hf2⟩ : ∃ z, z = fb % 2 ^ 24 := ⟨_, rfl⟩
  obtain ⟨s1, hs1⟩ : ∃ z, z = sa % 2 ^ 16 := ⟨_, rfl⟩
  obtain ⟨s2, hs2⟩ : ∃ z, z = sb % 2 ^ 16 := ⟨_, rfl⟩
  have b1 : 0 ≤ p ∧ p ≤ 1048575 := by omega
  have b2 : 0 ≤ z ∧ z ≤ 65535 := by omega
  have b3 : 0 ≤ f1 ∧ f1 ≤ 16777215 := by omega
  have b4 : 0 ≤ f2 ∧ f2 ≤ 16777215 := by omega
  have b5 : 0 ≤ s1 ∧ s1 ≤ 65535 := by omega
  have b6 : 0 ≤ s2 ∧ s2 ≤ 65535 := by omega
  have m1 : bits .and .i64 per 1048575 = p := by rw [i64_mask per _ 20 (by decide) (by decide), hp]
  have m2 : bits .and .i64 size 65535 = z := by rw [i64_mask size _ 16 (by decide) (by decide), hz]
  have m3 : bits .and .u64 fa 16777215 = f1 := by rw [u64_mask fa _ 24 (by decide) (by decide), hf1]
  have m4 : bits .and .u64 fb 16777215 = f2 := by rw [u64_mask fb _ 24 (by decide) (by decide), hf2]
  have m5 : bits .and .i64 sa 65535 = s1 := by rw [i64_mask sa _ 16 (by decide) (by decide), hs1]
  have m6 : bits .and .i64 sb 65535 = s2 := by rw [i64_mask sb _ 16 (by decide) (by decide), hs2]
  clear hp hz hf1 hf2 hs1 hs2 hfa hfb
  obtain ⟨b1, b1'⟩ := b1
  obtain ⟨b2, b2'⟩ := b2
  obtain ⟨b3, b3'⟩ := b3
  obtain ⟨b4, b4'⟩ := b4
  obtain ⟨b5, b5'⟩ := b5
  obtain ⟨b6, b6'⟩ := b6
  obtain ⟨N, hN, n1, n2, n3, n4⟩ := need_small (p + 1) (z + 1) (by omega) (by omega) (by omega) (by omega)
  have HN := As.mk hN
  obtain ⟨r1, hr1⟩ : ∃ r, r = cmpR N (z + 1) (p + 1) 1000 := ⟨_, rfl⟩
  have r1n : 0 ≤ r1 := by
    rw [hr1, cmpR_pos _ _ _ _ (by omega) (by omega)]
    unfold sgn
    rw [if_neg (by omega)]
    split <;> omega
  have HR1 := As.mk hr1.symm
  have HR2 : As (cmpR (N - 1) (z + 1) (p + 1) 1000 = -1) := ⟨by
    rw [cmpR_pos _ _ _ _ (by omega) (by omega)]
    exact sgn_lt _ _ n4⟩
  clear hN hr1 n3 n4
  have HB : As (Below w.heap.size w w) := ⟨Below.refl _ _⟩
  go_enter Try.func11, Try.ntmps11
  go_upto_region 1 with (fail)
  have HB2 := As.mk ((HB.out.alloc (Nat.le_refl _) (.cells #[.int .u64 fa, .int .i64 sa] 40)).alloc (by simp) (.cells #[.int .u64 fb, .int .i64 sb] 40))
  clear HB
  have HB := HB2
  clear HB2
  obtain ⟨c0, c1, -, -⟩ := two_cell (heap_alloc2_old w (.cells #[.int .u64 fa, .int .i64 sa] 40) (.cells #[.int .u64 fb, .int .i64 sb] 40))
  obtain ⟨c2, c3, -, -⟩ := two_cell (heap_alloc2_new w (.cells #[.int .u64 fa, .int .i64 sa] 40) (.cells #[.int .u64 fb, .int .i64 sb] 40))
  go_upto_region 3 with ((go_at_call 20; (with_reducible refine (need_to (p + 1) (z + 1) N HN.out (by omega) (by omega) _).mono ?_); rintro e w' ⟨rfl, hb⟩; have HB2 := As.mk (HB.out.trans (hb.mono HB.out.size)); have c02 := cell_of_below hb c0; have c12 := cell_of_below hb c1; have c22 := cell_of_below hb c2; have c32 := cell_of_below hb c3; clear hb; clear HB; have HB := HB2; clear HB2; clear c0; have c0 := c02; clear c02; clear c1; have c1 := c12; clear c12; clear c2; have c2 := c22; clear c22; clear c3; have c3 := c32; clear c32))
  go_upto_region 4 with (fail)
  have HD := As.mk (Rt.new w' (p + 1) 1000)
  have HB2 : As (Below w.heap.size w (w'.alloc (Obj.cells #[.int .u64 (p + 1), .int .i64 1000] 40))) := ⟨HB.out.alloc HB.out.size _⟩
  have HDL : As (w.heap.size ≤ w'.heap.size) := ⟨HB.out.size⟩
  have c02 := cell_of_below ((Below.refl _ _).alloc (Nat.le_refl _) (Obj.cells #[.int .u64 (p + 1), .int .i64 1000] 40)) c0
  have c12 := cell_of_below ((Below.refl _ _).alloc (Nat.le_refl _) (Obj.cells #[.int .u64 (p + 1), .int .i64 1000] 40)) c1
  have c22 := cell_of_below ((Below.refl _ _).alloc (Nat.le_refl _) (Obj.cells #[.int .u64 (p + 1), .int .i64 1000] 40)) c2
  have c32 := cell_of_below ((Below.refl _ _).alloc (Nat.le_refl _) (Obj.cells #[.int .u64 (p + 1), .int .i64 1000] 40)) c3
  clear HB c0 c1 c2 c3
  have HB := HB2
  clear HB2
  have c0 := c02
  clear c02
  have c1 := c12
  clear c12
  have c2 := c22
  clear c22
  have c3 := c32
  clear c32
  generalize w'.alloc (Obj.cells #[.int .u64 (p + 1), .int .i64 1000] 40) = W1 at *
  generalize w'.heap.size = D at *
  obtain ⟨d0, d1, -, -⟩ := HD.out.cells
  go_upto_region 6 with (first | (go_at_call 19; (with_reducible refine (compare_to N (z + 1) (p + 1) 1000 r1 HR1.out (by omega) (by omega) (by omega) (by omega) (by omega) (by omega) _).mono ?_); rintro e w' ⟨rfl, hb⟩; have HB2 := As.mk (HB.out.trans (hb.mono HB.out.size)); have c02 := cell_of_below hb c0; have c12 := cell_of_below hb c1; have c22 := cell_of_below hb c2; have c32 := cell_of_below hb c3; have d02 := cell_of_below hb d0; have d12 := cell_of_below hb d1; clear hb; clear HB; have HB := HB2; clear HB2; clear c0; have c0 := c02; clear c02; clear c1; have c1 := c12; clear c12; clear c2; have c2 := c22; clear c22; clear c3; have c3 := c32; clear c32; clear d0; have d0 := d02; clear d02; clear d1; have d1 := d12; clear d12) | (go_at_call 19; (with_reducible refine (compare_to (N - 1) (z + 1) (p + 1) 1000 (-1) HR2.out (by omega) (by omega) (by omega) (by omega) (by omega) (by omega) _).mono ?_); rintro e w' ⟨rfl, hb⟩; have HB2 := As.mk (HB.out.trans (hb.mono HB.out.size)); have c02 := cell_of_below hb c0; have c12 := cell_of_below hb c1; have c22 := cell_of_below hb c2; have c32 := cell_of_below hb c3; have d02 := cell_of_below hb d0; have d12 := cell_of_below hb d1; clear hb; clear HB; have HB := HB2; clear HB2; clear c0; have c0 := c02; clear c02; clear c1; have c1 := c12; clear c12; clear c2; have c2 := c22; clear c22; clear c3; have c3 := c32; clear c32; clear d0; have d0 := d02; clear d02; clear d1; have d1 := d12; clear d12))
  clear d0 d1 HD HDL HR1 HR2
  go_upto_region 7 with (fail)
  have HX := As.mk (Rt.new w' f1 (s1 + 1))
  have HB2 : As (Below w.heap.size w (w'.alloc (Obj.cells #[.int .u64 f1, .int .i64 (s1 + 1)] 40))) := ⟨HB.out.alloc HB.out.size _⟩
  have HXL : As (w.heap.size ≤ w'.heap.size) := ⟨HB.out.size⟩
  have c22 := cell_of_below ((Below.refl _ _).alloc (Nat.le_refl _) (Obj.cells #[.int .u64 f1, .int .i64 (s1 + 1)] 40)) c2
  have c32 := cell_of_below ((Below.refl _ _).alloc (Nat.le_refl _) (Obj.cells #[.int .u64 f1, .int .i64 (s1 + 1)] 40)) c3
  clear HB c2 c3
  have HB := HB2
  clear HB2
  have c2 := c22
  clear c22
  have c3 := c32
  clear c32
  generalize w'.alloc (Obj.cells #[.int .u64 f1, .int .i64 (s1 + 1)] 40) = W2 at *
  generalize w'.heap.size = X at *
  clear c0 c1
  go_upto_region 8 with (fail)
  have hXY : As (X ≠ W2.heap.size) := ⟨Nat.ne_of_lt HX.out.lt⟩
  have HY := As.mk (Rt.new W2 f2 (s2 + 1))
  have HB2 : As (Below w.heap.size w (W2.alloc (Obj.cells #[.int .u64 f2, .int .i64 (s2 + 1)] 40))) := ⟨HB.out.alloc HB.out.size _⟩
  have HYL : As (w.heap.size ≤ W2.heap.size) := ⟨HB.out.size⟩
  have HX2 := As.mk (HX.out.alloc (Obj.cells #[.int .u64 f2, .int .i64 (s2 + 1)] 40))
  clear HB HX
  have HB := HB2
  clear HB2
  have HX := HX2
  clear HX2
  generalize W2.alloc (Obj.cells #[.int .u64 f2, .int .i64 (s2 + 1)] 40) = W3 at *
  generalize W2.heap.size = Y at *
  clear c2 c3
  obtain ⟨c, hc⟩ : ∃ c, c = cmpR f1 (s1 + 1) f2 (s2 + 1) := ⟨_, rfl⟩
  have HC := As.mk hc.symm
  clear hc
  obtain ⟨x0, x1, -, -⟩ := HX.out.cells
  obtain ⟨y0, y1, -, -⟩ := HY.out.cells
  go_upto_if 65 with ((go_at_call 19; (with_reducible refine (compare_to f1 (s1 + 1) f2 (s2 + 1) c HC.out (by omega) (by omega) (by omega) (by omega) (by omega) (by omega) _).mono ?_); rintro e w' ⟨rfl, hb⟩; have HB2 := As.mk (HB.out.trans (hb.mono HB.out.size)); have x02 := cell_of_below hb x0; have x12 := cell_of_below hb x1; have y02 := cell_of_below hb y0; have y12 := cell_of_below hb y1; have HX2 := As.mk (HX.out.below hb); have HY2 := As.mk (HY.out.below hb); clear hb; clear HB; have HB := HB2; clear HB2; clear x0; have x0 := x02; clear x02; clear x1; have x1 := x12; clear x12; clear y0; have y0 := y02; clear y02; clear y1; have y1 := y12; clear y12; clear HX; have HX := HX2; clear HX2; clear HY; have HY := HY2; clear HY2))
  clear x0 x1 y0 y1
  go_cut [] (fun wc => ∃ F1 S1 F2 S2 : Int, 0 ≤ F1 ∧ F1 ≤ 16777215 ∧ 0 ≤ F2 ∧ F2 ≤ 16777215 ∧ 1 ≤ S1 ∧ S1 ≤ 65536 ∧ 1 ≤ S2 ∧ S2 ≤ 65536 ∧ As (F1 * S2 ≤ F2 * S1 ∧ Below w.heap.size w wc ∧ Rt wc X F1 S1 ∧ Rt wc Y F2 S2))
  case first =>
    by_cases k : 0 < c
    · obtain ⟨x0, x1, x2, x3⟩ := HX.out.cells
      obtain ⟨y0, y1, y2, y3⟩ := HY.out.cells
      have ne1 : X ≠ Y := hXY.out
      have ne2 : Y ≠ X := fun h => hXY.out h.symm
      have HK := As.mk k
      go_wp2_with fail
      go_meet
      refine ⟨f2, s2 + 1, f1, s1 + 1, by omega, by omega, by omega, by omega, by omega, by omega, by omega, by omega, ⟨?_, ?_, ?_, ?_⟩⟩
      · have h1 := HC.out
        rw [cmpR_pos _ _ _ _ (by omega) (by omega)] at h1
        unfold sgn at h1
        have h2 := HK.out
        split at h1
        · omega
        · split at h1 <;> omega
      · exact (((HB.out.setCell HXL.out _).setCell HXL.out _).setCell HYL.out _).setCell HYL.out _
      · exact ((HX.out.set _ _).other ne1 _ _).other ne1 _ _
      · exact ((HY.out.other ne2 _ _).other ne2 _ _).set _ _
    · have k' : ¬ c > 0 := k
      have HK := As.mk k
      go_wp2_with fail
      go_meet
      refine ⟨f1, s1 + 1, f2, s2 + 1, by omega, by omega, by omega, by omega, by omega, by omega, by omega, by omega, ⟨?_, HB.out, HX.out, HY.out⟩⟩
      have h1 := HC.out
      rw [cmpR_pos _ _ _ _ (by omega) (by omega)] at h1
      unfold sgn at h1
      have h2 := HK.out
      split at h1
      · omega
      · split at h1 <;> omega
  case rest =>
    obtain ⟨F1, S1, F2, S2, g1, g2, g3, g4, g5, g6, g7, g8, HW⟩ := hcut
    have HX := As.mk HW.out.2.2.1
    have HY := As.mk HW.out.2.2.2
    have HB := As.mk HW.out.2.1
    obtain ⟨r, hr, e1, e2, e3⟩ := between F1 S1 F2 S2 g5 g7 HW.out.1
    have HE1 := As.mk e1
    have HE2 := As.mk e2
    have HE3 := As.mk e3
    clear e1 e2 e3 HW HC
    have a1 : As ((F1 + F2) % 18446744073709551616 = F1 + F2) := ⟨by omega⟩
    have a2 : As (IntKind.i64.wrap (S1 + S2) = S1 + S2) := ⟨IntWalk.i64_in _ (by omega)⟩
    obtain ⟨x0, x1, -, -⟩ := HX.out.cells
    obtain ⟨y0, y1, -, -⟩ := HY.out.cells
    go_upto_region 11 with ((go_at_call 26; (with_reducible refine (add_two F1 S1 F2 S2 (F1 + F2) (S1 + S2) a1.out a2.out (by omega) (by omega) (by omega) (by omega) _ (by simp)).mono ?_); rintro e w' ⟨rfl, hb⟩; have HB2 := As.mk (HB.out.trans (hb.mono HB.out.size)); have HX2 := As.mk (HX.out.below hb); have HY2 := As.mk (HY.out.below hb); clear hb HB HX HY; have HB := HB2; have HX := HX2; have HY := HY2; clear HB2 HX2 HY2))
    clear x0 x1 y0 y1
    have HZ := As.mk (Rt.new w' (F1 + F2) (S1 + S2))
    have HB2 : As (Below w.heap.size w (w'.alloc (Obj.cells #[.int .u64 (F1 + F2), .int .i64 (S1 + S2)] 40))) := ⟨HB.out.alloc HB.out.size _⟩
    have HZL : As (w.heap.size ≤ w'.heap.size) := ⟨HB.out.size⟩
    have HX2 := As.mk (HX.out.alloc (Obj.cells #[.int .u64 (F1 + F2), .int .i64 (S1 + S2)] 40))
    have HY2 := As.mk (HY.out.alloc (Obj.cells #[.int .u64 (F1 + F2), .int .i64 (S1 + S2)] 40))
    clear HB HX HY
    have HB := HB2
    clear HB2
    have HX := HX2
    clear HX2
    have HY := HY2
    clear HY2
    generalize w'.alloc (Obj.cells #[.int .u64 (F1 + F2), .int .i64 (S1 + S2)] 40) = W4 at *
    generalize w'.heap.size = Z at *
    have HB2 : As (Below w.heap.size w W4.drew) := ⟨HB.out.drew⟩
    have hS0 : Rt W4.drew X F1 S1 ∧ Rt W4.drew Y F2 S2 ∧ Rt W4.drew Z (F1 + F2) (S1 + S2) := ⟨HX.out.drew, HY.out.drew, HZ.out.drew⟩
    clear HB HX HY HZ
    have HB := HB2
    clear HB2
    have hld : ∀ (W : World) (B : Nat) (f s : Int), Rt W B f s → W.cell? ⟨B, 0, none⟩ = some (.int .u64 f) ∧ W.cell? ⟨B, 1, none⟩ = some (.int .i64 s) := fun W B f s h => ⟨h.cells.1, h.cells.2.1⟩
    rcases hr with rfl | rfl
    · refine wp_region_held_drew (S := (fun W : World => Rt W X F1 S1 ∧ Rt W Y F2 S2 ∧ Rt W Z (F1 + F2) (S1 + S2))) (by kernel_rfl) ?_ (fun hHeld => ?_)
      · exact hS0
      refine wpAnyH_take (i := 0) (oi := ?_) (v := ?_) (by simp only [List.getElem?_toArray, List.getElem?_cons_zero, List.getElem?_cons_succ]; rfl) (by kernel_rfl) (by kernel_rfl) (by kernel_rfl) (by exact fun _ _ _ h => h) (Or.inl ⟨by rfl, ?_⟩) (by assumption) ?_
      rotate_left
      · (intro w hSw; (try dsimp only at hSw); obtain ⟨hSx, hSy, hSz⟩ := hSw; obtain ⟨sx0, sx1, -, -⟩ := hSx.cells; obtain ⟨sy0, sy1, -, -⟩ := hSy.cells; obtain ⟨sz0, sz1, -, -⟩ := hSz.cells; clear hSx hSy hSz; go_simp; first | done | with_reducible rfl)
      try simp only [Act.put, List.setIfInBounds_toArray, List.set_cons_zero, List.set_cons_succ]
      refine wpAnyH_take (i := 1) (oi := ?_) (v := ?_) (by simp only [List.getElem?_toArray, List.getElem?_cons_zero, List.getElem?_cons_succ]; rfl) (by kernel_rfl) (by kernel_rfl) (by kernel_rfl) (by exact fun _ _ _ h => h) (Or.inl ⟨by rfl, ?_⟩) (by assumption) ?_
      rotate_left
      · (intro w hSw; (try dsimp only at hSw); obtain ⟨hSx, hSy, hSz⟩ := hSw; obtain ⟨sx0, sx1, -, -⟩ := hSx.cells; obtain ⟨sy0, sy1, -, -⟩ := hSy.cells; obtain ⟨sz0, sz1, -, -⟩ := hSz.cells; clear hSx hSy hSz; go_simp; first | done | with_reducible rfl)
      try simp only [Act.put, List.setIfInBounds_toArray, List.set_cons_zero, List.set_cons_succ]
      refine wpAnyH_ready (rs := [2]) (by kernel_rfl) (by simp) ?_
      refine AllReadyH.cons (o := ?_) (by simp only [List.getElem?_toArray, List.getElem?_cons_zero, List.getElem?_cons_succ]; rfl) (fun K hK => ?_) ?_
      · go_simp
        refine (compare_to F1 S1 (F1 + F2) (S1 + S2) 0 HE2.out (by omega) (by omega) (by omega) (by omega) (by omega) (by omega) _).mono ?_
        rintro e w5 ⟨rfl, hb⟩
        have HB2 := As.mk (HB.out.trans (hb.mono HB.out.size))
        have hS2 := And.intro (hHeld.1.below hb) (And.intro (hHeld.2.1.below hb) (hHeld.2.2.below hb))
        clear hb HB
        have HB := HB2
        clear HB2
        dsimp only
        refine hK.out _ _ ?_ (fun hHeld2 => ?_)
        · exact hS2
        clear hK K hHeld
        have hHeld := hHeld2
        clear hHeld2
        try simp only [Act.put, List.setIfInBounds_toArray, List.set_cons_zero, List.set_cons_succ]
        refine wpAnyH_take (i := 3) (oi := ?_) (v := ?_) (by simp only [List.getElem?_toArray, List.getElem?_cons_zero, List.getElem?_cons_succ]; rfl) (by kernel_rfl) (by kernel_rfl) (by kernel_rfl) (by exact fun _ _ _ h => h) (Or.inl ⟨by rfl, ?_⟩) (by assumption) ?_
        rotate_left
        · (intro w hSw; (try dsimp only at hSw); obtain ⟨hSx, hSy, hSz⟩ := hSw; obtain ⟨sx0, sx1, -, -⟩ := hSx.cells; obtain ⟨sy0, sy1, -, -⟩ := hSy.cells; obtain ⟨sz0, sz1, -, -⟩ := hSz.cells; clear hSx hSy hSz; go_simp; first | done | with_reducible rfl)
        try simp only [Act.put, List.setIfInBounds_toArray, List.set_cons_zero, List.set_cons_succ]
        refine wpAnyH_take (i := 4) (oi := ?_) (v := ?_) (by simp only [List.getElem?_toArray, List.getElem?_cons_zero, List.getElem?_cons_succ]; rfl) (by kernel_rfl) (by kernel_rfl) (by kernel_rfl) (by exact fun _ _ _ h => h) (Or.inl ⟨by rfl, ?_⟩) (by assumption) ?_
        rotate_left
        · (intro w hSw; (try dsimp only at hSw); obtain ⟨hSx, hSy, hSz⟩ := hSw; obtain ⟨sx0, sx1, -, -⟩ := hSx.cells; obtain ⟨sy0, sy1, -, -⟩ := hSy.cells; obtain ⟨sz0, sz1, -, -⟩ := hSz.cells; clear hSx hSy hSz; go_simp; first | done | with_reducible rfl)
        try simp only [Act.put, List.setIfInBounds_toArray, List.set_cons_zero, List.set_cons_succ]
        refine wpAnyH_take (i := 5) (oi := ?_) (v := ?_) (by simp only [List.getElem?_toArray, List.getElem?_cons_zero, List.getElem?_cons_succ]; rfl) (by kernel_rfl) (by kernel_rfl) (by kernel_rfl) (by exact fun _ _ _ h => h) (Or.inl ⟨by rfl, ?_⟩) (by assumption) ?_
        rotate_left
        · (intro w hSw; (try dsimp only at hSw); obtain ⟨hSx, hSy, hSz⟩ := hSw; obtain ⟨sx0, sx1, -, -⟩ := hSx.cells; obtain ⟨sy0, sy1, -, -⟩ := hSy.cells; obtain ⟨sz0, sz1, -, -⟩ := hSz.cells; clear hSx hSy hSz; go_simp; first | done | with_reducible rfl)
        try simp only [Act.put, List.setIfInBounds_toArray, List.set_cons_zero, List.set_cons_succ]
        refine wpAnyH_take (i := 6) (oi := ?_) (v := ?_) (by simp only [List.getElem?_toArray, List.getElem?_cons_zero, List.getElem?_cons_succ]; rfl) (by kernel_rfl) (by kernel_rfl) (by kernel_rfl) (by exact fun _ _ _ h => h) (Or.inl ⟨by rfl, ?_⟩) (by assumption) ?_
        rotate_left
        · (intro w hSw; (try dsimp only at hSw); obtain ⟨hSx, hSy, hSz⟩ := hSw; obtain ⟨sx0, sx1, -, -⟩ := hSx.cells; obtain ⟨sy0, sy1, -, -⟩ := hSy.cells; obtain ⟨sz0, sz1, -, -⟩ := hSz.cells; clear hSx hSy hSz; go_simp; first | done | with_reducible rfl)
        try simp only [Act.put, List.setIfInBounds_toArray, List.set_cons_zero, List.set_cons_succ]
        refine wpAnyH_ready (rs := [7]) (by kernel_rfl) (by simp) ?_
        refine AllReadyH.cons (o := ?_) (by simp only [List.getElem?_toArray, List.getElem?_cons_zero, List.getElem?_cons_succ]; rfl) (fun K hK => ?_) ?_
        · go_simp
          refine (compare_to (F1 + F2) (S1 + S2) F2 S2 0 HE3.out (by omega) (by omega) (by omega) (by omega) (by omega) (by omega) _).mono ?_
          rintro e w5 ⟨rfl, hb⟩
          have HB2 := As.mk (HB.out.trans (hb.mono HB.out.size))
          have hS2 := And.intro (hHeld.1.below hb) (And.intro (hHeld.2.1.below hb) (hHeld.2.2.below hb))
          clear hb HB
          have HB := HB2
          clear HB2
          dsimp only
          refine hK.out _ _ ?_ (fun hHeld2 => ?_)
          · exact hS2
          clear hK K hHeld
          have hHeld := hHeld2
          clear hHeld2
          try simp only [Act.put, List.setIfInBounds_toArray, List.set_cons_zero, List.set_cons_succ]
          refine wpAnyH_take (i := 8) (oi := ?_) (v := ?_) (by simp only [List.getElem?_toArray, List.getElem?_cons_zero, List.getElem?_cons_succ]; rfl) (by kernel_rfl) (by kernel_rfl) (by kernel_rfl) (by exact fun _ _ _ h => h) (Or.inl ⟨by rfl, ?_⟩) (by assumption) ?_
          rotate_left
          · (intro w hSw; (try dsimp only at hSw); obtain ⟨hSx, hSy, hSz⟩ := hSw; obtain ⟨sx0, sx1, -, -⟩ := hSx.cells; obtain ⟨sy0, sy1, -, -⟩ := hSy.cells; obtain ⟨sz0, sz1, -, -⟩ := hSz.cells; clear hSx hSy hSz; go_simp; first | done | with_reducible rfl)
          try simp only [Act.put, List.setIfInBounds_toArray, List.set_cons_zero, List.set_cons_succ]
          refine wpAnyH_take (i := 9) (oi := ?_) (v := ?_) (by simp only [List.getElem?_toArray, List.getElem?_cons_zero, List.getElem?_cons_succ]; rfl) (by kernel_rfl) (by kernel_rfl) (by kernel_rfl) (by exact fun _ _ _ h => h) (Or.inl ⟨by rfl, ?_⟩) (by assumption) ?_
          rotate_left
          · (intro w hSw; (try dsimp only at hSw); obtain ⟨hSx, hSy, hSz⟩ := hSw; obtain ⟨sx0, sx1, -, -⟩ := hSx.cells; obtain ⟨sy0, sy1, -, -⟩ := hSy.cells; obtain ⟨sz0, sz1, -, -⟩ := hSz.cells; clear hSx hSy hSz; go_simp; first | done | with_reducible rfl)
          try simp only [Act.put, List.setIfInBounds_toArray, List.set_cons_zero, List.set_cons_succ]
          refine wpAnyH_take (i := 10) (oi := ?_) (v := ?_) (by simp only [List.getElem?_toArray, List.getElem?_cons_zero, List.getElem?_cons_succ]; rfl) (by kernel_rfl) (by kernel_rfl) (by kernel_rfl) (by exact fun _ _ _ h => h) (Or.inl ⟨by rfl, ?_⟩) (by assumption) ?_
          rotate_left
          · (intro w hSw; (try dsimp only at hSw); obtain ⟨hSx, hSy, hSz⟩ := hSw; obtain ⟨sx0, sx1, -, -⟩ := hSx.cells; obtain ⟨sy0, sy1, -, -⟩ := hSy.cells; obtain ⟨sz0, sz1, -, -⟩ := hSz.cells; clear hSx hSy hSz; go_simp; first | done | with_reducible rfl)
          try simp only [Act.put, List.setIfInBounds_toArray, List.set_cons_zero, List.set_cons_succ]
          refine wpAnyH_take (i := 11) (oi := ?_) (v := ?_) (by simp only [List.getElem?_toArray, List.getElem?_cons_zero, List.getElem?_cons_succ]; rfl) (by kernel_rfl) (by kernel_rfl) (by kernel_rfl) (by exact fun _ _ _ h => h) (Or.inl ⟨by rfl, ?_⟩) (by assumption) ?_
          rotate_left
          · (intro w hSw; (try dsimp only at hSw); obtain ⟨hSx, hSy, hSz⟩ := hSw; obtain ⟨sx0, sx1, -, -⟩ := hSx.cells; obtain ⟨sy0, sy1, -, -⟩ := hSy.cells; obtain ⟨sz0, sz1, -, -⟩ := hSz.cells; clear hSx hSy hSz; go_simp; first | done | with_reducible rfl)
          try simp only [Act.put, List.setIfInBounds_toArray, List.set_cons_zero, List.set_cons_succ]
          refine wpAnyH_take (i := 12) (oi := ?_) (v := ?_) (by simp only [List.getElem?_toArray, List.getElem?_cons_zero, List.getElem?_cons_succ]; rfl) (by kernel_rfl) (by kernel_rfl) (by kernel_rfl) (by exact fun _ _ _ h => h) (Or.inl ⟨by rfl, ?_⟩) (by assumption) ?_
          rotate_left
          · (intro w hSw; (try dsimp only at hSw); obtain ⟨hSx, hSy, hSz⟩ := hSw; obtain ⟨sx0, sx1, -, -⟩ := hSx.cells; obtain ⟨sy0, sy1, -, -⟩ := hSy.cells; obtain ⟨sz0, sz1, -, -⟩ := hSz.cells; clear hSx hSy hSz; go_simp; first | done | with_reducible rfl)
          try simp only [Act.put, List.setIfInBounds_toArray, List.set_cons_zero, List.set_cons_succ]
          refine wpAnyH_take (i := 15) (oi := ?_) (v := ?_) (by simp only [List.getElem?_toArray, List.getElem?_cons_zero, List.getElem?_cons_succ]; rfl) (by kernel_rfl) (by kernel_rfl) (by kernel_rfl) (by exact fun _ _ _ h => h) (Or.inl ⟨by rfl, ?_⟩) (by assumption) ?_
          rotate_left
          · (intro w hSw; (try dsimp only at hSw); obtain ⟨hSx, hSy, hSz⟩ := hSw; obtain ⟨sx0, sx1, -, -⟩ := hSx.cells; obtain ⟨sy0, sy1, -, -⟩ := hSy.cells; obtain ⟨sz0, sz1, -, -⟩ := hSz.cells; clear hSx hSy hSz; go_simp; first | done | with_reducible rfl)
          try simp only [Act.put, List.setIfInBounds_toArray, List.set_cons_zero, List.set_cons_succ]
          refine wpAnyH_take (i := 16) (oi := ?_) (v := ?_) (by simp only [List.getElem?_toArray, List.getElem?_cons_zero, List.getElem?_cons_succ]; rfl) (by kernel_rfl) (by kernel_rfl) (by kernel_rfl) (by exact fun _ _ _ h => h) (Or.inl ⟨by rfl, ?_⟩) (by assumption) ?_
          rotate_left
          · (intro w hSw; (try dsimp only at hSw); obtain ⟨hSx, hSy, hSz⟩ := hSw; obtain ⟨sx0, sx1, -, -⟩ := hSx.cells; obtain ⟨sy0, sy1, -, -⟩ := hSy.cells; obtain ⟨sz0, sz1, -, -⟩ := hSz.cells; clear hSx hSy hSz; go_simp; first | done | with_reducible rfl)
          try simp only [Act.put, List.setIfInBounds_toArray, List.set_cons_zero, List.set_cons_succ]
          refine wpAnyH_ready (rs := [13]) (by kernel_rfl) (by simp) ?_
          refine AllReadyH.cons (o := ?_) (by simp only [List.getElem?_toArray, List.getElem?_cons_zero, List.getElem?_cons_succ]; rfl) (fun K hK => ?_) ?_
          · go_simp
            refine (compare_to F1 S1 F2 S2 0 HE1.out (by omega) (by omega) (by omega) (by omega) (by omega) (by omega) _).mono ?_
            rintro e w5 ⟨rfl, hb⟩
            have HB2 := As.mk (HB.out.trans (hb.mono HB.out.size))
            have hS2 := And.intro (hHeld.1.below hb) (And.intro (hHeld.2.1.below hb) (hHeld.2.2.below hb))
            clear hb HB
            have HB := HB2
            clear HB2
            dsimp only
            refine hK.out _ _ ?_ (fun hHeld2 => ?_)
            · exact hS2
            clear hK K hHeld
            have hHeld := hHeld2
            clear hHeld2
            try simp only [Act.put, List.setIfInBounds_toArray, List.set_cons_zero, List.set_cons_succ]
            refine wpAnyH_take (i := 14) (oi := ?_) (v := ?_) (by simp only [List.getElem?_toArray, List.getElem?_cons_zero, List.getElem?_cons_succ]; rfl) (by kernel_rfl) (by kernel_rfl) (by kernel_rfl) (by exact fun _ _ _ h => h) (Or.inl ⟨by rfl, ?_⟩) (by assumption) ?_
            rotate_left
            · (intro w hSw; (try dsimp only at hSw); obtain ⟨hSx, hSy, hSz⟩ := hSw; obtain ⟨sx0, sx1, -, -⟩ := hSx.cells; obtain ⟨sy0, sy1, -, -⟩ := hSy.cells; obtain ⟨sz0, sz1, -, -⟩ := hSz.cells; clear hSx hSy hSz; go_simp; first | done | with_reducible rfl)
            try simp only [Act.put, List.setIfInBounds_toArray, List.set_cons_zero, List.set_cons_succ]
            refine wpAnyH_ready (rs := [17]) (by kernel_rfl) (by simp) ?_
            refine AllReadyH.cons (o := ?_) (by simp only [List.getElem?_toArray, List.getElem?_cons_zero, List.getElem?_cons_succ]; rfl) (fun K hK => ?_) ?_
            · go_simp
              refine (compare_to F1 S1 (F1 + F2) (S1 + S2) 0 HE2.out (by omega) (by omega) (by omega) (by omega) (by omega) (by omega) _).mono ?_
              rintro e w5 ⟨rfl, hb⟩
              have HB2 := As.mk (HB.out.trans (hb.mono HB.out.size))
              have hS2 := And.intro (hHeld.1.below hb) (And.intro (hHeld.2.1.below hb) (hHeld.2.2.below hb))
              clear hb HB
              have HB := HB2
              clear HB2
              dsimp only
              refine hK.out _ _ ?_ (fun hHeld2 => ?_)
              · exact hS2
              clear hK K hHeld
              have hHeld := hHeld2
              clear hHeld2
              try simp only [Act.put, List.setIfInBounds_toArray, List.set_cons_zero, List.set_cons_succ]
              refine wpAnyH_take (i := 18) (oi := ?_) (v := ?_) (by simp only [List.getElem?_toArray, List.getElem?_cons_zero, List.getElem?_cons_succ]; rfl) (by kernel_rfl) (by kernel_rfl) (by kernel_rfl) (by exact fun _ _ _ h => h) (Or.inl ⟨by rfl, ?_⟩) (by assumption) ?_
              rotate_left
              · (intro w hSw; (try dsimp only at hSw); obtain ⟨hSx, hSy, hSz⟩ := hSw; obtain ⟨sx0, sx1, -, -⟩ := hSx.cells; obtain ⟨sy0, sy1, -, -⟩ := hSy.cells; obtain ⟨sz0, sz1, -, -⟩ := hSz.cells; clear hSx hSy hSz; go_simp; first | done | with_reducible rfl)
              try simp only [Act.put, List.setIfInBounds_toArray, List.set_cons_zero, List.set_cons_succ]
              refine wpAnyH_take (i := 19) (oi := ?_) (v := ?_) (by simp only [List.getElem?_toArray, List.getElem?_cons_zero, List.getElem?_cons_succ]; rfl) (by kernel_rfl) (by kernel_rfl) (by kernel_rfl) (by exact fun _ _ _ h => h) (Or.inl ⟨by rfl, ?_⟩) (by assumption) ?_
              rotate_left
              · (intro w hSw; (try dsimp only at hSw); obtain ⟨hSx, hSy, hSz⟩ := hSw; obtain ⟨sx0, sx1, -, -⟩ := hSx.cells; obtain ⟨sy0, sy1, -, -⟩ := hSy.cells; obtain ⟨sz0, sz1, -, -⟩ := hSz.cells; clear hSx hSy hSz; go_simp; first | done | with_reducible rfl)
              try simp only [Act.put, List.setIfInBounds_toArray, List.set_cons_zero, List.set_cons_succ]
              refine wpAnyH_take (i := 20) (oi := ?_) (v := ?_) (by simp only [List.getElem?_toArray, List.getElem?_cons_zero, List.getElem?_cons_succ]; rfl) (by kernel_rfl) (by kernel_rfl) (by kernel_rfl) (by exact fun _ _ _ h => h) (Or.inl ⟨by rfl, ?_⟩) (by assumption) ?_
              rotate_left
              · (intro w hSw; (try dsimp only at hSw); obtain ⟨hSx, hSy, hSz⟩ := hSw; obtain ⟨sx0, sx1, -, -⟩ := hSx.cells; obtain ⟨sy0, sy1, -, -⟩ := hSy.cells; obtain ⟨sz0, sz1, -, -⟩ := hSz.cells; clear hSx hSy hSz; go_simp; first | done | with_reducible rfl)
              try simp only [Act.put, List.setIfInBounds_toArray, List.set_cons_zero, List.set_cons_succ]
              refine wpAnyH_take (i := 21) (oi := ?_) (v := ?_) (by simp only [List.getElem?_toArray, List.getElem?_cons_zero, List.getElem?_cons_succ]; rfl) (by kernel_rfl) (by kernel_rfl) (by kernel_rfl) (by exact fun _ _ _ h => h) (Or.inl ⟨by rfl, ?_⟩) (by assumption) ?_
              rotate_left
              · (intro w hSw; (try dsimp only at hSw); obtain ⟨hSx, hSy, hSz⟩ := hSw; obtain ⟨sx0, sx1, -, -⟩ := hSx.cells; obtain ⟨sy0, sy1, -, -⟩ := hSy.cells; obtain ⟨sz0, sz1, -, -⟩ := hSz.cells; clear hSx hSy hSz; go_simp; first | done | with_reducible rfl)
              try simp only [Act.put, List.setIfInBounds_toArray, List.set_cons_zero, List.set_cons_succ]
              refine wpAnyH_ready (rs := [22]) (by kernel_rfl) (by simp) ?_
              refine AllReadyH.cons (o := ?_) (by simp only [List.getElem?_toArray, List.getElem?_cons_zero, List.getElem?_cons_succ]; rfl) (fun K hK => ?_) ?_
              · go_simp
                refine (awake7_any _).mono ?_
                rintro e w5 ⟨rfl, hb⟩
                have HB2 := As.mk (HB.out.trans (hb.mono HB.out.size))
                have hS2 := And.intro (hHeld.1.below hb) (And.intro (hHeld.2.1.below hb) (hHeld.2.2.below hb))
                clear hb HB
                have HB := HB2
                clear HB2
                dsimp only
                refine hK.out _ _ ?_ (fun hHeld2 => ?_)
                · exact hS2
                clear hK K hHeld
                have hHeld := hHeld2
                clear hHeld2
                try simp only [Act.put, List.setIfInBounds_toArray, List.set_cons_zero, List.set_cons_succ]
                refine wpAnyH_take (i := 23) (oi := ?_) (v := ?_) (by simp only [List.getElem?_toArray, List.getElem?_cons_zero, List.getElem?_cons_succ]; rfl) (by kernel_rfl) (by kernel_rfl) (by kernel_rfl) (by exact fun _ _ _ h => h) (Or.inl ⟨by rfl, ?_⟩) (by assumption) ?_
                rotate_left
                · (intro w hSw; (try dsimp only at hSw); obtain ⟨hSx, hSy, hSz⟩ := hSw; obtain ⟨sx0, sx1, -, -⟩ := hSx.cells; obtain ⟨sy0, sy1, -, -⟩ := hSy.cells; obtain ⟨sz0, sz1, -, -⟩ := hSz.cells; clear hSx hSy hSz; go_simp; first | done | with_reducible rfl)
                try simp only [Act.put, List.setIfInBounds_toArray, List.set_cons_zero, List.set_cons_succ]
                refine wpAnyH_take (i := 24) (oi := ?_) (v := ?_) (by simp only [List.getElem?_toArray, List.getElem?_cons_zero, List.getElem?_cons_succ]; rfl) (by kernel_rfl) (by kernel_rfl) (by kernel_rfl) (by exact fun _ _ _ h => h) (Or.inl ⟨by rfl, ?_⟩) (by assumption) ?_
                rotate_left
                · (intro w hSw; (try dsimp only at hSw); obtain ⟨hSx, hSy, hSz⟩ := hSw; obtain ⟨sx0, sx1, -, -⟩ := hSx.cells; obtain ⟨sy0, sy1, -, -⟩ := hSy.cells; obtain ⟨sz0, sz1, -, -⟩ := hSz.cells; clear hSx hSy hSz; go_simp; first | done | with_reducible rfl)
                try simp only [Act.put, List.setIfInBounds_toArray, List.set_cons_zero, List.set_cons_succ]
                refine wpAnyH_done (by kernel_rfl) ?_ _
                go_wp2
                go_ret
                exact ⟨rfl, HB.out⟩
              exact AllReadyH.nil
            exact AllReadyH.nil
          exact AllReadyH.nil
        exact AllReadyH.nil
      exact AllReadyH.nil
    · refine wp_region_held_drew (S := (fun W : World => Rt W X F1 S1 ∧ Rt W Y F2 S2 ∧ Rt W Z (F1 + F2) (S1 + S2))) (by kernel_rfl) ?_ (fun hHeld => ?_)
      · exact hS0
      refine wpAnyH_take (i := 0) (oi := ?_) (v := ?_) (by simp only [List.getElem?_toArray, List.getElem?_cons_zero, List.getElem?_cons_succ]; rfl) (by kernel_rfl) (by kernel_rfl) (by kernel_rfl) (by exact fun _ _ _ h => h) (Or.inl ⟨by rfl, ?_⟩) (by assumption) ?_
      rotate_left
      · (intro w hSw; (try dsimp only at hSw); obtain ⟨hSx, hSy, hSz⟩ := hSw; obtain ⟨sx0, sx1, -, -⟩ := hSx.cells; obtain ⟨sy0, sy1, -, -⟩ := hSy.cells; obtain ⟨sz0, sz1, -, -⟩ := hSz.cells; clear hSx hSy hSz; go_simp; first | done | with_reducible rfl)
      try simp only [Act.put, List.setIfInBounds_toArray, List.set_cons_zero, List.set_cons_succ]
      refine wpAnyH_take (i := 1) (oi := ?_) (v := ?_) (by simp only [List.getElem?_toArray, List.getElem?_cons_zero, List.getElem?_cons_succ]; rfl) (by kernel_rfl) (by kernel_rfl) (by kernel_rfl) (by exact fun _ _ _ h => h) (Or.inl ⟨by rfl, ?_⟩) (by assumption) ?_
      rotate_left
      · (intro w hSw; (try dsimp only at hSw); obtain ⟨hSx, hSy, hSz⟩ := hSw; obtain ⟨sx0, sx1, -, -⟩ := hSx.cells; obtain ⟨sy0, sy1, -, -⟩ := hSy.cells; obtain ⟨sz0, sz1, -, -⟩ := hSz.cells; clear hSx hSy hSz; go_simp; first | done | with_reducible rfl)
      try simp only [Act.put, List.setIfInBounds_toArray, List.set_cons_zero, List.set_cons_succ]
      refine wpAnyH_ready (rs := [2]) (by kernel_rfl) (by simp) ?_
      refine AllReadyH.cons (o := ?_) (by simp only [List.getElem?_toArray, List.getElem?_cons_zero, List.getElem?_cons_succ]; rfl) (fun K hK => ?_) ?_
      · go_simp
        refine (compare_to F1 S1 (F1 + F2) (S1 + S2) (-1) HE2.out (by omega) (by omega) (by omega) (by omega) (by omega) (by omega) _).mono ?_
        rintro e w5 ⟨rfl, hb⟩
        have HB2 := As.mk (HB.out.trans (hb.mono HB.out.size))
        have hS2 := And.intro (hHeld.1.below hb) (And.intro (hHeld.2.1.below hb) (hHeld.2.2.below hb))
        clear hb HB
        have HB := HB2
        clear HB2
        dsimp only
        refine hK.out _ _ ?_ (fun hHeld2 => ?_)
        · exact hS2
        clear hK K hHeld
        have hHeld := hHeld2
        clear hHeld2
        try simp only [Act.put, List.setIfInBounds_toArray, List.set_cons_zero, List.set_cons_succ]
        refine wpAnyH_take (i := 3) (oi := ?_) (v := ?_) (by simp only [List.getElem?_toArray, List.getElem?_cons_zero, List.getElem?_cons_succ]; rfl) (by kernel_rfl) (by kernel_rfl) (by kernel_rfl) (by exact fun _ _ _ h => h) (Or.inl ⟨by rfl, ?_⟩) (by assumption) ?_
        rotate_left
        · (intro w hSw; (try dsimp only at hSw); obtain ⟨hSx, hSy, hSz⟩ := hSw; obtain ⟨sx0, sx1, -, -⟩ := hSx.cells; obtain ⟨sy0, sy1, -, -⟩ := hSy.cells; obtain ⟨sz0, sz1, -, -⟩ := hSz.cells; clear hSx hSy hSz; go_simp; first | done | with_reducible rfl)
        try simp only [Act.put, List.setIfInBounds_toArray, List.set_cons_zero, List.set_cons_succ]
        refine wpAnyH_take (i := 4) (oi := ?_) (v := ?_) (by simp only [List.getElem?_toArray, List.getElem?_cons_zero, List.getElem?_cons_succ]; rfl) (by kernel_rfl) (by kernel_rfl) (by kernel_rfl) (by exact fun _ _ _ h => h) (Or.inl ⟨by rfl, ?_⟩) (by assumption) ?_
        rotate_left
        · (intro w hSw; (try dsimp only at hSw); obtain ⟨hSx, hSy, hSz⟩ := hSw; obtain ⟨sx0, sx1, -, -⟩ := hSx.cells; obtain ⟨sy0, sy1, -, -⟩ := hSy.cells; obtain ⟨sz0, sz1, -, -⟩ := hSz.cells; clear hSx hSy hSz; go_simp; first | done | with_reducible rfl)
        try simp only [Act.put, List.setIfInBounds_toArray, List.set_cons_zero, List.set_cons_succ]
        refine wpAnyH_take (i := 5) (oi := ?_) (v := ?_) (by simp only [List.getElem?_toArray, List.getElem?_cons_zero, List.getElem?_cons_succ]; rfl) (by kernel_rfl) (by kernel_rfl) (by kernel_rfl) (by exact fun _ _ _ h => h) (Or.inl ⟨by rfl, ?_⟩) (by assumption) ?_
        rotate_left
        · (intro w hSw; (try dsimp only at hSw); obtain ⟨hSx, hSy, hSz⟩ := hSw; obtain ⟨sx0, sx1, -, -⟩ := hSx.cells; obtain ⟨sy0, sy1, -, -⟩ := hSy.cells; obtain ⟨sz0, sz1, -, -⟩ := hSz.cells; clear hSx hSy hSz; go_simp; first | done | with_reducible rfl)
        try simp only [Act.put, List.setIfInBounds_toArray, List.set_cons_zero, List.set_cons_succ]
        refine wpAnyH_take (i := 6) (oi := ?_) (v := ?_) (by simp only [List.getElem?_toArray, List.getElem?_cons_zero, List.getElem?_cons_succ]; rfl) (by kernel_rfl) (by kernel_rfl) (by kernel_rfl) (by exact fun _ _ _ h => h) (Or.inl ⟨by rfl, ?_⟩) (by assumption) ?_
        rotate_left
        · (intro w hSw; (try dsimp only at hSw); obtain ⟨hSx, hSy, hSz⟩ := hSw; obtain ⟨sx0, sx1, -, -⟩ := hSx.cells; obtain ⟨sy0, sy1, -, -⟩ := hSy.cells; obtain ⟨sz0, sz1, -, -⟩ := hSz.cells; clear hSx hSy hSz; go_simp; first | done | with_reducible rfl)
        try simp only [Act.put, List.setIfInBounds_toArray, List.set_cons_zero, List.set_cons_succ]
        refine wpAnyH_ready (rs := [7]) (by kernel_rfl) (by simp) ?_
        refine AllReadyH.cons (o := ?_) (by simp only [List.getElem?_toArray, List.getElem?_cons_zero, List.getElem?_cons_succ]; rfl) (fun K hK => ?_) ?_
        · go_simp
          refine (compare_to (F1 + F2) (S1 + S2) F2 S2 (-1) HE3.out (by omega) (by omega) (by omega) (by omega) (by omega) (by omega) _).mono ?_
          rintro e w5 ⟨rfl, hb⟩
          have HB2 := As.mk (HB.out.trans (hb.mono HB.out.size))
          have hS2 := And.intro (hHeld.1.below hb) (And.intro (hHeld.2.1.below hb) (hHeld.2.2.below hb))
          clear hb HB
          have HB := HB2
          clear HB2
          dsimp only
          refine hK.out _ _ ?_ (fun hHeld2 => ?_)
          · exact hS2
          clear hK K hHeld
          have hHeld := hHeld2
          clear hHeld2
          try simp only [Act.put, List.setIfInBounds_toArray, List.set_cons_zero, List.set_cons_succ]
          refine wpAnyH_take (i := 8) (oi := ?_) (v := ?_) (by simp only [List.getElem?_toArray, List.getElem?_cons_zero, List.getElem?_cons_succ]; rfl) (by kernel_rfl) (by kernel_rfl) (by kernel_rfl) (by exact fun _ _ _ h => h) (Or.inl ⟨by rfl, ?_⟩) (by assumption) ?_
          rotate_left
          · (intro w hSw; (try dsimp only at hSw); obtain ⟨hSx, hSy, hSz⟩ := hSw; obtain ⟨sx0, sx1, -, -⟩ := hSx.cells; obtain ⟨sy0, sy1, -, -⟩ := hSy.cells; obtain ⟨sz0, sz1, -, -⟩ := hSz.cells; clear hSx hSy hSz; go_simp; first | done | with_reducible rfl)
          try simp only [Act.put, List.setIfInBounds_toArray, List.set_cons_zero, List.set_cons_succ]
          refine wpAnyH_take (i := 9) (oi := ?_) (v := ?_) (by simp only [List.getElem?_toArray, List.getElem?_cons_zero, List.getElem?_cons_succ]; rfl) (by kernel_rfl) (by kernel_rfl) (by kernel_rfl) (by exact fun _ _ _ h => h) (Or.inl ⟨by rfl, ?_⟩) (by assumption) ?_
          rotate_left
          · (intro w hSw; (try dsimp only at hSw); obtain ⟨hSx, hSy, hSz⟩ := hSw; obtain ⟨sx0, sx1, -, -⟩ := hSx.cells; obtain ⟨sy0, sy1, -, -⟩ := hSy.cells; obtain ⟨sz0, sz1, -, -⟩ := hSz.cells; clear hSx hSy hSz; go_simp; first | done | with_reducible rfl)
          try simp only [Act.put, List.setIfInBounds_toArray, List.set_cons_zero, List.set_cons_succ]
          refine wpAnyH_take (i := 10) (oi := ?_) (v := ?_) (by simp only [List.getElem?_toArray, List.getElem?_cons_zero, List.getElem?_cons_succ]; rfl) (by kernel_rfl) (by kernel_rfl) (by kernel_rfl) (by exact fun _ _ _ h => h) (Or.inl ⟨by rfl, ?_⟩) (by assumption) ?_
          rotate_left
          · (intro w hSw; (try dsimp only at hSw); obtain ⟨hSx, hSy, hSz⟩ := hSw; obtain ⟨sx0, sx1, -, -⟩ := hSx.cells; obtain ⟨sy0, sy1, -, -⟩ := hSy.cells; obtain ⟨sz0, sz1, -, -⟩ := hSz.cells; clear hSx hSy hSz; go_simp; first | done | with_reducible rfl)
          try simp only [Act.put, List.setIfInBounds_toArray, List.set_cons_zero, List.set_cons_succ]
          refine wpAnyH_take (i := 11) (oi := ?_) (v := ?_) (by simp only [List.getElem?_toArray, List.getElem?_cons_zero, List.getElem?_cons_succ]; rfl) (by kernel_rfl) (by kernel_rfl) (by kernel_rfl) (by exact fun _ _ _ h => h) (Or.inl ⟨by rfl, ?_⟩) (by assumption) ?_
          rotate_left
          · (intro w hSw; (try dsimp only at hSw); obtain ⟨hSx, hSy, hSz⟩ := hSw; obtain ⟨sx0, sx1, -, -⟩ := hSx.cells; obtain ⟨sy0, sy1, -, -⟩ := hSy.cells; obtain ⟨sz0, sz1, -, -⟩ := hSz.cells; clear hSx hSy hSz; go_simp; first | done | with_reducible rfl)
          try simp only [Act.put, List.setIfInBounds_toArray, List.set_cons_zero, List.set_cons_succ]
          refine wpAnyH_take (i := 12) (oi := ?_) (v := ?_) (by simp only [List.getElem?_toArray, List.getElem?_cons_zero, List.getElem?_cons_succ]; rfl) (by kernel_rfl) (by kernel_rfl) (by kernel_rfl) (by exact fun _ _ _ h => h) (Or.inl ⟨by rfl, ?_⟩) (by assumption) ?_
          rotate_left
          · (intro w hSw; (try dsimp only at hSw); obtain ⟨hSx, hSy, hSz⟩ := hSw; obtain ⟨sx0, sx1, -, -⟩ := hSx.cells; obtain ⟨sy0, sy1, -, -⟩ := hSy.cells; obtain ⟨sz0, sz1, -, -⟩ := hSz.cells; clear hSx hSy hSz; go_simp; first | done | with_reducible rfl)
          try simp only [Act.put, List.setIfInBounds_toArray, List.set_cons_zero, List.set_cons_succ]
          refine wpAnyH_take (i := 15) (oi := ?_) (v := ?_) (by simp only [List.getElem?_toArray, List.getElem?_cons_zero, List.getElem?_cons_succ]; rfl) (by kernel_rfl) (by kernel_rfl) (by kernel_rfl) (by exact fun _ _ _ h => h) (Or.inl ⟨by rfl, ?_⟩) (by assumption) ?_
          rotate_left
          · (intro w hSw; (try dsimp only at hSw); obtain ⟨hSx, hSy, hSz⟩ := hSw; obtain ⟨sx0, sx1, -, -⟩ := hSx.cells; obtain ⟨sy0, sy1, -, -⟩ := hSy.cells; obtain ⟨sz0, sz1, -, -⟩ := hSz.cells; clear hSx hSy hSz; go_simp; first | done | with_reducible rfl)
          try simp only [Act.put, List.setIfInBounds_toArray, List.set_cons_zero, List.set_cons_succ]
          refine wpAnyH_take (i := 16) (oi := ?_) (v := ?_) (by simp only [List.getElem?_toArray, List.getElem?_cons_zero, List.getElem?_cons_succ]; rfl) (by kernel_rfl) (by kernel_rfl) (by kernel_rfl) (by exact fun _ _ _ h => h) (Or.inl ⟨by rfl, ?_⟩) (by assumption) ?_
          rotate_left
          · (intro w hSw; (try dsimp only at hSw); obtain ⟨hSx, hSy, hSz⟩ := hSw; obtain ⟨sx0, sx1, -, -⟩ := hSx.cells; obtain ⟨sy0, sy1, -, -⟩ := hSy.cells; obtain ⟨sz0, sz1, -, -⟩ := hSz.cells; clear hSx hSy hSz; go_simp; first | done | with_reducible rfl)
          try simp only [Act.put, List.setIfInBounds_toArray, List.set_cons_zero, List.set_cons_succ]
          refine wpAnyH_ready (rs := [13]) (by kernel_rfl) (by simp) ?_
          refine AllReadyH.cons (o := ?_) (by simp only [List.getElem?_toArray, List.getElem?_cons_zero, List.getElem?_cons_succ]; rfl) (fun K hK => ?_) ?_
          · go_simp
            refine (compare_to F1 S1 F2 S2 (-1) HE1.out (by omega) (by omega) (by omega) (by omega) (by omega) (by omega) _).mono ?_
            rintro e w5 ⟨rfl, hb⟩
            have HB2 := As.mk (HB.out.trans (hb.mono HB.out.size))
            have hS2 := And.intro (hHeld.1.below hb) (And.intro (hHeld.2.1.below hb) (hHeld.2.2.below hb))
            clear hb HB
            have HB := HB2
            clear HB2
            dsimp only
            refine hK.out _ _ ?_ (fun hHeld2 => ?_)
            · exact hS2
            clear hK K hHeld
            have hHeld := hHeld2
            clear hHeld2
            try simp only [Act.put, List.setIfInBounds_toArray, List.set_cons_zero, List.set_cons_succ]
            refine wpAnyH_take (i := 14) (oi := ?_) (v := ?_) (by simp only [List.getElem?_toArray, List.getElem?_cons_zero, List.getElem?_cons_succ]; rfl) (by kernel_rfl) (by kernel_rfl) (by kernel_rfl) (by exact fun _ _ _ h => h) (Or.inl ⟨by rfl, ?_⟩) (by assumption) ?_
            rotate_left
            · (intro w hSw; (try dsimp only at hSw); obtain ⟨hSx, hSy, hSz⟩ := hSw; obtain ⟨sx0, sx1, -, -⟩ := hSx.cells; obtain ⟨sy0, sy1, -, -⟩ := hSy.cells; obtain ⟨sz0, sz1, -, -⟩ := hSz.cells; clear hSx hSy hSz; go_simp; first | done | with_reducible rfl)
            try simp only [Act.put, List.setIfInBounds_toArray, List.set_cons_zero, List.set_cons_succ]
            refine wpAnyH_ready (rs := [17]) (by kernel_rfl) (by simp) ?_
            refine AllReadyH.cons (o := ?_) (by simp only [List.getElem?_toArray, List.getElem?_cons_zero, List.getElem?_cons_succ]; rfl) (fun K hK => ?_) ?_
            · go_simp
              refine (compare_to F1 S1 (F1 + F2) (S1 + S2) (-1) HE2.out (by omega) (by omega) (by omega) (by omega) (by omega) (by omega) _).mono ?_
              rintro e w5 ⟨rfl, hb⟩
              have HB2 := As.mk (HB.out.trans (hb.mono HB.out.size))
              have hS2 := And.intro (hHeld.1.below hb) (And.intro (hHeld.2.1.below hb) (hHeld.2.2.below hb))
              clear hb HB
              have HB := HB2
              clear HB2
              dsimp only
              refine hK.out _ _ ?_ (fun hHeld2 => ?_)
              · exact hS2
              clear hK K hHeld
              have hHeld := hHeld2
              clear hHeld2
              try simp only [Act.put, List.setIfInBounds_toArray, List.set_cons_zero, List.set_cons_succ]
              refine wpAnyH_take (i := 18) (oi := ?_) (v := ?_) (by simp only [List.getElem?_toArray, List.getElem?_cons_zero, List.getElem?_cons_succ]; rfl) (by kernel_rfl) (by kernel_rfl) (by kernel_rfl) (by exact fun _ _ _ h => h) (Or.inl ⟨by rfl, ?_⟩) (by assumption) ?_
              rotate_left
              · (intro w hSw; (try dsimp only at hSw); obtain ⟨hSx, hSy, hSz⟩ := hSw; obtain ⟨sx0, sx1, -, -⟩ := hSx.cells; obtain ⟨sy0, sy1, -, -⟩ := hSy.cells; obtain ⟨sz0, sz1, -, -⟩ := hSz.cells; clear hSx hSy hSz; go_simp; first | done | with_reducible rfl)
              try simp only [Act.put, List.setIfInBounds_toArray, List.set_cons_zero, List.set_cons_succ]
              refine wpAnyH_take (i := 19) (oi := ?_) (v := ?_) (by simp only [List.getElem?_toArray, List.getElem?_cons_zero, List.getElem?_cons_succ]; rfl) (by kernel_rfl) (by kernel_rfl) (by kernel_rfl) (by exact fun _ _ _ h => h) (Or.inl ⟨by rfl, ?_⟩) (by assumption) ?_
              rotate_left
              · (intro w hSw; (try dsimp only at hSw); obtain ⟨hSx, hSy, hSz⟩ := hSw; obtain ⟨sx0, sx1, -, -⟩ := hSx.cells; obtain ⟨sy0, sy1, -, -⟩ := hSy.cells; obtain ⟨sz0, sz1, -, -⟩ := hSz.cells; clear hSx hSy hSz; go_simp; first | done | with_reducible rfl)
              try simp only [Act.put, List.setIfInBounds_toArray, List.set_cons_zero, List.set_cons_succ]
              refine wpAnyH_take (i := 20) (oi := ?_) (v := ?_) (by simp only [List.getElem?_toArray, List.getElem?_cons_zero, List.getElem?_cons_succ]; rfl) (by kernel_rfl) (by kernel_rfl) (by kernel_rfl) (by exact fun _ _ _ h => h) (Or.inl ⟨by rfl, ?_⟩) (by assumption) ?_
              rotate_left
              · (intro w hSw; (try dsimp only at hSw); obtain ⟨hSx, hSy, hSz⟩ := hSw; obtain ⟨sx0, sx1, -, -⟩ := hSx.cells; obtain ⟨sy0, sy1, -, -⟩ := hSy.cells; obtain ⟨sz0, sz1, -, -⟩ := hSz.cells; clear hSx hSy hSz; go_simp; first | done | with_reducible rfl)
              try simp only [Act.put, List.setIfInBounds_toArray, List.set_cons_zero, List.set_cons_succ]
              refine wpAnyH_take (i := 21) (oi := ?_) (v := ?_) (by simp only [List.getElem?_toArray, List.getElem?_cons_zero, List.getElem?_cons_succ]; rfl) (by kernel_rfl) (by kernel_rfl) (by kernel_rfl) (by exact fun _ _ _ h => h) (Or.inl ⟨by rfl, ?_⟩) (by assumption) ?_
              rotate_left
              · (intro w hSw; (try dsimp only at hSw); obtain ⟨hSx, hSy, hSz⟩ := hSw; obtain ⟨sx0, sx1, -, -⟩ := hSx.cells; obtain ⟨sy0, sy1, -, -⟩ := hSy.cells; obtain ⟨sz0, sz1, -, -⟩ := hSz.cells; clear hSx hSy hSz; go_simp; first | done | with_reducible rfl)
              try simp only [Act.put, List.setIfInBounds_toArray, List.set_cons_zero, List.set_cons_succ]
              refine wpAnyH_ready (rs := [22]) (by kernel_rfl) (by simp) ?_
              refine AllReadyH.cons (o := ?_) (by simp only [List.getElem?_toArray, List.getElem?_cons_zero, List.getElem?_cons_succ]; rfl) (fun K hK => ?_) ?_
              · go_simp
                refine (awake7_any _).mono ?_
                rintro e w5 ⟨rfl, hb⟩
                have HB2 := As.mk (HB.out.trans (hb.mono HB.out.size))
                have hS2 := And.intro (hHeld.1.below hb) (And.intro (hHeld.2.1.below hb) (hHeld.2.2.below hb))
                clear hb HB
                have HB := HB2
                clear HB2
                dsimp only
                refine hK.out _ _ ?_ (fun hHeld2 => ?_)
                · exact hS2
                clear hK K hHeld
                have hHeld := hHeld2
                clear hHeld2
                try simp only [Act.put, List.setIfInBounds_toArray, List.set_cons_zero, List.set_cons_succ]
                refine wpAnyH_take (i := 23) (oi := ?_) (v := ?_) (by simp only [List.getElem?_toArray, List.getElem?_cons_zero, List.getElem?_cons_succ]; rfl) (by kernel_rfl) (by kernel_rfl) (by kernel_rfl) (by exact fun _ _ _ h => h) (Or.inl ⟨by rfl, ?_⟩) (by assumption) ?_
                rotate_left
                · (intro w hSw; (try dsimp only at hSw); obtain ⟨hSx, hSy, hSz⟩ := hSw; obtain ⟨sx0, sx1, -, -⟩ := hSx.cells; obtain ⟨sy0, sy1, -, -⟩ := hSy.cells; obtain ⟨sz0, sz1, -, -⟩ := hSz.cells; clear hSx hSy hSz; go_simp; first | done | with_reducible rfl)
                try simp only [Act.put, List.setIfInBounds_toArray, List.set_cons_zero, List.set_cons_succ]
                refine wpAnyH_take (i := 24) (oi := ?_) (v := ?_) (by simp only [List.getElem?_toArray, List.getElem?_cons_zero, List.getElem?_cons_succ]; rfl) (by kernel_rfl) (by kernel_rfl) (by kernel_rfl) (by exact fun _ _ _ h => h) (Or.inl ⟨by rfl, ?_⟩) (by assumption) ?_
                rotate_left
                · (intro w hSw; (try dsimp only at hSw); obtain ⟨hSx, hSy, hSz⟩ := hSw; obtain ⟨sx0, sx1, -, -⟩ := hSx.cells; obtain ⟨sy0, sy1, -, -⟩ := hSy.cells; obtain ⟨sz0, sz1, -, -⟩ := hSz.cells; clear hSx hSy hSz; go_simp; first | done | with_reducible rfl)
                try simp only [Act.put, List.setIfInBounds_toArray, List.set_cons_zero, List.set_cons_succ]
                refine wpAnyH_done (by kernel_rfl) ?_ _
                go_wp2
                go_ret
                exact ⟨rfl, HB.out⟩
              exact AllReadyH.nil
            exact AllReadyH.nil
          exact AllReadyH.nil
        exact AllReadyH.nil
      exact AllReadyH.nil
theorem rateMeans_row (per : Int) (w0 : (Lit.int .i64 per).wf = true) (size : Int) (w1 : (Lit.int .i64 size).wf = true) (fa sa : Int) (w2 : (Lit.int .u64 fa).wf = true) (w3 : (Lit.int .i64 sa).wf = true) (fb sb : Int) (w4 : (Lit.int .u64 fb).wf = true) (w5 : (Lit.int .i64 sb).wf = true) (w : World) :
    Calls Try.prog 11 #[.int .i64 per, .int .i64 size, .agg #[.int .u64 fa, .int .i64 sa], .agg #[.int .u64 fb, .int .i64 sb]] w fun e w' => e = .returned (.bool true) ∧ Below w.heap.size w w' :=
  rateMeans_walk per size fa sa fb sb (bounds_u64 w2).1 (bounds_u64 w4).1 w
end Go.Proofs.Ytfbfdmgnicgalaa.W
