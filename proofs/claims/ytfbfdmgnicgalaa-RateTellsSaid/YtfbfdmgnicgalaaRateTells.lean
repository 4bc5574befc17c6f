/- Any two rates stand as the document says, any rate by a size has the fee, any fee the rate, that it says: the walk of RateTells. -/
import Derived.Test.YtfbfdmgnicgalaaR11
import Derived.Test.YtfbfdmgnicgalaaR12
import Derived.Test.YtfbfdmgnicgalaaRateOrder
import Derived.Lib.SmallJoins
set_option linter.unusedVariables false
set_option linter.unusedSimpArgs false
namespace Go.Proofs.Ytfbfdmgnicgalaa.W
open Go.RowKit Go.Proofs.Ytfbfdmgnicgalaa.B Go.Proofs

theorem compare_ref_to (f1 s1 f2 s2 r : Int) (hq : cmpR f1 s1 f2 s2 = r) (a0 : 0 ≤ f1) (a1 : f1 < 18446744073709551616) (b0 : 0 ≤ f2) (b1 : f2 < 18446744073709551616) (g1 : s1 ≤ 9223372036854775807) (g2 : s2 ≤ 9223372036854775807) (w : World) :
    Calls Try.prog 23 #[.agg #[.int .u64 f1, .int .i64 s1], .agg #[.int .u64 f2, .int .i64 s2]] w fun e w' => e = .returned (.int .i64 r) ∧ Below w.heap.size w w' := by
  obtain ⟨m, rfl⟩ := Int.eq_ofNat_of_zero_le a0
  obtain ⟨n, rfl⟩ := Int.eq_ofNat_of_zero_le b0
  rw [← hq]
  exact compare_ref m n s1 s2 (by omega) (by omega) g1 g2 w
theorem need_ref_to (p n r : Int) (hq : (needR p.toNat n : Int) = r) (p0 : 0 ≤ p) (p1 : p < 18446744073709551616) (w : World) :
    Calls Try.prog 25 #[.int .u64 p, .int .i64 n] w fun e w' => e = .returned (.int .u64 r) ∧ w = w' := by
  obtain ⟨m, rfl⟩ := Int.eq_ofNat_of_zero_le p0
  rw [← hq]
  exact need_ref m n (by omega) w
theorem per_ref_to (f s r : Int) (hq : (perR f.toNat s : Int) = r) (p0 : 0 ≤ f) (p1 : f < 18446744073709551616) (hs : s ≤ 9223372036854775807) (w : World) :
    Calls Try.prog 24 #[.agg #[.int .u64 f, .int .i64 s]] w fun e w' => e = .returned (.int .u64 r) ∧ Below w.heap.size w w' := by
  obtain ⟨m, rfl⟩ := Int.eq_ofNat_of_zero_le p0
  rw [← hq]
  exact per_ref m s (by omega) hs w
theorem cmp_neg (f1 s1 f2 s2 : Int) : cmpR f2 s2 f1 s1 = -cmpR f1 s1 f2 s2 := by
  unfold cmpR
  rcases sgn_cases (f1 * szI s2) (f2 * szI s1) with ⟨h, h1⟩ | ⟨h, h1⟩ | ⟨h, h1⟩
  · rw [h, sgn_gt _ _ h1]; rfl
  · rw [h, sgn_eq _ _ h1.symm]; rfl
  · rw [h, sgn_lt _ _ h1]
theorem cmp_bounds (f1 s1 f2 s2 : Int) : -1 ≤ cmpR f1 s1 f2 s2 ∧ cmpR f1 s1 f2 s2 ≤ 1 := by
  unfold cmpR sgn
  split
  · omega
  · split <;> omega
/-- Rates in a block of their own. -/
def Row (W : World) (g : Nat) (X : List (Nat × Int)) : Prop := W.heap[g]? = some (.cells (rcells X).toArray 40 (0, 0))
theorem Row.below {W W' : World} {g : Nat} {X : List (Nat × Int)} (h : Row W g X) (hb : Below W.heap.size W W') : Row W' g X := blk_below h hb
theorem Row.at {W : World} {g : Nat} {X : List (Nat × Int)} (h : Row W g X) (k : Nat) (hk : k < X.length) : W.cell? ⟨g, k * 2, none⟩ = some (.int .u64 ((X[k]).1 : Int)) ∧ W.cell? ⟨g, k * 2 + 1, none⟩ = some (.int .i64 (X[k]).2) := by
  obtain ⟨e1, e2⟩ := rcells_at X k hk
  rw [Go.Joins.cell_of_block h, Go.Joins.cell_of_block h]
  exact ⟨by simpa using e1, by simpa using e2⟩
/-- Two rates, and one near the first. -/
def Tri (W : World) (A B C : Nat) (fa : Int) (sa : Int) (fb : Int) (sb : Int) (fn : Int) : Prop := Rt W A fa sa ∧ Rt W B fb sb ∧ Rt W C fn sa
theorem Tri.below {W W' : World} {A B C : Nat} {fa sa fb sb fn : Int} (h : Tri W A B C fa sa fb sb fn) (hb : Below W.heap.size W W') : Tri W' A B C fa sa fb sb fn :=
  ⟨h.1.below hb, h.2.1.below hb, h.2.2.below hb⟩
/-- What the rounds over rates leave as it is. -/
def Env (w W : World) (A B C : Nat) (fa sa fb sb fn : Int) (G : Nat) (X : List (Nat × Int)) : Prop := Below w.heap.size w W ∧ Tri W A B C fa sa fb sb fn ∧ Row W G X
theorem Env.below {w W W' : World} {A B C : Nat} {fa sa fb sb fn : Int} {G : Nat} {X : List (Nat × Int)} (h : Env w W A B C fa sa fb sb fn G X) (hb : Below W.heap.size W W') : Env w W' A B C fa sa fb sb fn G X :=
  ⟨h.1.trans (hb.mono h.1.size), h.2.1.below hb, h.2.2.below hb⟩
/-- Numbers in a block of their own. -/
def Nums (k : IntKind) (t : TypeId) (W : World) (g : Nat) (X : List Int) : Prop := W.heap[g]? = some (.cells (X.map (Value.int k)).toArray t (0, 0))
theorem Nums.below {k : IntKind} {t : TypeId} {W W' : World} {g : Nat} {X : List Int} (h : Nums k t W g X) (hb : Below W.heap.size W W') : Nums k t W' g X := blk_below h hb
theorem Nums.at {q : IntKind} {t : TypeId} {W : World} {g : Nat} {X : List Int} (h : Nums q t W g X) (k : Nat) (hk : k < X.length) : W.cell? ⟨g, k, none⟩ = some (.int q X[k]) := by
  rw [Go.Joins.cell_of_block h]
  simp [hk]
theorem sumR (l : List (Nat × Int)) : addF l < 18446744073709551616 := Nat.mod_lt _ (by decide)
set_option maxRecDepth 100000 in
set_option maxHeartbeats 8000000 in
theorem rateTells_walk (fa fb per : Nat) (sa sb n : Int) (A : Option Addr) (c : Nat) (l : List (Nat × Int)) (ha : fa < 18446744073709551616) (hb : fb < 18446744073709551616) (hp : per < 18446744073709551616)
    (hsa : sa ≤ 9223372036854775807) (hsb : sb ≤ 9223372036854775807) (w : World) (hr : RdS w 2 (.slice A l.length c) l.length (rcells l)) (hf : ∀ r ∈ l, r.1 < 18446744073709551616) :
    Calls Try.prog 10 #[.agg #[.int .u64 (fa : Int), .int .i64 sa], .agg #[.int .u64 (fb : Int), .int .i64 sb], .int .u64 (per : Int), .int .i64 n, .slice A l.length c] w fun e w' => e = .returned (.bool true) ∧ Below w.heap.size w w' := by
  have HR := As.mk hr
  have HF := As.mk hf
  have hlm : (l.length : Int) ≤ 9223372036854775807 := by
    obtain ⟨_, A', c', he, h1, h2, _⟩ := hr
    unfold maxLen at h2
    omega
  clear hr hf
  have HB0 : As (Below w.heap.size w ((w.alloc (.cells #[.int .u64 (fa : Int), .int .i64 sa] 40)).alloc (.cells #[.int .u64 (fb : Int), .int .i64 sb] 40))) := ⟨((Below.refl _ _).alloc (Nat.le_refl _) _).alloc (by simp) _⟩
  have HA0 : As (Rt ((w.alloc (.cells #[.int .u64 (fa : Int), .int .i64 sa] 40)).alloc (.cells #[.int .u64 (fb : Int), .int .i64 sb] 40)) w.heap.size fa sa ∧ Rt ((w.alloc (.cells #[.int .u64 (fa : Int), .int .i64 sa] 40)).alloc (.cells #[.int .u64 (fb : Int), .int .i64 sb] 40)) (w.heap.size + 1) fb sb) := ⟨by
    refine ⟨Rt.alloc (Rt.new w fa sa) _, ?_⟩
    have := Rt.new (w.alloc (.cells #[.int .u64 (fa : Int), .int .i64 sa] 40)) fb sb
    simpa using this⟩
  by_cases c40 : (40 : Int) < l.length
  · have HX := As.mk HR.out
    clear ha hb hp HA0
    go_enter Try.func10, Try.ntmps10
    go_wp2_with (go_at_call 21; (with_reducible refine (awake7_any _).mono ?_); rintro e w' ⟨rfl, hb⟩; have HBa := As.mk hb; clear hb)
    go_ret
    exact ⟨rfl, HB0.out.trans (HBa.out.mono (by have := HB0.out.size; simp; omega))⟩
  have c40' : ¬ (l.length : Int) > 40 := c40
  obtain ⟨n3, hn3⟩ : ∃ x, x = n % 2 ^ 2 := ⟨_, rfl⟩
  have b3 : 0 ≤ n3 ∧ n3 ≤ 3 := by omega
  have m3 : bits .and .i64 n 3 = n3 := by rw [i64_mask n _ 2 (by decide) (by decide), hn3]
  obtain ⟨nf, hnf⟩ : ∃ x : Nat, (x : Int) = ((fa : Int) + n3 - 1) % 18446744073709551616 := ⟨(((fa : Int) + n3 - 1) % 18446744073709551616).toNat, by omega⟩
  have hnfl : nf < 18446744073709551616 := by omega
  obtain ⟨fs, hfs⟩ : ∃ x, x = IntKind.u64.wrap ((fa : Int) + n3) := ⟨_, rfl⟩
  have e1 : IntKind.u64.wrap ((fa : Int) + n3) = fs := hfs.symm
  have e2 : IntKind.u64.wrap (fs - 1) = (nf : Int) := by rw [IntKind.wrap_u64] at hfs ⊢; omega
  have hc3 : IntKind.u64.wrap n3 = n3 := IntWalk.u64_in _ (by omega)
  obtain ⟨fm, hfm⟩ : ∃ x, x = fa % 65536 := ⟨_, rfl⟩
  obtain ⟨gm, hgm⟩ : ∃ x, x = fb % 65536 := ⟨_, rfl⟩
  obtain ⟨tb, htb⟩ : ∃ x, x = sb % 2 ^ 8 := ⟨_, rfl⟩
  obtain ⟨ta, hta⟩ : ∃ x, x = sa % 2 ^ 8 := ⟨_, rfl⟩
  have m4 : bits .and .u64 (fa : Int) 65535 = (fm : Int) := by rw [u64_mask _ _ 16 (by decide) (by decide), hfm]; rfl
  have m5 : bits .and .u64 (fb : Int) 65535 = (gm : Int) := by rw [u64_mask _ _ 16 (by decide) (by decide), hgm]; rfl
  have m6 : bits .and .i64 sb 255 = tb := by rw [i64_mask sb _ 8 (by decide) (by decide), htb]
  have m7 : bits .and .i64 sa 255 = ta := by rw [i64_mask sa _ 8 (by decide) (by decide), hta]
  have hta' : ta ≤ 9223372036854775807 := by omega
  have htb' : tb ≤ 9223372036854775807 := by omega
  obtain ⟨X, hX⟩ : ∃ X : List (Nat × Int), X = [(fa, sa), (fb, sb), (nf, sa), (fm, tb)] := ⟨_, rfl⟩
  obtain ⟨Y, hY⟩ : ∃ X : List (Nat × Int), X = [(fa, sa), (fb, sb), (nf, sa), (gm, ta)] := ⟨_, rfl⟩
  have hXb : ∀ r ∈ X, r.1 < 18446744073709551616 ∧ r.2 ≤ 9223372036854775807 := by
    rw [hX]
    intro r hr
    simp only [List.mem_cons, List.not_mem_nil, or_false] at hr
    rcases hr with rfl | rfl | rfl | rfl <;> exact ⟨by first | assumption | omega, by first | assumption | omega⟩
  have hYb : ∀ r ∈ Y, r.1 < 18446744073709551616 ∧ r.2 ≤ 9223372036854775807 := by
    rw [hY]
    intro r hr
    simp only [List.mem_cons, List.not_mem_nil, or_false] at hr
    rcases hr with rfl | rfl | rfl | rfl <;> exact ⟨by first | assumption | omega, by first | assumption | omega⟩
  have hXl : X.length = 4 := by rw [hX]; rfl
  have hYl : Y.length = 4 := by rw [hY]; rfl
  have HXB := As.mk hXb
  have HYB := As.mk hYb
  have HXL := As.mk hXl
  have HYL := As.mk hYl
  have HXE := As.mk hX
  have HYE := As.mk hY
  have HPER := As.mk hp
  clear hX hY hXb hYb hXl hYl hta hta' htb htb' hgm hfm hfs hnf hn3 ha hb hp c40 hnfl hsa hsb
  go_enter Try.func10, Try.ntmps10
  go_upto_region 3 with (fail)
  obtain ⟨W, hW⟩ : ∃ W, W = ((w.alloc (.cells #[.int .u64 (fa : Int), .int .i64 sa] 40)).alloc (.cells #[.int .u64 (fb : Int), .int .i64 sb] 40)) := ⟨_, rfl⟩
  rw [← hW] at HA0 HB0 ⊢
  clear hW
  obtain ⟨BA, hBA⟩ : ∃ B, B = w.heap.size := ⟨_, rfl⟩
  obtain ⟨BB, hBB⟩ : ∃ B, B = w.heap.size + 1 := ⟨_, rfl⟩
  rw [← hBB, ← hBA] at HA0
  rw [← hBB, ← hBA]
  clear hBA hBB
  obtain ⟨a0, a1, -, -⟩ := HA0.out.1.cells
  obtain ⟨b0, b1, -, -⟩ := HA0.out.2.cells
  go_upto_region 4 with (fail)
  have HT : As (Tri (W.alloc (.cells #[.int .u64 (nf : Int), .int .i64 sa] 40)) BA BB W.heap.size fa sa fb sb nf) := ⟨HA0.out.1.alloc _, HA0.out.2.alloc _, Rt.new _ _ _⟩
  have HB1 : As (Below w.heap.size w (W.alloc (.cells #[.int .u64 (nf : Int), .int .i64 sa] 40))) := ⟨HB0.out.alloc HB0.out.size _⟩
  clear a0 a1 b0 b1 HA0 HB0 e1 e2 hc3 m3
  generalize (W.alloc (.cells #[.int .u64 (nf : Int), .int .i64 sa] 40)) = W1 at *
  generalize W.heap.size = BN at *
  obtain ⟨a0, a1, -, -⟩ := HT.out.1.cells
  obtain ⟨b0, b1, -, -⟩ := HT.out.2.1.cells
  obtain ⟨n0, n1, -, -⟩ := HT.out.2.2.cells
  go_upto_block 0 with (fail)
  have HX0 : As (Row (W1.alloc (.cells #[.int .u64 (fa : Int), .int .i64 sa, .int .u64 (fb : Int), .int .i64 sb, .int .u64 (nf : Int), .int .i64 sa, .int .u64 (fm : Int), .int .i64 tb] 40)) W1.heap.size X) := ⟨by
    unfold Row
    rw [HXE.out]
    exact heap_alloc_new _ _⟩
  have HT2 : As (Tri (W1.alloc (.cells #[.int .u64 (fa : Int), .int .i64 sa, .int .u64 (fb : Int), .int .i64 sb, .int .u64 (nf : Int), .int .i64 sa, .int .u64 (fm : Int), .int .i64 tb] 40)) BA BB BN fa sa fb sb nf) := ⟨HT.out.below ((Below.refl _ _).alloc (Nat.le_refl _) _)⟩
  have HB2 : As (Below w.heap.size w (W1.alloc (.cells #[.int .u64 (fa : Int), .int .i64 sa, .int .u64 (fb : Int), .int .i64 sb, .int .u64 (nf : Int), .int .i64 sa, .int .u64 (fm : Int), .int .i64 tb] 40))) := ⟨HB1.out.alloc HB1.out.size _⟩
  clear a0 a1 b0 b1 n0 n1 HT HB1
  generalize (W1.alloc (.cells #[.int .u64 (fa : Int), .int .i64 sa, .int .u64 (fb : Int), .int .i64 sb, .int .u64 (nf : Int), .int .i64 sa, .int .u64 (fm : Int), .int .i64 tb] 40)) = W2 at *
  generalize W1.heap.size = GX at *
  go_cut [46] (fun v46 wc => ∃ x, v46 = .int .i64 x ∧ As (Below w.heap.size w wc))
  case first =>
    go_wp2_with fail
    go_loopw [46] (fun v46 wr => ∃ k : Nat, (k : Int) ≤ 4 ∧ v46 = .int .i64 (k : Int) ∧ As (Env w wr BA BB BN fa sa fb sb nf GX X)) (fun v46 _ => 4 - (intOf v46).toNat)
    case atStart => exact ⟨0, by omega, rfl, ⟨HB2.out, HT2.out, HX0.out⟩⟩
    case round =>
      obtain ⟨k, hk, rfl, HE⟩ := hrel
      by_cases hlt : (k : Int) < 4
      · have hkX : k < X.length := by rw [HXL.out]; omega
        obtain ⟨x0, x1⟩ := HE.out.2.2.at k hkX
        have hxb := HXB.out X[k] (List.getElem_mem hkX)
        obtain ⟨f, hf⟩ : ∃ f : Int, f = ((X[k]).1 : Int) := ⟨_, rfl⟩
        obtain ⟨s, hs⟩ : ∃ f : Int, f = (X[k]).2 := ⟨_, rfl⟩
        rw [← hf] at x0
        rw [← hs] at x1
        have f0 : 0 ≤ f := by omega
        have f1 : f < 18446744073709551616 := by omega
        have s1 : s ≤ 9223372036854775807 := by omega
        clear hf hs hxb hkX
        go_upto_region 7 with (fail)
        have HX1 : As (Rt (wr.alloc (.cells #[.int .u64 f, .int .i64 s] 40)) wr.heap.size f s) := ⟨Rt.new _ _ _⟩
        have HE1 : As (Below w.heap.size w (wr.alloc (.cells #[.int .u64 f, .int .i64 s] 40)) ∧ Tri (wr.alloc (.cells #[.int .u64 f, .int .i64 s] 40)) BA BB BN fa sa fb sb nf ∧ Row (wr.alloc (.cells #[.int .u64 f, .int .i64 s] 40)) GX X) :=
          ⟨HE.out.1.alloc HE.out.1.size _, HE.out.2.1.below ((Below.refl _ _).alloc (Nat.le_refl _) _), HE.out.2.2.below ((Below.refl _ _).alloc (Nat.le_refl _) _)⟩
        have hM : As (wr.heap.size ≤ (wr.alloc (.cells #[.int .u64 f, .int .i64 s] 40)).heap.size) := ⟨by simp⟩
        clear HE x0 x1
        generalize (wr.alloc (.cells #[.int .u64 f, .int .i64 s] 40)) = W3 at *
        generalize wr.heap.size = BX at *
        obtain ⟨a0, a1, -, -⟩ := HE1.out.2.1.1.cells
        obtain ⟨b0, b1, -, -⟩ := HE1.out.2.1.2.1.cells
        obtain ⟨n0, n1, -, -⟩ := HE1.out.2.1.2.2.cells
        go_upto_block 2 with (fail)
        have HY0 : As (Row (W3.alloc (.cells #[.int .u64 (fa : Int), .int .i64 sa, .int .u64 (fb : Int), .int .i64 sb, .int .u64 (nf : Int), .int .i64 sa, .int .u64 (gm : Int), .int .i64 ta] 40)) W3.heap.size Y) := ⟨by
          unfold Row
          rw [HYE.out]
          exact heap_alloc_new _ _⟩
        have HX2 : As (Rt (W3.alloc (.cells #[.int .u64 (fa : Int), .int .i64 sa, .int .u64 (fb : Int), .int .i64 sb, .int .u64 (nf : Int), .int .i64 sa, .int .u64 (gm : Int), .int .i64 ta] 40)) BX f s) := ⟨HX1.out.alloc _⟩
        have HE2 : As (Below w.heap.size w (W3.alloc (.cells #[.int .u64 (fa : Int), .int .i64 sa, .int .u64 (fb : Int), .int .i64 sb, .int .u64 (nf : Int), .int .i64 sa, .int .u64 (gm : Int), .int .i64 ta] 40)) ∧ Tri (W3.alloc (.cells #[.int .u64 (fa : Int), .int .i64 sa, .int .u64 (fb : Int), .int .i64 sb, .int .u64 (nf : Int), .int .i64 sa, .int .u64 (gm : Int), .int .i64 ta] 40)) BA BB BN fa sa fb sb nf ∧ Row (W3.alloc (.cells #[.int .u64 (fa : Int), .int .i64 sa, .int .u64 (fb : Int), .int .i64 sb, .int .u64 (nf : Int), .int .i64 sa, .int .u64 (gm : Int), .int .i64 ta] 40)) GX X) :=
          ⟨HE1.out.1.alloc HE1.out.1.size _, HE1.out.2.1.below ((Below.refl _ _).alloc (Nat.le_refl _) _), HE1.out.2.2.below ((Below.refl _ _).alloc (Nat.le_refl _) _)⟩
        clear a0 a1 b0 b1 n0 n1 HE1 HX1 hM
        generalize (W3.alloc (.cells #[.int .u64 (fa : Int), .int .i64 sa, .int .u64 (fb : Int), .int .i64 sb, .int .u64 (nf : Int), .int .i64 sa, .int .u64 (gm : Int), .int .i64 ta] 40)) = W4 at *
        generalize W3.heap.size = GY at *
        go_cut [62] (fun v62 wc => ∃ x, v62 = .int .i64 x ∧ As (Env w wc BA BB BN fa sa fb sb nf GX X ∧ Rt wc BX f s))
        case first =>
          go_wp2_with fail
          obtain ⟨wo, hwo⟩ : ∃ wo : World, wo = wr := ⟨_, rfl⟩
          go_loopw [62] (fun v62 wr => ∃ j : Nat, (j : Int) ≤ 4 ∧ v62 = .int .i64 (j : Int) ∧ As (Env w wr BA BB BN fa sa fb sb nf GX X ∧ Rt wr BX f s ∧ Row wr GY Y)) (fun v62 _ => 4 - (intOf v62).toNat)
          case atStart => exact ⟨0, by omega, rfl, ⟨HE2.out, HX2.out, HY0.out⟩⟩
          case round =>
            obtain ⟨j, hj, rfl, HI⟩ := hrel
            by_cases hlj : (j : Int) < 4
            · have hjY : j < Y.length := by rw [HYL.out]; omega
              obtain ⟨y0, y1⟩ := HI.out.2.2.at j hjY
              have hyb := HYB.out Y[j] (List.getElem_mem hjY)
              obtain ⟨g, hg⟩ : ∃ f : Int, f = ((Y[j]).1 : Int) := ⟨_, rfl⟩
              obtain ⟨t, ht⟩ : ∃ f : Int, f = (Y[j]).2 := ⟨_, rfl⟩
              rw [← hg] at y0
              rw [← ht] at y1
              have g0 : 0 ≤ g := by omega
              have g1 : g < 18446744073709551616 := by omega
              have t1 : t ≤ 9223372036854775807 := by omega
              clear hg ht hyb hjY
              go_upto_region 10 with (fail)
              have HY1 : As (Rt (wr.alloc (.cells #[.int .u64 g, .int .i64 t] 40)) wr.heap.size g t) := ⟨Rt.new _ _ _⟩
              have HI1 : As (Env w (wr.alloc (.cells #[.int .u64 g, .int .i64 t] 40)) BA BB BN fa sa fb sb nf GX X ∧ Rt (wr.alloc (.cells #[.int .u64 g, .int .i64 t] 40)) BX f s ∧ Row (wr.alloc (.cells #[.int .u64 g, .int .i64 t] 40)) GY Y) :=
                ⟨HI.out.1.below ((Below.refl _ _).alloc (Nat.le_refl _) _), HI.out.2.1.alloc _, HI.out.2.2.below ((Below.refl _ _).alloc (Nat.le_refl _) _)⟩
              clear HI y0 y1
              generalize (wr.alloc (.cells #[.int .u64 g, .int .i64 t] 40)) = W5 at *
              generalize wr.heap.size = BY at *
              obtain ⟨r, hr⟩ : ∃ r, r = cmpR f s g t := ⟨_, rfl⟩
              have hr1 := cmp_bounds f s g t
              have hr2 := cmp_neg f s g t
              rw [← hr] at hr1 hr2
              have HQ1 := As.mk hr.symm
              have HQ2 := As.mk hr2
              have hn1 : IntKind.i64.wrap (- -r) = r := by rw [Int.neg_neg]; exact IntWalk.i64_in _ (by omega)
              have hn2 : IntKind.i64.wrap r = r := IntWalk.i64_in _ (by omega)
              clear hr hr1 hr2
              refine wp_region_held_drew (S := (fun W : World => Env w W BA BB BN fa sa fb sb nf GX X ∧ Rt W BX f s ∧ Row W GY Y ∧ Rt W BY g t)) (by kernel_rfl) ?_ (fun hHeld => ?_)
              · exact ⟨HI1.out.1.below (Below.refl _ _).drew, HI1.out.2.1.drew, HI1.out.2.2.below (Below.refl _ _).drew, HY1.out.drew⟩
              refine wpAnyH_take (i := 0) (oi := ?_) (v := ?_) (by simp only [List.getElem?_toArray, List.getElem?_cons_zero, List.getElem?_cons_succ]; rfl) (by kernel_rfl) (by kernel_rfl) (by kernel_rfl) (by exact fun _ _ _ h => h) (Or.inl ⟨by rfl, ?_⟩) (by assumption) ?_
              rotate_left
              · (intro w hSw; (try dsimp only at hSw); obtain ⟨-, hSx, -, hSy⟩ := hSw; obtain ⟨sx0, sx1, -, -⟩ := hSx.cells; obtain ⟨sy0, sy1, -, -⟩ := hSy.cells; clear hSx hSy; go_simp; first | done | with_reducible rfl)
              try simp only [Act.put, List.setIfInBounds_toArray, List.set_cons_zero, List.set_cons_succ]
              refine wpAnyH_take (i := 1) (oi := ?_) (v := ?_) (by simp only [List.getElem?_toArray, List.getElem?_cons_zero, List.getElem?_cons_succ]; rfl) (by kernel_rfl) (by kernel_rfl) (by kernel_rfl) (by exact fun _ _ _ h => h) (Or.inl ⟨by rfl, ?_⟩) (by assumption) ?_
              rotate_left
              · (intro w hSw; (try dsimp only at hSw); obtain ⟨-, hSx, -, hSy⟩ := hSw; obtain ⟨sx0, sx1, -, -⟩ := hSx.cells; obtain ⟨sy0, sy1, -, -⟩ := hSy.cells; clear hSx hSy; go_simp; first | done | with_reducible rfl)
              try simp only [Act.put, List.setIfInBounds_toArray, List.set_cons_zero, List.set_cons_succ]
              refine wpAnyH_take (i := 3) (oi := ?_) (v := ?_) (by simp only [List.getElem?_toArray, List.getElem?_cons_zero, List.getElem?_cons_succ]; rfl) (by kernel_rfl) (by kernel_rfl) (by kernel_rfl) (by exact fun _ _ _ h => h) (Or.inl ⟨by rfl, ?_⟩) (by assumption) ?_
              rotate_left
              · (intro w hSw; (try dsimp only at hSw); obtain ⟨-, hSx, -, hSy⟩ := hSw; obtain ⟨sx0, sx1, -, -⟩ := hSx.cells; obtain ⟨sy0, sy1, -, -⟩ := hSy.cells; clear hSx hSy; go_simp; first | done | with_reducible rfl)
              try simp only [Act.put, List.setIfInBounds_toArray, List.set_cons_zero, List.set_cons_succ]
              refine wpAnyH_take (i := 4) (oi := ?_) (v := ?_) (by simp only [List.getElem?_toArray, List.getElem?_cons_zero, List.getElem?_cons_succ]; rfl) (by kernel_rfl) (by kernel_rfl) (by kernel_rfl) (by exact fun _ _ _ h => h) (Or.inl ⟨by rfl, ?_⟩) (by assumption) ?_
              rotate_left
              · (intro w hSw; (try dsimp only at hSw); obtain ⟨-, hSx, -, hSy⟩ := hSw; obtain ⟨sx0, sx1, -, -⟩ := hSx.cells; obtain ⟨sy0, sy1, -, -⟩ := hSy.cells; clear hSx hSy; go_simp; first | done | with_reducible rfl)
              try simp only [Act.put, List.setIfInBounds_toArray, List.set_cons_zero, List.set_cons_succ]
              refine wpAnyH_ready (rs := [2]) (by kernel_rfl) (by simp) ?_
              refine AllReadyH.cons (o := ?_) (by simp only [List.getElem?_toArray, List.getElem?_cons_zero, List.getElem?_cons_succ]; rfl) (fun K hK => ?_) ?_
              · go_simp
                refine (compare_to f s g t r HQ1.out (by omega) (by omega) (by omega) (by omega) (by omega) (by omega) _).mono ?_
                rintro e w6 ⟨rfl, hb⟩
                have hS2 := And.intro (hHeld.1.below hb) (And.intro (hHeld.2.1.below hb) (And.intro (hHeld.2.2.1.below hb) (hHeld.2.2.2.below hb)))
                clear hb
                dsimp only
                refine hK.out _ _ ?_ (fun hHeld2 => ?_)
                · exact hS2
                clear hK K hHeld
                have hHeld := hHeld2
                clear hHeld2
                try simp only [Act.put, List.setIfInBounds_toArray, List.set_cons_zero, List.set_cons_succ]
                refine wpAnyH_ready (rs := [5]) (by kernel_rfl) (by simp) ?_
                refine AllReadyH.cons (o := ?_) (by simp only [List.getElem?_toArray, List.getElem?_cons_zero, List.getElem?_cons_succ]; rfl) (fun K hK => ?_) ?_
                · go_simp
                  refine (compare_ref_to f s g t r HQ1.out (by omega) (by omega) (by omega) (by omega) (by omega) (by omega) _).mono ?_
                  rintro e w6 ⟨rfl, hb⟩
                  have hS2 := And.intro (hHeld.1.below hb) (And.intro (hHeld.2.1.below hb) (And.intro (hHeld.2.2.1.below hb) (hHeld.2.2.2.below hb)))
                  clear hb
                  dsimp only
                  refine hK.out _ _ ?_ (fun hHeld2 => ?_)
                  · exact hS2
                  clear hK K hHeld
                  have hHeld := hHeld2
                  clear hHeld2
                  try simp only [Act.put, List.setIfInBounds_toArray, List.set_cons_zero, List.set_cons_succ]
                  refine wpAnyH_take (i := 6) (oi := ?_) (v := ?_) (by simp only [List.getElem?_toArray, List.getElem?_cons_zero, List.getElem?_cons_succ]; rfl) (by kernel_rfl) (by kernel_rfl) (by kernel_rfl) (by exact fun _ _ _ h => h) (Or.inl ⟨by rfl, ?_⟩) (by assumption) ?_
                  rotate_left
                  · (intro w hSw; (try dsimp only at hSw); obtain ⟨-, hSx, -, hSy⟩ := hSw; obtain ⟨sx0, sx1, -, -⟩ := hSx.cells; obtain ⟨sy0, sy1, -, -⟩ := hSy.cells; clear hSx hSy; go_simp; first | done | with_reducible rfl)
                  try simp only [Act.put, List.setIfInBounds_toArray, List.set_cons_zero, List.set_cons_succ]
                  refine wpAnyH_take (i := 7) (oi := ?_) (v := ?_) (by simp only [List.getElem?_toArray, List.getElem?_cons_zero, List.getElem?_cons_succ]; rfl) (by kernel_rfl) (by kernel_rfl) (by kernel_rfl) (by exact fun _ _ _ h => h) (Or.inl ⟨by rfl, ?_⟩) (by assumption) ?_
                  rotate_left
                  · (intro w hSw; (try dsimp only at hSw); obtain ⟨-, hSx, -, hSy⟩ := hSw; obtain ⟨sx0, sx1, -, -⟩ := hSx.cells; obtain ⟨sy0, sy1, -, -⟩ := hSy.cells; clear hSx hSy; go_simp; first | done | with_reducible rfl)
                  try simp only [Act.put, List.setIfInBounds_toArray, List.set_cons_zero, List.set_cons_succ]
                  refine wpAnyH_take (i := 8) (oi := ?_) (v := ?_) (by simp only [List.getElem?_toArray, List.getElem?_cons_zero, List.getElem?_cons_succ]; rfl) (by kernel_rfl) (by kernel_rfl) (by kernel_rfl) (by exact fun _ _ _ h => h) (Or.inl ⟨by rfl, ?_⟩) (by assumption) ?_
                  rotate_left
                  · (intro w hSw; (try dsimp only at hSw); obtain ⟨-, hSx, -, hSy⟩ := hSw; obtain ⟨sx0, sx1, -, -⟩ := hSx.cells; obtain ⟨sy0, sy1, -, -⟩ := hSy.cells; clear hSx hSy; go_simp; first | done | with_reducible rfl)
                  try simp only [Act.put, List.setIfInBounds_toArray, List.set_cons_zero, List.set_cons_succ]
                  refine wpAnyH_take (i := 9) (oi := ?_) (v := ?_) (by simp only [List.getElem?_toArray, List.getElem?_cons_zero, List.getElem?_cons_succ]; rfl) (by kernel_rfl) (by kernel_rfl) (by kernel_rfl) (by exact fun _ _ _ h => h) (Or.inl ⟨by rfl, ?_⟩) (by assumption) ?_
                  rotate_left
                  · (intro w hSw; (try dsimp only at hSw); obtain ⟨-, hSx, -, hSy⟩ := hSw; obtain ⟨sx0, sx1, -, -⟩ := hSx.cells; obtain ⟨sy0, sy1, -, -⟩ := hSy.cells; clear hSx hSy; go_simp; first | done | with_reducible rfl)
                  try simp only [Act.put, List.setIfInBounds_toArray, List.set_cons_zero, List.set_cons_succ]
                  refine wpAnyH_take (i := 11) (oi := ?_) (v := ?_) (by simp only [List.getElem?_toArray, List.getElem?_cons_zero, List.getElem?_cons_succ]; rfl) (by kernel_rfl) (by kernel_rfl) (by kernel_rfl) (by exact fun _ _ _ h => h) (Or.inl ⟨by rfl, ?_⟩) (by assumption) ?_
                  rotate_left
                  · (intro w hSw; (try dsimp only at hSw); obtain ⟨-, hSx, -, hSy⟩ := hSw; obtain ⟨sx0, sx1, -, -⟩ := hSx.cells; obtain ⟨sy0, sy1, -, -⟩ := hSy.cells; clear hSx hSy; go_simp; first | done | with_reducible rfl)
                  try simp only [Act.put, List.setIfInBounds_toArray, List.set_cons_zero, List.set_cons_succ]
                  refine wpAnyH_take (i := 12) (oi := ?_) (v := ?_) (by simp only [List.getElem?_toArray, List.getElem?_cons_zero, List.getElem?_cons_succ]; rfl) (by kernel_rfl) (by kernel_rfl) (by kernel_rfl) (by exact fun _ _ _ h => h) (Or.inl ⟨by rfl, ?_⟩) (by assumption) ?_
                  rotate_left
                  · (intro w hSw; (try dsimp only at hSw); obtain ⟨-, hSx, -, hSy⟩ := hSw; obtain ⟨sx0, sx1, -, -⟩ := hSx.cells; obtain ⟨sy0, sy1, -, -⟩ := hSy.cells; clear hSx hSy; go_simp; first | done | with_reducible rfl)
                  try simp only [Act.put, List.setIfInBounds_toArray, List.set_cons_zero, List.set_cons_succ]
                  refine wpAnyH_ready (rs := [10]) (by kernel_rfl) (by simp) ?_
                  refine AllReadyH.cons (o := ?_) (by simp only [List.getElem?_toArray, List.getElem?_cons_zero, List.getElem?_cons_succ]; rfl) (fun K hK => ?_) ?_
                  · go_simp
                    refine (compare_to f s g t r HQ1.out (by omega) (by omega) (by omega) (by omega) (by omega) (by omega) _).mono ?_
                    rintro e w6 ⟨rfl, hb⟩
                    have hS2 := And.intro (hHeld.1.below hb) (And.intro (hHeld.2.1.below hb) (And.intro (hHeld.2.2.1.below hb) (hHeld.2.2.2.below hb)))
                    clear hb
                    dsimp only
                    refine hK.out _ _ ?_ (fun hHeld2 => ?_)
                    · exact hS2
                    clear hK K hHeld
                    have hHeld := hHeld2
                    clear hHeld2
                    try simp only [Act.put, List.setIfInBounds_toArray, List.set_cons_zero, List.set_cons_succ]
                    refine wpAnyH_ready (rs := [13]) (by kernel_rfl) (by simp) ?_
                    refine AllReadyH.cons (o := ?_) (by simp only [List.getElem?_toArray, List.getElem?_cons_zero, List.getElem?_cons_succ]; rfl) (fun K hK => ?_) ?_
                    · go_simp
                      refine (compare_to g t f s (-r) HQ2.out (by omega) (by omega) (by omega) (by omega) (by omega) (by omega) _).mono ?_
                      rintro e w6 ⟨rfl, hb⟩
                      have hS2 := And.intro (hHeld.1.below hb) (And.intro (hHeld.2.1.below hb) (And.intro (hHeld.2.2.1.below hb) (hHeld.2.2.2.below hb)))
                      clear hb
                      dsimp only
                      refine hK.out _ _ ?_ (fun hHeld2 => ?_)
                      · exact hS2
                      clear hK K hHeld
                      have hHeld := hHeld2
                      clear hHeld2
                      try simp only [Act.put, List.setIfInBounds_toArray, List.set_cons_zero, List.set_cons_succ]
                      refine wpAnyH_take (i := 14) (oi := ?_) (v := ?_) (by simp only [List.getElem?_toArray, List.getElem?_cons_zero, List.getElem?_cons_succ]; rfl) (by kernel_rfl) (by kernel_rfl) (by kernel_rfl) (by exact fun _ _ _ h => h) (Or.inl ⟨by rfl, ?_⟩) (by assumption) ?_
                      rotate_left
                      · (intro w hSw; (try dsimp only at hSw); obtain ⟨-, hSx, -, hSy⟩ := hSw; obtain ⟨sx0, sx1, -, -⟩ := hSx.cells; obtain ⟨sy0, sy1, -, -⟩ := hSy.cells; clear hSx hSy; go_simp; first | done | with_reducible rfl)
                      try simp only [Act.put, List.setIfInBounds_toArray, List.set_cons_zero, List.set_cons_succ]
                      refine wpAnyH_take (i := 15) (oi := ?_) (v := ?_) (by simp only [List.getElem?_toArray, List.getElem?_cons_zero, List.getElem?_cons_succ]; rfl) (by kernel_rfl) (by kernel_rfl) (by kernel_rfl) (by exact fun _ _ _ h => h) (Or.inl ⟨by rfl, ?_⟩) (by assumption) ?_
                      rotate_left
                      · (intro w hSw; (try dsimp only at hSw); obtain ⟨-, hSx, -, hSy⟩ := hSw; obtain ⟨sx0, sx1, -, -⟩ := hSx.cells; obtain ⟨sy0, sy1, -, -⟩ := hSy.cells; clear hSx hSy; go_simp; first | done | with_reducible rfl)
                      try simp only [Act.put, List.setIfInBounds_toArray, List.set_cons_zero, List.set_cons_succ]
                      refine wpAnyH_take (i := 16) (oi := ?_) (v := ?_) (by simp only [List.getElem?_toArray, List.getElem?_cons_zero, List.getElem?_cons_succ]; rfl) (by kernel_rfl) (by kernel_rfl) (by kernel_rfl) (by exact fun _ _ _ h => h) (Or.inl ⟨by rfl, ?_⟩) (by assumption) ?_
                      rotate_left
                      · (intro w hSw; (try dsimp only at hSw); obtain ⟨-, hSx, -, hSy⟩ := hSw; obtain ⟨sx0, sx1, -, -⟩ := hSx.cells; obtain ⟨sy0, sy1, -, -⟩ := hSy.cells; clear hSx hSy; go_simp; first | done | with_reducible rfl)
                      try simp only [Act.put, List.setIfInBounds_toArray, List.set_cons_zero, List.set_cons_succ]
                      refine wpAnyH_done (by kernel_rfl) ?_ _
                      go_wp2_with fail
                      go_roundw
                      case rel => exact ⟨j + 1, by omega, by go_num, ⟨hHeld.1, hHeld.2.1, hHeld.2.2.1⟩⟩
                      case measure => simp [intOf]; omega
                    exact AllReadyH.nil
                  exact AllReadyH.nil
                exact AllReadyH.nil
              exact AllReadyH.nil
            · have hje : j = 4 := by omega
              subst hje
              go_wp2_with fail
              go_meet
              exact ⟨_, rfl, ⟨HI.out.1, HI.out.2.1⟩⟩
        case rest =>
          obtain ⟨x62, rfl, HI⟩ := hcut
          obtain ⟨q, hq⟩ : ∃ q : Int, q = (perR f.toNat s : Int) := ⟨_, rfl⟩
          have HQ := As.mk hq.symm
          clear hq HE2 HX2 HY0
          go_upto_region 13 with (fail)
          refine wp_region_held_drew (S := (fun W : World => Env w W BA BB BN fa sa fb sb nf GX X ∧ Rt W BX f s)) (by kernel_rfl) ?_ (fun hHeld => ?_)
          · exact ⟨HI.out.1.below (Below.refl _ _).drew, HI.out.2.drew⟩
          refine wpAnyH_take (i := 0) (oi := ?_) (v := ?_) (by simp only [List.getElem?_toArray, List.getElem?_cons_zero, List.getElem?_cons_succ]; rfl) (by kernel_rfl) (by kernel_rfl) (by kernel_rfl) (by exact fun _ _ _ h => h) (Or.inl ⟨by rfl, ?_⟩) (by assumption) ?_
          rotate_left
          · (intro w hSw; (try dsimp only at hSw); obtain ⟨-, hSx⟩ := hSw; obtain ⟨sx0, sx1, -, -⟩ := hSx.cells; clear hSx; go_simp; first | done | with_reducible rfl)
          try simp only [Act.put, List.setIfInBounds_toArray, List.set_cons_zero, List.set_cons_succ]
          refine wpAnyH_take (i := 2) (oi := ?_) (v := ?_) (by simp only [List.getElem?_toArray, List.getElem?_cons_zero, List.getElem?_cons_succ]; rfl) (by kernel_rfl) (by kernel_rfl) (by kernel_rfl) (by exact fun _ _ _ h => h) (Or.inl ⟨by rfl, ?_⟩) (by assumption) ?_
          rotate_left
          · (intro w hSw; (try dsimp only at hSw); obtain ⟨-, hSx⟩ := hSw; obtain ⟨sx0, sx1, -, -⟩ := hSx.cells; clear hSx; go_simp; first | done | with_reducible rfl)
          try simp only [Act.put, List.setIfInBounds_toArray, List.set_cons_zero, List.set_cons_succ]
          refine wpAnyH_ready (rs := [1]) (by kernel_rfl) (by simp) ?_
          refine AllReadyH.cons (o := ?_) (by simp only [List.getElem?_toArray, List.getElem?_cons_zero, List.getElem?_cons_succ]; rfl) (fun K hK => ?_) ?_
          · go_simp
            refine (per_to f s q HQ.out (by omega) (by omega) (by omega) _).mono ?_
            rintro e w6 ⟨rfl, hb⟩
            have hS2 := And.intro (hHeld.1.below hb) (hHeld.2.below hb)
            clear hb
            dsimp only
            refine hK.out _ _ ?_ (fun hHeld2 => ?_)
            · exact hS2
            clear hK K hHeld
            have hHeld := hHeld2
            clear hHeld2
            try simp only [Act.put, List.setIfInBounds_toArray, List.set_cons_zero, List.set_cons_succ]
            refine wpAnyH_ready (rs := [3]) (by kernel_rfl) (by simp) ?_
            refine AllReadyH.cons (o := ?_) (by simp only [List.getElem?_toArray, List.getElem?_cons_zero, List.getElem?_cons_succ]; rfl) (fun K hK => ?_) ?_
            · go_simp
              refine (per_ref_to f s q HQ.out (by omega) (by omega) (by omega) _).mono ?_
              rintro e w6 ⟨rfl, hb⟩
              have hS2 := And.intro (hHeld.1.below hb) (hHeld.2.below hb)
              clear hb
              dsimp only
              refine hK.out _ _ ?_ (fun hHeld2 => ?_)
              · exact hS2
              clear hK K hHeld
              have hHeld := hHeld2
              clear hHeld2
              try simp only [Act.put, List.setIfInBounds_toArray, List.set_cons_zero, List.set_cons_succ]
              refine wpAnyH_take (i := 4) (oi := ?_) (v := ?_) (by simp only [List.getElem?_toArray, List.getElem?_cons_zero, List.getElem?_cons_succ]; rfl) (by kernel_rfl) (by kernel_rfl) (by kernel_rfl) (by exact fun _ _ _ h => h) (Or.inl ⟨by rfl, ?_⟩) (by assumption) ?_
              rotate_left
              · (intro w hSw; (try dsimp only at hSw); obtain ⟨-, hSx⟩ := hSw; obtain ⟨sx0, sx1, -, -⟩ := hSx.cells; clear hSx; go_simp; first | done | with_reducible rfl)
              try simp only [Act.put, List.setIfInBounds_toArray, List.set_cons_zero, List.set_cons_succ]
              refine wpAnyH_done (by kernel_rfl) ?_ _
              go_wp2_with fail
              go_roundw
              case rel => exact ⟨k + 1, by omega, by go_num, ⟨hHeld.1⟩⟩
              case measure => simp [intOf]; omega
            exact AllReadyH.nil
          exact AllReadyH.nil
      · have hke : k = 4 := by omega
        subst hke
        go_wp2_with fail
        go_meet
        exact ⟨_, rfl, ⟨HE.out.1⟩⟩
  case rest =>
    obtain ⟨x46, rfl, HB3⟩ := hcut
    clear HT2 HB2 HX0 m4 m5 m6 m7 HXB HYB HXL HYL HXE HYE
    obtain ⟨z1, hz1⟩ : ∃ x, x = n % 2 ^ 16 := ⟨_, rfl⟩
    obtain ⟨z2, hz2⟩ : ∃ x, x = n % 2 ^ 3 := ⟨_, rfl⟩
    obtain ⟨p1, hp1⟩ : ∃ x : Int, x = (per : Int) % 2 ^ 20 := ⟨_, rfl⟩
    have m8 : bits .and .i64 n 65535 = z1 := by rw [i64_mask n _ 16 (by decide) (by decide), hz1]
    have m9 : bits .and .i64 n 7 = z2 := by rw [i64_mask n _ 3 (by decide) (by decide), hz2]
    have m10 : bits .and .u64 (per : Int) 1048575 = p1 := by rw [u64_mask _ _ 20 (by decide) (by decide), hp1]
    obtain ⟨Z, hZ⟩ : ∃ Z : List Int, Z = [n, z1, z2] := ⟨_, rfl⟩
    obtain ⟨P, hP⟩ : ∃ Z : List Int, Z = [(per : Int), p1, 1000] := ⟨_, rfl⟩
    have hPb : ∀ r ∈ P, 0 ≤ r ∧ r < 18446744073709551616 := by
      rw [hP]
      have := HPER.out
      intro r hr
      simp only [List.mem_cons, List.not_mem_nil, or_false] at hr
      rcases hr with rfl | rfl | rfl <;> omega
    have hZl : Z.length = 3 := by rw [hZ]; rfl
    have hPl : P.length = 3 := by rw [hP]; rfl
    have HZE := As.mk hZ
    have HPE := As.mk hP
    have HPB := As.mk hPb
    have HZL := As.mk hZl
    have HPL := As.mk hPl
    clear hZ hP hPb hZl hPl hz1 hz2 hp1
    go_upto_block 4 with (fail)
    have HZ0 : As (Nums .i64 3 (wc.alloc (.cells #[.int .i64 n, .int .i64 z1, .int .i64 z2] 3)) wc.heap.size Z) := ⟨by
      unfold Nums
      rw [HZE.out]
      exact heap_alloc_new _ _⟩
    have HB4 : As (Below w.heap.size w (wc.alloc (.cells #[.int .i64 n, .int .i64 z1, .int .i64 z2] 3))) := ⟨HB3.out.alloc HB3.out.size _⟩
    clear HB3
    generalize (wc.alloc (.cells #[.int .i64 n, .int .i64 z1, .int .i64 z2] 3)) = W6 at *
    generalize wc.heap.size = GZ at *
    go_cut [97] (fun v97 wc => ∃ x, v97 = .int .i64 x ∧ As (Below w.heap.size w wc))
    case first =>
      go_wp2_with fail
      go_loopw [97] (fun v97 wr => ∃ k : Nat, (k : Int) ≤ 3 ∧ v97 = .int .i64 (k : Int) ∧ As (Below w.heap.size w wr ∧ Nums .i64 3 wr GZ Z)) (fun v97 _ => 3 - (intOf v97).toNat)
      case atStart => exact ⟨0, by omega, rfl, ⟨HB4.out, HZ0.out⟩⟩
      case round =>
        obtain ⟨k, hk, rfl, HE⟩ := hrel
        by_cases hlt : (k : Int) < 3
        · have hkZ : k < Z.length := by rw [HZL.out]; omega
          have x0 := HE.out.2.at k hkZ
          obtain ⟨z, hz⟩ : ∃ f : Int, f = Z[k] := ⟨_, rfl⟩
          rw [← hz] at x0
          clear hz hkZ
          go_upto_block 6 with (fail)
          have HP0 : As (Nums .u64 23 (wr.alloc (.cells #[.int .u64 (per : Int), .int .u64 p1, .int .u64 1000] 23)) wr.heap.size P) := ⟨by
            unfold Nums
            rw [HPE.out]
            exact heap_alloc_new _ _⟩
          have HE1 : As (Below w.heap.size w (wr.alloc (.cells #[.int .u64 (per : Int), .int .u64 p1, .int .u64 1000] 23)) ∧ Nums .i64 3 (wr.alloc (.cells #[.int .u64 (per : Int), .int .u64 p1, .int .u64 1000] 23)) GZ Z) :=
            ⟨HE.out.1.alloc HE.out.1.size _, HE.out.2.below ((Below.refl _ _).alloc (Nat.le_refl _) _)⟩
          clear HE x0
          generalize (wr.alloc (.cells #[.int .u64 (per : Int), .int .u64 p1, .int .u64 1000] 23)) = W7 at *
          generalize wr.heap.size = GP at *
          go_wp2_with fail
          obtain ⟨wo, hwo⟩ : ∃ wo : World, wo = wr := ⟨_, rfl⟩
          go_loopw [106] (fun v106 wr => ∃ j : Nat, (j : Int) ≤ 3 ∧ v106 = .int .i64 (j : Int) ∧ As (Below w.heap.size w wr ∧ Nums .i64 3 wr GZ Z ∧ Nums .u64 23 wr GP P)) (fun v106 _ => 3 - (intOf v106).toNat)
          case atStart => exact ⟨0, by omega, rfl, ⟨HE1.out.1, HE1.out.2, HP0.out⟩⟩
          case round =>
            obtain ⟨j, hj, rfl, HI⟩ := hrel
            by_cases hlj : (j : Int) < 3
            · have hjP : j < P.length := by rw [HPL.out]; omega
              have y0 := HI.out.2.2.at j hjP
              have hpb := HPB.out P[j] (List.getElem_mem hjP)
              obtain ⟨p, hp⟩ : ∃ f : Int, f = P[j] := ⟨_, rfl⟩
              rw [← hp] at y0 hpb
              obtain ⟨b0, b1⟩ := hpb
              obtain ⟨q, hq⟩ : ∃ q : Int, q = (needR p.toNat z : Int) := ⟨_, rfl⟩
              have HQ := As.mk hq.symm
              clear hp hq hjP
              go_wp2_with (first | (go_at_call 20; (with_reducible refine (need_to p z q HQ.out (by omega) (by omega) _).mono ?_); rintro e w' ⟨rfl, hb⟩; have HI2 := As.mk (And.intro (HI.out.1.trans (hb.mono HI.out.1.size)) (And.intro (HI.out.2.1.below hb) (HI.out.2.2.below hb))); clear hb HI y0; have HI := HI2; clear HI2) | (go_at_call 25; (with_reducible refine (need_ref_to p z q HQ.out (by omega) (by omega) _).mono ?_); rintro e w' ⟨rfl, rfl⟩))
              go_roundw
              case rel => exact ⟨j + 1, by omega, by go_num, HI⟩
              case measure => simp [intOf]; omega
            · have hje : j = 3 := by omega
              subst hje
              go_wp2_with fail
              go_roundw
              case rel => exact ⟨k + 1, by omega, by go_num, ⟨HI.out.1, HI.out.2.1⟩⟩
              case measure => simp [intOf]; omega
        · have hke : k = 3 := by omega
          subst hke
          go_wp2_with fail
          go_meet
          exact ⟨_, rfl, ⟨HE.out.1⟩⟩
    case rest =>
      obtain ⟨x97, rfl, HB⟩ := hcut
      have HR2 := As.mk (HR.out.kept (w' := wc) fun ad u hc => cell_of_below HB.out hc)
      obtain ⟨F, hF⟩ : ∃ F : Int, F = (addF l : Int) := ⟨_, rfl⟩
      obtain ⟨S, hS⟩ : ∃ S : Int, S = addS l := ⟨_, rfl⟩
      have HA1 := As.mk (fun (w : World) (hr : RdS w 2 (.slice A l.length c) l.length (rcells l)) => add_any _ l w hr HF.out)
      have HA2 := As.mk (fun (w : World) (hr : RdS w 2 (.slice A l.length c) l.length (rcells l)) => add_ref _ l w hr)
      rw [← hF, ← hS] at HA1 HA2
      clear hF hS HR
      go_wp2_with (first | (go_at_call 26; (with_reducible refine (HA1.out _ HR2.out).mono ?_); rintro e w' ⟨rfl, hb⟩; have HB2 := As.mk (HB.out.trans (hb.mono HB.out.size)); have HR3 := As.mk (HR2.out.kept fun ad u hc => cell_of_below hb hc); clear hb HB; have HB := HB2; clear HB2) | (go_at_call 27; (with_reducible refine (HA2.out _ HR3.out).mono ?_); rintro e w' ⟨rfl, hb⟩; have HB2 := As.mk (HB.out.trans (hb.mono HB.out.size)); clear hb HB; have HB := HB2; clear HB2) | (go_at_call 21; (with_reducible refine (awake7_any _).mono ?_); rintro e w' ⟨rfl, hb⟩; have HB2 := As.mk (HB.out.trans (hb.mono HB.out.size)); clear hb HB; have HB := HB2; clear HB2))
      go_ret
      exact ⟨rfl, HB.out⟩
theorem rateTells_row (fa sa : Int) (w0 : (Lit.int .u64 fa).wf = true) (w1 : (Lit.int .i64 sa).wf = true) (fb sb : Int) (w2 : (Lit.int .u64 fb).wf = true) (w3 : (Lit.int .i64 sb).wf = true) (per : Int) (w4 : (Lit.int .u64 per).wf = true) (n : Int) (w5 : (Lit.int .i64 n).wf = true)
    (A : Option Addr) (len cap : Nat) (l : List (Nat × Int)) (hl : l.length = len) {w : World} (hr : RdS w 2 (.slice A len cap) len (rcells l)) (hb : ∀ r ∈ l, r.1 < 18446744073709551616) :
    Calls Try.prog 10 #[.agg #[.int .u64 fa, .int .i64 sa], .agg #[.int .u64 fb, .int .i64 sb], .int .u64 per, .int .i64 n, .slice A len cap] w fun e w' => e = .returned (.bool true) ∧ Below w.heap.size w w' := by
  subst hl
  obtain ⟨x0, x1⟩ := bounds_u64 w0
  obtain ⟨y0, y1⟩ := bounds_u64 w2
  obtain ⟨z0, z1⟩ := bounds_u64 w4
  obtain ⟨a, rfl⟩ := Int.eq_ofNat_of_zero_le x0
  obtain ⟨b, rfl⟩ := Int.eq_ofNat_of_zero_le y0
  obtain ⟨p, rfl⟩ := Int.eq_ofNat_of_zero_le z0
  exact rateTells_walk a b p sa sb n A cap l (by omega) (by omega) (by omega) (bounds_i64 w1).2 (bounds_i64 w3).2 w hr hb
end Go.Proofs.Ytfbfdmgnicgalaa.W
