/- What is told: a step of few numbers (ReptApart's closure). -/
import Derived.Test.YtodcbcpjlhlakaaDoorR24
set_option linter.unusedVariables false
set_option linter.unusedSimpArgs false
namespace Go.Proofs.YtodcbcpjlhlakaaDoor.W
open Go.RowKit Go.Proofs.YtodcbcpjlhlakaaDoor.B Go.Proofs

theorem i64_mask (n m : Int) (k : Nat) (h : (BitVec.ofInt 64 m).toNat = 2 ^ k - 1) (hk : k ≤ 62) : bits .and .i64 n m = n % 2 ^ k := by
  have key : (BitVec.ofInt 64 n &&& BitVec.ofInt 64 m).toNat = (n % ((2 ^ 64 : Nat) : Int)).toNat % 2 ^ k := by
    rw [BitVec.toNat_and, BitVec.toNat_ofInt, h, Nat.and_two_pow_sub_one_eq_mod]
  show IntKind.i64.wrap ((BitVec.ofInt 64 n &&& BitVec.ofInt 64 m).toNat : Nat) = n % 2 ^ k
  have hle : (2 : Nat) ^ k ≤ 2 ^ 62 := Nat.pow_le_pow_right (by decide) hk
  have hlt : (n % ((2 ^ 64 : Nat) : Int)).toNat % 2 ^ k < 2 ^ k := Nat.mod_lt _ (Nat.two_pow_pos k)
  have hd : (2 : Int) ^ k ∣ ((2 ^ 64 : Nat) : Int) := by
    have : (2 ^ 64 : Nat) = 2 ^ k * 2 ^ (64 - k) := by rw [← Nat.pow_add]; congr 1; omega
    exact ⟨2 ^ (64 - k), by rw [this]; simp⟩
  rw [key, IntWalk.i64_in _ (by omega)]
  rw [Int.natCast_emod, Int.toNat_of_nonneg (Int.emod_nonneg _ (by decide))]
  rw [show ((2 ^ k : Nat) : Int) = 2 ^ k by simp]
  exact Int.emod_emod_of_dvd n hd
theorem mask_nat (a : Int) (k : Nat) (m : Int) (h : (BitVec.ofInt 64 m).toNat = 2 ^ k - 1) (hk : k ≤ 10) : ∃ N : Nat, bits .and .i64 a m = (N : Int) ∧ N < 2 ^ k := by
  rw [i64_mask a m k h (by omega)]
  have hp : (0 : Int) < 2 ^ k := Int.pow_pos (by decide)
  have h0 := Int.emod_nonneg a (show (2 : Int) ^ k ≠ 0 by omega)
  have h1 := Int.emod_lt_of_pos a hp
  refine ⟨(a % 2 ^ k).toNat, by omega, ?_⟩
  have : (((2 : Nat) ^ k : Nat) : Int) = 2 ^ k := by simp
  omega
theorem mask_int (a : Int) (k : Nat) (m : Int) (h : (BitVec.ofInt 64 m).toNat = 2 ^ k - 1) (hk : k ≤ 10) : ∃ N : Int, bits .and .i64 a m = N ∧ 0 ≤ N ∧ N < ((2 ^ k : Nat) : Int) := by
  obtain ⟨N, h1, h2⟩ := mask_nat a k m h hk
  exact ⟨N, h1, by omega, by omega⟩
theorem byte_of (q : Int) (h0 : 0 ≤ q) (h1 : q < 4) : ∃ y : UInt8, IntKind.u8.wrap q = (y.toNat : Int) := by
  refine ⟨UInt8.ofNat q.toNat, ?_⟩
  rw [u8_ofNat, IntKind.wrap_u8]
  omega
theorem only_facts (s : LStep) : (onlyL s).k = s.k ∧ ((onlyL s).p = s.p ∨ (onlyL s).p = 0) ∧ ((onlyL s).n = s.n ∨ (onlyL s).n = 0) ∧ ((onlyL s).bs = s.bs ∨ (onlyL s).bs = []) ∧ ((onlyL s).ls = s.ls ∨ (onlyL s).ls = []) := by
  obtain ⟨k, p, n, g, bs, ls⟩ := s
  have ht : tidy ls = ls ∨ tidy ls = [] := by unfold tidy; split; exact .inr rfl; exact .inl rfl
  by_cases h1 : k = 1
  · subst h1; simp [onlyL, ht]
  by_cases h2 : k = 2
  · subst h2; simp [onlyL, ht]
  by_cases h3 : k = 3
  · subst h3; simp [onlyL, ht]
  by_cases h4 : k = 4
  · subst h4; simp [onlyL, ht]
  by_cases h5 : k = 5
  · subst h5; simp [onlyL, ht]
  by_cases h6 : k = 6
  · subst h6; simp [onlyL, ht]
  by_cases h7 : k = 7
  · subst h7; simp [onlyL, ht]
  by_cases h9 : k = 9
  · subst h9; simp [onlyL, ht]
  simp [onlyL, h1, h2, h3, h4, h5, h6, h7, h9]
/-- A step that is small. -/
def SmallS (s : LStep) : Prop := (1 ≤ s.k ∧ s.k ≤ 9) ∧ (0 ≤ s.p ∧ s.p < 1000000000) ∧ (0 ≤ s.n ∧ s.n < 1000000000) ∧ s.bs.length ≤ 2000000 ∧ s.ls.length ≤ 4000000 ∧ ∀ x ∈ s.ls, x.length ≤ 2000000
theorem SmallS.only {s : LStep} (h : SmallS s) : SmallS (onlyL s) := by
  obtain ⟨h1, h2, h3, h4, h5, h6⟩ := h
  obtain ⟨e1, e2, e3, e4, e5⟩ := only_facts s
  refine ⟨by rw [e1]; exact h1, ?_, ?_, ?_, ?_, ?_⟩
  · rcases e2 with e | e <;> rw [e]; exact h2; decide
  · rcases e3 with e | e <;> rw [e]; exact h3; decide
  · rcases e4 with e | e <;> rw [e]; exact h4; exact Nat.zero_le _
  · rcases e5 with e | e <;> rw [e]; exact h5; exact Nat.zero_le _
  · rcases e5 with e | e <;> rw [e]; exact h6; exact fun x hx => by cases hx
/-- How the world stands while the step is made. -/
def CS (w W : World) (R G : Nat) (cs : List Value) : Prop :=
  Below w.heap.size w W ∧ Box W R #[.int .i64 0, .int .i64 0, .int .i64 0, .bool false, .slice none 0 0, .slice none 0 0] 35 ∧ Box W G cs.toArray 35 ∧ w.heap.size ≤ R ∧ R < G
section
variable {w W W' : World} {R G : Nat} {cs : List Value}
theorem CS.set (h : CS w W R G cs) (j : Nat) (v : Value) : CS w (W.setCell ⟨G, j, none⟩ v) R G (cs.set j v) := by
  obtain ⟨h1, h2, h3, h4, h5⟩ := h
  exact ⟨h1.setCell (p := ⟨G, j, none⟩) (show w.heap.size ≤ G from by omega) v, h2.grown (grown_set W G j v) (fun e => by injection e with e; omega), h3.set j v, h4, h5⟩
theorem CS.grown {row : Option Nat} (h : CS w W R G cs) (hg : W.grownBy W' row) (hr : ∀ b, row = some b → G < b) : CS w W' R G cs := by
  obtain ⟨h1, h2, h3, h4, h5⟩ := h
  exact ⟨h1.grown hg h1.size (fun b hb => by have := hr b hb; omega), h2.grown hg (fun e => by have := hr _ e; omega), h3.grown hg (fun e => by have := hr _ e; omega), h4, h5⟩
theorem CS.below (h : CS w W R G cs) (hb : Below W.heap.size W W') : CS w W' R G cs := h.grown (grown_none hb) (fun b e => by cases e)
theorem CS.c (h : CS w W R G cs) (j : Nat) (v : Value) (hv : cs[j]? = some v) : W.cell? ⟨G, j, none⟩ = some v := h.2.2.1.cell j v (by simpa using hv)
theorem CS.f (h : CS w W R G cs) (j : Nat) : W.frozen? ⟨G, j, none⟩ = false := h.2.2.1.frozen j
theorem CS.lt (h : CS w W R G cs) : G < W.heap.size := h.2.2.1.lt
theorem CS.b1 (h : CS w W R G cs) : Box W R #[.int .i64 0, .int .i64 0, .int .i64 0, .bool false, .slice none 0 0, .slice none 0 0] 35 := h.2.1
theorem CS.bl (h : CS w W R G cs) : Below w.heap.size w W := h.1
theorem CS.wr (h : CS w W R G cs) : w.heap.size ≤ R := h.2.2.2.1
end
theorem OwB.one (w : World) (base : Nat) (hb : base ≤ w.heap.size) (x : UInt8) : OwB (w.alloc (.cells #[.int .u8 (x.toNat : Int)] 5)) base 5 (.slice (some ⟨w.heap.size, 0, none⟩) 1 1) [x] :=
  OwS.lit w base 5 1 1 #[.int .u8 (x.toNat : Int)] hb (by decide) rfl
theorem OwB.pick {w : World} {base : Nat} {v v' : Value} {L L' : List UInt8} (h : OwB w base 5 v L) (e : v' = v ∧ L' = L ∨ v' = .slice none 0 0 ∧ L' = []) : OwB w base 5 v' L' := by
  rcases e with ⟨rfl, rfl⟩ | ⟨rfl, rfl⟩
  · exact h
  · exact OwS.nil _ _ _ _
theorem OwW.pick {w : World} {base : Nat} {v v' : Value} {L L' : List (List UInt8)} (h : OwW w base v L) (e : v' = v ∧ L' = L ∨ v' = .slice none 0 0 ∧ L' = []) : OwW w base v' L' := by
  rcases e with ⟨rfl, rfl⟩ | ⟨rfl, rfl⟩
  · exact h
  · exact OwW.nil _ _
theorem only_as (k p n : Int) (g : Bool) (bs : List UInt8) (ls : List (List UInt8)) (bv lv : Value) (w : World) {base : Nat} (h1 : OwB w base 5 bv bs) (h2 : OwW w base lv ls) :
    Calls Tryd.prog 14 #[.agg #[.int .i64 k, .int .i64 p, .int .i64 n, .bool g, bv, lv]] w fun e w' => ∃ k' p' n' g' bs' ls' Ab cb Al cl, e = .returned (.agg #[.int .i64 k', .int .i64 p', .int .i64 n', .bool g', .slice Ab bs'.length cb, .slice Al ls'.length cl]) ∧
      onlyL ⟨k, p, n, g, bs, ls⟩ = ⟨k', p', n', g', bs', ls'⟩ ∧ OwB w' base 5 (.slice Ab bs'.length cb) bs' ∧ OwW w' base (.slice Al ls'.length cl) ls' ∧ Below w.heap.size w w' := by
  refine (only_any ⟨k, p, n, g, bs, ls⟩ bv lv w ⟨h1.rd, h2.rd⟩).mono ?_
  rintro e w' ⟨bv', lv', rfl, e1, e2, ⟨h3, h4⟩, hb⟩
  have o1 := OwB.pick (OwS.below h1 hb) e1
  have o2 := OwW.pick (OwW.below h2 hb) e2
  clear e1 e2
  generalize onlyL ⟨k, p, n, g, bs, ls⟩ = z at *
  obtain ⟨k', p', n', g', bs', ls'⟩ := z
  simp only at h3 h4 o1 o2
  obtain ⟨Ab, cb, rfl, -⟩ := RdB.form h3
  obtain ⟨Al, cl, rfl, -⟩ := h4.form
  exact ⟨k', p', n', g', bs', ls', Ab, cb, Al, cl, rfl, rfl, o1, o2, hb⟩
theorem set6_grown (w : World) (R : Nat) (v0 v1 v2 v3 v4 v5 : Value) : w.grownBy ((((((w.setCell ⟨R, 0, none⟩ v0).setCell ⟨R, 1, none⟩ v1).setCell ⟨R, 2, none⟩ v2).setCell ⟨R, 3, none⟩ v3).setCell ⟨R, 4, none⟩ v4).setCell ⟨R, 5, none⟩ v5) (some R) :=
  grown_trans (grown_trans (grown_trans (grown_trans (grown_trans (grown_set w R 0 v0) (grown_set _ R 1 v1)) (grown_set _ R 2 v2)) (grown_set _ R 3 v3)) (grown_set _ R 4 v4)) (grown_set _ R 5 v5)
/-- How the closure ends. -/
def OfE (w : World) (e : Ending) (w' : World) : Prop :=
  ∃ s Ab cb Al cl, e = .returned (.agg (cellsS s (.slice Ab s.bs.length cb) (.slice Al s.ls.length cl))) ∧ StepC w' s (.slice Ab s.bs.length cb) (.slice Al s.ls.length cl) ∧ onlyL s = s ∧ SmallS s ∧ Below w.heap.size w w'
set_option maxHeartbeats 8000000 in
set_option maxRecDepth 100000 in
theorem of_any (n : Int) (w : World) : Calls Tryd.prog 15 #[.int .i64 n] w (OfE w) := by
  obtain ⟨K, hK, hK0, hK7⟩ := mask_int n 3 7 (by decide) (by decide)
  obtain ⟨P, hP, hP0, hP1⟩ := mask_int (n / 8) 1 1 (by decide) (by decide)
  obtain ⟨Q, hQ, hQ0, hQ1⟩ := mask_int (n / 16) 1 1 (by decide) (by decide)
  obtain ⟨N2, hN2, hN20, hN21⟩ := mask_int (n / 32) 1 1 (by decide) (by decide)
  obtain ⟨B6, hB6, hB60, hB61⟩ := mask_int (n / 64) 1 1 (by decide) (by decide)
  obtain ⟨B7, hB7, hB70, hB71⟩ := mask_int (n / 128) 2 3 (by decide) (by decide)
  obtain ⟨M, hM, hM0, hM4⟩ := mask_int (n / 512) 2 3 (by decide) (by decide)
  obtain ⟨gg, hgg⟩ : ∃ gg, (Q == 1) = gg := ⟨_, rfl⟩
  obtain ⟨y7, hy7⟩ := byte_of B7 hB70 (by simpa using hB71)
  have e7 : ((2 ^ 3 : Nat) : Int) = 8 := rfl
  have e1 : ((2 ^ 1 : Nat) : Int) = 2 := rfl
  have e2 : ((2 ^ 2 : Nat) : Int) = 4 := rfl
  rw [e7] at hK7
  rw [e1] at hP1 hQ1 hN21 hB61
  rw [e2] at hB71 hM4
  clear e7 e1 e2
  have HKP : As ((1 ≤ K + 1 ∧ K + 1 ≤ 9) ∧ (0 ≤ P ∧ P < 1000000000) ∧ (0 ≤ N2 ∧ N2 < 1000000000)) := ⟨by omega⟩
  go_enter Tryd.func15, Tryd.ntmps15
  go_upto_region 2 with fail
  have HC0 : As (CS w ((w.alloc (.cells #[.int .i64 0, .int .i64 0, .int .i64 0, .bool false, .slice none 0 0, .slice none 0 0] 35)).alloc (.cells #[.int .i64 (K + 1), .int .i64 P, .int .i64 N2, .bool gg, .slice none 0 0, .slice none 0 0] 35)) w.heap.size (w.heap.size + 1) [.int .i64 (K + 1), .int .i64 P, .int .i64 N2, .bool gg, .slice none 0 0, .slice none 0 0]) := ⟨by
    refine ⟨(below_al w _).alloc (by simp) _, Box.below (Box.new w _ 35) (below_al _ _), ?_, Nat.le_refl _, by omega⟩
    have h := Box.new (w.alloc (.cells #[.int .i64 0, .int .i64 0, .int .i64 0, .bool false, .slice none 0 0, .slice none 0 0] 35)) #[.int .i64 (K + 1), .int .i64 P, .int .i64 N2, .bool gg, .slice none 0 0, .slice none 0 0] 35
    simpa using h⟩
  generalize ((w.alloc (.cells #[.int .i64 0, .int .i64 0, .int .i64 0, .bool false, .slice none 0 0, .slice none 0 0] 35)).alloc (.cells #[.int .i64 (K + 1), .int .i64 P, .int .i64 N2, .bool gg, .slice none 0 0, .slice none 0 0] 35)) = W0 at HC0 ⊢
  generalize w.heap.size + 1 = G at HC0 ⊢
  obtain ⟨R, hR⟩ : ∃ R, R = w.heap.size := ⟨_, rfl⟩
  have HC1 : As (CS w W0 R G [.int .i64 (K + 1), .int .i64 P, .int .i64 N2, .bool gg, .slice none 0 0, .slice none 0 0]) := ⟨by rw [hR]; exact HC0.out⟩
  rw [← hR]
  clear hR HC0
  clear hK hP hQ hN2 hgg
  by_cases h6 : B6 = 1
  · subst h6
    have c4 := HC1.out.c 4 _ rfl
    have f4 := HC1.out.f 4
    have hlt0 := HC1.out.lt
    go_upto_region 4 with fail
    have HC2 : As (CS w ((W0.setCell ⟨G, 4, none⟩ (.slice (some ⟨W0.heap.size, 0, none⟩) 1 1)).alloc (.cells #[.int .u8 (y7.toNat : Int)] 5)) R G [.int .i64 (K + 1), .int .i64 P, .int .i64 N2, .bool gg, .slice (some ⟨W0.heap.size, 0, none⟩) 1 1, .slice none 0 0]) := ⟨(HC1.out.set 4 _).below (below_al _ _)⟩
    have HBV : As (OwB ((W0.setCell ⟨G, 4, none⟩ (.slice (some ⟨W0.heap.size, 0, none⟩) 1 1)).alloc (.cells #[.int .u8 (y7.toNat : Int)] 5)) (G + 1) 5 (.slice (some ⟨W0.heap.size, 0, none⟩) 1 1) [y7]) := ⟨by have h := OwB.one (W0.setCell ⟨G, 4, none⟩ (.slice (some ⟨W0.heap.size, 0, none⟩) 1 1)) (G + 1) (by rw [World.size_setCell]; exact hlt0) y7; rw [World.size_setCell] at h; exact h⟩
    generalize ((W0.setCell ⟨G, 4, none⟩ (.slice (some ⟨W0.heap.size, 0, none⟩) 1 1)).alloc (.cells #[.int .u8 (y7.toNat : Int)] 5)) = W1 at HC2 HBV ⊢
    clear HC1 c4 f4 hlt0
    have HC := HC2
    clear HC2
    obtain ⟨bv, hbv⟩ : ∃ bv, bv = Value.slice (some ⟨W0.heap.size, 0, none⟩) 1 1 := ⟨_, rfl⟩
    rw [← hbv] at HC HBV
    obtain ⟨L, hLe⟩ : ∃ L, L = [y7] := ⟨_, rfl⟩
    rw [← hLe] at HBV
    have hL : L.length ≤ 1 := by rw [hLe]; exact Nat.le_refl 1
    clear hLe hbv
    have HBL : As (L.length ≤ 1) := ⟨hL⟩
    have HD : As (∀ k, bv.ownBlock = some k → k < W1.heap.size) := ⟨fun k hk => (OwS.lt HBV.out k hk).2⟩
    obtain ⟨D, hD⟩ : ∃ D, D = W1.heap.size := ⟨_, rfl⟩
    rw [← hD] at HD
    have HGD : As (G < D) := ⟨by rw [hD]; exact HC.out.lt⟩
    have HLV0 : As (OwW W1 D (.slice none 0 0) []) := ⟨OwW.nil _ _⟩
    have HDW : As (D ≤ W1.heap.size) := ⟨by rw [hD]; exact Nat.le_refl _⟩
    clear hD hL
    go_wp2
    go_loopw [4] (fun v4 wr => ∃ (j : Nat) (lv : Value) (ws : List (List UInt8)), v4 = .int .i64 (j : Int) ∧ (j : Int) ≤ M ∧ As (CS w wr R G [.int .i64 (K + 1), .int .i64 P, .int .i64 N2, .bool gg, bv, lv]) ∧ As (OwW wr D lv ws) ∧ As (OwB wr (G + 1) 5 bv L) ∧ As (ws.length ≤ 100 * j ∧ ∀ x ∈ ws, x.length ≤ 1) ∧ As (D ≤ wr.heap.size)) (fun v4 _ => M.toNat - (intOf v4).toNat)
    case atStart => exact ⟨0, .slice none 0 0, [], rfl, by omega, HC, HLV0, HBV, ⟨Nat.le_refl _, fun x hx => by cases hx⟩, HDW⟩
    case round =>
      obtain ⟨j, lv, ws, rfl, hj, HCr, HW, HB, HN, HDr⟩ := hrel
      by_cases hlt : (j : Int) < M
      · have HSZ := As.mk HCr.out.lt
        have HLT := As.mk (fun b hb => (OwW.lt HW.out b hb))
        have HWL : As (ws.length ≤ 4000000) := ⟨by have := HN.out.1; omega⟩
        have c5 := HCr.out.c 5 _ rfl
        have f5 := HCr.out.f 5
        rcases (by omega : j = 0 ∨ j = 1 ∨ j = 2) with rfl | rfl | rfl
        · obtain ⟨q, hq, hq0, hq1⟩ := mask_int (n / 2048) 1 1 (by decide) (by decide)
          obtain ⟨yq, hyq⟩ := byte_of q hq0 (by have e1 : ((2 ^ 1 : Nat) : Int) = 2 := rfl; omega)
          clear hq0 hq1
          have HZQ : As (OwB ((wr.alloc (.cells #[.int .u8 (yq.toNat : Int)] 5)).alloc (.cells #[.slice (some ⟨wr.heap.size, 0, none⟩) 1 1] 29)) D 5 (.slice (some ⟨wr.heap.size, 0, none⟩) 1 1) [yq]) := ⟨OwS.below (OwB.one wr D HDr.out yq) (below_al _ _)⟩
          have HOF : As (Off lv.ownBlock (.slice (some ⟨wr.heap.size, 0, none⟩) 1 1)) := ⟨fun b hb e => by have h1 := HLT.out b e; simp [Value.ownBlock] at hb; omega⟩
          have HB2 : As (Below wr.heap.size wr ((wr.alloc (.cells #[.int .u8 (yq.toNat : Int)] 5)).alloc (.cells #[.slice (some ⟨wr.heap.size, 0, none⟩) 1 1] 29))) := ⟨(below_al _ _).alloc (by simp) _⟩
          have HKE : As (bv.ownBlock = none ∨ bv.ownBlock ≠ lv.ownBlock) := ⟨by
            rcases hk : bv.ownBlock with _ | kk
            · exact .inl rfl
            · refine .inr (fun e => ?_)
              have h1 := HD.out kk hk
              have h2 := (HLT.out kk e.symm).1
              omega⟩
          have hsz := HSZ.out
          go_wp2_with (at_builtin; refine wpList_appW D rfl (.tmp 37) (.tmp 46) rfl lv rfl (wr.heap.size + 1) rfl (.slice (some ⟨wr.heap.size, 0, none⟩) 1 1) ?hc rfl ws [yq] ((HW.out.alloc _).alloc _) ⟨HZQ.out, HOF.out⟩ HWL.out ?base ?_; (case hc => simp); (case base => have := HDr.out; simp; omega); intro v4 w4 ho hg; obtain ⟨A4, k4, rfl, -⟩ := ho.rd.form; have HO4 : As (OwW w4 D (.slice A4 (ws.length + 1) k4) (ws ++ [[yq]])) := ⟨by have h := ho; rw [List.length_append] at h; exact h⟩; have HC4 := As.mk ((HCr.out.below HB2.out).grown hg (fun b hb => by have := (HLT.out b hb).1; have := HGD.out; omega)); have HB4 := As.mk (OwS.kept (OwS.below HB.out HB2.out) hg HKE.out); have HS4 : As (D ≤ w4.heap.size) := ⟨Nat.le_trans HDr.out (Nat.le_trans HB2.out.size hg.size)⟩; clear ho hg c5 f5; have c5 := HC4.out.c 5 _ rfl; have f5 := HC4.out.f 5)
          go_roundw
          case rel => exact ⟨0 + 1, _, ws ++ [[yq]], by go_num, by omega, ⟨HC4.out.set 5 _⟩, ⟨OwW.read HO4.out (grown_set _ G 5 _) HGD.out⟩, ⟨OwB.read HB4.out (grown_set _ G 5 _) (Nat.lt_succ_self G)⟩, ⟨by have := HN.out.1; rw [List.length_append]; show ws.length + 1 ≤ _; omega, fun x hx => by rcases List.mem_append.1 hx with hx | hx; exact HN.out.2 x hx; simp at hx; subst hx; exact Nat.le_refl 1⟩, ⟨by rw [World.size_setCell]; exact HS4.out⟩⟩
          case measure => simp [intOf]; omega
        · obtain ⟨q, hq, hq0, hq1⟩ := mask_int (n / 4096) 1 1 (by decide) (by decide)
          obtain ⟨yq, hyq⟩ := byte_of q hq0 (by have e1 : ((2 ^ 1 : Nat) : Int) = 2 := rfl; omega)
          clear hq0 hq1
          have HZQ : As (OwB ((wr.alloc (.cells #[.int .u8 (yq.toNat : Int)] 5)).alloc (.cells #[.slice (some ⟨wr.heap.size, 0, none⟩) 1 1] 29)) D 5 (.slice (some ⟨wr.heap.size, 0, none⟩) 1 1) [yq]) := ⟨OwS.below (OwB.one wr D HDr.out yq) (below_al _ _)⟩
          have HOF : As (Off lv.ownBlock (.slice (some ⟨wr.heap.size, 0, none⟩) 1 1)) := ⟨fun b hb e => by have h1 := HLT.out b e; simp [Value.ownBlock] at hb; omega⟩
          have HB2 : As (Below wr.heap.size wr ((wr.alloc (.cells #[.int .u8 (yq.toNat : Int)] 5)).alloc (.cells #[.slice (some ⟨wr.heap.size, 0, none⟩) 1 1] 29))) := ⟨(below_al _ _).alloc (by simp) _⟩
          have HKE : As (bv.ownBlock = none ∨ bv.ownBlock ≠ lv.ownBlock) := ⟨by
            rcases hk : bv.ownBlock with _ | kk
            · exact .inl rfl
            · refine .inr (fun e => ?_)
              have h1 := HD.out kk hk
              have h2 := (HLT.out kk e.symm).1
              omega⟩
          have hsz := HSZ.out
          go_wp2_with (at_builtin; refine wpList_appW D rfl (.tmp 37) (.tmp 46) rfl lv rfl (wr.heap.size + 1) rfl (.slice (some ⟨wr.heap.size, 0, none⟩) 1 1) ?hc rfl ws [yq] ((HW.out.alloc _).alloc _) ⟨HZQ.out, HOF.out⟩ HWL.out ?base ?_; (case hc => simp); (case base => have := HDr.out; simp; omega); intro v4 w4 ho hg; obtain ⟨A4, k4, rfl, -⟩ := ho.rd.form; have HO4 : As (OwW w4 D (.slice A4 (ws.length + 1) k4) (ws ++ [[yq]])) := ⟨by have h := ho; rw [List.length_append] at h; exact h⟩; have HC4 := As.mk ((HCr.out.below HB2.out).grown hg (fun b hb => by have := (HLT.out b hb).1; have := HGD.out; omega)); have HB4 := As.mk (OwS.kept (OwS.below HB.out HB2.out) hg HKE.out); have HS4 : As (D ≤ w4.heap.size) := ⟨Nat.le_trans HDr.out (Nat.le_trans HB2.out.size hg.size)⟩; clear ho hg c5 f5; have c5 := HC4.out.c 5 _ rfl; have f5 := HC4.out.f 5)
          go_roundw
          case rel => exact ⟨1 + 1, _, ws ++ [[yq]], by go_num, by omega, ⟨HC4.out.set 5 _⟩, ⟨OwW.read HO4.out (grown_set _ G 5 _) HGD.out⟩, ⟨OwB.read HB4.out (grown_set _ G 5 _) (Nat.lt_succ_self G)⟩, ⟨by have := HN.out.1; rw [List.length_append]; show ws.length + 1 ≤ _; omega, fun x hx => by rcases List.mem_append.1 hx with hx | hx; exact HN.out.2 x hx; simp at hx; subst hx; exact Nat.le_refl 1⟩, ⟨by rw [World.size_setCell]; exact HS4.out⟩⟩
          case measure => simp [intOf]; omega
        · obtain ⟨q, hq, hq0, hq1⟩ := mask_int (n / 8192) 1 1 (by decide) (by decide)
          obtain ⟨yq, hyq⟩ := byte_of q hq0 (by have e1 : ((2 ^ 1 : Nat) : Int) = 2 := rfl; omega)
          clear hq0 hq1
          have HZQ : As (OwB ((wr.alloc (.cells #[.int .u8 (yq.toNat : Int)] 5)).alloc (.cells #[.slice (some ⟨wr.heap.size, 0, none⟩) 1 1] 29)) D 5 (.slice (some ⟨wr.heap.size, 0, none⟩) 1 1) [yq]) := ⟨OwS.below (OwB.one wr D HDr.out yq) (below_al _ _)⟩
          have HOF : As (Off lv.ownBlock (.slice (some ⟨wr.heap.size, 0, none⟩) 1 1)) := ⟨fun b hb e => by have h1 := HLT.out b e; simp [Value.ownBlock] at hb; omega⟩
          have HB2 : As (Below wr.heap.size wr ((wr.alloc (.cells #[.int .u8 (yq.toNat : Int)] 5)).alloc (.cells #[.slice (some ⟨wr.heap.size, 0, none⟩) 1 1] 29))) := ⟨(below_al _ _).alloc (by simp) _⟩
          have HKE : As (bv.ownBlock = none ∨ bv.ownBlock ≠ lv.ownBlock) := ⟨by
            rcases hk : bv.ownBlock with _ | kk
            · exact .inl rfl
            · refine .inr (fun e => ?_)
              have h1 := HD.out kk hk
              have h2 := (HLT.out kk e.symm).1
              omega⟩
          have hsz := HSZ.out
          go_wp2_with (at_builtin; refine wpList_appW D rfl (.tmp 37) (.tmp 46) rfl lv rfl (wr.heap.size + 1) rfl (.slice (some ⟨wr.heap.size, 0, none⟩) 1 1) ?hc rfl ws [yq] ((HW.out.alloc _).alloc _) ⟨HZQ.out, HOF.out⟩ HWL.out ?base ?_; (case hc => simp); (case base => have := HDr.out; simp; omega); intro v4 w4 ho hg; obtain ⟨A4, k4, rfl, -⟩ := ho.rd.form; have HO4 : As (OwW w4 D (.slice A4 (ws.length + 1) k4) (ws ++ [[yq]])) := ⟨by have h := ho; rw [List.length_append] at h; exact h⟩; have HC4 := As.mk ((HCr.out.below HB2.out).grown hg (fun b hb => by have := (HLT.out b hb).1; have := HGD.out; omega)); have HB4 := As.mk (OwS.kept (OwS.below HB.out HB2.out) hg HKE.out); have HS4 : As (D ≤ w4.heap.size) := ⟨Nat.le_trans HDr.out (Nat.le_trans HB2.out.size hg.size)⟩; clear ho hg c5 f5; have c5 := HC4.out.c 5 _ rfl; have f5 := HC4.out.f 5)
          go_roundw
          case rel => exact ⟨2 + 1, _, ws ++ [[yq]], by go_num, by omega, ⟨HC4.out.set 5 _⟩, ⟨OwW.read HO4.out (grown_set _ G 5 _) HGD.out⟩, ⟨OwB.read HB4.out (grown_set _ G 5 _) (Nat.lt_succ_self G)⟩, ⟨by have := HN.out.1; rw [List.length_append]; show ws.length + 1 ≤ _; omega, fun x hx => by rcases List.mem_append.1 hx with hx | hx; exact HN.out.2 x hx; simp at hx; subst hx; exact Nat.le_refl 1⟩, ⟨by rw [World.size_setCell]; exact HS4.out⟩⟩
          case measure => simp [intOf]; omega
      · have HZ : As (SmallS ⟨K + 1, P, N2, gg, L, ws⟩) := ⟨HKP.out.1, HKP.out.2.1, HKP.out.2.2, by have := HBL.out; show L.length ≤ _; omega, by have := HN.out.1; show ws.length ≤ _; omega, fun x hx => by have := HN.out.2 x hx; omega⟩
        have HWG : As (OwW wr (G + 1) lv ws) := ⟨OwW.mono HW.out (by have := HGD.out; omega)⟩
        have c0 := HCr.out.c 0 _ rfl
        have c1 := HCr.out.c 1 _ rfl
        have c2 := HCr.out.c 2 _ rfl
        have c3 := HCr.out.c 3 _ rfl
        have c4 := HCr.out.c 4 _ rfl
        have c5 := HCr.out.c 5 _ rfl
        go_wp2_with (go_at_call 14; (with_reducible refine (only_as (K + 1) P N2 gg L ws bv lv _ HB.out HWG.out).mono ?_); rintro e w5 ⟨k', p', n', g', bs', ls', Ab, cb, Al, cl, rfl, hz, h1, h2, hb⟩; have HZZ := As.mk hz; have HR1 := As.mk h1; have HR2 := As.mk h2; have HC5 := As.mk (HCr.out.below hb); clear hb h1 h2 hz c0 c1 c2 c3 c4 c5; have r0 := HC5.out.b1.cell 0 _ rfl; have r1 := HC5.out.b1.cell 1 _ rfl; have r2 := HC5.out.b1.cell 2 _ rfl; have r3 := HC5.out.b1.cell 3 _ rfl; have r4 := HC5.out.b1.cell 4 _ rfl; have r5 := HC5.out.b1.cell 5 _ rfl; have rf := HC5.out.b1.frozen)
        have HF6 := As.mk (And.intro (set6_box HC5.out.b1 (.int .i64 k') (.int .i64 p') (.int .i64 n') (.bool g') (.slice Ab bs'.length cb) (.slice Al ls'.length cl)) (set6_below HC5.out.bl HC5.out.wr (.int .i64 k') (.int .i64 p') (.int .i64 n') (.bool g') (.slice Ab bs'.length cb) (.slice Al ls'.length cl)))
        have HG6 := As.mk (set6_grown w5 R (.int .i64 k') (.int .i64 p') (.int .i64 n') (.bool g') (.slice Ab bs'.length cb) (.slice Al ls'.length cl))
        generalize ((((((w5.setCell ⟨R, 0, none⟩ (.int .i64 k')).setCell ⟨R, 1, none⟩ (.int .i64 p')).setCell ⟨R, 2, none⟩ (.int .i64 n')).setCell ⟨R, 3, none⟩ (.bool g')).setCell ⟨R, 4, none⟩ (.slice Ab bs'.length cb)).setCell ⟨R, 5, none⟩ (.slice Al ls'.length cl)) = WF at HF6 HG6 ⊢
        have q0 := HF6.out.1.cell 0 _ rfl
        have q1 := HF6.out.1.cell 1 _ rfl
        have q2 := HF6.out.1.cell 2 _ rfl
        have q3 := HF6.out.1.cell 3 _ rfl
        have q4 := HF6.out.1.cell 4 _ rfl
        have q5 := HF6.out.1.cell 5 _ rfl
        refine bodyPost_ret (v := .agg #[.int .i64 k', .int .i64 p', .int .i64 n', .bool g', .slice Ab bs'.length cb, .slice Al ls'.length cl]) (by simp [results, Tryd.results15, go_sem, q0, q1, q2, q3, q4, q5]) rfl ?_
        exact ⟨⟨k', p', n', g', bs', ls'⟩, Ab, cb, Al, cl, rfl, ⟨(OwB.read HR1.out HG6.out (by have := HCr.out.2.2.2.2; omega)).rd, (OwW.read HR2.out HG6.out (by have := HCr.out.2.2.2.2; omega)).rd⟩, by rw [← HZZ.out]; exact only_only _, by rw [← HZZ.out]; exact HZ.out.only, HF6.out.2⟩
  · have h6' : (B6 == 1) = false := beq_eq_false_iff_ne.2 h6
    go_upto_region 4 with fail
    obtain ⟨bv, hbv⟩ : ∃ bv, bv = Value.slice none 0 0 := ⟨_, rfl⟩
    have HC2 : As (CS w W0 R G [.int .i64 (K + 1), .int .i64 P, .int .i64 N2, .bool gg, bv, .slice none 0 0]) := ⟨by rw [hbv]; exact HC1.out⟩
    obtain ⟨L, hLe⟩ : ∃ L : List UInt8, L = [] := ⟨_, rfl⟩
    have HBV : As (OwB W0 (G + 1) 5 bv L) := ⟨by rw [hbv, hLe]; exact OwS.nil _ _ _ _⟩
    have hL : L.length ≤ 1 := by rw [hLe]; exact Nat.zero_le _
    clear HC1 hLe hbv
    have HC := HC2
    clear HC2
    generalize W0 = W1 at HC HBV ⊢
    have HBL : As (L.length ≤ 1) := ⟨hL⟩
    have HD : As (∀ k, bv.ownBlock = some k → k < W1.heap.size) := ⟨fun k hk => (OwS.lt HBV.out k hk).2⟩
    obtain ⟨D, hD⟩ : ∃ D, D = W1.heap.size := ⟨_, rfl⟩
    rw [← hD] at HD
    have HGD : As (G < D) := ⟨by rw [hD]; exact HC.out.lt⟩
    have HLV0 : As (OwW W1 D (.slice none 0 0) []) := ⟨OwW.nil _ _⟩
    have HDW : As (D ≤ W1.heap.size) := ⟨by rw [hD]; exact Nat.le_refl _⟩
    clear hD hL
    go_wp2
    go_loopw [4] (fun v4 wr => ∃ (j : Nat) (lv : Value) (ws : List (List UInt8)), v4 = .int .i64 (j : Int) ∧ (j : Int) ≤ M ∧ As (CS w wr R G [.int .i64 (K + 1), .int .i64 P, .int .i64 N2, .bool gg, bv, lv]) ∧ As (OwW wr D lv ws) ∧ As (OwB wr (G + 1) 5 bv L) ∧ As (ws.length ≤ 100 * j ∧ ∀ x ∈ ws, x.length ≤ 1) ∧ As (D ≤ wr.heap.size)) (fun v4 _ => M.toNat - (intOf v4).toNat)
    case atStart => exact ⟨0, .slice none 0 0, [], rfl, by omega, HC, HLV0, HBV, ⟨Nat.le_refl _, fun x hx => by cases hx⟩, HDW⟩
    case round =>
      obtain ⟨j, lv, ws, rfl, hj, HCr, HW, HB, HN, HDr⟩ := hrel
      by_cases hlt : (j : Int) < M
      · have HSZ := As.mk HCr.out.lt
        have HLT := As.mk (fun b hb => (OwW.lt HW.out b hb))
        have HWL : As (ws.length ≤ 4000000) := ⟨by have := HN.out.1; omega⟩
        have c5 := HCr.out.c 5 _ rfl
        have f5 := HCr.out.f 5
        rcases (by omega : j = 0 ∨ j = 1 ∨ j = 2) with rfl | rfl | rfl
        · obtain ⟨q, hq, hq0, hq1⟩ := mask_int (n / 2048) 1 1 (by decide) (by decide)
          obtain ⟨yq, hyq⟩ := byte_of q hq0 (by have e1 : ((2 ^ 1 : Nat) : Int) = 2 := rfl; omega)
          clear hq0 hq1
          have HZQ : As (OwB ((wr.alloc (.cells #[.int .u8 (yq.toNat : Int)] 5)).alloc (.cells #[.slice (some ⟨wr.heap.size, 0, none⟩) 1 1] 29)) D 5 (.slice (some ⟨wr.heap.size, 0, none⟩) 1 1) [yq]) := ⟨OwS.below (OwB.one wr D HDr.out yq) (below_al _ _)⟩
          have HOF : As (Off lv.ownBlock (.slice (some ⟨wr.heap.size, 0, none⟩) 1 1)) := ⟨fun b hb e => by have h1 := HLT.out b e; simp [Value.ownBlock] at hb; omega⟩
          have HB2 : As (Below wr.heap.size wr ((wr.alloc (.cells #[.int .u8 (yq.toNat : Int)] 5)).alloc (.cells #[.slice (some ⟨wr.heap.size, 0, none⟩) 1 1] 29))) := ⟨(below_al _ _).alloc (by simp) _⟩
          have HKE : As (bv.ownBlock = none ∨ bv.ownBlock ≠ lv.ownBlock) := ⟨by
            rcases hk : bv.ownBlock with _ | kk
            · exact .inl rfl
            · refine .inr (fun e => ?_)
              have h1 := HD.out kk hk
              have h2 := (HLT.out kk e.symm).1
              omega⟩
          have hsz := HSZ.out
          go_wp2_with (at_builtin; refine wpList_appW D rfl (.tmp 37) (.tmp 46) rfl lv rfl (wr.heap.size + 1) rfl (.slice (some ⟨wr.heap.size, 0, none⟩) 1 1) ?hc rfl ws [yq] ((HW.out.alloc _).alloc _) ⟨HZQ.out, HOF.out⟩ HWL.out ?base ?_; (case hc => simp); (case base => have := HDr.out; simp; omega); intro v4 w4 ho hg; obtain ⟨A4, k4, rfl, -⟩ := ho.rd.form; have HO4 : As (OwW w4 D (.slice A4 (ws.length + 1) k4) (ws ++ [[yq]])) := ⟨by have h := ho; rw [List.length_append] at h; exact h⟩; have HC4 := As.mk ((HCr.out.below HB2.out).grown hg (fun b hb => by have := (HLT.out b hb).1; have := HGD.out; omega)); have HB4 := As.mk (OwS.kept (OwS.below HB.out HB2.out) hg HKE.out); have HS4 : As (D ≤ w4.heap.size) := ⟨Nat.le_trans HDr.out (Nat.le_trans HB2.out.size hg.size)⟩; clear ho hg c5 f5; have c5 := HC4.out.c 5 _ rfl; have f5 := HC4.out.f 5)
          go_roundw
          case rel => exact ⟨0 + 1, _, ws ++ [[yq]], by go_num, by omega, ⟨HC4.out.set 5 _⟩, ⟨OwW.read HO4.out (grown_set _ G 5 _) HGD.out⟩, ⟨OwB.read HB4.out (grown_set _ G 5 _) (Nat.lt_succ_self G)⟩, ⟨by have := HN.out.1; rw [List.length_append]; show ws.length + 1 ≤ _; omega, fun x hx => by rcases List.mem_append.1 hx with hx | hx; exact HN.out.2 x hx; simp at hx; subst hx; exact Nat.le_refl 1⟩, ⟨by rw [World.size_setCell]; exact HS4.out⟩⟩
          case measure => simp [intOf]; omega
        · obtain ⟨q, hq, hq0, hq1⟩ := mask_int (n / 4096) 1 1 (by decide) (by decide)
          obtain ⟨yq, hyq⟩ := byte_of q hq0 (by have e1 : ((2 ^ 1 : Nat) : Int) = 2 := rfl; omega)
          clear hq0 hq1
          have HZQ : As (OwB ((wr.alloc (.cells #[.int .u8 (yq.toNat : Int)] 5)).alloc (.cells #[.slice (some ⟨wr.heap.size, 0, none⟩) 1 1] 29)) D 5 (.slice (some ⟨wr.heap.size, 0, none⟩) 1 1) [yq]) := ⟨OwS.below (OwB.one wr D HDr.out yq) (below_al _ _)⟩
          have HOF : As (Off lv.ownBlock (.slice (some ⟨wr.heap.size, 0, none⟩) 1 1)) := ⟨fun b hb e => by have h1 := HLT.out b e; simp [Value.ownBlock] at hb; omega⟩
          have HB2 : As (Below wr.heap.size wr ((wr.alloc (.cells #[.int .u8 (yq.toNat : Int)] 5)).alloc (.cells #[.slice (some ⟨wr.heap.size, 0, none⟩) 1 1] 29))) := ⟨(below_al _ _).alloc (by simp) _⟩
          have HKE : As (bv.ownBlock = none ∨ bv.ownBlock ≠ lv.ownBlock) := ⟨by
            rcases hk : bv.ownBlock with _ | kk
            · exact .inl rfl
            · refine .inr (fun e => ?_)
              have h1 := HD.out kk hk
              have h2 := (HLT.out kk e.symm).1
              omega⟩
          have hsz := HSZ.out
          go_wp2_with (at_builtin; refine wpList_appW D rfl (.tmp 37) (.tmp 46) rfl lv rfl (wr.heap.size + 1) rfl (.slice (some ⟨wr.heap.size, 0, none⟩) 1 1) ?hc rfl ws [yq] ((HW.out.alloc _).alloc _) ⟨HZQ.out, HOF.out⟩ HWL.out ?base ?_; (case hc => simp); (case base => have := HDr.out; simp; omega); intro v4 w4 ho hg; obtain ⟨A4, k4, rfl, -⟩ := ho.rd.form; have HO4 : As (OwW w4 D (.slice A4 (ws.length + 1) k4) (ws ++ [[yq]])) := ⟨by have h := ho; rw [List.length_append] at h; exact h⟩; have HC4 := As.mk ((HCr.out.below HB2.out).grown hg (fun b hb => by have := (HLT.out b hb).1; have := HGD.out; omega)); have HB4 := As.mk (OwS.kept (OwS.below HB.out HB2.out) hg HKE.out); have HS4 : As (D ≤ w4.heap.size) := ⟨Nat.le_trans HDr.out (Nat.le_trans HB2.out.size hg.size)⟩; clear ho hg c5 f5; have c5 := HC4.out.c 5 _ rfl; have f5 := HC4.out.f 5)
          go_roundw
          case rel => exact ⟨1 + 1, _, ws ++ [[yq]], by go_num, by omega, ⟨HC4.out.set 5 _⟩, ⟨OwW.read HO4.out (grown_set _ G 5 _) HGD.out⟩, ⟨OwB.read HB4.out (grown_set _ G 5 _) (Nat.lt_succ_self G)⟩, ⟨by have := HN.out.1; rw [List.length_append]; show ws.length + 1 ≤ _; omega, fun x hx => by rcases List.mem_append.1 hx with hx | hx; exact HN.out.2 x hx; simp at hx; subst hx; exact Nat.le_refl 1⟩, ⟨by rw [World.size_setCell]; exact HS4.out⟩⟩
          case measure => simp [intOf]; omega
        · obtain ⟨q, hq, hq0, hq1⟩ := mask_int (n / 8192) 1 1 (by decide) (by decide)
          obtain ⟨yq, hyq⟩ := byte_of q hq0 (by have e1 : ((2 ^ 1 : Nat) : Int) = 2 := rfl; omega)
          clear hq0 hq1
          have HZQ : As (OwB ((wr.alloc (.cells #[.int .u8 (yq.toNat : Int)] 5)).alloc (.cells #[.slice (some ⟨wr.heap.size, 0, none⟩) 1 1] 29)) D 5 (.slice (some ⟨wr.heap.size, 0, none⟩) 1 1) [yq]) := ⟨OwS.below (OwB.one wr D HDr.out yq) (below_al _ _)⟩
          have HOF : As (Off lv.ownBlock (.slice (some ⟨wr.heap.size, 0, none⟩) 1 1)) := ⟨fun b hb e => by have h1 := HLT.out b e; simp [Value.ownBlock] at hb; omega⟩
          have HB2 : As (Below wr.heap.size wr ((wr.alloc (.cells #[.int .u8 (yq.toNat : Int)] 5)).alloc (.cells #[.slice (some ⟨wr.heap.size, 0, none⟩) 1 1] 29))) := ⟨(below_al _ _).alloc (by simp) _⟩
          have HKE : As (bv.ownBlock = none ∨ bv.ownBlock ≠ lv.ownBlock) := ⟨by
            rcases hk : bv.ownBlock with _ | kk
            · exact .inl rfl
            · refine .inr (fun e => ?_)
              have h1 := HD.out kk hk
              have h2 := (HLT.out kk e.symm).1
              omega⟩
          have hsz := HSZ.out
          go_wp2_with (at_builtin; refine wpList_appW D rfl (.tmp 37) (.tmp 46) rfl lv rfl (wr.heap.size + 1) rfl (.slice (some ⟨wr.heap.size, 0, none⟩) 1 1) ?hc rfl ws [yq] ((HW.out.alloc _).alloc _) ⟨HZQ.out, HOF.out⟩ HWL.out ?base ?_; (case hc => simp); (case base => have := HDr.out; simp; omega); intro v4 w4 ho hg; obtain ⟨A4, k4, rfl, -⟩ := ho.rd.form; have HO4 : As (OwW w4 D (.slice A4 (ws.length + 1) k4) (ws ++ [[yq]])) := ⟨by have h := ho; rw [List.length_append] at h; exact h⟩; have HC4 := As.mk ((HCr.out.below HB2.out).grown hg (fun b hb => by have := (HLT.out b hb).1; have := HGD.out; omega)); have HB4 := As.mk (OwS.kept (OwS.below HB.out HB2.out) hg HKE.out); have HS4 : As (D ≤ w4.heap.size) := ⟨Nat.le_trans HDr.out (Nat.le_trans HB2.out.size hg.size)⟩; clear ho hg c5 f5; have c5 := HC4.out.c 5 _ rfl; have f5 := HC4.out.f 5)
          go_roundw
          case rel => exact ⟨2 + 1, _, ws ++ [[yq]], by go_num, by omega, ⟨HC4.out.set 5 _⟩, ⟨OwW.read HO4.out (grown_set _ G 5 _) HGD.out⟩, ⟨OwB.read HB4.out (grown_set _ G 5 _) (Nat.lt_succ_self G)⟩, ⟨by have := HN.out.1; rw [List.length_append]; show ws.length + 1 ≤ _; omega, fun x hx => by rcases List.mem_append.1 hx with hx | hx; exact HN.out.2 x hx; simp at hx; subst hx; exact Nat.le_refl 1⟩, ⟨by rw [World.size_setCell]; exact HS4.out⟩⟩
          case measure => simp [intOf]; omega
      · have HZ : As (SmallS ⟨K + 1, P, N2, gg, L, ws⟩) := ⟨HKP.out.1, HKP.out.2.1, HKP.out.2.2, by have := HBL.out; show L.length ≤ _; omega, by have := HN.out.1; show ws.length ≤ _; omega, fun x hx => by have := HN.out.2 x hx; omega⟩
        have HWG : As (OwW wr (G + 1) lv ws) := ⟨OwW.mono HW.out (by have := HGD.out; omega)⟩
        have c0 := HCr.out.c 0 _ rfl
        have c1 := HCr.out.c 1 _ rfl
        have c2 := HCr.out.c 2 _ rfl
        have c3 := HCr.out.c 3 _ rfl
        have c4 := HCr.out.c 4 _ rfl
        have c5 := HCr.out.c 5 _ rfl
        go_wp2_with (go_at_call 14; (with_reducible refine (only_as (K + 1) P N2 gg L ws bv lv _ HB.out HWG.out).mono ?_); rintro e w5 ⟨k', p', n', g', bs', ls', Ab, cb, Al, cl, rfl, hz, h1, h2, hb⟩; have HZZ := As.mk hz; have HR1 := As.mk h1; have HR2 := As.mk h2; have HC5 := As.mk (HCr.out.below hb); clear hb h1 h2 hz c0 c1 c2 c3 c4 c5; have r0 := HC5.out.b1.cell 0 _ rfl; have r1 := HC5.out.b1.cell 1 _ rfl; have r2 := HC5.out.b1.cell 2 _ rfl; have r3 := HC5.out.b1.cell 3 _ rfl; have r4 := HC5.out.b1.cell 4 _ rfl; have r5 := HC5.out.b1.cell 5 _ rfl; have rf := HC5.out.b1.frozen)
        have HF6 := As.mk (And.intro (set6_box HC5.out.b1 (.int .i64 k') (.int .i64 p') (.int .i64 n') (.bool g') (.slice Ab bs'.length cb) (.slice Al ls'.length cl)) (set6_below HC5.out.bl HC5.out.wr (.int .i64 k') (.int .i64 p') (.int .i64 n') (.bool g') (.slice Ab bs'.length cb) (.slice Al ls'.length cl)))
        have HG6 := As.mk (set6_grown w5 R (.int .i64 k') (.int .i64 p') (.int .i64 n') (.bool g') (.slice Ab bs'.length cb) (.slice Al ls'.length cl))
        generalize ((((((w5.setCell ⟨R, 0, none⟩ (.int .i64 k')).setCell ⟨R, 1, none⟩ (.int .i64 p')).setCell ⟨R, 2, none⟩ (.int .i64 n')).setCell ⟨R, 3, none⟩ (.bool g')).setCell ⟨R, 4, none⟩ (.slice Ab bs'.length cb)).setCell ⟨R, 5, none⟩ (.slice Al ls'.length cl)) = WF at HF6 HG6 ⊢
        have q0 := HF6.out.1.cell 0 _ rfl
        have q1 := HF6.out.1.cell 1 _ rfl
        have q2 := HF6.out.1.cell 2 _ rfl
        have q3 := HF6.out.1.cell 3 _ rfl
        have q4 := HF6.out.1.cell 4 _ rfl
        have q5 := HF6.out.1.cell 5 _ rfl
        refine bodyPost_ret (v := .agg #[.int .i64 k', .int .i64 p', .int .i64 n', .bool g', .slice Ab bs'.length cb, .slice Al ls'.length cl]) (by simp [results, Tryd.results15, go_sem, q0, q1, q2, q3, q4, q5]) rfl ?_
        exact ⟨⟨k', p', n', g', bs', ls'⟩, Ab, cb, Al, cl, rfl, ⟨(OwB.read HR1.out HG6.out (by have := HCr.out.2.2.2.2; omega)).rd, (OwW.read HR2.out HG6.out (by have := HCr.out.2.2.2.2; omega)).rd⟩, by rw [← HZZ.out]; exact only_only _, by rw [← HZZ.out]; exact HZ.out.only, HF6.out.2⟩
end Go.Proofs.YtodcbcpjlhlakaaDoor.W
