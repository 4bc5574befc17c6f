/- TxnsOwn: what is read of bytes is one's own. -/
import Derived.Test.YtfggkljgfadacaaT27
set_option linter.unusedVariables false
set_option linter.unusedSimpArgs false
namespace Go.Proofs.Ytfggkljgfadacaa.W
open Go.RowKit Go.Proofs.Ytfggkljgfadacaa.B Go.Proofs

/-- A slice of bytes that may be written, in a block between two bounds, apart from the block 'own'. -/
def WrS (lo hi : Nat) (w : World) (own : Option Nat) (v : Value) : Prop :=
  ∃ A n c, v = .slice A n c ∧ n ≤ maxLen ∧ (n ≠ 0 → ∃ g o, A = some ⟨g, o, none⟩ ∧ lo ≤ g ∧ g < hi ∧ own ≠ some g ∧ ∀ j, j < n → (∃ b : UInt8, w.cell? ⟨g, o + j, none⟩ = some (u8v b)) ∧ w.frozen? ⟨g, o + j, none⟩ = false)
def RowE (lo hi : Nat) (w : World) (own : Option Nat) (cs : List Value) (x : LIn) : Prop := ∃ sv, cs[33]? = some sv ∧ WrS lo hi w own sv
theorem WrS.of {lo hi : Nat} {w : World} {own : Option Nat} {v : Value} {b : List UInt8} (h : El w lo own v b) (hh : w.heap.size ≤ hi) : WrS lo hi w own v := by
  obtain ⟨h1, h2⟩ := h
  have hl := h1.lt
  rcases h1.2 with ⟨rfl, h0⟩ | ⟨g, off, cap, cur, rfl, q1, q2, q3, q4, q5, q6⟩
  · exact ⟨none, 0, 0, rfl, by decide, fun h => absurd rfl h⟩
  · refine ⟨_, _, _, rfl, by omega, fun _ => ⟨g, off, rfl, q1, by have := (hl g rfl).2; omega, h2 g rfl, fun j hj => ⟨⟨b.getD j 0, ?_⟩, by simp [World.frozen?, q2]⟩⟩⟩
    have e : ((cur.toList.drop off).take (b.length * 1))[j]? = (b.map u8v)[j]? := by rw [q6]
    rw [List.getElem?_take_of_lt (by omega), List.getElem?_drop, List.getElem?_map, List.getElem?_eq_getElem hj] at e
    simp only [World.cell?, q2]
    rw [List.getD_eq_getElem?_getD, List.getElem?_eq_getElem hj]
    simpa using e
/-- A byte into any block. -/
theorem WrS.set {lo hi : Nat} {w : World} {own : Option Nat} {v : Value} (h : WrS lo hi w own v) (g o : Nat) (b : UInt8) (hc : (w.cell? ⟨g, o, none⟩).isSome = true) : WrS lo hi (w.setCell ⟨g, o, none⟩ (u8v b)) own v := by
  obtain ⟨A, n, c, rfl, hn, h1⟩ := h
  refine ⟨A, n, c, rfl, hn, fun h0 => ?_⟩
  obtain ⟨g', o', rfl, k1, k2, k3, k4⟩ := h1 h0
  refine ⟨g', o', rfl, k1, k2, k3, fun j hj => ?_⟩
  obtain ⟨⟨b', hb'⟩, hf⟩ := k4 j hj
  refine ⟨?_, by rw [World.frozen?_setCell]; exact hf⟩
  by_cases he : g' = g ∧ o' + j = o
  · obtain ⟨rfl, rfl⟩ := he
    exact ⟨b, World.cell?_setCell_same' _ _ _ hc⟩
  · refine ⟨b', ?_⟩
    rw [World.cell?_setCell_other]
    · exact hb'
    · intro e
      injection e with e1 e2
      exact he ⟨by first | exact e1 | exact e1.symm, by first | exact e2 | exact e2.symm⟩
theorem RowE.set {lo hi : Nat} {w : World} {own : Option Nat} (g o : Nat) (b : UInt8) (hc : (w.cell? ⟨g, o, none⟩).isSome = true) : ∀ cs x, RowE lo hi w own cs x → RowE lo hi (w.setCell ⟨g, o, none⟩ (u8v b)) own cs x := by
  rintro cs x ⟨sv, h1, h2⟩
  exact ⟨sv, h1, h2.set g o b hc⟩
theorem WrS.grown {lo hi : Nat} {w w' : World} {own row : Option Nat} {v : Value} (h : WrS lo hi w own v) (hg : w.grownBy w' row) (hf : ∀ g o, lo ≤ g → g < hi → w.frozen? ⟨g, o, none⟩ = false → w'.frozen? ⟨g, o, none⟩ = false) (hr : ∀ k, row = some k → k < lo) : WrS lo hi w' own v := by
  obtain ⟨A, n, c, rfl, hn, h1⟩ := h
  refine ⟨A, n, c, rfl, hn, fun h0 => ?_⟩
  obtain ⟨g, o, rfl, k1, k2, k3, k4⟩ := h1 h0
  refine ⟨g, o, rfl, k1, k2, k3, fun j hj => ?_⟩
  obtain ⟨⟨b, hb⟩, hfz⟩ := k4 j hj
  exact ⟨⟨b, hg.cell hb (fun e => by have := hr g e.symm; omega)⟩, hf _ _ k1 k2 hfz⟩
theorem frozen_grown {w w' : World} {row : Option Nat} (hg : w.grownBy w' row) {g o : Nat} (hlt : g < w.heap.size) (hr : row ≠ some g) (h : w.frozen? ⟨g, o, none⟩ = false) : w'.frozen? ⟨g, o, none⟩ = false := by
  unfold World.frozen? at *
  rw [hg.block g hlt (fun e => hr e.symm)]
  exact h
theorem RowE.grown {lo hi : Nat} {w w' : World} {row : Option Nat} (hg : w.grownBy w' row) (hh : hi ≤ w.heap.size) (hr : ∀ k, row = some k → k < lo) : ∀ own cs x, RowE lo hi w own cs x → RowE lo hi w' own cs x := by
  rintro own cs x ⟨sv, h1, h2⟩
  exact ⟨sv, h1, h2.grown hg (fun g o h1 h2 hf => frozen_grown hg (by omega) (fun e => by have := hr g e; omega) hf) hr⟩
theorem RowE.of {lo hi : Nat} {w : World} (hh : w.heap.size ≤ hi) : ∀ own cs x, InE lo w own cs x → RowE lo hi w own cs x := by
  rintro own cs x ⟨sv, wv, rfl, h1, h2, h3, h4⟩
  exact ⟨sv, by rw [List.getElem?_append_right (by rw [List.length_map]; omega), List.length_map, h1]; rfl, WrS.of h2 hh⟩
theorem RowE.at {lo hi : Nat} {w : World} {A : Option Addr} {n c : Nat} {ys : List LIn} (h : OwG (RowE lo hi) 55 36 w lo (.slice A n c) ys) (i : Nat) (hi' : i < ys.length) :
    ∃ g o A9 n9 c9, A = some ⟨g, o, none⟩ ∧ lo ≤ g ∧ w.cell? ⟨g, o + i * 36 + 33, none⟩ = some (.slice A9 n9 c9) ∧ WrS lo hi w (some g) (.slice A9 n9 c9) ∧ (n9 : Int) ≤ 9223372036854775807 := by
  obtain ⟨g, o, rfl, hg0, _, _⟩ := OwG.block h i hi'
  obtain ⟨zs, k1, k2⟩ := h
  obtain ⟨x, hx⟩ : ∃ x, ys[i]? = some x := ⟨_, List.getElem?_eq_getElem hi'⟩
  obtain ⟨sv, h33, hw⟩ := k2 i x hx
  have hw' := hw
  obtain ⟨A9, n9, c9, rfl, hn9, _⟩ := hw
  refine ⟨g, o, A9, n9, c9, rfl, hg0, ?_, hw', by unfold maxLen at hn9; omega⟩
  obtain ⟨_, A', c', he, _, _, _, hc⟩ := k1.rd
  injection he with he1 he2 he3
  subst he1
  rw [List.getElem?_take_of_lt (by omega), List.getElem?_drop] at h33
  have := hc _ rfl _ _ h33
  rw [Addr.add_mid] at this
  rw [Nat.add_assoc]
  exact this
theorem u8_inc (b : UInt8) : (Value.int .u8 (((b.toNat : Int) + 1) % 256)) = u8v (b + 1) := by
  unfold u8v
  have : (b + 1).toNat = (b.toNat + 1) % 256 := by simp
  rw [this]
  congr 1
theorem txOf_ins (n m : Int) : 1 ≤ (txOf n m).ins.length ∧ (txOf n m).ins.length ≤ 4 := by
  show 1 ≤ ((List.range (n / 256 % 4 + 1).toNat).map (inOf m)).length ∧ ((List.range (n / 256 % 4 + 1).toNat).map (inOf m)).length ≤ 4
  rw [List.length_map, List.length_range]; omega
set_option maxHeartbeats 4000000 in
set_option maxRecDepth 100000 in
theorem txnsOwn_any (n m : Int) (w : World) : Calls Try.prog 11 #[.int .i64 n, .int .i64 m] w fun e w' => e = .returned (.bool true) ∧ Below w.heap.size w w' := by
  obtain ⟨T, hT⟩ : ∃ T, T = txOf n m := ⟨_, rfl⟩
  have HT := As.mk hT
  have HM : As (mayT T) := ⟨by rw [hT]; exact txOf_may n m⟩
  have hN : (T.ins.length : Int) ≤ 4 := by rw [hT]; have := (txOf_ins n m).2; omega
  clear hT
  go_enter Try.func11, Try.ntmps11
  go_upto_region 2 with (go_at_call 51; (with_reducible refine (tx_any n m _).mono ?_); rintro e w1 ⟨cs, rfl, ht, hb⟩; have HX1 : As (OwTx w1 w.heap.size cs T) := ⟨by rw [HT.out]; exact ht.own⟩; obtain ⟨AI, cI, AO, cO, rfl⟩ := OwTx.form HX1.out; have HB1 := As.mk hb; clear ht hb)
  have HS1 : As (Below w.heap.size w (w1.alloc (.cells #[.int .u32 (T.ver : Int), .slice AI T.ins.length cI, .slice AO T.outs.length cO, .int .u32 (T.lock : Int)] 51)) ∧ BxT (w1.alloc (.cells #[.int .u32 (T.ver : Int), .slice AI T.ins.length cI, .slice AO T.outs.length cO, .int .u32 (T.lock : Int)] 51)) w1.heap.size [.int .u32 (T.ver : Int), .slice AI T.ins.length cI, .slice AO T.outs.length cO, .int .u32 (T.lock : Int)] T) := ⟨HB1.out.alloc HB1.out.size _, BxT.new HX1.out.rd⟩
  have HF : As (fitT T) := ⟨HX1.out.rd.fit⟩
  obtain ⟨bt, hbt⟩ : ∃ b, b = bytesT T := ⟨_, rfl⟩
  have HBT := As.mk hbt
  have HP1 : As (rParse bt = (T, true)) := ⟨by rw [hbt, bytesT_may HM.out]; exact rParse_bytes T HM.out HF.out⟩
  have HLN : As (bt.length ≤ 400000) := ⟨by rw [hbt, bytesT_may HM.out]; exact bytesB_length T HM.out HF.out⟩
  clear hbt
  obtain ⟨A, hA⟩ : ∃ A, A = w1.heap.size := ⟨_, rfl⟩
  rw [← hA] at HS1 ⊢
  clear hA HX1 HB1
  generalize w1.alloc (.cells #[.int .u32 (T.ver : Int), .slice AI T.ins.length cI, .slice AO T.outs.length cO, .int .u32 (T.lock : Int)] 51) = W1 at HS1 ⊢
  obtain ⟨q0, q1, q2, q3⟩ := HS1.out.2.four
  go_upto_region 3 with (go_at_call 46; (with_reducible refine (bytes_any _ T _ HS1.out.2.tx).mono ?_); rintro e w2 ⟨r2, rfl, ho, hb⟩; rw [← HBT.out] at ho; obtain ⟨A2, c2, rfl⟩ := RdB.formN ho.rd rfl; have HR2 := As.mk ho; have HB2 := As.mk hb; have kc := run_str (P := Try.prog) 24 9 5 Try.underlying24 Try.underlying5 Try.underlying9 ho.rd; clear ho hb q0 q1 q2 q3)
  go_upto_region 5 with (go_at_call 47; (with_reducible refine (parse_to _ _ _ HP1.out HR2.out.rd (by have := HLN.out; omega)).mono ?_); rintro e w3 ⟨cs3, rfl, ht, hb⟩; obtain ⟨BI, dI, BO, dO, rfl⟩ := OwTx.form ht; have HU3 := As.mk ht; have HR3 := As.mk (OwS.below HR2.out hb); have HB3 := As.mk (HB2.out.trans (hb.mono HB2.out.size)); have HLO := As.mk (fun k hk => (OwS.lt HR2.out k hk)); have HSZ := As.mk hb.size; have HW3 : As (OwG (RowE w2.heap.size w3.heap.size) 55 36 w3 w2.heap.size (.slice BI T.ins.length dI) T.ins) := ⟨by obtain ⟨iv, ov, mid, he, h1, _⟩ := ht; injection he with _ he; injection he with he _; subst he; exact OwG.mono h1 (Nat.le_refl _) (RowE.of (Nat.le_refl _))⟩; clear ht hb kc)
  obtain ⟨lo, hlo⟩ : ∃ l, l = w2.heap.size := ⟨_, rfl⟩
  obtain ⟨U, hU⟩ : ∃ A, A = w3.heap.size := ⟨_, rfl⟩
  have HS4 : As (Below W1.heap.size W1 (w3.alloc (.cells #[.int .u32 (T.ver : Int), .slice BI T.ins.length dI, .slice BO T.outs.length dO, .int .u32 (T.lock : Int)] 51)) ∧ Box (w3.alloc (.cells #[.int .u32 (T.ver : Int), .slice BI T.ins.length dI, .slice BO T.outs.length dO, .int .u32 (T.lock : Int)] 51)) U #[.int .u32 (T.ver : Int), .slice BI T.ins.length dI, .slice BO T.outs.length dO, .int .u32 (T.lock : Int)] 51 ∧ OwTx (w3.alloc (.cells #[.int .u32 (T.ver : Int), .slice BI T.ins.length dI, .slice BO T.outs.length dO, .int .u32 (T.lock : Int)] 51)) lo [.int .u32 (T.ver : Int), .slice BI T.ins.length dI, .slice BO T.outs.length dO, .int .u32 (T.lock : Int)] T ∧ OwB (w3.alloc (.cells #[.int .u32 (T.ver : Int), .slice BI T.ins.length dI, .slice BO T.outs.length dO, .int .u32 (T.lock : Int)] 51)) W1.heap.size 5 (.slice A2 bt.length c2) bt ∧ (∀ k, (Value.slice A2 bt.length c2).ownBlock = some k → W1.heap.size ≤ k ∧ k < lo) ∧ W1.heap.size ≤ lo ∧ lo ≤ U ∧ OwG (RowE lo U) 55 36 (w3.alloc (.cells #[.int .u32 (T.ver : Int), .slice BI T.ins.length dI, .slice BO T.outs.length dO, .int .u32 (T.lock : Int)] 51)) lo (.slice BI T.ins.length dI) T.ins ∧ U ≤ (w3.alloc (.cells #[.int .u32 (T.ver : Int), .slice BI T.ins.length dI, .slice BO T.outs.length dO, .int .u32 (T.lock : Int)] 51)).heap.size) := ⟨HB3.out.alloc HB3.out.size _, by rw [hU]; exact Box.new _ _ _, by rw [hlo]; exact HU3.out.below (below_al _ _), HR3.out.alloc _, by rw [hlo]; exact HLO.out, by rw [hlo]; exact HB2.out.size, by rw [hlo, hU]; exact HSZ.out, by rw [hlo, hU]; exact OwG.same (RowE.grown (grown_none (below_al _ _)) (Nat.le_refl _) (fun k hk => by cases hk)) HW3.out (below_al _ _), by rw [hU]; exact (below_al w3 _).size⟩
  rw [← hU]
  clear hU hlo HW3 HR3 HR2 HU3 HB3 HB2 HLO HSZ
  generalize w3.alloc (.cells #[.int .u32 (T.ver : Int), .slice BI T.ins.length dI, .slice BO T.outs.length dO, .int .u32 (T.lock : Int)] 51) = W4 at HS4 ⊢
  have hbl : (bt.length : Int) ≤ 400000 := by have := HLN.out; omega
  go_wp2
  go_loopw [28] (fun v28 wr => ∃ (k : Nat) (bk : List UInt8), v28 = .int .i64 (k : Int) ∧ (k : Int) ≤ bt.length ∧ As (bk.length = bt.length ∧ OwS wr W1.heap.size 5 1 (.slice A2 bt.length c2) bt.length (bk.map u8v) ∧ Below W1.heap.size W1 wr ∧ Box wr U #[.int .u32 (T.ver : Int), .slice BI T.ins.length dI, .slice BO T.outs.length dO, .int .u32 (T.lock : Int)] 51 ∧ OwTx wr lo [.int .u32 (T.ver : Int), .slice BI T.ins.length dI, .slice BO T.outs.length dO, .int .u32 (T.lock : Int)] T ∧ OwG (RowE lo U) 55 36 wr lo (.slice BI T.ins.length dI) T.ins ∧ U ≤ wr.heap.size)) (fun v28 _ => bt.length - (intOf v28).toNat)
  case atStart => exact ⟨0, bt, rfl, by omega, ⟨rfl, HS4.out.2.2.2.1, HS4.out.1, HS4.out.2.1, HS4.out.2.2.1, HS4.out.2.2.2.2.2.2.2⟩⟩
  case round =>
    obtain ⟨k, bk, rfl, hk, HK⟩ := hrel
    by_cases hlt : (k : Int) < bt.length
    · obtain ⟨g, o, rfl, hg0, hce, hcs, hfr⟩ := OwS.cellAt HK.out.2.1 k (by omega)
      obtain ⟨b, hb⟩ : ∃ b, bk[k]? = some b := ⟨_, List.getElem?_eq_getElem (by have := HK.out.1; omega)⟩
      have hcell : wr.cell? ⟨g, o + k, none⟩ = some (.int .u8 (b.toNat : Int)) := by rw [hce, List.getElem?_map, hb]; rfl
      have HKB := As.mk hb
      have hb2 : (b.toNat : Int) ≤ 255 := by have := b.toNat_lt; omega
      clear hce hcs hb
      go_wp2
      have hv : (Value.int .u8 (((b.toNat : Int) + 1) % 256)) = u8v (b + 1) := u8_inc b
      have gset := grown_set wr g (o + k) (Value.int .u8 (((b.toNat : Int) + 1) % 256))
      have hgl := HS4.out.2.2.2.2.1 g rfl
      have HK2 : As ((bk.set k (b + 1)).length = bt.length ∧ OwS (wr.setCell ⟨g, o + k, none⟩ (Value.int .u8 (((b.toNat : Int) + 1) % 256))) W1.heap.size 5 1 (.slice (some ⟨g, o, none⟩) bt.length c2) bt.length ((bk.set k (b + 1)).map u8v) ∧ Below W1.heap.size W1 (wr.setCell ⟨g, o + k, none⟩ (Value.int .u8 (((b.toNat : Int) + 1) % 256))) ∧ Box (wr.setCell ⟨g, o + k, none⟩ (Value.int .u8 (((b.toNat : Int) + 1) % 256))) U #[.int .u32 (T.ver : Int), .slice BI T.ins.length dI, .slice BO T.outs.length dO, .int .u32 (T.lock : Int)] 51 ∧ OwTx (wr.setCell ⟨g, o + k, none⟩ (Value.int .u8 (((b.toNat : Int) + 1) % 256))) lo [.int .u32 (T.ver : Int), .slice BI T.ins.length dI, .slice BO T.outs.length dO, .int .u32 (T.lock : Int)] T ∧ OwG (RowE lo U) 55 36 (wr.setCell ⟨g, o + k, none⟩ (Value.int .u8 (((b.toNat : Int) + 1) % 256))) lo (.slice BI T.ins.length dI) T.ins ∧ U ≤ (wr.setCell ⟨g, o + k, none⟩ (Value.int .u8 (((b.toNat : Int) + 1) % 256))).heap.size) := ⟨by
        refine ⟨by rw [List.length_set]; exact HK.out.1, ?_, HK.out.2.2.1.setCell (show W1.heap.size ≤ g from hg0) _, HK.out.2.2.2.1.grown gset (fun e => by injection e with e; have := HS4.out.2.2.2.2.2.2.1; omega), HK.out.2.2.2.2.1.read gset hgl.2, OwG.read (l := []) (bad := false) (RowE.grown gset HK.out.2.2.2.2.2.2 (fun j hj => by injection hj with hj; omega)) HK.out.2.2.2.2.2.1 gset hgl.2, Nat.le_trans HK.out.2.2.2.2.2.2 gset.size⟩
        rw [List.map_set, ← hv]
        exact OwS.set HK.out.2.1 k (by omega) _⟩
      clear hv gset hcell hfr
      first | go_roundw | skip
      case rel => exact ⟨k + 1, bk.set k (b + 1), by go_num, by omega, HK2⟩
      case measure => simp [intOf]; omega
    · have HS5 : As (Below W1.heap.size W1 wr ∧ Box wr U #[.int .u32 (T.ver : Int), .slice BI T.ins.length dI, .slice BO T.outs.length dO, .int .u32 (T.lock : Int)] 51 ∧ OwTx wr lo [.int .u32 (T.ver : Int), .slice BI T.ins.length dI, .slice BO T.outs.length dO, .int .u32 (T.lock : Int)] T ∧ OwG (RowE lo U) 55 36 wr lo (.slice BI T.ins.length dI) T.ins ∧ U ≤ wr.heap.size) := ⟨HK.out.2.2⟩
      have HBA5 := As.mk (HS1.out.2.below HS5.out.1)
      obtain ⟨q0, q1, q2, q3⟩ := HBA5.out.four
      obtain ⟨r0, r1, r2, r3, -⟩ := Box.four HS5.out.2.1
      have d1 : decide (T = T) = true := decide_eq_true rfl
      clear HK
      go_upto_region 12 with (go_at_call 52; (with_reducible refine (qsame_any _ _ T T _ HS5.out.2.2.1.rd HBA5.out.tx).mono ?_); rintro e w6 ⟨rfl, hb⟩; have HB6 := As.mk (HS5.out.1.trans (hb.mono HS5.out.1.size)); have HU6 := As.mk (HS5.out.2.1.below hb); have HR6 := As.mk (And.intro (OwG.same (RowE.grown (grown_none hb) HS5.out.2.2.2.2 (fun k hk => by cases hk)) HS5.out.2.2.2.1 hb) (And.intro HB6.out HU6.out)); clear hb q0 q1 q2 q3 r0 r1 r2 r3)
      have r1 := Box.cell HU6.out 1 _ rfl
      have HLU := As.mk (And.intro HS4.out.2.2.2.2.2.1 HS4.out.2.2.2.2.2.2.1)
      clear HS5 HBA5 HS4
      go_wp2
      clear r1
      go_loopw [49] (fun v49 w7 => ∃ i : Nat, v49 = .int .i64 (i : Int) ∧ (i : Int) ≤ T.ins.length ∧ As (OwG (RowE lo U) 55 36 w7 lo (.slice BI T.ins.length dI) T.ins ∧ Below W1.heap.size W1 w7 ∧ Box w7 U #[.int .u32 (T.ver : Int), .slice BI T.ins.length dI, .slice BO T.outs.length dO, .int .u32 (T.lock : Int)] 51)) (fun v49 _ => T.ins.length - (intOf v49).toNat)
      case atStart => exact ⟨0, rfl, by omega, HR6⟩
      case round =>
        clear HR6 HB6 HU6
        obtain ⟨i, rfl, hi, HI⟩ := hrel
        have r1 := Box.cell HI.out.2.2 1 _ rfl
        by_cases hlt2 : (i : Int) < T.ins.length
        · obtain ⟨g, o, A9, n9, c9, rfl, hg0, hcell, hw9, hn9⟩ := RowE.at HI.out.1 i (by omega)
          have HC0 := As.mk (And.intro hcell hw9)
          clear hw9
          go_wp2
          clear r1 hcell
          go_loopw [59] (fun v59 wr => ∃ k : Nat, v59 = .int .i64 (k : Int) ∧ (k : Int) ≤ n9 ∧ As (OwG (RowE lo U) 55 36 wr lo (.slice (some ⟨g, o, none⟩) T.ins.length dI) T.ins ∧ Below W1.heap.size W1 wr ∧ Box wr U #[.int .u32 (T.ver : Int), .slice (some ⟨g, o, none⟩) T.ins.length dI, .slice BO T.outs.length dO, .int .u32 (T.lock : Int)] 51 ∧ wr.cell? ⟨g, o + i * 36 + 33, none⟩ = some (.slice A9 n9 c9) ∧ WrS lo U wr (some g) (.slice A9 n9 c9))) (fun v59 _ => n9 - (intOf v59).toNat)
          case atStart =>
            exact ⟨0, rfl, by omega, ⟨HI.out.1, HI.out.2.1, HI.out.2.2, HC0.out.1, HC0.out.2⟩⟩
          case round =>
            obtain ⟨k, rfl, hk, HK⟩ := hrel
            have r1 := Box.cell HK.out.2.2.1 1 _ rfl
            have hcell := HK.out.2.2.2.1
            by_cases hlt3 : (k : Int) < n9
            · obtain ⟨A9', n9', c9', he, hn9', hw9⟩ := HK.out.2.2.2.2
              injection he with he1 he2 he3
              subst he1 he2 he3
              obtain ⟨g2, o2, rfl, hl2, hh2, hne, hcf⟩ := hw9 (by omega)
              obtain ⟨⟨b, hb⟩, hf⟩ := hcf k (by omega)
              have hb1 : wr.cell? ⟨g2, o2 + k, none⟩ = some (.int .u8 (b.toNat : Int)) := hb
              have hb2 : (b.toNat : Int) ≤ 255 := by have := b.toNat_lt; omega
              have HNE : As (g ≠ g2) := ⟨fun e => hne (by rw [e])⟩
              have HCB : As ((wr.cell? ⟨g2, o2 + k, none⟩).isSome = true ∧ lo ≤ g2 ∧ g2 < U) := ⟨by rw [hb]; rfl, hl2, hh2⟩
              clear hw9 hcf hb hne hn9' hl2 hh2
              go_wp2
              have HK2 : As (OwG (RowE lo U) 55 36 (wr.setCell ⟨g2, o2 + k, none⟩ (.int .u8 (((b.toNat : Int) + 1) % 256))) lo (.slice (some ⟨g, o, none⟩) T.ins.length dI) T.ins ∧ Below W1.heap.size W1 (wr.setCell ⟨g2, o2 + k, none⟩ (.int .u8 (((b.toNat : Int) + 1) % 256))) ∧ Box (wr.setCell ⟨g2, o2 + k, none⟩ (.int .u8 (((b.toNat : Int) + 1) % 256))) U #[.int .u32 (T.ver : Int), .slice (some ⟨g, o, none⟩) T.ins.length dI, .slice BO T.outs.length dO, .int .u32 (T.lock : Int)] 51 ∧ (wr.setCell ⟨g2, o2 + k, none⟩ (.int .u8 (((b.toNat : Int) + 1) % 256))).cell? ⟨g, o + i * 36 + 33, none⟩ = some (.slice (some ⟨g2, o2, none⟩) n9 c9) ∧ WrS lo U (wr.setCell ⟨g2, o2 + k, none⟩ (.int .u8 (((b.toNat : Int) + 1) % 256))) (some g) (.slice (some ⟨g2, o2, none⟩) n9 c9)) := ⟨by
                have hlu := HLU.out
                have hcb := HCB.out
                have hne := HNE.out
                rw [u8_inc b]
                have gset := grown_set wr g2 (o2 + k) (u8v (b + 1))
                refine ⟨OwG.kept (row := some g2) (RowE.set g2 (o2 + k) (b + 1) hcb.1 (own := some g)) HK.out.1 gset (fun j hj e => by injection e with e; simp [Value.ownBlock] at hj; omega), HK.out.2.1.setCell (show W1.heap.size ≤ g2 by omega) _, HK.out.2.2.1.grown gset (fun e => by injection e with e; omega), gset.cell HK.out.2.2.2.1 (fun e => by injection e with e; exact hne e), WrS.set HK.out.2.2.2.2 g2 (o2 + k) (b + 1) hcb.1⟩⟩
              clear r1 hcell hb1 hf
              go_roundw
              case rel => exact ⟨k + 1, by go_num, by omega, HK2⟩
              case measure => simp [intOf]; omega
            · have HK3 : As (OwG (RowE lo U) 55 36 wr lo (.slice (some ⟨g, o, none⟩) T.ins.length dI) T.ins ∧ Below W1.heap.size W1 wr ∧ Box wr U #[.int .u32 (T.ver : Int), .slice (some ⟨g, o, none⟩) T.ins.length dI, .slice BO T.outs.length dO, .int .u32 (T.lock : Int)] 51) := ⟨HK.out.1, HK.out.2.1, HK.out.2.2.1⟩
              clear r1 hcell
              go_wp2
              go_roundw
              case rel => exact ⟨i + 1, by go_num, by omega, HK3⟩
              case measure => simp [intOf]; omega
        · have HBA7 := As.mk (And.intro (HS1.out.1.trans (HI.out.2.1.mono HS1.out.1.size)) (HS1.out.2.below HI.out.2.1))
          clear r1 HI
          obtain ⟨q0, q1, q2, q3⟩ := HBA7.out.2.four
          go_wp2_with (first | (go_at_call 46; first | ((with_reducible refine (bytes_any _ T _ HBA7.out.2.tx).mono ?_); rintro e w8 ⟨r8, rfl, ho, hb⟩; rw [← HBT.out] at ho; obtain ⟨A8, c8, rfl⟩ := RdB.formN ho.rd rfl; have kc8 := run_str (P := Try.prog) 24 9 5 Try.underlying24 Try.underlying5 Try.underlying9 ho.rd; have HB8 := As.mk (HBA7.out.1.trans (hb.mono HBA7.out.1.size)); clear ho hb q0 q1 q2 q3) | ((with_reducible refine (bytes_any _ T _ HX9.out.rd).mono ?_); rintro e w10 ⟨r10, rfl, ho, hb⟩; rw [← HBT.out] at ho; obtain ⟨A10, c10, rfl⟩ := RdB.formN ho.rd rfl; have kc10 := run_str (P := Try.prog) 24 9 5 Try.underlying24 Try.underlying5 Try.underlying9 ho.rd; have HB10 := As.mk (HB9.out.trans (hb.mono HB9.out.size)); clear ho hb)) | (go_at_call 51; (with_reducible refine (tx_any n m _).mono ?_); rintro e w9 ⟨cs, rfl, ht, hb⟩; have HX9 : As (OwTx w9 w8.heap.size cs T) := ⟨by rw [HT.out]; exact ht.own⟩; obtain ⟨CI, eI, CO, eO, rfl⟩ := OwTx.form HX9.out; have HB9 := As.mk (HB8.out.trans (hb.mono HB8.out.size)); clear ht hb) | (go_at_call 50; (with_reducible refine (awake3_any _).mono ?_); rintro e w11 ⟨rfl, hb⟩; have HB11 := As.mk (HB10.out.trans (hb.mono HB10.out.size)); clear hb))
          go_ret
          exact ⟨rfl, HB11.out⟩
theorem txnsOwn_row (n : Int) (wn : (Lit.int .i64 n).wf = true) (m : Int) (wm : (Lit.int .i64 m).wf = true) (w : World) : Calls Try.prog 11 #[.int .i64 n, .int .i64 m] w fun e w' => e = .returned (.bool true) ∧ Below w.heap.size w w' := txnsOwn_any n m w
end Go.Proofs.Ytfggkljgfadacaa.W
