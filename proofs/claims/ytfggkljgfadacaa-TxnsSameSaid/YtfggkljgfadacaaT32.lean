/- TxnsBounds: with as many of each as may be, and not with one more. -/
import Derived.Test.YtfggkljgfadacaaT31
set_option linter.unusedVariables false
set_option linter.unusedSimpArgs false
namespace Go.Proofs.Ytfggkljgfadacaa.W
open Go.RowKit Go.Proofs.Ytfggkljgfadacaa.B Go.Proofs

theorem mask_nat (a : Int) (k : Nat) (m : Int) (h : (BitVec.ofInt 64 m).toNat = 2 ^ k - 1) (hk : k ≤ 10) : ∃ N : Nat, bits .and .i64 a m = (N : Int) ∧ N < 2 ^ k := by
  rw [i64_mask a m k h (by omega)]
  have hp : (0 : Int) < 2 ^ k := Int.pow_pos (by decide)
  have h0 := Int.emod_nonneg a (show (2 : Int) ^ k ≠ 0 by omega)
  have h1 := Int.emod_lt_of_pos a hp
  refine ⟨(a % 2 ^ k).toNat, by omega, ?_⟩
  have : (((2 : Nat) ^ k : Nat) : Int) = 2 ^ k := by simp
  omega
theorem late_cut {T G : Prop} (tail : T) (main : As T → G) : G := main ⟨tail⟩
theorem slice_same {g g' o o' : Nat} (h : (some ⟨g, o, none⟩ : Option Addr) = some ⟨g', o', none⟩) : g = g' ∧ o = o' := by
  injection h with h
  injection h with h1 h2
  exact ⟨h1, h2⟩
theorem txF_tx {w W : World} {G N M C I J base : Nat} {iv ov s wv s2 : Value} (h : BSt w W G iv ov (ysF N s wv) (soF M s2)) (h1 : N = 0 ∨ (OwB W base 5 s (zB C) ∧ OwW W base wv (List.replicate I (zB J)))) (h2 : M = 0 ∨ OwB W base 5 s2 (zB C)) (hN : N < 4294967296) : TxC W [.int .u32 2, iv, ov, .int .u32 0] (txF N M C I J) := by
  refine ⟨iv, ov, rfl, ?_, ?_, by show 2 < 4294967296; decide, by show 0 < 4294967296; decide⟩
  · rcases h1 with rfl | ⟨a, b⟩
    · exact xsF_rd (N := 0) (C := 0) (I := 0) (J := 0) (s := nilV) (wv := nilV) h.ins (RdB.nil _) (RdW.nil _) (by omega)
    · exact xsF_rd h.ins a.rd b.rd hN
  · rcases h2 with rfl | a
    · exact osF_rd (M := 0) (C := 0) (s := nilV) h.outs (RdB.nil _)
    · exact osF_rd h.outs a.rd
theorem may_g (N M C I J : Nat) : decide (mayT (txF N M C I J)) = ((decide ((1 ≤ N ∧ N ≤ 50) ∧ 1 ≤ M ∧ M ≤ 50) && (decide (N = 0) || decide (C ≤ 500 ∧ I ≤ 10 ∧ (J ≤ 500 ∨ I = 0)))) && (decide (M = 0) || decide (C ≤ 500))) := by
  rw [Bool.eq_iff_iff]
  simp only [Bool.and_eq_true, Bool.or_eq_true, decide_eq_true_eq, txF_may]
  omega
theorem bytesT_pos (T : LTx) : decide (0 < (bytesT T).length) = decide (mayT T) := by
  unfold bytesT
  split
  · next h => rw [decide_eq_true h]; apply decide_eq_true; unfold bytesB baseB; split <;> simp only [List.length_append, le_length, List.length_cons, List.length_nil] <;> omega
  · next h => rw [decide_eq_false h]; rfl
theorem baseT_pos (T : LTx) : decide (0 < (baseT T).length) = decide (mayT T) := by
  unfold baseT
  split
  · next h => rw [decide_eq_true h]; apply decide_eq_true; unfold baseB; simp only [List.length_append, le_length, List.length_cons, List.length_nil]; omega
  · next h => rw [decide_eq_false h]; rfl
theorem rParse_g (T : LTx) (hf : fitT T) : rParse (bytesT T) = (if mayT T then T else noTx, decide (mayT T)) := by
  by_cases h : mayT T
  · rw [if_pos h, decide_eq_true h, bytesT_may h]; exact rParse_bytes T h hf
  · unfold bytesT; rw [if_neg h, if_neg h, decide_eq_false h]; exact rParse_nil
theorem bytesT_short (T : LTx) (hf : fitT T) : (bytesT T).length ≤ 400000 := by
  by_cases h : mayT T
  · rw [bytesT_may h]; exact bytesB_length T h hf
  · unfold bytesT; rw [if_neg h]; simp
set_option maxHeartbeats 8000000 in
set_option maxRecDepth 100000 in
theorem txnsBounds_any (a0 a1 a2 a3 a4 : Int) (w : World) : Calls Try.prog 10 #[.int .i64 a0, .int .i64 a1, .int .i64 a2, .int .i64 a3, .int .i64 a4] w fun e w' => e = .returned (.bool true) ∧ Below w.heap.size w w' := by
  obtain ⟨N, e0, hN⟩ := mask_nat a0 6 63 (by decide) (by decide)
  obtain ⟨M, e1, hM⟩ := mask_nat a1 6 63 (by decide) (by decide)
  obtain ⟨C, e2, hC⟩ := mask_nat a2 10 1023 (by decide) (by decide)
  obtain ⟨I, e3, hI⟩ := mask_nat a3 4 15 (by decide) (by decide)
  obtain ⟨J, e4, hJ⟩ := mask_nat a4 10 1023 (by decide) (by decide)
  have hN' : (N : Int) ≤ 63 := by omega
  have hM' : (M : Int) ≤ 63 := by omega
  have hC' : (C : Int) ≤ 1023 := by omega
  have hI' : (I : Int) ≤ 15 := by omega
  have hJ' : (J : Int) ≤ 1023 := by omega
  clear hN hM hC hI hJ
  go_enter Try.func10, Try.ntmps10
  go_upto_region 3 with fail
  clear e0 e1 e2 e3 e4
  obtain ⟨G, hG⟩ : ∃ G, G = w.heap.size := ⟨_, rfl⟩
  have HS0 : As (BSt w (w.alloc (.cells #[.int .u32 2, .slice none 0 0, .slice none 0 0, .int .u32 0] 51)) G (.slice none 0 0) (.slice none 0 0) [] []) := ⟨below_al _ _, by rw [hG]; exact Box.new _ _ _, OwG.nil, OwG.nil, by rw [hG]; exact Nat.le_refl _⟩
  rw [← hG]
  clear hG
  generalize w.alloc (.cells #[.int .u32 2, .slice none 0 0, .slice none 0 0, .int .u32 0] 51) = W0 at HS0 ⊢
  go_wp2
  go_loopw [12] (fun v12 wr => ∃ (k : Nat) (iv : Value), v12 = .int .i64 (k : Int) ∧ (k : Int) ≤ N ∧ As (BSt w wr G iv (.slice none 0 0) ((List.range k).map fun i => (i, nilV, nilV)) [])) (fun v12 _ => N - (intOf v12).toNat)
  case atStart => exact ⟨0, _, rfl, by omega, HS0⟩
  case round =>
    obtain ⟨k, iv, rfl, hk, HK⟩ := hrel
    by_cases hlt : (k : Int) < N
    · obtain ⟨AI, cI, hiv⟩ := OwG.form HK.out.ins
      rw [List.length_map, List.length_range] at hiv
      subst hiv
      obtain ⟨c36, hc36⟩ : ∃ c, c = cellI (k, nilV, nilV) := ⟨_, rfl⟩
      have HC36 := As.mk hc36
      have HCL : As (c36.length = 36) := ⟨by rw [hc36]; rfl⟩
      have H1 : As (∀ v ∈ c36, v.oneCell' = true) := ⟨by
        intro v hv
        rw [hc36] at hv
        rcases List.mem_append.1 hv with hv | hv
        · exact u8v_one _ v hv
        · simp [nilV] at hv; rcases hv with rfl | rfl | rfl | rfl <;> rfl⟩
      obtain ⟨it, hit⟩ := Option.map_eq_some_iff.1 info55
      have HIT := As.mk hit
      have HBN := As.mk (Box.new wr c36.toArray 55)
      have HKa := As.mk (HK.out.below (below_al wr (.cells c36.toArray 55)))
      have q1 := HK.out.four.2.1
      clear hc36 hit
      go_wp2_with (first | ((with_reducible refine wpList_build_to (o := ⟨_, .build 55 #[(1, .tmp 38)], _, _, _, _⟩) ?hgd 55 _ rfl c36.toArray ?hf ?_); (case hgd => exact rfl); (case hf => rw [HC36.out]; simp only [List.map_toArray, List.map_cons, List.map_nil]; exact built55c _)) | ((with_reducible refine wpList_buildSlice (o := ⟨_, .buildSlice 48 1 #[(0, .tmp 39)], _, _, _, _⟩) ?hgd 48 55 1 _ rfl c36.toArray it (.agg (Z32 ++ [Value.int .u32 0, Value.slice none 0 0, Value.int .u32 0, Value.slice none 0 0]).toArray) Try.underlying48 HIT.out.1 ?hz ?hsm ?hpo ?hf ?_); (case hgd => exact rfl); (case hz => have h := HIT.out.2; simp only [Prod.mk.injEq] at h; exact h.1); (case hsm => have h := HIT.out.2; simp only [Prod.mk.injEq] at h; rw [h.2.1]; decide); (case hpo => have h := HIT.out.2; simp only [Prod.mk.injEq] at h; rw [h.2.1]; decide); (case hf => have h := HIT.out.2; simp only [Prod.mk.injEq] at h; rw [h.2.1]; simp only [List.map_toArray, List.map_cons, List.map_nil]; exact fill55 _ (by simp) c36 HCL.out)) | (at_builtin; refine wpList_appG (E := EI) w.heap.size rfl (.tmp 36) (.tmp 40) 48 55 ZIn 36 96 rfl Try.underlying48 info55z zin_size (by decide) (by decide) (.slice AI k cI) rfl wr.heap.size rfl c36 HBN.out HCL.out H1.out ((List.range k).map fun i => (i, nilV, nilV)) (k, nilV, nilV) HKa.out.ins HC36.out (fun v' w' hg ht cs y h => h) (by rw [List.length_map, List.length_range]; omega) HKa.out.size ?_; intro v4 w4 ho hg ht; obtain ⟨A4, c4, h4⟩ := OwG.form ho; rw [List.length_append, List.length_map, List.length_range, List.length_singleton] at h4; subst h4; have HP := As.mk (And.intro (HKa.out.putI hg ho) (HKa.out.grownI hg).2.1); have r1 := Box.cell HP.out.2 1 _ rfl; have r2 := Box.frozen HP.out.2 1; clear ho hg ht))
      have HP2 : As (BSt w (w4.setCell ⟨G, 1, none⟩ (.slice A4 (k + 1) c4)) G (.slice A4 (k + 1) c4) (.slice none 0 0) ((List.range (k + 1)).map fun i => (i, nilV, nilV)) []) := ⟨by rw [List.range_succ, List.map_append]; exact HP.out.1⟩
      clear r1 r2 q1
      go_roundw
      case rel =>
        refine ⟨k + 1, .slice A4 (k + 1) c4, ?_, ?_, ?_⟩
        · go_num
        · omega
        · exact HP2
      case measure => simp [intOf]; omega
    · have hkn : k = N := by omega
      have HK0 : As (BSt w wr G iv (.slice none 0 0) (ysF N nilV nilV) []) := ⟨by rw [ysF_nil, ← hkn]; exact HK.out⟩
      clear HK hkn
      go_wp2
      go_loopw [13] (fun v13 wr => ∃ (k : Nat) (ov : Value), v13 = .int .i64 (k : Int) ∧ (k : Int) ≤ M ∧ As (BSt w wr G iv ov (ysF N nilV nilV) ((List.range k).map fun _ => nilV))) (fun v13 _ => M - (intOf v13).toNat)
      case atStart => exact ⟨0, _, rfl, by omega, HK0⟩
      case round =>
        clear hlt hk
        obtain ⟨j, ov, rfl, hj, HK⟩ := hrel
        by_cases hlt : (j : Int) < M
        · obtain ⟨AO, cO, hov⟩ := OwG.form HK.out.outs
          rw [List.length_map, List.length_range] at hov
          subst hov
          have HBN := As.mk (Box.new wr #[.int .u64 0, .slice none 0 0] 57)
          have HKa := As.mk (HK.out.below (below_al wr (.cells #[.int .u64 0, .slice none 0 0] 57)))
          have q2 := HK.out.four.2.2.1
          go_wp2_with ((at_builtin; refine wpList_appG (E := EO) w.heap.size rfl (.tmp 49) (.tmp 51) 49 57 (.agg #[.int .u64 0, .slice none 0 0]) 2 32 rfl Try.underlying49 info57 rfl (by decide) (by decide) (.slice AO j cO) rfl wr.heap.size rfl [.int .u64 0, .slice none 0 0] HBN.out rfl (by simp; exact ⟨rfl, rfl⟩) ((List.range j).map fun _ => nilV) nilV HKa.out.outs rfl (fun v' w' hg ht cs y h => h) (by rw [List.length_map, List.length_range]; omega) HKa.out.size ?_; intro v4 w4 ho hg ht; obtain ⟨A4, c4, h4⟩ := OwG.form ho; rw [List.length_append, List.length_map, List.length_range, List.length_singleton] at h4; subst h4; have HP := As.mk (And.intro (HKa.out.putO hg ho) (HKa.out.grownO hg).2.1); have r1 := Box.cell HP.out.2 2 _ rfl; have r2 := Box.frozen HP.out.2 2; clear ho hg ht))
          have HP2 : As (BSt w (w4.setCell ⟨G, 2, none⟩ (.slice A4 (j + 1) c4)) G iv (.slice A4 (j + 1) c4) (ysF N nilV nilV) ((List.range (j + 1)).map fun _ => nilV)) := ⟨by rw [List.range_succ, List.map_append]; exact HP.out.1⟩
          clear r1 r2 q2
          go_roundw
          case rel =>
            refine ⟨j + 1, .slice A4 (j + 1) c4, ?_, ?_, ?_⟩
            · go_num
            · omega
            · exact HP2
          case measure => simp [intOf]; omega
        · have hjn : j = M := by omega
          have HK1 : As (BSt w wr G iv ov (ysF N nilV nilV) (soF M nilV)) := ⟨by rw [soF_nil, ← hjn]; exact HK.out⟩
          clear HK hjn
          obtain ⟨AI, cI, hiv⟩ := OwG.form HK1.out.ins
          obtain ⟨AO, cO, hov⟩ := OwG.form HK1.out.outs
          rw [ysF_length] at hiv
          rw [show (soF M nilV).length = M by simp [soF]] at hov
          subst hiv hov
          go_upto_region 11 with fail
          obtain ⟨g1, hg1⟩ : ∃ g : Bool, g = decide ((1 ≤ N ∧ N ≤ 50) ∧ 1 ≤ M ∧ M ≤ 50) := ⟨_, rfl⟩
          have HG1 := As.mk hg1
          clear hg1 hlt
          go_cut [14] (fun v14 wc => v14 = .bool g1 ∧ wr = wc)
          case first =>
            by_cases c1 : (1 : Int) ≤ N
            · by_cases c2 : (N : Int) ≤ 50
              · by_cases c3 : (1 : Int) ≤ M
                · by_cases c4 : (M : Int) ≤ 50
                  · have HE : As (g1 = true) := ⟨by rw [HG1.out]; exact decide_eq_true (by omega)⟩
                    go_wp2
                    go_meet
                    rw [HE.out]
                    exact ⟨rfl, rfl⟩
                  · have HE : As (g1 = false) := ⟨by rw [HG1.out]; exact decide_eq_false (by omega)⟩
                    go_wp2
                    go_meet
                    rw [HE.out]
                    exact ⟨rfl, rfl⟩
                · have HE : As (g1 = false) := ⟨by rw [HG1.out]; exact decide_eq_false (by omega)⟩
                  go_wp2
                  go_meet
                  rw [HE.out]
                  exact ⟨rfl, rfl⟩
              · have HE : As (g1 = false) := ⟨by rw [HG1.out]; exact decide_eq_false (by omega)⟩
                go_wp2
                go_meet
                rw [HE.out]
                exact ⟨rfl, rfl⟩
            · have HE : As (g1 = false) := ⟨by rw [HG1.out]; exact decide_eq_false (by omega)⟩
              go_wp2
              go_meet
              rw [HE.out]
              exact ⟨rfl, rfl⟩
          case rest =>
            obtain ⟨rfl, rfl⟩ := hcut
            have km := fun V : World => run_make24 C (by omega) V
            have kj := fun V : World => run_make24 J (by omega) V
            go_upto_if 69 with fail
            go_cut [14] (fun v14 wc => ∃ (g2 : Bool) (s wv : Value), v14 = .bool g2 ∧ As (g2 = (g1 && (decide (N = 0) || decide (C ≤ 500 ∧ I ≤ 10 ∧ (J ≤ 500 ∨ I = 0))))) ∧ As (BSt w wc G (.slice AI N cI) (.slice AO M cO) (ysF N s wv) (soF M nilV) ∧ (N = 0 ∨ (OwB wc w.heap.size 5 s (zB C) ∧ OwW wc w.heap.size wv (List.replicate I (zB J))))))
            case first =>
              by_cases c1 : (0 : Int) < N
              · obtain ⟨N1, hN1⟩ : ∃ k : Nat, k = N - 1 := ⟨_, rfl⟩
                have hw1 : IntKind.i64.wrap ((N : Int) - 1) = (N1 : Int) := by rw [IntWalk.i64_in _ (by omega)]; omega
                have hb1 : (N1 : Int) < N := by omega
                obtain ⟨g, o, rfl, hgl, hcell⟩ := HK1.out.cellAt N1 _ (ysF_at N nilV nilV N1 (by omega))
                have HCL := As.mk hcell
                have HN1 := As.mk hN1
                clear hcell hN1
                go_upto_region 13 with fail
                refine wp_region_held_drew (S := (fun V : World => V.cell? ⟨G, 1, none⟩ = some (.slice (some ⟨g, o, none⟩) N cI))) (by kernel_rfl) ?_ (fun hHeld => ?_)
                · exact (HK1.out.below (below_dr wr)).four.2.1
                refine wpAnyH_take (i := 0) (oi := ?_) (v := ?_) (by simp only [List.getElem?_toArray, List.getElem?_cons_zero, List.getElem?_cons_succ]; rfl) (by kernel_rfl) (by kernel_rfl) (by kernel_rfl) (by exact fun _ _ _ h => h) (Or.inl ⟨by rfl, ?_⟩) (by assumption) ?_
                rotate_left
                · (intro w hSw; (try dsimp only at hSw); go_simp; first | done | with_reducible rfl)
                try simp only [Act.put, List.setIfInBounds_toArray, List.set_cons_zero, List.set_cons_succ]
                refine wpAnyH_take (i := 1) (oi := ?_) (v := ?_) (by simp only [List.getElem?_toArray, List.getElem?_cons_zero, List.getElem?_cons_succ]; rfl) (by kernel_rfl) (by kernel_rfl) (by kernel_rfl) (by exact fun _ _ _ h => h) (Or.inl ⟨by rfl, ?_⟩) (by assumption) ?_
                rotate_left
                · (intro w hSw; (try dsimp only at hSw); go_simp; first | done | with_reducible rfl)
                try simp only [Act.put, List.setIfInBounds_toArray, List.set_cons_zero, List.set_cons_succ]
                refine wpAnyH_take (i := 2) (oi := ?_) (v := ?_) (by simp only [List.getElem?_toArray, List.getElem?_cons_zero, List.getElem?_cons_succ]; rfl) (by kernel_rfl) (by kernel_rfl) (by kernel_rfl) (by exact fun _ _ _ h => h) (Or.inl ⟨by rfl, ?_⟩) (by assumption) ?_
                rotate_left
                · (intro w hSw; (try dsimp only at hSw); go_simp; first | done | with_reducible rfl)
                try simp only [Act.put, List.setIfInBounds_toArray, List.set_cons_zero, List.set_cons_succ]
                refine wpAnyH_take (i := 3) (oi := ?_) (v := ?_) (by simp only [List.getElem?_toArray, List.getElem?_cons_zero, List.getElem?_cons_succ]; rfl) (by kernel_rfl) (by kernel_rfl) (by kernel_rfl) (by exact fun _ _ _ h => h) (Or.inl ⟨by rfl, ?_⟩) (by assumption) ?_
                rotate_left
                · (intro w hSw; (try dsimp only at hSw); go_simp; first | done | with_reducible rfl)
                try simp only [Act.put, List.setIfInBounds_toArray, List.set_cons_zero, List.set_cons_succ]
                refine wpAnyH_take (i := 4) (oi := ?_) (v := ?_) (by simp only [List.getElem?_toArray, List.getElem?_cons_zero, List.getElem?_cons_succ]; rfl) (by kernel_rfl) (by kernel_rfl) (by kernel_rfl) (by exact fun _ _ _ h => h) (Or.inl ⟨by rfl, ?_⟩) (by assumption) ?_
                rotate_left
                · (intro w hSw; (try dsimp only at hSw); go_simp; first | done | with_reducible rfl)
                try simp only [Act.put, List.setIfInBounds_toArray, List.set_cons_zero, List.set_cons_succ]
                refine wpAnyH_ready (rs := [5]) (by kernel_rfl) (by simp) ?_
                refine AllReadyH.cons (o := ?_) (by simp only [List.getElem?_toArray, List.getElem?_cons_zero, List.getElem?_cons_succ]; rfl) (fun K hK => ?_) ?_
                · go_simp
                  have HKa := As.mk (HK1.out.below (below_al wr (.cells (zV C) 5)))
                  have HSV := As.mk (OwS.mono (zV_own C (by omega) wr) HK1.out.size)
                  have hS2 := HKa.out.four.2.1
                  obtain ⟨g', o', he, _, hcf⟩ := HKa.out.cellAt N1 _ (ysF_at N nilV nilV N1 (by omega))
                  obtain ⟨he1, he2⟩ := slice_same he
                  subst he1 he2
                  obtain ⟨hc33, hf33⟩ := hcf 33 nilV (by decide) (by show some (if N1 + 1 = N then nilV else nilV) = some nilV; rw [ite_self])
                  clear hcf
                  refine hK.out _ _ ?_ (fun hHeld2 => ?_)
                  · exact hS2
                  clear hK K hHeld
                  have hHeld := hHeld2
                  clear hHeld2
                  try simp only [Act.put, List.setIfInBounds_toArray, List.set_cons_zero, List.set_cons_succ]
                  refine wpAnyH_take (i := 6) (oi := ?_) (v := ?_) (by simp only [List.getElem?_toArray, List.getElem?_cons_zero, List.getElem?_cons_succ]; rfl) (by kernel_rfl) (by kernel_rfl) (by kernel_rfl) (by exact fun _ _ _ h => h) (Or.inl ⟨by rfl, ?_⟩) (by assumption) ?_
                  rotate_left
                  · (intro w hSw; (try dsimp only at hSw); go_simp; first | done | with_reducible rfl)
                  try simp only [Act.put, List.setIfInBounds_toArray, List.set_cons_zero, List.set_cons_succ]
                  refine wpAnyH_take (i := 7) (oi := ?_) (v := ?_) (by simp only [List.getElem?_toArray, List.getElem?_cons_zero, List.getElem?_cons_succ]; rfl) (by kernel_rfl) (by kernel_rfl) (by kernel_rfl) (by exact fun _ _ _ h => h) (Or.inl ⟨by rfl, ?_⟩) (by assumption) ?_
                  rotate_left
                  · (intro w hSw; (try dsimp only at hSw); go_simp; first | done | with_reducible rfl)
                  try simp only [Act.put, List.setIfInBounds_toArray, List.set_cons_zero, List.set_cons_succ]
                  refine wpAnyH_ready (rs := [8]) (by kernel_rfl) (by simp) ?_
                  refine AllReadyH.cons (o := ?_) (by simp only [List.getElem?_toArray, List.getElem?_cons_zero, List.getElem?_cons_succ]; rfl) (fun K hK => ?_) ?_
                  · go_simp
                    have HKb := As.mk (HKa.out.setI N1 _ (N1, .slice (some ⟨wr.heap.size, 0, none⟩) C C, if N1 = 0 then nilV else nilV) (ysF_at N nilV nilV N1 (by omega)) 33 (by decide) (.slice (some ⟨wr.heap.size, 0, none⟩) C C) rfl)
                    have HSW := As.mk (OwS.apartO HSV.out (grown_set _ g (o + N1 * 36 + 33) (.slice (some ⟨wr.heap.size, 0, none⟩) C C)) HKa.out.ins.kd (by decide))
                    have hS2 := HKb.out.four.2.1
                    clear hc33 hf33
                    refine hK.out _ _ ?_ (fun hHeld2 => ?_)
                    · exact hS2
                    clear hK K hHeld
                    have hHeld := hHeld2
                    clear hHeld2
                    try simp only [Act.put, List.setIfInBounds_toArray, List.set_cons_zero, List.set_cons_succ]
                    refine wpAnyH_done (by kernel_rfl) ?_ _
                    have HL0 : As (BSt w (((wr.alloc (.cells (zV C) 5)).setCell ⟨g, o + N1 * 36 + 33, none⟩ (.slice (some ⟨wr.heap.size, 0, none⟩) C C)).drew) G (.slice (some ⟨g, o, none⟩) N cI) (.slice AO M cO) (ysF N (.slice (some ⟨wr.heap.size, 0, none⟩) C C) nilV) (soF M nilV) ∧ OwB (((wr.alloc (.cells (zV C) 5)).setCell ⟨g, o + N1 * 36 + 33, none⟩ (.slice (some ⟨wr.heap.size, 0, none⟩) C C)).drew) w.heap.size 5 (.slice (some ⟨wr.heap.size, 0, none⟩) C C) (zB C)) := ⟨by
                      have h := HKb.out.below (below_dr _)
                      have hy := ysF_script N nilV (.slice (some ⟨wr.heap.size, 0, none⟩) C C) nilV (by omega)
                      rw [← HN1.out] at hy
                      rw [hy] at h
                      exact ⟨h, OwS.below HSW.out (below_dr _)⟩⟩
                    clear hHeld HKa HKb HSV HSW km
                    generalize (((wr.alloc (.cells (zV C) 5)).setCell ⟨g, o + N1 * 36 + 33, none⟩ (.slice (some ⟨wr.heap.size, 0, none⟩) C C)).drew) = W13 at HL0 ⊢
                    obtain ⟨sv, hsv⟩ : ∃ v, v = Value.slice (some ⟨wr.heap.size, 0, none⟩) C C := ⟨_, rfl⟩
                    rw [← hsv] at HL0
                    clear hsv hw1 hb1 HCL
                    go_wp2
                    go_loopw [15] (fun v15 wr => ∃ (i : Nat) (wv : Value), v15 = .int .i64 (i : Int) ∧ (i : Int) ≤ I ∧ As (BSt w wr G (.slice (some ⟨g, o, none⟩) N cI) (.slice AO M cO) (ysF N sv wv) (soF M nilV) ∧ OwB wr w.heap.size 5 sv (zB C) ∧ OwW wr w.heap.size wv (List.replicate i (zB J)))) (fun v15 _ => I - (intOf v15).toNat)
                    case atStart => exact ⟨0, nilV, rfl, by omega, ⟨HL0.out.1, HL0.out.2, OwW.nil _ _⟩⟩
                    case round =>
                      clear HL0
                      obtain ⟨i, wv, rfl, hi, HI⟩ := hrel
                      by_cases hlt : (i : Int) < I
                      · obtain ⟨Aw, cw, hwv⟩ := OwW.form HI.out.2.2
                        rw [List.length_replicate] at hwv
                        subst hwv
                        have HST := As.mk HI.out.1
                        have HSV := As.mk HI.out.2.1
                        have HW0 := As.mk HI.out.2.2
                        clear HI
                        go_upto_region 17 with fail
                        apply late_cut
                        case main =>
                          intro hTail
                          refine wp_region_held_drew (S := (fun V : World => V.cell? ⟨G, 1, none⟩ = some (.slice (some ⟨g, o, none⟩) N cI))) (by kernel_rfl) ?_ (fun hHeld => ?_)
                          · exact HST.out.four.2.1
                          refine wpAnyH_take (i := 0) (oi := ?_) (v := ?_) (by simp only [List.getElem?_toArray, List.getElem?_cons_zero, List.getElem?_cons_succ]; rfl) (by kernel_rfl) (by kernel_rfl) (by kernel_rfl) (by exact fun _ _ _ h => h) (Or.inl ⟨by rfl, ?_⟩) (by assumption) ?_
                          rotate_left
                          · (intro w hSw; (try dsimp only at hSw); go_simp; first | done | with_reducible rfl)
                          try simp only [Act.put, List.setIfInBounds_toArray, List.set_cons_zero, List.set_cons_succ]
                          refine wpAnyH_take (i := 1) (oi := ?_) (v := ?_) (by simp only [List.getElem?_toArray, List.getElem?_cons_zero, List.getElem?_cons_succ]; rfl) (by kernel_rfl) (by kernel_rfl) (by kernel_rfl) (by exact fun _ _ _ h => h) (Or.inl ⟨by rfl, ?_⟩) (by assumption) ?_
                          rotate_left
                          · (intro w hSw; (try dsimp only at hSw); go_simp; first | done | with_reducible rfl)
                          try simp only [Act.put, List.setIfInBounds_toArray, List.set_cons_zero, List.set_cons_succ]
                          refine wpAnyH_take (i := 2) (oi := ?_) (v := ?_) (by simp only [List.getElem?_toArray, List.getElem?_cons_zero, List.getElem?_cons_succ]; rfl) (by kernel_rfl) (by kernel_rfl) (by kernel_rfl) (by exact fun _ _ _ h => h) (Or.inl ⟨by rfl, ?_⟩) (by assumption) ?_
                          rotate_left
                          · (intro w hSw; (try dsimp only at hSw); go_simp; first | done | with_reducible rfl)
                          try simp only [Act.put, List.setIfInBounds_toArray, List.set_cons_zero, List.set_cons_succ]
                          refine wpAnyH_take (i := 3) (oi := ?_) (v := ?_) (by simp only [List.getElem?_toArray, List.getElem?_cons_zero, List.getElem?_cons_succ]; rfl) (by kernel_rfl) (by kernel_rfl) (by kernel_rfl) (by exact fun _ _ _ h => h) (Or.inl ⟨by rfl, ?_⟩) (by assumption) ?_
                          rotate_left
                          · (intro w hSw; (try dsimp only at hSw); go_simp; first | done | with_reducible rfl)
                          try simp only [Act.put, List.setIfInBounds_toArray, List.set_cons_zero, List.set_cons_succ]
                          refine wpAnyH_take (i := 4) (oi := ?_) (v := ?_) (by simp only [List.getElem?_toArray, List.getElem?_cons_zero, List.getElem?_cons_succ]; rfl) (by kernel_rfl) (by kernel_rfl) (by kernel_rfl) (by exact fun _ _ _ h => h) (Or.inl ⟨by rfl, ?_⟩) (by assumption) ?_
                          rotate_left
                          · (intro w hSw; (try dsimp only at hSw); go_simp; first | done | with_reducible rfl)
                          try simp only [Act.put, List.setIfInBounds_toArray, List.set_cons_zero, List.set_cons_succ]
                          refine wpAnyH_take (i := 5) (oi := ?_) (v := ?_) (by simp only [List.getElem?_toArray, List.getElem?_cons_zero, List.getElem?_cons_succ]; rfl) (by kernel_rfl) (by kernel_rfl) (by kernel_rfl) (by exact fun _ _ _ h => h) (Or.inl ⟨by rfl, ?_⟩) (by assumption) ?_
                          rotate_left
                          · (intro w hSw; (try dsimp only at hSw); go_simp; first | done | with_reducible rfl)
                          try simp only [Act.put, List.setIfInBounds_toArray, List.set_cons_zero, List.set_cons_succ]
                          refine wpAnyH_take (i := 7) (oi := ?_) (v := ?_) (by simp only [List.getElem?_toArray, List.getElem?_cons_zero, List.getElem?_cons_succ]; rfl) (by kernel_rfl) (by kernel_rfl) (by kernel_rfl) (by exact fun _ _ _ h => h) (Or.inl ⟨by rfl, ?_⟩) (by assumption) ?_
                          rotate_left
                          · (intro w hSw; (try dsimp only at hSw); go_simp; first | done | with_reducible rfl)
                          try simp only [Act.put, List.setIfInBounds_toArray, List.set_cons_zero, List.set_cons_succ]
                          refine wpAnyH_ready (rs := [6, 8]) (by kernel_rfl) (by simp) ?_
                          refine AllReadyH.cons (o := ?_) (by simp only [List.getElem?_toArray, List.getElem?_cons_zero, List.getElem?_cons_succ]; rfl) (fun K hK => ?_) ?_
                          · obtain ⟨g', o', he, _, hcf⟩ := HST.out.cellAt 0 _ (ysF_at N sv _ 0 (by omega))
                            obtain ⟨he1, he2⟩ := slice_same he
                            subst he1 he2
                            obtain ⟨q35, f35⟩ := hcf 35 (.slice Aw i cw) (by decide) rfl
                            rw [Nat.zero_mul, Nat.add_zero] at q35 f35
                            clear hcf
                            have hS2 := hHeld
                            go_simp
                            clear q35 f35
                            refine hK.out _ _ ?_ (fun hHeld2 => ?_)
                            · exact hS2
                            clear hK K hHeld
                            have hHeld := hHeld2
                            clear hHeld2
                            try simp only [Act.put, List.setIfInBounds_toArray, List.set_cons_zero, List.set_cons_succ]
                            refine wpAnyH_ready (rs := [8]) (by kernel_rfl) (by simp) ?_
                            refine AllReadyH.cons (o := ?_) (by simp only [List.getElem?_toArray, List.getElem?_cons_zero, List.getElem?_cons_succ]; rfl) (fun K hK => ?_) ?_
                            · go_simp
                              have HSTa := As.mk (HST.out.below (below_al wr (.cells (zV J) 5)))
                              have HIT := As.mk (OwS.mono (zV_own J (by omega) wr) HST.out.size)
                              have hS2 := HSTa.out.four.2.1
                              refine hK.out _ _ ?_ (fun hHeld2 => ?_)
                              · exact hS2
                              clear hK K hHeld
                              have hHeld := hHeld2
                              clear hHeld2
                              try simp only [Act.put, List.setIfInBounds_toArray, List.set_cons_zero, List.set_cons_succ]
                              refine wpAnyH_ready (rs := [9]) (by kernel_rfl) (by simp) ?_
                              refine AllReadyH.cons (o := ?_) (by simp only [List.getElem?_toArray, List.getElem?_cons_zero, List.getElem?_cons_succ]; rfl) (fun K hK => ?_) ?_
                              · go_simp
                                have HSTb := As.mk (HSTa.out.below (below_al (wr.alloc (.cells (zV J) 5)) (.cells #[.slice (some ⟨wr.heap.size, 0, none⟩) J J] 24)))
                                have hS2 := HSTb.out.four.2.1
                                refine hK.out _ _ ?_ (fun hHeld2 => ?_)
                                · exact hS2
                                clear hK K hHeld
                                have hHeld := hHeld2
                                clear hHeld2
                                try simp only [Act.put, List.setIfInBounds_toArray, List.set_cons_zero, List.set_cons_succ]
                                revert hHeld
                                exact hTail.out
                              exact AllReadyH.nil
                            exact AllReadyH.nil
                          refine AllReadyH.cons (o := ?_) (by simp only [List.getElem?_toArray, List.getElem?_cons_zero, List.getElem?_cons_succ]; rfl) (fun K hK => ?_) ?_
                          · go_simp
                            have HSTa := As.mk (HST.out.below (below_al wr (.cells (zV J) 5)))
                            have HIT := As.mk (OwS.mono (zV_own J (by omega) wr) HST.out.size)
                            have hS2 := HSTa.out.four.2.1
                            refine hK.out _ _ ?_ (fun hHeld2 => ?_)
                            · exact hS2
                            clear hK K hHeld
                            have hHeld := hHeld2
                            clear hHeld2
                            try simp only [Act.put, List.setIfInBounds_toArray, List.set_cons_zero, List.set_cons_succ]
                            refine wpAnyH_ready (rs := [6, 9]) (by kernel_rfl) (by simp) ?_
                            refine AllReadyH.cons (o := ?_) (by simp only [List.getElem?_toArray, List.getElem?_cons_zero, List.getElem?_cons_succ]; rfl) (fun K hK => ?_) ?_
                            · obtain ⟨g', o', he, _, hcf⟩ := HSTa.out.cellAt 0 _ (ysF_at N sv _ 0 (by omega))
                              obtain ⟨he1, he2⟩ := slice_same he
                              subst he1 he2
                              obtain ⟨q35, f35⟩ := hcf 35 (.slice Aw i cw) (by decide) rfl
                              rw [Nat.zero_mul, Nat.add_zero] at q35 f35
                              clear hcf
                              have hS2 := hHeld
                              go_simp
                              clear q35 f35
                              refine hK.out _ _ ?_ (fun hHeld2 => ?_)
                              · exact hS2
                              clear hK K hHeld
                              have hHeld := hHeld2
                              clear hHeld2
                              try simp only [Act.put, List.setIfInBounds_toArray, List.set_cons_zero, List.set_cons_succ]
                              refine wpAnyH_ready (rs := [9]) (by kernel_rfl) (by simp) ?_
                              refine AllReadyH.cons (o := ?_) (by simp only [List.getElem?_toArray, List.getElem?_cons_zero, List.getElem?_cons_succ]; rfl) (fun K hK => ?_) ?_
                              · go_simp
                                have HSTb := As.mk (HSTa.out.below (below_al (wr.alloc (.cells (zV J) 5)) (.cells #[.slice (some ⟨wr.heap.size, 0, none⟩) J J] 24)))
                                have hS2 := HSTb.out.four.2.1
                                refine hK.out _ _ ?_ (fun hHeld2 => ?_)
                                · exact hS2
                                clear hK K hHeld
                                have hHeld := hHeld2
                                clear hHeld2
                                try simp only [Act.put, List.setIfInBounds_toArray, List.set_cons_zero, List.set_cons_succ]
                                revert hHeld
                                exact hTail.out
                              exact AllReadyH.nil
                            refine AllReadyH.cons (o := ?_) (by simp only [List.getElem?_toArray, List.getElem?_cons_zero, List.getElem?_cons_succ]; rfl) (fun K hK => ?_) ?_
                            · go_simp
                              have HSTb := As.mk (HSTa.out.below (below_al (wr.alloc (.cells (zV J) 5)) (.cells #[.slice (some ⟨wr.heap.size, 0, none⟩) J J] 24)))
                              have hS2 := HSTb.out.four.2.1
                              refine hK.out _ _ ?_ (fun hHeld2 => ?_)
                              · exact hS2
                              clear hK K hHeld
                              have hHeld := hHeld2
                              clear hHeld2
                              try simp only [Act.put, List.setIfInBounds_toArray, List.set_cons_zero, List.set_cons_succ]
                              refine wpAnyH_ready (rs := [6]) (by kernel_rfl) (by simp) ?_
                              refine AllReadyH.cons (o := ?_) (by simp only [List.getElem?_toArray, List.getElem?_cons_zero, List.getElem?_cons_succ]; rfl) (fun K hK => ?_) ?_
                              · obtain ⟨g', o', he, _, hcf⟩ := HSTb.out.cellAt 0 _ (ysF_at N sv _ 0 (by omega))
                                obtain ⟨he1, he2⟩ := slice_same he
                                subst he1 he2
                                obtain ⟨q35, f35⟩ := hcf 35 (.slice Aw i cw) (by decide) rfl
                                rw [Nat.zero_mul, Nat.add_zero] at q35 f35
                                clear hcf
                                have hS2 := hHeld
                                go_simp
                                clear q35 f35
                                refine hK.out _ _ ?_ (fun hHeld2 => ?_)
                                · exact hS2
                                clear hK K hHeld
                                have hHeld := hHeld2
                                clear hHeld2
                                try simp only [Act.put, List.setIfInBounds_toArray, List.set_cons_zero, List.set_cons_succ]
                                revert hHeld
                                exact hTail.out
                              exact AllReadyH.nil
                            exact AllReadyH.nil
                          exact AllReadyH.nil
                        case tail =>
                          intro hHeld
                          have HSTa := As.mk (HST.out.below (below_al wr (.cells (zV J) 5)))
                          have HIT := As.mk (OwS.mono (zV_own J (by omega) wr) HST.out.size)
                          have HSTb := As.mk (HSTa.out.below (below_al (wr.alloc (.cells (zV J) 5)) (.cells #[.slice (some ⟨wr.heap.size, 0, none⟩) J J] 24)))
                          refine wpAnyH_ready (rs := [10]) (by kernel_rfl) (by simp) ?_
                          refine AllReadyH.cons (o := ?_) (by simp only [List.getElem?_toArray, List.getElem?_cons_zero, List.getElem?_cons_succ]; rfl) (fun K hK => ?_) ?_
                          · have HSTc := As.mk (HSTb.out.below (below_dr ((wr.alloc (.cells (zV J) 5)).alloc (.cells #[.slice (some ⟨wr.heap.size, 0, none⟩) J J] 24))))
                            have HBX : As (Box ((wr.alloc (.cells (zV J) 5)).alloc (.cells #[.slice (some ⟨wr.heap.size, 0, none⟩) J J] 24)).drew (wr.heap.size + 1) #[.slice (some ⟨wr.heap.size, 0, none⟩) J J] 24) := ⟨by have h := Box.below (Box.new (wr.alloc (.cells (zV J) 5)) #[.slice (some ⟨wr.heap.size, 0, none⟩) J J] 24) (below_dr _); simpa using h⟩
                            have HWc : As (OwW ((wr.alloc (.cells (zV J) 5)).alloc (.cells #[.slice (some ⟨wr.heap.size, 0, none⟩) J J] 24)).drew w.heap.size (.slice Aw i cw) (List.replicate i (zB J))) := ⟨OwW.below (OwW.below (OwW.below HW0.out (below_al _ _)) (below_al _ _)) (below_dr _)⟩
                            have HSVc : As (OwB ((wr.alloc (.cells (zV J) 5)).alloc (.cells #[.slice (some ⟨wr.heap.size, 0, none⟩) J J] 24)).drew w.heap.size 5 sv (zB C)) := ⟨OwS.below (OwS.below (OwS.below HSV.out (below_al _ _)) (below_al _ _)) (below_dr _)⟩
                            have HELc : As (El ((wr.alloc (.cells (zV J) 5)).alloc (.cells #[.slice (some ⟨wr.heap.size, 0, none⟩) J J] 24)).drew w.heap.size (Value.slice Aw i cw).ownBlock (.slice (some ⟨wr.heap.size, 0, none⟩) J J) (zB J)) := ⟨OwS.below (OwS.below HIT.out (below_al _ _)) (below_dr _), fun j hj e => by have := (OwW.lt HW0.out j e).2; simp [Value.ownBlock] at hj; omega⟩
                            refine step_appW w.heap.size ?hgd (.tmp 89) (.tmp 92) ?ho (.slice Aw i cw) ?hs (wr.heap.size + 1) ?hx (.slice (some ⟨wr.heap.size, 0, none⟩) J J) HBX.out rfl (List.replicate i (zB J)) (zB J) HWc.out HELc.out ?hl HSTc.out.size ?_
                            case hgd => rfl
                            case ho => rfl
                            case hs => rfl
                            case hx => rfl
                            case hl => rw [List.length_replicate]; omega
                            intro v4 w4 ho hg
                            obtain ⟨A4, c4, h4⟩ := OwW.form ho
                            rw [List.length_append, List.length_replicate, List.length_singleton] at h4
                            subst h4
                            have HST4 := As.mk (HSTc.out.apartO hg (OwW.kd HWc.out) (fun j hj => (OwW.lt HWc.out j hj).1) (by decide) (by decide) (by decide))
                            have HSV4 := As.mk (OwS.apartO HSVc.out hg (OwW.kd HWc.out) (by decide))
                            have HW4 := As.mk ho
                            have hS2 := HST4.out.four.2.1
                            clear ho hg
                            refine hK.out _ _ ?_ (fun hHeld2 => ?_)
                            · exact hS2
                            clear hK K hHeld
                            have hHeld := hHeld2
                            clear hHeld2
                            try simp only [Act.put, List.setIfInBounds_toArray, List.set_cons_zero, List.set_cons_succ]
                            refine wpAnyH_take (i := 11) (oi := ?_) (v := ?_) (by simp only [List.getElem?_toArray, List.getElem?_cons_zero, List.getElem?_cons_succ]; rfl) (by kernel_rfl) (by kernel_rfl) (by kernel_rfl) (by exact fun _ _ _ h => h) (Or.inl ⟨by rfl, ?_⟩) (by assumption) ?_
                            rotate_left
                            · (intro w hSw; (try dsimp only at hSw); go_simp; first | done | with_reducible rfl)
                            try simp only [Act.put, List.setIfInBounds_toArray, List.set_cons_zero, List.set_cons_succ]
                            refine wpAnyH_take (i := 12) (oi := ?_) (v := ?_) (by simp only [List.getElem?_toArray, List.getElem?_cons_zero, List.getElem?_cons_succ]; rfl) (by kernel_rfl) (by kernel_rfl) (by kernel_rfl) (by exact fun _ _ _ h => h) (Or.inl ⟨by rfl, ?_⟩) (by assumption) ?_
                            rotate_left
                            · (intro w hSw; (try dsimp only at hSw); go_simp; first | done | with_reducible rfl)
                            try simp only [Act.put, List.setIfInBounds_toArray, List.set_cons_zero, List.set_cons_succ]
                            refine wpAnyH_ready (rs := [13]) (by kernel_rfl) (by simp) ?_
                            refine AllReadyH.cons (o := ?_) (by simp only [List.getElem?_toArray, List.getElem?_cons_zero, List.getElem?_cons_succ]; rfl) (fun K hK => ?_) ?_
                            · obtain ⟨g', o', he, _, hcf⟩ := HST4.out.cellAt 0 _ (ysF_at N sv _ 0 (by omega))
                              obtain ⟨he1, he2⟩ := slice_same he
                              subst he1 he2
                              obtain ⟨q35, f35⟩ := hcf 35 (.slice Aw i cw) (by decide) rfl
                              rw [Nat.zero_mul, Nat.add_zero] at q35 f35
                              clear hcf
                              have hset := HST4.out.setI 0 _ (0, if 0 + 1 = N then sv else nilV, .slice A4 (i + 1) c4) (ysF_at N sv _ 0 (by omega)) 35 (by decide) (.slice A4 (i + 1) c4) rfl
                              rw [Nat.zero_mul, Nat.add_zero, ysF_wit N sv _ _ (by omega)] at hset
                              have HST5 := As.mk hset
                              clear hset
                              go_simp
                              have gset := grown_set w4 g (o + 35) (.slice A4 (i + 1) c4)
                              have HSV5 := As.mk (OwS.apartO HSV4.out gset HST4.out.ins.kd (by decide))
                              have HW5 := As.mk (OwW.apartO HW4.out gset HST4.out.ins.kd (by decide) (by decide))
                              have hS2 := HST5.out.four.2.1
                              clear q35 f35 gset
                              refine hK.out _ _ ?_ (fun hHeld2 => ?_)
                              · exact hS2
                              clear hK K hHeld
                              have hHeld := hHeld2
                              clear hHeld2
                              try simp only [Act.put, List.setIfInBounds_toArray, List.set_cons_zero, List.set_cons_succ]
                              refine wpAnyH_done (by kernel_rfl) ?_ _
                              have HNX := As.mk (And.intro HST5.out (And.intro HSV5.out HW5.out))
                              clear hHeld
                              go_wp2
                              refine ⟨⟨i + 1, .slice A4 (i + 1) c4, ?_, ?_, ?_⟩, ?_⟩
                              · go_num
                              · omega
                              · exact ⟨by rw [List.replicate_succ']; exact HNX.out⟩
                              · simp [intOf]; omega
                            exact AllReadyH.nil
                          exact AllReadyH.nil
                      · have hiI : i = I := by omega
                        have HFIN : As (BSt w wr G (.slice (some ⟨g, o, none⟩) N cI) (.slice AO M cO) (ysF N sv wv) (soF M nilV) ∧ OwB wr w.heap.size 5 sv (zB C) ∧ OwW wr w.heap.size wv (List.replicate I (zB J))) := ⟨by have h := HI.out; rw [hiI] at h; exact h⟩
                        clear HI hiI
                        go_upto_region 18 with fail
                        cases g1 with
                        | false => (go_wp2; go_meet; exact ⟨false, sv, wv, rfl, ⟨by first | rfl | (rw [decide_eq_false (show ¬ (N = 0) by omega), decide_eq_false (show ¬ (C ≤ 500 ∧ I ≤ 10 ∧ (J ≤ 500 ∨ I = 0)) by omega)]; rfl)⟩, ⟨HFIN.out.1, .inr HFIN.out.2⟩⟩)
                        | true =>
                          by_cases d1 : (C : Int) ≤ 500
                          · by_cases d2 : (I : Int) ≤ 10
                            · by_cases d3 : (J : Int) ≤ 500
                              · (go_wp2; go_meet; exact ⟨true, sv, wv, rfl, ⟨by rw [decide_eq_true (show C ≤ 500 ∧ I ≤ 10 ∧ (J ≤ 500 ∨ I = 0) by omega)]; simp⟩, ⟨HFIN.out.1, .inr HFIN.out.2⟩⟩)
                              · by_cases d4 : I = 0
                                · have d5 : As (I = 0) := ⟨d4⟩
                                  clear d4
                                  have d4 : ((I : Int) == 0) = true := by rw [d5.out]; rfl
                                  (go_wp2; go_meet; exact ⟨true, sv, wv, rfl, ⟨by rw [decide_eq_true (show C ≤ 500 ∧ I ≤ 10 ∧ (J ≤ 500 ∨ I = 0) by have := d5.out; omega)]; simp⟩, ⟨HFIN.out.1, .inr HFIN.out.2⟩⟩)
                                · have d5 : As (¬ I = 0) := ⟨d4⟩
                                  clear d4
                                  have d4 : ((I : Int) == 0) = false := beq_eq_false_iff_ne.2 (by have := d5.out; omega)
                                  (go_wp2; go_meet; exact ⟨false, sv, wv, rfl, ⟨by first | rfl | (rw [decide_eq_false (show ¬ (N = 0) by have := d5.out; omega), decide_eq_false (show ¬ (C ≤ 500 ∧ I ≤ 10 ∧ (J ≤ 500 ∨ I = 0)) by have := d5.out; omega)]; rfl)⟩, ⟨HFIN.out.1, .inr HFIN.out.2⟩⟩)
                            · (go_wp2; go_meet; exact ⟨false, sv, wv, rfl, ⟨by first | rfl | (rw [decide_eq_false (show ¬ (N = 0) by omega), decide_eq_false (show ¬ (C ≤ 500 ∧ I ≤ 10 ∧ (J ≤ 500 ∨ I = 0)) by omega)]; rfl)⟩, ⟨HFIN.out.1, .inr HFIN.out.2⟩⟩)
                          · (go_wp2; go_meet; exact ⟨false, sv, wv, rfl, ⟨by first | rfl | (rw [decide_eq_false (show ¬ (N = 0) by omega), decide_eq_false (show ¬ (C ≤ 500 ∧ I ≤ 10 ∧ (J ≤ 500 ∨ I = 0)) by omega)]; rfl)⟩, ⟨HFIN.out.1, .inr HFIN.out.2⟩⟩)
                  exact AllReadyH.nil
                exact AllReadyH.nil
              · have H0 : As (N = 0) := ⟨by omega⟩
                go_wp2
                go_meet
                exact ⟨g1, nilV, nilV, rfl, ⟨by rw [decide_eq_true H0.out]; simp⟩, ⟨HK1.out, .inl H0.out⟩⟩
            case rest =>
              obtain ⟨g2, s, wv, rfl, HG2, HB⟩ := hcut
              clear HK1
              go_upto_if 114 with fail
              go_cut [14] (fun v14 wc => ∃ (g3 : Bool) (s2 : Value), v14 = .bool g3 ∧ As (g3 = (g2 && (decide (M = 0) || decide (C ≤ 500)))) ∧ As (BSt w wc G (.slice AI N cI) (.slice AO M cO) (ysF N s wv) (soF M s2) ∧ (N = 0 ∨ (OwB wc w.heap.size 5 s (zB C) ∧ OwW wc w.heap.size wv (List.replicate I (zB J)))) ∧ (M = 0 ∨ OwB wc w.heap.size 5 s2 (zB C))))
              case first =>
                by_cases c1 : (0 : Int) < M
                · have HBS := As.mk HB.out.1
                  obtain ⟨g, o, sx, rfl, hgl, _⟩ := HBS.out.outAt (by simp [soF]; omega)
                  go_upto_region 20 with fail
                  refine wp_region_held_drew (S := (fun V : World => V.cell? ⟨G, 2, none⟩ = some (.slice (some ⟨g, o, none⟩) M cO))) (by kernel_rfl) ?_ (fun hHeld => ?_)
                  · exact (HBS.out.below (below_dr wc)).four.2.2.1
                  refine wpAnyH_take (i := 0) (oi := ?_) (v := ?_) (by simp only [List.getElem?_toArray, List.getElem?_cons_zero, List.getElem?_cons_succ]; rfl) (by kernel_rfl) (by kernel_rfl) (by kernel_rfl) (by exact fun _ _ _ h => h) (Or.inl ⟨by rfl, ?_⟩) (by assumption) ?_
                  rotate_left
                  · (intro w hSw; (try dsimp only at hSw); go_simp; first | done | with_reducible rfl)
                  try simp only [Act.put, List.setIfInBounds_toArray, List.set_cons_zero, List.set_cons_succ]
                  refine wpAnyH_take (i := 1) (oi := ?_) (v := ?_) (by simp only [List.getElem?_toArray, List.getElem?_cons_zero, List.getElem?_cons_succ]; rfl) (by kernel_rfl) (by kernel_rfl) (by kernel_rfl) (by exact fun _ _ _ h => h) (Or.inl ⟨by rfl, ?_⟩) (by assumption) ?_
                  rotate_left
                  · (intro w hSw; (try dsimp only at hSw); go_simp; first | done | with_reducible rfl)
                  try simp only [Act.put, List.setIfInBounds_toArray, List.set_cons_zero, List.set_cons_succ]
                  refine wpAnyH_take (i := 2) (oi := ?_) (v := ?_) (by simp only [List.getElem?_toArray, List.getElem?_cons_zero, List.getElem?_cons_succ]; rfl) (by kernel_rfl) (by kernel_rfl) (by kernel_rfl) (by exact fun _ _ _ h => h) (Or.inl ⟨by rfl, ?_⟩) (by assumption) ?_
                  rotate_left
                  · (intro w hSw; (try dsimp only at hSw); go_simp; first | done | with_reducible rfl)
                  try simp only [Act.put, List.setIfInBounds_toArray, List.set_cons_zero, List.set_cons_succ]
                  refine wpAnyH_ready (rs := [3]) (by kernel_rfl) (by simp) ?_
                  refine AllReadyH.cons (o := ?_) (by simp only [List.getElem?_toArray, List.getElem?_cons_zero, List.getElem?_cons_succ]; rfl) (fun K hK => ?_) ?_
                  · go_simp
                    have HKa := As.mk (HBS.out.below (below_al wc (.cells (zV C) 5)))
                    have HSV := As.mk (OwS.mono (zV_own C (by omega) wc) HBS.out.size)
                    have hS2 := HKa.out.four.2.2.1
                    obtain ⟨g', o', sx', he, _, hz, hc1, hf1⟩ := HKa.out.outAt (by simp [soF]; omega)
                    obtain ⟨he1, he2⟩ := slice_same he
                    subst he1 he2
                    have HZ := As.mk hz
                    clear hz he
                    refine hK.out _ _ ?_ (fun hHeld2 => ?_)
                    · exact hS2
                    clear hK K hHeld
                    have hHeld := hHeld2
                    clear hHeld2
                    try simp only [Act.put, List.setIfInBounds_toArray, List.set_cons_zero, List.set_cons_succ]
                    refine wpAnyH_take (i := 4) (oi := ?_) (v := ?_) (by simp only [List.getElem?_toArray, List.getElem?_cons_zero, List.getElem?_cons_succ]; rfl) (by kernel_rfl) (by kernel_rfl) (by kernel_rfl) (by exact fun _ _ _ h => h) (Or.inl ⟨by rfl, ?_⟩) (by assumption) ?_
                    rotate_left
                    · (intro w hSw; (try dsimp only at hSw); go_simp; first | done | with_reducible rfl)
                    try simp only [Act.put, List.setIfInBounds_toArray, List.set_cons_zero, List.set_cons_succ]
                    refine wpAnyH_take (i := 5) (oi := ?_) (v := ?_) (by simp only [List.getElem?_toArray, List.getElem?_cons_zero, List.getElem?_cons_succ]; rfl) (by kernel_rfl) (by kernel_rfl) (by kernel_rfl) (by exact fun _ _ _ h => h) (Or.inl ⟨by rfl, ?_⟩) (by assumption) ?_
                    rotate_left
                    · (intro w hSw; (try dsimp only at hSw); go_simp; first | done | with_reducible rfl)
                    try simp only [Act.put, List.setIfInBounds_toArray, List.set_cons_zero, List.set_cons_succ]
                    refine wpAnyH_ready (rs := [6]) (by kernel_rfl) (by simp) ?_
                    refine AllReadyH.cons (o := ?_) (by simp only [List.getElem?_toArray, List.getElem?_cons_zero, List.getElem?_cons_succ]; rfl) (fun K hK => ?_) ?_
                    · go_simp
                      have HKb := As.mk (HKa.out.setO sx' (.slice (some ⟨wc.heap.size, 0, none⟩) C C) HZ.out)
                      have gset := grown_set (wc.alloc (.cells (zV C) 5)) g (o + 1) (.slice (some ⟨wc.heap.size, 0, none⟩) C C)
                      have HSW := As.mk (OwS.apartO HSV.out gset HKa.out.outs.kd (by decide))
                      have HNN : As (N = 0 ∨ (OwB ((wc.alloc (.cells (zV C) 5)).setCell ⟨g, o + 1, none⟩ (.slice (some ⟨wc.heap.size, 0, none⟩) C C)) w.heap.size 5 s (zB C) ∧ OwW ((wc.alloc (.cells (zV C) 5)).setCell ⟨g, o + 1, none⟩ (.slice (some ⟨wc.heap.size, 0, none⟩) C C)) w.heap.size wv (List.replicate I (zB J)))) := ⟨HB.out.2.imp id fun h => ⟨OwS.apartO (OwS.below h.1 (below_al _ _)) gset HKa.out.outs.kd (by decide), OwW.apartO (OwW.below h.2 (below_al _ _)) gset HKa.out.outs.kd (by decide) (by decide)⟩⟩
                      have hS2 := HKb.out.four.2.2.1
                      clear hc1 hf1 gset
                      refine hK.out _ _ ?_ (fun hHeld2 => ?_)
                      · exact hS2
                      clear hK K hHeld
                      have hHeld := hHeld2
                      clear hHeld2
                      try simp only [Act.put, List.setIfInBounds_toArray, List.set_cons_zero, List.set_cons_succ]
                      refine wpAnyH_done (by kernel_rfl) ?_ _
                      have HL0 : As (BSt w (((wc.alloc (.cells (zV C) 5)).setCell ⟨g, o + 1, none⟩ (.slice (some ⟨wc.heap.size, 0, none⟩) C C)).drew) G (.slice AI N cI) (.slice (some ⟨g, o, none⟩) M cO) (ysF N s wv) (soF M (.slice (some ⟨wc.heap.size, 0, none⟩) C C)) ∧ (N = 0 ∨ (OwB (((wc.alloc (.cells (zV C) 5)).setCell ⟨g, o + 1, none⟩ (.slice (some ⟨wc.heap.size, 0, none⟩) C C)).drew) w.heap.size 5 s (zB C) ∧ OwW (((wc.alloc (.cells (zV C) 5)).setCell ⟨g, o + 1, none⟩ (.slice (some ⟨wc.heap.size, 0, none⟩) C C)).drew) w.heap.size wv (List.replicate I (zB J)))) ∧ (M = 0 ∨ OwB (((wc.alloc (.cells (zV C) 5)).setCell ⟨g, o + 1, none⟩ (.slice (some ⟨wc.heap.size, 0, none⟩) C C)).drew) w.heap.size 5 (.slice (some ⟨wc.heap.size, 0, none⟩) C C) (zB C))) := ⟨by
                        have h := HKb.out.below (below_dr _)
                        rw [soF_set M nilV _ (by omega)] at h
                        exact ⟨h, HNN.out.imp id fun h => ⟨OwS.below h.1 (below_dr _), OwW.below h.2 (below_dr _)⟩, .inr (OwS.below HSW.out (below_dr _))⟩⟩
                      clear hHeld HKa HKb HSV HSW HNN km
                      generalize (((wc.alloc (.cells (zV C) 5)).setCell ⟨g, o + 1, none⟩ (.slice (some ⟨wc.heap.size, 0, none⟩) C C)).drew) = W20 at HL0 ⊢
                      obtain ⟨sv, hsv⟩ : ∃ v, v = Value.slice (some ⟨wc.heap.size, 0, none⟩) C C := ⟨_, rfl⟩
                      rw [← hsv] at HL0
                      clear hsv
                      cases g2 with
                      | false => (go_wp2; go_meet; exact ⟨false, sv, rfl, ⟨rfl⟩, HL0⟩)
                      | true =>
                        by_cases d1 : (C : Int) ≤ 500
                        · (go_wp2; go_meet; exact ⟨true, sv, rfl, ⟨by rw [decide_eq_true (show C ≤ 500 by omega)]; simp⟩, HL0⟩)
                        · (go_wp2; go_meet; exact ⟨false, sv, rfl, ⟨by rw [decide_eq_false (show ¬ M = 0 by omega), decide_eq_false (show ¬ C ≤ 500 by omega)]; rfl⟩, HL0⟩)
                    exact AllReadyH.nil
                  exact AllReadyH.nil
                · have H0 : As (M = 0) := ⟨by omega⟩
                  go_wp2
                  go_meet
                  exact ⟨g2, nilV, rfl, ⟨by rw [decide_eq_true H0.out]; simp⟩, ⟨HB.out.1, HB.out.2, .inl H0.out⟩⟩
              case rest =>
                obtain ⟨g3, s2, rfl, HG3, HB3⟩ := hcut
                obtain ⟨T, hT⟩ : ∃ T, T = txF N M C I J := ⟨_, rfl⟩
                have HMY : As (decide (mayT T) = g3) := ⟨by rw [HG3.out, HG2.out, HG1.out, hT]; exact may_g N M C I J⟩
                have HS1 : As (Below w.heap.size w wc ∧ BxT wc G [.int .u32 2, .slice AI N cI, .slice AO M cO, .int .u32 0] T) := ⟨HB3.out.1.bel, HB3.out.1.box, by rw [hT]; exact txF_tx HB3.out.1 HB3.out.2.1 HB3.out.2.2 (by omega)⟩
                clear hT HB3 HB HG3 HG2 HG1
                have HF : As (fitT T) := ⟨HS1.out.2.tx.fit⟩
                obtain ⟨bt, hbt⟩ : ∃ b, b = bytesT T := ⟨_, rfl⟩
                obtain ⟨bb, hbb⟩ : ∃ b, b = baseT T := ⟨_, rfl⟩
                obtain ⟨Tq, hTq⟩ : ∃ t, t = (if mayT T then T else noTx) := ⟨_, rfl⟩
                have HP1 : As (rParse bt = (Tq, g3)) := ⟨by rw [hbt, hTq, ← HMY.out]; exact rParse_g T HF.out⟩
                have HLN : As (bt.length ≤ 400000) := ⟨by rw [hbt]; exact bytesT_short T HF.out⟩
                have HD1 : As (decide (0 < bt.length) = g3) := ⟨by rw [hbt, ← HMY.out]; exact bytesT_pos T⟩
                have HD2 : As (decide (0 < bb.length) = g3) := ⟨by rw [hbb, ← HMY.out]; exact baseT_pos T⟩
                have HBT := As.mk hbt
                have HBB := As.mk hbb
                clear hbt hbb hTq hN' hM' hC' hI' hJ' km kj
                obtain ⟨q0, q1, q2, q3⟩ := HS1.out.2.four
                go_upto_region 23 with (go_at_call 46; (with_reducible refine (bytes_any _ T _ HS1.out.2.tx).mono ?_); rintro e w2 ⟨r2, rfl, ho, hb⟩; rw [← HBT.out] at ho; obtain ⟨A2, c2, rfl⟩ := RdB.formN ho.rd rfl; have HR2 := As.mk ho.rd; have HS2 := As.mk (And.intro (HS1.out.1.trans (hb.mono HS1.out.1.size)) (HS1.out.2.below hb)); clear ho hb q0 q1 q2 q3)
                go_upto_region 24 with (go_at_call 47; (with_reducible refine (parse_to _ _ _ HP1.out HR2.out (by have := HLN.out; omega)).mono ?_); rintro e w3 ⟨cs3, rfl, ht, hb⟩; obtain ⟨BI, dI, BO, dO, rfl⟩ := OwTx.form ht; have HS3 := As.mk (And.intro (HS2.out.1.trans (hb.mono HS2.out.1.size)) (HS2.out.2.below hb)); clear ht hb)
                have HS4 := As.mk (And.intro (HS3.out.1.alloc HS3.out.1.size (.cells #[.int .u32 (Tq.ver : Int), .slice BI Tq.ins.length dI, .slice BO Tq.outs.length dO, .int .u32 (Tq.lock : Int)] 51)) (HS3.out.2.below (below_al _ (.cells #[.int .u32 (Tq.ver : Int), .slice BI Tq.ins.length dI, .slice BO Tq.outs.length dO, .int .u32 (Tq.lock : Int)] 51))))
                obtain ⟨q0, q1, q2, q3⟩ := HS4.out.2.four
                cases g3 with
                | true =>
                  have hp1 : 0 < bt.length := of_decide_eq_true HD1.out
                  have hp2 : 0 < bb.length := of_decide_eq_true HD2.out
                  go_wp2_with (first | (go_at_call 48; (with_reducible refine (may_any _ T _ HS4.out.2.tx).mono ?_); rintro e w5 ⟨rfl, hb⟩; rw [HMY.out]; have HS5 := As.mk (And.intro (HS4.out.1.trans (hb.mono HS4.out.1.size)) (HS4.out.2.below hb)); clear hb q0 q1 q2 q3; obtain ⟨q0, q1, q2, q3⟩ := HS5.out.2.four) | (go_at_call 49; (with_reducible refine (base_any _ T _ HS5.out.2.tx).mono ?_); rintro e w6 ⟨r6, rfl, ho, hb⟩; rw [← HBB.out] at ho; obtain ⟨A6, c6, rfl⟩ := RdB.formN ho.rd rfl; have HS6 := As.mk (HS5.out.1.trans (hb.mono HS5.out.1.size)); clear ho hb q0 q1 q2 q3) | (go_at_call 50; refine (awake3_any _).mono ?_; rintro e w7 ⟨rfl, hb⟩; have HS7 := As.mk (HS6.out.trans (hb.mono HS6.out.size)); clear hb))
                  go_ret
                  exact ⟨rfl, HS7.out⟩
                | false =>
                  have hp1 : ¬ 0 < bt.length := of_decide_eq_false HD1.out
                  have hp2 : ¬ 0 < bb.length := of_decide_eq_false HD2.out
                  go_wp2_with (first | (go_at_call 48; (with_reducible refine (may_any _ T _ HS4.out.2.tx).mono ?_); rintro e w5 ⟨rfl, hb⟩; rw [HMY.out]; have HS5 := As.mk (And.intro (HS4.out.1.trans (hb.mono HS4.out.1.size)) (HS4.out.2.below hb)); clear hb q0 q1 q2 q3; obtain ⟨q0, q1, q2, q3⟩ := HS5.out.2.four) | (go_at_call 49; (with_reducible refine (base_any _ T _ HS5.out.2.tx).mono ?_); rintro e w6 ⟨r6, rfl, ho, hb⟩; rw [← HBB.out] at ho; obtain ⟨A6, c6, rfl⟩ := RdB.formN ho.rd rfl; have HS6 := As.mk (HS5.out.1.trans (hb.mono HS5.out.1.size)); clear ho hb q0 q1 q2 q3) | (go_at_call 50; refine (awake3_any _).mono ?_; rintro e w7 ⟨rfl, hb⟩; have HS7 := As.mk (HS6.out.trans (hb.mono HS6.out.size)); clear hb))
                  go_ret
                  exact ⟨rfl, HS7.out⟩
theorem txnsBounds_row (a0 : Int) (w0 : (Lit.int .i64 a0).wf = true) (a1 : Int) (w1 : (Lit.int .i64 a1).wf = true) (a2 : Int) (w2 : (Lit.int .i64 a2).wf = true) (a3 : Int) (w3 : (Lit.int .i64 a3).wf = true) (a4 : Int) (w4 : (Lit.int .i64 a4).wf = true) (w : World) : Calls Try.prog 10 #[.int .i64 a0, .int .i64 a1, .int .i64 a2, .int .i64 a3, .int .i64 a4] w fun e w' => e = .returned (.bool true) ∧ Below w.heap.size w w' := txnsBounds_any a0 a1 a2 a3 a4 w
end Go.Proofs.Ytfggkljgfadacaa.W
