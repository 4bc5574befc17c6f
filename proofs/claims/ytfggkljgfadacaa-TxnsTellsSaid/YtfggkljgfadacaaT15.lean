/- txns.Read. -/
import Derived.Test.YtfggkljgfadacaaT14
set_option linter.unusedVariables false
set_option linter.unusedSimpArgs false
namespace Go.Proofs.Ytfggkljgfadacaa.W
open Go.RowKit Go.Proofs.Ytfggkljgfadacaa.B Go.Proofs

set_option maxHeartbeats 4000000 in
set_option maxRecDepth 100000 in
theorem rtx_to (B : Nat) (l : List UInt8) (bad : Bool) (w : World) {t : LTx} {ok : Bool} {l' : List UInt8} {bad' : Bool} (hq : rTx (l, bad) = ((t, ok), (l', bad'))) (h : Rdr 74 w B l bad) (hl : l.length ≤ 140737488355328) :
    Calls Try.prog 58 #[.pointer (some ⟨B, 0, none⟩)] w fun e w' => ∃ cs, e = .returned (.tuple #[.agg cs.toArray, .bool ok]) ∧ OwTx w' w.heap.size cs t ∧ Rdr 74 w' B l' bad' ∧ w.grownBy w' (some B) := by
  obtain ⟨ver, l1, b1, hq1⟩ : ∃ m l1 b1, rnum 4 l bad = (m, l1, b1) := ⟨_, _, _, rfl⟩
  obtain ⟨n0, l2, b2, hq2⟩ : ∃ m l1' b1', rcount 50 l1 b1 = (m, l1', b1') := ⟨_, _, _, rfl⟩
  obtain ⟨mk, n, l5, b5, hq5⟩ : ∃ mk n l5 b5, rMark (l1, b1) = ((mk, n), (l5, b5)) := ⟨_, _, _, _, rfl⟩
  have HMK : As (mk = decide (n0 = 0)) := ⟨by unfold rMark at hq5; simp only [hq2] at hq5; by_cases h0 : n0 = 0 <;> simp [h0] at hq5 ⊢ <;> simp [← hq5]⟩
  have HL1 : As (l1.length ≤ 140737488355328) := ⟨by have := rnum_le_len 4 l bad; rw [hq1] at this; simp only at this; omega⟩
  have HL2 : As (l2.length ≤ 140737488355328) := ⟨by have := rcount_le_len 50 l1 b1; rw [hq2] at this; simp only at this; have := HL1.out; omega⟩
  have HVER : As (ver < 4294967296) := ⟨by have := rnum_lt 4 l bad; rw [hq1] at this; simpa using this⟩
  have HQ := As.mk hq
  have HQ1 := As.mk hq1
  have HQ2 := As.mk hq2
  have HQ5 := As.mk hq5
  have HR := As.mk h
  have HBL := As.mk h.lt
  clear hq hq1 hq2 hq5 h hl
  go_enter Try.func58, Try.ntmps58
  go_upto_region 2 with (first | (go_at_call 19; (with_reducible refine (rsmall_to B l bad _ HQ1.out (HR.out.below ((Below.refl _ _).alloc (Nat.le_refl _) _))).mono ?_); rintro e w1 ⟨rfl, hr, hg⟩; have HR1 := As.mk hr; have HG1 := As.mk hg; clear hr hg))
  have HZ : As (RSt w (w1.alloc (.cells #[.int .u32 (ver : Int), .slice none 0 0, .slice none 0 0, .int .u32 0] 51)) B w.heap.size w1.heap.size l1 b1 [.int .u32 (ver : Int), .slice none 0 0, .slice none 0 0, .int .u32 0]) := by
    have q1 := HG1.out.size
    have q0 : (w.alloc (Obj.cells zTx 51)).heap.size = w.heap.size + 1 := by simp
    change (w.alloc (Obj.cells zTx 51)).heap.size ≤ _ at q1
    rw [q0] at q1
    have q2 := HBL.out
    exact ⟨⟨HR1.out.below (below_al _ _), grown_al (grown_trans (grown_any (grown_none (below_al _ _)) _) HG1.out) _, Box.below (Box.grown (Box.new w zTx 51) HG1.out (fun e => by injection e with e; omega)) (below_al _ _), Box.new _ _ _, q2, Nat.le_refl _, q1⟩⟩
  obtain ⟨G, hG⟩ : ∃ G, G = w1.heap.size := ⟨_, rfl⟩
  obtain ⟨R, hR⟩ : ∃ R, R = w.heap.size := ⟨_, rfl⟩
  rw [← hG] at HZ ⊢
  have HRW := As.mk hR
  have HZ1 : As (RSt w (w1.alloc (.cells #[.int .u32 (ver : Int), .slice none 0 0, .slice none 0 0, .int .u32 0] 51)) B R G l1 b1 [.int .u32 (ver : Int), .slice none 0 0, .slice none 0 0, .int .u32 0]) := ⟨by rw [hR]; exact HZ.out⟩
  rw [← hR]
  clear HZ hG hR HR1 HG1
  generalize (w1.alloc (.cells #[.int .u32 (ver : Int), .slice none 0 0, .slice none 0 0, .int .u32 0] 51)) = W1 at HZ1 ⊢
  obtain ⟨mk', hmk'⟩ : ∃ m : Bool, ((n0 : Int) == 0) = m := ⟨_, rfl⟩
  obtain rfl : mk = mk' := by rw [HMK.out, ← hmk', Bool.eq_iff_iff]; simp
  go_upto_if 15 with (first | (go_at_call 21; (with_reducible refine (rcount_to B l1 b1 50 _ HQ2.out HZ1.out.at (by omega) (by omega)).mono ?_); rintro e w2 ⟨rfl, hr, hg⟩; have HZ2 := As.mk (HZ1.out.read hr hg); clear hr hg))
  go_cut [5] (fun v5 wc => v5 = .int .i64 (n : Int) ∧ As (RSt w wc B R G l5 b5 [.int .u32 (ver : Int), .slice none 0 0, .slice none 0 0, .int .u32 0]))
  case first =>
    clear hmk'
    cases mk with
    | false =>
      have HE : As (n0 = n ∧ l2 = l5 ∧ b2 = b5) := ⟨by
        have h5 := HQ5.out
        have h0 : ¬ n0 = 0 := by have := HMK.out; simpa using this
        unfold rMark at h5
        simp only [HQ2.out, h0, if_false, Prod.mk.injEq] at h5
        exact ⟨h5.1.2, h5.2.1, h5.2.2⟩⟩
      go_wp2
      go_meet
      obtain ⟨rfl, rfl, rfl⟩ := HE.out
      exact ⟨rfl, HZ2⟩
    | true =>
      obtain ⟨x, l3, b3, hq3⟩ : ∃ x l3 b3, rtake 1 l2 b2 = (x, l3, b3) := ⟨_, _, _, rfl⟩
      obtain ⟨x4, l4, b4, hq4⟩ : ∃ x l4 b4, rtake (-1) l3 b3 = (x, l4, b4) := ⟨_, _, _, rfl⟩
      have HL3 : As (l3.length ≤ 140737488355328) := ⟨by have := rtake_le_len 1 l2 b2; rw [hq3] at this; simp only at this; have := HL2.out; omega⟩
      have HQ3 := As.mk hq3
      have HQ4 := As.mk hq4
      clear hq3 hq4
      have h0 : n0 = 0 := by have := HMK.out; simpa using this
      by_cases hx : x = [1]
      · have HE : As (rcount 50 l3 b3 = (n, l5, b5)) := ⟨by
          have h5 := HQ5.out
          unfold rMark at h5; simp only [HQ2.out, h0, if_true, HQ3.out, hx, Prod.mk.injEq, true_and] at h5
          exact Prod.ext h5.1 h5.2⟩
        have hxx : (x == [1]) = true := by simpa using hx
        clear hx h0
        go_wp2_with (first | (go_at_call 25; (with_reducible refine (rtake_to B l2 b2 1 _ HQ3.out HZ2.out.at HL2.out).mono ?_); rintro e w3 ⟨r3, rfl, ho, hr, hg⟩; obtain ⟨A3, c3, rfl, -⟩ := RdB.form ho.rd; have HX3 := As.mk (RdS.alloc ho.rd (.cells #[.int .u8 1] 5)); have HO3 := As.mk (RdB.one w3 5 1 1 rfl); have HZ3 := As.mk ((HZ2.out.read hr hg).below (below_al w3 (.cells #[.int .u8 1] 5))); clear ho hr hg) | (go_at_call 85; (with_reducible refine (equal_any _ _ x [1] _ HX3.out HO3.out).mono ?_); rintro e w' ⟨rfl, rfl⟩) | (go_at_call 21; (with_reducible refine (rcount_to B l3 b3 50 _ HE.out HZ3.out.at (by omega) (by omega)).mono ?_); rintro e w5 ⟨rfl, hr, hg⟩; have HZ5 := As.mk (HZ3.out.read hr hg); clear hr hg))
        go_meet
        exact ⟨rfl, HZ5⟩
      · have HE : As (rcount 50 l4 b4 = (n, l5, b5)) := ⟨by
          have h5 := HQ5.out
          unfold rMark at h5; simp only [HQ2.out, h0, if_true, HQ3.out, hx, if_false, HQ4.out, Prod.mk.injEq, true_and] at h5
          exact Prod.ext h5.1 h5.2⟩
        have hxx : (x == [1]) = false := by simpa using hx
        clear hx h0
        go_wp2_with (first | (go_at_call 25; (with_reducible refine (rtake_to B l3 b3 (-1) _ HQ4.out HZ3.out.at HL3.out).mono ?_); rintro e w4 ⟨r4, rfl, ho, hr, hg⟩; have HZ4 := As.mk (HZ3.out.read hr hg); clear ho hr hg) | (go_at_call 25; (with_reducible refine (rtake_to B l2 b2 1 _ HQ3.out HZ2.out.at HL2.out).mono ?_); rintro e w3 ⟨r3, rfl, ho, hr, hg⟩; obtain ⟨A3, c3, rfl, -⟩ := RdB.form ho.rd; have HX3 := As.mk (RdS.alloc ho.rd (.cells #[.int .u8 1] 5)); have HO3 := As.mk (RdB.one w3 5 1 1 rfl); have HZ3 := As.mk ((HZ2.out.read hr hg).below (below_al w3 (.cells #[.int .u8 1] 5))); clear ho hr hg) | (go_at_call 85; (with_reducible refine (equal_any _ _ x [1] _ HX3.out HO3.out).mono ?_); rintro e w' ⟨rfl, rfl⟩) | (go_at_call 21; (with_reducible refine (rcount_to B l4 b4 50 _ HE.out HZ4.out.at (by omega) (by omega)).mono ?_); rintro e w5 ⟨rfl, hr, hg⟩; have HZ5 := As.mk (HZ4.out.read hr hg); clear hr hg))
        go_meet
        exact ⟨rfl, HZ5⟩
  case rest =>
    obtain ⟨rfl, HZ5⟩ := hcut
    clear HZ2 HZ1
    obtain ⟨xs, l6, b6, hq6⟩ : ∃ x l b, iter rIn n (l5, b5) = (x, l, b) := ⟨_, _, _, rfl⟩
    obtain ⟨ys, l7, b7, hq7⟩ : ∃ x l b, rOuts (l6, b6) = (x, l, b) := ⟨_, _, _, rfl⟩
    have HN : As (n ≤ 50) := ⟨by have := rMark_top (l1, b1); rw [HQ5.out] at this; exact this⟩
    have HL5 : As (l5.length ≤ 140737488355328) := ⟨by have := rMark_le (l1, b1); rw [HQ5.out] at this; simp only at this; have := HL1.out; omega⟩
    have HL6 : As (l6.length ≤ 140737488355328) := ⟨by have := iter_le rIn rIn_le n (l5, b5); rw [hq6] at this; simp only at this; have := HL5.out; omega⟩
    have HL7 : As (l7.length ≤ 140737488355328) := ⟨by have := rOuts_le (l6, b6); rw [hq7] at this; simp only at this; have := HL6.out; omega⟩
    have HXN : As (xs.length = n) := ⟨by have := iter_length rIn n (l5, b5); rw [hq6] at this; exact this⟩
    have HQ6 := As.mk hq6
    have HQ7 := As.mk hq7
    clear hq6 hq7
    go_upto_region 9 with (first | (go_at_call 86; (with_reducible refine (ins_to B l5 b5 n _ _ rfl HN.out HQ6.out HZ5.out.at HL5.out).mono ?_); rintro e w6 ⟨iv, rfl, ho, hr, hg⟩; obtain ⟨AI, cI, rfl⟩ := OwG.form ho; have HI6 := As.mk (OwG.mono (base' := G + 1) ho HZ5.out.lt (InE.mono HZ5.out.lt _)); have HZ6 := As.mk (HZ5.out.read hr hg); clear ho hr hg) | (go_at_call 87; (with_reducible refine (outs_to B l6 b6 _ HQ7.out HZ6.out.at HL6.out).mono ?_); rintro e w7 ⟨ov, rfl, ho, hr, hg⟩; obtain ⟨AO, cO, rfl⟩ := OwG.form ho; have HO7 := As.mk ho; have HI7 := As.mk (OwG.read (l := l6) (bad := b6) (InE.read HZ6.out.ltB hg) HI6.out hg HZ6.out.ltB); have HZ7 := As.mk (HZ6.out.read hr hg); have q1 := HZ7.out.cells.2.1; have q2 := HZ7.out.cells.2.2.1; have f1 := HZ7.out.cells.2.2.2.2 1; have f2 := HZ7.out.cells.2.2.2.2 2; clear ho hr hg))
    -- TAIL
    obtain ⟨mid, hmid⟩ : ∃ m, m = w6.heap.size := ⟨_, rfl⟩
    have hs12 : w7.grownBy ((w7.setCell ⟨G, 1, none⟩ (.slice AI xs.length cI)).setCell ⟨G, 2, none⟩ (.slice AO ys.length cO)) (some G) := grown_trans (grown_set _ _ _ _) (grown_set _ _ _ _)
    have HMID : As (G + 1 ≤ mid ∧ ∀ k, (Value.slice AI xs.length cI).ownBlock = some k → k < mid) := ⟨by rw [hmid]; exact ⟨HZ6.out.lt, fun k hk => (HI6.out.lt k hk).2⟩⟩
    have HZ8 : As (RSt w ((w7.setCell ⟨G, 1, none⟩ (.slice AI xs.length cI)).setCell ⟨G, 2, none⟩ (.slice AO ys.length cO)) B R G l7 b7 [.int .u32 (ver : Int), .slice AI xs.length cI, .slice AO ys.length cO, .int .u32 0]) := ⟨(HZ7.out.set 1 (.slice AI xs.length cI)).set 2 (.slice AO ys.length cO)⟩
    have HI8 : As (OwG (InE (G + 1)) 55 36 ((w7.setCell ⟨G, 1, none⟩ (.slice AI xs.length cI)).setCell ⟨G, 2, none⟩ (.slice AO ys.length cO)) (G + 1) (.slice AI xs.length cI) xs) := ⟨OwG.read (l := l7) (bad := b7) (InE.read (Nat.lt_succ_self G) hs12) HI7.out hs12 (Nat.lt_succ_self G)⟩
    have HO8 : As (OwG (OutE mid) 57 2 ((w7.setCell ⟨G, 1, none⟩ (.slice AI xs.length cI)).setCell ⟨G, 2, none⟩ (.slice AO ys.length cO)) mid (.slice AO ys.length cO) ys) := ⟨by
      have hm := HMID.out.1
      rw [hmid] at hm ⊢
      exact OwG.read (l := l7) (bad := b7) (OutE.read (by omega) hs12) HO7.out hs12 (by omega)⟩
    have HMB : As (B < mid) := ⟨by have := HMID.out.1; have := HZ8.out.ltB; omega⟩
    clear hs12 hmid q1 q2 f1 f2 HZ7 HZ6 HI7 HI6 HO7
    generalize ((w7.setCell ⟨G, 1, none⟩ (.slice AI xs.length cI)).setCell ⟨G, 2, none⟩ (.slice AO ys.length cO)) = W8 at HZ8 HI8 HO8 ⊢
    have q1 := HZ8.out.cells.2.1
    have hxs : (xs.length : Int) ≤ 50 := by have := HXN.out; have := HN.out; omega
    go_wp2
    clear q1
    go_loopw [35] (fun v35 wr => ∃ (k : Nat) (ws : List (List (List UInt8))) (lk : List UInt8) (bk : Bool), v35 = .int .i64 (k : Int) ∧ (k : Int) ≤ xs.length ∧ As (rW mk k (l7, b7) = (ws, lk, bk)) ∧ As (RSt w wr B R G lk bk [.int .u32 (ver : Int), .slice AI xs.length cI, .slice AO ys.length cO, .int .u32 0]) ∧ As (OwG (InE (G + 1)) 55 36 wr (G + 1) (.slice AI xs.length cI) (setTo xs ws)) ∧ As (OwG (OutE mid) 57 2 wr mid (.slice AO ys.length cO) ys) ∧ As (lk.length ≤ 140737488355328)) (fun v35 _ => xs.length - (intOf v35).toNat)
    case atStart =>
      refine ⟨0, [], l7, b7, rfl, by omega, ⟨?_⟩, HZ8, ?_, HO8, HL7⟩
      · cases mk <;> rfl
      · rw [setTo_nil]; exact HI8
    case round =>
      obtain ⟨k, ws, lk, bk, rfl, hk, HWk, HZk, HIk, HOk, HLk⟩ := hrel
      by_cases hlt : (k : Int) < xs.length
      · cases mk with
        | false =>
          go_wp2
          go_roundw
          case rel => exact ⟨k + 1, ws, lk, bk, by go_num, by omega, HWk, HZk, HIk, HOk, HLk⟩
          case measure => simp [intOf]; omega
        | true =>
          obtain ⟨a, l9, b9, hqa⟩ : ∃ a l b, rWit (lk, bk) = (a, l, b) := ⟨_, _, _, rfl⟩
          have HL9 : As (l9.length ≤ 140737488355328) := ⟨by have := rWit_le (lk, bk); rw [hqa] at this; simp only at this; have := HLk.out; omega⟩
          have HW9' := As.mk (rW_snoc k (l7, b7) HWk.out hqa)
          have HWL : As (ws.length = k) := ⟨by have := rW_length true k _ HWk.out; simpa using this⟩
          obtain ⟨x, hx⟩ : ∃ x, xs[k]? = some x := ⟨_, List.getElem?_eq_getElem (by omega)⟩
          have HX := As.mk hx
          have HSX : As ((setTo xs ws)[k]? = some x) := ⟨by
            have := setTo_at xs ws
            rw [HWL.out] at this
            rcases this with h | h
            · rw [h]; exact HX.out
            · omega⟩
          have HQa := As.mk hqa
          clear hqa hx
          obtain ⟨g, o, rfl, -, -, -⟩ := OwG.block HIk.out k (by rw [setTo_length _ _ (by have := HWL.out; omega)]; omega)
          go_upto_region 13 with fail
          refine wp_region_held_drew (S := (fun W : World => W.cell? ⟨G, 1, none⟩ = some (.slice (some ⟨g, o, none⟩) xs.length cI))) (by kernel_rfl) ?_ (fun hHeld => ?_)
          · exact HZk.out.cells.2.1
          refine wpAnyH_take (i := 0) (oi := ?_) (v := ?_) (by simp only [List.getElem?_toArray, List.getElem?_cons_zero, List.getElem?_cons_succ]; rfl) (by kernel_rfl) (by kernel_rfl) (by kernel_rfl) (by exact fun _ _ _ h => h) (Or.inl ⟨by rfl, ?_⟩) (by assumption) ?_
          rotate_left
          · (intro w hSw; (try dsimp only at hSw); go_simp; first | done | with_reducible rfl)
          try simp only [Act.put, List.setIfInBounds_toArray, List.set_cons_zero, List.set_cons_succ]
          refine wpAnyH_take (i := 1) (oi := ?_) (v := ?_) (by simp only [List.getElem?_toArray, List.getElem?_cons_zero, List.getElem?_cons_succ]; rfl) (by kernel_rfl) (by kernel_rfl) (by kernel_rfl) (by exact fun _ _ _ h => h) (Or.inl ⟨by rfl, ?_⟩) (by assumption) ?_
          rotate_left
          · (intro w hSw; (try dsimp only at hSw); go_simp; first | done | with_reducible rfl)
          try simp only [Act.put, List.setIfInBounds_toArray, List.set_cons_zero, List.set_cons_succ]
          refine wpAnyH_take (i := 2) (oi := ?_) (v := ?_) (by simp only [List.getElem?_toArray, List.getElem?_cons_zero, List.getElem?_cons_succ]; rfl) (by kernel_rfl) (by kernel_rfl) (by kernel_rfl) (by exact fun _ _ _ h => h) (Or.inl ⟨by rfl, ?_⟩) (by assumption) ?_
          rotate_left
          · (intro w hSw; (try dsimp only at hSw); go_simp; first | done | with_reducible rfl)
          try simp only [Act.put, List.setIfInBounds_toArray, List.set_cons_zero, List.set_cons_succ]
          refine wpAnyH_take (i := 3) (oi := ?_) (v := ?_) (by simp only [List.getElem?_toArray, List.getElem?_cons_zero, List.getElem?_cons_succ]; rfl) (by kernel_rfl) (by kernel_rfl) (by kernel_rfl) (by exact fun _ _ _ h => h) (Or.inl ⟨by rfl, ?_⟩) (by assumption) ?_
          rotate_left
          · (intro w hSw; (try dsimp only at hSw); go_simp; first | done | with_reducible rfl)
          try simp only [Act.put, List.setIfInBounds_toArray, List.set_cons_zero, List.set_cons_succ]
          refine wpAnyH_ready (rs := [4]) (by kernel_rfl) (by simp) ?_
          refine AllReadyH.cons (o := ?_) (by simp only [List.getElem?_toArray, List.getElem?_cons_zero, List.getElem?_cons_succ]; rfl) (fun K hK => ?_) ?_
          · go_simp
            refine (wit_to B lk bk _ HQa.out (HZk.out.below (below_dr wr)).at HLk.out).mono ?_
            rintro e w9 ⟨wv, rfl, ho, hr, hg⟩
            obtain ⟨A9, c9, rfl⟩ := OwW.form ho
            have HZ9 := As.mk ((HZk.out.below (below_dr wr)).read hr hg)
            have HI9 := As.mk (OwG.read (l := lk) (bad := bk) (InE.read HZk.out.ltB hg) (OwG.same (InE.below (below_dr wr)) HIk.out (below_dr wr)) hg HZk.out.ltB)
            have HO9 := As.mk (OwG.read (l := lk) (bad := bk) (OutE.read HMB.out hg) (OwG.same (OutE.below (below_dr wr)) HOk.out (below_dr wr)) hg HMB.out)
            have HW9 := As.mk ho
            have HZS := As.mk hg.size
            clear ho hr hg
            have q1 := HZ9.out.cells.2.1
            obtain ⟨g', o', he, hg0, hg1, hcf⟩ := OwG.block HI9.out k (by rw [setTo_length _ _ (by have := HWL.out; omega)]; omega)
            injection he with he
            injection he with he1 he2
            subst he1 he2
            obtain ⟨hc35, hf35⟩ := hcf 35 (by decide)
            rw [← Nat.add_assoc] at hc35 hf35
            obtain ⟨v35, hv35⟩ := Option.isSome_iff_exists.1 hc35
            clear hc35 hcf
            dsimp only
            refine hK.out _ _ ?_ (fun hHeld2 => ?_)
            · exact q1
            clear hK K hHeld
            have hHeld := hHeld2
            clear hHeld2
            try simp only [Act.put, List.setIfInBounds_toArray, List.set_cons_zero, List.set_cons_succ]
            refine wpAnyH_take (i := 5) (oi := ?_) (v := ?_) (by simp only [List.getElem?_toArray, List.getElem?_cons_zero, List.getElem?_cons_succ]; rfl) (by kernel_rfl) (by kernel_rfl) (by kernel_rfl) (by exact fun _ _ _ h => h) (Or.inl ⟨by rfl, ?_⟩) (by assumption) ?_
            rotate_left
            · (intro w hSw; (try dsimp only at hSw); go_simp; first | done | with_reducible rfl)
            try simp only [Act.put, List.setIfInBounds_toArray, List.set_cons_zero, List.set_cons_succ]
            refine wpAnyH_take (i := 6) (oi := ?_) (v := ?_) (by simp only [List.getElem?_toArray, List.getElem?_cons_zero, List.getElem?_cons_succ]; rfl) (by kernel_rfl) (by kernel_rfl) (by kernel_rfl) (by exact fun _ _ _ h => h) (Or.inl ⟨by rfl, ?_⟩) (by assumption) ?_
            rotate_left
            · (intro w hSw; (try dsimp only at hSw); go_simp; first | done | with_reducible rfl)
            try simp only [Act.put, List.setIfInBounds_toArray, List.set_cons_zero, List.set_cons_succ]
            refine wpAnyH_ready (rs := [7]) (by kernel_rfl) (by simp) ?_
            refine AllReadyH.cons (o := ?_) (by simp only [List.getElem?_toArray, List.getElem?_cons_zero, List.getElem?_cons_succ]; rfl) (fun K hK => ?_) ?_
            · go_simp
              have q1 : (w9.setCell ⟨g, o + k * 36 + 35, none⟩ (.slice A9 a.length c9)).cell? ⟨G, 1, none⟩ = some (.slice (some ⟨g, o, none⟩) xs.length cI) := by first | exact ((HZ9.out.far (grown_set w9 g (o + k * 36 + 35) (.slice A9 a.length c9)) (fun j hj => by injection hj with hj; omega)).cells.2.1) | skip
              refine hK.out _ _ ?_ (fun hHeld2 => ?_)
              · exact q1
              clear hK K hHeld
              have hHeld := hHeld2
              clear hHeld2
              try simp only [Act.put, List.setIfInBounds_toArray, List.set_cons_zero, List.set_cons_succ]
              refine wpAnyH_done (by kernel_rfl) ?_ _
              have gset := grown_set w9 g (o + k * 36 + 35) (.slice A9 a.length c9)
              have HZX := As.mk (HZ9.out.far gset (fun j hj => by injection hj with hj; omega))
              have HOX := As.mk (OwG.kept (row := some g) (fun cs y => OutE.kept (base := mid) gset (fun j hj => by injection hj with hj; subst hj; exact HMID.out.2 _ rfl) _ cs y) HO9.out gset (fun j hj e => by injection e with e; have := (OwG.lt HO9.out j hj).1; have := HMID.out.2 g rfl; omega))
              have HIX : As (OwG (InE (G + 1)) 55 36 (w9.setCell ⟨g, o + k * 36 + 35, none⟩ (.slice A9 a.length c9)) (G + 1) (.slice (some ⟨g, o, none⟩) xs.length cI) (setTo xs (ws ++ [a]))) := ⟨by
                rw [setTo_snoc xs ws x a (by rw [HWL.out]; exact HX.out), HWL.out]
                have hq := OwG.set HI9.out k x { x with wit := a } HSX.out 35 (by decide) (.slice A9 a.length c9)
                rw [← Nat.add_assoc] at hq
                exact hq (InE.setWit HW9.out (by have := HZk.out.lt; simp at this ⊢; omega) (by have := (OwG.lt HIk.out g rfl).2; simp at this ⊢; omega)) InE.at⟩
              clear gset hv35 hf35 q1 HZ9 HI9 HO9 HZS
              generalize (w9.setCell ⟨g, o + k * 36 + 35, none⟩ (.slice A9 a.length c9)) = WX at HZX HOX HIX ⊢
              go_wp2
              go_roundw
              case rel =>
                refine ⟨k + 1, ws ++ [a], l9, b9, ?_, ?_, ?_, ?_, ?_, ?_, ?_⟩
                · go_num
                · omega
                · exact HW9'
                · exact HZX
                · exact HIX
                · exact HOX
                · exact HL9
              case measure => simp [intOf]; omega
            exact AllReadyH.nil
          exact AllReadyH.nil

      · have hkn : k = n := by have := HXN.out; omega
        have HWF : As (rW mk n (l7, b7) = (ws, lk, bk)) := ⟨by rw [← hkn]; exact HWk.out⟩
        obtain ⟨lock, l10, b10, hq10⟩ : ∃ m l b, rnum 4 lk bk = (m, l, b) := ⟨_, _, _, rfl⟩
        have HLOCK : As (lock < 4294967296) := ⟨by have := rnum_lt 4 lk bk; rw [hq10] at this; simpa using this⟩
        have HL10 : As (l10.length ≤ 140737488355328) := ⟨by have := rnum_le_len 4 lk bk; rw [hq10] at this; simp only at this; have := HLk.out; omega⟩
        have HE : As (rRaw (l, bad) = ((⟨ver, setTo xs ws, ys, lock⟩, mk), (l10, b10))) := ⟨by
          unfold rRaw
          simp only [HQ1.out, HQ5.out, rParts_of mk n (l5, b5) HQ6.out HQ7.out HWF.out, hq10]⟩
        obtain ⟨T, hT⟩ : ∃ T : LTx, T = ⟨ver, setTo xs ws, ys, lock⟩ := ⟨_, rfl⟩
        rw [← hT] at HE
        have HTE := As.mk hT
        have HQ10 := As.mk hq10
        clear hq10 hkn hT
        go_upto_region 16 with (go_at_call 19; (with_reducible refine (rsmall_to B lk bk _ HQ10.out HZk.out.at).mono ?_); rintro e w10 ⟨rfl, hr, hg⟩; have HI10 := As.mk (OwG.read (l := lk) (bad := bk) (InE.read HZk.out.ltB hg) HIk.out hg HZk.out.ltB); have HO10 := As.mk (OwG.read (l := lk) (bad := bk) (OutE.read HMB.out hg) HOk.out hg HMB.out); have HZ10 := As.mk (HZk.out.read hr hg); have q3 := HZ10.out.cells.2.2.2.1; have f3 := HZ10.out.cells.2.2.2.2 3; clear hr hg)
        have HZ11 : As (RSt w (w10.setCell ⟨G, 3, none⟩ (.int .u32 (lock : Int))) B R G l10 b10 [.int .u32 (ver : Int), .slice AI xs.length cI, .slice AO ys.length cO, .int .u32 (lock : Int)]) := ⟨HZ10.out.set 3 _⟩
        have HT11 : As (OwTx (w10.setCell ⟨G, 3, none⟩ (.int .u32 (lock : Int))) (G + 1) [.int .u32 (ver : Int), .slice AI xs.length cI, .slice AO ys.length cO, .int .u32 (lock : Int)] T) := ⟨by
          have gset := grown_set w10 G 3 (.int .u32 (lock : Int))
          rw [HTE.out]
          exact ⟨_, _, mid, rfl, OwG.read (l := []) (bad := false) (InE.read (Nat.lt_succ_self G) gset) HI10.out gset (Nat.lt_succ_self G), OwG.read (l := []) (bad := false) (OutE.read (by have := HMID.out.1; omega) gset) HO10.out gset (by have := HMID.out.1; omega), HMID.out.1, HMID.out.2, HVER.out, HLOCK.out⟩⟩
        clear q3 f3 HZ10 HI10 HO10
        generalize (w10.setCell ⟨G, 3, none⟩ (.int .u32 (lock : Int))) = W11 at HZ11 HT11 ⊢
        have HF : As (if b10 = false ∧ mayT T ∧ (mk = true ↔ hasW T) then t = T ∧ ok = true ∧ l' = l10 ∧ bad' = b10 else t = noTx ∧ ok = false ∧ (l', bad') = (rtake (-1) l10 b10).2) := ⟨by
          have h := HQ.out
          unfold rTx at h
          simp only [HE.out] at h
          split at h <;> rename_i hc
          · rw [if_pos hc]; simp only [Prod.mk.injEq] at h; exact ⟨h.1.1.symm, h.1.2.symm, h.2.1.symm, h.2.2.symm⟩
          · rw [if_neg hc]; simp only [Prod.mk.injEq] at h; exact ⟨h.1.1.symm, h.1.2.symm, h.2.symm⟩⟩
        go_cut [63] (fun v63 wc => v63 = .bool (!ok) ∧ As (RSt w wc B R G l10 b10 [.int .u32 (ver : Int), .slice AI xs.length cI, .slice AO ys.length cO, .int .u32 (lock : Int)] ∧ OwTx wc (G + 1) [.int .u32 (ver : Int), .slice AI xs.length cI, .slice AO ys.length cO, .int .u32 (lock : Int)] T))
        case first =>
          obtain ⟨d0, d1, d2, d3, -⟩ := HZ11.out.cells
          cases b10 with
          | true =>
            have HOK : As (ok = false) := ⟨by have h := HF.out; rw [if_neg (fun hc => by cases hc.1)] at h; exact h.2.1⟩
            go_wp2_with (go_at_call 23; (with_reducible refine (ok_to B l10 true _ (r := false) rfl HZ11.out.at).mono ?_); rintro e w' ⟨rfl, rfl⟩)
            go_meet
            rw [HOK.out]
            exact ⟨rfl, ⟨HZ11.out, HT11.out⟩⟩
          | false =>
            by_cases hm : mayT T
            · have dm : decide (mayT T) = true := decide_eq_true hm
              by_cases hw : hasW T
              · have dw : decide (hasW T) = true := decide_eq_true hw
                have HM := As.mk hm
                have HW := As.mk hw
                clear hm hw
                cases mk with
                | true =>
                  have HOK : As (ok = true) := ⟨by have h := HF.out; rw [if_pos ⟨rfl, HM.out, iff_of_true rfl HW.out⟩] at h; exact h.2.1⟩
                  go_wp2_with (first | (go_at_call 23; (with_reducible refine (ok_to B l10 false _ (r := true) rfl HZ11.out.at).mono ?_); rintro e w' ⟨rfl, rfl⟩) | (go_at_call 48; (with_reducible refine (may_any _ T _ HT11.out.rd).mono ?_); rintro e w12 ⟨rfl, hb⟩; have HZ12 := As.mk (HZ11.out.below hb); have HT12 := As.mk (HT11.out.below hb); clear hb d0 d1 d2 d3; obtain ⟨d0, d1, d2, d3, -⟩ := HZ12.out.cells) | (go_at_call 72; (with_reducible refine (witnessed_any _ T _ HT12.out.rd).mono ?_); rintro e w13 ⟨rfl, hb⟩; have HZ13 := As.mk (HZ12.out.below hb); have HT13 := As.mk (HT12.out.below hb); clear hb))
                  go_meet
                  rw [HOK.out]
                  exact ⟨rfl, ⟨HZ13.out, HT13.out⟩⟩
                | false =>
                  have HOK : As (ok = false) := ⟨by have h := HF.out; rw [if_neg (fun hc => by have := hc.2.2.2 HW.out; cases this)] at h; exact h.2.1⟩
                  go_wp2_with (first | (go_at_call 23; (with_reducible refine (ok_to B l10 false _ (r := true) rfl HZ11.out.at).mono ?_); rintro e w' ⟨rfl, rfl⟩) | (go_at_call 48; (with_reducible refine (may_any _ T _ HT11.out.rd).mono ?_); rintro e w12 ⟨rfl, hb⟩; have HZ12 := As.mk (HZ11.out.below hb); have HT12 := As.mk (HT11.out.below hb); clear hb d0 d1 d2 d3; obtain ⟨d0, d1, d2, d3, -⟩ := HZ12.out.cells) | (go_at_call 72; (with_reducible refine (witnessed_any _ T _ HT12.out.rd).mono ?_); rintro e w13 ⟨rfl, hb⟩; have HZ13 := As.mk (HZ12.out.below hb); have HT13 := As.mk (HT12.out.below hb); clear hb))
                  go_meet
                  rw [HOK.out]
                  exact ⟨rfl, ⟨HZ13.out, HT13.out⟩⟩
              · have dw : decide (hasW T) = false := decide_eq_false hw
                have HM := As.mk hm
                have HW := As.mk hw
                clear hm hw
                cases mk with
                | true =>
                  have HOK : As (ok = false) := ⟨by have h := HF.out; rw [if_neg (fun hc => HW.out (hc.2.2.1 rfl))] at h; exact h.2.1⟩
                  go_wp2_with (first | (go_at_call 23; (with_reducible refine (ok_to B l10 false _ (r := true) rfl HZ11.out.at).mono ?_); rintro e w' ⟨rfl, rfl⟩) | (go_at_call 48; (with_reducible refine (may_any _ T _ HT11.out.rd).mono ?_); rintro e w12 ⟨rfl, hb⟩; have HZ12 := As.mk (HZ11.out.below hb); have HT12 := As.mk (HT11.out.below hb); clear hb d0 d1 d2 d3; obtain ⟨d0, d1, d2, d3, -⟩ := HZ12.out.cells) | (go_at_call 72; (with_reducible refine (witnessed_any _ T _ HT12.out.rd).mono ?_); rintro e w13 ⟨rfl, hb⟩; have HZ13 := As.mk (HZ12.out.below hb); have HT13 := As.mk (HT12.out.below hb); clear hb))
                  go_meet
                  rw [HOK.out]
                  exact ⟨rfl, ⟨HZ13.out, HT13.out⟩⟩
                | false =>
                  have HOK : As (ok = true) := ⟨by have h := HF.out; rw [if_pos ⟨rfl, HM.out, iff_of_false (by decide) HW.out⟩] at h; exact h.2.1⟩
                  go_wp2_with (first | (go_at_call 23; (with_reducible refine (ok_to B l10 false _ (r := true) rfl HZ11.out.at).mono ?_); rintro e w' ⟨rfl, rfl⟩) | (go_at_call 48; (with_reducible refine (may_any _ T _ HT11.out.rd).mono ?_); rintro e w12 ⟨rfl, hb⟩; have HZ12 := As.mk (HZ11.out.below hb); have HT12 := As.mk (HT11.out.below hb); clear hb d0 d1 d2 d3; obtain ⟨d0, d1, d2, d3, -⟩ := HZ12.out.cells) | (go_at_call 72; (with_reducible refine (witnessed_any _ T _ HT12.out.rd).mono ?_); rintro e w13 ⟨rfl, hb⟩; have HZ13 := As.mk (HZ12.out.below hb); have HT13 := As.mk (HT12.out.below hb); clear hb))
                  go_meet
                  rw [HOK.out]
                  exact ⟨rfl, ⟨HZ13.out, HT13.out⟩⟩
            · have dm : decide (mayT T) = false := decide_eq_false hm
              have HOK : As (ok = false) := ⟨by have h := HF.out; rw [if_neg (fun hc => hm hc.2.1)] at h; exact h.2.1⟩
              clear hm
              go_wp2_with (first | (go_at_call 23; (with_reducible refine (ok_to B l10 false _ (r := true) rfl HZ11.out.at).mono ?_); rintro e w' ⟨rfl, rfl⟩) | (go_at_call 48; (with_reducible refine (may_any _ T _ HT11.out.rd).mono ?_); rintro e w12 ⟨rfl, hb⟩; have HZ12 := As.mk (HZ11.out.below hb); have HT12 := As.mk (HT11.out.below hb); clear hb d0 d1 d2 d3; obtain ⟨d0, d1, d2, d3, -⟩ := HZ12.out.cells))
              go_meet
              rw [HOK.out]
              exact ⟨rfl, ⟨HZ12.out, HT12.out⟩⟩
        case rest =>
          obtain ⟨rfl, HC⟩ := hcut
          clear HZ11 HT11
          have HZ13 := As.mk HC.out.1
          have HT13 := As.mk HC.out.2
          clear HC
          cases ok with
          | false =>
            have HF2 : As (t = noTx ∧ (l', bad') = (rtake (-1) l10 b10).2) := ⟨by
              have h := HF.out
              split at h
              · cases h.2.1
              · exact ⟨h.1, h.2.2⟩⟩
            obtain ⟨x14, l14, b14, hq14⟩ : ∃ x l b, rtake (-1) l10 b10 = (x, l, b) := ⟨_, _, _, rfl⟩
            have HQ14 := As.mk hq14
            clear hq14
            go_wp2_with (go_at_call 25; (with_reducible refine (rtake_to B l10 b10 (-1) _ HQ14.out HZ13.out.at HL10.out).mono ?_); rintro e w14 ⟨r14, rfl, ho, hr, hg⟩; have HZ14 := As.mk (HZ13.out.read hr hg); have HB14 := As.mk HZ14.out.box; obtain ⟨q0, q1, q2, q3, fz⟩ := Box.four HB14.out; clear ho hr hg)
            have HW4 := As.mk (And.intro (set4_box HB14.out (.int .u32 0) (.slice none 0 0) (.slice none 0 0) (.int .u32 0)) (set4_grown w14 R (.int .u32 0) (.slice none 0 0) (.slice none 0 0) (.int .u32 0)))
            clear q0 q1 q2 q3 fz HB14
            generalize ((((w14.setCell ⟨R, 0, none⟩ (.int .u32 0)).setCell ⟨R, 1, none⟩ (.slice none 0 0)).setCell ⟨R, 2, none⟩ (.slice none 0 0)).setCell ⟨R, 3, none⟩ (.int .u32 0)) = W15 at HW4 ⊢
            obtain ⟨q0, q1, q2, q3, -⟩ := Box.four HW4.out.1
            refine bodyPost_ret (v := .tuple #[.agg #[.int .u32 0, .slice none 0 0, .slice none 0 0, .int .u32 0], .bool false]) (by simp [results, Try.results58, go_sem, q0, q1, q2, q3]) rfl ?_
            have hz := HZ14.out
            have hf := HF2.out.2
            rw [HQ14.out] at hf
            simp only [Prod.mk.injEq] at hf
            obtain ⟨rfl, rfl⟩ := hf
            rw [HF2.out.1]
            exact ⟨[.int .u32 0, .slice none 0 0, .slice none 0 0, .int .u32 0], rfl, OwTx.no _ _, Rdr.grown hz.at HW4.out.2 (fun j hj => by injection hj with hj; have := hz.2.2.2.2; omega), grown_far hz.2.1 HW4.out.2 (fun j hj => by injection hj with hj; have := hz.2.2.2.2; omega)⟩
          | true =>
            have HF2 : As (t = T ∧ l' = l10 ∧ bad' = b10) := ⟨by
              have h := HF.out
              split at h
              · exact ⟨h.1, h.2.2⟩
              · cases h.2.1⟩
            obtain ⟨q0, q1, q2, q3, fz⟩ := Box.four HZ13.out.box
            obtain ⟨d0, d1, d2, d3, -⟩ := HZ13.out.cells
            go_wp2
            have HW4 := As.mk (And.intro (set4_box HZ13.out.box (.int .u32 (ver : Int)) (.slice AI xs.length cI) (.slice AO ys.length cO) (.int .u32 (lock : Int))) (set4_grown wc R (.int .u32 (ver : Int)) (.slice AI xs.length cI) (.slice AO ys.length cO) (.int .u32 (lock : Int))))
            clear q0 q1 q2 q3 fz d0 d1 d2 d3
            generalize ((((wc.setCell ⟨R, 0, none⟩ (.int .u32 (ver : Int))).setCell ⟨R, 1, none⟩ (.slice AI xs.length cI)).setCell ⟨R, 2, none⟩ (.slice AO ys.length cO)).setCell ⟨R, 3, none⟩ (.int .u32 (lock : Int))) = W15 at HW4 ⊢
            obtain ⟨q0, q1, q2, q3, -⟩ := Box.four HW4.out.1
            refine bodyPost_ret (v := .tuple #[.agg #[.int .u32 (ver : Int), .slice AI xs.length cI, .slice AO ys.length cO, .int .u32 (lock : Int)], .bool true]) (by simp [results, Try.results58, go_sem, q0, q1, q2, q3]) rfl ?_
            have hz := HZ13.out
            obtain ⟨rfl, rfl, rfl⟩ := HF2.out
            have hord := hz.2.2.2.2
            exact ⟨[.int .u32 (ver : Int), .slice AI xs.length cI, .slice AO ys.length cO, .int .u32 (lock : Int)], rfl, OwTx.mono (OwTx.read HT13.out HW4.out.2 (by omega)) (by omega), Rdr.grown hz.at HW4.out.2 (fun j hj => by injection hj with hj; omega), grown_far hz.2.1 HW4.out.2 (fun j hj => by injection hj with hj; omega)⟩
end Go.Proofs.Ytfggkljgfadacaa.W
