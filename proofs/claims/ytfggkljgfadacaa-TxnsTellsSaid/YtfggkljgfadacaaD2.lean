/- The document's body and Base of layer 3. -/
import Derived.Test.YtfggkljgfadacaaD1
import Derived.Deep.RegionHeld3
set_option linter.unusedVariables false
set_option linter.unusedSimpArgs false
namespace Go.Proofs.Ytfggkljgfadacaa.W
open Go.RowKit Go.Proofs.Ytfggkljgfadacaa.B Go.Proofs

set_option maxHeartbeats 8000000 in
set_option maxRecDepth 100000 in
theorem qbody_any (v : Value) (l : List UInt8) (cs : List Value) (t : LTx) (w : World) (hb : RdB w v l) (hl : l.length ≤ 1000) (hr : TxC w cs t) (hm : mayT t) :
    Calls Try.prog 83 #[v, .agg cs.toArray] w fun e w' => ∃ r, e = .returned r ∧ OwB w' w.heap.size 5 r (l ++ bodyB t) ∧ Below w.heap.size w w' := by
  obtain ⟨iv, ov, rfl, hi, ho, _⟩ := hr
  obtain ⟨AI, ci, rfl, hi1, hi2, _⟩ := hi.form
  obtain ⟨AO, co, rfl, ho1, ho2, _⟩ := ho.form
  have HI := As.mk hi
  have HO := As.mk ho
  have HV := As.mk hb
  have HL := As.mk hl
  have HM := As.mk hm
  have hmi : (t.ins.length : Int) ≤ 50 := by have := hm.2.2; omega
  have hmo : (t.outs.length : Int) ≤ 50 := by have := hm.2.2; omega
  clear hi ho hi1 hi2 ho1 ho2 hb hl hm
  have HX : As (Box (w.alloc (.cells #[.int .u32 (t.ver : Int), .slice AI t.ins.length ci, .slice AO t.outs.length co, .int .u32 (t.lock : Int)] 51)) w.heap.size #[.int .u32 (t.ver : Int), .slice AI t.ins.length ci, .slice AO t.outs.length co, .int .u32 (t.lock : Int)] 51) := ⟨Box.new _ _ _⟩
  have d1 := HX.out.cell 1 _ rfl
  go_enter Try.func83, Try.ntmps83
  go_upto_region 2 with (go_at_call 28; (with_reducible refine (count_ref _ l _ _ (HV.out.alloc _) (by have := HL.out; omega)).mono ?_); rintro e w1 ⟨r, rfl, ho, hb⟩; have HR := As.mk ho; have HB := As.mk hb; clear ho hb)
  have HE : As (Below w.heap.size w w1 ∧ Box w1 w.heap.size #[.int .u32 (t.ver : Int), .slice AI t.ins.length ci, .slice AO t.outs.length co, .int .u32 (t.lock : Int)] 51) := ⟨((Below.refl _ _).alloc (Nat.le_refl _) _).trans (HB.out.mono (by simp)), HX.out.below HB.out⟩
  have HO1 : As (OwB w1 (w.heap.size + 1) 5 r (l ++ cnt t.ins.length)) := ⟨by have := HR.out; rw [clampU_len _ (by omega)] at this; simpa using this⟩
  clear HR HB HX d1
  go_wp2
  go_loopw [0, 5] (fun v0 v5 wr => ∃ (k : Nat) (L : List UInt8), v5 = .int .i64 (k : Int) ∧ (k : Int) ≤ t.ins.length ∧ As (Below w.heap.size w wr ∧ Box wr w.heap.size #[.int .u32 (t.ver : Int), .slice AI t.ins.length ci, .slice AO t.outs.length co, .int .u32 (t.lock : Int)] 51) ∧ As (OwB wr (w.heap.size + 1) 5 v0 L) ∧ As (L = l ++ cnt t.ins.length ++ (t.ins.take k).flatMap inB ∧ L.length ≤ l.length + 5 + 545 * k)) (fun _ v5 _ => t.ins.length - (intOf v5).toNat)
  case atStart => exact ⟨0, _, rfl, by omega, HE, HO1, ⟨by simp, by have := cnt_length t.ins.length; simp only [List.length_append]; omega⟩⟩
  case round =>
    obtain ⟨k, L, rfl, hk, HB, HV0, HLL⟩ := hrel
    have d1 := HB.out.2.cell 1 _ rfl
    by_cases hlt : (k : Int) < t.ins.length
    · obtain ⟨g, o, cs, x, A1, c1, A2, c2, rfl, HK, HLC, HG, H1, HX, h32, h33, h34, h35, HS, HW⟩ := RdIns.at HI.out k (by omega)
      have HGr := As.mk (rangeAt_below HG.out HB.out.1)
      have HOK := As.mk (HM.out.1 x (List.mem_of_getElem? HK.out))
      obtain ⟨W1, hW1⟩ : ∃ W, W = wr.alloc (.cells cs.toArray 55) := ⟨_, rfl⟩
      obtain ⟨G, hG⟩ : ∃ G, G = wr.heap.size := ⟨_, rfl⟩
      have HQ : As (KeepI w W1 #[.int .u32 (t.ver : Int), .slice (some ⟨g, o, none⟩) t.ins.length ci, .slice AO t.outs.length co, .int .u32 (t.lock : Int)] G x A1 c1) := ⟨by
        subst hW1 hG
        have hbx := Box.new wr cs.toArray 55
        exact ⟨HB.out.1.alloc HB.out.1.size _, HB.out.2.below ((Below.refl _ _).alloc (Nat.le_refl _) _), hbx.cell 32 _ (by simpa using h32), hbx.cell 33 _ (by simpa using h33), hbx.cell 34 _ (by simpa using h34)⟩⟩
      have HP : As (RdB W1 (.slice (some ⟨G, 0, none⟩) 32 32) x.prev) := ⟨by subst hW1 hG; exact prev_rd (Box.new _ _ _) HX.out⟩
      have HV1 : As (OwB W1 (w.heap.size + 1) 5 u0 L) := ⟨by subst hW1; exact HV0.out.alloc _⟩
      have HN : As (∀ b, u0.ownBlock = some b → w.heap.size < b ∧ b ≠ G) := ⟨fun b hb => by have := HV0.out.lt b hb; omega⟩
      have HGG : As (w.heap.size + 1 ≤ G ∧ G < W1.heap.size) := ⟨by subst hW1 hG; have := HB.out.2.lt; refine ⟨this, ?_⟩; simp⟩
      go_upto_region 6 with (first | ((with_reducible refine wpList_load_mid (op := ⟨_, .load 55 (.tmp 23), _, _, _, _⟩) ?hgd 55 (.tmp 23) rfl _ _ ?hx cs _ HGr.out Try.underlying55 rfl ?hi ?_); (case hgd => exact rfl); (case hx => exact rfl); (case hi => rw [HLC.out]; kernel_rfl)) | ((with_reducible refine wpList_store_new (op := ⟨_, .store 55 (.tmp 6) (.tmp 24), _, _, _, _⟩) ?hgd 55 (.tmp 6) (.tmp 24) rfl (wr) ?cc55 cs ?hw ?hx ?hy ?hi ?hc H1.out ?_); (case hgd => exact rfl); (case hw => exact rfl); (case hx => exact rfl); (case hy => exact rfl); (case hi => rw [HLC.out]; kernel_rfl); (case hc => rw [HLC.out]; exact rfl)))
      rw [← hW1, ← hG]
      clear hW1 hG HV0 HB h32 h33 h34 h35 HGr d1
      refine wp_region_held_drew (S := (fun W : World => KeepI w W #[.int .u32 (t.ver : Int), .slice (some ⟨g, o, none⟩) t.ins.length ci, .slice AO t.outs.length co, .int .u32 (t.lock : Int)] G x A1 c1)) (by kernel_rfl) ?_ (fun hHeld => ?_)
      · exact HQ.out.drew
      refine wpAnyH_take (i := 0) (oi := ?_) (v := ?_) (by simp only [List.getElem?_toArray, List.getElem?_cons_zero, List.getElem?_cons_succ]; rfl) (by kernel_rfl) (by kernel_rfl) (by kernel_rfl) (by exact fun _ _ _ h => h) (Or.inl ⟨by rfl, ?_⟩) (by assumption) ?_
      rotate_left
      · (intro w hSw; (try dsimp only at hSw); obtain ⟨-, -, q32, q33, q34⟩ := hSw; go_simp; first | done | with_reducible rfl)
      try simp only [Act.put, List.setIfInBounds_toArray, List.set_cons_zero, List.set_cons_succ]
      refine wpAnyH_take (i := 1) (oi := ?_) (v := ?_) (by simp only [List.getElem?_toArray, List.getElem?_cons_zero, List.getElem?_cons_succ]; rfl) (by kernel_rfl) (by kernel_rfl) (by kernel_rfl) (by exact fun _ _ _ h => h) (Or.inl ⟨by rfl, ?_⟩) (by assumption) ?_
      rotate_left
      · (intro w hSw; (try dsimp only at hSw); obtain ⟨-, -, q32, q33, q34⟩ := hSw; go_simp; first | done | with_reducible rfl)
      try simp only [Act.put, List.setIfInBounds_toArray, List.set_cons_zero, List.set_cons_succ]
      refine wpAnyH_take (i := 2) (oi := ?_) (v := ?_) (by simp only [List.getElem?_toArray, List.getElem?_cons_zero, List.getElem?_cons_succ]; rfl) (by kernel_rfl) (by kernel_rfl) (by kernel_rfl) (by exact fun _ _ _ h => h) (Or.inl ⟨by rfl, ?_⟩) (by assumption) ?_
      rotate_left
      · (intro w hSw; (try dsimp only at hSw); obtain ⟨-, -, q32, q33, q34⟩ := hSw; go_simp; first | done | with_reducible rfl)
      try simp only [Act.put, List.setIfInBounds_toArray, List.set_cons_zero, List.set_cons_succ]
      refine wpAnyH_take (i := 4) (oi := ?_) (v := ?_) (by simp only [List.getElem?_toArray, List.getElem?_cons_zero, List.getElem?_cons_succ]; rfl) (by kernel_rfl) (by kernel_rfl) (by kernel_rfl) (by exact fun _ _ _ h => h) (Or.inl ⟨by rfl, ?_⟩) (by assumption) ?_
      rotate_left
      · (intro w hSw; (try dsimp only at hSw); obtain ⟨-, -, q32, q33, q34⟩ := hSw; go_simp; first | done | with_reducible rfl)
      try simp only [Act.put, List.setIfInBounds_toArray, List.set_cons_zero, List.set_cons_succ]
      refine wpAnyH_take (i := 5) (oi := ?_) (v := ?_) (by simp only [List.getElem?_toArray, List.getElem?_cons_zero, List.getElem?_cons_succ]; rfl) (by kernel_rfl) (by kernel_rfl) (by kernel_rfl) (by exact fun _ _ _ h => h) (Or.inl ⟨by rfl, ?_⟩) (by assumption) ?_
      rotate_left
      · (intro w hSw; (try dsimp only at hSw); obtain ⟨-, -, q32, q33, q34⟩ := hSw; go_simp; first | done | with_reducible rfl)
      try simp only [Act.put, List.setIfInBounds_toArray, List.set_cons_zero, List.set_cons_succ]
      refine wpAnyH_take (i := 7) (oi := ?_) (v := ?_) (by simp only [List.getElem?_toArray, List.getElem?_cons_zero, List.getElem?_cons_succ]; rfl) (by kernel_rfl) (by kernel_rfl) (by kernel_rfl) (by exact fun _ _ _ h => h) (Or.inl ⟨by rfl, ?_⟩) (by assumption) ?_
      rotate_left
      · (intro w hSw; (try dsimp only at hSw); obtain ⟨-, -, q32, q33, q34⟩ := hSw; go_simp; first | done | with_reducible rfl)
      try simp only [Act.put, List.setIfInBounds_toArray, List.set_cons_zero, List.set_cons_succ]
      refine wpAnyH_take (i := 8) (oi := ?_) (v := ?_) (by simp only [List.getElem?_toArray, List.getElem?_cons_zero, List.getElem?_cons_succ]; rfl) (by kernel_rfl) (by kernel_rfl) (by kernel_rfl) (by exact fun _ _ _ h => h) (Or.inl ⟨by rfl, ?_⟩) (by assumption) ?_
      rotate_left
      · (intro w hSw; (try dsimp only at hSw); obtain ⟨-, -, q32, q33, q34⟩ := hSw; go_simp; first | done | with_reducible rfl)
      try simp only [Act.put, List.setIfInBounds_toArray, List.set_cons_zero, List.set_cons_succ]
      refine wpAnyH_take (i := 10) (oi := ?_) (v := ?_) (by simp only [List.getElem?_toArray, List.getElem?_cons_zero, List.getElem?_cons_succ]; rfl) (by kernel_rfl) (by kernel_rfl) (by kernel_rfl) (by exact fun _ _ _ h => h) (Or.inl ⟨by rfl, ?_⟩) (by assumption) ?_
      rotate_left
      · (intro w hSw; (try dsimp only at hSw); obtain ⟨-, -, q32, q33, q34⟩ := hSw; go_simp; first | done | with_reducible rfl)
      try simp only [Act.put, List.setIfInBounds_toArray, List.set_cons_zero, List.set_cons_succ]
      refine wpAnyH_take (i := 11) (oi := ?_) (v := ?_) (by simp only [List.getElem?_toArray, List.getElem?_cons_zero, List.getElem?_cons_succ]; rfl) (by kernel_rfl) (by kernel_rfl) (by kernel_rfl) (by exact fun _ _ _ h => h) (Or.inl ⟨by rfl, ?_⟩) (by assumption) ?_
      rotate_left
      · (intro w hSw; (try dsimp only at hSw); obtain ⟨-, -, q32, q33, q34⟩ := hSw; go_simp; first | done | with_reducible rfl)
      try simp only [Act.put, List.setIfInBounds_toArray, List.set_cons_zero, List.set_cons_succ]
      refine wpAnyH_ready (rs := [3]) (by kernel_rfl) (by simp) ?_
      refine AllReadyH.cons (o := ?_) (by simp only [List.getElem?_toArray, List.getElem?_cons_zero, List.getElem?_cons_succ]; rfl) (fun K hK => ?_) ?_
      · refine step_appB ?hgd (.tmp 25) (.tmp 27) ?ho ?hty (w.heap.size + 1) (u0) (L) ?hs ?hown (.slice (some ⟨G, 0, none⟩) 32 32) (x.prev) ?hx ?hy ?hl ?hb ?_
        case hgd => rfl
        case ho => rfl
        case hty => rfl
        case hs => rfl
        case hown => exact (OwS.drew HV1.out)
        case hx => rfl
        case hy => exact (RdS.drew HP.out)
        case hl => (have := HLL.out.2; have := HL.out; have := HX.out.prev; omega)
        case hb => have := HGG.out; simp; omega
        intro v3 w3 ho hg
        have hS2 := hHeld.grown hg HN.out
        have HO3 := As.mk ho
        clear ho hg
        refine hK.out _ _ ?_ (fun hHeld2 => ?_)
        · exact hS2
        clear hK K hHeld
        have hHeld := hHeld2
        clear hHeld2
        try simp only [Act.put, List.setIfInBounds_toArray, List.set_cons_zero, List.set_cons_succ]
        refine wpAnyH_ready (rs := [6]) (by kernel_rfl) (by simp) ?_
        refine AllReadyH.cons (o := ?_) (by simp only [List.getElem?_toArray, List.getElem?_cons_zero, List.getElem?_cons_succ]; rfl) (fun K hK => ?_) ?_
        · go_simp
          refine (small_ref _ (L ++ x.prev) x.vout _ _ HO3.out.rd (by have := HLL.out.2; have := HL.out; have := HX.out.prev; rw [List.length_append]; omega) HX.out.vout rfl).mono ?_
          rintro e w6 ⟨r6, rfl, ho, hb⟩
          have HO6 := As.mk ho
          have hS2 := hHeld.below hb
          clear ho hb
          dsimp only
          refine hK.out _ _ ?_ (fun hHeld2 => ?_)
          · exact hS2
          clear hK K hHeld
          have hHeld := hHeld2
          clear hHeld2
          try simp only [Act.put, List.setIfInBounds_toArray, List.set_cons_zero, List.set_cons_succ]
          refine wpAnyH_ready (rs := [9]) (by kernel_rfl) (by simp) ?_
          refine AllReadyH.cons (o := ?_) (by simp only [List.getElem?_toArray, List.getElem?_cons_zero, List.getElem?_cons_succ]; rfl) (fun K hK => ?_) ?_
          · go_simp
            refine (qcounted_any _ _ (L ++ x.prev ++ le x.vout 4) x.script _ HO6.out.rd (HS.out.below hHeld.1) (by have := HLL.out.2; have := HL.out; have := HX.out.prev; simp only [List.length_append, le_length]; omega) (by have := HOK.out.1; omega)).mono ?_
            rintro e w7 ⟨r7, rfl, ho, hb⟩
            have HO7 := As.mk ho
            have hS2 := hHeld.below hb
            have H67 := As.mk (Nat.lt_of_lt_of_le hHeld.2.1.lt hb.size)
            clear ho hb
            dsimp only
            refine hK.out _ _ ?_ (fun hHeld2 => ?_)
            · exact hS2
            clear hK K hHeld
            have hHeld := hHeld2
            clear hHeld2
            try simp only [Act.put, List.setIfInBounds_toArray, List.set_cons_zero, List.set_cons_succ]
            refine wpAnyH_ready (rs := [12]) (by kernel_rfl) (by simp) ?_
            refine AllReadyH.cons (o := ?_) (by simp only [List.getElem?_toArray, List.getElem?_cons_zero, List.getElem?_cons_succ]; rfl) (fun K hK => ?_) ?_
            · go_simp
              refine (small_ref _ (L ++ x.prev ++ le x.vout 4 ++ cntB x.script) x.seq _ _ HO7.out.rd (by have := HLL.out.2; have := HL.out; have := HX.out.prev; have := cntB_length _ HOK.out.1; simp only [List.length_append, le_length]; omega) HX.out.seq rfl).mono ?_
              rintro e w8 ⟨r8, rfl, ho, hb⟩
              have HO8 := As.mk ho
              have hS2 := hHeld.below hb
              clear ho hb
              dsimp only
              refine hK.out _ _ ?_ (fun hHeld2 => ?_)
              · exact hS2
              clear hK K hHeld
              have hHeld := hHeld2
              clear hHeld2
              try simp only [Act.put, List.setIfInBounds_toArray, List.set_cons_zero, List.set_cons_succ]
              refine wpAnyH_take (i := 13) (oi := ?_) (v := ?_) (by simp only [List.getElem?_toArray, List.getElem?_cons_zero, List.getElem?_cons_succ]; rfl) (by kernel_rfl) (by kernel_rfl) (by kernel_rfl) (by exact fun _ _ _ h => h) (Or.inl ⟨by rfl, ?_⟩) (by assumption) ?_
              rotate_left
              · (intro w hSw; (try dsimp only at hSw); obtain ⟨-, -, q32, q33, q34⟩ := hSw; go_simp; first | done | with_reducible rfl)
              try simp only [Act.put, List.setIfInBounds_toArray, List.set_cons_zero, List.set_cons_succ]
              refine wpAnyH_done (by kernel_rfl) ?_ _
              go_wp2_with fail
              go_roundw
              case rel =>
                refine ⟨k + 1, _, by go_num, by omega, ⟨hHeld.1, hHeld.2.1⟩, ⟨OwS.mono HO8.out ?_⟩, ⟨?_, ?_⟩⟩
                · exact H67.out
                · rw [flatMap_step inB HK.out, HLL.out.1]; simp only [inB, List.append_assoc]
                · have h1 := inB_length x HOK.out HX.out.prev; have h2 := HLL.out.2; unfold inB at h1; simp only [List.length_append] at h1 ⊢; omega
              case measure => simp [intOf]; omega
            exact AllReadyH.nil
          exact AllReadyH.nil
        exact AllReadyH.nil
      exact AllReadyH.nil
    · have HL2 : As (L = l ++ cnt t.ins.length ++ t.ins.flatMap inB ∧ L.length ≤ 30000) := ⟨by have := HLL.out.1; rwa [List.take_of_length_le (by omega)] at this, by have := HLL.out.2; have := HL.out; omega⟩
      have d2 := HB.out.2.cell 2 _ rfl
      go_upto_region 8 with (go_at_call 28; (with_reducible refine (count_ref _ L _ _ HV0.out.rd (by have := HL2.out; omega)).mono ?_); rintro e w2 ⟨r2, rfl, ho, hb⟩; have HR2 := As.mk ho; have HB2 := As.mk hb; clear ho hb)
      have HE2 : As (Below w.heap.size w w2 ∧ Box w2 w.heap.size #[.int .u32 (t.ver : Int), .slice AI t.ins.length ci, .slice AO t.outs.length co, .int .u32 (t.lock : Int)] 51) := ⟨HB.out.1.trans (HB2.out.mono HB.out.1.size), HB.out.2.below HB2.out⟩
      have HO2 : As (OwB w2 (w.heap.size + 1) 5 r2 (L ++ cnt t.outs.length)) := ⟨by have := HR2.out; rw [clampU_len _ (by omega)] at this; exact OwS.mono this HB.out.2.lt⟩
      clear HR2 HB2 HB HLL d2 d1 hk hlt HV0 HE HO1
      go_wp2
      go_loopw [0, 7] (fun v0 v7 wr => ∃ (k : Nat) (M : List UInt8), v7 = .int .i64 (k : Int) ∧ (k : Int) ≤ t.outs.length ∧ As (Below w.heap.size w wr ∧ Box wr w.heap.size #[.int .u32 (t.ver : Int), .slice AI t.ins.length ci, .slice AO t.outs.length co, .int .u32 (t.lock : Int)] 51) ∧ As (OwB wr (w.heap.size + 1) 5 v0 M) ∧ As (M = L ++ cnt t.outs.length ++ (t.outs.take k).flatMap outB ∧ M.length ≤ L.length + 5 + 513 * k)) (fun _ v7 _ => t.outs.length - (intOf v7).toNat)
      case atStart => exact ⟨0, _, rfl, by omega, HE2, HO2, ⟨by simp, by have := cnt_length t.outs.length; simp only [List.length_append]; omega⟩⟩
      case round =>
        obtain ⟨k, M, rfl, hk, HB, HV0, HLL⟩ := hrel
        have d2 := HB.out.2.cell 2 _ rfl
        by_cases hlt : (k : Int) < t.outs.length
        · obtain ⟨g, o, x, A1, c1, rfl, HK, h0, h1, HS, HVAL⟩ := RdOuts.at HO.out k (by omega)
          have HOK := As.mk (HM.out.2.1 x (List.mem_of_getElem? HK.out))
          have HK0 := As.mk (And.intro (cell_below HB.out.1 h0) (cell_below HB.out.1 h1))
          clear h0 h1
          have hkl : k < t.outs.length := by omega
          go_upto_region 11 with (fail)
          have HD2 := As.mk d2
          clear d2
          refine wp_region_held_drew (S := (fun V : World => Below wr.heap.size wr V)) (by kernel_rfl) ?_ (fun hHeld => ?_)
          · exact below_dr wr
          refine wpAnyH_take (i := 0) (oi := ?_) (v := ?_) (by simp only [List.getElem?_toArray, List.getElem?_cons_zero, List.getElem?_cons_succ]; rfl) (by kernel_rfl) (by kernel_rfl) (by kernel_rfl) (by exact fun _ _ _ h => h) (Or.inl ⟨by rfl, ?_⟩) (by assumption) ?_
          rotate_left
          · (intro w hSw; (try dsimp only at hSw); have q2 := cell_of_below hSw HD2.out; have q3 := cell_of_below hSw HK0.out.1; have q4 := cell_of_below hSw HK0.out.2; clear hSw; go_simp; first | done | with_reducible rfl)
          try simp only [Act.put, List.setIfInBounds_toArray, List.set_cons_zero, List.set_cons_succ]
          refine wpAnyH_take (i := 1) (oi := ?_) (v := ?_) (by simp only [List.getElem?_toArray, List.getElem?_cons_zero, List.getElem?_cons_succ]; rfl) (by kernel_rfl) (by kernel_rfl) (by kernel_rfl) (by exact fun _ _ _ h => h) (Or.inl ⟨by rfl, ?_⟩) (by assumption) ?_
          rotate_left
          · (intro w hSw; (try dsimp only at hSw); have q2 := cell_of_below hSw HD2.out; have q3 := cell_of_below hSw HK0.out.1; have q4 := cell_of_below hSw HK0.out.2; clear hSw; go_simp; first | done | with_reducible rfl)
          try simp only [Act.put, List.setIfInBounds_toArray, List.set_cons_zero, List.set_cons_succ]
          refine wpAnyH_take (i := 2) (oi := ?_) (v := ?_) (by simp only [List.getElem?_toArray, List.getElem?_cons_zero, List.getElem?_cons_succ]; rfl) (by kernel_rfl) (by kernel_rfl) (by kernel_rfl) (by exact fun _ _ _ h => h) (Or.inl ⟨by rfl, ?_⟩) (by assumption) ?_
          rotate_left
          · (intro w hSw; (try dsimp only at hSw); have q2 := cell_of_below hSw HD2.out; have q3 := cell_of_below hSw HK0.out.1; have q4 := cell_of_below hSw HK0.out.2; clear hSw; go_simp; first | done | with_reducible rfl)
          try simp only [Act.put, List.setIfInBounds_toArray, List.set_cons_zero, List.set_cons_succ]
          refine wpAnyH_take (i := 3) (oi := ?_) (v := ?_) (by simp only [List.getElem?_toArray, List.getElem?_cons_zero, List.getElem?_cons_succ]; rfl) (by kernel_rfl) (by kernel_rfl) (by kernel_rfl) (by exact fun _ _ _ h => h) (Or.inl ⟨by rfl, ?_⟩) (by assumption) ?_
          rotate_left
          · (intro w hSw; (try dsimp only at hSw); have q2 := cell_of_below hSw HD2.out; have q3 := cell_of_below hSw HK0.out.1; have q4 := cell_of_below hSw HK0.out.2; clear hSw; go_simp; first | done | with_reducible rfl)
          try simp only [Act.put, List.setIfInBounds_toArray, List.set_cons_zero, List.set_cons_succ]
          refine wpAnyH_take (i := 4) (oi := ?_) (v := ?_) (by simp only [List.getElem?_toArray, List.getElem?_cons_zero, List.getElem?_cons_succ]; rfl) (by kernel_rfl) (by kernel_rfl) (by kernel_rfl) (by exact fun _ _ _ h => h) (Or.inl ⟨by rfl, ?_⟩) (by assumption) ?_
          rotate_left
          · (intro w hSw; (try dsimp only at hSw); have q2 := cell_of_below hSw HD2.out; have q3 := cell_of_below hSw HK0.out.1; have q4 := cell_of_below hSw HK0.out.2; clear hSw; go_simp; first | done | with_reducible rfl)
          try simp only [Act.put, List.setIfInBounds_toArray, List.set_cons_zero, List.set_cons_succ]
          refine wpAnyH_take (i := 5) (oi := ?_) (v := ?_) (by simp only [List.getElem?_toArray, List.getElem?_cons_zero, List.getElem?_cons_succ]; rfl) (by kernel_rfl) (by kernel_rfl) (by kernel_rfl) (by exact fun _ _ _ h => h) (Or.inl ⟨by rfl, ?_⟩) (by assumption) ?_
          rotate_left
          · (intro w hSw; (try dsimp only at hSw); have q2 := cell_of_below hSw HD2.out; have q3 := cell_of_below hSw HK0.out.1; have q4 := cell_of_below hSw HK0.out.2; clear hSw; go_simp; first | done | with_reducible rfl)
          try simp only [Act.put, List.setIfInBounds_toArray, List.set_cons_zero, List.set_cons_succ]
          refine wpAnyH_take (i := 6) (oi := ?_) (v := ?_) (by simp only [List.getElem?_toArray, List.getElem?_cons_zero, List.getElem?_cons_succ]; rfl) (by kernel_rfl) (by kernel_rfl) (by kernel_rfl) (by exact fun _ _ _ h => h) (Or.inl ⟨by rfl, ?_⟩) (by assumption) ?_
          rotate_left
          · (intro w hSw; (try dsimp only at hSw); have q2 := cell_of_below hSw HD2.out; have q3 := cell_of_below hSw HK0.out.1; have q4 := cell_of_below hSw HK0.out.2; clear hSw; go_simp; first | done | with_reducible rfl)
          try simp only [Act.put, List.setIfInBounds_toArray, List.set_cons_zero, List.set_cons_succ]
          refine wpAnyH_take (i := 8) (oi := ?_) (v := ?_) (by simp only [List.getElem?_toArray, List.getElem?_cons_zero, List.getElem?_cons_succ]; rfl) (by kernel_rfl) (by kernel_rfl) (by kernel_rfl) (by exact fun _ _ _ h => h) (Or.inl ⟨by rfl, ?_⟩) (by assumption) ?_
          rotate_left
          · (intro w hSw; (try dsimp only at hSw); have q2 := cell_of_below hSw HD2.out; have q3 := cell_of_below hSw HK0.out.1; have q4 := cell_of_below hSw HK0.out.2; clear hSw; go_simp; first | done | with_reducible rfl)
          try simp only [Act.put, List.setIfInBounds_toArray, List.set_cons_zero, List.set_cons_succ]
          refine wpAnyH_take (i := 9) (oi := ?_) (v := ?_) (by simp only [List.getElem?_toArray, List.getElem?_cons_zero, List.getElem?_cons_succ]; rfl) (by kernel_rfl) (by kernel_rfl) (by kernel_rfl) (by exact fun _ _ _ h => h) (Or.inl ⟨by rfl, ?_⟩) (by assumption) ?_
          rotate_left
          · (intro w hSw; (try dsimp only at hSw); have q2 := cell_of_below hSw HD2.out; have q3 := cell_of_below hSw HK0.out.1; have q4 := cell_of_below hSw HK0.out.2; clear hSw; go_simp; first | done | with_reducible rfl)
          try simp only [Act.put, List.setIfInBounds_toArray, List.set_cons_zero, List.set_cons_succ]
          refine wpAnyH_take (i := 10) (oi := ?_) (v := ?_) (by simp only [List.getElem?_toArray, List.getElem?_cons_zero, List.getElem?_cons_succ]; rfl) (by kernel_rfl) (by kernel_rfl) (by kernel_rfl) (by exact fun _ _ _ h => h) (Or.inl ⟨by rfl, ?_⟩) (by assumption) ?_
          rotate_left
          · (intro w hSw; (try dsimp only at hSw); have q2 := cell_of_below hSw HD2.out; have q3 := cell_of_below hSw HK0.out.1; have q4 := cell_of_below hSw HK0.out.2; clear hSw; go_simp; first | done | with_reducible rfl)
          try simp only [Act.put, List.setIfInBounds_toArray, List.set_cons_zero, List.set_cons_succ]
          refine wpAnyH_take (i := 11) (oi := ?_) (v := ?_) (by simp only [List.getElem?_toArray, List.getElem?_cons_zero, List.getElem?_cons_succ]; rfl) (by kernel_rfl) (by kernel_rfl) (by kernel_rfl) (by exact fun _ _ _ h => h) (Or.inl ⟨by rfl, ?_⟩) (by assumption) ?_
          rotate_left
          · (intro w hSw; (try dsimp only at hSw); have q2 := cell_of_below hSw HD2.out; have q3 := cell_of_below hSw HK0.out.1; have q4 := cell_of_below hSw HK0.out.2; clear hSw; go_simp; first | done | with_reducible rfl)
          try simp only [Act.put, List.setIfInBounds_toArray, List.set_cons_zero, List.set_cons_succ]
          refine wpAnyH_take (i := 12) (oi := ?_) (v := ?_) (by simp only [List.getElem?_toArray, List.getElem?_cons_zero, List.getElem?_cons_succ]; rfl) (by kernel_rfl) (by kernel_rfl) (by kernel_rfl) (by exact fun _ _ _ h => h) (Or.inl ⟨by rfl, ?_⟩) (by assumption) ?_
          rotate_left
          · (intro w hSw; (try dsimp only at hSw); have q2 := cell_of_below hSw HD2.out; have q3 := cell_of_below hSw HK0.out.1; have q4 := cell_of_below hSw HK0.out.2; clear hSw; go_simp; first | done | with_reducible rfl)
          try simp only [Act.put, List.setIfInBounds_toArray, List.set_cons_zero, List.set_cons_succ]
          refine wpAnyH_take (i := 13) (oi := ?_) (v := ?_) (by simp only [List.getElem?_toArray, List.getElem?_cons_zero, List.getElem?_cons_succ]; rfl) (by kernel_rfl) (by kernel_rfl) (by kernel_rfl) (by exact fun _ _ _ h => h) (Or.inl ⟨by rfl, ?_⟩) (by assumption) ?_
          rotate_left
          · (intro w hSw; (try dsimp only at hSw); have q2 := cell_of_below hSw HD2.out; have q3 := cell_of_below hSw HK0.out.1; have q4 := cell_of_below hSw HK0.out.2; clear hSw; go_simp; first | done | with_reducible rfl)
          try simp only [Act.put, List.setIfInBounds_toArray, List.set_cons_zero, List.set_cons_succ]
          refine wpAnyH_ready (rs := [7]) (by kernel_rfl) (by simp) ?_
          refine AllReadyH.cons (o := ?_) (by simp only [List.getElem?_toArray, List.getElem?_cons_zero, List.getElem?_cons_succ]; rfl) (fun K hK => ?_) ?_
          · go_simp
            refine (big_ref _ M x.value _ _ (RdS.drew HV0.out.rd) (by have := HLL.out.2; have := HL2.out.2; omega) HVAL.out rfl).mono ?_
            rintro e w3 ⟨r3, rfl, ho, hb⟩
            have HO3 := As.mk ho
            have hS2 := hHeld.trans (hb.mono hHeld.size)
            clear ho hb
            dsimp only
            refine hK.out _ _ ?_ (fun hHeld2 => ?_)
            · exact hS2
            clear hK K hHeld
            have hHeld := hHeld2
            clear hHeld2
            try simp only [Act.put, List.setIfInBounds_toArray, List.set_cons_zero, List.set_cons_succ]
            refine wpAnyH_ready (rs := [14]) (by kernel_rfl) (by simp) ?_
            refine AllReadyH.cons (o := ?_) (by simp only [List.getElem?_toArray, List.getElem?_cons_zero, List.getElem?_cons_succ]; rfl) (fun K hK => ?_) ?_
            · go_simp
              refine (qcounted_any _ _ (M ++ le x.value 8) x.script _ HO3.out.rd (HS.out.below (HB.out.1.trans (hHeld.mono HB.out.1.size))) (by have := HLL.out.2; have := HL2.out.2; simp only [List.length_append, le_length]; omega) (by have := HOK.out; unfold okOut at this; omega)).mono ?_
              rintro e w4 ⟨r4, rfl, ho, hb⟩
              have HO4 := As.mk (OwS.mono ho hHeld.size)
              have hS2 := hHeld.trans (hb.mono hHeld.size)
              clear ho hb
              dsimp only
              refine hK.out _ _ ?_ (fun hHeld2 => ?_)
              · exact hS2
              clear hK K hHeld
              have hHeld := hHeld2
              clear hHeld2
              try simp only [Act.put, List.setIfInBounds_toArray, List.set_cons_zero, List.set_cons_succ]
              refine wpAnyH_take (i := 15) (oi := ?_) (v := ?_) (by simp only [List.getElem?_toArray, List.getElem?_cons_zero, List.getElem?_cons_succ]; rfl) (by kernel_rfl) (by kernel_rfl) (by kernel_rfl) (by exact fun _ _ _ h => h) (Or.inl ⟨by rfl, ?_⟩) (by assumption) ?_
              rotate_left
              · (intro w hSw; (try dsimp only at hSw); have q2 := cell_of_below hSw HD2.out; have q3 := cell_of_below hSw HK0.out.1; have q4 := cell_of_below hSw HK0.out.2; clear hSw; go_simp; first | done | with_reducible rfl)
              try simp only [Act.put, List.setIfInBounds_toArray, List.set_cons_zero, List.set_cons_succ]
              refine wpAnyH_done (by kernel_rfl) ?_ _
              go_wp2_with fail
              go_roundw
              case rel =>
                refine ⟨k + 1, _, by go_num, by omega, ⟨HB.out.1.trans (hHeld.mono HB.out.1.size), HB.out.2.below hHeld⟩, ⟨OwS.mono HO4.out HB.out.2.lt⟩, ⟨?_, ?_⟩⟩
                · rw [flatMap_step outB HK.out, HLL.out.1]; simp only [outB, List.append_assoc]
                · have h1 := outB_length x HOK.out; have h2 := HLL.out.2; unfold outB at h1; simp only [List.length_append] at h1 ⊢; omega
              case measure => simp [intOf]; omega
            exact AllReadyH.nil
          exact AllReadyH.nil
        · go_wp2
          go_ret
          refine ⟨_, rfl, ?_, HB.out.1⟩
          have h := HV0.out
          have h2 := HLL.out.1
          rw [List.take_of_length_le (by omega)] at h2
          rw [h2, HL2.out.1] at h
          have e : l ++ bodyB t = l ++ cnt t.ins.length ++ t.ins.flatMap inB ++ cnt t.outs.length ++ t.outs.flatMap outB := by simp only [bodyB, List.append_assoc]
          rw [e]
          exact OwS.mono h (by omega)
end Go.Proofs.Ytfggkljgfadacaa.W
