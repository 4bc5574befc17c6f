/- Numbers and counts are written, and any bytes read as such, as the document says: the walk of WirePlays. -/
import Derived.Test.YtfggkljgfadacaaW7
import Derived.Deep.RegionHeld3
set_option linter.unusedVariables false
set_option linter.unusedSimpArgs false
namespace Go.Proofs.Ytfggkljgfadacaa.W
open Go.RowKit Go.Proofs.Ytfggkljgfadacaa.B Go.Proofs

set_option maxRecDepth 100000 in
set_option maxHeartbeats 8000000 in
theorem wirePlays_walk (A0 A1 A2 : Option Addr) (c0 c1 c2 : Nat) (L0 : List UInt8) (Z Y : List Int) (U : Nat) (at_ by_ : Int) (w : World) (h0 : RdB w (.slice A0 L0.length c0) L0) (h1 : RdI w (.slice A1 Z.length c1) Z) (h2 : RdI w (.slice A2 Y.length c2) Y)
    (hz : ∀ z ∈ Z, -9223372036854775808 ≤ z ∧ z ≤ 9223372036854775807) (hy : ∀ z ∈ Y, -9223372036854775808 ≤ z ∧ z ≤ 9223372036854775807) (hu : U < 18446744073709551616) (hby0 : 0 ≤ by_) (hby1 : by_ ≤ 255) :
    Calls Try.prog 7 #[.slice A0 L0.length c0, .slice A1 Z.length c1, .int .u64 (U : Int), .slice A2 Y.length c2, .int .i64 at_, .int .u8 by_] w fun e w' => e = .returned (.bool true) ∧ Below w.heap.size w w' := by
  have HR0 := As.mk h0
  have HR1 := As.mk h1
  have HR2 := As.mk h2
  have HZ := As.mk hz
  have HY := As.mk hy
  have HU := As.mk hu
  have l1 : (Z.length : Int) ≤ 9223372036854775807 := by
    obtain ⟨A, c, he, k1, k2⟩ := h1.form
    unfold maxLen at k2
    omega
  have l2 : (Y.length : Int) ≤ 9223372036854775807 := by
    obtain ⟨A, c, he, k1, k2⟩ := h2.form
    unfold maxLen at k2
    omega
  have l0 : (L0.length : Int) ≤ 9223372036854775807 := by
    obtain ⟨A, c, he, k1, k2, -⟩ := RdB.form h0
    unfold maxLen at k2
    omega
  clear h0 h1 h2 hz hy hu
  by_cases c200 : (200 : Int) < L0.length
  · go_enter Try.func7, Try.ntmps7
    go_wp2_with (go_at_call 24; (with_reducible refine (awake2_any _).mono ?_); rintro e w' ⟨rfl, hb⟩; have HBa := As.mk hb; clear hb)
    go_ret
    exact ⟨rfl, HBa.out⟩
  have c200' : (L0.length : Int) ≤ 200 := by omega
  clear c200
  go_enter Try.func7, Try.ntmps7
  go_upto_block 0 with (fail)
  go_cut [13, 14] (fun v13 v14 wc => ∃ (L : List UInt8) (A B : Option Addr) (c d : Nat), v13 = .slice A L.length c ∧ v14 = .slice B L.length d ∧ As (RdB wc (.slice A L.length c) L ∧ RdB wc (.slice B L.length d) L ∧ Below w.heap.size w wc ∧ L.length ≤ 96))
  case first =>
    go_wp2_with fail
    go_loopw [13, 14, 15] (fun v13 v14 v15 wr => ∃ (k : Nat) (L : List UInt8) (A B : Option Addr) (c d : Nat), (k : Int) ≤ Z.length ∧ (k : Int) ≤ 12 ∧ v15 = .int .i64 (k : Int) ∧ v13 = .slice A L.length c ∧ v14 = .slice B L.length d ∧ As (RdB wr (.slice A L.length c) L ∧ RdB wr (.slice B L.length d) L ∧ Below w.heap.size w wr ∧ L.length ≤ 8 * k)) (fun _ _ v15 _ => 12 - (intOf v15).toNat)
    case atStart => exact ⟨0, [], none, none, 0, 0, by omega, by omega, rfl, rfl, rfl, ⟨RdB.nil w, RdB.nil w, Below.refl _ _, by simp⟩⟩
    case round =>
      obtain ⟨k, L, A, B, c, d, hk1, hk2, rfl, rfl, rfl, HE⟩ := hrel
      by_cases t1 : k < Z.length
      · have t1' : decide (k < Z.length) = true := by simpa using t1
        by_cases t2 : (k : Int) < 12
        · have hkm : bits .and .i64 (k : Int) 3 = (k : Int) % 4 := by rw [i64_mask _ _ 2 (by decide) (by decide)]; rfl
          obtain ⟨J, hJ⟩ : ∃ J, J = (k : Int) % 4 := ⟨_, rfl⟩
          rw [← hJ] at hkm
          have hJ4 : J = 0 ∨ J = 1 ∨ J = 2 ∨ J = 3 := by omega
          obtain ⟨ad, rfl, hcell⟩ := RdI.at HR1.out k t1
          have hzb := HZ.out Z[k] (List.getElem_mem t1)
          obtain ⟨z, hz⟩ : ∃ z, z = Z[k] := ⟨_, rfl⟩
          rw [← hz] at hcell hzb
          have HCELL := As.mk hcell
          obtain ⟨N, hN⟩ : ∃ N, N = z % 4294967296 := ⟨_, rfl⟩
          have n0 : 0 ≤ N := by omega
          have n1 : N ≤ 4294967295 := by omega
          have eN : IntKind.u32.wrap z = N := by rw [IntKind.wrap_u32, hN]
          have H13 := As.mk HE.out.1
          have H14 := As.mk HE.out.2.1
          have HB := As.mk HE.out.2.2.1
          have HLL := As.mk HE.out.2.2.2
          obtain ⟨zb0, zb1⟩ := hzb
          clear hJ hz hN hcell HE
          rcases hJ4 with rfl | rfl | hJ23
          · go_upto_region 10 with (fail)
            refine wp_region_held_drew (S := (fun W : World => Below w.heap.size w W)) (by kernel_rfl) ?_ (fun hHeld => ?_)
            · exact HB.out.drew
            refine wpAnyH_take (i := 0) (oi := ?_) (v := ?_) (by simp only [List.getElem?_toArray, List.getElem?_cons_zero, List.getElem?_cons_succ]; rfl) (by kernel_rfl) (by kernel_rfl) (by kernel_rfl) (by exact fun _ _ _ h => h) (Or.inl ⟨by rfl, ?_⟩) (by assumption) ?_
            rotate_left
            · (intro w hSw; (try dsimp only at hSw); have sq := cell_of_below hSw HCELL.out; clear hSw; go_simp; first | done | with_reducible rfl)
            try simp only [Act.put, List.setIfInBounds_toArray, List.set_cons_zero, List.set_cons_succ]
            refine wpAnyH_take (i := 1) (oi := ?_) (v := ?_) (by simp only [List.getElem?_toArray, List.getElem?_cons_zero, List.getElem?_cons_succ]; rfl) (by kernel_rfl) (by kernel_rfl) (by kernel_rfl) (by exact fun _ _ _ h => h) (Or.inl ⟨by rfl, ?_⟩) (by assumption) ?_
            rotate_left
            · (intro w hSw; (try dsimp only at hSw); have sq := cell_of_below hSw HCELL.out; clear hSw; go_simp; first | done | with_reducible rfl)
            try simp only [Act.put, List.setIfInBounds_toArray, List.set_cons_zero, List.set_cons_succ]
            refine wpAnyH_take (i := 2) (oi := ?_) (v := ?_) (by simp only [List.getElem?_toArray, List.getElem?_cons_zero, List.getElem?_cons_succ]; rfl) (by kernel_rfl) (by kernel_rfl) (by kernel_rfl) (by exact fun _ _ _ h => h) (Or.inl ⟨by rfl, ?_⟩) (by assumption) ?_
            rotate_left
            · (intro w hSw; (try dsimp only at hSw); have sq := cell_of_below hSw HCELL.out; clear hSw; go_simp; first | done | with_reducible rfl)
            try simp only [Act.put, List.setIfInBounds_toArray, List.set_cons_zero, List.set_cons_succ]
            refine wpAnyH_take (i := 3) (oi := ?_) (v := ?_) (by simp only [List.getElem?_toArray, List.getElem?_cons_zero, List.getElem?_cons_succ]; rfl) (by kernel_rfl) (by kernel_rfl) (by kernel_rfl) (by exact fun _ _ _ h => h) (Or.inl ⟨by rfl, ?_⟩) (by assumption) ?_
            rotate_left
            · (intro w hSw; (try dsimp only at hSw); have sq := cell_of_below hSw HCELL.out; clear hSw; go_simp; first | done | with_reducible rfl)
            try simp only [Act.put, List.setIfInBounds_toArray, List.set_cons_zero, List.set_cons_succ]
            refine wpAnyH_take (i := 4) (oi := ?_) (v := ?_) (by simp only [List.getElem?_toArray, List.getElem?_cons_zero, List.getElem?_cons_succ]; rfl) (by kernel_rfl) (by kernel_rfl) (by kernel_rfl) (by exact fun _ _ _ h => h) (Or.inl ⟨by rfl, ?_⟩) (by assumption) ?_
            rotate_left
            · (intro w hSw; (try dsimp only at hSw); have sq := cell_of_below hSw HCELL.out; clear hSw; go_simp; first | done | with_reducible rfl)
            try simp only [Act.put, List.setIfInBounds_toArray, List.set_cons_zero, List.set_cons_succ]
            refine wpAnyH_take (i := 5) (oi := ?_) (v := ?_) (by simp only [List.getElem?_toArray, List.getElem?_cons_zero, List.getElem?_cons_succ]; rfl) (by kernel_rfl) (by kernel_rfl) (by kernel_rfl) (by exact fun _ _ _ h => h) (Or.inl ⟨by rfl, ?_⟩) (by assumption) ?_
            rotate_left
            · (intro w hSw; (try dsimp only at hSw); have sq := cell_of_below hSw HCELL.out; clear hSw; go_simp; first | done | with_reducible rfl)
            try simp only [Act.put, List.setIfInBounds_toArray, List.set_cons_zero, List.set_cons_succ]
            refine wpAnyH_take (i := 7) (oi := ?_) (v := ?_) (by simp only [List.getElem?_toArray, List.getElem?_cons_zero, List.getElem?_cons_succ]; rfl) (by kernel_rfl) (by kernel_rfl) (by kernel_rfl) (by exact fun _ _ _ h => h) (Or.inl ⟨by rfl, ?_⟩) (by assumption) ?_
            rotate_left
            · (intro w hSw; (try dsimp only at hSw); have sq := cell_of_below hSw HCELL.out; clear hSw; go_simp; first | done | with_reducible rfl)
            try simp only [Act.put, List.setIfInBounds_toArray, List.set_cons_zero, List.set_cons_succ]
            refine wpAnyH_take (i := 8) (oi := ?_) (v := ?_) (by simp only [List.getElem?_toArray, List.getElem?_cons_zero, List.getElem?_cons_succ]; rfl) (by kernel_rfl) (by kernel_rfl) (by kernel_rfl) (by exact fun _ _ _ h => h) (Or.inl ⟨by rfl, ?_⟩) (by assumption) ?_
            rotate_left
            · (intro w hSw; (try dsimp only at hSw); have sq := cell_of_below hSw HCELL.out; clear hSw; go_simp; first | done | with_reducible rfl)
            try simp only [Act.put, List.setIfInBounds_toArray, List.set_cons_zero, List.set_cons_succ]
            refine wpAnyH_take (i := 9) (oi := ?_) (v := ?_) (by simp only [List.getElem?_toArray, List.getElem?_cons_zero, List.getElem?_cons_succ]; rfl) (by kernel_rfl) (by kernel_rfl) (by kernel_rfl) (by exact fun _ _ _ h => h) (Or.inl ⟨by rfl, ?_⟩) (by assumption) ?_
            rotate_left
            · (intro w hSw; (try dsimp only at hSw); have sq := cell_of_below hSw HCELL.out; clear hSw; go_simp; first | done | with_reducible rfl)
            try simp only [Act.put, List.setIfInBounds_toArray, List.set_cons_zero, List.set_cons_succ]
            refine wpAnyH_take (i := 10) (oi := ?_) (v := ?_) (by simp only [List.getElem?_toArray, List.getElem?_cons_zero, List.getElem?_cons_succ]; rfl) (by kernel_rfl) (by kernel_rfl) (by kernel_rfl) (by exact fun _ _ _ h => h) (Or.inl ⟨by rfl, ?_⟩) (by assumption) ?_
            rotate_left
            · (intro w hSw; (try dsimp only at hSw); have sq := cell_of_below hSw HCELL.out; clear hSw; go_simp; first | done | with_reducible rfl)
            try simp only [Act.put, List.setIfInBounds_toArray, List.set_cons_zero, List.set_cons_succ]
            refine wpAnyH_take (i := 11) (oi := ?_) (v := ?_) (by simp only [List.getElem?_toArray, List.getElem?_cons_zero, List.getElem?_cons_succ]; rfl) (by kernel_rfl) (by kernel_rfl) (by kernel_rfl) (by exact fun _ _ _ h => h) (Or.inl ⟨by rfl, ?_⟩) (by assumption) ?_
            rotate_left
            · (intro w hSw; (try dsimp only at hSw); have sq := cell_of_below hSw HCELL.out; clear hSw; go_simp; first | done | with_reducible rfl)
            try simp only [Act.put, List.setIfInBounds_toArray, List.set_cons_zero, List.set_cons_succ]
            refine wpAnyH_take (i := 12) (oi := ?_) (v := ?_) (by simp only [List.getElem?_toArray, List.getElem?_cons_zero, List.getElem?_cons_succ]; rfl) (by kernel_rfl) (by kernel_rfl) (by kernel_rfl) (by exact fun _ _ _ h => h) (Or.inl ⟨by rfl, ?_⟩) (by assumption) ?_
            rotate_left
            · (intro w hSw; (try dsimp only at hSw); have sq := cell_of_below hSw HCELL.out; clear hSw; go_simp; first | done | with_reducible rfl)
            try simp only [Act.put, List.setIfInBounds_toArray, List.set_cons_zero, List.set_cons_succ]
            refine wpAnyH_ready (rs := [6]) (by kernel_rfl) (by simp) ?_
            refine AllReadyH.cons (o := ?_) (by simp only [List.getElem?_toArray, List.getElem?_cons_zero, List.getElem?_cons_succ]; rfl) (fun K hK => ?_) ?_
            · go_simp
              refine (small_any _ L N.toNat N _ H13.out.drew (by have := HLL.out; omega) (by omega) (by omega)).mono ?_
              rintro e w5 ⟨r1, rfl, ho, hb⟩
              obtain ⟨A3, c3, rfl, -⟩ := RdB.form ho.rd
              have HV13 := As.mk ho.rd
              have HV14 := As.mk (H14.out.drew.below hb)
              have hS2 := hHeld.trans (hb.mono hHeld.size)
              clear ho hb
              dsimp only
              refine hK.out _ _ ?_ (fun hHeld2 => ?_)
              · exact hS2
              clear hK K hHeld
              have hHeld := hHeld2
              clear hHeld2
              try simp only [Act.put, List.setIfInBounds_toArray, List.set_cons_zero, List.set_cons_succ]
              refine wpAnyH_ready (rs := [13]) (by kernel_rfl) (by simp) ?_
              refine AllReadyH.cons (o := ?_) (by simp only [List.getElem?_toArray, List.getElem?_cons_zero, List.getElem?_cons_succ]; rfl) (fun K hK => ?_) ?_
              · go_simp
                refine (small_ref _ L N.toNat N _ HV14.out (by have := HLL.out; omega) (by omega) (by omega)).mono ?_
                rintro e w6 ⟨r2, rfl, ho, hb⟩
                obtain ⟨A4, c4, rfl, -⟩ := RdB.form ho.rd
                have HX13 := As.mk (HV13.out.below hb)
                have HX14 := As.mk ho.rd
                have hS2 := hHeld.trans (hb.mono hHeld.size)
                clear ho hb
                dsimp only
                refine hK.out _ _ ?_ (fun hHeld2 => ?_)
                · exact hS2
                clear hK K hHeld
                have hHeld := hHeld2
                clear hHeld2
                try simp only [Act.put, List.setIfInBounds_toArray, List.set_cons_zero, List.set_cons_succ]
                refine wpAnyH_take (i := 14) (oi := ?_) (v := ?_) (by simp only [List.getElem?_toArray, List.getElem?_cons_zero, List.getElem?_cons_succ]; rfl) (by kernel_rfl) (by kernel_rfl) (by kernel_rfl) (by exact fun _ _ _ h => h) (Or.inl ⟨by rfl, ?_⟩) (by assumption) ?_
                rotate_left
                · (intro w hSw; (try dsimp only at hSw); have sq := cell_of_below hSw HCELL.out; clear hSw; go_simp; first | done | with_reducible rfl)
                try simp only [Act.put, List.setIfInBounds_toArray, List.set_cons_zero, List.set_cons_succ]
                refine wpAnyH_take (i := 15) (oi := ?_) (v := ?_) (by simp only [List.getElem?_toArray, List.getElem?_cons_zero, List.getElem?_cons_succ]; rfl) (by kernel_rfl) (by kernel_rfl) (by kernel_rfl) (by exact fun _ _ _ h => h) (Or.inl ⟨by rfl, ?_⟩) (by assumption) ?_
                rotate_left
                · (intro w hSw; (try dsimp only at hSw); have sq := cell_of_below hSw HCELL.out; clear hSw; go_simp; first | done | with_reducible rfl)
                try simp only [Act.put, List.setIfInBounds_toArray, List.set_cons_zero, List.set_cons_succ]
                refine wpAnyH_done (by kernel_rfl) ?_ _
                go_wp2_with fail
                go_roundw
                case rel => exact ⟨k + 1, L ++ le N.toNat 4, A3, A4, c3, c4, by omega, by omega, by go_num, (by first | rfl | rw [List.length_append]), (by first | rfl | rw [List.length_append]), ⟨HX13.out, HX14.out, hHeld, by have := HLL.out; rw [List.length_append, le_length]; omega⟩⟩
                case measure => simp [intOf]; omega
              exact AllReadyH.nil
            exact AllReadyH.nil
          · go_wp2_with (first | (go_at_call 16; (with_reducible refine (big_any _ L U _ _ H13.out (by have := HLL.out; omega) HU.out rfl).mono ?_); rintro e w5 ⟨r1, rfl, ho, hb⟩; obtain ⟨A3, c3, rfl, -⟩ := RdB.form ho.rd; have HV13 := As.mk ho.rd; have HV14 := As.mk (H14.out.below hb); have HVB := As.mk (HB.out.trans (hb.mono HB.out.size)); clear ho hb HB) | (go_at_call 27; (with_reducible refine (big_ref _ L U _ _ HV14.out (by have := HLL.out; omega) HU.out rfl).mono ?_); rintro e w6 ⟨r2, rfl, ho, hb⟩; obtain ⟨A4, c4, rfl, -⟩ := RdB.form ho.rd; have HX13 := As.mk (HV13.out.below hb); have HX14 := As.mk ho.rd; have HXB := As.mk (HVB.out.trans (hb.mono HVB.out.size)); clear ho hb))
            go_roundw
            case rel => exact ⟨k + 1, L ++ le U 8, A3, A4, c3, c4, by omega, by omega, by go_num, (by first | rfl | rw [List.length_append]), (by first | rfl | rw [List.length_append]), ⟨HX13.out, HX14.out, HXB.out, by have := HLL.out; rw [List.length_append, le_length]; omega⟩⟩
            case measure => simp [intOf]; omega
          · have j0 : (J == 0) = false := beq_eq_false_iff_ne.mpr (by omega)
            have j1 : (J == 1) = false := beq_eq_false_iff_ne.mpr (by omega)
            go_upto_region 8 with (fail)
            refine wp_region_held_drew (S := (fun W : World => Below w.heap.size w W)) (by kernel_rfl) ?_ (fun hHeld => ?_)
            · exact HB.out.drew
            refine wpAnyH_take (i := 0) (oi := ?_) (v := ?_) (by simp only [List.getElem?_toArray, List.getElem?_cons_zero, List.getElem?_cons_succ]; rfl) (by kernel_rfl) (by kernel_rfl) (by kernel_rfl) (by exact fun _ _ _ h => h) (Or.inl ⟨by rfl, ?_⟩) (by assumption) ?_
            rotate_left
            · (intro w hSw; (try dsimp only at hSw); have sq := cell_of_below hSw HCELL.out; clear hSw; go_simp; first | done | with_reducible rfl)
            try simp only [Act.put, List.setIfInBounds_toArray, List.set_cons_zero, List.set_cons_succ]
            refine wpAnyH_take (i := 1) (oi := ?_) (v := ?_) (by simp only [List.getElem?_toArray, List.getElem?_cons_zero, List.getElem?_cons_succ]; rfl) (by kernel_rfl) (by kernel_rfl) (by kernel_rfl) (by exact fun _ _ _ h => h) (Or.inl ⟨by rfl, ?_⟩) (by assumption) ?_
            rotate_left
            · (intro w hSw; (try dsimp only at hSw); have sq := cell_of_below hSw HCELL.out; clear hSw; go_simp; first | done | with_reducible rfl)
            try simp only [Act.put, List.setIfInBounds_toArray, List.set_cons_zero, List.set_cons_succ]
            refine wpAnyH_take (i := 2) (oi := ?_) (v := ?_) (by simp only [List.getElem?_toArray, List.getElem?_cons_zero, List.getElem?_cons_succ]; rfl) (by kernel_rfl) (by kernel_rfl) (by kernel_rfl) (by exact fun _ _ _ h => h) (Or.inl ⟨by rfl, ?_⟩) (by assumption) ?_
            rotate_left
            · (intro w hSw; (try dsimp only at hSw); have sq := cell_of_below hSw HCELL.out; clear hSw; go_simp; first | done | with_reducible rfl)
            try simp only [Act.put, List.setIfInBounds_toArray, List.set_cons_zero, List.set_cons_succ]
            refine wpAnyH_take (i := 3) (oi := ?_) (v := ?_) (by simp only [List.getElem?_toArray, List.getElem?_cons_zero, List.getElem?_cons_succ]; rfl) (by kernel_rfl) (by kernel_rfl) (by kernel_rfl) (by exact fun _ _ _ h => h) (Or.inl ⟨by rfl, ?_⟩) (by assumption) ?_
            rotate_left
            · (intro w hSw; (try dsimp only at hSw); have sq := cell_of_below hSw HCELL.out; clear hSw; go_simp; first | done | with_reducible rfl)
            try simp only [Act.put, List.setIfInBounds_toArray, List.set_cons_zero, List.set_cons_succ]
            refine wpAnyH_take (i := 4) (oi := ?_) (v := ?_) (by simp only [List.getElem?_toArray, List.getElem?_cons_zero, List.getElem?_cons_succ]; rfl) (by kernel_rfl) (by kernel_rfl) (by kernel_rfl) (by exact fun _ _ _ h => h) (Or.inl ⟨by rfl, ?_⟩) (by assumption) ?_
            rotate_left
            · (intro w hSw; (try dsimp only at hSw); have sq := cell_of_below hSw HCELL.out; clear hSw; go_simp; first | done | with_reducible rfl)
            try simp only [Act.put, List.setIfInBounds_toArray, List.set_cons_zero, List.set_cons_succ]
            refine wpAnyH_take (i := 6) (oi := ?_) (v := ?_) (by simp only [List.getElem?_toArray, List.getElem?_cons_zero, List.getElem?_cons_succ]; rfl) (by kernel_rfl) (by kernel_rfl) (by kernel_rfl) (by exact fun _ _ _ h => h) (Or.inl ⟨by rfl, ?_⟩) (by assumption) ?_
            rotate_left
            · (intro w hSw; (try dsimp only at hSw); have sq := cell_of_below hSw HCELL.out; clear hSw; go_simp; first | done | with_reducible rfl)
            try simp only [Act.put, List.setIfInBounds_toArray, List.set_cons_zero, List.set_cons_succ]
            refine wpAnyH_take (i := 7) (oi := ?_) (v := ?_) (by simp only [List.getElem?_toArray, List.getElem?_cons_zero, List.getElem?_cons_succ]; rfl) (by kernel_rfl) (by kernel_rfl) (by kernel_rfl) (by exact fun _ _ _ h => h) (Or.inl ⟨by rfl, ?_⟩) (by assumption) ?_
            rotate_left
            · (intro w hSw; (try dsimp only at hSw); have sq := cell_of_below hSw HCELL.out; clear hSw; go_simp; first | done | with_reducible rfl)
            try simp only [Act.put, List.setIfInBounds_toArray, List.set_cons_zero, List.set_cons_succ]
            refine wpAnyH_take (i := 8) (oi := ?_) (v := ?_) (by simp only [List.getElem?_toArray, List.getElem?_cons_zero, List.getElem?_cons_succ]; rfl) (by kernel_rfl) (by kernel_rfl) (by kernel_rfl) (by exact fun _ _ _ h => h) (Or.inl ⟨by rfl, ?_⟩) (by assumption) ?_
            rotate_left
            · (intro w hSw; (try dsimp only at hSw); have sq := cell_of_below hSw HCELL.out; clear hSw; go_simp; first | done | with_reducible rfl)
            try simp only [Act.put, List.setIfInBounds_toArray, List.set_cons_zero, List.set_cons_succ]
            refine wpAnyH_take (i := 9) (oi := ?_) (v := ?_) (by simp only [List.getElem?_toArray, List.getElem?_cons_zero, List.getElem?_cons_succ]; rfl) (by kernel_rfl) (by kernel_rfl) (by kernel_rfl) (by exact fun _ _ _ h => h) (Or.inl ⟨by rfl, ?_⟩) (by assumption) ?_
            rotate_left
            · (intro w hSw; (try dsimp only at hSw); have sq := cell_of_below hSw HCELL.out; clear hSw; go_simp; first | done | with_reducible rfl)
            try simp only [Act.put, List.setIfInBounds_toArray, List.set_cons_zero, List.set_cons_succ]
            refine wpAnyH_take (i := 10) (oi := ?_) (v := ?_) (by simp only [List.getElem?_toArray, List.getElem?_cons_zero, List.getElem?_cons_succ]; rfl) (by kernel_rfl) (by kernel_rfl) (by kernel_rfl) (by exact fun _ _ _ h => h) (Or.inl ⟨by rfl, ?_⟩) (by assumption) ?_
            rotate_left
            · (intro w hSw; (try dsimp only at hSw); have sq := cell_of_below hSw HCELL.out; clear hSw; go_simp; first | done | with_reducible rfl)
            try simp only [Act.put, List.setIfInBounds_toArray, List.set_cons_zero, List.set_cons_succ]
            refine wpAnyH_ready (rs := [5]) (by kernel_rfl) (by simp) ?_
            refine AllReadyH.cons (o := ?_) (by simp only [List.getElem?_toArray, List.getElem?_cons_zero, List.getElem?_cons_succ]; rfl) (fun K hK => ?_) ?_
            · go_simp
              refine (count_any _ L z _ H13.out.drew (by have := HLL.out; omega)).mono ?_
              rintro e w5 ⟨r1, rfl, ho, hb⟩
              obtain ⟨A3, c3, rfl, -⟩ := RdB.form ho.rd
              have HV13 := As.mk ho.rd
              have HV14 := As.mk (H14.out.drew.below hb)
              have hS2 := hHeld.trans (hb.mono hHeld.size)
              clear ho hb
              dsimp only
              refine hK.out _ _ ?_ (fun hHeld2 => ?_)
              · exact hS2
              clear hK K hHeld
              have hHeld := hHeld2
              clear hHeld2
              try simp only [Act.put, List.setIfInBounds_toArray, List.set_cons_zero, List.set_cons_succ]
              refine wpAnyH_ready (rs := [11]) (by kernel_rfl) (by simp) ?_
              refine AllReadyH.cons (o := ?_) (by simp only [List.getElem?_toArray, List.getElem?_cons_zero, List.getElem?_cons_succ]; rfl) (fun K hK => ?_) ?_
              · go_simp
                refine (count_ref _ L z _ HV14.out (by have := HLL.out; omega)).mono ?_
                rintro e w6 ⟨r2, rfl, ho, hb⟩
                obtain ⟨A4, c4, rfl, -⟩ := RdB.form ho.rd
                have HX13 := As.mk (HV13.out.below hb)
                have HX14 := As.mk ho.rd
                have hS2 := hHeld.trans (hb.mono hHeld.size)
                clear ho hb
                dsimp only
                refine hK.out _ _ ?_ (fun hHeld2 => ?_)
                · exact hS2
                clear hK K hHeld
                have hHeld := hHeld2
                clear hHeld2
                try simp only [Act.put, List.setIfInBounds_toArray, List.set_cons_zero, List.set_cons_succ]
                refine wpAnyH_take (i := 12) (oi := ?_) (v := ?_) (by simp only [List.getElem?_toArray, List.getElem?_cons_zero, List.getElem?_cons_succ]; rfl) (by kernel_rfl) (by kernel_rfl) (by kernel_rfl) (by exact fun _ _ _ h => h) (Or.inl ⟨by rfl, ?_⟩) (by assumption) ?_
                rotate_left
                · (intro w hSw; (try dsimp only at hSw); have sq := cell_of_below hSw HCELL.out; clear hSw; go_simp; first | done | with_reducible rfl)
                try simp only [Act.put, List.setIfInBounds_toArray, List.set_cons_zero, List.set_cons_succ]
                refine wpAnyH_take (i := 13) (oi := ?_) (v := ?_) (by simp only [List.getElem?_toArray, List.getElem?_cons_zero, List.getElem?_cons_succ]; rfl) (by kernel_rfl) (by kernel_rfl) (by kernel_rfl) (by exact fun _ _ _ h => h) (Or.inl ⟨by rfl, ?_⟩) (by assumption) ?_
                rotate_left
                · (intro w hSw; (try dsimp only at hSw); have sq := cell_of_below hSw HCELL.out; clear hSw; go_simp; first | done | with_reducible rfl)
                try simp only [Act.put, List.setIfInBounds_toArray, List.set_cons_zero, List.set_cons_succ]
                refine wpAnyH_done (by kernel_rfl) ?_ _
                go_wp2_with fail
                go_roundw
                case rel => exact ⟨k + 1, L ++ cnt (clampU z), A3, A4, c3, c4, by omega, by omega, by go_num, (by first | rfl | rw [List.length_append]), (by first | rfl | rw [List.length_append]), ⟨HX13.out, HX14.out, hHeld, by have := HLL.out; have := cnt_length (clampU z); rw [List.length_append]; omega⟩⟩
                case measure => simp [intOf]; omega
              exact AllReadyH.nil
            exact AllReadyH.nil
        · have t2' : ¬ (k : Int) < 12 := t2
          have hd : k ≤ 12 := by omega
          go_wp2_with fail
          go_meet
          exact ⟨L, A, B, c, d, rfl, rfl, ⟨HE.out.1, HE.out.2.1, HE.out.2.2.1, by have := HE.out.2.2.2; omega⟩⟩
      · have t1' : decide (k < Z.length) = false := by simpa using t1
        have hd : k ≤ 12 := by omega
        go_wp2_with fail
        go_meet
        exact ⟨L, A, B, c, d, rfl, rfl, ⟨HE.out.1, HE.out.2.1, HE.out.2.2.1, by have := HE.out.2.2.2; omega⟩⟩
  case rest =>
    obtain ⟨L, A, B, c, d, rfl, rfl, HE⟩ := hcut
    have H13 := As.mk HE.out.1
    have H14 := As.mk HE.out.2.1
    have HB := As.mk HE.out.2.2.1
    have HLL := As.mk HE.out.2.2.2
    clear HE HR1 HZ HU l1
    have l13 : (L.length : Int) ≤ 96 := by have := HLL.out; omega
    go_upto_region 15 with (first | (with_reducible refine wpList_str (o := ⟨some 76, _, _, _, _, _⟩) ?hgd (.tmp 75) 24 9 5 rfl Try.underlying24 Try.underlying5 Try.underlying9 (.slice A L.length c) rfl (L) (H13.out) ?_; (case hgd => first | exact .inl rfl | exact .inr rfl)) | (with_reducible refine wpList_str (o := ⟨some 78, _, _, _, _, _⟩) ?hgd (.tmp 77) 24 9 5 rfl Try.underlying24 Try.underlying5 Try.underlying9 (.slice B L.length d) rfl (L) (H14.out) ?_; (case hgd => first | exact .inl rfl | exact .inr rfl)))
    obtain ⟨W0, hW0⟩ : ∃ W, W = wc := ⟨_, rfl⟩
    rw [← hW0] at H13 H14 HB
    rw [← hW0]
    have HBW := As.mk (And.intro HB.out.size HB.out)
    clear H14 hW0
    have m16 : bits .and .i64 at_ 65535 = at_ % 65536 := by rw [i64_mask _ _ 16 (by decide) (by decide)]; rfl
    go_upto_if 85 with (((at_builtin; refine wpList_app (W0.heap.size) rfl (.tmp 80) (.tmp 81) 24 5 (.int .u8 0) 1 1 rfl Try.underlying24 info5 rfl (by decide) (.slice (some ⟨W0.heap.size, 0, none⟩) 0 0) (.slice A L.length c) rfl rfl (([] : List UInt8)).length ((([] : List UInt8)).map u8v) ?own (L.length) ((L).map u8v) ?rd (u8v_one _) ?b1 ?b2 ?b3 ?_; (case own => exact (OwB.empty W0 _ _ (Nat.le_refl _))); (case rd => exact (H13.out.alloc _)); (case b1 => have := HLL.out; (try simp only [List.length_nil]); unfold maxLen; omega); (case b2 => have := HLL.out; (try simp only [List.length_nil]); omega); (case b3 => have := HB.out.size; first | omega | (simp; done) | (simp; omega)); intro v1 v1w ho hg ht; have HO := As.mk (show OwB v1w (W0.heap.size) 5 v1 ((([] : List UInt8)) ++ (L)) by (have hm : (L).length = L.length := by first | rfl | exact HC.out | simp [le_length]); unfold OwB; rw [List.length_append, List.map_append, hm]; exact ho); have HB2 : As (Below w.heap.size w v1w) := As.mk (Below.grown (by repeat' first | exact HB.out | refine Below.alloc ?_ (by have := HB.out.size; first | omega | (simp; done) | (simp; omega)) _) hg (by have := HB.out.size; first | omega | (simp; done) | (simp; omega)) (by intro k hk; simp [Value.ownBlock] at hk; have := HB.out.size; omega)); have HGv1 := As.mk hg; clear ho hg ht; clear HB; have HB := HB2; clear HB2); have HO1 : As (OwB v1w W0.heap.size 5 v1 L) := ⟨by simpa using HO.out⟩; obtain ⟨A5, c5, rfl, -⟩ := RdB.form HO1.out.rd; have HB0 : As (Below W0.heap.size W0 v1w) := ⟨((Below.refl _ _).alloc (Nat.le_refl _) _).grown HGv1.out (by simp) (by intro k hk; simp [Value.ownBlock] at hk; omega)⟩; clear HO HGv1))
    have HS0 : As (w.heap.size ≤ W0.heap.size ∧ Below w.heap.size w W0) := HBW
    go_cut [] (fun wc => ∃ L2 : List UInt8, L2.length = L.length ∧ As (RdB wc (.slice A5 L.length c5) L2 ∧ Below W0.heap.size W0 wc))
    case first =>
      by_cases e : L.length = 0
      · have e' : decide ((0 : Int) < (L.length : Int)) = false := by simp [e]
        have e2 : ¬ (L.length : Int) > 0 := by omega
        clear e e'
        go_wp2_with fail
        go_meet
        exact ⟨L, rfl, ⟨HO1.out.rd, HB0.out⟩⟩
      · have e2 : (L.length : Int) > 0 := by omega
        have e3 : (0 : Int) < (L.length : Int) := e2
        obtain ⟨q, hq, hql⟩ : ∃ q : Nat, at_ % 65536 % (L.length : Int) = (q : Int) ∧ q < L.length := by
          have h1 := Int.emod_nonneg (at_ % 65536) (show (L.length : Int) ≠ 0 by omega)
          have h2 := Int.emod_lt_of_pos (at_ % 65536) e3
          exact ⟨(at_ % 65536 % (L.length : Int)).toNat, by omega, by omega⟩
        have hql' : (q : Int) < (L.length : Int) := by omega
        obtain ⟨g, off, rfl, hgb, hc1, hc2, hc3⟩ := HO1.out.cellAt q hql
        have hc4 : v1w.cell? ⟨g, off + q, none⟩ = some (u8v L[q]) := by rw [hc1]; simp [hql]
        have HGB := As.mk hgb
        have HQL := As.mk hql
        obtain ⟨x8, hx8⟩ : ∃ x, x = L[q] := ⟨_, rfl⟩
        rw [← hx8] at hc4
        clear hx8 hc1 hc2 hql hgb e
        go_wp2_with fail
        go_meet
        obtain ⟨by8, hby⟩ : ∃ b : UInt8, Value.int .u8 by_ = u8v b := ⟨UInt8.ofNat by_.toNat, by unfold u8v; rw [u8_ofNat]; congr 1; omega⟩
        refine ⟨L.set q by8, by rw [List.length_set], ⟨?_, HB0.out.setCell HGB.out _⟩⟩
        have h := (HO1.out.set q HQL.out (Value.int .u8 by_)).rd
        rw [hby] at h ⊢
        unfold RdB
        rw [List.length_set, List.map_set]
        exact h
    case rest =>
      obtain ⟨L2, hl2, HC⟩ := hcut
      have HC2 := As.mk HC.out.1
      have HB1 : As (Below w.heap.size w wc) := ⟨HBW.out.2.trans (HC.out.2.mono HBW.out.1)⟩
      have HX13 := As.mk (H13.out.below HC.out.2)
      have HX0 := As.mk (HR0.out.below HB1.out)
      obtain ⟨W1, hW1⟩ : ∃ W, W = wc := ⟨_, rfl⟩
      rw [← hW1] at HC2 HB1 HX13 HX0
      rw [← hW1]
      clear hW1 HC H13 HBW HB HO1 HB0 HS0 m16 hby0 hby1
      obtain ⟨h, hh⟩ : ∃ h : Nat, h = L.length / 2 := ⟨_, rfl⟩
      have hh1 : ((L.length : Int)).tdiv 2 = (h : Int) := by rw [Int.tdiv_eq_ediv_of_nonneg (by omega)]; omega
      have hh2 : ((L.length : Int)) / 2 = (h : Int) := by omega
      have hh3 : IntKind.i64.wrap (h : Int) = (h : Int) := IntWalk.i64_in _ (by omega)
      have hhl : h ≤ L.length := by omega
      have hcl : L.length ≤ c := by obtain ⟨A', c', he, k1, -⟩ := RdB.form HX13.out; injection he with e1 e2 e3; omega
      have hT := fun W => run_cut_to (P := Try.prog) 24 5 1 Try.underlying24 size5 A L.length c h (by omega) W
      have HXH := As.mk (RdB.to HX13.out h hhl)
      have HHL := As.mk hhl
      clear hh hcl hhl
      go_upto_region 18 with (fail)
      go_cut [107, 108, 109] (fun v107 v108 v109 wc => ∃ (G : Nat) (vs : List Value), v107 = .slice (some ⟨G, 0, none⟩) 5 5 ∧ v108 = .int .i64 5 ∧ v109 = .int .i64 0 ∧ As (vs.length = 5 ∧ Five wc G vs 24 ∧ Below w.heap.size w wc))
      case first =>
        have HB2 : As (Below w.heap.size w W1.drew) := ⟨HB1.out.drew⟩
        refine wp_region_held_drew (S := (fun W : World => Below W1.heap.size W1 W)) (by kernel_rfl) ?_ (fun hHeld => ?_)
        · exact (Below.refl _ _).drew
        refine wpAnyH_take (i := 0) (oi := ?_) (v := ?_) (by simp only [List.getElem?_toArray, List.getElem?_cons_zero, List.getElem?_cons_succ]; rfl) (by kernel_rfl) (by kernel_rfl) (by kernel_rfl) (by exact fun _ _ _ h => h) (Or.inl ⟨by rfl, ?_⟩) (by assumption) ?_
        rotate_left
        · (intro w hSw; (try dsimp only at hSw); go_simp; first | done | with_reducible rfl)
        try simp only [Act.put, List.setIfInBounds_toArray, List.set_cons_zero, List.set_cons_succ]
        refine wpAnyH_take (i := 1) (oi := ?_) (v := ?_) (by simp only [List.getElem?_toArray, List.getElem?_cons_zero, List.getElem?_cons_succ]; rfl) (by kernel_rfl) (by kernel_rfl) (by kernel_rfl) (by exact fun _ _ _ h => h) (Or.inl ⟨by rfl, ?_⟩) (by assumption) ?_
        rotate_left
        · (intro w hSw; (try dsimp only at hSw); go_simp; first | done | with_reducible rfl)
        try simp only [Act.put, List.setIfInBounds_toArray, List.set_cons_zero, List.set_cons_succ]
        refine wpAnyH_take (i := 2) (oi := ?_) (v := ?_) (by simp only [List.getElem?_toArray, List.getElem?_cons_zero, List.getElem?_cons_succ]; rfl) (by kernel_rfl) (by kernel_rfl) (by kernel_rfl) (by exact fun _ _ _ h => h) (Or.inl ⟨by rfl, ?_⟩) (by assumption) ?_
        rotate_left
        · (intro w hSw; (try dsimp only at hSw); go_simp; first | done | with_reducible rfl)
        try simp only [Act.put, List.setIfInBounds_toArray, List.set_cons_zero, List.set_cons_succ]
        refine wpAnyH_take (i := 3) (oi := ?_) (v := ?_) (by simp only [List.getElem?_toArray, List.getElem?_cons_zero, List.getElem?_cons_succ]; rfl) (by kernel_rfl) (by kernel_rfl) (by kernel_rfl) (by exact fun _ _ _ h => h) (Or.inl ⟨by rfl, ?_⟩) (by assumption) ?_
        rotate_left
        · (intro w hSw; (try dsimp only at hSw); go_simp; first | done | with_reducible rfl)
        try simp only [Act.put, List.setIfInBounds_toArray, List.set_cons_zero, List.set_cons_succ]
        refine wpAnyH_take (i := 4) (oi := ?_) (v := ?_) (by simp only [List.getElem?_toArray, List.getElem?_cons_zero, List.getElem?_cons_succ]; rfl) (by kernel_rfl) (by kernel_rfl) (by kernel_rfl) (by exact fun _ _ _ h => h) (Or.inl ⟨by rfl, ?_⟩) (by assumption) ?_
        rotate_left
        · (intro w hSw; (try dsimp only at hSw); go_simp; first | done | with_reducible rfl)
        try simp only [Act.put, List.setIfInBounds_toArray, List.set_cons_zero, List.set_cons_succ]
        refine wpAnyH_take (i := 5) (oi := ?_) (v := ?_) (by simp only [List.getElem?_toArray, List.getElem?_cons_zero, List.getElem?_cons_succ]; rfl) (by kernel_rfl) (by kernel_rfl) (by kernel_rfl) (by exact fun _ _ _ h => h) (Or.inl ⟨by rfl, ?_⟩) (by assumption) ?_
        rotate_left
        · (intro w hSw; (try dsimp only at hSw); go_simp; first | done | with_reducible rfl)
        try simp only [Act.put, List.setIfInBounds_toArray, List.set_cons_zero, List.set_cons_succ]
        refine wpAnyH_take (i := 6) (oi := ?_) (v := ?_) (by simp only [List.getElem?_toArray, List.getElem?_cons_zero, List.getElem?_cons_succ]; rfl) (by kernel_rfl) (by kernel_rfl) (by kernel_rfl) (by exact fun _ _ _ h => h) (Or.inl ⟨by rfl, ?_⟩) (by assumption) ?_
        rotate_left
        · (intro w hSw; (try dsimp only at hSw); go_simp; first | done | with_reducible rfl)
        try simp only [Act.put, List.setIfInBounds_toArray, List.set_cons_zero, List.set_cons_succ]
        refine wpAnyH_take (i := 7) (oi := ?_) (v := ?_) (by simp only [List.getElem?_toArray, List.getElem?_cons_zero, List.getElem?_cons_succ]; rfl) (by kernel_rfl) (by kernel_rfl) (by kernel_rfl) (by exact fun _ _ _ h => h) (Or.inl ⟨by rfl, ?_⟩) (by assumption) ?_
        rotate_left
        · (intro w hSw; (try dsimp only at hSw); go_simp; first | done | with_reducible rfl)
        try simp only [Act.put, List.setIfInBounds_toArray, List.set_cons_zero, List.set_cons_succ]
        refine wpAnyH_take (i := 9) (oi := ?_) (v := ?_) (by simp only [List.getElem?_toArray, List.getElem?_cons_zero, List.getElem?_cons_succ]; rfl) (by kernel_rfl) (by kernel_rfl) (by kernel_rfl) (by exact fun _ _ _ h => h) (Or.inl ⟨by rfl, ?_⟩) (by assumption) ?_
        rotate_left
        · (intro w hSw; (try dsimp only at hSw); go_simp; first | done | with_reducible rfl)
        try simp only [Act.put, List.setIfInBounds_toArray, List.set_cons_zero, List.set_cons_succ]
        refine wpAnyH_take (i := 11) (oi := ?_) (v := ?_) (by simp only [List.getElem?_toArray, List.getElem?_cons_zero, List.getElem?_cons_succ]; rfl) (by kernel_rfl) (by kernel_rfl) (by kernel_rfl) (by exact fun _ _ _ h => h) (Or.inl ⟨by rfl, ?_⟩) (by assumption) ?_
        rotate_left
        · (intro w hSw; (try dsimp only at hSw); go_simp; first | done | with_reducible rfl)
        try simp only [Act.put, List.setIfInBounds_toArray, List.set_cons_zero, List.set_cons_succ]
        refine wpAnyH_take (i := 15) (oi := ?_) (v := ?_) (by simp only [List.getElem?_toArray, List.getElem?_cons_zero, List.getElem?_cons_succ]; rfl) (by kernel_rfl) (by kernel_rfl) (by kernel_rfl) (by exact fun _ _ _ h => h) (Or.inl ⟨by rfl, ?_⟩) (by assumption) ?_
        rotate_left
        · (intro w hSw; (try dsimp only at hSw); go_simp; first | done | with_reducible rfl)
        try simp only [Act.put, List.setIfInBounds_toArray, List.set_cons_zero, List.set_cons_succ]
        refine wpAnyH_ready (rs := [8]) (by kernel_rfl) (by simp) ?_
        refine AllReadyH.cons (o := ?_) (by simp only [List.getElem?_toArray, List.getElem?_cons_zero, List.getElem?_cons_succ]; rfl) (fun K hK => ?_) ?_
        · go_simp
          refine hK.out _ _ ?_ (fun hHeld2 => ?_)
          · first | exact hS2 | exact ((Below.refl W1.heap.size W1).alloc (Nat.le_refl _) _).drew | exact hHeld.alloc hHeld.size _
          clear hK K hHeld
          have hHeld := hHeld2
          clear hHeld2
          try simp only [Act.put, List.setIfInBounds_toArray, List.set_cons_zero, List.set_cons_succ]
          refine wpAnyH_ready (rs := [10]) (by kernel_rfl) (by simp) ?_
          refine AllReadyH.cons (o := ?_) (by simp only [List.getElem?_toArray, List.getElem?_cons_zero, List.getElem?_cons_succ]; rfl) (fun K hK => ?_) ?_
          · refine step_appB ?hgd (.tmp 102) (.tmp 103) ?ho ?hty (W1.heap.size) (.slice (some ⟨W1.heap.size, 0, none⟩) 0 0) ([]) ?hs ?hown (.slice A L.length c) (L) ?hx ?hy ?hl ?hb ?_
            case hgd => rfl
            case ho => rfl
            case hty => rfl
            case hs => rfl
            case hown => exact ((OwB.empty W1 _ _ (Nat.le_refl _)).drew)
            case hx => rfl
            case hy => exact ((HX13.out.alloc _).drew)
            case hl => (have := HLL.out; simp; omega)
            case hb => simp
            intro v10 w10 ho hg
            have hS2 := OwB.below_of ((OwB.empty W1 _ _ (Nat.le_refl _)).drew) hg hHeld (Nat.le_refl _) (by simp)
            have HO10 := As.mk ho
            clear ho hg
            refine hK.out _ _ ?_ (fun hHeld2 => ?_)
            · first | exact hS2 | exact ((Below.refl W1.heap.size W1).alloc (Nat.le_refl _) _).drew | exact hHeld.alloc hHeld.size _
            clear hK K hHeld
            have hHeld := hHeld2
            clear hHeld2
            try simp only [Act.put, List.setIfInBounds_toArray, List.set_cons_zero, List.set_cons_succ]
            refine wpAnyH_ready (rs := [12]) (by kernel_rfl) (by simp) ?_
            refine AllReadyH.cons (o := ?_) (by simp only [List.getElem?_toArray, List.getElem?_cons_zero, List.getElem?_cons_succ]; rfl) (fun K hK => ?_) ?_
            · refine step_appB ?hgd (.tmp 104) (.tmp 105) ?ho ?hty (W1.heap.size) (v10) ([] ++ L) ?hs ?hown (.slice A0 L0.length c0) (L0) ?hx ?hy ?hl ?hb ?_
              case hgd => rfl
              case ho => rfl
              case hty => rfl
              case hs => rfl
              case hown => exact (HO10.out)
              case hx => rfl
              case hy => exact (HX0.out.below hHeld)
              case hl => (have := HLL.out; simp; omega)
              case hb => exact hHeld.size
              intro v12 w12 ho hg
              have hS2 := OwB.below_of HO10.out hg hHeld (Nat.le_refl _) hHeld.size
              obtain ⟨A9, c9, rfl, -⟩ := RdB.form ho.rd
              have HO12 := As.mk ho
              clear ho hg
              refine hK.out _ _ ?_ (fun hHeld2 => ?_)
              · first | exact hS2 | exact ((Below.refl W1.heap.size W1).alloc (Nat.le_refl _) _).drew | exact hHeld.alloc hHeld.size _
              clear hK K hHeld
              have hHeld := hHeld2
              clear hHeld2
              try simp only [Act.put, List.setIfInBounds_toArray, List.set_cons_zero, List.set_cons_succ]
              refine wpAnyH_ready (rs := [13]) (by kernel_rfl) (by simp) ?_
              refine AllReadyH.cons (o := ?_) (by simp only [List.getElem?_toArray, List.getElem?_cons_zero, List.getElem?_cons_succ]; rfl) (fun K hK => ?_) ?_
              · go_simp
                refine hK.out _ _ ?_ (fun hHeld2 => ?_)
                · first | exact hS2 | exact ((Below.refl W1.heap.size W1).alloc (Nat.le_refl _) _).drew | exact hHeld.alloc hHeld.size _
                clear hK K hHeld
                have hHeld := hHeld2
                clear hHeld2
                try simp only [Act.put, List.setIfInBounds_toArray, List.set_cons_zero, List.set_cons_succ]
                refine wpAnyH_take (i := 14) (oi := ?_) (v := ?_) (by simp only [List.getElem?_toArray, List.getElem?_cons_zero, List.getElem?_cons_succ]; rfl) (by kernel_rfl) (by kernel_rfl) (by kernel_rfl) (by exact fun _ _ _ h => h) (Or.inl ⟨by rfl, ?_⟩) (by assumption) ?_
                rotate_left
                · (intro w hSw; (try dsimp only at hSw); go_simp; first | done | with_reducible rfl)
                try simp only [Act.put, List.setIfInBounds_toArray, List.set_cons_zero, List.set_cons_succ]
                refine wpAnyH_done (by kernel_rfl) ?_ _
                go_wp2_with fail
                go_meet
                refine ⟨w12.heap.size, [.slice A0 L0.length c0, .slice A L.length c, .slice A5 L.length c5, .slice A h c, _], rfl, rfl, rfl, ⟨rfl, ⟨heap_alloc_new _ _, fun v hv => ?_⟩, HB1.out.trans (hHeld.mono HB1.out.size)⟩⟩
                simp only [List.mem_cons, List.not_mem_nil, or_false] at hv
                rcases hv with rfl | rfl | rfl | rfl | rfl
                · exact ⟨L0, HX0.out.below hHeld, by omega⟩
                · exact ⟨L, HX13.out.below hHeld, by omega⟩
                · exact ⟨L2, by have h1 := HC2.out.below hHeld; exact h1, by omega⟩
                · exact ⟨L.take h, by have h1 := HXH.out.below hHeld; exact h1, by rw [List.length_take]; omega⟩
                · exact ⟨L ++ L0, by have h1 : RdB w12 (.slice A9 (L ++ L0).length c9) (L ++ L0) := (by have h2 := HO12.out.rd; simp only [List.nil_append] at h2; exact h2); rw [List.length_append] at h1; exact RdS.alloc h1 _, by rw [List.length_append]; omega⟩
              exact AllReadyH.nil
            exact AllReadyH.nil
          exact AllReadyH.nil
        exact AllReadyH.nil
      case rest =>
        obtain ⟨G, vs, rfl, rfl, rfl, HC⟩ := hcut
        have HVL := As.mk HC.out.1
        clear hh1 hh2 hh3 hT HXH HHL HX13 HX0 HC2 HB1 l13 hl2 HLL l0 c200'
        go_wp2_with fail
        go_loopw [109] (fun v109 wr => ∃ k : Nat, (k : Int) ≤ 5 ∧ v109 = .int .i64 (k : Int) ∧ As (Five wr G vs 24 ∧ Below w.heap.size w wr)) (fun v109 _ => 5 - (intOf v109).toNat)
        case atStart => exact ⟨0, by omega, rfl, ⟨HC.out.2.1, HC.out.2.2⟩⟩
        case round =>
          obtain ⟨k, hk, rfl, HE⟩ := hrel
          by_cases hlt : (k : Int) < 5
          · obtain ⟨Av, l, cv, hve, x0, hrd, hll⟩ := HE.out.1.at k (by rw [HVL.out]; omega)
            have HRD := As.mk hrd
            have HLL := As.mk hll
            clear hve hrd hll
            go_upto_block 5 with ((go_at_call 18; (with_reducible refine (read_any _ l _ HRD.out (by have := HLL.out; omega)).mono ?_); rintro e w' ⟨BP, rfl, hB, hr, hb⟩; have HBP := As.mk hB; have HRR := As.mk hr; have HBB := As.mk hb; clear hB hr hb x0))
            have HT0 : As (Two wr (w'.alloc (.cells #[.slice Av l.length cv, .bool false] 46)) BP w'.heap.size l false l false) := ⟨⟨HRR.out.below ((Below.refl _ _).alloc (Nat.le_refl _) _), ⟨Av, l.length, cv, heap_alloc_new _ _, (HRD.out.below HBB.out).alloc _⟩, HBB.out.alloc HBB.out.size _, HBP.out, HBB.out.size, Nat.ne_of_lt HRR.out.lt⟩⟩
            clear HRR HBB HBP
            generalize (w'.alloc (.cells #[.slice Av l.length cv, .bool false] 46)) = W5 at *
            generalize w'.heap.size = D at *
            obtain ⟨WO, hWO⟩ : ∃ W, W = wr := ⟨_, rfl⟩
            rw [← hWO] at HE HT0
            clear hWO HRD
            go_wp2_with fail
            go_loopw [21] (fun v21 wr => ∃ (j : Nat) (l1 : List UInt8) (b1 : Bool) (l2 : List UInt8) (b2 : Bool), (j : Int) ≤ 20 ∧ v21 = .int .i64 (j : Int) ∧ As (Two WO wr BP D l1 b1 l2 b2 ∧ Sim l1 b1 l2 b2 ∧ l1.length ≤ 100000 ∧ l2.length ≤ 100000)) (fun v21 _ => 20 - (intOf v21).toNat)
            case atStart => exact ⟨0, l, false, l, false, by omega, rfl, ⟨HT0.out, Sim.start l, HLL.out, HLL.out⟩⟩
            case round =>
              obtain ⟨j, l1, b1, l2', b2, hj, rfl, HI⟩ := hrel
              by_cases t1 : j < Y.length
              · have t1' : decide (j < Y.length) = true := by simpa using t1
                by_cases t2 : (j : Int) < 20
                · obtain ⟨ad, rfl, hcell⟩ := RdI.at HR2.out j t1
                  have hyb := HY.out Y[j] (List.getElem_mem t1)
                  obtain ⟨y, hy⟩ : ∃ z, z = Y[j] := ⟨_, rfl⟩
                  rw [← hy] at hcell hyb
                  have hcell2 := cell_of_below (HE.out.2.trans (HI.out.1.below.mono HE.out.2.size)) hcell
                  obtain ⟨yb0, yb1⟩ := hyb
                  have hym : bits .and .i64 y 3 = y % 4 := by rw [i64_mask _ _ 2 (by decide) (by decide)]; rfl
                  obtain ⟨M, hM⟩ : ∃ J, J = y % 4 := ⟨_, rfl⟩
                  rw [← hM] at hym
                  have hM4 : M = 0 ∨ M = 1 ∨ M = 2 ∨ M = 3 := by omega
                  obtain ⟨n, hn⟩ : ∃ J, J = y / 4 := ⟨_, rfl⟩
                  have hyd : y / 4 = n := hn.symm
                  have n0 : -2305843009213693952 ≤ n := by omega
                  have n1 : n ≤ 2305843009213693951 := by omega
                  clear hcell hy hM hn
                  go_upto_block 7 with (fail)
                  clear hcell2 hym hyd
                  go_cut [] (fun wc => ∃ (l3 : List UInt8) (b3 : Bool) (l4 : List UInt8) (b4 : Bool), As (Two WO wc BP D l3 b3 l4 b4 ∧ Sim l3 b3 l4 b4 ∧ l3.length ≤ 100000 ∧ l4.length ≤ 100000))
                  case first =>
                    have HT := As.mk HI.out.1
                    have HLA := As.mk HI.out.2.2.1
                    have HLB := As.mk HI.out.2.2.2
                    rcases hM4 with rfl | rfl | rfl | rfl
                    · obtain ⟨m, l3, b3, l4, b4, e1, e2, hs, g1, g2⟩ := step_num 4 (by omega) HI.out.2.1
                      have HQ1 := As.mk e1
                      have HQ2 := As.mk e2
                      have HS := As.mk hs
                      have HG := As.mk (And.intro g1 g2)
                      clear e1 e2 hs g1 g2
                      go_wp2_with (first | (go_at_call 19; (with_reducible refine (rsmall_to BP l1 b1 _ HQ1.out HT.out.r).mono ?_); rintro e w5 ⟨rfl, hr, hg⟩; have HT5 := As.mk (HT.out.step1 hr hg); clear hr hg) | (go_at_call 29; (with_reducible refine (qsmall_to D l2' b2 _ HQ2.out HT5.out.s (by have := HLB.out; omega)).mono ?_); rintro e w6 ⟨rfl, hr, hg⟩; have HT6 := As.mk (HT5.out.step2 hr hg); clear hr hg))
                      go_meet
                      exact ⟨l3, b3, l4, b4, ⟨HT6.out, HS.out, by have := HLA.out; have := HG.out; omega, by have := HLB.out; have := HG.out; omega⟩⟩
                    · obtain ⟨m, l3, b3, l4, b4, e1, e2, hs, g1, g2⟩ := step_num 8 (by omega) HI.out.2.1
                      have HQ1 := As.mk e1
                      have HQ2 := As.mk e2
                      have HS := As.mk hs
                      have HG := As.mk (And.intro g1 g2)
                      clear e1 e2 hs g1 g2
                      go_wp2_with (first | (go_at_call 20; (with_reducible refine (rbig_to BP l1 b1 _ HQ1.out HT.out.r).mono ?_); rintro e w5 ⟨rfl, hr, hg⟩; have HT5 := As.mk (HT.out.step1 hr hg); clear hr hg) | (go_at_call 30; (with_reducible refine (qbig_to D l2' b2 _ HQ2.out HT5.out.s (by have := HLB.out; omega)).mono ?_); rintro e w6 ⟨rfl, hr, hg⟩; have HT6 := As.mk (HT5.out.step2 hr hg); clear hr hg))
                      go_meet
                      exact ⟨l3, b3, l4, b4, ⟨HT6.out, HS.out, by have := HLA.out; have := HG.out; omega, by have := HLB.out; have := HG.out; omega⟩⟩
                    · obtain ⟨m, l3, b3, l4, b4, e1, e2, hs, g1, g2⟩ := step_count n HI.out.2.1
                      have HQ1 := As.mk e1
                      have HQ2 := As.mk e2
                      have HS := As.mk hs
                      have HG := As.mk (And.intro g1 g2)
                      clear e1 e2 hs g1 g2
                      go_wp2_with (first | (go_at_call 21; (with_reducible refine (rcount_to BP l1 b1 n _ HQ1.out HT.out.r (by omega) (by omega)).mono ?_); rintro e w5 ⟨rfl, hr, hg⟩; have HT5 := As.mk (HT.out.step1 hr hg); clear hr hg) | (go_at_call 31; (with_reducible refine (qcount_to D l2' b2 n _ HQ2.out HT5.out.s (by have := HLB.out; omega) (by omega) (by omega)).mono ?_); rintro e w6 ⟨rfl, hr, hg⟩; have HT6 := As.mk (HT5.out.step2 hr hg); clear hr hg))
                      go_meet
                      exact ⟨l3, b3, l4, b4, ⟨HT6.out, HS.out, by have := HLA.out; have := HG.out; omega, by have := HLB.out; have := HG.out; omega⟩⟩
                    · have hnm : bits .and .i64 n 63 = n % 64 := by rw [i64_mask _ _ 6 (by decide) (by decide)]; rfl
                      by_cases big : 64 < n
                      · obtain ⟨p, hp⟩ : ∃ p, p = n % 64 := ⟨_, rfl⟩
                        rw [← hp] at hnm
                        clear hp
                        go_upto_region 31 with (fail)
                        obtain ⟨x, l3, b3, l4, b4, e1, e2, hs, g1, g2⟩ := step_take p HI.out.2.1
                        have HQ1 := As.mk e1
                        have HQ2 := As.mk e2
                        have HS := As.mk hs
                        have HG := As.mk (And.intro g1 g2)
                        clear e1 e2 hs g1 g2
                        refine wp_region_any (by kernel_rfl) ?_
                        try (change wpAny _ _ _ _ _ _ _ (World.drew _))
                        refine wpAny_take (i := 0) (oi := ?_) (v := ?_) (by simp only [List.getElem?_toArray, List.getElem?_cons_zero, List.getElem?_cons_succ]; rfl) (by kernel_rfl) (by kernel_rfl) (by kernel_rfl) (by exact fun _ _ _ h => h) (Or.inl ⟨by rfl, ?_⟩) ?_
                        rotate_left
                        · (intro w; go_simp; first | done | with_reducible rfl)
                        try simp only [Act.put, List.setIfInBounds_toArray, List.set_cons_zero, List.set_cons_succ]
                        refine wpAny_take (i := 1) (oi := ?_) (v := ?_) (by simp only [List.getElem?_toArray, List.getElem?_cons_zero, List.getElem?_cons_succ]; rfl) (by kernel_rfl) (by kernel_rfl) (by kernel_rfl) (by exact fun _ _ _ h => h) (Or.inl ⟨by rfl, ?_⟩) ?_
                        rotate_left
                        · (intro w; go_simp; first | done | with_reducible rfl)
                        try simp only [Act.put, List.setIfInBounds_toArray, List.set_cons_zero, List.set_cons_succ]
                        refine wpAny_take (i := 4) (oi := ?_) (v := ?_) (by simp only [List.getElem?_toArray, List.getElem?_cons_zero, List.getElem?_cons_succ]; rfl) (by kernel_rfl) (by kernel_rfl) (by kernel_rfl) (by exact fun _ _ _ h => h) (Or.inl ⟨by rfl, ?_⟩) ?_
                        rotate_left
                        · (intro w; go_simp; first | done | with_reducible rfl)
                        try simp only [Act.put, List.setIfInBounds_toArray, List.set_cons_zero, List.set_cons_succ]
                        refine wpAny_take (i := 5) (oi := ?_) (v := ?_) (by simp only [List.getElem?_toArray, List.getElem?_cons_zero, List.getElem?_cons_succ]; rfl) (by kernel_rfl) (by kernel_rfl) (by kernel_rfl) (by exact fun _ _ _ h => h) (Or.inl ⟨by rfl, ?_⟩) ?_
                        rotate_left
                        · (intro w; go_simp; first | done | with_reducible rfl)
                        try simp only [Act.put, List.setIfInBounds_toArray, List.set_cons_zero, List.set_cons_succ]
                        refine wpAny_ready (rs := [2]) (by kernel_rfl) (by simp) ?_
                        refine AllReady.cons (o := ?_) (by simp only [List.getElem?_toArray, List.getElem?_cons_zero, List.getElem?_cons_succ]; rfl) (fun K hK => ?_) ?_
                        · go_simp
                          refine (rtake_to BP l1 b1 p _ HQ1.out HT.out.drew.r (by have := HLA.out; omega)).mono ?_
                          rintro e w5 ⟨r1, rfl, ho, hr, hg⟩
                          obtain ⟨A7, c7, rfl, -⟩ := RdB.form ho.rd
                          have HX5 := As.mk ho.rd
                          have HT5 := As.mk (HT.out.drew.step1 hr hg)
                          clear ho hr hg
                          try dsimp only
                          refine hK _ _ ?_
                          clear hK K
                          try simp only [Act.put, List.setIfInBounds_toArray, List.set_cons_zero, List.set_cons_succ]
                          refine wpAny_ready (rs := [3, 6]) (by kernel_rfl) (by simp) ?_
                          refine AllReady.cons (o := ?_) (by simp only [List.getElem?_toArray, List.getElem?_cons_zero, List.getElem?_cons_succ]; rfl) (fun K hK => ?_) ?_
                          · have hcv := run_str (P := Try.prog) 24 9 5 Try.underlying24 Try.underlying5 Try.underlying9 HX5.out
                            go_simp
                            clear hcv
                            try dsimp only
                            refine hK _ _ ?_
                            clear hK K
                            try simp only [Act.put, List.setIfInBounds_toArray, List.set_cons_zero, List.set_cons_succ]
                            refine wpAny_ready (rs := [6]) (by kernel_rfl) (by simp) ?_
                            refine AllReady.cons (o := ?_) (by simp only [List.getElem?_toArray, List.getElem?_cons_zero, List.getElem?_cons_succ]; rfl) (fun K hK => ?_) ?_
                            · go_simp
                              refine (qtake_to D l2' b2 p _ HQ2.out HT5.out.s (by have := HLB.out; omega)).mono ?_
                              rintro e w6 ⟨r2, rfl, ho, hr, hg⟩
                              obtain ⟨A8, c8, rfl, -⟩ := RdB.form ho.rd
                              have HX6 := As.mk (HT5.out.keep2 hg HX5.out)
                              have HZ6 := As.mk ho.rd
                              have HT6 := As.mk (HT5.out.step2 hr hg)
                              clear ho hr hg
                              try dsimp only
                              refine hK _ _ ?_
                              clear hK K
                              try simp only [Act.put, List.setIfInBounds_toArray, List.set_cons_zero, List.set_cons_succ]
                              refine wpAny_ready (rs := [7]) (by kernel_rfl) (by simp) ?_
                              refine AllReady.cons (o := ?_) (by simp only [List.getElem?_toArray, List.getElem?_cons_zero, List.getElem?_cons_succ]; rfl) (fun K hK => ?_) ?_
                              · have hcv := run_str (P := Try.prog) 24 9 5 Try.underlying24 Try.underlying5 Try.underlying9 HZ6.out
                                go_simp
                                clear hcv
                                try dsimp only
                                refine hK _ _ ?_
                                clear hK K
                                try simp only [Act.put, List.setIfInBounds_toArray, List.set_cons_zero, List.set_cons_succ]
                                refine wpAny_take (i := 8) (oi := ?_) (v := ?_) (by simp only [List.getElem?_toArray, List.getElem?_cons_zero, List.getElem?_cons_succ]; rfl) (by kernel_rfl) (by kernel_rfl) (by kernel_rfl) (by exact fun _ _ _ h => h) (Or.inl ⟨by rfl, ?_⟩) ?_
                                rotate_left
                                · (intro w; go_simp; first | done | with_reducible rfl)
                                try simp only [Act.put, List.setIfInBounds_toArray, List.set_cons_zero, List.set_cons_succ]
                                refine wpAny_done (by kernel_rfl) ?_ _
                                go_wp2_with fail
                                go_meet
                                exact ⟨l3, b3, l4, b4, ⟨HT6.out, HS.out, by have := HLA.out; have := HG.out; omega, by have := HLB.out; have := HG.out; omega⟩⟩
                              exact AllReady.nil
                            exact AllReady.nil
                          refine AllReady.cons (o := ?_) (by simp only [List.getElem?_toArray, List.getElem?_cons_zero, List.getElem?_cons_succ]; rfl) (fun K hK => ?_) ?_
                          · go_simp
                            refine (qtake_to D l2' b2 p _ HQ2.out HT5.out.s (by have := HLB.out; omega)).mono ?_
                            rintro e w6 ⟨r2, rfl, ho, hr, hg⟩
                            obtain ⟨A8, c8, rfl, -⟩ := RdB.form ho.rd
                            have HX6 := As.mk (HT5.out.keep2 hg HX5.out)
                            have HZ6 := As.mk ho.rd
                            have HT6 := As.mk (HT5.out.step2 hr hg)
                            clear ho hr hg
                            try dsimp only
                            refine hK _ _ ?_
                            clear hK K
                            try simp only [Act.put, List.setIfInBounds_toArray, List.set_cons_zero, List.set_cons_succ]
                            refine wpAny_ready (rs := [3, 7]) (by kernel_rfl) (by simp) ?_
                            refine AllReady.cons (o := ?_) (by simp only [List.getElem?_toArray, List.getElem?_cons_zero, List.getElem?_cons_succ]; rfl) (fun K hK => ?_) ?_
                            · have hcv := run_str (P := Try.prog) 24 9 5 Try.underlying24 Try.underlying5 Try.underlying9 HX6.out
                              go_simp
                              clear hcv
                              try dsimp only
                              refine hK _ _ ?_
                              clear hK K
                              try simp only [Act.put, List.setIfInBounds_toArray, List.set_cons_zero, List.set_cons_succ]
                              refine wpAny_ready (rs := [7]) (by kernel_rfl) (by simp) ?_
                              refine AllReady.cons (o := ?_) (by simp only [List.getElem?_toArray, List.getElem?_cons_zero, List.getElem?_cons_succ]; rfl) (fun K hK => ?_) ?_
                              · have hcv := run_str (P := Try.prog) 24 9 5 Try.underlying24 Try.underlying5 Try.underlying9 HZ6.out
                                go_simp
                                clear hcv
                                try dsimp only
                                refine hK _ _ ?_
                                clear hK K
                                try simp only [Act.put, List.setIfInBounds_toArray, List.set_cons_zero, List.set_cons_succ]
                                refine wpAny_take (i := 8) (oi := ?_) (v := ?_) (by simp only [List.getElem?_toArray, List.getElem?_cons_zero, List.getElem?_cons_succ]; rfl) (by kernel_rfl) (by kernel_rfl) (by kernel_rfl) (by exact fun _ _ _ h => h) (Or.inl ⟨by rfl, ?_⟩) ?_
                                rotate_left
                                · (intro w; go_simp; first | done | with_reducible rfl)
                                try simp only [Act.put, List.setIfInBounds_toArray, List.set_cons_zero, List.set_cons_succ]
                                refine wpAny_done (by kernel_rfl) ?_ _
                                go_wp2_with fail
                                go_meet
                                exact ⟨l3, b3, l4, b4, ⟨HT6.out, HS.out, by have := HLA.out; have := HG.out; omega, by have := HLB.out; have := HG.out; omega⟩⟩
                              exact AllReady.nil
                            refine AllReady.cons (o := ?_) (by simp only [List.getElem?_toArray, List.getElem?_cons_zero, List.getElem?_cons_succ]; rfl) (fun K hK => ?_) ?_
                            · have hcv := run_str (P := Try.prog) 24 9 5 Try.underlying24 Try.underlying5 Try.underlying9 HZ6.out
                              go_simp
                              clear hcv
                              try dsimp only
                              refine hK _ _ ?_
                              clear hK K
                              try simp only [Act.put, List.setIfInBounds_toArray, List.set_cons_zero, List.set_cons_succ]
                              refine wpAny_ready (rs := [3]) (by kernel_rfl) (by simp) ?_
                              refine AllReady.cons (o := ?_) (by simp only [List.getElem?_toArray, List.getElem?_cons_zero, List.getElem?_cons_succ]; rfl) (fun K hK => ?_) ?_
                              · have hcv := run_str (P := Try.prog) 24 9 5 Try.underlying24 Try.underlying5 Try.underlying9 HX6.out
                                go_simp
                                clear hcv
                                try dsimp only
                                refine hK _ _ ?_
                                clear hK K
                                try simp only [Act.put, List.setIfInBounds_toArray, List.set_cons_zero, List.set_cons_succ]
                                refine wpAny_take (i := 8) (oi := ?_) (v := ?_) (by simp only [List.getElem?_toArray, List.getElem?_cons_zero, List.getElem?_cons_succ]; rfl) (by kernel_rfl) (by kernel_rfl) (by kernel_rfl) (by exact fun _ _ _ h => h) (Or.inl ⟨by rfl, ?_⟩) ?_
                                rotate_left
                                · (intro w; go_simp; first | done | with_reducible rfl)
                                try simp only [Act.put, List.setIfInBounds_toArray, List.set_cons_zero, List.set_cons_succ]
                                refine wpAny_done (by kernel_rfl) ?_ _
                                go_wp2_with fail
                                go_meet
                                exact ⟨l3, b3, l4, b4, ⟨HT6.out, HS.out, by have := HLA.out; have := HG.out; omega, by have := HLB.out; have := HG.out; omega⟩⟩
                              exact AllReady.nil
                            exact AllReady.nil
                          exact AllReady.nil
                        exact AllReady.nil
                      · have big' : n ≤ 64 := by omega
                        go_upto_region 31 with (fail)
                        obtain ⟨x, l3, b3, l4, b4, e1, e2, hs, g1, g2⟩ := step_take n HI.out.2.1
                        have HQ1 := As.mk e1
                        have HQ2 := As.mk e2
                        have HS := As.mk hs
                        have HG := As.mk (And.intro g1 g2)
                        clear e1 e2 hs g1 g2
                        refine wp_region_any (by kernel_rfl) ?_
                        try (change wpAny _ _ _ _ _ _ _ (World.drew _))
                        refine wpAny_take (i := 0) (oi := ?_) (v := ?_) (by simp only [List.getElem?_toArray, List.getElem?_cons_zero, List.getElem?_cons_succ]; rfl) (by kernel_rfl) (by kernel_rfl) (by kernel_rfl) (by exact fun _ _ _ h => h) (Or.inl ⟨by rfl, ?_⟩) ?_
                        rotate_left
                        · (intro w; go_simp; first | done | with_reducible rfl)
                        try simp only [Act.put, List.setIfInBounds_toArray, List.set_cons_zero, List.set_cons_succ]
                        refine wpAny_take (i := 1) (oi := ?_) (v := ?_) (by simp only [List.getElem?_toArray, List.getElem?_cons_zero, List.getElem?_cons_succ]; rfl) (by kernel_rfl) (by kernel_rfl) (by kernel_rfl) (by exact fun _ _ _ h => h) (Or.inl ⟨by rfl, ?_⟩) ?_
                        rotate_left
                        · (intro w; go_simp; first | done | with_reducible rfl)
                        try simp only [Act.put, List.setIfInBounds_toArray, List.set_cons_zero, List.set_cons_succ]
                        refine wpAny_take (i := 4) (oi := ?_) (v := ?_) (by simp only [List.getElem?_toArray, List.getElem?_cons_zero, List.getElem?_cons_succ]; rfl) (by kernel_rfl) (by kernel_rfl) (by kernel_rfl) (by exact fun _ _ _ h => h) (Or.inl ⟨by rfl, ?_⟩) ?_
                        rotate_left
                        · (intro w; go_simp; first | done | with_reducible rfl)
                        try simp only [Act.put, List.setIfInBounds_toArray, List.set_cons_zero, List.set_cons_succ]
                        refine wpAny_take (i := 5) (oi := ?_) (v := ?_) (by simp only [List.getElem?_toArray, List.getElem?_cons_zero, List.getElem?_cons_succ]; rfl) (by kernel_rfl) (by kernel_rfl) (by kernel_rfl) (by exact fun _ _ _ h => h) (Or.inl ⟨by rfl, ?_⟩) ?_
                        rotate_left
                        · (intro w; go_simp; first | done | with_reducible rfl)
                        try simp only [Act.put, List.setIfInBounds_toArray, List.set_cons_zero, List.set_cons_succ]
                        refine wpAny_ready (rs := [2]) (by kernel_rfl) (by simp) ?_
                        refine AllReady.cons (o := ?_) (by simp only [List.getElem?_toArray, List.getElem?_cons_zero, List.getElem?_cons_succ]; rfl) (fun K hK => ?_) ?_
                        · go_simp
                          refine (rtake_to BP l1 b1 n _ HQ1.out HT.out.drew.r (by have := HLA.out; omega)).mono ?_
                          rintro e w5 ⟨r1, rfl, ho, hr, hg⟩
                          obtain ⟨A7, c7, rfl, -⟩ := RdB.form ho.rd
                          have HX5 := As.mk ho.rd
                          have HT5 := As.mk (HT.out.drew.step1 hr hg)
                          clear ho hr hg
                          try dsimp only
                          refine hK _ _ ?_
                          clear hK K
                          try simp only [Act.put, List.setIfInBounds_toArray, List.set_cons_zero, List.set_cons_succ]
                          refine wpAny_ready (rs := [3, 6]) (by kernel_rfl) (by simp) ?_
                          refine AllReady.cons (o := ?_) (by simp only [List.getElem?_toArray, List.getElem?_cons_zero, List.getElem?_cons_succ]; rfl) (fun K hK => ?_) ?_
                          · have hcv := run_str (P := Try.prog) 24 9 5 Try.underlying24 Try.underlying5 Try.underlying9 HX5.out
                            go_simp
                            clear hcv
                            try dsimp only
                            refine hK _ _ ?_
                            clear hK K
                            try simp only [Act.put, List.setIfInBounds_toArray, List.set_cons_zero, List.set_cons_succ]
                            refine wpAny_ready (rs := [6]) (by kernel_rfl) (by simp) ?_
                            refine AllReady.cons (o := ?_) (by simp only [List.getElem?_toArray, List.getElem?_cons_zero, List.getElem?_cons_succ]; rfl) (fun K hK => ?_) ?_
                            · go_simp
                              refine (qtake_to D l2' b2 n _ HQ2.out HT5.out.s (by have := HLB.out; omega)).mono ?_
                              rintro e w6 ⟨r2, rfl, ho, hr, hg⟩
                              obtain ⟨A8, c8, rfl, -⟩ := RdB.form ho.rd
                              have HX6 := As.mk (HT5.out.keep2 hg HX5.out)
                              have HZ6 := As.mk ho.rd
                              have HT6 := As.mk (HT5.out.step2 hr hg)
                              clear ho hr hg
                              try dsimp only
                              refine hK _ _ ?_
                              clear hK K
                              try simp only [Act.put, List.setIfInBounds_toArray, List.set_cons_zero, List.set_cons_succ]
                              refine wpAny_ready (rs := [7]) (by kernel_rfl) (by simp) ?_
                              refine AllReady.cons (o := ?_) (by simp only [List.getElem?_toArray, List.getElem?_cons_zero, List.getElem?_cons_succ]; rfl) (fun K hK => ?_) ?_
                              · have hcv := run_str (P := Try.prog) 24 9 5 Try.underlying24 Try.underlying5 Try.underlying9 HZ6.out
                                go_simp
                                clear hcv
                                try dsimp only
                                refine hK _ _ ?_
                                clear hK K
                                try simp only [Act.put, List.setIfInBounds_toArray, List.set_cons_zero, List.set_cons_succ]
                                refine wpAny_take (i := 8) (oi := ?_) (v := ?_) (by simp only [List.getElem?_toArray, List.getElem?_cons_zero, List.getElem?_cons_succ]; rfl) (by kernel_rfl) (by kernel_rfl) (by kernel_rfl) (by exact fun _ _ _ h => h) (Or.inl ⟨by rfl, ?_⟩) ?_
                                rotate_left
                                · (intro w; go_simp; first | done | with_reducible rfl)
                                try simp only [Act.put, List.setIfInBounds_toArray, List.set_cons_zero, List.set_cons_succ]
                                refine wpAny_done (by kernel_rfl) ?_ _
                                go_wp2_with fail
                                go_meet
                                exact ⟨l3, b3, l4, b4, ⟨HT6.out, HS.out, by have := HLA.out; have := HG.out; omega, by have := HLB.out; have := HG.out; omega⟩⟩
                              exact AllReady.nil
                            exact AllReady.nil
                          refine AllReady.cons (o := ?_) (by simp only [List.getElem?_toArray, List.getElem?_cons_zero, List.getElem?_cons_succ]; rfl) (fun K hK => ?_) ?_
                          · go_simp
                            refine (qtake_to D l2' b2 n _ HQ2.out HT5.out.s (by have := HLB.out; omega)).mono ?_
                            rintro e w6 ⟨r2, rfl, ho, hr, hg⟩
                            obtain ⟨A8, c8, rfl, -⟩ := RdB.form ho.rd
                            have HX6 := As.mk (HT5.out.keep2 hg HX5.out)
                            have HZ6 := As.mk ho.rd
                            have HT6 := As.mk (HT5.out.step2 hr hg)
                            clear ho hr hg
                            try dsimp only
                            refine hK _ _ ?_
                            clear hK K
                            try simp only [Act.put, List.setIfInBounds_toArray, List.set_cons_zero, List.set_cons_succ]
                            refine wpAny_ready (rs := [3, 7]) (by kernel_rfl) (by simp) ?_
                            refine AllReady.cons (o := ?_) (by simp only [List.getElem?_toArray, List.getElem?_cons_zero, List.getElem?_cons_succ]; rfl) (fun K hK => ?_) ?_
                            · have hcv := run_str (P := Try.prog) 24 9 5 Try.underlying24 Try.underlying5 Try.underlying9 HX6.out
                              go_simp
                              clear hcv
                              try dsimp only
                              refine hK _ _ ?_
                              clear hK K
                              try simp only [Act.put, List.setIfInBounds_toArray, List.set_cons_zero, List.set_cons_succ]
                              refine wpAny_ready (rs := [7]) (by kernel_rfl) (by simp) ?_
                              refine AllReady.cons (o := ?_) (by simp only [List.getElem?_toArray, List.getElem?_cons_zero, List.getElem?_cons_succ]; rfl) (fun K hK => ?_) ?_
                              · have hcv := run_str (P := Try.prog) 24 9 5 Try.underlying24 Try.underlying5 Try.underlying9 HZ6.out
                                go_simp
                                clear hcv
                                try dsimp only
                                refine hK _ _ ?_
                                clear hK K
                                try simp only [Act.put, List.setIfInBounds_toArray, List.set_cons_zero, List.set_cons_succ]
                                refine wpAny_take (i := 8) (oi := ?_) (v := ?_) (by simp only [List.getElem?_toArray, List.getElem?_cons_zero, List.getElem?_cons_succ]; rfl) (by kernel_rfl) (by kernel_rfl) (by kernel_rfl) (by exact fun _ _ _ h => h) (Or.inl ⟨by rfl, ?_⟩) ?_
                                rotate_left
                                · (intro w; go_simp; first | done | with_reducible rfl)
                                try simp only [Act.put, List.setIfInBounds_toArray, List.set_cons_zero, List.set_cons_succ]
                                refine wpAny_done (by kernel_rfl) ?_ _
                                go_wp2_with fail
                                go_meet
                                exact ⟨l3, b3, l4, b4, ⟨HT6.out, HS.out, by have := HLA.out; have := HG.out; omega, by have := HLB.out; have := HG.out; omega⟩⟩
                              exact AllReady.nil
                            refine AllReady.cons (o := ?_) (by simp only [List.getElem?_toArray, List.getElem?_cons_zero, List.getElem?_cons_succ]; rfl) (fun K hK => ?_) ?_
                            · have hcv := run_str (P := Try.prog) 24 9 5 Try.underlying24 Try.underlying5 Try.underlying9 HZ6.out
                              go_simp
                              clear hcv
                              try dsimp only
                              refine hK _ _ ?_
                              clear hK K
                              try simp only [Act.put, List.setIfInBounds_toArray, List.set_cons_zero, List.set_cons_succ]
                              refine wpAny_ready (rs := [3]) (by kernel_rfl) (by simp) ?_
                              refine AllReady.cons (o := ?_) (by simp only [List.getElem?_toArray, List.getElem?_cons_zero, List.getElem?_cons_succ]; rfl) (fun K hK => ?_) ?_
                              · have hcv := run_str (P := Try.prog) 24 9 5 Try.underlying24 Try.underlying5 Try.underlying9 HX6.out
                                go_simp
                                clear hcv
                                try dsimp only
                                refine hK _ _ ?_
                                clear hK K
                                try simp only [Act.put, List.setIfInBounds_toArray, List.set_cons_zero, List.set_cons_succ]
                                refine wpAny_take (i := 8) (oi := ?_) (v := ?_) (by simp only [List.getElem?_toArray, List.getElem?_cons_zero, List.getElem?_cons_succ]; rfl) (by kernel_rfl) (by kernel_rfl) (by kernel_rfl) (by exact fun _ _ _ h => h) (Or.inl ⟨by rfl, ?_⟩) ?_
                                rotate_left
                                · (intro w; go_simp; first | done | with_reducible rfl)
                                try simp only [Act.put, List.setIfInBounds_toArray, List.set_cons_zero, List.set_cons_succ]
                                refine wpAny_done (by kernel_rfl) ?_ _
                                go_wp2_with fail
                                go_meet
                                exact ⟨l3, b3, l4, b4, ⟨HT6.out, HS.out, by have := HLA.out; have := HG.out; omega, by have := HLB.out; have := HG.out; omega⟩⟩
                              exact AllReady.nil
                            exact AllReady.nil
                          exact AllReady.nil
                        exact AllReady.nil
                  case rest =>
                    obtain ⟨l3, b3, l4, b4, HK⟩ := hcut
                    have hs := HK.out.2.1
                    obtain ⟨E, hE⟩ : ∃ E, (!b3 && l3.isEmpty) = E := ⟨_, rfl⟩
                    have hE2 := hs.fin
                    rw [hE] at hE2
                    have HE1 := As.mk hE
                    have HE2 := As.mk hE2.symm
                    obtain rfl := hs.1
                    clear hs hE hE2 HI
                    go_upto_region 42 with (fail)
                    have HTK : As (Two WO wc.drew BP D l3 b3 l4 b3) := ⟨HK.out.1.drew⟩
                    cases b3
                    · refine wp_region_held_drew (S := (fun W : World => Two WO W BP D l3 false l4 false)) (by kernel_rfl) ?_ (fun hHeld => ?_)
                      · exact HTK.out
                      refine wpAnyH_take (i := 0) (oi := ?_) (v := ?_) (by simp only [List.getElem?_toArray, List.getElem?_cons_zero, List.getElem?_cons_succ]; rfl) (by kernel_rfl) (by kernel_rfl) (by kernel_rfl) (by exact fun _ _ _ h => h) (Or.inl ⟨by rfl, ?_⟩) (by assumption) ?_
                      rotate_left
                      · (intro w hSw; (try dsimp only at hSw); obtain ⟨-, ⟨qa, qn, qc, qh, -⟩, -, -, -, -⟩ := hSw; obtain ⟨-, q1, -, -⟩ := two_cell qh; clear qh; go_simp; first | done | with_reducible rfl)
                      try simp only [Act.put, List.setIfInBounds_toArray, List.set_cons_zero, List.set_cons_succ]
                      refine wpAnyH_take (i := 2) (oi := ?_) (v := ?_) (by simp only [List.getElem?_toArray, List.getElem?_cons_zero, List.getElem?_cons_succ]; rfl) (by kernel_rfl) (by kernel_rfl) (by kernel_rfl) (by exact fun _ _ _ h => h) (Or.inl ⟨by rfl, ?_⟩) (by assumption) ?_
                      rotate_left
                      · (intro w hSw; (try dsimp only at hSw); obtain ⟨-, ⟨qa, qn, qc, qh, -⟩, -, -, -, -⟩ := hSw; obtain ⟨-, q1, -, -⟩ := two_cell qh; clear qh; go_simp; first | done | with_reducible rfl)
                      try simp only [Act.put, List.setIfInBounds_toArray, List.set_cons_zero, List.set_cons_succ]
                      refine wpAnyH_take (i := 3) (oi := ?_) (v := ?_) (by simp only [List.getElem?_toArray, List.getElem?_cons_zero, List.getElem?_cons_succ]; rfl) (by kernel_rfl) (by kernel_rfl) (by kernel_rfl) (by exact fun _ _ _ h => h) (Or.inl ⟨by rfl, ?_⟩) (by assumption) ?_
                      rotate_left
                      · (intro w hSw; (try dsimp only at hSw); obtain ⟨-, ⟨qa, qn, qc, qh, -⟩, -, -, -, -⟩ := hSw; obtain ⟨-, q1, -, -⟩ := two_cell qh; clear qh; go_simp; first | done | with_reducible rfl)
                      try simp only [Act.put, List.setIfInBounds_toArray, List.set_cons_zero, List.set_cons_succ]
                      refine wpAnyH_take (i := 4) (oi := ?_) (v := ?_) (by simp only [List.getElem?_toArray, List.getElem?_cons_zero, List.getElem?_cons_succ]; rfl) (by kernel_rfl) (by kernel_rfl) (by kernel_rfl) (by exact fun _ _ _ h => h) (Or.inl ⟨by rfl, ?_⟩) (by assumption) ?_
                      rotate_left
                      · (intro w hSw; (try dsimp only at hSw); obtain ⟨-, ⟨qa, qn, qc, qh, -⟩, -, -, -, -⟩ := hSw; obtain ⟨-, q1, -, -⟩ := two_cell qh; clear qh; go_simp; first | done | with_reducible rfl)
                      try simp only [Act.put, List.setIfInBounds_toArray, List.set_cons_zero, List.set_cons_succ]
                      refine wpAnyH_take (i := 5) (oi := ?_) (v := ?_) (by simp only [List.getElem?_toArray, List.getElem?_cons_zero, List.getElem?_cons_succ]; rfl) (by kernel_rfl) (by kernel_rfl) (by kernel_rfl) (by exact fun _ _ _ h => h) (Or.inl ⟨by rfl, ?_⟩) (by assumption) ?_
                      rotate_left
                      · (intro w hSw; (try dsimp only at hSw); obtain ⟨-, ⟨qa, qn, qc, qh, -⟩, -, -, -, -⟩ := hSw; obtain ⟨-, q1, -, -⟩ := two_cell qh; clear qh; go_simp; first | done | with_reducible rfl)
                      try simp only [Act.put, List.setIfInBounds_toArray, List.set_cons_zero, List.set_cons_succ]
                      refine wpAnyH_ready (rs := [1]) (by kernel_rfl) (by simp) ?_
                      refine AllReadyH.cons (o := ?_) (by simp only [List.getElem?_toArray, List.getElem?_cons_zero, List.getElem?_cons_succ]; rfl) (fun K hK => ?_) ?_
                      · go_simp
                        refine (ok_to BP l3 false _ (r := true) rfl hHeld.r).mono ?_
                        rintro e w5 ⟨rfl, rfl⟩
                        try dsimp only
                        refine hK.out _ _ ?_ (fun hHeld2 => ?_)
                        · exact hHeld
                        clear hK K hHeld
                        have hHeld := hHeld2
                        clear hHeld2
                        try simp only [Act.put, List.setIfInBounds_toArray, List.set_cons_zero, List.set_cons_succ]
                        refine wpAnyH_take (i := 6) (oi := ?_) (v := ?_) (by simp only [List.getElem?_toArray, List.getElem?_cons_zero, List.getElem?_cons_succ]; rfl) (by kernel_rfl) (by kernel_rfl) (by kernel_rfl) (by exact fun _ _ _ h => h) (Or.inl ⟨by rfl, ?_⟩) (by assumption) ?_
                        rotate_left
                        · (intro w hSw; (try dsimp only at hSw); obtain ⟨-, ⟨qa, qn, qc, qh, -⟩, -, -, -, -⟩ := hSw; obtain ⟨-, q1, -, -⟩ := two_cell qh; clear qh; go_simp; first | done | with_reducible rfl)
                        try simp only [Act.put, List.setIfInBounds_toArray, List.set_cons_zero, List.set_cons_succ]
                        refine wpAnyH_take (i := 7) (oi := ?_) (v := ?_) (by simp only [List.getElem?_toArray, List.getElem?_cons_zero, List.getElem?_cons_succ]; rfl) (by kernel_rfl) (by kernel_rfl) (by kernel_rfl) (by exact fun _ _ _ h => h) (Or.inl ⟨by rfl, ?_⟩) (by assumption) ?_
                        rotate_left
                        · (intro w hSw; (try dsimp only at hSw); obtain ⟨-, ⟨qa, qn, qc, qh, -⟩, -, -, -, -⟩ := hSw; obtain ⟨-, q1, -, -⟩ := two_cell qh; clear qh; go_simp; first | done | with_reducible rfl)
                        try simp only [Act.put, List.setIfInBounds_toArray, List.set_cons_zero, List.set_cons_succ]
                        refine wpAnyH_take (i := 8) (oi := ?_) (v := ?_) (by simp only [List.getElem?_toArray, List.getElem?_cons_zero, List.getElem?_cons_succ]; rfl) (by kernel_rfl) (by kernel_rfl) (by kernel_rfl) (by exact fun _ _ _ h => h) (Or.inl ⟨by rfl, ?_⟩) (by assumption) ?_
                        rotate_left
                        · (intro w hSw; (try dsimp only at hSw); obtain ⟨-, ⟨qa, qn, qc, qh, -⟩, -, -, -, -⟩ := hSw; obtain ⟨-, q1, -, -⟩ := two_cell qh; clear qh; go_simp; first | done | with_reducible rfl)
                        try simp only [Act.put, List.setIfInBounds_toArray, List.set_cons_zero, List.set_cons_succ]
                        refine wpAnyH_take (i := 10) (oi := ?_) (v := ?_) (by simp only [List.getElem?_toArray, List.getElem?_cons_zero, List.getElem?_cons_succ]; rfl) (by kernel_rfl) (by kernel_rfl) (by kernel_rfl) (by exact fun _ _ _ h => h) (Or.inl ⟨by rfl, ?_⟩) (by assumption) ?_
                        rotate_left
                        · (intro w hSw; (try dsimp only at hSw); obtain ⟨-, ⟨qa, qn, qc, qh, -⟩, -, -, -, -⟩ := hSw; obtain ⟨-, q1, -, -⟩ := two_cell qh; clear qh; go_simp; first | done | with_reducible rfl)
                        try simp only [Act.put, List.setIfInBounds_toArray, List.set_cons_zero, List.set_cons_succ]
                        refine wpAnyH_ready (rs := [9]) (by kernel_rfl) (by simp) ?_
                        refine AllReadyH.cons (o := ?_) (by simp only [List.getElem?_toArray, List.getElem?_cons_zero, List.getElem?_cons_succ]; rfl) (fun K hK => ?_) ?_
                        · go_simp
                          refine (end_to BP l3 false _ HE1.out hHeld.r).mono ?_
                          rintro e w5 ⟨rfl, rfl⟩
                          try dsimp only
                          refine hK.out _ _ ?_ (fun hHeld2 => ?_)
                          · exact hHeld
                          clear hK K hHeld
                          have hHeld := hHeld2
                          clear hHeld2
                          try simp only [Act.put, List.setIfInBounds_toArray, List.set_cons_zero, List.set_cons_succ]
                          refine wpAnyH_ready (rs := [11]) (by kernel_rfl) (by simp) ?_
                          refine AllReadyH.cons (o := ?_) (by simp only [List.getElem?_toArray, List.getElem?_cons_zero, List.getElem?_cons_succ]; rfl) (fun K hK => ?_) ?_
                          · go_simp
                            refine (qend_to D l4 false _ HE2.out hHeld.s).mono ?_
                            rintro e w5 ⟨rfl, rfl⟩
                            try dsimp only
                            refine hK.out _ _ ?_ (fun hHeld2 => ?_)
                            · exact hHeld
                            clear hK K hHeld
                            have hHeld := hHeld2
                            clear hHeld2
                            try simp only [Act.put, List.setIfInBounds_toArray, List.set_cons_zero, List.set_cons_succ]
                            refine wpAnyH_take (i := 12) (oi := ?_) (v := ?_) (by simp only [List.getElem?_toArray, List.getElem?_cons_zero, List.getElem?_cons_succ]; rfl) (by kernel_rfl) (by kernel_rfl) (by kernel_rfl) (by exact fun _ _ _ h => h) (Or.inl ⟨by rfl, ?_⟩) (by assumption) ?_
                            rotate_left
                            · (intro w hSw; (try dsimp only at hSw); obtain ⟨-, ⟨qa, qn, qc, qh, -⟩, -, -, -, -⟩ := hSw; obtain ⟨-, q1, -, -⟩ := two_cell qh; clear qh; go_simp; first | done | with_reducible rfl)
                            try simp only [Act.put, List.setIfInBounds_toArray, List.set_cons_zero, List.set_cons_succ]
                            refine wpAnyH_take (i := 13) (oi := ?_) (v := ?_) (by simp only [List.getElem?_toArray, List.getElem?_cons_zero, List.getElem?_cons_succ]; rfl) (by kernel_rfl) (by kernel_rfl) (by kernel_rfl) (by exact fun _ _ _ h => h) (Or.inl ⟨by rfl, ?_⟩) (by assumption) ?_
                            rotate_left
                            · (intro w hSw; (try dsimp only at hSw); obtain ⟨-, ⟨qa, qn, qc, qh, -⟩, -, -, -, -⟩ := hSw; obtain ⟨-, q1, -, -⟩ := two_cell qh; clear qh; go_simp; first | done | with_reducible rfl)
                            try simp only [Act.put, List.setIfInBounds_toArray, List.set_cons_zero, List.set_cons_succ]
                            refine wpAnyH_done (by kernel_rfl) ?_ _
                            go_wp2_with fail
                            go_roundw
                            case rel => exact ⟨j + 1, l3, _, l4, _, by omega, by go_num, ⟨hHeld, HK.out.2⟩⟩
                            case measure => simp [intOf]; omega
                          exact AllReadyH.nil
                        exact AllReadyH.nil
                      exact AllReadyH.nil
                    · refine wp_region_held_drew (S := (fun W : World => Two WO W BP D l3 true l4 true)) (by kernel_rfl) ?_ (fun hHeld => ?_)
                      · exact HTK.out
                      refine wpAnyH_take (i := 0) (oi := ?_) (v := ?_) (by simp only [List.getElem?_toArray, List.getElem?_cons_zero, List.getElem?_cons_succ]; rfl) (by kernel_rfl) (by kernel_rfl) (by kernel_rfl) (by exact fun _ _ _ h => h) (Or.inl ⟨by rfl, ?_⟩) (by assumption) ?_
                      rotate_left
                      · (intro w hSw; (try dsimp only at hSw); obtain ⟨-, ⟨qa, qn, qc, qh, -⟩, -, -, -, -⟩ := hSw; obtain ⟨-, q1, -, -⟩ := two_cell qh; clear qh; go_simp; first | done | with_reducible rfl)
                      try simp only [Act.put, List.setIfInBounds_toArray, List.set_cons_zero, List.set_cons_succ]
                      refine wpAnyH_take (i := 2) (oi := ?_) (v := ?_) (by simp only [List.getElem?_toArray, List.getElem?_cons_zero, List.getElem?_cons_succ]; rfl) (by kernel_rfl) (by kernel_rfl) (by kernel_rfl) (by exact fun _ _ _ h => h) (Or.inl ⟨by rfl, ?_⟩) (by assumption) ?_
                      rotate_left
                      · (intro w hSw; (try dsimp only at hSw); obtain ⟨-, ⟨qa, qn, qc, qh, -⟩, -, -, -, -⟩ := hSw; obtain ⟨-, q1, -, -⟩ := two_cell qh; clear qh; go_simp; first | done | with_reducible rfl)
                      try simp only [Act.put, List.setIfInBounds_toArray, List.set_cons_zero, List.set_cons_succ]
                      refine wpAnyH_take (i := 3) (oi := ?_) (v := ?_) (by simp only [List.getElem?_toArray, List.getElem?_cons_zero, List.getElem?_cons_succ]; rfl) (by kernel_rfl) (by kernel_rfl) (by kernel_rfl) (by exact fun _ _ _ h => h) (Or.inl ⟨by rfl, ?_⟩) (by assumption) ?_
                      rotate_left
                      · (intro w hSw; (try dsimp only at hSw); obtain ⟨-, ⟨qa, qn, qc, qh, -⟩, -, -, -, -⟩ := hSw; obtain ⟨-, q1, -, -⟩ := two_cell qh; clear qh; go_simp; first | done | with_reducible rfl)
                      try simp only [Act.put, List.setIfInBounds_toArray, List.set_cons_zero, List.set_cons_succ]
                      refine wpAnyH_take (i := 4) (oi := ?_) (v := ?_) (by simp only [List.getElem?_toArray, List.getElem?_cons_zero, List.getElem?_cons_succ]; rfl) (by kernel_rfl) (by kernel_rfl) (by kernel_rfl) (by exact fun _ _ _ h => h) (Or.inl ⟨by rfl, ?_⟩) (by assumption) ?_
                      rotate_left
                      · (intro w hSw; (try dsimp only at hSw); obtain ⟨-, ⟨qa, qn, qc, qh, -⟩, -, -, -, -⟩ := hSw; obtain ⟨-, q1, -, -⟩ := two_cell qh; clear qh; go_simp; first | done | with_reducible rfl)
                      try simp only [Act.put, List.setIfInBounds_toArray, List.set_cons_zero, List.set_cons_succ]
                      refine wpAnyH_take (i := 5) (oi := ?_) (v := ?_) (by simp only [List.getElem?_toArray, List.getElem?_cons_zero, List.getElem?_cons_succ]; rfl) (by kernel_rfl) (by kernel_rfl) (by kernel_rfl) (by exact fun _ _ _ h => h) (Or.inl ⟨by rfl, ?_⟩) (by assumption) ?_
                      rotate_left
                      · (intro w hSw; (try dsimp only at hSw); obtain ⟨-, ⟨qa, qn, qc, qh, -⟩, -, -, -, -⟩ := hSw; obtain ⟨-, q1, -, -⟩ := two_cell qh; clear qh; go_simp; first | done | with_reducible rfl)
                      try simp only [Act.put, List.setIfInBounds_toArray, List.set_cons_zero, List.set_cons_succ]
                      refine wpAnyH_ready (rs := [1]) (by kernel_rfl) (by simp) ?_
                      refine AllReadyH.cons (o := ?_) (by simp only [List.getElem?_toArray, List.getElem?_cons_zero, List.getElem?_cons_succ]; rfl) (fun K hK => ?_) ?_
                      · go_simp
                        refine (ok_to BP l3 true _ (r := false) rfl hHeld.r).mono ?_
                        rintro e w5 ⟨rfl, rfl⟩
                        try dsimp only
                        refine hK.out _ _ ?_ (fun hHeld2 => ?_)
                        · exact hHeld
                        clear hK K hHeld
                        have hHeld := hHeld2
                        clear hHeld2
                        try simp only [Act.put, List.setIfInBounds_toArray, List.set_cons_zero, List.set_cons_succ]
                        refine wpAnyH_take (i := 6) (oi := ?_) (v := ?_) (by simp only [List.getElem?_toArray, List.getElem?_cons_zero, List.getElem?_cons_succ]; rfl) (by kernel_rfl) (by kernel_rfl) (by kernel_rfl) (by exact fun _ _ _ h => h) (Or.inl ⟨by rfl, ?_⟩) (by assumption) ?_
                        rotate_left
                        · (intro w hSw; (try dsimp only at hSw); obtain ⟨-, ⟨qa, qn, qc, qh, -⟩, -, -, -, -⟩ := hSw; obtain ⟨-, q1, -, -⟩ := two_cell qh; clear qh; go_simp; first | done | with_reducible rfl)
                        try simp only [Act.put, List.setIfInBounds_toArray, List.set_cons_zero, List.set_cons_succ]
                        refine wpAnyH_take (i := 7) (oi := ?_) (v := ?_) (by simp only [List.getElem?_toArray, List.getElem?_cons_zero, List.getElem?_cons_succ]; rfl) (by kernel_rfl) (by kernel_rfl) (by kernel_rfl) (by exact fun _ _ _ h => h) (Or.inl ⟨by rfl, ?_⟩) (by assumption) ?_
                        rotate_left
                        · (intro w hSw; (try dsimp only at hSw); obtain ⟨-, ⟨qa, qn, qc, qh, -⟩, -, -, -, -⟩ := hSw; obtain ⟨-, q1, -, -⟩ := two_cell qh; clear qh; go_simp; first | done | with_reducible rfl)
                        try simp only [Act.put, List.setIfInBounds_toArray, List.set_cons_zero, List.set_cons_succ]
                        refine wpAnyH_take (i := 8) (oi := ?_) (v := ?_) (by simp only [List.getElem?_toArray, List.getElem?_cons_zero, List.getElem?_cons_succ]; rfl) (by kernel_rfl) (by kernel_rfl) (by kernel_rfl) (by exact fun _ _ _ h => h) (Or.inl ⟨by rfl, ?_⟩) (by assumption) ?_
                        rotate_left
                        · (intro w hSw; (try dsimp only at hSw); obtain ⟨-, ⟨qa, qn, qc, qh, -⟩, -, -, -, -⟩ := hSw; obtain ⟨-, q1, -, -⟩ := two_cell qh; clear qh; go_simp; first | done | with_reducible rfl)
                        try simp only [Act.put, List.setIfInBounds_toArray, List.set_cons_zero, List.set_cons_succ]
                        refine wpAnyH_take (i := 10) (oi := ?_) (v := ?_) (by simp only [List.getElem?_toArray, List.getElem?_cons_zero, List.getElem?_cons_succ]; rfl) (by kernel_rfl) (by kernel_rfl) (by kernel_rfl) (by exact fun _ _ _ h => h) (Or.inl ⟨by rfl, ?_⟩) (by assumption) ?_
                        rotate_left
                        · (intro w hSw; (try dsimp only at hSw); obtain ⟨-, ⟨qa, qn, qc, qh, -⟩, -, -, -, -⟩ := hSw; obtain ⟨-, q1, -, -⟩ := two_cell qh; clear qh; go_simp; first | done | with_reducible rfl)
                        try simp only [Act.put, List.setIfInBounds_toArray, List.set_cons_zero, List.set_cons_succ]
                        refine wpAnyH_ready (rs := [9]) (by kernel_rfl) (by simp) ?_
                        refine AllReadyH.cons (o := ?_) (by simp only [List.getElem?_toArray, List.getElem?_cons_zero, List.getElem?_cons_succ]; rfl) (fun K hK => ?_) ?_
                        · go_simp
                          refine (end_to BP l3 true _ HE1.out hHeld.r).mono ?_
                          rintro e w5 ⟨rfl, rfl⟩
                          try dsimp only
                          refine hK.out _ _ ?_ (fun hHeld2 => ?_)
                          · exact hHeld
                          clear hK K hHeld
                          have hHeld := hHeld2
                          clear hHeld2
                          try simp only [Act.put, List.setIfInBounds_toArray, List.set_cons_zero, List.set_cons_succ]
                          refine wpAnyH_ready (rs := [11]) (by kernel_rfl) (by simp) ?_
                          refine AllReadyH.cons (o := ?_) (by simp only [List.getElem?_toArray, List.getElem?_cons_zero, List.getElem?_cons_succ]; rfl) (fun K hK => ?_) ?_
                          · go_simp
                            refine (qend_to D l4 true _ HE2.out hHeld.s).mono ?_
                            rintro e w5 ⟨rfl, rfl⟩
                            try dsimp only
                            refine hK.out _ _ ?_ (fun hHeld2 => ?_)
                            · exact hHeld
                            clear hK K hHeld
                            have hHeld := hHeld2
                            clear hHeld2
                            try simp only [Act.put, List.setIfInBounds_toArray, List.set_cons_zero, List.set_cons_succ]
                            refine wpAnyH_take (i := 12) (oi := ?_) (v := ?_) (by simp only [List.getElem?_toArray, List.getElem?_cons_zero, List.getElem?_cons_succ]; rfl) (by kernel_rfl) (by kernel_rfl) (by kernel_rfl) (by exact fun _ _ _ h => h) (Or.inl ⟨by rfl, ?_⟩) (by assumption) ?_
                            rotate_left
                            · (intro w hSw; (try dsimp only at hSw); obtain ⟨-, ⟨qa, qn, qc, qh, -⟩, -, -, -, -⟩ := hSw; obtain ⟨-, q1, -, -⟩ := two_cell qh; clear qh; go_simp; first | done | with_reducible rfl)
                            try simp only [Act.put, List.setIfInBounds_toArray, List.set_cons_zero, List.set_cons_succ]
                            refine wpAnyH_take (i := 13) (oi := ?_) (v := ?_) (by simp only [List.getElem?_toArray, List.getElem?_cons_zero, List.getElem?_cons_succ]; rfl) (by kernel_rfl) (by kernel_rfl) (by kernel_rfl) (by exact fun _ _ _ h => h) (Or.inl ⟨by rfl, ?_⟩) (by assumption) ?_
                            rotate_left
                            · (intro w hSw; (try dsimp only at hSw); obtain ⟨-, ⟨qa, qn, qc, qh, -⟩, -, -, -, -⟩ := hSw; obtain ⟨-, q1, -, -⟩ := two_cell qh; clear qh; go_simp; first | done | with_reducible rfl)
                            try simp only [Act.put, List.setIfInBounds_toArray, List.set_cons_zero, List.set_cons_succ]
                            refine wpAnyH_done (by kernel_rfl) ?_ _
                            go_wp2_with fail
                            go_roundw
                            case rel => exact ⟨j + 1, l3, _, l4, _, by omega, by go_num, ⟨hHeld, HK.out.2⟩⟩
                            case measure => simp [intOf]; omega
                          exact AllReadyH.nil
                        exact AllReadyH.nil
                      exact AllReadyH.nil
                · have t2' : ¬ (j : Int) < 20 := t2
                  go_wp2_with fail
                  go_roundw
                  case rel => exact ⟨k + 1, by omega, by go_num, ⟨HE.out.1.below HI.out.1.below, HE.out.2.trans (HI.out.1.below.mono HE.out.2.size)⟩⟩
                  case measure => simp [intOf]; omega
              · have t1' : decide (j < Y.length) = false := by simpa using t1
                go_wp2_with fail
                go_roundw
                case rel => exact ⟨k + 1, by omega, by go_num, ⟨HE.out.1.below HI.out.1.below, HE.out.2.trans (HI.out.1.below.mono HE.out.2.size)⟩⟩
                case measure => simp [intOf]; omega
          · have hke : k = 5 := by omega
            subst hke
            go_wp2_with (go_at_call 24; (with_reducible refine (awake2_any _).mono ?_); rintro e w' ⟨rfl, hb⟩; have HBa := As.mk hb; clear hb)
            go_ret
            exact ⟨rfl, HE.out.2.trans (HBa.out.mono HE.out.2.size)⟩
theorem wirePlays_row (a0 : Option Addr) (len0 cap0 : Nat) (zs0 : List Int) {w : World} (h0 : IsRow .u8 w a0 len0 cap0 zs0) (g0 : len0 * 1 ≤ 140737488351232) (a1 : Option Addr) (len1 cap1 : Nat) (zs1 : List Int) (h1 : IsRow .i64 w a1 len1 cap1 zs1) (g1 : len1 * 8 ≤ 140737488351232)
    (u : Int) (wu : (Lit.int .u64 u).wf = true) (a3 : Option Addr) (len3 cap3 : Nat) (zs3 : List Int) (h3 : IsRow .i64 w a3 len3 cap3 zs3) (g3 : len3 * 8 ≤ 140737488351232) (at_ : Int) (wat : (Lit.int .i64 at_).wf = true) (by_ : Int) (wby : (Lit.int .u8 by_).wf = true) :
    Calls Try.prog 7 #[.slice a0 len0 cap0, .slice a1 len1 cap1, .int .u64 u, .slice a3 len3 cap3, .int .i64 at_, .int .u8 by_] w fun e w' => e = .returned (.bool true) ∧ Below w.heap.size w w' := by
  obtain ⟨l, rfl, hr⟩ := h0.rdB
  obtain ⟨z, rfl, hz, hzb⟩ := IsRow.rdI h1
  obtain ⟨y, rfl, hy, hyb⟩ := IsRow.rdI h3
  have hu := bounds_u64 wu
  obtain ⟨U, rfl⟩ := Int.eq_ofNat_of_zero_le hu.1
  exact wirePlays_walk a0 a1 a3 cap0 cap1 cap3 l z y U at_ by_ w hr hz hy hzb hyb (by omega) (bounds_u8 wby).1 (bounds_u8 wby).2
end Go.Proofs.Ytfggkljgfadacaa.W
