/- What is told: names, and the document's numbers and hex. -/
import Derived.Test.YtodcbcpjlhlakaaDoorR1
set_option linter.unusedVariables false
set_option linter.unusedSimpArgs false
namespace Go.Proofs.YtodcbcpjlhlakaaDoor.W
open Go.RowKit Go.Proofs.YtodcbcpjlhlakaaDoor.B Go.Proofs

theorem id_cut (x : List UInt8) (hx : x.length = 32) (w : World) : RdB (w.alloc (.cells (x.map u8v).toArray 22)) (.slice (some ⟨w.heap.size, 0, none⟩) 4 32) (x.take 4) := by
  have hl : (x.take 4).length = 4 := by rw [List.length_take]; omega
  unfold RdB
  rw [hl]
  refine ⟨by rw [List.length_map, hl], _, _, rfl, by decide, by decide, (fun h => by cases h), ?_⟩
  rintro ad had j u hu
  obtain rfl := Option.some.inj had
  rw [Addr.add_mid]
  have h1 : (x.map u8v)[j]? = some u := by
    rw [List.map_take, List.getElem?_take] at hu
    split at hu
    · exact hu
    · cases hu
  simp [World.cell?_alloc_mark, h1]
theorem id_any (x : List UInt8) (hx : x.length = 32) (w : World) :
    Calls Tryd.prog 17 #[.agg (x.map u8v).toArray] w fun e w' => e = .returned (str (hexL (x.take 4))) ∧ Below w.heap.size w w' := by
  have HX := As.mk (id_cut x hx w)
  have HL : As ((x.take 4).length ≤ 2000000) := ⟨by rw [List.length_take]; omega⟩
  obtain ⟨cs, hcs⟩ : ∃ cs, cs = (x.map u8v).toArray := ⟨_, rfl⟩
  have hsz : cs.size = 32 := by rw [hcs]; simp [hx]
  rw [← hcs] at HX ⊢
  clear hcs
  go_enter Tryd.func17, Tryd.ntmps17
  go_wp2_with (go_at_call 22; (with_reducible refine (hex_any _ _ _ HX.out HL.out).mono ?_); rintro e w1 ⟨rfl, hb⟩; have HB := As.mk ((below_al w (.cells cs 22)).trans (hb.mono (below_al w (.cells cs 22)).size)); clear hb)
  go_ret
  exact ⟨rfl, HB.out⟩
set_option maxRecDepth 100000 in
set_option maxHeartbeats 1000000 in
theorem qhex_any (v : Value) (b : List UInt8) (w : World) (hr : RdB w v b) (hl : b.length ≤ 2000000) :
    Calls Tryd.prog 6 #[v] w fun e w' => e = .returned (str (hexL b)) ∧ Below w.heap.size w w' := by
  obtain ⟨A, c, rfl, -⟩ := RdB.form hr
  have HR := As.mk hr
  have HL : As ((b.length : Int) ≤ 2000000) := ⟨by omega⟩
  have hl := HL.out
  clear hr
  go_enter Tryd.func6, Tryd.ntmps6
  go_wp2
  go_loopw [3, 4] (fun v3 v4 wr => ∃ k : Nat, v4 = .int .i64 (k : Int) ∧ (k : Int) ≤ b.length ∧ v3 = .string ⟨((b.take k).flatMap hex2).toArray⟩ ∧ As (Below w.heap.size w wr)) (fun _ v4 _ => b.length - (intOf v4).toNat)
  case atStart => exact ⟨0, rfl, by omega, rfl, ⟨Below.refl _ _⟩⟩
  case round =>
    obtain ⟨k, rfl, hk, rfl, HB⟩ := hrel
    by_cases hlt : (k : Int) < b.length
    · obtain ⟨ad, rfl, hcell⟩ := RdB.at (HR.out.below HB.out) k (by omega)
      obtain ⟨x, hx⟩ : ∃ x, b[k]? = some x := ⟨_, List.getElem?_eq_getElem (by omega)⟩
      have hxx : b.getD k 0 = x := by rw [List.getD_eq_getElem?_getD, hx]; rfl
      rw [hxx] at hcell
      have HX : As ((b.take (k + 1)).flatMap hex2 = (b.take k).flatMap hex2 ++ hex2 x) := ⟨hex2_snoc hx⟩
      obtain ⟨L, hL⟩ : ∃ L, L = (b.take k).flatMap hex2 := ⟨_, rfl⟩
      have HLN : As (L.length ≤ 4000000) := ⟨by rw [hL, hex2_length, List.length_take]; omega⟩
      rw [← hL] at HX ⊢
      clear hx hxx hL
      have hx8 := x.toNat_lt
      obtain ⟨p, hp⟩ : ∃ p : Nat, p = x.toNat / 16 := ⟨_, rfl⟩
      obtain ⟨q, hq⟩ : ∃ q : Nat, q = x.toNat % 16 := ⟨_, rfl⟩
      have hp1 : (x.toNat : Int) / 16 = (p : Int) := by omega
      have hq1 : bits .and .u8 (x.toNat : Int) 15 = (q : Int) := by rw [u8_mask15]; omega
      have hp2 : (p : Int) < 16 := by omega
      have hq2 : (q : Int) < 16 := by omega
      have H2 : As (hex2 x = [dig p, dig q]) := ⟨by unfold hex2; rw [hp, hq]⟩
      have hdg := dig_at
      have HC := As.mk hcell
      clear hp hq hx8 hcell
      go_upto_region 5 with fail
      refine wp_region_held_drew (S := (fun W : World => Below wr.heap.size wr W)) (by kernel_rfl) ?_ (fun hHeld => ?_)
      · exact below_dr wr
      refine wpAnyH_take (i := 0) (oi := ?_) (v := ?_) (by simp only [List.getElem?_toArray, List.getElem?_cons_zero, List.getElem?_cons_succ]; rfl) (by kernel_rfl) (by kernel_rfl) (by kernel_rfl) (by exact fun _ _ _ h => h) (Or.inl ⟨by rfl, ?_⟩) (by assumption) ?_
      rotate_left
      · (intro w hSw; (try dsimp only at hSw); have hcell := cell_below hSw HC.out; go_simp; first | done | with_reducible rfl)
      try simp only [Act.put, List.setIfInBounds_toArray, List.set_cons_zero, List.set_cons_succ]
      refine wpAnyH_take (i := 1) (oi := ?_) (v := ?_) (by simp only [List.getElem?_toArray, List.getElem?_cons_zero, List.getElem?_cons_succ]; rfl) (by kernel_rfl) (by kernel_rfl) (by kernel_rfl) (by exact fun _ _ _ h => h) (Or.inl ⟨by rfl, ?_⟩) (by assumption) ?_
      rotate_left
      · (intro w hSw; (try dsimp only at hSw); have hcell := cell_below hSw HC.out; go_simp; first | done | with_reducible rfl)
      try simp only [Act.put, List.setIfInBounds_toArray, List.set_cons_zero, List.set_cons_succ]
      refine wpAnyH_take (i := 2) (oi := ?_) (v := ?_) (by simp only [List.getElem?_toArray, List.getElem?_cons_zero, List.getElem?_cons_succ]; rfl) (by kernel_rfl) (by kernel_rfl) (by kernel_rfl) (by exact fun _ _ _ h => h) (Or.inl ⟨by rfl, ?_⟩) (by assumption) ?_
      rotate_left
      · (intro w hSw; (try dsimp only at hSw); have hcell := cell_below hSw HC.out; go_simp; first | done | with_reducible rfl)
      try simp only [Act.put, List.setIfInBounds_toArray, List.set_cons_zero, List.set_cons_succ]
      refine wpAnyH_take (i := 3) (oi := ?_) (v := ?_) (by simp only [List.getElem?_toArray, List.getElem?_cons_zero, List.getElem?_cons_succ]; rfl) (by kernel_rfl) (by kernel_rfl) (by kernel_rfl) (by exact fun _ _ _ h => h) (Or.inl ⟨by rfl, ?_⟩) (by assumption) ?_
      rotate_left
      · (intro w hSw; (try dsimp only at hSw); have hcell := cell_below hSw HC.out; go_simp; first | done | with_reducible rfl)
      try simp only [Act.put, List.setIfInBounds_toArray, List.set_cons_zero, List.set_cons_succ]
      refine wpAnyH_take (i := 4) (oi := ?_) (v := ?_) (by simp only [List.getElem?_toArray, List.getElem?_cons_zero, List.getElem?_cons_succ]; rfl) (by kernel_rfl) (by kernel_rfl) (by kernel_rfl) (by exact fun _ _ _ h => h) (Or.inl ⟨by rfl, ?_⟩) (by assumption) ?_
      rotate_left
      · (intro w hSw; (try dsimp only at hSw); have hcell := cell_below hSw HC.out; go_simp; first | done | with_reducible rfl)
      try simp only [Act.put, List.setIfInBounds_toArray, List.set_cons_zero, List.set_cons_succ]
      refine wpAnyH_take (i := 5) (oi := ?_) (v := ?_) (by simp only [List.getElem?_toArray, List.getElem?_cons_zero, List.getElem?_cons_succ]; rfl) (by kernel_rfl) (by kernel_rfl) (by kernel_rfl) (by exact fun _ _ _ h => h) (Or.inl ⟨by rfl, ?_⟩) (by assumption) ?_
      rotate_left
      · (intro w hSw; (try dsimp only at hSw); have hcell := cell_below hSw HC.out; go_simp; first | done | with_reducible rfl)
      try simp only [Act.put, List.setIfInBounds_toArray, List.set_cons_zero, List.set_cons_succ]
      refine wpAnyH_take (i := 6) (oi := ?_) (v := ?_) (by simp only [List.getElem?_toArray, List.getElem?_cons_zero, List.getElem?_cons_succ]; rfl) (by kernel_rfl) (by kernel_rfl) (by kernel_rfl) (by exact fun _ _ _ h => h) (Or.inl ⟨by rfl, ?_⟩) (by assumption) ?_
      rotate_left
      · (intro w hSw; (try dsimp only at hSw); have hcell := cell_below hSw HC.out; go_simp; first | done | with_reducible rfl)
      try simp only [Act.put, List.setIfInBounds_toArray, List.set_cons_zero, List.set_cons_succ]
      refine wpAnyH_take (i := 7) (oi := ?_) (v := ?_) (by simp only [List.getElem?_toArray, List.getElem?_cons_zero, List.getElem?_cons_succ]; rfl) (by kernel_rfl) (by kernel_rfl) (by kernel_rfl) (by exact fun _ _ _ h => h) (Or.inl ⟨by rfl, ?_⟩) (by assumption) ?_
      rotate_left
      · (intro w hSw; (try dsimp only at hSw); have hcell := cell_below hSw HC.out; go_simp; first | done | with_reducible rfl)
      try simp only [Act.put, List.setIfInBounds_toArray, List.set_cons_zero, List.set_cons_succ]
      refine wpAnyH_take (i := 8) (oi := ?_) (v := ?_) (by simp only [List.getElem?_toArray, List.getElem?_cons_zero, List.getElem?_cons_succ]; rfl) (by kernel_rfl) (by kernel_rfl) (by kernel_rfl) (by exact fun _ _ _ h => h) (Or.inl ⟨by rfl, ?_⟩) (by assumption) ?_
      rotate_left
      · (intro w hSw; (try dsimp only at hSw); have hcell := cell_below hSw HC.out; go_simp; first | done | with_reducible rfl)
      try simp only [Act.put, List.setIfInBounds_toArray, List.set_cons_zero, List.set_cons_succ]
      refine wpAnyH_take (i := 9) (oi := ?_) (v := ?_) (by simp only [List.getElem?_toArray, List.getElem?_cons_zero, List.getElem?_cons_succ]; rfl) (by kernel_rfl) (by kernel_rfl) (by kernel_rfl) (by exact fun _ _ _ h => h) (Or.inl ⟨by rfl, ?_⟩) (by assumption) ?_
      rotate_left
      · (intro w hSw; (try dsimp only at hSw); have hcell := cell_below hSw HC.out; go_simp; first | done | with_reducible rfl)
      try simp only [Act.put, List.setIfInBounds_toArray, List.set_cons_zero, List.set_cons_succ]
      refine wpAnyH_take (i := 10) (oi := ?_) (v := ?_) (by simp only [List.getElem?_toArray, List.getElem?_cons_zero, List.getElem?_cons_succ]; rfl) (by kernel_rfl) (by kernel_rfl) (by kernel_rfl) (by exact fun _ _ _ h => h) (Or.inl ⟨by rfl, ?_⟩) (by assumption) ?_
      rotate_left
      · (intro w hSw; (try dsimp only at hSw); have hcell := cell_below hSw HC.out; go_simp; first | done | with_reducible rfl)
      try simp only [Act.put, List.setIfInBounds_toArray, List.set_cons_zero, List.set_cons_succ]
      refine wpAnyH_take (i := 11) (oi := ?_) (v := ?_) (by simp only [List.getElem?_toArray, List.getElem?_cons_zero, List.getElem?_cons_succ]; rfl) (by kernel_rfl) (by kernel_rfl) (by kernel_rfl) (by exact fun _ _ _ h => h) (Or.inl ⟨by rfl, ?_⟩) (by assumption) ?_
      rotate_left
      · (intro w hSw; (try dsimp only at hSw); have hcell := cell_below hSw HC.out; go_simp; first | done | with_reducible rfl)
      try simp only [Act.put, List.setIfInBounds_toArray, List.set_cons_zero, List.set_cons_succ]
      refine wpAnyH_take (i := 12) (oi := ?_) (v := ?_) (by simp only [List.getElem?_toArray, List.getElem?_cons_zero, List.getElem?_cons_succ]; rfl) (by kernel_rfl) (by kernel_rfl) (by kernel_rfl) (by exact fun _ _ _ h => h) (Or.inl ⟨by rfl, ?_⟩) (by assumption) ?_
      rotate_left
      · (intro w hSw; (try dsimp only at hSw); have hcell := cell_below hSw HC.out; go_simp; first | done | with_reducible rfl)
      try simp only [Act.put, List.setIfInBounds_toArray, List.set_cons_zero, List.set_cons_succ]
      refine wpAnyH_ready (rs := [13]) (by kernel_rfl) (by simp) ?_
      refine AllReadyH.cons (o := ?_) (by simp only [List.getElem?_toArray, List.getElem?_cons_zero, List.getElem?_cons_succ]; rfl) (fun K hK => ?_) ?_
      · go_simp
        have HBN := As.mk (OwB.two wr.drew w.heap.size HB.out.size (dig p) (dig q))
        have hS2 : Below wr.heap.size wr (wr.drew.alloc (.cells #[.int .u8 ((dig p).toNat : Int), .int .u8 ((dig q).toNat : Int)] 5)) := (below_dr wr).alloc (Nat.le_refl _) _
        refine hK.out _ _ ?_ (fun hHeld2 => ?_)
        · first | exact hS2 | assumption
        clear hK K hHeld
        have hHeld := hHeld2
        clear hHeld2
        try simp only [Act.put, List.setIfInBounds_toArray, List.set_cons_zero, List.set_cons_succ]
        refine wpAnyH_ready (rs := [14]) (by kernel_rfl) (by simp) ?_
        refine AllReadyH.cons (o := ?_) (by simp only [List.getElem?_toArray, List.getElem?_cons_zero, List.getElem?_cons_succ]; rfl) (fun K hK => ?_) ?_
        · refine step_str ?hgd (.tmp 24) ?ho (.slice (some ⟨wr.heap.size, 0, none⟩) 2 2) ?hx [dig p, dig q] HBN.out.rd ?_
          case hgd => rfl
          case ho => rfl
          case hx => rfl
          refine hK.out _ _ ?_ (fun hHeld2 => ?_)
          · first | exact hS2 | assumption
          clear hK K hHeld
          have hHeld := hHeld2
          clear hHeld2
          try simp only [Act.put, List.setIfInBounds_toArray, List.set_cons_zero, List.set_cons_succ]
          refine wpAnyH_take (i := 15) (oi := ?_) (v := ?_) (by simp only [List.getElem?_toArray, List.getElem?_cons_zero, List.getElem?_cons_succ]; rfl) (by kernel_rfl) (by kernel_rfl) (by kernel_rfl) (by exact fun _ _ _ h => h) (Or.inl ⟨by rfl, ?_⟩) (by assumption) ?_
          rotate_left
          · (intro w2 hw2; refine exec_cat (.tmp 11) (.tmp 25) ?_ L [dig p, dig q] ?_ ?_ ?_; rfl; rfl; rfl; (have := HLN.out; show L.length + 2 ≤ _; omega))
          try simp only [Act.put, List.setIfInBounds_toArray, List.set_cons_zero, List.set_cons_succ]
          refine wpAnyH_take (i := 16) (oi := ?_) (v := ?_) (by simp only [List.getElem?_toArray, List.getElem?_cons_zero, List.getElem?_cons_succ]; rfl) (by kernel_rfl) (by kernel_rfl) (by kernel_rfl) (by exact fun _ _ _ h => h) (Or.inl ⟨by rfl, ?_⟩) (by assumption) ?_
          rotate_left
          · (intro w hSw; (try dsimp only at hSw); have hcell := cell_below hSw HC.out; go_simp; first | done | with_reducible rfl)
          try simp only [Act.put, List.setIfInBounds_toArray, List.set_cons_zero, List.set_cons_succ]
          refine wpAnyH_done (by kernel_rfl) ?_ _
          have HB4 := As.mk (HB.out.trans (hHeld.mono HB.out.size))
          clear hHeld
          go_wp2
          go_roundw
          case rel => exact ⟨k + 1, by go_num, by omega, by rw [HX.out, H2.out], HB4⟩
          case measure => simp [intOf]; omega
        exact AllReadyH.nil
      exact AllReadyH.nil
    · have hkN : k = b.length := by omega
      have hkb : (b.take k) = b := by rw [hkN, List.take_length]
      rw [hkb]
      clear hkN hkb
      by_cases h0 : b = []
      · have HE : As (hexL b = [45]) := ⟨by unfold hexL; rw [if_pos h0]⟩
        subst h0
        go_wp2
        go_ret
        rw [HE.out]
        exact ⟨rfl, HB.out⟩
      · have HE : As (hexL b = b.flatMap hex2) := ⟨by unfold hexL; rw [if_neg h0]⟩
        have hne : ¬ b.flatMap hex2 = [] := fun e => by have := hex2_length b; rw [e] at this; have h3 := List.length_pos_iff.2 h0; have h4 : ([] : List UInt8).length = 0 := rfl; omega
        obtain ⟨L, hL⟩ : ∃ L, L = b.flatMap hex2 := ⟨_, rfl⟩
        rw [← hL] at HE hne ⊢
        have hne2 : (L == []) = false := beq_eq_false_iff_ne.2 hne
        clear hL h0
        go_wp2
        go_ret
        rw [HE.out]
        exact ⟨rfl, HB.out⟩
theorem qid_any (x : List UInt8) (hx : x.length = 32) (w : World) :
    Calls Tryd.prog 27 #[.agg (x.map u8v).toArray] w fun e w' => e = .returned (str (hexL (x.take 4))) ∧ Below w.heap.size w w' := by
  have HX := As.mk (id_cut x hx w)
  have HL : As ((x.take 4).length ≤ 2000000) := ⟨by rw [List.length_take]; omega⟩
  obtain ⟨cs, hcs⟩ : ∃ cs, cs = (x.map u8v).toArray := ⟨_, rfl⟩
  have hsz : cs.size = 32 := by rw [hcs]; simp [hx]
  rw [← hcs] at HX ⊢
  clear hcs
  go_enter Tryd.func27, Tryd.ntmps27
  go_wp2_with (go_at_call 6; (with_reducible refine (qhex_any _ _ _ HX.out HL.out).mono ?_); rintro e w1 ⟨rfl, hb⟩; have HB := As.mk ((below_al w (.cells cs 22)).trans (hb.mono (below_al w (.cells cs 22)).size)); clear hb)
  go_ret
  exact ⟨rfl, HB.out⟩
end Go.Proofs.YtodcbcpjlhlakaaDoor.W
