/- Any step, and what is said, has the text that the document says; any text is the step whose text it is, or none. -/
import Derived.Test.YtodcbcpjlhlakaaDoorR32
set_option linter.unusedVariables false
set_option linter.unusedSimpArgs false
namespace Go.Proofs.YtodcbcpjlhlakaaDoor.W
open Go.RowKit Go.Proofs.YtodcbcpjlhlakaaDoor.B Go.Proofs

set_option maxHeartbeats 16000000 in
set_option maxRecDepth 100000 in
theorem tells_walk (k0 p0 n0 : Int) (g : Bool) (bv lv : Value) (bs : List UInt8) (ls : List (List UInt8)) (ky0 py cc : Int) (x : List UInt8) (iv : Value) (ids : List (List UInt8)) (ny : Nat) (rv : Value) (rb : List UInt8) (at_ : Int) (b8 : UInt8) (kind : Int) (w : World) (he : Env w)
    (hk : (-9223372036854775808 ≤ k0 ∧ k0 ≤ 9223372036854775807)) (hp : (-9223372036854775808 ≤ p0 ∧ p0 ≤ 9223372036854775807)) (hn : (-9223372036854775808 ≤ n0 ∧ n0 ≤ 9223372036854775807)) (h1 : RdB w bv bs) (h2 : RdW w lv ls) (hsum : (ls.map List.length).sum ≤ 1048576)
    (hky : (-9223372036854775808 ≤ ky0 ∧ ky0 ≤ 9223372036854775807)) (hpy : (-9223372036854775808 ≤ py ∧ py ≤ 9223372036854775807)) (hcc : (-9223372036854775808 ≤ cc ∧ cc ≤ 9223372036854775807)) (hx : x.length = 32) (h3 : RdN w iv ids) (hny : ny < 18446744073709551616) (h4 : RdB w rv rb) :
    Calls Tryd.prog 4 #[.agg #[.int .i64 k0, .int .i64 p0, .int .i64 n0, .bool g, bv, lv], .agg (sayC ky0 py cc (x.map u8v) iv ny).toArray, rv, .int .i64 at_, .int .u8 (b8.toNat : Int), .int .i64 kind] w fun e w' => e = .returned (.bool true) ∧ Below w.heap.size w w' := by
  obtain ⟨Ab, cb, rfl, lb1, lb2, -⟩ := RdB.form h1
  obtain ⟨Al, cl, rfl, ll1, ll2, -⟩ := h2.form
  obtain ⟨Ai, ci, rfl, li1, li2, -⟩ := h3.form
  obtain ⟨Ar, cr, rfl, lr1, lr2, -⟩ := RdB.form h4
  have hlb : (bs.length : Int) ≤ 9223372036854775807 := by unfold maxLen at lb2; omega
  have hll : (ls.length : Int) ≤ 9223372036854775807 := by unfold maxLen at ll2; omega
  have hli : (ids.length : Int) ≤ 9223372036854775807 := by unfold maxLen at li2; omega
  have hlr : (rb.length : Int) ≤ 9223372036854775807 := by unfold maxLen at lr2; omega
  obtain ⟨cx, hcx⟩ : ∃ c, c = x.map u8v := ⟨_, rfl⟩
  have HCX := As.mk hcx
  have HX := As.mk hx
  have HLX : As (cx.length = 32) := ⟨by rw [hcx]; simp [hx]⟩
  have HEN := As.mk he
  have HRB := As.mk h1
  have HRW := As.mk h2
  have HRN := As.mk h3
  have HRR := As.mk h4
  have HK0 := As.mk hk
  have HP0 := As.mk hp
  have HN0 := As.mk hn
  have HKY := As.mk hky
  have HPY := As.mk hpy
  have HCC := As.mk hcc
  have HNY := As.mk hny
  have HSUM := As.mk hsum
  rw [← hcx]
  have H35 := As.mk ((idx5 (a := .int .i64 ky0) (b := .int .i64 py) (c := .int .i64 cc) (iv := .slice Ai ids.length ci) (nv := .int .u64 (ny : Int)) HLX.out).1)
  clear hcx hx he h1 h2 h3 h4 hk hp hn hky hpy hcc hny hsum lb1 lb2 ll1 ll2 li1 li2 lr1 lr2
  go_enter Tryd.func4, Tryd.ntmps4
  go_upto_region 1 with fail
  have HT0 : As (TS w ((w.alloc (.cells #[.int .i64 k0, .int .i64 p0, .int .i64 n0, .bool g, .slice Ab bs.length cb, .slice Al ls.length cl] 35)).alloc (.cells (sayC ky0 py cc cx (.slice Ai ids.length ci) ny).toArray 26)) w.heap.size (w.heap.size + 1) [.int .i64 k0, .int .i64 p0, .int .i64 n0, .bool g, .slice Ab bs.length cb, .slice Al ls.length cl] (sayC ky0 py cc cx (.slice Ai ids.length ci) ny)) := ⟨by
    refine ⟨(below_al w _).alloc (by simp) _, Box.below (Box.new w _ 35) (below_al _ _), ?_, Nat.le_refl _, by omega⟩
    have h := Box.new (w.alloc (.cells #[.int .i64 k0, .int .i64 p0, .int .i64 n0, .bool g, .slice Ab bs.length cb, .slice Al ls.length cl] 35)) (sayC ky0 py cc cx (.slice Ai ids.length ci) ny).toArray 26
    simpa using h⟩
  generalize ((w.alloc (.cells #[.int .i64 k0, .int .i64 p0, .int .i64 n0, .bool g, .slice Ab bs.length cb, .slice Al ls.length cl] 35)).alloc (.cells (sayC ky0 py cc cx (.slice Ai ids.length ci) ny).toArray 26)) = W0 at HT0 ⊢
  generalize w.heap.size + 1 = Y at HT0 ⊢
  obtain ⟨S, hS⟩ : ∃ S, S = w.heap.size := ⟨_, rfl⟩
  have HTS : As (TS w W0 S Y [.int .i64 k0, .int .i64 p0, .int .i64 n0, .bool g, .slice Ab bs.length cb, .slice Al ls.length cl] (sayC ky0 py cc cx (.slice Ai ids.length ci) ny)) := ⟨by rw [hS]; exact HT0.out⟩
  rw [← hS]
  clear hS HT0
  have HT0 := HTS
  clear HTS
  have HEW := As.mk (HEN.out.below HT0.out.bl)
  have c4 := HT0.out.c 4 _ rfl
  have c5 := HT0.out.c 5 _ rfl
  have y35 := HT0.out.yc 35 _ H35.out
  by_cases h1 : (200 : Int) < (bs.length : Int)
  · go_wp2_with (go_at_call 8; (with_reducible refine (awake_as _ HEW.out).mono ?_); rintro e w9 ⟨rfl, hb⟩; have HB9 := As.mk (HT0.out.bl.trans (hb.mono HT0.out.bl.size)); clear hb)
    go_ret
    exact ⟨rfl, HB9.out⟩
  have h1' : (bs.length : Int) ≤ 200 := by omega
  clear h1 hlb
  by_cases h2 : (10 : Int) < (ls.length : Int)
  · go_wp2_with (go_at_call 8; (with_reducible refine (awake_as _ HEW.out).mono ?_); rintro e w9 ⟨rfl, hb⟩; have HB9 := As.mk (HT0.out.bl.trans (hb.mono HT0.out.bl.size)); clear hb)
    go_ret
    exact ⟨rfl, HB9.out⟩
  have h2' : (ls.length : Int) ≤ 10 := by omega
  clear h2 hll
  by_cases h3 : (100 : Int) < (rb.length : Int)
  · go_wp2_with (go_at_call 8; (with_reducible refine (awake_as _ HEW.out).mono ?_); rintro e w9 ⟨rfl, hb⟩; have HB9 := As.mk (HT0.out.bl.trans (hb.mono HT0.out.bl.size)); clear hb)
    go_ret
    exact ⟨rfl, HB9.out⟩
  have h3' : (rb.length : Int) ≤ 100 := by omega
  clear h3 hlr
  by_cases h4 : (30 : Int) < (ids.length : Int)
  · go_wp2_with (go_at_call 8; (with_reducible refine (awake_as _ HEW.out).mono ?_); rintro e w9 ⟨rfl, hb⟩; have HB9 := As.mk (HT0.out.bl.trans (hb.mono HT0.out.bl.size)); clear hb)
    go_ret
    exact ⟨rfl, HB9.out⟩
  have h4' : (ids.length : Int) ≤ 30 := by omega
  clear h4 hli
  have HL1 : As (bs.length ≤ 200) := ⟨by omega⟩
  have HL2 : As (ls.length ≤ 10) := ⟨by omega⟩
  have HL3 : As (rb.length ≤ 100) := ⟨by omega⟩
  have HL4 : As (ids.length ≤ 2000000) := ⟨by omega⟩
  go_upto_region 3 with fail
  clear c4 c5 y35 h1' h2' h3' h4'
  go_wp2
  go_loopw [13] (fun v13 wr => ∃ (q : Nat) (k p n ky : Int), v13 = .int .i64 (q : Int) ∧ (q : Int) ≤ 2 ∧ As ((-9223372036854775808 ≤ k ∧ k ≤ 9223372036854775807) ∧ (-9223372036854775808 ≤ p ∧ p ≤ 9223372036854775807) ∧ (-9223372036854775808 ≤ n ∧ n ≤ 9223372036854775807) ∧ (-9223372036854775808 ≤ ky ∧ ky ≤ 9223372036854775807)) ∧ As (q = 1 → (1 ≤ k ∧ k ≤ 9) ∧ (0 ≤ p ∧ p < 65536) ∧ (0 ≤ n ∧ n < 65536)) ∧ As (TS w wr S Y [.int .i64 k, .int .i64 p, .int .i64 n, .bool g, .slice Ab bs.length cb, .slice Al ls.length cl] (sayC ky py cc cx (.slice Ai ids.length ci) ny))) (fun v13 _ => 2 - (intOf v13).toNat)
  case atStart => exact ⟨0, k0, p0, n0, ky0, rfl, by omega, ⟨HK0.out, HP0.out, HN0.out, HKY.out⟩, ⟨fun h => by cases h⟩, HT0⟩
  case round =>
    clear HT0 HEW HK0 HP0 HN0 HKY H35
    obtain ⟨q, k, p, n, ky, rfl, hq, HBD, HQ1, HT⟩ := hrel
    have HEW := As.mk (HEN.out.below HT.out.bl)
    by_cases hlt : (q : Int) < 2
    · have HFS : As (Fit ⟨k, p, n, g, bs, ls⟩) := ⟨HBD.out.1, HBD.out.2.1, HBD.out.2.2.1, by have := HL1.out; show bs.length ≤ _; omega, by have := HL2.out; show ls.length ≤ _; omega, fun z (hz : z ∈ ls) => by have h1 : z.length ≤ (ls.map List.length).sum := sum_ge hz; have h2 := HSUM.out; omega⟩
      obtain ⟨T, hT⟩ : ∃ T, stepL k p n g bs ls = T := ⟨_, rfl⟩
      obtain ⟨V, hV⟩ : ∃ V, sayL ky py cc x ids ny = V := ⟨_, rfl⟩
      have HTL : As (T.length ≤ 2500000) := ⟨by rw [← hT]; exact text_len k p n g bs ls HBD.out.2.1 HBD.out.2.2.1 (by have := HL1.out; omega) HL2.out HSUM.out⟩
      have HT1 := As.mk hT
      have HV1 := As.mk hV
      clear hT hV
      have HRBw := As.mk (RdS.below HRB.out HT.out.bl)
      have HRWw := As.mk (HRW.out.below HT.out.bl)
      have HRNw := As.mk (HRN.out.below HT.out.bl)
      have HRRw := As.mk (RdS.below HRR.out HT.out.bl)
      have HSAYL : As ((sayC ky py cc cx (.slice Ai ids.length ci) ny).length = 37) := ⟨sayC_len HLX.out⟩
      have HYG := As.mk HT.out.rg
      have X0 := As.mk (HT.out.c 0 _ rfl)
      have X1 := As.mk (HT.out.c 1 _ rfl)
      have X2 := As.mk (HT.out.c 2 _ rfl)
      have X3 := As.mk (HT.out.c 3 _ rfl)
      have X4 := As.mk (HT.out.c 4 _ rfl)
      have X5 := As.mk (HT.out.c 5 _ rfl)
      go_upto_region 6 with fail
      go_cut [60] (fun v60 wc => v60 = .bool false ∧ As (Below wr.heap.size wr wc))
      case first =>
        as_aux_lemma =>
          refine wp_region_held_drew (S := (fun V : World => Below wr.heap.size wr V)) (by kernel_rfl) ?_ (fun hHeld => ?_)
          · exact below_dr wr
          refine wpAnyH_take (i := 0) (oi := ?_) (v := ?_) (by simp only [List.getElem?_toArray, List.getElem?_cons_zero, List.getElem?_cons_succ]; rfl) (by kernel_rfl) (by kernel_rfl) (by kernel_rfl) (by exact fun _ _ _ h => h) (Or.inl ⟨by rfl, ?_⟩) (by assumption) ?_
          rotate_left
          · (intro w hSw; (try dsimp only at hSw); have x0 := cell_below hSw X0.out; have x1 := cell_below hSw X1.out; have x2 := cell_below hSw X2.out; have x3 := cell_below hSw X3.out; have x4 := cell_below hSw X4.out; have x5 := cell_below hSw X5.out; clear hSw; go_simp; first | done | with_reducible rfl)
          try simp only [Act.put, List.setIfInBounds_toArray, List.set_cons_zero, List.set_cons_succ]
          refine wpAnyH_take (i := 2) (oi := ?_) (v := ?_) (by simp only [List.getElem?_toArray, List.getElem?_cons_zero, List.getElem?_cons_succ]; rfl) (by kernel_rfl) (by kernel_rfl) (by kernel_rfl) (by exact fun _ _ _ h => h) (Or.inl ⟨by rfl, ?_⟩) (by assumption) ?_
          rotate_left
          · (intro w hSw; (try dsimp only at hSw); have x0 := cell_below hSw X0.out; have x1 := cell_below hSw X1.out; have x2 := cell_below hSw X2.out; have x3 := cell_below hSw X3.out; have x4 := cell_below hSw X4.out; have x5 := cell_below hSw X5.out; clear hSw; go_simp; first | done | with_reducible rfl)
          try simp only [Act.put, List.setIfInBounds_toArray, List.set_cons_zero, List.set_cons_succ]
          refine wpAnyH_ready (rs := [1]) (by kernel_rfl) (by simp) ?_
          refine AllReadyH.cons (o := ?_) (by simp only [List.getElem?_toArray, List.getElem?_cons_zero, List.getElem?_cons_succ]; rfl) (fun K hK => ?_) ?_
          · go_simp
            (with_reducible refine (stepP_as k p n g bs ls HT1.out HFS.out _ _ _ (RdS.below HRBw.out hHeld) (HRWw.out.below hHeld) (HEW.out.below hHeld)).mono ?_)
            rintro e w61 ⟨rfl, hb⟩
            have hS2 := hHeld.trans (hb.mono hHeld.size)
            clear hb
            dsimp only
            refine hK.out _ _ ?_ (fun hHeld2 => ?_)
            · exact hS2
            clear hK K hHeld
            have hHeld := hHeld2
            clear hHeld2
            try simp only [Act.put, List.setIfInBounds_toArray, List.set_cons_zero, List.set_cons_succ]
            refine wpAnyH_ready (rs := [3]) (by kernel_rfl) (by simp) ?_
            refine AllReadyH.cons (o := ?_) (by simp only [List.getElem?_toArray, List.getElem?_cons_zero, List.getElem?_cons_succ]; rfl) (fun K hK => ?_) ?_
            · go_simp
              (with_reducible refine (stepQ_as k p n g bs ls HT1.out HFS.out _ _ _ (RdS.below HRBw.out hHeld) (HRWw.out.below hHeld) (HEW.out.below hHeld)).mono ?_)
              rintro e w63 ⟨rfl, hb⟩
              have hS2 := hHeld.trans (hb.mono hHeld.size)
              clear hb
              dsimp only
              refine hK.out _ _ ?_ (fun hHeld2 => ?_)
              · exact hS2
              clear hK K hHeld
              have hHeld := hHeld2
              clear hHeld2
              try simp only [Act.put, List.setIfInBounds_toArray, List.set_cons_zero, List.set_cons_succ]
              refine wpAnyH_take (i := 4) (oi := ?_) (v := ?_) (by simp only [List.getElem?_toArray, List.getElem?_cons_zero, List.getElem?_cons_succ]; rfl) (by kernel_rfl) (by kernel_rfl) (by kernel_rfl) (by exact fun _ _ _ h => h) (Or.inl ⟨by rfl, ?_⟩) (by assumption) ?_
              rotate_left
              · (intro w hSw; (try dsimp only at hSw); have x0 := cell_below hSw X0.out; have x1 := cell_below hSw X1.out; have x2 := cell_below hSw X2.out; have x3 := cell_below hSw X3.out; have x4 := cell_below hSw X4.out; have x5 := cell_below hSw X5.out; clear hSw; go_simp; first | done | with_reducible rfl)
              try simp only [Act.put, List.setIfInBounds_toArray, List.set_cons_zero, List.set_cons_succ]
              refine wpAnyH_take (i := 5) (oi := ?_) (v := ?_) (by simp only [List.getElem?_toArray, List.getElem?_cons_zero, List.getElem?_cons_succ]; rfl) (by kernel_rfl) (by kernel_rfl) (by kernel_rfl) (by exact fun _ _ _ h => h) (Or.inl ⟨by rfl, ?_⟩) (by assumption) ?_
              rotate_left
              · (intro w hSw; (try dsimp only at hSw); have x0 := cell_below hSw X0.out; have x1 := cell_below hSw X1.out; have x2 := cell_below hSw X2.out; have x3 := cell_below hSw X3.out; have x4 := cell_below hSw X4.out; have x5 := cell_below hSw X5.out; clear hSw; go_simp; first | done | with_reducible rfl)
              try simp only [Act.put, List.setIfInBounds_toArray, List.set_cons_zero, List.set_cons_succ]
              refine wpAnyH_take (i := 6) (oi := ?_) (v := ?_) (by simp only [List.getElem?_toArray, List.getElem?_cons_zero, List.getElem?_cons_succ]; rfl) (by kernel_rfl) (by kernel_rfl) (by kernel_rfl) (by exact fun _ _ _ h => h) (Or.inl ⟨by rfl, ?_⟩) (by assumption) ?_
              rotate_left
              · (intro w2 hw2; refine exec_load_mid 26 (.tmp 7) ?_ Y 0 ?_ (sayC ky py cc cx (.slice Ai ids.length ci) ny) _ ?_ Tryd.underlying26 rfl ?_; rfl; rfl; exact rangeAt_below HYG.out hw2; (rw [HSAYL.out]; kernel_rfl))
              try simp only [Act.put, List.setIfInBounds_toArray, List.set_cons_zero, List.set_cons_succ]
              refine wpAnyH_take (i := 8) (oi := ?_) (v := ?_) (by simp only [List.getElem?_toArray, List.getElem?_cons_zero, List.getElem?_cons_succ]; rfl) (by kernel_rfl) (by kernel_rfl) (by kernel_rfl) (by exact fun _ _ _ h => h) (Or.inl ⟨by rfl, ?_⟩) (by assumption) ?_
              rotate_left
              · (intro w2 hw2; refine exec_load_mid 26 (.tmp 7) ?_ Y 0 ?_ (sayC ky py cc cx (.slice Ai ids.length ci) ny) _ ?_ Tryd.underlying26 rfl ?_; rfl; rfl; exact rangeAt_below HYG.out hw2; (rw [HSAYL.out]; kernel_rfl))
              try simp only [Act.put, List.setIfInBounds_toArray, List.set_cons_zero, List.set_cons_succ]
              refine wpAnyH_ready (rs := [7]) (by kernel_rfl) (by simp) ?_
              refine AllReadyH.cons (o := ?_) (by simp only [List.getElem?_toArray, List.getElem?_cons_zero, List.getElem?_cons_succ]; rfl) (fun K hK => ?_) ?_
              · go_simp
                (with_reducible refine (say_to ky py cc x cx HCX.out _ ids ny HV1.out _ HX.out (HRNw.out.below hHeld) HL4.out HNY.out HBD.out.2.2.2 HPY.out HCC.out (HEW.out.below hHeld)).mono ?_)
                rintro e w67 ⟨rfl, hb⟩
                have hS2 := hHeld.trans (hb.mono hHeld.size)
                clear hb
                dsimp only
                refine hK.out _ _ ?_ (fun hHeld2 => ?_)
                · exact hS2
                clear hK K hHeld
                have hHeld := hHeld2
                clear hHeld2
                try simp only [Act.put, List.setIfInBounds_toArray, List.set_cons_zero, List.set_cons_succ]
                refine wpAnyH_ready (rs := [9]) (by kernel_rfl) (by simp) ?_
                refine AllReadyH.cons (o := ?_) (by simp only [List.getElem?_toArray, List.getElem?_cons_zero, List.getElem?_cons_succ]; rfl) (fun K hK => ?_) ?_
                · go_simp
                  (with_reducible refine (sayQ_to ky py cc x cx HCX.out _ ids ny HV1.out _ HX.out (HRNw.out.below hHeld) HL4.out HNY.out HBD.out.2.2.2 HPY.out HCC.out (HEW.out.below hHeld)).mono ?_)
                  rintro e w69 ⟨rfl, hb⟩
                  have hS2 := hHeld.trans (hb.mono hHeld.size)
                  clear hb
                  dsimp only
                  refine hK.out _ _ ?_ (fun hHeld2 => ?_)
                  · exact hS2
                  clear hK K hHeld
                  have hHeld := hHeld2
                  clear hHeld2
                  try simp only [Act.put, List.setIfInBounds_toArray, List.set_cons_zero, List.set_cons_succ]
                  refine wpAnyH_take (i := 10) (oi := ?_) (v := ?_) (by simp only [List.getElem?_toArray, List.getElem?_cons_zero, List.getElem?_cons_succ]; rfl) (by kernel_rfl) (by kernel_rfl) (by kernel_rfl) (by exact fun _ _ _ h => h) (Or.inl ⟨by rfl, ?_⟩) (by assumption) ?_
                  rotate_left
                  · (intro w hSw; (try dsimp only at hSw); have x0 := cell_below hSw X0.out; have x1 := cell_below hSw X1.out; have x2 := cell_below hSw X2.out; have x3 := cell_below hSw X3.out; have x4 := cell_below hSw X4.out; have x5 := cell_below hSw X5.out; clear hSw; go_simp; first | done | with_reducible rfl)
                  try simp only [Act.put, List.setIfInBounds_toArray, List.set_cons_zero, List.set_cons_succ]
                  refine wpAnyH_take (i := 11) (oi := ?_) (v := ?_) (by simp only [List.getElem?_toArray, List.getElem?_cons_zero, List.getElem?_cons_succ]; rfl) (by kernel_rfl) (by kernel_rfl) (by kernel_rfl) (by exact fun _ _ _ h => h) (Or.inl ⟨by rfl, ?_⟩) (by assumption) ?_
                  rotate_left
                  · (intro w hSw; (try dsimp only at hSw); have x0 := cell_below hSw X0.out; have x1 := cell_below hSw X1.out; have x2 := cell_below hSw X2.out; have x3 := cell_below hSw X3.out; have x4 := cell_below hSw X4.out; have x5 := cell_below hSw X5.out; clear hSw; go_simp; first | done | with_reducible rfl)
                  try simp only [Act.put, List.setIfInBounds_toArray, List.set_cons_zero, List.set_cons_succ]
                  refine wpAnyH_done (by kernel_rfl) ?_ _
                  have HFIN := As.mk hHeld
                  clear hHeld
                  go_wp2
                  go_meet
                  exact ⟨rfl, HFIN⟩
                exact AllReadyH.nil
              exact AllReadyH.nil
            exact AllReadyH.nil
          exact AllReadyH.nil
      case rest =>
        obtain ⟨rfl, HB6⟩ := hcut
        have HTC := As.mk (HT.out.below HB6.out)
        have HEC := As.mk (HEW.out.below HB6.out)
        have HRBc := As.mk (RdS.below HRBw.out HB6.out)
        have HRWc := As.mk (HRWw.out.below HB6.out)
        have HTM : As (T.length ≤ maxLen) := ⟨by have := HTL.out; unfold maxLen; omega⟩
        have HT3 : As (T.length ≤ 3000000) := ⟨by have := HTL.out; omega⟩
        have e0 := HTC.out.c 0 _ rfl
        have e1 := HTC.out.c 1 _ rfl
        have e2 := HTC.out.c 2 _ rfl
        have e3 := HTC.out.c 3 _ rfl
        have e4 := HTC.out.c 4 _ rfl
        have e5 := HTC.out.c 5 _ rfl
        go_upto_region 10 with (first | (go_at_call 10; (with_reducible refine (stepQ_as k p n g bs ls HT1.out HFS.out _ _ _ HRBc.out HRWc.out HEC.out).mono ?_); rintro e w7 ⟨rfl, hb⟩; obtain ⟨At, ct, W8, hcv, hrt, hbt⟩ := conv_bytes (P := Tryd.prog) 9 29 5 Tryd.underlying9 Tryd.underlying29 Tryd.underlying5 T HTM.out w7; have HRT := As.mk hrt; have HB8 := As.mk (hb.trans (hbt.mono hb.size)); have kv := run_str (P := Tryd.prog) 29 9 5 Tryd.underlying29 Tryd.underlying5 Tryd.underlying9 hrt; have HE8 := As.mk (HEC.out.below HB8.out); clear hb hrt hbt e0 e1 e2 e3 e4 e5) | (go_at_call 12; (with_reducible refine (parse_as T HT3.out _ HE8.out).mono ?_); rintro e w9 ⟨kz, pz, nz, gz, bz, lz, Az, cz, Lz, dz, ok, rfl, h1, h2, h3, hb⟩; have HZ1 := As.mk h1; have HZ2 := As.mk h2; have HZ3 := As.mk h3; have HB9 := As.mk hb; clear h1 h2 h3 hb))
        have HB10 : As (Below wc.heap.size wc (w9.alloc (.cells #[.int .i64 kz, .int .i64 pz, .int .i64 nz, .bool gz, .slice Az (List.length bz) cz, .slice Lz (List.length lz) dz] 35))) := ⟨(HB8.out.trans (HB9.out.mono HB8.out.size)).alloc (HB8.out.trans (HB9.out.mono HB8.out.size)).size _⟩
        have HBZ : As (Box (w9.alloc (.cells #[.int .i64 kz, .int .i64 pz, .int .i64 nz, .bool gz, .slice Az (List.length bz) cz, .slice Lz (List.length lz) dz] 35)) w9.heap.size #[.int .i64 kz, .int .i64 pz, .int .i64 nz, .bool gz, .slice Az (List.length bz) cz, .slice Lz (List.length lz) dz] 35) := ⟨Box.new _ _ _⟩
        have HRTx : As (RdB (w9.alloc (.cells #[.int .i64 kz, .int .i64 pz, .int .i64 nz, .bool gz, .slice Az (List.length bz) cz, .slice Lz (List.length lz) dz] 35)) (.slice At T.length ct) T) := ⟨RdS.below (RdS.below HRT.out HB9.out) (below_al _ _)⟩
        have HZ1x := As.mk (RdS.below HZ1.out (below_al w9 (.cells #[.int .i64 kz, .int .i64 pz, .int .i64 nz, .bool gz, .slice Az (List.length bz) cz, .slice Lz (List.length lz) dz] 35)))
        have HZ2x := As.mk (HZ2.out.below (below_al w9 (.cells #[.int .i64 kz, .int .i64 pz, .int .i64 nz, .bool gz, .slice Az (List.length bz) cz, .slice Lz (List.length lz) dz] 35)))
        clear hcv kv HRT HZ1 HZ2 HB8 HB9 HE8 HEC HRBc HRWc HRBw HRWw HRNw HYG X0 X1 X2 X3 X4 X5
        generalize (w9.alloc (.cells #[.int .i64 kz, .int .i64 pz, .int .i64 nz, .bool gz, .slice Az (List.length bz) cz, .slice Lz (List.length lz) dz] 35)) = W10 at HB10 HBZ HRTx HZ1x HZ2x ⊢
        generalize w9.heap.size = Z at HBZ ⊢
        have HT10 := As.mk (HTC.out.below HB10.out)
        have HE10 := As.mk (HEN.out.below HT10.out.bl)
        have HRB10 := As.mk (RdS.below HRB.out HT10.out.bl)
        have HRW10 := As.mk (HRW.out.below HT10.out.bl)
        clear HB10 HTC HB6 HT HEW HRRw
        have X0 := As.mk (HT10.out.c 0 _ rfl)
        have Z0 := As.mk (HBZ.out.cell 0 _ rfl)
        have X1 := As.mk (HT10.out.c 1 _ rfl)
        have Z1 := As.mk (HBZ.out.cell 1 _ rfl)
        have X2 := As.mk (HT10.out.c 2 _ rfl)
        have Z2 := As.mk (HBZ.out.cell 2 _ rfl)
        have X3 := As.mk (HT10.out.c 3 _ rfl)
        have Z3 := As.mk (HBZ.out.cell 3 _ rfl)
        have X4 := As.mk (HT10.out.c 4 _ rfl)
        have Z4 := As.mk (HBZ.out.cell 4 _ rfl)
        have X5 := As.mk (HT10.out.c 5 _ rfl)
        have Z5 := As.mk (HBZ.out.cell 5 _ rfl)
        go_cut [92] (fun v92 wd => v92 = .bool false ∧ As (Below W10.heap.size W10 wd))
        case first =>
          as_aux_lemma =>
            have HZF : As (ok = true → textL ⟨kz, pz, nz, gz, bz, lz⟩ = T ∧ Fit ⟨kz, pz, nz, gz, bz, lz⟩) := ⟨fun h => by
              rcases HZ3.out with ⟨_, h1⟩ | ⟨h1, _⟩
              · exact ⟨(parse_ok h1).1, parse_fit h1 HT3.out⟩
              · rw [h] at h1; cases h1⟩
            by_cases hq1 : q = 1
            · have HZO : As (ok = true ∧ onlyL ⟨k, p, n, g, bs, ls⟩ = ⟨kz, pz, nz, gz, bz, lz⟩) := ⟨by
                obtain ⟨b1, b2, b3⟩ := HQ1.out hq1
                have h := parse_text ⟨k, p, n, g, bs, ls⟩ b1 ⟨b2.1, by show p < _; omega⟩ ⟨b3.1, by show n < _; omega⟩
                have e : textL ⟨k, p, n, g, bs, ls⟩ = T := HT1.out
                rw [e] at h
                rcases HZ3.out with ⟨h0, h1⟩ | ⟨_, h1, _⟩
                · rw [h1] at h; exact ⟨h0, (Option.some.inj h).symm⟩
                · rw [h1] at h; cases h⟩
              obtain ⟨rfl, -⟩ := HZO.out
              have HTZ : As (stepL kz pz nz gz bz lz = T) := ⟨(HZF.out rfl).1⟩
              have HFZ := As.mk (HZF.out rfl).2
              have HON := As.mk HZO.out.2
              have HDE : As (decide ((⟨kz, pz, nz, gz, bz, lz⟩ : LStep) = ⟨kz, pz, nz, gz, bz, lz⟩) = true) := ⟨decide_eq_true rfl⟩
              subst hq1
              refine wp_region_held_drew (S := (fun V : World => Below W10.heap.size W10 V)) (by kernel_rfl) ?_ (fun hHeld => ?_)
              · exact below_dr W10
              refine wpAnyH_take (i := 0) (oi := ?_) (v := ?_) (by simp only [List.getElem?_toArray, List.getElem?_cons_zero, List.getElem?_cons_succ]; rfl) (by kernel_rfl) (by kernel_rfl) (by kernel_rfl) (by exact fun _ _ _ h => h) (Or.inl ⟨by rfl, ?_⟩) (by assumption) ?_
              rotate_left
              · (intro w hSw; (try dsimp only at hSw); have x0 := cell_below hSw X0.out; have z0 := cell_below hSw Z0.out; have x1 := cell_below hSw X1.out; have z1 := cell_below hSw Z1.out; have x2 := cell_below hSw X2.out; have z2 := cell_below hSw Z2.out; have x3 := cell_below hSw X3.out; have z3 := cell_below hSw Z3.out; have x4 := cell_below hSw X4.out; have z4 := cell_below hSw Z4.out; have x5 := cell_below hSw X5.out; have z5 := cell_below hSw Z5.out; clear hSw; go_simp; first | done | with_reducible rfl)
              try simp only [Act.put, List.setIfInBounds_toArray, List.set_cons_zero, List.set_cons_succ]
              refine wpAnyH_take (i := 1) (oi := ?_) (v := ?_) (by simp only [List.getElem?_toArray, List.getElem?_cons_zero, List.getElem?_cons_succ]; rfl) (by kernel_rfl) (by kernel_rfl) (by kernel_rfl) (by exact fun _ _ _ h => h) (Or.inl ⟨by rfl, ?_⟩) (by assumption) ?_
              rotate_left
              · (intro w hSw; (try dsimp only at hSw); have x0 := cell_below hSw X0.out; have z0 := cell_below hSw Z0.out; have x1 := cell_below hSw X1.out; have z1 := cell_below hSw Z1.out; have x2 := cell_below hSw X2.out; have z2 := cell_below hSw Z2.out; have x3 := cell_below hSw X3.out; have z3 := cell_below hSw Z3.out; have x4 := cell_below hSw X4.out; have z4 := cell_below hSw Z4.out; have x5 := cell_below hSw X5.out; have z5 := cell_below hSw Z5.out; clear hSw; go_simp; first | done | with_reducible rfl)
              try simp only [Act.put, List.setIfInBounds_toArray, List.set_cons_zero, List.set_cons_succ]
              refine wpAnyH_take (i := 2) (oi := ?_) (v := ?_) (by simp only [List.getElem?_toArray, List.getElem?_cons_zero, List.getElem?_cons_succ]; rfl) (by kernel_rfl) (by kernel_rfl) (by kernel_rfl) (by exact fun _ _ _ h => h) (Or.inl ⟨by rfl, ?_⟩) (by assumption) ?_
              rotate_left
              · (intro w hSw; (try dsimp only at hSw); have x0 := cell_below hSw X0.out; have z0 := cell_below hSw Z0.out; have x1 := cell_below hSw X1.out; have z1 := cell_below hSw Z1.out; have x2 := cell_below hSw X2.out; have z2 := cell_below hSw Z2.out; have x3 := cell_below hSw X3.out; have z3 := cell_below hSw Z3.out; have x4 := cell_below hSw X4.out; have z4 := cell_below hSw Z4.out; have x5 := cell_below hSw X5.out; have z5 := cell_below hSw Z5.out; clear hSw; go_simp; first | done | with_reducible rfl)
              try simp only [Act.put, List.setIfInBounds_toArray, List.set_cons_zero, List.set_cons_succ]
              refine wpAnyH_take (i := 3) (oi := ?_) (v := ?_) (by simp only [List.getElem?_toArray, List.getElem?_cons_zero, List.getElem?_cons_succ]; rfl) (by kernel_rfl) (by kernel_rfl) (by kernel_rfl) (by exact fun _ _ _ h => h) (Or.inl ⟨by rfl, ?_⟩) (by assumption) ?_
              rotate_left
              · (intro w hSw; (try dsimp only at hSw); have x0 := cell_below hSw X0.out; have z0 := cell_below hSw Z0.out; have x1 := cell_below hSw X1.out; have z1 := cell_below hSw Z1.out; have x2 := cell_below hSw X2.out; have z2 := cell_below hSw Z2.out; have x3 := cell_below hSw X3.out; have z3 := cell_below hSw Z3.out; have x4 := cell_below hSw X4.out; have z4 := cell_below hSw Z4.out; have x5 := cell_below hSw X5.out; have z5 := cell_below hSw Z5.out; clear hSw; go_simp; first | done | with_reducible rfl)
              try simp only [Act.put, List.setIfInBounds_toArray, List.set_cons_zero, List.set_cons_succ]
              refine wpAnyH_take (i := 4) (oi := ?_) (v := ?_) (by simp only [List.getElem?_toArray, List.getElem?_cons_zero, List.getElem?_cons_succ]; rfl) (by kernel_rfl) (by kernel_rfl) (by kernel_rfl) (by exact fun _ _ _ h => h) (Or.inl ⟨by rfl, ?_⟩) (by assumption) ?_
              rotate_left
              · (intro w hSw; (try dsimp only at hSw); have x0 := cell_below hSw X0.out; have z0 := cell_below hSw Z0.out; have x1 := cell_below hSw X1.out; have z1 := cell_below hSw Z1.out; have x2 := cell_below hSw X2.out; have z2 := cell_below hSw Z2.out; have x3 := cell_below hSw X3.out; have z3 := cell_below hSw Z3.out; have x4 := cell_below hSw X4.out; have z4 := cell_below hSw Z4.out; have x5 := cell_below hSw X5.out; have z5 := cell_below hSw Z5.out; clear hSw; go_simp; first | done | with_reducible rfl)
              try simp only [Act.put, List.setIfInBounds_toArray, List.set_cons_zero, List.set_cons_succ]
              refine wpAnyH_take (i := 5) (oi := ?_) (v := ?_) (by simp only [List.getElem?_toArray, List.getElem?_cons_zero, List.getElem?_cons_succ]; rfl) (by kernel_rfl) (by kernel_rfl) (by kernel_rfl) (by exact fun _ _ _ h => h) (Or.inl ⟨by rfl, ?_⟩) (by assumption) ?_
              rotate_left
              · (intro w hSw; (try dsimp only at hSw); have x0 := cell_below hSw X0.out; have z0 := cell_below hSw Z0.out; have x1 := cell_below hSw X1.out; have z1 := cell_below hSw Z1.out; have x2 := cell_below hSw X2.out; have z2 := cell_below hSw Z2.out; have x3 := cell_below hSw X3.out; have z3 := cell_below hSw Z3.out; have x4 := cell_below hSw X4.out; have z4 := cell_below hSw Z4.out; have x5 := cell_below hSw X5.out; have z5 := cell_below hSw Z5.out; clear hSw; go_simp; first | done | with_reducible rfl)
              try simp only [Act.put, List.setIfInBounds_toArray, List.set_cons_zero, List.set_cons_succ]
              refine wpAnyH_take (i := 6) (oi := ?_) (v := ?_) (by simp only [List.getElem?_toArray, List.getElem?_cons_zero, List.getElem?_cons_succ]; rfl) (by kernel_rfl) (by kernel_rfl) (by kernel_rfl) (by exact fun _ _ _ h => h) (Or.inl ⟨by rfl, ?_⟩) (by assumption) ?_
              rotate_left
              · (intro w hSw; (try dsimp only at hSw); have x0 := cell_below hSw X0.out; have z0 := cell_below hSw Z0.out; have x1 := cell_below hSw X1.out; have z1 := cell_below hSw Z1.out; have x2 := cell_below hSw X2.out; have z2 := cell_below hSw Z2.out; have x3 := cell_below hSw X3.out; have z3 := cell_below hSw Z3.out; have x4 := cell_below hSw X4.out; have z4 := cell_below hSw Z4.out; have x5 := cell_below hSw X5.out; have z5 := cell_below hSw Z5.out; clear hSw; go_simp; first | done | with_reducible rfl)
              try simp only [Act.put, List.setIfInBounds_toArray, List.set_cons_zero, List.set_cons_succ]
              refine wpAnyH_take (i := 7) (oi := ?_) (v := ?_) (by simp only [List.getElem?_toArray, List.getElem?_cons_zero, List.getElem?_cons_succ]; rfl) (by kernel_rfl) (by kernel_rfl) (by kernel_rfl) (by exact fun _ _ _ h => h) (Or.inl ⟨by rfl, ?_⟩) (by assumption) ?_
              rotate_left
              · (intro w hSw; (try dsimp only at hSw); have x0 := cell_below hSw X0.out; have z0 := cell_below hSw Z0.out; have x1 := cell_below hSw X1.out; have z1 := cell_below hSw Z1.out; have x2 := cell_below hSw X2.out; have z2 := cell_below hSw Z2.out; have x3 := cell_below hSw X3.out; have z3 := cell_below hSw Z3.out; have x4 := cell_below hSw X4.out; have z4 := cell_below hSw Z4.out; have x5 := cell_below hSw X5.out; have z5 := cell_below hSw Z5.out; clear hSw; go_simp; first | done | with_reducible rfl)
              try simp only [Act.put, List.setIfInBounds_toArray, List.set_cons_zero, List.set_cons_succ]
              refine wpAnyH_ready (rs := [8]) (by kernel_rfl) (by simp) ?_
              refine AllReadyH.cons (o := ?_) (by simp only [List.getElem?_toArray, List.getElem?_cons_zero, List.getElem?_cons_succ]; rfl) (fun K hK => ?_) ?_
              · go_simp
                (with_reducible refine (only_rd k p n g bs ls _ _ HON.out _ (RdS.below HRB10.out hHeld) (HRW10.out.below hHeld)).mono ?_)
                rintro e w8 ⟨Ao, co, Lo, do_, rfl, h1, h2, hb⟩
                have HO1 := As.mk h1
                have HO2 := As.mk h2
                have HB18 := As.mk hb
                clear h1 h2
                have hS2 := hHeld.trans (hb.mono hHeld.size)
                clear hb
                dsimp only
                refine hK.out _ _ ?_ (fun hHeld2 => ?_)
                · exact hS2
                clear hK K hHeld
                have hHeld := hHeld2
                clear hHeld2
                try simp only [Act.put, List.setIfInBounds_toArray, List.set_cons_zero, List.set_cons_succ]
                refine wpAnyH_ready (rs := [9]) (by kernel_rfl) (by simp) ?_
                refine AllReadyH.cons (o := ?_) (by simp only [List.getElem?_toArray, List.getElem?_cons_zero, List.getElem?_cons_succ]; rfl) (fun K hK => ?_) ?_
                · go_simp
                  (with_reducible refine (same_as kz pz nz gz bz lz kz pz nz gz bz lz HDE.out _ _ _ _ _ (RdS.below HZ1x.out hHeld) (HZ2x.out.below hHeld) HO1.out HO2.out).mono ?_)
                  rintro e w29 ⟨rfl, hb⟩
                  have hS2 := hHeld.trans (hb.mono hHeld.size)
                  clear hb
                  dsimp only
                  refine hK.out _ _ ?_ (fun hHeld2 => ?_)
                  · exact hS2
                  clear hK K hHeld
                  have hHeld := hHeld2
                  clear hHeld2
                  try simp only [Act.put, List.setIfInBounds_toArray, List.set_cons_zero, List.set_cons_succ]
                  refine wpAnyH_take (i := 10) (oi := ?_) (v := ?_) (by simp only [List.getElem?_toArray, List.getElem?_cons_zero, List.getElem?_cons_succ]; rfl) (by kernel_rfl) (by kernel_rfl) (by kernel_rfl) (by exact fun _ _ _ h => h) (Or.inl ⟨by rfl, ?_⟩) (by assumption) ?_
                  rotate_left
                  · (intro w hSw; (try dsimp only at hSw); have x0 := cell_below hSw X0.out; have z0 := cell_below hSw Z0.out; have x1 := cell_below hSw X1.out; have z1 := cell_below hSw Z1.out; have x2 := cell_below hSw X2.out; have z2 := cell_below hSw Z2.out; have x3 := cell_below hSw X3.out; have z3 := cell_below hSw Z3.out; have x4 := cell_below hSw X4.out; have z4 := cell_below hSw Z4.out; have x5 := cell_below hSw X5.out; have z5 := cell_below hSw Z5.out; clear hSw; go_simp; first | done | with_reducible rfl)
                  try simp only [Act.put, List.setIfInBounds_toArray, List.set_cons_zero, List.set_cons_succ]
                  refine wpAnyH_take (i := 11) (oi := ?_) (v := ?_) (by simp only [List.getElem?_toArray, List.getElem?_cons_zero, List.getElem?_cons_succ]; rfl) (by kernel_rfl) (by kernel_rfl) (by kernel_rfl) (by exact fun _ _ _ h => h) (Or.inl ⟨by rfl, ?_⟩) (by assumption) ?_
                  rotate_left
                  · (intro w hSw; (try dsimp only at hSw); have x0 := cell_below hSw X0.out; have z0 := cell_below hSw Z0.out; have x1 := cell_below hSw X1.out; have z1 := cell_below hSw Z1.out; have x2 := cell_below hSw X2.out; have z2 := cell_below hSw Z2.out; have x3 := cell_below hSw X3.out; have z3 := cell_below hSw Z3.out; have x4 := cell_below hSw X4.out; have z4 := cell_below hSw Z4.out; have x5 := cell_below hSw X5.out; have z5 := cell_below hSw Z5.out; clear hSw; go_simp; first | done | with_reducible rfl)
                  try simp only [Act.put, List.setIfInBounds_toArray, List.set_cons_zero, List.set_cons_succ]
                  refine wpAnyH_take (i := 12) (oi := ?_) (v := ?_) (by simp only [List.getElem?_toArray, List.getElem?_cons_zero, List.getElem?_cons_succ]; rfl) (by kernel_rfl) (by kernel_rfl) (by kernel_rfl) (by exact fun _ _ _ h => h) (Or.inl ⟨by rfl, ?_⟩) (by assumption) ?_
                  rotate_left
                  · (intro w hSw; (try dsimp only at hSw); have x0 := cell_below hSw X0.out; have z0 := cell_below hSw Z0.out; have x1 := cell_below hSw X1.out; have z1 := cell_below hSw Z1.out; have x2 := cell_below hSw X2.out; have z2 := cell_below hSw Z2.out; have x3 := cell_below hSw X3.out; have z3 := cell_below hSw Z3.out; have x4 := cell_below hSw X4.out; have z4 := cell_below hSw Z4.out; have x5 := cell_below hSw X5.out; have z5 := cell_below hSw Z5.out; clear hSw; go_simp; first | done | with_reducible rfl)
                  try simp only [Act.put, List.setIfInBounds_toArray, List.set_cons_zero, List.set_cons_succ]
                  refine wpAnyH_take (i := 13) (oi := ?_) (v := ?_) (by simp only [List.getElem?_toArray, List.getElem?_cons_zero, List.getElem?_cons_succ]; rfl) (by kernel_rfl) (by kernel_rfl) (by kernel_rfl) (by exact fun _ _ _ h => h) (Or.inl ⟨by rfl, ?_⟩) (by assumption) ?_
                  rotate_left
                  · (intro w hSw; (try dsimp only at hSw); have x0 := cell_below hSw X0.out; have z0 := cell_below hSw Z0.out; have x1 := cell_below hSw X1.out; have z1 := cell_below hSw Z1.out; have x2 := cell_below hSw X2.out; have z2 := cell_below hSw Z2.out; have x3 := cell_below hSw X3.out; have z3 := cell_below hSw Z3.out; have x4 := cell_below hSw X4.out; have z4 := cell_below hSw Z4.out; have x5 := cell_below hSw X5.out; have z5 := cell_below hSw Z5.out; clear hSw; go_simp; first | done | with_reducible rfl)
                  try simp only [Act.put, List.setIfInBounds_toArray, List.set_cons_zero, List.set_cons_succ]
                  refine wpAnyH_take (i := 14) (oi := ?_) (v := ?_) (by simp only [List.getElem?_toArray, List.getElem?_cons_zero, List.getElem?_cons_succ]; rfl) (by kernel_rfl) (by kernel_rfl) (by kernel_rfl) (by exact fun _ _ _ h => h) (Or.inl ⟨by rfl, ?_⟩) (by assumption) ?_
                  rotate_left
                  · (intro w hSw; (try dsimp only at hSw); have x0 := cell_below hSw X0.out; have z0 := cell_below hSw Z0.out; have x1 := cell_below hSw X1.out; have z1 := cell_below hSw Z1.out; have x2 := cell_below hSw X2.out; have z2 := cell_below hSw Z2.out; have x3 := cell_below hSw X3.out; have z3 := cell_below hSw Z3.out; have x4 := cell_below hSw X4.out; have z4 := cell_below hSw Z4.out; have x5 := cell_below hSw X5.out; have z5 := cell_below hSw Z5.out; clear hSw; go_simp; first | done | with_reducible rfl)
                  try simp only [Act.put, List.setIfInBounds_toArray, List.set_cons_zero, List.set_cons_succ]
                  refine wpAnyH_take (i := 15) (oi := ?_) (v := ?_) (by simp only [List.getElem?_toArray, List.getElem?_cons_zero, List.getElem?_cons_succ]; rfl) (by kernel_rfl) (by kernel_rfl) (by kernel_rfl) (by exact fun _ _ _ h => h) (Or.inl ⟨by rfl, ?_⟩) (by assumption) ?_
                  rotate_left
                  · (intro w hSw; (try dsimp only at hSw); have x0 := cell_below hSw X0.out; have z0 := cell_below hSw Z0.out; have x1 := cell_below hSw X1.out; have z1 := cell_below hSw Z1.out; have x2 := cell_below hSw X2.out; have z2 := cell_below hSw Z2.out; have x3 := cell_below hSw X3.out; have z3 := cell_below hSw Z3.out; have x4 := cell_below hSw X4.out; have z4 := cell_below hSw Z4.out; have x5 := cell_below hSw X5.out; have z5 := cell_below hSw Z5.out; clear hSw; go_simp; first | done | with_reducible rfl)
                  try simp only [Act.put, List.setIfInBounds_toArray, List.set_cons_zero, List.set_cons_succ]
                  refine wpAnyH_take (i := 16) (oi := ?_) (v := ?_) (by simp only [List.getElem?_toArray, List.getElem?_cons_zero, List.getElem?_cons_succ]; rfl) (by kernel_rfl) (by kernel_rfl) (by kernel_rfl) (by exact fun _ _ _ h => h) (Or.inl ⟨by rfl, ?_⟩) (by assumption) ?_
                  rotate_left
                  · (intro w hSw; (try dsimp only at hSw); have x0 := cell_below hSw X0.out; have z0 := cell_below hSw Z0.out; have x1 := cell_below hSw X1.out; have z1 := cell_below hSw Z1.out; have x2 := cell_below hSw X2.out; have z2 := cell_below hSw Z2.out; have x3 := cell_below hSw X3.out; have z3 := cell_below hSw Z3.out; have x4 := cell_below hSw X4.out; have z4 := cell_below hSw Z4.out; have x5 := cell_below hSw X5.out; have z5 := cell_below hSw Z5.out; clear hSw; go_simp; first | done | with_reducible rfl)
                  try simp only [Act.put, List.setIfInBounds_toArray, List.set_cons_zero, List.set_cons_succ]
                  refine wpAnyH_take (i := 18) (oi := ?_) (v := ?_) (by simp only [List.getElem?_toArray, List.getElem?_cons_zero, List.getElem?_cons_succ]; rfl) (by kernel_rfl) (by kernel_rfl) (by kernel_rfl) (by exact fun _ _ _ h => h) (Or.inl ⟨by rfl, ?_⟩) (by assumption) ?_
                  rotate_left
                  · (intro w hSw; (try dsimp only at hSw); have x0 := cell_below hSw X0.out; have z0 := cell_below hSw Z0.out; have x1 := cell_below hSw X1.out; have z1 := cell_below hSw Z1.out; have x2 := cell_below hSw X2.out; have z2 := cell_below hSw Z2.out; have x3 := cell_below hSw X3.out; have z3 := cell_below hSw Z3.out; have x4 := cell_below hSw X4.out; have z4 := cell_below hSw Z4.out; have x5 := cell_below hSw X5.out; have z5 := cell_below hSw Z5.out; clear hSw; go_simp; first | done | with_reducible rfl)
                  try simp only [Act.put, List.setIfInBounds_toArray, List.set_cons_zero, List.set_cons_succ]
                  refine wpAnyH_take (i := 19) (oi := ?_) (v := ?_) (by simp only [List.getElem?_toArray, List.getElem?_cons_zero, List.getElem?_cons_succ]; rfl) (by kernel_rfl) (by kernel_rfl) (by kernel_rfl) (by exact fun _ _ _ h => h) (Or.inl ⟨by rfl, ?_⟩) (by assumption) ?_
                  rotate_left
                  · (intro w2 hw2; (have kv := run_str (P := Tryd.prog) 29 9 5 Tryd.underlying29 Tryd.underlying5 Tryd.underlying9 (RdS.below HRTx.out hw2); go_simp; first | done | with_reducible rfl))
                  try simp only [Act.put, List.setIfInBounds_toArray, List.set_cons_zero, List.set_cons_succ]
                  refine wpAnyH_ready (rs := [17]) (by kernel_rfl) (by simp) ?_
                  refine AllReadyH.cons (o := ?_) (by simp only [List.getElem?_toArray, List.getElem?_cons_zero, List.getElem?_cons_succ]; rfl) (fun K hK => ?_) ?_
                  · go_simp
                    (with_reducible refine (stepQ_as kz pz nz gz bz lz HTZ.out HFZ.out _ _ _ (RdS.below HZ1x.out hHeld) (HZ2x.out.below hHeld) (HE10.out.below hHeld)).mono ?_)
                    rintro e w37 ⟨rfl, hb⟩
                    have hS2 := hHeld.trans (hb.mono hHeld.size)
                    clear hb
                    dsimp only
                    refine hK.out _ _ ?_ (fun hHeld2 => ?_)
                    · exact hS2
                    clear hK K hHeld
                    have hHeld := hHeld2
                    clear hHeld2
                    try simp only [Act.put, List.setIfInBounds_toArray, List.set_cons_zero, List.set_cons_succ]
                    refine wpAnyH_take (i := 20) (oi := ?_) (v := ?_) (by simp only [List.getElem?_toArray, List.getElem?_cons_zero, List.getElem?_cons_succ]; rfl) (by kernel_rfl) (by kernel_rfl) (by kernel_rfl) (by exact fun _ _ _ h => h) (Or.inl ⟨by rfl, ?_⟩) (by assumption) ?_
                    rotate_left
                    · (intro w hSw; (try dsimp only at hSw); have x0 := cell_below hSw X0.out; have z0 := cell_below hSw Z0.out; have x1 := cell_below hSw X1.out; have z1 := cell_below hSw Z1.out; have x2 := cell_below hSw X2.out; have z2 := cell_below hSw Z2.out; have x3 := cell_below hSw X3.out; have z3 := cell_below hSw Z3.out; have x4 := cell_below hSw X4.out; have z4 := cell_below hSw Z4.out; have x5 := cell_below hSw X5.out; have z5 := cell_below hSw Z5.out; clear hSw; go_simp; first | done | with_reducible rfl)
                    try simp only [Act.put, List.setIfInBounds_toArray, List.set_cons_zero, List.set_cons_succ]
                    refine wpAnyH_take (i := 21) (oi := ?_) (v := ?_) (by simp only [List.getElem?_toArray, List.getElem?_cons_zero, List.getElem?_cons_succ]; rfl) (by kernel_rfl) (by kernel_rfl) (by kernel_rfl) (by exact fun _ _ _ h => h) (Or.inl ⟨by rfl, ?_⟩) (by assumption) ?_
                    rotate_left
                    · (intro w hSw; (try dsimp only at hSw); have x0 := cell_below hSw X0.out; have z0 := cell_below hSw Z0.out; have x1 := cell_below hSw X1.out; have z1 := cell_below hSw Z1.out; have x2 := cell_below hSw X2.out; have z2 := cell_below hSw Z2.out; have x3 := cell_below hSw X3.out; have z3 := cell_below hSw Z3.out; have x4 := cell_below hSw X4.out; have z4 := cell_below hSw Z4.out; have x5 := cell_below hSw X5.out; have z5 := cell_below hSw Z5.out; clear hSw; go_simp; first | done | with_reducible rfl)
                    try simp only [Act.put, List.setIfInBounds_toArray, List.set_cons_zero, List.set_cons_succ]
                    refine wpAnyH_take (i := 22) (oi := ?_) (v := ?_) (by simp only [List.getElem?_toArray, List.getElem?_cons_zero, List.getElem?_cons_succ]; rfl) (by kernel_rfl) (by kernel_rfl) (by kernel_rfl) (by exact fun _ _ _ h => h) (Or.inl ⟨by rfl, ?_⟩) (by assumption) ?_
                    rotate_left
                    · (intro w hSw; (try dsimp only at hSw); have x0 := cell_below hSw X0.out; have z0 := cell_below hSw Z0.out; have x1 := cell_below hSw X1.out; have z1 := cell_below hSw Z1.out; have x2 := cell_below hSw X2.out; have z2 := cell_below hSw Z2.out; have x3 := cell_below hSw X3.out; have z3 := cell_below hSw Z3.out; have x4 := cell_below hSw X4.out; have z4 := cell_below hSw Z4.out; have x5 := cell_below hSw X5.out; have z5 := cell_below hSw Z5.out; clear hSw; go_simp; first | done | with_reducible rfl)
                    try simp only [Act.put, List.setIfInBounds_toArray, List.set_cons_zero, List.set_cons_succ]
                    refine wpAnyH_done (by kernel_rfl) ?_ _
                    have HFIN := As.mk hHeld
                    clear hHeld
                    go_wp2
                    go_meet
                    exact ⟨rfl, HFIN⟩
                  exact AllReadyH.nil
                exact AllReadyH.nil
              exact AllReadyH.nil

            · have hq0 : ((q : Int) == 1) = false := by rw [beq_eq_false_iff_ne]; omega
              cases ok with
              | true =>
                have HTZ : As (stepL kz pz nz gz bz lz = T) := ⟨(HZF.out rfl).1⟩
                have HFZ := As.mk (HZF.out rfl).2
                refine wp_region_held_drew (S := (fun V : World => Below W10.heap.size W10 V)) (by kernel_rfl) ?_ (fun hHeld => ?_)
                · exact below_dr W10
                refine wpAnyH_take (i := 0) (oi := ?_) (v := ?_) (by simp only [List.getElem?_toArray, List.getElem?_cons_zero, List.getElem?_cons_succ]; rfl) (by kernel_rfl) (by kernel_rfl) (by kernel_rfl) (by exact fun _ _ _ h => h) (Or.inl ⟨by rfl, ?_⟩) (by assumption) ?_
                rotate_left
                · (intro w hSw; (try dsimp only at hSw); have x0 := cell_below hSw X0.out; have z0 := cell_below hSw Z0.out; have x1 := cell_below hSw X1.out; have z1 := cell_below hSw Z1.out; have x2 := cell_below hSw X2.out; have z2 := cell_below hSw Z2.out; have x3 := cell_below hSw X3.out; have z3 := cell_below hSw Z3.out; have x4 := cell_below hSw X4.out; have z4 := cell_below hSw Z4.out; have x5 := cell_below hSw X5.out; have z5 := cell_below hSw Z5.out; clear hSw; go_simp; first | done | with_reducible rfl)
                try simp only [Act.put, List.setIfInBounds_toArray, List.set_cons_zero, List.set_cons_succ]
                refine wpAnyH_take (i := 1) (oi := ?_) (v := ?_) (by simp only [List.getElem?_toArray, List.getElem?_cons_zero, List.getElem?_cons_succ]; rfl) (by kernel_rfl) (by kernel_rfl) (by kernel_rfl) (by exact fun _ _ _ h => h) (Or.inl ⟨by rfl, ?_⟩) (by assumption) ?_
                rotate_left
                · (intro w hSw; (try dsimp only at hSw); have x0 := cell_below hSw X0.out; have z0 := cell_below hSw Z0.out; have x1 := cell_below hSw X1.out; have z1 := cell_below hSw Z1.out; have x2 := cell_below hSw X2.out; have z2 := cell_below hSw Z2.out; have x3 := cell_below hSw X3.out; have z3 := cell_below hSw Z3.out; have x4 := cell_below hSw X4.out; have z4 := cell_below hSw Z4.out; have x5 := cell_below hSw X5.out; have z5 := cell_below hSw Z5.out; clear hSw; go_simp; first | done | with_reducible rfl)
                try simp only [Act.put, List.setIfInBounds_toArray, List.set_cons_zero, List.set_cons_succ]
                refine wpAnyH_take (i := 2) (oi := ?_) (v := ?_) (by simp only [List.getElem?_toArray, List.getElem?_cons_zero, List.getElem?_cons_succ]; rfl) (by kernel_rfl) (by kernel_rfl) (by kernel_rfl) (by exact fun _ _ _ h => h) (Or.inl ⟨by rfl, ?_⟩) (by assumption) ?_
                rotate_left
                · (intro w hSw; (try dsimp only at hSw); have x0 := cell_below hSw X0.out; have z0 := cell_below hSw Z0.out; have x1 := cell_below hSw X1.out; have z1 := cell_below hSw Z1.out; have x2 := cell_below hSw X2.out; have z2 := cell_below hSw Z2.out; have x3 := cell_below hSw X3.out; have z3 := cell_below hSw Z3.out; have x4 := cell_below hSw X4.out; have z4 := cell_below hSw Z4.out; have x5 := cell_below hSw X5.out; have z5 := cell_below hSw Z5.out; clear hSw; go_simp; first | done | with_reducible rfl)
                try simp only [Act.put, List.setIfInBounds_toArray, List.set_cons_zero, List.set_cons_succ]
                refine wpAnyH_take (i := 3) (oi := ?_) (v := undef) (by simp only [List.getElem?_toArray, List.getElem?_cons_zero, List.getElem?_cons_succ]; rfl) (by kernel_rfl) (by kernel_rfl) (by kernel_rfl) (by exact fun _ _ _ h => h) (Or.inr ⟨by rfl, rfl⟩) (by assumption) ?_
                try simp only [Act.put, List.setIfInBounds_toArray, List.set_cons_zero, List.set_cons_succ]
                refine wpAnyH_take (i := 4) (oi := ?_) (v := undef) (by simp only [List.getElem?_toArray, List.getElem?_cons_zero, List.getElem?_cons_succ]; rfl) (by kernel_rfl) (by kernel_rfl) (by kernel_rfl) (by exact fun _ _ _ h => h) (Or.inr ⟨by rfl, rfl⟩) (by assumption) ?_
                try simp only [Act.put, List.setIfInBounds_toArray, List.set_cons_zero, List.set_cons_succ]
                refine wpAnyH_take (i := 5) (oi := ?_) (v := undef) (by simp only [List.getElem?_toArray, List.getElem?_cons_zero, List.getElem?_cons_succ]; rfl) (by kernel_rfl) (by kernel_rfl) (by kernel_rfl) (by exact fun _ _ _ h => h) (Or.inr ⟨by rfl, rfl⟩) (by assumption) ?_
                try simp only [Act.put, List.setIfInBounds_toArray, List.set_cons_zero, List.set_cons_succ]
                refine wpAnyH_take (i := 6) (oi := ?_) (v := undef) (by simp only [List.getElem?_toArray, List.getElem?_cons_zero, List.getElem?_cons_succ]; rfl) (by kernel_rfl) (by kernel_rfl) (by kernel_rfl) (by exact fun _ _ _ h => h) (Or.inr ⟨by rfl, rfl⟩) (by assumption) ?_
                try simp only [Act.put, List.setIfInBounds_toArray, List.set_cons_zero, List.set_cons_succ]
                refine wpAnyH_take (i := 7) (oi := ?_) (v := undef) (by simp only [List.getElem?_toArray, List.getElem?_cons_zero, List.getElem?_cons_succ]; rfl) (by kernel_rfl) (by kernel_rfl) (by kernel_rfl) (by exact fun _ _ _ h => h) (Or.inr ⟨by rfl, rfl⟩) (by assumption) ?_
                try simp only [Act.put, List.setIfInBounds_toArray, List.set_cons_zero, List.set_cons_succ]
                refine wpAnyH_take (i := 8) (oi := ?_) (v := undef) (by simp only [List.getElem?_toArray, List.getElem?_cons_zero, List.getElem?_cons_succ]; rfl) (by kernel_rfl) (by kernel_rfl) (by kernel_rfl) (by exact fun _ _ _ h => h) (Or.inr ⟨by rfl, rfl⟩) (by assumption) ?_
                try simp only [Act.put, List.setIfInBounds_toArray, List.set_cons_zero, List.set_cons_succ]
                refine wpAnyH_take (i := 9) (oi := ?_) (v := undef) (by simp only [List.getElem?_toArray, List.getElem?_cons_zero, List.getElem?_cons_succ]; rfl) (by kernel_rfl) (by kernel_rfl) (by kernel_rfl) (by exact fun _ _ _ h => h) (Or.inr ⟨by rfl, rfl⟩) (by assumption) ?_
                try simp only [Act.put, List.setIfInBounds_toArray, List.set_cons_zero, List.set_cons_succ]
                refine wpAnyH_take (i := 10) (oi := ?_) (v := undef) (by simp only [List.getElem?_toArray, List.getElem?_cons_zero, List.getElem?_cons_succ]; rfl) (by kernel_rfl) (by kernel_rfl) (by kernel_rfl) (by exact fun _ _ _ h => h) (Or.inr ⟨by rfl, rfl⟩) (by assumption) ?_
                try simp only [Act.put, List.setIfInBounds_toArray, List.set_cons_zero, List.set_cons_succ]
                refine wpAnyH_take (i := 11) (oi := ?_) (v := undef) (by simp only [List.getElem?_toArray, List.getElem?_cons_zero, List.getElem?_cons_succ]; rfl) (by kernel_rfl) (by kernel_rfl) (by kernel_rfl) (by exact fun _ _ _ h => h) (Or.inr ⟨by rfl, rfl⟩) (by assumption) ?_
                try simp only [Act.put, List.setIfInBounds_toArray, List.set_cons_zero, List.set_cons_succ]
                refine wpAnyH_take (i := 12) (oi := ?_) (v := ?_) (by simp only [List.getElem?_toArray, List.getElem?_cons_zero, List.getElem?_cons_succ]; rfl) (by kernel_rfl) (by kernel_rfl) (by kernel_rfl) (by exact fun _ _ _ h => h) (Or.inl ⟨by rfl, ?_⟩) (by assumption) ?_
                rotate_left
                · (intro w hSw; (try dsimp only at hSw); have x0 := cell_below hSw X0.out; have z0 := cell_below hSw Z0.out; have x1 := cell_below hSw X1.out; have z1 := cell_below hSw Z1.out; have x2 := cell_below hSw X2.out; have z2 := cell_below hSw Z2.out; have x3 := cell_below hSw X3.out; have z3 := cell_below hSw Z3.out; have x4 := cell_below hSw X4.out; have z4 := cell_below hSw Z4.out; have x5 := cell_below hSw X5.out; have z5 := cell_below hSw Z5.out; clear hSw; go_simp; first | done | with_reducible rfl)
                try simp only [Act.put, List.setIfInBounds_toArray, List.set_cons_zero, List.set_cons_succ]
                refine wpAnyH_take (i := 13) (oi := ?_) (v := ?_) (by simp only [List.getElem?_toArray, List.getElem?_cons_zero, List.getElem?_cons_succ]; rfl) (by kernel_rfl) (by kernel_rfl) (by kernel_rfl) (by exact fun _ _ _ h => h) (Or.inl ⟨by rfl, ?_⟩) (by assumption) ?_
                rotate_left
                · (intro w hSw; (try dsimp only at hSw); have x0 := cell_below hSw X0.out; have z0 := cell_below hSw Z0.out; have x1 := cell_below hSw X1.out; have z1 := cell_below hSw Z1.out; have x2 := cell_below hSw X2.out; have z2 := cell_below hSw Z2.out; have x3 := cell_below hSw X3.out; have z3 := cell_below hSw Z3.out; have x4 := cell_below hSw X4.out; have z4 := cell_below hSw Z4.out; have x5 := cell_below hSw X5.out; have z5 := cell_below hSw Z5.out; clear hSw; go_simp; first | done | with_reducible rfl)
                try simp only [Act.put, List.setIfInBounds_toArray, List.set_cons_zero, List.set_cons_succ]
                refine wpAnyH_take (i := 14) (oi := ?_) (v := ?_) (by simp only [List.getElem?_toArray, List.getElem?_cons_zero, List.getElem?_cons_succ]; rfl) (by kernel_rfl) (by kernel_rfl) (by kernel_rfl) (by exact fun _ _ _ h => h) (Or.inl ⟨by rfl, ?_⟩) (by assumption) ?_
                rotate_left
                · (intro w hSw; (try dsimp only at hSw); have x0 := cell_below hSw X0.out; have z0 := cell_below hSw Z0.out; have x1 := cell_below hSw X1.out; have z1 := cell_below hSw Z1.out; have x2 := cell_below hSw X2.out; have z2 := cell_below hSw Z2.out; have x3 := cell_below hSw X3.out; have z3 := cell_below hSw Z3.out; have x4 := cell_below hSw X4.out; have z4 := cell_below hSw Z4.out; have x5 := cell_below hSw X5.out; have z5 := cell_below hSw Z5.out; clear hSw; go_simp; first | done | with_reducible rfl)
                try simp only [Act.put, List.setIfInBounds_toArray, List.set_cons_zero, List.set_cons_succ]
                refine wpAnyH_take (i := 15) (oi := ?_) (v := ?_) (by simp only [List.getElem?_toArray, List.getElem?_cons_zero, List.getElem?_cons_succ]; rfl) (by kernel_rfl) (by kernel_rfl) (by kernel_rfl) (by exact fun _ _ _ h => h) (Or.inl ⟨by rfl, ?_⟩) (by assumption) ?_
                rotate_left
                · (intro w hSw; (try dsimp only at hSw); have x0 := cell_below hSw X0.out; have z0 := cell_below hSw Z0.out; have x1 := cell_below hSw X1.out; have z1 := cell_below hSw Z1.out; have x2 := cell_below hSw X2.out; have z2 := cell_below hSw Z2.out; have x3 := cell_below hSw X3.out; have z3 := cell_below hSw Z3.out; have x4 := cell_below hSw X4.out; have z4 := cell_below hSw Z4.out; have x5 := cell_below hSw X5.out; have z5 := cell_below hSw Z5.out; clear hSw; go_simp; first | done | with_reducible rfl)
                try simp only [Act.put, List.setIfInBounds_toArray, List.set_cons_zero, List.set_cons_succ]
                refine wpAnyH_take (i := 16) (oi := ?_) (v := ?_) (by simp only [List.getElem?_toArray, List.getElem?_cons_zero, List.getElem?_cons_succ]; rfl) (by kernel_rfl) (by kernel_rfl) (by kernel_rfl) (by exact fun _ _ _ h => h) (Or.inl ⟨by rfl, ?_⟩) (by assumption) ?_
                rotate_left
                · (intro w hSw; (try dsimp only at hSw); have x0 := cell_below hSw X0.out; have z0 := cell_below hSw Z0.out; have x1 := cell_below hSw X1.out; have z1 := cell_below hSw Z1.out; have x2 := cell_below hSw X2.out; have z2 := cell_below hSw Z2.out; have x3 := cell_below hSw X3.out; have z3 := cell_below hSw Z3.out; have x4 := cell_below hSw X4.out; have z4 := cell_below hSw Z4.out; have x5 := cell_below hSw X5.out; have z5 := cell_below hSw Z5.out; clear hSw; go_simp; first | done | with_reducible rfl)
                try simp only [Act.put, List.setIfInBounds_toArray, List.set_cons_zero, List.set_cons_succ]
                refine wpAnyH_take (i := 18) (oi := ?_) (v := ?_) (by simp only [List.getElem?_toArray, List.getElem?_cons_zero, List.getElem?_cons_succ]; rfl) (by kernel_rfl) (by kernel_rfl) (by kernel_rfl) (by exact fun _ _ _ h => h) (Or.inl ⟨by rfl, ?_⟩) (by assumption) ?_
                rotate_left
                · (intro w hSw; (try dsimp only at hSw); have x0 := cell_below hSw X0.out; have z0 := cell_below hSw Z0.out; have x1 := cell_below hSw X1.out; have z1 := cell_below hSw Z1.out; have x2 := cell_below hSw X2.out; have z2 := cell_below hSw Z2.out; have x3 := cell_below hSw X3.out; have z3 := cell_below hSw Z3.out; have x4 := cell_below hSw X4.out; have z4 := cell_below hSw Z4.out; have x5 := cell_below hSw X5.out; have z5 := cell_below hSw Z5.out; clear hSw; go_simp; first | done | with_reducible rfl)
                try simp only [Act.put, List.setIfInBounds_toArray, List.set_cons_zero, List.set_cons_succ]
                refine wpAnyH_take (i := 19) (oi := ?_) (v := ?_) (by simp only [List.getElem?_toArray, List.getElem?_cons_zero, List.getElem?_cons_succ]; rfl) (by kernel_rfl) (by kernel_rfl) (by kernel_rfl) (by exact fun _ _ _ h => h) (Or.inl ⟨by rfl, ?_⟩) (by assumption) ?_
                rotate_left
                · (intro w2 hw2; (have kv := run_str (P := Tryd.prog) 29 9 5 Tryd.underlying29 Tryd.underlying5 Tryd.underlying9 (RdS.below HRTx.out hw2); go_simp; first | done | with_reducible rfl))
                try simp only [Act.put, List.setIfInBounds_toArray, List.set_cons_zero, List.set_cons_succ]
                refine wpAnyH_ready (rs := [17]) (by kernel_rfl) (by simp) ?_
                refine AllReadyH.cons (o := ?_) (by simp only [List.getElem?_toArray, List.getElem?_cons_zero, List.getElem?_cons_succ]; rfl) (fun K hK => ?_) ?_
                · go_simp
                  (with_reducible refine (stepQ_as kz pz nz gz bz lz HTZ.out HFZ.out _ _ _ (RdS.below HZ1x.out hHeld) (HZ2x.out.below hHeld) (HE10.out.below hHeld)).mono ?_)
                  rintro e w37 ⟨rfl, hb⟩
                  have hS2 := hHeld.trans (hb.mono hHeld.size)
                  clear hb
                  dsimp only
                  refine hK.out _ _ ?_ (fun hHeld2 => ?_)
                  · exact hS2
                  clear hK K hHeld
                  have hHeld := hHeld2
                  clear hHeld2
                  try simp only [Act.put, List.setIfInBounds_toArray, List.set_cons_zero, List.set_cons_succ]
                  refine wpAnyH_take (i := 20) (oi := ?_) (v := ?_) (by simp only [List.getElem?_toArray, List.getElem?_cons_zero, List.getElem?_cons_succ]; rfl) (by kernel_rfl) (by kernel_rfl) (by kernel_rfl) (by exact fun _ _ _ h => h) (Or.inl ⟨by rfl, ?_⟩) (by assumption) ?_
                  rotate_left
                  · (intro w hSw; (try dsimp only at hSw); have x0 := cell_below hSw X0.out; have z0 := cell_below hSw Z0.out; have x1 := cell_below hSw X1.out; have z1 := cell_below hSw Z1.out; have x2 := cell_below hSw X2.out; have z2 := cell_below hSw Z2.out; have x3 := cell_below hSw X3.out; have z3 := cell_below hSw Z3.out; have x4 := cell_below hSw X4.out; have z4 := cell_below hSw Z4.out; have x5 := cell_below hSw X5.out; have z5 := cell_below hSw Z5.out; clear hSw; go_simp; first | done | with_reducible rfl)
                  try simp only [Act.put, List.setIfInBounds_toArray, List.set_cons_zero, List.set_cons_succ]
                  refine wpAnyH_take (i := 21) (oi := ?_) (v := ?_) (by simp only [List.getElem?_toArray, List.getElem?_cons_zero, List.getElem?_cons_succ]; rfl) (by kernel_rfl) (by kernel_rfl) (by kernel_rfl) (by exact fun _ _ _ h => h) (Or.inl ⟨by rfl, ?_⟩) (by assumption) ?_
                  rotate_left
                  · (intro w hSw; (try dsimp only at hSw); have x0 := cell_below hSw X0.out; have z0 := cell_below hSw Z0.out; have x1 := cell_below hSw X1.out; have z1 := cell_below hSw Z1.out; have x2 := cell_below hSw X2.out; have z2 := cell_below hSw Z2.out; have x3 := cell_below hSw X3.out; have z3 := cell_below hSw Z3.out; have x4 := cell_below hSw X4.out; have z4 := cell_below hSw Z4.out; have x5 := cell_below hSw X5.out; have z5 := cell_below hSw Z5.out; clear hSw; go_simp; first | done | with_reducible rfl)
                  try simp only [Act.put, List.setIfInBounds_toArray, List.set_cons_zero, List.set_cons_succ]
                  refine wpAnyH_take (i := 22) (oi := ?_) (v := ?_) (by simp only [List.getElem?_toArray, List.getElem?_cons_zero, List.getElem?_cons_succ]; rfl) (by kernel_rfl) (by kernel_rfl) (by kernel_rfl) (by exact fun _ _ _ h => h) (Or.inl ⟨by rfl, ?_⟩) (by assumption) ?_
                  rotate_left
                  · (intro w hSw; (try dsimp only at hSw); have x0 := cell_below hSw X0.out; have z0 := cell_below hSw Z0.out; have x1 := cell_below hSw X1.out; have z1 := cell_below hSw Z1.out; have x2 := cell_below hSw X2.out; have z2 := cell_below hSw Z2.out; have x3 := cell_below hSw X3.out; have z3 := cell_below hSw Z3.out; have x4 := cell_below hSw X4.out; have z4 := cell_below hSw Z4.out; have x5 := cell_below hSw X5.out; have z5 := cell_below hSw Z5.out; clear hSw; go_simp; first | done | with_reducible rfl)
                  try simp only [Act.put, List.setIfInBounds_toArray, List.set_cons_zero, List.set_cons_succ]
                  refine wpAnyH_done (by kernel_rfl) ?_ _
                  have HFIN := As.mk hHeld
                  clear hHeld
                  go_wp2
                  go_meet
                  exact ⟨rfl, HFIN⟩
                exact AllReadyH.nil

              | false =>
                refine wp_region_held_drew (S := (fun V : World => Below W10.heap.size W10 V)) (by kernel_rfl) ?_ (fun hHeld => ?_)
                · exact below_dr W10
                refine wpAnyH_take (i := 0) (oi := ?_) (v := ?_) (by simp only [List.getElem?_toArray, List.getElem?_cons_zero, List.getElem?_cons_succ]; rfl) (by kernel_rfl) (by kernel_rfl) (by kernel_rfl) (by exact fun _ _ _ h => h) (Or.inl ⟨by rfl, ?_⟩) (by assumption) ?_
                rotate_left
                · (intro w hSw; (try dsimp only at hSw); have x0 := cell_below hSw X0.out; have z0 := cell_below hSw Z0.out; have x1 := cell_below hSw X1.out; have z1 := cell_below hSw Z1.out; have x2 := cell_below hSw X2.out; have z2 := cell_below hSw Z2.out; have x3 := cell_below hSw X3.out; have z3 := cell_below hSw Z3.out; have x4 := cell_below hSw X4.out; have z4 := cell_below hSw Z4.out; have x5 := cell_below hSw X5.out; have z5 := cell_below hSw Z5.out; clear hSw; go_simp; first | done | with_reducible rfl)
                try simp only [Act.put, List.setIfInBounds_toArray, List.set_cons_zero, List.set_cons_succ]
                refine wpAnyH_take (i := 1) (oi := ?_) (v := ?_) (by simp only [List.getElem?_toArray, List.getElem?_cons_zero, List.getElem?_cons_succ]; rfl) (by kernel_rfl) (by kernel_rfl) (by kernel_rfl) (by exact fun _ _ _ h => h) (Or.inl ⟨by rfl, ?_⟩) (by assumption) ?_
                rotate_left
                · (intro w hSw; (try dsimp only at hSw); have x0 := cell_below hSw X0.out; have z0 := cell_below hSw Z0.out; have x1 := cell_below hSw X1.out; have z1 := cell_below hSw Z1.out; have x2 := cell_below hSw X2.out; have z2 := cell_below hSw Z2.out; have x3 := cell_below hSw X3.out; have z3 := cell_below hSw Z3.out; have x4 := cell_below hSw X4.out; have z4 := cell_below hSw Z4.out; have x5 := cell_below hSw X5.out; have z5 := cell_below hSw Z5.out; clear hSw; go_simp; first | done | with_reducible rfl)
                try simp only [Act.put, List.setIfInBounds_toArray, List.set_cons_zero, List.set_cons_succ]
                refine wpAnyH_take (i := 2) (oi := ?_) (v := ?_) (by simp only [List.getElem?_toArray, List.getElem?_cons_zero, List.getElem?_cons_succ]; rfl) (by kernel_rfl) (by kernel_rfl) (by kernel_rfl) (by exact fun _ _ _ h => h) (Or.inl ⟨by rfl, ?_⟩) (by assumption) ?_
                rotate_left
                · (intro w hSw; (try dsimp only at hSw); have x0 := cell_below hSw X0.out; have z0 := cell_below hSw Z0.out; have x1 := cell_below hSw X1.out; have z1 := cell_below hSw Z1.out; have x2 := cell_below hSw X2.out; have z2 := cell_below hSw Z2.out; have x3 := cell_below hSw X3.out; have z3 := cell_below hSw Z3.out; have x4 := cell_below hSw X4.out; have z4 := cell_below hSw Z4.out; have x5 := cell_below hSw X5.out; have z5 := cell_below hSw Z5.out; clear hSw; go_simp; first | done | with_reducible rfl)
                try simp only [Act.put, List.setIfInBounds_toArray, List.set_cons_zero, List.set_cons_succ]
                refine wpAnyH_take (i := 3) (oi := ?_) (v := undef) (by simp only [List.getElem?_toArray, List.getElem?_cons_zero, List.getElem?_cons_succ]; rfl) (by kernel_rfl) (by kernel_rfl) (by kernel_rfl) (by exact fun _ _ _ h => h) (Or.inr ⟨by rfl, rfl⟩) (by assumption) ?_
                try simp only [Act.put, List.setIfInBounds_toArray, List.set_cons_zero, List.set_cons_succ]
                refine wpAnyH_take (i := 4) (oi := ?_) (v := undef) (by simp only [List.getElem?_toArray, List.getElem?_cons_zero, List.getElem?_cons_succ]; rfl) (by kernel_rfl) (by kernel_rfl) (by kernel_rfl) (by exact fun _ _ _ h => h) (Or.inr ⟨by rfl, rfl⟩) (by assumption) ?_
                try simp only [Act.put, List.setIfInBounds_toArray, List.set_cons_zero, List.set_cons_succ]
                refine wpAnyH_take (i := 5) (oi := ?_) (v := undef) (by simp only [List.getElem?_toArray, List.getElem?_cons_zero, List.getElem?_cons_succ]; rfl) (by kernel_rfl) (by kernel_rfl) (by kernel_rfl) (by exact fun _ _ _ h => h) (Or.inr ⟨by rfl, rfl⟩) (by assumption) ?_
                try simp only [Act.put, List.setIfInBounds_toArray, List.set_cons_zero, List.set_cons_succ]
                refine wpAnyH_take (i := 6) (oi := ?_) (v := undef) (by simp only [List.getElem?_toArray, List.getElem?_cons_zero, List.getElem?_cons_succ]; rfl) (by kernel_rfl) (by kernel_rfl) (by kernel_rfl) (by exact fun _ _ _ h => h) (Or.inr ⟨by rfl, rfl⟩) (by assumption) ?_
                try simp only [Act.put, List.setIfInBounds_toArray, List.set_cons_zero, List.set_cons_succ]
                refine wpAnyH_take (i := 7) (oi := ?_) (v := undef) (by simp only [List.getElem?_toArray, List.getElem?_cons_zero, List.getElem?_cons_succ]; rfl) (by kernel_rfl) (by kernel_rfl) (by kernel_rfl) (by exact fun _ _ _ h => h) (Or.inr ⟨by rfl, rfl⟩) (by assumption) ?_
                try simp only [Act.put, List.setIfInBounds_toArray, List.set_cons_zero, List.set_cons_succ]
                refine wpAnyH_take (i := 8) (oi := ?_) (v := undef) (by simp only [List.getElem?_toArray, List.getElem?_cons_zero, List.getElem?_cons_succ]; rfl) (by kernel_rfl) (by kernel_rfl) (by kernel_rfl) (by exact fun _ _ _ h => h) (Or.inr ⟨by rfl, rfl⟩) (by assumption) ?_
                try simp only [Act.put, List.setIfInBounds_toArray, List.set_cons_zero, List.set_cons_succ]
                refine wpAnyH_take (i := 9) (oi := ?_) (v := undef) (by simp only [List.getElem?_toArray, List.getElem?_cons_zero, List.getElem?_cons_succ]; rfl) (by kernel_rfl) (by kernel_rfl) (by kernel_rfl) (by exact fun _ _ _ h => h) (Or.inr ⟨by rfl, rfl⟩) (by assumption) ?_
                try simp only [Act.put, List.setIfInBounds_toArray, List.set_cons_zero, List.set_cons_succ]
                refine wpAnyH_take (i := 10) (oi := ?_) (v := undef) (by simp only [List.getElem?_toArray, List.getElem?_cons_zero, List.getElem?_cons_succ]; rfl) (by kernel_rfl) (by kernel_rfl) (by kernel_rfl) (by exact fun _ _ _ h => h) (Or.inr ⟨by rfl, rfl⟩) (by assumption) ?_
                try simp only [Act.put, List.setIfInBounds_toArray, List.set_cons_zero, List.set_cons_succ]
                refine wpAnyH_take (i := 11) (oi := ?_) (v := undef) (by simp only [List.getElem?_toArray, List.getElem?_cons_zero, List.getElem?_cons_succ]; rfl) (by kernel_rfl) (by kernel_rfl) (by kernel_rfl) (by exact fun _ _ _ h => h) (Or.inr ⟨by rfl, rfl⟩) (by assumption) ?_
                try simp only [Act.put, List.setIfInBounds_toArray, List.set_cons_zero, List.set_cons_succ]
                refine wpAnyH_take (i := 12) (oi := ?_) (v := ?_) (by simp only [List.getElem?_toArray, List.getElem?_cons_zero, List.getElem?_cons_succ]; rfl) (by kernel_rfl) (by kernel_rfl) (by kernel_rfl) (by exact fun _ _ _ h => h) (Or.inl ⟨by rfl, ?_⟩) (by assumption) ?_
                rotate_left
                · (intro w hSw; (try dsimp only at hSw); have x0 := cell_below hSw X0.out; have z0 := cell_below hSw Z0.out; have x1 := cell_below hSw X1.out; have z1 := cell_below hSw Z1.out; have x2 := cell_below hSw X2.out; have z2 := cell_below hSw Z2.out; have x3 := cell_below hSw X3.out; have z3 := cell_below hSw Z3.out; have x4 := cell_below hSw X4.out; have z4 := cell_below hSw Z4.out; have x5 := cell_below hSw X5.out; have z5 := cell_below hSw Z5.out; clear hSw; go_simp; first | done | with_reducible rfl)
                try simp only [Act.put, List.setIfInBounds_toArray, List.set_cons_zero, List.set_cons_succ]
                refine wpAnyH_take (i := 13) (oi := ?_) (v := ?_) (by simp only [List.getElem?_toArray, List.getElem?_cons_zero, List.getElem?_cons_succ]; rfl) (by kernel_rfl) (by kernel_rfl) (by kernel_rfl) (by exact fun _ _ _ h => h) (Or.inl ⟨by rfl, ?_⟩) (by assumption) ?_
                rotate_left
                · (intro w hSw; (try dsimp only at hSw); have x0 := cell_below hSw X0.out; have z0 := cell_below hSw Z0.out; have x1 := cell_below hSw X1.out; have z1 := cell_below hSw Z1.out; have x2 := cell_below hSw X2.out; have z2 := cell_below hSw Z2.out; have x3 := cell_below hSw X3.out; have z3 := cell_below hSw Z3.out; have x4 := cell_below hSw X4.out; have z4 := cell_below hSw Z4.out; have x5 := cell_below hSw X5.out; have z5 := cell_below hSw Z5.out; clear hSw; go_simp; first | done | with_reducible rfl)
                try simp only [Act.put, List.setIfInBounds_toArray, List.set_cons_zero, List.set_cons_succ]
                refine wpAnyH_take (i := 14) (oi := ?_) (v := ?_) (by simp only [List.getElem?_toArray, List.getElem?_cons_zero, List.getElem?_cons_succ]; rfl) (by kernel_rfl) (by kernel_rfl) (by kernel_rfl) (by exact fun _ _ _ h => h) (Or.inl ⟨by rfl, ?_⟩) (by assumption) ?_
                rotate_left
                · (intro w hSw; (try dsimp only at hSw); have x0 := cell_below hSw X0.out; have z0 := cell_below hSw Z0.out; have x1 := cell_below hSw X1.out; have z1 := cell_below hSw Z1.out; have x2 := cell_below hSw X2.out; have z2 := cell_below hSw Z2.out; have x3 := cell_below hSw X3.out; have z3 := cell_below hSw Z3.out; have x4 := cell_below hSw X4.out; have z4 := cell_below hSw Z4.out; have x5 := cell_below hSw X5.out; have z5 := cell_below hSw Z5.out; clear hSw; go_simp; first | done | with_reducible rfl)
                try simp only [Act.put, List.setIfInBounds_toArray, List.set_cons_zero, List.set_cons_succ]
                refine wpAnyH_take (i := 15) (oi := ?_) (v := ?_) (by simp only [List.getElem?_toArray, List.getElem?_cons_zero, List.getElem?_cons_succ]; rfl) (by kernel_rfl) (by kernel_rfl) (by kernel_rfl) (by exact fun _ _ _ h => h) (Or.inl ⟨by rfl, ?_⟩) (by assumption) ?_
                rotate_left
                · (intro w hSw; (try dsimp only at hSw); have x0 := cell_below hSw X0.out; have z0 := cell_below hSw Z0.out; have x1 := cell_below hSw X1.out; have z1 := cell_below hSw Z1.out; have x2 := cell_below hSw X2.out; have z2 := cell_below hSw Z2.out; have x3 := cell_below hSw X3.out; have z3 := cell_below hSw Z3.out; have x4 := cell_below hSw X4.out; have z4 := cell_below hSw Z4.out; have x5 := cell_below hSw X5.out; have z5 := cell_below hSw Z5.out; clear hSw; go_simp; first | done | with_reducible rfl)
                try simp only [Act.put, List.setIfInBounds_toArray, List.set_cons_zero, List.set_cons_succ]
                refine wpAnyH_take (i := 16) (oi := ?_) (v := undef) (by simp only [List.getElem?_toArray, List.getElem?_cons_zero, List.getElem?_cons_succ]; rfl) (by kernel_rfl) (by kernel_rfl) (by kernel_rfl) (by exact fun _ _ _ h => h) (Or.inr ⟨by rfl, rfl⟩) (by assumption) ?_
                try simp only [Act.put, List.setIfInBounds_toArray, List.set_cons_zero, List.set_cons_succ]
                refine wpAnyH_take (i := 17) (oi := ?_) (v := undef) (by simp only [List.getElem?_toArray, List.getElem?_cons_zero, List.getElem?_cons_succ]; rfl) (by kernel_rfl) (by kernel_rfl) (by kernel_rfl) (by exact fun _ _ _ h => h) (Or.inr ⟨by rfl, rfl⟩) (by assumption) ?_
                try simp only [Act.put, List.setIfInBounds_toArray, List.set_cons_zero, List.set_cons_succ]
                refine wpAnyH_take (i := 18) (oi := ?_) (v := undef) (by simp only [List.getElem?_toArray, List.getElem?_cons_zero, List.getElem?_cons_succ]; rfl) (by kernel_rfl) (by kernel_rfl) (by kernel_rfl) (by exact fun _ _ _ h => h) (Or.inr ⟨by rfl, rfl⟩) (by assumption) ?_
                try simp only [Act.put, List.setIfInBounds_toArray, List.set_cons_zero, List.set_cons_succ]
                refine wpAnyH_take (i := 19) (oi := ?_) (v := undef) (by simp only [List.getElem?_toArray, List.getElem?_cons_zero, List.getElem?_cons_succ]; rfl) (by kernel_rfl) (by kernel_rfl) (by kernel_rfl) (by exact fun _ _ _ h => h) (Or.inr ⟨by rfl, rfl⟩) (by assumption) ?_
                try simp only [Act.put, List.setIfInBounds_toArray, List.set_cons_zero, List.set_cons_succ]
                refine wpAnyH_take (i := 20) (oi := ?_) (v := undef) (by simp only [List.getElem?_toArray, List.getElem?_cons_zero, List.getElem?_cons_succ]; rfl) (by kernel_rfl) (by kernel_rfl) (by kernel_rfl) (by exact fun _ _ _ h => h) (Or.inr ⟨by rfl, rfl⟩) (by assumption) ?_
                try simp only [Act.put, List.setIfInBounds_toArray, List.set_cons_zero, List.set_cons_succ]
                refine wpAnyH_take (i := 21) (oi := ?_) (v := ?_) (by simp only [List.getElem?_toArray, List.getElem?_cons_zero, List.getElem?_cons_succ]; rfl) (by kernel_rfl) (by kernel_rfl) (by kernel_rfl) (by exact fun _ _ _ h => h) (Or.inl ⟨by rfl, ?_⟩) (by assumption) ?_
                rotate_left
                · (intro w hSw; (try dsimp only at hSw); have x0 := cell_below hSw X0.out; have z0 := cell_below hSw Z0.out; have x1 := cell_below hSw X1.out; have z1 := cell_below hSw Z1.out; have x2 := cell_below hSw X2.out; have z2 := cell_below hSw Z2.out; have x3 := cell_below hSw X3.out; have z3 := cell_below hSw Z3.out; have x4 := cell_below hSw X4.out; have z4 := cell_below hSw Z4.out; have x5 := cell_below hSw X5.out; have z5 := cell_below hSw Z5.out; clear hSw; go_simp; first | done | with_reducible rfl)
                try simp only [Act.put, List.setIfInBounds_toArray, List.set_cons_zero, List.set_cons_succ]
                refine wpAnyH_take (i := 22) (oi := ?_) (v := ?_) (by simp only [List.getElem?_toArray, List.getElem?_cons_zero, List.getElem?_cons_succ]; rfl) (by kernel_rfl) (by kernel_rfl) (by kernel_rfl) (by exact fun _ _ _ h => h) (Or.inl ⟨by rfl, ?_⟩) (by assumption) ?_
                rotate_left
                · (intro w hSw; (try dsimp only at hSw); have x0 := cell_below hSw X0.out; have z0 := cell_below hSw Z0.out; have x1 := cell_below hSw X1.out; have z1 := cell_below hSw Z1.out; have x2 := cell_below hSw X2.out; have z2 := cell_below hSw Z2.out; have x3 := cell_below hSw X3.out; have z3 := cell_below hSw Z3.out; have x4 := cell_below hSw X4.out; have z4 := cell_below hSw Z4.out; have x5 := cell_below hSw X5.out; have z5 := cell_below hSw Z5.out; clear hSw; go_simp; first | done | with_reducible rfl)
                try simp only [Act.put, List.setIfInBounds_toArray, List.set_cons_zero, List.set_cons_succ]
                refine wpAnyH_done (by kernel_rfl) ?_ _
                have HFIN := As.mk hHeld
                clear hHeld
                go_wp2
                go_meet
                exact ⟨rfl, HFIN⟩

        case rest =>
          obtain ⟨rfl, HBd⟩ := hcut
          obtain ⟨wd, rfl⟩ : ∃ wd, wd = wc := ⟨wc, rfl⟩
          have HTd := As.mk (HT10.out.below HBd.out)
          have HRTd := As.mk (RdS.below HRTx.out HBd.out)
          have HRRd := As.mk (RdS.below HRR.out HTd.out.bl)
          clear HT10 HRTx HZ1x HZ2x HBZ HE10 HRB10 HRW10 HZ3 HBd X0 X1 X2 X3 X4 X5 Z0 Z1 Z2 Z3 Z4 Z5
          go_upto_region 14 with (at_builtin; refine wpList_appB rfl (.tmp 93) (.tmp 94) rfl rfl wd.heap.size (.slice (some ⟨wd.heap.size, 0, none⟩) 0 0) [] rfl (OwB.empty wd wd.heap.size 5 (Nat.le_refl _)) (.slice At T.length ct) T rfl (RdS.below HRTd.out (below_al _ _)) (by have := HT3.out; simp; omega) (by simp) ?_; intro v4 w4 ho hg; have HB4 := As.mk (OwB.below_of (OwB.empty wd wd.heap.size 5 (Nat.le_refl _)) hg (below_al wd _) (Nat.le_refl _) (by simp)); obtain ⟨Au, cu, rfl⟩ := RdB.formN (n := T.length) ho.rd (by simp); have HU4 : As (OwB w4 wd.heap.size 5 (.slice Au T.length cu) T) := ⟨ho⟩; clear ho hg)
          go_upto_if 98 with fail
          go_cut [18] (fun v18 we => ∃ (r : Nat) (U : List UInt8), v18 = .int .i64 (r : Int) ∧ (r : Int) ≤ T.length ∧ As (Below wd.heap.size wd we ∧ RdB we (.slice Au T.length cu) U ∧ U.length = T.length))
          case first =>
            as_aux_lemma =>
              by_cases hT0 : (0 : Int) < (T.length : Int)
              · have m16 : bits .and .i64 at_ 65535 = at_ % 65536 := by rw [i64_mask _ _ 16 (by decide) (by decide)]; rfl
                have e4 : (T.length : Int) ≤ 2500000 := by have := HTL.out; omega
                have hne0 : ¬ ((T.length : Int) = 0) := by omega
                obtain ⟨r, hrq, hql⟩ : ∃ r : Nat, at_ % 65536 % (T.length : Int) = (r : Int) ∧ r < T.length := by
                  have h1 := Int.emod_nonneg (at_ % 65536) (show (T.length : Int) ≠ 0 by omega)
                  have h2 := Int.emod_lt_of_pos (at_ % 65536) hT0
                  exact ⟨(at_ % 65536 % (T.length : Int)).toNat, by omega, by omega⟩
                have hql' : (r : Int) < (T.length : Int) := by omega
                obtain ⟨ga, off, rfl, hgb, hc1, hc2, hc3⟩ := OwS.cellAt HU4.out r hql
                have hc4 : w4.cell? ⟨ga, off + r, none⟩ = some (u8v T[r]) := by rw [hc1]; simp [hql]
                have HGB := As.mk hgb
                have HQL := As.mk hql
                obtain ⟨x8, hx8⟩ : ∃ x, x = T[r] := ⟨_, rfl⟩
                rw [← hx8] at hc4
                clear hx8 hc1 hc2 hql hgb
                go_wp2
                go_meet
                refine ⟨r, T.set r b8, ?_, by omega, ⟨HB4.out.setCell (p := ⟨ga, off + r, none⟩) HGB.out _, ?_, by rw [List.length_set]⟩⟩
                · rw [hrq]
                · have h := (OwS.set HU4.out r HQL.out (u8v b8)).rd
                  unfold RdB
                  rw [List.length_set, List.map_set]
                  first | exact h | (rw [hrq]; exact h)
              · go_wp2
                go_meet
                exact ⟨0, T, rfl, by omega, ⟨HB4.out, HU4.out.rd, rfl⟩⟩
          case rest =>
            obtain ⟨r, U, rfl, hr, HU⟩ := hcut
            obtain ⟨we, rfl⟩ : ∃ we, we = wc := ⟨wc, rfl⟩
            have HTe := As.mk (HTd.out.below HU.out.1)
            have HRTe := As.mk (RdS.below HRTd.out HU.out.1)
            have HRRe := As.mk (RdS.below HRRd.out HU.out.1)
            clear HTd HRTd HRRd HU4 HB4
            have hqc : (r : Int) ≤ (ct : Int) := by
              obtain ⟨A', c', he, hc, -⟩ := RdB.form HRTe.out
              injection he with e1 e2 e3
              omega
            have hql : (r : Int) ≤ 2500000 := by have := HTL.out; omega
            have hwq : IntKind.i64.wrap (r : Int) = (r : Int) := IntWalk.i64_in _ (by omega)
            have HXQ : As (RdB we (.slice At r ct) (T.take r)) := ⟨RdB.to HRTe.out r (by omega)⟩
            go_upto_region 17 with fail
            go_cut [119, 120, 121] (fun v119 v120 v121 wf => ∃ (G : Nat) (vs : List Value), v119 = .slice (some ⟨G, 0, none⟩) 4 4 ∧ v120 = .int .i64 4 ∧ v121 = .int .i64 0 ∧ As (vs.length = 4 ∧ Four wf G vs ∧ Below we.heap.size we wf))
            case first =>
              as_aux_lemma =>
                refine wp_region_held_drew (S := (fun V : World => Below we.heap.size we V)) (by kernel_rfl) ?_ (fun hHeld => ?_)
                · exact below_dr we
                refine wpAnyH_take (i := 0) (oi := ?_) (v := ?_) (by simp only [List.getElem?_toArray, List.getElem?_cons_zero, List.getElem?_cons_succ]; rfl) (by kernel_rfl) (by kernel_rfl) (by kernel_rfl) (by exact fun _ _ _ h => h) (Or.inl ⟨by rfl, ?_⟩) (by assumption) ?_
                rotate_left
                · (intro w hSw; (try dsimp only at hSw); clear hSw; go_simp; first | done | with_reducible rfl)
                try simp only [Act.put, List.setIfInBounds_toArray, List.set_cons_zero, List.set_cons_succ]
                refine wpAnyH_take (i := 1) (oi := ?_) (v := ?_) (by simp only [List.getElem?_toArray, List.getElem?_cons_zero, List.getElem?_cons_succ]; rfl) (by kernel_rfl) (by kernel_rfl) (by kernel_rfl) (by exact fun _ _ _ h => h) (Or.inl ⟨by rfl, ?_⟩) (by assumption) ?_
                rotate_left
                · (intro w hSw; (try dsimp only at hSw); clear hSw; go_simp; first | done | with_reducible rfl)
                try simp only [Act.put, List.setIfInBounds_toArray, List.set_cons_zero, List.set_cons_succ]
                refine wpAnyH_take (i := 2) (oi := ?_) (v := ?_) (by simp only [List.getElem?_toArray, List.getElem?_cons_zero, List.getElem?_cons_succ]; rfl) (by kernel_rfl) (by kernel_rfl) (by kernel_rfl) (by exact fun _ _ _ h => h) (Or.inl ⟨by rfl, ?_⟩) (by assumption) ?_
                rotate_left
                · (intro w hSw; (try dsimp only at hSw); clear hSw; go_simp; first | done | with_reducible rfl)
                try simp only [Act.put, List.setIfInBounds_toArray, List.set_cons_zero, List.set_cons_succ]
                refine wpAnyH_take (i := 3) (oi := ?_) (v := ?_) (by simp only [List.getElem?_toArray, List.getElem?_cons_zero, List.getElem?_cons_succ]; rfl) (by kernel_rfl) (by kernel_rfl) (by kernel_rfl) (by exact fun _ _ _ h => h) (Or.inl ⟨by rfl, ?_⟩) (by assumption) ?_
                rotate_left
                · (intro w hSw; (try dsimp only at hSw); clear hSw; go_simp; first | done | with_reducible rfl)
                try simp only [Act.put, List.setIfInBounds_toArray, List.set_cons_zero, List.set_cons_succ]
                refine wpAnyH_take (i := 4) (oi := ?_) (v := ?_) (by simp only [List.getElem?_toArray, List.getElem?_cons_zero, List.getElem?_cons_succ]; rfl) (by kernel_rfl) (by kernel_rfl) (by kernel_rfl) (by exact fun _ _ _ h => h) (Or.inl ⟨by rfl, ?_⟩) (by assumption) ?_
                rotate_left
                · (intro w hSw; (try dsimp only at hSw); clear hSw; go_simp; first | done | with_reducible rfl)
                try simp only [Act.put, List.setIfInBounds_toArray, List.set_cons_zero, List.set_cons_succ]
                refine wpAnyH_take (i := 6) (oi := ?_) (v := ?_) (by simp only [List.getElem?_toArray, List.getElem?_cons_zero, List.getElem?_cons_succ]; rfl) (by kernel_rfl) (by kernel_rfl) (by kernel_rfl) (by exact fun _ _ _ h => h) (Or.inl ⟨by rfl, ?_⟩) (by assumption) ?_
                rotate_left
                · (intro w hSw; (try dsimp only at hSw); clear hSw; go_simp; first | done | with_reducible rfl)
                try simp only [Act.put, List.setIfInBounds_toArray, List.set_cons_zero, List.set_cons_succ]
                refine wpAnyH_take (i := 8) (oi := ?_) (v := ?_) (by simp only [List.getElem?_toArray, List.getElem?_cons_zero, List.getElem?_cons_succ]; rfl) (by kernel_rfl) (by kernel_rfl) (by kernel_rfl) (by exact fun _ _ _ h => h) (Or.inl ⟨by rfl, ?_⟩) (by assumption) ?_
                rotate_left
                · (intro w hSw; (try dsimp only at hSw); clear hSw; go_simp; first | done | with_reducible rfl)
                try simp only [Act.put, List.setIfInBounds_toArray, List.set_cons_zero, List.set_cons_succ]
                refine wpAnyH_take (i := 13) (oi := ?_) (v := ?_) (by simp only [List.getElem?_toArray, List.getElem?_cons_zero, List.getElem?_cons_succ]; rfl) (by kernel_rfl) (by kernel_rfl) (by kernel_rfl) (by exact fun _ _ _ h => h) (Or.inl ⟨by rfl, ?_⟩) (by assumption) ?_
                rotate_left
                · (intro w hSw; (try dsimp only at hSw); clear hSw; go_simp; first | done | with_reducible rfl)
                try simp only [Act.put, List.setIfInBounds_toArray, List.set_cons_zero, List.set_cons_succ]
                refine wpAnyH_ready (rs := [5, 9]) (by kernel_rfl) (by simp) ?_
                refine AllReadyH.cons (o := ?_) (by simp only [List.getElem?_toArray, List.getElem?_cons_zero, List.getElem?_cons_succ]; rfl) (fun K hK => ?_) ?_
                · refine step_empty29 ?hgd ?ho ?_
                  case hgd => rfl
                  case ho => rfl
                  have hS2 := hHeld.alloc hHeld.size (.cells #[] 5)
                  have HE0 : As (OwB (we.drew.alloc (.cells #[] 5)) we.heap.size 5 (.slice (some ⟨we.heap.size, 0, none⟩) 0 0) []) := ⟨OwB.empty we.drew we.heap.size 5 (Nat.le_refl _)⟩
                  refine hK.out _ _ ?_ (fun hHeld2 => ?_)
                  · exact hS2
                  clear hK K hHeld
                  have hHeld := hHeld2
                  clear hHeld2
                  try simp only [Act.put, List.setIfInBounds_toArray, List.set_cons_zero, List.set_cons_succ]
                  refine wpAnyH_ready (rs := [7, 9]) (by kernel_rfl) (by simp) ?_
                  refine AllReadyH.cons (o := ?_) (by simp only [List.getElem?_toArray, List.getElem?_cons_zero, List.getElem?_cons_succ]; rfl) (fun K hK => ?_) ?_
                  · refine step_appB ?hgd (.tmp 113) (.tmp 114) ?ho ?hty we.heap.size (.slice (some ⟨we.heap.size, 0, none⟩) 0 0) [] ?hs HE0.out (.slice At T.length ct) T ?hx (RdS.below HRTe.out hHeld) ?hl hHeld.size ?_
                    case hgd => rfl
                    case ho => rfl
                    case hty => rfl
                    case hs => rfl
                    case hx => rfl
                    case hl => have := HTL.out; simp; omega
                    intro v8 w8 ho hg
                    have hS2 := OwB.below_of HE0.out hg hHeld (Nat.le_refl _) hHeld.size
                    obtain ⟨A8, c8, rfl⟩ := RdB.formN (n := T.length) ho.rd (by simp)
                    have HO8 : As (OwB w8 we.heap.size 5 (.slice A8 T.length c8) T) := ⟨ho⟩
                    clear ho hg
                    refine hK.out _ _ ?_ (fun hHeld2 => ?_)
                    · exact hS2
                    clear hK K hHeld
                    have hHeld := hHeld2
                    clear hHeld2
                    try simp only [Act.put, List.setIfInBounds_toArray, List.set_cons_zero, List.set_cons_succ]
                    refine wpAnyH_ready (rs := [9]) (by kernel_rfl) (by simp) ?_
                    refine AllReadyH.cons (o := ?_) (by simp only [List.getElem?_toArray, List.getElem?_cons_zero, List.getElem?_cons_succ]; rfl) (fun K hK => ?_) ?_
                    · go_simp
                      have hS2 := hHeld.alloc hHeld.size (.cells #[.int .u8 (b8.toNat : Int)] 5)
                      have H1 : As (OwB (w8.alloc (.cells #[.int .u8 (b8.toNat : Int)] 5)) we.heap.size 5 (.slice (some ⟨w8.heap.size, 0, none⟩) 1 1) [b8]) := ⟨by have h := OwS.lit w8 we.heap.size 5 1 1 #[.int .u8 (b8.toNat : Int)] hHeld.size (by decide) rfl; exact h⟩
                      have HO8b := As.mk (OwS.below HO8.out (below_al _ (.cells #[.int .u8 (b8.toNat : Int)] 5)))
                      clear HO8
                      have HO8 := HO8b
                      clear HO8b
                      refine hK.out _ _ ?_ (fun hHeld2 => ?_)
                      · exact hS2
                      clear hK K hHeld
                      have hHeld := hHeld2
                      clear hHeld2
                      try simp only [Act.put, List.setIfInBounds_toArray, List.set_cons_zero, List.set_cons_succ]
                      refine wpAnyH_ready (rs := [10]) (by kernel_rfl) (by simp) ?_
                      refine AllReadyH.cons (o := ?_) (by simp only [List.getElem?_toArray, List.getElem?_cons_zero, List.getElem?_cons_succ]; rfl) (fun K hK => ?_) ?_
                      · refine step_appB ?hgd (.tmp 115) (.tmp 117) ?ho ?hty we.heap.size (.slice A8 T.length c8) T ?hs HO8.out (.slice (some ⟨w8.heap.size, 0, none⟩) 1 1) [b8] ?hx H1.out.rd ?hl hHeld.size ?_
                        case hgd => rfl
                        case ho => rfl
                        case hty => rfl
                        case hs => rfl
                        case hx => rfl
                        case hl => have := HTL.out; simp; omega
                        intro v11 w11 ho hg
                        have hS2 := OwB.below_of HO8.out hg hHeld (Nat.le_refl _) hHeld.size
                        obtain ⟨A11, c11, rfl⟩ := RdB.formN (n := T.length + 1) ho.rd (by simp)
                        have HR11 := As.mk ho.rd
                        clear ho hg
                        refine hK.out _ _ ?_ (fun hHeld2 => ?_)
                        · exact hS2
                        clear hK K hHeld
                        have hHeld := hHeld2
                        clear hHeld2
                        try simp only [Act.put, List.setIfInBounds_toArray, List.set_cons_zero, List.set_cons_succ]
                        refine wpAnyH_ready (rs := [11]) (by kernel_rfl) (by simp) ?_
                        refine AllReadyH.cons (o := ?_) (by simp only [List.getElem?_toArray, List.getElem?_cons_zero, List.getElem?_cons_succ]; rfl) (fun K hK => ?_) ?_
                        · refine step_four ?hgd (.tmp 108) (.tmp 109) (.tmp 112) (.tmp 118) ?ho Ar Au At A11 rb.length T.length r (T.length + 1) cr cu ct c11 ?h0 ?h1 ?h2 ?h3 ?_
                          case hgd => rfl
                          case ho => rfl
                          case h0 => rfl
                          case h1 => rfl
                          case h2 => rfl
                          case h3 => rfl
                          have hS2 := hHeld.alloc hHeld.size (.cells #[.slice Ar rb.length cr, .slice Au T.length cu, .slice At r ct, .slice A11 (T.length + 1) c11] 29)
                          refine hK.out _ _ ?_ (fun hHeld2 => ?_)
                          · exact hS2
                          clear hK K hHeld
                          have hHeld := hHeld2
                          clear hHeld2
                          try simp only [Act.put, List.setIfInBounds_toArray, List.set_cons_zero, List.set_cons_succ]
                          refine wpAnyH_take (i := 12) (oi := ?_) (v := ?_) (by simp only [List.getElem?_toArray, List.getElem?_cons_zero, List.getElem?_cons_succ]; rfl) (by kernel_rfl) (by kernel_rfl) (by kernel_rfl) (by exact fun _ _ _ h => h) (Or.inl ⟨by rfl, ?_⟩) (by assumption) ?_
                          rotate_left
                          · (intro w hSw; (try dsimp only at hSw); clear hSw; go_simp; first | done | with_reducible rfl)
                          try simp only [Act.put, List.setIfInBounds_toArray, List.set_cons_zero, List.set_cons_succ]
                          refine wpAnyH_done (by kernel_rfl) ?_ _
                          have HW := As.mk hHeld
                          clear hHeld
                          go_wp2
                          go_meet
                          refine ⟨w11.heap.size, [.slice Ar rb.length cr, .slice Au T.length cu, .slice At r ct, .slice A11 (T.length + 1) c11], rfl, rfl, rfl, ⟨rfl, ⟨heap_alloc_new _ _, fun v hv => ?_⟩, HW.out⟩⟩
                          have hh := HW.out
                          have hx1 := HTL.out
                          have hx2 := HL3.out
                          simp only [List.mem_cons, List.not_mem_nil, or_false] at hv
                          rcases hv with rfl | rfl | rfl | rfl
                          · exact ⟨rb, RdS.below HRRe.out hh, by omega⟩
                          · exact ⟨U, RdS.below HU.out.2.1 hh, by have := HU.out.2.2; omega⟩
                          · exact ⟨T.take r, RdS.below HXQ.out hh, by rw [List.length_take]; omega⟩
                          · exact ⟨T ++ [b8], RdS.below HR11.out (below_al _ _), by rw [List.length_append]; simp; omega⟩
                        exact AllReadyH.nil
                      exact AllReadyH.nil
                    exact AllReadyH.nil
                  refine AllReadyH.cons (o := ?_) (by simp only [List.getElem?_toArray, List.getElem?_cons_zero, List.getElem?_cons_succ]; rfl) (fun K hK => ?_) ?_
                  · go_simp
                    have hS2 := hHeld.alloc hHeld.size (.cells #[.int .u8 (b8.toNat : Int)] 5)
                    have H1 : As (OwB ((we.drew.alloc (.cells #[] 5)).alloc (.cells #[.int .u8 (b8.toNat : Int)] 5)) we.heap.size 5 (.slice (some ⟨we.heap.size + 1, 0, none⟩) 1 1) [b8]) := ⟨by have h := OwS.lit (we.drew.alloc (.cells #[] 5)) we.heap.size 5 1 1 #[.int .u8 (b8.toNat : Int)] hHeld.size (by decide) rfl; rw [show (we.drew.alloc (.cells #[] 5)).heap.size = we.heap.size + 1 by simp] at h; exact h⟩
                    have HE0b := As.mk (OwS.below HE0.out (below_al _ (.cells #[.int .u8 (b8.toNat : Int)] 5)))
                    clear HE0
                    have HE0 := HE0b
                    clear HE0b
                    refine hK.out _ _ ?_ (fun hHeld2 => ?_)
                    · exact hS2
                    clear hK K hHeld
                    have hHeld := hHeld2
                    clear hHeld2
                    try simp only [Act.put, List.setIfInBounds_toArray, List.set_cons_zero, List.set_cons_succ]
                    refine wpAnyH_ready (rs := [7]) (by kernel_rfl) (by simp) ?_
                    refine AllReadyH.cons (o := ?_) (by simp only [List.getElem?_toArray, List.getElem?_cons_zero, List.getElem?_cons_succ]; rfl) (fun K hK => ?_) ?_
                    · refine step_appB ?hgd (.tmp 113) (.tmp 114) ?ho ?hty we.heap.size (.slice (some ⟨we.heap.size, 0, none⟩) 0 0) [] ?hs HE0.out (.slice At T.length ct) T ?hx (RdS.below HRTe.out hHeld) ?hl hHeld.size ?_
                      case hgd => rfl
                      case ho => rfl
                      case hty => rfl
                      case hs => rfl
                      case hx => rfl
                      case hl => have := HTL.out; simp; omega
                      intro v8 w8 ho hg
                      have hS2 := OwB.below_of HE0.out hg hHeld (Nat.le_refl _) hHeld.size
                      obtain ⟨A8, c8, rfl⟩ := RdB.formN (n := T.length) ho.rd (by simp)
                      have HO8 : As (OwB w8 we.heap.size 5 (.slice A8 T.length c8) T) := ⟨ho⟩
                      have H1b := As.mk (OwS.kept H1.out hg (off_kept (fun k hk e => by simp [Value.ownBlock] at hk e; omega)))
                      clear H1
                      have H1 := H1b
                      clear H1b
                      clear ho hg
                      refine hK.out _ _ ?_ (fun hHeld2 => ?_)
                      · exact hS2
                      clear hK K hHeld
                      have hHeld := hHeld2
                      clear hHeld2
                      try simp only [Act.put, List.setIfInBounds_toArray, List.set_cons_zero, List.set_cons_succ]
                      refine wpAnyH_ready (rs := [10]) (by kernel_rfl) (by simp) ?_
                      refine AllReadyH.cons (o := ?_) (by simp only [List.getElem?_toArray, List.getElem?_cons_zero, List.getElem?_cons_succ]; rfl) (fun K hK => ?_) ?_
                      · refine step_appB ?hgd (.tmp 115) (.tmp 117) ?ho ?hty we.heap.size (.slice A8 T.length c8) T ?hs HO8.out (.slice (some ⟨we.heap.size + 1, 0, none⟩) 1 1) [b8] ?hx H1.out.rd ?hl hHeld.size ?_
                        case hgd => rfl
                        case ho => rfl
                        case hty => rfl
                        case hs => rfl
                        case hx => rfl
                        case hl => have := HTL.out; simp; omega
                        intro v11 w11 ho hg
                        have hS2 := OwB.below_of HO8.out hg hHeld (Nat.le_refl _) hHeld.size
                        obtain ⟨A11, c11, rfl⟩ := RdB.formN (n := T.length + 1) ho.rd (by simp)
                        have HR11 := As.mk ho.rd
                        clear ho hg
                        refine hK.out _ _ ?_ (fun hHeld2 => ?_)
                        · exact hS2
                        clear hK K hHeld
                        have hHeld := hHeld2
                        clear hHeld2
                        try simp only [Act.put, List.setIfInBounds_toArray, List.set_cons_zero, List.set_cons_succ]
                        refine wpAnyH_ready (rs := [11]) (by kernel_rfl) (by simp) ?_
                        refine AllReadyH.cons (o := ?_) (by simp only [List.getElem?_toArray, List.getElem?_cons_zero, List.getElem?_cons_succ]; rfl) (fun K hK => ?_) ?_
                        · refine step_four ?hgd (.tmp 108) (.tmp 109) (.tmp 112) (.tmp 118) ?ho Ar Au At A11 rb.length T.length r (T.length + 1) cr cu ct c11 ?h0 ?h1 ?h2 ?h3 ?_
                          case hgd => rfl
                          case ho => rfl
                          case h0 => rfl
                          case h1 => rfl
                          case h2 => rfl
                          case h3 => rfl
                          have hS2 := hHeld.alloc hHeld.size (.cells #[.slice Ar rb.length cr, .slice Au T.length cu, .slice At r ct, .slice A11 (T.length + 1) c11] 29)
                          refine hK.out _ _ ?_ (fun hHeld2 => ?_)
                          · exact hS2
                          clear hK K hHeld
                          have hHeld := hHeld2
                          clear hHeld2
                          try simp only [Act.put, List.setIfInBounds_toArray, List.set_cons_zero, List.set_cons_succ]
                          refine wpAnyH_take (i := 12) (oi := ?_) (v := ?_) (by simp only [List.getElem?_toArray, List.getElem?_cons_zero, List.getElem?_cons_succ]; rfl) (by kernel_rfl) (by kernel_rfl) (by kernel_rfl) (by exact fun _ _ _ h => h) (Or.inl ⟨by rfl, ?_⟩) (by assumption) ?_
                          rotate_left
                          · (intro w hSw; (try dsimp only at hSw); clear hSw; go_simp; first | done | with_reducible rfl)
                          try simp only [Act.put, List.setIfInBounds_toArray, List.set_cons_zero, List.set_cons_succ]
                          refine wpAnyH_done (by kernel_rfl) ?_ _
                          have HW := As.mk hHeld
                          clear hHeld
                          go_wp2
                          go_meet
                          refine ⟨w11.heap.size, [.slice Ar rb.length cr, .slice Au T.length cu, .slice At r ct, .slice A11 (T.length + 1) c11], rfl, rfl, rfl, ⟨rfl, ⟨heap_alloc_new _ _, fun v hv => ?_⟩, HW.out⟩⟩
                          have hh := HW.out
                          have hx1 := HTL.out
                          have hx2 := HL3.out
                          simp only [List.mem_cons, List.not_mem_nil, or_false] at hv
                          rcases hv with rfl | rfl | rfl | rfl
                          · exact ⟨rb, RdS.below HRRe.out hh, by omega⟩
                          · exact ⟨U, RdS.below HU.out.2.1 hh, by have := HU.out.2.2; omega⟩
                          · exact ⟨T.take r, RdS.below HXQ.out hh, by rw [List.length_take]; omega⟩
                          · exact ⟨T ++ [b8], RdS.below HR11.out (below_al _ _), by rw [List.length_append]; simp; omega⟩
                        exact AllReadyH.nil
                      exact AllReadyH.nil
                    exact AllReadyH.nil
                  exact AllReadyH.nil
                refine AllReadyH.cons (o := ?_) (by simp only [List.getElem?_toArray, List.getElem?_cons_zero, List.getElem?_cons_succ]; rfl) (fun K hK => ?_) ?_
                · go_simp
                  have hS2 := hHeld.alloc hHeld.size (.cells #[.int .u8 (b8.toNat : Int)] 5)
                  have H1 : As (OwB (we.drew.alloc (.cells #[.int .u8 (b8.toNat : Int)] 5)) we.heap.size 5 (.slice (some ⟨we.heap.size, 0, none⟩) 1 1) [b8]) := ⟨by have h := OwS.lit we.drew we.heap.size 5 1 1 #[.int .u8 (b8.toNat : Int)] hHeld.size (by decide) rfl; exact h⟩
                  refine hK.out _ _ ?_ (fun hHeld2 => ?_)
                  · exact hS2
                  clear hK K hHeld
                  have hHeld := hHeld2
                  clear hHeld2
                  try simp only [Act.put, List.setIfInBounds_toArray, List.set_cons_zero, List.set_cons_succ]
                  refine wpAnyH_ready (rs := [5]) (by kernel_rfl) (by simp) ?_
                  refine AllReadyH.cons (o := ?_) (by simp only [List.getElem?_toArray, List.getElem?_cons_zero, List.getElem?_cons_succ]; rfl) (fun K hK => ?_) ?_
                  · refine step_empty29 ?hgd ?ho ?_
                    case hgd => rfl
                    case ho => rfl
                    have hS2 := hHeld.alloc hHeld.size (.cells #[] 5)
                    have HE0 : As (OwB ((we.drew.alloc (.cells #[.int .u8 (b8.toNat : Int)] 5)).alloc (.cells #[] 5)) we.heap.size 5 (.slice (some ⟨(we.drew.alloc (.cells #[.int .u8 (b8.toNat : Int)] 5)).heap.size, 0, none⟩) 0 0) []) := ⟨OwB.empty (we.drew.alloc (.cells #[.int .u8 (b8.toNat : Int)] 5)) we.heap.size 5 hHeld.size⟩
                    have H1b := As.mk (OwS.below H1.out (below_al _ (.cells #[] 5)))
                    clear H1
                    have H1 := H1b
                    clear H1b
                    refine hK.out _ _ ?_ (fun hHeld2 => ?_)
                    · exact hS2
                    clear hK K hHeld
                    have hHeld := hHeld2
                    clear hHeld2
                    try simp only [Act.put, List.setIfInBounds_toArray, List.set_cons_zero, List.set_cons_succ]
                    refine wpAnyH_ready (rs := [7]) (by kernel_rfl) (by simp) ?_
                    refine AllReadyH.cons (o := ?_) (by simp only [List.getElem?_toArray, List.getElem?_cons_zero, List.getElem?_cons_succ]; rfl) (fun K hK => ?_) ?_
                    · refine step_appB ?hgd (.tmp 113) (.tmp 114) ?ho ?hty we.heap.size (.slice (some ⟨(we.drew.alloc (.cells #[.int .u8 (b8.toNat : Int)] 5)).heap.size, 0, none⟩) 0 0) [] ?hs HE0.out (.slice At T.length ct) T ?hx (RdS.below HRTe.out hHeld) ?hl hHeld.size ?_
                      case hgd => rfl
                      case ho => rfl
                      case hty => rfl
                      case hs => rfl
                      case hx => rfl
                      case hl => have := HTL.out; simp; omega
                      intro v8 w8 ho hg
                      have hS2 := OwB.below_of HE0.out hg hHeld (Nat.le_refl _) hHeld.size
                      obtain ⟨A8, c8, rfl⟩ := RdB.formN (n := T.length) ho.rd (by simp)
                      have HO8 : As (OwB w8 we.heap.size 5 (.slice A8 T.length c8) T) := ⟨ho⟩
                      have H1b := As.mk (OwS.kept H1.out hg (off_kept (fun k hk e => by simp [Value.ownBlock] at hk e; omega)))
                      clear H1
                      have H1 := H1b
                      clear H1b
                      clear ho hg
                      refine hK.out _ _ ?_ (fun hHeld2 => ?_)
                      · exact hS2
                      clear hK K hHeld
                      have hHeld := hHeld2
                      clear hHeld2
                      try simp only [Act.put, List.setIfInBounds_toArray, List.set_cons_zero, List.set_cons_succ]
                      refine wpAnyH_ready (rs := [10]) (by kernel_rfl) (by simp) ?_
                      refine AllReadyH.cons (o := ?_) (by simp only [List.getElem?_toArray, List.getElem?_cons_zero, List.getElem?_cons_succ]; rfl) (fun K hK => ?_) ?_
                      · refine step_appB ?hgd (.tmp 115) (.tmp 117) ?ho ?hty we.heap.size (.slice A8 T.length c8) T ?hs HO8.out (.slice (some ⟨we.heap.size, 0, none⟩) 1 1) [b8] ?hx H1.out.rd ?hl hHeld.size ?_
                        case hgd => rfl
                        case ho => rfl
                        case hty => rfl
                        case hs => rfl
                        case hx => rfl
                        case hl => have := HTL.out; simp; omega
                        intro v11 w11 ho hg
                        have hS2 := OwB.below_of HO8.out hg hHeld (Nat.le_refl _) hHeld.size
                        obtain ⟨A11, c11, rfl⟩ := RdB.formN (n := T.length + 1) ho.rd (by simp)
                        have HR11 := As.mk ho.rd
                        clear ho hg
                        refine hK.out _ _ ?_ (fun hHeld2 => ?_)
                        · exact hS2
                        clear hK K hHeld
                        have hHeld := hHeld2
                        clear hHeld2
                        try simp only [Act.put, List.setIfInBounds_toArray, List.set_cons_zero, List.set_cons_succ]
                        refine wpAnyH_ready (rs := [11]) (by kernel_rfl) (by simp) ?_
                        refine AllReadyH.cons (o := ?_) (by simp only [List.getElem?_toArray, List.getElem?_cons_zero, List.getElem?_cons_succ]; rfl) (fun K hK => ?_) ?_
                        · refine step_four ?hgd (.tmp 108) (.tmp 109) (.tmp 112) (.tmp 118) ?ho Ar Au At A11 rb.length T.length r (T.length + 1) cr cu ct c11 ?h0 ?h1 ?h2 ?h3 ?_
                          case hgd => rfl
                          case ho => rfl
                          case h0 => rfl
                          case h1 => rfl
                          case h2 => rfl
                          case h3 => rfl
                          have hS2 := hHeld.alloc hHeld.size (.cells #[.slice Ar rb.length cr, .slice Au T.length cu, .slice At r ct, .slice A11 (T.length + 1) c11] 29)
                          refine hK.out _ _ ?_ (fun hHeld2 => ?_)
                          · exact hS2
                          clear hK K hHeld
                          have hHeld := hHeld2
                          clear hHeld2
                          try simp only [Act.put, List.setIfInBounds_toArray, List.set_cons_zero, List.set_cons_succ]
                          refine wpAnyH_take (i := 12) (oi := ?_) (v := ?_) (by simp only [List.getElem?_toArray, List.getElem?_cons_zero, List.getElem?_cons_succ]; rfl) (by kernel_rfl) (by kernel_rfl) (by kernel_rfl) (by exact fun _ _ _ h => h) (Or.inl ⟨by rfl, ?_⟩) (by assumption) ?_
                          rotate_left
                          · (intro w hSw; (try dsimp only at hSw); clear hSw; go_simp; first | done | with_reducible rfl)
                          try simp only [Act.put, List.setIfInBounds_toArray, List.set_cons_zero, List.set_cons_succ]
                          refine wpAnyH_done (by kernel_rfl) ?_ _
                          have HW := As.mk hHeld
                          clear hHeld
                          go_wp2
                          go_meet
                          refine ⟨w11.heap.size, [.slice Ar rb.length cr, .slice Au T.length cu, .slice At r ct, .slice A11 (T.length + 1) c11], rfl, rfl, rfl, ⟨rfl, ⟨heap_alloc_new _ _, fun v hv => ?_⟩, HW.out⟩⟩
                          have hh := HW.out
                          have hx1 := HTL.out
                          have hx2 := HL3.out
                          simp only [List.mem_cons, List.not_mem_nil, or_false] at hv
                          rcases hv with rfl | rfl | rfl | rfl
                          · exact ⟨rb, RdS.below HRRe.out hh, by omega⟩
                          · exact ⟨U, RdS.below HU.out.2.1 hh, by have := HU.out.2.2; omega⟩
                          · exact ⟨T.take r, RdS.below HXQ.out hh, by rw [List.length_take]; omega⟩
                          · exact ⟨T ++ [b8], RdS.below HR11.out (below_al _ _), by rw [List.length_append]; simp; omega⟩
                        exact AllReadyH.nil
                      exact AllReadyH.nil
                    exact AllReadyH.nil
                  exact AllReadyH.nil
                exact AllReadyH.nil
            case rest =>
              obtain ⟨G, vs, rfl, rfl, rfl, HC6⟩ := hcut
              obtain ⟨wf, rfl⟩ : ∃ wf, wf = wc := ⟨wc, rfl⟩
              have HVL := As.mk HC6.out.1
              have HTf := As.mk (HTe.out.below HC6.out.2.2)
              clear HTe HRTe HRRe HXQ HU hqc hql hwq hr
              go_wp2
              have HF0 : As (Four wf G vs ∧ Below wf.heap.size wf wf) := ⟨HC6.out.2.1, Below.refl _ _⟩
              go_loopw [121] (fun v121 wr => ∃ i : Nat, (i : Int) ≤ 4 ∧ v121 = .int .i64 (i : Int) ∧ As (Four wr G vs ∧ Below wf.heap.size wf wr)) (fun v121 _ => 4 - (intOf v121).toNat)
              case atStart => exact ⟨0, by omega, rfl, HF0⟩
              case round =>
                clear HC6 HF0
                obtain ⟨i, hi, rfl, HE⟩ := hrel
                obtain ⟨wg, rfl⟩ : ∃ wg, wg = wr := ⟨wr, rfl⟩
                by_cases hlt4 : (i : Int) < 4
                · obtain ⟨Av, l, cv, x0, hrd, hll⟩ := HE.out.1.at i (by rw [HVL.out]; omega)
                  have HRD := As.mk hrd
                  have HLL := As.mk hll
                  have HEg := As.mk (HEN.out.below (HTf.out.below HE.out.2).bl)
                  have kv := run_str (P := Tryd.prog) 29 9 5 Tryd.underlying29 Tryd.underlying5 Tryd.underlying9 hrd
                  clear hrd hll
                  go_upto_region 21 with (go_at_call 12; (with_reducible refine (parse_as l HLL.out _ HEg.out).mono ?_); rintro e w9 ⟨kz, pz, nz, gz, bz, lz, Az, cz, Lz, dz, ok, rfl, h1, h2, h3, hb⟩; have HZ1 := As.mk h1; have HZ2 := As.mk h2; have HZ3 := As.mk h3; have HB9 := As.mk hb; clear h1 h2 h3 hb x0 kv)
                  have HB10 : As (Below wg.heap.size wg (w9.alloc (.cells #[.int .i64 kz, .int .i64 pz, .int .i64 nz, .bool gz, .slice Az (List.length bz) cz, .slice Lz (List.length lz) dz] 35))) := ⟨HB9.out.alloc HB9.out.size _⟩
                  have HBZ : As (Box (w9.alloc (.cells #[.int .i64 kz, .int .i64 pz, .int .i64 nz, .bool gz, .slice Az (List.length bz) cz, .slice Lz (List.length lz) dz] 35)) w9.heap.size #[.int .i64 kz, .int .i64 pz, .int .i64 nz, .bool gz, .slice Az (List.length bz) cz, .slice Lz (List.length lz) dz] 35) := ⟨Box.new _ _ _⟩
                  have HRDx := As.mk (RdS.below (RdS.below HRD.out HB9.out) (below_al w9 (.cells #[.int .i64 kz, .int .i64 pz, .int .i64 nz, .bool gz, .slice Az (List.length bz) cz, .slice Lz (List.length lz) dz] 35)))
                  have HZ1x := As.mk (RdS.below HZ1.out (below_al w9 (.cells #[.int .i64 kz, .int .i64 pz, .int .i64 nz, .bool gz, .slice Az (List.length bz) cz, .slice Lz (List.length lz) dz] 35)))
                  have HZ2x := As.mk (HZ2.out.below (below_al w9 (.cells #[.int .i64 kz, .int .i64 pz, .int .i64 nz, .bool gz, .slice Az (List.length bz) cz, .slice Lz (List.length lz) dz] 35)))
                  clear HRD HZ1 HZ2 HB9
                  generalize (w9.alloc (.cells #[.int .i64 kz, .int .i64 pz, .int .i64 nz, .bool gz, .slice Az (List.length bz) cz, .slice Lz (List.length lz) dz] 35)) = W10 at HB10 HBZ HRDx HZ1x HZ2x ⊢
                  generalize w9.heap.size = Z at HBZ ⊢
                  have HE10 := As.mk (HEg.out.below HB10.out)
                  have Z0 := As.mk (HBZ.out.cell 0 _ rfl)
                  have Z1 := As.mk (HBZ.out.cell 1 _ rfl)
                  have Z2 := As.mk (HBZ.out.cell 2 _ rfl)
                  have Z3 := As.mk (HBZ.out.cell 3 _ rfl)
                  have Z4 := As.mk (HBZ.out.cell 4 _ rfl)
                  have Z5 := As.mk (HBZ.out.cell 5 _ rfl)
                  have HDE : As (decide ((⟨kz, pz, nz, gz, bz, lz⟩ : LStep) = ⟨kz, pz, nz, gz, bz, lz⟩) = true) := ⟨decide_eq_true rfl⟩
                  rcases HZ3.out with ⟨rfl, h1⟩ | ⟨rfl, h1, h2⟩
                  · have hok := parse_ok h1
                    have HTZ : As (stepL kz pz nz gz bz lz = l) := ⟨hok.1⟩
                    have HFZ := As.mk (parse_fit h1 HLL.out)
                    have HON := As.mk hok.2.1
                    clear hok h1
                    refine wp_region_held_drew (S := (fun V : World => Below W10.heap.size W10 V)) (by kernel_rfl) ?_ (fun hHeld => ?_)
                    · exact below_dr W10
                    refine wpAnyH_take (i := 0) (oi := ?_) (v := ?_) (by simp only [List.getElem?_toArray, List.getElem?_cons_zero, List.getElem?_cons_succ]; rfl) (by kernel_rfl) (by kernel_rfl) (by kernel_rfl) (by exact fun _ _ _ h => h) (Or.inl ⟨by rfl, ?_⟩) (by assumption) ?_
                    rotate_left
                    · (intro w hSw; (try dsimp only at hSw); have z0 := cell_below hSw Z0.out; have z1 := cell_below hSw Z1.out; have z2 := cell_below hSw Z2.out; have z3 := cell_below hSw Z3.out; have z4 := cell_below hSw Z4.out; have z5 := cell_below hSw Z5.out; clear hSw; go_simp; first | done | with_reducible rfl)
                    try simp only [Act.put, List.setIfInBounds_toArray, List.set_cons_zero, List.set_cons_succ]
                    refine wpAnyH_take (i := 1) (oi := ?_) (v := ?_) (by simp only [List.getElem?_toArray, List.getElem?_cons_zero, List.getElem?_cons_succ]; rfl) (by kernel_rfl) (by kernel_rfl) (by kernel_rfl) (by exact fun _ _ _ h => h) (Or.inl ⟨by rfl, ?_⟩) (by assumption) ?_
                    rotate_left
                    · (intro w hSw; (try dsimp only at hSw); have z0 := cell_below hSw Z0.out; have z1 := cell_below hSw Z1.out; have z2 := cell_below hSw Z2.out; have z3 := cell_below hSw Z3.out; have z4 := cell_below hSw Z4.out; have z5 := cell_below hSw Z5.out; clear hSw; go_simp; first | done | with_reducible rfl)
                    try simp only [Act.put, List.setIfInBounds_toArray, List.set_cons_zero, List.set_cons_succ]
                    refine wpAnyH_take (i := 2) (oi := ?_) (v := ?_) (by simp only [List.getElem?_toArray, List.getElem?_cons_zero, List.getElem?_cons_succ]; rfl) (by kernel_rfl) (by kernel_rfl) (by kernel_rfl) (by exact fun _ _ _ h => h) (Or.inl ⟨by rfl, ?_⟩) (by assumption) ?_
                    rotate_left
                    · (intro w hSw; (try dsimp only at hSw); have z0 := cell_below hSw Z0.out; have z1 := cell_below hSw Z1.out; have z2 := cell_below hSw Z2.out; have z3 := cell_below hSw Z3.out; have z4 := cell_below hSw Z4.out; have z5 := cell_below hSw Z5.out; clear hSw; go_simp; first | done | with_reducible rfl)
                    try simp only [Act.put, List.setIfInBounds_toArray, List.set_cons_zero, List.set_cons_succ]
                    refine wpAnyH_take (i := 4) (oi := ?_) (v := ?_) (by simp only [List.getElem?_toArray, List.getElem?_cons_zero, List.getElem?_cons_succ]; rfl) (by kernel_rfl) (by kernel_rfl) (by kernel_rfl) (by exact fun _ _ _ h => h) (Or.inl ⟨by rfl, ?_⟩) (by assumption) ?_
                    rotate_left
                    · (intro w hSw; (try dsimp only at hSw); have z0 := cell_below hSw Z0.out; have z1 := cell_below hSw Z1.out; have z2 := cell_below hSw Z2.out; have z3 := cell_below hSw Z3.out; have z4 := cell_below hSw Z4.out; have z5 := cell_below hSw Z5.out; clear hSw; go_simp; first | done | with_reducible rfl)
                    try simp only [Act.put, List.setIfInBounds_toArray, List.set_cons_zero, List.set_cons_succ]
                    refine wpAnyH_take (i := 5) (oi := ?_) (v := ?_) (by simp only [List.getElem?_toArray, List.getElem?_cons_zero, List.getElem?_cons_succ]; rfl) (by kernel_rfl) (by kernel_rfl) (by kernel_rfl) (by exact fun _ _ _ h => h) (Or.inl ⟨by rfl, ?_⟩) (by assumption) ?_
                    rotate_left
                    · (intro w2 hw2; (have kv := run_str (P := Tryd.prog) 29 9 5 Tryd.underlying29 Tryd.underlying5 Tryd.underlying9 (RdS.below HRDx.out hw2); go_simp; first | done | with_reducible rfl))
                    try simp only [Act.put, List.setIfInBounds_toArray, List.set_cons_zero, List.set_cons_succ]
                    refine wpAnyH_ready (rs := [3]) (by kernel_rfl) (by simp) ?_
                    refine AllReadyH.cons (o := ?_) (by simp only [List.getElem?_toArray, List.getElem?_cons_zero, List.getElem?_cons_succ]; rfl) (fun K hK => ?_) ?_
                    · go_simp
                      (with_reducible refine (stepQ_as kz pz nz gz bz lz HTZ.out HFZ.out _ _ _ (RdS.below HZ1x.out hHeld) (HZ2x.out.below hHeld) (HE10.out.below hHeld)).mono ?_)
                      rintro e w23 ⟨rfl, hb⟩
                      have hS2 := hHeld.trans (hb.mono hHeld.size)
                      clear hb
                      dsimp only
                      refine hK.out _ _ ?_ (fun hHeld2 => ?_)
                      · exact hS2
                      clear hK K hHeld
                      have hHeld := hHeld2
                      clear hHeld2
                      try simp only [Act.put, List.setIfInBounds_toArray, List.set_cons_zero, List.set_cons_succ]
                      refine wpAnyH_take (i := 6) (oi := ?_) (v := ?_) (by simp only [List.getElem?_toArray, List.getElem?_cons_zero, List.getElem?_cons_succ]; rfl) (by kernel_rfl) (by kernel_rfl) (by kernel_rfl) (by exact fun _ _ _ h => h) (Or.inl ⟨by rfl, ?_⟩) (by assumption) ?_
                      rotate_left
                      · (intro w hSw; (try dsimp only at hSw); have z0 := cell_below hSw Z0.out; have z1 := cell_below hSw Z1.out; have z2 := cell_below hSw Z2.out; have z3 := cell_below hSw Z3.out; have z4 := cell_below hSw Z4.out; have z5 := cell_below hSw Z5.out; clear hSw; go_simp; first | done | with_reducible rfl)
                      try simp only [Act.put, List.setIfInBounds_toArray, List.set_cons_zero, List.set_cons_succ]
                      refine wpAnyH_take (i := 7) (oi := ?_) (v := ?_) (by simp only [List.getElem?_toArray, List.getElem?_cons_zero, List.getElem?_cons_succ]; rfl) (by kernel_rfl) (by kernel_rfl) (by kernel_rfl) (by exact fun _ _ _ h => h) (Or.inl ⟨by rfl, ?_⟩) (by assumption) ?_
                      rotate_left
                      · (intro w hSw; (try dsimp only at hSw); have z0 := cell_below hSw Z0.out; have z1 := cell_below hSw Z1.out; have z2 := cell_below hSw Z2.out; have z3 := cell_below hSw Z3.out; have z4 := cell_below hSw Z4.out; have z5 := cell_below hSw Z5.out; clear hSw; go_simp; first | done | with_reducible rfl)
                      try simp only [Act.put, List.setIfInBounds_toArray, List.set_cons_zero, List.set_cons_succ]
                      refine wpAnyH_take (i := 8) (oi := ?_) (v := ?_) (by simp only [List.getElem?_toArray, List.getElem?_cons_zero, List.getElem?_cons_succ]; rfl) (by kernel_rfl) (by kernel_rfl) (by kernel_rfl) (by exact fun _ _ _ h => h) (Or.inl ⟨by rfl, ?_⟩) (by assumption) ?_
                      rotate_left
                      · (intro w hSw; (try dsimp only at hSw); have z0 := cell_below hSw Z0.out; have z1 := cell_below hSw Z1.out; have z2 := cell_below hSw Z2.out; have z3 := cell_below hSw Z3.out; have z4 := cell_below hSw Z4.out; have z5 := cell_below hSw Z5.out; clear hSw; go_simp; first | done | with_reducible rfl)
                      try simp only [Act.put, List.setIfInBounds_toArray, List.set_cons_zero, List.set_cons_succ]
                      refine wpAnyH_take (i := 9) (oi := ?_) (v := ?_) (by simp only [List.getElem?_toArray, List.getElem?_cons_zero, List.getElem?_cons_succ]; rfl) (by kernel_rfl) (by kernel_rfl) (by kernel_rfl) (by exact fun _ _ _ h => h) (Or.inl ⟨by rfl, ?_⟩) (by assumption) ?_
                      rotate_left
                      · (intro w hSw; (try dsimp only at hSw); have z0 := cell_below hSw Z0.out; have z1 := cell_below hSw Z1.out; have z2 := cell_below hSw Z2.out; have z3 := cell_below hSw Z3.out; have z4 := cell_below hSw Z4.out; have z5 := cell_below hSw Z5.out; clear hSw; go_simp; first | done | with_reducible rfl)
                      try simp only [Act.put, List.setIfInBounds_toArray, List.set_cons_zero, List.set_cons_succ]
                      refine wpAnyH_ready (rs := [10]) (by kernel_rfl) (by simp) ?_
                      refine AllReadyH.cons (o := ?_) (by simp only [List.getElem?_toArray, List.getElem?_cons_zero, List.getElem?_cons_succ]; rfl) (fun K hK => ?_) ?_
                      · go_simp
                        (with_reducible refine (only_rd kz pz nz gz bz lz _ _ HON.out _ (RdS.below HZ1x.out hHeld) (HZ2x.out.below hHeld)).mono ?_)
                        rintro e w30 ⟨Ao, co, Lo, do_, rfl, h1, h2, hb⟩
                        have HO1 := As.mk h1
                        have HO2 := As.mk h2
                        clear h1 h2
                        have hS2 := hHeld.trans (hb.mono hHeld.size)
                        clear hb
                        dsimp only
                        refine hK.out _ _ ?_ (fun hHeld2 => ?_)
                        · exact hS2
                        clear hK K hHeld
                        have hHeld := hHeld2
                        clear hHeld2
                        try simp only [Act.put, List.setIfInBounds_toArray, List.set_cons_zero, List.set_cons_succ]
                        refine wpAnyH_ready (rs := [11]) (by kernel_rfl) (by simp) ?_
                        refine AllReadyH.cons (o := ?_) (by simp only [List.getElem?_toArray, List.getElem?_cons_zero, List.getElem?_cons_succ]; rfl) (fun K hK => ?_) ?_
                        · go_simp
                          (with_reducible refine (same_as kz pz nz gz bz lz kz pz nz gz bz lz HDE.out _ _ _ _ _ (RdS.below HZ1x.out hHeld) (HZ2x.out.below hHeld) HO1.out HO2.out).mono ?_)
                          rintro e w31 ⟨rfl, hb⟩
                          have hS2 := hHeld.trans (hb.mono hHeld.size)
                          clear hb
                          dsimp only
                          refine hK.out _ _ ?_ (fun hHeld2 => ?_)
                          · exact hS2
                          clear hK K hHeld
                          have hHeld := hHeld2
                          clear hHeld2
                          try simp only [Act.put, List.setIfInBounds_toArray, List.set_cons_zero, List.set_cons_succ]
                          refine wpAnyH_take (i := 12) (oi := ?_) (v := ?_) (by simp only [List.getElem?_toArray, List.getElem?_cons_zero, List.getElem?_cons_succ]; rfl) (by kernel_rfl) (by kernel_rfl) (by kernel_rfl) (by exact fun _ _ _ h => h) (Or.inl ⟨by rfl, ?_⟩) (by assumption) ?_
                          rotate_left
                          · (intro w hSw; (try dsimp only at hSw); have z0 := cell_below hSw Z0.out; have z1 := cell_below hSw Z1.out; have z2 := cell_below hSw Z2.out; have z3 := cell_below hSw Z3.out; have z4 := cell_below hSw Z4.out; have z5 := cell_below hSw Z5.out; clear hSw; go_simp; first | done | with_reducible rfl)
                          try simp only [Act.put, List.setIfInBounds_toArray, List.set_cons_zero, List.set_cons_succ]
                          refine wpAnyH_take (i := 13) (oi := ?_) (v := ?_) (by simp only [List.getElem?_toArray, List.getElem?_cons_zero, List.getElem?_cons_succ]; rfl) (by kernel_rfl) (by kernel_rfl) (by kernel_rfl) (by exact fun _ _ _ h => h) (Or.inl ⟨by rfl, ?_⟩) (by assumption) ?_
                          rotate_left
                          · (intro w hSw; (try dsimp only at hSw); have z0 := cell_below hSw Z0.out; have z1 := cell_below hSw Z1.out; have z2 := cell_below hSw Z2.out; have z3 := cell_below hSw Z3.out; have z4 := cell_below hSw Z4.out; have z5 := cell_below hSw Z5.out; clear hSw; go_simp; first | done | with_reducible rfl)
                          try simp only [Act.put, List.setIfInBounds_toArray, List.set_cons_zero, List.set_cons_succ]
                          refine wpAnyH_take (i := 14) (oi := ?_) (v := ?_) (by simp only [List.getElem?_toArray, List.getElem?_cons_zero, List.getElem?_cons_succ]; rfl) (by kernel_rfl) (by kernel_rfl) (by kernel_rfl) (by exact fun _ _ _ h => h) (Or.inl ⟨by rfl, ?_⟩) (by assumption) ?_
                          rotate_left
                          · (intro w hSw; (try dsimp only at hSw); have z0 := cell_below hSw Z0.out; have z1 := cell_below hSw Z1.out; have z2 := cell_below hSw Z2.out; have z3 := cell_below hSw Z3.out; have z4 := cell_below hSw Z4.out; have z5 := cell_below hSw Z5.out; clear hSw; go_simp; first | done | with_reducible rfl)
                          try simp only [Act.put, List.setIfInBounds_toArray, List.set_cons_zero, List.set_cons_succ]
                          refine wpAnyH_take (i := 15) (oi := ?_) (v := ?_) (by simp only [List.getElem?_toArray, List.getElem?_cons_zero, List.getElem?_cons_succ]; rfl) (by kernel_rfl) (by kernel_rfl) (by kernel_rfl) (by exact fun _ _ _ h => h) (Or.inl ⟨by rfl, ?_⟩) (by assumption) ?_
                          rotate_left
                          · (intro w hSw; (try dsimp only at hSw); have z0 := cell_below hSw Z0.out; have z1 := cell_below hSw Z1.out; have z2 := cell_below hSw Z2.out; have z3 := cell_below hSw Z3.out; have z4 := cell_below hSw Z4.out; have z5 := cell_below hSw Z5.out; clear hSw; go_simp; first | done | with_reducible rfl)
                          try simp only [Act.put, List.setIfInBounds_toArray, List.set_cons_zero, List.set_cons_succ]
                          refine wpAnyH_take (i := 16) (oi := ?_) (v := ?_) (by simp only [List.getElem?_toArray, List.getElem?_cons_zero, List.getElem?_cons_succ]; rfl) (by kernel_rfl) (by kernel_rfl) (by kernel_rfl) (by exact fun _ _ _ h => h) (Or.inl ⟨by rfl, ?_⟩) (by assumption) ?_
                          rotate_left
                          · (intro w hSw; (try dsimp only at hSw); have z0 := cell_below hSw Z0.out; have z1 := cell_below hSw Z1.out; have z2 := cell_below hSw Z2.out; have z3 := cell_below hSw Z3.out; have z4 := cell_below hSw Z4.out; have z5 := cell_below hSw Z5.out; clear hSw; go_simp; first | done | with_reducible rfl)
                          try simp only [Act.put, List.setIfInBounds_toArray, List.set_cons_zero, List.set_cons_succ]
                          refine wpAnyH_take (i := 17) (oi := ?_) (v := ?_) (by simp only [List.getElem?_toArray, List.getElem?_cons_zero, List.getElem?_cons_succ]; rfl) (by kernel_rfl) (by kernel_rfl) (by kernel_rfl) (by exact fun _ _ _ h => h) (Or.inl ⟨by rfl, ?_⟩) (by assumption) ?_
                          rotate_left
                          · (intro w hSw; (try dsimp only at hSw); have z0 := cell_below hSw Z0.out; have z1 := cell_below hSw Z1.out; have z2 := cell_below hSw Z2.out; have z3 := cell_below hSw Z3.out; have z4 := cell_below hSw Z4.out; have z5 := cell_below hSw Z5.out; clear hSw; go_simp; first | done | with_reducible rfl)
                          try simp only [Act.put, List.setIfInBounds_toArray, List.set_cons_zero, List.set_cons_succ]
                          refine wpAnyH_take (i := 18) (oi := ?_) (v := ?_) (by simp only [List.getElem?_toArray, List.getElem?_cons_zero, List.getElem?_cons_succ]; rfl) (by kernel_rfl) (by kernel_rfl) (by kernel_rfl) (by exact fun _ _ _ h => h) (Or.inl ⟨by rfl, ?_⟩) (by assumption) ?_
                          rotate_left
                          · (intro w hSw; (try dsimp only at hSw); have z0 := cell_below hSw Z0.out; have z1 := cell_below hSw Z1.out; have z2 := cell_below hSw Z2.out; have z3 := cell_below hSw Z3.out; have z4 := cell_below hSw Z4.out; have z5 := cell_below hSw Z5.out; clear hSw; go_simp; first | done | with_reducible rfl)
                          try simp only [Act.put, List.setIfInBounds_toArray, List.set_cons_zero, List.set_cons_succ]
                          refine wpAnyH_take (i := 19) (oi := ?_) (v := undef) (by simp only [List.getElem?_toArray, List.getElem?_cons_zero, List.getElem?_cons_succ]; rfl) (by kernel_rfl) (by kernel_rfl) (by kernel_rfl) (by exact fun _ _ _ h => h) (Or.inr ⟨by rfl, rfl⟩) (by assumption) ?_
                          try simp only [Act.put, List.setIfInBounds_toArray, List.set_cons_zero, List.set_cons_succ]
                          refine wpAnyH_take (i := 20) (oi := ?_) (v := undef) (by simp only [List.getElem?_toArray, List.getElem?_cons_zero, List.getElem?_cons_succ]; rfl) (by kernel_rfl) (by kernel_rfl) (by kernel_rfl) (by exact fun _ _ _ h => h) (Or.inr ⟨by rfl, rfl⟩) (by assumption) ?_
                          try simp only [Act.put, List.setIfInBounds_toArray, List.set_cons_zero, List.set_cons_succ]
                          refine wpAnyH_take (i := 21) (oi := ?_) (v := undef) (by simp only [List.getElem?_toArray, List.getElem?_cons_zero, List.getElem?_cons_succ]; rfl) (by kernel_rfl) (by kernel_rfl) (by kernel_rfl) (by exact fun _ _ _ h => h) (Or.inr ⟨by rfl, rfl⟩) (by assumption) ?_
                          try simp only [Act.put, List.setIfInBounds_toArray, List.set_cons_zero, List.set_cons_succ]
                          refine wpAnyH_take (i := 22) (oi := ?_) (v := undef) (by simp only [List.getElem?_toArray, List.getElem?_cons_zero, List.getElem?_cons_succ]; rfl) (by kernel_rfl) (by kernel_rfl) (by kernel_rfl) (by exact fun _ _ _ h => h) (Or.inr ⟨by rfl, rfl⟩) (by assumption) ?_
                          try simp only [Act.put, List.setIfInBounds_toArray, List.set_cons_zero, List.set_cons_succ]
                          refine wpAnyH_take (i := 23) (oi := ?_) (v := ?_) (by simp only [List.getElem?_toArray, List.getElem?_cons_zero, List.getElem?_cons_succ]; rfl) (by kernel_rfl) (by kernel_rfl) (by kernel_rfl) (by exact fun _ _ _ h => h) (Or.inl ⟨by rfl, ?_⟩) (by assumption) ?_
                          rotate_left
                          · (intro w hSw; (try dsimp only at hSw); have z0 := cell_below hSw Z0.out; have z1 := cell_below hSw Z1.out; have z2 := cell_below hSw Z2.out; have z3 := cell_below hSw Z3.out; have z4 := cell_below hSw Z4.out; have z5 := cell_below hSw Z5.out; clear hSw; go_simp; first | done | with_reducible rfl)
                          try simp only [Act.put, List.setIfInBounds_toArray, List.set_cons_zero, List.set_cons_succ]
                          refine wpAnyH_take (i := 24) (oi := ?_) (v := ?_) (by simp only [List.getElem?_toArray, List.getElem?_cons_zero, List.getElem?_cons_succ]; rfl) (by kernel_rfl) (by kernel_rfl) (by kernel_rfl) (by exact fun _ _ _ h => h) (Or.inl ⟨by rfl, ?_⟩) (by assumption) ?_
                          rotate_left
                          · (intro w hSw; (try dsimp only at hSw); have z0 := cell_below hSw Z0.out; have z1 := cell_below hSw Z1.out; have z2 := cell_below hSw Z2.out; have z3 := cell_below hSw Z3.out; have z4 := cell_below hSw Z4.out; have z5 := cell_below hSw Z5.out; clear hSw; go_simp; first | done | with_reducible rfl)
                          try simp only [Act.put, List.setIfInBounds_toArray, List.set_cons_zero, List.set_cons_succ]
                          refine wpAnyH_done (by kernel_rfl) ?_ _
                          have HW := As.mk (HB10.out.trans (hHeld.mono HB10.out.size))
                          clear hHeld
                          go_wp2
                          go_roundw
                          case rel => exact ⟨i + 1, by omega, by go_num, ⟨HE.out.1.below HW.out, HE.out.2.trans (HW.out.mono HE.out.2.size)⟩⟩
                          case measure => simp [intOf]; omega
                        exact AllReadyH.nil
                      exact AllReadyH.nil
                    exact AllReadyH.nil
                  · injection h2 with e1 e2 e3 e4 e5 e6
                    subst e1 e2 e3 e4 e5 e6
                    clear h1
                    refine wp_region_held_drew (S := (fun V : World => Below W10.heap.size W10 V)) (by kernel_rfl) ?_ (fun hHeld => ?_)
                    · exact below_dr W10
                    refine wpAnyH_take (i := 0) (oi := ?_) (v := ?_) (by simp only [List.getElem?_toArray, List.getElem?_cons_zero, List.getElem?_cons_succ]; rfl) (by kernel_rfl) (by kernel_rfl) (by kernel_rfl) (by exact fun _ _ _ h => h) (Or.inl ⟨by rfl, ?_⟩) (by assumption) ?_
                    rotate_left
                    · (intro w hSw; (try dsimp only at hSw); have z0 := cell_below hSw Z0.out; have z1 := cell_below hSw Z1.out; have z2 := cell_below hSw Z2.out; have z3 := cell_below hSw Z3.out; have z4 := cell_below hSw Z4.out; have z5 := cell_below hSw Z5.out; clear hSw; go_simp; first | done | with_reducible rfl)
                    try simp only [Act.put, List.setIfInBounds_toArray, List.set_cons_zero, List.set_cons_succ]
                    refine wpAnyH_take (i := 1) (oi := ?_) (v := ?_) (by simp only [List.getElem?_toArray, List.getElem?_cons_zero, List.getElem?_cons_succ]; rfl) (by kernel_rfl) (by kernel_rfl) (by kernel_rfl) (by exact fun _ _ _ h => h) (Or.inl ⟨by rfl, ?_⟩) (by assumption) ?_
                    rotate_left
                    · (intro w hSw; (try dsimp only at hSw); have z0 := cell_below hSw Z0.out; have z1 := cell_below hSw Z1.out; have z2 := cell_below hSw Z2.out; have z3 := cell_below hSw Z3.out; have z4 := cell_below hSw Z4.out; have z5 := cell_below hSw Z5.out; clear hSw; go_simp; first | done | with_reducible rfl)
                    try simp only [Act.put, List.setIfInBounds_toArray, List.set_cons_zero, List.set_cons_succ]
                    refine wpAnyH_take (i := 2) (oi := ?_) (v := undef) (by simp only [List.getElem?_toArray, List.getElem?_cons_zero, List.getElem?_cons_succ]; rfl) (by kernel_rfl) (by kernel_rfl) (by kernel_rfl) (by exact fun _ _ _ h => h) (Or.inr ⟨by rfl, rfl⟩) (by assumption) ?_
                    try simp only [Act.put, List.setIfInBounds_toArray, List.set_cons_zero, List.set_cons_succ]
                    refine wpAnyH_take (i := 3) (oi := ?_) (v := undef) (by simp only [List.getElem?_toArray, List.getElem?_cons_zero, List.getElem?_cons_succ]; rfl) (by kernel_rfl) (by kernel_rfl) (by kernel_rfl) (by exact fun _ _ _ h => h) (Or.inr ⟨by rfl, rfl⟩) (by assumption) ?_
                    try simp only [Act.put, List.setIfInBounds_toArray, List.set_cons_zero, List.set_cons_succ]
                    refine wpAnyH_take (i := 4) (oi := ?_) (v := undef) (by simp only [List.getElem?_toArray, List.getElem?_cons_zero, List.getElem?_cons_succ]; rfl) (by kernel_rfl) (by kernel_rfl) (by kernel_rfl) (by exact fun _ _ _ h => h) (Or.inr ⟨by rfl, rfl⟩) (by assumption) ?_
                    try simp only [Act.put, List.setIfInBounds_toArray, List.set_cons_zero, List.set_cons_succ]
                    refine wpAnyH_take (i := 5) (oi := ?_) (v := undef) (by simp only [List.getElem?_toArray, List.getElem?_cons_zero, List.getElem?_cons_succ]; rfl) (by kernel_rfl) (by kernel_rfl) (by kernel_rfl) (by exact fun _ _ _ h => h) (Or.inr ⟨by rfl, rfl⟩) (by assumption) ?_
                    try simp only [Act.put, List.setIfInBounds_toArray, List.set_cons_zero, List.set_cons_succ]
                    refine wpAnyH_take (i := 6) (oi := ?_) (v := undef) (by simp only [List.getElem?_toArray, List.getElem?_cons_zero, List.getElem?_cons_succ]; rfl) (by kernel_rfl) (by kernel_rfl) (by kernel_rfl) (by exact fun _ _ _ h => h) (Or.inr ⟨by rfl, rfl⟩) (by assumption) ?_
                    try simp only [Act.put, List.setIfInBounds_toArray, List.set_cons_zero, List.set_cons_succ]
                    refine wpAnyH_take (i := 7) (oi := ?_) (v := undef) (by simp only [List.getElem?_toArray, List.getElem?_cons_zero, List.getElem?_cons_succ]; rfl) (by kernel_rfl) (by kernel_rfl) (by kernel_rfl) (by exact fun _ _ _ h => h) (Or.inr ⟨by rfl, rfl⟩) (by assumption) ?_
                    try simp only [Act.put, List.setIfInBounds_toArray, List.set_cons_zero, List.set_cons_succ]
                    refine wpAnyH_take (i := 8) (oi := ?_) (v := undef) (by simp only [List.getElem?_toArray, List.getElem?_cons_zero, List.getElem?_cons_succ]; rfl) (by kernel_rfl) (by kernel_rfl) (by kernel_rfl) (by exact fun _ _ _ h => h) (Or.inr ⟨by rfl, rfl⟩) (by assumption) ?_
                    try simp only [Act.put, List.setIfInBounds_toArray, List.set_cons_zero, List.set_cons_succ]
                    refine wpAnyH_take (i := 9) (oi := ?_) (v := undef) (by simp only [List.getElem?_toArray, List.getElem?_cons_zero, List.getElem?_cons_succ]; rfl) (by kernel_rfl) (by kernel_rfl) (by kernel_rfl) (by exact fun _ _ _ h => h) (Or.inr ⟨by rfl, rfl⟩) (by assumption) ?_
                    try simp only [Act.put, List.setIfInBounds_toArray, List.set_cons_zero, List.set_cons_succ]
                    refine wpAnyH_take (i := 10) (oi := ?_) (v := undef) (by simp only [List.getElem?_toArray, List.getElem?_cons_zero, List.getElem?_cons_succ]; rfl) (by kernel_rfl) (by kernel_rfl) (by kernel_rfl) (by exact fun _ _ _ h => h) (Or.inr ⟨by rfl, rfl⟩) (by assumption) ?_
                    try simp only [Act.put, List.setIfInBounds_toArray, List.set_cons_zero, List.set_cons_succ]
                    refine wpAnyH_take (i := 11) (oi := ?_) (v := undef) (by simp only [List.getElem?_toArray, List.getElem?_cons_zero, List.getElem?_cons_succ]; rfl) (by kernel_rfl) (by kernel_rfl) (by kernel_rfl) (by exact fun _ _ _ h => h) (Or.inr ⟨by rfl, rfl⟩) (by assumption) ?_
                    try simp only [Act.put, List.setIfInBounds_toArray, List.set_cons_zero, List.set_cons_succ]
                    refine wpAnyH_take (i := 12) (oi := ?_) (v := undef) (by simp only [List.getElem?_toArray, List.getElem?_cons_zero, List.getElem?_cons_succ]; rfl) (by kernel_rfl) (by kernel_rfl) (by kernel_rfl) (by exact fun _ _ _ h => h) (Or.inr ⟨by rfl, rfl⟩) (by assumption) ?_
                    try simp only [Act.put, List.setIfInBounds_toArray, List.set_cons_zero, List.set_cons_succ]
                    refine wpAnyH_take (i := 13) (oi := ?_) (v := undef) (by simp only [List.getElem?_toArray, List.getElem?_cons_zero, List.getElem?_cons_succ]; rfl) (by kernel_rfl) (by kernel_rfl) (by kernel_rfl) (by exact fun _ _ _ h => h) (Or.inr ⟨by rfl, rfl⟩) (by assumption) ?_
                    try simp only [Act.put, List.setIfInBounds_toArray, List.set_cons_zero, List.set_cons_succ]
                    refine wpAnyH_take (i := 14) (oi := ?_) (v := ?_) (by simp only [List.getElem?_toArray, List.getElem?_cons_zero, List.getElem?_cons_succ]; rfl) (by kernel_rfl) (by kernel_rfl) (by kernel_rfl) (by exact fun _ _ _ h => h) (Or.inl ⟨by rfl, ?_⟩) (by assumption) ?_
                    rotate_left
                    · (intro w hSw; (try dsimp only at hSw); have z0 := cell_below hSw Z0.out; have z1 := cell_below hSw Z1.out; have z2 := cell_below hSw Z2.out; have z3 := cell_below hSw Z3.out; have z4 := cell_below hSw Z4.out; have z5 := cell_below hSw Z5.out; clear hSw; go_simp; first | done | with_reducible rfl)
                    try simp only [Act.put, List.setIfInBounds_toArray, List.set_cons_zero, List.set_cons_succ]
                    refine wpAnyH_take (i := 15) (oi := ?_) (v := ?_) (by simp only [List.getElem?_toArray, List.getElem?_cons_zero, List.getElem?_cons_succ]; rfl) (by kernel_rfl) (by kernel_rfl) (by kernel_rfl) (by exact fun _ _ _ h => h) (Or.inl ⟨by rfl, ?_⟩) (by assumption) ?_
                    rotate_left
                    · (intro w hSw; (try dsimp only at hSw); have z0 := cell_below hSw Z0.out; have z1 := cell_below hSw Z1.out; have z2 := cell_below hSw Z2.out; have z3 := cell_below hSw Z3.out; have z4 := cell_below hSw Z4.out; have z5 := cell_below hSw Z5.out; clear hSw; go_simp; first | done | with_reducible rfl)
                    try simp only [Act.put, List.setIfInBounds_toArray, List.set_cons_zero, List.set_cons_succ]
                    refine wpAnyH_take (i := 16) (oi := ?_) (v := ?_) (by simp only [List.getElem?_toArray, List.getElem?_cons_zero, List.getElem?_cons_succ]; rfl) (by kernel_rfl) (by kernel_rfl) (by kernel_rfl) (by exact fun _ _ _ h => h) (Or.inl ⟨by rfl, ?_⟩) (by assumption) ?_
                    rotate_left
                    · (intro w hSw; (try dsimp only at hSw); have z0 := cell_below hSw Z0.out; have z1 := cell_below hSw Z1.out; have z2 := cell_below hSw Z2.out; have z3 := cell_below hSw Z3.out; have z4 := cell_below hSw Z4.out; have z5 := cell_below hSw Z5.out; clear hSw; go_simp; first | done | with_reducible rfl)
                    try simp only [Act.put, List.setIfInBounds_toArray, List.set_cons_zero, List.set_cons_succ]
                    refine wpAnyH_take (i := 17) (oi := ?_) (v := ?_) (by simp only [List.getElem?_toArray, List.getElem?_cons_zero, List.getElem?_cons_succ]; rfl) (by kernel_rfl) (by kernel_rfl) (by kernel_rfl) (by exact fun _ _ _ h => h) (Or.inl ⟨by rfl, ?_⟩) (by assumption) ?_
                    rotate_left
                    · (intro w hSw; (try dsimp only at hSw); have z0 := cell_below hSw Z0.out; have z1 := cell_below hSw Z1.out; have z2 := cell_below hSw Z2.out; have z3 := cell_below hSw Z3.out; have z4 := cell_below hSw Z4.out; have z5 := cell_below hSw Z5.out; clear hSw; go_simp; first | done | with_reducible rfl)
                    try simp only [Act.put, List.setIfInBounds_toArray, List.set_cons_zero, List.set_cons_succ]
                    refine wpAnyH_take (i := 18) (oi := ?_) (v := ?_) (by simp only [List.getElem?_toArray, List.getElem?_cons_zero, List.getElem?_cons_succ]; rfl) (by kernel_rfl) (by kernel_rfl) (by kernel_rfl) (by exact fun _ _ _ h => h) (Or.inl ⟨by rfl, ?_⟩) (by assumption) ?_
                    rotate_left
                    · (intro w hSw; (try dsimp only at hSw); have z0 := cell_below hSw Z0.out; have z1 := cell_below hSw Z1.out; have z2 := cell_below hSw Z2.out; have z3 := cell_below hSw Z3.out; have z4 := cell_below hSw Z4.out; have z5 := cell_below hSw Z5.out; clear hSw; go_simp; first | done | with_reducible rfl)
                    try simp only [Act.put, List.setIfInBounds_toArray, List.set_cons_zero, List.set_cons_succ]
                    refine wpAnyH_take (i := 19) (oi := ?_) (v := ?_) (by simp only [List.getElem?_toArray, List.getElem?_cons_zero, List.getElem?_cons_succ]; rfl) (by kernel_rfl) (by kernel_rfl) (by kernel_rfl) (by exact fun _ _ _ h => h) (Or.inl ⟨by rfl, ?_⟩) (by assumption) ?_
                    rotate_left
                    · (intro w hSw; (try dsimp only at hSw); have z0 := cell_below hSw Z0.out; have z1 := cell_below hSw Z1.out; have z2 := cell_below hSw Z2.out; have z3 := cell_below hSw Z3.out; have z4 := cell_below hSw Z4.out; have z5 := cell_below hSw Z5.out; clear hSw; go_simp; first | done | with_reducible rfl)
                    try simp only [Act.put, List.setIfInBounds_toArray, List.set_cons_zero, List.set_cons_succ]
                    refine wpAnyH_take (i := 20) (oi := ?_) (v := ?_) (by simp only [List.getElem?_toArray, List.getElem?_cons_zero, List.getElem?_cons_succ]; rfl) (by kernel_rfl) (by kernel_rfl) (by kernel_rfl) (by exact fun _ _ _ h => h) (Or.inl ⟨by rfl, ?_⟩) (by assumption) ?_
                    rotate_left
                    · (intro w hSw; (try dsimp only at hSw); have z0 := cell_below hSw Z0.out; have z1 := cell_below hSw Z1.out; have z2 := cell_below hSw Z2.out; have z3 := cell_below hSw Z3.out; have z4 := cell_below hSw Z4.out; have z5 := cell_below hSw Z5.out; clear hSw; go_simp; first | done | with_reducible rfl)
                    try simp only [Act.put, List.setIfInBounds_toArray, List.set_cons_zero, List.set_cons_succ]
                    refine wpAnyH_ready (rs := [21]) (by kernel_rfl) (by simp) ?_
                    refine AllReadyH.cons (o := ?_) (by simp only [List.getElem?_toArray, List.getElem?_cons_zero, List.getElem?_cons_succ]; rfl) (fun K hK => ?_) ?_
                    · go_simp
                      (refine (same_as 0 0 0 false [] [] 0 0 0 false [] [] HDE.out _ _ _ _ _ (RdS.below HZ1x.out hHeld) (HZ2x.out.below hHeld) (RdB.nil _) (RdW.nil _)).mono ?_)
                      rintro e w41 ⟨rfl, hb⟩
                      have hS2 := hHeld.trans (hb.mono hHeld.size)
                      clear hb
                      dsimp only
                      refine hK.out _ _ ?_ (fun hHeld2 => ?_)
                      · exact hS2
                      clear hK K hHeld
                      have hHeld := hHeld2
                      clear hHeld2
                      try simp only [Act.put, List.setIfInBounds_toArray, List.set_cons_zero, List.set_cons_succ]
                      refine wpAnyH_take (i := 22) (oi := ?_) (v := ?_) (by simp only [List.getElem?_toArray, List.getElem?_cons_zero, List.getElem?_cons_succ]; rfl) (by kernel_rfl) (by kernel_rfl) (by kernel_rfl) (by exact fun _ _ _ h => h) (Or.inl ⟨by rfl, ?_⟩) (by assumption) ?_
                      rotate_left
                      · (intro w hSw; (try dsimp only at hSw); have z0 := cell_below hSw Z0.out; have z1 := cell_below hSw Z1.out; have z2 := cell_below hSw Z2.out; have z3 := cell_below hSw Z3.out; have z4 := cell_below hSw Z4.out; have z5 := cell_below hSw Z5.out; clear hSw; go_simp; first | done | with_reducible rfl)
                      try simp only [Act.put, List.setIfInBounds_toArray, List.set_cons_zero, List.set_cons_succ]
                      refine wpAnyH_take (i := 23) (oi := ?_) (v := ?_) (by simp only [List.getElem?_toArray, List.getElem?_cons_zero, List.getElem?_cons_succ]; rfl) (by kernel_rfl) (by kernel_rfl) (by kernel_rfl) (by exact fun _ _ _ h => h) (Or.inl ⟨by rfl, ?_⟩) (by assumption) ?_
                      rotate_left
                      · (intro w hSw; (try dsimp only at hSw); have z0 := cell_below hSw Z0.out; have z1 := cell_below hSw Z1.out; have z2 := cell_below hSw Z2.out; have z3 := cell_below hSw Z3.out; have z4 := cell_below hSw Z4.out; have z5 := cell_below hSw Z5.out; clear hSw; go_simp; first | done | with_reducible rfl)
                      try simp only [Act.put, List.setIfInBounds_toArray, List.set_cons_zero, List.set_cons_succ]
                      refine wpAnyH_take (i := 24) (oi := ?_) (v := ?_) (by simp only [List.getElem?_toArray, List.getElem?_cons_zero, List.getElem?_cons_succ]; rfl) (by kernel_rfl) (by kernel_rfl) (by kernel_rfl) (by exact fun _ _ _ h => h) (Or.inl ⟨by rfl, ?_⟩) (by assumption) ?_
                      rotate_left
                      · (intro w hSw; (try dsimp only at hSw); have z0 := cell_below hSw Z0.out; have z1 := cell_below hSw Z1.out; have z2 := cell_below hSw Z2.out; have z3 := cell_below hSw Z3.out; have z4 := cell_below hSw Z4.out; have z5 := cell_below hSw Z5.out; clear hSw; go_simp; first | done | with_reducible rfl)
                      try simp only [Act.put, List.setIfInBounds_toArray, List.set_cons_zero, List.set_cons_succ]
                      refine wpAnyH_done (by kernel_rfl) ?_ _
                      have HW := As.mk (HB10.out.trans (hHeld.mono HB10.out.size))
                      clear hHeld
                      go_wp2
                      go_roundw
                      case rel => exact ⟨i + 1, by omega, by go_num, ⟨HE.out.1.below HW.out, HE.out.2.trans (HW.out.mono HE.out.2.size)⟩⟩
                      case measure => simp [intOf]; omega
                    exact AllReadyH.nil
                · obtain rfl : i = 4 := by omega
                  have HTg := As.mk (HTf.out.below HE.out.2)
                  clear HTf HE hlt4 hi
                  obtain ⟨p2, hp2, hp20, hp21⟩ := mask16 p
                  obtain ⟨n2, hn2, hn20, hn21⟩ := mask16 n
                  obtain ⟨KA, hKA, hKA0, hKA1⟩ := mask_int kind 8 255 (by decide) (by decide)
                  obtain ⟨KB, hKB, hKB0, hKB1⟩ := mask_int (kind / 256) 8 255 (by decide) (by decide)
                  obtain ⟨ka, hka⟩ : ∃ ka, ka = KA % 9 + 1 := ⟨_, rfl⟩
                  obtain ⟨kb, hkb⟩ : ∃ kb, kb = KB % 10 + 1 := ⟨_, rfl⟩
                  have ta : KA.tmod 9 = ka - 1 := by rw [Int.tmod_eq_emod_of_nonneg hKA0]; omega
                  have tb : KB.tmod 10 = kb - 1 := by rw [Int.tmod_eq_emod_of_nonneg hKB0]; omega
                  have ua : KA % 9 = ka - 1 := by omega
                  have ub : KB % 10 = kb - 1 := by omega
                  have va : ka - 1 + 1 = ka := by omega
                  have vb : kb - 1 + 1 = kb := by omega
                  have ka1 : 1 ≤ ka := by omega
                  have ka9 : ka ≤ 9 := by omega
                  have kb1 : 1 ≤ kb := by omega
                  have kb10 : kb ≤ 10 := by omega
                  clear hka hkb hKA0 hKA1 hKB0 hKB1
                  have c0 := HTg.out.c 0 _ rfl
                  have c1 := HTg.out.c 1 _ rfl
                  have c2 := HTg.out.c 2 _ rfl
                  have y0 := HTg.out.yc 0 (.int .i64 ky) (by simp [sayC])
                  have fs := HTg.out.fS
                  have fy := HTg.out.fY
                  have hSY : S ≠ Y := by have := HTg.out.2.2.2.2; omega
                  go_wp2
                  go_roundw
                  case rel =>
                    refine ⟨q + 1, ka, p2, n2, kb, by go_num, by omega, ⟨by omega⟩, ⟨fun _ => by omega⟩, ?_⟩
                    exact ⟨(((HTg.out.setS 0 (.int .i64 ka)).setS 1 (.int .i64 p2)).setS 2 (.int .i64 n2)).setY 0 (.int .i64 kb)⟩
                  case measure => simp [intOf]; omega
    · obtain rfl : q = 2 := by omega
      go_wp2_with (go_at_call 8; (with_reducible refine (awake_as _ HEW.out).mono ?_); rintro e w9 ⟨rfl, hb⟩; have HB9 := As.mk (HT.out.bl.trans (hb.mono HT.out.bl.size)); clear hb)
      go_ret
      exact ⟨rfl, HB9.out⟩
end Go.Proofs.YtodcbcpjlhlakaaDoor.W
