/- What is told: the step of a text. -/
import Derived.Test.YtodcbcpjlhlakaaDoorR21
set_option linter.unusedVariables false
set_option linter.unusedSimpArgs false
namespace Go.Proofs.YtodcbcpjlhlakaaDoor.W
open Go.RowKit Go.Proofs.YtodcbcpjlhlakaaDoor.B Go.Proofs

theorem ba_eq (a b : List UInt8) : ((⟨a.toArray⟩ : ByteArray) = ⟨b.toArray⟩) = (b = a) := by
  apply propext
  constructor
  · intro h
    injection h with h
    exact (List.toArray_inj h).symm
  · intro h
    rw [h]
theorem index_kind (w : List UInt8) : max (Lib.idxOfS (wordsL.map fun x => (⟨x.toArray⟩ : ByteArray)) ⟨w.toArray⟩) 0 = kindL w := by
  simp only [Lib.idxOfS, wordsL, List.map_cons, List.map_nil, Lib.idxFromS, ba_eq]
  by_cases h0 : w = []
  · subst h0; decide
  rw [if_neg h0]
  unfold kindL
  by_cases h1 : w = [116, 120]
  · subst h1; decide
  rw [if_neg h1, if_neg h1]
  by_cases h2 : w = [112, 97, 99, 107]
  · subst h2; decide
  rw [if_neg h2, if_neg h2]
  by_cases h3 : w = [104, 97, 118, 101]
  · subst h3; decide
  rw [if_neg h3, if_neg h3]
  by_cases h4 : w = [105, 110, 102, 111]
  · subst h4; decide
  rw [if_neg h4, if_neg h4]
  by_cases h5 : w = [108, 101, 97, 118, 101]
  · subst h5; decide
  rw [if_neg h5, if_neg h5]
  by_cases h6 : w = [116, 105, 99, 107]
  · subst h6; decide
  rw [if_neg h6, if_neg h6]
  by_cases h7 : w = [98, 108, 111, 99, 107]
  · subst h7; decide
  rw [if_neg h7, if_neg h7]
  by_cases h8 : w = [98, 97, 99, 107]
  · subst h8; decide
  rw [if_neg h8, if_neg h8]
  by_cases h9 : w = [119, 111, 114, 107]
  · subst h9; decide
  rw [if_neg h9, if_neg h9]
  decide
theorem words_cells (w : World) : Calls Tryd.prog 20 #[] w fun e w' => ∃ H, e = .returned (.slice (some ⟨H, 0, none⟩) 10 10) ∧ (∀ (j : Nat) (x : List UInt8), wordsL[j]? = some x → w'.cell? ⟨H, j, none⟩ = some (.string ⟨x.toArray⟩)) ∧ Below w.heap.size w w' := by
  refine (words_any w).mono ?_
  rintro e w' ⟨rfl, rfl⟩
  refine ⟨_, rfl, fun j x hx => ?_, below_al _ _⟩
  exact new_at _ _ _ _ _ (by rw [List.getElem?_map, hx]; rfl)
theorem index_to (H : Nat) (x : List UInt8) {I : Int} (hI : Lib.idxOfS (wordsL.map fun x => (⟨x.toArray⟩ : ByteArray)) ⟨x.toArray⟩ = I) (w : World) (hc : ∀ (j : Nat) (x : List UInt8), wordsL[j]? = some x → w.cell? ⟨H, j, none⟩ = some (.string ⟨x.toArray⟩)) :
    Calls Tryd.prog 31 #[.slice (some ⟨H, 0, none⟩) 10 10, .string ⟨x.toArray⟩] w fun e w' => e = .returned (.int .i64 I) ∧ w' = w := by
  refine (Tryd.slices_Index_string H 0 10 10 (wordsL.map fun x => (⟨x.toArray⟩ : ByteArray)) ⟨x.toArray⟩ w (by decide) (by decide) (fun j hj => ?_)).mono ?_
  · have hl : j < wordsL.length := by simpa using hj
    rw [Nat.zero_add, hc j wordsL[j] (List.getElem?_eq_getElem hl), List.getD_eq_getElem?_getD, List.getElem?_map, List.getElem?_eq_getElem hl]
    rfl
  · rintro e w' ⟨rfl, rfl⟩
    refine ⟨?_, rfl⟩
    rw [← hI]
    rfl
theorem split_at (c : UInt8) (s : List UInt8) (hs : s.length ≤ 4000000000) (w : World) (he : Env w) {ws : List (List UInt8)} {N : Nat} (hw : wordsOf c s = ws) (hN : ws.length = N) :
    Calls Tryd.prog 30 #[.string ⟨s.toArray⟩, .string ⟨#[c]⟩] w fun e w' => ∃ G, e = .returned (.slice (some ⟨G, 0, none⟩) N N) ∧ (∀ (j : Nat) (x : List UInt8), ws[j]? = some x → w'.cell? ⟨G, j, none⟩ = some (.string ⟨x.toArray⟩)) ∧ Below w.heap.size w w' := by
  subst hN
  exact split_to c s hs w he hw
theorem set6_box {w : World} {R : Nat} {x0 x1 x2 x3 x4 x5 : Value} {t : TypeId} (h : Box w R #[x0, x1, x2, x3, x4, x5] t) (v0 v1 v2 v3 v4 v5 : Value) :
    Box ((((((w.setCell ⟨R, 0, none⟩ v0).setCell ⟨R, 1, none⟩ v1).setCell ⟨R, 2, none⟩ v2).setCell ⟨R, 3, none⟩ v3).setCell ⟨R, 4, none⟩ v4).setCell ⟨R, 5, none⟩ v5) R #[v0, v1, v2, v3, v4, v5] t :=
  Box.set (cs := [v0, v1, v2, v3, v4, x5]) (Box.set (cs := [v0, v1, v2, v3, x4, x5]) (Box.set (cs := [v0, v1, v2, x3, x4, x5]) (Box.set (cs := [v0, v1, x2, x3, x4, x5]) (Box.set (cs := [v0, x1, x2, x3, x4, x5]) (Box.set (cs := [x0, x1, x2, x3, x4, x5]) h 0 v0) 1 v1) 2 v2) 3 v3) 4 v4) 5 v5
theorem set6_below {B R : Nat} {w0 w : World} (h : Below B w0 w) (hR : B ≤ R) (v0 v1 v2 v3 v4 v5 : Value) :
    Below B w0 ((((((w.setCell ⟨R, 0, none⟩ v0).setCell ⟨R, 1, none⟩ v1).setCell ⟨R, 2, none⟩ v2).setCell ⟨R, 3, none⟩ v3).setCell ⟨R, 4, none⟩ v4).setCell ⟨R, 5, none⟩ v5) :=
  (((((h.setCell (p := ⟨R, 0, none⟩) hR v0).setCell (p := ⟨R, 1, none⟩) hR v1).setCell (p := ⟨R, 2, none⟩) hR v2).setCell (p := ⟨R, 3, none⟩) hR v3).setCell (p := ⟨R, 4, none⟩) hR v4).setCell (p := ⟨R, 5, none⟩) hR v5
theorem Env.size {w : World} (h : Env w) : 8 ≤ w.heap.size := by
  obtain ⟨h1, h2, ⟨t3, p3, h3⟩, h4⟩ := h
  unfold World.var? at h3
  rw [show Tryd.prog.globalNamed "strconv.ErrRange" = some 7 by kernel_rfl] at h3
  by_cases hc : 7 < w.heap.size
  · omega
  · exfalso
    have e : w.heap[7]? = none := Array.getElem?_eq_none (by omega)
    simp [e] at h3
/-- The cells of a step. -/
def StepC (w : World) (s : LStep) (bv lv : Value) : Prop := RdB w bv s.bs ∧ RdW w lv s.ls
abbrev cellsS (s : LStep) (bv lv : Value) : Array Value := #[.int .i64 s.k, .int .i64 s.p, .int .i64 s.n, .bool s.good, bv, lv]
def ParseE (t : List UInt8) (w : World) (e : Ending) (w' : World) : Prop :=
  ∃ bv lv, e = .returned (.tuple #[.agg (cellsS ((parseL t).getD noS) bv lv), .bool (parseL t).isSome]) ∧ StepC w' ((parseL t).getD noS) bv lv ∧ Below w.heap.size w w'
theorem parse_none {t : List UInt8} {w w' : World} (h : parseL t = none) (hb : Below w.heap.size w w') : ParseE t w (.returned (.tuple #[.agg #[.int .i64 0, .int .i64 0, .int .i64 0, .bool false, .slice none 0 0, .slice none 0 0], .bool false])) w' := by
  refine ⟨.slice none 0 0, .slice none 0 0, ?_, ?_, hb⟩
  · rw [h]; rfl
  · rw [h]; exact ⟨RdB.nil _, RdW.nil _⟩
theorem parse_some {t : List UInt8} {w w' : World} {z : LStep} (h : parseL t = some z) (hb : Below w.heap.size w w') {bv lv : Value} (hc : StepC w' z bv lv) : ParseE t w (.returned (.tuple #[.agg #[.int .i64 z.k, .int .i64 z.p, .int .i64 z.n, .bool z.good, bv, lv], .bool true])) w' := by
  refine ⟨bv, lv, ?_, ?_, hb⟩
  · rw [h]; rfl
  · rw [h]; exact hc
set_option maxHeartbeats 8000000 in
set_option maxRecDepth 100000 in
theorem parse_any (t : List UInt8) (ht : t.length ≤ 3000000) (w : World) (he : Env w) : Calls Tryd.prog 12 #[.string ⟨t.toArray⟩] w (ParseE t w) := by
  obtain ⟨w0, ws, hcw⟩ := cutW_ne 32 t
  have hbd := cutW_bounds 32 t
  rw [hcw] at hbd
  obtain ⟨N, hN⟩ : ∃ N, (w0 :: ws).length = N := ⟨_, rfl⟩
  obtain ⟨KD, hK⟩ : ∃ KD, kindL w0 = KD := ⟨_, rfl⟩
  obtain ⟨I, hI⟩ : ∃ I, Lib.idxOfS (wordsL.map fun x => (⟨x.toArray⟩ : ByteArray)) ⟨w0.toArray⟩ = I := ⟨_, rfl⟩
  have hIK : max I 0 = KD := by rw [← hI, ← hK]; exact index_kind w0
  have HWW : As (wordsOf 32 t = w0 :: ws) := ⟨by rw [wordsOf_eq]; exact hcw⟩
  have HCW := As.mk hcw
  have HNN := As.mk hN
  have HKK := As.mk hK
  have HII := As.mk hI
  have HS : As (t.length ≤ 4000000000) := ⟨by omega⟩
  have HS3 := As.mk ht
  have HS1 : As (∀ x ∈ ws, x.length ≤ 4000000) := ⟨fun x hx => by have := hbd.2 x (List.mem_cons_of_mem _ hx); omega⟩
  have HS2 : As (∀ x ∈ ws, (wordsOf 44 x).length ≤ 4000000) := ⟨fun x hx => by have := hbd.2 x (List.mem_cons_of_mem _ hx); rw [wordsOf_eq]; have := (cutW_bounds 44 x).1; omega⟩
  have hNp : 0 < N := by rw [← hN]; simp only [List.length_cons]; omega
  have HEN := As.mk he
  have H8 := As.mk he.size
  have HE1 := As.mk (he.below (below_al w (.cells #[.int .i64 0, .int .i64 0, .int .i64 0, .bool false, .slice none 0 0, .slice none 0 0] 35)))
  clear hcw hbd hN hK hI he ht
  go_enter Tryd.func12, Tryd.ntmps12
  go_upto_region 2 with (go_at_call 30; (with_reducible refine (split_at 32 t HS.out _ HE1.out HWW.out HNN.out).mono ?_); rintro e w1 ⟨G0, rfl, hc, hb⟩; have HC := As.mk hc; have HB1 := As.mk hb; clear hc hb)
  have HBR : As (Box w1 w.heap.size #[.int .i64 0, .int .i64 0, .int .i64 0, .bool false, .slice none 0 0, .slice none 0 0] 35) := ⟨(Box.new w _ 35).below HB1.out⟩
  have HBW : As (Below w.heap.size w w1) := ⟨(below_al w _).trans (HB1.out.mono (by simp))⟩
  have HG0 := As.mk (World.block_lt_of_cell? w1 _ (HC.out 0 w0 rfl))
  have HSZ : As (w.heap.size < w1.heap.size) := ⟨HBR.out.lt⟩
  have HC0 := As.mk (HC.out 0 w0 rfl)
  clear HB1 HE1
  go_cut [5] (fun v5 wc => ∃ G, v5 = .pointer (some ⟨G, 0, none⟩) ∧ As (Box wc G #[.int .i64 KD, .int .i64 0, .int .i64 0, .bool false, .slice none 0 0, .slice none 0 0] 35 ∧ Below w1.heap.size w1 wc ∧ w1.heap.size ≤ G))
  case first =>
    as_aux_lemma =>
      refine wp_region_held_drew (S := (fun V : World => Below w1.heap.size w1 V)) (by kernel_rfl) ?_ (fun hHeld => ?_)
      · exact below_dr w1
      refine wpAnyH_take (i := 1) (oi := ?_) (v := ?_) (by simp only [List.getElem?_toArray, List.getElem?_cons_zero, List.getElem?_cons_succ]; rfl) (by kernel_rfl) (by kernel_rfl) (by kernel_rfl) (by exact fun _ _ _ h => h) (Or.inl ⟨by rfl, ?_⟩) (by assumption) ?_
      rotate_left
      · (intro w hSw; (try dsimp only at hSw); have q0 := cell_below hSw HC0.out; clear hSw; go_simp; first | done | with_reducible rfl)
      try simp only [Act.put, List.setIfInBounds_toArray, List.set_cons_zero, List.set_cons_succ]
      refine wpAnyH_take (i := 2) (oi := ?_) (v := ?_) (by simp only [List.getElem?_toArray, List.getElem?_cons_zero, List.getElem?_cons_succ]; rfl) (by kernel_rfl) (by kernel_rfl) (by kernel_rfl) (by exact fun _ _ _ h => h) (Or.inl ⟨by rfl, ?_⟩) (by assumption) ?_
      rotate_left
      · (intro w hSw; (try dsimp only at hSw); have q0 := cell_below hSw HC0.out; clear hSw; go_simp; first | done | with_reducible rfl)
      try simp only [Act.put, List.setIfInBounds_toArray, List.set_cons_zero, List.set_cons_succ]
      refine wpAnyH_take (i := 3) (oi := ?_) (v := ?_) (by simp only [List.getElem?_toArray, List.getElem?_cons_zero, List.getElem?_cons_succ]; rfl) (by kernel_rfl) (by kernel_rfl) (by kernel_rfl) (by exact fun _ _ _ h => h) (Or.inl ⟨by rfl, ?_⟩) (by assumption) ?_
      rotate_left
      · (intro w hSw; (try dsimp only at hSw); have q0 := cell_below hSw HC0.out; clear hSw; go_simp; first | done | with_reducible rfl)
      try simp only [Act.put, List.setIfInBounds_toArray, List.set_cons_zero, List.set_cons_succ]
      refine wpAnyH_ready (rs := [0, 7]) (by kernel_rfl) (by simp) ?_
      refine AllReadyH.cons (o := ?_) (by simp only [List.getElem?_toArray, List.getElem?_cons_zero, List.getElem?_cons_succ]; rfl) (fun K hK => ?_) ?_
      · go_simp
        (with_reducible refine (words_cells _).mono ?_)
        rintro e w4 ⟨H, rfl, hc, hb⟩
        have HQ := As.mk hc
        have hS2 := hHeld.trans (hb.mono hHeld.size)
        clear hc hb
        dsimp only
        refine hK.out _ _ ?_ (fun hHeld2 => ?_)
        · exact hS2
        clear hK K hHeld
        have hHeld := hHeld2
        clear hHeld2
        try simp only [Act.put, List.setIfInBounds_toArray, List.set_cons_zero, List.set_cons_succ]
        refine wpAnyH_ready (rs := [4, 7]) (by kernel_rfl) (by simp) ?_
        refine AllReadyH.cons (o := ?_) (by simp only [List.getElem?_toArray, List.getElem?_cons_zero, List.getElem?_cons_succ]; rfl) (fun K hK => ?_) ?_
        · go_simp
          (with_reducible refine (index_to H w0 HII.out _ HQ.out).mono ?_)
          rintro e w5 ⟨rfl, hw5⟩
          obtain rfl : w4 = w5 := hw5.symm
          have hS2 := hHeld
          dsimp only
          refine hK.out _ _ ?_ (fun hHeld2 => ?_)
          · exact hS2
          clear hK K hHeld
          have hHeld := hHeld2
          clear hHeld2
          try simp only [Act.put, List.setIfInBounds_toArray, List.set_cons_zero, List.set_cons_succ]
          refine wpAnyH_take (i := 5) (oi := ?_) (v := ?_) (by simp only [List.getElem?_toArray, List.getElem?_cons_zero, List.getElem?_cons_succ]; rfl) (by kernel_rfl) (by kernel_rfl) (by kernel_rfl) (by exact fun _ _ _ h => h) (Or.inl ⟨by rfl, ?_⟩) (by assumption) ?_
          rotate_left
          · (intro w hSw; (try dsimp only at hSw); have q0 := cell_below hSw HC0.out; clear hSw; go_simp; first | done | with_reducible rfl)
          try simp only [Act.put, List.setIfInBounds_toArray, List.set_cons_zero, List.set_cons_succ]
          refine wpAnyH_take (i := 6) (oi := ?_) (v := ?_) (by simp only [List.getElem?_toArray, List.getElem?_cons_zero, List.getElem?_cons_succ]; rfl) (by kernel_rfl) (by kernel_rfl) (by kernel_rfl) (by exact fun _ _ _ h => h) (Or.inl ⟨by rfl, ?_⟩) (by assumption) ?_
          rotate_left
          · (intro w hSw; (try dsimp only at hSw); have q0 := cell_below hSw HC0.out; clear hSw; go_simp; first | done | with_reducible rfl)
          try simp only [Act.put, List.setIfInBounds_toArray, List.set_cons_zero, List.set_cons_succ]
          refine wpAnyH_ready (rs := [7]) (by kernel_rfl) (by simp) ?_
          refine AllReadyH.cons (o := ?_) (by simp only [List.getElem?_toArray, List.getElem?_cons_zero, List.getElem?_cons_succ]; rfl) (fun K hK => ?_) ?_
          · go_simp
            have hS2 : Below w1.heap.size w1 (World.alloc w4 (.cells #[.int .i64 0, .int .i64 0, .int .i64 0, .bool false, .slice none 0 0, .slice none 0 0] 35)) := hHeld.alloc hHeld.size _
            have HG := As.mk (show Box (World.alloc w4 (.cells #[.int .i64 0, .int .i64 0, .int .i64 0, .bool false, .slice none 0 0, .slice none 0 0] 35)) w4.heap.size #[.int .i64 0, .int .i64 0, .int .i64 0, .bool false, .slice none 0 0, .slice none 0 0] 35 from Box.new w4 _ 35)
            have HQ7 := As.mk (fun j x h => cell_below (below_al _ (.cells #[.int .i64 0, .int .i64 0, .int .i64 0, .bool false, .slice none 0 0, .slice none 0 0] 35)) (HQ.out j x h))
            clear HQ
            have HQ := HQ7
            clear HQ7
            obtain ⟨G, hG⟩ : ∃ G, G = w4.heap.size := ⟨_, rfl⟩
            have HGB : As (w1.heap.size ≤ G) := ⟨by rw [hG]; exact hHeld.size⟩
            rw [← hG] at HG ⊢
            clear hG
            generalize (World.alloc w4 (.cells #[.int .i64 0, .int .i64 0, .int .i64 0, .bool false, .slice none 0 0, .slice none 0 0] 35)) = w7 at HG hS2 HQ ⊢
            refine hK.out _ _ ?_ (fun hHeld2 => ?_)
            · exact hS2
            clear hK K hHeld
            have hHeld := hHeld2
            clear hHeld2
            try simp only [Act.put, List.setIfInBounds_toArray, List.set_cons_zero, List.set_cons_succ]
            refine wpAnyH_ready (rs := [8]) (by kernel_rfl) (by simp) ?_
            refine AllReadyH.cons (o := ?_) (by simp only [List.getElem?_toArray, List.getElem?_cons_zero, List.getElem?_cons_succ]; rfl) (fun K hK => ?_) ?_
            · have g0 := HG.out.cell 0 _ rfl
              have g1 := HG.out.cell 1 _ rfl
              have g2 := HG.out.cell 2 _ rfl
              have g3 := HG.out.cell 3 _ rfl
              have g4 := HG.out.cell 4 _ rfl
              have g5 := HG.out.cell 5 _ rfl
              have gf := HG.out.frozen
              go_simp
              have hS2 := set6_below hHeld HGB.out (.int .i64 KD) (.int .i64 0) (.int .i64 0) (.bool false) (.slice none 0 0) (.slice none 0 0)
              have HG6 := As.mk (set6_box HG.out (.int .i64 KD) (.int .i64 0) (.int .i64 0) (.bool false) (.slice none 0 0) (.slice none 0 0))
              clear g0 g1 g2 g3 g4 g5 gf
              refine hK.out _ _ ?_ (fun hHeld2 => ?_)
              · exact hS2
              clear hK K hHeld
              have hHeld := hHeld2
              clear hHeld2
              try simp only [Act.put, List.setIfInBounds_toArray, List.set_cons_zero, List.set_cons_succ]
              refine wpAnyH_done (by kernel_rfl) ?_ _
              have HFIN := As.mk (And.intro HG6.out (And.intro hHeld HGB.out))
              clear hHeld
              go_wp2
              go_meet
              exact ⟨_, rfl, HFIN⟩
            exact AllReadyH.nil
          exact AllReadyH.nil
        refine AllReadyH.cons (o := ?_) (by simp only [List.getElem?_toArray, List.getElem?_cons_zero, List.getElem?_cons_succ]; rfl) (fun K hK => ?_) ?_
        · go_simp
          have hS2 : Below w1.heap.size w1 (World.alloc w4 (.cells #[.int .i64 0, .int .i64 0, .int .i64 0, .bool false, .slice none 0 0, .slice none 0 0] 35)) := hHeld.alloc hHeld.size _
          have HG := As.mk (show Box (World.alloc w4 (.cells #[.int .i64 0, .int .i64 0, .int .i64 0, .bool false, .slice none 0 0, .slice none 0 0] 35)) w4.heap.size #[.int .i64 0, .int .i64 0, .int .i64 0, .bool false, .slice none 0 0, .slice none 0 0] 35 from Box.new w4 _ 35)
          have HQ7 := As.mk (fun j x h => cell_below (below_al _ (.cells #[.int .i64 0, .int .i64 0, .int .i64 0, .bool false, .slice none 0 0, .slice none 0 0] 35)) (HQ.out j x h))
          clear HQ
          have HQ := HQ7
          clear HQ7
          obtain ⟨G, hG⟩ : ∃ G, G = w4.heap.size := ⟨_, rfl⟩
          have HGB : As (w1.heap.size ≤ G) := ⟨by rw [hG]; exact hHeld.size⟩
          rw [← hG] at HG ⊢
          clear hG
          generalize (World.alloc w4 (.cells #[.int .i64 0, .int .i64 0, .int .i64 0, .bool false, .slice none 0 0, .slice none 0 0] 35)) = w7 at HG hS2 HQ ⊢
          refine hK.out _ _ ?_ (fun hHeld2 => ?_)
          · exact hS2
          clear hK K hHeld
          have hHeld := hHeld2
          clear hHeld2
          try simp only [Act.put, List.setIfInBounds_toArray, List.set_cons_zero, List.set_cons_succ]
          refine wpAnyH_ready (rs := [4]) (by kernel_rfl) (by simp) ?_
          refine AllReadyH.cons (o := ?_) (by simp only [List.getElem?_toArray, List.getElem?_cons_zero, List.getElem?_cons_succ]; rfl) (fun K hK => ?_) ?_
          · go_simp
            (with_reducible refine (index_to H w0 HII.out _ HQ.out).mono ?_)
            rintro e w5 ⟨rfl, hw5⟩
            obtain rfl : w7 = w5 := hw5.symm
            have hS2 := hHeld
            dsimp only
            refine hK.out _ _ ?_ (fun hHeld2 => ?_)
            · exact hS2
            clear hK K hHeld
            have hHeld := hHeld2
            clear hHeld2
            try simp only [Act.put, List.setIfInBounds_toArray, List.set_cons_zero, List.set_cons_succ]
            refine wpAnyH_take (i := 5) (oi := ?_) (v := ?_) (by simp only [List.getElem?_toArray, List.getElem?_cons_zero, List.getElem?_cons_succ]; rfl) (by kernel_rfl) (by kernel_rfl) (by kernel_rfl) (by exact fun _ _ _ h => h) (Or.inl ⟨by rfl, ?_⟩) (by assumption) ?_
            rotate_left
            · (intro w hSw; (try dsimp only at hSw); have q0 := cell_below hSw HC0.out; clear hSw; go_simp; first | done | with_reducible rfl)
            try simp only [Act.put, List.setIfInBounds_toArray, List.set_cons_zero, List.set_cons_succ]
            refine wpAnyH_take (i := 6) (oi := ?_) (v := ?_) (by simp only [List.getElem?_toArray, List.getElem?_cons_zero, List.getElem?_cons_succ]; rfl) (by kernel_rfl) (by kernel_rfl) (by kernel_rfl) (by exact fun _ _ _ h => h) (Or.inl ⟨by rfl, ?_⟩) (by assumption) ?_
            rotate_left
            · (intro w hSw; (try dsimp only at hSw); have q0 := cell_below hSw HC0.out; clear hSw; go_simp; first | done | with_reducible rfl)
            try simp only [Act.put, List.setIfInBounds_toArray, List.set_cons_zero, List.set_cons_succ]
            refine wpAnyH_ready (rs := [8]) (by kernel_rfl) (by simp) ?_
            refine AllReadyH.cons (o := ?_) (by simp only [List.getElem?_toArray, List.getElem?_cons_zero, List.getElem?_cons_succ]; rfl) (fun K hK => ?_) ?_
            · have g0 := HG.out.cell 0 _ rfl
              have g1 := HG.out.cell 1 _ rfl
              have g2 := HG.out.cell 2 _ rfl
              have g3 := HG.out.cell 3 _ rfl
              have g4 := HG.out.cell 4 _ rfl
              have g5 := HG.out.cell 5 _ rfl
              have gf := HG.out.frozen
              go_simp
              have hS2 := set6_below hHeld HGB.out (.int .i64 KD) (.int .i64 0) (.int .i64 0) (.bool false) (.slice none 0 0) (.slice none 0 0)
              have HG6 := As.mk (set6_box HG.out (.int .i64 KD) (.int .i64 0) (.int .i64 0) (.bool false) (.slice none 0 0) (.slice none 0 0))
              clear g0 g1 g2 g3 g4 g5 gf
              refine hK.out _ _ ?_ (fun hHeld2 => ?_)
              · exact hS2
              clear hK K hHeld
              have hHeld := hHeld2
              clear hHeld2
              try simp only [Act.put, List.setIfInBounds_toArray, List.set_cons_zero, List.set_cons_succ]
              refine wpAnyH_done (by kernel_rfl) ?_ _
              have HFIN := As.mk (And.intro HG6.out (And.intro hHeld HGB.out))
              clear hHeld
              go_wp2
              go_meet
              exact ⟨_, rfl, HFIN⟩
            exact AllReadyH.nil
          exact AllReadyH.nil
        exact AllReadyH.nil
      refine AllReadyH.cons (o := ?_) (by simp only [List.getElem?_toArray, List.getElem?_cons_zero, List.getElem?_cons_succ]; rfl) (fun K hK => ?_) ?_
      · go_simp
        have hS2 : Below w1.heap.size w1 (World.alloc w1 (.cells #[.int .i64 0, .int .i64 0, .int .i64 0, .bool false, .slice none 0 0, .slice none 0 0] 35)).drew := (below_al w1 _).drew
        have HG := As.mk (show Box (World.alloc w1 (.cells #[.int .i64 0, .int .i64 0, .int .i64 0, .bool false, .slice none 0 0, .slice none 0 0] 35)).drew w1.heap.size #[.int .i64 0, .int .i64 0, .int .i64 0, .bool false, .slice none 0 0, .slice none 0 0] 35 from Box.new w1 _ 35)
        obtain ⟨G, hG⟩ : ∃ G, G = w1.heap.size := ⟨_, rfl⟩
        have HGB : As (w1.heap.size ≤ G) := ⟨by rw [hG]; exact Nat.le_refl _⟩
        rw [← hG] at HG ⊢
        clear hG
        generalize (World.alloc w1 (.cells #[.int .i64 0, .int .i64 0, .int .i64 0, .bool false, .slice none 0 0, .slice none 0 0] 35)).drew = w7 at HG hS2 ⊢
        refine hK.out _ _ ?_ (fun hHeld2 => ?_)
        · exact hS2
        clear hK K hHeld
        have hHeld := hHeld2
        clear hHeld2
        try simp only [Act.put, List.setIfInBounds_toArray, List.set_cons_zero, List.set_cons_succ]
        refine wpAnyH_ready (rs := [0]) (by kernel_rfl) (by simp) ?_
        refine AllReadyH.cons (o := ?_) (by simp only [List.getElem?_toArray, List.getElem?_cons_zero, List.getElem?_cons_succ]; rfl) (fun K hK => ?_) ?_
        · go_simp
          (with_reducible refine (words_cells _).mono ?_)
          rintro e w4 ⟨H, rfl, hc, hb⟩
          have HQ := As.mk hc
          have hS2 := hHeld.trans (hb.mono hHeld.size)
          have HG7 := As.mk (HG.out.below hb)
          clear HG
          have HG := HG7
          clear HG7
          clear hc hb
          dsimp only
          refine hK.out _ _ ?_ (fun hHeld2 => ?_)
          · exact hS2
          clear hK K hHeld
          have hHeld := hHeld2
          clear hHeld2
          try simp only [Act.put, List.setIfInBounds_toArray, List.set_cons_zero, List.set_cons_succ]
          refine wpAnyH_ready (rs := [4]) (by kernel_rfl) (by simp) ?_
          refine AllReadyH.cons (o := ?_) (by simp only [List.getElem?_toArray, List.getElem?_cons_zero, List.getElem?_cons_succ]; rfl) (fun K hK => ?_) ?_
          · go_simp
            (with_reducible refine (index_to H w0 HII.out _ HQ.out).mono ?_)
            rintro e w5 ⟨rfl, hw5⟩
            obtain rfl : w4 = w5 := hw5.symm
            have hS2 := hHeld
            dsimp only
            refine hK.out _ _ ?_ (fun hHeld2 => ?_)
            · exact hS2
            clear hK K hHeld
            have hHeld := hHeld2
            clear hHeld2
            try simp only [Act.put, List.setIfInBounds_toArray, List.set_cons_zero, List.set_cons_succ]
            refine wpAnyH_take (i := 5) (oi := ?_) (v := ?_) (by simp only [List.getElem?_toArray, List.getElem?_cons_zero, List.getElem?_cons_succ]; rfl) (by kernel_rfl) (by kernel_rfl) (by kernel_rfl) (by exact fun _ _ _ h => h) (Or.inl ⟨by rfl, ?_⟩) (by assumption) ?_
            rotate_left
            · (intro w hSw; (try dsimp only at hSw); have q0 := cell_below hSw HC0.out; clear hSw; go_simp; first | done | with_reducible rfl)
            try simp only [Act.put, List.setIfInBounds_toArray, List.set_cons_zero, List.set_cons_succ]
            refine wpAnyH_take (i := 6) (oi := ?_) (v := ?_) (by simp only [List.getElem?_toArray, List.getElem?_cons_zero, List.getElem?_cons_succ]; rfl) (by kernel_rfl) (by kernel_rfl) (by kernel_rfl) (by exact fun _ _ _ h => h) (Or.inl ⟨by rfl, ?_⟩) (by assumption) ?_
            rotate_left
            · (intro w hSw; (try dsimp only at hSw); have q0 := cell_below hSw HC0.out; clear hSw; go_simp; first | done | with_reducible rfl)
            try simp only [Act.put, List.setIfInBounds_toArray, List.set_cons_zero, List.set_cons_succ]
            refine wpAnyH_ready (rs := [8]) (by kernel_rfl) (by simp) ?_
            refine AllReadyH.cons (o := ?_) (by simp only [List.getElem?_toArray, List.getElem?_cons_zero, List.getElem?_cons_succ]; rfl) (fun K hK => ?_) ?_
            · have g0 := HG.out.cell 0 _ rfl
              have g1 := HG.out.cell 1 _ rfl
              have g2 := HG.out.cell 2 _ rfl
              have g3 := HG.out.cell 3 _ rfl
              have g4 := HG.out.cell 4 _ rfl
              have g5 := HG.out.cell 5 _ rfl
              have gf := HG.out.frozen
              go_simp
              have hS2 := set6_below hHeld HGB.out (.int .i64 KD) (.int .i64 0) (.int .i64 0) (.bool false) (.slice none 0 0) (.slice none 0 0)
              have HG6 := As.mk (set6_box HG.out (.int .i64 KD) (.int .i64 0) (.int .i64 0) (.bool false) (.slice none 0 0) (.slice none 0 0))
              clear g0 g1 g2 g3 g4 g5 gf
              refine hK.out _ _ ?_ (fun hHeld2 => ?_)
              · exact hS2
              clear hK K hHeld
              have hHeld := hHeld2
              clear hHeld2
              try simp only [Act.put, List.setIfInBounds_toArray, List.set_cons_zero, List.set_cons_succ]
              refine wpAnyH_done (by kernel_rfl) ?_ _
              have HFIN := As.mk (And.intro HG6.out (And.intro hHeld HGB.out))
              clear hHeld
              go_wp2
              go_meet
              exact ⟨_, rfl, HFIN⟩
            exact AllReadyH.nil
          exact AllReadyH.nil
        exact AllReadyH.nil
      exact AllReadyH.nil
  case rest =>
    obtain ⟨G, rfl, HX⟩ := hcut
    have HBX : As (Box wc w.heap.size #[.int .i64 0, .int .i64 0, .int .i64 0, .bool false, .slice none 0 0, .slice none 0 0] 35) := ⟨HBR.out.below HX.out.2.1⟩
    have HBV : As (Below w.heap.size w wc) := ⟨HBW.out.trans (HX.out.2.1.mono (Nat.le_of_lt HSZ.out))⟩
    have HGW : As (w.heap.size < G) := ⟨by have := HSZ.out; have := HX.out.2.2; omega⟩
    have c0 := HX.out.1.cell 0 _ rfl
    by_cases hk0 : KD = 0
    · have HP : As (parseL t = none) := ⟨by unfold parseL; rw [HCW.out]; simp only; rw [if_pos (by rw [HKK.out]; exact hk0)]⟩
      subst hk0
      have r0 := HBX.out.cell 0 _ rfl
      have r1 := HBX.out.cell 1 _ rfl
      have r2 := HBX.out.cell 2 _ rfl
      have r3 := HBX.out.cell 3 _ rfl
      have r4 := HBX.out.cell 4 _ rfl
      have r5 := HBX.out.cell 5 _ rfl
      have rf := HBX.out.frozen
      have r0 := HBX.out.cell 0 _ rfl
      have r1 := HBX.out.cell 1 _ rfl
      have r2 := HBX.out.cell 2 _ rfl
      have r3 := HBX.out.cell 3 _ rfl
      have r4 := HBX.out.cell 4 _ rfl
      have r5 := HBX.out.cell 5 _ rfl
      have rf := HBX.out.frozen
      go_wp2
      have HF6 := As.mk (And.intro (set6_box HBX.out (.int .i64 0) (.int .i64 0) (.int .i64 0) (.bool false) (.slice none 0 0) (.slice none 0 0)) (set6_below HBV.out (Nat.le_refl _) (.int .i64 0) (.int .i64 0) (.int .i64 0) (.bool false) (.slice none 0 0) (.slice none 0 0)))
      generalize ((((((wc.setCell ⟨w.heap.size, 0, none⟩ (.int .i64 0)).setCell ⟨w.heap.size, 1, none⟩ (.int .i64 0)).setCell ⟨w.heap.size, 2, none⟩ (.int .i64 0)).setCell ⟨w.heap.size, 3, none⟩ (.bool false)).setCell ⟨w.heap.size, 4, none⟩ (.slice none 0 0)).setCell ⟨w.heap.size, 5, none⟩ (.slice none 0 0)) = WF at HF6 ⊢
      have q0 := HF6.out.1.cell 0 _ rfl
      have q1 := HF6.out.1.cell 1 _ rfl
      have q2 := HF6.out.1.cell 2 _ rfl
      have q3 := HF6.out.1.cell 3 _ rfl
      have q4 := HF6.out.1.cell 4 _ rfl
      have q5 := HF6.out.1.cell 5 _ rfl
      refine bodyPost_ret (v := .tuple #[.agg #[.int .i64 0, .int .i64 0, .int .i64 0, .bool false, .slice none 0 0, .slice none 0 0], .bool false]) (by simp [results, Tryd.results12, go_sem, q0, q1, q2, q3, q4, q5]) rfl ?_
      exact parse_none HP.out HF6.out.2
    · have hk0' : (KD == 0) = false := beq_eq_false_iff_ne.2 hk0
      have HK9 : As (1 ≤ KD ∧ KD ≤ 9) := ⟨by
        rw [← HKK.out] at hk0 ⊢
        rcases kindL_cases w0 with h0 | ⟨h0, _⟩ | ⟨h0, _⟩ | ⟨h0, _⟩ | ⟨h0, _⟩ | ⟨h0, _⟩ | ⟨h0, _⟩ | ⟨h0, _⟩ | ⟨h0, _⟩ | ⟨h0, _⟩
        · exact absurd h0 hk0
        all_goals omega⟩
      have HWD : As (Wd wc G (some ⟨G0, 0, none⟩) N N (w0 :: ws)) := ⟨HNN.out, Nat.le_refl _, fun j x hx => ⟨G0, 0, rfl, Nat.lt_of_lt_of_le HG0.out HX.out.2.2, by rw [Nat.zero_add]; exact cell_below HX.out.2.1 (HC.out j x hx)⟩⟩
      obtain ⟨A1, n1, c1, hS1, hw1⟩ := HWD.out.cut1
      have HW1 := As.mk hw1
      have HX1 := As.mk HX.out.1
      have HEC := As.mk (HEN.out.below HBV.out)
      have H8G : As (8 ≤ G) := ⟨by have := H8.out; have := HGW.out; omega⟩
      have HPK : ∀ y, restP KD ws = y → parseL t = (match y with | none => none | some s => if textL s = t then some s else none) := by
        intro y hy
        unfold parseL
        rw [HCW.out]
        simp only
        rw [if_neg (by rw [HKK.out]; exact hk0), HKK.out, hy]
        cases y <;> rfl
      clear hw1 hk0
      rcases hR : restP KD ws with _ | ⟨k', p, m, g, bs, ls⟩
      · have HP : As (parseL t = none) := ⟨HPK _ hR⟩
        have HR := As.mk hR
        clear hR HPK
        go_wp2_with (go_at_call 32; (with_reducible refine (rest_no KD HK9.out G n1 c1 A1 ws _ HR.out HEC.out H8G.out HX1.out HW1.out HS1.out HS2.out).mono ?_); rintro e w5 ⟨rfl, hb⟩; have HBX5 : As (Box w5 w.heap.size #[.int .i64 0, .int .i64 0, .int .i64 0, .bool false, .slice none 0 0, .slice none 0 0] 35) := ⟨by have h := HBX.out; unfold Box at h ⊢; rw [hb.block _ HGW.out]; exact h⟩; have HBV5 := As.mk (HBV.out.trans (hb.mono (Nat.le_of_lt HGW.out))); clear hb; have r0 := HBX5.out.cell 0 _ rfl; have r1 := HBX5.out.cell 1 _ rfl; have r2 := HBX5.out.cell 2 _ rfl; have r3 := HBX5.out.cell 3 _ rfl; have r4 := HBX5.out.cell 4 _ rfl; have r5 := HBX5.out.cell 5 _ rfl; have rf := HBX5.out.frozen)
        have HF6 := As.mk (And.intro (set6_box HBX5.out (.int .i64 0) (.int .i64 0) (.int .i64 0) (.bool false) (.slice none 0 0) (.slice none 0 0)) (set6_below HBV5.out (Nat.le_refl _) (.int .i64 0) (.int .i64 0) (.int .i64 0) (.bool false) (.slice none 0 0) (.slice none 0 0)))
        generalize ((((((w5.setCell ⟨w.heap.size, 0, none⟩ (.int .i64 0)).setCell ⟨w.heap.size, 1, none⟩ (.int .i64 0)).setCell ⟨w.heap.size, 2, none⟩ (.int .i64 0)).setCell ⟨w.heap.size, 3, none⟩ (.bool false)).setCell ⟨w.heap.size, 4, none⟩ (.slice none 0 0)).setCell ⟨w.heap.size, 5, none⟩ (.slice none 0 0)) = WF at HF6 ⊢
        have q0 := HF6.out.1.cell 0 _ rfl
        have q1 := HF6.out.1.cell 1 _ rfl
        have q2 := HF6.out.1.cell 2 _ rfl
        have q3 := HF6.out.1.cell 3 _ rfl
        have q4 := HF6.out.1.cell 4 _ rfl
        have q5 := HF6.out.1.cell 5 _ rfl
        refine bodyPost_ret (v := .tuple #[.agg #[.int .i64 0, .int .i64 0, .int .i64 0, .bool false, .slice none 0 0, .slice none 0 0], .bool false]) (by simp [results, Tryd.results12, go_sem, q0, q1, q2, q3, q4, q5]) rfl ?_
        exact parse_none HP.out HF6.out.2
      · have hok := restP_ok HK9.out hR (N := t.length) (fun x hx => by have := (cutW_bounds 32 t).2 x; rw [HCW.out] at this; exact this (List.mem_cons_of_mem _ hx))
        obtain ⟨e1, hp, hm, h4, h5, h6, -, -⟩ := hok
        simp only at e1 hp hm h4 h5 h6
        obtain rfl : KD = k' := e1.symm
        have HB9 : As (-9223372036854775808 ≤ KD ∧ KD ≤ 9223372036854775807) := ⟨by have := HK9.out; omega⟩
        have HBP : As (-9223372036854775808 ≤ p ∧ p ≤ 9223372036854775807) := ⟨by omega⟩
        have HBM : As (-9223372036854775808 ≤ m ∧ m ≤ 9223372036854775807) := ⟨by omega⟩
        have HL1 : As (bs.length ≤ 2000000) := ⟨by have := HS3.out; omega⟩
        have HL2 : As (ls.length ≤ 4000000) := ⟨by have := HS3.out; omega⟩
        have HL3 : As (∀ x ∈ ls, x.length ≤ 2000000) := ⟨fun x hx => by have := h6 x hx; have := HS3.out; omega⟩
        obtain ⟨T, hT⟩ : ∃ T, stepL KD p m g bs ls = T := ⟨_, rfl⟩
        have HT := As.mk hT
        have HR := As.mk hR
        have HPT := As.mk (HPK _ hR)
        have hTT : textL ⟨KD, p, m, g, bs, ls⟩ = T := hT
        clear hp hm h4 h5 h6 hR HPK hT
        by_cases hE : T = t
        · have HP : As (parseL t = some ⟨KD, p, m, g, bs, ls⟩) := ⟨by rw [HPT.out]; exact if_pos (hTT.trans hE)⟩
          clear hTT HPT
          subst hE
          go_wp2_with (first | (go_at_call 32; (with_reducible refine (rest_yes KD HK9.out G n1 c1 A1 ws _ HR.out HEC.out H8G.out HX1.out HW1.out HS1.out HS2.out).mono ?_); rintro e w5 ⟨rfl, hb, bv, lv, hx, ho1, ho2⟩; obtain ⟨Ab, cb, rfl, -⟩ := RdB.form ho1.rd; obtain ⟨Al, cl, rfl, -⟩ := ho2.rd.form; have HBX5 : As (Box w5 w.heap.size #[.int .i64 0, .int .i64 0, .int .i64 0, .bool false, .slice none 0 0, .slice none 0 0] 35) := ⟨by have h := HBX.out; unfold Box at h ⊢; rw [hb.block _ HGW.out]; exact h⟩; have HBV5 := As.mk (HBV.out.trans (hb.mono (Nat.le_of_lt HGW.out))); have HE5 := As.mk (HEN.out.below HBV5.out); have HX5 := As.mk hx; have HO1 := As.mk ho1; have HO2 := As.mk ho2; have HR1 := As.mk ho1.rd; have HR2 := As.mk ho2.rd; clear hb hx ho1 ho2; have g0 := HX5.out.cell 0 _ rfl; have g1 := HX5.out.cell 1 _ rfl; have g2 := HX5.out.cell 2 _ rfl; have g3 := HX5.out.cell 3 _ rfl; have g4 := HX5.out.cell 4 _ rfl; have g5 := HX5.out.cell 5 _ rfl) | (go_at_call 9; (with_reducible refine (step_any KD p m g _ _ bs ls _ HR1.out HR2.out HL1.out HL2.out HL3.out HB9.out HBP.out HBM.out HE5.out).mono ?_); rintro e w6 ⟨he6, hb6⟩; simp only [HT.out, str] at he6; subst he6; clear c0; have HBX6 := As.mk (HBX5.out.below hb6); have HBV6 := As.mk (HBV5.out.trans (hb6.mono (by have := HBV5.out.size; exact this))); have HX6 := As.mk (HX5.out.below hb6); have HO16 := As.mk (OwS.below HO1.out hb6); have HO26 := As.mk (OwW.below HO2.out hb6); clear hb6 g0 g1 g2 g3 g4 g5; have r0 := HBX6.out.cell 0 _ rfl; have r1 := HBX6.out.cell 1 _ rfl; have r2 := HBX6.out.cell 2 _ rfl; have r3 := HBX6.out.cell 3 _ rfl; have r4 := HBX6.out.cell 4 _ rfl; have r5 := HBX6.out.cell 5 _ rfl; have rf := HBX6.out.frozen; have d0 := HX6.out.cell 0 _ rfl; have d1 := HX6.out.cell 1 _ rfl; have d2 := HX6.out.cell 2 _ rfl; have d3 := HX6.out.cell 3 _ rfl; have d4 := HX6.out.cell 4 _ rfl; have d5 := HX6.out.cell 5 _ rfl))
          have HG6 := As.mk (grown_trans (grown_trans (grown_trans (grown_trans (grown_trans (grown_set w6 w.heap.size 0 (.int .i64 KD)) (grown_set _ w.heap.size 1 (.int .i64 p))) (grown_set _ w.heap.size 2 (.int .i64 m))) (grown_set _ w.heap.size 3 (.bool g))) (grown_set _ w.heap.size 4 (.slice Ab bs.length cb))) (grown_set _ w.heap.size 5 (.slice Al ls.length cl)))
          have HF6 := As.mk (And.intro (set6_box HBX6.out (.int .i64 KD) (.int .i64 p) (.int .i64 m) (.bool g) (.slice Ab bs.length cb) (.slice Al ls.length cl)) (set6_below HBV6.out (Nat.le_refl _) (.int .i64 KD) (.int .i64 p) (.int .i64 m) (.bool g) (.slice Ab bs.length cb) (.slice Al ls.length cl)))
          generalize ((((((w6.setCell ⟨w.heap.size, 0, none⟩ (.int .i64 KD)).setCell ⟨w.heap.size, 1, none⟩ (.int .i64 p)).setCell ⟨w.heap.size, 2, none⟩ (.int .i64 m)).setCell ⟨w.heap.size, 3, none⟩ (.bool g)).setCell ⟨w.heap.size, 4, none⟩ (.slice Ab bs.length cb)).setCell ⟨w.heap.size, 5, none⟩ (.slice Al ls.length cl)) = WF at HF6 HG6 ⊢
          have q0 := HF6.out.1.cell 0 _ rfl
          have q1 := HF6.out.1.cell 1 _ rfl
          have q2 := HF6.out.1.cell 2 _ rfl
          have q3 := HF6.out.1.cell 3 _ rfl
          have q4 := HF6.out.1.cell 4 _ rfl
          have q5 := HF6.out.1.cell 5 _ rfl
          refine bodyPost_ret (v := .tuple #[.agg #[.int .i64 KD, .int .i64 p, .int .i64 m, .bool g, .slice Ab bs.length cb, .slice Al ls.length cl], .bool true]) (by simp [results, Tryd.results12, go_sem, q0, q1, q2, q3, q4, q5]) rfl ?_
          exact parse_some HP.out HF6.out.2 ⟨(OwB.read HO16.out HG6.out HBX.out.lt).rd, (OwW.read HO26.out HG6.out HBX.out.lt).rd⟩
        · have HP : As (parseL t = none) := ⟨by rw [HPT.out]; exact if_neg (fun e => hE (hTT.symm.trans e))⟩
          have hne : (T == t) = false := beq_eq_false_iff_ne.2 hE
          clear hTT HPT hE
          go_wp2_with (first | (go_at_call 32; (with_reducible refine (rest_yes KD HK9.out G n1 c1 A1 ws _ HR.out HEC.out H8G.out HX1.out HW1.out HS1.out HS2.out).mono ?_); rintro e w5 ⟨rfl, hb, bv, lv, hx, ho1, ho2⟩; obtain ⟨Ab, cb, rfl, -⟩ := RdB.form ho1.rd; obtain ⟨Al, cl, rfl, -⟩ := ho2.rd.form; have HBX5 : As (Box w5 w.heap.size #[.int .i64 0, .int .i64 0, .int .i64 0, .bool false, .slice none 0 0, .slice none 0 0] 35) := ⟨by have h := HBX.out; unfold Box at h ⊢; rw [hb.block _ HGW.out]; exact h⟩; have HBV5 := As.mk (HBV.out.trans (hb.mono (Nat.le_of_lt HGW.out))); have HE5 := As.mk (HEN.out.below HBV5.out); have HX5 := As.mk hx; have HO1 := As.mk ho1; have HO2 := As.mk ho2; have HR1 := As.mk ho1.rd; have HR2 := As.mk ho2.rd; clear hb hx ho1 ho2; have g0 := HX5.out.cell 0 _ rfl; have g1 := HX5.out.cell 1 _ rfl; have g2 := HX5.out.cell 2 _ rfl; have g3 := HX5.out.cell 3 _ rfl; have g4 := HX5.out.cell 4 _ rfl; have g5 := HX5.out.cell 5 _ rfl) | (go_at_call 9; (with_reducible refine (step_any KD p m g _ _ bs ls _ HR1.out HR2.out HL1.out HL2.out HL3.out HB9.out HBP.out HBM.out HE5.out).mono ?_); rintro e w6 ⟨he6, hb6⟩; simp only [HT.out, str] at he6; subst he6; clear c0; have HBX6 := As.mk (HBX5.out.below hb6); have HBV6 := As.mk (HBV5.out.trans (hb6.mono (by have := HBV5.out.size; exact this))); have HX6 := As.mk (HX5.out.below hb6); have HO16 := As.mk (OwS.below HO1.out hb6); have HO26 := As.mk (OwW.below HO2.out hb6); clear hb6 g0 g1 g2 g3 g4 g5; have r0 := HBX6.out.cell 0 _ rfl; have r1 := HBX6.out.cell 1 _ rfl; have r2 := HBX6.out.cell 2 _ rfl; have r3 := HBX6.out.cell 3 _ rfl; have r4 := HBX6.out.cell 4 _ rfl; have r5 := HBX6.out.cell 5 _ rfl; have rf := HBX6.out.frozen; have d0 := HX6.out.cell 0 _ rfl; have d1 := HX6.out.cell 1 _ rfl; have d2 := HX6.out.cell 2 _ rfl; have d3 := HX6.out.cell 3 _ rfl; have d4 := HX6.out.cell 4 _ rfl; have d5 := HX6.out.cell 5 _ rfl))
          have HF6 := As.mk (And.intro (set6_box HBX6.out (.int .i64 0) (.int .i64 0) (.int .i64 0) (.bool false) (.slice none 0 0) (.slice none 0 0)) (set6_below HBV6.out (Nat.le_refl _) (.int .i64 0) (.int .i64 0) (.int .i64 0) (.bool false) (.slice none 0 0) (.slice none 0 0)))
          generalize ((((((w6.setCell ⟨w.heap.size, 0, none⟩ (.int .i64 0)).setCell ⟨w.heap.size, 1, none⟩ (.int .i64 0)).setCell ⟨w.heap.size, 2, none⟩ (.int .i64 0)).setCell ⟨w.heap.size, 3, none⟩ (.bool false)).setCell ⟨w.heap.size, 4, none⟩ (.slice none 0 0)).setCell ⟨w.heap.size, 5, none⟩ (.slice none 0 0)) = WF at HF6 ⊢
          have q0 := HF6.out.1.cell 0 _ rfl
          have q1 := HF6.out.1.cell 1 _ rfl
          have q2 := HF6.out.1.cell 2 _ rfl
          have q3 := HF6.out.1.cell 3 _ rfl
          have q4 := HF6.out.1.cell 4 _ rfl
          have q5 := HF6.out.1.cell 5 _ rfl
          refine bodyPost_ret (v := .tuple #[.agg #[.int .i64 0, .int .i64 0, .int .i64 0, .bool false, .slice none 0 0, .slice none 0 0], .bool false]) (by simp [results, Tryd.results12, go_sem, q0, q1, q2, q3, q4, q5]) rfl ?_
          exact parse_none HP.out HF6.out.2
end Go.Proofs.YtodcbcpjlhlakaaDoor.W
