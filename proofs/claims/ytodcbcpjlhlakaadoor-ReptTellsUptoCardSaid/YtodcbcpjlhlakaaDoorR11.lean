/- What is told: the document's Step. -/
import Derived.Test.YtodcbcpjlhlakaaDoorR10
set_option linter.unusedVariables false
set_option linter.unusedSimpArgs false
namespace Go.Proofs.YtodcbcpjlhlakaaDoor.W
open Go.RowKit Go.Proofs.YtodcbcpjlhlakaaDoor.B Go.Proofs

theorem qgood_to {b : Bool} {Y : List UInt8} (h : goodL b = Y) (w : World) : Calls Tryd.prog 25 #[.bool b] w fun e w' => e = .returned (str (32 :: (Y ++ [32]))) ∧ w' = w := by
  rw [← h]; exact qgood_any b w
set_option maxHeartbeats 8000000 in
set_option maxRecDepth 100000 in
theorem qstep_any (k p n : Int) (good : Bool) (bv lv : Value) (bs : List UInt8) (ls : List (List UInt8)) (w : World) (hb : RdB w bv bs) (hl : RdW w lv ls) (hbl : bs.length ≤ 2000000) (hll : ls.length ≤ 4000000) (hlx : ∀ x ∈ ls, x.length ≤ 2000000)
    (hk : -9223372036854775808 ≤ k ∧ k ≤ 9223372036854775807) (hp : -9223372036854775808 ≤ p ∧ p ≤ 9223372036854775807) (hn : -9223372036854775808 ≤ n ∧ n ≤ 9223372036854775807) (he : Env w) :
    Calls Tryd.prog 10 #[.agg #[.int .i64 k, .int .i64 p, .int .i64 n, .bool good, bv, lv]] w fun e w' => e = .returned (str (stepL k p n good bs ls)) ∧ Below w.heap.size w w' := by
  obtain ⟨Ab, cb, rfl, -⟩ := RdB.form hb
  obtain ⟨Al, cl, rfl, -⟩ := hl.form
  obtain ⟨P, hP⟩ : ∃ P, Lib.itoa p = P := ⟨_, rfl⟩
  obtain ⟨N, hN⟩ : ∃ P, Lib.itoa n = P := ⟨_, rfl⟩
  obtain ⟨Y, hY⟩ : ∃ P, goodL good = P := ⟨_, rfl⟩
  obtain ⟨H, hH⟩ : ∃ P, hexL bs = P := ⟨_, rfl⟩
  obtain ⟨L, hL⟩ : ∃ P, joinL (ls.map hexL) = P := ⟨_, rfl⟩
  have HP := As.mk hP
  have HN := As.mk hN
  have HY := As.mk hY
  have HH := As.mk hH
  have HL := As.mk hL
  have HPL : As (P.length ≤ 21) := ⟨by rw [← hP]; exact itoa_short p hp.1 hp.2⟩
  have HNL : As (N.length ≤ 21) := ⟨by rw [← hN]; exact itoa_short n hn.1 hn.2⟩
  have HYL : As (Y.length ≤ 1) := ⟨by rw [← hY]; cases good <;> decide⟩
  have HHL : As (H.length ≤ 4000001) := ⟨by rw [← hH]; have := hexL_length bs; omega⟩
  have hlj : (Lib.join (ls.map hexL) [44]).length ≤ 20000000000000 := by
    have h := join_bound 4000001 ls (f := hexL) (fun y hy => by have := hexL_length y; have := hlx y hy; omega)
    have := Nat.mul_le_mul_right 4000002 hll
    omega
  have HLJ : As ((Lib.join (ls.map hexL) [44]).length ≤ 140737488355328) := ⟨by omega⟩
  have HLL : As (L.length ≤ 20000000000000) := ⟨by rw [← hL]; unfold joinL; split; decide; exact hlj⟩
  have HBL := As.mk hbl
  have HLL2 := As.mk hll
  have HLX := As.mk hlx
  have HPB := As.mk hp
  have HNB := As.mk hn
  obtain ⟨W0, hW0⟩ : ∃ W, W = w.alloc (.cells #[.int .i64 k, .int .i64 p, .int .i64 n, .bool good, .slice Ab bs.length cb, .slice Al ls.length cl] 35) := ⟨_, rfl⟩
  have hb0 : Below w.heap.size w W0 := by rw [hW0]; exact below_al _ _
  have hbx : ∀ (j : Nat) (v : Value), [Value.int .i64 k, .int .i64 p, .int .i64 n, .bool good, .slice Ab bs.length cb, .slice Al ls.length cl][j]? = some v → W0.cell? ⟨w.heap.size, j, none⟩ = some v := fun j v hv => by rw [hW0]; exact new_at _ _ _ _ _ hv
  have HW0 := As.mk hb0
  have HENV := As.mk (he.below HW0.out)
  have HRB := As.mk (RdS.below hb HW0.out)
  have HRL := As.mk (hl.below HW0.out)
  have HC0 := As.mk (hbx 0 _ rfl)
  have HC1 := As.mk (hbx 1 _ rfl)
  have HC2 := As.mk (hbx 2 _ rfl)
  have HC3 := As.mk (hbx 3 _ rfl)
  have HC4 := As.mk (hbx 4 _ rfl)
  have HC5 := As.mk (hbx 5 _ rfl)
  clear hP hN hY hH hL hb hl hbl hll hlx hp hn he hlj hbx hb0
  have HE0 := As.mk hW0
  clear hW0
  go_enter Tryd.func10, Tryd.ntmps10
  go_upto_region 1 with fail
  rw [← HE0.out]
  clear HE0
  obtain ⟨G, hG⟩ : ∃ G, G = w.heap.size := ⟨_, rfl⟩
  rw [← hG] at HC0 HC1 HC2 HC3 HC4 HC5 ⊢
  clear hG
  have c1 := HC1.out
  go_upto_region 2 with (first | (go_at_call 24; (with_reducible refine (qnum_any p HPB.out.1 HPB.out.2 _).mono ?_); rintro e w1 ⟨he, hb⟩; simp only [HP.out, str] at he; subst he; have HB9 := As.mk hb; clear hb) | ((with_reducible refine wpList_catTo ?hgd (.const (.string ⟨#[32]⟩)) (.tmp 6) rfl [32] P (32 :: P) ?hz ?hx ?hy ?hl ?_); (case hgd => exact rfl); (case hz => simp); (case hx => exact rfl); (case hy => exact rfl); (case hl => have hp := HPL.out; simp only [List.length_cons, List.length_nil]; omega)))
  clear c1
  have HW02 := As.mk (HW0.out.trans (HB9.out.mono HW0.out.size))
  have HENV2 := As.mk (HENV.out.below HB9.out)
  have HRB2 := As.mk (RdS.below HRB.out HB9.out)
  have HRL2 := As.mk (HRL.out.below HB9.out)
  have HD0 := As.mk (cell_below HB9.out HC0.out)
  have HD1 := As.mk (cell_below HB9.out HC1.out)
  have HD2 := As.mk (cell_below HB9.out HC2.out)
  have HD3 := As.mk (cell_below HB9.out HC3.out)
  have HD4 := As.mk (cell_below HB9.out HC4.out)
  have HD5 := As.mk (cell_below HB9.out HC5.out)
  clear HW0 HENV HRB HRL HC0 HC1 HC2 HC3 HC4 HC5 HB9
  have HW0 := HW02
  have HENV := HENV2
  have HRB := HRB2
  have HRL := HRL2
  have HC0 := HD0
  have HC1 := HD1
  have HC2 := HD2
  have HC3 := HD3
  have HC4 := HD4
  have HC5 := HD5
  clear HW02 HENV2 HRB2 HRL2 HD0 HD1 HD2 HD3 HD4 HD5
  obtain ⟨W1, hWW⟩ : ∃ W, W = w1 := ⟨_, rfl⟩
  rw [← hWW] at HW0 HENV HRB HRL HC0 HC1 HC2 HC3 HC4 HC5 ⊢
  clear hWW
  rcases Classical.em (k = 1 ∨ k = 2 ∨ k = 3 ∨ k = 4 ∨ k = 5 ∨ k = 6 ∨ k = 7 ∨ k = 8 ∨ k = 9) with hk1 | hkn
  · rcases hk1 with hk1 | hk2 | hk3 | hk4 | hk5 | hk6 | hk7 | hk8 | hk9
    · subst hk1
      have HT : As (stepL 1 p n good bs ls = [116, 120, 32] ++ P ++ [32] ++ Y ++ [32] ++ H) := ⟨by simp [stepL, HP.out, HN.out, HY.out, HH.out, HL.out]⟩
      have c0 := HC0.out
      have c1 := HC1.out
      have c2 := HC2.out
      have c3 := HC3.out
      have c4 := HC4.out
      have c5 := HC5.out
      go_upto_region 4 with fail
      clear c0 c1 c2 c3 c4 c5
      refine wp_region_held_drew (S := (fun V : World => Below W1.heap.size W1 V)) (by kernel_rfl) ?_ (fun hHeld => ?_)
      · exact below_dr W1
      refine wpAnyH_take (i := 0) (oi := ?_) (v := ?_) (by simp only [List.getElem?_toArray, List.getElem?_cons_zero, List.getElem?_cons_succ]; rfl) (by kernel_rfl) (by kernel_rfl) (by kernel_rfl) (by exact fun _ _ _ h => h) (Or.inl ⟨by rfl, ?_⟩) (by assumption) ?_
      rotate_left
      · (intro w hSw; (try dsimp only at hSw); have c1 := cell_below hSw HC1.out; have c2 := cell_below hSw HC2.out; have c3 := cell_below hSw HC3.out; have c4 := cell_below hSw HC4.out; have c5 := cell_below hSw HC5.out; go_simp; first | done | with_reducible rfl)
      try simp only [Act.put, List.setIfInBounds_toArray, List.set_cons_zero, List.set_cons_succ]
      refine wpAnyH_take (i := 1) (oi := ?_) (v := ?_) (by simp only [List.getElem?_toArray, List.getElem?_cons_zero, List.getElem?_cons_succ]; rfl) (by kernel_rfl) (by kernel_rfl) (by kernel_rfl) (by exact fun _ _ _ h => h) (Or.inl ⟨by rfl, ?_⟩) (by assumption) ?_
      rotate_left
      · (intro w2 hw2; refine exec_catTo (.const (.string ⟨#[116, 120]⟩)) (.tmp 12) ?_ (116 :: [120]) (32 :: P) (116 :: 120 :: 32 :: P) ?_ ?_ ?_ ?_; rfl; simp; rfl; rfl; (have hp := HPL.out; have hn := HNL.out; have hy := HYL.out; have hh := HHL.out; have hl := HLL.out; simp only [List.length_append, List.length_cons, List.length_nil]; omega))
      try simp only [Act.put, List.setIfInBounds_toArray, List.set_cons_zero, List.set_cons_succ]
      refine wpAnyH_take (i := 2) (oi := ?_) (v := ?_) (by simp only [List.getElem?_toArray, List.getElem?_cons_zero, List.getElem?_cons_succ]; rfl) (by kernel_rfl) (by kernel_rfl) (by kernel_rfl) (by exact fun _ _ _ h => h) (Or.inl ⟨by rfl, ?_⟩) (by assumption) ?_
      rotate_left
      · (intro w hSw; (try dsimp only at hSw); have c1 := cell_below hSw HC1.out; have c2 := cell_below hSw HC2.out; have c3 := cell_below hSw HC3.out; have c4 := cell_below hSw HC4.out; have c5 := cell_below hSw HC5.out; go_simp; first | done | with_reducible rfl)
      try simp only [Act.put, List.setIfInBounds_toArray, List.set_cons_zero, List.set_cons_succ]
      refine wpAnyH_take (i := 3) (oi := ?_) (v := ?_) (by simp only [List.getElem?_toArray, List.getElem?_cons_zero, List.getElem?_cons_succ]; rfl) (by kernel_rfl) (by kernel_rfl) (by kernel_rfl) (by exact fun _ _ _ h => h) (Or.inl ⟨by rfl, ?_⟩) (by assumption) ?_
      rotate_left
      · (intro w hSw; (try dsimp only at hSw); have c1 := cell_below hSw HC1.out; have c2 := cell_below hSw HC2.out; have c3 := cell_below hSw HC3.out; have c4 := cell_below hSw HC4.out; have c5 := cell_below hSw HC5.out; go_simp; first | done | with_reducible rfl)
      try simp only [Act.put, List.setIfInBounds_toArray, List.set_cons_zero, List.set_cons_succ]
      refine wpAnyH_take (i := 6) (oi := ?_) (v := ?_) (by simp only [List.getElem?_toArray, List.getElem?_cons_zero, List.getElem?_cons_succ]; rfl) (by kernel_rfl) (by kernel_rfl) (by kernel_rfl) (by exact fun _ _ _ h => h) (Or.inl ⟨by rfl, ?_⟩) (by assumption) ?_
      rotate_left
      · (intro w hSw; (try dsimp only at hSw); have c1 := cell_below hSw HC1.out; have c2 := cell_below hSw HC2.out; have c3 := cell_below hSw HC3.out; have c4 := cell_below hSw HC4.out; have c5 := cell_below hSw HC5.out; go_simp; first | done | with_reducible rfl)
      try simp only [Act.put, List.setIfInBounds_toArray, List.set_cons_zero, List.set_cons_succ]
      refine wpAnyH_take (i := 7) (oi := ?_) (v := ?_) (by simp only [List.getElem?_toArray, List.getElem?_cons_zero, List.getElem?_cons_succ]; rfl) (by kernel_rfl) (by kernel_rfl) (by kernel_rfl) (by exact fun _ _ _ h => h) (Or.inl ⟨by rfl, ?_⟩) (by assumption) ?_
      rotate_left
      · (intro w hSw; (try dsimp only at hSw); have c1 := cell_below hSw HC1.out; have c2 := cell_below hSw HC2.out; have c3 := cell_below hSw HC3.out; have c4 := cell_below hSw HC4.out; have c5 := cell_below hSw HC5.out; go_simp; first | done | with_reducible rfl)
      try simp only [Act.put, List.setIfInBounds_toArray, List.set_cons_zero, List.set_cons_succ]
      refine wpAnyH_ready (rs := [4]) (by kernel_rfl) (by simp) ?_
      refine AllReadyH.cons (o := ?_) (by simp only [List.getElem?_toArray, List.getElem?_cons_zero, List.getElem?_cons_succ]; rfl) (fun K hK => ?_) ?_
      · go_simp
        (with_reducible refine (qgood_to HY.out _).mono ?_)
        rintro e w24 ⟨he, hb⟩
        simp only [HY.out, str] at he
        subst he hb
        have hS2 := hHeld
        dsimp only
        refine hK.out _ _ ?_ (fun hHeld2 => ?_)
        · exact hS2
        clear hK K hHeld
        have hHeld := hHeld2
        clear hHeld2
        try simp only [Act.put, List.setIfInBounds_toArray, List.set_cons_zero, List.set_cons_succ]
        refine wpAnyH_take (i := 5) (oi := ?_) (v := ?_) (by simp only [List.getElem?_toArray, List.getElem?_cons_zero, List.getElem?_cons_succ]; rfl) (by kernel_rfl) (by kernel_rfl) (by kernel_rfl) (by exact fun _ _ _ h => h) (Or.inl ⟨by rfl, ?_⟩) (by assumption) ?_
        rotate_left
        · (intro w2 hw2; refine exec_catTo (.tmp 13) (.tmp 16) ?_ (116 :: 120 :: 32 :: P) (32 :: (Y ++ [32])) (116 :: 120 :: 32 :: (P ++ (32 :: (Y ++ [32])))) ?_ ?_ ?_ ?_; rfl; simp; rfl; rfl; (have hp := HPL.out; have hn := HNL.out; have hy := HYL.out; have hh := HHL.out; have hl := HLL.out; simp only [List.length_append, List.length_cons, List.length_nil]; omega))
        try simp only [Act.put, List.setIfInBounds_toArray, List.set_cons_zero, List.set_cons_succ]
        refine wpAnyH_ready (rs := [8]) (by kernel_rfl) (by simp) ?_
        refine AllReadyH.cons (o := ?_) (by simp only [List.getElem?_toArray, List.getElem?_cons_zero, List.getElem?_cons_succ]; rfl) (fun K hK => ?_) ?_
        · go_simp
          (with_reducible refine (qhex_any _ bs _ (HRB.out.below hHeld) HBL.out).mono ?_)
          rintro e w28 ⟨he, hb⟩
          simp only [HH.out, str] at he
          subst he
          have hS2 := hHeld.trans (hb.mono hHeld.size)
          clear hb
          dsimp only
          refine hK.out _ _ ?_ (fun hHeld2 => ?_)
          · exact hS2
          clear hK K hHeld
          have hHeld := hHeld2
          clear hHeld2
          try simp only [Act.put, List.setIfInBounds_toArray, List.set_cons_zero, List.set_cons_succ]
          refine wpAnyH_take (i := 9) (oi := ?_) (v := ?_) (by simp only [List.getElem?_toArray, List.getElem?_cons_zero, List.getElem?_cons_succ]; rfl) (by kernel_rfl) (by kernel_rfl) (by kernel_rfl) (by exact fun _ _ _ h => h) (Or.inl ⟨by rfl, ?_⟩) (by assumption) ?_
          rotate_left
          · (intro w2 hw2; refine exec_catTo (.tmp 17) (.tmp 20) ?_ (116 :: 120 :: 32 :: (P ++ (32 :: (Y ++ [32])))) H (116 :: 120 :: 32 :: (P ++ (32 :: (Y ++ (32 :: H))))) ?_ ?_ ?_ ?_; rfl; simp; rfl; rfl; (have hp := HPL.out; have hn := HNL.out; have hy := HYL.out; have hh := HHL.out; have hl := HLL.out; simp only [List.length_append, List.length_cons, List.length_nil]; omega))
          try simp only [Act.put, List.setIfInBounds_toArray, List.set_cons_zero, List.set_cons_succ]
          refine wpAnyH_take (i := 10) (oi := ?_) (v := ?_) (by simp only [List.getElem?_toArray, List.getElem?_cons_zero, List.getElem?_cons_succ]; rfl) (by kernel_rfl) (by kernel_rfl) (by kernel_rfl) (by exact fun _ _ _ h => h) (Or.inl ⟨by rfl, ?_⟩) (by assumption) ?_
          rotate_left
          · (intro w hSw; (try dsimp only at hSw); have c1 := cell_below hSw HC1.out; have c2 := cell_below hSw HC2.out; have c3 := cell_below hSw HC3.out; have c4 := cell_below hSw HC4.out; have c5 := cell_below hSw HC5.out; go_simp; first | done | with_reducible rfl)
          try simp only [Act.put, List.setIfInBounds_toArray, List.set_cons_zero, List.set_cons_succ]
          refine wpAnyH_done (by kernel_rfl) ?_ _
          have HW := As.mk hHeld
          clear hHeld
          go_wp2
          go_ret
          rw [HT.out]
          exact ⟨by simp [str], HW0.out.trans (HW.out.mono HW0.out.size)⟩
        exact AllReadyH.nil
      exact AllReadyH.nil
    · subst hk2
      have HT : As (stepL 2 p n good bs ls = [112, 97, 99, 107, 32] ++ P ++ [32] ++ Y ++ [32] ++ L) := ⟨by simp [stepL, HP.out, HN.out, HY.out, HH.out, HL.out]⟩
      have c0 := HC0.out
      have c1 := HC1.out
      have c2 := HC2.out
      have c3 := HC3.out
      have c4 := HC4.out
      have c5 := HC5.out
      go_upto_region 6 with fail
      clear c0 c1 c2 c3 c4 c5
      refine wp_region_held_drew (S := (fun V : World => Below W1.heap.size W1 V)) (by kernel_rfl) ?_ (fun hHeld => ?_)
      · exact below_dr W1
      refine wpAnyH_take (i := 0) (oi := ?_) (v := ?_) (by simp only [List.getElem?_toArray, List.getElem?_cons_zero, List.getElem?_cons_succ]; rfl) (by kernel_rfl) (by kernel_rfl) (by kernel_rfl) (by exact fun _ _ _ h => h) (Or.inl ⟨by rfl, ?_⟩) (by assumption) ?_
      rotate_left
      · (intro w hSw; (try dsimp only at hSw); have c1 := cell_below hSw HC1.out; have c2 := cell_below hSw HC2.out; have c3 := cell_below hSw HC3.out; have c4 := cell_below hSw HC4.out; have c5 := cell_below hSw HC5.out; go_simp; first | done | with_reducible rfl)
      try simp only [Act.put, List.setIfInBounds_toArray, List.set_cons_zero, List.set_cons_succ]
      refine wpAnyH_take (i := 1) (oi := ?_) (v := ?_) (by simp only [List.getElem?_toArray, List.getElem?_cons_zero, List.getElem?_cons_succ]; rfl) (by kernel_rfl) (by kernel_rfl) (by kernel_rfl) (by exact fun _ _ _ h => h) (Or.inl ⟨by rfl, ?_⟩) (by assumption) ?_
      rotate_left
      · (intro w2 hw2; refine exec_catTo (.const (.string ⟨#[112, 97, 99, 107]⟩)) (.tmp 24) ?_ (112 :: 97 :: 99 :: [107]) (32 :: P) (112 :: 97 :: 99 :: 107 :: 32 :: P) ?_ ?_ ?_ ?_; rfl; simp; rfl; rfl; (have hp := HPL.out; have hn := HNL.out; have hy := HYL.out; have hh := HHL.out; have hl := HLL.out; simp only [List.length_append, List.length_cons, List.length_nil]; omega))
      try simp only [Act.put, List.setIfInBounds_toArray, List.set_cons_zero, List.set_cons_succ]
      refine wpAnyH_take (i := 2) (oi := ?_) (v := ?_) (by simp only [List.getElem?_toArray, List.getElem?_cons_zero, List.getElem?_cons_succ]; rfl) (by kernel_rfl) (by kernel_rfl) (by kernel_rfl) (by exact fun _ _ _ h => h) (Or.inl ⟨by rfl, ?_⟩) (by assumption) ?_
      rotate_left
      · (intro w hSw; (try dsimp only at hSw); have c1 := cell_below hSw HC1.out; have c2 := cell_below hSw HC2.out; have c3 := cell_below hSw HC3.out; have c4 := cell_below hSw HC4.out; have c5 := cell_below hSw HC5.out; go_simp; first | done | with_reducible rfl)
      try simp only [Act.put, List.setIfInBounds_toArray, List.set_cons_zero, List.set_cons_succ]
      refine wpAnyH_take (i := 3) (oi := ?_) (v := ?_) (by simp only [List.getElem?_toArray, List.getElem?_cons_zero, List.getElem?_cons_succ]; rfl) (by kernel_rfl) (by kernel_rfl) (by kernel_rfl) (by exact fun _ _ _ h => h) (Or.inl ⟨by rfl, ?_⟩) (by assumption) ?_
      rotate_left
      · (intro w hSw; (try dsimp only at hSw); have c1 := cell_below hSw HC1.out; have c2 := cell_below hSw HC2.out; have c3 := cell_below hSw HC3.out; have c4 := cell_below hSw HC4.out; have c5 := cell_below hSw HC5.out; go_simp; first | done | with_reducible rfl)
      try simp only [Act.put, List.setIfInBounds_toArray, List.set_cons_zero, List.set_cons_succ]
      refine wpAnyH_take (i := 6) (oi := ?_) (v := ?_) (by simp only [List.getElem?_toArray, List.getElem?_cons_zero, List.getElem?_cons_succ]; rfl) (by kernel_rfl) (by kernel_rfl) (by kernel_rfl) (by exact fun _ _ _ h => h) (Or.inl ⟨by rfl, ?_⟩) (by assumption) ?_
      rotate_left
      · (intro w hSw; (try dsimp only at hSw); have c1 := cell_below hSw HC1.out; have c2 := cell_below hSw HC2.out; have c3 := cell_below hSw HC3.out; have c4 := cell_below hSw HC4.out; have c5 := cell_below hSw HC5.out; go_simp; first | done | with_reducible rfl)
      try simp only [Act.put, List.setIfInBounds_toArray, List.set_cons_zero, List.set_cons_succ]
      refine wpAnyH_take (i := 7) (oi := ?_) (v := ?_) (by simp only [List.getElem?_toArray, List.getElem?_cons_zero, List.getElem?_cons_succ]; rfl) (by kernel_rfl) (by kernel_rfl) (by kernel_rfl) (by exact fun _ _ _ h => h) (Or.inl ⟨by rfl, ?_⟩) (by assumption) ?_
      rotate_left
      · (intro w hSw; (try dsimp only at hSw); have c1 := cell_below hSw HC1.out; have c2 := cell_below hSw HC2.out; have c3 := cell_below hSw HC3.out; have c4 := cell_below hSw HC4.out; have c5 := cell_below hSw HC5.out; go_simp; first | done | with_reducible rfl)
      try simp only [Act.put, List.setIfInBounds_toArray, List.set_cons_zero, List.set_cons_succ]
      refine wpAnyH_ready (rs := [4]) (by kernel_rfl) (by simp) ?_
      refine AllReadyH.cons (o := ?_) (by simp only [List.getElem?_toArray, List.getElem?_cons_zero, List.getElem?_cons_succ]; rfl) (fun K hK => ?_) ?_
      · go_simp
        (with_reducible refine (qgood_to HY.out _).mono ?_)
        rintro e w24 ⟨he, hb⟩
        simp only [HY.out, str] at he
        subst he hb
        have hS2 := hHeld
        dsimp only
        refine hK.out _ _ ?_ (fun hHeld2 => ?_)
        · exact hS2
        clear hK K hHeld
        have hHeld := hHeld2
        clear hHeld2
        try simp only [Act.put, List.setIfInBounds_toArray, List.set_cons_zero, List.set_cons_succ]
        refine wpAnyH_take (i := 5) (oi := ?_) (v := ?_) (by simp only [List.getElem?_toArray, List.getElem?_cons_zero, List.getElem?_cons_succ]; rfl) (by kernel_rfl) (by kernel_rfl) (by kernel_rfl) (by exact fun _ _ _ h => h) (Or.inl ⟨by rfl, ?_⟩) (by assumption) ?_
        rotate_left
        · (intro w2 hw2; refine exec_catTo (.tmp 25) (.tmp 28) ?_ (112 :: 97 :: 99 :: 107 :: 32 :: P) (32 :: (Y ++ [32])) (112 :: 97 :: 99 :: 107 :: 32 :: (P ++ (32 :: (Y ++ [32])))) ?_ ?_ ?_ ?_; rfl; simp; rfl; rfl; (have hp := HPL.out; have hn := HNL.out; have hy := HYL.out; have hh := HHL.out; have hl := HLL.out; simp only [List.length_append, List.length_cons, List.length_nil]; omega))
        try simp only [Act.put, List.setIfInBounds_toArray, List.set_cons_zero, List.set_cons_succ]
        refine wpAnyH_ready (rs := [8]) (by kernel_rfl) (by simp) ?_
        refine AllReadyH.cons (o := ?_) (by simp only [List.getElem?_toArray, List.getElem?_cons_zero, List.getElem?_cons_succ]; rfl) (fun K hK => ?_) ?_
        · go_simp
          (with_reducible refine (qrows_any _ ls _ (HRL.out.below hHeld) HLL2.out HLX.out).mono ?_)
          rintro e w28 ⟨he, hb⟩
          simp only [HL.out, str] at he
          subst he
          have hS2 := hHeld.trans (hb.mono hHeld.size)
          clear hb
          dsimp only
          refine hK.out _ _ ?_ (fun hHeld2 => ?_)
          · exact hS2
          clear hK K hHeld
          have hHeld := hHeld2
          clear hHeld2
          try simp only [Act.put, List.setIfInBounds_toArray, List.set_cons_zero, List.set_cons_succ]
          refine wpAnyH_take (i := 9) (oi := ?_) (v := ?_) (by simp only [List.getElem?_toArray, List.getElem?_cons_zero, List.getElem?_cons_succ]; rfl) (by kernel_rfl) (by kernel_rfl) (by kernel_rfl) (by exact fun _ _ _ h => h) (Or.inl ⟨by rfl, ?_⟩) (by assumption) ?_
          rotate_left
          · (intro w2 hw2; refine exec_catTo (.tmp 29) (.tmp 32) ?_ (112 :: 97 :: 99 :: 107 :: 32 :: (P ++ (32 :: (Y ++ [32])))) L (112 :: 97 :: 99 :: 107 :: 32 :: (P ++ (32 :: (Y ++ (32 :: L))))) ?_ ?_ ?_ ?_; rfl; simp; rfl; rfl; (have hp := HPL.out; have hn := HNL.out; have hy := HYL.out; have hh := HHL.out; have hl := HLL.out; simp only [List.length_append, List.length_cons, List.length_nil]; omega))
          try simp only [Act.put, List.setIfInBounds_toArray, List.set_cons_zero, List.set_cons_succ]
          refine wpAnyH_take (i := 10) (oi := ?_) (v := ?_) (by simp only [List.getElem?_toArray, List.getElem?_cons_zero, List.getElem?_cons_succ]; rfl) (by kernel_rfl) (by kernel_rfl) (by kernel_rfl) (by exact fun _ _ _ h => h) (Or.inl ⟨by rfl, ?_⟩) (by assumption) ?_
          rotate_left
          · (intro w hSw; (try dsimp only at hSw); have c1 := cell_below hSw HC1.out; have c2 := cell_below hSw HC2.out; have c3 := cell_below hSw HC3.out; have c4 := cell_below hSw HC4.out; have c5 := cell_below hSw HC5.out; go_simp; first | done | with_reducible rfl)
          try simp only [Act.put, List.setIfInBounds_toArray, List.set_cons_zero, List.set_cons_succ]
          refine wpAnyH_done (by kernel_rfl) ?_ _
          have HW := As.mk hHeld
          clear hHeld
          go_wp2
          go_ret
          rw [HT.out]
          exact ⟨by simp [str], HW0.out.trans (HW.out.mono HW0.out.size)⟩
        exact AllReadyH.nil
      exact AllReadyH.nil
    · subst hk3
      have HT : As (stepL 3 p n good bs ls = [104, 97, 118, 101, 32] ++ P ++ [32] ++ H) := ⟨by simp [stepL, HP.out, HN.out, HY.out, HH.out, HL.out]⟩
      have c0 := HC0.out
      have c1 := HC1.out
      have c2 := HC2.out
      have c3 := HC3.out
      have c4 := HC4.out
      have c5 := HC5.out
      go_wp2_with (first | (go_at_call 6; (with_reducible refine (qhex_any _ bs _ HRB.out HBL.out).mono ?_); rintro e w9 ⟨he, hb⟩; simp only [HH.out, str] at he; subst he; have HB9 := As.mk (HW0.out.trans (hb.mono HW0.out.size)); clear hb) | ((with_reducible refine wpList_catTo ?hgd (.const (.string ⟨#[104, 97, 118, 101]⟩)) (.tmp 36) rfl (104 :: 97 :: 118 :: [101]) (32 :: P) (104 :: 97 :: 118 :: 101 :: 32 :: P) ?hz ?hx ?hy ?hl ?_); (case hgd => exact rfl); (case hz => simp); (case hx => exact rfl); (case hy => exact rfl); (case hl => have hp := HPL.out; have hn := HNL.out; have hy := HYL.out; have hh := HHL.out; have hl := HLL.out; simp only [List.length_append, List.length_cons, List.length_nil]; omega)) | ((with_reducible refine wpList_catTo ?hgd (.tmp 37) (.const (.string ⟨#[32]⟩)) rfl (104 :: 97 :: 118 :: 101 :: 32 :: P) [32] (104 :: 97 :: 118 :: 101 :: 32 :: (P ++ [32])) ?hz ?hx ?hy ?hl ?_); (case hgd => exact rfl); (case hz => simp); (case hx => exact rfl); (case hy => exact rfl); (case hl => have hp := HPL.out; have hn := HNL.out; have hy := HYL.out; have hh := HHL.out; have hl := HLL.out; simp only [List.length_append, List.length_cons, List.length_nil]; omega)) | ((with_reducible refine wpList_catTo ?hgd (.tmp 38) (.tmp 41) rfl (104 :: 97 :: 118 :: 101 :: 32 :: (P ++ [32])) H (104 :: 97 :: 118 :: 101 :: 32 :: (P ++ (32 :: H))) ?hz ?hx ?hy ?hl ?_); (case hgd => exact rfl); (case hz => simp); (case hx => exact rfl); (case hy => exact rfl); (case hl => have hp := HPL.out; have hn := HNL.out; have hy := HYL.out; have hh := HHL.out; have hl := HLL.out; simp only [List.length_append, List.length_cons, List.length_nil]; omega)))
      go_ret
      rw [HT.out]
      exact ⟨by simp [str], HB9.out⟩
    · subst hk4
      have HT : As (stepL 4 p n good bs ls = [105, 110, 102, 111, 32] ++ P ++ [32] ++ L) := ⟨by simp [stepL, HP.out, HN.out, HY.out, HH.out, HL.out]⟩
      have c0 := HC0.out
      have c1 := HC1.out
      have c2 := HC2.out
      have c3 := HC3.out
      have c4 := HC4.out
      have c5 := HC5.out
      go_wp2_with (first | (go_at_call 26; (with_reducible refine (qrows_any _ ls _ HRL.out HLL2.out HLX.out).mono ?_); rintro e w9 ⟨he, hb⟩; simp only [HL.out, str] at he; subst he; have HB9 := As.mk (HW0.out.trans (hb.mono HW0.out.size)); clear hb) | ((with_reducible refine wpList_catTo ?hgd (.const (.string ⟨#[105, 110, 102, 111]⟩)) (.tmp 45) rfl (105 :: 110 :: 102 :: [111]) (32 :: P) (105 :: 110 :: 102 :: 111 :: 32 :: P) ?hz ?hx ?hy ?hl ?_); (case hgd => exact rfl); (case hz => simp); (case hx => exact rfl); (case hy => exact rfl); (case hl => have hp := HPL.out; have hn := HNL.out; have hy := HYL.out; have hh := HHL.out; have hl := HLL.out; simp only [List.length_append, List.length_cons, List.length_nil]; omega)) | ((with_reducible refine wpList_catTo ?hgd (.tmp 46) (.const (.string ⟨#[32]⟩)) rfl (105 :: 110 :: 102 :: 111 :: 32 :: P) [32] (105 :: 110 :: 102 :: 111 :: 32 :: (P ++ [32])) ?hz ?hx ?hy ?hl ?_); (case hgd => exact rfl); (case hz => simp); (case hx => exact rfl); (case hy => exact rfl); (case hl => have hp := HPL.out; have hn := HNL.out; have hy := HYL.out; have hh := HHL.out; have hl := HLL.out; simp only [List.length_append, List.length_cons, List.length_nil]; omega)) | ((with_reducible refine wpList_catTo ?hgd (.tmp 47) (.tmp 50) rfl (105 :: 110 :: 102 :: 111 :: 32 :: (P ++ [32])) L (105 :: 110 :: 102 :: 111 :: 32 :: (P ++ (32 :: L))) ?hz ?hx ?hy ?hl ?_); (case hgd => exact rfl); (case hz => simp); (case hx => exact rfl); (case hy => exact rfl); (case hl => have hp := HPL.out; have hn := HNL.out; have hy := HYL.out; have hh := HHL.out; have hl := HLL.out; simp only [List.length_append, List.length_cons, List.length_nil]; omega)))
      go_ret
      rw [HT.out]
      exact ⟨by simp [str], HB9.out⟩
    · subst hk5
      have HT : As (stepL 5 p n good bs ls = [108, 101, 97, 118, 101, 32] ++ P) := ⟨by simp [stepL, HP.out, HN.out, HY.out, HH.out, HL.out]⟩
      have c0 := HC0.out
      have c1 := HC1.out
      have c2 := HC2.out
      have c3 := HC3.out
      have c4 := HC4.out
      have c5 := HC5.out
      have HB9 := HW0
      go_wp2_with (first | ((with_reducible refine wpList_catTo ?hgd (.const (.string ⟨#[108, 101, 97, 118, 101]⟩)) (.tmp 54) rfl (108 :: 101 :: 97 :: 118 :: [101]) (32 :: P) (108 :: 101 :: 97 :: 118 :: 101 :: 32 :: P) ?hz ?hx ?hy ?hl ?_); (case hgd => exact rfl); (case hz => simp); (case hx => exact rfl); (case hy => exact rfl); (case hl => have hp := HPL.out; have hn := HNL.out; have hy := HYL.out; have hh := HHL.out; have hl := HLL.out; simp only [List.length_append, List.length_cons, List.length_nil]; omega)))
      go_ret
      rw [HT.out]
      exact ⟨by simp [str], HB9.out⟩
    · subst hk6
      have HT : As (stepL 6 p n good bs ls = [116, 105, 99, 107, 32] ++ N) := ⟨by simp [stepL, HP.out, HN.out, HY.out, HH.out, HL.out]⟩
      have c0 := HC0.out
      have c1 := HC1.out
      have c2 := HC2.out
      have c3 := HC3.out
      have c4 := HC4.out
      have c5 := HC5.out
      go_wp2_with (first | (go_at_call 24; (with_reducible refine (qnum_any n HNB.out.1 HNB.out.2 _).mono ?_); rintro e w9 ⟨he, hb⟩; simp only [HN.out, str] at he; subst he; have HB9 := As.mk (HW0.out.trans (hb.mono HW0.out.size)); clear hb) | ((with_reducible refine wpList_catTo ?hgd (.const (.string ⟨#[116, 105, 99, 107, 32]⟩)) (.tmp 60) rfl (116 :: 105 :: 99 :: 107 :: [32]) N (116 :: 105 :: 99 :: 107 :: 32 :: N) ?hz ?hx ?hy ?hl ?_); (case hgd => exact rfl); (case hz => simp); (case hx => exact rfl); (case hy => exact rfl); (case hl => have hp := HPL.out; have hn := HNL.out; have hy := HYL.out; have hh := HHL.out; have hl := HLL.out; simp only [List.length_append, List.length_cons, List.length_nil]; omega)))
      go_ret
      rw [HT.out]
      exact ⟨by simp [str], HB9.out⟩
    · subst hk7
      have HT : As (stepL 7 p n good bs ls = [98, 108, 111, 99, 107, 32] ++ Y ++ [32] ++ H) := ⟨by simp [stepL, HP.out, HN.out, HY.out, HH.out, HL.out]⟩
      have c0 := HC0.out
      have c1 := HC1.out
      have c2 := HC2.out
      have c3 := HC3.out
      have c4 := HC4.out
      have c5 := HC5.out
      go_upto_region 16 with fail
      clear c0 c1 c2 c3 c4 c5
      refine wp_region_held_drew (S := (fun V : World => Below W1.heap.size W1 V)) (by kernel_rfl) ?_ (fun hHeld => ?_)
      · exact below_dr W1
      refine wpAnyH_take (i := 0) (oi := ?_) (v := ?_) (by simp only [List.getElem?_toArray, List.getElem?_cons_zero, List.getElem?_cons_succ]; rfl) (by kernel_rfl) (by kernel_rfl) (by kernel_rfl) (by exact fun _ _ _ h => h) (Or.inl ⟨by rfl, ?_⟩) (by assumption) ?_
      rotate_left
      · (intro w hSw; (try dsimp only at hSw); have c1 := cell_below hSw HC1.out; have c2 := cell_below hSw HC2.out; have c3 := cell_below hSw HC3.out; have c4 := cell_below hSw HC4.out; have c5 := cell_below hSw HC5.out; go_simp; first | done | with_reducible rfl)
      try simp only [Act.put, List.setIfInBounds_toArray, List.set_cons_zero, List.set_cons_succ]
      refine wpAnyH_take (i := 1) (oi := ?_) (v := ?_) (by simp only [List.getElem?_toArray, List.getElem?_cons_zero, List.getElem?_cons_succ]; rfl) (by kernel_rfl) (by kernel_rfl) (by kernel_rfl) (by exact fun _ _ _ h => h) (Or.inl ⟨by rfl, ?_⟩) (by assumption) ?_
      rotate_left
      · (intro w hSw; (try dsimp only at hSw); have c1 := cell_below hSw HC1.out; have c2 := cell_below hSw HC2.out; have c3 := cell_below hSw HC3.out; have c4 := cell_below hSw HC4.out; have c5 := cell_below hSw HC5.out; go_simp; first | done | with_reducible rfl)
      try simp only [Act.put, List.setIfInBounds_toArray, List.set_cons_zero, List.set_cons_succ]
      refine wpAnyH_take (i := 4) (oi := ?_) (v := ?_) (by simp only [List.getElem?_toArray, List.getElem?_cons_zero, List.getElem?_cons_succ]; rfl) (by kernel_rfl) (by kernel_rfl) (by kernel_rfl) (by exact fun _ _ _ h => h) (Or.inl ⟨by rfl, ?_⟩) (by assumption) ?_
      rotate_left
      · (intro w hSw; (try dsimp only at hSw); have c1 := cell_below hSw HC1.out; have c2 := cell_below hSw HC2.out; have c3 := cell_below hSw HC3.out; have c4 := cell_below hSw HC4.out; have c5 := cell_below hSw HC5.out; go_simp; first | done | with_reducible rfl)
      try simp only [Act.put, List.setIfInBounds_toArray, List.set_cons_zero, List.set_cons_succ]
      refine wpAnyH_take (i := 5) (oi := ?_) (v := ?_) (by simp only [List.getElem?_toArray, List.getElem?_cons_zero, List.getElem?_cons_succ]; rfl) (by kernel_rfl) (by kernel_rfl) (by kernel_rfl) (by exact fun _ _ _ h => h) (Or.inl ⟨by rfl, ?_⟩) (by assumption) ?_
      rotate_left
      · (intro w hSw; (try dsimp only at hSw); have c1 := cell_below hSw HC1.out; have c2 := cell_below hSw HC2.out; have c3 := cell_below hSw HC3.out; have c4 := cell_below hSw HC4.out; have c5 := cell_below hSw HC5.out; go_simp; first | done | with_reducible rfl)
      try simp only [Act.put, List.setIfInBounds_toArray, List.set_cons_zero, List.set_cons_succ]
      refine wpAnyH_ready (rs := [2]) (by kernel_rfl) (by simp) ?_
      refine AllReadyH.cons (o := ?_) (by simp only [List.getElem?_toArray, List.getElem?_cons_zero, List.getElem?_cons_succ]; rfl) (fun K hK => ?_) ?_
      · go_simp
        (with_reducible refine (qgood_to HY.out _).mono ?_)
        rintro e w22 ⟨he, hb⟩
        simp only [HY.out, str] at he
        subst he hb
        have hS2 := hHeld
        dsimp only
        refine hK.out _ _ ?_ (fun hHeld2 => ?_)
        · exact hS2
        clear hK K hHeld
        have hHeld := hHeld2
        clear hHeld2
        try simp only [Act.put, List.setIfInBounds_toArray, List.set_cons_zero, List.set_cons_succ]
        refine wpAnyH_take (i := 3) (oi := ?_) (v := ?_) (by simp only [List.getElem?_toArray, List.getElem?_cons_zero, List.getElem?_cons_succ]; rfl) (by kernel_rfl) (by kernel_rfl) (by kernel_rfl) (by exact fun _ _ _ h => h) (Or.inl ⟨by rfl, ?_⟩) (by assumption) ?_
        rotate_left
        · (intro w2 hw2; refine exec_catTo (.const (.string ⟨#[98, 108, 111, 99, 107]⟩)) (.tmp 66) ?_ (98 :: 108 :: 111 :: 99 :: [107]) (32 :: (Y ++ [32])) (98 :: 108 :: 111 :: 99 :: 107 :: 32 :: (Y ++ [32])) ?_ ?_ ?_ ?_; rfl; simp; rfl; rfl; (have hp := HPL.out; have hn := HNL.out; have hy := HYL.out; have hh := HHL.out; have hl := HLL.out; simp only [List.length_append, List.length_cons, List.length_nil]; omega))
        try simp only [Act.put, List.setIfInBounds_toArray, List.set_cons_zero, List.set_cons_succ]
        refine wpAnyH_ready (rs := [6]) (by kernel_rfl) (by simp) ?_
        refine AllReadyH.cons (o := ?_) (by simp only [List.getElem?_toArray, List.getElem?_cons_zero, List.getElem?_cons_succ]; rfl) (fun K hK => ?_) ?_
        · go_simp
          (with_reducible refine (qhex_any _ bs _ (HRB.out.below hHeld) HBL.out).mono ?_)
          rintro e w26 ⟨he, hb⟩
          simp only [HH.out, str] at he
          subst he
          have hS2 := hHeld.trans (hb.mono hHeld.size)
          clear hb
          dsimp only
          refine hK.out _ _ ?_ (fun hHeld2 => ?_)
          · exact hS2
          clear hK K hHeld
          have hHeld := hHeld2
          clear hHeld2
          try simp only [Act.put, List.setIfInBounds_toArray, List.set_cons_zero, List.set_cons_succ]
          refine wpAnyH_take (i := 7) (oi := ?_) (v := ?_) (by simp only [List.getElem?_toArray, List.getElem?_cons_zero, List.getElem?_cons_succ]; rfl) (by kernel_rfl) (by kernel_rfl) (by kernel_rfl) (by exact fun _ _ _ h => h) (Or.inl ⟨by rfl, ?_⟩) (by assumption) ?_
          rotate_left
          · (intro w2 hw2; refine exec_catTo (.tmp 67) (.tmp 70) ?_ (98 :: 108 :: 111 :: 99 :: 107 :: 32 :: (Y ++ [32])) H (98 :: 108 :: 111 :: 99 :: 107 :: 32 :: (Y ++ (32 :: H))) ?_ ?_ ?_ ?_; rfl; simp; rfl; rfl; (have hp := HPL.out; have hn := HNL.out; have hy := HYL.out; have hh := HHL.out; have hl := HLL.out; simp only [List.length_append, List.length_cons, List.length_nil]; omega))
          try simp only [Act.put, List.setIfInBounds_toArray, List.set_cons_zero, List.set_cons_succ]
          refine wpAnyH_take (i := 8) (oi := ?_) (v := ?_) (by simp only [List.getElem?_toArray, List.getElem?_cons_zero, List.getElem?_cons_succ]; rfl) (by kernel_rfl) (by kernel_rfl) (by kernel_rfl) (by exact fun _ _ _ h => h) (Or.inl ⟨by rfl, ?_⟩) (by assumption) ?_
          rotate_left
          · (intro w hSw; (try dsimp only at hSw); have c1 := cell_below hSw HC1.out; have c2 := cell_below hSw HC2.out; have c3 := cell_below hSw HC3.out; have c4 := cell_below hSw HC4.out; have c5 := cell_below hSw HC5.out; go_simp; first | done | with_reducible rfl)
          try simp only [Act.put, List.setIfInBounds_toArray, List.set_cons_zero, List.set_cons_succ]
          refine wpAnyH_done (by kernel_rfl) ?_ _
          have HW := As.mk hHeld
          clear hHeld
          go_wp2
          go_ret
          rw [HT.out]
          exact ⟨by simp [str], HW0.out.trans (HW.out.mono HW0.out.size)⟩
        exact AllReadyH.nil
      exact AllReadyH.nil
    · subst hk8
      have HT : As (stepL 8 p n good bs ls = [98, 97, 99, 107]) := ⟨by simp [stepL, HP.out, HN.out, HY.out, HH.out, HL.out]⟩
      have c0 := HC0.out
      have c1 := HC1.out
      have c2 := HC2.out
      have c3 := HC3.out
      have c4 := HC4.out
      have c5 := HC5.out
      go_wp2
      go_ret
      rw [HT.out]
      exact ⟨by simp [str], HW0.out⟩
    · subst hk9
      have HT : As (stepL 9 p n good bs ls = [119, 111, 114, 107, 32] ++ N) := ⟨by simp [stepL, HP.out, HN.out, HY.out, HH.out, HL.out]⟩
      have c0 := HC0.out
      have c1 := HC1.out
      have c2 := HC2.out
      have c3 := HC3.out
      have c4 := HC4.out
      have c5 := HC5.out
      go_wp2_with (first | (go_at_call 24; (with_reducible refine (qnum_any n HNB.out.1 HNB.out.2 _).mono ?_); rintro e w9 ⟨he, hb⟩; simp only [HN.out, str] at he; subst he; have HB9 := As.mk (HW0.out.trans (hb.mono HW0.out.size)); clear hb) | ((with_reducible refine wpList_catTo ?hgd (.const (.string ⟨#[119, 111, 114, 107, 32]⟩)) (.tmp 78) rfl (119 :: 111 :: 114 :: 107 :: [32]) N (119 :: 111 :: 114 :: 107 :: 32 :: N) ?hz ?hx ?hy ?hl ?_); (case hgd => exact rfl); (case hz => simp); (case hx => exact rfl); (case hy => exact rfl); (case hl => have hp := HPL.out; have hn := HNL.out; have hy := HYL.out; have hh := HHL.out; have hl := HLL.out; simp only [List.length_append, List.length_cons, List.length_nil]; omega)))
      go_ret
      rw [HT.out]
      exact ⟨by simp [str], HB9.out⟩
  · have HT : As (stepL k p n good bs ls = []) := ⟨by unfold stepL; rw [if_neg (by omega)]; rw [if_neg (by omega)]; rw [if_neg (by omega)]; rw [if_neg (by omega)]; rw [if_neg (by omega)]; rw [if_neg (by omega)]; rw [if_neg (by omega)]; rw [if_neg (by omega)]; rw [if_neg (by omega)]⟩
    have c0 := HC0.out
    by_cases hlo : k < 1
    · clear hkn hk
      go_wp2
      go_ret
      rw [HT.out]
      exact ⟨rfl, HW0.out⟩
    · have hhi : 10 ≤ k := by omega
      clear hkn hk
      go_wp2
      go_ret
      rw [HT.out]
      exact ⟨rfl, HW0.out⟩
end Go.Proofs.YtodcbcpjlhlakaaDoor.W
