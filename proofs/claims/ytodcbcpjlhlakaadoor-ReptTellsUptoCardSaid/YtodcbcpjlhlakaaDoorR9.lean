/- What is told: the document's Say. -/
import Derived.Test.YtodcbcpjlhlakaaDoorR8
set_option linter.unusedVariables false
set_option linter.unusedSimpArgs false
namespace Go.Proofs.YtodcbcpjlhlakaaDoor.W
open Go.RowKit Go.Proofs.YtodcbcpjlhlakaaDoor.B Go.Proofs

set_option maxHeartbeats 8000000 in
set_option maxRecDepth 100000 in
theorem qsay_any (k p c : Int) (x : List UInt8) (iv : Value) (ids : List (List UInt8)) (n : Nat) (w : World) (hx : x.length = 32) (hr : RdN w iv ids) (hl : ids.length ≤ 2000000) (hn : n < 18446744073709551616)
    (hk : -9223372036854775808 ≤ k ∧ k ≤ 9223372036854775807) (hp : -9223372036854775808 ≤ p ∧ p ≤ 9223372036854775807) (hc : -9223372036854775808 ≤ c ∧ c ≤ 9223372036854775807) (he : Env w) :
    Calls Tryd.prog 11 #[.agg (sayC k p c (x.map u8v) iv n).toArray] w fun e w' => e = .returned (str (sayL k p c x ids n)) ∧ Below w.heap.size w w' := by
  obtain ⟨cs, hcs⟩ : ∃ cs, cs = x.map u8v := ⟨_, rfl⟩
  rw [← hcs]
  have HCS := As.mk (And.intro hcs hx)
  have HCL : As (cs.length = 32) := ⟨by rw [hcs, List.length_map]; exact hx⟩
  obtain ⟨A, ci, rfl, -⟩ := hr.form
  obtain ⟨P, hP⟩ : ∃ P, Lib.itoa p = P := ⟨_, rfl⟩
  obtain ⟨C, hC⟩ : ∃ P, Lib.itoa c = P := ⟨_, rfl⟩
  obtain ⟨I, hI⟩ : ∃ P, idL x = P := ⟨_, rfl⟩
  obtain ⟨J, hJ⟩ : ∃ P, joinL (ids.map idL) = P := ⟨_, rfl⟩
  obtain ⟨N, hN⟩ : ∃ P, Lib.decDigits n = P := ⟨_, rfl⟩
  have HP := As.mk hP
  have HC := As.mk hC
  have HI := As.mk hI
  have HJ := As.mk hJ
  have HN := As.mk hN
  have HPL : As (P.length ≤ 21) := ⟨by rw [← hP]; exact itoa_short p (by omega) (by omega)⟩
  have HCLN : As (C.length ≤ 21) := ⟨by rw [← hC]; exact itoa_short c (by omega) (by omega)⟩
  have HIL : As (I.length ≤ 8) := ⟨by rw [← hI]; exact idL_short x⟩
  have HJL : As (J.length ≤ 20000000) := ⟨by
    rw [← hJ]
    unfold joinL
    split
    · decide
    · have := join_short 8 idL_short ids; omega⟩
  have HNL : As (N.length ≤ 20) := ⟨by rw [← hN, Lib.decDigits_length]; exact nDigits_20 n hn⟩
  have HIL2 := As.mk hl
  have HN64 := As.mk hn
  have HPB := As.mk hp
  have HCB := As.mk hc
  obtain ⟨W1, hW1⟩ : ∃ W, W = w.alloc (.cells (sayC k p c cs (.slice A ids.length ci) n).toArray 26) := ⟨_, rfl⟩
  have hb1 : Below w.heap.size w W1 := by rw [hW1]; exact below_al _ _
  have HENV := As.mk (he.below hb1)
  have HW0 := As.mk hb1
  have HRI := As.mk (hr.below hb1)
  obtain ⟨i35, i36, irg⟩ := idx5 (a := .int .i64 k) (b := .int .i64 p) (c := .int .i64 c) (iv := .slice A ids.length ci) (nv := .int .u64 (n : Int)) HCL.out
  have HC0 : As (W1.cell? ⟨w.heap.size, 0, none⟩ = some (.int .i64 k)) := ⟨by rw [hW1]; exact new_at _ _ _ _ _ rfl⟩
  have HC1 : As (W1.cell? ⟨w.heap.size, 1, none⟩ = some (.int .i64 p)) := ⟨by rw [hW1]; exact new_at _ _ _ _ _ rfl⟩
  have HC2 : As (W1.cell? ⟨w.heap.size, 2, none⟩ = some (.int .i64 c)) := ⟨by rw [hW1]; exact new_at _ _ _ _ _ rfl⟩
  have HC35 : As (W1.cell? ⟨w.heap.size, 35, none⟩ = some (.slice A ids.length ci)) := ⟨by rw [hW1]; exact new_at _ _ _ _ _ i35⟩
  have HC36 : As (W1.cell? ⟨w.heap.size, 36, none⟩ = some (.int .u64 (n : Int))) := ⟨by rw [hW1]; exact new_at _ _ _ _ _ i36⟩
  have HRG : As (W1.rangeAt w.heap.size 3 cs) := ⟨by rw [hW1]; exact fun j v hv => new_at _ _ _ _ _ (irg j v hv)⟩
  obtain ⟨tt, htt⟩ : ∃ tt, tt = (sayC k p c cs (.slice A ids.length ci) n).toArray := ⟨_, rfl⟩
  rw [← htt] at hW1 ⊢
  have hsz : tt.size = 37 := by rw [htt]; simp [sayC, HCL.out]
  clear hP hC hI hJ hN hx hr hl hn hp hc he hb1 i35 i36 irg hcs htt
  go_enter Tryd.func11, Tryd.ntmps11
  go_upto_region 1 with fail
  rw [← hW1]
  obtain ⟨G, hG⟩ : ∃ G, G = w.heap.size := ⟨_, rfl⟩
  rw [← hG] at HC0 HC1 HC2 HC35 HC36 HRG ⊢
  clear hW1 hG hsz
  go_cut [3, 4] (fun v3 v4 wc => v3 = .string ⟨P.toArray⟩ ∧ v4 = .string ⟨C.toArray⟩ ∧ As (Below W1.heap.size W1 wc))
  case first =>
    refine wp_region_held_drew (S := (fun V : World => Below W1.heap.size W1 V)) (by kernel_rfl) ?_ (fun hHeld => ?_)
    · exact below_dr W1
    refine wpAnyH_take (i := 0) (oi := ?_) (v := ?_) (by simp only [List.getElem?_toArray, List.getElem?_cons_zero, List.getElem?_cons_succ]; rfl) (by kernel_rfl) (by kernel_rfl) (by kernel_rfl) (by exact fun _ _ _ h => h) (Or.inl ⟨by rfl, ?_⟩) (by assumption) ?_
    rotate_left
    · (intro w hSw; (try dsimp only at hSw); have c1 := cell_below hSw HC1.out; have c2 := cell_below hSw HC2.out; go_simp; first | done | with_reducible rfl)
    try simp only [Act.put, List.setIfInBounds_toArray, List.set_cons_zero, List.set_cons_succ]
    refine wpAnyH_take (i := 1) (oi := ?_) (v := ?_) (by simp only [List.getElem?_toArray, List.getElem?_cons_zero, List.getElem?_cons_succ]; rfl) (by kernel_rfl) (by kernel_rfl) (by kernel_rfl) (by exact fun _ _ _ h => h) (Or.inl ⟨by rfl, ?_⟩) (by assumption) ?_
    rotate_left
    · (intro w hSw; (try dsimp only at hSw); have c1 := cell_below hSw HC1.out; have c2 := cell_below hSw HC2.out; go_simp; first | done | with_reducible rfl)
    try simp only [Act.put, List.setIfInBounds_toArray, List.set_cons_zero, List.set_cons_succ]
    refine wpAnyH_take (i := 3) (oi := ?_) (v := ?_) (by simp only [List.getElem?_toArray, List.getElem?_cons_zero, List.getElem?_cons_succ]; rfl) (by kernel_rfl) (by kernel_rfl) (by kernel_rfl) (by exact fun _ _ _ h => h) (Or.inl ⟨by rfl, ?_⟩) (by assumption) ?_
    rotate_left
    · (intro w hSw; (try dsimp only at hSw); have c1 := cell_below hSw HC1.out; have c2 := cell_below hSw HC2.out; go_simp; first | done | with_reducible rfl)
    try simp only [Act.put, List.setIfInBounds_toArray, List.set_cons_zero, List.set_cons_succ]
    refine wpAnyH_take (i := 4) (oi := ?_) (v := ?_) (by simp only [List.getElem?_toArray, List.getElem?_cons_zero, List.getElem?_cons_succ]; rfl) (by kernel_rfl) (by kernel_rfl) (by kernel_rfl) (by exact fun _ _ _ h => h) (Or.inl ⟨by rfl, ?_⟩) (by assumption) ?_
    rotate_left
    · (intro w hSw; (try dsimp only at hSw); have c1 := cell_below hSw HC1.out; have c2 := cell_below hSw HC2.out; go_simp; first | done | with_reducible rfl)
    try simp only [Act.put, List.setIfInBounds_toArray, List.set_cons_zero, List.set_cons_succ]
    refine wpAnyH_ready (rs := [2]) (by kernel_rfl) (by simp) ?_
    refine AllReadyH.cons (o := ?_) (by simp only [List.getElem?_toArray, List.getElem?_cons_zero, List.getElem?_cons_succ]; rfl) (fun K hK => ?_) ?_
    · go_simp
      (with_reducible refine (qnum_any p HPB.out.1 HPB.out.2 _).mono ?_)
      rintro e w4 ⟨he, hb⟩
      simp only [HP.out, str] at he
      subst he
      have hS2 := hHeld.trans (hb.mono hHeld.size)
      clear hb
      dsimp only
      refine hK.out _ _ ?_ (fun hHeld2 => ?_)
      · exact hS2
      clear hK K hHeld
      have hHeld := hHeld2
      clear hHeld2
      try simp only [Act.put, List.setIfInBounds_toArray, List.set_cons_zero, List.set_cons_succ]
      refine wpAnyH_ready (rs := [5]) (by kernel_rfl) (by simp) ?_
      refine AllReadyH.cons (o := ?_) (by simp only [List.getElem?_toArray, List.getElem?_cons_zero, List.getElem?_cons_succ]; rfl) (fun K hK => ?_) ?_
      · go_simp
        (with_reducible refine (qnum_any c HCB.out.1 HCB.out.2 _).mono ?_)
        rintro e w5 ⟨he, hb⟩
        simp only [HC.out, str] at he
        subst he
        have hS2 := hHeld.trans (hb.mono hHeld.size)
        clear hb
        dsimp only
        refine hK.out _ _ ?_ (fun hHeld2 => ?_)
        · exact hS2
        clear hK K hHeld
        have hHeld := hHeld2
        clear hHeld2
        try simp only [Act.put, List.setIfInBounds_toArray, List.set_cons_zero, List.set_cons_succ]
        refine wpAnyH_take (i := 6) (oi := ?_) (v := ?_) (by simp only [List.getElem?_toArray, List.getElem?_cons_zero, List.getElem?_cons_succ]; rfl) (by kernel_rfl) (by kernel_rfl) (by kernel_rfl) (by exact fun _ _ _ h => h) (Or.inl ⟨by rfl, ?_⟩) (by assumption) ?_
        rotate_left
        · (intro w hSw; (try dsimp only at hSw); have c1 := cell_below hSw HC1.out; have c2 := cell_below hSw HC2.out; go_simp; first | done | with_reducible rfl)
        try simp only [Act.put, List.setIfInBounds_toArray, List.set_cons_zero, List.set_cons_succ]
        refine wpAnyH_take (i := 7) (oi := ?_) (v := ?_) (by simp only [List.getElem?_toArray, List.getElem?_cons_zero, List.getElem?_cons_succ]; rfl) (by kernel_rfl) (by kernel_rfl) (by kernel_rfl) (by exact fun _ _ _ h => h) (Or.inl ⟨by rfl, ?_⟩) (by assumption) ?_
        rotate_left
        · (intro w hSw; (try dsimp only at hSw); have c1 := cell_below hSw HC1.out; have c2 := cell_below hSw HC2.out; go_simp; first | done | with_reducible rfl)
        try simp only [Act.put, List.setIfInBounds_toArray, List.set_cons_zero, List.set_cons_succ]
        refine wpAnyH_done (by kernel_rfl) ?_ _
        have HW := As.mk hHeld
        clear hHeld
        go_wp2
        go_meet
        exact ⟨rfl, rfl, HW⟩
      exact AllReadyH.nil
    exact AllReadyH.nil
  case rest =>
    obtain ⟨rfl, rfl, HBC⟩ := hcut
    have HW02 := As.mk (HW0.out.trans (HBC.out.mono HW0.out.size))
    have HENV2 := As.mk (HENV.out.below HBC.out)
    have HRI2 := As.mk (HRI.out.below HBC.out)
    have HC02 := As.mk (cell_below HBC.out HC0.out)
    have HC12 := As.mk (cell_below HBC.out HC1.out)
    have HC22 := As.mk (cell_below HBC.out HC2.out)
    have HC352 := As.mk (cell_below HBC.out HC35.out)
    have HC362 := As.mk (cell_below HBC.out HC36.out)
    have HRG2 := As.mk (rangeAt_below HRG.out HBC.out)
    clear HW0 HENV HRI HC0 HC1 HC2 HC35 HC36 HRG HBC
    have HW0 := HW02
    have HENV := HENV2
    have HRI := HRI2
    have HC0 := HC02
    have HC1 := HC12
    have HC2 := HC22
    have HC35 := HC352
    have HC36 := HC362
    have HRG := HRG2
    clear HW02 HENV2 HRI2 HC02 HC12 HC22 HC352 HC362 HRG2
    obtain ⟨W1, hWW⟩ : ∃ W, W = wc := ⟨_, rfl⟩
    rw [← hWW] at HW0 HENV HRI HC0 HC1 HC2 HC35 HC36 HRG ⊢
    clear hWW
    rcases Classical.em (k = 1 ∨ k = 2 ∨ k = 3 ∨ k = 4 ∨ k = 5 ∨ k = 6 ∨ k = 7 ∨ k = 8 ∨ k = 9 ∨ k = 10) with hk1 | hkn
    · rcases hk1 with hk1 | hk2 | hk3 | hk4 | hk5 | hk6 | hk7 | hk8 | hk9 | hk10
      · subst hk1
        have HT : As (sayL 1 p c x ids n = [116, 111, 111, 107, 32] ++ P ++ [32] ++ I ++ [32] ++ J) := ⟨by simp [sayL, HP.out, HC.out, HI.out, HJ.out, HN.out]⟩
        have c0 := HC0.out
        go_upto_region 4 with fail
        clear c0
        refine wp_region_held_drew (S := (fun V : World => Below W1.heap.size W1 V)) (by kernel_rfl) ?_ (fun hHeld => ?_)
        · exact below_dr W1
        refine wpAnyH_take (i := 0) (oi := ?_) (v := ?_) (by simp only [List.getElem?_toArray, List.getElem?_cons_zero, List.getElem?_cons_succ]; rfl) (by kernel_rfl) (by kernel_rfl) (by kernel_rfl) (by exact fun _ _ _ h => h) (Or.inl ⟨by rfl, ?_⟩) (by assumption) ?_
        rotate_left
        · (intro w hSw; (try dsimp only at hSw); have c0 := cell_below hSw HC0.out; have c1 := cell_below hSw HC1.out; have c2 := cell_below hSw HC2.out; have c35 := cell_below hSw HC35.out; have c36 := cell_below hSw HC36.out; go_simp; first | done | with_reducible rfl)
        try simp only [Act.put, List.setIfInBounds_toArray, List.set_cons_zero, List.set_cons_succ]
        refine wpAnyH_take (i := 1) (oi := ?_) (v := ?_) (by simp only [List.getElem?_toArray, List.getElem?_cons_zero, List.getElem?_cons_succ]; rfl) (by kernel_rfl) (by kernel_rfl) (by kernel_rfl) (by exact fun _ _ _ h => h) (Or.inl ⟨by rfl, ?_⟩) (by assumption) ?_
        rotate_left
        · (intro w2 hw2; refine exec_catTo (.const (.string ⟨#[116, 111, 111, 107, 32]⟩)) (.tmp 15) ?_ (116 :: 111 :: 111 :: 107 :: [32]) P (116 :: 111 :: 111 :: 107 :: 32 :: P) ?_ ?_ ?_ ?_; rfl; simp; rfl; rfl; (have hp := HPL.out; have hc := HCLN.out; have hi := HIL.out; have hj := HJL.out; have hn := HNL.out; simp only [List.length_append, List.length_cons, List.length_nil]; omega))
        try simp only [Act.put, List.setIfInBounds_toArray, List.set_cons_zero, List.set_cons_succ]
        refine wpAnyH_take (i := 2) (oi := ?_) (v := ?_) (by simp only [List.getElem?_toArray, List.getElem?_cons_zero, List.getElem?_cons_succ]; rfl) (by kernel_rfl) (by kernel_rfl) (by kernel_rfl) (by exact fun _ _ _ h => h) (Or.inl ⟨by rfl, ?_⟩) (by assumption) ?_
        rotate_left
        · (intro w2 hw2; refine exec_catTo (.tmp 16) (.const (.string ⟨#[32]⟩)) ?_ (116 :: 111 :: 111 :: 107 :: 32 :: P) [32] (116 :: 111 :: 111 :: 107 :: 32 :: (P ++ [32])) ?_ ?_ ?_ ?_; rfl; simp; rfl; rfl; (have hp := HPL.out; have hc := HCLN.out; have hi := HIL.out; have hj := HJL.out; have hn := HNL.out; simp only [List.length_append, List.length_cons, List.length_nil]; omega))
        try simp only [Act.put, List.setIfInBounds_toArray, List.set_cons_zero, List.set_cons_succ]
        refine wpAnyH_take (i := 3) (oi := ?_) (v := ?_) (by simp only [List.getElem?_toArray, List.getElem?_cons_zero, List.getElem?_cons_succ]; rfl) (by kernel_rfl) (by kernel_rfl) (by kernel_rfl) (by exact fun _ _ _ h => h) (Or.inl ⟨by rfl, ?_⟩) (by assumption) ?_
        rotate_left
        · (intro w hSw; (try dsimp only at hSw); have c0 := cell_below hSw HC0.out; have c1 := cell_below hSw HC1.out; have c2 := cell_below hSw HC2.out; have c35 := cell_below hSw HC35.out; have c36 := cell_below hSw HC36.out; go_simp; first | done | with_reducible rfl)
        try simp only [Act.put, List.setIfInBounds_toArray, List.set_cons_zero, List.set_cons_succ]
        refine wpAnyH_take (i := 4) (oi := ?_) (v := ?_) (by simp only [List.getElem?_toArray, List.getElem?_cons_zero, List.getElem?_cons_succ]; rfl) (by kernel_rfl) (by kernel_rfl) (by kernel_rfl) (by exact fun _ _ _ h => h) (Or.inl ⟨by rfl, ?_⟩) (by assumption) ?_
        rotate_left
        · (intro w2 hw2; refine exec_load_mid 22 (.tmp 18) ?_ G 3 ?_ cs _ ?_ Tryd.underlying22 rfl ?_; rfl; rfl; exact rangeAt_below HRG.out hw2; (rw [HCL.out]; kernel_rfl))
        try simp only [Act.put, List.setIfInBounds_toArray, List.set_cons_zero, List.set_cons_succ]
        refine wpAnyH_take (i := 8) (oi := ?_) (v := ?_) (by simp only [List.getElem?_toArray, List.getElem?_cons_zero, List.getElem?_cons_succ]; rfl) (by kernel_rfl) (by kernel_rfl) (by kernel_rfl) (by exact fun _ _ _ h => h) (Or.inl ⟨by rfl, ?_⟩) (by assumption) ?_
        rotate_left
        · (intro w hSw; (try dsimp only at hSw); have c0 := cell_below hSw HC0.out; have c1 := cell_below hSw HC1.out; have c2 := cell_below hSw HC2.out; have c35 := cell_below hSw HC35.out; have c36 := cell_below hSw HC36.out; go_simp; first | done | with_reducible rfl)
        try simp only [Act.put, List.setIfInBounds_toArray, List.set_cons_zero, List.set_cons_succ]
        refine wpAnyH_take (i := 9) (oi := ?_) (v := ?_) (by simp only [List.getElem?_toArray, List.getElem?_cons_zero, List.getElem?_cons_succ]; rfl) (by kernel_rfl) (by kernel_rfl) (by kernel_rfl) (by exact fun _ _ _ h => h) (Or.inl ⟨by rfl, ?_⟩) (by assumption) ?_
        rotate_left
        · (intro w hSw; (try dsimp only at hSw); have c0 := cell_below hSw HC0.out; have c1 := cell_below hSw HC1.out; have c2 := cell_below hSw HC2.out; have c35 := cell_below hSw HC35.out; have c36 := cell_below hSw HC36.out; go_simp; first | done | with_reducible rfl)
        try simp only [Act.put, List.setIfInBounds_toArray, List.set_cons_zero, List.set_cons_succ]
        refine wpAnyH_ready (rs := [5]) (by kernel_rfl) (by simp) ?_
        refine AllReadyH.cons (o := ?_) (by simp only [List.getElem?_toArray, List.getElem?_cons_zero, List.getElem?_cons_succ]; rfl) (fun K hK => ?_) ?_
        · go_simp
          (with_reducible refine (qid_as cs x HCS.out.1 HCS.out.2 _).mono ?_)
          rintro e w25 ⟨he, hb⟩
          simp only [HI.out, str] at he
          subst he
          have hS2 := hHeld.trans (hb.mono hHeld.size)
          clear hb
          dsimp only
          refine hK.out _ _ ?_ (fun hHeld2 => ?_)
          · exact hS2
          clear hK K hHeld
          have hHeld := hHeld2
          clear hHeld2
          try simp only [Act.put, List.setIfInBounds_toArray, List.set_cons_zero, List.set_cons_succ]
          refine wpAnyH_take (i := 6) (oi := ?_) (v := ?_) (by simp only [List.getElem?_toArray, List.getElem?_cons_zero, List.getElem?_cons_succ]; rfl) (by kernel_rfl) (by kernel_rfl) (by kernel_rfl) (by exact fun _ _ _ h => h) (Or.inl ⟨by rfl, ?_⟩) (by assumption) ?_
          rotate_left
          · (intro w2 hw2; refine exec_catTo (.tmp 17) (.tmp 20) ?_ (116 :: 111 :: 111 :: 107 :: 32 :: (P ++ [32])) I (116 :: 111 :: 111 :: 107 :: 32 :: (P ++ (32 :: I))) ?_ ?_ ?_ ?_; rfl; simp; rfl; rfl; (have hp := HPL.out; have hc := HCLN.out; have hi := HIL.out; have hj := HJL.out; have hn := HNL.out; simp only [List.length_append, List.length_cons, List.length_nil]; omega))
          try simp only [Act.put, List.setIfInBounds_toArray, List.set_cons_zero, List.set_cons_succ]
          refine wpAnyH_take (i := 7) (oi := ?_) (v := ?_) (by simp only [List.getElem?_toArray, List.getElem?_cons_zero, List.getElem?_cons_succ]; rfl) (by kernel_rfl) (by kernel_rfl) (by kernel_rfl) (by exact fun _ _ _ h => h) (Or.inl ⟨by rfl, ?_⟩) (by assumption) ?_
          rotate_left
          · (intro w2 hw2; refine exec_catTo (.tmp 21) (.const (.string ⟨#[32]⟩)) ?_ (116 :: 111 :: 111 :: 107 :: 32 :: (P ++ (32 :: I))) [32] (116 :: 111 :: 111 :: 107 :: 32 :: (P ++ (32 :: (I ++ [32])))) ?_ ?_ ?_ ?_; rfl; simp; rfl; rfl; (have hp := HPL.out; have hc := HCLN.out; have hi := HIL.out; have hj := HJL.out; have hn := HNL.out; simp only [List.length_append, List.length_cons, List.length_nil]; omega))
          try simp only [Act.put, List.setIfInBounds_toArray, List.set_cons_zero, List.set_cons_succ]
          refine wpAnyH_ready (rs := [10]) (by kernel_rfl) (by simp) ?_
          refine AllReadyH.cons (o := ?_) (by simp only [List.getElem?_toArray, List.getElem?_cons_zero, List.getElem?_cons_succ]; rfl) (fun K hK => ?_) ?_
          · go_simp
            (with_reducible refine (qids_any _ ids _ (HRI.out.below hHeld) HIL2.out).mono ?_)
            rintro e w30 ⟨he, hb⟩
            simp only [HJ.out, str] at he
            subst he
            have hS2 := hHeld.trans (hb.mono hHeld.size)
            clear hb
            dsimp only
            refine hK.out _ _ ?_ (fun hHeld2 => ?_)
            · exact hS2
            clear hK K hHeld
            have hHeld := hHeld2
            clear hHeld2
            try simp only [Act.put, List.setIfInBounds_toArray, List.set_cons_zero, List.set_cons_succ]
            refine wpAnyH_take (i := 11) (oi := ?_) (v := ?_) (by simp only [List.getElem?_toArray, List.getElem?_cons_zero, List.getElem?_cons_succ]; rfl) (by kernel_rfl) (by kernel_rfl) (by kernel_rfl) (by exact fun _ _ _ h => h) (Or.inl ⟨by rfl, ?_⟩) (by assumption) ?_
            rotate_left
            · (intro w2 hw2; refine exec_catTo (.tmp 22) (.tmp 25) ?_ (116 :: 111 :: 111 :: 107 :: 32 :: (P ++ (32 :: (I ++ [32])))) J (116 :: 111 :: 111 :: 107 :: 32 :: (P ++ (32 :: (I ++ (32 :: J))))) ?_ ?_ ?_ ?_; rfl; simp; rfl; rfl; (have hp := HPL.out; have hc := HCLN.out; have hi := HIL.out; have hj := HJL.out; have hn := HNL.out; simp only [List.length_append, List.length_cons, List.length_nil]; omega))
            try simp only [Act.put, List.setIfInBounds_toArray, List.set_cons_zero, List.set_cons_succ]
            refine wpAnyH_take (i := 12) (oi := ?_) (v := ?_) (by simp only [List.getElem?_toArray, List.getElem?_cons_zero, List.getElem?_cons_succ]; rfl) (by kernel_rfl) (by kernel_rfl) (by kernel_rfl) (by exact fun _ _ _ h => h) (Or.inl ⟨by rfl, ?_⟩) (by assumption) ?_
            rotate_left
            · (intro w hSw; (try dsimp only at hSw); have c0 := cell_below hSw HC0.out; have c1 := cell_below hSw HC1.out; have c2 := cell_below hSw HC2.out; have c35 := cell_below hSw HC35.out; have c36 := cell_below hSw HC36.out; go_simp; first | done | with_reducible rfl)
            try simp only [Act.put, List.setIfInBounds_toArray, List.set_cons_zero, List.set_cons_succ]
            refine wpAnyH_done (by kernel_rfl) ?_ _
            have HW := As.mk hHeld
            clear hHeld
            go_wp2
            go_ret
            rw [HT.out]
            exact ⟨by simp [str], HW0.out.trans (HW.out.mono HW0.out.size)⟩
          exact AllReadyH.nil
        exact AllReadyH.nil
      · subst hk2
        have HT : As (sayL 2 p c x ids n = [114, 101, 102, 117, 115, 101, 100, 32] ++ P ++ [32] ++ C ++ [32] ++ I) := ⟨by simp [sayL, HP.out, HC.out, HI.out, HJ.out, HN.out]⟩
        have c0 := HC0.out
        have c1 := HC1.out
        have c2 := HC2.out
        have c35 := HC35.out
        have c36 := HC36.out
        go_wp2_with (first | ((with_reducible refine wpList_load_mid (op := ⟨_, .load 22 (.tmp 35), _, _, _, _⟩) ?hgd 22 (.tmp 35) rfl _ _ ?hx cs _ HRG.out Tryd.underlying22 rfl ?hi ?_); (case hgd => exact rfl); (case hx => exact rfl); (case hi => rw [HCL.out]; kernel_rfl)) | (go_at_call 27; (with_reducible refine (qid_as cs x HCS.out.1 HCS.out.2 _).mono ?_); rintro e w9 ⟨he, hb⟩; simp only [HI.out, str] at he; subst he; have HB9 := As.mk (HW0.out.trans (hb.mono HW0.out.size)); clear hb) | ((with_reducible refine wpList_catTo ?hgd (.const (.string ⟨#[114, 101, 102, 117, 115, 101, 100, 32]⟩)) (.tmp 29) rfl (114 :: 101 :: 102 :: 117 :: 115 :: 101 :: 100 :: [32]) P (114 :: 101 :: 102 :: 117 :: 115 :: 101 :: 100 :: 32 :: P) ?hz ?hx ?hy ?hl ?_); (case hgd => exact rfl); (case hz => simp); (case hx => exact rfl); (case hy => exact rfl); (case hl => have hp := HPL.out; have hc := HCLN.out; have hi := HIL.out; have hj := HJL.out; have hn := HNL.out; simp only [List.length_append, List.length_cons, List.length_nil]; omega)) | ((with_reducible refine wpList_catTo ?hgd (.tmp 30) (.const (.string ⟨#[32]⟩)) rfl (114 :: 101 :: 102 :: 117 :: 115 :: 101 :: 100 :: 32 :: P) [32] (114 :: 101 :: 102 :: 117 :: 115 :: 101 :: 100 :: 32 :: (P ++ [32])) ?hz ?hx ?hy ?hl ?_); (case hgd => exact rfl); (case hz => simp); (case hx => exact rfl); (case hy => exact rfl); (case hl => have hp := HPL.out; have hc := HCLN.out; have hi := HIL.out; have hj := HJL.out; have hn := HNL.out; simp only [List.length_append, List.length_cons, List.length_nil]; omega)) | ((with_reducible refine wpList_catTo ?hgd (.tmp 31) (.tmp 32) rfl (114 :: 101 :: 102 :: 117 :: 115 :: 101 :: 100 :: 32 :: (P ++ [32])) C (114 :: 101 :: 102 :: 117 :: 115 :: 101 :: 100 :: 32 :: (P ++ (32 :: C))) ?hz ?hx ?hy ?hl ?_); (case hgd => exact rfl); (case hz => simp); (case hx => exact rfl); (case hy => exact rfl); (case hl => have hp := HPL.out; have hc := HCLN.out; have hi := HIL.out; have hj := HJL.out; have hn := HNL.out; simp only [List.length_append, List.length_cons, List.length_nil]; omega)) | ((with_reducible refine wpList_catTo ?hgd (.tmp 33) (.const (.string ⟨#[32]⟩)) rfl (114 :: 101 :: 102 :: 117 :: 115 :: 101 :: 100 :: 32 :: (P ++ (32 :: C))) [32] (114 :: 101 :: 102 :: 117 :: 115 :: 101 :: 100 :: 32 :: (P ++ (32 :: (C ++ [32])))) ?hz ?hx ?hy ?hl ?_); (case hgd => exact rfl); (case hz => simp); (case hx => exact rfl); (case hy => exact rfl); (case hl => have hp := HPL.out; have hc := HCLN.out; have hi := HIL.out; have hj := HJL.out; have hn := HNL.out; simp only [List.length_append, List.length_cons, List.length_nil]; omega)) | ((with_reducible refine wpList_catTo ?hgd (.tmp 34) (.tmp 37) rfl (114 :: 101 :: 102 :: 117 :: 115 :: 101 :: 100 :: 32 :: (P ++ (32 :: (C ++ [32])))) I (114 :: 101 :: 102 :: 117 :: 115 :: 101 :: 100 :: 32 :: (P ++ (32 :: (C ++ (32 :: I))))) ?hz ?hx ?hy ?hl ?_); (case hgd => exact rfl); (case hz => simp); (case hx => exact rfl); (case hy => exact rfl); (case hl => have hp := HPL.out; have hc := HCLN.out; have hi := HIL.out; have hj := HJL.out; have hn := HNL.out; simp only [List.length_append, List.length_cons, List.length_nil]; omega)))
        go_ret
        rw [HT.out]
        exact ⟨by simp [str], HB9.out⟩
      · subst hk3
        have HT : As (sayL 3 p c x ids n = [97, 115, 107, 32] ++ P ++ [32] ++ I) := ⟨by simp [sayL, HP.out, HC.out, HI.out, HJ.out, HN.out]⟩
        have c0 := HC0.out
        have c1 := HC1.out
        have c2 := HC2.out
        have c35 := HC35.out
        have c36 := HC36.out
        go_wp2_with (first | ((with_reducible refine wpList_load_mid (op := ⟨_, .load 22 (.tmp 44), _, _, _, _⟩) ?hgd 22 (.tmp 44) rfl _ _ ?hx cs _ HRG.out Tryd.underlying22 rfl ?hi ?_); (case hgd => exact rfl); (case hx => exact rfl); (case hi => rw [HCL.out]; kernel_rfl)) | (go_at_call 27; (with_reducible refine (qid_as cs x HCS.out.1 HCS.out.2 _).mono ?_); rintro e w9 ⟨he, hb⟩; simp only [HI.out, str] at he; subst he; have HB9 := As.mk (HW0.out.trans (hb.mono HW0.out.size)); clear hb) | ((with_reducible refine wpList_catTo ?hgd (.const (.string ⟨#[97, 115, 107, 32]⟩)) (.tmp 41) rfl (97 :: 115 :: 107 :: [32]) P (97 :: 115 :: 107 :: 32 :: P) ?hz ?hx ?hy ?hl ?_); (case hgd => exact rfl); (case hz => simp); (case hx => exact rfl); (case hy => exact rfl); (case hl => have hp := HPL.out; have hc := HCLN.out; have hi := HIL.out; have hj := HJL.out; have hn := HNL.out; simp only [List.length_append, List.length_cons, List.length_nil]; omega)) | ((with_reducible refine wpList_catTo ?hgd (.tmp 42) (.const (.string ⟨#[32]⟩)) rfl (97 :: 115 :: 107 :: 32 :: P) [32] (97 :: 115 :: 107 :: 32 :: (P ++ [32])) ?hz ?hx ?hy ?hl ?_); (case hgd => exact rfl); (case hz => simp); (case hx => exact rfl); (case hy => exact rfl); (case hl => have hp := HPL.out; have hc := HCLN.out; have hi := HIL.out; have hj := HJL.out; have hn := HNL.out; simp only [List.length_append, List.length_cons, List.length_nil]; omega)) | ((with_reducible refine wpList_catTo ?hgd (.tmp 43) (.tmp 46) rfl (97 :: 115 :: 107 :: 32 :: (P ++ [32])) I (97 :: 115 :: 107 :: 32 :: (P ++ (32 :: I))) ?hz ?hx ?hy ?hl ?_); (case hgd => exact rfl); (case hz => simp); (case hx => exact rfl); (case hy => exact rfl); (case hl => have hp := HPL.out; have hc := HCLN.out; have hi := HIL.out; have hj := HJL.out; have hn := HNL.out; simp only [List.length_append, List.length_cons, List.length_nil]; omega)))
        go_ret
        rw [HT.out]
        exact ⟨by simp [str], HB9.out⟩
      · subst hk4
        have HT : As (sayL 4 p c x ids n = [103, 101, 116, 32] ++ P ++ [32] ++ J) := ⟨by simp [sayL, HP.out, HC.out, HI.out, HJ.out, HN.out]⟩
        have c0 := HC0.out
        have c1 := HC1.out
        have c2 := HC2.out
        have c35 := HC35.out
        have c36 := HC36.out
        go_wp2_with (first | (go_at_call 28; (with_reducible refine (qids_any _ ids _ HRI.out HIL2.out).mono ?_); rintro e w9 ⟨he, hb⟩; simp only [HJ.out, str] at he; subst he; have HB9 := As.mk (HW0.out.trans (hb.mono HW0.out.size)); clear hb) | ((with_reducible refine wpList_catTo ?hgd (.const (.string ⟨#[103, 101, 116, 32]⟩)) (.tmp 50) rfl (103 :: 101 :: 116 :: [32]) P (103 :: 101 :: 116 :: 32 :: P) ?hz ?hx ?hy ?hl ?_); (case hgd => exact rfl); (case hz => simp); (case hx => exact rfl); (case hy => exact rfl); (case hl => have hp := HPL.out; have hc := HCLN.out; have hi := HIL.out; have hj := HJL.out; have hn := HNL.out; simp only [List.length_append, List.length_cons, List.length_nil]; omega)) | ((with_reducible refine wpList_catTo ?hgd (.tmp 51) (.const (.string ⟨#[32]⟩)) rfl (103 :: 101 :: 116 :: 32 :: P) [32] (103 :: 101 :: 116 :: 32 :: (P ++ [32])) ?hz ?hx ?hy ?hl ?_); (case hgd => exact rfl); (case hz => simp); (case hx => exact rfl); (case hy => exact rfl); (case hl => have hp := HPL.out; have hc := HCLN.out; have hi := HIL.out; have hj := HJL.out; have hn := HNL.out; simp only [List.length_append, List.length_cons, List.length_nil]; omega)) | ((with_reducible refine wpList_catTo ?hgd (.tmp 52) (.tmp 55) rfl (103 :: 101 :: 116 :: 32 :: (P ++ [32])) J (103 :: 101 :: 116 :: 32 :: (P ++ (32 :: J))) ?hz ?hx ?hy ?hl ?_); (case hgd => exact rfl); (case hz => simp); (case hx => exact rfl); (case hy => exact rfl); (case hl => have hp := HPL.out; have hc := HCLN.out; have hi := HIL.out; have hj := HJL.out; have hn := HNL.out; simp only [List.length_append, List.length_cons, List.length_nil]; omega)))
        go_ret
        rw [HT.out]
        exact ⟨by simp [str], HB9.out⟩
      · subst hk5
        have HT : As (sayL 5 p c x ids n = [103, 111, 110, 101, 32] ++ J) := ⟨by simp [sayL, HP.out, HC.out, HI.out, HJ.out, HN.out]⟩
        have c0 := HC0.out
        have c1 := HC1.out
        have c2 := HC2.out
        have c35 := HC35.out
        have c36 := HC36.out
        go_wp2_with (first | (go_at_call 28; (with_reducible refine (qids_any _ ids _ HRI.out HIL2.out).mono ?_); rintro e w9 ⟨he, hb⟩; simp only [HJ.out, str] at he; subst he; have HB9 := As.mk (HW0.out.trans (hb.mono HW0.out.size)); clear hb) | ((with_reducible refine wpList_catTo ?hgd (.const (.string ⟨#[103, 111, 110, 101, 32]⟩)) (.tmp 61) rfl (103 :: 111 :: 110 :: 101 :: [32]) J (103 :: 111 :: 110 :: 101 :: 32 :: J) ?hz ?hx ?hy ?hl ?_); (case hgd => exact rfl); (case hz => simp); (case hx => exact rfl); (case hy => exact rfl); (case hl => have hp := HPL.out; have hc := HCLN.out; have hi := HIL.out; have hj := HJL.out; have hn := HNL.out; simp only [List.length_append, List.length_cons, List.length_nil]; omega)))
        go_ret
        rw [HT.out]
        exact ⟨by simp [str], HB9.out⟩
      · subst hk6
        have HT : As (sayL 6 p c x ids n = [98, 108, 111, 99, 107, 32] ++ C ++ [32] ++ I) := ⟨by simp [sayL, HP.out, HC.out, HI.out, HJ.out, HN.out]⟩
        have c0 := HC0.out
        have c1 := HC1.out
        have c2 := HC2.out
        have c35 := HC35.out
        have c36 := HC36.out
        go_wp2_with (first | ((with_reducible refine wpList_load_mid (op := ⟨_, .load 22 (.tmp 68), _, _, _, _⟩) ?hgd 22 (.tmp 68) rfl _ _ ?hx cs _ HRG.out Tryd.underlying22 rfl ?hi ?_); (case hgd => exact rfl); (case hx => exact rfl); (case hi => rw [HCL.out]; kernel_rfl)) | (go_at_call 27; (with_reducible refine (qid_as cs x HCS.out.1 HCS.out.2 _).mono ?_); rintro e w9 ⟨he, hb⟩; simp only [HI.out, str] at he; subst he; have HB9 := As.mk (HW0.out.trans (hb.mono HW0.out.size)); clear hb) | ((with_reducible refine wpList_catTo ?hgd (.const (.string ⟨#[98, 108, 111, 99, 107, 32]⟩)) (.tmp 65) rfl (98 :: 108 :: 111 :: 99 :: 107 :: [32]) C (98 :: 108 :: 111 :: 99 :: 107 :: 32 :: C) ?hz ?hx ?hy ?hl ?_); (case hgd => exact rfl); (case hz => simp); (case hx => exact rfl); (case hy => exact rfl); (case hl => have hp := HPL.out; have hc := HCLN.out; have hi := HIL.out; have hj := HJL.out; have hn := HNL.out; simp only [List.length_append, List.length_cons, List.length_nil]; omega)) | ((with_reducible refine wpList_catTo ?hgd (.tmp 66) (.const (.string ⟨#[32]⟩)) rfl (98 :: 108 :: 111 :: 99 :: 107 :: 32 :: C) [32] (98 :: 108 :: 111 :: 99 :: 107 :: 32 :: (C ++ [32])) ?hz ?hx ?hy ?hl ?_); (case hgd => exact rfl); (case hz => simp); (case hx => exact rfl); (case hy => exact rfl); (case hl => have hp := HPL.out; have hc := HCLN.out; have hi := HIL.out; have hj := HJL.out; have hn := HNL.out; simp only [List.length_append, List.length_cons, List.length_nil]; omega)) | ((with_reducible refine wpList_catTo ?hgd (.tmp 67) (.tmp 70) rfl (98 :: 108 :: 111 :: 99 :: 107 :: 32 :: (C ++ [32])) I (98 :: 108 :: 111 :: 99 :: 107 :: 32 :: (C ++ (32 :: I))) ?hz ?hx ?hy ?hl ?_); (case hgd => exact rfl); (case hz => simp); (case hx => exact rfl); (case hy => exact rfl); (case hl => have hp := HPL.out; have hc := HCLN.out; have hi := HIL.out; have hj := HJL.out; have hn := HNL.out; simp only [List.length_append, List.length_cons, List.length_nil]; omega)))
        go_ret
        rw [HT.out]
        exact ⟨by simp [str], HB9.out⟩
      · subst hk7
        have HT : As (sayL 7 p c x ids n = [98, 97, 99, 107, 32] ++ C ++ [32] ++ I) := ⟨by simp [sayL, HP.out, HC.out, HI.out, HJ.out, HN.out]⟩
        have c0 := HC0.out
        have c1 := HC1.out
        have c2 := HC2.out
        have c35 := HC35.out
        have c36 := HC36.out
        go_wp2_with (first | ((with_reducible refine wpList_load_mid (op := ⟨_, .load 22 (.tmp 77), _, _, _, _⟩) ?hgd 22 (.tmp 77) rfl _ _ ?hx cs _ HRG.out Tryd.underlying22 rfl ?hi ?_); (case hgd => exact rfl); (case hx => exact rfl); (case hi => rw [HCL.out]; kernel_rfl)) | (go_at_call 27; (with_reducible refine (qid_as cs x HCS.out.1 HCS.out.2 _).mono ?_); rintro e w9 ⟨he, hb⟩; simp only [HI.out, str] at he; subst he; have HB9 := As.mk (HW0.out.trans (hb.mono HW0.out.size)); clear hb) | ((with_reducible refine wpList_catTo ?hgd (.const (.string ⟨#[98, 97, 99, 107, 32]⟩)) (.tmp 74) rfl (98 :: 97 :: 99 :: 107 :: [32]) C (98 :: 97 :: 99 :: 107 :: 32 :: C) ?hz ?hx ?hy ?hl ?_); (case hgd => exact rfl); (case hz => simp); (case hx => exact rfl); (case hy => exact rfl); (case hl => have hp := HPL.out; have hc := HCLN.out; have hi := HIL.out; have hj := HJL.out; have hn := HNL.out; simp only [List.length_append, List.length_cons, List.length_nil]; omega)) | ((with_reducible refine wpList_catTo ?hgd (.tmp 75) (.const (.string ⟨#[32]⟩)) rfl (98 :: 97 :: 99 :: 107 :: 32 :: C) [32] (98 :: 97 :: 99 :: 107 :: 32 :: (C ++ [32])) ?hz ?hx ?hy ?hl ?_); (case hgd => exact rfl); (case hz => simp); (case hx => exact rfl); (case hy => exact rfl); (case hl => have hp := HPL.out; have hc := HCLN.out; have hi := HIL.out; have hj := HJL.out; have hn := HNL.out; simp only [List.length_append, List.length_cons, List.length_nil]; omega)) | ((with_reducible refine wpList_catTo ?hgd (.tmp 76) (.tmp 79) rfl (98 :: 97 :: 99 :: 107 :: 32 :: (C ++ [32])) I (98 :: 97 :: 99 :: 107 :: 32 :: (C ++ (32 :: I))) ?hz ?hx ?hy ?hl ?_); (case hgd => exact rfl); (case hz => simp); (case hx => exact rfl); (case hy => exact rfl); (case hl => have hp := HPL.out; have hc := HCLN.out; have hi := HIL.out; have hj := HJL.out; have hn := HNL.out; simp only [List.length_append, List.length_cons, List.length_nil]; omega)))
        go_ret
        rw [HT.out]
        exact ⟨by simp [str], HB9.out⟩
      · subst hk8
        have HT : As (sayL 8 p c x ids n = [119, 111, 114, 107, 32] ++ N ++ [32] ++ C ++ [32] ++ J) := ⟨by simp [sayL, HP.out, HC.out, HI.out, HJ.out, HN.out]⟩
        have c0 := HC0.out
        go_upto_region 18 with fail
        clear c0
        refine wp_region_held_drew (S := (fun V : World => Below W1.heap.size W1 V)) (by kernel_rfl) ?_ (fun hHeld => ?_)
        · exact below_dr W1
        refine wpAnyH_take (i := 0) (oi := ?_) (v := ?_) (by simp only [List.getElem?_toArray, List.getElem?_cons_zero, List.getElem?_cons_succ]; rfl) (by kernel_rfl) (by kernel_rfl) (by kernel_rfl) (by exact fun _ _ _ h => h) (Or.inl ⟨by rfl, ?_⟩) (by assumption) ?_
        rotate_left
        · (intro w hSw; (try dsimp only at hSw); have c0 := cell_below hSw HC0.out; have c1 := cell_below hSw HC1.out; have c2 := cell_below hSw HC2.out; have c35 := cell_below hSw HC35.out; have c36 := cell_below hSw HC36.out; go_simp; first | done | with_reducible rfl)
        try simp only [Act.put, List.setIfInBounds_toArray, List.set_cons_zero, List.set_cons_succ]
        refine wpAnyH_take (i := 1) (oi := ?_) (v := ?_) (by simp only [List.getElem?_toArray, List.getElem?_cons_zero, List.getElem?_cons_succ]; rfl) (by kernel_rfl) (by kernel_rfl) (by kernel_rfl) (by exact fun _ _ _ h => h) (Or.inl ⟨by rfl, ?_⟩) (by assumption) ?_
        rotate_left
        · (intro w hSw; (try dsimp only at hSw); have c0 := cell_below hSw HC0.out; have c1 := cell_below hSw HC1.out; have c2 := cell_below hSw HC2.out; have c35 := cell_below hSw HC35.out; have c36 := cell_below hSw HC36.out; go_simp; first | done | with_reducible rfl)
        try simp only [Act.put, List.setIfInBounds_toArray, List.set_cons_zero, List.set_cons_succ]
        refine wpAnyH_take (i := 5) (oi := ?_) (v := ?_) (by simp only [List.getElem?_toArray, List.getElem?_cons_zero, List.getElem?_cons_succ]; rfl) (by kernel_rfl) (by kernel_rfl) (by kernel_rfl) (by exact fun _ _ _ h => h) (Or.inl ⟨by rfl, ?_⟩) (by assumption) ?_
        rotate_left
        · (intro w hSw; (try dsimp only at hSw); have c0 := cell_below hSw HC0.out; have c1 := cell_below hSw HC1.out; have c2 := cell_below hSw HC2.out; have c35 := cell_below hSw HC35.out; have c36 := cell_below hSw HC36.out; go_simp; first | done | with_reducible rfl)
        try simp only [Act.put, List.setIfInBounds_toArray, List.set_cons_zero, List.set_cons_succ]
        refine wpAnyH_take (i := 8) (oi := ?_) (v := ?_) (by simp only [List.getElem?_toArray, List.getElem?_cons_zero, List.getElem?_cons_succ]; rfl) (by kernel_rfl) (by kernel_rfl) (by kernel_rfl) (by exact fun _ _ _ h => h) (Or.inl ⟨by rfl, ?_⟩) (by assumption) ?_
        rotate_left
        · (intro w hSw; (try dsimp only at hSw); have c0 := cell_below hSw HC0.out; have c1 := cell_below hSw HC1.out; have c2 := cell_below hSw HC2.out; have c35 := cell_below hSw HC35.out; have c36 := cell_below hSw HC36.out; go_simp; first | done | with_reducible rfl)
        try simp only [Act.put, List.setIfInBounds_toArray, List.set_cons_zero, List.set_cons_succ]
        refine wpAnyH_take (i := 9) (oi := ?_) (v := ?_) (by simp only [List.getElem?_toArray, List.getElem?_cons_zero, List.getElem?_cons_succ]; rfl) (by kernel_rfl) (by kernel_rfl) (by kernel_rfl) (by exact fun _ _ _ h => h) (Or.inl ⟨by rfl, ?_⟩) (by assumption) ?_
        rotate_left
        · (intro w hSw; (try dsimp only at hSw); have c0 := cell_below hSw HC0.out; have c1 := cell_below hSw HC1.out; have c2 := cell_below hSw HC2.out; have c35 := cell_below hSw HC35.out; have c36 := cell_below hSw HC36.out; go_simp; first | done | with_reducible rfl)
        try simp only [Act.put, List.setIfInBounds_toArray, List.set_cons_zero, List.set_cons_succ]
        refine wpAnyH_ready (rs := [2]) (by kernel_rfl) (by simp) ?_
        refine AllReadyH.cons (o := ?_) (by simp only [List.getElem?_toArray, List.getElem?_cons_zero, List.getElem?_cons_succ]; rfl) (fun K hK => ?_) ?_
        · go_simp
          (with_reducible refine (digits_any n HN64.out _).mono ?_)
          rintro e w22 ⟨he, hb⟩
          simp only [HN.out, str] at he
          subst he
          have hS2 := hHeld.trans (hb.mono hHeld.size)
          clear hb
          dsimp only
          refine hK.out _ _ ?_ (fun hHeld2 => ?_)
          · exact hS2
          clear hK K hHeld
          have hHeld := hHeld2
          clear hHeld2
          try simp only [Act.put, List.setIfInBounds_toArray, List.set_cons_zero, List.set_cons_succ]
          refine wpAnyH_take (i := 3) (oi := ?_) (v := ?_) (by simp only [List.getElem?_toArray, List.getElem?_cons_zero, List.getElem?_cons_succ]; rfl) (by kernel_rfl) (by kernel_rfl) (by kernel_rfl) (by exact fun _ _ _ h => h) (Or.inl ⟨by rfl, ?_⟩) (by assumption) ?_
          rotate_left
          · (intro w2 hw2; refine exec_catTo (.const (.string ⟨#[119, 111, 114, 107, 32]⟩)) (.tmp 85) ?_ (119 :: 111 :: 114 :: 107 :: [32]) N (119 :: 111 :: 114 :: 107 :: 32 :: N) ?_ ?_ ?_ ?_; rfl; simp; rfl; rfl; (have hp := HPL.out; have hc := HCLN.out; have hi := HIL.out; have hj := HJL.out; have hn := HNL.out; simp only [List.length_append, List.length_cons, List.length_nil]; omega))
          try simp only [Act.put, List.setIfInBounds_toArray, List.set_cons_zero, List.set_cons_succ]
          refine wpAnyH_take (i := 4) (oi := ?_) (v := ?_) (by simp only [List.getElem?_toArray, List.getElem?_cons_zero, List.getElem?_cons_succ]; rfl) (by kernel_rfl) (by kernel_rfl) (by kernel_rfl) (by exact fun _ _ _ h => h) (Or.inl ⟨by rfl, ?_⟩) (by assumption) ?_
          rotate_left
          · (intro w2 hw2; refine exec_catTo (.tmp 86) (.const (.string ⟨#[32]⟩)) ?_ (119 :: 111 :: 114 :: 107 :: 32 :: N) [32] (119 :: 111 :: 114 :: 107 :: 32 :: (N ++ [32])) ?_ ?_ ?_ ?_; rfl; simp; rfl; rfl; (have hp := HPL.out; have hc := HCLN.out; have hi := HIL.out; have hj := HJL.out; have hn := HNL.out; simp only [List.length_append, List.length_cons, List.length_nil]; omega))
          try simp only [Act.put, List.setIfInBounds_toArray, List.set_cons_zero, List.set_cons_succ]
          refine wpAnyH_take (i := 6) (oi := ?_) (v := ?_) (by simp only [List.getElem?_toArray, List.getElem?_cons_zero, List.getElem?_cons_succ]; rfl) (by kernel_rfl) (by kernel_rfl) (by kernel_rfl) (by exact fun _ _ _ h => h) (Or.inl ⟨by rfl, ?_⟩) (by assumption) ?_
          rotate_left
          · (intro w2 hw2; refine exec_catTo (.tmp 87) (.tmp 88) ?_ (119 :: 111 :: 114 :: 107 :: 32 :: (N ++ [32])) C (119 :: 111 :: 114 :: 107 :: 32 :: (N ++ (32 :: C))) ?_ ?_ ?_ ?_; rfl; simp; rfl; rfl; (have hp := HPL.out; have hc := HCLN.out; have hi := HIL.out; have hj := HJL.out; have hn := HNL.out; simp only [List.length_append, List.length_cons, List.length_nil]; omega))
          try simp only [Act.put, List.setIfInBounds_toArray, List.set_cons_zero, List.set_cons_succ]
          refine wpAnyH_take (i := 7) (oi := ?_) (v := ?_) (by simp only [List.getElem?_toArray, List.getElem?_cons_zero, List.getElem?_cons_succ]; rfl) (by kernel_rfl) (by kernel_rfl) (by kernel_rfl) (by exact fun _ _ _ h => h) (Or.inl ⟨by rfl, ?_⟩) (by assumption) ?_
          rotate_left
          · (intro w2 hw2; refine exec_catTo (.tmp 89) (.const (.string ⟨#[32]⟩)) ?_ (119 :: 111 :: 114 :: 107 :: 32 :: (N ++ (32 :: C))) [32] (119 :: 111 :: 114 :: 107 :: 32 :: (N ++ (32 :: (C ++ [32])))) ?_ ?_ ?_ ?_; rfl; simp; rfl; rfl; (have hp := HPL.out; have hc := HCLN.out; have hi := HIL.out; have hj := HJL.out; have hn := HNL.out; simp only [List.length_append, List.length_cons, List.length_nil]; omega))
          try simp only [Act.put, List.setIfInBounds_toArray, List.set_cons_zero, List.set_cons_succ]
          refine wpAnyH_ready (rs := [10]) (by kernel_rfl) (by simp) ?_
          refine AllReadyH.cons (o := ?_) (by simp only [List.getElem?_toArray, List.getElem?_cons_zero, List.getElem?_cons_succ]; rfl) (fun K hK => ?_) ?_
          · go_simp
            (with_reducible refine (qids_any _ ids _ (HRI.out.below hHeld) HIL2.out).mono ?_)
            rintro e w30 ⟨he, hb⟩
            simp only [HJ.out, str] at he
            subst he
            have hS2 := hHeld.trans (hb.mono hHeld.size)
            clear hb
            dsimp only
            refine hK.out _ _ ?_ (fun hHeld2 => ?_)
            · exact hS2
            clear hK K hHeld
            have hHeld := hHeld2
            clear hHeld2
            try simp only [Act.put, List.setIfInBounds_toArray, List.set_cons_zero, List.set_cons_succ]
            refine wpAnyH_take (i := 11) (oi := ?_) (v := ?_) (by simp only [List.getElem?_toArray, List.getElem?_cons_zero, List.getElem?_cons_succ]; rfl) (by kernel_rfl) (by kernel_rfl) (by kernel_rfl) (by exact fun _ _ _ h => h) (Or.inl ⟨by rfl, ?_⟩) (by assumption) ?_
            rotate_left
            · (intro w2 hw2; refine exec_catTo (.tmp 90) (.tmp 93) ?_ (119 :: 111 :: 114 :: 107 :: 32 :: (N ++ (32 :: (C ++ [32])))) J (119 :: 111 :: 114 :: 107 :: 32 :: (N ++ (32 :: (C ++ (32 :: J))))) ?_ ?_ ?_ ?_; rfl; simp; rfl; rfl; (have hp := HPL.out; have hc := HCLN.out; have hi := HIL.out; have hj := HJL.out; have hn := HNL.out; simp only [List.length_append, List.length_cons, List.length_nil]; omega))
            try simp only [Act.put, List.setIfInBounds_toArray, List.set_cons_zero, List.set_cons_succ]
            refine wpAnyH_take (i := 12) (oi := ?_) (v := ?_) (by simp only [List.getElem?_toArray, List.getElem?_cons_zero, List.getElem?_cons_succ]; rfl) (by kernel_rfl) (by kernel_rfl) (by kernel_rfl) (by exact fun _ _ _ h => h) (Or.inl ⟨by rfl, ?_⟩) (by assumption) ?_
            rotate_left
            · (intro w hSw; (try dsimp only at hSw); have c0 := cell_below hSw HC0.out; have c1 := cell_below hSw HC1.out; have c2 := cell_below hSw HC2.out; have c35 := cell_below hSw HC35.out; have c36 := cell_below hSw HC36.out; go_simp; first | done | with_reducible rfl)
            try simp only [Act.put, List.setIfInBounds_toArray, List.set_cons_zero, List.set_cons_succ]
            refine wpAnyH_done (by kernel_rfl) ?_ _
            have HW := As.mk hHeld
            clear hHeld
            go_wp2
            go_ret
            rw [HT.out]
            exact ⟨by simp [str], HW0.out.trans (HW.out.mono HW0.out.size)⟩
          exact AllReadyH.nil
        exact AllReadyH.nil
      · subst hk9
        have HT : As (sayL 9 p c x ids n = [104, 111, 109, 101, 32] ++ P ++ [32] ++ I ++ [32] ++ J) := ⟨by simp [sayL, HP.out, HC.out, HI.out, HJ.out, HN.out]⟩
        have c0 := HC0.out
        go_upto_region 20 with fail
        clear c0
        refine wp_region_held_drew (S := (fun V : World => Below W1.heap.size W1 V)) (by kernel_rfl) ?_ (fun hHeld => ?_)
        · exact below_dr W1
        refine wpAnyH_take (i := 0) (oi := ?_) (v := ?_) (by simp only [List.getElem?_toArray, List.getElem?_cons_zero, List.getElem?_cons_succ]; rfl) (by kernel_rfl) (by kernel_rfl) (by kernel_rfl) (by exact fun _ _ _ h => h) (Or.inl ⟨by rfl, ?_⟩) (by assumption) ?_
        rotate_left
        · (intro w hSw; (try dsimp only at hSw); have c0 := cell_below hSw HC0.out; have c1 := cell_below hSw HC1.out; have c2 := cell_below hSw HC2.out; have c35 := cell_below hSw HC35.out; have c36 := cell_below hSw HC36.out; go_simp; first | done | with_reducible rfl)
        try simp only [Act.put, List.setIfInBounds_toArray, List.set_cons_zero, List.set_cons_succ]
        refine wpAnyH_take (i := 1) (oi := ?_) (v := ?_) (by simp only [List.getElem?_toArray, List.getElem?_cons_zero, List.getElem?_cons_succ]; rfl) (by kernel_rfl) (by kernel_rfl) (by kernel_rfl) (by exact fun _ _ _ h => h) (Or.inl ⟨by rfl, ?_⟩) (by assumption) ?_
        rotate_left
        · (intro w2 hw2; refine exec_catTo (.const (.string ⟨#[104, 111, 109, 101, 32]⟩)) (.tmp 97) ?_ (104 :: 111 :: 109 :: 101 :: [32]) P (104 :: 111 :: 109 :: 101 :: 32 :: P) ?_ ?_ ?_ ?_; rfl; simp; rfl; rfl; (have hp := HPL.out; have hc := HCLN.out; have hi := HIL.out; have hj := HJL.out; have hn := HNL.out; simp only [List.length_append, List.length_cons, List.length_nil]; omega))
        try simp only [Act.put, List.setIfInBounds_toArray, List.set_cons_zero, List.set_cons_succ]
        refine wpAnyH_take (i := 2) (oi := ?_) (v := ?_) (by simp only [List.getElem?_toArray, List.getElem?_cons_zero, List.getElem?_cons_succ]; rfl) (by kernel_rfl) (by kernel_rfl) (by kernel_rfl) (by exact fun _ _ _ h => h) (Or.inl ⟨by rfl, ?_⟩) (by assumption) ?_
        rotate_left
        · (intro w2 hw2; refine exec_catTo (.tmp 98) (.const (.string ⟨#[32]⟩)) ?_ (104 :: 111 :: 109 :: 101 :: 32 :: P) [32] (104 :: 111 :: 109 :: 101 :: 32 :: (P ++ [32])) ?_ ?_ ?_ ?_; rfl; simp; rfl; rfl; (have hp := HPL.out; have hc := HCLN.out; have hi := HIL.out; have hj := HJL.out; have hn := HNL.out; simp only [List.length_append, List.length_cons, List.length_nil]; omega))
        try simp only [Act.put, List.setIfInBounds_toArray, List.set_cons_zero, List.set_cons_succ]
        refine wpAnyH_take (i := 3) (oi := ?_) (v := ?_) (by simp only [List.getElem?_toArray, List.getElem?_cons_zero, List.getElem?_cons_succ]; rfl) (by kernel_rfl) (by kernel_rfl) (by kernel_rfl) (by exact fun _ _ _ h => h) (Or.inl ⟨by rfl, ?_⟩) (by assumption) ?_
        rotate_left
        · (intro w hSw; (try dsimp only at hSw); have c0 := cell_below hSw HC0.out; have c1 := cell_below hSw HC1.out; have c2 := cell_below hSw HC2.out; have c35 := cell_below hSw HC35.out; have c36 := cell_below hSw HC36.out; go_simp; first | done | with_reducible rfl)
        try simp only [Act.put, List.setIfInBounds_toArray, List.set_cons_zero, List.set_cons_succ]
        refine wpAnyH_take (i := 4) (oi := ?_) (v := ?_) (by simp only [List.getElem?_toArray, List.getElem?_cons_zero, List.getElem?_cons_succ]; rfl) (by kernel_rfl) (by kernel_rfl) (by kernel_rfl) (by exact fun _ _ _ h => h) (Or.inl ⟨by rfl, ?_⟩) (by assumption) ?_
        rotate_left
        · (intro w2 hw2; refine exec_load_mid 22 (.tmp 100) ?_ G 3 ?_ cs _ ?_ Tryd.underlying22 rfl ?_; rfl; rfl; exact rangeAt_below HRG.out hw2; (rw [HCL.out]; kernel_rfl))
        try simp only [Act.put, List.setIfInBounds_toArray, List.set_cons_zero, List.set_cons_succ]
        refine wpAnyH_take (i := 8) (oi := ?_) (v := ?_) (by simp only [List.getElem?_toArray, List.getElem?_cons_zero, List.getElem?_cons_succ]; rfl) (by kernel_rfl) (by kernel_rfl) (by kernel_rfl) (by exact fun _ _ _ h => h) (Or.inl ⟨by rfl, ?_⟩) (by assumption) ?_
        rotate_left
        · (intro w hSw; (try dsimp only at hSw); have c0 := cell_below hSw HC0.out; have c1 := cell_below hSw HC1.out; have c2 := cell_below hSw HC2.out; have c35 := cell_below hSw HC35.out; have c36 := cell_below hSw HC36.out; go_simp; first | done | with_reducible rfl)
        try simp only [Act.put, List.setIfInBounds_toArray, List.set_cons_zero, List.set_cons_succ]
        refine wpAnyH_take (i := 9) (oi := ?_) (v := ?_) (by simp only [List.getElem?_toArray, List.getElem?_cons_zero, List.getElem?_cons_succ]; rfl) (by kernel_rfl) (by kernel_rfl) (by kernel_rfl) (by exact fun _ _ _ h => h) (Or.inl ⟨by rfl, ?_⟩) (by assumption) ?_
        rotate_left
        · (intro w hSw; (try dsimp only at hSw); have c0 := cell_below hSw HC0.out; have c1 := cell_below hSw HC1.out; have c2 := cell_below hSw HC2.out; have c35 := cell_below hSw HC35.out; have c36 := cell_below hSw HC36.out; go_simp; first | done | with_reducible rfl)
        try simp only [Act.put, List.setIfInBounds_toArray, List.set_cons_zero, List.set_cons_succ]
        refine wpAnyH_ready (rs := [5]) (by kernel_rfl) (by simp) ?_
        refine AllReadyH.cons (o := ?_) (by simp only [List.getElem?_toArray, List.getElem?_cons_zero, List.getElem?_cons_succ]; rfl) (fun K hK => ?_) ?_
        · go_simp
          (with_reducible refine (qid_as cs x HCS.out.1 HCS.out.2 _).mono ?_)
          rintro e w25 ⟨he, hb⟩
          simp only [HI.out, str] at he
          subst he
          have hS2 := hHeld.trans (hb.mono hHeld.size)
          clear hb
          dsimp only
          refine hK.out _ _ ?_ (fun hHeld2 => ?_)
          · exact hS2
          clear hK K hHeld
          have hHeld := hHeld2
          clear hHeld2
          try simp only [Act.put, List.setIfInBounds_toArray, List.set_cons_zero, List.set_cons_succ]
          refine wpAnyH_take (i := 6) (oi := ?_) (v := ?_) (by simp only [List.getElem?_toArray, List.getElem?_cons_zero, List.getElem?_cons_succ]; rfl) (by kernel_rfl) (by kernel_rfl) (by kernel_rfl) (by exact fun _ _ _ h => h) (Or.inl ⟨by rfl, ?_⟩) (by assumption) ?_
          rotate_left
          · (intro w2 hw2; refine exec_catTo (.tmp 99) (.tmp 102) ?_ (104 :: 111 :: 109 :: 101 :: 32 :: (P ++ [32])) I (104 :: 111 :: 109 :: 101 :: 32 :: (P ++ (32 :: I))) ?_ ?_ ?_ ?_; rfl; simp; rfl; rfl; (have hp := HPL.out; have hc := HCLN.out; have hi := HIL.out; have hj := HJL.out; have hn := HNL.out; simp only [List.length_append, List.length_cons, List.length_nil]; omega))
          try simp only [Act.put, List.setIfInBounds_toArray, List.set_cons_zero, List.set_cons_succ]
          refine wpAnyH_take (i := 7) (oi := ?_) (v := ?_) (by simp only [List.getElem?_toArray, List.getElem?_cons_zero, List.getElem?_cons_succ]; rfl) (by kernel_rfl) (by kernel_rfl) (by kernel_rfl) (by exact fun _ _ _ h => h) (Or.inl ⟨by rfl, ?_⟩) (by assumption) ?_
          rotate_left
          · (intro w2 hw2; refine exec_catTo (.tmp 103) (.const (.string ⟨#[32]⟩)) ?_ (104 :: 111 :: 109 :: 101 :: 32 :: (P ++ (32 :: I))) [32] (104 :: 111 :: 109 :: 101 :: 32 :: (P ++ (32 :: (I ++ [32])))) ?_ ?_ ?_ ?_; rfl; simp; rfl; rfl; (have hp := HPL.out; have hc := HCLN.out; have hi := HIL.out; have hj := HJL.out; have hn := HNL.out; simp only [List.length_append, List.length_cons, List.length_nil]; omega))
          try simp only [Act.put, List.setIfInBounds_toArray, List.set_cons_zero, List.set_cons_succ]
          refine wpAnyH_ready (rs := [10]) (by kernel_rfl) (by simp) ?_
          refine AllReadyH.cons (o := ?_) (by simp only [List.getElem?_toArray, List.getElem?_cons_zero, List.getElem?_cons_succ]; rfl) (fun K hK => ?_) ?_
          · go_simp
            (with_reducible refine (qids_any _ ids _ (HRI.out.below hHeld) HIL2.out).mono ?_)
            rintro e w30 ⟨he, hb⟩
            simp only [HJ.out, str] at he
            subst he
            have hS2 := hHeld.trans (hb.mono hHeld.size)
            clear hb
            dsimp only
            refine hK.out _ _ ?_ (fun hHeld2 => ?_)
            · exact hS2
            clear hK K hHeld
            have hHeld := hHeld2
            clear hHeld2
            try simp only [Act.put, List.setIfInBounds_toArray, List.set_cons_zero, List.set_cons_succ]
            refine wpAnyH_take (i := 11) (oi := ?_) (v := ?_) (by simp only [List.getElem?_toArray, List.getElem?_cons_zero, List.getElem?_cons_succ]; rfl) (by kernel_rfl) (by kernel_rfl) (by kernel_rfl) (by exact fun _ _ _ h => h) (Or.inl ⟨by rfl, ?_⟩) (by assumption) ?_
            rotate_left
            · (intro w2 hw2; refine exec_catTo (.tmp 104) (.tmp 107) ?_ (104 :: 111 :: 109 :: 101 :: 32 :: (P ++ (32 :: (I ++ [32])))) J (104 :: 111 :: 109 :: 101 :: 32 :: (P ++ (32 :: (I ++ (32 :: J))))) ?_ ?_ ?_ ?_; rfl; simp; rfl; rfl; (have hp := HPL.out; have hc := HCLN.out; have hi := HIL.out; have hj := HJL.out; have hn := HNL.out; simp only [List.length_append, List.length_cons, List.length_nil]; omega))
            try simp only [Act.put, List.setIfInBounds_toArray, List.set_cons_zero, List.set_cons_succ]
            refine wpAnyH_take (i := 12) (oi := ?_) (v := ?_) (by simp only [List.getElem?_toArray, List.getElem?_cons_zero, List.getElem?_cons_succ]; rfl) (by kernel_rfl) (by kernel_rfl) (by kernel_rfl) (by exact fun _ _ _ h => h) (Or.inl ⟨by rfl, ?_⟩) (by assumption) ?_
            rotate_left
            · (intro w hSw; (try dsimp only at hSw); have c0 := cell_below hSw HC0.out; have c1 := cell_below hSw HC1.out; have c2 := cell_below hSw HC2.out; have c35 := cell_below hSw HC35.out; have c36 := cell_below hSw HC36.out; go_simp; first | done | with_reducible rfl)
            try simp only [Act.put, List.setIfInBounds_toArray, List.set_cons_zero, List.set_cons_succ]
            refine wpAnyH_done (by kernel_rfl) ?_ _
            have HW := As.mk hHeld
            clear hHeld
            go_wp2
            go_ret
            rw [HT.out]
            exact ⟨by simp [str], HW0.out.trans (HW.out.mono HW0.out.size)⟩
          exact AllReadyH.nil
        exact AllReadyH.nil
      · subst hk10
        have HT : As (sayL 10 p c x ids n = [119, 97, 110, 116, 32] ++ P ++ [32] ++ I) := ⟨by simp [sayL, HP.out, HC.out, HI.out, HJ.out, HN.out]⟩
        have c0 := HC0.out
        have c1 := HC1.out
        have c2 := HC2.out
        have c35 := HC35.out
        have c36 := HC36.out
        go_wp2_with (first | ((with_reducible refine wpList_load_mid (op := ⟨_, .load 22 (.tmp 114), _, _, _, _⟩) ?hgd 22 (.tmp 114) rfl _ _ ?hx cs _ HRG.out Tryd.underlying22 rfl ?hi ?_); (case hgd => exact rfl); (case hx => exact rfl); (case hi => rw [HCL.out]; kernel_rfl)) | (go_at_call 27; (with_reducible refine (qid_as cs x HCS.out.1 HCS.out.2 _).mono ?_); rintro e w9 ⟨he, hb⟩; simp only [HI.out, str] at he; subst he; have HB9 := As.mk (HW0.out.trans (hb.mono HW0.out.size)); clear hb) | ((with_reducible refine wpList_catTo ?hgd (.const (.string ⟨#[119, 97, 110, 116, 32]⟩)) (.tmp 111) rfl (119 :: 97 :: 110 :: 116 :: [32]) P (119 :: 97 :: 110 :: 116 :: 32 :: P) ?hz ?hx ?hy ?hl ?_); (case hgd => exact rfl); (case hz => simp); (case hx => exact rfl); (case hy => exact rfl); (case hl => have hp := HPL.out; have hc := HCLN.out; have hi := HIL.out; have hj := HJL.out; have hn := HNL.out; simp only [List.length_append, List.length_cons, List.length_nil]; omega)) | ((with_reducible refine wpList_catTo ?hgd (.tmp 112) (.const (.string ⟨#[32]⟩)) rfl (119 :: 97 :: 110 :: 116 :: 32 :: P) [32] (119 :: 97 :: 110 :: 116 :: 32 :: (P ++ [32])) ?hz ?hx ?hy ?hl ?_); (case hgd => exact rfl); (case hz => simp); (case hx => exact rfl); (case hy => exact rfl); (case hl => have hp := HPL.out; have hc := HCLN.out; have hi := HIL.out; have hj := HJL.out; have hn := HNL.out; simp only [List.length_append, List.length_cons, List.length_nil]; omega)) | ((with_reducible refine wpList_catTo ?hgd (.tmp 113) (.tmp 116) rfl (119 :: 97 :: 110 :: 116 :: 32 :: (P ++ [32])) I (119 :: 97 :: 110 :: 116 :: 32 :: (P ++ (32 :: I))) ?hz ?hx ?hy ?hl ?_); (case hgd => exact rfl); (case hz => simp); (case hx => exact rfl); (case hy => exact rfl); (case hl => have hp := HPL.out; have hc := HCLN.out; have hi := HIL.out; have hj := HJL.out; have hn := HNL.out; simp only [List.length_append, List.length_cons, List.length_nil]; omega)))
        go_ret
        rw [HT.out]
        exact ⟨by simp [str], HB9.out⟩
    · have n1 : (k == 1) = false := beq_eq_false_iff_ne.2 (by omega)
      have n2 : (k == 2) = false := beq_eq_false_iff_ne.2 (by omega)
      have n3 : (k == 3) = false := beq_eq_false_iff_ne.2 (by omega)
      have n4 : (k == 4) = false := beq_eq_false_iff_ne.2 (by omega)
      have n5 : (k == 5) = false := beq_eq_false_iff_ne.2 (by omega)
      have n6 : (k == 6) = false := beq_eq_false_iff_ne.2 (by omega)
      have n7 : (k == 7) = false := beq_eq_false_iff_ne.2 (by omega)
      have n8 : (k == 8) = false := beq_eq_false_iff_ne.2 (by omega)
      have n9 : (k == 9) = false := beq_eq_false_iff_ne.2 (by omega)
      have n10 : (k == 10) = false := beq_eq_false_iff_ne.2 (by omega)
      have HT : As (sayL k p c x ids n = []) := ⟨by unfold sayL; rw [if_neg (by omega)]; rw [if_neg (by omega)]; rw [if_neg (by omega)]; rw [if_neg (by omega)]; rw [if_neg (by omega)]; rw [if_neg (by omega)]; rw [if_neg (by omega)]; rw [if_neg (by omega)]; rw [if_neg (by omega)]; rw [if_neg (by omega)]⟩
      have c0 := HC0.out
      clear hkn hk
      go_wp2
      go_ret
      rw [HT.out]
      exact ⟨rfl, HW0.out⟩
end Go.Proofs.YtodcbcpjlhlakaaDoor.W
