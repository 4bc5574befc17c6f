/- What is told: what stands behind a step's word: bytes and lists. -/
import Derived.Test.YtodcbcpjlhlakaaDoorR20
set_option linter.unusedVariables false
set_option linter.unusedSimpArgs false
namespace Go.Proofs.YtodcbcpjlhlakaaDoor.W
open Go.RowKit Go.Proofs.YtodcbcpjlhlakaaDoor.B Go.Proofs

set_option maxHeartbeats 4000000 in
set_option maxRecDepth 100000 in
theorem rest_7 (G n c : Nat) (A : Option Addr) (ws : List (List UInt8)) (w : World) (he : Env w) (hG : 8 ≤ G)
    (hb : Box w G #[.int .i64 7, .int .i64 0, .int .i64 0, .bool false, .slice none 0 0, .slice none 0 0] 35) (hw : Wd w G A n c ws)
    (hs : ∀ x ∈ ws, x.length ≤ 4000000) (hl : ∀ x ∈ ws, (wordsOf 44 x).length ≤ 4000000) :
    Calls Tryd.prog 32 #[.pointer (some ⟨G, 0, none⟩), .slice A n c] w (RestE 7 ws G w) := by
  have hlt := hb.lt
  have H0 : As (RS w (w.alloc (.cells #[.slice A n c] 27)) G w.heap.size [.int .i64 7, .int .i64 0, .int .i64 0, .bool false, .slice none 0 0, .slice none 0 0] (.slice A n c)) :=
    ⟨(Below.refl _ _).alloc (by omega) _, Box.below hb (below_al _ _), Box.new _ _ _, hG, hlt⟩
  have HEN := As.mk he
  have HWD := As.mk hw
  have HS := As.mk hs
  have HL := As.mk hl
  clear he hb hw hs hl hlt
  go_enter Tryd.func32, Tryd.ntmps32
  go_upto_region 2 with fail
  generalize (w.alloc (.cells #[.slice A n c] 27)) = W0 at H0 ⊢
  generalize w.heap.size = C at H0 ⊢
  rcases ws with _ | ⟨a, _ | ⟨b, r⟩⟩
  · obtain rfl : n = 0 := HWD.out.1.symm
    have HF : As (restP 7 [] = none) := ⟨by simp [restP, numd, zero, one, two]⟩
    have c0 := H0.out.cG 0 _ rfl
    have cc := H0.out.cC
    go_wp2
    go_ret
    exact rest_none HF.out H0.out.bl
  · obtain rfl : n = 1 := HWD.out.1.symm
    have HF : As (restP 7 [a] = none) := ⟨by simp [restP, numd, zero, one, two]⟩
    have c0 := H0.out.cG 0 _ rfl
    have cc := H0.out.cC
    go_wp2
    go_ret
    exact rest_none HF.out H0.out.bl
  · have hn2 : ¬ ((n : Int) < 2) := by have := HWD.out.1; simp only [List.length_cons] at this; omega
    have hnp : (0 : Int) < (n : Int) := by omega
    obtain ⟨A1, n1, c1', hS1, HW10⟩ := HWD.out.cut1
    have HW1 := As.mk HW10
    clear HW10
    obtain ⟨g, o, rfl, hc1, hc2⟩ := HWD.out.head
    have HHg := As.mk (And.intro hc1 hc2)
    clear hc1 hc2
    obtain ⟨y, hy⟩ : ∃ y, (a == [121]) = y := ⟨_, rfl⟩
    have HY := As.mk hy
    have c0 := H0.out.cG 0 _ rfl
    have c3 := H0.out.cG 3 _ rfl
    have cc := H0.out.cC
    have f3 := H0.out.fG 3
    have wa := H0.out.hd (B := G) HHg.out.1 HHg.out.2
    go_upto_region 16 with fail
    have H1 := As.mk (H0.out.setG 3 (.bool y))
    generalize (W0.setCell ⟨G, 3, none⟩ (.bool y)) = W1 at H1 ⊢
    clear c0 c3 cc f3 wa hy
    have c0 := H1.out.cG 0 _ rfl
    have cc := H1.out.cC
    have fc := H1.out.fC
    go_upto_region 17 with fail
    have H2 := As.mk (H1.out.setC (.slice A1 n1 c1'))
    generalize (W1.setCell ⟨C, 0, none⟩ (.slice A1 n1 c1')) = W2 at H2 ⊢
    clear c0 cc fc hS1
    have c0 := H2.out.cG 0 _ rfl
    have cc := H2.out.cC
    rcases r with _ | ⟨d, r⟩
    · obtain rfl : n1 = 1 := HW1.out.1.symm
      obtain ⟨g1, o1, rfl, hc1, hc2⟩ := HW1.out.head
      have HHg1 := As.mk (And.intro hc1 hc2)
      clear hc1 hc2
      have HF : As (restP 7 [a, b] = some ⟨7, 0, 0, y, bytesL b, []⟩) := ⟨by simp [restP, two, ← HY.out, beq_dec]⟩
      have wb := H2.out.hd (B := G) HHg1.out.1 HHg1.out.2
      have HBL : As (b.length ≤ 4000000) := ⟨HS.out b (by simp)⟩
      go_wp2_with (go_at_call 40; (with_reducible refine (bytes_any b HBL.out _).mono ?_); rintro e w2 ⟨r2, rfl, ho, hb⟩; obtain ⟨A2, k2, rfl, -⟩ := RdB.form ho.rd; have HO := As.mk ho; have H9 := As.mk (H2.out.below hb); clear ho hb; have c4 := H9.out.cG 4 _ rfl; have f4 := H9.out.fG 4)
      go_ret
      exact rest_some HF.out (H9.out.setG 4 _).bl (H9.out.setG 4 _).2.1 (OwS.mono (OwB.read HO.out (grown_set _ G 4 _) H2.out.2.1.lt) H2.out.bl.size) (OwW.nil _ _)
    · have HF : As (restP 7 (a :: b :: d :: r) = none) := ⟨by simp [restP, two]⟩
      have hn1 : ((n1 : Int) == 1) = false := by have := HW1.out.1; rw [beq_eq_false_iff_ne]; simp only [List.length_cons] at this; omega
      go_wp2
      go_ret
      exact rest_none HF.out H2.out.bl
set_option maxHeartbeats 4000000 in
set_option maxRecDepth 100000 in
theorem rest_1 (G n c : Nat) (A : Option Addr) (ws : List (List UInt8)) (w : World) (he : Env w) (hG : 8 ≤ G)
    (hb : Box w G #[.int .i64 1, .int .i64 0, .int .i64 0, .bool false, .slice none 0 0, .slice none 0 0] 35) (hw : Wd w G A n c ws)
    (hs : ∀ x ∈ ws, x.length ≤ 4000000) (hl : ∀ x ∈ ws, (wordsOf 44 x).length ≤ 4000000) :
    Calls Tryd.prog 32 #[.pointer (some ⟨G, 0, none⟩), .slice A n c] w (RestE 1 ws G w) := by
  have hlt := hb.lt
  have H0 : As (RS w (w.alloc (.cells #[.slice A n c] 27)) G w.heap.size [.int .i64 1, .int .i64 0, .int .i64 0, .bool false, .slice none 0 0, .slice none 0 0] (.slice A n c)) :=
    ⟨(Below.refl _ _).alloc (by omega) _, Box.below hb (below_al _ _), Box.new _ _ _, hG, hlt⟩
  have HEN := As.mk he
  have HWD := As.mk hw
  have HS := As.mk hs
  have HL := As.mk hl
  clear he hb hw hs hl hlt
  go_enter Tryd.func32, Tryd.ntmps32
  go_upto_region 2 with fail
  generalize (w.alloc (.cells #[.slice A n c] 27)) = W0 at H0 ⊢
  generalize w.heap.size = C at H0 ⊢
  rcases ws with _ | ⟨a, _ | ⟨b, r⟩⟩
  · obtain rfl : n = 0 := HWD.out.1.symm
    have HF : As (restP 1 [] = none) := ⟨by simp [restP, numd, zero, one, two]⟩
    have c0 := H0.out.cG 0 _ rfl
    have cc := H0.out.cC
    go_wp2
    go_ret
    exact rest_none HF.out H0.out.bl
  · obtain rfl : n = 1 := HWD.out.1.symm
    have HF : As (restP 1 [a] = none) := ⟨by simp [restP, numd, zero, one, two]⟩
    have c0 := H0.out.cG 0 _ rfl
    have cc := H0.out.cC
    go_wp2
    go_ret
    exact rest_none HF.out H0.out.bl
  · have hn2 : ¬ ((n : Int) < 2) := by have := HWD.out.1; simp only [List.length_cons] at this; omega
    have hnp : (0 : Int) < (n : Int) := by omega
    obtain ⟨A1, n1, c1', hS1, HW10⟩ := HWD.out.cut1
    have HW1 := As.mk HW10
    clear HW10
    obtain ⟨g, o, rfl, hc1, hc2⟩ := HWD.out.head
    have HHD := As.mk (And.intro hc1 hc2)
    clear hc1 hc2
    have HSA : As (a.length ≤ 4000000000) := ⟨by have := HS.out a (List.mem_cons_self ..); omega⟩
    obtain ⟨p, ok, hnp0⟩ : ∃ p ok, numP a = (p, ok) := ⟨_, _, rfl⟩
    have HNP := As.mk hnp0
    clear hnp0
    have c0 := H0.out.cG 0 _ rfl
    have c1 := H0.out.cG 1 _ rfl
    have cc := H0.out.cC
    cases ok with
    | false =>
      have HF : As (restP 1 (a :: b :: r) = none) := ⟨by simp [restP, numd, HNP.out]⟩
      go_wp2_with (go_at_call 37; (with_reducible refine (numbered_to G 1 C g o n c a HNP.out HSA.out _ (H0.out.env HEN.out) H0.out.cC hnp (H0.out.hd (B := G) HHD.out.1 HHD.out.2) c1 (H0.out.fG 1)).mono ?_); rintro e w2 ⟨rfl, w1, hb, rfl⟩; have H1 := As.mk ((H0.out.below hb).setG 1 (.int .i64 p)); clear hb)
      go_ret
      exact rest_none HF.out H1.out.bl
    | true =>
      go_upto_region 13 with (go_at_call 37; (with_reducible refine (numbered_to G 1 C g o n c a HNP.out HSA.out _ (H0.out.env HEN.out) H0.out.cC hnp (H0.out.hd (B := G) HHD.out.1 HHD.out.2) c1 (H0.out.fG 1)).mono ?_); rintro e w2 ⟨rfl, w1, hb, rfl⟩; have H1 := As.mk ((H0.out.below hb).setG 1 (.int .i64 p)); clear hb)
      generalize (w1.setCell ⟨G, 1, none⟩ (.int .i64 p)) = W1 at H1 ⊢
      clear c0 c1 cc
      have c0 := H1.out.cG 0 _ rfl
      have cc := H1.out.cC
      have fc := H1.out.fC
      go_upto_region 14 with fail
      have H2 := As.mk (H1.out.setC (.slice A1 n1 c1'))
      generalize (W1.setCell ⟨C, 0, none⟩ (.slice A1 n1 c1')) = W2 at H2 ⊢
      clear c0 cc fc hS1
      obtain ⟨A2', n2, c2', hS2, HW20⟩ := HW1.out.cut1
      have HW2 := As.mk HW20
      clear HW20
      obtain ⟨g1, o1, rfl, hc1, hc2⟩ := HW1.out.head
      have HHg1 := As.mk (And.intro hc1 hc2)
      clear hc1 hc2
      have hnp1 : (0 : Int) < (n1 : Int) := by have := HW1.out.1; simp only [List.length_cons] at this; omega
      obtain ⟨y, hy⟩ : ∃ y, (b == [121]) = y := ⟨_, rfl⟩
      have HY := As.mk hy
      have c0 := H2.out.cG 0 _ rfl
      have c3 := H2.out.cG 3 _ rfl
      have cc := H2.out.cC
      have f3 := H2.out.fG 3
      have wb := H2.out.hd (B := G) HHg1.out.1 HHg1.out.2
      go_upto_region 16 with fail
      have H3 := As.mk (H2.out.setG 3 (.bool y))
      generalize (W2.setCell ⟨G, 3, none⟩ (.bool y)) = W3 at H3 ⊢
      clear c0 c3 cc f3 wb hy
      have c0 := H3.out.cG 0 _ rfl
      have cc := H3.out.cC
      have fc := H3.out.fC
      go_upto_region 17 with fail
      have H4 := As.mk (H3.out.setC (.slice A2' n2 c2'))
      generalize (W3.setCell ⟨C, 0, none⟩ (.slice A2' n2 c2')) = W4 at H4 ⊢
      clear c0 cc fc hS2
      have c0 := H4.out.cG 0 _ rfl
      have cc := H4.out.cC
      rcases r with _ | ⟨d, _ | ⟨d2, r⟩⟩
      · obtain rfl : n2 = 0 := HW2.out.1.symm
        have HF : As (restP 1 [a, b] = none) := ⟨by simp [restP, numd, two]⟩
        go_wp2
        go_ret
        exact rest_none HF.out H4.out.bl
      · obtain rfl : n2 = 1 := HW2.out.1.symm
        obtain ⟨g2, o2, rfl, hc1, hc2⟩ := HW2.out.head
        have HHg2 := As.mk (And.intro hc1 hc2)
        clear hc1 hc2
        have HF : As (restP 1 [a, b, d] = some ⟨1, p, 0, y, bytesL d, []⟩) := ⟨by simp [restP, numd, two, HNP.out, ← HY.out, beq_dec]⟩
        have wd := H4.out.hd (B := G) HHg2.out.1 HHg2.out.2
        have HBL : As (d.length ≤ 4000000) := ⟨HS.out d (by simp)⟩
        go_wp2_with (go_at_call 40; (with_reducible refine (bytes_any d HBL.out _).mono ?_); rintro e w2 ⟨r2, rfl, ho, hb⟩; obtain ⟨A2, k2, rfl, -⟩ := RdB.form ho.rd; have HO := As.mk ho; have H9 := As.mk (H4.out.below hb); clear ho hb; have c4 := H9.out.cG 4 _ rfl; have f4 := H9.out.fG 4)
        go_ret
        exact rest_some HF.out (H9.out.setG 4 _).bl (H9.out.setG 4 _).2.1 (OwS.mono (OwB.read HO.out (grown_set _ G 4 _) H4.out.2.1.lt) H4.out.bl.size) (OwW.nil _ _)
      · have HF : As (restP 1 (a :: b :: d :: d2 :: r) = none) := ⟨by simp [restP, numd, two]⟩
        have hn1 : ((n2 : Int) == 1) = false := by have := HW2.out.1; rw [beq_eq_false_iff_ne]; simp only [List.length_cons] at this; omega
        go_wp2
        go_ret
        exact rest_none HF.out H4.out.bl
set_option maxHeartbeats 4000000 in
set_option maxRecDepth 100000 in
theorem rest_2 (G n c : Nat) (A : Option Addr) (ws : List (List UInt8)) (w : World) (he : Env w) (hG : 8 ≤ G)
    (hb : Box w G #[.int .i64 2, .int .i64 0, .int .i64 0, .bool false, .slice none 0 0, .slice none 0 0] 35) (hw : Wd w G A n c ws)
    (hs : ∀ x ∈ ws, x.length ≤ 4000000) (hl : ∀ x ∈ ws, (wordsOf 44 x).length ≤ 4000000) :
    Calls Tryd.prog 32 #[.pointer (some ⟨G, 0, none⟩), .slice A n c] w (RestE 2 ws G w) := by
  have hlt := hb.lt
  have H0 : As (RS w (w.alloc (.cells #[.slice A n c] 27)) G w.heap.size [.int .i64 2, .int .i64 0, .int .i64 0, .bool false, .slice none 0 0, .slice none 0 0] (.slice A n c)) :=
    ⟨(Below.refl _ _).alloc (by omega) _, Box.below hb (below_al _ _), Box.new _ _ _, hG, hlt⟩
  have HEN := As.mk he
  have HWD := As.mk hw
  have HS := As.mk hs
  have HL := As.mk hl
  clear he hb hw hs hl hlt
  go_enter Tryd.func32, Tryd.ntmps32
  go_upto_region 2 with fail
  generalize (w.alloc (.cells #[.slice A n c] 27)) = W0 at H0 ⊢
  generalize w.heap.size = C at H0 ⊢
  rcases ws with _ | ⟨a, _ | ⟨b, r⟩⟩
  · obtain rfl : n = 0 := HWD.out.1.symm
    have HF : As (restP 2 [] = none) := ⟨by simp [restP, numd, zero, one, two]⟩
    have c0 := H0.out.cG 0 _ rfl
    have cc := H0.out.cC
    go_wp2
    go_ret
    exact rest_none HF.out H0.out.bl
  · obtain rfl : n = 1 := HWD.out.1.symm
    have HF : As (restP 2 [a] = none) := ⟨by simp [restP, numd, zero, one, two]⟩
    have c0 := H0.out.cG 0 _ rfl
    have cc := H0.out.cC
    go_wp2
    go_ret
    exact rest_none HF.out H0.out.bl
  · have hn2 : ¬ ((n : Int) < 2) := by have := HWD.out.1; simp only [List.length_cons] at this; omega
    have hnp : (0 : Int) < (n : Int) := by omega
    obtain ⟨A1, n1, c1', hS1, HW10⟩ := HWD.out.cut1
    have HW1 := As.mk HW10
    clear HW10
    obtain ⟨g, o, rfl, hc1, hc2⟩ := HWD.out.head
    have HHD := As.mk (And.intro hc1 hc2)
    clear hc1 hc2
    have HSA : As (a.length ≤ 4000000000) := ⟨by have := HS.out a (List.mem_cons_self ..); omega⟩
    obtain ⟨p, ok, hnp0⟩ : ∃ p ok, numP a = (p, ok) := ⟨_, _, rfl⟩
    have HNP := As.mk hnp0
    clear hnp0
    have c0 := H0.out.cG 0 _ rfl
    have c1 := H0.out.cG 1 _ rfl
    have cc := H0.out.cC
    cases ok with
    | false =>
      have HF : As (restP 2 (a :: b :: r) = none) := ⟨by simp [restP, numd, HNP.out]⟩
      go_wp2_with (go_at_call 37; (with_reducible refine (numbered_to G 1 C g o n c a HNP.out HSA.out _ (H0.out.env HEN.out) H0.out.cC hnp (H0.out.hd (B := G) HHD.out.1 HHD.out.2) c1 (H0.out.fG 1)).mono ?_); rintro e w2 ⟨rfl, w1, hb, rfl⟩; have H1 := As.mk ((H0.out.below hb).setG 1 (.int .i64 p)); clear hb)
      go_ret
      exact rest_none HF.out H1.out.bl
    | true =>
      go_upto_region 13 with (go_at_call 37; (with_reducible refine (numbered_to G 1 C g o n c a HNP.out HSA.out _ (H0.out.env HEN.out) H0.out.cC hnp (H0.out.hd (B := G) HHD.out.1 HHD.out.2) c1 (H0.out.fG 1)).mono ?_); rintro e w2 ⟨rfl, w1, hb, rfl⟩; have H1 := As.mk ((H0.out.below hb).setG 1 (.int .i64 p)); clear hb)
      generalize (w1.setCell ⟨G, 1, none⟩ (.int .i64 p)) = W1 at H1 ⊢
      clear c0 c1 cc
      have c0 := H1.out.cG 0 _ rfl
      have cc := H1.out.cC
      have fc := H1.out.fC
      go_upto_region 14 with fail
      have H2 := As.mk (H1.out.setC (.slice A1 n1 c1'))
      generalize (W1.setCell ⟨C, 0, none⟩ (.slice A1 n1 c1')) = W2 at H2 ⊢
      clear c0 cc fc hS1
      obtain ⟨A2', n2, c2', hS2, HW20⟩ := HW1.out.cut1
      have HW2 := As.mk HW20
      clear HW20
      obtain ⟨g1, o1, rfl, hc1, hc2⟩ := HW1.out.head
      have HHg1 := As.mk (And.intro hc1 hc2)
      clear hc1 hc2
      have hnp1 : (0 : Int) < (n1 : Int) := by have := HW1.out.1; simp only [List.length_cons] at this; omega
      obtain ⟨y, hy⟩ : ∃ y, (b == [121]) = y := ⟨_, rfl⟩
      have HY := As.mk hy
      have c0 := H2.out.cG 0 _ rfl
      have c3 := H2.out.cG 3 _ rfl
      have cc := H2.out.cC
      have f3 := H2.out.fG 3
      have wb := H2.out.hd (B := G) HHg1.out.1 HHg1.out.2
      go_upto_region 16 with fail
      have H3 := As.mk (H2.out.setG 3 (.bool y))
      generalize (W2.setCell ⟨G, 3, none⟩ (.bool y)) = W3 at H3 ⊢
      clear c0 c3 cc f3 wb hy
      have c0 := H3.out.cG 0 _ rfl
      have cc := H3.out.cC
      have fc := H3.out.fC
      go_upto_region 17 with fail
      have H4 := As.mk (H3.out.setC (.slice A2' n2 c2'))
      generalize (W3.setCell ⟨C, 0, none⟩ (.slice A2' n2 c2')) = W4 at H4 ⊢
      clear c0 cc fc hS2
      have c0 := H4.out.cG 0 _ rfl
      have cc := H4.out.cC
      rcases r with _ | ⟨d, _ | ⟨d2, r⟩⟩
      · obtain rfl : n2 = 0 := HW2.out.1.symm
        have HF : As (restP 2 [a, b] = none) := ⟨by simp [restP, numd, two]⟩
        go_wp2
        go_ret
        exact rest_none HF.out H4.out.bl
      · obtain rfl : n2 = 1 := HW2.out.1.symm
        obtain ⟨g2, o2, rfl, hc1, hc2⟩ := HW2.out.head
        have HHg2 := As.mk (And.intro hc1 hc2)
        clear hc1 hc2
        have HF : As (restP 2 [a, b, d] = some ⟨2, p, 0, y, [], listsL d⟩) := ⟨by simp [restP, numd, two, HNP.out, ← HY.out, beq_dec]⟩
        have wd := H4.out.hd (B := G) HHg2.out.1 HHg2.out.2
        have HBL : As (d.length ≤ 4000000) := ⟨HS.out d (by simp)⟩
        have HBW : As ((wordsOf 44 d).length ≤ 4000000) := ⟨HL.out d (by simp)⟩
        have HBX : As (∀ x ∈ wordsOf 44 d, x.length ≤ 4000000) := ⟨fun x hx => by rw [wordsOf_eq] at hx; have := (cutW_bounds 44 d).2 x hx; have := HBL.out; omega⟩
        go_wp2_with (go_at_call 39; (with_reducible refine (lists_any d HBL.out _ (H4.out.env HEN.out) HBW.out HBX.out).mono ?_); rintro e w2 ⟨r2, rfl, ho, hb⟩; obtain ⟨A2, k2, rfl, -⟩ := ho.rd.form; have HO := As.mk ho; have H9 := As.mk (H4.out.below hb); clear ho hb; have c5 := H9.out.cG 5 _ rfl; have f5 := H9.out.fG 5)
        go_ret
        exact rest_some HF.out (H9.out.setG 5 _).bl (H9.out.setG 5 _).2.1 (OwS.nil _ _ _ _) (OwW.mono (OwW.read HO.out (grown_set _ G 5 _) H4.out.2.1.lt) H4.out.bl.size)
      · have HF : As (restP 2 (a :: b :: d :: d2 :: r) = none) := ⟨by simp [restP, numd, two]⟩
        have hn1 : ((n2 : Int) == 1) = false := by have := HW2.out.1; rw [beq_eq_false_iff_ne]; simp only [List.length_cons] at this; omega
        go_wp2
        go_ret
        exact rest_none HF.out H4.out.bl
set_option maxHeartbeats 4000000 in
set_option maxRecDepth 100000 in
theorem rest_3 (G n c : Nat) (A : Option Addr) (ws : List (List UInt8)) (w : World) (he : Env w) (hG : 8 ≤ G)
    (hb : Box w G #[.int .i64 3, .int .i64 0, .int .i64 0, .bool false, .slice none 0 0, .slice none 0 0] 35) (hw : Wd w G A n c ws)
    (hs : ∀ x ∈ ws, x.length ≤ 4000000) (hl : ∀ x ∈ ws, (wordsOf 44 x).length ≤ 4000000) :
    Calls Tryd.prog 32 #[.pointer (some ⟨G, 0, none⟩), .slice A n c] w (RestE 3 ws G w) := by
  have hlt := hb.lt
  have H0 : As (RS w (w.alloc (.cells #[.slice A n c] 27)) G w.heap.size [.int .i64 3, .int .i64 0, .int .i64 0, .bool false, .slice none 0 0, .slice none 0 0] (.slice A n c)) :=
    ⟨(Below.refl _ _).alloc (by omega) _, Box.below hb (below_al _ _), Box.new _ _ _, hG, hlt⟩
  have HEN := As.mk he
  have HWD := As.mk hw
  have HS := As.mk hs
  have HL := As.mk hl
  clear he hb hw hs hl hlt
  go_enter Tryd.func32, Tryd.ntmps32
  go_upto_region 2 with fail
  generalize (w.alloc (.cells #[.slice A n c] 27)) = W0 at H0 ⊢
  generalize w.heap.size = C at H0 ⊢
  rcases ws with _ | ⟨a, _ | ⟨b, r⟩⟩
  · obtain rfl : n = 0 := HWD.out.1.symm
    have HF : As (restP 3 [] = none) := ⟨by simp [restP, numd, zero, one, two]⟩
    have c0 := H0.out.cG 0 _ rfl
    have cc := H0.out.cC
    go_wp2
    go_ret
    exact rest_none HF.out H0.out.bl
  · obtain rfl : n = 1 := HWD.out.1.symm
    have HF : As (restP 3 [a] = none) := ⟨by simp [restP, numd, zero, one, two]⟩
    have c0 := H0.out.cG 0 _ rfl
    have cc := H0.out.cC
    go_wp2
    go_ret
    exact rest_none HF.out H0.out.bl
  · have hn2 : ¬ ((n : Int) < 2) := by have := HWD.out.1; simp only [List.length_cons] at this; omega
    have hnp : (0 : Int) < (n : Int) := by omega
    obtain ⟨A1, n1, c1', hS1, HW10⟩ := HWD.out.cut1
    have HW1 := As.mk HW10
    clear HW10
    obtain ⟨g, o, rfl, hc1, hc2⟩ := HWD.out.head
    have HHD := As.mk (And.intro hc1 hc2)
    clear hc1 hc2
    have HSA : As (a.length ≤ 4000000000) := ⟨by have := HS.out a (List.mem_cons_self ..); omega⟩
    obtain ⟨p, ok, hnp0⟩ : ∃ p ok, numP a = (p, ok) := ⟨_, _, rfl⟩
    have HNP := As.mk hnp0
    clear hnp0
    have c0 := H0.out.cG 0 _ rfl
    have c1 := H0.out.cG 1 _ rfl
    have cc := H0.out.cC
    cases ok with
    | false =>
      have HF : As (restP 3 (a :: b :: r) = none) := ⟨by simp [restP, numd, HNP.out]⟩
      go_wp2_with (go_at_call 37; (with_reducible refine (numbered_to G 1 C g o n c a HNP.out HSA.out _ (H0.out.env HEN.out) H0.out.cC hnp (H0.out.hd (B := G) HHD.out.1 HHD.out.2) c1 (H0.out.fG 1)).mono ?_); rintro e w2 ⟨rfl, w1, hb, rfl⟩; have H1 := As.mk ((H0.out.below hb).setG 1 (.int .i64 p)); clear hb)
      go_ret
      exact rest_none HF.out H1.out.bl
    | true =>
      go_upto_region 13 with (go_at_call 37; (with_reducible refine (numbered_to G 1 C g o n c a HNP.out HSA.out _ (H0.out.env HEN.out) H0.out.cC hnp (H0.out.hd (B := G) HHD.out.1 HHD.out.2) c1 (H0.out.fG 1)).mono ?_); rintro e w2 ⟨rfl, w1, hb, rfl⟩; have H1 := As.mk ((H0.out.below hb).setG 1 (.int .i64 p)); clear hb)
      generalize (w1.setCell ⟨G, 1, none⟩ (.int .i64 p)) = W1 at H1 ⊢
      clear c0 c1 cc
      have c0 := H1.out.cG 0 _ rfl
      have cc := H1.out.cC
      have fc := H1.out.fC
      go_upto_region 14 with fail
      have H2 := As.mk (H1.out.setC (.slice A1 n1 c1'))
      generalize (W1.setCell ⟨C, 0, none⟩ (.slice A1 n1 c1')) = W2 at H2 ⊢
      clear c0 cc fc hS1
      have c0 := H2.out.cG 0 _ rfl
      have cc := H2.out.cC
      rcases r with _ | ⟨d, r⟩
      · obtain rfl : n1 = 1 := HW1.out.1.symm
        obtain ⟨g1, o1, rfl, hc1, hc2⟩ := HW1.out.head
        have HHg1 := As.mk (And.intro hc1 hc2)
        clear hc1 hc2
        have HF : As (restP 3 [a, b] = some ⟨3, p, 0, false, bytesL b, []⟩) := ⟨by simp [restP, numd, one, HNP.out]⟩
        have wb := H2.out.hd (B := G) HHg1.out.1 HHg1.out.2
        have HBL : As (b.length ≤ 4000000) := ⟨HS.out b (by simp)⟩
        go_wp2_with (go_at_call 40; (with_reducible refine (bytes_any b HBL.out _).mono ?_); rintro e w2 ⟨r2, rfl, ho, hb⟩; obtain ⟨A2, k2, rfl, -⟩ := RdB.form ho.rd; have HO := As.mk ho; have H9 := As.mk (H2.out.below hb); clear ho hb; have c4 := H9.out.cG 4 _ rfl; have f4 := H9.out.fG 4)
        go_ret
        exact rest_some HF.out (H9.out.setG 4 _).bl (H9.out.setG 4 _).2.1 (OwS.mono (OwB.read HO.out (grown_set _ G 4 _) H2.out.2.1.lt) H2.out.bl.size) (OwW.nil _ _)
      · have HF : As (restP 3 (a :: b :: d :: r) = none) := ⟨by simp [restP, numd, one]⟩
        have hn1 : ((n1 : Int) == 1) = false := by have := HW1.out.1; rw [beq_eq_false_iff_ne]; simp only [List.length_cons] at this; omega
        go_wp2
        go_ret
        exact rest_none HF.out H2.out.bl
set_option maxHeartbeats 4000000 in
set_option maxRecDepth 100000 in
theorem rest_4 (G n c : Nat) (A : Option Addr) (ws : List (List UInt8)) (w : World) (he : Env w) (hG : 8 ≤ G)
    (hb : Box w G #[.int .i64 4, .int .i64 0, .int .i64 0, .bool false, .slice none 0 0, .slice none 0 0] 35) (hw : Wd w G A n c ws)
    (hs : ∀ x ∈ ws, x.length ≤ 4000000) (hl : ∀ x ∈ ws, (wordsOf 44 x).length ≤ 4000000) :
    Calls Tryd.prog 32 #[.pointer (some ⟨G, 0, none⟩), .slice A n c] w (RestE 4 ws G w) := by
  have hlt := hb.lt
  have H0 : As (RS w (w.alloc (.cells #[.slice A n c] 27)) G w.heap.size [.int .i64 4, .int .i64 0, .int .i64 0, .bool false, .slice none 0 0, .slice none 0 0] (.slice A n c)) :=
    ⟨(Below.refl _ _).alloc (by omega) _, Box.below hb (below_al _ _), Box.new _ _ _, hG, hlt⟩
  have HEN := As.mk he
  have HWD := As.mk hw
  have HS := As.mk hs
  have HL := As.mk hl
  clear he hb hw hs hl hlt
  go_enter Tryd.func32, Tryd.ntmps32
  go_upto_region 2 with fail
  generalize (w.alloc (.cells #[.slice A n c] 27)) = W0 at H0 ⊢
  generalize w.heap.size = C at H0 ⊢
  rcases ws with _ | ⟨a, _ | ⟨b, r⟩⟩
  · obtain rfl : n = 0 := HWD.out.1.symm
    have HF : As (restP 4 [] = none) := ⟨by simp [restP, numd, zero, one, two]⟩
    have c0 := H0.out.cG 0 _ rfl
    have cc := H0.out.cC
    go_wp2
    go_ret
    exact rest_none HF.out H0.out.bl
  · obtain rfl : n = 1 := HWD.out.1.symm
    have HF : As (restP 4 [a] = none) := ⟨by simp [restP, numd, zero, one, two]⟩
    have c0 := H0.out.cG 0 _ rfl
    have cc := H0.out.cC
    go_wp2
    go_ret
    exact rest_none HF.out H0.out.bl
  · have hn2 : ¬ ((n : Int) < 2) := by have := HWD.out.1; simp only [List.length_cons] at this; omega
    have hnp : (0 : Int) < (n : Int) := by omega
    obtain ⟨A1, n1, c1', hS1, HW10⟩ := HWD.out.cut1
    have HW1 := As.mk HW10
    clear HW10
    obtain ⟨g, o, rfl, hc1, hc2⟩ := HWD.out.head
    have HHD := As.mk (And.intro hc1 hc2)
    clear hc1 hc2
    have HSA : As (a.length ≤ 4000000000) := ⟨by have := HS.out a (List.mem_cons_self ..); omega⟩
    obtain ⟨p, ok, hnp0⟩ : ∃ p ok, numP a = (p, ok) := ⟨_, _, rfl⟩
    have HNP := As.mk hnp0
    clear hnp0
    have c0 := H0.out.cG 0 _ rfl
    have c1 := H0.out.cG 1 _ rfl
    have cc := H0.out.cC
    cases ok with
    | false =>
      have HF : As (restP 4 (a :: b :: r) = none) := ⟨by simp [restP, numd, HNP.out]⟩
      go_wp2_with (go_at_call 37; (with_reducible refine (numbered_to G 1 C g o n c a HNP.out HSA.out _ (H0.out.env HEN.out) H0.out.cC hnp (H0.out.hd (B := G) HHD.out.1 HHD.out.2) c1 (H0.out.fG 1)).mono ?_); rintro e w2 ⟨rfl, w1, hb, rfl⟩; have H1 := As.mk ((H0.out.below hb).setG 1 (.int .i64 p)); clear hb)
      go_ret
      exact rest_none HF.out H1.out.bl
    | true =>
      go_upto_region 13 with (go_at_call 37; (with_reducible refine (numbered_to G 1 C g o n c a HNP.out HSA.out _ (H0.out.env HEN.out) H0.out.cC hnp (H0.out.hd (B := G) HHD.out.1 HHD.out.2) c1 (H0.out.fG 1)).mono ?_); rintro e w2 ⟨rfl, w1, hb, rfl⟩; have H1 := As.mk ((H0.out.below hb).setG 1 (.int .i64 p)); clear hb)
      generalize (w1.setCell ⟨G, 1, none⟩ (.int .i64 p)) = W1 at H1 ⊢
      clear c0 c1 cc
      have c0 := H1.out.cG 0 _ rfl
      have cc := H1.out.cC
      have fc := H1.out.fC
      go_upto_region 14 with fail
      have H2 := As.mk (H1.out.setC (.slice A1 n1 c1'))
      generalize (W1.setCell ⟨C, 0, none⟩ (.slice A1 n1 c1')) = W2 at H2 ⊢
      clear c0 cc fc hS1
      have c0 := H2.out.cG 0 _ rfl
      have cc := H2.out.cC
      rcases r with _ | ⟨d, r⟩
      · obtain rfl : n1 = 1 := HW1.out.1.symm
        obtain ⟨g1, o1, rfl, hc1, hc2⟩ := HW1.out.head
        have HHg1 := As.mk (And.intro hc1 hc2)
        clear hc1 hc2
        have HF : As (restP 4 [a, b] = some ⟨4, p, 0, false, [], listsL b⟩) := ⟨by simp [restP, numd, one, HNP.out]⟩
        have wb := H2.out.hd (B := G) HHg1.out.1 HHg1.out.2
        have HBL : As (b.length ≤ 4000000) := ⟨HS.out b (by simp)⟩
        have HBW : As ((wordsOf 44 b).length ≤ 4000000) := ⟨HL.out b (by simp)⟩
        have HBX : As (∀ x ∈ wordsOf 44 b, x.length ≤ 4000000) := ⟨fun x hx => by rw [wordsOf_eq] at hx; have := (cutW_bounds 44 b).2 x hx; have := HBL.out; omega⟩
        go_wp2_with (go_at_call 39; (with_reducible refine (lists_any b HBL.out _ (H2.out.env HEN.out) HBW.out HBX.out).mono ?_); rintro e w2 ⟨r2, rfl, ho, hb⟩; obtain ⟨A2, k2, rfl, -⟩ := ho.rd.form; have HO := As.mk ho; have H9 := As.mk (H2.out.below hb); clear ho hb; have c5 := H9.out.cG 5 _ rfl; have f5 := H9.out.fG 5)
        go_ret
        exact rest_some HF.out (H9.out.setG 5 _).bl (H9.out.setG 5 _).2.1 (OwS.nil _ _ _ _) (OwW.mono (OwW.read HO.out (grown_set _ G 5 _) H2.out.2.1.lt) H2.out.bl.size)
      · have HF : As (restP 4 (a :: b :: d :: r) = none) := ⟨by simp [restP, numd, one]⟩
        have hn1 : ((n1 : Int) == 1) = false := by have := HW1.out.1; rw [beq_eq_false_iff_ne]; simp only [List.length_cons] at this; omega
        go_wp2
        go_ret
        exact rest_none HF.out H2.out.bl
/-- What stands behind a step's word is taken. -/
theorem rest_any (k : Int) (hk : 1 ≤ k ∧ k ≤ 9) (G n c : Nat) (A : Option Addr) (ws : List (List UInt8)) (w : World) (he : Env w) (hG : 8 ≤ G)
    (hb : Box w G #[.int .i64 k, .int .i64 0, .int .i64 0, .bool false, .slice none 0 0, .slice none 0 0] 35) (hw : Wd w G A n c ws)
    (hs : ∀ x ∈ ws, x.length ≤ 4000000) (hl : ∀ x ∈ ws, (wordsOf 44 x).length ≤ 4000000) :
    Calls Tryd.prog 32 #[.pointer (some ⟨G, 0, none⟩), .slice A n c] w (RestE k ws G w) := by
  rcases (by omega : k = 1 ∨ k = 2 ∨ k = 3 ∨ k = 4 ∨ k = 5 ∨ k = 6 ∨ k = 7 ∨ k = 8 ∨ k = 9) with rfl | rfl | rfl | rfl | rfl | rfl | rfl | rfl | rfl
  · exact rest_1 G n c A ws w he hG hb hw hs hl
  · exact rest_2 G n c A ws w he hG hb hw hs hl
  · exact rest_3 G n c A ws w he hG hb hw hs hl
  · exact rest_4 G n c A ws w he hG hb hw hs hl
  · exact rest_5 G n c A ws w he hG hb hw hs hl
  · exact rest_6 G n c A ws w he hG hb hw hs hl
  · exact rest_7 G n c A ws w he hG hb hw hs hl
  · exact rest_8 G n c A ws w he hG hb hw hs hl
  · exact rest_9 G n c A ws w he hG hb hw hs hl
theorem rest_no (k : Int) (hk : 1 ≤ k ∧ k ≤ 9) (G n c : Nat) (A : Option Addr) (ws : List (List UInt8)) (w : World) (hz : restP k ws = none) (he : Env w) (hG : 8 ≤ G)
    (hb : Box w G #[.int .i64 k, .int .i64 0, .int .i64 0, .bool false, .slice none 0 0, .slice none 0 0] 35) (hw : Wd w G A n c ws)
    (hs : ∀ x ∈ ws, x.length ≤ 4000000) (hl : ∀ x ∈ ws, (wordsOf 44 x).length ≤ 4000000) :
    Calls Tryd.prog 32 #[.pointer (some ⟨G, 0, none⟩), .slice A n c] w fun e w' => e = .returned (.bool false) ∧ Below G w w' := by
  refine (rest_any k hk G n c A ws w he hG hb hw hs hl).mono ?_
  rintro e w' ⟨rfl, h2, h3⟩
  exact ⟨by rw [hz]; rfl, h2⟩
theorem rest_yes (k : Int) (hk : 1 ≤ k ∧ k ≤ 9) (G n c : Nat) (A : Option Addr) (ws : List (List UInt8)) (w : World) {k' p m : Int} {g : Bool} {bs : List UInt8} {ls : List (List UInt8)} (hz : restP k ws = some ⟨k', p, m, g, bs, ls⟩) (he : Env w) (hG : 8 ≤ G)
    (hb : Box w G #[.int .i64 k, .int .i64 0, .int .i64 0, .bool false, .slice none 0 0, .slice none 0 0] 35) (hw : Wd w G A n c ws)
    (hs : ∀ x ∈ ws, x.length ≤ 4000000) (hl : ∀ x ∈ ws, (wordsOf 44 x).length ≤ 4000000) :
    Calls Tryd.prog 32 #[.pointer (some ⟨G, 0, none⟩), .slice A n c] w fun e w' => e = .returned (.bool true) ∧ Below G w w' ∧ ∃ bv lv, Box w' G #[.int .i64 k, .int .i64 p, .int .i64 m, .bool g, bv, lv] 35 ∧ OwB w' w.heap.size 5 bv bs ∧ OwW w' w.heap.size lv ls := by
  refine (rest_any k hk G n c A ws w he hG hb hw hs hl).mono ?_
  rintro e w' ⟨rfl, h2, h3⟩
  exact ⟨by rw [hz]; rfl, h2, h3 _ hz⟩
end Go.Proofs.YtodcbcpjlhlakaaDoor.W
