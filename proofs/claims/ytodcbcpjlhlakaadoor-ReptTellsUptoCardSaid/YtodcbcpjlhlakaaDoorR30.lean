/- What is said tells its kind by its first word, and its names by their first eight digits, none by a stroke. -/
import Derived.Test.YtodcbcpjlhlakaaDoorR29
set_option linter.unusedVariables false
set_option linter.unusedSimpArgs false
namespace Go.Proofs.YtodcbcpjlhlakaaDoor.W
open Go.RowKit Go.Proofs.YtodcbcpjlhlakaaDoor.B Go.Proofs

theorem say_to (k p c : Int) (x : List UInt8) (cs : List Value) (hcs : cs = x.map u8v) (iv : Value) (ids : List (List UInt8)) (n : Nat) {T : List UInt8} (hT : sayL k p c x ids n = T) (w : World) (hx : x.length = 32) (hr : RdN w iv ids) (hl : ids.length ≤ 2000000) (hn : n < 18446744073709551616)
    (hk : -9223372036854775808 ≤ k ∧ k ≤ 9223372036854775807) (hp : -9223372036854775808 ≤ p ∧ p ≤ 9223372036854775807) (hc : -9223372036854775808 ≤ c ∧ c ≤ 9223372036854775807) (he : Env w) :
    Calls Tryd.prog 7 #[.agg (sayC k p c cs iv n).toArray] w fun e w' => e = .returned (.string ⟨T.toArray⟩) ∧ Below w.heap.size w w' := by
  subst hcs
  rw [← hT]
  exact say_any k p c x iv ids n w hx hr hl hn hk hp hc he
set_option maxHeartbeats 16000000 in
set_option maxRecDepth 100000 in
theorem says_walk (x y : List UInt8) (hx : x.length = 32) (hy : y.length = 32) (n kind : Int) (w : World) (he : Env w) : Calls Tryd.prog 3 #[.agg (x.map u8v).toArray, .agg (y.map u8v).toArray, .int .i64 n, .int .i64 kind] w fun e w' => e = .returned (.bool true) ∧ Below w.heap.size w w' := by
  obtain ⟨NN, hN, hN0, hN4⟩ := mask_int n 2 3 (by decide) (by decide)
  obtain ⟨KB, hKB, hKB0, hKB1⟩ := mask_int kind 8 255 (by decide) (by decide)
  obtain ⟨N, rfl⟩ := Int.eq_ofNat_of_zero_le hN0
  have hN3 : (N : Int) ≤ 3 := by have e2 : ((2 ^ 2 : Nat) : Int) = 4 := rfl; omega
  obtain ⟨K, hK⟩ : ∃ K, K = KB % 10 + 1 := ⟨_, rfl⟩
  have hKt : KB.tmod 10 = K - 1 := by rw [Int.tmod_eq_emod_of_nonneg hKB0]; omega
  have hKe : KB % 10 = K - 1 := by omega
  have hK1 : 1 ≤ K := by omega
  have hK10 : K ≤ 10 := by omega
  have hKs : K - 1 + 1 = K := by omega
  have hKw : wrap64 K = K := IntWalk.wrap64_in K ⟨by omega, by omega⟩
  clear hK hKB0 hKB1 hN0 hN4
  obtain ⟨cx, hcx⟩ : ∃ c, c = x.map u8v := ⟨_, rfl⟩
  obtain ⟨cy, hcy⟩ : ∃ c, c = y.map u8v := ⟨_, rfl⟩
  have HCX := As.mk hcx
  have HCY := As.mk hcy
  have HX := As.mk hx
  have HY := As.mk hy
  have HLX : As (cx.length = 32) := ⟨by rw [hcx]; simp [hx]⟩
  have HLY : As (cy.length = 32) := ⟨by rw [hcy]; simp [hy]⟩
  have hsx : cx.toArray.size = 32 := by have := HLX.out; simpa using this
  have hsy : cy.toArray.size = 32 := by have := HLY.out; simpa using this
  have HEN := As.mk he
  have H1Y : As (∀ u ∈ cy, u.oneCell' = true) := ⟨by rw [hcy]; exact u8v_one y⟩
  obtain ⟨it, hit⟩ := Option.map_eq_some_iff.1 info22z
  have HIT := As.mk hit
  rw [← hcx, ← hcy]
  clear hcx hcy hx hy he hit
  go_enter Tryd.func3, Tryd.ntmps3
  go_upto_region 1 with fail
  have HS0 : As (Below w.heap.size w ((w.alloc (.cells cx.toArray 22)).alloc (.cells cy.toArray 22)) ∧ Box ((w.alloc (.cells cx.toArray 22)).alloc (.cells cy.toArray 22)) w.heap.size cx.toArray 22 ∧ Box ((w.alloc (.cells cx.toArray 22)).alloc (.cells cy.toArray 22)) (w.heap.size + 1) cy.toArray 22) := ⟨by
    refine ⟨(below_al w _).alloc (by simp) _, Box.below (Box.new w _ 22) (below_al _ _), ?_⟩
    have h := Box.new (w.alloc (.cells cx.toArray 22)) cy.toArray 22
    simpa using h⟩
  have HLT0 := As.mk HS0.out.2.2.lt
  generalize ((w.alloc (.cells cx.toArray 22)).alloc (.cells cy.toArray 22)) = W0 at HS0 HLT0 ⊢
  obtain ⟨Y, hY⟩ : ∃ Y, Y = w.heap.size + 1 := ⟨_, rfl⟩
  rw [← hY] at HS0 HLT0 ⊢
  obtain ⟨X, hX⟩ : ∃ X, X = w.heap.size := ⟨_, rfl⟩
  have HXY : As (w.heap.size ≤ X ∧ X < Y) := ⟨by omega⟩
  rw [← hX]
  clear hY
  have HBX : As (Box W0 X cx.toArray 22) := ⟨by rw [hX]; exact HS0.out.2.1⟩
  clear hX
  have HRX : As (W0.rangeAt X 0 cx) := ⟨fun j v hv => by rw [Nat.zero_add]; exact HBX.out.cell j v (by simpa using hv)⟩
  have HCL : As ((sayC K 3 4 cx (.slice none 0 0) 5).length = 37) := ⟨sayC_len HLX.out⟩
  have HC1 : As (∀ v ∈ sayC K 3 4 cx (.slice none 0 0) 5, v.oneCell' = true) := ⟨by rw [HCX.out]; exact sayC_one rfl⟩
  go_upto_region 2 with (first | ((with_reducible refine wpList_load_mid (op := ⟨_, .load 22 (.tmp 4), _, _, _, _⟩) ?hgd 22 (.tmp 4) rfl _ _ ?hx cx _ HRX.out Tryd.underlying22 rfl ?hi ?_); (case hgd => exact rfl); (case hx => exact rfl); (case hi => rw [HLX.out]; kernel_rfl)) | ((with_reducible refine wpList_build_to (o := ⟨_, .build 26 #[(0, .tmp 19), (1, .const (.int .i64 3)), (2, .const (.int .i64 4)), (3, .tmp 20), (5, .const (.int .u64 5))], _, _, _, _⟩) ?hgd 26 _ rfl (sayC K 3 4 cx (.slice none 0 0) 5).toArray ?hf ?_); (case hgd => exact rfl); (case hf => simp only [List.map_toArray, List.map_cons, List.map_nil]; exact built26 cx HLX.out K)) | ((with_reducible refine wpList_store_new (op := ⟨_, .store 26 (.tmp 9) (.tmp 21), _, _, _, _⟩) ?hgd 26 (.tmp 9) (.tmp 21) rfl (W0) ?cc26 (sayC K 3 4 cx (.slice none 0 0) 5) ?hw ?hx ?hy ?hi ?hc HC1.out ?_); (case hgd => exact rfl); (case hw => exact rfl); (case hx => exact rfl); (case hy => exact rfl); (case hi => rw [HCL.out]; kernel_rfl); (case hc => rw [HCL.out]; exact rfl)))
  have HS1 : As (SS w (W0.alloc (.cells (sayC K 3 4 cx (.slice none 0 0) 5).toArray 26)) X Y W0.heap.size cx cy (sayC K 3 4 cx (.slice none 0 0) 5)) := ⟨by
    refine ⟨HS0.out.1.alloc HS0.out.1.size _, Box.below HBX.out (below_al _ _), Box.below HS0.out.2.2 (below_al _ _), Box.new _ _ _, HXY.out.1, HXY.out.2, HLT0.out⟩⟩
  generalize (W0.alloc (.cells (sayC K 3 4 cx (.slice none 0 0) 5).toArray 26)) = W1 at HS1 ⊢
  generalize W0.heap.size = G at HS1 ⊢
  clear HS0 HBX HRX HLT0 HXY hKB hKt hKe hKs hKw
  go_wp2
  have HOZ : As (OwR W1 (G + 1) (.slice none 0 0) 0 cy) := ⟨OwS.nil _ _ _ _⟩
  go_loopw [10] (fun v10 wr => ∃ (j : Nat) (iv : Value), v10 = .int .i64 (j : Int) ∧ (j : Int) ≤ N ∧ As (SS w wr X Y G cx cy (sayC K 3 4 cx iv 5)) ∧ As (OwR wr (G + 1) iv j cy)) (fun v10 _ => N - (intOf v10).toNat)
  case atStart => exact ⟨0, .slice none 0 0, rfl, by omega, HS1, HOZ⟩
  case round =>
    obtain ⟨j, iv, rfl, hj, HSR, HO⟩ := hrel
    have H35 := (idx5 (a := .int .i64 K) (b := .int .i64 3) (c := .int .i64 4) (iv := iv) (nv := .int .u64 ((5 : Nat) : Int)) HLX.out).1
    by_cases hlt : (j : Int) < N
    · have c35 := HSR.out.c 35 _ H35
      have f35 := HSR.out.f 35
      have HRY := As.mk HSR.out.ry
      go_wp2_with (first | ((with_reducible refine wpList_load_mid (op := ⟨_, .load 22 (.tmp 5), _, _, _, _⟩) ?hgd 22 (.tmp 5) rfl _ _ ?hx cy _ HRY.out Tryd.underlying22 rfl ?hi ?_); (case hgd => exact rfl); (case hx => exact rfl); (case hi => rw [HLY.out]; kernel_rfl)) | ((with_reducible refine wpList_buildSlice (o := ⟨_, .buildSlice 24 1 #[(0, .tmp 30)], _, _, _, _⟩) ?hgd 24 22 1 _ rfl cy.toArray it (.agg Z32.toArray) Tryd.underlying24 HIT.out.1 ?hz ?hsm ?hpo ?hf ?_); (case hgd => exact rfl); (case hz => have h := HIT.out.2; simp only [Prod.mk.injEq] at h; exact h.1); (case hsm => have h := HIT.out.2; simp only [Prod.mk.injEq] at h; rw [h.2.1]; decide); (case hpo => have h := HIT.out.2; simp only [Prod.mk.injEq] at h; rw [h.2.1]; decide); (case hf => have h := HIT.out.2; simp only [Prod.mk.injEq] at h; rw [h.2.1]; simp only [List.map_toArray, List.map_cons, List.map_nil]; exact fill22 _ (by simp) cy HLY.out)) | (at_builtin; go_loud (refine wpList_app (G + 1) rfl (.tmp 29) (.tmp 31) 24 22 (.agg Z32.toArray) 32 32 rfl Tryd.underlying24 info22z rfl (by decide) iv (.slice (some ⟨wr.heap.size, 0, none⟩) 1 1) rfl rfl j ((List.replicate j cy).flatten) (OwS.alloc HO.out _) 1 cy (rd_box (Box.new _ _ _) HLY.out) H1Y.out ?b1 ?b2 ?b3 ?_; (case b1 => unfold maxLen; omega); (case b2 => omega); (case b3 => have := HSR.out.lt; simp; omega); intro v4 w4 ho hg ht; obtain ⟨-, A4, k4, rfl, -⟩ := OwS.rd ho; have HS4 := As.mk ((HSR.out.below (below_al _ _)).grown hg (fun b hb => by have := (OwS.lt HO.out b hb).1; omega)); have HO4 : As (OwR w4 (G + 1) (.slice A4 (j + 1) k4) (j + 1) cy) := ⟨by unfold OwR; rw [rep_snoc]; exact ho⟩; clear ho hg ht c35 f35; have c35 := HS4.out.c 35 _ H35; have f35 := HS4.out.f 35)))
      go_roundw
      case rel => exact ⟨j + 1, .slice A4 (j + 1) k4, by go_num, by omega, ⟨by have h := HS4.out.set 35 (.slice A4 (j + 1) k4); rw [sayC_set HLX.out] at h; exact h⟩, ⟨OwS.kept HO4.out (grown_set _ G 35 _) (off_kept (off_low HO4.out (Nat.lt_succ_self G)))⟩⟩
      case measure => simp [intOf]; omega
    · obtain rfl : j = N := by omega
      clear hlt hj HS1 HOZ
      go_upto_region 6 with fail
      go_cut [11] (fun v11 wc => v11 = .string ⟨(headL K).toArray⟩ ∧ As (Below wr.heap.size wr wc))
      case first =>
        have c0 := HSR.out.c 0 (.int .i64 K) (by simp [sayC])
        have hglt := HSR.out.lt
        rcases (by omega : K = 1 ∨ K = 2 ∨ K = 3 ∨ K = 4 ∨ K = 5 ∨ K = 6 ∨ K = 7 ∨ K = 8 ∨ K = 9 ∨ K = 10) with rfl | rfl | rfl | rfl | rfl | rfl | rfl | rfl | rfl | rfl
        all_goals
          go_wp2
          go_meet
          exact ⟨rfl, ⟨below_al _ _⟩⟩
      case rest =>
        obtain ⟨rfl, HBC⟩ := hcut
        have HSC := As.mk (HSR.out.below HBC.out)
        have HOC := As.mk (OwS.below HO.out HBC.out)
        clear HSR HO
        have HL4X : As ((x.take 4).length ≤ 2000000) := ⟨by rw [List.length_take]; omega⟩
        have HL4Y : As ((y.take 4).length ≤ 2000000) := ⟨by rw [List.length_take]; omega⟩
        obtain ⟨I, hI⟩ : ∃ I, hexL (x.take 4) = I := ⟨_, rfl⟩
        obtain ⟨H, hH⟩ : ∃ H, hexL (y.take 4) = H := ⟨_, rfl⟩
        have HI := As.mk hI
        have HH := As.mk hH
        have HIL : As (I.length ≤ 9) := ⟨by rw [← hI]; exact idL_nine x⟩
        have HHL : As (H.length ≤ 9) := ⟨by rw [← hH]; exact idL_nine y⟩
        clear hI hH
        have HBXC : As (Box wc X (x.map u8v).toArray 22) := ⟨by rw [← HCX.out]; exact HSC.out.2.1⟩
        have HBYC : As (Box wc Y (y.map u8v).toArray 22) := ⟨by rw [← HCY.out]; exact HSC.out.2.2.1⟩
        go_upto_region 8 with (go_at_call 6; (with_reducible refine (qhex_any _ _ _ (id_box x HX.out HBXC.out) HL4X.out).mono ?_); rintro e w5 ⟨he5, hb5⟩; simp only [HI.out, str] at he5; subst he5; have HW5 := As.mk hb5; clear hb5)
        have HSW := As.mk (HSC.out.below HW5.out)
        have HOW := As.mk (OwS.below HOC.out HW5.out)
        clear HSC HOC HBXC HBYC HBC
        go_wp2
        go_loopw [13, 14] (fun v13 v14 wr => ∃ i : Nat, v14 = .int .i64 (i : Int) ∧ (i : Int) ≤ j ∧ v13 = .string ⟨(joinL (List.replicate i H)).toArray⟩ ∧ As (Below w5.heap.size w5 wr)) (fun _ v14 _ => j - (intOf v14).toNat)
        case atStart => exact ⟨0, rfl, by omega, rfl, ⟨Below.refl _ _⟩⟩
        case round =>
          obtain ⟨i, rfl, hi, rfl, HB⟩ := hrel
          by_cases hlt : (i : Int) < j
          · have HBYR : As (Box wr Y (y.map u8v).toArray 22) := ⟨by rw [← HCY.out]; exact (HSW.out.below HB.out).2.2.1⟩
            have HJ := As.mk (joinL_rep i H)
            by_cases h0 : i = 0
            · subst h0
              have HJ1 : As (joinL (List.replicate (0 + 1) H) = [] ++ H) := ⟨by rw [HJ.out, if_pos rfl]⟩
              have HSL : As (([] : List UInt8).length ≤ 100) := ⟨by decide⟩
              go_wp2_with (first | (go_at_call 6; (with_reducible refine (qhex_any _ _ _ (id_box y HY.out HBYR.out) HL4Y.out).mono ?_); rintro e w6 ⟨he6, hb6⟩; simp only [HH.out, str] at he6; subst he6; have HW6 := As.mk (HB.out.trans (hb6.mono HB.out.size)); clear hb6) | ((with_reducible refine wpList_cat ?hgd (.tmp 52) (.tmp 54) rfl [] H ?hx ?hy ?hl ?_); (case hgd => exact rfl); (case hx => exact rfl); (case hy => exact rfl); (case hl => have hh := HHL.out; have hs := HSL.out; simp only [List.length_append, List.length_cons, List.length_nil]; omega)))
              go_roundw
              case rel => exact ⟨0 + 1, by go_num, by omega, by rw [HJ1.out]; rfl, HW6⟩
              case measure => simp [intOf]; omega
            · obtain ⟨S, hS⟩ : ∃ S, joinL (List.replicate i H) = S := ⟨_, rfl⟩
              have HJ1 : As (joinL (List.replicate (i + 1) H) = S ++ [44] ++ H) := ⟨by rw [HJ.out, if_neg h0, hS]⟩
              have HSL : As (S.length ≤ 1000) := ⟨by rw [← hS]; exact joinL_len i H HHL.out (by omega)⟩
              have hne : ((i : Int) == 0) = false := by rw [beq_eq_false_iff_ne]; omega
              rw [hS]
              clear hS h0
              go_wp2_with (first | (go_at_call 6; (with_reducible refine (qhex_any _ _ _ (id_box y HY.out HBYR.out) HL4Y.out).mono ?_); rintro e w6 ⟨he6, hb6⟩; simp only [HH.out, str] at he6; subst he6; have HW6 := As.mk (HB.out.trans (hb6.mono HB.out.size)); clear hb6) | ((with_reducible refine wpList_cat ?hgd (.tmp 50) (.const (.string ⟨#[44]⟩)) rfl S [44] ?hx ?hy ?hl ?_); (case hgd => exact rfl); (case hx => exact rfl); (case hy => exact rfl); (case hl => have hh := HHL.out; have hs := HSL.out; simp only [List.length_append, List.length_cons, List.length_nil]; omega)) | ((with_reducible refine wpList_cat ?hgd (.tmp 52) (.tmp 54) rfl (S ++ [44]) H ?hx ?hy ?hl ?_); (case hgd => exact rfl); (case hx => exact rfl); (case hy => exact rfl); (case hl => have hh := HHL.out; have hs := HSL.out; simp only [List.length_append, List.length_cons, List.length_nil]; omega)))
              go_roundw
              case rel => exact ⟨i + 1, by go_num, by omega, by rw [HJ1.out]; simp, HW6⟩
              case measure => simp [intOf]; omega
          · obtain rfl : i = j := by omega
            clear hlt hi
            obtain ⟨J, hJ⟩ : ∃ J, joinL (List.replicate i H) = J := ⟨_, rfl⟩
            have HJL : As (J.length ≤ 1000) := ⟨by rw [← hJ]; exact joinL_len i H HHL.out (by omega)⟩
            obtain ⟨T, hT⟩ : ∃ T, sayL K 3 4 x (List.replicate i y) 5 = T := ⟨_, rfl⟩
            have HTT : As (T = if K = 1 ∨ K = 9 then headL K ++ I ++ [32] ++ J else if K = 4 ∨ K = 5 ∨ K = 8 then headL K ++ J else headL K ++ I) := ⟨by
              rw [← hT, say_head K ⟨hK1, hK10⟩, List.map_replicate]
              have e1 : idL x = I := HI.out
              have e2 : idL y = H := HH.out
              rw [e1, e2, hJ]⟩
            have HT := As.mk hT
            rw [hJ]
            clear hJ hT
            have HS6 := As.mk (HSW.out.below HB.out)
            have HO6 := As.mk (OwS.below HOW.out HB.out)
            clear HSW HOW
            obtain ⟨-, A6, k6, rfl, -⟩ := OwS.rd HO6.out
            have HRN := As.mk (ownR_rd HY.out (by have h := HO6.out; rw [HCY.out] at h; exact h))
            have HIL3 : As ((List.replicate i y).length ≤ 2000000) := ⟨by rw [List.length_replicate]; omega⟩
            have HRG := As.mk HS6.out.rg
            have HQL := As.mk (headL_len K)
            have HGL : As ((sayC K 3 4 cx (.slice A6 i k6) 5).length = 37) := ⟨sayC_len HLX.out⟩
            have HEW := As.mk (HEN.out.below HS6.out.bl)
            have HKK : As (-9223372036854775808 ≤ K ∧ K ≤ 9223372036854775807) := ⟨by omega⟩
            have c0 := HS6.out.c 0 (.int .i64 K) (by simp [sayC])
            rcases (by omega : K = 1 ∨ K = 2 ∨ K = 3 ∨ K = 4 ∨ K = 5 ∨ K = 6 ∨ K = 7 ∨ K = 8 ∨ K = 9 ∨ K = 10) with rfl | rfl | rfl | rfl | rfl | rfl | rfl | rfl | rfl | rfl
            · as_aux_lemma =>
                go_wp2_with (first | ((with_reducible refine wpList_cat ?hgd (.tmp 56) (.tmp 57) rfl (headL 1) I ?hx ?hy ?hl ?_); (case hgd => exact rfl); (case hx => exact rfl); (case hy => exact rfl); (case hl => have hq := HQL.out; have hi := HIL.out; have hj := HJL.out; (try simp only [List.length_append, List.length_cons, List.length_nil]); omega)) | ((with_reducible refine wpList_cat ?hgd (.tmp 64) (.const (.string ⟨#[32]⟩)) rfl (headL 1 ++ I) [32] ?hx ?hy ?hl ?_); (case hgd => exact rfl); (case hx => exact rfl); (case hy => exact rfl); (case hl => have hq := HQL.out; have hi := HIL.out; have hj := HJL.out; (try simp only [List.length_append, List.length_cons, List.length_nil]); omega)) | ((with_reducible refine wpList_catTo ?hgd (.tmp 65) (.tmp 66) rfl (headL 1 ++ (I ++ [32])) J T ?hz ?hx ?hy ?hl ?_); (case hgd => exact rfl); (case hx => exact rfl); (case hy => exact rfl); (case hz => rw [HTT.out]; simp [headL]); (case hl => have hq := HQL.out; have hi := HIL.out; have hj := HJL.out; (try simp only [List.length_append, List.length_cons, List.length_nil]); omega)) | ((with_reducible refine wpList_load_mid (op := ⟨_, .load 26 (.tmp 9), _, _, _, _⟩) ?hgd 26 (.tmp 9) rfl _ _ ?hx (sayC 1 3 4 cx (.slice A6 i k6) 5) _ HRG.out Tryd.underlying26 rfl ?hi ?_); (case hgd => exact rfl); (case hx => exact rfl); (case hi => rw [HGL.out]; kernel_rfl)) | (go_at_call 7; (with_reducible refine (say_to 1 3 4 x cx HCX.out (.slice A6 i k6) (List.replicate i y) 5 HT.out _ HX.out HRN.out HIL3.out (by decide) HKK.out (by decide) (by decide) HEW.out).mono ?_); rintro e w7 ⟨rfl, hb7⟩; have HE7 := As.mk (HEW.out.below hb7); have HB7 := As.mk (HS6.out.bl.trans (hb7.mono HS6.out.bl.size)); clear hb7 c0) | (go_at_call 8; (with_reducible refine (awake_as _ HE7.out).mono ?_); rintro e w8 ⟨rfl, hb8⟩; have HB8 := As.mk (HB7.out.trans (hb8.mono HB7.out.size)); clear hb8))
                go_ret
                exact ⟨rfl, HB8.out⟩
            · as_aux_lemma =>
                go_wp2_with (first | ((with_reducible refine wpList_catTo ?hgd (.tmp 56) (.tmp 57) rfl (headL 2) I T ?hz ?hx ?hy ?hl ?_); (case hgd => exact rfl); (case hx => exact rfl); (case hy => exact rfl); (case hz => rw [HTT.out]; simp [headL]); (case hl => have hq := HQL.out; have hi := HIL.out; have hj := HJL.out; (try simp only [List.length_append, List.length_cons, List.length_nil]); omega)) | ((with_reducible refine wpList_load_mid (op := ⟨_, .load 26 (.tmp 9), _, _, _, _⟩) ?hgd 26 (.tmp 9) rfl _ _ ?hx (sayC 2 3 4 cx (.slice A6 i k6) 5) _ HRG.out Tryd.underlying26 rfl ?hi ?_); (case hgd => exact rfl); (case hx => exact rfl); (case hi => rw [HGL.out]; kernel_rfl)) | (go_at_call 7; (with_reducible refine (say_to 2 3 4 x cx HCX.out (.slice A6 i k6) (List.replicate i y) 5 HT.out _ HX.out HRN.out HIL3.out (by decide) HKK.out (by decide) (by decide) HEW.out).mono ?_); rintro e w7 ⟨rfl, hb7⟩; have HE7 := As.mk (HEW.out.below hb7); have HB7 := As.mk (HS6.out.bl.trans (hb7.mono HS6.out.bl.size)); clear hb7 c0) | (go_at_call 8; (with_reducible refine (awake_as _ HE7.out).mono ?_); rintro e w8 ⟨rfl, hb8⟩; have HB8 := As.mk (HB7.out.trans (hb8.mono HB7.out.size)); clear hb8))
                go_ret
                exact ⟨rfl, HB8.out⟩
            · as_aux_lemma =>
                go_wp2_with (first | ((with_reducible refine wpList_catTo ?hgd (.tmp 56) (.tmp 57) rfl (headL 3) I T ?hz ?hx ?hy ?hl ?_); (case hgd => exact rfl); (case hx => exact rfl); (case hy => exact rfl); (case hz => rw [HTT.out]; simp [headL]); (case hl => have hq := HQL.out; have hi := HIL.out; have hj := HJL.out; (try simp only [List.length_append, List.length_cons, List.length_nil]); omega)) | ((with_reducible refine wpList_load_mid (op := ⟨_, .load 26 (.tmp 9), _, _, _, _⟩) ?hgd 26 (.tmp 9) rfl _ _ ?hx (sayC 3 3 4 cx (.slice A6 i k6) 5) _ HRG.out Tryd.underlying26 rfl ?hi ?_); (case hgd => exact rfl); (case hx => exact rfl); (case hi => rw [HGL.out]; kernel_rfl)) | (go_at_call 7; (with_reducible refine (say_to 3 3 4 x cx HCX.out (.slice A6 i k6) (List.replicate i y) 5 HT.out _ HX.out HRN.out HIL3.out (by decide) HKK.out (by decide) (by decide) HEW.out).mono ?_); rintro e w7 ⟨rfl, hb7⟩; have HE7 := As.mk (HEW.out.below hb7); have HB7 := As.mk (HS6.out.bl.trans (hb7.mono HS6.out.bl.size)); clear hb7 c0) | (go_at_call 8; (with_reducible refine (awake_as _ HE7.out).mono ?_); rintro e w8 ⟨rfl, hb8⟩; have HB8 := As.mk (HB7.out.trans (hb8.mono HB7.out.size)); clear hb8))
                go_ret
                exact ⟨rfl, HB8.out⟩
            · as_aux_lemma =>
                go_wp2_with (first | ((with_reducible refine wpList_cat ?hgd (.tmp 56) (.tmp 57) rfl (headL 4) I ?hx ?hy ?hl ?_); (case hgd => exact rfl); (case hx => exact rfl); (case hy => exact rfl); (case hl => have hq := HQL.out; have hi := HIL.out; have hj := HJL.out; (try simp only [List.length_append, List.length_cons, List.length_nil]); omega)) | ((with_reducible refine wpList_catTo ?hgd (.tmp 72) (.tmp 73) rfl (headL 4) J T ?hz ?hx ?hy ?hl ?_); (case hgd => exact rfl); (case hx => exact rfl); (case hy => exact rfl); (case hz => rw [HTT.out]; simp [headL]); (case hl => have hq := HQL.out; have hi := HIL.out; have hj := HJL.out; (try simp only [List.length_append, List.length_cons, List.length_nil]); omega)) | ((with_reducible refine wpList_load_mid (op := ⟨_, .load 26 (.tmp 9), _, _, _, _⟩) ?hgd 26 (.tmp 9) rfl _ _ ?hx (sayC 4 3 4 cx (.slice A6 i k6) 5) _ HRG.out Tryd.underlying26 rfl ?hi ?_); (case hgd => exact rfl); (case hx => exact rfl); (case hi => rw [HGL.out]; kernel_rfl)) | (go_at_call 7; (with_reducible refine (say_to 4 3 4 x cx HCX.out (.slice A6 i k6) (List.replicate i y) 5 HT.out _ HX.out HRN.out HIL3.out (by decide) HKK.out (by decide) (by decide) HEW.out).mono ?_); rintro e w7 ⟨rfl, hb7⟩; have HE7 := As.mk (HEW.out.below hb7); have HB7 := As.mk (HS6.out.bl.trans (hb7.mono HS6.out.bl.size)); clear hb7 c0) | (go_at_call 8; (with_reducible refine (awake_as _ HE7.out).mono ?_); rintro e w8 ⟨rfl, hb8⟩; have HB8 := As.mk (HB7.out.trans (hb8.mono HB7.out.size)); clear hb8))
                go_ret
                exact ⟨rfl, HB8.out⟩
            · as_aux_lemma =>
                go_wp2_with (first | ((with_reducible refine wpList_cat ?hgd (.tmp 56) (.tmp 57) rfl (headL 5) I ?hx ?hy ?hl ?_); (case hgd => exact rfl); (case hx => exact rfl); (case hy => exact rfl); (case hl => have hq := HQL.out; have hi := HIL.out; have hj := HJL.out; (try simp only [List.length_append, List.length_cons, List.length_nil]); omega)) | ((with_reducible refine wpList_catTo ?hgd (.tmp 72) (.tmp 73) rfl (headL 5) J T ?hz ?hx ?hy ?hl ?_); (case hgd => exact rfl); (case hx => exact rfl); (case hy => exact rfl); (case hz => rw [HTT.out]; simp [headL]); (case hl => have hq := HQL.out; have hi := HIL.out; have hj := HJL.out; (try simp only [List.length_append, List.length_cons, List.length_nil]); omega)) | ((with_reducible refine wpList_load_mid (op := ⟨_, .load 26 (.tmp 9), _, _, _, _⟩) ?hgd 26 (.tmp 9) rfl _ _ ?hx (sayC 5 3 4 cx (.slice A6 i k6) 5) _ HRG.out Tryd.underlying26 rfl ?hi ?_); (case hgd => exact rfl); (case hx => exact rfl); (case hi => rw [HGL.out]; kernel_rfl)) | (go_at_call 7; (with_reducible refine (say_to 5 3 4 x cx HCX.out (.slice A6 i k6) (List.replicate i y) 5 HT.out _ HX.out HRN.out HIL3.out (by decide) HKK.out (by decide) (by decide) HEW.out).mono ?_); rintro e w7 ⟨rfl, hb7⟩; have HE7 := As.mk (HEW.out.below hb7); have HB7 := As.mk (HS6.out.bl.trans (hb7.mono HS6.out.bl.size)); clear hb7 c0) | (go_at_call 8; (with_reducible refine (awake_as _ HE7.out).mono ?_); rintro e w8 ⟨rfl, hb8⟩; have HB8 := As.mk (HB7.out.trans (hb8.mono HB7.out.size)); clear hb8))
                go_ret
                exact ⟨rfl, HB8.out⟩
            · as_aux_lemma =>
                go_wp2_with (first | ((with_reducible refine wpList_catTo ?hgd (.tmp 56) (.tmp 57) rfl (headL 6) I T ?hz ?hx ?hy ?hl ?_); (case hgd => exact rfl); (case hx => exact rfl); (case hy => exact rfl); (case hz => rw [HTT.out]; simp [headL]); (case hl => have hq := HQL.out; have hi := HIL.out; have hj := HJL.out; (try simp only [List.length_append, List.length_cons, List.length_nil]); omega)) | ((with_reducible refine wpList_load_mid (op := ⟨_, .load 26 (.tmp 9), _, _, _, _⟩) ?hgd 26 (.tmp 9) rfl _ _ ?hx (sayC 6 3 4 cx (.slice A6 i k6) 5) _ HRG.out Tryd.underlying26 rfl ?hi ?_); (case hgd => exact rfl); (case hx => exact rfl); (case hi => rw [HGL.out]; kernel_rfl)) | (go_at_call 7; (with_reducible refine (say_to 6 3 4 x cx HCX.out (.slice A6 i k6) (List.replicate i y) 5 HT.out _ HX.out HRN.out HIL3.out (by decide) HKK.out (by decide) (by decide) HEW.out).mono ?_); rintro e w7 ⟨rfl, hb7⟩; have HE7 := As.mk (HEW.out.below hb7); have HB7 := As.mk (HS6.out.bl.trans (hb7.mono HS6.out.bl.size)); clear hb7 c0) | (go_at_call 8; (with_reducible refine (awake_as _ HE7.out).mono ?_); rintro e w8 ⟨rfl, hb8⟩; have HB8 := As.mk (HB7.out.trans (hb8.mono HB7.out.size)); clear hb8))
                go_ret
                exact ⟨rfl, HB8.out⟩
            · as_aux_lemma =>
                go_wp2_with (first | ((with_reducible refine wpList_catTo ?hgd (.tmp 56) (.tmp 57) rfl (headL 7) I T ?hz ?hx ?hy ?hl ?_); (case hgd => exact rfl); (case hx => exact rfl); (case hy => exact rfl); (case hz => rw [HTT.out]; simp [headL]); (case hl => have hq := HQL.out; have hi := HIL.out; have hj := HJL.out; (try simp only [List.length_append, List.length_cons, List.length_nil]); omega)) | ((with_reducible refine wpList_load_mid (op := ⟨_, .load 26 (.tmp 9), _, _, _, _⟩) ?hgd 26 (.tmp 9) rfl _ _ ?hx (sayC 7 3 4 cx (.slice A6 i k6) 5) _ HRG.out Tryd.underlying26 rfl ?hi ?_); (case hgd => exact rfl); (case hx => exact rfl); (case hi => rw [HGL.out]; kernel_rfl)) | (go_at_call 7; (with_reducible refine (say_to 7 3 4 x cx HCX.out (.slice A6 i k6) (List.replicate i y) 5 HT.out _ HX.out HRN.out HIL3.out (by decide) HKK.out (by decide) (by decide) HEW.out).mono ?_); rintro e w7 ⟨rfl, hb7⟩; have HE7 := As.mk (HEW.out.below hb7); have HB7 := As.mk (HS6.out.bl.trans (hb7.mono HS6.out.bl.size)); clear hb7 c0) | (go_at_call 8; (with_reducible refine (awake_as _ HE7.out).mono ?_); rintro e w8 ⟨rfl, hb8⟩; have HB8 := As.mk (HB7.out.trans (hb8.mono HB7.out.size)); clear hb8))
                go_ret
                exact ⟨rfl, HB8.out⟩
            · as_aux_lemma =>
                go_wp2_with (first | ((with_reducible refine wpList_cat ?hgd (.tmp 56) (.tmp 57) rfl (headL 8) I ?hx ?hy ?hl ?_); (case hgd => exact rfl); (case hx => exact rfl); (case hy => exact rfl); (case hl => have hq := HQL.out; have hi := HIL.out; have hj := HJL.out; (try simp only [List.length_append, List.length_cons, List.length_nil]); omega)) | ((with_reducible refine wpList_catTo ?hgd (.tmp 72) (.tmp 73) rfl (headL 8) J T ?hz ?hx ?hy ?hl ?_); (case hgd => exact rfl); (case hx => exact rfl); (case hy => exact rfl); (case hz => rw [HTT.out]; simp [headL]); (case hl => have hq := HQL.out; have hi := HIL.out; have hj := HJL.out; (try simp only [List.length_append, List.length_cons, List.length_nil]); omega)) | ((with_reducible refine wpList_load_mid (op := ⟨_, .load 26 (.tmp 9), _, _, _, _⟩) ?hgd 26 (.tmp 9) rfl _ _ ?hx (sayC 8 3 4 cx (.slice A6 i k6) 5) _ HRG.out Tryd.underlying26 rfl ?hi ?_); (case hgd => exact rfl); (case hx => exact rfl); (case hi => rw [HGL.out]; kernel_rfl)) | (go_at_call 7; (with_reducible refine (say_to 8 3 4 x cx HCX.out (.slice A6 i k6) (List.replicate i y) 5 HT.out _ HX.out HRN.out HIL3.out (by decide) HKK.out (by decide) (by decide) HEW.out).mono ?_); rintro e w7 ⟨rfl, hb7⟩; have HE7 := As.mk (HEW.out.below hb7); have HB7 := As.mk (HS6.out.bl.trans (hb7.mono HS6.out.bl.size)); clear hb7 c0) | (go_at_call 8; (with_reducible refine (awake_as _ HE7.out).mono ?_); rintro e w8 ⟨rfl, hb8⟩; have HB8 := As.mk (HB7.out.trans (hb8.mono HB7.out.size)); clear hb8))
                go_ret
                exact ⟨rfl, HB8.out⟩
            · as_aux_lemma =>
                go_wp2_with (first | ((with_reducible refine wpList_cat ?hgd (.tmp 56) (.tmp 57) rfl (headL 9) I ?hx ?hy ?hl ?_); (case hgd => exact rfl); (case hx => exact rfl); (case hy => exact rfl); (case hl => have hq := HQL.out; have hi := HIL.out; have hj := HJL.out; (try simp only [List.length_append, List.length_cons, List.length_nil]); omega)) | ((with_reducible refine wpList_cat ?hgd (.tmp 64) (.const (.string ⟨#[32]⟩)) rfl (headL 9 ++ I) [32] ?hx ?hy ?hl ?_); (case hgd => exact rfl); (case hx => exact rfl); (case hy => exact rfl); (case hl => have hq := HQL.out; have hi := HIL.out; have hj := HJL.out; (try simp only [List.length_append, List.length_cons, List.length_nil]); omega)) | ((with_reducible refine wpList_catTo ?hgd (.tmp 65) (.tmp 66) rfl (headL 9 ++ (I ++ [32])) J T ?hz ?hx ?hy ?hl ?_); (case hgd => exact rfl); (case hx => exact rfl); (case hy => exact rfl); (case hz => rw [HTT.out]; simp [headL]); (case hl => have hq := HQL.out; have hi := HIL.out; have hj := HJL.out; (try simp only [List.length_append, List.length_cons, List.length_nil]); omega)) | ((with_reducible refine wpList_load_mid (op := ⟨_, .load 26 (.tmp 9), _, _, _, _⟩) ?hgd 26 (.tmp 9) rfl _ _ ?hx (sayC 9 3 4 cx (.slice A6 i k6) 5) _ HRG.out Tryd.underlying26 rfl ?hi ?_); (case hgd => exact rfl); (case hx => exact rfl); (case hi => rw [HGL.out]; kernel_rfl)) | (go_at_call 7; (with_reducible refine (say_to 9 3 4 x cx HCX.out (.slice A6 i k6) (List.replicate i y) 5 HT.out _ HX.out HRN.out HIL3.out (by decide) HKK.out (by decide) (by decide) HEW.out).mono ?_); rintro e w7 ⟨rfl, hb7⟩; have HE7 := As.mk (HEW.out.below hb7); have HB7 := As.mk (HS6.out.bl.trans (hb7.mono HS6.out.bl.size)); clear hb7 c0) | (go_at_call 8; (with_reducible refine (awake_as _ HE7.out).mono ?_); rintro e w8 ⟨rfl, hb8⟩; have HB8 := As.mk (HB7.out.trans (hb8.mono HB7.out.size)); clear hb8))
                go_ret
                exact ⟨rfl, HB8.out⟩
            · as_aux_lemma =>
                go_wp2_with (first | ((with_reducible refine wpList_catTo ?hgd (.tmp 56) (.tmp 57) rfl (headL 10) I T ?hz ?hx ?hy ?hl ?_); (case hgd => exact rfl); (case hx => exact rfl); (case hy => exact rfl); (case hz => rw [HTT.out]; simp [headL]); (case hl => have hq := HQL.out; have hi := HIL.out; have hj := HJL.out; (try simp only [List.length_append, List.length_cons, List.length_nil]); omega)) | ((with_reducible refine wpList_load_mid (op := ⟨_, .load 26 (.tmp 9), _, _, _, _⟩) ?hgd 26 (.tmp 9) rfl _ _ ?hx (sayC 10 3 4 cx (.slice A6 i k6) 5) _ HRG.out Tryd.underlying26 rfl ?hi ?_); (case hgd => exact rfl); (case hx => exact rfl); (case hi => rw [HGL.out]; kernel_rfl)) | (go_at_call 7; (with_reducible refine (say_to 10 3 4 x cx HCX.out (.slice A6 i k6) (List.replicate i y) 5 HT.out _ HX.out HRN.out HIL3.out (by decide) HKK.out (by decide) (by decide) HEW.out).mono ?_); rintro e w7 ⟨rfl, hb7⟩; have HE7 := As.mk (HEW.out.below hb7); have HB7 := As.mk (HS6.out.bl.trans (hb7.mono HS6.out.bl.size)); clear hb7 c0) | (go_at_call 8; (with_reducible refine (awake_as _ HE7.out).mono ?_); rintro e w8 ⟨rfl, hb8⟩; have HB8 := As.mk (HB7.out.trans (hb8.mono HB7.out.size)); clear hb8))
                go_ret
                exact ⟨rfl, HB8.out⟩
end Go.Proofs.YtodcbcpjlhlakaaDoor.W
