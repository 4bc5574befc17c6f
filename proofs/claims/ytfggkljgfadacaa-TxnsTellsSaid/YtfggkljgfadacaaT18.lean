/- txns.Same. -/
import Derived.Test.YtfggkljgfadacaaT17
set_option linter.unusedVariables false
set_option linter.unusedSimpArgs false
namespace Go.Proofs.Ytfggkljgfadacaa.W
open Go.RowKit Go.Proofs.Ytfggkljgfadacaa.B Go.Proofs

theorem ret_bool {a b : Bool} (h : a = b) : Ending.returned (.bool a) = .returned (.bool b) := by rw [h]
theorem take_eq_step {α : Type} {xs ys : List α} {k : Nat} {x y : α} (hx : xs[k]? = some x) (hy : ys[k]? = some y) (h : xs.take k = ys.take k) (he : x = y) : xs.take (k + 1) = ys.take (k + 1) := by
  rw [List.take_add_one, List.take_add_one, hx, hy, h, he]
theorem ne_at {α : Type} {xs ys : List α} {k : Nat} {x y : α} (hx : xs[k]? = some x) (hy : ys[k]? = some y) (he : x ≠ y) : xs ≠ ys := fun h => he (by rw [h, hy] at hx; exact (Option.some.inj hx).symm)
set_option maxHeartbeats 1000000 in
set_option maxRecDepth 100000 in
theorem eqrows_any (v v' : Value) (ws ws' : List (List UInt8)) (w : World) (hr : RdW w v ws) (hr' : RdW w v' ws') :
    Calls Try.prog 98 #[v, v', .func (.func 85) #[] #[]] w fun e w' => e = .returned (.bool (decide (ws = ws'))) ∧ w = w' := by
  obtain ⟨A, c, rfl, _⟩ := hr.form
  obtain ⟨A', c', rfl, _⟩ := hr'.form
  have HR := As.mk hr
  have HR' := As.mk hr'
  have hm : (ws.length : Int) ≤ 9223372036854775807 := by have := hr.len; unfold maxLen at this; omega
  have hm' : (ws'.length : Int) ≤ 9223372036854775807 := by have := hr'.len; unfold maxLen at this; omega
  clear hr hr'
  by_cases hl : ws.length = ws'.length
  · have HL := As.mk hl
    have hlt' : (ws.length : Int) ≤ ws'.length := by omega
    have hd : ((ws.length : Int) != (ws'.length : Int)) = false := by rw [hl]; exact bne_self_eq_false _
    clear hl
    go_enter Try.func98, Try.ntmps98
    go_wp2
    go_loopw [17] (fun v17 wr => ∃ k : Nat, v17 = .int .i64 (k : Int) ∧ (k : Int) ≤ ws.length ∧ wr = w ∧ As (ws.take k = ws'.take k)) (fun v17 _ => ws.length - (intOf v17).toNat)
    case atStart => exact ⟨0, rfl, by omega, rfl, ⟨rfl⟩⟩
    case round =>
      obtain ⟨k, rfl, hk, rfl, HJ⟩ := hrel
      by_cases hlt : (k : Int) < ws.length
      · obtain ⟨g, o, Ak, b, ck, rfl, HK, hc, HB⟩ := RdW.at HR.out k (by omega)
        have hlt2 : (k : Int) < ws'.length := by omega
        obtain ⟨g', o', Ak', b', ck', rfl, HK', hc', HB'⟩ := RdW.at HR'.out k (by omega)
        by_cases hb : b = b'
        · have HE := As.mk hb
          have hbb : (b == b') = true := by simpa using hb
          clear hb
          go_wp2_with (go_at_call 85; (with_reducible refine (equal_any _ _ _ _ _ HB.out HB'.out).mono ?_); rintro e w' ⟨rfl, rfl⟩)
          go_roundw
          case rel => exact ⟨k + 1, by go_num, by omega, by first | rfl | trivial, ⟨take_eq_step HK.out HK'.out HJ.out HE.out⟩⟩
          case measure => simp [intOf]; omega
        · have HE := As.mk hb
          have hbb : (b == b') = false := by simpa using hb
          clear hb
          go_wp2_with (go_at_call 85; (with_reducible refine (equal_any _ _ _ _ _ HB.out HB'.out).mono ?_); rintro e w' ⟨rfl, rfl⟩)
          go_ret
          rw [decide_eq_false (ne_at HK.out HK'.out HE.out)]
          exact ⟨rfl, rfl⟩
      · have HE : As (ws = ws') := ⟨by have := HJ.out; rwa [List.take_of_length_le (by omega), List.take_of_length_le (by have := HL.out; omega)] at this⟩
        go_wp2
        go_ret
        rw [decide_eq_true HE.out]
        exact ⟨rfl, rfl⟩
  · have HL := As.mk hl
    have hd : ((ws.length : Int) != (ws'.length : Int)) = true := by rw [bne_iff_ne]; omega
    clear hl
    go_enter Try.func98, Try.ntmps98
    go_wp2
    go_ret
    rw [decide_eq_false (fun h => HL.out (by rw [h]))]
    exact ⟨rfl, rfl⟩
theorem InC.head {w W : World} {G : Nat} {cs : List Value} {x : LIn} (h : InC w cs x) (hb : Box W G cs.toArray 55) : W.rangeAt G 0 (x.prev.map u8v) := fun j v hv => by
  obtain ⟨sv, wv, rfl, h1, _⟩ := h
  rw [Nat.zero_add]
  refine Box.cell hb j v ?_
  have hj : j < (x.prev.map u8v).length := (List.getElem?_eq_some_iff.1 hv).1
  rw [List.getElem?_toArray, List.getElem?_append_left hj]
  exact hv
theorem guard53 : Try.prog.eqGuardType Try.prog.depth 53 = false := by kernel_rfl
set_option maxHeartbeats 1000000 in
set_option maxRecDepth 100000 in
theorem samein_any (cs cs' : List Value) (x y : LIn) (w : World) (hr : InC w cs x) (hr' : InC w cs' y) :
    Calls Try.prog 79 #[.agg cs.toArray, .agg cs'.toArray] w fun e w' => e = .returned (.bool (decide (x = y))) ∧ Below w.heap.size w w' := by
  obtain ⟨A1, A2, c1, c2, h32, h33, h34, h35, HS, HW⟩ := hr.facts
  obtain ⟨A1', A2', c1', c2', h32', h33', h34', h35', HS', HW'⟩ := hr'.facts
  have HI := As.mk hr
  have HI' := As.mk hr'
  have HC := As.mk (show cs[32]? = _ ∧ cs[33]? = _ ∧ cs[34]? = _ ∧ cs[35]? = _ from ⟨h32, h33, h34, h35⟩)
  have HC' := As.mk (show cs'[32]? = _ ∧ cs'[33]? = _ ∧ cs'[34]? = _ ∧ cs'[35]? = _ from ⟨h32', h33', h34', h35'⟩)
  clear hr hr' h32 h33 h34 h35 h32' h33' h34' h35'
  go_enter Try.func79, Try.ntmps79
  go_upto_region 1 with fail
  have HB : As (Below w.heap.size w ((w.alloc (.cells cs.toArray 55)).alloc (.cells cs'.toArray 55)) ∧ Box ((w.alloc (.cells cs.toArray 55)).alloc (.cells cs'.toArray 55)) w.heap.size cs.toArray 55 ∧ Box ((w.alloc (.cells cs.toArray 55)).alloc (.cells cs'.toArray 55)) (w.heap.size + 1) cs'.toArray 55) :=
    ⟨((Below.refl _ _).alloc (Nat.le_refl _) _).alloc (by simp) _, (Box.new w _ _).below (below_al _ _), by have := Box.new (w.alloc (.cells cs.toArray 55)) cs'.toArray 55; simpa using this⟩
  change Code.wp _ _ _ _ ((w.alloc (.cells cs.toArray 55)).alloc (.cells cs'.toArray 55))
  generalize (w.alloc (.cells cs.toArray 55)).alloc (.cells cs'.toArray 55) = W at HB ⊢
  obtain ⟨px, hpx⟩ : ∃ p, p = x.prev.map u8v := ⟨_, rfl⟩
  obtain ⟨py, hpy⟩ : ∃ p, p = y.prev.map u8v := ⟨_, rfl⟩
  have HPL : As (px.length = 32) := ⟨by rw [hpx, List.length_map]; exact HI.out.prev⟩
  have HPL' : As (py.length = 32) := ⟨by rw [hpy, List.length_map]; exact HI'.out.prev⟩
  have HG : As (W.rangeAt w.heap.size 0 px) := ⟨by rw [hpx]; exact HI.out.head HB.out.2.1⟩
  have HG' : As (W.rangeAt (w.heap.size + 1) 0 py) := ⟨by rw [hpy]; exact HI'.out.head HB.out.2.2⟩
  have q32 := Box.cell HB.out.2.1 32 _ (by rw [List.getElem?_toArray]; exact HC.out.1)
  have q33 := Box.cell HB.out.2.1 33 _ (by rw [List.getElem?_toArray]; exact HC.out.2.1)
  have q34 := Box.cell HB.out.2.1 34 _ (by rw [List.getElem?_toArray]; exact HC.out.2.2.1)
  have q35 := Box.cell HB.out.2.1 35 _ (by rw [List.getElem?_toArray]; exact HC.out.2.2.2)
  have r32 := Box.cell HB.out.2.2 32 _ (by rw [List.getElem?_toArray]; exact HC'.out.1)
  have r33 := Box.cell HB.out.2.2 33 _ (by rw [List.getElem?_toArray]; exact HC'.out.2.1)
  have r34 := Box.cell HB.out.2.2 34 _ (by rw [List.getElem?_toArray]; exact HC'.out.2.2.1)
  have r35 := Box.cell HB.out.2.2 35 _ (by rw [List.getElem?_toArray]; exact HC'.out.2.2.2)
  have hgd := guard53
  have he := fun V => run_eql53 V x.prev y.prev HI.out.prev HI'.out.prev
  rw [← hpx, ← hpy] at he
  have HXY : As ((x = y) ↔ x.prev = y.prev ∧ x.vout = y.vout ∧ x.script = y.script ∧ x.seq = y.seq ∧ x.wit = y.wit) := ⟨by cases x; cases y; simp⟩
  clear hpx hpy
  by_cases hp : x.prev = y.prev
  · have HP := As.mk hp
    have bp : (x.prev == y.prev) = true := by simpa using hp
    clear hp
    by_cases hv : x.vout = y.vout
    · have HV := As.mk hv
      have bv : ((x.vout : Int) == (y.vout : Int)) = true := by rw [hv]; exact beq_self_eq_true _
      clear hv
      by_cases hs : x.script = y.script
      · have HSS := As.mk hs
        have bs : (x.script == y.script) = true := by simpa using hs
        clear hs
        by_cases hq : x.seq = y.seq
        · have HQ := As.mk hq
          have bq : ((x.seq : Int) == (y.seq : Int)) = true := by rw [hq]; exact beq_self_eq_true _
          clear hq
          go_wp2_with (first | ((with_reducible refine wpList_load_mid (op := ⟨_, .load 53 (.tmp 5), _, _, _, _⟩) ?hgd 53 (.tmp 5) rfl _ _ ?hx px _ HG.out Try.underlying53 rfl ?hi ?_); (case hgd => exact rfl); (case hx => exact rfl); (case hi => rw [HPL.out]; kernel_rfl)) | ((with_reducible refine wpList_load_mid (op := ⟨_, .load 53 (.tmp 7), _, _, _, _⟩) ?hgd 53 (.tmp 7) rfl _ _ ?hx py _ HG'.out Try.underlying53 rfl ?hi ?_); (case hgd => exact rfl); (case hx => exact rfl); (case hi => rw [HPL'.out]; kernel_rfl)) | (go_at_call 85; (with_reducible refine (equal_any _ _ _ _ _ (HS.out.below HB.out.1) (HS'.out.below HB.out.1)).mono ?_); rintro e w' ⟨rfl, rfl⟩) | (go_at_call 98; (with_reducible refine (eqrows_any _ _ _ _ _ (HW.out.below ByC.stable HB.out.1) (HW'.out.below ByC.stable HB.out.1)).mono ?_); rintro e w' ⟨rfl, rfl⟩))
          go_ret
          refine ⟨ret_bool (a := decide (x.wit = y.wit)) ?_, HB.out.1⟩
          rw [Bool.eq_iff_iff, decide_eq_true_iff, decide_eq_true_iff, HXY.out]
          exact ⟨fun h => ⟨HP.out, HV.out, HSS.out, HQ.out, h⟩, fun h => h.2.2.2.2⟩
        · have HN := As.mk hq
          have bq : ((x.seq : Int) == (y.seq : Int)) = false := beq_eq_false_iff_ne.mpr (by omega)
          clear hq
          go_wp2_with (first | ((with_reducible refine wpList_load_mid (op := ⟨_, .load 53 (.tmp 5), _, _, _, _⟩) ?hgd 53 (.tmp 5) rfl _ _ ?hx px _ HG.out Try.underlying53 rfl ?hi ?_); (case hgd => exact rfl); (case hx => exact rfl); (case hi => rw [HPL.out]; kernel_rfl)) | ((with_reducible refine wpList_load_mid (op := ⟨_, .load 53 (.tmp 7), _, _, _, _⟩) ?hgd 53 (.tmp 7) rfl _ _ ?hx py _ HG'.out Try.underlying53 rfl ?hi ?_); (case hgd => exact rfl); (case hx => exact rfl); (case hi => rw [HPL'.out]; kernel_rfl)) | (go_at_call 85; (with_reducible refine (equal_any _ _ _ _ _ (HS.out.below HB.out.1) (HS'.out.below HB.out.1)).mono ?_); rintro e w' ⟨rfl, rfl⟩))
          go_ret
          rw [decide_eq_false (fun h => HN.out (HXY.out.1 h).2.2.2.1)]
          exact ⟨rfl, HB.out.1⟩
      · have HN := As.mk hs
        have bs : (x.script == y.script) = false := by simpa using hs
        clear hs
        go_wp2_with (first | ((with_reducible refine wpList_load_mid (op := ⟨_, .load 53 (.tmp 5), _, _, _, _⟩) ?hgd 53 (.tmp 5) rfl _ _ ?hx px _ HG.out Try.underlying53 rfl ?hi ?_); (case hgd => exact rfl); (case hx => exact rfl); (case hi => rw [HPL.out]; kernel_rfl)) | ((with_reducible refine wpList_load_mid (op := ⟨_, .load 53 (.tmp 7), _, _, _, _⟩) ?hgd 53 (.tmp 7) rfl _ _ ?hx py _ HG'.out Try.underlying53 rfl ?hi ?_); (case hgd => exact rfl); (case hx => exact rfl); (case hi => rw [HPL'.out]; kernel_rfl)) | (go_at_call 85; (with_reducible refine (equal_any _ _ _ _ _ (HS.out.below HB.out.1) (HS'.out.below HB.out.1)).mono ?_); rintro e w' ⟨rfl, rfl⟩))
        go_ret
        rw [decide_eq_false (fun h => HN.out (HXY.out.1 h).2.2.1)]
        exact ⟨rfl, HB.out.1⟩
    · have HN := As.mk hv
      have bv : ((x.vout : Int) == (y.vout : Int)) = false := beq_eq_false_iff_ne.mpr (by omega)
      clear hv
      go_wp2_with (first | ((with_reducible refine wpList_load_mid (op := ⟨_, .load 53 (.tmp 5), _, _, _, _⟩) ?hgd 53 (.tmp 5) rfl _ _ ?hx px _ HG.out Try.underlying53 rfl ?hi ?_); (case hgd => exact rfl); (case hx => exact rfl); (case hi => rw [HPL.out]; kernel_rfl)) | ((with_reducible refine wpList_load_mid (op := ⟨_, .load 53 (.tmp 7), _, _, _, _⟩) ?hgd 53 (.tmp 7) rfl _ _ ?hx py _ HG'.out Try.underlying53 rfl ?hi ?_); (case hgd => exact rfl); (case hx => exact rfl); (case hi => rw [HPL'.out]; kernel_rfl)))
      go_ret
      rw [decide_eq_false (fun h => HN.out (HXY.out.1 h).2.1)]
      exact ⟨rfl, HB.out.1⟩
  · have HN := As.mk hp
    have bp : (x.prev == y.prev) = false := by simpa using hp
    clear hp
    go_wp2_with (first | ((with_reducible refine wpList_load_mid (op := ⟨_, .load 53 (.tmp 5), _, _, _, _⟩) ?hgd 53 (.tmp 5) rfl _ _ ?hx px _ HG.out Try.underlying53 rfl ?hi ?_); (case hgd => exact rfl); (case hx => exact rfl); (case hi => rw [HPL.out]; kernel_rfl)) | ((with_reducible refine wpList_load_mid (op := ⟨_, .load 53 (.tmp 7), _, _, _, _⟩) ?hgd 53 (.tmp 7) rfl _ _ ?hx py _ HG'.out Try.underlying53 rfl ?hi ?_); (case hgd => exact rfl); (case hx => exact rfl); (case hi => rw [HPL'.out]; kernel_rfl)))
    go_ret
    rw [decide_eq_false (fun h => HN.out (HXY.out.1 h).1)]
    exact ⟨rfl, HB.out.1⟩
end Go.Proofs.Ytfggkljgfadacaa.W
