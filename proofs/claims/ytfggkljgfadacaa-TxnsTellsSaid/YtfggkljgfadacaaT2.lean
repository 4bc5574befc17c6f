/- txns.May: whether a transaction may be. -/
import Derived.Test.YtfggkljgfadacaaT1
set_option linter.unusedVariables false
set_option linter.unusedSimpArgs false
namespace Go.Proofs.Ytfggkljgfadacaa.W
open Go.RowKit Go.Proofs.Ytfggkljgfadacaa.B Go.Proofs

def okIn (x : LIn) : Prop := x.script.length ≤ 500 ∧ x.wit.length ≤ 10 ∧ ∀ b ∈ x.wit, b.length ≤ 500
def okOut (x : LOut) : Prop := x.script.length ≤ 500
instance (x : LIn) : Decidable (okIn x) := by unfold okIn; infer_instance
instance (x : LOut) : Decidable (okOut x) := by unfold okOut; infer_instance
def mayT (t : LTx) : Prop := (∀ x ∈ t.ins, okIn x) ∧ (∀ x ∈ t.outs, okOut x) ∧ 1 ≤ t.ins.length ∧ t.ins.length ≤ 50 ∧ 1 ≤ t.outs.length ∧ t.outs.length ≤ 50
instance (t : LTx) : Decidable (mayT t) := by unfold mayT; infer_instance

theorem InC.one {w : World} {cs : List Value} {x : LIn} (h : InC w cs x) : ∀ v ∈ cs, v.oneCell' = true := by
  obtain ⟨sv, wv, rfl, h1, h2, h3, _⟩ := h
  obtain ⟨A1, c1, rfl, _⟩ := h2.form
  obtain ⟨A2, c2, rfl, _⟩ := h3.form
  intro v hv
  rcases List.mem_append.1 hv with hv | hv
  · exact u8v_one _ v hv
  · simp at hv
    rcases hv with rfl | rfl | rfl | rfl <;> rfl
theorem OutC.one {w : World} {cs : List Value} {x : LOut} (h : OutC w cs x) : ∀ v ∈ cs, v.oneCell' = true := by
  obtain ⟨sv, rfl, h1, _⟩ := h
  obtain ⟨A1, c1, rfl, _⟩ := h1.form
  intro v hv
  simp at hv
  rcases hv with rfl | rfl <;> rfl
theorem InC.prev {w : World} {cs : List Value} {x : LIn} (h : InC w cs x) : x.prev.length = 32 := by obtain ⟨sv, wv, rfl, h1, _⟩ := h; exact h1
theorem InC.vout {w : World} {cs : List Value} {x : LIn} (h : InC w cs x) : x.vout < 4294967296 := by obtain ⟨sv, wv, rfl, h1, _, _, h2, _⟩ := h; exact h2
theorem InC.seq {w : World} {cs : List Value} {x : LIn} (h : InC w cs x) : x.seq < 4294967296 := by obtain ⟨sv, wv, rfl, h1, _, _, _, h2⟩ := h; exact h2
/-- What is known of the k-th element. -/
theorem RdIns.at {w : World} {A : Option Addr} {n c : Nat} {xs : List LIn} (h : RdIns w (.slice A n c) xs) (k : Nat) (hk : k < xs.length) :
    ∃ g o cs x A1 c1 A2 c2, A = some ⟨g, o, none⟩ ∧ As (xs[k]? = some x) ∧ As (cs.length = 36) ∧ As (w.rangeAt g (o + k * 36) cs) ∧ As (∀ v ∈ cs, v.oneCell' = true) ∧ As (InC w cs x) ∧
      cs[32]? = some (.int .u32 (x.vout : Int)) ∧ cs[33]? = some (.slice A1 x.script.length c1) ∧ cs[34]? = some (.int .u32 (x.seq : Int)) ∧ cs[35]? = some (.slice A2 x.wit.length c2) ∧
      As (RdB w (.slice A1 x.script.length c1) x.script) ∧ As (RdW w (.slice A2 x.wit.length c2) x.wit) := by
  obtain ⟨g, o, cs, rfl, hcl, hin, hrange⟩ := RdL.at h k xs[k] (List.getElem?_eq_getElem hk)
  obtain ⟨A1, A2, c1, c2, h32, h33, h34, h35, HS, HW⟩ := hin.facts
  exact ⟨g, o, cs, _, A1, c1, A2, c2, rfl, ⟨List.getElem?_eq_getElem hk⟩, ⟨hcl⟩, ⟨hrange⟩, ⟨hin.one⟩, ⟨hin⟩, h32, h33, h34, h35, HS, HW⟩
theorem RdOuts.at {w : World} {A : Option Addr} {n c : Nat} {xs : List LOut} (h : RdOuts w (.slice A n c) xs) (k : Nat) (hk : k < xs.length) :
    ∃ g o x A1 c1, A = some ⟨g, o, none⟩ ∧ As (xs[k]? = some x) ∧ w.cell? ⟨g, o + k * 2, none⟩ = some (.int .u64 (x.value : Int)) ∧ w.cell? ⟨g, o + k * 2 + 1, none⟩ = some (.slice A1 x.script.length c1) ∧
      As (RdB w (.slice A1 x.script.length c1) x.script) ∧ As (x.value < 18446744073709551616) := by
  obtain ⟨g, o, cs, rfl, hcl, ⟨sv, rfl, h1, h2⟩, hrange⟩ := RdL.at h k xs[k] (List.getElem?_eq_getElem hk)
  obtain ⟨A1, c1, rfl, _⟩ := h1.form
  exact ⟨g, o, _, A1, c1, rfl, ⟨List.getElem?_eq_getElem hk⟩, hrange 0 _ rfl, hrange 1 _ rfl, ⟨h1⟩, ⟨h2⟩⟩
/-- A block of the call's own: its cells. -/
def Box (w : World) (B : Nat) (cs : Array Value) (t : TypeId) : Prop := w.heap[B]? = some (.cells cs t (0, 0))
theorem Box.below {w w' : World} {B : Nat} {cs : Array Value} {t : TypeId} (h : Box w B cs t) (hb : Below w.heap.size w w') : Box w' B cs t := by
  unfold Box
  rw [hb.block B (Array.getElem?_eq_some_iff.1 h).1]
  exact h
theorem Box.lt {w : World} {B : Nat} {cs : Array Value} {t : TypeId} (h : Box w B cs t) : B < w.heap.size := (Array.getElem?_eq_some_iff.1 h).1
theorem Box.cell {w : World} {B : Nat} {cs : Array Value} {t : TypeId} (h : Box w B cs t) (j : Nat) (v : Value) (hv : cs[j]? = some v) : w.cell? ⟨B, j, none⟩ = some v := by
  rw [cell_of_row w B j cs t (0, 0) h]
  exact hv
theorem Box.new (w : World) (cs : Array Value) (t : TypeId) : Box (w.alloc (.cells cs t)) w.heap.size cs t := heap_alloc_last w _
theorem take_step {α : Type} {p : α → Prop} {xs : List α} {k : Nat} {x : α} (hk : xs[k]? = some x) (h : ∀ y ∈ xs.take k, p y) (hx : p x) : ∀ y ∈ xs.take (k + 1), p y := by
  intro y hy
  rw [List.take_add_one, hk] at hy
  rcases List.mem_append.1 hy with h' | h'
  · exact h y h'
  · simp at h'; subst h'; exact hx

theorem no_may {t : LTx} (h : ¬ mayT t) : Ending.returned (.bool false) = Ending.returned (.bool (decide (mayT t))) := by rw [decide_eq_false h]
set_option maxHeartbeats 4000000 in
set_option maxRecDepth 100000 in
theorem may_any (cs : List Value) (t : LTx) (w : World) (hr : TxC w cs t) :
    Calls Try.prog 48 #[.agg cs.toArray] w fun e w' => e = .returned (.bool (decide (mayT t))) ∧ Below w.heap.size w w' := by
  obtain ⟨iv, ov, rfl, hi, ho, _⟩ := hr
  obtain ⟨AI, ci, rfl, hi1, hi2, _⟩ := hi.form
  obtain ⟨AO, co, rfl, ho1, ho2, _⟩ := ho.form
  have HI := As.mk hi
  have HO := As.mk ho
  have hmi : (t.ins.length : Int) ≤ 9223372036854775807 := by unfold maxLen at hi2; omega
  have hmo : (t.outs.length : Int) ≤ 9223372036854775807 := by unfold maxLen at ho2; omega
  clear hi ho hi1 hi2 ho1 ho2
  go_enter Try.func48, Try.ntmps48
  go_wp2
  go_loopw [10] (fun v10 wr => ∃ k : Nat, v10 = .int .i64 (k : Int) ∧ (k : Int) ≤ t.ins.length ∧ As (Below w.heap.size w wr ∧ Box wr w.heap.size #[.int .u32 (t.ver : Int), .slice AI t.ins.length ci, .slice AO t.outs.length co, .int .u32 (t.lock : Int)] 51) ∧ As (∀ x ∈ t.ins.take k, okIn x)) (fun v10 _ => t.ins.length - (intOf v10).toNat)
  case atStart => exact ⟨0, rfl, by omega, ⟨(Below.refl _ _).alloc (Nat.le_refl _) _, Box.new _ _ _⟩, ⟨fun b h => by simp at h⟩⟩
  case round =>
    obtain ⟨k, rfl, hk, HB, HJ⟩ := hrel
    by_cases hlt : (k : Int) < t.ins.length
    · obtain ⟨g, o, cs, x, A1, c1, A2, c2, rfl, HK, HL, HG, H1, HX, h32, h33, h34, h35, HS, HW⟩ := RdIns.at (RdL.below InC.stable HI.out (HB.out.1)) k (by omega)
      have HB1 : As (Below w.heap.size w (wr.alloc (.cells cs.toArray 55))) := ⟨HB.out.1.alloc HB.out.1.size _⟩
      have HB2 : As (Box (wr.alloc (.cells cs.toArray 55)) w.heap.size #[.int .u32 (t.ver : Int), .slice (some ⟨g, o, none⟩) t.ins.length ci, .slice AO t.outs.length co, .int .u32 (t.lock : Int)] 51) := ⟨HB.out.2.below ((Below.refl _ _).alloc (Nat.le_refl _) _)⟩
      by_cases hb : (500 : Int) < x.script.length
      · go_wp2_with (first | ((with_reducible refine wpList_load_mid (op := ⟨_, .load 55 (.tmp 12), _, _, _, _⟩) ?hgd 55 (.tmp 12) rfl _ _ ?hx cs _ HG.out Try.underlying55 rfl ?hi ?_); (case hgd => exact rfl); (case hx => exact rfl); (case hi => rw [HL.out]; kernel_rfl)) | ((with_reducible refine wpList_store_new (op := ⟨_, .store 55 (.tmp 4) (.tmp 13), _, _, _, _⟩) ?hgd 55 (.tmp 4) (.tmp 13) rfl (wr) ?cc55 cs ?hw ?hx ?hy ?hi ?hc H1.out ?_); (case hgd => exact rfl); (case hw => exact rfl); (case hx => exact rfl); (case hy => exact rfl); (case hi => rw [HL.out]; kernel_rfl); (case hc => rw [HL.out]; exact rfl)) | (go_at_call 75; (with_reducible refine (long_any _ _ _ (HS.out.alloc _)).mono ?_); rintro e w' ⟨rfl, rfl⟩) | (go_at_call 76; (with_reducible refine (contains_long _ _ _ (HW.out.below ByC.stable ((Below.refl _ _).alloc (Nat.le_refl _) _))).mono ?_); rintro e w' ⟨r, rfl, rfl, hr⟩; have HRR := As.mk hr; clear hr; cases r))
        go_ret
        exact ⟨no_may (fun h => by have := (h.1 x (List.mem_of_getElem? HK.out)).1; omega), HB1.out⟩
      · by_cases hb2 : (10 : Int) < x.wit.length
        · go_wp2_with (first | ((with_reducible refine wpList_load_mid (op := ⟨_, .load 55 (.tmp 12), _, _, _, _⟩) ?hgd 55 (.tmp 12) rfl _ _ ?hx cs _ HG.out Try.underlying55 rfl ?hi ?_); (case hgd => exact rfl); (case hx => exact rfl); (case hi => rw [HL.out]; kernel_rfl)) | ((with_reducible refine wpList_store_new (op := ⟨_, .store 55 (.tmp 4) (.tmp 13), _, _, _, _⟩) ?hgd 55 (.tmp 4) (.tmp 13) rfl (wr) ?cc55 cs ?hw ?hx ?hy ?hi ?hc H1.out ?_); (case hgd => exact rfl); (case hw => exact rfl); (case hx => exact rfl); (case hy => exact rfl); (case hi => rw [HL.out]; kernel_rfl); (case hc => rw [HL.out]; exact rfl)) | (go_at_call 75; (with_reducible refine (long_any _ _ _ (HS.out.alloc _)).mono ?_); rintro e w' ⟨rfl, rfl⟩) | (go_at_call 76; (with_reducible refine (contains_long _ _ _ (HW.out.below ByC.stable ((Below.refl _ _).alloc (Nat.le_refl _) _))).mono ?_); rintro e w' ⟨r, rfl, rfl, hr⟩; have HRR := As.mk hr; clear hr; cases r))
          go_ret
          exact ⟨no_may (fun h => by have := (h.1 x (List.mem_of_getElem? HK.out)).2.1; omega), HB1.out⟩
        · go_wp2_with (first | ((with_reducible refine wpList_load_mid (op := ⟨_, .load 55 (.tmp 12), _, _, _, _⟩) ?hgd 55 (.tmp 12) rfl _ _ ?hx cs _ HG.out Try.underlying55 rfl ?hi ?_); (case hgd => exact rfl); (case hx => exact rfl); (case hi => rw [HL.out]; kernel_rfl)) | ((with_reducible refine wpList_store_new (op := ⟨_, .store 55 (.tmp 4) (.tmp 13), _, _, _, _⟩) ?hgd 55 (.tmp 4) (.tmp 13) rfl (wr) ?cc55 cs ?hw ?hx ?hy ?hi ?hc H1.out ?_); (case hgd => exact rfl); (case hw => exact rfl); (case hx => exact rfl); (case hy => exact rfl); (case hi => rw [HL.out]; kernel_rfl); (case hc => rw [HL.out]; exact rfl)) | (go_at_call 75; (with_reducible refine (long_any _ _ _ (HS.out.alloc _)).mono ?_); rintro e w' ⟨rfl, rfl⟩) | (go_at_call 76; (with_reducible refine (contains_long _ _ _ (HW.out.below ByC.stable ((Below.refl _ _).alloc (Nat.le_refl _) _))).mono ?_); rintro e w' ⟨r, rfl, rfl, hr⟩; have HRR := As.mk hr; clear hr; cases r))
          · go_roundw
            case rel =>
              refine ⟨k + 1, by go_num, by omega, ⟨HB1.out, HB2.out⟩, ⟨take_step HK.out HJ.out ⟨by omega, by omega, fun b hb => ?_⟩⟩⟩
              refine Classical.byContradiction fun h => ?_
              have := HRR.out.2 ⟨b, hb, by omega⟩
              cases this
            case measure => simp [intOf]; omega
          · go_ret
            refine ⟨no_may (fun h => ?_), HB1.out⟩
            obtain ⟨b, hb, hl⟩ := HRR.out.1 (by first | trivial | rfl)
            have := (h.1 x (List.mem_of_getElem? HK.out)).2.2 b hb
            omega
    · have HJ1 : As (∀ x ∈ t.ins, okIn x) := ⟨by have := HJ.out; rwa [List.take_of_length_le (by omega)] at this⟩
      have d1 := HB.out.2.cell 1 _ rfl
      have d2 := HB.out.2.cell 2 _ rfl
      have HB0 := HB
      go_wp2
      clear d1 d2 HB HJ hk hlt
      go_loopw [32] (fun v32 w2 => ∃ k : Nat, v32 = .int .i64 (k : Int) ∧ (k : Int) ≤ t.outs.length ∧ As (Below w.heap.size w w2 ∧ Box w2 w.heap.size #[.int .u32 (t.ver : Int), .slice AI t.ins.length ci, .slice AO t.outs.length co, .int .u32 (t.lock : Int)] 51) ∧ As (∀ x ∈ t.outs.take k, okOut x)) (fun v32 _ => t.outs.length - (intOf v32).toNat)
      case atStart => exact ⟨0, rfl, by omega, HB0, ⟨fun b h => by simp at h⟩⟩
      case round =>
        obtain ⟨k, rfl, hk, HB, HJ⟩ := hrel
        by_cases hlt : (k : Int) < t.outs.length
        · obtain ⟨g, o, x, A1, c1, rfl, HK, h0, h1, HS, _⟩ := RdOuts.at (RdL.below OutC.stable HO.out (HB.out.1)) k (by omega)
          by_cases hb : (500 : Int) < x.script.length
          · go_wp2_with (go_at_call 75; (with_reducible refine (long_any _ _ _ (HS.out.alloc _)).mono ?_); rintro e w' ⟨rfl, rfl⟩)
            go_ret
            exact ⟨no_may (fun h => by have := h.2.1 x (List.mem_of_getElem? HK.out); unfold okOut at this; omega), HB.out.1.alloc HB.out.1.size _⟩
          · go_wp2_with (go_at_call 75; (with_reducible refine (long_any _ _ _ (HS.out.alloc _)).mono ?_); rintro e w' ⟨rfl, rfl⟩)
            go_roundw
            case rel =>
              exact ⟨k + 1, by go_num, by omega, ⟨HB.out.1.alloc HB.out.1.size _, HB.out.2.below ((Below.refl _ _).alloc (Nat.le_refl _) _)⟩, ⟨take_step HK.out HJ.out (by unfold okOut; omega)⟩⟩
            case measure => simp [intOf]; omega
        · have HJ2 : As (∀ x ∈ t.outs, okOut x) := ⟨by have := HJ.out; rwa [List.take_of_length_le (by omega)] at this⟩
          have d1 := HB.out.2.cell 1 _ rfl
          have d2 := HB.out.2.cell 2 _ rfl
          go_wp2
          all_goals go_ret
          · refine ⟨?_, HB.out.1⟩
            by_cases h50 : t.outs.length ≤ 50
            · refine (congrArg (fun b => Ending.returned (.bool b)) ?_ : _ = _)
              rw [decide_eq_true (show mayT t from ⟨HJ1.out, HJ2.out, by omega, by omega, by omega, h50⟩)]
              exact decide_eq_true (by omega)
            · refine (congrArg (fun b => Ending.returned (.bool b)) ?_ : _ = _)
              rw [decide_eq_false (show ¬ mayT t from fun h => h50 h.2.2.2.2.2)]
              exact decide_eq_false (by omega)
          all_goals exact ⟨no_may (fun h => by have := h.2.2; omega), HB.out.1⟩
end Go.Proofs.Ytfggkljgfadacaa.W
