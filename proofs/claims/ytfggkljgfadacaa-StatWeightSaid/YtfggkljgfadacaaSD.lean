/- Layer 8: the plain law; awake; how StatForms' transaction stands. -/
import Derived.Test.YtfggkljgfadacaaSC
set_option linter.unusedVariables false
set_option linter.unusedSimpArgs false
namespace Go.Proofs.Ytfggkljgfadacaa.W
open Go.RowKit Go.Proofs.Ytfggkljgfadacaa.B Go.Proofs

def smallT (t : LTx) : Prop := (1 ≤ t.ins.length ∧ t.ins.length ≤ 8) ∧ (1 ≤ t.outs.length ∧ t.outs.length ≤ 8) ∧ (∀ x ∈ t.ins, x.prev.length = 32 ∧ x.script.length ≤ 40 ∧ x.wit.length ≤ 2 ∧ ∀ b ∈ x.wit, b.length ≤ 10) ∧ ∀ y ∈ t.outs, y.script.length ≤ 40
theorem small_may {t : LTx} (h : smallT t) : mayT t := by
  obtain ⟨h1, h2, h3, h4⟩ := h
  refine ⟨fun x hx => ?_, fun y hy => ?_, by omega, by omega, by omega, by omega⟩
  · obtain ⟨_, k1, k2, k3⟩ := h3 x hx
    exact ⟨by omega, by omega, fun b hb => by have := k3 b hb; omega⟩
  · have := h4 y hy
    unfold okOut
    omega
theorem cntB_le (x : List UInt8) (n : Nat) (h : x.length ≤ n) : (cntB x).length ≤ n + 5 := by
  have := cnt_length x.length
  unfold cntB
  simp only [List.length_append]
  omega
theorem small_weight {t : LTx} (h : smallT t) : ¬ 80000 < weightT t := by
  have hm := small_may h
  obtain ⟨h1, h2, h3, h4⟩ := h
  have e1 := flat_le inB 90 t.ins (fun x hx => by
    obtain ⟨k0, k1, _⟩ := h3 x hx
    have := cntB_le x.script 40 k1
    unfold inB
    simp only [List.length_append, le_length]
    omega)
  have e2 := flat_le outB 60 t.outs (fun y hy => by
    have := cntB_le y.script 40 (h4 y hy)
    unfold outB
    simp only [List.length_append, le_length]
    omega)
  have e3 := flat_le witB 60 t.ins (fun x hx => by
    obtain ⟨_, _, k2, k3⟩ := h3 x hx
    have := flat_le cntB 15 x.wit (fun b hb => cntB_le b 10 (k3 b hb))
    have := cnt_length x.wit.length
    unfold witB
    simp only [List.length_append]
    omega)
  have e4 := cnt_length t.ins.length
  have e5 := cnt_length t.outs.length
  have hb : (bodyB t).length ≤ 1300 := by
    unfold bodyB
    simp only [List.length_append]
    omega
  unfold weightT
  rw [bytesT_may hm]
  unfold baseT
  rw [if_pos hm]
  unfold bytesB
  split <;> (unfold baseB; simp only [List.length_append, le_length, List.length_cons, List.length_nil]; omega)
theorem check_1 {t : LTx} (h : ¬ mayT t) : checkT t = 1 := by unfold checkT; rw [if_neg h]
theorem check_2 {t : LTx} (h : smallT t) (hv : t.ver = 0) : checkT t = 2 := by unfold checkT; rw [if_pos (small_may h), if_pos (.inl hv)]
theorem any_kind {t : LTx} (hk : ∀ y ∈ t.outs, kindOf y.script ≠ 0) : ¬ t.outs.any (fun y => kindOf y.script == 0) = true := fun ha => by
  obtain ⟨y, hy, he⟩ := List.any_eq_true.1 ha
  exact hk y hy (beq_iff_eq.1 he)
theorem check_k0 {t : LTx} (hk : ∀ y ∈ t.outs, kindOf y.script ≠ 0) (hc : ¬ 1 < t.outs.countP (fun y => kindOf y.script == 5)) : kindsT t.outs = 0 := by unfold kindsT; rw [if_neg (any_kind hk), if_neg hc]
section
variable {t : LTx} (h : smallT t) (hv : t.ver = 2 ∨ t.ver = 3)
include h hv
theorem check_3 : checkT t = if insT t.ins ≠ 0 then insT t.ins else if kindsT t.outs ≠ 0 then kindsT t.outs else if (tot (valuesT t.outs)).2 = false then 8 else if 1 < t.outs.countP dustB then 9 else 0 := by
  unfold checkT
  rw [if_pos (small_may h), if_neg (by omega), if_neg (small_weight h)]
theorem check_4 (hn : ∃ x ∈ t.ins, nullB x = true) : checkT t = 4 := by
  have e : insT t.ins = 4 := by unfold insT; rw [if_pos (List.any_eq_true.2 hn)]
  rw [check_3 h hv, e]
  simp
theorem check_5 (hn : ∀ x ∈ t.ins, nullB x = false) (hd : ¬ (t.ins.map ptOf).Nodup) : checkT t = 5 := by
  have e : insT t.ins = 5 := by
    unfold insT
    rw [if_neg (fun ha => by obtain ⟨x, hx, hy⟩ := List.any_eq_true.1 ha; rw [hn x hx] at hy; cases hy), if_neg hd]
  rw [check_3 h hv, e]
  simp
variable (hi : insT t.ins = 0)
include hi
theorem check_6 (hk : ∃ y ∈ t.outs, kindOf y.script = 0) : checkT t = 6 := by
  have e : kindsT t.outs = 6 := by
    obtain ⟨y, hy, hk⟩ := hk
    unfold kindsT
    rw [if_pos (List.any_eq_true.2 ⟨y, hy, by rw [hk]; rfl⟩)]
  rw [check_3 h hv, hi, e]
  simp
variable (hk : ∀ y ∈ t.outs, kindOf y.script ≠ 0)
include hk
theorem check_7 (hc : 1 < t.outs.countP (fun y => kindOf y.script == 5)) : checkT t = 7 := by
  have e : kindsT t.outs = 7 := by unfold kindsT; rw [if_neg (any_kind hk), if_pos hc]
  rw [check_3 h hv, hi, e]
  simp
variable (hc : ¬ 1 < t.outs.countP (fun y => kindOf y.script == 5))
include hc
theorem check_8 (hs : 2100000000000000 < (valuesT t.outs).sum) : checkT t = 8 := by
  rw [check_3 h hv, hi, check_k0 hk hc]
  unfold tot
  rw [if_neg (show ¬ (valuesT t.outs).sum ≤ 2100000000000000 by omega)]
  rfl
variable (hs : (valuesT t.outs).sum ≤ 2100000000000000)
include hs
theorem check_9 (hd : 1 < t.outs.countP dustB) : checkT t = 9 := by
  rw [check_3 h hv, hi, check_k0 hk hc]
  unfold tot
  rw [if_pos hs]
  simp [hd]
theorem check_0 (hd : ¬ 1 < t.outs.countP dustB) : checkT t = 0 := by
  rw [check_3 h hv, hi, check_k0 hk hc]
  unfold tot
  rw [if_pos hs]
  simp [hd]
end
/-! Of what Good makes -/
theorem good_small {t : LTx} (h : goodP t) : smallT t := by
  obtain ⟨h1, h2, h3, h4, h5⟩ := h
  refine ⟨by omega, by omega, fun x hx => ?_, fun y hy => ?_⟩
  · obtain ⟨i, hi⟩ := List.getElem?_of_mem hx
    obtain ⟨k1, k2, k3, k4, _⟩ := h4 i x hi
    exact ⟨k1, by omega, k3, fun b hb => by have := k4 b hb; omega⟩
  · obtain ⟨i, hi⟩ := List.getElem?_of_mem hy
    have := (h5 i y hi).1
    omega
theorem u8i_ne {i : Nat} (h : i < 8) : u8i ((i : Int) + 1) ≠ 0 := by
  rcases (show i = 0 ∨ i = 1 ∨ i = 2 ∨ i = 3 ∨ i = 4 ∨ i = 5 ∨ i = 6 ∨ i = 7 by omega) with rfl | rfl | rfl | rfl | rfl | rfl | rfl | rfl <;> decide
theorem u8i_inj {i j : Nat} (hi : i < 8) (hj : j < 8) (h : u8i ((i : Int) + 1) = u8i ((j : Int) + 1)) : i = j := by
  have h1 := u8i_val ((i : Int) + 1)
  have h2 := u8i_val ((j : Int) + 1)
  rw [h] at h1
  omega
theorem not_null {x : LIn} {i : Nat} (h : i < 8) (hx : x.prev[31]? = some (u8i ((i : Int) + 1))) : nullB x = false := by
  unfold nullB
  rw [Bool.and_eq_false_iff]
  refine .inl (beq_eq_false_iff_ne.2 fun e => ?_)
  rw [e] at hx
  have h0 : (zB 32)[31]? = some 0 := by simp [zB]
  rw [h0] at hx
  exact u8i_ne h (Option.some.inj hx).symm
theorem good_ins {t : LTx} (h : goodP t) : (∀ x ∈ t.ins, nullB x = false) ∧ (t.ins.map ptOf).Nodup := by
  obtain ⟨h1, h2, h3, h4, h5⟩ := h
  refine ⟨fun x hx => ?_, ?_⟩
  · obtain ⟨i, hi⟩ := List.getElem?_of_mem hx
    have hl := (List.getElem?_eq_some_iff.1 hi).1
    exact not_null (by omega) ((h4 i x hi).2.2.2.2 trivial)
  · rw [List.Nodup, List.pairwise_iff_getElem]
    intro i j hi hj hij e
    rw [List.length_map] at hi hj
    rw [List.getElem_map, List.getElem_map] at e
    have e1 : t.ins[i].prev = t.ins[j].prev := congrArg Prod.fst e
    have a1 := (h4 i _ (List.getElem?_eq_getElem hi)).2.2.2.2 trivial
    have a2 := (h4 j _ (List.getElem?_eq_getElem hj)).2.2.2.2 trivial
    rw [e1, a2] at a1
    have := u8i_inj (by omega) (by omega) (Option.some.inj a1)
    omega
theorem good_insT {t : LTx} (h : goodP t) : insT t.ins = 0 := by
  have h1 := good_ins h
  unfold insT
  rw [if_neg (fun ha => by obtain ⟨x, hx, hy⟩ := List.any_eq_true.1 ha; rw [h1.1 x hx] at hy; cases hy), if_pos h1.2]
theorem kind_s1 : kindOf (scriptB 1) = 2 := by decide
theorem kind_s4 : kindOf (scriptB 4) = 4 := by decide
theorem kind_s0 : kindOf (scriptB 0) = 1 := by decide
theorem kind_nil : kindOf [] = 0 := by decide
theorem kind_data : kindOf [106] = 5 := by decide
def plainO (y : LOut) : Prop := 5000 ≤ y.value ∧ y.value ≤ 9000 ∧ (kindOf y.script = 2 ∨ kindOf y.script = 4)
theorem good_out {t : LTx} (h : goodP t) : ∀ y ∈ t.outs, plainO y := by
  obtain ⟨h1, h2, h3, h4, h5⟩ := h
  intro y hy
  obtain ⟨i, hi⟩ := List.getElem?_of_mem hy
  have hl := (List.getElem?_eq_some_iff.1 hi).1
  obtain ⟨hv, hs⟩ := (h5 i y hi).2 trivial
  refine ⟨by omega, by omega, ?_⟩
  rcases hs with hs | hs
  · rw [hs]; exact .inl kind_s1
  · rw [hs]; exact .inr kind_s4
theorem plain_kind {y : LOut} (h : plainO y) : kindOf y.script ≠ 0 ∧ (kindOf y.script == 5) = false := by
  rcases h.2.2 with h | h <;> rw [h] <;> decide
theorem plain_dust {y : LOut} (h : plainO y) : dustB y = false := by
  unfold dustB
  rcases h.2.2 with k | k <;> rw [k] <;> refine decide_eq_false ?_ <;> unfold leastOf <;> simp <;> have := h.1 <;> omega
theorem plain_none {ys : List LOut} (h : ∀ y ∈ ys, plainO y) : ys.countP (fun y => kindOf y.script == 5) = 0 ∧ ys.countP dustB = 0 := by
  constructor
  · rw [List.countP_eq_zero]
    intro y hy
    rw [(plain_kind (h y hy)).2]
    decide
  · rw [List.countP_eq_zero]
    intro y hy
    rw [plain_dust (h y hy)]
    decide
theorem plain_sum : ∀ (ys : List LOut), (∀ y ∈ ys, plainO y) → (valuesT ys).sum ≤ 9000 * ys.length
  | [], _ => by simp [valuesT]
  | y :: ys, h => by
    have h1 := plain_sum ys (fun z hz => h z (List.mem_cons_of_mem _ hz))
    have h2 := (h y (List.mem_cons_self ..)).2.1
    unfold valuesT at *
    simp only [List.map_cons, List.sum_cons, List.length_cons]
    omega
theorem good_check {t : LTx} (h : goodP t) : checkT t = 0 := by
  have h1 := good_out h
  have h2 := plain_none h1
  have h3 := plain_sum _ h1
  have h4 := h.2.2.1
  exact check_0 (good_small h) h.1 (good_insT h) (fun y hy => (plain_kind (h1 y hy)).1) (by rw [h2.1]; omega) (by omega) (by rw [h2.2]; omega)
end Go.Proofs.Ytfggkljgfadacaa.W
namespace Go.Proofs.Ytfggkljgfadacaa.W
open Go.RowKit Go.Proofs.Ytfggkljgfadacaa.B Go.Proofs

theorem rdIns_one {W : World} {g : Nat} {cs : List Value} {x : LIn} (hb : Box W g cs.toArray 55) (hl : cs.length = 36) (h : InC W cs x) : RdIns W (.slice (some ⟨g, 0, none⟩) 1 1) [x] := by
  refine ⟨some ⟨g, 0, none⟩, 1, rfl, Nat.le_refl _, by decide, (fun h => by cases h), fun ad had => ?_⟩
  obtain rfl := Option.some.inj had
  refine ⟨g, 0, rfl, fun j y hj => ?_⟩
  rcases j with _ | j
  · simp at hj
    subst hj
    refine ⟨cs, hl, h, fun k u hu => ?_⟩
    have := Box.cell hb k u (by simpa using hu)
    simpa using this
  · simp at hj
def nullX : LIn := ⟨zB 32, 4294967295, [], 0, []⟩
def nullT (t : LTx) : LTx := ⟨2, [nullX], t.outs, 0⟩
theorem null_x : nullB nullX = true := by decide
theorem null_small {t : LTx} (h : goodP t) : smallT (nullT t) := by
  have hs := good_small h
  refine ⟨⟨Nat.le_refl 1, (by show 1 ≤ 8; decide)⟩, hs.2.1, fun x hx => ?_, hs.2.2.2⟩
  obtain rfl : x = nullX := by simpa [nullT] using hx
  exact ⟨rfl, by decide, by decide, fun b hb => by cases hb⟩
theorem null_check {t : LTx} (h : goodP t) : checkT (nullT t) = 4 := check_4 (null_small h) (.inl rfl) ⟨nullX, by simp [nullT], null_x⟩
theorem null_coin (t : LTx) : coinB (nullT t) = true := null_x
theorem good_coin {t : LTx} (h : goodP t) : coinB t = false := by
  unfold coinB
  split
  · rename_i x hx
    exact (good_ins h).1 x (by rw [hx]; simp)
  · rfl
theorem no_check : checkT noTx = 1 := check_1 not_may_no
set_option maxHeartbeats 4000000 in
set_option maxRecDepth 100000 in
theorem awake8_any (w : World) : Calls Try.prog 44 #[] w fun e w' => e = .returned (.bool true) ∧ Below w.heap.size w w' := by
  go_enter Try.func44, Try.ntmps44
  go_upto_region 2 with (go_at_call 34; (with_reducible refine (good_any 1 2 _).mono ?_); rintro e w1 ⟨cs, t, rfl, ht, hg, hb⟩; have HG := As.mk hg; have HT := As.mk ht; obtain ⟨AI, cI, AO, cO, rfl⟩ := TxC.four ht; have HB0 := As.mk hb; clear ht hg hb)
  have HX0 : As (BxT (w1.alloc (.cells #[.int .u32 (t.ver : Int), .slice AI t.ins.length cI, .slice AO t.outs.length cO, .int .u32 (t.lock : Int)] 51)) w1.heap.size [.int .u32 (t.ver : Int), .slice AI t.ins.length cI, .slice AO t.outs.length cO, .int .u32 (t.lock : Int)] t) := ⟨BxT.new HT.out⟩
  have HB1 : As (Below w.heap.size w (w1.alloc (.cells #[.int .u32 (t.ver : Int), .slice AI t.ins.length cI, .slice AO t.outs.length cO, .int .u32 (t.lock : Int)] 51))) := ⟨HB0.out.alloc HB0.out.size _⟩
  obtain ⟨A, hA⟩ : ∃ A, A = w1.heap.size := ⟨_, rfl⟩
  rw [← hA] at HX0 ⊢
  clear hA
  change Code.wp _ _ _ _ (w1.alloc (.cells #[.int .u32 (t.ver : Int), .slice AI t.ins.length cI, .slice AO t.outs.length cO, .int .u32 (t.lock : Int)] 51))
  generalize w1.alloc (.cells #[.int .u32 (t.ver : Int), .slice AI t.ins.length cI, .slice AO t.outs.length cO, .int .u32 (t.lock : Int)] 51) = W at HX0 HB1 ⊢
  obtain ⟨c36, hc36⟩ : ∃ c, c = (Z32 ++ [Value.int .u32 4294967295, Value.slice none 0 0, Value.int .u32 0, Value.slice none 0 0] : List Value) := ⟨_, rfl⟩
  have HC36 := As.mk hc36
  have HCL : As (c36.length = 36) := ⟨by rw [hc36]; rfl⟩
  obtain ⟨it, hit⟩ := Option.map_eq_some_iff.1 info55
  have HIT := As.mk hit
  clear hc36 hit
  obtain ⟨q0, q1, q2, q3⟩ := BxT.four HX0.out
  have q22 := cell_of_below (below_al W (.cells c36.toArray 55)) q2
  go_upto_region 3 with (first | ((with_reducible refine wpList_build_to (o := ⟨_, .build 55 #[(1, .const (.int .u32 4294967295))], _, _, _, _⟩) ?hgd 55 _ rfl c36.toArray ?hf ?_); (case hgd => exact rfl); (case hf => rw [HC36.out]; simp only [List.map_toArray, List.map_cons, List.map_nil]; exact built55c _)) | ((with_reducible refine wpList_buildSlice (o := ⟨_, .buildSlice 48 1 #[(0, .tmp 4)], _, _, _, _⟩) ?hgd 48 55 1 _ rfl c36.toArray it (.agg (Z32 ++ [Value.int .u32 0, Value.slice none 0 0, Value.int .u32 0, Value.slice none 0 0]).toArray) Try.underlying48 HIT.out.1 ?hz ?hsm ?hpo ?hf ?_); (case hgd => exact rfl); (case hz => have h := HIT.out.2; simp only [Prod.mk.injEq] at h; exact h.1); (case hsm => have h := HIT.out.2; simp only [Prod.mk.injEq] at h; rw [h.2.1]; decide); (case hpo => have h := HIT.out.2; simp only [Prod.mk.injEq] at h; rw [h.2.1]; decide); (case hf => have h := HIT.out.2; simp only [Prod.mk.injEq] at h; rw [h.2.1]; simp only [List.map_toArray, List.map_cons, List.map_nil]; exact fill55 _ (by simp) c36 HCL.out)))
  clear q0 q1 q2 q3 q22
  obtain ⟨g, hgg⟩ : ∃ g, g = W.heap.size := ⟨_, rfl⟩
  obtain ⟨N, hN⟩ : ∃ g, g = W.heap.size + 1 := ⟨_, rfl⟩
  have HS : As (Below w.heap.size w ((W.alloc (.cells c36.toArray 55)).alloc (.cells #[.int .u32 2, .slice (some ⟨g, 0, none⟩) 1 1, .slice AO t.outs.length cO, .int .u32 0] 51)) ∧ BxT ((W.alloc (.cells c36.toArray 55)).alloc (.cells #[.int .u32 2, .slice (some ⟨g, 0, none⟩) 1 1, .slice AO t.outs.length cO, .int .u32 0] 51)) A [.int .u32 (t.ver : Int), .slice AI t.ins.length cI, .slice AO t.outs.length cO, .int .u32 (t.lock : Int)] t ∧ BxT ((W.alloc (.cells c36.toArray 55)).alloc (.cells #[.int .u32 2, .slice (some ⟨g, 0, none⟩) 1 1, .slice AO t.outs.length cO, .int .u32 0] 51)) N [.int .u32 2, .slice (some ⟨g, 0, none⟩) 1 1, .slice AO t.outs.length cO, .int .u32 0] (nullT t)) := ⟨by
    have h1 := below_al W (.cells c36.toArray 55)
    have h2 := below_al (W.alloc (.cells c36.toArray 55)) (.cells #[.int .u32 2, .slice (some ⟨g, 0, none⟩) 1 1, .slice AO t.outs.length cO, .int .u32 0] 51)
    have h3 := h1.trans (h2.mono h1.size)
    refine ⟨HB1.out.trans (h3.mono HB1.out.size), HX0.out.below h3, ?_⟩
    have hin : InC (W.alloc (.cells c36.toArray 55)) c36 nullX := ⟨.slice none 0 0, .slice none 0 0, by rw [HC36.out]; rfl, rfl, RdB.nil _, RdW.nil _, by decide, by decide⟩
    have hr : RdIns (W.alloc (.cells c36.toArray 55)) (.slice (some ⟨g, 0, none⟩) 1 1) [nullX] := rdIns_one (by rw [hgg]; exact Box.new _ _ _) HCL.out hin
    have ht : TxC (W.alloc (.cells c36.toArray 55)) [.int .u32 2, .slice (some ⟨g, 0, none⟩) 1 1, .slice AO t.outs.length cO, .int .u32 0] (nullT t) := ⟨_, _, rfl, hr, (TxC.outs (HX0.out.tx.below h1) : RdOuts _ _ t.outs), by show (2 : Nat) < 4294967296; decide, by show (0 : Nat) < 4294967296; decide⟩
    have := BxT.new ht
    rw [hN]
    simpa using this⟩
  rw [← hN, ← hgg]
  clear hgg hN HX0 HB1
  change Code.wp _ _ _ _ ((W.alloc (.cells c36.toArray 55)).alloc (.cells #[.int .u32 2, .slice (some ⟨g, 0, none⟩) 1 1, .slice AO t.outs.length cO, .int .u32 0] 51))
  generalize (W.alloc (.cells c36.toArray 55)).alloc (.cells #[.int .u32 2, .slice (some ⟨g, 0, none⟩) 1 1, .slice AO t.outs.length cO, .int .u32 0] 51) = W3 at HS ⊢
  have HB := As.mk HS.out.1
  have HX := As.mk HS.out.2.1
  have HN := As.mk HS.out.2.2
  clear HS
  obtain ⟨q0, q1, q2, q3⟩ := BxT.four HX.out
  obtain ⟨r0, r1, r2, r3⟩ := BxT.four HN.out
  go_wp2_with (first | (go_at_call 43; first | ((with_reducible refine (check_to _ t _ (good_check HG.out) (BxT.tx HX.out)).mono ?_); rintro e w' ⟨rfl, hb⟩; have HS2 := As.mk (And.intro (Below.trans HB.out (hb.mono (below_size HB.out))) (And.intro (BxT.below HX.out hb) (BxT.below HN.out hb))); clear hb HB HX HN q0 q1 q2 q3 r0 r1 r2 r3; have HB := As.mk HS2.out.1; have HX := As.mk HS2.out.2.1; have HN := As.mk HS2.out.2.2; clear HS2; obtain ⟨q0, q1, q2, q3⟩ := BxT.four HX.out; obtain ⟨r0, r1, r2, r3⟩ := BxT.four HN.out) | ((with_reducible refine (check_to _ (nullT t) _ (null_check HG.out) (BxT.tx HN.out)).mono ?_); rintro e w' ⟨rfl, hb⟩; have HS2 := As.mk (And.intro (Below.trans HB.out (hb.mono (below_size HB.out))) (And.intro (BxT.below HX.out hb) (BxT.below HN.out hb))); clear hb HB HX HN q0 q1 q2 q3 r0 r1 r2 r3; have HB := As.mk HS2.out.1; have HX := As.mk HS2.out.2.1; have HN := As.mk HS2.out.2.2; clear HS2; obtain ⟨q0, q1, q2, q3⟩ := BxT.four HX.out; obtain ⟨r0, r1, r2, r3⟩ := BxT.four HN.out) | ((with_reducible refine (check_to _ noTx _ no_check (no_txC _)).mono ?_); rintro e w' ⟨rfl, hb⟩; have HS2 := As.mk (And.intro (Below.trans HB.out (hb.mono (below_size HB.out))) (And.intro (BxT.below HX.out hb) (BxT.below HN.out hb))); clear hb HB HX HN q0 q1 q2 q3 r0 r1 r2 r3; have HB := As.mk HS2.out.1; have HX := As.mk HS2.out.2.1; have HN := As.mk HS2.out.2.2; clear HS2; obtain ⟨q0, q1, q2, q3⟩ := BxT.four HX.out; obtain ⟨r0, r1, r2, r3⟩ := BxT.four HN.out)) | (go_at_call 71; first | ((with_reducible refine (coin_any _ (nullT t) _ (null_coin t) (BxT.tx HN.out)).mono ?_); rintro e w' ⟨rfl, hb⟩; have HS2 := As.mk (And.intro (Below.trans HB.out (hb.mono (below_size HB.out))) (And.intro (BxT.below HX.out hb) (BxT.below HN.out hb))); clear hb HB HX HN q0 q1 q2 q3 r0 r1 r2 r3; have HB := As.mk HS2.out.1; have HX := As.mk HS2.out.2.1; have HN := As.mk HS2.out.2.2; clear HS2; obtain ⟨q0, q1, q2, q3⟩ := BxT.four HX.out; obtain ⟨r0, r1, r2, r3⟩ := BxT.four HN.out) | ((with_reducible refine (coin_any _ t _ (good_coin HG.out) (BxT.tx HX.out)).mono ?_); rintro e w' ⟨rfl, hb⟩; have HS2 := As.mk (And.intro (Below.trans HB.out (hb.mono (below_size HB.out))) (And.intro (BxT.below HX.out hb) (BxT.below HN.out hb))); clear hb HB HX HN q0 q1 q2 q3 r0 r1 r2 r3; have HB := As.mk HS2.out.1; have HX := As.mk HS2.out.2.1; have HN := As.mk HS2.out.2.2; clear HS2; obtain ⟨q0, q1, q2, q3⟩ := BxT.four HX.out; obtain ⟨r0, r1, r2, r3⟩ := BxT.four HN.out)))
  go_ret
  exact ⟨rfl, HB.out⟩
end Go.Proofs.Ytfggkljgfadacaa.W
namespace Go.Proofs.Ytfggkljgfadacaa.W
open Go.RowKit Go.Proofs.Ytfggkljgfadacaa.B Go.Proofs

/-- What reads as a list reads as a row of cells. -/
theorem RdL.flat {α : Type} {R : World → List Value → α → Prop} {size : Nat} {w : World} {v : Value} {xs : List α} (h : RdL R size w v xs) (hs : 0 < size) :
    ∃ zs : List Value, RdS w size v xs.length zs ∧ ∀ (i : Nat) (x : α), xs[i]? = some x → R w ((zs.drop (i * size)).take size) x := by
  obtain ⟨A, c, rfl, h1, h2, h3, h4⟩ := h
  rcases A with _ | ad
  · have h0 : xs.length = 0 := by have := h3 rfl; omega
    obtain rfl : xs = [] := List.eq_nil_of_length_eq_zero h0
    exact ⟨[], ⟨by simp, none, c, rfl, h1, h2, h3, fun ad had => by cases had⟩, fun i x hx => by simp at hx⟩
  · obtain ⟨g, o, rfl, h5⟩ := h4 ad rfl
    have hz : ((List.range (xs.length * size)).map fun k => (w.cell? ⟨g, o + k, none⟩).getD undef).length = xs.length * size := by simp
    have hpart : ∀ (i : Nat) (x : α), xs[i]? = some x → ∀ cs : List Value, cs.length = size → w.rangeAt g (o + i * size) cs → ((((List.range (xs.length * size)).map fun k => (w.cell? ⟨g, o + k, none⟩).getD undef).drop (i * size)).take size) = cs := by
      intro i x hx cs hl hr
      have hi := (List.getElem?_eq_some_iff.1 hx).1
      have hle : i * size + size ≤ xs.length * size := by rw [← Nat.succ_mul]; exact Nat.mul_le_mul_right _ hi
      apply List.ext_getElem?
      intro j
      by_cases hj : j < size
      · rw [List.getElem?_take_of_lt hj, List.getElem?_drop, List.getElem?_map, List.getElem?_range (by omega)]
        have hcj : cs[j]? = some cs[j] := List.getElem?_eq_getElem (by omega)
        have := hr j _ hcj
        rw [Nat.add_assoc] at this
        rw [hcj, Option.map_some, this]
        rfl
      · rw [List.getElem?_eq_none (by rw [List.length_take]; omega), List.getElem?_eq_none (by omega)]
    refine ⟨_, ⟨hz, some ⟨g, o, none⟩, c, rfl, h1, h2, h3, ?_⟩, fun i x hx => ?_⟩
    · rintro ad had j u hu
      obtain rfl := Option.some.inj had
      have hj : j < xs.length * size := by have := (List.getElem?_eq_some_iff.1 hu).1; rw [hz] at this; exact this
      rw [List.getElem?_map, List.getElem?_range hj] at hu
      have hq : j / size < xs.length := Nat.div_lt_of_lt_mul (by rw [Nat.mul_comm]; exact hj)
      obtain ⟨cs, h6, h7, h8⟩ := h5 (j / size) _ (List.getElem?_eq_getElem hq)
      have hm : j % size < cs.length := by rw [h6]; exact Nat.mod_lt _ hs
      have hc := h8 (j % size) _ (List.getElem?_eq_getElem hm)
      rw [Nat.add_assoc, show j / size * size + j % size = j from Nat.div_add_mod' j size] at hc
      rw [Addr.add_mid]
      have hu' : (w.cell? ⟨g, o + j, none⟩).getD undef = u := Option.some.inj hu
      rw [hc] at hu' ⊢
      exact congrArg some hu'
    · obtain ⟨cs, h6, h7, h8⟩ := h5 i x hx
      rw [hpart i x hx cs h6 h8]
      exact h7
theorem RdL.imp {α : Type} {R R' : World → List Value → α → Prop} {size : Nat} {w : World} {v : Value} {xs : List α} (hi : ∀ cs x, R w cs x → R' w cs x) (h : RdL R size w v xs) : RdL R' size w v xs := by
  obtain ⟨A, c, rfl, h1, h2, h3, h4⟩ := h
  refine ⟨A, c, rfl, h1, h2, h3, fun ad had => ?_⟩
  obtain ⟨g, o, rfl, h5⟩ := h4 ad had
  refine ⟨g, o, rfl, fun j x hx => ?_⟩
  obtain ⟨cs, h6, h7, h8⟩ := h5 j x hx
  exact ⟨cs, h6, hi _ _ h7, h8⟩
/-- append(v, y...) of many elements. -/
theorem run_appM {P : Program} {α : Type} {E R : World → Option Nat → List Value → α → Prop} {w : World} (base : Nat) (t ty e : TypeId) (z : Value) (size bytes : Nat)
    (ht : P.underlying t = some (.slice e)) (hinfo : (P.info? e).map (fun i => (i.zero, i.size, i.bytes)) = some (some z, size, bytes)) (hzs : z.cells.size = size) (hsz : 0 < size) (hby : bytes ≤ 1000)
    (v : Value) (ys : List α) (hown : OwG E e size w base v ys) (y : Value) (xs : List α) (hy : RdL (fun w cs x => R w v.ownBlock cs x) size w y xs) (hone : ∀ cs x, R w v.ownBlock cs x → ∀ u ∈ cs, u.oneCell' = true)
    (hE : ∀ (v' : Value) (w' : World), w.grownBy w' v.ownBlock → (v'.ownBlock = v.ownBlock ∨ ∃ k, v'.ownBlock = some k ∧ w.heap.size ≤ k) → (∀ cs x, E w v.ownBlock cs x → E w' v'.ownBlock cs x) ∧ ∀ cs x, R w v.ownBlock cs x → E w' v'.ownBlock cs x)
    (hlen : ys.length + xs.length ≤ 1000000) (hbase : base ≤ w.heap.size) :
    ∃ v' w', (Builtin.append_ #[t, t] ty #[v, y]).run P w = .ok v' w' ∧ OwG E e size w' base v' (ys ++ xs) ∧ w.grownBy w' v.ownBlock ∧ (v'.ownBlock = v.ownBlock ∨ ∃ b, v'.ownBlock = some b ∧ w.heap.size ≤ b) := by
  obtain ⟨us, k1, k2⟩ := hown
  obtain ⟨i, hi, hzz⟩ := Option.map_eq_some_iff.1 hinfo
  simp only [Prod.mk.injEq] at hzz
  obtain ⟨hz0, hz1, hz2⟩ := hzz
  obtain ⟨zs, hrd, hzp⟩ := hy.flat hsz
  have hzl := hrd.1
  have h1 : ∀ u ∈ zs, u.oneCell' = true := by
    intro u hu
    obtain ⟨j, hj⟩ := List.getElem?_of_mem hu
    have hjl : j < xs.length * size := by have := (List.getElem?_eq_some_iff.1 hj).1; omega
    have hq : j / size < xs.length := Nat.div_lt_of_lt_mul (by rw [Nat.mul_comm]; exact hjl)
    refine hone _ _ (hzp (j / size) _ (List.getElem?_eq_getElem hq)) u ?_
    refine List.mem_iff_getElem?.2 ⟨j % size, ?_⟩
    rw [List.getElem?_take_of_lt (Nat.mod_lt _ hsz), List.getElem?_drop, show j / size * size + j % size = j from Nat.div_add_mod' j size]
    exact hj
  have hb2 : (ys.length + xs.length) * bytes ≤ 140737488355328 := by
    have := Nat.mul_le_mul hlen hby
    omega
  obtain ⟨v', w', hr, h2, h3, h4⟩ := run_app (P := P) w base t ty e i z size bytes ht hi hz0 hz1 hz2 hzs hsz v ys.length us k1 y xs.length zs hrd h1 (by unfold maxLen; omega) hb2 hbase
  refine ⟨v', w', hr, ⟨us ++ zs, by rw [List.length_append]; exact h2, fun j x hx => ?_⟩, h3, h4⟩
  have hul := k1.1
  by_cases hj : j < ys.length
  · rw [List.getElem?_append_left hj] at hx
    have hle : j * size + size ≤ ys.length * size := by rw [← Nat.succ_mul]; exact Nat.mul_le_mul_right _ hj
    have e1 : ((us ++ zs).drop (j * size)).take size = (us.drop (j * size)).take size := by
      rw [List.drop_append_of_le_length (by omega), List.take_append_of_le_length (by rw [List.length_drop]; omega)]
    rw [e1]
    exact (hE v' w' h3 h4).1 _ _ (k2 j x hx)
  · rw [List.getElem?_append_right (by omega)] at hx
    have e1 : ((us ++ zs).drop (j * size)).take size = (zs.drop ((j - ys.length) * size)).take size := by
      have : j * size = us.length + (j - ys.length) * size := by rw [hul, ← Nat.add_mul]; congr 1; omega
      rw [this, List.drop_append, List.drop_eq_nil_of_le (by omega)]
      simp
    rw [e1]
    exact (hE v' w' h3 h4).2 _ _ (hzp _ x hx)
/-- Its inputs and outputs: what they point to lies in w0. -/
def EI8 (w0 : World) (w : World) (own : Option Nat) (cs : List Value) (x : LIn) : Prop := InC w0 cs x
def EP8 (w0 : World) (w : World) (own : Option Nat) (cs : List Value) (y : LOut) : Prop := OutC w0 cs y
def EO8 (w0 : World) (w : World) (own : Option Nat) (cs : List Value) (y : LOut) : Prop := ∃ u, cs = [.int .u64 (y.value : Int), u] ∧ y.value < 18446744073709551616 ∧ (RdB w0 u y.script ∨ (OwC w w0.heap.size u y.script ∧ Off own u))
theorem EP8.weak {w0 w : World} {own : Option Nat} : ∀ cs y, EP8 w0 w own cs y → EO8 w0 w own cs y := fun cs y ⟨u, h1, h2, h3⟩ => ⟨u, h1, h3, .inl h2⟩
theorem EI8.one {w0 w : World} {own : Option Nat} : ∀ cs x, EI8 w0 w own cs x → ∀ u ∈ cs, u.oneCell' = true := fun cs x h => InC.one (w := w0) h
theorem EO8.one {w0 w : World} {own : Option Nat} : ∀ cs y, EO8 w0 w own cs y → ∀ u ∈ cs, u.oneCell' = true := by
  rintro cs y ⟨u, rfl, _, h⟩ v hv
  have hu : ∃ A n c, u = .slice A n c := by
    rcases h with h | h
    · obtain ⟨A, c, rfl, _⟩ := h.form; exact ⟨_, _, _, rfl⟩
    · obtain ⟨A, c, rfl, _⟩ := h.1.rd.form; exact ⟨_, _, _, rfl⟩
  obtain ⟨A, n, c, rfl⟩ := hu
  simp at hv
  rcases hv with rfl | rfl <;> rfl
theorem EO8.grow {w0 w w' : World} {own own' : Option Nat} (hg : w.grownBy w' own) (ht : own' = own ∨ ∃ k, own' = some k ∧ w.heap.size ≤ k) : ∀ cs y, EO8 w0 w own cs y → EO8 w0 w' own' cs y := by
  rintro cs y ⟨u, h1, h2, h⟩
  refine ⟨u, h1, h2, h.imp id fun h => ?_⟩
  have := ElC.grow (⟨h.1, h.2⟩ : ElC w w0.heap.size own u y.script) hg ht
  exact ⟨this.1, this.2⟩
/-- What a way of holding outputs must bear. -/
structure GoodE (w0 : World) (E : World → Option Nat → List Value → LOut → Prop) : Prop where
  apart : ∀ (w w' : World) (own row : Option Nat) (k : TypeId) (cs : List Value) (y : LOut), w.grownBy w' row → Kd w row k → (5 : TypeId) ≠ k → E w own cs y → E w' own cs y
  below : ∀ (w w' : World) (own : Option Nat) (cs : List Value) (y : LOut), Below w.heap.size w w' → E w own cs y → E w' own cs y
  val : ∀ (w : World) (own : Option Nat) (cs : List Value) (y : LOut) (x : Nat), x < 18446744073709551616 → E w own cs y → E w own (cs.set 0 (.int .u64 (x : Int))) { y with value := x }
  nil : ∀ (w : World) (own : Option Nat) (cs : List Value) (y : LOut), E w own cs y → E w own (cs.set 1 (.slice none 0 0)) { y with script := [] }
  rd : ∀ (w : World) (own : Option Nat) (cs : List Value) (y : LOut), Below w0.heap.size w0 w → E w own cs y → OutC w cs y
theorem goodP8 (w0 : World) : GoodE w0 (EP8 w0) where
  apart := fun _ _ _ _ _ _ _ _ _ _ h => h
  below := fun _ _ _ _ _ _ h => h
  val := fun w own cs y x hx ⟨u, h1, h2, h3⟩ => ⟨u, by rw [h1]; rfl, h2, hx⟩
  nil := fun w own cs y ⟨u, h1, h2, h3⟩ => ⟨.slice none 0 0, by rw [h1]; rfl, RdB.nil _, h3⟩
  rd := fun w own cs y hb h => OutC.stable _ _ _ _ h hb
theorem goodO8 (w0 : World) : GoodE w0 (EO8 w0) where
  apart := fun w w' own row k cs y hg hk hne ⟨u, h1, h2, h⟩ => ⟨u, h1, h2, h.imp id fun h => ⟨OwC.apartO h.1 hg hk hne, h.2⟩⟩
  below := fun w w' own cs y hb ⟨u, h1, h2, h⟩ => ⟨u, h1, h2, h.imp id fun h => ⟨h.1.below hb, h.2⟩⟩
  val := fun w own cs y x hx ⟨u, h1, h2, h⟩ => ⟨u, by rw [h1]; rfl, hx, h⟩
  nil := fun w own cs y ⟨u, h1, h2, h⟩ => ⟨.slice none 0 0, by rw [h1]; rfl, h2, .inl (RdB.nil _)⟩
  rd := fun w own cs y hb ⟨u, h1, h2, h⟩ => ⟨u, h1, by
    rcases h with h | h
    · exact h.below hb
    · exact h.1.rd, h2⟩
/-- How StatForms' transaction stands. -/
def FS (E : World → Option Nat → List Value → LOut → Prop) (w w0 W : World) (G : Nat) (cs : List Value) (t : LTx) : Prop :=
  Below w.heap.size w w0 ∧ Below w0.heap.size w0 W ∧ Box W G cs.toArray 51 ∧ w0.heap.size ≤ G ∧ ∃ iv ov, cs = [.int .u32 (t.ver : Int), iv, ov, .int .u32 (t.lock : Int)] ∧ OwG (EI8 w0) 55 36 W w0.heap.size iv t.ins ∧ OwG (E) 57 2 W w0.heap.size ov t.outs ∧ t.ver < 4294967296 ∧ t.lock < 4294967296
section
variable {E : World → Option Nat → List Value → LOut → Prop} {w w0 W W' : World} {G : Nat} {cs : List Value} {t : LTx}
theorem FS.tx (h : FS E w w0 W G cs t) (hE : GoodE w0 E) : TxC W cs t := by
  obtain ⟨h1, h2, h3, h4, iv, ov, rfl, h5, h6, h7⟩ := h
  refine ⟨iv, ov, rfl, ?_, ?_, h7⟩
  · exact RdL.imp (R := fun _ cs x => InC w0 cs x) (fun cs x hx => InC.stable _ _ _ _ hx h2) (OwG.rd (R := fun _ cs x => InC w0 cs x) (fun w' own cs x hx => hx) h5)
  · obtain ⟨us, k1, k2⟩ := h6
    have h8 : OwG (fun _ _ cs y => OutC W cs y) 57 2 W w0.heap.size ov t.outs := ⟨us, k1, fun i y hy => hE.rd _ _ _ _ h2 (k2 i y hy)⟩
    exact RdL.imp (fun cs y hy => hy) (OwG.rd (R := fun _ cs y => OutC W cs y) (fun w' own cs x hx => hx) h8)
theorem FS.weak (h : FS (EP8 w0) w w0 W G cs t) : FS (EO8 w0) w w0 W G cs t := by
  obtain ⟨h1, h2, h3, h4, iv, ov, rfl, h5, ⟨us, h6, h6'⟩, h7⟩ := h
  exact ⟨h1, h2, h3, h4, iv, ov, rfl, h5, ⟨us, h6, fun i y hy => EP8.weak _ _ (h6' i y hy)⟩, h7⟩
theorem FS.bel (h : FS E w w0 W G cs t) : Below w.heap.size w W := h.1.trans (h.2.1.mono h.1.size)
theorem FS.form (h : FS E w w0 W G cs t) : ∃ AI cI AO cO, cs = [.int .u32 (t.ver : Int), .slice AI t.ins.length cI, .slice AO t.outs.length cO, .int .u32 (t.lock : Int)] := by
  obtain ⟨h1, h2, h3, h4, iv, ov, rfl, h5, h6, h7⟩ := h
  obtain ⟨AI, cI, rfl⟩ := h5.form
  obtain ⟨AO, cO, rfl⟩ := h6.form
  exact ⟨_, _, _, _, rfl⟩
end
end Go.Proofs.Ytfggkljgfadacaa.W
namespace Go.Proofs.Ytfggkljgfadacaa.W
open Go.RowKit Go.Proofs.Ytfggkljgfadacaa.B Go.Proofs

theorem OwG.apartG {α : Type} {E : World → Option Nat → List Value → α → Prop} {e k : TypeId} {size : Nat} {w w' : World} {base : Nat} {v : Value} {ys : List α} {row : Option Nat} (h : OwG E e size w base v ys) (hg : w.grownBy w' row) (hk : Kd w row k) (hne : e ≠ k) (hE : ∀ cs y, E w v.ownBlock cs y → E w' v.ownBlock cs y) : OwG E e size w' base v ys := by
  obtain ⟨us, h1, h2⟩ := h
  exact ⟨us, OwS.apartO h1 hg hk hne, fun i b hb => hE _ _ (h2 i b hb)⟩
section
variable {E : World → Option Nat → List Value → LOut → Prop} {w w0 W W' : World} {G : Nat} {cs : List Value} {t : LTx}
theorem FS.below (h : FS E w w0 W G cs t) (hE : GoodE w0 E) (hb : Below W.heap.size W W') : FS E w w0 W' G cs t := by
  obtain ⟨h1, h2, h3, h4, iv, ov, rfl, h5, h6, h7⟩ := h
  exact ⟨h1, h2.trans (hb.mono h2.size), h3.below hb, h4, iv, ov, rfl, OwG.same (E := EI8 w0) (w := W) (w' := W') (fun _ _ _ h => h) h5 hb, OwG.same (fun own cs y h => hE.below _ _ own cs y hb h) h6 hb, h7⟩
theorem FS.ver (h : FS E w w0 W G cs t) (hE : GoodE w0 E) (x : Nat) (hx : x < 4294967296) : FS E w w0 (W.setCell ⟨G, 0, none⟩ (.int .u32 (x : Int))) G (cs.set 0 (.int .u32 (x : Int))) { t with ver := x } := by
  obtain ⟨h1, h2, h3, h4, iv, ov, rfl, h5, h6, h7⟩ := h
  have gset := grown_set W G 0 (.int .u32 (x : Int))
  have hk : Kd W (some G) 51 := h3.kd
  exact ⟨h1, h2.setCell h4 _, Box.set h3 0 _, h4, iv, ov, rfl, h5.apartG gset hk (by decide) (fun _ _ h => h), h6.apartG gset hk (by decide) (fun cs y h => hE.apart _ _ _ _ _ cs y gset hk (by decide) h), hx, h7.2⟩
end
section
variable {E : World → Option Nat → List Value → LOut → Prop} {w w0 W : World} {G n c : Nat} {v0 iv v3 : Value} {AO : Option Addr} {t : LTx}
/-- One output's value, or its script. -/
theorem FS.out (h : FS E w w0 W G [v0, iv, .slice AO n c, v3] t) (hE : GoodE w0 E) (k : Nat) (y : LOut) (hk : t.outs[k]? = some y) :
    ∃ g o, AO = some ⟨g, o, none⟩ ∧ (W.cell? ⟨g, o + k * 2, none⟩).isSome = true ∧ W.frozen? ⟨g, o + k * 2, none⟩ = false ∧ (W.cell? ⟨g, o + k * 2 + 1, none⟩).isSome = true ∧ W.frozen? ⟨g, o + k * 2 + 1, none⟩ = false ∧
      (∀ x : Nat, x < 18446744073709551616 → FS E w w0 (W.setCell ⟨g, o + k * 2, none⟩ (.int .u64 (x : Int))) G [v0, iv, .slice AO n c, v3] { t with outs := t.outs.set k { y with value := x } }) ∧
      FS E w w0 (W.setCell ⟨g, o + k * 2 + 1, none⟩ (.slice none 0 0)) G [v0, iv, .slice AO n c, v3] { t with outs := t.outs.set k { y with script := [] } } := by
  obtain ⟨h1, h2, h3, h4, iv', ov', he, h5, h6, h7⟩ := h
  injection he with e0 he
  injection he with e1 he
  injection he with e2 he
  injection he with e3 _
  subst e0 e1 e2 e3
  have hlt := (List.getElem?_eq_some_iff.1 hk).1
  obtain ⟨g, o, rfl, hg0, hg1, hcf⟩ := OwG.block h6 k hlt
  have hkd : Kd W (some g) 57 := h6.kd
  have c0 := hcf 0 (by decide)
  have c1 := hcf 1 (by decide)
  rw [Nat.add_zero] at c0
  rw [← Nat.add_assoc] at c1
  refine ⟨g, o, rfl, c0.1, c0.2, c1.1, c1.2, fun x hx => ?_, ?_⟩
  · have gset := grown_set W g (o + k * 2) (.int .u64 (x : Int))
    have q := OwG.setK (E := fun cs y => E W (some g) cs y) (E' := fun _ own cs y => E W own cs y) h6.choose_spec.1 h6.choose_spec.2 k y { y with value := x } hk 0 (by decide) (.int .u64 (x : Int)) (fun cs _ hc => hE.val _ _ _ _ x hx hc) (fun i cs x' _ _ hc => hc)
    rw [Nat.add_zero] at q
    obtain ⟨us, q1, q2⟩ := q
    exact ⟨h1, h2.setCell hg0 _, h3.apartO gset hkd (by decide), h4, _, _, rfl, h5.apartG gset hkd (by decide) (fun _ _ h => h), ⟨us, q1, fun i b hb => hE.apart _ _ _ _ _ _ _ gset hkd (by decide) (q2 i b hb)⟩, h7⟩
  · have gset := grown_set W g (o + k * 2 + 1) (.slice none 0 0)
    have q := OwG.setK (E := fun cs y => E W (some g) cs y) (E' := fun _ own cs y => E W own cs y) h6.choose_spec.1 h6.choose_spec.2 k y { y with script := [] } hk 1 (by decide) (.slice none 0 0) (fun cs _ hc => hE.nil _ _ _ _ hc) (fun i cs x' _ _ hc => hc)
    rw [← Nat.add_assoc] at q
    obtain ⟨us, q1, q2⟩ := q
    exact ⟨h1, h2.setCell hg0 _, h3.apartO gset hkd (by decide), h4, _, _, rfl, h5.apartG gset hkd (by decide) (fun _ _ h => h), ⟨us, q1, fun i b hb => hE.apart _ _ _ _ _ _ _ gset hkd (by decide) (q2 i b hb)⟩, h7⟩
theorem FS.four {v1 v2 : Value} (h : FS E w w0 W G [v0, v1, v2, v3] t) : W.cell? ⟨G, 0, none⟩ = some v0 ∧ W.cell? ⟨G, 1, none⟩ = some v1 ∧ W.cell? ⟨G, 2, none⟩ = some v2 ∧ W.cell? ⟨G, 3, none⟩ = some v3 ∧ (∀ j, W.frozen? ⟨G, j, none⟩ = false) := Box.four h.2.2.1
end
set_option maxHeartbeats 1000000 in
set_option maxRecDepth 100000 in
theorem version_any {E : World → Option Nat → List Value → LOut → Prop} {w w0 W : World} {G : Nat} {cs : List Value} {t : LTx} (h : FS E w w0 W G cs t) (hE : GoodE w0 E) :
    Calls Try.prog 35 #[.pointer (some ⟨G, 0, none⟩)] W fun e w' => e = .returned (.tuple #[]) ∧ ∃ cs', FS E w w0 w' G cs' { t with ver := 0 } := by
  obtain ⟨AI, cI, AO, cO, rfl⟩ := h.form
  obtain ⟨q0, q1, q2, q3, fz⟩ := h.four
  have HF := As.mk (h.ver hE 0 (by decide))
  clear h
  go_enter Try.func35, Try.ntmps35
  go_wp2
  go_end0
  exact ⟨rfl, _, HF.out⟩
set_option maxHeartbeats 1000000 in
set_option maxRecDepth 100000 in
theorem kind8_any {E : World → Option Nat → List Value → LOut → Prop} {w w0 W : World} {G : Nat} {cs : List Value} {t : LTx} (h : FS E w w0 W G cs t) (hE : GoodE w0 E) (y : LOut) (hy : t.outs[0]? = some y) :
    Calls Try.prog 38 #[.pointer (some ⟨G, 0, none⟩)] W fun e w' => e = .returned (.tuple #[]) ∧ ∃ cs', FS E w w0 w' G cs' { t with outs := t.outs.set 0 { y with script := [] } } := by
  obtain ⟨AI, cI, AO, cO, rfl⟩ := h.form
  obtain ⟨q0, q1, q2, q3, fz⟩ := h.four
  obtain ⟨g, o, rfl, _, _, c1, f1, _, F⟩ := h.out hE 0 y hy
  have hn : 0 < t.outs.length := (List.getElem?_eq_some_iff.1 hy).1
  rw [Nat.zero_mul, Nat.add_zero] at c1 f1 F
  obtain ⟨u, hu⟩ := Option.isSome_iff_exists.1 c1
  have HF := As.mk F
  clear h hy c1 F
  go_enter Try.func38, Try.ntmps38
  go_wp2
  go_end0
  exact ⟨rfl, _, HF.out⟩
set_option maxHeartbeats 1000000 in
set_option maxRecDepth 100000 in
theorem money_any {E : World → Option Nat → List Value → LOut → Prop} {w w0 W : World} {G : Nat} {cs : List Value} {t : LTx} (h : FS E w w0 W G cs t) (hE : GoodE w0 E) (k : Nat) (hk : t.outs.length = k + 1) (hk8 : k ≤ 100) (y : LOut) (hy : t.outs[k]? = some y) :
    Calls Try.prog 40 #[.pointer (some ⟨G, 0, none⟩)] W fun e w' => e = .returned (.tuple #[]) ∧ ∃ cs', FS E w w0 w' G cs' { t with outs := t.outs.set k { y with value := 1152921504606846976 } } := by
  obtain ⟨AI, cI, AO, cO, rfl⟩ := h.form
  obtain ⟨q0, q1, q2, q3, fz⟩ := h.four
  obtain ⟨g, o, rfl, c0, f0, _, _, F, _⟩ := h.out hE k y hy
  obtain ⟨u, hu⟩ := Option.isSome_iff_exists.1 c0
  have HF := As.mk (F 1152921504606846976 (by decide))
  rw [hk] at HF q2
  have e1 : IntKind.i64.wrap (((k + 1 : Nat) : Int) - 1) = (k : Int) := by rw [IntWalk.i64_in _ (by omega)]; omega
  have hk1 : (k : Int) < ((k + 1 : Nat) : Int) := by omega
  clear h hy c0 F hk
  go_enter Try.func40, Try.ntmps40
  go_wp2
  go_end0
  exact ⟨rfl, _, HF.out⟩
end Go.Proofs.Ytfggkljgfadacaa.W
