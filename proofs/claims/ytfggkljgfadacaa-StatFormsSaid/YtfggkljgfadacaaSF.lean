/- StatForms: the first code that applies is told. -/
import Derived.Test.YtfggkljgfadacaaSE
set_option linter.unusedVariables false
set_option linter.unusedSimpArgs false
namespace Go.Proofs.Ytfggkljgfadacaa.W
open Go.RowKit Go.Proofs.Ytfggkljgfadacaa.B Go.Proofs

theorem run_empty48 (w : World) : (Instr.buildSlice 48 0 #[]).run Try.prog w = .ok (.slice (some ⟨w.heap.size, 0, none⟩) 0 0) (w.alloc (.cells #[] 55)) := by
  obtain ⟨i, hi, hzz⟩ := Option.map_eq_some_iff.1 info55
  simp only [Prod.mk.injEq] at hzz
  simp [Instr.buildSlice, run_underlying Try.underlying48, sizeOf, typeInfo, zeroValue, hi, hzz.1, hzz.2.1, Instr.fill, newRow]
  rw [show Array.map (fun _ => (default : Value)) (Array.range 0) = #[] by apply Array.ext <;> simp]
theorem run_empty49 (w : World) : (Instr.buildSlice 49 0 #[]).run Try.prog w = .ok (.slice (some ⟨w.heap.size, 0, none⟩) 0 0) (w.alloc (.cells #[] 57)) := by
  obtain ⟨i, hi, hzz⟩ := Option.map_eq_some_iff.1 info57
  simp only [Prod.mk.injEq] at hzz
  simp [Instr.buildSlice, run_underlying Try.underlying49, sizeOf, typeInfo, zeroValue, hi, hzz.1, hzz.2.1, Instr.fill, newRow]
  rw [show Array.map (fun _ => (default : Value)) (Array.range 0) = #[] by apply Array.ext <;> simp]
section
variable {ops : Array Oper} {o : Oper} {a : Act} {w : World} {K : Act → World → Prop} {Q : Exit → Act → World → Prop} {F : Prop}
theorem step_empty48 (hgd : o.guard = none) (ho : o.op = .buildSlice 48 0 #[])
    (h : ∀ (g : Nat) (w' : World), Below w.heap.size w w' → (∀ base, base ≤ w.heap.size → OwS w' base 55 36 (.slice (some ⟨g, 0, none⟩) 0 0) 0 []) → K (a.put o.dst (.slice (some ⟨g, 0, none⟩) 0 0)) w') : if Region.wanted o (yielded ops a.tmps) = true then Oper.wp Try.prog o a w K Q else F := by
  rw [if_pos (by simp [Region.wanted, hgd])]
  unfold Oper.wp execOp
  have hr := run_empty48 w
  simp only [ho, Sem.run_bind, Sem.run_pure, Result.andThen_ok, List.map_toArray, List.map_nil, hr]
  exact h _ _ (below_al _ _) (fun base hb => OwS.lit w base 55 36 0 #[] hb (by decide) rfl)
theorem step_empty49 (hgd : o.guard = none) (ho : o.op = .buildSlice 49 0 #[])
    (h : ∀ (g : Nat) (w' : World), Below w.heap.size w w' → (∀ base, base ≤ w.heap.size → OwS w' base 57 2 (.slice (some ⟨g, 0, none⟩) 0 0) 0 []) → K (a.put o.dst (.slice (some ⟨g, 0, none⟩) 0 0)) w') : if Region.wanted o (yielded ops a.tmps) = true then Oper.wp Try.prog o a w K Q else F := by
  rw [if_pos (by simp [Region.wanted, hgd])]
  unfold Oper.wp execOp
  have hr := run_empty49 w
  simp only [ho, Sem.run_bind, Sem.run_pure, Result.andThen_ok, List.map_toArray, List.map_nil, hr]
  exact h _ _ (below_al _ _) (fun base hb => OwS.lit w base 57 2 0 #[] hb (by decide) rfl)
end
theorem OwG.of_empty {α : Type} {E : World → Option Nat → List Value → α → Prop} {e : TypeId} {size : Nat} {w : World} {base : Nat} {v : Value} (h : OwS w base e size v 0 []) : OwG E e size w base v [] := ⟨[], h, fun i y hy => by simp at hy⟩
theorem OwG.keepB {α : Type} (E : World → Option Nat → List Value → α → Prop) {e : TypeId} {size : Nat} {w w' : World} {base : Nat} {v : Value} {ys : List α} (h : OwG E e size w base v ys) (hb : Below w.heap.size w w') (hE : ∀ own cs y, E w own cs y → E w' own cs y := by exact fun _ _ _ h => h) : OwG E e size w' base v ys := OwG.same hE h hb
theorem FS.make {w w0 W : World} {G : Nat} {t : LTx} {v1 v2 iv ov : Value} (h1 : Below w.heap.size w w0) (h2 : Below w0.heap.size w0 W) (h3 : Box W G #[.int .u32 (t.ver : Int), v1, v2, .int .u32 (t.lock : Int)] 51) (h4 : w0.heap.size ≤ G)
    (h5 : OwG (EI8 w0) 55 36 W w0.heap.size iv t.ins) (h6 : OwG (EP8 w0) 57 2 W w0.heap.size ov t.outs) (hf : fitT t) : FS (EP8 w0) w w0 ((W.setCell ⟨G, 1, none⟩ iv).setCell ⟨G, 2, none⟩ ov) G [.int .u32 (t.ver : Int), iv, ov, .int .u32 (t.lock : Int)] t := by
  have hk : Kd W (some G) 51 := h3.kd
  have hg := grown_trans (grown_set W G 1 iv) (grown_set _ G 2 ov)
  refine ⟨h1, (h2.setCell h4 _).setCell h4 _, ?_, h4, iv, ov, rfl, h5.apartG hg hk (by decide) (fun _ _ h => h), h6.apartG hg hk (by decide) (fun _ _ h => h), hf.1, hf.2.1⟩
  exact Box.set (cs := [_, _, _, _]) (Box.set (cs := [_, _, _, _]) h3 1 iv) 2 ov
/-! What each turn comes to. -/
theorem good_in0 {t : LTx} (h : goodP t) : ∃ x, t.ins[0]? = some x ∧ x ∈ t.ins ∧ x.prev.length = 32 ∧ x.script.length ≤ 40 ∧ x.wit.length ≤ 2 ∧ ∀ b ∈ x.wit, b.length ≤ 10 := by
  have h1 := h.2.1.1
  have hx : t.ins[0]? = some (t.ins[0]'(by omega)) := List.getElem?_eq_getElem (by omega)
  exact ⟨_, hx, List.mem_of_getElem? hx, (good_small h).2.2.1 _ (List.mem_of_getElem? hx)⟩
theorem good_out0 {t : LTx} (h : goodP t) : ∃ y, t.outs[0]? = some y := by
  have h1 := h.2.2.1.1
  exact ⟨_, List.getElem?_eq_getElem (by omega : 0 < t.outs.length)⟩
theorem good_outK {t : LTx} (h : goodP t) : ∃ k y, t.outs.length = k + 1 ∧ t.outs[k]? = some y ∧ k ≤ 3 := by
  have h1 := h.2.2.1
  exact ⟨t.outs.length - 1, _, by omega, List.getElem?_eq_getElem (by omega), by omega⟩
def nulled (x : LIn) : LIn := { x with prev := zB 32, vout := 4294967295 }
theorem nulled_null (x : LIn) : nullB (nulled x) = true := by
  show ((zB 32 == zB 32) && ((4294967295 : Int) == 4294967295)) = true
  simp
section
variable {t : LTx} (h : goodP t) {x : LIn} (hx : x.script.length ≤ 40 ∧ x.wit.length ≤ 2 ∧ ∀ b ∈ x.wit, b.length ≤ 10)
include h hx
theorem small_null : ∀ z ∈ t.ins.set 0 (nulled x), z.prev.length = 32 ∧ z.script.length ≤ 40 ∧ z.wit.length ≤ 2 ∧ ∀ b ∈ z.wit, b.length ≤ 10 := fun z hz => by
  rcases List.mem_or_eq_of_mem_set hz with hz | hz
  · exact (good_small h).2.2.1 z hz
  · rw [hz]; exact ⟨zB32_length, hx⟩
theorem case_0 : checkT { t with ver := 0, ins := t.ins.set 0 (nulled x) } = 2 := by
  have hs := good_small h
  exact check_2 ⟨by simpa using hs.1, hs.2.1, small_null h hx, hs.2.2.2⟩ rfl
theorem case_1 : checkT { t with ins := t.ins.set 0 (nulled x) ++ [nulled x] } = 4 := by
  have hs := good_small h
  have hl := h.2.1
  refine check_4 ⟨by simp; omega, hs.2.1, fun z hz => ?_, hs.2.2.2⟩ h.1 ⟨nulled x, by simp, nulled_null x⟩
  rcases List.mem_append.1 hz with hz | hz
  · exact small_null h hx z hz
  · simp at hz; rw [hz]; exact ⟨zB32_length, hx⟩
end
theorem small_kind {t : LTx} (h : goodP t) (y : LOut) : ∀ z ∈ t.outs.set 0 { y with script := [] }, z.script.length ≤ 40 := fun z hz => by
  rcases List.mem_or_eq_of_mem_set hz with hz | hz
  · exact (good_small h).2.2.2 z hz
  · rw [hz]; simp
theorem case_2 {t : LTx} (h : goodP t) {x : LIn} (hx : t.ins[0]? = some x) (y : LOut) : checkT { t with ins := t.ins ++ [x], outs := t.outs.set 0 { y with script := [] } } = 5 := by
  have hs := good_small h
  have hl := h.2.1
  have hm := List.mem_of_getElem? hx
  refine check_5 ⟨by simp; omega, by simpa using hs.2.1, fun z hz => ?_, small_kind h y⟩ h.1 (fun z hz => ?_) (fun hd => ?_)
  · rcases List.mem_append.1 hz with hz | hz
    · exact hs.2.2.1 z hz
    · simp at hz; rw [hz]; exact hs.2.2.1 x hm
  · rcases List.mem_append.1 hz with hz | hz
    · exact (good_ins h).1 z hz
    · simp at hz; rw [hz]; exact (good_ins h).1 x hm
  · rw [List.map_append, List.nodup_append] at hd
    exact hd.2.2 (ptOf x) (List.mem_map.2 ⟨x, hm, rfl⟩) (ptOf x) (by simp) rfl
theorem case_3 {t : LTx} (h : goodP t) {y : LOut} (hy : t.outs[0]? = some y) : checkT { t with outs := t.outs.set 0 { y with script := [] } ++ [dataO, dataO] } = 6 := by
  have hs := good_small h
  have hl := h.2.2.1
  have hlt := (List.getElem?_eq_some_iff.1 hy).1
  refine check_6 ⟨hs.1, by simp; omega, hs.2.2.1, fun z hz => ?_⟩ h.1 (show insT t.ins = 0 from good_insT h) ⟨{ y with script := [] }, List.mem_append_left _ (List.mem_iff_getElem?.2 ⟨0, List.getElem?_set_self hlt⟩), kind_nil⟩
  rcases List.mem_append.1 hz with hz | hz
  · exact small_kind h y z hz
  · simp at hz; rw [hz]; decide
theorem case_4 {t : LTx} (h : goodP t) : checkT { t with outs := t.outs ++ [dataO, { dataO with value := 1152921504606846976 }] } = 7 := by
  have hs := good_small h
  have hl := h.2.2.1
  have hg := good_out h
  have hn := plain_none hg
  refine check_7 ⟨hs.1, by simp; omega, hs.2.2.1, fun z hz => ?_⟩ h.1 (show insT t.ins = 0 from good_insT h) (fun z hz => ?_) ?_
  · rcases List.mem_append.1 hz with hz | hz
    · exact hs.2.2.2 z hz
    · simp at hz; rcases hz with rfl | rfl <;> decide
  · rcases List.mem_append.1 hz with hz | hz
    · exact (plain_kind (hg z hz)).1
    · simp at hz; rcases hz with rfl | rfl <;> decide
  · show 1 < (t.outs ++ [dataO, { dataO with value := 1152921504606846976 }]).countP _
    rw [List.countP_append, hn.1]
    decide
theorem set_last {α : Type} (xs : List α) (a b c : α) : (xs ++ [a, b]).set (xs.length + 1) c = xs ++ [a, c] := by
  rw [List.set_append_right _ _ (by omega)]
  simp
theorem last_at {α : Type} (xs : List α) (a b : α) : (xs ++ [a, b])[xs.length + 1]? = some b := by
  rw [List.getElem?_append_right (by omega)]
  simp
theorem sum_ge : ∀ (l : List Nat) (n : Nat), n ∈ l → n ≤ l.sum
  | [], _, h => by cases h
  | a :: l, n, h => by
    rw [List.sum_cons]
    rcases List.mem_cons.1 h with rfl | h
    · omega
    · have := sum_ge l n h; omega
theorem case_5 {t : LTx} (h : goodP t) {k : Nat} {y : LOut} (hk : t.outs[k]? = some y) : checkT { t with outs := [dustO, dustO] ++ t.outs.set k { y with value := 1152921504606846976 } } = 8 := by
  have hs := good_small h
  have hl := h.2.2.1
  have hg := good_out h
  have hlt := (List.getElem?_eq_some_iff.1 hk).1
  have hyg := hg y (List.mem_of_getElem? hk)
  have hmem : ∀ z ∈ t.outs.set k { y with value := 1152921504606846976 }, z.script.length ≤ 40 ∧ kindOf z.script ≠ 0 ∧ (kindOf z.script == 5) = false := fun z hz => by
    rcases List.mem_or_eq_of_mem_set hz with hz | hz
    · exact ⟨hs.2.2.2 z hz, plain_kind (hg z hz)⟩
    · rw [hz]; exact ⟨hs.2.2.2 y (List.mem_of_getElem? hk), (show kindOf y.script ≠ 0 ∧ (kindOf y.script == 5) = false from plain_kind hyg)⟩
  refine check_8 ⟨hs.1, by simp; omega, hs.2.2.1, fun z hz => ?_⟩ h.1 (show insT t.ins = 0 from good_insT h) (fun z hz => ?_) ?_ ?_
  · rcases List.mem_append.1 hz with hz | hz
    · simp at hz; rw [hz]; decide
    · exact (hmem z hz).1
  · rcases List.mem_append.1 hz with hz | hz
    · simp at hz; rw [hz]; decide
    · exact (hmem z hz).2.1
  · show ¬ 1 < ([dustO, dustO] ++ t.outs.set k { y with value := 1152921504606846976 }).countP _
    have h0 : (t.outs.set k { y with value := 1152921504606846976 }).countP (fun y => kindOf y.script == 5) = 0 := by
      rw [List.countP_eq_zero]
      intro z hz
      rw [(hmem z hz).2.2]
      decide
    rw [List.countP_append, h0]
    decide
  · have : 1152921504606846976 ∈ valuesT ([dustO, dustO] ++ t.outs.set k { y with value := 1152921504606846976 }) := by
      unfold valuesT
      refine List.mem_map.2 ⟨{ y with value := 1152921504606846976 }, List.mem_append_right _ (List.mem_iff_getElem?.2 ⟨k, List.getElem?_set_self hlt⟩), rfl⟩
    have := sum_ge _ _ this
    show 2100000000000000 < (valuesT ([dustO, dustO] ++ t.outs.set k { y with value := 1152921504606846976 })).sum
    omega
theorem small_dust {t : LTx} (h : goodP t) : ∀ z ∈ [dustO, dustO] ++ t.outs, z.script.length ≤ 40 := fun z hz => by
  rcases List.mem_append.1 hz with hz | hz
  · simp at hz; rw [hz]; decide
  · exact (good_small h).2.2.2 z hz
theorem case_6 {t : LTx} (h : goodP t) : checkT { t with outs := [dustO, dustO] ++ t.outs } = 9 := by
  have hs := good_small h
  have hl := h.2.2.1
  have hg := good_out h
  have hn := plain_none hg
  have hsm := plain_sum _ hg
  refine check_9 ⟨hs.1, by simp; omega, hs.2.2.1, small_dust h⟩ h.1 (show insT t.ins = 0 from good_insT h) (fun z hz => ?_) ?_ ?_ ?_
  · rcases List.mem_append.1 hz with hz | hz
    · simp at hz; rw [hz]; decide
    · exact (plain_kind (hg z hz)).1
  · show ¬ 1 < ([dustO, dustO] ++ t.outs).countP _
    rw [List.countP_append, hn.1]
    decide
  · show (valuesT ([dustO, dustO] ++ t.outs)).sum ≤ _
    have e : valuesT ([dustO, dustO] ++ t.outs) = [0, 0] ++ valuesT t.outs := by unfold valuesT; rw [List.map_append]; rfl
    rw [e, List.sum_append]
    simp
    omega
  · show 1 < ([dustO, dustO] ++ t.outs).countP dustB
    rw [List.countP_append, hn.2]
    decide
theorem case_7 (t : LTx) : checkT { t with outs := [], ver := 0 } = 1 := check_1 (fun h => by have := h.2.2.2.2.1; simp at this)
theorem case_8 {t : LTx} (h : goodP t) : checkT { t with outs := [dustO, dustO] ++ t.outs, ver := 0 } = 2 := by
  have hs := good_small h
  have hl := h.2.2.1
  exact check_2 ⟨hs.1, by simp; omega, hs.2.2.1, small_dust h⟩ rfl

set_option maxHeartbeats 8000000 in
set_option maxRecDepth 100000 in
theorem statForms_any (n m how : Int) (w : World) : Calls Try.prog 8 #[.int .i64 n, .int .i64 m, .int .i64 how] w fun e w' => e = .returned (.bool true) ∧ Below w.heap.size w w' := by
  obtain ⟨N, hN, hN16⟩ := mask_nat how 4 15 (by decide) (by decide)
  have HNM := As.mk hN
  clear hN
  go_enter Try.func8, Try.ntmps8
  go_upto_region 2 with (go_at_call 34; (with_reducible refine (good_any n m _).mono ?_); rintro e w0 ⟨cs, t, rfl, ht, hg, hb⟩; have HG := As.mk hg; have HT := As.mk ht; obtain ⟨AI, cI, AO, cO, rfl⟩ := TxC.four ht; have HW0 := As.mk hb; clear ht hg hb)
  have HBl : As (Below w0.heap.size w0 (w0.alloc (.cells #[.int .u32 (t.ver : Int), .slice AI t.ins.length cI, .slice AO t.outs.length cO, .int .u32 (t.lock : Int)] 51))) := ⟨below_al _ _⟩
  have HB1 : As (Box (w0.alloc (.cells #[.int .u32 (t.ver : Int), .slice AI t.ins.length cI, .slice AO t.outs.length cO, .int .u32 (t.lock : Int)] 51)) w0.heap.size #[.int .u32 (t.ver : Int), .slice AI t.ins.length cI, .slice AO t.outs.length cO, .int .u32 (t.lock : Int)] 51) := ⟨Box.new _ _ _⟩
  have HNI : As (t.ins.length ≤ 4) := ⟨HG.out.2.1.2⟩
  have HNO : As (t.outs.length ≤ 4) := ⟨HG.out.2.2.1.2⟩
  obtain ⟨G, hGG⟩ : ∃ G, G = w0.heap.size := ⟨_, rfl⟩
  have HGG : As (w0.heap.size ≤ G) := ⟨by omega⟩
  rw [← hGG] at HB1 ⊢
  clear hGG
  change Code.wp _ _ _ _ (w0.alloc (.cells #[.int .u32 (t.ver : Int), .slice AI t.ins.length cI, .slice AO t.outs.length cO, .int .u32 (t.lock : Int)] 51))
  generalize w0.alloc (.cells #[.int .u32 (t.ver : Int), .slice AI t.ins.length cI, .slice AO t.outs.length cO, .int .u32 (t.lock : Int)] 51) = W at HBl HB1 ⊢
  have HX0 : As (Below w0.heap.size w0 W.drew ∧ Box W.drew G #[.int .u32 (t.ver : Int), .slice AI t.ins.length cI, .slice AO t.outs.length cO, .int .u32 (t.lock : Int)] 51) := ⟨HBl.out.trans ((below_dr W).mono HBl.out.size), HB1.out.below (below_dr W)⟩
  have HBW := HX0
  go_cut [] (fun wc => ∃ cs', As (FS (EP8 w0) w w0 wc G cs' t))
  case first =>
    refine wp_region_V (conds := [(9, (fun V : World => V.cell? ⟨G, 1, none⟩ = some (.slice AI t.ins.length cI))), (11, (fun V : World => V.cell? ⟨G, 2, none⟩ = some (.slice AO t.outs.length cO)))]) (by kernel_rfl) ?_ (fun hHeld => ?_)
    · intro q hq hL
      simp only [List.mem_cons, List.not_mem_nil, or_false] at hq
      rcases hq with rfl | rfl
      · exact HX0.out.2.cell 1 _ rfl
      · exact HX0.out.2.cell 2 _ rfl
    refine wpAnyV_take0 (i := 1) (oi := ?_) (v := ?_) (by simp only [List.getElem?_toArray, List.getElem?_cons_zero, List.getElem?_cons_succ]; rfl) (by kernel_rfl) (by kernel_rfl) (by kernel_rfl) (by exact fun _ _ _ h => h) (by simp) (Or.inl ⟨by rfl, ?_⟩) (by assumption) ?_
    rotate_left
    · (intro w hSw; clear hSw; go_simp; first | done | with_reducible rfl)
    try simp only [Act.put, List.setIfInBounds_toArray, List.set_cons_zero, List.set_cons_succ]
    replace hHeld := SV.one (i := 1) (by simp) hHeld
    refine wpAnyV_take (i := 2) (b := 9) (T := (fun V : World => V.cell? ⟨G, 1, none⟩ = some (.slice AI t.ins.length cI))) (oi := ?_) (v := ?_) (by simp only [List.getElem?_toArray, List.getElem?_cons_zero, List.getElem?_cons_succ]; rfl) (by kernel_rfl) (by kernel_rfl) (by kernel_rfl) (by exact fun _ _ _ h => h) (by simp) (by simp only [List.getElem?_toArray, List.getElem?_cons_zero, List.getElem?_cons_succ]; rfl) (by kernel_rfl) (by kernel_rfl) (List.Mem.head _) (Or.inl ⟨by rfl, ?_⟩) (by assumption) ?_
    rotate_left
    · (intro w hSw; (try dsimp only at hSw); go_simp; first | done | with_reducible rfl)
    try simp only [Act.put, List.setIfInBounds_toArray, List.set_cons_zero, List.set_cons_succ]
    replace hHeld := SV.one (i := 2) (by simp) hHeld
    refine wpAnyV_take0 (i := 5) (oi := ?_) (v := ?_) (by simp only [List.getElem?_toArray, List.getElem?_cons_zero, List.getElem?_cons_succ]; rfl) (by kernel_rfl) (by kernel_rfl) (by kernel_rfl) (by exact fun _ _ _ h => h) (by simp) (Or.inl ⟨by rfl, ?_⟩) (by assumption) ?_
    rotate_left
    · (intro w hSw; clear hSw; go_simp; first | done | with_reducible rfl)
    try simp only [Act.put, List.setIfInBounds_toArray, List.set_cons_zero, List.set_cons_succ]
    replace hHeld := SV.one (i := 5) (by simp) hHeld
    refine wpAnyV_take (i := 6) (b := 11) (T := (fun V : World => V.cell? ⟨G, 2, none⟩ = some (.slice AO t.outs.length cO))) (oi := ?_) (v := ?_) (by simp only [List.getElem?_toArray, List.getElem?_cons_zero, List.getElem?_cons_succ]; rfl) (by kernel_rfl) (by kernel_rfl) (by kernel_rfl) (by exact fun _ _ _ h => h) (by simp) (by simp only [List.getElem?_toArray, List.getElem?_cons_zero, List.getElem?_cons_succ]; rfl) (by kernel_rfl) (by kernel_rfl) (List.Mem.tail _ (List.Mem.head _)) (Or.inl ⟨by rfl, ?_⟩) (by assumption) ?_
    rotate_left
    · (intro w hSw; (try dsimp only at hSw); go_simp; first | done | with_reducible rfl)
    try simp only [Act.put, List.setIfInBounds_toArray, List.set_cons_zero, List.set_cons_succ]
    replace hHeld := SV.one (i := 6) (by simp) hHeld
    refine wpAnyV_ready (rs := [0, 4]) (by kernel_rfl) (by simp) ?_
    refine AllReadyV.cons (o := ?_) (by simp only [List.getElem?_toArray, List.getElem?_cons_zero, List.getElem?_cons_succ]; rfl) (fun K hK => ?_) ?_
    · refine step_empty48 ?hgd ?ho ?_
      case hgd => rfl
      case ho => rfl
      intro g0 wa hbl hne
      have HBW2 := As.mk (And.intro (HBW.out.1.trans (hbl.mono HBW.out.1.size)) (HBW.out.2.below hbl))
      have HE0 := As.mk (OwG.of_empty (E := EI8 w0) (size := 36) (hne w0.heap.size HBW.out.1.size))
      clear HBW hbl hne
      have HBW := HBW2
      clear HBW2
      have hS9 := HBW.out.2.cell 1 _ rfl
      have hS11 := HBW.out.2.cell 2 _ rfl
      refine hK.out _ _ ?_ (fun hHeld2 => ?_)
      · intro q hq hL
        simp only [List.mem_cons, List.not_mem_nil, or_false] at hq
        rcases hq with rfl | rfl
        · exact hS9
        · exact hS11
      clear hK K hHeld
      have hHeld := hHeld2
      clear hHeld2
      try simp only [Act.put, List.setIfInBounds_toArray, List.set_cons_zero, List.set_cons_succ]
      refine wpAnyV_ready (rs := [3, 4]) (by kernel_rfl) (by simp) ?_
      refine AllReadyV.cons (o := ?_) (by simp only [List.getElem?_toArray, List.getElem?_cons_zero, List.getElem?_cons_succ]; rfl) (fun K hK => ?_) ?_
      · refine step_appM (E := EI8 w0) (R := EI8 w0) w0.heap.size ?hgd (.tmp 19) (.tmp 21) 48 55 ZIn 36 96 ?ho Try.underlying48 info55z zin_size (by decide) (by decide) (.slice (some ⟨g0, 0, none⟩) 0 0) ?hs (.slice AI t.ins.length cI) ?hx [] t.ins HE0.out (RdL.below (fun _ _ _ _ h _ => h) (RdL.imp (R := InC) (R' := fun _ cs x => InC w0 cs x) (fun _ _ h => h) HT.out.ins) HBW.out.1) EI8.one (fun v' w' hg ht => ⟨fun _ _ h => h, fun _ _ h => h⟩) ?hl HBW.out.1.size ?_
        case hgd => rfl
        case ho => rfl
        case hs => rfl
        case hx => rfl
        case hl => have := HNI.out; simp; omega
        intro v3 w3 ho hg ht
        obtain ⟨A3, c3, h3⟩ := OwG.form ho
        rw [List.nil_append] at h3
        subst h3
        have HI := As.mk ho
        have hk := HE0.out.kd
        have HBW2 := As.mk (And.intro (HBW.out.1.grown hg HBW.out.1.size (fun k hk => (OwG.lt HE0.out k hk).1)) (HBW.out.2.apartO hg hk (by decide)))
        clear HBW ho hg ht hk HE0
        have HBW := HBW2
        clear HBW2
        have hS9 := HBW.out.2.cell 1 _ rfl
        have hS11 := HBW.out.2.cell 2 _ rfl
        refine hK.out _ _ ?_ (fun hHeld2 => ?_)
        · intro q hq hL
          simp only [List.mem_cons, List.not_mem_nil, or_false] at hq
          rcases hq with rfl | rfl
          · exact hS9
          · exact hS11
        clear hK K hHeld
        have hHeld := hHeld2
        clear hHeld2
        try simp only [Act.put, List.setIfInBounds_toArray, List.set_cons_zero, List.set_cons_succ]
        refine wpAnyV_take0 (i := 8) (oi := ?_) (v := ?_) (by simp only [List.getElem?_toArray, List.getElem?_cons_zero, List.getElem?_cons_succ]; rfl) (by kernel_rfl) (by kernel_rfl) (by kernel_rfl) (by exact fun _ _ _ h => h) (by simp) (Or.inl ⟨by rfl, ?_⟩) (by assumption) ?_
        rotate_left
        · (intro w hSw; clear hSw; go_simp; first | done | with_reducible rfl)
        try simp only [Act.put, List.setIfInBounds_toArray, List.set_cons_zero, List.set_cons_succ]
        replace hHeld := SV.one (i := 8) (by simp) hHeld
        refine wpAnyV_ready (rs := [4]) (by kernel_rfl) (by simp) ?_
        refine AllReadyV.cons (o := ?_) (by simp only [List.getElem?_toArray, List.getElem?_cons_zero, List.getElem?_cons_succ]; rfl) (fun K hK => ?_) ?_
        · refine step_empty49 ?hgd ?ho ?_
          case hgd => rfl
          case ho => rfl
          intro g4 wb hbl hne
          have HBW2 := As.mk (And.intro (HBW.out.1.trans (hbl.mono HBW.out.1.size)) (HBW.out.2.below hbl))
          have HE4 := As.mk (OwG.of_empty (E := EP8 w0) (size := 2) (hne w0.heap.size HBW.out.1.size))
          have HI2 := As.mk (OwG.keepB (EI8 w0) HI.out hbl)
          clear HI
          have HI := HI2
          clear HI2
          clear HBW hbl hne
          have HBW := HBW2
          clear HBW2
          have hS9 := HBW.out.2.cell 1 _ rfl
          have hS11 := HBW.out.2.cell 2 _ rfl
          refine hK.out _ _ ?_ (fun hHeld2 => ?_)
          · intro q hq hL
            simp only [List.mem_cons, List.not_mem_nil, or_false] at hq
            rcases hq with rfl | rfl
            · exact hS9
            · exact hS11
          clear hK K hHeld
          have hHeld := hHeld2
          clear hHeld2
          try simp only [Act.put, List.setIfInBounds_toArray, List.set_cons_zero, List.set_cons_succ]
          refine wpAnyV_ready (rs := [7]) (by kernel_rfl) (by simp) ?_
          refine AllReadyV.cons (o := ?_) (by simp only [List.getElem?_toArray, List.getElem?_cons_zero, List.getElem?_cons_succ]; rfl) (fun K hK => ?_) ?_
          · refine step_appM (E := EP8 w0) (R := EP8 w0) w0.heap.size ?hgd (.tmp 23) (.tmp 25) 49 57 (.agg #[.int .u64 0, .slice none 0 0]) 2 32 ?ho Try.underlying49 info57 rfl (by decide) (by decide) (.slice (some ⟨g4, 0, none⟩) 0 0) ?hs (.slice AO t.outs.length cO) ?hx [] t.outs HE4.out (RdL.below (fun _ _ _ _ h _ => h) (RdL.imp (R := OutC) (R' := fun _ cs x => OutC w0 cs x) (fun _ _ h => h) HT.out.outs) HBW.out.1) (fun cs y h => EO8.one (w := w0) (own := none) cs y (EP8.weak (w := w0) (own := none) cs y h)) (fun v' w' hg ht => ⟨fun _ _ h => h, fun _ _ h => h⟩) ?hl HBW.out.1.size ?_
            case hgd => rfl
            case ho => rfl
            case hs => rfl
            case hx => rfl
            case hl => have := HNO.out; simp; omega
            intro v7 w7 ho hg ht
            obtain ⟨A7, c7, h7⟩ := OwG.form ho
            rw [List.nil_append] at h7
            subst h7
            have HO := As.mk ho
            have hk := HE4.out.kd
            have HBW2 := As.mk (And.intro (HBW.out.1.grown hg HBW.out.1.size (fun k hk => (OwG.lt HE4.out k hk).1)) (HBW.out.2.apartO hg hk (by decide)))
            have HI2 := As.mk (HI.out.apartG hg hk (by decide) (fun _ _ h => h))
            clear HBW ho hg ht hk HE4 HI
            have HBW := HBW2
            have HI := HI2
            clear HBW2 HI2
            have HFF := As.mk (FS.make HW0.out HBW.out.1 HBW.out.2 HGG.out HI.out HO.out HT.out.fit)
            have hS9 := HBW.out.2.cell 1 _ rfl
            have hS11 := HBW.out.2.cell 2 _ rfl
            refine hK.out _ _ ?_ (fun hHeld2 => ?_)
            · intro q hq hL
              simp only [List.mem_cons, List.not_mem_nil, or_false] at hq
              rcases hq with rfl | rfl
              · exact hS9
              · exact hS11
            clear hK K hHeld
            have hHeld := hHeld2
            clear hHeld2
            try simp only [Act.put, List.setIfInBounds_toArray, List.set_cons_zero, List.set_cons_succ]
            refine wpAnyV_ready (rs := [9]) (by kernel_rfl) (by simp) ?_
            refine AllReadyV.cons (o := ?_) (by simp only [List.getElem?_toArray, List.getElem?_cons_zero, List.getElem?_cons_succ]; rfl) (fun K hK => ?_) ?_
            · obtain ⟨d0, d1, d2, d3, fz⟩ := Box.four HBW.out.2
              go_simp
              have hS11 := (Box.set (cs := [_, _, _, _]) HBW.out.2 1 (.slice A3 t.ins.length c3)).cell 2 _ rfl
              clear d0 d1 d2 d3 fz
              refine hK.out _ _ ?_ (fun hHeld2 => ?_)
              · intro q hq hL
                simp only [List.mem_cons, List.not_mem_nil, or_false] at hq
                rcases hq with rfl | rfl
                · exact Bool.noConfusion ((show _ = true from by kernel_rfl).symm.trans hL)
                · exact hS11
              clear hK K hHeld
              have hHeld := hHeld2
              clear hHeld2
              try simp only [Act.put, List.setIfInBounds_toArray, List.set_cons_zero, List.set_cons_succ]
              refine wpAnyV_take0 (i := 10) (oi := ?_) (v := ?_) (by simp only [List.getElem?_toArray, List.getElem?_cons_zero, List.getElem?_cons_succ]; rfl) (by kernel_rfl) (by kernel_rfl) (by kernel_rfl) (by exact fun _ _ _ h => h) (by simp) (Or.inl ⟨by rfl, ?_⟩) (by assumption) ?_
              rotate_left
              · (intro w hSw; clear hSw; go_simp; first | done | with_reducible rfl)
              try simp only [Act.put, List.setIfInBounds_toArray, List.set_cons_zero, List.set_cons_succ]
              replace hHeld := SV.one (i := 10) (by simp) hHeld
              refine wpAnyV_ready (rs := [11]) (by kernel_rfl) (by simp) ?_
              refine AllReadyV.cons (o := ?_) (by simp only [List.getElem?_toArray, List.getElem?_cons_zero, List.getElem?_cons_succ]; rfl) (fun K hK => ?_) ?_
              · obtain ⟨d0, d1, d2, d3, fz⟩ := Box.four (Box.set (cs := [_, _, _, _]) HBW.out.2 1 (.slice A3 t.ins.length c3))
                go_simp
                clear d0 d1 d2 d3 fz
                refine hK.out _ _ ?_ (fun hHeld2 => ?_)
                · intro q hq hL
                  simp only [List.mem_cons, List.not_mem_nil, or_false] at hq
                  rcases hq with rfl | rfl
                  · exact Bool.noConfusion ((show _ = true from by kernel_rfl).symm.trans hL)
                  · exact Bool.noConfusion ((show _ = true from by kernel_rfl).symm.trans hL)
                clear hK K hHeld
                have hHeld := hHeld2
                clear hHeld2
                try simp only [Act.put, List.setIfInBounds_toArray, List.set_cons_zero, List.set_cons_succ]
                refine wpAnyV_done (by kernel_rfl) ?_ _
                clear hHeld
                go_wp2
                go_meet
                exact ⟨_, HFF⟩
              exact AllReadyV.nil
            exact AllReadyV.nil
          exact AllReadyV.nil
        exact AllReadyV.nil
      refine AllReadyV.cons (o := ?_) (by simp only [List.getElem?_toArray, List.getElem?_cons_zero, List.getElem?_cons_succ]; rfl) (fun K hK => ?_) ?_
      · refine step_empty49 ?hgd ?ho ?_
        case hgd => rfl
        case ho => rfl
        intro g4 wb hbl hne
        have HBW2 := As.mk (And.intro (HBW.out.1.trans (hbl.mono HBW.out.1.size)) (HBW.out.2.below hbl))
        have HE4 := As.mk (OwG.of_empty (E := EP8 w0) (size := 2) (hne w0.heap.size HBW.out.1.size))
        have HE02 := As.mk (OwG.keepB (EI8 w0) HE0.out hbl)
        clear HE0
        have HE0 := HE02
        clear HE02
        clear HBW hbl hne
        have HBW := HBW2
        clear HBW2
        have hS9 := HBW.out.2.cell 1 _ rfl
        have hS11 := HBW.out.2.cell 2 _ rfl
        refine hK.out _ _ ?_ (fun hHeld2 => ?_)
        · intro q hq hL
          simp only [List.mem_cons, List.not_mem_nil, or_false] at hq
          rcases hq with rfl | rfl
          · exact hS9
          · exact hS11
        clear hK K hHeld
        have hHeld := hHeld2
        clear hHeld2
        try simp only [Act.put, List.setIfInBounds_toArray, List.set_cons_zero, List.set_cons_succ]
        refine wpAnyV_ready (rs := [3]) (by kernel_rfl) (by simp) ?_
        refine AllReadyV.cons (o := ?_) (by simp only [List.getElem?_toArray, List.getElem?_cons_zero, List.getElem?_cons_succ]; rfl) (fun K hK => ?_) ?_
        · refine step_appM (E := EI8 w0) (R := EI8 w0) w0.heap.size ?hgd (.tmp 19) (.tmp 21) 48 55 ZIn 36 96 ?ho Try.underlying48 info55z zin_size (by decide) (by decide) (.slice (some ⟨g0, 0, none⟩) 0 0) ?hs (.slice AI t.ins.length cI) ?hx [] t.ins HE0.out (RdL.below (fun _ _ _ _ h _ => h) (RdL.imp (R := InC) (R' := fun _ cs x => InC w0 cs x) (fun _ _ h => h) HT.out.ins) HBW.out.1) EI8.one (fun v' w' hg ht => ⟨fun _ _ h => h, fun _ _ h => h⟩) ?hl HBW.out.1.size ?_
          case hgd => rfl
          case ho => rfl
          case hs => rfl
          case hx => rfl
          case hl => have := HNI.out; simp; omega
          intro v3 w3 ho hg ht
          obtain ⟨A3, c3, h3⟩ := OwG.form ho
          rw [List.nil_append] at h3
          subst h3
          have HI := As.mk ho
          have hk := HE0.out.kd
          have HBW2 := As.mk (And.intro (HBW.out.1.grown hg HBW.out.1.size (fun k hk => (OwG.lt HE0.out k hk).1)) (HBW.out.2.apartO hg hk (by decide)))
          have HE42 := As.mk (HE4.out.apartG hg hk (by decide) (fun _ _ h => h))
          clear HE4
          have HE4 := HE42
          clear HE42
          clear HBW ho hg ht hk HE0
          have HBW := HBW2
          clear HBW2
          have hS9 := HBW.out.2.cell 1 _ rfl
          have hS11 := HBW.out.2.cell 2 _ rfl
          refine hK.out _ _ ?_ (fun hHeld2 => ?_)
          · intro q hq hL
            simp only [List.mem_cons, List.not_mem_nil, or_false] at hq
            rcases hq with rfl | rfl
            · exact hS9
            · exact hS11
          clear hK K hHeld
          have hHeld := hHeld2
          clear hHeld2
          try simp only [Act.put, List.setIfInBounds_toArray, List.set_cons_zero, List.set_cons_succ]
          refine wpAnyV_take0 (i := 8) (oi := ?_) (v := ?_) (by simp only [List.getElem?_toArray, List.getElem?_cons_zero, List.getElem?_cons_succ]; rfl) (by kernel_rfl) (by kernel_rfl) (by kernel_rfl) (by exact fun _ _ _ h => h) (by simp) (Or.inl ⟨by rfl, ?_⟩) (by assumption) ?_
          rotate_left
          · (intro w hSw; clear hSw; go_simp; first | done | with_reducible rfl)
          try simp only [Act.put, List.setIfInBounds_toArray, List.set_cons_zero, List.set_cons_succ]
          replace hHeld := SV.one (i := 8) (by simp) hHeld
          refine wpAnyV_ready (rs := [7]) (by kernel_rfl) (by simp) ?_
          refine AllReadyV.cons (o := ?_) (by simp only [List.getElem?_toArray, List.getElem?_cons_zero, List.getElem?_cons_succ]; rfl) (fun K hK => ?_) ?_
          · refine step_appM (E := EP8 w0) (R := EP8 w0) w0.heap.size ?hgd (.tmp 23) (.tmp 25) 49 57 (.agg #[.int .u64 0, .slice none 0 0]) 2 32 ?ho Try.underlying49 info57 rfl (by decide) (by decide) (.slice (some ⟨g4, 0, none⟩) 0 0) ?hs (.slice AO t.outs.length cO) ?hx [] t.outs HE4.out (RdL.below (fun _ _ _ _ h _ => h) (RdL.imp (R := OutC) (R' := fun _ cs x => OutC w0 cs x) (fun _ _ h => h) HT.out.outs) HBW.out.1) (fun cs y h => EO8.one (w := w0) (own := none) cs y (EP8.weak (w := w0) (own := none) cs y h)) (fun v' w' hg ht => ⟨fun _ _ h => h, fun _ _ h => h⟩) ?hl HBW.out.1.size ?_
            case hgd => rfl
            case ho => rfl
            case hs => rfl
            case hx => rfl
            case hl => have := HNO.out; simp; omega
            intro v7 w7 ho hg ht
            obtain ⟨A7, c7, h7⟩ := OwG.form ho
            rw [List.nil_append] at h7
            subst h7
            have HO := As.mk ho
            have hk := HE4.out.kd
            have HBW2 := As.mk (And.intro (HBW.out.1.grown hg HBW.out.1.size (fun k hk => (OwG.lt HE4.out k hk).1)) (HBW.out.2.apartO hg hk (by decide)))
            have HI2 := As.mk (HI.out.apartG hg hk (by decide) (fun _ _ h => h))
            clear HBW ho hg ht hk HE4 HI
            have HBW := HBW2
            have HI := HI2
            clear HBW2 HI2
            have HFF := As.mk (FS.make HW0.out HBW.out.1 HBW.out.2 HGG.out HI.out HO.out HT.out.fit)
            have hS9 := HBW.out.2.cell 1 _ rfl
            have hS11 := HBW.out.2.cell 2 _ rfl
            refine hK.out _ _ ?_ (fun hHeld2 => ?_)
            · intro q hq hL
              simp only [List.mem_cons, List.not_mem_nil, or_false] at hq
              rcases hq with rfl | rfl
              · exact hS9
              · exact hS11
            clear hK K hHeld
            have hHeld := hHeld2
            clear hHeld2
            try simp only [Act.put, List.setIfInBounds_toArray, List.set_cons_zero, List.set_cons_succ]
            refine wpAnyV_ready (rs := [9]) (by kernel_rfl) (by simp) ?_
            refine AllReadyV.cons (o := ?_) (by simp only [List.getElem?_toArray, List.getElem?_cons_zero, List.getElem?_cons_succ]; rfl) (fun K hK => ?_) ?_
            · obtain ⟨d0, d1, d2, d3, fz⟩ := Box.four HBW.out.2
              go_simp
              have hS11 := (Box.set (cs := [_, _, _, _]) HBW.out.2 1 (.slice A3 t.ins.length c3)).cell 2 _ rfl
              clear d0 d1 d2 d3 fz
              refine hK.out _ _ ?_ (fun hHeld2 => ?_)
              · intro q hq hL
                simp only [List.mem_cons, List.not_mem_nil, or_false] at hq
                rcases hq with rfl | rfl
                · exact Bool.noConfusion ((show _ = true from by kernel_rfl).symm.trans hL)
                · exact hS11
              clear hK K hHeld
              have hHeld := hHeld2
              clear hHeld2
              try simp only [Act.put, List.setIfInBounds_toArray, List.set_cons_zero, List.set_cons_succ]
              refine wpAnyV_take0 (i := 10) (oi := ?_) (v := ?_) (by simp only [List.getElem?_toArray, List.getElem?_cons_zero, List.getElem?_cons_succ]; rfl) (by kernel_rfl) (by kernel_rfl) (by kernel_rfl) (by exact fun _ _ _ h => h) (by simp) (Or.inl ⟨by rfl, ?_⟩) (by assumption) ?_
              rotate_left
              · (intro w hSw; clear hSw; go_simp; first | done | with_reducible rfl)
              try simp only [Act.put, List.setIfInBounds_toArray, List.set_cons_zero, List.set_cons_succ]
              replace hHeld := SV.one (i := 10) (by simp) hHeld
              refine wpAnyV_ready (rs := [11]) (by kernel_rfl) (by simp) ?_
              refine AllReadyV.cons (o := ?_) (by simp only [List.getElem?_toArray, List.getElem?_cons_zero, List.getElem?_cons_succ]; rfl) (fun K hK => ?_) ?_
              · obtain ⟨d0, d1, d2, d3, fz⟩ := Box.four (Box.set (cs := [_, _, _, _]) HBW.out.2 1 (.slice A3 t.ins.length c3))
                go_simp
                clear d0 d1 d2 d3 fz
                refine hK.out _ _ ?_ (fun hHeld2 => ?_)
                · intro q hq hL
                  simp only [List.mem_cons, List.not_mem_nil, or_false] at hq
                  rcases hq with rfl | rfl
                  · exact Bool.noConfusion ((show _ = true from by kernel_rfl).symm.trans hL)
                  · exact Bool.noConfusion ((show _ = true from by kernel_rfl).symm.trans hL)
                clear hK K hHeld
                have hHeld := hHeld2
                clear hHeld2
                try simp only [Act.put, List.setIfInBounds_toArray, List.set_cons_zero, List.set_cons_succ]
                refine wpAnyV_done (by kernel_rfl) ?_ _
                clear hHeld
                go_wp2
                go_meet
                exact ⟨_, HFF⟩
              exact AllReadyV.nil
            exact AllReadyV.nil
          exact AllReadyV.nil
        exact AllReadyV.nil
      exact AllReadyV.nil
    refine AllReadyV.cons (o := ?_) (by simp only [List.getElem?_toArray, List.getElem?_cons_zero, List.getElem?_cons_succ]; rfl) (fun K hK => ?_) ?_
    · refine step_empty49 ?hgd ?ho ?_
      case hgd => rfl
      case ho => rfl
      intro g4 wb hbl hne
      have HBW2 := As.mk (And.intro (HBW.out.1.trans (hbl.mono HBW.out.1.size)) (HBW.out.2.below hbl))
      have HE4 := As.mk (OwG.of_empty (E := EP8 w0) (size := 2) (hne w0.heap.size HBW.out.1.size))
      clear HBW hbl hne
      have HBW := HBW2
      clear HBW2
      have hS9 := HBW.out.2.cell 1 _ rfl
      have hS11 := HBW.out.2.cell 2 _ rfl
      refine hK.out _ _ ?_ (fun hHeld2 => ?_)
      · intro q hq hL
        simp only [List.mem_cons, List.not_mem_nil, or_false] at hq
        rcases hq with rfl | rfl
        · exact hS9
        · exact hS11
      clear hK K hHeld
      have hHeld := hHeld2
      clear hHeld2
      try simp only [Act.put, List.setIfInBounds_toArray, List.set_cons_zero, List.set_cons_succ]
      refine wpAnyV_ready (rs := [0]) (by kernel_rfl) (by simp) ?_
      refine AllReadyV.cons (o := ?_) (by simp only [List.getElem?_toArray, List.getElem?_cons_zero, List.getElem?_cons_succ]; rfl) (fun K hK => ?_) ?_
      · refine step_empty48 ?hgd ?ho ?_
        case hgd => rfl
        case ho => rfl
        intro g0 wa hbl hne
        have HBW2 := As.mk (And.intro (HBW.out.1.trans (hbl.mono HBW.out.1.size)) (HBW.out.2.below hbl))
        have HE0 := As.mk (OwG.of_empty (E := EI8 w0) (size := 36) (hne w0.heap.size HBW.out.1.size))
        have HE42 := As.mk (OwG.keepB (EP8 w0) HE4.out hbl)
        clear HE4
        have HE4 := HE42
        clear HE42
        clear HBW hbl hne
        have HBW := HBW2
        clear HBW2
        have hS9 := HBW.out.2.cell 1 _ rfl
        have hS11 := HBW.out.2.cell 2 _ rfl
        refine hK.out _ _ ?_ (fun hHeld2 => ?_)
        · intro q hq hL
          simp only [List.mem_cons, List.not_mem_nil, or_false] at hq
          rcases hq with rfl | rfl
          · exact hS9
          · exact hS11
        clear hK K hHeld
        have hHeld := hHeld2
        clear hHeld2
        try simp only [Act.put, List.setIfInBounds_toArray, List.set_cons_zero, List.set_cons_succ]
        refine wpAnyV_ready (rs := [3]) (by kernel_rfl) (by simp) ?_
        refine AllReadyV.cons (o := ?_) (by simp only [List.getElem?_toArray, List.getElem?_cons_zero, List.getElem?_cons_succ]; rfl) (fun K hK => ?_) ?_
        · refine step_appM (E := EI8 w0) (R := EI8 w0) w0.heap.size ?hgd (.tmp 19) (.tmp 21) 48 55 ZIn 36 96 ?ho Try.underlying48 info55z zin_size (by decide) (by decide) (.slice (some ⟨g0, 0, none⟩) 0 0) ?hs (.slice AI t.ins.length cI) ?hx [] t.ins HE0.out (RdL.below (fun _ _ _ _ h _ => h) (RdL.imp (R := InC) (R' := fun _ cs x => InC w0 cs x) (fun _ _ h => h) HT.out.ins) HBW.out.1) EI8.one (fun v' w' hg ht => ⟨fun _ _ h => h, fun _ _ h => h⟩) ?hl HBW.out.1.size ?_
          case hgd => rfl
          case ho => rfl
          case hs => rfl
          case hx => rfl
          case hl => have := HNI.out; simp; omega
          intro v3 w3 ho hg ht
          obtain ⟨A3, c3, h3⟩ := OwG.form ho
          rw [List.nil_append] at h3
          subst h3
          have HI := As.mk ho
          have hk := HE0.out.kd
          have HBW2 := As.mk (And.intro (HBW.out.1.grown hg HBW.out.1.size (fun k hk => (OwG.lt HE0.out k hk).1)) (HBW.out.2.apartO hg hk (by decide)))
          have HE42 := As.mk (HE4.out.apartG hg hk (by decide) (fun _ _ h => h))
          clear HE4
          have HE4 := HE42
          clear HE42
          clear HBW ho hg ht hk HE0
          have HBW := HBW2
          clear HBW2
          have hS9 := HBW.out.2.cell 1 _ rfl
          have hS11 := HBW.out.2.cell 2 _ rfl
          refine hK.out _ _ ?_ (fun hHeld2 => ?_)
          · intro q hq hL
            simp only [List.mem_cons, List.not_mem_nil, or_false] at hq
            rcases hq with rfl | rfl
            · exact hS9
            · exact hS11
          clear hK K hHeld
          have hHeld := hHeld2
          clear hHeld2
          try simp only [Act.put, List.setIfInBounds_toArray, List.set_cons_zero, List.set_cons_succ]
          refine wpAnyV_take0 (i := 8) (oi := ?_) (v := ?_) (by simp only [List.getElem?_toArray, List.getElem?_cons_zero, List.getElem?_cons_succ]; rfl) (by kernel_rfl) (by kernel_rfl) (by kernel_rfl) (by exact fun _ _ _ h => h) (by simp) (Or.inl ⟨by rfl, ?_⟩) (by assumption) ?_
          rotate_left
          · (intro w hSw; clear hSw; go_simp; first | done | with_reducible rfl)
          try simp only [Act.put, List.setIfInBounds_toArray, List.set_cons_zero, List.set_cons_succ]
          replace hHeld := SV.one (i := 8) (by simp) hHeld
          refine wpAnyV_ready (rs := [7]) (by kernel_rfl) (by simp) ?_
          refine AllReadyV.cons (o := ?_) (by simp only [List.getElem?_toArray, List.getElem?_cons_zero, List.getElem?_cons_succ]; rfl) (fun K hK => ?_) ?_
          · refine step_appM (E := EP8 w0) (R := EP8 w0) w0.heap.size ?hgd (.tmp 23) (.tmp 25) 49 57 (.agg #[.int .u64 0, .slice none 0 0]) 2 32 ?ho Try.underlying49 info57 rfl (by decide) (by decide) (.slice (some ⟨g4, 0, none⟩) 0 0) ?hs (.slice AO t.outs.length cO) ?hx [] t.outs HE4.out (RdL.below (fun _ _ _ _ h _ => h) (RdL.imp (R := OutC) (R' := fun _ cs x => OutC w0 cs x) (fun _ _ h => h) HT.out.outs) HBW.out.1) (fun cs y h => EO8.one (w := w0) (own := none) cs y (EP8.weak (w := w0) (own := none) cs y h)) (fun v' w' hg ht => ⟨fun _ _ h => h, fun _ _ h => h⟩) ?hl HBW.out.1.size ?_
            case hgd => rfl
            case ho => rfl
            case hs => rfl
            case hx => rfl
            case hl => have := HNO.out; simp; omega
            intro v7 w7 ho hg ht
            obtain ⟨A7, c7, h7⟩ := OwG.form ho
            rw [List.nil_append] at h7
            subst h7
            have HO := As.mk ho
            have hk := HE4.out.kd
            have HBW2 := As.mk (And.intro (HBW.out.1.grown hg HBW.out.1.size (fun k hk => (OwG.lt HE4.out k hk).1)) (HBW.out.2.apartO hg hk (by decide)))
            have HI2 := As.mk (HI.out.apartG hg hk (by decide) (fun _ _ h => h))
            clear HBW ho hg ht hk HE4 HI
            have HBW := HBW2
            have HI := HI2
            clear HBW2 HI2
            have HFF := As.mk (FS.make HW0.out HBW.out.1 HBW.out.2 HGG.out HI.out HO.out HT.out.fit)
            have hS9 := HBW.out.2.cell 1 _ rfl
            have hS11 := HBW.out.2.cell 2 _ rfl
            refine hK.out _ _ ?_ (fun hHeld2 => ?_)
            · intro q hq hL
              simp only [List.mem_cons, List.not_mem_nil, or_false] at hq
              rcases hq with rfl | rfl
              · exact hS9
              · exact hS11
            clear hK K hHeld
            have hHeld := hHeld2
            clear hHeld2
            try simp only [Act.put, List.setIfInBounds_toArray, List.set_cons_zero, List.set_cons_succ]
            refine wpAnyV_ready (rs := [9]) (by kernel_rfl) (by simp) ?_
            refine AllReadyV.cons (o := ?_) (by simp only [List.getElem?_toArray, List.getElem?_cons_zero, List.getElem?_cons_succ]; rfl) (fun K hK => ?_) ?_
            · obtain ⟨d0, d1, d2, d3, fz⟩ := Box.four HBW.out.2
              go_simp
              have hS11 := (Box.set (cs := [_, _, _, _]) HBW.out.2 1 (.slice A3 t.ins.length c3)).cell 2 _ rfl
              clear d0 d1 d2 d3 fz
              refine hK.out _ _ ?_ (fun hHeld2 => ?_)
              · intro q hq hL
                simp only [List.mem_cons, List.not_mem_nil, or_false] at hq
                rcases hq with rfl | rfl
                · exact Bool.noConfusion ((show _ = true from by kernel_rfl).symm.trans hL)
                · exact hS11
              clear hK K hHeld
              have hHeld := hHeld2
              clear hHeld2
              try simp only [Act.put, List.setIfInBounds_toArray, List.set_cons_zero, List.set_cons_succ]
              refine wpAnyV_take0 (i := 10) (oi := ?_) (v := ?_) (by simp only [List.getElem?_toArray, List.getElem?_cons_zero, List.getElem?_cons_succ]; rfl) (by kernel_rfl) (by kernel_rfl) (by kernel_rfl) (by exact fun _ _ _ h => h) (by simp) (Or.inl ⟨by rfl, ?_⟩) (by assumption) ?_
              rotate_left
              · (intro w hSw; clear hSw; go_simp; first | done | with_reducible rfl)
              try simp only [Act.put, List.setIfInBounds_toArray, List.set_cons_zero, List.set_cons_succ]
              replace hHeld := SV.one (i := 10) (by simp) hHeld
              refine wpAnyV_ready (rs := [11]) (by kernel_rfl) (by simp) ?_
              refine AllReadyV.cons (o := ?_) (by simp only [List.getElem?_toArray, List.getElem?_cons_zero, List.getElem?_cons_succ]; rfl) (fun K hK => ?_) ?_
              · obtain ⟨d0, d1, d2, d3, fz⟩ := Box.four (Box.set (cs := [_, _, _, _]) HBW.out.2 1 (.slice A3 t.ins.length c3))
                go_simp
                clear d0 d1 d2 d3 fz
                refine hK.out _ _ ?_ (fun hHeld2 => ?_)
                · intro q hq hL
                  simp only [List.mem_cons, List.not_mem_nil, or_false] at hq
                  rcases hq with rfl | rfl
                  · exact Bool.noConfusion ((show _ = true from by kernel_rfl).symm.trans hL)
                  · exact Bool.noConfusion ((show _ = true from by kernel_rfl).symm.trans hL)
                clear hK K hHeld
                have hHeld := hHeld2
                clear hHeld2
                try simp only [Act.put, List.setIfInBounds_toArray, List.set_cons_zero, List.set_cons_succ]
                refine wpAnyV_done (by kernel_rfl) ?_ _
                clear hHeld
                go_wp2
                go_meet
                exact ⟨_, HFF⟩
              exact AllReadyV.nil
            exact AllReadyV.nil
          exact AllReadyV.nil
        exact AllReadyV.nil
      exact AllReadyV.nil
    exact AllReadyV.nil
  case rest =>
    obtain ⟨cs', HF⟩ := hcut
    clear HX0 HB1 HBW HBl
    have hmf : ∀ (fn : Fn) (first cap : Array Value) (w : World), (Instr.makeFunc fn first cap).run Try.prog w = .ok (.func fn first cap) w := fun _ _ _ _ => rfl
    go_upto_block 0 with fail
    clear hmf
    obtain ⟨x, hx⟩ := good_in0 HG.out
    have HX := As.mk hx
    have HXL : As (0 < t.ins.length) := ⟨(List.getElem?_eq_some_iff.1 hx.1).1⟩
    obtain ⟨y, hy⟩ := good_out0 HG.out
    have HY := As.mk hy
    obtain ⟨k, z, hz⟩ := good_outK HG.out
    have HZ := As.mk hz
    clear hx hy hz
    go_cut [8, 37] (fun v8 v37 wc => ∃ (c : Int) (t' : LTx) (cs2 : List Value), v8 = .int .i64 c ∧ As (checkT t' = c ∧ FS (EO8 w0) w w0 wc G cs2 t'))
    case first =>
      rcases (show N = 0 ∨ N = 1 ∨ N = 2 ∨ N = 3 ∨ N = 4 ∨ N = 5 ∨ N = 6 ∨ N = 7 ∨ N = 8 ∨ N = 9 ∨ N = 10 ∨ N = 11 ∨ N = 12 ∨ N = 13 ∨ N = 14 ∨ N = 15 by omega) with h | h | h | h | h | h | h | h | h | h | h | h | h | h | h | h
      · have hk : bits .and .i64 how 15 = 0 := by rw [HNM.out, h]; rfl
        go_wp2_with (first | (go_at_call 35; (with_reducible refine (version_any HF.out (goodP8 w0)).mono ?_); rintro e w' ⟨rfl, cs2, hf⟩; have HF2 := As.mk hf; clear hf HF; have HF := HF2; clear HF2) | (go_at_call 36; (with_reducible refine (null8_any HF.out (goodP8 w0) x HX.out.1 HX.out.2.2.1).mono ?_); rintro e w' ⟨rfl, cs2, hf⟩; have HF2 := As.mk hf; clear hf HF; have HF := HF2; clear HF2))
        go_meet
        exact ⟨2, _, _, rfl, ⟨case_0 HG.out HX.out.2.2.2, HF.out.weak⟩⟩
      · have hk : bits .and .i64 how 15 = 1 := by rw [HNM.out, h]; rfl
        go_wp2_with (first | (go_at_call 36; (with_reducible refine (null8_any HF.out (goodP8 w0) x HX.out.1 HX.out.2.2.1).mono ?_); rintro e w' ⟨rfl, cs2, hf⟩; have HF2 := As.mk hf; clear hf HF; have HF := HF2; clear HF2) | (go_at_call 37; (with_reducible refine (twice_any HF.out (goodP8 w0) (nulled x) (List.getElem?_set_self HXL.out) (by have := HNI.out; simp; omega)).mono ?_); rintro e w' ⟨rfl, cs2, hf⟩; have HF2 := As.mk hf; clear hf HF; have HF := HF2; clear HF2))
        go_meet
        exact ⟨4, _, _, rfl, ⟨case_1 HG.out HX.out.2.2.2, HF.out.weak⟩⟩
      · have hk : bits .and .i64 how 15 = 2 := by rw [HNM.out, h]; rfl
        go_wp2_with (first | (go_at_call 37; (with_reducible refine (twice_any HF.out (goodP8 w0) x HX.out.1 (by have := HNI.out; omega)).mono ?_); rintro e w' ⟨rfl, cs2, hf⟩; have HF2 := As.mk hf; clear hf HF; have HF := HF2; clear HF2) | (go_at_call 38; (with_reducible refine (kind8_any HF.out (goodP8 w0) y HY.out).mono ?_); rintro e w' ⟨rfl, cs2, hf⟩; have HF2 := As.mk hf; clear hf HF; have HF := HF2; clear HF2))
        go_meet
        exact ⟨5, _, _, rfl, ⟨case_2 HG.out HX.out.1 y, HF.out.weak⟩⟩
      · have hk : bits .and .i64 how 15 = 3 := by rw [HNM.out, h]; rfl
        go_wp2_with (first | (go_at_call 38; (with_reducible refine (kind8_any HF.out (goodP8 w0) y HY.out).mono ?_); rintro e w' ⟨rfl, cs2, hf⟩; have HF2 := As.mk hf; clear hf HF; have HF := HF2; clear HF2) | (go_at_call 39; (with_reducible refine (data_any HF.out (by have := HNO.out; simp; omega)).mono ?_); rintro e w' ⟨rfl, cs2, hf⟩; have HF2 := As.mk hf; clear hf HF; have HF := HF2; clear HF2))
        go_meet
        exact ⟨6, _, _, rfl, ⟨case_3 HG.out HY.out, HF.out⟩⟩
      · have hk : bits .and .i64 how 15 = 4 := by rw [HNM.out, h]; rfl
        go_wp2_with (first | (go_at_call 39; (with_reducible refine (data_any HF.out (by have := HNO.out; omega)).mono ?_); rintro e w' ⟨rfl, cs2, hf⟩; have HF2 := As.mk hf; clear hf HF; have HF := HF2; clear HF2) | (go_at_call 40; (with_reducible refine (money_any HF.out (goodO8 w0) (t.outs.length + 1) (by simp) (by have := HNO.out; omega) dataO (last_at _ _ _)).mono ?_); rintro e w' ⟨rfl, cs2, hf⟩; have HF2 := As.mk hf; clear hf HF; have HF := HF2; clear HF2))
        go_meet
        exact ⟨7, _, _, rfl, ⟨(by have h := case_4 HG.out; rw [← set_last t.outs dataO dataO { dataO with value := 1152921504606846976 }] at h; exact h), HF.out⟩⟩
      · have hk : bits .and .i64 how 15 = 5 := by rw [HNM.out, h]; rfl
        go_wp2_with (first | (go_at_call 40; (with_reducible refine (money_any HF.out (goodP8 w0) k HZ.out.1 (by have := HZ.out.2.2; omega) z HZ.out.2.1).mono ?_); rintro e w' ⟨rfl, cs2, hf⟩; have HF2 := As.mk hf; clear hf HF; have HF := HF2; clear HF2) | (go_at_call 41; (with_reducible refine (dust8_any HF.out (by have := HNO.out; simp; omega)).mono ?_); rintro e w' ⟨rfl, cs2, hf⟩; have HF2 := As.mk hf; clear hf HF; have HF := HF2; clear HF2))
        go_meet
        exact ⟨8, _, _, rfl, ⟨case_5 HG.out HZ.out.2.1, HF.out⟩⟩
      · have hk : bits .and .i64 how 15 = 6 := by rw [HNM.out, h]; rfl
        go_wp2_with (first | (go_at_call 41; (with_reducible refine (dust8_any HF.out (by have := HNO.out; omega)).mono ?_); rintro e w' ⟨rfl, cs2, hf⟩; have HF2 := As.mk hf; clear hf HF; have HF := HF2; clear HF2))
        go_meet
        exact ⟨9, _, _, rfl, ⟨case_6 HG.out, HF.out⟩⟩
      · have hk : bits .and .i64 how 15 = 7 := by rw [HNM.out, h]; rfl
        obtain ⟨AI', cI', AO', cO', rfl⟩ := HF.out.form
        obtain ⟨q0, q1, q2, q3, fz⟩ := HF.out.four
        have HFN := As.mk (HF.out.putO (goodP8 w0) (World.grownBy.refl wc none) (fun k hk => by cases hk) (fun k hk => by cases hk) (OwG.nil (E := EP8 w0)))
        clear HF
        have HF := HFN
        clear HFN
        go_wp2_with (first | (go_at_call 35; (with_reducible refine (version_any HF.out (goodP8 w0)).mono ?_); rintro e w' ⟨rfl, cs2, hf⟩; have HF2 := As.mk hf; clear hf HF; have HF := HF2; clear HF2))
        go_meet
        exact ⟨1, _, _, rfl, ⟨case_7 t, HF.out.weak⟩⟩
      · have hk : bits .and .i64 how 15 = 8 := by rw [HNM.out, h]; rfl
        go_wp2_with (first | (go_at_call 41; (with_reducible refine (dust8_any HF.out (by have := HNO.out; omega)).mono ?_); rintro e w' ⟨rfl, cs2, hf⟩; have HF2 := As.mk hf; clear hf HF; have HF := HF2; clear HF2) | (go_at_call 35; (with_reducible refine (version_any HF.out (goodO8 w0)).mono ?_); rintro e w' ⟨rfl, cs2, hf⟩; have HF2 := As.mk hf; clear hf HF; have HF := HF2; clear HF2))
        go_meet
        exact ⟨2, _, _, rfl, ⟨case_8 HG.out, HF.out⟩⟩
      · have hk : bits .and .i64 how 15 = 9 := by rw [HNM.out, h]; rfl
        go_wp2
        go_meet
        exact ⟨0, _, _, rfl, ⟨good_check HG.out, HF.out.weak⟩⟩
      · have hk : bits .and .i64 how 15 = 10 := by rw [HNM.out, h]; rfl
        go_wp2
        go_meet
        exact ⟨0, _, _, rfl, ⟨good_check HG.out, HF.out.weak⟩⟩
      · have hk : bits .and .i64 how 15 = 11 := by rw [HNM.out, h]; rfl
        go_wp2
        go_meet
        exact ⟨0, _, _, rfl, ⟨good_check HG.out, HF.out.weak⟩⟩
      · have hk : bits .and .i64 how 15 = 12 := by rw [HNM.out, h]; rfl
        go_wp2
        go_meet
        exact ⟨0, _, _, rfl, ⟨good_check HG.out, HF.out.weak⟩⟩
      · have hk : bits .and .i64 how 15 = 13 := by rw [HNM.out, h]; rfl
        go_wp2
        go_meet
        exact ⟨0, _, _, rfl, ⟨good_check HG.out, HF.out.weak⟩⟩
      · have hk : bits .and .i64 how 15 = 14 := by rw [HNM.out, h]; rfl
        go_wp2
        go_meet
        exact ⟨0, _, _, rfl, ⟨good_check HG.out, HF.out.weak⟩⟩
      · have hk : bits .and .i64 how 15 = 15 := by rw [HNM.out, h]; rfl
        go_wp2
        go_meet
        exact ⟨0, _, _, rfl, ⟨good_check HG.out, HF.out.weak⟩⟩
    case rest =>
      obtain ⟨c, t', cs2, rfl, HC⟩ := hcut
      obtain ⟨AI', cI', AO', cO', rfl⟩ := HC.out.2.form
      obtain ⟨q0, q1, q2, q3, _⟩ := HC.out.2.four
      have HTX := As.mk (HC.out.2.tx (goodO8 w0))
      have HCK := As.mk HC.out.1
      have HB := As.mk HC.out.2.bel
      go_wp2_with (first | (go_at_call 43; (with_reducible refine (check_to _ t' _ HCK.out HTX.out).mono ?_); rintro e w5 ⟨rfl, hb⟩; have HB5 := As.mk (HB.out.trans (hb.mono HB.out.size)); clear hb) | (go_at_call 44; refine (awake8_any _).mono ?_; rintro e w7 ⟨rfl, hb⟩; have HB7 := As.mk (HB5.out.trans (hb.mono HB5.out.size)); clear hb))
      go_ret
      exact ⟨by first | rfl | simp, HB7.out⟩
theorem statForms_row (a0 : Int) (w0 : (Lit.int .i64 a0).wf = true) (a1 : Int) (w1 : (Lit.int .i64 a1).wf = true) (a2 : Int) (w2 : (Lit.int .i64 a2).wf = true) (w : World) : Calls Try.prog 8 #[.int .i64 a0, .int .i64 a1, .int .i64 a2] w fun e w' => e = .returned (.bool true) ∧ Below w.heap.size w w' := statForms_any a0 a1 a2 w
end Go.Proofs.Ytfggkljgfadacaa.W
