/- txns.Parse. -/
import Derived.Test.YtfggkljgfadacaaT15
set_option linter.unusedVariables false
set_option linter.unusedSimpArgs false
namespace Go.Proofs.Ytfggkljgfadacaa.W
open Go.RowKit Go.Proofs.Ytfggkljgfadacaa.B Go.Proofs

theorem OwTx.form {w : World} {base : Nat} {cs : List Value} {t : LTx} (h : OwTx w base cs t) : ∃ AI cI AO cO, cs = [.int .u32 (t.ver : Int), .slice AI t.ins.length cI, .slice AO t.outs.length cO, .int .u32 (t.lock : Int)] := by
  obtain ⟨iv, ov, mid, rfl, h1, h2, _⟩ := h
  obtain ⟨AI, cI, rfl⟩ := h1.form
  obtain ⟨AO, cO, rfl⟩ := h2.form
  exact ⟨_, _, _, _, rfl⟩
/-- What Parse reads. -/
def rParse (l : List UInt8) : LTx × Bool :=
  let r := rTx (l, false)
  if r.1.2 = true ∧ (!r.2.2 && r.2.1.isEmpty) = true then (r.1.1, true) else (noTx, false)
theorem below_of_grown {w w' : World} {B : Nat} (h : w.grownBy w' (some B)) {base : Nat} (hB : base ≤ B) (hs : base ≤ w.heap.size) : Below base w w' := (Below.refl _ _).grown h hs (fun k hk => by injection hk with hk; omega)

set_option maxHeartbeats 4000000 in
set_option maxRecDepth 100000 in
theorem parse_any (v : Value) (l : List UInt8) (w : World) (hr : RdB w v l) (hl : l.length ≤ 140737488355328) :
    Calls Try.prog 47 #[v] w fun e w' => ∃ cs, e = .returned (.tuple #[.agg cs.toArray, .bool (rParse l).2]) ∧ OwTx w' w.heap.size cs (rParse l).1 ∧ Below w.heap.size w w' := by
  obtain ⟨t, ok, l1, b1, hq1⟩ : ∃ t ok l1 b1, rTx (l, false) = ((t, ok), (l1, b1)) := ⟨_, _, _, _, rfl⟩
  obtain ⟨en, hen⟩ : ∃ en : Bool, (!b1 && l1.isEmpty) = en := ⟨_, rfl⟩
  have HP : As (rParse l = if ok = true ∧ en = true then (t, true) else (noTx, false)) := ⟨by unfold rParse; simp only [hq1, hen]⟩
  have HR := As.mk hr
  have HL := As.mk hl
  have HQ := As.mk hq1
  have HEN := As.mk hen
  clear hr hl hq1 hen
  go_enter Try.func47, Try.ntmps47
  go_upto_region 3 with (first | (go_at_call 18; (with_reducible refine (read_any v l _ (HR.out.below (below_al w _)) HL.out).mono ?_); rintro e w1 ⟨B, rfl, hB, hr, hb⟩; have HR1 := As.mk hr; have HB1 := As.mk hb; have HBB := As.mk hB; clear hr hb hB) | (go_at_call 58; (with_reducible refine (rtx_to B l false _ HQ.out HR1.out HL.out).mono ?_); rintro e w2 ⟨cs, rfl, ht, hr, hg⟩; have HT2 := As.mk ht; have HR2 := As.mk hr; have HG2 := As.mk hg; obtain ⟨AI, cI, AO, cO, rfl⟩ := OwTx.form ht; clear ht hr hg))
  obtain ⟨R, hR⟩ : ∃ R, R = w.heap.size := ⟨_, rfl⟩
  have HS : As (Box (w2.alloc (.cells #[.int .u32 (t.ver : Int), .slice AI t.ins.length cI, .slice AO t.outs.length cO, .int .u32 (t.lock : Int)] 51)) R #[.int .u32 0, .slice none 0 0, .slice none 0 0, .int .u32 0] 51 ∧ Box (w2.alloc (.cells #[.int .u32 (t.ver : Int), .slice AI t.ins.length cI, .slice AO t.outs.length cO, .int .u32 (t.lock : Int)] 51)) w2.heap.size #[.int .u32 (t.ver : Int), .slice AI t.ins.length cI, .slice AO t.outs.length cO, .int .u32 (t.lock : Int)] 51 ∧ Rdr 74 (w2.alloc (.cells #[.int .u32 (t.ver : Int), .slice AI t.ins.length cI, .slice AO t.outs.length cO, .int .u32 (t.lock : Int)] 51)) B l1 b1 ∧ OwTx (w2.alloc (.cells #[.int .u32 (t.ver : Int), .slice AI t.ins.length cI, .slice AO t.outs.length cO, .int .u32 (t.lock : Int)] 51)) w1.heap.size [.int .u32 (t.ver : Int), .slice AI t.ins.length cI, .slice AO t.outs.length cO, .int .u32 (t.lock : Int)] t ∧ Below w.heap.size w (w2.alloc (.cells #[.int .u32 (t.ver : Int), .slice AI t.ins.length cI, .slice AO t.outs.length cO, .int .u32 (t.lock : Int)] 51)) ∧ R < w1.heap.size) := by
    have q0 : (w.alloc (Obj.cells #[.int .u32 0, .slice none 0 0, .slice none 0 0, .int .u32 0] 51)).heap.size = w.heap.size + 1 := by simp
    have hb1 := HB1.out
    have hs1 := hb1.size
    have hbb := HBB.out
    have hg := HG2.out
    rw [q0] at hs1 hbb hb1
    have hb0 : Below w.heap.size w w1 := (below_al w _).trans (hb1.mono (by omega))
    refine ⟨Box.below (Box.grown (Box.below (by rw [hR]; exact Box.new w _ 51) (by rw [q0]; exact hb1)) hg (fun e => by injection e with e; omega)) (below_al _ _), Box.new _ _ _, HR2.out.below (below_al _ _), HT2.out.below (below_al _ _), (hb0.trans (below_of_grown hg (by omega) (by omega))).alloc (Nat.le_trans (by omega) hg.size) _, by omega⟩
  have HRW := As.mk hR
  rw [← hR]
  obtain ⟨G, hG⟩ : ∃ G, G = w2.heap.size := ⟨_, rfl⟩
  rw [← hG] at HS ⊢
  clear hR hG HR2 HT2 HG2 HB1 HR1
  generalize w2.alloc (.cells #[.int .u32 (t.ver : Int), .slice AI t.ins.length cI, .slice AO t.outs.length cO, .int .u32 (t.lock : Int)] 51) = W3 at HS ⊢
  obtain ⟨d0, d1, d2, d3, -⟩ := Box.four HS.out.2.1
  obtain ⟨q0, q1, q2, q3, fz⟩ := Box.four HS.out.1
  cases ok with
  | false =>
    have HE : As (rParse l = (noTx, false)) := ⟨by rw [HP.out, if_neg (fun h => by cases h.1)]⟩
    go_wp2_with fail
    have HW4 := As.mk (And.intro (set4_box HS.out.1 (.int .u32 0) (.slice none 0 0) (.slice none 0 0) (.int .u32 0)) (set4_grown W3 R (.int .u32 0) (.slice none 0 0) (.slice none 0 0) (.int .u32 0)))
    clear q0 q1 q2 q3 fz d0 d1 d2 d3
    generalize ((((W3.setCell ⟨R, 0, none⟩ (.int .u32 0)).setCell ⟨R, 1, none⟩ (.slice none 0 0)).setCell ⟨R, 2, none⟩ (.slice none 0 0)).setCell ⟨R, 3, none⟩ (.int .u32 0)) = W15 at HW4 ⊢
    obtain ⟨q0, q1, q2, q3, -⟩ := Box.four HW4.out.1
    refine bodyPost_ret (v := .tuple #[.agg #[.int .u32 0, .slice none 0 0, .slice none 0 0, .int .u32 0], .bool false]) (by simp [results, Try.results47, go_sem, q0, q1, q2, q3]) rfl ?_
    rw [HE.out]
    exact ⟨[.int .u32 0, .slice none 0 0, .slice none 0 0, .int .u32 0], rfl, OwTx.no _ _, HS.out.2.2.2.2.1.grown HW4.out.2 HS.out.2.2.2.2.1.size (fun k hk => by injection hk with hk; rw [← hk, HRW.out]; exact Nat.le_refl _)⟩
  | true =>
    cases en with
    | false =>
      have HE : As (rParse l = (noTx, false)) := ⟨by rw [HP.out, if_neg (fun h => by cases h.2)]⟩
      go_wp2_with (go_at_call 22; (with_reducible refine (end_to B l1 b1 _ HEN.out HS.out.2.2.1).mono ?_); rintro e w' ⟨rfl, rfl⟩)
      have HW4 := As.mk (And.intro (set4_box HS.out.1 (.int .u32 0) (.slice none 0 0) (.slice none 0 0) (.int .u32 0)) (set4_grown W3 R (.int .u32 0) (.slice none 0 0) (.slice none 0 0) (.int .u32 0)))
      clear q0 q1 q2 q3 fz d0 d1 d2 d3
      generalize ((((W3.setCell ⟨R, 0, none⟩ (.int .u32 0)).setCell ⟨R, 1, none⟩ (.slice none 0 0)).setCell ⟨R, 2, none⟩ (.slice none 0 0)).setCell ⟨R, 3, none⟩ (.int .u32 0)) = W15 at HW4 ⊢
      obtain ⟨q0, q1, q2, q3, -⟩ := Box.four HW4.out.1
      refine bodyPost_ret (v := .tuple #[.agg #[.int .u32 0, .slice none 0 0, .slice none 0 0, .int .u32 0], .bool false]) (by simp [results, Try.results47, go_sem, q0, q1, q2, q3]) rfl ?_
      rw [HE.out]
      exact ⟨[.int .u32 0, .slice none 0 0, .slice none 0 0, .int .u32 0], rfl, OwTx.no _ _, HS.out.2.2.2.2.1.grown HW4.out.2 HS.out.2.2.2.2.1.size (fun k hk => by injection hk with hk; rw [← hk, HRW.out]; exact Nat.le_refl _)⟩
    | true =>
      have HE : As (rParse l = (t, true)) := ⟨by rw [HP.out, if_pos ⟨rfl, rfl⟩]⟩
      go_wp2_with (go_at_call 22; (with_reducible refine (end_to B l1 b1 _ HEN.out HS.out.2.2.1).mono ?_); rintro e w' ⟨rfl, rfl⟩)
      have HW4 := As.mk (And.intro (set4_box HS.out.1 (.int .u32 (t.ver : Int)) (.slice AI t.ins.length cI) (.slice AO t.outs.length cO) (.int .u32 (t.lock : Int))) (set4_grown W3 R (.int .u32 (t.ver : Int)) (.slice AI t.ins.length cI) (.slice AO t.outs.length cO) (.int .u32 (t.lock : Int))))
      clear q0 q1 q2 q3 fz d0 d1 d2 d3
      generalize ((((W3.setCell ⟨R, 0, none⟩ (.int .u32 (t.ver : Int))).setCell ⟨R, 1, none⟩ (.slice AI t.ins.length cI)).setCell ⟨R, 2, none⟩ (.slice AO t.outs.length cO)).setCell ⟨R, 3, none⟩ (.int .u32 (t.lock : Int))) = W15 at HW4 ⊢
      obtain ⟨q0, q1, q2, q3, -⟩ := Box.four HW4.out.1
      refine bodyPost_ret (v := .tuple #[.agg #[.int .u32 (t.ver : Int), .slice AI t.ins.length cI, .slice AO t.outs.length cO, .int .u32 (t.lock : Int)], .bool true]) (by simp [results, Try.results47, go_sem, q0, q1, q2, q3]) rfl ?_
      rw [HE.out]
      have hs := HS.out
      exact ⟨[.int .u32 (t.ver : Int), .slice AI t.ins.length cI, .slice AO t.outs.length cO, .int .u32 (t.lock : Int)], rfl, OwTx.mono (OwTx.read hs.2.2.2.1 HW4.out.2 hs.2.2.2.2.2) (by have := HRW.out; have := hs.2.2.2.2.2; omega), hs.2.2.2.2.1.grown HW4.out.2 hs.2.2.2.2.1.size (fun k hk => by injection hk with hk; rw [← hk, HRW.out]; exact Nat.le_refl _)⟩
end Go.Proofs.Ytfggkljgfadacaa.W
