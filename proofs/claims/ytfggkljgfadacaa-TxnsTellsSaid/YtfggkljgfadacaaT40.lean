/- The document's Parse. -/
import Derived.Test.YtfggkljgfadacaaT39
set_option linter.unusedVariables false
set_option linter.unusedSimpArgs false
namespace Go.Proofs.Ytfggkljgfadacaa.W
open Go.RowKit Go.Proofs.Ytfggkljgfadacaa.B Go.Proofs

theorem TxC.form {w : World} {cs : List Value} {t : LTx} (h : TxC w cs t) : ∃ AI cI AO cO, cs = [.int .u32 (t.ver : Int), .slice AI t.ins.length cI, .slice AO t.outs.length cO, .int .u32 (t.lock : Int)] := by
  obtain ⟨iv, ov, rfl, hi, ho, _⟩ := h
  obtain ⟨AI, cI, rfl, _⟩ := hi.form
  obtain ⟨AO, cO, rfl, _⟩ := ho.form
  exact ⟨_, _, _, _, rfl⟩
theorem TxC.no (w : World) : TxC w [.int .u32 0, .slice none 0 0, .slice none 0 0, .int .u32 0] noTx := (OwTx.no w 0).rd
theorem Rdr.new {t : TypeId} {W : World} {A : Option Addr} {n c : Nat} {l : List UInt8} (h : RdB W (.slice A n c) l) : Rdr t (W.alloc (.cells #[.slice A n c, .bool false] t)) W.heap.size l false := by
  refine ⟨A, n, c, heap_alloc_new W _, h.below (below_al _ _), fun hn ad had => ?_⟩
  obtain ⟨A', c', he, -⟩ := RdB.form h
  injection he with e1 e2 e3
  obtain ⟨ad', h1, h2⟩ := RdB.at h 0 (by omega)
  rw [had] at h1
  obtain rfl := Option.some.inj h1
  exact World.block_lt_of_cell? W _ h2
set_option maxHeartbeats 4000000 in
set_option maxRecDepth 100000 in
theorem qparse_any (v : Value) (l : List UInt8) (w : World) (hr : RdB w v l) (hl : l.length ≤ 140737488355328) :
    Calls Try.prog 57 #[v] w fun e w' => ∃ cs, e = .returned (.tuple #[.agg cs.toArray, .bool (qParse l).2]) ∧ OwTx w' w.heap.size cs (qParse l).1 ∧ Below w.heap.size w w' := by
  obtain ⟨t, ok, l1, b1, hq1⟩ : ∃ t ok l1 b1, qTx (l, false) = ((t, ok), (l1, b1)) := ⟨_, _, _, _, rfl⟩
  obtain ⟨en, hen⟩ : ∃ en : Bool, (!b1 && l1.isEmpty) = en := ⟨_, rfl⟩
  have HP : As (qParse l = if ok = true ∧ en = true then (t, true) else (noTx, false)) := ⟨by
    have hb := (tx_same l).2.1
    rw [hq1] at hb
    unfold qParse
    simp only [hq1] at hb ⊢
    rw [← hen, hb]
    cases ok <;> simp⟩
  have HR := As.mk hr
  have HL := As.mk hl
  obtain ⟨A, c, rfl, -⟩ := RdB.form hr
  have HQ := As.mk hq1
  have HEN := As.mk hen
  clear hr hl hq1 hen
  go_enter Try.func57, Try.ntmps57
  have HR1 : As (Rdr 46 ((w.alloc (.cells #[.int .u32 0, .slice none 0 0, .slice none 0 0, .int .u32 0] 51)).alloc (.cells #[.slice A l.length c, .bool false] 46)) (w.heap.size + 1) l false) := ⟨by
    have h := Rdr.new (t := 46) (W := (w.alloc (.cells #[.int .u32 0, .slice none 0 0, .slice none 0 0, .int .u32 0] 51))) (HR.out.below (below_al w _))
    rw [show (w.alloc (.cells #[.int .u32 0, .slice none 0 0, .slice none 0 0, .int .u32 0] 51)).heap.size = w.heap.size + 1 by simp] at h
    exact h⟩
  go_upto_region 3 with (go_at_call 59; (with_reducible refine (qtx_to (w.heap.size + 1) l false _ HQ.out HR1.out HL.out).mono ?_); rintro e w2 ⟨cs, rfl, ht, hr, hg⟩; have HT2 := As.mk ht; have HR2 := As.mk hr; have HG2 := As.mk hg; obtain ⟨AI, cI, AO, cO, rfl⟩ := OwTx.form ht; clear ht hr hg)
  obtain ⟨R, hR⟩ : ∃ R, R = w.heap.size := ⟨_, rfl⟩
  obtain ⟨B, hB⟩ : ∃ B, B = w.heap.size + 1 := ⟨_, rfl⟩
  have HS : As (Box (w2.alloc (.cells #[.int .u32 (t.ver : Int), .slice AI t.ins.length cI, .slice AO t.outs.length cO, .int .u32 (t.lock : Int)] 51)) R #[.int .u32 0, .slice none 0 0, .slice none 0 0, .int .u32 0] 51 ∧ Box (w2.alloc (.cells #[.int .u32 (t.ver : Int), .slice AI t.ins.length cI, .slice AO t.outs.length cO, .int .u32 (t.lock : Int)] 51)) w2.heap.size #[.int .u32 (t.ver : Int), .slice AI t.ins.length cI, .slice AO t.outs.length cO, .int .u32 (t.lock : Int)] 51 ∧ Rdr 46 (w2.alloc (.cells #[.int .u32 (t.ver : Int), .slice AI t.ins.length cI, .slice AO t.outs.length cO, .int .u32 (t.lock : Int)] 51)) B l1 b1 ∧ OwTx (w2.alloc (.cells #[.int .u32 (t.ver : Int), .slice AI t.ins.length cI, .slice AO t.outs.length cO, .int .u32 (t.lock : Int)] 51)) ((w.alloc (.cells #[.int .u32 0, .slice none 0 0, .slice none 0 0, .int .u32 0] 51)).alloc (.cells #[.slice A l.length c, .bool false] 46)).heap.size [.int .u32 (t.ver : Int), .slice AI t.ins.length cI, .slice AO t.outs.length cO, .int .u32 (t.lock : Int)] t ∧ Below w.heap.size w (w2.alloc (.cells #[.int .u32 (t.ver : Int), .slice AI t.ins.length cI, .slice AO t.outs.length cO, .int .u32 (t.lock : Int)] 51)) ∧ R < ((w.alloc (.cells #[.int .u32 0, .slice none 0 0, .slice none 0 0, .int .u32 0] 51)).alloc (.cells #[.slice A l.length c, .bool false] 46)).heap.size) := ⟨by
    have q1 : ((w.alloc (.cells #[.int .u32 0, .slice none 0 0, .slice none 0 0, .int .u32 0] 51)).alloc (.cells #[.slice A l.length c, .bool false] 46)).heap.size = w.heap.size + 2 := by simp
    have hg := HG2.out
    have hr := HR2.out
    have ht := HT2.out
    rw [← hB] at hg hr
    have hb0 : Below w.heap.size w ((w.alloc (.cells #[.int .u32 0, .slice none 0 0, .slice none 0 0, .int .u32 0] 51)).alloc (.cells #[.slice A l.length c, .bool false] 46)) := (below_al w _).trans ((below_al _ _).mono (by simp))
    refine ⟨Box.below (Box.grown (Box.below (by rw [hR]; exact Box.new w _ 51) (below_al _ _)) hg (fun e => by injection e with e; omega)) (below_al _ _), Box.new _ _ _, hr.below (below_al _ _), ht.below (below_al _ _), (hb0.trans (below_of_grown hg (by omega) (by rw [q1]; omega))).alloc (Nat.le_trans (by rw [q1]; omega) hg.size) _, by rw [q1]; omega⟩⟩
  have HRW := As.mk hR
  rw [← hB]
  rw [← hR]
  obtain ⟨G, hG⟩ : ∃ G, G = w2.heap.size := ⟨_, rfl⟩
  rw [← hG] at HS ⊢
  clear hR hB hG HR2 HT2 HG2 HR1
  generalize w2.alloc (.cells #[.int .u32 (t.ver : Int), .slice AI t.ins.length cI, .slice AO t.outs.length cO, .int .u32 (t.lock : Int)] 51) = W3 at HS ⊢
  obtain ⟨d0, d1, d2, d3, -⟩ := Box.four HS.out.2.1
  obtain ⟨q0, q1, q2, q3, fz⟩ := Box.four HS.out.1
  cases ok with
  | false =>
    have HE : As (qParse l = (noTx, false)) := ⟨by rw [HP.out, if_neg (fun h => by cases h.1)]⟩
    go_wp2_with fail
    have HW4 := As.mk (And.intro (set4_box HS.out.1 (.int .u32 0) (.slice none 0 0) (.slice none 0 0) (.int .u32 0)) (set4_grown W3 R (.int .u32 0) (.slice none 0 0) (.slice none 0 0) (.int .u32 0)))
    clear q0 q1 q2 q3 fz d0 d1 d2 d3
    generalize ((((W3.setCell ⟨R, 0, none⟩ (.int .u32 0)).setCell ⟨R, 1, none⟩ (.slice none 0 0)).setCell ⟨R, 2, none⟩ (.slice none 0 0)).setCell ⟨R, 3, none⟩ (.int .u32 0)) = W15 at HW4 ⊢
    obtain ⟨q0, q1, q2, q3, -⟩ := Box.four HW4.out.1
    refine bodyPost_ret (v := .tuple #[.agg #[.int .u32 0, .slice none 0 0, .slice none 0 0, .int .u32 0], .bool false]) (by simp [results, Try.results57, go_sem, q0, q1, q2, q3]) rfl ?_
    rw [HE.out]
    exact ⟨[.int .u32 0, .slice none 0 0, .slice none 0 0, .int .u32 0], rfl, OwTx.no _ _, HS.out.2.2.2.2.1.grown HW4.out.2 HS.out.2.2.2.2.1.size (fun k hk => by injection hk with hk; rw [← hk, HRW.out]; exact Nat.le_refl _)⟩
  | true =>
    cases en with
    | false =>
      have HE : As (qParse l = (noTx, false)) := ⟨by rw [HP.out, if_neg (fun h => by cases h.2)]⟩
      go_wp2_with (go_at_call 33; (with_reducible refine (qend_to B l1 b1 _ HEN.out HS.out.2.2.1).mono ?_); rintro e w' ⟨rfl, rfl⟩)
      have HW4 := As.mk (And.intro (set4_box HS.out.1 (.int .u32 0) (.slice none 0 0) (.slice none 0 0) (.int .u32 0)) (set4_grown W3 R (.int .u32 0) (.slice none 0 0) (.slice none 0 0) (.int .u32 0)))
      clear q0 q1 q2 q3 fz d0 d1 d2 d3
      generalize ((((W3.setCell ⟨R, 0, none⟩ (.int .u32 0)).setCell ⟨R, 1, none⟩ (.slice none 0 0)).setCell ⟨R, 2, none⟩ (.slice none 0 0)).setCell ⟨R, 3, none⟩ (.int .u32 0)) = W15 at HW4 ⊢
      obtain ⟨q0, q1, q2, q3, -⟩ := Box.four HW4.out.1
      refine bodyPost_ret (v := .tuple #[.agg #[.int .u32 0, .slice none 0 0, .slice none 0 0, .int .u32 0], .bool false]) (by simp [results, Try.results57, go_sem, q0, q1, q2, q3]) rfl ?_
      rw [HE.out]
      exact ⟨[.int .u32 0, .slice none 0 0, .slice none 0 0, .int .u32 0], rfl, OwTx.no _ _, HS.out.2.2.2.2.1.grown HW4.out.2 HS.out.2.2.2.2.1.size (fun k hk => by injection hk with hk; rw [← hk, HRW.out]; exact Nat.le_refl _)⟩
    | true =>
      have HE : As (qParse l = (t, true)) := ⟨by rw [HP.out, if_pos ⟨rfl, rfl⟩]⟩
      go_wp2_with (go_at_call 33; (with_reducible refine (qend_to B l1 b1 _ HEN.out HS.out.2.2.1).mono ?_); rintro e w' ⟨rfl, rfl⟩)
      have HW4 := As.mk (And.intro (set4_box HS.out.1 (.int .u32 (t.ver : Int)) (.slice AI t.ins.length cI) (.slice AO t.outs.length cO) (.int .u32 (t.lock : Int))) (set4_grown W3 R (.int .u32 (t.ver : Int)) (.slice AI t.ins.length cI) (.slice AO t.outs.length cO) (.int .u32 (t.lock : Int))))
      clear q0 q1 q2 q3 fz d0 d1 d2 d3
      generalize ((((W3.setCell ⟨R, 0, none⟩ (.int .u32 (t.ver : Int))).setCell ⟨R, 1, none⟩ (.slice AI t.ins.length cI)).setCell ⟨R, 2, none⟩ (.slice AO t.outs.length cO)).setCell ⟨R, 3, none⟩ (.int .u32 (t.lock : Int))) = W15 at HW4 ⊢
      obtain ⟨q0, q1, q2, q3, -⟩ := Box.four HW4.out.1
      refine bodyPost_ret (v := .tuple #[.agg #[.int .u32 (t.ver : Int), .slice AI t.ins.length cI, .slice AO t.outs.length cO, .int .u32 (t.lock : Int)], .bool true]) (by simp [results, Try.results57, go_sem, q0, q1, q2, q3]) rfl ?_
      rw [HE.out]
      have hs := HS.out
      exact ⟨[.int .u32 (t.ver : Int), .slice AI t.ins.length cI, .slice AO t.outs.length cO, .int .u32 (t.lock : Int)], rfl, OwTx.mono (OwTx.read hs.2.2.2.1 HW4.out.2 hs.2.2.2.2.2) (by have := HRW.out; have := hs.2.2.2.2.2; omega), hs.2.2.2.2.1.grown HW4.out.2 hs.2.2.2.2.1.size (fun k hk => by injection hk with hk; rw [← hk, HRW.out]; exact Nat.le_refl _)⟩

theorem qparse_to (v : Value) (l : List UInt8) (w : World) {t : LTx} {ok : Bool} (hq : qParse l = (t, ok)) (hr : RdB w v l) (hl : l.length ≤ 140737488355328) :
    Calls Try.prog 57 #[v] w fun e w' => ∃ cs, e = .returned (.tuple #[.agg cs.toArray, .bool ok]) ∧ OwTx w' w.heap.size cs t ∧ Below w.heap.size w w' := by
  have := qparse_any v l w hr hl
  rw [hq] at this
  exact this
end Go.Proofs.Ytfggkljgfadacaa.W
