/- Any step has the text that the document says: lemmas. -/
import Derived.Test.YtodcbcpjlhlakaaDoorR31
set_option linter.unusedVariables false
set_option linter.unusedSimpArgs false
namespace Go.Proofs.YtodcbcpjlhlakaaDoor.W
open Go.RowKit Go.Proofs.YtodcbcpjlhlakaaDoor.B Go.Proofs

theorem run_empty29 (w : World) : (Instr.buildSlice 29 0 #[]).run Tryd.prog w = .ok (.slice (some ⟨w.heap.size, 0, none⟩) 0 0) (w.alloc (.cells #[] 5)) := by
  obtain ⟨i, hi, hzz⟩ := Option.map_eq_some_iff.1 info5
  simp only [Prod.mk.injEq] at hzz
  simp [Instr.buildSlice, run_underlying Tryd.underlying29, sizeOf, typeInfo, zeroValue, hi, hzz.1, hzz.2.1, Instr.fill, newRow]
  rw [show Array.map (fun _ => (default : Value)) (Array.range 0) = #[] by apply Array.ext <;> simp]
/-- []byte{} at a step of a region that draws its order. -/
theorem step_empty29 {ops : Array Oper} {o : Oper} {a : Act} {w : World} {K : Act → World → Prop} {Q : Exit → Act → World → Prop} {E : Prop} (hgd : o.guard = none) (ho : o.op = .buildSlice 29 0 #[])
    (h : K (a.put o.dst (.slice (some ⟨w.heap.size, 0, none⟩) 0 0)) (w.alloc (.cells #[] 5))) : if Region.wanted o (yielded ops a.tmps) = true then Oper.wp Tryd.prog o a w K Q else E := by
  have hw : Region.wanted o (yielded ops a.tmps) = true := by simp [Region.wanted, hgd]
  rw [if_pos hw]
  unfold Oper.wp execOp
  simp only [ho, Sem.run_bind, Sem.run_pure, Result.andThen_ok, List.map_toArray, List.map_nil, run_empty29]
  exact h
theorem run_four (w : World) (A0 A1 A2 A3 : Option Addr) (n0 n1 n2 n3 c0 c1 c2 c3 : Nat) :
    (Instr.buildSlice 33 4 #[(0, .slice A0 n0 c0), (1, .slice A1 n1 c1), (2, .slice A2 n2 c2), (3, .slice A3 n3 c3)]).run Tryd.prog w =
      .ok (.slice (some ⟨w.heap.size, 0, none⟩) 4 4) (w.alloc (.cells #[.slice A0 n0 c0, .slice A1 n1 c1, .slice A2 n2 c2, .slice A3 n3 c3] 29)) := by
  go_simp
/-- A list of four slices of bytes at a step of a region that draws its order. -/
theorem step_four {ops : Array Oper} {o : Oper} {a : Act} {w : World} {K : Act → World → Prop} {Q : Exit → Act → World → Prop} {E : Prop} (hgd : o.guard = none) (x0 x1 x2 x3 : Operand) (ho : o.op = .buildSlice 33 4 #[(0, x0), (1, x1), (2, x2), (3, x3)])
    (A0 A1 A2 A3 : Option Addr) (n0 n1 n2 n3 c0 c1 c2 c3 : Nat) (h0 : a.eval x0 = .slice A0 n0 c0) (h1 : a.eval x1 = .slice A1 n1 c1) (h2 : a.eval x2 = .slice A2 n2 c2) (h3 : a.eval x3 = .slice A3 n3 c3)
    (h : K (a.put o.dst (.slice (some ⟨w.heap.size, 0, none⟩) 4 4)) (w.alloc (.cells #[.slice A0 n0 c0, .slice A1 n1 c1, .slice A2 n2 c2, .slice A3 n3 c3] 29))) : if Region.wanted o (yielded ops a.tmps) = true then Oper.wp Tryd.prog o a w K Q else E := by
  have hw : Region.wanted o (yielded ops a.tmps) = true := by simp [Region.wanted, hgd]
  rw [if_pos hw]
  unfold Oper.wp execOp
  simp only [ho, Sem.run_bind, Sem.run_pure, Result.andThen_ok, List.map_toArray, List.map_cons, List.map_nil, h0, h1, h2, h3, run_four]
  exact h
/-- Four rows of bytes, in a block of their own. -/
structure Four (W : World) (G : Nat) (vs : List Value) : Prop where
  blk : W.heap[G]? = some (.cells vs.toArray 29 (0, 0))
  rd : ∀ v ∈ vs, ∃ l : List UInt8, RdB W v l ∧ l.length ≤ 3000000
theorem Four.below {W W' : World} {G : Nat} {vs : List Value} (h : Four W G vs) (hb : Below W.heap.size W W') : Four W' G vs :=
  ⟨by rw [hb.block G (Array.getElem?_eq_some_iff.1 h.blk).1]; exact h.blk, fun v hv => by
    obtain ⟨l, h1, h2⟩ := h.rd v hv
    exact ⟨l, h1.below hb, h2⟩⟩
theorem Four.at {W : World} {G : Nat} {vs : List Value} (h : Four W G vs) (k : Nat) (hk : k < vs.length) : ∃ A l c, W.cell? ⟨G, k, none⟩ = some (.slice A (List.length l) c) ∧ RdB W (.slice A (List.length l) c) l ∧ l.length ≤ 3000000 := by
  obtain ⟨l, h1, h2⟩ := h.rd vs[k] (List.getElem_mem hk)
  obtain ⟨A, c, he, -⟩ := RdB.form h1
  refine ⟨A, l, c, ?_, by rw [← he]; exact h1, h2⟩
  simp only [World.cell?, h.blk]
  simp [hk, he]
/-- How ReptTells stands. -/
def TS (w W : World) (S Y : Nat) (cs cy : List Value) : Prop := Below w.heap.size w W ∧ Box W S cs.toArray 35 ∧ Box W Y cy.toArray 26 ∧ w.heap.size ≤ S ∧ S < Y
section
variable {w W W' : World} {S Y : Nat} {cs cy : List Value}
theorem TS.grown {row : Option Nat} (h : TS w W S Y cs cy) (hg : W.grownBy W' row) (hr : ∀ b, row = some b → Y < b) : TS w W' S Y cs cy := by
  obtain ⟨h1, h2, h3, h4, h5⟩ := h
  exact ⟨h1.grown hg h1.size (fun b hb => by have := hr b hb; omega), h2.grown hg (fun e => by have := hr _ e; omega), h3.grown hg (fun e => by have := hr _ e; omega), h4, h5⟩
theorem TS.below (h : TS w W S Y cs cy) (hb : Below W.heap.size W W') : TS w W' S Y cs cy := h.grown (grown_none hb) (fun b e => by cases e)
theorem TS.setS (h : TS w W S Y cs cy) (j : Nat) (v : Value) : TS w (W.setCell ⟨S, j, none⟩ v) S Y (cs.set j v) cy := by
  obtain ⟨h1, h2, h3, h4, h5⟩ := h
  exact ⟨h1.setCell (p := ⟨S, j, none⟩) h4 v, h2.set j v, h3.grown (grown_set W S j v) (fun e => by injection e with e; omega), h4, h5⟩
theorem TS.setY (h : TS w W S Y cs cy) (j : Nat) (v : Value) : TS w (W.setCell ⟨Y, j, none⟩ v) S Y cs (cy.set j v) := by
  obtain ⟨h1, h2, h3, h4, h5⟩ := h
  exact ⟨h1.setCell (p := ⟨Y, j, none⟩) (show w.heap.size ≤ Y by omega) v, h2.grown (grown_set W Y j v) (fun e => by injection e with e; omega), h3.set j v, h4, h5⟩
theorem TS.bl (h : TS w W S Y cs cy) : Below w.heap.size w W := h.1
theorem TS.c (h : TS w W S Y cs cy) (j : Nat) (v : Value) (hv : cs[j]? = some v) : W.cell? ⟨S, j, none⟩ = some v := h.2.1.cell j v (by simpa using hv)
theorem TS.yc (h : TS w W S Y cs cy) (j : Nat) (v : Value) (hv : cy[j]? = some v) : W.cell? ⟨Y, j, none⟩ = some v := h.2.2.1.cell j v (by simpa using hv)
theorem TS.fS (h : TS w W S Y cs cy) (j : Nat) : W.frozen? ⟨S, j, none⟩ = false := h.2.1.frozen j
theorem TS.fY (h : TS w W S Y cs cy) (j : Nat) : W.frozen? ⟨Y, j, none⟩ = false := h.2.2.1.frozen j
theorem TS.rg (h : TS w W S Y cs cy) : W.rangeAt Y 0 cy := fun j v hv => by rw [Nat.zero_add]; exact h.2.2.1.cell j v (by simpa using hv)
end
/-- A step whose numbers are ints, and whose rows are no longer than may be. -/
def Fit (s : LStep) : Prop := (-9223372036854775808 ≤ s.k ∧ s.k ≤ 9223372036854775807) ∧ (-9223372036854775808 ≤ s.p ∧ s.p ≤ 9223372036854775807) ∧ (-9223372036854775808 ≤ s.n ∧ s.n ≤ 9223372036854775807) ∧ s.bs.length ≤ 2000000 ∧ s.ls.length ≤ 4000000 ∧ ∀ x ∈ s.ls, x.length ≤ 2000000
theorem parse_fit {t : List UInt8} {z : LStep} (h : parseL t = some z) (ht : t.length ≤ 3000000) : Fit z := by
  obtain ⟨-, -, h1, h2, h3, h4, h5, h6⟩ := parse_ok h
  exact ⟨by omega, by omega, by omega, by omega, by omega, fun x hx => by have := h6 x hx; omega⟩
theorem stepP_as (k p n : Int) (g : Bool) (bs : List UInt8) (ls : List (List UInt8)) {T : List UInt8} (hT : stepL k p n g bs ls = T) (hz : Fit ⟨k, p, n, g, bs, ls⟩) (bv lv : Value) (w : World) (h1 : RdB w bv bs) (h2 : RdW w lv ls) (he : Env w) :
    Calls Tryd.prog 9 #[.agg #[.int .i64 k, .int .i64 p, .int .i64 n, .bool g, bv, lv]] w fun e w' => e = .returned (.string ⟨T.toArray⟩) ∧ Below w.heap.size w w' := by
  obtain ⟨q1, q2, q3, q4, q5, q6⟩ := hz
  rw [← hT]
  exact step_any k p n g bv lv bs ls w h1 h2 q4 q5 q6 q1 q2 q3 he
theorem stepQ_as (k p n : Int) (g : Bool) (bs : List UInt8) (ls : List (List UInt8)) {T : List UInt8} (hT : stepL k p n g bs ls = T) (hz : Fit ⟨k, p, n, g, bs, ls⟩) (bv lv : Value) (w : World) (h1 : RdB w bv bs) (h2 : RdW w lv ls) (he : Env w) :
    Calls Tryd.prog 10 #[.agg #[.int .i64 k, .int .i64 p, .int .i64 n, .bool g, bv, lv]] w fun e w' => e = .returned (.string ⟨T.toArray⟩) ∧ Below w.heap.size w w' := by
  obtain ⟨q1, q2, q3, q4, q5, q6⟩ := hz
  rw [← hT]
  exact qstep_any k p n g bv lv bs ls w h1 h2 q4 q5 q6 q1 q2 q3 he
theorem sayQ_to (k p c : Int) (x : List UInt8) (cs : List Value) (hcs : cs = x.map u8v) (iv : Value) (ids : List (List UInt8)) (n : Nat) {T : List UInt8} (hT : sayL k p c x ids n = T) (w : World) (hx : x.length = 32) (hr : RdN w iv ids) (hl : ids.length ≤ 2000000) (hn : n < 18446744073709551616)
    (hk : -9223372036854775808 ≤ k ∧ k ≤ 9223372036854775807) (hp : -9223372036854775808 ≤ p ∧ p ≤ 9223372036854775807) (hc : -9223372036854775808 ≤ c ∧ c ≤ 9223372036854775807) (he : Env w) :
    Calls Tryd.prog 11 #[.agg (sayC k p c cs iv n).toArray] w fun e w' => e = .returned (.string ⟨T.toArray⟩) ∧ Below w.heap.size w w' := by
  subst hcs
  rw [← hT]
  exact qsay_any k p c x iv ids n w hx hr hl hn hk hp hc he
/-- What is read of a text. -/
theorem parse_as (t : List UInt8) (ht : t.length ≤ 3000000) (w : World) (he : Env w) : Calls Tryd.prog 12 #[.string ⟨t.toArray⟩] w fun e w' => ∃ k p n g bs ls Ab cb Al cl ok,
    e = .returned (.tuple #[.agg #[.int .i64 k, .int .i64 p, .int .i64 n, .bool g, .slice Ab (List.length bs) cb, .slice Al (List.length ls) cl], .bool ok]) ∧ RdB w' (.slice Ab (List.length bs) cb) bs ∧ RdW w' (.slice Al (List.length ls) cl) ls ∧
      (ok = true ∧ parseL t = some ⟨k, p, n, g, bs, ls⟩ ∨ ok = false ∧ parseL t = none ∧ (⟨k, p, n, g, bs, ls⟩ : LStep) = noS) ∧ Below w.heap.size w w' := by
  refine (parse_any t ht w he).mono ?_
  rintro e w' ⟨bv, lv, rfl, ⟨h1, h2⟩, hb⟩
  rcases hP : parseL t with _ | ⟨k, p, n, g, bs, ls⟩
  · rw [hP] at h1 h2
    obtain ⟨Ab, cb, rfl, -⟩ := RdB.form h1
    obtain ⟨Al, cl, rfl, -⟩ := h2.form
    exact ⟨0, 0, 0, false, [], [], Ab, cb, Al, cl, false, rfl, h1, h2, .inr ⟨rfl, rfl, rfl⟩, hb⟩
  · rw [hP] at h1 h2
    obtain ⟨Ab, cb, rfl, -⟩ := RdB.form h1
    obtain ⟨Al, cl, rfl, -⟩ := h2.form
    exact ⟨k, p, n, g, bs, ls, Ab, cb, Al, cl, true, rfl, h1, h2, .inl ⟨rfl, rfl⟩, hb⟩
theorem only_rd (k p n : Int) (g : Bool) (bs : List UInt8) (ls : List (List UInt8)) (bv lv : Value) {k' p' n' : Int} {g' : Bool} {bs' : List UInt8} {ls' : List (List UInt8)} (hz : onlyL ⟨k, p, n, g, bs, ls⟩ = ⟨k', p', n', g', bs', ls'⟩) (w : World) (h1 : RdB w bv bs) (h2 : RdW w lv ls) :
    Calls Tryd.prog 14 #[.agg #[.int .i64 k, .int .i64 p, .int .i64 n, .bool g, bv, lv]] w fun e w' => ∃ Ab cb Al cl, e = .returned (.agg #[.int .i64 k', .int .i64 p', .int .i64 n', .bool g', .slice Ab bs'.length cb, .slice Al ls'.length cl]) ∧
      RdB w' (.slice Ab bs'.length cb) bs' ∧ RdW w' (.slice Al ls'.length cl) ls' ∧ Below w.heap.size w w' := by
  refine (only_any ⟨k, p, n, g, bs, ls⟩ bv lv w ⟨h1, h2⟩).mono ?_
  rintro e w' ⟨bv', lv', rfl, -, -, ⟨h3, h4⟩, hb⟩
  rw [hz] at h3 h4 ⊢
  obtain ⟨Ab, cb, rfl, -⟩ := RdB.form h3
  obtain ⟨Al, cl, rfl, -⟩ := h4.form
  exact ⟨Ab, cb, Al, cl, rfl, h3, h4, hb⟩
theorem join_sum (xs : List (List UInt8)) : (joinL (xs.map hexL)).length ≤ 2 * (xs.map List.length).sum + 2 * xs.length + 1 := by
  unfold joinL
  split
  · simp
  · cases xs with
    | nil => exact absurd rfl (by assumption)
    | cons x r =>
      have h2 : ∀ r : List (List UInt8), (Lib.joinTail [44] (r.map hexL)).length ≤ 2 * (r.map List.length).sum + 2 * r.length := by
        intro r
        induction r with
        | nil => simp [Lib.joinTail]
        | cons y s ih =>
          have := hexL_length y
          simp only [Lib.joinTail, List.map_cons, List.flatten_cons, List.length_append, List.length_cons, List.length_nil, List.sum_cons] at *
          omega
      have h3 := h2 r
      have := hexL_length x
      rw [List.map_cons, Lib.join_cons, List.length_append, List.map_cons, List.sum_cons, List.length_cons]
      omega
theorem text_len (k p n : Int) (g : Bool) (bs : List UInt8) (ls : List (List UInt8)) (hp : -9223372036854775808 ≤ p ∧ p ≤ 9223372036854775807) (hn : -9223372036854775808 ≤ n ∧ n ≤ 9223372036854775807) (hb : bs.length ≤ 1048576) (hl : ls.length ≤ 10) (hs : (ls.map List.length).sum ≤ 1048576) : (stepL k p n g bs ls).length ≤ 2500000 := by
  have h1 := itoa_short p hp.1 hp.2
  have h2 := itoa_short n hn.1 hn.2
  have h3 : (goodL g).length ≤ 1 := by cases g <;> decide
  have h4 := hexL_length bs
  have h5 := join_sum ls
  unfold stepL
  repeat' split
  all_goals (simp only [List.length_append, List.length_cons, List.length_nil]; omega)
theorem sum_ge {ls : List (List UInt8)} {x : List UInt8} (h : x ∈ ls) : x.length ≤ (ls.map List.length).sum := by
  induction ls with
  | nil => cases h
  | cons y r ih =>
    rw [List.map_cons, List.sum_cons]
    rcases List.mem_cons.1 h with rfl | h
    · omega
    · have := ih h; omega
theorem mask16 (a : Int) : ∃ N : Int, bits .and .i64 a 65535 = N ∧ 0 ≤ N ∧ N < 65536 := by
  refine ⟨_, i64_mask a 65535 16 (by decide) (by decide), ?_, ?_⟩ <;> (have e : (2 : Int) ^ 16 = 65536 := by decide) <;> rw [e] <;> omega
theorem sayC_set0 {k p c k' : Int} {cs : List Value} {iv : Value} {n : Nat} : (sayC k p c cs iv n).set 0 (.int .i64 k') = sayC k' p c cs iv n := rfl
end Go.Proofs.YtodcbcpjlhlakaaDoor.W
