/- A transaction's bytes are read as it was: plain lists. -/
import Derived.Test.YtfggkljgfadacaaT16
set_option linter.unusedVariables false
set_option linter.unusedSimpArgs false
namespace Go.Proofs.Ytfggkljgfadacaa.W
open Go.RowKit Go.Proofs.Ytfggkljgfadacaa.B Go.Proofs

/-- What a transaction's fields keep to. -/
def fitT (t : LTx) : Prop := t.ver < 4294967296 ∧ t.lock < 4294967296 ∧ (∀ x ∈ t.ins, x.prev.length = 32 ∧ x.vout < 4294967296 ∧ x.seq < 4294967296) ∧ ∀ y ∈ t.outs, y.value < 18446744073709551616
theorem TxC.fit {w : World} {cs : List Value} {t : LTx} (h : TxC w cs t) : fitT t := by
  obtain ⟨iv, ov, rfl, hi, ho, h1, h2⟩ := h
  refine ⟨h1, h2, fun x hx => ?_, fun y hy => ?_⟩
  · obtain ⟨A, c, rfl, _⟩ := hi.form
    obtain ⟨k, hk, rfl⟩ := List.mem_iff_getElem.1 hx
    obtain ⟨g, o, cs, _, _, hin, _⟩ := RdL.at hi k _ (List.getElem?_eq_getElem hk)
    exact ⟨hin.prev, hin.vout, hin.seq⟩
  · obtain ⟨A, c, rfl, _⟩ := ho.form
    obtain ⟨k, hk, rfl⟩ := List.mem_iff_getElem.1 hy
    obtain ⟨g, o, cs, _, _, ⟨sv, rfl, _, hv⟩, _⟩ := RdL.at ho k _ (List.getElem?_eq_getElem hk)
    exact hv
theorem rtake_append (a r : List UInt8) (n : Int) (h : (a.length : Int) = n) : rtake n (a ++ r) false = (a, r, false) := by
  unfold rtake
  have hn : n.toNat = a.length := by omega
  rw [if_neg (by simp; omega), hn, List.take_left, List.drop_left]
theorem rRow_append (x r : List UInt8) (h : x.length ≤ 500) : rRow (cntB x ++ r, false) = (x, (r, false)) := by
  unfold rRow cntB
  rw [List.append_assoc]
  simp only [rcount_cnt 500 x.length (x ++ r) (by omega) (by omega)]
  exact rtake_append x r _ rfl
theorem iter_cons {α : Type} (f : St → α × St) (k : Nat) (s : St) : iter f (k + 1) s = ((f s).1 :: (iter f k (f s).2).1, (iter f k (f s).2).2) := by
  induction k generalizing s with
  | zero => rfl
  | succ k ih =>
    rw [iter, ih]
    show _ = (_ :: (iter f (k + 1) (f s).2).1, (iter f (k + 1) (f s).2).2)
    rw [iter]
    rfl
theorem iter_flat {α β : Type} (f : St → β × St) (g : α → List UInt8) (h : α → β) : ∀ (xs : List α) (r : List UInt8), (∀ x ∈ xs, ∀ r, f (g x ++ r, false) = (h x, (r, false))) → iter f xs.length (xs.flatMap g ++ r, false) = (xs.map h, (r, false))
  | [], r, _ => rfl
  | x :: xs, r, hf => by
    rw [List.length_cons, iter_cons, List.flatMap_cons, List.append_assoc, hf x (by simp)]
    simp only
    rw [iter_flat f g h xs r (fun y hy => hf y (by simp [hy]))]
    rfl
theorem pad32_id (x : List UInt8) (h : x.length = 32) : pad32 x = x := by unfold pad32; rw [h]; simp
theorem rIn_append (x : LIn) (r : List UInt8) (h : okIn x) (hp : x.prev.length = 32) (hv : x.vout < 4294967296) (hs : x.seq < 4294967296) : rIn (inB x ++ r, false) = ({ x with wit := [] }, (r, false)) := by
  unfold rIn inB
  simp only [List.append_assoc]
  rw [rtake_append x.prev _ 32 (by omega)]
  simp only
  rw [rnum_le x.vout 4 _ false (by simpa using hv)]
  simp only
  rw [rRow_append x.script _ h.1]
  simp only
  rw [rnum_le x.seq 4 _ false (by simpa using hs), pad32_id x.prev hp]
theorem rOut_append (y : LOut) (r : List UInt8) (h : okOut y) (hv : y.value < 18446744073709551616) : rOut (outB y ++ r, false) = (y, (r, false)) := by
  unfold rOut outB
  simp only [List.append_assoc]
  rw [rnum_le y.value 8 _ false (by simpa using hv)]
  simp only
  rw [rRow_append y.script _ h]
theorem rWit_append (x : LIn) (r : List UInt8) (h : okIn x) : rWit (witB x ++ r, false) = (x.wit, (r, false)) := by
  unfold rWit witB
  rw [List.append_assoc]
  simp only [rcount_cnt 10 x.wit.length (x.wit.flatMap cntB ++ r) (by have := h.2.1; omega) (by have := h.2.1; omega)]
  have := iter_flat rRow cntB id x.wit r (fun b hb r => rRow_append b r (h.2.2 b hb))
  rw [List.map_id] at this
  exact this
theorem setWits_back : ∀ xs : List LIn, setWits (xs.map fun x => { x with wit := [] }) (xs.map LIn.wit) = xs
  | [] => rfl
  | x :: xs => by
    have := setWits_back xs
    unfold setWits at *
    simp only [List.map_cons, List.zipWith_cons_cons, this]
theorem unwit_of {xs : List LIn} (h : ¬ ∃ x ∈ xs, 0 < x.wit.length) : xs.map (fun x => ({ x with wit := [] } : LIn)) = xs := by
  conv => rhs; rw [← List.map_id xs]
  refine List.map_congr_left fun x hx => ?_
  have : x.wit = [] := List.eq_nil_of_length_eq_zero (Nat.eq_zero_of_not_pos (fun hp => h ⟨x, hx, hp⟩))
  cases x
  simp at this ⊢
  exact this
theorem rMark_plain (n : Nat) (r : List UInt8) (h1 : 1 ≤ n) (h2 : n ≤ 50) : rMark (cnt n ++ r, false) = ((false, n), (r, false)) := by
  unfold rMark
  simp only [rcount_cnt 50 n r (by omega) (by omega)]
  rw [if_neg (by omega)]
theorem rMark_marked (n : Nat) (r : List UInt8) (h2 : n ≤ 50) : rMark ([0, 1] ++ (cnt n ++ r), false) = ((true, n), (r, false)) := by
  have e : ([0, 1] ++ (cnt n ++ r) : List UInt8) = cnt 0 ++ ([1] ++ (cnt n ++ r)) := rfl
  unfold rMark
  rw [e]
  simp only [rcount_cnt 50 0 ([1] ++ (cnt n ++ r)) (by omega) (by omega), if_true]
  rw [rtake_append [1] (cnt n ++ r) 1 rfl]
  simp only [if_true, rcount_cnt 50 n r (by omega) (by omega)]
theorem rOuts_append (ys : List LOut) (r : List UInt8) (h : ∀ y ∈ ys, okOut y) (hv : ∀ y ∈ ys, y.value < 18446744073709551616) (hl : ys.length ≤ 50) : rOuts (cnt ys.length ++ (ys.flatMap outB ++ r), false) = (ys, (r, false)) := by
  unfold rOuts
  simp only [rcount_cnt 50 ys.length (ys.flatMap outB ++ r) (by omega) (by omega)]
  have := iter_flat rOut outB id ys r (fun y hy r => rOut_append y r (h y hy) (hv y hy))
  rw [List.map_id] at this
  exact this
theorem rIns_append (xs : List LIn) (r : List UInt8) (h : ∀ x ∈ xs, okIn x) (hf : ∀ x ∈ xs, x.prev.length = 32 ∧ x.vout < 4294967296 ∧ x.seq < 4294967296) : iter rIn xs.length (xs.flatMap inB ++ r, false) = (xs.map (fun x => { x with wit := [] }), (r, false)) :=
  iter_flat rIn inB _ xs r (fun x hx r => rIn_append x r (h x hx) (hf x hx).1 (hf x hx).2.1 (hf x hx).2.2)
theorem rWits_append (xs : List LIn) (r : List UInt8) (h : ∀ x ∈ xs, okIn x) : iter rWit xs.length (xs.flatMap witB ++ r, false) = (xs.map LIn.wit, (r, false)) :=
  iter_flat rWit witB _ xs r (fun x hx r => rWit_append x r (h x hx))
/-- A transaction's bytes, with whatever behind, are read as it. -/
theorem rTx_bytes (t : LTx) (r : List UInt8) (hm : mayT t) (hf : fitT t) : rTx (bytesB t ++ r, false) = ((t, true), (r, false)) := by
  obtain ⟨h1, h2, h3, h4, h5, h6⟩ := hm
  obtain ⟨f1, f2, f3, f4⟩ := hf
  have hraw : rRaw (bytesB t ++ r, false) = ((t, decide (hasW t)), (r, false)) := by
    unfold bytesB
    by_cases hw : hasW t
    · rw [if_pos hw, decide_eq_true hw]
      unfold rRaw bodyB
      simp only [List.append_assoc]
      rw [rnum_le t.ver 4 _ false (by simpa using f1)]
      simp only
      rw [rMark_marked _ _ h4]
      simp only
      unfold rParts
      simp only [rIns_append t.ins _ h1 f3, rOuts_append t.outs _ h2 f4 h6, rWits_append t.ins _ h1, if_true]
      rw [rnum_le t.lock 4 _ false (by simpa using f2), setWits_back]
    · rw [if_neg hw, decide_eq_false hw]
      unfold rRaw baseB bodyB
      simp only [List.append_assoc]
      rw [rnum_le t.ver 4 _ false (by simpa using f1)]
      simp only
      rw [rMark_plain _ _ h3 h4]
      simp only
      unfold rParts
      simp only [rIns_append t.ins _ h1 f3, rOuts_append t.outs _ h2 f4 h6, Bool.false_eq_true, if_false]
      rw [rnum_le t.lock 4 _ false (by simpa using f2), unwit_of hw]
  unfold rTx
  simp only [hraw]
  rw [if_pos ⟨trivial, ⟨h1, h2, h3, h4, h5, h6⟩, by simp⟩]
theorem rParse_bytes (t : LTx) (hm : mayT t) (hf : fitT t) : rParse (bytesB t) = (t, true) := by
  have := rTx_bytes t [] hm hf
  rw [List.append_nil] at this
  unfold rParse
  simp only [this]
  rfl
theorem rParse_more (t : LTx) (a : UInt8) (r : List UInt8) (hm : mayT t) (hf : fitT t) : rParse (bytesB t ++ a :: r) = (noTx, false) := by
  have := rTx_bytes t (a :: r) hm hf
  unfold rParse
  simp only [this]
  rfl
end Go.Proofs.Ytfggkljgfadacaa.W
