/- What the document reads as a transaction, and that it is what the program reads: plain lists. -/
import Derived.Test.YtfggkljgfadacaaT36
set_option linter.unusedVariables false
set_option linter.unusedSimpArgs false
namespace Go.Proofs.Ytfggkljgfadacaa.W
open Go.RowKit Go.Proofs.Ytfggkljgfadacaa.B Go.Proofs

/-- So many reads, one behind the other, till one can't be. -/
def iterS {α : Type} (f : St → α × St) : Nat → St → List α × St
  | 0, s => ([], s)
  | k + 1, s => if (iterS f k s).2.2 = true then iterS f k s else ((iterS f k s).1 ++ [(f (iterS f k s).2).1], (f (iterS f k s).2).2)
def qRow (s : St) : List UInt8 × St := qtake ((qcount 500 s.1 s.2).1 : Int) (qcount 500 s.1 s.2).2.1 (qcount 500 s.1 s.2).2.2
def qIn (s : St) : LIn × St :=
  let a := qtake 32 s.1 s.2
  let b := qnum 4 a.2.1 a.2.2
  let c := qRow b.2
  let d := qnum 4 c.2.1 c.2.2
  (⟨pad32 a.1, b.1, c.1, d.1, []⟩, d.2)
def qOut (s : St) : LOut × St :=
  let a := qnum 8 s.1 s.2
  let b := qRow a.2
  (⟨a.1, b.1⟩, b.2)
def qWit (s : St) : List (List UInt8) × St := iterS qRow (qcount 10 s.1 s.2).1 (qcount 10 s.1 s.2).2
def qMore : List UInt8 → Bool
  | a :: b :: _ => a == 0 && b == 1
  | _ => false
def qMark (s : St) : St := if qMore s.1 = true then (qtake 2 s.1 s.2).2 else s
def qW (mk : Bool) (k : Nat) (s : St) : List (List (List UInt8)) × St := if mk = true then iterS qWit k s else ([], s)
def qRaw (s : St) : (LTx × Bool) × St :=
  let a := qnum 4 s.1 s.2
  let m := qMark a.2
  let n := qcount 50 m.1 m.2
  let i := iterS qIn n.1 n.2
  let k := qcount 50 i.2.1 i.2.2
  let o := iterS qOut k.1 k.2
  let v := qW (qMore a.2.1) n.1 o.2
  let d := qnum 4 v.2.1 v.2.2
  ((⟨a.1, setTo i.1 v.1, o.1, d.1⟩, qMore a.2.1), d.2)
def qTx (s : St) : (LTx × Bool) × St :=
  let r := qRaw s
  if r.2.2 = false ∧ mayT r.1.1 ∧ bytesT r.1.1 = s.1.take (s.1.length - r.2.1.length) then ((r.1.1, true), r.2) else ((noTx, false), (r.2.1, true))
def qParse (l : List UInt8) : LTx × Bool :=
  let r := qTx (l, false)
  if r.1.2 = true ∧ r.2.1 = [] then (r.1.1, true) else (noTx, false)

theorem iterS_bad {α : Type} (f : St → α × St) (k : Nat) (s : St) (h : (iterS f k s).2.2 = true) : ∀ m, k ≤ m → iterS f m s = iterS f k s := by
  intro m hm
  induction m with
  | zero =>
    obtain rfl : k = 0 := by omega
    rfl
  | succ m ih =>
    by_cases hk : k = m + 1
    · subst hk; rfl
    · have := ih (by omega)
      rw [iterS, this, if_pos h]
theorem iterS_good {α : Type} (f : St → α × St) (k : Nat) (s : St) (h : (iterS f k s).2.2 = false) : iterS f (k + 1) s = ((iterS f k s).1 ++ [(f (iterS f k s).2).1], (f (iterS f k s).2).2) := by
  rw [iterS, if_neg (by rw [h]; decide)]
theorem iterS_le {α : Type} (f : St → α × St) (hf : ∀ s, (f s).2.1.length ≤ s.1.length) (k : Nat) (s : St) : (iterS f k s).2.1.length ≤ s.1.length := by
  induction k with
  | zero => exact Nat.le_refl _
  | succ k ih =>
    rw [iterS]
    split
    · exact ih
    · exact Nat.le_trans (hf _) ih
theorem iterS_length {α : Type} (f : St → α × St) (k : Nat) (s : St) : (iterS f k s).1.length ≤ k := by
  induction k with
  | zero => exact Nat.le_refl _
  | succ k ih =>
    rw [iterS]
    split
    · omega
    · simp; omega
theorem qRow_le (s : St) : (qRow s).2.1.length ≤ s.1.length := Nat.le_trans (qtake_le _ _ _) (qcount_le_len _ _ _)
theorem qIn_le (s : St) : (qIn s).2.1.length ≤ s.1.length := by
  unfold qIn
  exact Nat.le_trans (qnum_le_len _ _ _) (Nat.le_trans (qRow_le _) (Nat.le_trans (qnum_le_len _ _ _) (qtake_le _ _ _)))
theorem qOut_le (s : St) : (qOut s).2.1.length ≤ s.1.length := by
  unfold qOut
  exact Nat.le_trans (qRow_le _) (qnum_le_len _ _ _)
theorem qWit_le (s : St) : (qWit s).2.1.length ≤ s.1.length := Nat.le_trans (iterS_le qRow qRow_le _ _) (qcount_le_len _ _ _)
theorem qMark_le (s : St) : (qMark s).1.length ≤ s.1.length := by
  unfold qMark
  split
  · exact qtake_le _ _ _
  · exact Nat.le_refl _

-- What is read, where nothing is bad, is what stands there.
theorem leVal_inj : ∀ (x y : List UInt8), x.length = y.length → leVal x = leVal y → x = y
  | [], [], _, _ => rfl
  | [], _ :: _, h, _ => by simp at h
  | _ :: _, [], h, _ => by simp at h
  | a :: x, b :: y, h, e => by
    have ha := a.toNat_lt
    have hb := b.toNat_lt
    simp only [leVal] at e
    have h1 : a.toNat = b.toNat := by omega
    have h2 : leVal x = leVal y := by omega
    rw [leVal_inj x y (by simpa using h) h2, UInt8.toNat_inj.1 h1]
theorem le_leVal (x : List UInt8) : le (leVal x) x.length = x :=
  leVal_inj _ _ (le_length _ _) (by rw [leVal_le, Nat.mod_eq_of_lt (leVal_lt x)])
theorem qtake_inv {n : Int} {l x l' : List UInt8} {b : Bool} (h : qtake n l b = (x, l', false)) : b = false ∧ l = x ++ l' ∧ (x.length : Int) = n := by
  unfold qtake at h
  split at h
  · simp at h
  · rename_i hc
    simp only [Prod.mk.injEq] at h
    obtain ⟨rfl, rfl, _⟩ := h
    refine ⟨by cases b <;> simp_all, by rw [List.take_append_drop], ?_⟩
    rw [List.length_take]
    omega
theorem qnum_inv {k : Nat} {l l' : List UInt8} {b : Bool} {m : Nat} (h : qnum k l b = (m, l', false)) : b = false ∧ l = le m k ++ l' := by
  unfold qnum at h
  simp only [Prod.mk.injEq] at h
  obtain ⟨rfl, h2⟩ := h
  obtain ⟨h3, h4, h5⟩ := qtake_inv (x := (qtake k l b).1) (l' := l') (show qtake k l b = _ from Prod.ext rfl h2)
  refine ⟨h3, ?_⟩
  have e : (qtake k l b).1.length = k := by omega
  have := le_leVal (qtake k l b).1
  rw [e] at this
  rw [this]
  exact h4
theorem qpre_bad (l : List UInt8) : (qpre l true).1.2.2 = true := by
  unfold qpre qnum qtake
  simp [leVal]
theorem qcount_inv {top : Int} {l l' : List UInt8} {b : Bool} {n : Nat} (h : qcount top l b = (n, l', false)) : b = false ∧ l = cnt n ++ l' ∧ (n : Int) ≤ top := by
  unfold qcount at h
  simp only at h
  split at h
  · simp at h
  · rename_i hc
    have ht : (n : Int) ≤ top := by rw [h] at hc; simp only at hc; omega
    have hmin : (qpre l b).2 ≤ n := by rw [h] at hc; simp only at hc; omega
    refine ⟨?_, ?_, ht⟩
    · cases b
      · rfl
      · have := qpre_bad l
        rw [h] at this
        cases this
    · obtain ⟨m1, l1, b1, h1⟩ : ∃ m l1 b1, qnum 1 l b = (m, l1, b1) := ⟨_, _, _, rfl⟩
      have hlt := qnum_lt 1 l b
      unfold qpre at h hmin
      simp only [h1] at h hmin hlt
      split at h
      · rename_i e
        simp only [e, if_true] at hmin
        obtain ⟨rfl, rfl⟩ := qnum_inv h
        obtain ⟨_, rfl⟩ := qnum_inv h1
        subst e
        have := qnum_lt 2 (le n 2 ++ l') false
        have h' : qnum 2 (le n 2 ++ l') false = (n, l', false) := h
        rw [h'] at this
        unfold cnt
        rw [if_neg (by omega), if_pos (by simpa using this), List.append_assoc]
      · split at h
        · rename_i e0 e
          simp only [e0, e, if_true] at hmin
          obtain ⟨rfl, rfl⟩ := qnum_inv h
          obtain ⟨_, rfl⟩ := qnum_inv h1
          subst e
          have hm : 65536 ≤ n := by simpa using hmin
          unfold cnt
          rw [if_neg (by omega), if_neg (by omega), List.append_assoc]
        · split at h
          · simp at h
          · rename_i e0 e1 e2
            simp only [Prod.mk.injEq] at h
            obtain ⟨rfl, rfl, rfl⟩ := h
            obtain ⟨_, rfl⟩ := qnum_inv h1
            unfold cnt
            rw [if_pos (by omega)]
theorem qRow_inv {s : St} {x l' : List UInt8} (h : qRow s = (x, (l', false))) : s.2 = false ∧ s.1 = cntB x ++ l' := by
  unfold qRow at h
  obtain ⟨n, l1, b1, h1⟩ : ∃ m l1 b1, qcount 500 s.1 s.2 = (m, l1, b1) := ⟨_, _, _, rfl⟩
  rw [h1] at h
  obtain ⟨rfl, rfl, h2⟩ := qtake_inv h
  obtain ⟨h3, h4, _⟩ := qcount_inv h1
  refine ⟨h3, ?_⟩
  have e : x.length = n := by simp only at h2; omega
  unfold cntB
  rw [h4, e, List.append_assoc]
theorem qIn_inv {s : St} {x : LIn} {l' : List UInt8} (h : qIn s = (x, (l', false))) : s.2 = false ∧ s.1 = inB x ++ l' := by
  unfold qIn at h
  obtain ⟨a, l1, b1, h1⟩ : ∃ m l1 b1, qtake 32 s.1 s.2 = (m, l1, b1) := ⟨_, _, _, rfl⟩
  obtain ⟨b, l2, b2, h2⟩ : ∃ m l2 b2, qnum 4 l1 b1 = (m, l2, b2) := ⟨_, _, _, rfl⟩
  obtain ⟨c, l3, b3, h3⟩ : ∃ m l3 b3, qRow (l2, b2) = (m, l3, b3) := ⟨_, _, _, rfl⟩
  obtain ⟨d, l4, b4, h4⟩ : ∃ m l4 b4, qnum 4 l3 b3 = (m, l4, b4) := ⟨_, _, _, rfl⟩
  simp only [h1, h2, h3, h4, Prod.mk.injEq] at h
  obtain ⟨rfl, rfl, rfl⟩ := h
  obtain ⟨rfl, rfl⟩ := qnum_inv h4
  obtain ⟨q1, q2⟩ := qRow_inv h3
  simp only at q1 q2
  subst q1 q2
  obtain ⟨rfl, rfl⟩ := qnum_inv h2
  obtain ⟨q3, q4, q5⟩ := qtake_inv h1
  refine ⟨q3, ?_⟩
  unfold inB
  simp only
  rw [q4, pad32_id a (by omega)]
  simp only [List.append_assoc]
theorem qOut_inv {s : St} {x : LOut} {l' : List UInt8} (h : qOut s = (x, (l', false))) : s.2 = false ∧ s.1 = outB x ++ l' := by
  unfold qOut at h
  obtain ⟨b, l2, b2, h2⟩ : ∃ m l2 b2, qnum 8 s.1 s.2 = (m, l2, b2) := ⟨_, _, _, rfl⟩
  obtain ⟨c, l3, b3, h3⟩ : ∃ m l3 b3, qRow (l2, b2) = (m, l3, b3) := ⟨_, _, _, rfl⟩
  simp only [h2, h3, Prod.mk.injEq] at h
  obtain ⟨rfl, rfl, rfl⟩ := h
  obtain ⟨q1, q2⟩ := qRow_inv h3
  simp only at q1 q2
  subst q1 q2
  obtain ⟨q3, q4⟩ := qnum_inv h2
  refine ⟨q3, ?_⟩
  unfold outB
  rw [q4]
  simp only [List.append_assoc]
theorem iterS_inv {α : Type} {f : St → α × St} {g : α → List UInt8} (hf : ∀ s x l', f s = (x, (l', false)) → s.2 = false ∧ s.1 = g x ++ l') :
    ∀ (k : Nat) (s : St) (xs : List α) (l' : List UInt8), iterS f k s = (xs, (l', false)) → s.2 = false ∧ s.1 = xs.flatMap g ++ l' ∧ xs.length = k := by
  intro k
  induction k with
  | zero =>
    intro s xs l' h
    simp only [iterS, Prod.mk.injEq] at h
    obtain ⟨rfl, rfl⟩ := h
    exact ⟨rfl, rfl, rfl⟩
  | succ k ih =>
    intro s xs l' h
    rw [iterS] at h
    split at h
    · rename_i hb
      rw [h] at hb
      cases hb
    · rename_i hb
      obtain ⟨ys, l1, h1⟩ : ∃ ys l1, iterS f k s = (ys, (l1, false)) := ⟨_, _, Prod.ext rfl (Prod.ext rfl (by simpa using hb))⟩
      rw [h1] at h
      simp only [Prod.mk.injEq] at h
      obtain ⟨rfl, h2⟩ := h
      obtain ⟨_, h3⟩ := hf (l1, false) _ _ (Prod.ext rfl h2)
      obtain ⟨q1, q2, q3⟩ := ih s ys l1 h1
      refine ⟨q1, ?_, by simp [q3]⟩
      simp only at h3
      rw [q2]
      conv => lhs; rw [h3]
      simp only [List.flatMap_append, List.flatMap_cons, List.flatMap_nil, List.append_nil, List.append_assoc]
theorem qWit_inv {s : St} {ws : List (List UInt8)} {l' : List UInt8} (h : qWit s = (ws, (l', false))) : s.2 = false ∧ s.1 = cnt ws.length ++ ws.flatMap cntB ++ l' := by
  unfold qWit at h
  obtain ⟨n, l1, b1, h1⟩ : ∃ m l1 b1, qcount 10 s.1 s.2 = (m, l1, b1) := ⟨_, _, _, rfl⟩
  rw [h1] at h
  obtain ⟨q1, q2, q3⟩ := iterS_inv (fun s x l' => qRow_inv) _ _ _ _ h
  simp only at q1 q2
  subst q1 q2
  obtain ⟨q4, q5, _⟩ := qcount_inv h1
  refine ⟨q4, ?_⟩
  rw [q5, q3, List.append_assoc]
theorem qMore_inv {l : List UInt8} (h : qMore l = true) : ∃ r, l = 0 :: 1 :: r := by
  match l, h with
  | a :: b :: r, h =>
    simp only [qMore, Bool.and_eq_true, beq_iff_eq] at h
    obtain ⟨rfl, rfl⟩ := h
    exact ⟨r, rfl⟩
/-- What a raw reading's bytes are. -/
def encRaw (t : LTx) (mk : Bool) : List UInt8 := le t.ver 4 ++ (if mk = true then [0, 1] else []) ++ bodyB t ++ (if mk = true then t.ins.flatMap witB else []) ++ le t.lock 4
def bareI (x : LIn) : Prop := x.wit = [] ∧ x.prev.length = 32 ∧ x.vout < 4294967296 ∧ x.seq < 4294967296
theorem qIn_bare (s : St) : bareI (qIn s).1 := by
  unfold qIn bareI
  refine ⟨rfl, pad32_length _ (qtake_len 32 _ _), ?_, ?_⟩
  · have := qnum_lt 4 (qtake 32 s.1 s.2).2.1 (qtake 32 s.1 s.2).2.2
    simpa using this
  · have := qnum_lt 4 (qRow (qnum 4 (qtake 32 s.1 s.2).2.1 (qtake 32 s.1 s.2).2.2).2).2.1 (qRow (qnum 4 (qtake 32 s.1 s.2).2.1 (qtake 32 s.1 s.2).2.2).2).2.2
    simpa using this
theorem iterS_all {α : Type} {f : St → α × St} {P : α → Prop} (hf : ∀ s, P (f s).1) (k : Nat) (s : St) : ∀ x ∈ (iterS f k s).1, P x := by
  induction k with
  | zero => intro x hx; cases hx
  | succ k ih =>
    rw [iterS]
    split
    · exact ih
    · intro x hx
      rcases List.mem_append.1 hx with hx | hx
      · exact ih x hx
      · rw [List.mem_singleton.1 hx]
        exact hf _
theorem setWits_in : ∀ (xs : List LIn) (ws : List (List (List UInt8))), xs.length = ws.length → (setWits xs ws).flatMap inB = xs.flatMap inB ∧ (setWits xs ws).flatMap witB = ws.flatMap (fun w => cnt w.length ++ w.flatMap cntB)
  | [], [], _ => ⟨rfl, rfl⟩
  | [], _ :: _, h => by simp at h
  | _ :: _, [], h => by simp at h
  | x :: xs, w :: ws, h => by
    have ih := setWits_in xs ws (by simpa using h)
    have e : setWits (x :: xs) (w :: ws) = { x with wit := w } :: setWits xs ws := rfl
    rw [e]
    simp only [List.flatMap_cons, ih.1, ih.2]
    exact ⟨rfl, rfl⟩
theorem setTo_all (xs : List LIn) (ws : List (List (List UInt8))) (h : xs.length = ws.length) : setTo xs ws = setWits xs ws := by
  unfold setTo
  rw [← h, List.take_length, List.drop_length, List.append_nil]
theorem setTo_mem {P : LIn → Prop} (hP : ∀ x w, P x → P { x with wit := w }) (xs : List LIn) (ws : List (List (List UInt8))) (h : ∀ x ∈ xs, P x) : ∀ x ∈ setTo xs ws, P x := by
  intro x hx
  unfold setTo at hx
  rcases List.mem_append.1 hx with hx | hx
  · unfold setWits at hx
    obtain ⟨k, hk, rfl⟩ := List.mem_iff_getElem.1 hx
    rw [List.getElem_zipWith]
    exact hP _ _ (h _ (List.mem_of_mem_take (List.getElem_mem _)))
  · exact h x (List.mem_of_mem_drop hx)
theorem qMark_inv {s : St} {l' : List UInt8} (h : qMark s = (l', false)) : s.2 = false ∧ s.1 = (if qMore s.1 = true then [0, 1] else []) ++ l' := by
  unfold qMark at h
  split at h
  · rename_i hm
    obtain ⟨q1, q2, q3⟩ := qtake_inv (x := (qtake 2 s.1 s.2).1) (Prod.ext rfl h)
    refine ⟨q1, ?_⟩
    rw [if_pos hm]
    obtain ⟨r, hr⟩ := qMore_inv hm
    generalize (qtake 2 s.1 s.2).1 = x at q2 q3
    rw [hr] at q2 ⊢
    rcases x with _ | ⟨a, _ | ⟨b, _ | ⟨c, y⟩⟩⟩
    · simp at q3
    · simp at q3
    · simp at q2
      obtain ⟨rfl, rfl, rfl⟩ := q2
      rfl
    · simp at q3; omega
  · rename_i hm
    rw [if_neg hm]
    subst h
    exact ⟨rfl, rfl⟩
theorem qRaw_inv {l l' : List UInt8} {b : Bool} {t : LTx} {mk : Bool} (h : qRaw (l, b) = ((t, mk), (l', false))) : b = false ∧ l = encRaw t mk ++ l' ∧ fitT t := by
  unfold qRaw at h
  obtain ⟨ver, l1, b1, h1⟩ : ∃ m p q, qnum 4 l b = (m, p, q) := ⟨_, _, _, rfl⟩
  obtain ⟨l2, b2, h2⟩ : ∃ p q, qMark (l1, b1) = (p, q) := ⟨_, _, rfl⟩
  obtain ⟨n, l3, b3, h3⟩ : ∃ m p q, qcount 50 l2 b2 = (m, p, q) := ⟨_, _, _, rfl⟩
  obtain ⟨xs, l4, b4, h4⟩ : ∃ m p q, iterS qIn n (l3, b3) = (m, p, q) := ⟨_, _, _, rfl⟩
  obtain ⟨m, l5, b5, h5⟩ : ∃ m p q, qcount 50 l4 b4 = (m, p, q) := ⟨_, _, _, rfl⟩
  obtain ⟨ys, l6, b6, h6⟩ : ∃ z p q, iterS qOut m (l5, b5) = (z, p, q) := ⟨_, _, _, rfl⟩
  obtain ⟨ws, l7, b7, h7⟩ : ∃ w p q, qW (qMore l1) n (l6, b6) = (w, p, q) := ⟨_, _, _, rfl⟩
  obtain ⟨lock, l8, b8, h8⟩ : ∃ m p q, qnum 4 l7 b7 = (m, p, q) := ⟨_, _, _, rfl⟩
  simp only [h1, h2, h3, h4, h5, h6, h7, h8, Prod.mk.injEq] at h
  obtain ⟨⟨rfl, rfl⟩, rfl, rfl⟩ := h
  have hver := qnum_lt 4 l b
  have hlock := qnum_lt 4 l7 b7
  have hxs := iterS_all qIn_bare n (l3, b3)
  have hys : ∀ y ∈ ys, y.value < 18446744073709551616 := by
    have := iterS_all (f := qOut) (P := fun y => y.value < 18446744073709551616) (fun s => by have := qnum_lt 8 s.1 s.2; have e : (qOut s).1.value = (qnum 8 s.1 s.2).1 := rfl; rw [e]; simpa using this) m (l5, b5)
    rw [h6] at this
    exact this
  rw [h1] at hver
  rw [h8] at hlock
  rw [h4] at hxs
  simp only at hver hlock hxs
  obtain ⟨rfl, rfl⟩ := qnum_inv h8
  have hw : b6 = false ∧ l6 = (if qMore l1 = true then ws.flatMap (fun w => cnt w.length ++ w.flatMap cntB) else []) ++ (le lock 4 ++ l8) ∧ (qMore l1 = true → ws.length = n) ∧ (qMore l1 = false → ws = []) := by
    unfold qW at h7
    split at h7
    · rename_i hm
      obtain ⟨q1, q2, q3⟩ := iterS_inv (g := fun w : List (List UInt8) => cnt w.length ++ w.flatMap cntB) (fun s x l' hh => qWit_inv hh) _ _ _ _ h7
      exact ⟨q1, by rw [if_pos hm]; exact q2, fun _ => q3, fun e => by rw [hm] at e; cases e⟩
    · rename_i hm
      simp only [Prod.mk.injEq] at h7
      obtain ⟨rfl, rfl, rfl⟩ := h7
      exact ⟨rfl, by rw [if_neg hm]; rfl, fun e => absurd e hm, fun _ => rfl⟩
  obtain ⟨rfl, e6, w1, w2⟩ := hw
  obtain ⟨q1, e5, e7⟩ := iterS_inv (fun s x l' => qOut_inv) _ _ _ _ h6
  simp only at q1 e5
  subst q1
  obtain ⟨rfl, e4, _⟩ := qcount_inv h5
  obtain ⟨q2, e3, e8⟩ := iterS_inv (fun s x l' => qIn_inv) _ _ _ _ h4
  simp only at q2 e3
  subst q2
  obtain ⟨rfl, e2, _⟩ := qcount_inv h3
  obtain ⟨q3, e1⟩ := qMark_inv h2
  simp only at q3 e1
  subst q3
  obtain ⟨rfl, e0⟩ := qnum_inv h1
  refine ⟨rfl, ?_, by simpa using hver, by simpa using hlock, setTo_mem (P := fun x => x.prev.length = 32 ∧ x.vout < 4294967296 ∧ x.seq < 4294967296) (fun x w h => h) xs ws (fun x hx => (hxs x hx).2), hys⟩
  have hset : (setTo xs ws).length = n ∧ (setTo xs ws).flatMap inB = xs.flatMap inB ∧ (qMore l1 = true → (setTo xs ws).flatMap witB = ws.flatMap (fun w => cnt w.length ++ w.flatMap cntB)) := by
    by_cases hm : qMore l1 = true
    · have hl : xs.length = ws.length := by rw [e8, w1 hm]
      rw [setTo_all xs ws hl]
      exact ⟨by rw [setWits_length xs ws hl, e8], (setWits_in xs ws hl).1, fun _ => (setWits_in xs ws hl).2⟩
    · have hn : ws = [] := w2 (by simpa using hm)
      subst hn
      rw [setTo_nil]
      exact ⟨e8, rfl, fun e => absurd e hm⟩
  generalize qMore l1 = mk at e1 e6 hset ⊢
  unfold encRaw bodyB
  simp only
  rw [hset.1, hset.2.1, e7, e0, e1, e2, e3, e4, e5, e6]
  cases mk
  · simp only [Bool.false_eq_true, if_false, List.append_assoc, List.append_nil, List.nil_append]
  · simp only [if_true, hset.2.2 rfl, List.append_assoc]
theorem encRaw_bytes (t : LTx) (mk : Bool) (h : mk = true ↔ hasW t) : encRaw t mk = bytesB t := by
  unfold encRaw bytesB
  by_cases hw : hasW t
  · rw [if_pos hw, if_pos (h.2 hw), if_pos (h.2 hw)]
  · rw [if_neg hw, if_neg (fun e => hw (h.1 e)), if_neg (fun e => hw (h.1 e))]
    unfold baseB
    simp
-- What the program reads, where nothing is bad, the document reads too.
theorem Sim.same {l l' : List UInt8} {b b' : Bool} (h : Sim l b l' b') (hb : b = false) : l = l' ∧ b' = false := ⟨h.2.1 hb, by rw [← h.1]; exact hb⟩
theorem take_same {n : Int} {l x l' : List UInt8} {b : Bool} (h : rtake n l b = (x, l', false)) : b = false ∧ qtake n l b = (x, l', false) := by
  have hb : b = false := by
    cases b
    · rfl
    · unfold rtake at h; rw [if_pos (by simp)] at h; simp at h
  subst hb
  obtain ⟨e1, s1⟩ := (Sim.start l).take n
  rw [h] at e1 s1
  obtain ⟨e2, e3⟩ := s1.same rfl
  exact ⟨rfl, Prod.ext e1.symm (Prod.ext e2.symm e3)⟩
theorem num_same {k : Nat} (hk : 1 ≤ k) {l l' : List UInt8} {b : Bool} {m : Nat} (h : rnum k l b = (m, l', false)) : b = false ∧ qnum k l b = (m, l', false) := by
  have hb : b = false := by
    cases b
    · rfl
    · have := rnum_bad k l; rw [h] at this; cases this
  subst hb
  obtain ⟨e1, s1⟩ := (Sim.start l).num k hk
  rw [h] at e1 s1
  obtain ⟨e2, e3⟩ := s1.same rfl
  exact ⟨rfl, Prod.ext e1.symm (Prod.ext e2.symm e3)⟩
theorem count_same {top : Int} {l l' : List UInt8} {b : Bool} {m : Nat} (h : rcount top l b = (m, l', false)) : b = false ∧ qcount top l b = (m, l', false) := by
  have hb : b = false := by
    cases b
    · rfl
    · rw [rcount_bad] at h; simp at h
  subst hb
  obtain ⟨e1, s1⟩ := (Sim.start l).count top
  rw [h] at e1 s1
  obtain ⟨e2, e3⟩ := s1.same rfl
  exact ⟨rfl, Prod.ext e1.symm (Prod.ext e2.symm e3)⟩
theorem row_same {s : St} {x l' : List UInt8} (h : rRow s = (x, (l', false))) : s.2 = false ∧ qRow s = (x, (l', false)) := by
  unfold rRow at h
  obtain ⟨n, l1, b1, h1⟩ : ∃ m p q, rcount 500 s.1 s.2 = (m, p, q) := ⟨_, _, _, rfl⟩
  rw [h1] at h
  obtain ⟨rfl, h2⟩ := take_same h
  obtain ⟨h3, h4⟩ := count_same h1
  refine ⟨h3, ?_⟩
  unfold qRow
  rw [h4]
  exact h2
theorem in_same {s : St} {x : LIn} {l' : List UInt8} (h : rIn s = (x, (l', false))) : s.2 = false ∧ qIn s = (x, (l', false)) := by
  unfold rIn at h
  obtain ⟨a, l1, b1, h1⟩ : ∃ m p q, rtake 32 s.1 s.2 = (m, p, q) := ⟨_, _, _, rfl⟩
  obtain ⟨b, l2, b2, h2⟩ : ∃ m p q, rnum 4 l1 b1 = (m, p, q) := ⟨_, _, _, rfl⟩
  obtain ⟨c, l3, b3, h3⟩ : ∃ m p q, rRow (l2, b2) = (m, p, q) := ⟨_, _, _, rfl⟩
  obtain ⟨d, l4, b4, h4⟩ : ∃ m p q, rnum 4 l3 b3 = (m, p, q) := ⟨_, _, _, rfl⟩
  simp only [h1, h2, h3, h4, Prod.mk.injEq] at h
  obtain ⟨rfl, rfl, rfl⟩ := h
  obtain ⟨rfl, k4⟩ := num_same (by decide) h4
  obtain ⟨q1, k3⟩ := row_same h3
  simp only at q1
  subst q1
  obtain ⟨rfl, k2⟩ := num_same (by decide) h2
  obtain ⟨q2, k1⟩ := take_same h1
  refine ⟨q2, ?_⟩
  unfold qIn
  simp only [k1, k2, k3, k4]
theorem out_same {s : St} {x : LOut} {l' : List UInt8} (h : rOut s = (x, (l', false))) : s.2 = false ∧ qOut s = (x, (l', false)) := by
  unfold rOut at h
  obtain ⟨b, l2, b2, h2⟩ : ∃ m p q, rnum 8 s.1 s.2 = (m, p, q) := ⟨_, _, _, rfl⟩
  obtain ⟨c, l3, b3, h3⟩ : ∃ m p q, rRow (l2, b2) = (m, p, q) := ⟨_, _, _, rfl⟩
  simp only [h2, h3, Prod.mk.injEq] at h
  obtain ⟨rfl, rfl, rfl⟩ := h
  obtain ⟨q1, k3⟩ := row_same h3
  simp only at q1
  subst q1
  obtain ⟨q2, k2⟩ := num_same (by decide) h2
  refine ⟨q2, ?_⟩
  unfold qOut
  simp only [k2, k3]
theorem iter_same {α : Type} {f g : St → α × St} (hf : ∀ s x l', f s = (x, (l', false)) → s.2 = false ∧ g s = (x, (l', false))) :
    ∀ (k : Nat) (s : St) (xs : List α) (l' : List UInt8), iter f k s = (xs, (l', false)) → s.2 = false ∧ iterS g k s = (xs, (l', false)) := by
  intro k
  induction k with
  | zero =>
    intro s xs l' h
    simp only [iter, Prod.mk.injEq] at h
    obtain ⟨rfl, rfl⟩ := h
    exact ⟨rfl, rfl⟩
  | succ k ih =>
    intro s xs l' h
    rw [iter] at h
    simp only [Prod.mk.injEq] at h
    obtain ⟨rfl, h2⟩ := h
    obtain ⟨q1, q2⟩ := hf (iter f k s).2 _ _ (Prod.ext rfl h2)
    obtain ⟨q3, q4⟩ := ih s (iter f k s).1 (iter f k s).2.1 (Prod.ext rfl (Prod.ext rfl q1))
    refine ⟨q3, ?_⟩
    rw [iterS_good g k s (by rw [q4]), q4]
    have e : ((iter f k s).2.1, false) = (iter f k s).2 := Prod.ext rfl q1.symm
    rw [e, q2]
theorem wit_same {s : St} {x : List (List UInt8)} {l' : List UInt8} (h : rWit s = (x, (l', false))) : s.2 = false ∧ qWit s = (x, (l', false)) := by
  unfold rWit at h
  obtain ⟨n, l1, b1, h1⟩ : ∃ m p q, rcount 10 s.1 s.2 = (m, p, q) := ⟨_, _, _, rfl⟩
  rw [h1] at h
  obtain ⟨q1, k2⟩ := iter_same (fun s x l' hh => row_same hh) _ _ _ _ h
  simp only at q1
  subst q1
  obtain ⟨q3, k1⟩ := count_same h1
  refine ⟨q3, ?_⟩
  unfold qWit
  rw [k1]
  exact k2
theorem mark_same {s : St} {mk : Bool} {n : Nat} {l' : List UInt8} (h : rMark s = ((mk, n), (l', false))) : s.2 = false ∧ mk = qMore s.1 ∧ qcount 50 (qMark s).1 (qMark s).2 = (n, l', false) := by
  unfold rMark at h
  obtain ⟨n0, l1, b1, h1⟩ : ∃ m p q, rcount 50 s.1 s.2 = (m, p, q) := ⟨_, _, _, rfl⟩
  simp only [h1] at h
  split at h
  · rename_i h0
    subst h0
    obtain ⟨x, l2, b2, h2⟩ : ∃ m p q, rtake 1 l1 b1 = (m, p, q) := ⟨_, _, _, rfl⟩
    simp only [h2] at h
    split at h
    · rename_i hx
      subst hx
      simp only [Prod.mk.injEq] at h
      obtain ⟨⟨rfl, rfl⟩, h3⟩ := h
      obtain ⟨q1, k1⟩ := count_same (m := (rcount 50 l2 b2).1) (Prod.ext rfl h3)
      subst q1
      obtain ⟨rfl, k2⟩ := take_same h2
      obtain ⟨q3, k3⟩ := count_same h1
      obtain ⟨_, e2, _⟩ := qtake_inv k2
      obtain ⟨_, e3, _⟩ := qcount_inv k3
      have es : s.1 = 0 :: 1 :: l2 := by rw [e3, e2]; rfl
      have hm : qMore s.1 = true := by rw [es]; rfl
      refine ⟨q3, hm.symm, ?_⟩
      have em : qMark s = (l2, false) := by
        unfold qMark
        rw [if_pos hm, q3, es]
        unfold qtake
        rw [if_neg (by simp; omega)]
        rfl
      rw [em]
      exact k1
    · exfalso
      simp only [Prod.mk.injEq] at h
      have := (count_same (Prod.ext rfl h.2)).1
      unfold rtake at this
      rw [if_pos (by simp)] at this
      cases this
  · rename_i h0
    simp only [Prod.mk.injEq] at h
    obtain ⟨⟨rfl, rfl⟩, rfl, rfl⟩ := h
    obtain ⟨q3, k3⟩ := count_same h1
    obtain ⟨_, e3, _⟩ := qcount_inv k3
    have hm : qMore s.1 = false := by
      by_cases hm : qMore s.1 = true
      · exfalso
        obtain ⟨r, hr⟩ := qMore_inv hm
        rename_i htop
        rw [hr] at e3
        unfold cnt at e3
        rw [if_pos (by omega)] at e3
        simp only [le, List.nil_append, List.cons_append, List.cons.injEq] at e3
        have := congrArg UInt8.toNat e3.1
        simp at this
        omega
      · simpa using hm
    refine ⟨q3, hm.symm, ?_⟩
    unfold qMark
    rw [if_neg (by rw [hm]; decide)]
    exact k3
theorem raw_same {l l' : List UInt8} {b : Bool} {t : LTx} {mk : Bool} (h : rRaw (l, b) = ((t, mk), (l', false))) : b = false ∧ qRaw (l, b) = ((t, mk), (l', false)) := by
  unfold rRaw at h
  obtain ⟨ver, l1, b1, h1⟩ : ∃ m p q, rnum 4 l b = (m, p, q) := ⟨_, _, _, rfl⟩
  obtain ⟨mk', n, l2, b2, h2⟩ : ∃ mk n p q, rMark (l1, b1) = ((mk, n), (p, q)) := ⟨_, _, _, _, rfl⟩
  obtain ⟨xs, l3, b3, h3⟩ : ∃ z p q, iter rIn n (l2, b2) = (z, p, q) := ⟨_, _, _, rfl⟩
  obtain ⟨ys, l4, b4, h4⟩ : ∃ z p q, rOuts (l3, b3) = (z, p, q) := ⟨_, _, _, rfl⟩
  obtain ⟨ws, l5, b5, h5⟩ : ∃ z p q, rW mk' n (l4, b4) = (z, p, q) := ⟨_, _, _, rfl⟩
  have hp := rParts_of mk' n (l2, b2) h3 h4 h5
  obtain ⟨lock, l6, b6, h6⟩ : ∃ z p q, rnum 4 l5 b5 = (z, p, q) := ⟨_, _, _, rfl⟩
  simp only [h1, h2, hp, h6, Prod.mk.injEq] at h
  obtain ⟨⟨rfl, rfl⟩, rfl, rfl⟩ := h
  obtain ⟨rfl, k6⟩ := num_same (by decide) h6
  have hw : b4 = false ∧ qW mk' n (l4, b4) = (ws, (l5, false)) := by
    unfold rW at h5
    unfold qW
    cases mk'
    · simp only [Bool.false_eq_true, if_false, Prod.mk.injEq] at h5 ⊢
      obtain ⟨rfl, rfl, rfl⟩ := h5
      exact ⟨rfl, rfl, rfl, rfl⟩
    · simp only [if_true] at h5 ⊢
      exact iter_same (fun s x l' hh => wit_same hh) _ _ _ _ h5
  obtain ⟨rfl, k5⟩ := hw
  unfold rOuts at h4
  obtain ⟨m, l7, b7, h7⟩ : ∃ z p q, rcount 50 l3 b3 = (z, p, q) := ⟨_, _, _, rfl⟩
  rw [h7] at h4
  obtain ⟨q4, k4⟩ := iter_same (fun s x l' hh => out_same hh) _ _ _ _ h4
  simp only at q4 k4
  subst q4
  obtain ⟨rfl, k7⟩ := count_same h7
  obtain ⟨q3, k3⟩ := iter_same (fun s x l' hh => in_same hh) _ _ _ _ h3
  simp only at q3
  subst q3
  obtain ⟨q2, rfl, k2⟩ := mark_same h2
  simp only at q2
  subst q2
  obtain ⟨rfl, k1⟩ := num_same (by decide) h1
  refine ⟨rfl, ?_⟩
  unfold qRaw
  simp only [k1, k2, k3, k7, k4, k5, k6]
theorem take_front {x l l' : List UInt8} (h : l = x ++ l') : l.take (l.length - l'.length) = x := by
  subst h
  rw [List.length_append, Nat.add_sub_cancel, List.take_left]
/-- Both read the same. -/
theorem tx_same (l : List UInt8) : (qTx (l, false)).1 = (rTx (l, false)).1 ∧ (qTx (l, false)).2.2 = (!(qTx (l, false)).1.2) ∧ (rTx (l, false)).2.2 = (!(rTx (l, false)).1.2) ∧ ((qTx (l, false)).1.2 = true → (qTx (l, false)).2 = (rTx (l, false)).2) := by
  by_cases hr : (rTx (l, false)).1.2 = true
  · have h := hr
    unfold rTx at h
    simp only at h
    split at h
    · rename_i hc
      obtain ⟨t, mk, l', hraw⟩ : ∃ t mk l', rRaw (l, false) = ((t, mk), (l', false)) := ⟨_, _, _, Prod.ext rfl (Prod.ext rfl hc.1)⟩
      rw [hraw] at hc
      obtain ⟨_, hq⟩ := raw_same hraw
      obtain ⟨_, he, _⟩ := qRaw_inv hq
      have e1 : rTx (l, false) = ((t, true), (l', false)) := by
        unfold rTx; rw [hraw]; exact if_pos hc
      have e2 : qTx (l, false) = ((t, true), (l', false)) := by
        unfold qTx; rw [hq]
        rw [encRaw_bytes t mk hc.2.2] at he
        exact if_pos ⟨rfl, hc.2.1, by show bytesT t = l.take (l.length - l'.length); rw [take_front he]; unfold bytesT; rw [if_pos hc.2.1]⟩
      rw [e1, e2]
      exact ⟨rfl, rfl, rfl, fun _ => rfl⟩
    · cases h
  · have e1 : (rTx (l, false)).1 = (noTx, false) ∧ (rTx (l, false)).2.2 = true := by
      have h := hr
      unfold rTx at h ⊢
      simp only at h ⊢
      split at h
      · exact absurd rfl h
      · rename_i hc
        rw [if_neg hc]
        refine ⟨rfl, ?_⟩
        unfold rtake
        rw [if_pos (by simp)]
    by_cases hq : (qTx (l, false)).1.2 = true
    · exfalso
      have h := hq
      unfold qTx at h
      simp only at h
      split at h
      · rename_i hc
        obtain ⟨t, mk, l', hraw⟩ : ∃ t mk l', qRaw (l, false) = ((t, mk), (l', false)) := ⟨_, _, _, Prod.ext rfl (Prod.ext rfl hc.1)⟩
        rw [hraw] at hc
        obtain ⟨_, he, hf⟩ := qRaw_inv hraw
        simp only at hc
        have e3 : encRaw t mk = bytesB t := by
          have := take_front he
          rw [← hc.2.2] at this
          unfold bytesT at this
          rw [if_pos hc.2.1] at this
          exact this.symm
        rw [e3] at he
        have := rTx_bytes t l' hc.2.1 hf
        rw [← he] at this
        rw [this] at hr
        exact hr rfl
      · cases h
    · have e2 : (qTx (l, false)).1 = (noTx, false) ∧ (qTx (l, false)).2.2 = true := by
        have h := hq
        unfold qTx at h ⊢
        simp only at h ⊢
        split at h
        · exact absurd rfl h
        · rename_i hc
          rw [if_neg hc]
          exact ⟨rfl, rfl⟩
      rw [e1.1, e2.1, e1.2, e2.2]
      exact ⟨rfl, rfl, rfl, fun h => by cases h⟩
theorem parse_same (l : List UInt8) : qParse l = rParse l := by
  obtain ⟨h1, h2, h3, h4⟩ := tx_same l
  unfold qParse rParse
  simp only [h1]
  by_cases hr : (rTx (l, false)).1.2 = true
  · have h5 := h4 (by rw [h1]; exact hr)
    rw [h5, h3, hr]
    by_cases he : (rTx (l, false)).2.1 = []
    · rw [he]; simp
    · rw [if_neg (fun c => he c.2), if_neg (fun c => he (by simpa using c.2))]
  · rw [if_neg (fun c => hr c.1), if_neg (fun c => hr c.1)]
end Go.Proofs.Ytfggkljgfadacaa.W
