/- txns.Read: what is read, as a plain function; a transaction of one's own. -/
import Derived.Test.YtfggkljgfadacaaT12
set_option linter.unusedVariables false
set_option linter.unusedSimpArgs false
namespace Go.Proofs.Ytfggkljgfadacaa.W
open Go.RowKit Go.Proofs.Ytfggkljgfadacaa.B Go.Proofs

theorem OwS.setN {w : World} {base : Nat} {e : TypeId} {size g off n c : Nat} {xs : List Value} (h : OwS w base e size (.slice (some ⟨g, off, none⟩) n c) n xs) (i : Nat) (hi : i < n * size) (u : Value) :
    OwS (w.setCell ⟨g, off + i, none⟩ u) base e size (.slice (some ⟨g, off, none⟩) n c) n (xs.set i u) := by
  refine ⟨by rw [List.length_set]; exact h.1, ?_⟩
  rcases h.2 with ⟨h1, h2⟩ | ⟨g', off', cap, cur, h1, h2, h3, h4, h5, h6, h7⟩
  · cases h1
  · injection h1 with e1 e2 e3
    injection e1 with e1
    injection e1 with e4 e5
    subst e3 e4 e5
    have hm := Nat.mul_le_mul_right size h4
    refine .inr ⟨g, off, c, cur.setIfInBounds (off + i) u, rfl, h2, ?_, h4, h5, by simpa using h6, ?_⟩
    · simp [World.setCell, Array.getElem?_modify, h3]
    · subst h7
      rw [Array.toList_setIfInBounds]
      apply List.ext_getElem?
      intro j
      simp only [List.getElem?_take, List.getElem?_drop, List.getElem?_set]
      have hcl : cur.toList.length = cur.size := Array.length_toList
      by_cases hj : j < n * size
      · simp only [hj, if_true]
        by_cases hij : i = j
        · subst hij
          have k1 : off + i < cur.toList.length := by omega
          have k2 : i < (List.take (n * size) (List.drop off cur.toList)).length := by rw [List.length_take, List.length_drop]; omega
          rw [if_pos rfl, if_pos k1, if_pos rfl, if_pos k2]
        · rw [if_neg (by omega), if_neg hij]
      · have k2 : ¬ i = j := by omega
        rw [if_neg k2, if_neg hj, if_neg hj]
theorem OwG.form {α : Type} {E : World → Option Nat → List Value → α → Prop} {e : TypeId} {size : Nat} {w : World} {base : Nat} {v : Value} {ys : List α} (h : OwG E e size w base v ys) : ∃ A c, v = .slice A ys.length c := by
  obtain ⟨zs, h1, _⟩ := h
  rcases h1.2 with ⟨rfl, h⟩ | ⟨g, off, cap, cur, rfl, _⟩
  · exact ⟨none, 0, by rw [h]⟩
  · exact ⟨_, _, rfl⟩
/-- One cell of one element of a row of one's own turned. -/
theorem OwG.set {α : Type} {E : World → Option Nat → List Value → α → Prop} {e : TypeId} {size : Nat} {w : World} {base g o n c : Nat} {ys : List α} (h : OwG E e size w base (.slice (some ⟨g, o, none⟩) n c) ys) (k : Nat) (y y' : α) (hk : ys[k]? = some y) (j : Nat) (hj : j < size) (u : Value)
    (hy : ∀ cs, cs.length = size → E w (some g) cs y → E (w.setCell ⟨g, o + (k * size + j), none⟩ u) (some g) (cs.set j u) y') (hE : ∀ cs y, E w (some g) cs y → E (w.setCell ⟨g, o + (k * size + j), none⟩ u) (some g) cs y) :
    OwG E e size (w.setCell ⟨g, o + (k * size + j), none⟩ u) base (.slice (some ⟨g, o, none⟩) n c) (ys.set k y') := by
  obtain ⟨zs, h1, h2⟩ := h
  have hlt : k < ys.length := (List.getElem?_eq_some_iff.1 hk).1
  obtain rfl : n = ys.length := by
    rcases h1.2 with ⟨q, _⟩ | ⟨g', off, cap, cur, q, _⟩
    · cases q
    · injection q
  have hz := h1.1
  have hin : k * size + j < ys.length * size := by
    have : k * size + size ≤ ys.length * size := by rw [← Nat.succ_mul]; exact Nat.mul_le_mul_right _ hlt
    omega
  refine ⟨zs.set (k * size + j) u, ?_, fun i x hx => ?_⟩
  · rw [List.length_set]
    exact OwS.setN h1 _ hin u
  · have hown : (Value.slice (some ⟨g, o, none⟩) ys.length c).ownBlock = some g := rfl
    rw [hown] at h2 ⊢
    by_cases hik : i = k
    · subst hik
      rw [List.getElem?_set_self hlt] at hx
      obtain rfl := Option.some.inj hx
      have e1 : ((zs.set (i * size + j) u).drop (i * size)).take size = ((zs.drop (i * size)).take size).set j u := by
        rw [List.drop_set, if_neg (by omega), show i * size + j - i * size = j by omega, List.take_set]
      rw [e1]
      exact hy _ (part_length hz hlt) (h2 i y hk)
    · rw [List.getElem?_set_ne (fun q => hik q.symm)] at hx
      have e1 : ((zs.set (k * size + j) u).drop (i * size)).take size = (zs.drop (i * size)).take size := by
        apply List.ext_getElem?
        intro q
        simp only [List.getElem?_take, List.getElem?_drop]
        by_cases hq : q < size
        · rw [if_pos hq, if_pos hq, List.getElem?_set_ne]
          intro q2
          rcases Nat.lt_or_gt_of_ne hik with hlt2 | hlt2
          · have := Nat.mul_le_mul_right size (show i + 1 ≤ k by omega)
            rw [Nat.succ_mul] at this
            omega
          · have := Nat.mul_le_mul_right size (show k + 1 ≤ i by omega)
            rw [Nat.succ_mul] at this
            omega
        · rw [if_neg hq, if_neg hq]
      rw [e1]
      exact hE _ _ (h2 i x hx)
theorem OwG.mono {α : Type} {E E' : World → Option Nat → List Value → α → Prop} {e : TypeId} {size : Nat} {w : World} {base base' : Nat} {v : Value} {ys : List α} (h : OwG E e size w base v ys) (hb : base' ≤ base) (hE : ∀ own cs y, E w own cs y → E' w own cs y) : OwG E' e size w base' v ys := by
  obtain ⟨zs, h1, h2⟩ := h
  exact ⟨zs, h1.mono hb, fun i y hy => hE _ _ _ (h2 i y hy)⟩
theorem OwV.mono {w : World} {base base' : Nat} {own : Option Nat} {v : Value} {ws : List (List UInt8)} (h : OwV w base own v ws) (hb : base' ≤ base) : OwV w base' own v ws := by
  obtain ⟨us, h1, h2, h3⟩ := h
  exact ⟨us, h1.mono hb, h2, fun i b hbb => by obtain ⟨u, q1, q2, q3⟩ := h3 i b hbb; exact ⟨u, q1, ⟨q2.1.mono hb, q2.2⟩, q3⟩⟩
theorem InE.mono {base base' : Nat} (hb : base' ≤ base) : ∀ w own cs x, InE base w own cs x → InE base' w own cs x := by
  rintro w own cs x ⟨sv, wv, rfl, h1, h2, h3, h4⟩
  exact ⟨sv, wv, rfl, h1, ⟨h2.1.mono hb, h2.2⟩, h3.mono hb, h4⟩
theorem OutE.mono {base base' : Nat} (hb : base' ≤ base) : ∀ w own cs y, OutE base w own cs y → OutE base' w own cs y := by
  rintro w own cs y ⟨u, rfl, h, hv⟩
  exact ⟨u, rfl, ⟨h.1.mono hb, h.2⟩, hv⟩
/-- A row of bytes in blocks of one's own is kept where what turns is no block of its own. -/
theorem OwG.kept {α : Type} {E : World → Option Nat → List Value → α → Prop} {e : TypeId} {size : Nat} {w w' : World} {base : Nat} {row : Option Nat} {v : Value} {ys : List α} (hE : ∀ cs y, E w v.ownBlock cs y → E w' v.ownBlock cs y) (h : OwG E e size w base v ys) (hg : w.grownBy w' row) (ho : Off row v) : OwG E e size w' base v ys := by
  obtain ⟨us, h1, h2⟩ := h
  exact ⟨us, h1.kept hg (off_kept ho), fun i b hb => hE _ _ (h2 i b hb)⟩
theorem off_far {w : World} {base B : Nat} {u : Value} {n size : Nat} {e : TypeId} {xs : List Value} (h : OwS w base e size u n xs) (hB : w.heap.size ≤ B) : Off (some B) u := fun k hk e2 => by
  injection e2 with e2
  have := (h.lt k hk).2
  omega
/-- An output is kept where what turns lies ahead of its base. -/
theorem OutE.kept {base : Nat} {w w' : World} {row : Option Nat} (hg : w.grownBy w' row) (hr : ∀ k, row = some k → k < base) : ∀ own cs y, OutE base w own cs y → OutE base w' own cs y := by
  rintro own cs y ⟨u, rfl, h, hv⟩
  exact ⟨u, rfl, h.kept hg (fun k hk e => by have := hr k e; have := (h.1.lt k hk).1; omega), hv⟩

/-- The inputs with their witnesses. -/
def setWits (xs : List LIn) (ws : List (List (List UInt8))) : List LIn := xs.zipWith (fun x w => { x with wit := w }) ws
def setTo (xs : List LIn) (ws : List (List (List UInt8))) : List LIn := setWits (xs.take ws.length) ws ++ xs.drop ws.length
theorem setWits_length (xs : List LIn) (ws : List (List (List UInt8))) (h : xs.length = ws.length) : (setWits xs ws).length = xs.length := by
  unfold setWits; rw [List.length_zipWith]; omega
theorem setTo_length (xs : List LIn) (ws : List (List (List UInt8))) (h : ws.length ≤ xs.length) : (setTo xs ws).length = xs.length := by
  unfold setTo
  rw [List.length_append, setWits_length _ _ (by rw [List.length_take]; omega), List.length_take, List.length_drop]
  omega
theorem setTo_snoc (xs : List LIn) (ws : List (List (List UInt8))) (x : LIn) (a : List (List UInt8)) (h : xs[ws.length]? = some x) : setTo xs (ws ++ [a]) = (setTo xs ws).set ws.length { x with wit := a } := by
  have hlt : ws.length < xs.length := (List.getElem?_eq_some_iff.1 h).1
  have hx : xs[ws.length] = x := by
    have := List.getElem?_eq_getElem hlt
    rw [this] at h
    exact Option.some.inj h
  have hl : (xs.take ws.length).length = ws.length := by rw [List.length_take]; omega
  have hw : (setWits (xs.take ws.length) ws).length = ws.length := by rw [setWits_length _ _ hl, hl]
  unfold setTo
  rw [List.length_append, List.length_singleton, List.take_succ_eq_append_getElem hlt, hx, List.set_append_right _ _ (by omega), hw, Nat.sub_self, List.drop_eq_getElem_cons hlt, List.set_cons_zero]
  unfold setWits
  rw [List.zipWith_append hl]
  simp
theorem setTo_at (xs : List LIn) (ws : List (List (List UInt8))) : (setTo xs ws)[ws.length]? = xs[ws.length]? ∨ xs.length ≤ ws.length := by
  by_cases h : ws.length < xs.length
  · left
    have hl : (xs.take ws.length).length = ws.length := by rw [List.length_take]; omega
    have hw : (setWits (xs.take ws.length) ws).length = ws.length := by rw [setWits_length _ _ hl, hl]
    unfold setTo
    rw [List.getElem?_append_right (by omega), hw, Nat.sub_self, List.getElem?_drop]
    simp
  · right; omega

/-- The number of inputs, and whether there is a mark ahead of it. -/
def rMark (s : St) : (Bool × Nat) × St :=
  let b := rcount 50 s.1 s.2
  if b.1 = 0 then
    let c := rtake 1 b.2.1 b.2.2
    let d := if c.1 = [1] then c.2 else (rtake (-1) c.2.1 c.2.2).2
    let e := rcount 50 d.1 d.2
    ((true, e.1), e.2)
  else ((false, b.1), b.2)
/-- What stands between the mark and the lock. -/
def rParts (mk : Bool) (n : Nat) (s : St) : (List LIn × List LOut) × St :=
  let a := iter rIn n s
  let b := rOuts a.2
  if mk then ((setWits a.1 (iter rWit n b.2).1, b.1), (iter rWit n b.2).2) else ((a.1, b.1), b.2)
def rRaw (s : St) : (LTx × Bool) × St :=
  let a := rnum 4 s.1 s.2
  let m := rMark a.2
  let p := rParts m.1.1 m.1.2 m.2
  let d := rnum 4 p.2.1 p.2.2
  ((⟨a.1, p.1.1, p.1.2, d.1⟩, m.1.1), d.2)
def noTx : LTx := ⟨0, [], [], 0⟩
/-- What Read reads. -/
def rTx (s : St) : (LTx × Bool) × St :=
  let r := rRaw s
  if r.2.2 = false ∧ mayT r.1.1 ∧ (r.1.2 = true ↔ hasW r.1.1) then ((r.1.1, true), r.2) else ((noTx, false), (rtake (-1) r.2.1 r.2.2).2)
/-- A transaction of one's own, its outputs behind the row of its inputs. -/
def OwTx (w : World) (base : Nat) (cs : List Value) (t : LTx) : Prop :=
  ∃ iv ov mid, cs = [.int .u32 (t.ver : Int), iv, ov, .int .u32 (t.lock : Int)] ∧ OwG (InE base) 55 36 w base iv t.ins ∧ OwG (OutE mid) 57 2 w mid ov t.outs ∧ base ≤ mid ∧ (∀ k, iv.ownBlock = some k → k < mid) ∧ t.ver < 4294967296 ∧ t.lock < 4294967296
theorem OwTx.rd {w : World} {base : Nat} {cs : List Value} {t : LTx} (h : OwTx w base cs t) : TxC w cs t := by
  obtain ⟨iv, ov, mid, rfl, h1, h2, _, _, h3⟩ := h
  exact ⟨iv, ov, rfl, OwG.rd (InE.rd _) h1, OwG.rd (OutE.rd _) h2, h3⟩
theorem OwTx.below {w w' : World} {base : Nat} {cs : List Value} {t : LTx} (h : OwTx w base cs t) (hb : Below w.heap.size w w') : OwTx w' base cs t := by
  obtain ⟨iv, ov, mid, rfl, h1, h2, h3⟩ := h
  exact ⟨iv, ov, mid, rfl, OwG.same (InE.below hb) h1 hb, OwG.same (OutE.below hb) h2 hb, h3⟩
theorem OwTx.mono {w : World} {base base' : Nat} {cs : List Value} {t : LTx} (h : OwTx w base cs t) (hb : base' ≤ base) : OwTx w base' cs t := by
  obtain ⟨iv, ov, mid, rfl, h1, h2, h3, h4⟩ := h
  exact ⟨iv, ov, mid, rfl, OwG.mono h1 hb (InE.mono hb w), h2, by omega, h4⟩
theorem OwTx.read {w w' : World} {base B : Nat} {cs : List Value} {t : LTx} (h : OwTx w base cs t) (hg : w.grownBy w' (some B)) (hB : B < base) : OwTx w' base cs t := by
  obtain ⟨iv, ov, mid, rfl, h1, h2, h3, h4⟩ := h
  exact ⟨iv, ov, mid, rfl, OwG.read (l := []) (bad := false) (InE.read hB hg) h1 hg hB, OwG.read (l := []) (bad := false) (OutE.read (by omega) hg) h2 hg (by omega), h3, h4⟩
theorem OwTx.no (w : World) (base : Nat) : OwTx w base [.int .u32 0, .slice none 0 0, .slice none 0 0, .int .u32 0] noTx :=
  ⟨_, _, base, rfl, OwG.nil, OwG.nil, Nat.le_refl _, (fun k hk => by simp [Value.ownBlock] at hk), by decide, by decide⟩
def zTx : Array Value := #[.int .u32 0, .slice none 0 0, .slice none 0 0, .int .u32 0]
/-- How Read stands: the reader, the result's block R, the transaction's block G. -/
def RSt (w W : World) (B R G : Nat) (l : List UInt8) (b : Bool) (gcs : List Value) : Prop :=
  Rdr 74 W B l b ∧ w.grownBy W (some B) ∧ Box W R zTx 51 ∧ Box W G gcs.toArray 51 ∧ B < w.heap.size ∧ w.heap.size ≤ R ∧ R < G
theorem RSt.read {w W W' : World} {B R G : Nat} {l l' : List UInt8} {b b' : Bool} {gcs : List Value} (h : RSt w W B R G l b gcs) (hr : Rdr 74 W' B l' b') (hg : W.grownBy W' (some B)) : RSt w W' B R G l' b' gcs := by
  obtain ⟨h1, h2, h3, h4, h5, h6, h7⟩ := h
  exact ⟨hr, grown_trans h2 hg, h3.grown hg (fun e => by injection e with e; omega), h4.grown hg (fun e => by injection e with e; omega), h5, h6, h7⟩
theorem RSt.below {w W W' : World} {B R G : Nat} {l : List UInt8} {b : Bool} {gcs : List Value} (h : RSt w W B R G l b gcs) (hb : Below W.heap.size W W') : RSt w W' B R G l b gcs := by
  obtain ⟨h1, h2, h3, h4, h5⟩ := h
  exact ⟨h1.below hb, grown_far h2 (grown_none hb) (fun k hk => by cases hk), h3.below hb, h4.below hb, h5⟩
theorem Box.setA {w : World} {B : Nat} {cs : List Value} {t : TypeId} (h : Box w B cs.toArray t) (off : Nat) (v : Value) : Box (w.setCell ⟨B, off, none⟩ v) B (cs.set off v).toArray t := Box.set h off v
theorem RSt.set {w W : World} {B R G : Nat} {l : List UInt8} {b : Bool} {gcs : List Value} (h : RSt w W B R G l b gcs) (j : Nat) (v : Value) : RSt w (W.setCell ⟨G, j, none⟩ v) B R G l b (gcs.set j v) := by
  obtain ⟨h1, h2, h3, h4, h5, h6, h7⟩ := h
  have hg := grown_set W G j v
  exact ⟨h1.grown hg (fun k hk => by injection hk with hk; omega), grown_far h2 hg (fun k hk => by injection hk with hk; omega), h3.grown hg (fun e => by injection e with e; omega), h4.set j v, h5, h6, h7⟩
/-- What turns in a block behind G. -/
theorem RSt.far {w W W' : World} {B R G : Nat} {l : List UInt8} {b : Bool} {gcs : List Value} {row : Option Nat} (h : RSt w W B R G l b gcs) (hg : W.grownBy W' row) (hr : ∀ k, row = some k → G < k) : RSt w W' B R G l b gcs := by
  obtain ⟨h1, h2, h3, h4, h5, h6, h7⟩ := h
  exact ⟨h1.grown hg (fun k hk => by have := hr k hk; omega), grown_far h2 hg (fun k hk => by have := hr k hk; omega), h3.grown hg (fun e => by have := hr R e; omega), h4.grown hg (fun e => by have := hr G e; omega), h5, h6, h7⟩
theorem RSt.cells {w W : World} {B R G : Nat} {l : List UInt8} {b : Bool} {v0 v1 v2 v3 : Value} (h : RSt w W B R G l b [v0, v1, v2, v3]) :
    W.cell? ⟨G, 0, none⟩ = some v0 ∧ W.cell? ⟨G, 1, none⟩ = some v1 ∧ W.cell? ⟨G, 2, none⟩ = some v2 ∧ W.cell? ⟨G, 3, none⟩ = some v3 ∧ (∀ j, W.frozen? ⟨G, j, none⟩ = false) := by
  have h4 := h.2.2.2.1
  exact ⟨h4.cell 0 _ rfl, h4.cell 1 _ rfl, h4.cell 2 _ rfl, h4.cell 3 _ rfl, fun j => h4.frozen j⟩
theorem RSt.at {w W : World} {B R G : Nat} {l : List UInt8} {b : Bool} {v0 v1 v2 v3 : Value} (h : RSt w W B R G l b [v0, v1, v2, v3]) : Rdr 74 W B l b := h.1
theorem RSt.ltB {w W : World} {B R G : Nat} {l : List UInt8} {b : Bool} {gcs : List Value} (h : RSt w W B R G l b gcs) : B < G + 1 := by obtain ⟨_, _, _, _, h5, h6, h7⟩ := h; omega
theorem RSt.lt {w W : World} {B R G : Nat} {l : List UInt8} {b : Bool} {gcs : List Value} (h : RSt w W B R G l b gcs) : G < W.heap.size := h.2.2.2.1.lt
end Go.Proofs.Ytfggkljgfadacaa.W
