/- How the document's Read stands. -/
import Derived.Test.YtfggkljgfadacaaT37
import Derived.Laws.CopyOwn
set_option linter.unusedVariables false
set_option linter.unusedSimpArgs false
namespace Go.Proofs.Ytfggkljgfadacaa.W
open Go.RowKit Go.Proofs.Ytfggkljgfadacaa.B Go.Proofs

/-- How the document's Read stands: the reader, the result's block R, the transaction's block G. -/
def QSt (w W : World) (B R G : Nat) (l : List UInt8) (b : Bool) (gcs : List Value) : Prop :=
  Rdr 46 W B l b ∧ w.grownBy W (some B) ∧ Box W R zTx 51 ∧ Box W G gcs.toArray 51 ∧ B < w.heap.size ∧ w.heap.size ≤ R ∧ R < G
theorem QSt.read {w W W' : World} {B R G : Nat} {l l' : List UInt8} {b b' : Bool} {gcs : List Value} (h : QSt w W B R G l b gcs) (hr : Rdr 46 W' B l' b') (hg : W.grownBy W' (some B)) : QSt w W' B R G l' b' gcs := by
  obtain ⟨h1, h2, h3, h4, h5, h6, h7⟩ := h
  exact ⟨hr, grown_trans h2 hg, h3.grown hg (fun e => by injection e with e; omega), h4.grown hg (fun e => by injection e with e; omega), h5, h6, h7⟩
theorem QSt.below {w W W' : World} {B R G : Nat} {l : List UInt8} {b : Bool} {gcs : List Value} (h : QSt w W B R G l b gcs) (hb : Below W.heap.size W W') : QSt w W' B R G l b gcs := by
  obtain ⟨h1, h2, h3, h4, h5⟩ := h
  exact ⟨h1.below hb, grown_far h2 (grown_none hb) (fun k hk => by cases hk), h3.below hb, h4.below hb, h5⟩
theorem QSt.set {w W : World} {B R G : Nat} {l : List UInt8} {b : Bool} {gcs : List Value} (h : QSt w W B R G l b gcs) (j : Nat) (v : Value) : QSt w (W.setCell ⟨G, j, none⟩ v) B R G l b (gcs.set j v) := by
  obtain ⟨h1, h2, h3, h4, h5, h6, h7⟩ := h
  have hg := grown_set W G j v
  exact ⟨h1.grown hg (fun k hk => by injection hk with hk; omega), grown_far h2 hg (fun k hk => by injection hk with hk; omega), h3.grown hg (fun e => by injection e with e; omega), h4.setA j v, h5, h6, h7⟩
/-- What turns in a block behind G. -/
theorem QSt.far {w W W' : World} {B R G : Nat} {l : List UInt8} {b : Bool} {gcs : List Value} {row : Option Nat} (h : QSt w W B R G l b gcs) (hg : W.grownBy W' row) (hr : ∀ k, row = some k → G < k) : QSt w W' B R G l b gcs := by
  obtain ⟨h1, h2, h3, h4, h5, h6, h7⟩ := h
  exact ⟨h1.grown hg (fun k hk => by have := hr k hk; omega), grown_far h2 hg (fun k hk => by have := hr k hk; omega), h3.grown hg (fun e => by have := hr R e; omega), h4.grown hg (fun e => by have := hr G e; omega), h5, h6, h7⟩
theorem QSt.cells {w W : World} {B R G : Nat} {l : List UInt8} {b : Bool} {v0 v1 v2 v3 : Value} (h : QSt w W B R G l b [v0, v1, v2, v3]) :
    W.cell? ⟨G, 0, none⟩ = some v0 ∧ W.cell? ⟨G, 1, none⟩ = some v1 ∧ W.cell? ⟨G, 2, none⟩ = some v2 ∧ W.cell? ⟨G, 3, none⟩ = some v3 ∧ (∀ j, W.frozen? ⟨G, j, none⟩ = false) := by
  have h4 := h.2.2.2.1
  exact ⟨h4.cell 0 _ rfl, h4.cell 1 _ rfl, h4.cell 2 _ rfl, h4.cell 3 _ rfl, fun j => h4.frozen j⟩
theorem QSt.at {w W : World} {B R G : Nat} {l : List UInt8} {b : Bool} {gcs : List Value} (h : QSt w W B R G l b gcs) : Rdr 46 W B l b := h.1
theorem QSt.gr {w W : World} {B R G : Nat} {l : List UInt8} {b : Bool} {gcs : List Value} (h : QSt w W B R G l b gcs) : w.grownBy W (some B) := h.2.1
theorem QSt.ltB {w W : World} {B R G : Nat} {l : List UInt8} {b : Bool} {gcs : List Value} (h : QSt w W B R G l b gcs) : B < G + 1 := by obtain ⟨_, _, _, _, h5, h6, h7⟩ := h; omega
theorem QSt.lt {w W : World} {B R G : Nat} {l : List UInt8} {b : Bool} {gcs : List Value} (h : QSt w W B R G l b gcs) : G < W.heap.size := h.2.2.2.1.lt
theorem QSt.box {w W : World} {B R G : Nat} {l : List UInt8} {b : Bool} {gcs : List Value} (h : QSt w W B R G l b gcs) : Box W R #[.int .u32 0, .slice none 0 0, .slice none 0 0, .int .u32 0] 51 := h.2.2.1
/-- The reader's cells. -/
theorem Rdr.two {t : TypeId} {W : World} {B : Nat} {l : List UInt8} {b : Bool} (h : Rdr t W B l b) :
    ∃ A c, W.cell? ⟨B, 0, none⟩ = some (.slice A l.length c) ∧ W.cell? ⟨B, 1, none⟩ = some (.bool b) ∧ W.frozen? ⟨B, 0, none⟩ = false ∧ W.frozen? ⟨B, 1, none⟩ = false ∧ RdB W (.slice A l.length c) l := by
  obtain ⟨A, n, c, h1, h2, _⟩ := h
  obtain ⟨c0, c1, f0, f1⟩ := two_cell h1
  obtain ⟨A', c', he, _⟩ := RdB.form h2
  injection he with e1 e2 e3
  subst e1 e2 e3
  exact ⟨_, _, c0, c1, f0, f1, h2⟩
/-- 32 bytes are copied to the head of an input of zeros. -/
theorem pad36_cells (x : List UInt8) (h : x.length ≤ 32) (r : List Value) : splice (Z32 ++ r) 0 (x.map u8v) = (pad32 x).map u8v ++ r := by
  have h1 := pad32_cells x h
  unfold splice at h1 ⊢
  simp only [List.take_zero, List.nil_append, Nat.zero_add, List.length_map] at h1 ⊢
  rw [List.drop_append_of_le_length (by unfold Z32; simp; omega), ← List.append_assoc, h1]
theorem iterS_bare (k : Nat) (s : St) {xs : List LIn} {s' : St} (h : iterS qIn k s = (xs, s')) : ∀ x ∈ xs, x.wit = [] := by
  have := iterS_all qIn_bare k s
  rw [h] at this
  exact fun x hx => (this x hx).1
section
variable {P : Program} {ops : Array Oper} {o : Oper} {a : Act} {w : World} {K : Act → World → Prop} {Q : Exit → Act → World → Prop} {F : Prop}
/-- copy(dst, src) at a step of a region that draws its order: only dst's block turns. -/
theorem step_copy_grown (hgd : o.guard = none) (d s : Operand) (dT sT : TypeId)
    (ho : o.op = .call { callee := .builtin .copy, args := #[d, s], argTypes := #[dT, sT] }) (elem : TypeId) (hu : P.underlying dT = some (.slice elem)) (hsz : (P.info? elem).map (·.size) = some 1)
    (dp sp : Option Addr) (dLen dCap sLen sCap : Nat) (hd : a.eval d = .slice dp dLen dCap) (hs : a.eval s = .slice sp sLen sCap)
    (g off : Nat) (cur : List Value) (t : TypeId) (hg : w.heap[g]? = some (.cells cur.toArray t (0, 0))) (cs : List Value) (hn : cs.length = Nat.min sLen dLen)
    (hpos : 0 < cs.length → dp = some ⟨g, off, none⟩ ∧ ∃ ad, sp = some ad ∧ ∀ j v, cs[j]? = some v → w.cell? (ad.add j) = some v)
    (hfit : off + cs.length ≤ cur.length) (h1 : ∀ v ∈ cs, v.oneCell' = true)
    (h : ∀ w', As (Box w' g (splice cur off cs).toArray t ∧ w.grownBy w' (some g)) → K (a.put o.dst (goInt cs.length)) w') :
    if Region.wanted o (yielded ops a.tmps) = true then Oper.wp P o a w K Q else F := by
  have hw : Region.wanted o (yielded ops a.tmps) = true := by simp [Region.wanted, hgd]
  rw [if_pos hw]
  by_cases h0 : cs.length = 0
  · obtain rfl : cs = [] := List.eq_nil_of_length_eq_zero h0
    have hrun := run_copy_none (P := P) w dT sT o.type elem dp sp dLen dCap sLen sCap hu hsz (by simpa using hn.symm)
    unfold Oper.wp
    simp [execOp, ho, resolve, invoke, builtin, hd, hs, hrun, Result.andThen]
    exact h w ⟨show w.heap[g]? = _ by simpa [splice] using hg, World.grownBy.refl w _⟩
  · obtain ⟨rfl, ad, rfl, hsrc⟩ := hpos (by omega)
    have hrun := run_copy_row (P := P) w dT sT o.type elem g off dLen dCap ad sLen sCap cur.toArray t cs hu hsz hg hn hsrc (by simpa using hfit) h1
    unfold Oper.wp
    simp [execOp, ho, resolve, invoke, builtin, hd, hs, hrun, Result.andThen]
    exact h _ ⟨show (World.setRow _ _ _).heap[g]? = _ by simpa [splice] using setRow_heap w g _ _ t _ hg, ⟨rfl, rfl, rfl, by simp [World.setRow], fun k hk hne => setRow_other w g k _ (fun e => hne (by rw [e]))⟩⟩
/-- string(b) at a step of such a region. -/
theorem step_str (hgd : Region.wanted o (yielded ops a.tmps) = true) (x : Operand) (src dst e : TypeId) (ho : o.op = .convert src dst x)
    (hs : P.underlying src = some (.slice e)) (he : P.underlying e = some (.int .u8)) (hd : P.underlying dst = some .string) (v : Value) (hx : a.eval x = v) (bs : List UInt8) (h : RdB w v bs)
    (hK : K (a.put o.dst (.string ⟨bs.toArray⟩)) w) : if Region.wanted o (yielded ops a.tmps) = true then Oper.wp P o a w K Q else F := by
  have hr := run_str (P := P) src dst e hs he hd h
  rw [if_pos hgd]
  unfold Oper.wp execOp
  simp only [ho, Sem.run_bind, hx, hr, Sem.run_pure, Result.andThen_ok]
  exact hK
end
/-- A cell that is set to what it is. -/
theorem setCell_self {w : World} {g c : Nat} {v : Value} (h : w.cell? ⟨g, c, none⟩ = some v) : w.setCell ⟨g, c, none⟩ v = w := by
  have e : (w.setCell ⟨g, c, none⟩ v).heap = w.heap := by
    apply Array.ext_getElem?
    intro k
    by_cases hk : g = k
    · subst hk
      rcases hb : w.heap[g]? with _ | o
      · simp [World.setCell, Array.getElem?_modify, hb]
      · simp only [World.cell?, hb] at h
        cases o with
        | cells cs t f =>
          simp only [World.setCell, Array.getElem?_modify, if_true, hb, Option.map_some]
          simp at h
          have : cs.setIfInBounds c v = cs := by
            apply Array.ext_getElem?
            intro j
            rw [Array.getElem?_setIfInBounds]
            split
            · rename_i hj
              subst hj
              obtain ⟨hlt, he⟩ := Array.getElem?_eq_some_iff.1 h
              rw [if_pos hlt]
              exact h.symm
            · rfl
          rw [this]
          simp
        | _ => simp [World.setCell, Array.getElem?_modify, hb]
    · simp [World.setCell, Array.getElem?_modify, hk]
  show ({ w with heap := (w.setCell ⟨g, c, none⟩ v).heap } : World) = w
  rw [e]
theorem setCell_twice (w : World) (g c : Nat) (v v' : Value) : (w.setCell ⟨g, c, none⟩ v).setCell ⟨g, c, none⟩ v' = w.setCell ⟨g, c, none⟩ v' := by
  have e : ((w.setCell ⟨g, c, none⟩ v).setCell ⟨g, c, none⟩ v').heap = (w.setCell ⟨g, c, none⟩ v').heap := by
    apply Array.ext_getElem?
    intro k
    by_cases hk : g = k
    · subst hk
      simp only [World.setCell, Array.getElem?_modify, if_true]
      rcases w.heap[g]? with _ | o
      · rfl
      · cases o <;> simp
    · simp [World.setCell, Array.getElem?_modify, hk]
  show ({ w with heap := ((w.setCell ⟨g, c, none⟩ v).setCell ⟨g, c, none⟩ v').heap } : World) = _
  rw [e]
  rfl
/-- What grows beside a cell grows beside it, whatever it is. -/
theorem grown_both {w w' : World} {g c B : Nat} (v : Value) (h : w.grownBy w' (some B)) (hne : g ≠ B) : (w.setCell ⟨g, c, none⟩ v).grownBy (w'.setCell ⟨g, c, none⟩ v) (some B) := by
  refine ⟨h.os, h.tape, h.output, by simpa [World.setCell] using h.size, fun k hk hkb => ?_⟩
  have hk' : k < w.heap.size := by simpa [World.setCell] using hk
  have hb := h.block k hk' hkb
  simp only [World.setCell, Array.getElem?_modify]
  rw [hb]
theorem grown_turn {w w' : World} {g c B : Nat} {v : Value} (v' : Value) (h : (w.setCell ⟨g, c, none⟩ v).grownBy w' (some B)) (hne : g ≠ B) : (w.setCell ⟨g, c, none⟩ v').grownBy (w'.setCell ⟨g, c, none⟩ v') (some B) := by
  have := grown_both (c := c) v' h hne
  rw [setCell_twice] at this
  exact this
/-- An input of one's own; where it has no witness its row is none. -/
def InN (base : Nat) (w : World) (own : Option Nat) (cs : List Value) (x : LIn) : Prop := InE base w own cs x ∧ (x.wit = [] → cs[35]? = some (.slice none 0 0))
theorem InN.rd (base : Nat) : ∀ w own cs x, InN base w own cs x → InC w cs x := fun w own cs x h => InE.rd base w own cs x h.1
theorem InN.read {base : Nat} {w w' : World} {B : Nat} (hB : B < base) (hg : w.grownBy w' (some B)) : ∀ own cs x, InN base w own cs x → InN base w' own cs x := fun own cs x h => ⟨InE.read hB hg own cs x h.1, h.2⟩
theorem InN.below {base : Nat} {w w' : World} (hb : Below w.heap.size w w') : ∀ own cs x, InN base w own cs x → InN base w' own cs x := fun own cs x h => ⟨InE.below hb own cs x h.1, h.2⟩
theorem InN.grow {base : Nat} {w w' : World} {own own' : Option Nat} (hg : w.grownBy w' own) (ht : own' = own ∨ ∃ k, own' = some k ∧ w.heap.size ≤ k) : ∀ cs x, InN base w own cs x → InN base w' own' cs x := fun cs x h => ⟨InE.grow hg ht cs x h.1, h.2⟩
theorem InN.mono {base base' : Nat} (hb : base' ≤ base) : ∀ w own cs x, InN base w own cs x → InE base' w own cs x := fun w own cs x h => InE.mono hb w own cs x h.1
theorem InN.setWit {base base' : Nat} {w : World} {g o : Nat} {wv : Value} {a : List (List UInt8)} {x : LIn} (ha : OwW w base' wv a) (hn : a = [] → wv = .slice none 0 0) (hb : base ≤ base') (hg : g < base') :
    ∀ cs : List Value, cs.length = 36 → InN base w (some g) cs x → InN base (w.setCell ⟨g, o, none⟩ wv) (some g) (cs.set 35 wv) { x with wit := a } := fun cs hcs h =>
  ⟨InE.setWit ha hb hg cs hcs h.1, fun e => by rw [List.getElem?_set_self (by omega)]; exact congrArg some (hn e)⟩
theorem InN.at {base : Nat} {w : World} {g o : Nat} {v : Value} : ∀ cs x, InN base w (some g) cs x → InN base (w.setCell ⟨g, o, none⟩ v) (some g) cs x :=
  fun cs x h => InN.grow (grown_set w g o v) (.inl rfl) cs x h
/-- The witness' cell of an input without one. -/
theorem OwG.noWit {base : Nat} {w : World} {A : Option Addr} {n c : Nat} {xs : List LIn} (h : OwG (InN base) 55 36 w base (.slice A n c) xs) (k : Nat) (x : LIn) (hk : xs[k]? = some x) (hx : x.wit = []) :
    ∃ g o, A = some ⟨g, o, none⟩ ∧ w.cell? ⟨g, o + k * 36 + 35, none⟩ = some (.slice none 0 0) ∧ w.frozen? ⟨g, o + k * 36 + 35, none⟩ = false ∧ base ≤ g ∧ g < w.heap.size := by
  obtain ⟨g, o, he, h1, h2, h3⟩ := OwG.block h k (List.getElem?_eq_some_iff.1 hk).1
  obtain ⟨g', o', cs, he', hl, hr, hg⟩ := RdL.at (R := fun w cs x => x.wit = [] → cs[35]? = some (.slice none 0 0)) (OwG.rd (fun w own cs x h => h.2) h) k x hk
  rw [he] at he'
  injection he' with he'
  injection he' with e1 e2
  subst e1 e2
  have hf := (h3 35 (by decide)).2
  rw [← Nat.add_assoc] at hf
  exact ⟨g, o, he, hg 35 _ (hr hx), hf, h1, h2⟩
theorem OwG.apartE {α : Type} {E : World → Option Nat → List Value → α → Prop} {e k : TypeId} {size : Nat} {w w' : World} {base : Nat} {v : Value} {ys : List α} {row : Option Nat} (hE : ∀ own cs y, E w own cs y → E w' own cs y) (h : OwG E e size w base v ys) (hg : w.grownBy w' row) (hk : Kd w row k) (hne : e ≠ k) : OwG E e size w' base v ys := by
  obtain ⟨us, h1, h2⟩ := h
  exact ⟨us, OwS.apartO h1 hg hk hne, fun i b hb => hE _ _ _ (h2 i b hb)⟩
theorem InN.apart {base : Nat} {w w' : World} {row : Option Nat} {k : TypeId} (hg : w.grownBy w' row) (hk : Kd w row k) (h1 : (24 : TypeId) ≠ k) (h2 : (5 : TypeId) ≠ k) : ∀ own cs x, InN base w own cs x → InN base w' own cs x := by
  rintro own cs x ⟨⟨sv, wv, rfl, g1, g2, ⟨us, g3, g4, g5⟩, g6⟩, g7⟩
  refine ⟨⟨sv, wv, rfl, g1, ⟨OwS.apartO g2.1 hg hk h2, g2.2⟩, ⟨us, OwS.apartO g3 hg hk h1, g4, fun i b hb => ?_⟩, g6⟩, g7⟩
  obtain ⟨u, q1, q2, q3⟩ := g5 i b hb
  exact ⟨u, q1, ⟨OwS.apartO q2.1 hg hk h2, q2.2⟩, q3⟩
theorem built55z : Try.prog.built 55 [] = some ((Z32 ++ [Value.int .u32 0, Value.slice none 0 0, Value.int .u32 0, Value.slice none 0 0] : List Value).toArray) := by
  obtain ⟨it, hi, hzz⟩ := Option.map_eq_some_iff.1 info55
  simp only [Prod.mk.injEq] at hzz
  rw [built_of Try.underlying55 hi hzz.1 (places := [(0, 32), (32, 1), (33, 1), (34, 1), (35, 1)]) (by kernel_rfl)]
  rfl
theorem qcount_top (l : List UInt8) (b : Bool) : (qcount 50 l b).1 ≤ 50 := by
  unfold qcount
  simp only
  split
  · simp
  · omega
end Go.Proofs.Ytfggkljgfadacaa.W
