/- What layer 8's laws use of layer 3's texts. -/
import Derived.Test.YtfggkljgfadacaaT25
import Derived.Laws.MakeOwn
set_option linter.unusedVariables false
set_option linter.unusedSimpArgs false
namespace Go.Proofs.Ytfggkljgfadacaa.W
open Go.RowKit Go.Proofs.Ytfggkljgfadacaa.B Go.Proofs
/-- A load of many cells, as an operation's run. -/
theorem exec_load_mid {P : Program} {ρ : Operand → Value} {op : Oper} {w : World} (ty : TypeId) (x : Operand) (ho : op.op = .load ty x) (b o : Nat) (hx : ρ x = .pointer (some ⟨b, o, none⟩)) (cs : List Value) (d : TypeDesc) (hc : w.rangeAt b o cs)
    (hu : P.underlying ty = some d) (hd : d.isRow = true) (hi : (P.info? ty).map (·.size) = some cs.length) : (execOp ρ op).run P w = .ok (.value (.agg cs.toArray)) w := by
  unfold execOp
  simp only [ho, hx, Instr.loadAt, Instr.sureAddr, Sem.run_bind, Sem.run_pure, Result.andThen_ok, run_loadVar_mid w b o ty cs d hc hu hd hi]
/-- A slice of bytes that may be written, in a block between two bounds, apart from the block 'own'. -/
def WrS (lo hi : Nat) (w : World) (own : Option Nat) (v : Value) : Prop :=
  ∃ A n c, v = .slice A n c ∧ n ≤ maxLen ∧ (n ≠ 0 → ∃ g o, A = some ⟨g, o, none⟩ ∧ lo ≤ g ∧ g < hi ∧ own ≠ some g ∧ ∀ j, j < n → (∃ b : UInt8, w.cell? ⟨g, o + j, none⟩ = some (u8v b)) ∧ w.frozen? ⟨g, o + j, none⟩ = false)
def RowE (lo hi : Nat) (w : World) (own : Option Nat) (cs : List Value) (x : LIn) : Prop := ∃ sv, cs[33]? = some sv ∧ WrS lo hi w own sv
theorem WrS.of {lo hi : Nat} {w : World} {own : Option Nat} {v : Value} {b : List UInt8} (h : El w lo own v b) (hh : w.heap.size ≤ hi) : WrS lo hi w own v := by
  obtain ⟨h1, h2⟩ := h
  have hl := h1.lt
  rcases h1.2 with ⟨rfl, h0⟩ | ⟨g, off, cap, cur, rfl, q1, q2, q3, q4, q5, q6⟩
  · exact ⟨none, 0, 0, rfl, by decide, fun h => absurd rfl h⟩
  · refine ⟨_, _, _, rfl, by omega, fun _ => ⟨g, off, rfl, q1, by have := (hl g rfl).2; omega, h2 g rfl, fun j hj => ⟨⟨b.getD j 0, ?_⟩, by simp [World.frozen?, q2]⟩⟩⟩
    have e : ((cur.toList.drop off).take (b.length * 1))[j]? = (b.map u8v)[j]? := by rw [q6]
    rw [List.getElem?_take_of_lt (by omega), List.getElem?_drop, List.getElem?_map, List.getElem?_eq_getElem hj] at e
    simp only [World.cell?, q2]
    rw [List.getD_eq_getElem?_getD, List.getElem?_eq_getElem hj]
    simpa using e
/-- A byte into any block. -/
theorem WrS.set {lo hi : Nat} {w : World} {own : Option Nat} {v : Value} (h : WrS lo hi w own v) (g o : Nat) (b : UInt8) (hc : (w.cell? ⟨g, o, none⟩).isSome = true) : WrS lo hi (w.setCell ⟨g, o, none⟩ (u8v b)) own v := by
  obtain ⟨A, n, c, rfl, hn, h1⟩ := h
  refine ⟨A, n, c, rfl, hn, fun h0 => ?_⟩
  obtain ⟨g', o', rfl, k1, k2, k3, k4⟩ := h1 h0
  refine ⟨g', o', rfl, k1, k2, k3, fun j hj => ?_⟩
  obtain ⟨⟨b', hb'⟩, hf⟩ := k4 j hj
  refine ⟨?_, by rw [World.frozen?_setCell]; exact hf⟩
  by_cases he : g' = g ∧ o' + j = o
  · obtain ⟨rfl, rfl⟩ := he
    exact ⟨b, World.cell?_setCell_same' _ _ _ hc⟩
  · refine ⟨b', ?_⟩
    rw [World.cell?_setCell_other]
    · exact hb'
    · intro e
      injection e with e1 e2
      exact he ⟨by first | exact e1 | exact e1.symm, by first | exact e2 | exact e2.symm⟩
theorem RowE.set {lo hi : Nat} {w : World} {own : Option Nat} (g o : Nat) (b : UInt8) (hc : (w.cell? ⟨g, o, none⟩).isSome = true) : ∀ cs x, RowE lo hi w own cs x → RowE lo hi (w.setCell ⟨g, o, none⟩ (u8v b)) own cs x := by
  rintro cs x ⟨sv, h1, h2⟩
  exact ⟨sv, h1, h2.set g o b hc⟩
theorem WrS.grown {lo hi : Nat} {w w' : World} {own row : Option Nat} {v : Value} (h : WrS lo hi w own v) (hg : w.grownBy w' row) (hf : ∀ g o, lo ≤ g → g < hi → w.frozen? ⟨g, o, none⟩ = false → w'.frozen? ⟨g, o, none⟩ = false) (hr : ∀ k, row = some k → k < lo) : WrS lo hi w' own v := by
  obtain ⟨A, n, c, rfl, hn, h1⟩ := h
  refine ⟨A, n, c, rfl, hn, fun h0 => ?_⟩
  obtain ⟨g, o, rfl, k1, k2, k3, k4⟩ := h1 h0
  refine ⟨g, o, rfl, k1, k2, k3, fun j hj => ?_⟩
  obtain ⟨⟨b, hb⟩, hfz⟩ := k4 j hj
  exact ⟨⟨b, hg.cell hb (fun e => by have := hr g e.symm; omega)⟩, hf _ _ k1 k2 hfz⟩
theorem frozen_grown {w w' : World} {row : Option Nat} (hg : w.grownBy w' row) {g o : Nat} (hlt : g < w.heap.size) (hr : row ≠ some g) (h : w.frozen? ⟨g, o, none⟩ = false) : w'.frozen? ⟨g, o, none⟩ = false := by
  unfold World.frozen? at *
  rw [hg.block g hlt (fun e => hr e.symm)]
  exact h
theorem RowE.grown {lo hi : Nat} {w w' : World} {row : Option Nat} (hg : w.grownBy w' row) (hh : hi ≤ w.heap.size) (hr : ∀ k, row = some k → k < lo) : ∀ own cs x, RowE lo hi w own cs x → RowE lo hi w' own cs x := by
  rintro own cs x ⟨sv, h1, h2⟩
  exact ⟨sv, h1, h2.grown hg (fun g o h1 h2 hf => frozen_grown hg (by omega) (fun e => by have := hr g e; omega) hf) hr⟩
theorem RowE.of {lo hi : Nat} {w : World} (hh : w.heap.size ≤ hi) : ∀ own cs x, InE lo w own cs x → RowE lo hi w own cs x := by
  rintro own cs x ⟨sv, wv, rfl, h1, h2, h3, h4⟩
  exact ⟨sv, by rw [List.getElem?_append_right (by rw [List.length_map]; omega), List.length_map, h1]; rfl, WrS.of h2 hh⟩
theorem RowE.at {lo hi : Nat} {w : World} {A : Option Addr} {n c : Nat} {ys : List LIn} (h : OwG (RowE lo hi) 55 36 w lo (.slice A n c) ys) (i : Nat) (hi' : i < ys.length) :
    ∃ g o A9 n9 c9, A = some ⟨g, o, none⟩ ∧ lo ≤ g ∧ w.cell? ⟨g, o + i * 36 + 33, none⟩ = some (.slice A9 n9 c9) ∧ WrS lo hi w (some g) (.slice A9 n9 c9) ∧ (n9 : Int) ≤ 9223372036854775807 := by
  obtain ⟨g, o, rfl, hg0, _, _⟩ := OwG.block h i hi'
  obtain ⟨zs, k1, k2⟩ := h
  obtain ⟨x, hx⟩ : ∃ x, ys[i]? = some x := ⟨_, List.getElem?_eq_getElem hi'⟩
  obtain ⟨sv, h33, hw⟩ := k2 i x hx
  have hw' := hw
  obtain ⟨A9, n9, c9, rfl, hn9, _⟩ := hw
  refine ⟨g, o, A9, n9, c9, rfl, hg0, ?_, hw', by unfold maxLen at hn9; omega⟩
  obtain ⟨_, A', c', he, _, _, _, hc⟩ := k1.rd
  injection he with he1 he2 he3
  subst he1
  rw [List.getElem?_take_of_lt (by omega), List.getElem?_drop] at h33
  have := hc _ rfl _ _ h33
  rw [Addr.add_mid] at this
  rw [Nat.add_assoc]
  exact this
theorem txOf_ins (n m : Int) : 1 ≤ (txOf n m).ins.length ∧ (txOf n m).ins.length ≤ 4 := by
  show 1 ≤ ((List.range (n / 256 % 4 + 1).toNat).map (inOf m)).length ∧ ((List.range (n / 256 % 4 + 1).toNat).map (inOf m)).length ≤ 4
  rw [List.length_map, List.length_range]; omega
/-- One cell of one input turned. -/
theorem OwTx.setIn {w : World} {base g o n cI : Nat} {v0 ov v3 : Value} {t : LTx} (h : OwTx w base [v0, .slice (some ⟨g, o, none⟩) n cI, ov, v3] t) (k : Nat) (x x' : LIn) (hk : t.ins[k]? = some x) (j : Nat) (hj : j < 36) (u : Value)
    (hy : ∀ cs : List Value, cs.length = 36 → InE base w (some g) cs x → InE base (w.setCell ⟨g, o + k * 36 + j, none⟩ u) (some g) (cs.set j u) x') : OwTx (w.setCell ⟨g, o + k * 36 + j, none⟩ u) base [v0, .slice (some ⟨g, o, none⟩) n cI, ov, v3] { t with ins := t.ins.set k x' } := by
  obtain ⟨iv, ov', mid, he, h1, h2, h3, h4, h5, h6⟩ := h
  injection he with e0 he
  injection he with e1 he
  injection he with e2 he
  injection he with e3 _
  subst e0 e1 e2 e3
  have gset := grown_set w g (o + k * 36 + j) u
  have hg := h4 g rfl
  refine ⟨_, _, mid, rfl, ?_, OwG.kept (row := some g) (fun cs y => OutE.kept gset (fun d hd => by injection hd with hd; omega) _ cs y) h2 gset (fun d hd e => by injection e with e; have := (OwG.lt h2 d hd).1; omega), h3, h4, h5, h6⟩
  have hq := OwG.set h1 k x x' hk j hj u
  rw [← Nat.add_assoc] at hq
  exact hq hy InE.at
theorem baseT_length {t : LTx} (h : mayT t) (hf : fitT t) : (baseT t).length ≤ 100000 := by
  unfold baseT baseB
  rw [if_pos h]
  have := bodyB_length t h (fun x hx => (hf.2.2.1 x hx).1)
  simp only [List.length_append, le_length]
  omega
/-- Blocks of other kinds are other blocks. -/
theorem OwS.apart {w w' : World} {base : Nat} {e e' : TypeId} {size g : Nat} {v : Value} {n : Nat} {xs : List Value} {cur : Array Value} {fr : Nat × Nat} (h : OwS w base e size v n xs) (hg : w.grownBy w' (some g)) (hc : w.heap[g]? = some (.cells cur e' fr)) (hne : e ≠ e') : OwS w' base e size v n xs := by
  refine h.kept hg ?_
  rcases h.2 with ⟨rfl, _⟩ | ⟨g', off, cap, cur', rfl, _, h3, _⟩
  · exact .inl rfl
  · refine .inr (fun e2 => ?_)
    injection e2 with e2
    have e3 : g' = g := e2
    rw [e3, hc] at h3
    injection h3 with h3
    injection h3 with _ h3 _
    exact hne h3.symm
theorem Box.apart {w w' : World} {B g : Nat} {cs : Array Value} {t e' : TypeId} {cur : Array Value} {fr : Nat × Nat} (h : Box w B cs t) (hg : w.grownBy w' (some g)) (hc : w.heap[g]? = some (.cells cur e' fr)) (hne : t ≠ e') : Box w' B cs t := by
  refine h.grown hg (fun e => ?_)
  injection e with e
  have h' : w.heap[B]? = some (.cells cs t (0, 0)) := h
  rw [← e, hc] at h'
  injection h' with h'
  injection h' with _ h' _
  exact hne h'.symm
theorem OwS.kind {w : World} {base : Nat} {e : TypeId} {size : Nat} {v : Value} {n : Nat} {xs : List Value} (h : OwS w base e size v n xs) (g : Nat) (hg : v.ownBlock = some g) : ∃ cur, w.heap[g]? = some (.cells cur e (0, 0)) := by
  rcases h.2 with ⟨rfl, _⟩ | ⟨g', off, cap, cur', rfl, _, h3, _⟩
  · simp [Value.ownBlock] at hg
  · simp [Value.ownBlock] at hg
    subst hg
    exact ⟨_, h3⟩
/-- An input's cells: its number, its script, its witness. -/
def cellI (y : Nat × Value × Value) : List Value := Z32 ++ [Value.int .u32 (y.1 : Int), y.2.1, Value.int .u32 0, y.2.2]
def EI (w : World) (own : Option Nat) (cs : List Value) (y : Nat × Value × Value) : Prop := cs = cellI y
def EO (w : World) (own : Option Nat) (cs : List Value) (s : Value) : Prop := cs = [Value.int .u64 0, s]
theorem built55c (a : Int) : Try.prog.built 55 [(1, .int .u32 a)] = some ((Z32 ++ [Value.int .u32 a, Value.slice none 0 0, Value.int .u32 0, Value.slice none 0 0] : List Value).toArray) := by
  obtain ⟨it, hi, hzz⟩ := Option.map_eq_some_iff.1 info55
  simp only [Prod.mk.injEq] at hzz
  rw [built_of Try.underlying55 hi hzz.1 (places := [(0, 32), (32, 1), (33, 1), (34, 1), (35, 1)]) (by kernel_rfl)]
  have hz32 : Z32.length = 32 := rfl
  have h1 := fill_step (([(0, 32), (32, 1), (33, 1), (34, 1), (35, 1)] : List (Nat × Nat)).toArray[·]?) 1 32 [Value.int .u32 a] (.int .u32 a) rfl rfl Z32 [Value.int .u32 0] [Value.slice none 0 0, Value.int .u32 0, Value.slice none 0 0] hz32 rfl []
  simp only [List.append_assoc, List.singleton_append, List.cons_append, List.nil_append] at h1
  exact h1.trans rfl
def zB (n : Nat) : List UInt8 := List.replicate n 0
/-- What turns is a block of kind k, or none. -/
def Kd (w : World) (row : Option Nat) (k : TypeId) : Prop := ∀ g, row = some g → ∃ cur, w.heap[g]? = some (.cells cur k (0, 0))
theorem OwS.apartO {w w' : World} {base : Nat} {e k : TypeId} {size : Nat} {v : Value} {n : Nat} {xs : List Value} {row : Option Nat} (h : OwS w base e size v n xs) (hg : w.grownBy w' row) (hk : Kd w row k) (hne : e ≠ k) : OwS w' base e size v n xs := by
  rcases row with _ | g
  · exact h.kept hg (by cases v.ownBlock <;> simp)
  · obtain ⟨cur, hc⟩ := hk g rfl
    exact OwS.apart h hg hc hne
theorem Box.apartO {w w' : World} {B : Nat} {cs : Array Value} {t k : TypeId} {row : Option Nat} (h : Box w B cs t) (hg : w.grownBy w' row) (hk : Kd w row k) (hne : t ≠ k) : Box w' B cs t := by
  rcases row with _ | g
  · exact h.grown hg (by simp)
  · obtain ⟨cur, hc⟩ := hk g rfl
    exact h.apart hg hc hne
theorem OwG.apartO {α : Type} {E : World → Option Nat → List Value → α → Prop} (hE : ∀ w w' own cs y, E w own cs y → E w' own cs y) {e k : TypeId} {size : Nat} {w w' : World} {base : Nat} {v : Value} {ys : List α} {row : Option Nat} (h : OwG E e size w base v ys) (hg : w.grownBy w' row) (hk : Kd w row k) (hne : e ≠ k) : OwG E e size w' base v ys := by
  obtain ⟨us, h1, h2⟩ := h
  exact ⟨us, OwS.apartO h1 hg hk hne, fun i b hb => hE _ _ _ _ _ (h2 i b hb)⟩
theorem OwG.kd {α : Type} {E : World → Option Nat → List Value → α → Prop} {e : TypeId} {size : Nat} {w : World} {base : Nat} {v : Value} {ys : List α} (h : OwG E e size w base v ys) : Kd w v.ownBlock e := by
  obtain ⟨us, h1, _⟩ := h
  exact fun g hg => OwS.kind h1 g hg
theorem Box.kd {w : World} {B : Nat} {cs : Array Value} {t : TypeId} (h : Box w B cs t) : Kd w (some B) t := fun g hg => by injection hg with hg; subst hg; exact ⟨cs, h⟩
theorem EI.any : ∀ (w w' : World) own cs y, EI w own cs y → EI w' own cs y := fun _ _ _ _ _ h => h
theorem EO.any : ∀ (w w' : World) own cs y, EO w own cs y → EO w' own cs y := fun _ _ _ _ _ h => h
def BSt (w W : World) (G : Nat) (iv ov : Value) (ys : List (Nat × Value × Value)) (zs : List Value) : Prop :=
  Below w.heap.size w W ∧ Box W G #[.int .u32 2, iv, ov, .int .u32 0] 51 ∧ OwG EI 55 36 W w.heap.size iv ys ∧ OwG EO 57 2 W w.heap.size ov zs ∧ w.heap.size ≤ G
section
variable {w W W' : World} {G : Nat} {iv ov : Value} {ys ys' : List (Nat × Value × Value)} {zs zs' : List Value}
theorem BSt.below (h : BSt w W G iv ov ys zs) (hb : Below W.heap.size W W') : BSt w W' G iv ov ys zs := by
  obtain ⟨h1, h2, h3, h4, h5⟩ := h
  exact ⟨h1.trans (hb.mono h1.size), h2.below hb, OwG.same (EI.any W W') h3 hb, OwG.same (EO.any W W') h4 hb, h5⟩
theorem BSt.ins (h : BSt w W G iv ov ys zs) : OwG EI 55 36 W w.heap.size iv ys := h.2.2.1
theorem BSt.outs (h : BSt w W G iv ov ys zs) : OwG EO 57 2 W w.heap.size ov zs := h.2.2.2.1
theorem BSt.size (h : BSt w W G iv ov ys zs) : w.heap.size ≤ W.heap.size := h.1.size
theorem BSt.bel (h : BSt w W G iv ov ys zs) : Below w.heap.size w W := h.1
theorem BSt.four (h : BSt w W G iv ov ys zs) : W.cell? ⟨G, 0, none⟩ = some (.int .u32 2) ∧ W.cell? ⟨G, 1, none⟩ = some iv ∧ W.cell? ⟨G, 2, none⟩ = some ov ∧ W.cell? ⟨G, 3, none⟩ = some (.int .u32 0) ∧ (∀ j, W.frozen? ⟨G, j, none⟩ = false) := Box.four h.2.1
/-- Behind a growth of the inputs' row. -/
theorem BSt.grownI (h : BSt w W G iv ov ys zs) (hg : W.grownBy W' iv.ownBlock) : Below w.heap.size w W' ∧ Box W' G #[.int .u32 2, iv, ov, .int .u32 0] 51 ∧ OwG EO 57 2 W' w.heap.size ov zs := by
  obtain ⟨h1, h2, h3, h4, h5⟩ := h
  exact ⟨h1.grown hg h1.size (fun k hk => (OwG.lt h3 k hk).1), h2.apartO hg h3.kd (by decide), OwG.apartO EO.any h4 hg h3.kd (by decide)⟩
theorem BSt.grownO (h : BSt w W G iv ov ys zs) (hg : W.grownBy W' ov.ownBlock) : Below w.heap.size w W' ∧ Box W' G #[.int .u32 2, iv, ov, .int .u32 0] 51 ∧ OwG EI 55 36 W' w.heap.size iv ys := by
  obtain ⟨h1, h2, h3, h4, h5⟩ := h
  exact ⟨h1.grown hg h1.size (fun k hk => (OwG.lt h4 k hk).1), h2.apartO hg h4.kd (by decide), OwG.apartO EI.any h3 hg h4.kd (by decide)⟩
/-- The inputs' row anew into the transaction. -/
theorem BSt.putI (h : BSt w W G iv ov ys zs) (hg : W.grownBy W' iv.ownBlock) {v : Value} (ho : OwG EI 55 36 W' w.heap.size v ys') : BSt w (W'.setCell ⟨G, 1, none⟩ v) G v ov ys' zs := by
  have h5 := h.2.2.2.2
  obtain ⟨g1, g2, g3⟩ := h.grownI hg
  have gset := grown_set W' G 1 v
  exact ⟨g1.setCell h5 _, Box.set (cs := [_, _, _, _]) g2 1 v, OwG.apartO EI.any ho gset g2.kd (by decide), OwG.apartO EO.any g3 gset g2.kd (by decide), h5⟩
theorem BSt.putO (h : BSt w W G iv ov ys zs) (hg : W.grownBy W' ov.ownBlock) {v : Value} (ho : OwG EO 57 2 W' w.heap.size v zs') : BSt w (W'.setCell ⟨G, 2, none⟩ v) G iv v ys zs' := by
  have h5 := h.2.2.2.2
  obtain ⟨g1, g2, g3⟩ := h.grownO hg
  have gset := grown_set W' G 2 v
  exact ⟨g1.setCell h5 _, Box.set (cs := [_, _, _, _]) g2 2 v, OwG.apartO EI.any g3 gset g2.kd (by decide), OwG.apartO EO.any ho gset g2.kd (by decide), h5⟩
end
/-- append(v, x) of one row of bytes to a row of such, at a step of a region that draws its order. -/
theorem step_appW {ops : Array Oper} {o : Oper} {a : Act} {w : World} {K : Act → World → Prop} {Q : Exit → Act → World → Prop} {F : Prop} (base : Nat) (hgd : o.guard = none) (s x : Operand)
    (ho : o.op = .call { callee := .builtin .append, args := #[s, x], argTypes := #[43, 43] })
    (v : Value) (hs : a.eval s = v) (g : Nat) (hx : a.eval x = .slice (some ⟨g, 0, none⟩) 1 1) (u : Value) (hbox : Box w g #[u] 24) (h1 : u.oneCell' = true)
    (ws : List (List UInt8)) (b : List UInt8) (hown : OwW w base v ws) (hu : El w base v.ownBlock u b) (hlen : ws.length ≤ 1000000) (hbase : base ≤ w.heap.size)
    (h : ∀ (v' : Value) (w' : World), OwW w' base v' (ws ++ [b]) → w.grownBy w' v.ownBlock → K (a.put o.dst v') w') :
    if Region.wanted o (yielded ops a.tmps) = true then Oper.wp Try.prog o a w K Q else F := by
  obtain ⟨us, k1, k2⟩ := hown
  obtain ⟨i, hi, hzz⟩ := Option.map_eq_some_iff.1 info24
  simp only [Prod.mk.injEq] at hzz
  obtain ⟨hz0, hz1, hz2⟩ := hzz
  have hrd : RdS w 1 (.slice (some ⟨g, 0, none⟩) 1 1) 1 [u] := by
    refine ⟨rfl, some ⟨g, 0, none⟩, 1, rfl, Nat.le_refl _, by decide, (fun h => by cases h), ?_⟩
    rintro ad had j u' hu'
    obtain rfl := Option.some.inj had
    have := Box.cell hbox j u' (by simpa using hu')
    rw [Addr.add_mid]
    simpa using this
  obtain ⟨v', w', hr, h2, h3, h4⟩ := run_app (P := Try.prog) w base 43 o.type 24 i (.slice none 0 0) 1 24 Try.underlying43 hi hz0 hz1 hz2 rfl (by decide) v ws.length us k1 _ 1 [u] hrd (by intro y hy; simp at hy; subst hy; exact h1) (by unfold maxLen; omega) (by omega) hbase
  have hw : Region.wanted o (yielded ops a.tmps) = true := by simp [Region.wanted, hgd]
  rw [if_pos hw]
  unfold Oper.wp execOp
  simp only [ho, resolve, invoke, builtin, Sem.run_bind, Sem.run_pure, Result.andThen_ok, List.map_toArray, List.map_cons, List.map_nil, hs, hx, hr]
  exact h v' w' (OwW.app us k1 k2 hu h2 h3 h4) h3
theorem OwW.apartO {w w' : World} {base : Nat} {k : TypeId} {v : Value} {ws : List (List UInt8)} {row : Option Nat} (h : OwW w base v ws) (hg : w.grownBy w' row) (hk : Kd w row k) (h1 : (24 : TypeId) ≠ k) (h2 : (5 : TypeId) ≠ k) : OwW w' base v ws := by
  obtain ⟨us, k1, k2⟩ := h
  refine ⟨us, OwS.apartO k1 hg hk h1, fun i b hb => ?_⟩
  obtain ⟨u, q1, q2, q3⟩ := k2 i b hb
  exact ⟨u, q1, OwS.apartO q2 hg hk h2, q3⟩
theorem OwW.kd {w : World} {base : Nat} {v : Value} {ws : List (List UInt8)} (h : OwW w base v ws) : Kd w v.ownBlock 24 := by
  obtain ⟨us, h1, _⟩ := h
  exact fun g hg => OwS.kind h1 g hg
theorem OwW.below {w w' : World} {base : Nat} {v : Value} {ws : List (List UInt8)} (h : OwW w base v ws) (hb : Below w.heap.size w w') : OwW w' base v ws := by
  obtain ⟨us, k1, k2⟩ := h
  refine ⟨us, k1.below hb, fun i b hbb => ?_⟩
  obtain ⟨u, q1, q2⟩ := k2 i b hbb
  exact ⟨u, q1, q2.below hb⟩
theorem BSt.apartO {w W W' : World} {G : Nat} {iv ov : Value} {ys : List (Nat × Value × Value)} {zs : List Value} {row : Option Nat} {k : TypeId} (h : BSt w W G iv ov ys zs) (hg : W.grownBy W' row) (hk : Kd W row k) (hr : ∀ j, row = some j → w.heap.size ≤ j) (h1 : (51 : TypeId) ≠ k) (h2 : (55 : TypeId) ≠ k) (h3 : (57 : TypeId) ≠ k) : BSt w W' G iv ov ys zs := by
  obtain ⟨g1, g2, g3, g4, g5⟩ := h
  exact ⟨g1.grown hg g1.size hr, g2.apartO hg hk h1, OwG.apartO EI.any g3 hg hk h2, OwG.apartO EO.any g4 hg hk h3, g5⟩
/-- So many zeros. -/
def zV (n : Nat) : Array Value := ((zB n).map u8v).toArray
theorem run_make24 (n : Nat) (hn : n ≤ 100000) (W : World) : (Instr.makeSlice 24 (.int .i64 (n : Int)) (.int .i64 (n : Int))).run Try.prog W = .ok (.slice (some ⟨W.heap.size, 0, none⟩) n n) (W.alloc (.cells (zV n) 5)) := by
  obtain ⟨i, hi, hzz⟩ := Option.map_eq_some_iff.1 info5
  simp only [Prod.mk.injEq] at hzz
  obtain ⟨hz0, hz1, hz2⟩ := hzz
  have h := run_make (P := Try.prog) W 24 5 i (.int .u8 0) Try.underlying24 hi hz0 .i64 .i64 (n : Int) (n : Int) (by omega) (by omega) (by rw [hz2]; omega) (by omega)
  rw [h]
  have e : madeCells (Value.int .u8 0).cells ((n : Int).toNat * i.size) = zV n := by
    rw [hz1]
    apply Array.ext
    · rw [size_madeCells]; simp [zV, zB]
    · intro j h1 h2
      simp [madeCells, zV, zB, Value.cells, u8v, Nat.mod_one]
  rw [e]
  simp
theorem zV_own (n : Nat) (hn : n ≤ 100000) (W : World) : OwB (W.alloc (.cells (zV n) 5)) W.heap.size 5 (.slice (some ⟨W.heap.size, 0, none⟩) n n) (zB n) :=
  owB_lit W n (zV n) (zB n) (by simp [zV]) (by simp [zB]) (by unfold maxLen; omega)
theorem mask_nat (a : Int) (k : Nat) (m : Int) (h : (BitVec.ofInt 64 m).toNat = 2 ^ k - 1) (hk : k ≤ 10) : ∃ N : Nat, bits .and .i64 a m = (N : Int) ∧ N < 2 ^ k := by
  rw [i64_mask a m k h (by omega)]
  have hp : (0 : Int) < 2 ^ k := Int.pow_pos (by decide)
  have h0 := Int.emod_nonneg a (show (2 : Int) ^ k ≠ 0 by omega)
  have h1 := Int.emod_lt_of_pos a hp
  refine ⟨(a % 2 ^ k).toNat, by omega, ?_⟩
  have : (((2 : Nat) ^ k : Nat) : Int) = 2 ^ k := by simp
  omega
theorem late_cut {T G : Prop} (tail : T) (main : As T → G) : G := main ⟨tail⟩
theorem slice_same {g g' o o' : Nat} (h : (some ⟨g, o, none⟩ : Option Addr) = some ⟨g', o', none⟩) : g = g' ∧ o = o' := by
  injection h with h
  injection h with h1 h2
  exact ⟨h1, h2⟩
/-- Where an input's witness row lies: the first's ahead of b1, the others' from b1 on. -/
def E01 (b1 : Nat) (cs : List Value) (x : LIn) : Prop := ∀ v k, cs[35]? = some v → v.ownBlock = some k → (x.prev[31]? = some 0 → k < b1) ∧ (x.prev[31]? ≠ some 0 → b1 ≤ k)
def InB (base b1 : Nat) (w : World) (own : Option Nat) (cs : List Value) (x : LIn) : Prop := InE base w own cs x ∧ E01 b1 cs x
theorem InB.below {base b1 : Nat} {w w' : World} (hb : Below w.heap.size w w') : ∀ own cs x, InB base b1 w own cs x → InB base b1 w' own cs x := fun own cs x h => ⟨InE.below hb own cs x h.1, h.2⟩
theorem InB.read {base b1 : Nat} {w w' : World} {B : Nat} (hB : B < base) (hg : w.grownBy w' (some B)) : ∀ own cs x, InB base b1 w own cs x → InB base b1 w' own cs x := fun own cs x h => ⟨InE.read hB hg own cs x h.1, h.2⟩
theorem InB.grow {base b1 : Nat} {w w' : World} {own own' : Option Nat} (hg : w.grownBy w' own) (ht : own' = own ∨ ∃ k, own' = some k ∧ w.heap.size ≤ k) : ∀ cs x, InB base b1 w own cs x → InB base b1 w' own' cs x := fun cs x h => ⟨InE.grow hg ht cs x h.1, h.2⟩
theorem InB.mono {base base' b1 : Nat} (hb : base' ≤ base) : ∀ w own cs x, InB base b1 w own cs x → InB base' b1 w own cs x := fun w own cs x h => ⟨InE.mono hb w own cs x h.1, h.2⟩
theorem OwG.inE {base b1 : Nat} {w : World} {v : Value} {xs : List LIn} (h : OwG (InB base b1) 55 36 w base v xs) : OwG (InE base) 55 36 w base v xs := by
  obtain ⟨us, h1, h2⟩ := h
  exact ⟨us, h1, fun i b hb => (h2 i b hb).1⟩
/-- Where an output's script lies: the first's ahead of b2, the others' from b2 on. -/
def OutB (mid b2 : Nat) (w : World) (own : Option Nat) (cs : List Value) (y : Nat × LOut) : Prop := OutE mid w own cs y.2 ∧ ∀ v k, cs[1]? = some v → v.ownBlock = some k → (y.1 = 0 → k < b2) ∧ (y.1 ≠ 0 → b2 ≤ k)
theorem OutB.below {mid b2 : Nat} {w w' : World} (hb : Below w.heap.size w w') : ∀ own cs y, OutB mid b2 w own cs y → OutB mid b2 w' own cs y := fun own cs y h => ⟨OutE.below hb own cs y.2 h.1, h.2⟩
theorem OutB.read {mid b2 : Nat} {w w' : World} {B : Nat} (hB : B < mid) (hg : w.grownBy w' (some B)) : ∀ own cs y, OutB mid b2 w own cs y → OutB mid b2 w' own cs y := fun own cs y h => ⟨OutE.read hB hg own cs y.2 h.1, h.2⟩
theorem OutB.grow {mid b2 : Nat} {w w' : World} {own own' : Option Nat} (hg : w.grownBy w' own) (ht : own' = own ∨ ∃ k, own' = some k ∧ w.heap.size ≤ k) : ∀ cs y, OutB mid b2 w own cs y → OutB mid b2 w' own' cs y := fun cs y h => ⟨OutE.grow hg ht cs y.2 h.1, h.2⟩
theorem OwG.outE {mid b2 : Nat} {w : World} {v : Value} {zs : List (Nat × LOut)} (h : OwG (OutB mid b2) 57 2 w mid v zs) : OwG (OutE mid) 57 2 w mid v (zs.map Prod.snd) := by
  obtain ⟨us, h1, h2⟩ := h
  refine ⟨us, by rw [List.length_map]; exact h1, fun i b hb => ?_⟩
  rw [List.getElem?_map] at hb
  obtain ⟨z, hz, rfl⟩ := Option.map_eq_some_iff.1 hb
  exact (h2 i z hz).1
def TP (b2 : Nat) (w0 W : World) (G V L : Nat) (iv ov : Value) (mid : Nat) (ys : List (Nat × LOut)) : Prop :=
  w0.grownBy W (some G) ∧ Box W G #[.int .u32 (V : Int), iv, ov, .int .u32 (L : Int)] 51 ∧ OwG (OutB mid b2) 57 2 W mid ov ys ∧ G + 1 ≤ mid ∧ mid = w0.heap.size
theorem TP.cells {b2 : Nat} {w0 W : World} {G V L : Nat} {iv ov : Value} {mid : Nat} {ys : List (Nat × LOut)} (h : TP b2 w0 W G V L iv ov mid ys) : W.cell? ⟨G, 2, none⟩ = some ov ∧ W.frozen? ⟨G, 2, none⟩ = false := ⟨h.2.1.cell 2 _ rfl, h.2.1.frozen 2⟩
theorem TP.size {b2 : Nat} {w0 W : World} {G V L : Nat} {iv ov : Value} {mid : Nat} {ys : List (Nat × LOut)} (h : TP b2 w0 W G V L iv ov mid ys) : mid ≤ W.heap.size := by rw [h.2.2.2.2]; exact h.1.size
theorem TP.below {b2 : Nat} {w0 W W' : World} {G V L : Nat} {iv ov : Value} {mid : Nat} {ys : List (Nat × LOut)} (h : TP b2 w0 W G V L iv ov mid ys) (hb : Below W.heap.size W W') : TP b2 w0 W' G V L iv ov mid ys := by
  obtain ⟨h1, h2, h3, h4⟩ := h
  exact ⟨grown_far h1 (grown_none hb) (fun k hk => by cases hk), h2.below hb, OwG.same (OutB.below hb) h3 hb, h4⟩
theorem TP.any {b2 b3 : Nat} {w0 W : World} {G V L : Nat} {iv ov : Value} {mid : Nat} {ys : List (Nat × LOut)} (h : TP b2 w0 W G V L iv ov mid ys) (hx : ys = []) : TP b3 w0 W G V L iv ov mid ys := by
  obtain ⟨h1, h2, ⟨us, h5, h6⟩, h4⟩ := h
  refine ⟨h1, h2, ⟨us, h5, fun i y hy => ?_⟩, h4⟩
  rw [hx] at hy
  simp at hy
/-- A transaction of one's own, all of its inputs ahead of its outputs, the first input's witness ahead of the others'. -/
def OwT3 (w : World) (base : Nat) (cs : List Value) (t : LTx) : Prop :=
  ∃ iv ov mid b1, cs = [.int .u32 (t.ver : Int), iv, ov, .int .u32 (t.lock : Int)] ∧ OwG (InB base b1) 55 36 w base iv t.ins ∧ (∃ b2 zs, zs.map Prod.snd = t.outs ∧ (∀ (i : Nat) (z : Nat × LOut), zs[i]? = some z → z.1 = i) ∧ OwG (OutB mid b2) 57 2 w mid ov zs) ∧ base ≤ mid ∧ mid ≤ w.heap.size ∧ (∀ k, iv.ownBlock = some k → k < mid) ∧ t.ver < 4294967296 ∧ t.lock < 4294967296 ∧
    ∀ w', Agr base mid w w' → OwG (InB base b1) 55 36 w' base iv t.ins
theorem OwT3.own {w : World} {base : Nat} {cs : List Value} {t : LTx} (h : OwT3 w base cs t) : OwTx w base cs t := by
  obtain ⟨iv, ov, mid, b1, h1, h2, ⟨b2, zs, hz, _, h3⟩, h4, _, h5, h6, h7, _⟩ := h
  exact ⟨iv, ov, mid, h1, OwG.inE h2, by rw [← hz]; exact OwG.outE h3, h4, h5, h6, h7⟩
def TJ (b1 : Nat) (w W : World) (G V L : Nat) (iv : Value) (xs : List LIn) : Prop :=
  Below w.heap.size w W ∧ Box W w.heap.size zTx 51 ∧ Box W G #[.int .u32 (V : Int), iv, .slice none 0 0, .int .u32 (L : Int)] 51 ∧ G = w.heap.size + 1 ∧ OwG (InB (G + 1) b1) 55 36 W (G + 1) iv xs
theorem TJ.below {b1 : Nat} {w W W' : World} {G V L : Nat} {iv : Value} {xs : List LIn} (h : TJ b1 w W G V L iv xs) (hb : Below W.heap.size W W') : TJ b1 w W' G V L iv xs := by
  obtain ⟨h1, h2, h3, h4, h5⟩ := h
  exact ⟨h1.trans (hb.mono h1.size), h2.below hb, h3.below hb, h4, OwG.same (InB.below hb) h5 hb⟩
theorem TJ.lt {b1 : Nat} {w W : World} {G V L : Nat} {iv : Value} {xs : List LIn} (h : TJ b1 w W G V L iv xs) : G < W.heap.size := h.2.2.1.lt
theorem TJ.cells {b1 : Nat} {w W : World} {G V L : Nat} {iv : Value} {xs : List LIn} (h : TJ b1 w W G V L iv xs) : W.cell? ⟨G, 1, none⟩ = some iv ∧ W.frozen? ⟨G, 1, none⟩ = false := ⟨h.2.2.1.cell 1 _ rfl, h.2.2.1.frozen 1⟩
/-- With no input yet, b1 is as one likes. -/
theorem TJ.any {b1 b2 : Nat} {w W : World} {G V L : Nat} {iv : Value} {xs : List LIn} (h : TJ b1 w W G V L iv xs) (hx : xs = []) : TJ b2 w W G V L iv xs := by
  obtain ⟨h1, h2, h3, h4, us, h5, h6⟩ := h
  refine ⟨h1, h2, h3, h4, us, h5, fun i y hy => ?_⟩
  rw [hx] at hy
  simp at hy
/-- One cell of one element turned, and what else was turned ahead of it. -/
theorem OwG.setK {α : Type} {E : List Value → α → Prop} {E' : World → Option Nat → List Value → α → Prop} {e : TypeId} {size : Nat} {w : World} {base g o n c : Nat} {ys : List α} {zs : List Value}
    (h1 : OwS w base e size (.slice (some ⟨g, o, none⟩) n c) ys.length zs) (h2 : ∀ (i : Nat) (y : α), ys[i]? = some y → E ((zs.drop (i * size)).take size) y)
    (k : Nat) (y y' : α) (hk : ys[k]? = some y) (j : Nat) (hj : j < size) (u : Value)
    (hy : ∀ cs : List Value, cs.length = size → E cs y → E' (w.setCell ⟨g, o + (k * size + j), none⟩ u) (some g) (cs.set j u) y')
    (hE : ∀ i cs x, i ≠ k → ys[i]? = some x → E cs x → E' (w.setCell ⟨g, o + (k * size + j), none⟩ u) (some g) cs x) :
    OwG E' e size (w.setCell ⟨g, o + (k * size + j), none⟩ u) base (.slice (some ⟨g, o, none⟩) n c) (ys.set k y') := by
  have hlt : k < ys.length := (List.getElem?_eq_some_iff.1 hk).1
  obtain rfl : n = ys.length := by
    rcases h1.2 with ⟨q, _⟩ | ⟨g', off, cap, cur, q, _⟩
    · cases q
    · injection q
  have hz := h1.1
  have hin : k * size + j < ys.length * size := by
    have : k * size + size ≤ ys.length * size := by rw [← Nat.succ_mul]; exact Nat.mul_le_mul_right _ hlt
    omega
  refine ⟨zs.set (k * size + j) u, ?_, fun i x hx => ?_⟩
  · rw [List.length_set]
    exact OwS.setN h1 _ hin u
  · have hown : (Value.slice (some ⟨g, o, none⟩) ys.length c).ownBlock = some g := rfl
    rw [hown]
    by_cases hik : i = k
    · subst hik
      rw [List.getElem?_set_self hlt] at hx
      obtain rfl := Option.some.inj hx
      have e1 : ((zs.set (i * size + j) u).drop (i * size)).take size = ((zs.drop (i * size)).take size).set j u := by
        rw [List.drop_set, if_neg (by omega), show i * size + j - i * size = j by omega, List.take_set]
      rw [e1]
      exact hy _ (part_length hz hlt) (h2 i y hk)
    · rw [List.getElem?_set_ne (fun q => hik q.symm)] at hx
      have e1 : ((zs.set (k * size + j) u).drop (i * size)).take size = (zs.drop (i * size)).take size := by
        apply List.ext_getElem?
        intro q
        simp only [List.getElem?_take, List.getElem?_drop]
        by_cases hq : q < size
        · rw [if_pos hq, if_pos hq, List.getElem?_set_ne]
          intro q2
          rcases Nat.lt_or_gt_of_ne hik with hlt2 | hlt2
          · have := Nat.mul_le_mul_right size (show i + 1 ≤ k by omega)
            rw [Nat.succ_mul] at this
            omega
          · have := Nat.mul_le_mul_right size (show k + 1 ≤ i by omega)
            rw [Nat.succ_mul] at this
            omega
        · rw [if_neg hq, if_neg hq]
      rw [e1]
      exact hE i _ _ hik hx (h2 i x hx)
theorem RdL.map {α β : Type} {R : World → List Value → β → Prop} {f : α → β} {size : Nat} {w : World} {v : Value} {zs : List α} (h : RdL (fun w cs z => R w cs (f z)) size w v zs) : RdL R size w v (zs.map f) := by
  obtain ⟨A, c, rfl, h1, h2, h3, h4⟩ := h
  refine ⟨A, c, by rw [List.length_map], by rw [List.length_map]; exact h1, h2, h3, fun ad had => ?_⟩
  obtain ⟨g, o, rfl, h5⟩ := h4 ad had
  refine ⟨g, o, rfl, fun j x hx => ?_⟩
  rw [List.getElem?_map] at hx
  obtain ⟨z, hz, rfl⟩ := Option.map_eq_some_iff.1 hx
  exact h5 j z hz
/-- What stands in one cell. -/
theorem OwS.cellN {w : World} {base : Nat} {e : TypeId} {size : Nat} {g o n c : Nat} {zs : List Value} (h : OwS w base e size (.slice (some ⟨g, o, none⟩) n c) n zs) (j : Nat) (u : Value) (hu : zs[j]? = some u) : w.cell? ⟨g, o + j, none⟩ = some u ∧ w.frozen? ⟨g, o + j, none⟩ = false := by
  constructor
  · obtain ⟨_, A', c', he, _, _, _, hcell⟩ := h.rd
    injection he with he1 he2 he3
    subst he1
    have := hcell _ rfl _ _ hu
    rwa [Addr.add_mid] at this
  · rcases h.2 with ⟨q, _⟩ | ⟨g', off, cap, cur, q, _, q2, _⟩
    · cases q
    · injection q with q _ _
      injection q with q
      injection q with q _
      subst q
      simp [World.frozen?, q2]
/-- How TxnsSame's two transactions stand. -/
def ST (w w1 w2 W : World) (A B : Nat) (cs1 cs2 : List Value) (T : LTx) : Prop :=
  Below w.heap.size w w1 ∧ TxC w1 cs1 T ∧ Below w1.heap.size w1 w2 ∧ OwT3 w2 w1.heap.size cs2 T ∧ Below w2.heap.size w2 W ∧ Box W A cs1.toArray 51 ∧ Box W B cs2.toArray 51 ∧ w2.heap.size ≤ A ∧ w2.heap.size ≤ B ∧ A ≠ B
theorem ST.below {w w1 w2 W W' : World} {A B : Nat} {cs1 cs2 : List Value} {T : LTx} (h : ST w w1 w2 W A B cs1 cs2 T) (hb : Below W.heap.size W W') : ST w w1 w2 W' A B cs1 cs2 T := by
  obtain ⟨h1, h2, h3, h4, h5, h6, h7, h8⟩ := h
  exact ⟨h1, h2, h3, h4, h5.trans (hb.mono h5.size), h6.below hb, h7.below hb, h8⟩
/-- How they stand behind the change. -/
def EN (w W : World) (A B : Nat) (cs1 cs2 : List Value) (T u : LTx) : Prop := Below w.heap.size w W ∧ BxT W A cs1 T ∧ BxT W B cs2 u
theorem ST.far {w w1 w2 W : World} {A B : Nat} {cs1 cs2 : List Value} {T : LTx} (h : ST w w1 w2 W A B cs1 cs2 T) : Below w1.heap.size w1 W := h.2.2.1.trans (h.2.2.2.2.1.mono h.2.2.1.size)
theorem ST.rd {w w1 w2 W : World} {A B : Nat} {cs1 cs2 : List Value} {T : LTx} (h : ST w w1 w2 W A B cs1 cs2 T) : EN w W A B cs1 cs2 T T :=
  ⟨h.1.trans (h.far.mono h.1.size), ⟨h.2.2.2.2.2.1, h.2.1.below h.far⟩, ⟨h.2.2.2.2.2.2.1, h.2.2.2.1.own.rd.below h.2.2.2.2.1⟩⟩
theorem EN.of {w w1 w2 W W' : World} {A B : Nat} {cs1 cs2 cs2' : List Value} {T u : LTx} (h : ST w w1 w2 W A B cs1 cs2 T) (hb : Below w1.heap.size w1 W') (hA : Box W' A cs1.toArray 51) (hB : Box W' B cs2'.toArray 51) (hu : TxC W' cs2' u) : EN w W' A B cs1 cs2' T u :=
  ⟨h.1.trans (hb.mono h.1.size), ⟨hA, h.2.1.below hb⟩, hB, hu⟩
theorem TxC.ver {w : World} {v0 v1 v2 v3 : Value} {t : LTx} (h : TxC w [v0, v1, v2, v3] t) (x : Nat) (hx : x < 4294967296) : TxC w ([v0, v1, v2, v3].set 0 (.int .u32 (x : Int))) { t with ver := x } := by
  obtain ⟨iv, ov, he, h1, h2, h3, h4⟩ := h
  injection he with e0 he
  injection he with e1 he
  injection he with e2 he
  injection he with e3 _
  subst e0 e1 e2 e3
  exact ⟨_, _, rfl, h1, h2, hx, h4⟩
theorem TxC.lock {w : World} {v0 v1 v2 v3 : Value} {t : LTx} (h : TxC w [v0, v1, v2, v3] t) (x : Nat) (hx : x < 4294967296) : TxC w ([v0, v1, v2, v3].set 3 (.int .u32 (x : Int))) { t with lock := x } := by
  obtain ⟨iv, ov, he, h1, h2, h3, h4⟩ := h
  injection he with e0 he
  injection he with e1 he
  injection he with e2 he
  injection he with e3 _
  subst e0 e1 e2 e3
  exact ⟨_, _, rfl, h1, h2, h3, hx⟩
theorem TxC.four {w : World} {cs : List Value} {t : LTx} (h : TxC w cs t) : ∃ AI cI AO cO, cs = [.int .u32 (t.ver : Int), .slice AI t.ins.length cI, .slice AO t.outs.length cO, .int .u32 (t.lock : Int)] := by
  obtain ⟨iv, ov, rfl, h1, h2, _⟩ := h
  obtain ⟨AI, cI, rfl, _⟩ := h1.form
  obtain ⟨AO, cO, rfl, _⟩ := h2.form
  exact ⟨_, _, _, _, rfl⟩
/-- A growth that a growth of new blocks alone goes ahead of. -/
theorem grown_pre {w a b : World} {row : Option Nat} (h : Below w.heap.size w a) (hg : a.grownBy b row) : w.grownBy b row := by
  have h0 := grown_none h
  exact ⟨hg.os.trans h0.os, hg.tape.trans h0.tape, hg.output.trans h0.output, Nat.le_trans h0.size hg.size, fun i hi hr => (hg.block i (Nat.lt_of_lt_of_le hi h0.size) hr).trans (h0.block i hi (by simp))⟩
theorem Kd.grown {w w' : World} {row : Option Nat} {g : Nat} {k k' : TypeId} (h : Kd w (some g) k) (hg : w.grownBy w' row) (hk : Kd w row k') (hne : k ≠ k') : Kd w' (some g) k := by
  intro g' e
  injection e with e
  subst e
  obtain ⟨cur, hc⟩ := h g rfl
  refine ⟨cur, ?_⟩
  rw [hg.block g (Array.getElem?_eq_some_iff.1 hc).1 ?_, hc]
  intro e
  obtain ⟨cur', hc'⟩ := hk g e.symm
  rw [hc] at hc'
  injection hc' with hc'
  injection hc' with _ hc' _
  exact hne hc'
/-- The second's first output turned. -/
theorem ST.outs {w w1 w2 W : World} {A B : Nat} {cs1 : List Value} {v0 iv v3 : Value} {AO : Option Addr} {n cO : Nat} {T : LTx} (h : ST w w1 w2 W A B cs1 [v0, iv, .slice AO n cO, v3] T) (y : LOut) (hy : T.outs[0]? = some y) :
    ∃ g o s mid, AO = some ⟨g, o, none⟩ ∧ W.cell? ⟨g, o, none⟩ = some (.int .u64 (y.value : Int)) ∧ W.frozen? ⟨g, o, none⟩ = false ∧ W.cell? ⟨g, o + 1, none⟩ = some s ∧ W.frozen? ⟨g, o + 1, none⟩ = false ∧ g < W.heap.size ∧ s.ownBlock ≠ some g ∧ mid ≤ W.heap.size ∧ OwC W mid s y.script ∧
      (∀ x : Nat, x < 18446744073709551616 → EN w (W.setCell ⟨g, o, none⟩ (.int .u64 (x : Int))) A B cs1 [v0, iv, .slice AO n cO, v3] T { T with outs := T.outs.set 0 { y with value := x } }) ∧
      (∀ (W' : World) (row : Option Nat) (v' : Value), W.grownBy W' row → (∀ k, row = some k → s.ownBlock = some k) → Kd W row 5 → OwB W' mid 5 v' (y.script ++ [7]) → EN w (W'.setCell ⟨g, o + 1, none⟩ v') A B cs1 [v0, iv, .slice AO n cO, v3] T { T with outs := T.outs.set 0 { y with script := y.script ++ [7] } }) := by
  have hfar := h.far
  have hST := h
  obtain ⟨h1, h2, h3, h4, h5, h6, h7, h8, h9, h10⟩ := h
  obtain ⟨iv', ov', mid, b1, he, k1, ⟨b2, zs, kz, ki, k2⟩, k3, k3', k4, k5, k6, k7⟩ := h4
  injection he with e0 he
  injection he with e1 he
  injection he with e2 he
  injection he with e3 _
  subst e0 e1 e2 e3
  have hmid : mid ≤ W.heap.size := Nat.le_trans k3' h5.size
  have q2 := OwG.same (OutB.below h5) k2 h5
  have hz0 : ∃ z, zs[0]? = some z ∧ z.2 = y := by
    rw [← kz, List.getElem?_map] at hy
    exact Option.map_eq_some_iff.1 hy
  obtain ⟨z, hz, rfl⟩ := hz0
  have hz1 := ki 0 z hz
  have hlt := (List.getElem?_eq_some_iff.1 hz).1
  obtain ⟨g, o, rfl, hg0, hg1, _⟩ := OwG.block q2 0 hlt
  have hn : n = zs.length := by
    obtain ⟨us, p1, _⟩ := q2
    rcases p1.2 with ⟨q, _⟩ | ⟨g', off, cap, cur, q, _⟩
    · cases q
    · injection q
  have hkd : Kd W (some g) 57 := q2.kd
  have hins : ∀ w', Agr w1.heap.size mid w2 w' → RdIns w' iv T.ins := fun w' ha => OwG.rd (InE.rd _) (OwG.inE (k7 w' ha))
  obtain ⟨us, p1, p2⟩ := q2
  have hown : (Value.slice (some ⟨g, o, none⟩) n cO).ownBlock = some g := rfl
  rw [hown] at p2
  obtain ⟨⟨s, hcs, hel, hval⟩, hbd⟩ := p2 0 z hz
  have hs0 : us[0]? = some (.int .u64 (z.2.value : Int)) := by
    have := congrArg (·[0]?) hcs
    simpa [List.getElem?_take] using this
  have hs1 : us[1]? = some s := by
    have := congrArg (·[1]?) hcs
    simpa [List.getElem?_take] using this
  have p1' := p1
  rw [← hn] at p1'
  obtain ⟨c0, f0⟩ := OwS.cellN p1' 0 _ hs0
  obtain ⟨c1, f1⟩ := OwS.cellN p1' 1 _ hs1
  have hsb : ∀ k, s.ownBlock = some k → k < b2 := fun k hk => (hbd s k (by rw [hcs]; rfl) hk).1 hz1
  have hset : ∀ (x : Nat × LOut), (zs.set 0 x).map Prod.snd = T.outs.set 0 x.2 := fun x => by rw [List.map_set, kz]
  refine ⟨g, o, s, mid, rfl, c0, f0, c1, f1, hg1, fun e => hel.2 g e rfl, hmid, hel.1, fun x hx => ?_, fun W' row v' hg hr hkr ho => ?_⟩
  · have gset := grown_set W g o (.int .u64 (x : Int))
    have hb1 : Below w1.heap.size w1 (W.setCell ⟨g, o, none⟩ (.int .u64 (x : Int))) := hfar.setCell (show w1.heap.size ≤ g by omega) _
    refine EN.of hST hb1 (h6.apartO gset hkd (by decide)) (h7.apartO gset hkd (by decide)) ⟨_, _, rfl, hins _ ?_, ?_, k5, k6⟩
    · exact fun b hb1 hb2 => ((grown_set W g o (.int .u64 (x : Int))).block b (by omega) (fun e => by injection e with e; omega)).trans (h5.block b (by omega))
    · have q := OwG.setK (E := fun cs z => OutB mid b2 W (some g) cs z) (E' := fun w own cs (z : Nat × LOut) => OutC w cs z.2) p1 p2 0 z (z.1, { z.2 with value := x }) hz 0 (by decide) (.int .u64 (x : Int))
        (fun cs hl hc => by
          obtain ⟨⟨u, rfl, hu, _⟩, _⟩ := hc
          exact ⟨u, rfl, (hu.kept gset hu.2).1.rd, hx⟩)
        (fun i cs x' hi hx' hc => by
          obtain ⟨⟨u, rfl, hu, hv⟩, _⟩ := hc
          exact ⟨u, rfl, (hu.kept gset hu.2).1.rd, hv⟩)
      rw [Nat.zero_mul, Nat.zero_add, Nat.add_zero] at q
      have q3 := RdL.map (f := Prod.snd) (R := OutC) (OwG.rd (R := fun w cs (z : Nat × LOut) => OutC w cs z.2) (fun w own cs z h => h) q)
      rw [hset] at q3
      exact q3
  · have gset := grown_set W' g (o + 1) v'
    have hkd' : Kd W' (some g) 57 := hkd.grown hg hkr (by decide)
    have hrl : ∀ k, row = some k → mid ≤ k := fun k hk => (OwC.lt hel.1 k (hr k hk)).1
    have hb1 : Below w1.heap.size w1 (W'.setCell ⟨g, o + 1, none⟩ v') := (hfar.grown hg hfar.size (fun k hk => by have := hrl k hk; omega)).setCell (show w1.heap.size ≤ g by omega) _
    refine EN.of hST hb1 ((h6.apartO hg hkr (by decide)).apartO gset hkd' (by decide)) ((h7.apartO hg hkr (by decide)).apartO gset hkd' (by decide)) ⟨_, _, rfl, hins _ ?_, ?_, k5, k6⟩
    · intro b hb1 hb2
      have s1 := hg.block b (by omega) (fun e => by have := hrl b e.symm; omega)
      exact ((gset.block b (by have := hg.size; omega) (fun e => by injection e with e; omega)).trans s1).trans (h5.block b (by omega))
    · have hnr : row ≠ some g := fun e => hel.2 g (hr g e) rfl
      have p1w : OwS W' mid 57 2 (.slice (some ⟨g, o, none⟩) n cO) zs.length us := p1.kept hg (.inr (fun e => hnr e.symm))
      have q := OwG.setK (E := fun cs z => OutB mid b2 W (some g) cs z) (E' := fun w own cs (z : Nat × LOut) => OutC w cs z.2) p1w p2 0 z (z.1, { z.2 with script := z.2.script ++ [7] }) hz 1 (by decide) v'
        (fun cs hl hc => by
          obtain ⟨⟨u, rfl, hu, hv⟩, _⟩ := hc
          exact ⟨v', rfl, (OwS.apartO ho gset hkd' (by decide)).rd, hv⟩)
        (fun i cs x' hi hx' hc => by
          obtain ⟨⟨u, rfl, hu, hv⟩, hbd'⟩ := hc
          have hnz : x'.1 ≠ 0 := by rw [ki i x' hx']; exact hi
          have hoff : Off row u := fun k hk e => by
            have a1 := (hbd' u k rfl hk).2 hnz
            have a2 := hsb k (hr k e)
            omega
          exact ⟨u, rfl, ((hu.kept hg hoff).kept gset hu.2).1.rd, hv⟩)
      rw [Nat.zero_mul, Nat.zero_add] at q
      have q3 := RdL.map (f := Prod.snd) (R := OutC) (OwG.rd (R := fun w cs (z : Nat × LOut) => OutC w cs z.2) (fun w own cs z h => h) q)
      rw [hset] at q3
      exact q3
theorem OwW.off {w w' : World} {base : Nat} {v : Value} {ws : List (List UInt8)} {row : Option Nat} (h : OwW w base v ws) (hg : w.grownBy w' row) (hk : Kd w row 24) (ho : Off row v) : OwW w' base v ws := by
  obtain ⟨us, k1, k2⟩ := h
  refine ⟨us, k1.kept hg (off_kept ho), fun i b hb => ?_⟩
  obtain ⟨u, q1, q2, q3⟩ := k2 i b hb
  exact ⟨u, q1, OwS.apartO q2 hg hk (by decide), q3⟩
theorem OwC.apartO {w w' : World} {base : Nat} {u : Value} {b : List UInt8} {row : Option Nat} {k : TypeId} (h : OwC w base u b) (hg : w.grownBy w' row) (hk : Kd w row k) (hne : (5 : TypeId) ≠ k) : OwC w' base u b := by
  rcases h with h | ⟨g, rfl, hb, hm, hgg⟩
  · exact .inl (OwS.apartO h hg hk hne)
  · refine .inr ⟨g, rfl, hb, hm, ?_⟩
    rw [hg.block g (Array.getElem?_eq_some_iff.1 hgg).1 ?_]
    · exact hgg
    · intro e
      obtain ⟨cur, hc⟩ := hk g e.symm
      rw [hgg] at hc
      injection hc with hc
      injection hc with _ hc _
      exact hne hc
theorem OutB.apartO {mid b2 : Nat} {w w' : World} {row : Option Nat} {k : TypeId} {ov : Value} {zs : List (Nat × LOut)} (h : OwG (OutB mid b2) 57 2 w mid ov zs) (hg : w.grownBy w' row) (hk : Kd w row k) (h1 : (57 : TypeId) ≠ k) (h2 : (5 : TypeId) ≠ k) : OwG (OutB mid b2) 57 2 w' mid ov zs := by
  obtain ⟨us, p1, p2⟩ := h
  refine ⟨us, OwS.apartO p1 hg hk h1, fun i z hz => ?_⟩
  obtain ⟨⟨u, q1, q2, q3⟩, q4⟩ := p2 i z hz
  exact ⟨⟨u, q1, ⟨OwC.apartO q2.1 hg hk h2, q2.2⟩, q3⟩, q4⟩
/-- The second's first input turned. -/
theorem ST.ins {w w1 w2 W : World} {A B : Nat} {cs1 : List Value} {v0 ov v3 : Value} {AI : Option Addr} {n cI : Nat} {T : LTx} (h : ST w w1 w2 W A B cs1 [v0, .slice AI n cI, ov, v3] T) (x : LIn) (hx : T.ins[0]? = some x)
    (hp : ∀ (i : Nat) (x : LIn), T.ins[i]? = some x → (x.prev[31]? = some 0 ↔ i = 0)) :
    ∃ g o Aw cw, AI = some ⟨g, o, none⟩ ∧ (W.cell? ⟨g, o + 9, none⟩ = (x.prev[9]?).map u8v ∧ W.frozen? ⟨g, o + 9, none⟩ = false) ∧ (W.cell? ⟨g, o + 34, none⟩ = some (.int .u32 (x.seq : Int)) ∧ W.frozen? ⟨g, o + 34, none⟩ = false) ∧ (W.cell? ⟨g, o + 35, none⟩ = some (.slice Aw x.wit.length cw) ∧ W.frozen? ⟨g, o + 35, none⟩ = false) ∧ g < W.heap.size ∧ OwW W w1.heap.size (.slice Aw x.wit.length cw) x.wit ∧ (Value.slice Aw x.wit.length cw).ownBlock ≠ some g ∧ w1.heap.size ≤ W.heap.size ∧
      (∀ b : UInt8, EN w (W.setCell ⟨g, o + 9, none⟩ (u8v b)) A B cs1 [v0, .slice AI n cI, ov, v3] T { T with ins := T.ins.set 0 { x with prev := x.prev.set 9 b } }) ∧
      (∀ q : Nat, q < 4294967296 → EN w (W.setCell ⟨g, o + 34, none⟩ (.int .u32 (q : Int))) A B cs1 [v0, .slice AI n cI, ov, v3] T { T with ins := T.ins.set 0 { x with seq := q } }) ∧
      (∀ (W' : World) (v' : Value), W.grownBy W' (Value.slice Aw x.wit.length cw).ownBlock → OwW W' w1.heap.size v' (x.wit ++ [[1]]) → EN w (W'.setCell ⟨g, o + 35, none⟩ v') A B cs1 [v0, .slice AI n cI, ov, v3] T { T with ins := T.ins.set 0 { x with wit := x.wit ++ [[1]] } }) := by
  have hfar := h.far
  have hST := h
  obtain ⟨h1, h2, h3, h4, h5, h6, h7, h8, h9, h10⟩ := h
  obtain ⟨iv', ov', mid, b1, he, k1, ⟨b2, zs, kz, ki, k2⟩, k3, k3', k4, k5, k6, k7⟩ := h4
  injection he with e0 he
  injection he with e1 he
  injection he with e2 he
  injection he with e3 _
  subst e0 e1 e2 e3
  have q1 := OwG.same (InB.below h5) k1 h5
  have q2 := OwG.same (OutB.below h5) k2 h5
  have hlt := (List.getElem?_eq_some_iff.1 hx).1
  obtain ⟨g, o, rfl, hg0, hg1, _⟩ := OwG.block q1 0 hlt
  have hn : n = T.ins.length := by
    obtain ⟨us, p1, _⟩ := q1
    rcases p1.2 with ⟨q, _⟩ | ⟨g', off, cap, cur, q, _⟩
    · cases q
    · injection q
  have hkd : Kd W (some g) 55 := q1.kd
  have houts : ∀ w' : World, OwG (OutB mid b2) 57 2 w' mid ov zs → RdOuts w' ov T.outs := fun w' hw => by
    have q := OwG.rd (OutE.rd _) (OwG.outE hw)
    rwa [kz] at q
  obtain ⟨us, p1, p2⟩ := q1
  have hown : (Value.slice (some ⟨g, o, none⟩) n cI).ownBlock = some g := rfl
  rw [hown] at p2
  obtain ⟨⟨sv, wv, hcs, hpl, hsv, hwv, hvo, hsq⟩, hbd⟩ := p2 0 x hx
  obtain ⟨Aw, cw, rfl⟩ := OwW.form hwv.row
  have hpm : (x.prev.map u8v).length = 32 := by rw [List.length_map]; exact hpl
  have hcell : ∀ j, j < 36 → us[j]? = (x.prev.map u8v ++ [Value.int .u32 (x.vout : Int), sv, Value.int .u32 (x.seq : Int), Value.slice Aw x.wit.length cw])[j]? := fun j hj => by
    have := congrArg (·[j]?) hcs
    simpa [List.getElem?_take, hj] using this
  have p1' := p1
  rw [← hn] at p1'
  have b9 : us[9]? = some (u8v x.prev[9]) := by
    rw [hcell 9 (by decide), List.getElem?_append_left (by omega), List.getElem?_map, List.getElem?_eq_getElem (by omega)]
    rfl
  obtain ⟨c9, f9⟩ := OwS.cellN p1' 9 _ b9
  obtain ⟨c34, f34⟩ := OwS.cellN p1' 34 (.int .u32 (x.seq : Int)) (by rw [hcell 34 (by decide), List.getElem?_append_right (by omega), hpm]; rfl)
  obtain ⟨c35, f35⟩ := OwS.cellN p1' 35 (.slice Aw x.wit.length cw) (by rw [hcell 35 (by decide), List.getElem?_append_right (by omega), hpm]; rfl)
  have hb35 : ∀ k, (Value.slice Aw x.wit.length cw).ownBlock = some k → k < b1 := fun k hk => (hbd _ k (by rw [hcs, List.getElem?_append_right (by omega), hpm]; rfl) hk).1 ((hp 0 x hx).2 rfl)
  have hwo : (Value.slice Aw x.wit.length cw).ownBlock ≠ some g := fun e => by
    obtain ⟨_, _, hoff, _⟩ := hwv
    exact hoff g e rfl
  have hrow := hwv.row
  refine ⟨g, o, Aw, cw, rfl, ⟨by rw [c9, List.getElem?_eq_getElem (by omega)]; rfl, f9⟩, ⟨c34, f34⟩, ⟨c35, f35⟩, hg1, hrow, hwo, hfar.size, fun b => ?_, fun q hq => ?_, fun W' v' hg ho => ?_⟩
  · have gset := grown_set W g (o + 9) (u8v b)
    refine EN.of hST (hfar.setCell hg0 _) (h6.apartO gset hkd (by decide)) (h7.apartO gset hkd (by decide)) ⟨_, _, rfl, ?_, houts _ (OutB.apartO q2 gset hkd (by decide) (by decide)), k5, k6⟩
    have q := OwG.setK (E := fun cs z => InB w1.heap.size b1 W (some g) cs z) (E' := fun w own cs z => InC w cs z) p1 p2 0 x { x with prev := x.prev.set 9 b } hx 9 (by decide) (u8v b)
      (fun cs hl hc => by
        obtain ⟨sv, wv, rfl, _, r1, r2, r3, r4⟩ := InE.at (o := o + (0 * 36 + 9)) (v := u8v b) cs x hc.1
        refine ⟨sv, wv, ?_, by rw [List.length_set]; exact hpl, r1.1.rd, r2.row.rd, r3, r4⟩
        rw [List.set_append_left _ _ (by omega), List.map_set])
      (fun i cs x' hi hx' hc => InE.rd _ _ _ _ _ (InE.at (o := o + (0 * 36 + 9)) (v := u8v b) cs x' hc.1))
    rw [Nat.zero_mul, Nat.zero_add] at q
    exact OwG.rd (R := InC) (fun w own cs z h => h) q
  · have gset := grown_set W g (o + 34) (.int .u32 (q : Int))
    refine EN.of hST (hfar.setCell hg0 _) (h6.apartO gset hkd (by decide)) (h7.apartO gset hkd (by decide)) ⟨_, _, rfl, ?_, houts _ (OutB.apartO q2 gset hkd (by decide) (by decide)), k5, k6⟩
    have q := OwG.setK (E := fun cs z => InB w1.heap.size b1 W (some g) cs z) (E' := fun w own cs z => InC w cs z) p1 p2 0 x { x with seq := q } hx 34 (by decide) (.int .u32 (q : Int))
      (fun cs hl hc => by
        obtain ⟨sv, wv, rfl, _, r1, r2, r3, r4⟩ := InE.at (o := o + (0 * 36 + 34)) (v := .int .u32 (q : Int)) cs x hc.1
        refine ⟨sv, wv, ?_, hpl, r1.1.rd, r2.row.rd, r3, hq⟩
        rw [List.set_append_right _ _ (by omega), hpm]
        rfl)
      (fun i cs x' hi hx' hc => InE.rd _ _ _ _ _ (InE.at (o := o + (0 * 36 + 34)) (v := .int .u32 (q : Int)) cs x' hc.1))
    rw [Nat.zero_mul, Nat.zero_add] at q
    exact OwG.rd (R := InC) (fun w own cs z h => h) q
  · have hkr := hrow.kd
    have gset := grown_set W' g (o + 35) v'
    have hkd' : Kd W' (some g) 55 := hkd.grown hg hkr (by decide)
    have hb1 : Below w1.heap.size w1 (W'.setCell ⟨g, o + 35, none⟩ v') := (hfar.grown hg hfar.size (fun k hk => (OwW.lt hrow k hk).1)).setCell hg0 _
    refine EN.of hST hb1 ((h6.apartO hg hkr (by decide)).apartO gset hkd' (by decide)) ((h7.apartO hg hkr (by decide)).apartO gset hkd' (by decide)) ⟨_, _, rfl, ?_, houts _ (OutB.apartO (OutB.apartO q2 hg hkr (by decide) (by decide)) gset hkd' (by decide) (by decide)), k5, k6⟩
    have p1w : OwS W' w1.heap.size 55 36 (.slice (some ⟨g, o, none⟩) n cI) T.ins.length us := p1.kept hg (.inr (fun e => hwo e.symm))
    have q := OwG.setK (E := fun cs z => InB w1.heap.size b1 W (some g) cs z) (E' := fun w own cs z => InC w cs z) p1w p2 0 x { x with wit := x.wit ++ [[1]] } hx 35 (by decide) v'
      (fun cs hl hc => by
        obtain ⟨⟨sv, wv, rfl, _, r1, r2, r3, r4⟩, _⟩ := hc
        refine ⟨sv, v', ?_, hpl, (OwS.apartO (OwS.apartO r1.1 hg hkr (by decide)) gset hkd' (by decide)).rd, (OwW.apartO ho gset hkd' (by decide) (by decide)).rd, r3, r4⟩
        rw [List.set_append_right _ _ (by omega), hpm]
        rfl)
      (fun i cs x' hi hx' hc => by
        obtain ⟨⟨sv, wv, rfl, r0, r1, r2, r3, r4⟩, hbd'⟩ := hc
        have hpm' : (x'.prev.map u8v).length = 32 := by rw [List.length_map]; exact r0
        have hoff : Off (Value.slice Aw x.wit.length cw).ownBlock wv := fun k hk e => by
          have a1 := (hbd' wv k (by rw [List.getElem?_append_right (by omega), hpm']; rfl) hk).2 (fun e => hi ((hp i x' hx').1 e))
          have a2 := hb35 k e
          omega
        exact ⟨sv, wv, rfl, r0, (OwS.apartO (OwS.apartO r1.1 hg hkr (by decide)) gset hkd' (by decide)).rd, (OwW.apartO (r2.row.off hg hkr hoff) gset hkd' (by decide) (by decide)).rd, r3, r4⟩)
    rw [Nat.zero_mul, Nat.zero_add] at q
    exact OwG.rd (R := InC) (fun w own cs z h => h) q
theorem Kd.cell {w w' : World} {g : Nat} {k k' : TypeId} {row : Option Nat} (h : Kd w (some g) k) (hg : w.grownBy w' row) (hk : Kd w row k') (hne : k ≠ k') (j : Nat) : w'.cell? ⟨g, j, none⟩ = w.cell? ⟨g, j, none⟩ ∧ w'.frozen? ⟨g, j, none⟩ = w.frozen? ⟨g, j, none⟩ := by
  obtain ⟨cur, hc⟩ := h g rfl
  have hb : w'.heap[g]? = w.heap[g]? := hg.block g (Array.getElem?_eq_some_iff.1 hc).1 (fun e => by
    obtain ⟨cur', hc'⟩ := hk g e.symm
    rw [hc] at hc'
    injection hc' with hc'
    injection hc' with _ hc' _
    exact hne hc')
  simp [World.cell?, World.frozen?, hb]
theorem EN.below {w W W' : World} {A B : Nat} {cs1 cs2 : List Value} {T u : LTx} (h : EN w W A B cs1 cs2 T u) (hb : Below W.heap.size W W') : EN w W' A B cs1 cs2 T u := ⟨h.1.trans (hb.mono h.1.size), h.2.1.below hb, h.2.2.below hb⟩
theorem EN.size {w W : World} {A B : Nat} {cs1 cs2 : List Value} {T u : LTx} (h : EN w W A B cs1 cs2 T u) : w.heap.size ≤ W.heap.size := h.1.size
end Go.Proofs.Ytfggkljgfadacaa.W
