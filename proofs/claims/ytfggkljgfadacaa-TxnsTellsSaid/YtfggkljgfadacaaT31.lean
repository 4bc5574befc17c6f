/- TxnsBounds: how it stands while it makes its transaction. -/
import Derived.Test.YtfggkljgfadacaaT30
set_option linter.unusedVariables false
set_option linter.unusedSimpArgs false
namespace Go.Proofs.Ytfggkljgfadacaa.W
open Go.RowKit Go.Proofs.Ytfggkljgfadacaa.B Go.Proofs

/-- What turns is a block of kind k, or none. -/
def Kd (w : World) (row : Option Nat) (k : TypeId) : Prop := ∀ g, row = some g → ∃ cur, w.heap[g]? = some (.cells cur k (0, 0))
theorem OwS.apartO {w w' : World} {base : Nat} {e k : TypeId} {size : Nat} {v : Value} {n : Nat} {xs : List Value} {row : Option Nat} (h : OwS w base e size v n xs) (hg : w.grownBy w' row) (hk : Kd w row k) (hne : e ≠ k) : OwS w' base e size v n xs := by
  rcases row with _ | g
  · exact h.kept hg (by cases v.ownBlock <;> simp)
  · obtain ⟨cur, hc⟩ := hk g rfl
    exact OwS.apart h hg hc hne
theorem Box.apartO {w w' : World} {B : Nat} {cs : Array Value} {t k : TypeId} {row : Option Nat} (h : Box w B cs t) (hg : w.grownBy w' row) (hk : Kd w row k) (hne : t ≠ k) : Box w' B cs t := by
  rcases row with _ | g
  · exact h.grown hg (by simp)
  · obtain ⟨cur, hc⟩ := hk g rfl
    exact h.apart hg hc hne
theorem OwG.apartO {α : Type} {E : World → Option Nat → List Value → α → Prop} (hE : ∀ w w' own cs y, E w own cs y → E w' own cs y) {e k : TypeId} {size : Nat} {w w' : World} {base : Nat} {v : Value} {ys : List α} {row : Option Nat} (h : OwG E e size w base v ys) (hg : w.grownBy w' row) (hk : Kd w row k) (hne : e ≠ k) : OwG E e size w' base v ys := by
  obtain ⟨us, h1, h2⟩ := h
  exact ⟨us, OwS.apartO h1 hg hk hne, fun i b hb => hE _ _ _ _ _ (h2 i b hb)⟩
theorem OwG.kd {α : Type} {E : World → Option Nat → List Value → α → Prop} {e : TypeId} {size : Nat} {w : World} {base : Nat} {v : Value} {ys : List α} (h : OwG E e size w base v ys) : Kd w v.ownBlock e := by
  obtain ⟨us, h1, _⟩ := h
  exact fun g hg => OwS.kind h1 g hg
theorem Box.kd {w : World} {B : Nat} {cs : Array Value} {t : TypeId} (h : Box w B cs t) : Kd w (some B) t := fun g hg => by injection hg with hg; subst hg; exact ⟨cs, h⟩
theorem EI.any : ∀ (w w' : World) own cs y, EI w own cs y → EI w' own cs y := fun _ _ _ _ _ h => h
theorem EO.any : ∀ (w w' : World) own cs y, EO w own cs y → EO w' own cs y := fun _ _ _ _ _ h => h
def BSt (w W : World) (G : Nat) (iv ov : Value) (ys : List (Nat × Value × Value)) (zs : List Value) : Prop :=
  Below w.heap.size w W ∧ Box W G #[.int .u32 2, iv, ov, .int .u32 0] 51 ∧ OwG EI 55 36 W w.heap.size iv ys ∧ OwG EO 57 2 W w.heap.size ov zs ∧ w.heap.size ≤ G
section
variable {w W W' : World} {G : Nat} {iv ov : Value} {ys ys' : List (Nat × Value × Value)} {zs zs' : List Value}
theorem BSt.below (h : BSt w W G iv ov ys zs) (hb : Below W.heap.size W W') : BSt w W' G iv ov ys zs := by
  obtain ⟨h1, h2, h3, h4, h5⟩ := h
  exact ⟨h1.trans (hb.mono h1.size), h2.below hb, OwG.same (EI.any W W') h3 hb, OwG.same (EO.any W W') h4 hb, h5⟩
theorem BSt.ins (h : BSt w W G iv ov ys zs) : OwG EI 55 36 W w.heap.size iv ys := h.2.2.1
theorem BSt.outs (h : BSt w W G iv ov ys zs) : OwG EO 57 2 W w.heap.size ov zs := h.2.2.2.1
theorem BSt.size (h : BSt w W G iv ov ys zs) : w.heap.size ≤ W.heap.size := h.1.size
theorem BSt.bel (h : BSt w W G iv ov ys zs) : Below w.heap.size w W := h.1
theorem BSt.box (h : BSt w W G iv ov ys zs) : Box W G #[.int .u32 2, iv, ov, .int .u32 0] 51 := h.2.1
theorem BSt.four (h : BSt w W G iv ov ys zs) : W.cell? ⟨G, 0, none⟩ = some (.int .u32 2) ∧ W.cell? ⟨G, 1, none⟩ = some iv ∧ W.cell? ⟨G, 2, none⟩ = some ov ∧ W.cell? ⟨G, 3, none⟩ = some (.int .u32 0) ∧ (∀ j, W.frozen? ⟨G, j, none⟩ = false) := Box.four h.2.1
/-- Behind a growth of the inputs' row. -/
theorem BSt.grownI (h : BSt w W G iv ov ys zs) (hg : W.grownBy W' iv.ownBlock) : Below w.heap.size w W' ∧ Box W' G #[.int .u32 2, iv, ov, .int .u32 0] 51 ∧ OwG EO 57 2 W' w.heap.size ov zs := by
  obtain ⟨h1, h2, h3, h4, h5⟩ := h
  exact ⟨h1.grown hg h1.size (fun k hk => (OwG.lt h3 k hk).1), h2.apartO hg h3.kd (by decide), OwG.apartO EO.any h4 hg h3.kd (by decide)⟩
theorem BSt.grownO (h : BSt w W G iv ov ys zs) (hg : W.grownBy W' ov.ownBlock) : Below w.heap.size w W' ∧ Box W' G #[.int .u32 2, iv, ov, .int .u32 0] 51 ∧ OwG EI 55 36 W' w.heap.size iv ys := by
  obtain ⟨h1, h2, h3, h4, h5⟩ := h
  exact ⟨h1.grown hg h1.size (fun k hk => (OwG.lt h4 k hk).1), h2.apartO hg h4.kd (by decide), OwG.apartO EI.any h3 hg h4.kd (by decide)⟩
/-- The inputs' row anew into the transaction. -/
theorem BSt.putI (h : BSt w W G iv ov ys zs) (hg : W.grownBy W' iv.ownBlock) {v : Value} (ho : OwG EI 55 36 W' w.heap.size v ys') : BSt w (W'.setCell ⟨G, 1, none⟩ v) G v ov ys' zs := by
  have h5 := h.2.2.2.2
  obtain ⟨g1, g2, g3⟩ := h.grownI hg
  have gset := grown_set W' G 1 v
  exact ⟨g1.setCell h5 _, Box.set (cs := [_, _, _, _]) g2 1 v, OwG.apartO EI.any ho gset g2.kd (by decide), OwG.apartO EO.any g3 gset g2.kd (by decide), h5⟩
theorem BSt.putO (h : BSt w W G iv ov ys zs) (hg : W.grownBy W' ov.ownBlock) {v : Value} (ho : OwG EO 57 2 W' w.heap.size v zs') : BSt w (W'.setCell ⟨G, 2, none⟩ v) G iv v ys zs' := by
  have h5 := h.2.2.2.2
  obtain ⟨g1, g2, g3⟩ := h.grownO hg
  have gset := grown_set W' G 2 v
  exact ⟨g1.setCell h5 _, Box.set (cs := [_, _, _, _]) g2 2 v, OwG.apartO EI.any g3 gset g2.kd (by decide), OwG.apartO EO.any ho gset g2.kd (by decide), h5⟩
end
/-- One cell of one input. -/
theorem BSt.setI {w W : World} {G g o n c : Nat} {ov : Value} {ys : List (Nat × Value × Value)} {zs : List Value} (h : BSt w W G (.slice (some ⟨g, o, none⟩) n c) ov ys zs) (k : Nat) (y y' : Nat × Value × Value) (hk : ys[k]? = some y) (j : Nat) (hj : j < 36) (u : Value) (hy : (cellI y).set j u = cellI y') :
    BSt w (W.setCell ⟨g, o + k * 36 + j, none⟩ u) G (.slice (some ⟨g, o, none⟩) n c) ov (ys.set k y') zs := by
  obtain ⟨h1, h2, h3, h4, h5⟩ := h
  have gset := grown_set W g (o + k * 36 + j) u
  have hkd : Kd W (some g) 55 := h3.kd
  refine ⟨h1.setCell (OwG.lt h3 g rfl).1 _, h2.apartO gset hkd (by decide), ?_, OwG.apartO EO.any h4 gset hkd (by decide), h5⟩
  have hq := OwG.set h3 k y y' hk j hj u
  rw [← Nat.add_assoc] at hq
  exact hq (fun cs _ he => by have he' : cs = cellI y := he; rw [he']; exact hy) (fun cs y he => he)
/-- The script of the first output. -/
theorem BSt.setO {w W : World} {G g o n c : Nat} {iv : Value} {ys : List (Nat × Value × Value)} {zs : List Value} (h : BSt w W G iv (.slice (some ⟨g, o, none⟩) n c) ys zs) (s u : Value) (hk : zs[0]? = some s) :
    BSt w (W.setCell ⟨g, o + 1, none⟩ u) G iv (.slice (some ⟨g, o, none⟩) n c) ys (zs.set 0 u) := by
  obtain ⟨h1, h2, h3, h4, h5⟩ := h
  have gset := grown_set W g (o + 1) u
  have hkd : Kd W (some g) 57 := h4.kd
  refine ⟨h1.setCell (OwG.lt h4 g rfl).1 _, h2.apartO gset hkd (by decide), OwG.apartO EI.any h3 gset hkd (by decide), ?_, h5⟩
  have hq := OwG.set h4 0 s u hk 1 (by decide) u
  rw [Nat.zero_mul, Nat.zero_add] at hq
  exact hq (fun cs _ he => by have he' : cs = [Value.int .u64 0, s] := he; rw [he']; rfl) (fun cs y he => he)
/-- What stands in one cell of one input. -/
theorem BSt.cellAt {w W : World} {G n c : Nat} {A : Option Addr} {ov : Value} {ys : List (Nat × Value × Value)} {zs : List Value} (h : BSt w W G (.slice A n c) ov ys zs) (k : Nat) (y : Nat × Value × Value) (hk : ys[k]? = some y) :
    ∃ g o, A = some ⟨g, o, none⟩ ∧ w.heap.size ≤ g ∧ ∀ (j : Nat) (u : Value), j < 36 → (cellI y)[j]? = some u → W.cell? ⟨g, o + k * 36 + j, none⟩ = some u ∧ W.frozen? ⟨g, o + k * 36 + j, none⟩ = false := by
  have hlt := (List.getElem?_eq_some_iff.1 hk).1
  obtain ⟨g, o, rfl, hg0, hg1, hcf⟩ := OwG.block h.2.2.1 k hlt
  obtain ⟨zs', k1, k2⟩ := h.2.2.1
  have hin : _ = cellI y := k2 k y hk
  refine ⟨g, o, rfl, hg0, fun j u hj hu => ⟨?_, by rw [Nat.add_assoc]; exact (hcf j hj).2⟩⟩
  rw [← hin, List.getElem?_take_of_lt hj, List.getElem?_drop] at hu
  obtain ⟨_, A', c', he, _, _, _, hcell⟩ := k1.rd
  injection he with he1 he2 he3
  subst he1
  have := hcell _ rfl _ _ hu
  rw [Addr.add_mid] at this
  rw [Nat.add_assoc]
  exact this
theorem BSt.outAt {w W : World} {G n c : Nat} {A : Option Addr} {iv : Value} {ys : List (Nat × Value × Value)} {zs : List Value} (h : BSt w W G iv (.slice A n c) ys zs) (hn : 0 < zs.length) :
    ∃ g o s, A = some ⟨g, o, none⟩ ∧ w.heap.size ≤ g ∧ zs[0]? = some s ∧ W.cell? ⟨g, o + 1, none⟩ = some s ∧ W.frozen? ⟨g, o + 1, none⟩ = false := by
  obtain ⟨g, o, rfl, hg0, hg1, hcf⟩ := OwG.block h.2.2.2.1 0 hn
  obtain ⟨zs', k1, k2⟩ := h.2.2.2.1
  obtain ⟨s, hs⟩ : ∃ s, zs[0]? = some s := ⟨_, List.getElem?_eq_getElem hn⟩
  have hin : _ = [Value.int .u64 0, s] := k2 0 s hs
  have hf := (hcf 1 (by decide)).2
  rw [Nat.zero_mul, Nat.zero_add] at hf
  refine ⟨g, o, s, rfl, hg0, hs, ?_, hf⟩
  have hu : ((zs'.drop (0 * 2)).take 2)[1]? = some s := by rw [hin]; rfl
  rw [List.getElem?_take_of_lt (by decide), List.getElem?_drop] at hu
  obtain ⟨_, A', c', he, _, _, _, hcell⟩ := k1.rd
  injection he with he1 he2 he3
  subst he1
  have := hcell _ rfl _ _ hu
  rw [Addr.add_mid] at this
  simpa using this
end Go.Proofs.Ytfggkljgfadacaa.W
namespace Go.Proofs.Ytfggkljgfadacaa.W
open Go.RowKit Go.Proofs.Ytfggkljgfadacaa.B Go.Proofs
/-- append(v, x) of one row of bytes to a row of such, at a step of a region that draws its order. -/
theorem step_appW {ops : Array Oper} {o : Oper} {a : Act} {w : World} {K : Act → World → Prop} {Q : Exit → Act → World → Prop} {F : Prop} (base : Nat) (hgd : o.guard = none) (s x : Operand)
    (ho : o.op = .call { callee := .builtin .append, args := #[s, x], argTypes := #[43, 43] })
    (v : Value) (hs : a.eval s = v) (g : Nat) (hx : a.eval x = .slice (some ⟨g, 0, none⟩) 1 1) (u : Value) (hbox : Box w g #[u] 24) (h1 : u.oneCell' = true)
    (ws : List (List UInt8)) (b : List UInt8) (hown : OwW w base v ws) (hu : El w base v.ownBlock u b) (hlen : ws.length ≤ 1000000) (hbase : base ≤ w.heap.size)
    (h : ∀ (v' : Value) (w' : World), OwW w' base v' (ws ++ [b]) → w.grownBy w' v.ownBlock → K (a.put o.dst v') w') :
    if Region.wanted o (yielded ops a.tmps) = true then Oper.wp Try.prog o a w K Q else F := by
  obtain ⟨us, k1, k2⟩ := hown
  obtain ⟨i, hi, hzz⟩ := Option.map_eq_some_iff.1 info24
  simp only [Prod.mk.injEq] at hzz
  obtain ⟨hz0, hz1, hz2⟩ := hzz
  have hrd : RdS w 1 (.slice (some ⟨g, 0, none⟩) 1 1) 1 [u] := by
    refine ⟨rfl, some ⟨g, 0, none⟩, 1, rfl, Nat.le_refl _, by decide, (fun h => by cases h), ?_⟩
    rintro ad had j u' hu'
    obtain rfl := Option.some.inj had
    have := Box.cell hbox j u' (by simpa using hu')
    rw [Addr.add_mid]
    simpa using this
  obtain ⟨v', w', hr, h2, h3, h4⟩ := run_app (P := Try.prog) w base 43 o.type 24 i (.slice none 0 0) 1 24 Try.underlying43 hi hz0 hz1 hz2 rfl (by decide) v ws.length us k1 _ 1 [u] hrd (by intro y hy; simp at hy; subst hy; exact h1) (by unfold maxLen; omega) (by omega) hbase
  have hw : Region.wanted o (yielded ops a.tmps) = true := by simp [Region.wanted, hgd]
  rw [if_pos hw]
  unfold Oper.wp execOp
  simp only [ho, resolve, invoke, builtin, Sem.run_bind, Sem.run_pure, Result.andThen_ok, List.map_toArray, List.map_cons, List.map_nil, hs, hx, hr]
  exact h v' w' (OwW.app us k1 k2 hu h2 h3 h4) h3
theorem OwW.apartO {w w' : World} {base : Nat} {k : TypeId} {v : Value} {ws : List (List UInt8)} {row : Option Nat} (h : OwW w base v ws) (hg : w.grownBy w' row) (hk : Kd w row k) (h1 : (24 : TypeId) ≠ k) (h2 : (5 : TypeId) ≠ k) : OwW w' base v ws := by
  obtain ⟨us, k1, k2⟩ := h
  refine ⟨us, OwS.apartO k1 hg hk h1, fun i b hb => ?_⟩
  obtain ⟨u, q1, q2, q3⟩ := k2 i b hb
  exact ⟨u, q1, OwS.apartO q2 hg hk h2, q3⟩
theorem OwW.kd {w : World} {base : Nat} {v : Value} {ws : List (List UInt8)} (h : OwW w base v ws) : Kd w v.ownBlock 24 := by
  obtain ⟨us, h1, _⟩ := h
  exact fun g hg => OwS.kind h1 g hg
theorem OwW.below {w w' : World} {base : Nat} {v : Value} {ws : List (List UInt8)} (h : OwW w base v ws) (hb : Below w.heap.size w w') : OwW w' base v ws := by
  obtain ⟨us, k1, k2⟩ := h
  refine ⟨us, k1.below hb, fun i b hbb => ?_⟩
  obtain ⟨u, q1, q2⟩ := k2 i b hbb
  exact ⟨u, q1, q2.below hb⟩
theorem BSt.apartO {w W W' : World} {G : Nat} {iv ov : Value} {ys : List (Nat × Value × Value)} {zs : List Value} {row : Option Nat} {k : TypeId} (h : BSt w W G iv ov ys zs) (hg : W.grownBy W' row) (hk : Kd W row k) (hr : ∀ j, row = some j → w.heap.size ≤ j) (h1 : (51 : TypeId) ≠ k) (h2 : (55 : TypeId) ≠ k) (h3 : (57 : TypeId) ≠ k) : BSt w W' G iv ov ys zs := by
  obtain ⟨g1, g2, g3, g4, g5⟩ := h
  exact ⟨g1.grown hg g1.size hr, g2.apartO hg hk h1, OwG.apartO EI.any g3 hg hk h2, OwG.apartO EO.any g4 hg hk h3, g5⟩
theorem rParse_nil : rParse [] = (noTx, false) := by
  have h : (rRaw (([] : List UInt8), false)).2.2 = true := by decide
  unfold rParse rTx
  simp only
  rw [if_neg (fun h' => by rw [h] at h'; cases h'.1)]
/-- So many zeros. -/
def zV (n : Nat) : Array Value := ((zB n).map u8v).toArray
theorem run_make24 (n : Nat) (hn : n ≤ 100000) (W : World) : (Instr.makeSlice 24 (.int .i64 (n : Int)) (.int .i64 (n : Int))).run Try.prog W = .ok (.slice (some ⟨W.heap.size, 0, none⟩) n n) (W.alloc (.cells (zV n) 5)) := by
  obtain ⟨i, hi, hzz⟩ := Option.map_eq_some_iff.1 info5
  simp only [Prod.mk.injEq] at hzz
  obtain ⟨hz0, hz1, hz2⟩ := hzz
  have h := run_make (P := Try.prog) W 24 5 i (.int .u8 0) Try.underlying24 hi hz0 .i64 .i64 (n : Int) (n : Int) (by omega) (by omega) (by rw [hz2]; omega) (by omega)
  rw [h]
  have e : madeCells (Value.int .u8 0).cells ((n : Int).toNat * i.size) = zV n := by
    rw [hz1]
    apply Array.ext
    · rw [size_madeCells]; simp [zV, zB]
    · intro j h1 h2
      simp [madeCells, zV, zB, Value.cells, u8v, Nat.mod_one]
  rw [e]
  simp
theorem zV_own (n : Nat) (hn : n ≤ 100000) (W : World) : OwB (W.alloc (.cells (zV n) 5)) W.heap.size 5 (.slice (some ⟨W.heap.size, 0, none⟩) n n) (zB n) :=
  owB_lit W n (zV n) (zB n) (by simp [zV]) (by simp [zB]) (by unfold maxLen; omega)
end Go.Proofs.Ytfggkljgfadacaa.W
