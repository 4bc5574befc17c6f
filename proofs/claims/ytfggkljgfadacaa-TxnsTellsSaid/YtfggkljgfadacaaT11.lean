/- txns.ins: the next inputs. -/
import Derived.Test.YtfggkljgfadacaaT10
set_option linter.unusedVariables false
set_option linter.unusedSimpArgs false
namespace Go.Proofs.Ytfggkljgfadacaa.W
open Go.RowKit Go.Proofs.Ytfggkljgfadacaa.B Go.Proofs

theorem wp_build_to {P : Program} {o : Oper} {a : Act} {w : World} {K : Act → World → Prop} {Q : Exit → Act → World → Prop} (t : TypeId) (parts : Array (Nat × Operand)) (ho : o.op = .build t parts) (cells : Array Value)
    (hf : P.built t (parts.map fun (i, x) => (i, a.eval x)).toList = some cells) (h : K (a.put o.dst (.agg cells)) w) : o.wp P a w K Q :=
  wp_build t parts ho (by rw [hf]; rfl) (by rw [hf]; exact h)
theorem Box.frozen {w : World} {B : Nat} {cs : Array Value} {t : TypeId} (h : Box w B cs t) (j : Nat) : w.frozen? ⟨B, j, none⟩ = false := by
  have h' : w.heap[B]? = some (.cells cs t (0, 0)) := h
  simp [World.frozen?, h']
theorem Box.set {w : World} {B : Nat} {cs : List Value} {t : TypeId} (h : Box w B cs.toArray t) (off : Nat) (v : Value) : Box (w.setCell ⟨B, off, none⟩ v) B (cs.set off v).toArray t := by
  have h' : w.heap[B]? = some (.cells cs.toArray t (0, 0)) := h
  show (w.setCell ⟨B, off, none⟩ v).heap[B]? = _
  simp [World.setCell, Array.getElem?_modify, h']
/-- A row of bytes of one's own, all of it apart from the block 'own'. -/
def OwV (w : World) (base : Nat) (own : Option Nat) (v : Value) (ws : List (List UInt8)) : Prop :=
  ∃ us : List Value, OwS w base 24 1 v ws.length us ∧ Off own v ∧ ∀ (i : Nat) (b : List UInt8), ws[i]? = some b → ∃ u, us[i]? = some u ∧ El w base v.ownBlock u b ∧ Off own u
theorem OwV.nil (w : World) (base : Nat) (own : Option Nat) : OwV w base own (.slice none 0 0) [] := ⟨[], OwS.nil _ _ _ _, fun b h => by simp [Value.ownBlock] at h, fun i b h => by simp at h⟩
theorem OwV.row {w : World} {base : Nat} {own : Option Nat} {v : Value} {ws : List (List UInt8)} (h : OwV w base own v ws) : OwW w base v ws := by
  obtain ⟨us, h1, h2, h3⟩ := h
  exact ⟨us, h1, fun i b hb => by obtain ⟨u, q1, q2, _⟩ := h3 i b hb; exact ⟨u, q1, q2⟩⟩
theorem OwV.of {w : World} {base base' : Nat} {own : Option Nat} {v : Value} {ws : List (List UInt8)} (h : OwW w base' v ws) (hb : base ≤ base') (ho : ∀ k, own = some k → k < base') : OwV w base own v ws := by
  obtain ⟨us, h1, h2⟩ := h
  refine ⟨us, h1.mono hb, fun k hk e => ?_, fun i b hbb => ?_⟩
  · have := ho k e; have := (h1.lt k hk).1; omega
  · obtain ⟨u, q1, q2, q3⟩ := h2 i b hbb
    exact ⟨u, q1, ⟨q2.mono hb, q3⟩, fun k hk e => by have := ho k e; have := (q2.lt k hk).1; omega⟩
theorem OwV.kept {w w' : World} {base : Nat} {own row : Option Nat} {v : Value} {ws : List (List UInt8)} (h : OwV w base own v ws) (hg : w.grownBy w' row) (hr : row = own ∨ ∃ B, row = some B ∧ B < base) : OwV w' base own v ws := by
  obtain ⟨us, h1, h2, h3⟩ := h
  have hoff : ∀ {u : Value} {n size : Nat} {e : TypeId} {xs : List Value}, OwS w base e size u n xs → Off own u → Off row u := by
    intro u n size e xs q1 q2
    rcases hr with rfl | ⟨B, rfl, hB⟩
    · exact q2
    · exact off_low q1 hB
  refine ⟨us, h1.kept hg (off_kept (hoff h1 h2)), h2, fun i b hb => ?_⟩
  obtain ⟨u, q1, q2, q3⟩ := h3 i b hb
  exact ⟨u, q1, q2.kept hg (hoff q2.1 q3), q3⟩
theorem OwV.below {w w' : World} {base : Nat} {own : Option Nat} {v : Value} {ws : List (List UInt8)} (h : OwV w base own v ws) (hb : Below w.heap.size w w') : OwV w' base own v ws := by
  obtain ⟨us, h1, h2, h3⟩ := h
  refine ⟨us, h1.below hb, h2, fun i b hbb => ?_⟩
  obtain ⟨u, q1, q2, q3⟩ := h3 i b hbb
  exact ⟨u, q1, q2.below hb, q3⟩
theorem OwV.grow {w w' : World} {base : Nat} {own own' : Option Nat} {v : Value} {ws : List (List UInt8)} (h : OwV w base own v ws) (hg : w.grownBy w' own) (ht : own' = own ∨ ∃ k, own' = some k ∧ w.heap.size ≤ k) : OwV w' base own' v ws := by
  obtain ⟨us, h1, h2, h3⟩ := h.kept hg (.inl rfl)
  obtain ⟨us', g1, g2, g3⟩ := h
  refine ⟨us', g1.kept hg (off_kept g2), off_grow g1 g2 ht, fun i b hb => ?_⟩
  obtain ⟨u, q1, q2, q3⟩ := g3 i b hb
  exact ⟨u, q1, q2.kept hg q3, off_grow q2.1 q3 ht⟩
/-- An input of one's own. -/
def InE (base : Nat) (w : World) (own : Option Nat) (cs : List Value) (x : LIn) : Prop :=
  ∃ sv wv, cs = x.prev.map u8v ++ [.int .u32 (x.vout : Int), sv, .int .u32 (x.seq : Int), wv] ∧ x.prev.length = 32 ∧ El w base own sv x.script ∧ OwV w base own wv x.wit ∧ x.vout < 4294967296 ∧ x.seq < 4294967296
theorem RdW.nil (w : World) : RdW w (.slice none 0 0) [] := (OwW.nil w 0).rd
theorem InE.rd (base : Nat) : ∀ w own cs x, InE base w own cs x → InC w cs x := by
  rintro w own cs x ⟨sv, wv, rfl, h1, h2, h3, h4⟩
  exact ⟨sv, wv, rfl, h1, h2.1.rd, h3.row.rd, h4⟩
theorem InE.read {base : Nat} {w w' : World} {B : Nat} (hB : B < base) (hg : w.grownBy w' (some B)) : ∀ own cs x, InE base w own cs x → InE base w' own cs x := by
  rintro own cs x ⟨sv, wv, rfl, h1, h2, h3, h4⟩
  exact ⟨sv, wv, rfl, h1, h2.read hg hB, h3.kept hg (.inr ⟨B, rfl, hB⟩), h4⟩
theorem InE.below {base : Nat} {w w' : World} (hb : Below w.heap.size w w') : ∀ own cs x, InE base w own cs x → InE base w' own cs x := by
  rintro own cs x ⟨sv, wv, rfl, h1, h2, h3, h4⟩
  exact ⟨sv, wv, rfl, h1, h2.below hb, h3.below hb, h4⟩
theorem InE.grow {base : Nat} {w w' : World} {own own' : Option Nat} (hg : w.grownBy w' own) (ht : own' = own ∨ ∃ k, own' = some k ∧ w.heap.size ≤ k) : ∀ cs x, InE base w own cs x → InE base w' own' cs x := by
  rintro cs x ⟨sv, wv, rfl, h1, h2, h3, h4⟩
  exact ⟨sv, wv, rfl, h1, h2.grow hg ht, h3.grow hg ht, h4⟩
abbrev OwIns (w : World) (base : Nat) (v : Value) (xs : List LIn) : Prop := OwG (InE base) 55 36 w base v xs
def rIn (s : St) : LIn × St :=
  let a := rtake 32 s.1 s.2
  let b := rnum 4 a.2.1 a.2.2
  let c := rRow b.2
  let d := rnum 4 c.2.1 c.2.2
  (⟨pad32 a.1, b.1, c.1, d.1, []⟩, d.2)
theorem id_as (B : Nat) (l : List UInt8) (bad : Bool) (w : World) {x : List UInt8} {l' : List UInt8} {bad' : Bool} {pc : List Value} (hp : pc = (pad32 x).map u8v) (hq : rtake 32 l bad = (x, l', bad')) (h : Rdr 74 w B l bad) (hl : l.length ≤ 140737488355328) :
    Calls Try.prog 99 #[.pointer (some ⟨B, 0, none⟩)] w fun e w' => e = .returned (.agg pc.toArray) ∧ Rdr 74 w' B l' bad' ∧ w.grownBy w' (some B) := by
  subst hp
  exact id_to B l bad w hq h hl

section
variable {P : Program}
/-- append(v, x) of one struct of many cells to a row of one's own. -/
theorem wpList_appG {α : Type} {E : World → Option Nat → List Value → α → Prop} {w : World} {ops : Array Oper} {rest : List Oper} {o : Oper} {a : Act} {Q : Exit → Act → World → Prop} (base : Nat) (hgd : o.guard = none) (s x : Operand) (t e : TypeId) (z : Value) (size bytes : Nat)
    (ho : o.op = .call { callee := .builtin .append, args := #[s, x], argTypes := #[t, t] })
    (ht : P.underlying t = some (.slice e)) (hinfo : (P.info? e).map (fun i => (i.zero, i.size, i.bytes)) = some (some z, size, bytes)) (hzs : z.cells.size = size) (hsz : 0 < size) (hby : bytes ≤ 1000)
    (v : Value) (hs : a.eval s = v) (g : Nat) (hx : a.eval x = .slice (some ⟨g, 0, none⟩) 1 1) (cs : List Value) (hbox : Box w g cs.toArray e) (hcl : cs.length = size) (h1 : ∀ u ∈ cs, u.oneCell' = true)
    (ys : List α) (y : α) (hown : OwG E e size w base v ys) (hy : E w v.ownBlock cs y)
    (hE : ∀ (v' : Value) (w' : World), w.grownBy w' v.ownBlock → (v'.ownBlock = v.ownBlock ∨ ∃ k, v'.ownBlock = some k ∧ w.heap.size ≤ k) → ∀ cs y, E w v.ownBlock cs y → E w' v'.ownBlock cs y)
    (hlen : ys.length ≤ 1000000) (hbase : base ≤ w.heap.size)
    (h : ∀ (v' : Value) (w' : World), OwG E e size w' base v' (ys ++ [y]) → w.grownBy w' v.ownBlock → (v'.ownBlock = v.ownBlock ∨ ∃ b, v'.ownBlock = some b ∧ w.heap.size ≤ b) → wpList P ops Q rest (a.put o.dst v') w') :
    wpList P ops Q (o :: rest) a w := by
  obtain ⟨us, k1, k2⟩ := hown
  have hrd : RdS w size (.slice (some ⟨g, 0, none⟩) 1 1) 1 cs := by
    refine ⟨by omega, some ⟨g, 0, none⟩, 1, rfl, Nat.le_refl _, by decide, (fun h => by cases h), ?_⟩
    rintro ad had j u hu
    obtain rfl := Option.some.inj had
    have := Box.cell hbox j u (by simpa using hu)
    rw [Addr.add_mid]
    simpa using this
  have hb2 : (ys.length + 1) * bytes ≤ 140737488355328 := by
    have := Nat.mul_le_mul (show ys.length + 1 ≤ 1000001 by omega) hby
    omega
  refine wpList_app base hgd s x t e z size bytes ho ht hinfo hzs hsz v _ hs hx ys.length us k1 1 cs hrd h1 (by unfold maxLen; omega) hb2 hbase ?_
  intro v' w' ho' hg ht'
  exact h v' w' (OwG.app us k1 k2 hcl hy (hE v' w' hg ht') ho') hg ht'
/-- append(v, x) of one struct of many cells to a row of one's own, as a run's equation. -/
theorem run_appG {α : Type} {E : World → Option Nat → List Value → α → Prop} {w : World} (base : Nat) (t ty e : TypeId) (z : Value) (size bytes : Nat)
    (ht : P.underlying t = some (.slice e)) (hinfo : (P.info? e).map (fun i => (i.zero, i.size, i.bytes)) = some (some z, size, bytes)) (hzs : z.cells.size = size) (hsz : 0 < size) (hby : bytes ≤ 1000)
    (v : Value) (g : Nat) (cs : List Value) (hbox : Box w g cs.toArray e) (hcl : cs.length = size) (h1 : ∀ u ∈ cs, u.oneCell' = true)
    (ys : List α) (y : α) (hown : OwG E e size w base v ys) (hy : E w v.ownBlock cs y)
    (hE : ∀ (v' : Value) (w' : World), w.grownBy w' v.ownBlock → (v'.ownBlock = v.ownBlock ∨ ∃ k, v'.ownBlock = some k ∧ w.heap.size ≤ k) → ∀ cs y, E w v.ownBlock cs y → E w' v'.ownBlock cs y)
    (hlen : ys.length ≤ 1000000) (hbase : base ≤ w.heap.size) :
    ∃ v' w', (Builtin.append_ #[t, t] ty #[v, .slice (some ⟨g, 0, none⟩) 1 1]).run P w = .ok v' w' ∧ OwG E e size w' base v' (ys ++ [y]) ∧ w.grownBy w' v.ownBlock ∧ (v'.ownBlock = v.ownBlock ∨ ∃ b, v'.ownBlock = some b ∧ w.heap.size ≤ b) := by
  obtain ⟨us, k1, k2⟩ := hown
  obtain ⟨i, hi, hzz⟩ := Option.map_eq_some_iff.1 hinfo
  simp only [Prod.mk.injEq] at hzz
  obtain ⟨hz0, hz1, hz2⟩ := hzz
  have hrd : RdS w size (.slice (some ⟨g, 0, none⟩) 1 1) 1 cs := by
    refine ⟨by omega, some ⟨g, 0, none⟩, 1, rfl, Nat.le_refl _, by decide, (fun h => by cases h), ?_⟩
    rintro ad had j u hu
    obtain rfl := Option.some.inj had
    have := Box.cell hbox j u (by simpa using hu)
    rw [Addr.add_mid]
    simpa using this
  have hb2 : (ys.length + 1) * bytes ≤ 140737488355328 := by
    have := Nat.mul_le_mul (show ys.length + 1 ≤ 1000001 by omega) hby
    omega
  obtain ⟨v', w', hr, h2, h3, h4⟩ := run_app (P := P) w base t ty e i z size bytes ht hi hz0 hz1 hz2 hzs hsz v ys.length us k1 _ 1 cs hrd h1 (by unfold maxLen; omega) hb2 hbase
  exact ⟨v', w', hr, OwG.app us k1 k2 hcl hy (hE v' w' h3 h4) h2, h3, h4⟩
/-- The same at a step of a region that draws its order. -/
theorem step_appG {α : Type} {E : World → Option Nat → List Value → α → Prop} {ops : Array Oper} {o : Oper} {a : Act} {w : World} {K : Act → World → Prop} {Q : Exit → Act → World → Prop} {F : Prop} (base : Nat) (hgd : o.guard = none) (s x : Operand) (t e : TypeId) (z : Value) (size bytes : Nat)
    (ho : o.op = .call { callee := .builtin .append, args := #[s, x], argTypes := #[t, t] })
    (ht : P.underlying t = some (.slice e)) (hinfo : (P.info? e).map (fun i => (i.zero, i.size, i.bytes)) = some (some z, size, bytes)) (hzs : z.cells.size = size) (hsz : 0 < size) (hby : bytes ≤ 1000)
    (v : Value) (hs : a.eval s = v) (g : Nat) (hx : a.eval x = .slice (some ⟨g, 0, none⟩) 1 1) (cs : List Value) (hbox : Box w g cs.toArray e) (hcl : cs.length = size) (h1 : ∀ u ∈ cs, u.oneCell' = true)
    (ys : List α) (y : α) (hown : OwG E e size w base v ys) (hy : E w v.ownBlock cs y)
    (hE : ∀ (v' : Value) (w' : World), w.grownBy w' v.ownBlock → (v'.ownBlock = v.ownBlock ∨ ∃ k, v'.ownBlock = some k ∧ w.heap.size ≤ k) → ∀ cs y, E w v.ownBlock cs y → E w' v'.ownBlock cs y)
    (hlen : ys.length ≤ 1000000) (hbase : base ≤ w.heap.size)
    (h : ∀ (v' : Value) (w' : World), OwG E e size w' base v' (ys ++ [y]) → w.grownBy w' v.ownBlock → (v'.ownBlock = v.ownBlock ∨ ∃ b, v'.ownBlock = some b ∧ w.heap.size ≤ b) → K (a.put o.dst v') w') :
    if Region.wanted o (yielded ops a.tmps) = true then Oper.wp P o a w K Q else F := by
  obtain ⟨v', w', hr, h2, h3, h4⟩ := run_appG (P := P) base t o.type e z size bytes ht hinfo hzs hsz hby v g cs hbox hcl h1 ys y hown hy hE hlen hbase
  have hw : Region.wanted o (yielded ops a.tmps) = true := by simp [Region.wanted, hgd]
  rw [if_pos hw]
  unfold Oper.wp execOp
  simp only [ho, resolve, invoke, builtin, Sem.run_bind, Sem.run_pure, Result.andThen_ok, List.map_toArray, List.map_cons, List.map_nil, hs, hx, hr]
  exact h v' w' h2 h3 h4
end
/-- An input's zero. -/
def ZIn : Value := .agg (Z32 ++ [Value.int .u32 0, Value.slice none 0 0, Value.int .u32 0, Value.slice none 0 0]).toArray
theorem info55z : (Try.prog.info? 55).map (fun i => (i.zero, i.size, i.bytes)) = some (some ZIn, 36, 96) := info55
theorem zin_size : ZIn.cells.size = 36 := by kernel_rfl
end Go.Proofs.Ytfggkljgfadacaa.W
