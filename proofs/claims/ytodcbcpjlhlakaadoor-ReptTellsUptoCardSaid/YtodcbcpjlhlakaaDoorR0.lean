/- What is told: slices of bytes, of strings, of slices of bytes. -/
import Derived.Test.YtodcbcpjlhlakaaDoorProg
import Derived.Test.YtodcbcpjlhlakaaDoorBase
import Derived.Test.YtodcbcpjlhlakaaDoorBytes
import Derived.Test.YtodcbcpjlhlakaaDoorConv
import Derived.Deep.CutBlock
import Derived.Deep.DeepCutAuto
import Derived.Deep.LoopGhost
import Derived.Deep.MidRow
import Derived.Deep.WholeRow
import Derived.KernelRfl
import Derived.Laws.CopyOwn
import Derived.Lib.SliceRun
import Derived.LoopTactic
import Derived.Laws.Concat
import Derived.Deep.RegionHeld3
set_option linter.unusedVariables false
set_option linter.unusedSimpArgs false
namespace Go.Proofs.YtodcbcpjlhlakaaDoor.W
open Go.RowKit Go.Proofs.YtodcbcpjlhlakaaDoor.B Go.Proofs

theorem info5 : (Tryd.prog.info? 5).map (fun i => (i.zero, i.size, i.bytes)) = some (some (.int .u8 0), 1, 1) := by kernel_rfl
theorem size5 : (Tryd.prog.info? 5).map (·.size) = some 1 := by kernel_rfl
theorem info9 : (Tryd.prog.info? 9).map (fun i => (i.zero, i.size, i.bytes)) = some (some (.string ⟨#[]⟩), 1, 16) := by kernel_rfl
theorem info29 : (Tryd.prog.info? 29).map (fun i => (i.zero, i.size, i.bytes)) = some (some (.slice none 0 0), 1, 24) := by kernel_rfl
theorem below_al (w : World) (o : Obj) : Below w.heap.size w (w.alloc o) := (Below.refl _ _).alloc (Nat.le_refl _) o
theorem below_dr (w : World) : Below w.heap.size w w.drew := (Below.refl _ _).drew
/-- append(v, y...) of bytes, as a run's equation. -/
theorem run_appB (w : World) (base : Nat) (v : Value) (L : List UInt8) (hown : OwB w base 5 v L) (y : Value) (M : List UInt8) (hy : RdB w y M) (hlen : L.length + M.length ≤ 140737488355328) (hbase : base ≤ w.heap.size) :
    ∃ v' w', (Builtin.append_ #[29, 29] 29 #[v, y]).run Tryd.prog w = .ok v' w' ∧ OwB w' base 5 v' (L ++ M) ∧ w.grownBy w' v.ownBlock := by
  obtain ⟨i, hi, hzz⟩ := Option.map_eq_some_iff.1 info5
  simp only [Prod.mk.injEq] at hzz
  obtain ⟨hz0, hz1, hz2⟩ := hzz
  obtain ⟨v', w', hr, h2, h3, -⟩ := run_app (P := Tryd.prog) w base 29 29 5 i (.int .u8 0) 1 1 Tryd.underlying29 hi hz0 hz1 hz2 rfl (by decide) v L.length (L.map u8v) hown y M.length (M.map u8v) hy (u8v_one _) (by unfold maxLen; omega) (by omega) hbase
  refine ⟨v', w', hr, ?_, h3⟩
  unfold OwB
  rw [List.length_append, List.map_append]
  exact h2
/-- append(v, y...) of bytes, at a step of a region that draws its order. -/
theorem step_appB {ops : Array Oper} {o : Oper} {a : Act} {w : World} {K : Act → World → Prop} {Q : Exit → Act → World → Prop} {E : Prop} (hgd : o.guard = none) (s x : Operand) (ho : o.op = .call { callee := .builtin .append, args := #[s, x], argTypes := #[29, 29] }) (hty : o.type = 29)
    (base : Nat) (v : Value) (L : List UInt8) (hs : a.eval s = v) (hown : OwB w base 5 v L) (y : Value) (M : List UInt8) (hx : a.eval x = y) (hy : RdB w y M) (hlen : L.length + M.length ≤ 140737488355328) (hbase : base ≤ w.heap.size)
    (h : ∀ v' w', OwB w' base 5 v' (L ++ M) → w.grownBy w' v.ownBlock → K (a.put o.dst v') w') : if Region.wanted o (yielded ops a.tmps) = true then Oper.wp Tryd.prog o a w K Q else E := by
  obtain ⟨v', w', hr, h2, h3⟩ := run_appB w base v L hown y M hy hlen hbase
  have hw : Region.wanted o (yielded ops a.tmps) = true := by simp [Region.wanted, hgd]
  rw [if_pos hw]
  unfold Oper.wp execOp
  simp only [ho, resolve, invoke, builtin, Sem.run_bind, Sem.run_pure, Result.andThen_ok, List.map_toArray, List.map_cons, List.map_nil, hs, hx, hty, hr]
  exact h v' w' h2 h3
theorem wpList_appB {w : World} {ops : Array Oper} {rest : List Oper} {o : Oper} {a : Act} {Q : Exit → Act → World → Prop} (hgd : o.guard = none) (s x : Operand) (ho : o.op = .call { callee := .builtin .append, args := #[s, x], argTypes := #[29, 29] }) (hty : o.type = 29)
    (base : Nat) (v : Value) (L : List UInt8) (hs : a.eval s = v) (hown : OwB w base 5 v L) (y : Value) (M : List UInt8) (hx : a.eval x = y) (hy : RdB w y M) (hlen : L.length + M.length ≤ 140737488355328) (hbase : base ≤ w.heap.size)
    (h : ∀ v' w', OwB w' base 5 v' (L ++ M) → w.grownBy w' v.ownBlock → wpList Tryd.prog ops Q rest (a.put o.dst v') w') : wpList Tryd.prog ops Q (o :: rest) a w := by
  obtain ⟨v', w', hr, h2, h3⟩ := run_appB w base v L hown y M hy hlen hbase
  refine wpList_plain hgd fun K hK => ?_
  unfold Oper.wp execOp
  simp only [ho, resolve, invoke, builtin, Sem.run_bind, Sem.run_pure, Result.andThen_ok, List.map_toArray, List.map_cons, List.map_nil, hs, hx, hty, hr]
  exact hK _ _ (h v' w' h2 h3)
theorem OwB.below_of {w w' : World} {base : Nat} {v : Value} {L : List UInt8} (h : OwB w base 5 v L) (hg : w.grownBy w' v.ownBlock) {B : Nat} {w0 : World} (hb : Below B w0 w) (hB : B ≤ base) (hs : B ≤ w.heap.size) : Below B w0 w' :=
  hb.grown hg hs (fun k hk => Nat.le_trans hB (OwS.lt h k hk).1)
/-- Two new bytes in a block of their own. -/
theorem OwB.two (w : World) (base : Nat) (hb : base ≤ w.heap.size) (x y : UInt8) : OwB (w.alloc (.cells #[.int .u8 (x.toNat : Int), .int .u8 (y.toNat : Int)] 5)) base 5 (.slice (some ⟨w.heap.size, 0, none⟩) 2 2) [x, y] :=
  OwS.lit w base 5 1 2 #[.int .u8 (x.toNat : Int), .int .u8 (y.toNat : Int)] hb (by decide) rfl
/-- string(b) at a step of such a region. -/
theorem step_str {ops : Array Oper} {o : Oper} {a : Act} {w : World} {K : Act → World → Prop} {Q : Exit → Act → World → Prop} {F : Prop} (hgd : Region.wanted o (yielded ops a.tmps) = true) (x : Operand) (ho : o.op = .convert 29 9 x) (v : Value) (hx : a.eval x = v) (bs : List UInt8) (h : RdB w v bs)
    (hK : K (a.put o.dst (.string ⟨bs.toArray⟩)) w) : if Region.wanted o (yielded ops a.tmps) = true then Oper.wp Tryd.prog o a w K Q else F := by
  have hr := run_str (P := Tryd.prog) 29 9 5 Tryd.underlying29 Tryd.underlying5 Tryd.underlying9 h
  rw [if_pos hgd]
  unfold Oper.wp execOp
  simp only [ho, Sem.run_bind, hx, hr, Sem.run_pure, Result.andThen_ok]
  exact hK
/-- s + t of strings. -/
theorem run_cat {P : Program} (w : World) (t : TypeId) (L M : List UInt8) (h : L.length + M.length ≤ 9000000000000000000) : (binOp .add t (.string ⟨L.toArray⟩) (.string ⟨M.toArray⟩)).run P w = .ok (.string ⟨(L ++ M).toArray⟩) w := by
  rw [binOp_string_add, run_string_add_sum w _ _ (by simp [ByteArray.size]; omega), ByteArray.mk_append_mk]
theorem run_noGuard {P : Program} (w : World) (t : TypeId) (x y : Operand) (a b : Value) : (eqGuard .add t x y a b).run P w = .ok () w := by simp [eqGuard]
theorem exec_cat {P : Program} {ρ : Operand → Value} {op : Oper} {w : World} (x y : Operand) (ho : op.op = .binOp .add 9 x y 9) (L M : List UInt8) (hx : ρ x = .string ⟨L.toArray⟩) (hy : ρ y = .string ⟨M.toArray⟩) (h : L.length + M.length ≤ 9000000000000000000) :
    (execOp ρ op).run P w = .ok (.value (.string ⟨(L ++ M).toArray⟩)) w := by
  unfold execOp
  simp only [ho, hx, hy, Sem.run_bind, run_noGuard, run_cat w 9 L M h, Result.andThen_ok, Sem.run_pure]
theorem wpList_cat {P : Program} {w : World} {ops : Array Oper} {rest : List Oper} {o : Oper} {a : Act} {Q : Exit → Act → World → Prop} (hgd : o.guard = none) (x y : Operand) (ho : o.op = .binOp .add 9 x y 9) (L M : List UInt8) (hx : a.eval x = .string ⟨L.toArray⟩) (hy : a.eval y = .string ⟨M.toArray⟩) (h : L.length + M.length ≤ 9000000000000000000)
    (hK : wpList P ops Q rest (a.put o.dst (.string ⟨(L ++ M).toArray⟩)) w) : wpList P ops Q (o :: rest) a w := by
  refine wpList_plain hgd fun K hK' => ?_
  unfold Oper.wp execOp
  simp only [ho, hx, hy, Sem.run_bind, run_noGuard, run_cat w 9 L M h, Result.andThen_ok, Sem.run_pure]
  exact hK' _ _ hK
/-- A slice that reads as a list, each element so many cells. -/
def RdL {α : Type} (R : World → List Value → α → Prop) (size : Nat) (w : World) (v : Value) (xs : List α) : Prop :=
  ∃ A c, v = .slice A xs.length c ∧ xs.length ≤ c ∧ c ≤ maxLen ∧ (A = none → c = 0) ∧ ∀ ad, A = some ad → xs ≠ [] → ∃ g o, ad = ⟨g, o, none⟩ ∧ ∀ j x, xs[j]? = some x → ∃ cs : List Value, cs.length = size ∧ R w cs x ∧ w.rangeAt g (o + j * size) cs
def Stable {α : Type} (R : World → List Value → α → Prop) : Prop := ∀ w w' cs x, R w cs x → Below w.heap.size w w' → R w' cs x
theorem rangeAt_below {w w' : World} {g o : Nat} {cs : List Value} (h : w.rangeAt g o cs) (hb : Below w.heap.size w w') : w'.rangeAt g o cs := fun j v hv => cell_below hb (h j v hv)
theorem RdL.below {α : Type} {R : World → List Value → α → Prop} {size : Nat} {w w' : World} {v : Value} {xs : List α} (hR : Stable R) (h : RdL R size w v xs) (hb : Below w.heap.size w w') : RdL R size w' v xs := by
  obtain ⟨A, c, rfl, h1, h2, h3, h4⟩ := h
  refine ⟨A, c, rfl, h1, h2, h3, fun ad had hne => ?_⟩
  obtain ⟨g, o, rfl, h5⟩ := h4 ad had hne
  refine ⟨g, o, rfl, fun j x hx => ?_⟩
  obtain ⟨cs, h6, h7, h8⟩ := h5 j x hx
  exact ⟨cs, h6, hR _ _ _ _ h7 hb, rangeAt_below h8 hb⟩
theorem RdL.form {α : Type} {R : World → List Value → α → Prop} {size : Nat} {w : World} {v : Value} {xs : List α} (h : RdL R size w v xs) : ∃ A c, v = .slice A xs.length c ∧ xs.length ≤ c ∧ c ≤ maxLen ∧ (A = none → c = 0) := by
  obtain ⟨A, c, rfl, h1, h2, h3, h4⟩ := h
  exact ⟨A, c, rfl, h1, h2, h3⟩
/-- Its k-th element. -/
theorem RdL.at {α : Type} {R : World → List Value → α → Prop} {size : Nat} {w : World} {A : Option Addr} {n c : Nat} {xs : List α} (h : RdL R size w (.slice A n c) xs) (k : Nat) (x : α) (hk : xs[k]? = some x) :
    ∃ g o cs, A = some ⟨g, o, none⟩ ∧ cs.length = size ∧ R w cs x ∧ w.rangeAt g (o + k * size) cs := by
  obtain ⟨A', c', he, h1, h2, h3, h4⟩ := h
  injection he with e1 e2 e3
  subst e1 e2 e3
  have hlt : k < xs.length := (List.getElem?_eq_some_iff.1 hk).1
  rcases A with _ | ad
  · have := h3 rfl; omega
  · obtain ⟨g, o, rfl, h5⟩ := h4 ad rfl (fun e => by rw [e] at hlt; simp at hlt)
    obtain ⟨cs, h6, h7, h8⟩ := h5 k x hk
    exact ⟨g, o, cs, rfl, h6, h7, h8⟩
def ByC (w : World) (cs : List Value) (b : List UInt8) : Prop := ∃ v, cs = [v] ∧ RdB w v b
theorem ByC.stable : Stable ByC := by
  rintro w w' cs x ⟨v, rfl, h⟩ hb
  exact ⟨v, rfl, h.below hb⟩
/-- A slice of slices of bytes. -/
abbrev RdW (w : World) (v : Value) (ws : List (List UInt8)) : Prop := RdL ByC 1 w v ws
theorem RdW.below {w w' : World} {v : Value} {ws : List (List UInt8)} (h : RdW w v ws) (hb : Below w.heap.size w w') : RdW w' v ws := RdL.below ByC.stable h hb
theorem RdW.at {w : World} {A : Option Addr} {n c : Nat} {ws : List (List UInt8)} (h : RdW w (.slice A n c) ws) (k : Nat) (x : List UInt8) (hk : ws[k]? = some x) :
    ∃ g o B d, A = some ⟨g, o, none⟩ ∧ w.cell? ⟨g, o + k, none⟩ = some (.slice B x.length d) ∧ RdB w (.slice B x.length d) x := by
  obtain ⟨g, o, cs, rfl, h1, ⟨v, rfl, h2⟩, h3⟩ := RdL.at h k x hk
  obtain ⟨B, d, rfl, -⟩ := RdB.form h2
  have := h3 0 _ rfl
  exact ⟨g, o, B, d, rfl, by simpa using this, h2⟩
/-- 32 bytes of a name. -/
def IdC (w : World) (cs : List Value) (b : List UInt8) : Prop := cs = b.map u8v ∧ b.length = 32
theorem IdC.stable : Stable IdC := fun w w' cs x h _ => h
/-- A slice of names. -/
abbrev RdN (w : World) (v : Value) (ws : List (List UInt8)) : Prop := RdL IdC 32 w v ws
theorem RdN.below {w w' : World} {v : Value} {ws : List (List UInt8)} (h : RdN w v ws) (hb : Below w.heap.size w w') : RdN w' v ws := RdL.below IdC.stable h hb
/-- Strings in a row of one's own. -/
def str (l : List UInt8) : Value := .string ⟨l.toArray⟩
theorem str_one (xs : List (List UInt8)) : ∀ v ∈ xs.map str, v.oneCell' = true := by
  intro v hv
  obtain ⟨x, _, rfl⟩ := List.mem_map.1 hv
  rfl
abbrev OwT (w : World) (base : Nat) (v : Value) (xs : List (List UInt8)) : Prop := OwS w base 9 1 v xs.length (xs.map str)
end Go.Proofs.YtodcbcpjlhlakaaDoor.W
