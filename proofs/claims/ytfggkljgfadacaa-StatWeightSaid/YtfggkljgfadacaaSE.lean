/- Layer 8: what turns StatForms' transaction. -/
import Derived.Test.YtfggkljgfadacaaSD
set_option linter.unusedVariables false
set_option linter.unusedSimpArgs false
namespace Go.Proofs.Ytfggkljgfadacaa.W
open Go.RowKit Go.Proofs.Ytfggkljgfadacaa.B Go.Proofs

theorem wpList_appM {P : Program} {α : Type} {E R : World → Option Nat → List Value → α → Prop} {w : World} {ops : Array Oper} {rest : List Oper} {o : Oper} {a : Act} {Q : Exit → Act → World → Prop} (base : Nat) (hgd : o.guard = none) (s x : Operand) (t e : TypeId) (z : Value) (size bytes : Nat)
    (ho : o.op = .call { callee := .builtin .append, args := #[s, x], argTypes := #[t, t] })
    (ht : P.underlying t = some (.slice e)) (hinfo : (P.info? e).map (fun i => (i.zero, i.size, i.bytes)) = some (some z, size, bytes)) (hzs : z.cells.size = size) (hsz : 0 < size) (hby : bytes ≤ 1000)
    (v : Value) (hs : a.eval s = v) (y : Value) (hx : a.eval x = y) (ys xs : List α) (hown : OwG E e size w base v ys) (hy : RdL (fun w cs x => R w v.ownBlock cs x) size w y xs) (hone : ∀ cs x, R w v.ownBlock cs x → ∀ u ∈ cs, u.oneCell' = true)
    (hE : ∀ (v' : Value) (w' : World), w.grownBy w' v.ownBlock → (v'.ownBlock = v.ownBlock ∨ ∃ k, v'.ownBlock = some k ∧ w.heap.size ≤ k) → (∀ cs x, E w v.ownBlock cs x → E w' v'.ownBlock cs x) ∧ ∀ cs x, R w v.ownBlock cs x → E w' v'.ownBlock cs x)
    (hlen : ys.length + xs.length ≤ 1000000) (hbase : base ≤ w.heap.size)
    (h : ∀ v' w', OwG E e size w' base v' (ys ++ xs) → w.grownBy w' v.ownBlock → (v'.ownBlock = v.ownBlock ∨ ∃ b, v'.ownBlock = some b ∧ w.heap.size ≤ b) → wpList P ops Q rest (a.put o.dst v') w') : wpList P ops Q (o :: rest) a w := by
  obtain ⟨v', w', hr, h2, h3, h4⟩ := run_appM (P := P) (E := E) (R := R) base t o.type e z size bytes ht hinfo hzs hsz hby v ys hown y xs hy hone hE hlen hbase
  refine wpList_plain hgd fun K hK => ?_
  unfold Oper.wp execOp
  simp only [ho, resolve, invoke, builtin, Sem.run_bind, Sem.run_pure, Result.andThen_ok, List.map_toArray, List.map_cons, List.map_nil, hs, hx, hr]
  exact hK _ _ (h v' w' h2 h3 h4)
theorem step_appM {P : Program} {α : Type} {E R : World → Option Nat → List Value → α → Prop} {w : World} {ops : Array Oper} {o : Oper} {a : Act} {K : Act → World → Prop} {Q : Exit → Act → World → Prop} {F : Prop} (base : Nat) (hgd : o.guard = none) (s x : Operand) (t e : TypeId) (z : Value) (size bytes : Nat)
    (ho : o.op = .call { callee := .builtin .append, args := #[s, x], argTypes := #[t, t] })
    (ht : P.underlying t = some (.slice e)) (hinfo : (P.info? e).map (fun i => (i.zero, i.size, i.bytes)) = some (some z, size, bytes)) (hzs : z.cells.size = size) (hsz : 0 < size) (hby : bytes ≤ 1000)
    (v : Value) (hs : a.eval s = v) (y : Value) (hx : a.eval x = y) (ys xs : List α) (hown : OwG E e size w base v ys) (hy : RdL (fun w cs x => R w v.ownBlock cs x) size w y xs) (hone : ∀ cs x, R w v.ownBlock cs x → ∀ u ∈ cs, u.oneCell' = true)
    (hE : ∀ (v' : Value) (w' : World), w.grownBy w' v.ownBlock → (v'.ownBlock = v.ownBlock ∨ ∃ k, v'.ownBlock = some k ∧ w.heap.size ≤ k) → (∀ cs x, E w v.ownBlock cs x → E w' v'.ownBlock cs x) ∧ ∀ cs x, R w v.ownBlock cs x → E w' v'.ownBlock cs x)
    (hlen : ys.length + xs.length ≤ 1000000) (hbase : base ≤ w.heap.size)
    (h : ∀ v' w', OwG E e size w' base v' (ys ++ xs) → w.grownBy w' v.ownBlock → (v'.ownBlock = v.ownBlock ∨ ∃ b, v'.ownBlock = some b ∧ w.heap.size ≤ b) → K (a.put o.dst v') w') : if Region.wanted o (yielded ops a.tmps) = true then Oper.wp P o a w K Q else F := by
  obtain ⟨v', w', hr, h2, h3, h4⟩ := run_appM (P := P) (E := E) (R := R) base t o.type e z size bytes ht hinfo hzs hsz hby v ys hown y xs hy hone hE hlen hbase
  rw [if_pos (by simp [Region.wanted, hgd])]
  unfold Oper.wp execOp
  simp only [ho, resolve, invoke, builtin, Sem.run_bind, Sem.run_pure, Result.andThen_ok, List.map_toArray, List.map_cons, List.map_nil, hs, hx, hr]
  exact h v' w' h2 h3 h4
/-- A block of two outputs. -/
theorem rdOuts_two {α : Type} {R : World → List Value → α → Prop} {W : World} {g : Nat} {a0 s0 a1 s1 : Value} {y0 y1 : α} (hb : Box W g #[a0, s0, a1, s1] 57) (h0 : R W [a0, s0] y0) (h1 : R W [a1, s1] y1) : RdL R 2 W (.slice (some ⟨g, 0, none⟩) 2 2) [y0, y1] := by
  refine ⟨some ⟨g, 0, none⟩, 2, rfl, Nat.le_refl _, by decide, (fun h => by cases h), fun ad had => ?_⟩
  obtain rfl := Option.some.inj had
  refine ⟨g, 0, rfl, fun j y hj => ?_⟩
  rcases j with _ | _ | j
  · simp at hj
    subst hj
    refine ⟨[a0, s0], rfl, h0, fun k u hu => ?_⟩
    rcases k with _ | _ | k
    · simp at hu; subst hu; exact hb.cell 0 _ rfl
    · simp at hu; subst hu; exact hb.cell 1 _ rfl
    · simp at hu
  · simp at hj
    subst hj
    refine ⟨[a1, s1], rfl, h1, fun k u hu => ?_⟩
    rcases k with _ | _ | k
    · simp at hu; subst hu; exact hb.cell 2 _ rfl
    · simp at hu; subst hu; exact hb.cell 3 _ rfl
    · simp at hu
  · simp at hj
theorem owOuts_two {α : Type} {E : World → Option Nat → List Value → α → Prop} {W : World} {base : Nat} {a0 s0 a1 s1 : Value} {y0 y1 : α} (hb : base ≤ W.heap.size) (h0 : E (W.alloc (.cells #[a0, s0, a1, s1] 57)) (some W.heap.size) [a0, s0] y0) (h1 : E (W.alloc (.cells #[a0, s0, a1, s1] 57)) (some W.heap.size) [a1, s1] y1) : OwG E 57 2 (W.alloc (.cells #[a0, s0, a1, s1] 57)) base (.slice (some ⟨W.heap.size, 0, none⟩) 2 2) [y0, y1] := by
  refine ⟨[a0, s0, a1, s1], OwS.lit W base 57 2 2 #[a0, s0, a1, s1] hb (by decide) rfl, fun i y hy => ?_⟩
  rcases i with _ | _ | i
  · simp at hy; subst hy; exact h0
  · simp at hy; subst hy; exact h1
  · simp at hy
section
variable {E E' : World → Option Nat → List Value → LOut → Prop} {w w0 W W' : World} {G : Nat} {v0 iv ov v3 : Value} {t : LTx}
/-- The outputs' row anew into the transaction. -/
theorem FS.putO (h : FS E w w0 W G [v0, iv, ov, v3] t) (hE' : GoodE w0 E') {row : Option Nat} (hg : W.grownBy W' row) (hk : Kd W row 57) (hr : ∀ k, row = some k → w0.heap.size ≤ k) {v : Value} {ys : List LOut} (ho : OwG E' 57 2 W' w0.heap.size v ys) :
    FS E' w w0 (W'.setCell ⟨G, 2, none⟩ v) G [v0, iv, v, v3] { t with outs := ys } := by
  obtain ⟨h1, h2, h3, h4, iv', ov', he, h5, h6, h7⟩ := h
  injection he with e0 he
  injection he with e1 he
  injection he with e2 he
  injection he with e3 _
  subst e0 e1 e2 e3
  have b3 := h3.apartO hg hk (by decide)
  have gset := grown_set W' G 2 v
  have hk2 : Kd W' (some G) 51 := b3.kd
  refine ⟨h1, (h2.grown hg h2.size hr).setCell h4 _, Box.set (cs := [_, _, _, _]) b3 2 v, h4, _, _, rfl, (h5.apartG hg hk (by decide) (fun _ _ h => h)).apartG gset hk2 (by decide) (fun _ _ h => h), ?_, h7⟩
  exact ho.apartG gset hk2 (by decide) (fun cs y h => hE'.apart _ _ _ _ _ cs y gset hk2 (by decide) h)
/-- The inputs' row anew into the transaction. -/
theorem FS.putI (h : FS E w w0 W G [v0, iv, ov, v3] t) (hE : GoodE w0 E) {row : Option Nat} (hg : W.grownBy W' row) (hk : Kd W row 55) (hr : ∀ k, row = some k → w0.heap.size ≤ k) {v : Value} {xs : List LIn} (ho : OwG (EI8 w0) 55 36 W' w0.heap.size v xs) :
    FS E w w0 (W'.setCell ⟨G, 1, none⟩ v) G [v0, v, ov, v3] { t with ins := xs } := by
  obtain ⟨h1, h2, h3, h4, iv', ov', he, h5, h6, h7⟩ := h
  injection he with e0 he
  injection he with e1 he
  injection he with e2 he
  injection he with e3 _
  subst e0 e1 e2 e3
  have b3 := h3.apartO hg hk (by decide)
  have gset := grown_set W' G 1 v
  have hk2 : Kd W' (some G) 51 := b3.kd
  refine ⟨h1, (h2.grown hg h2.size hr).setCell h4 _, Box.set (cs := [_, _, _, _]) b3 1 v, h4, _, _, rfl, ho.apartG gset hk2 (by decide) (fun _ _ h => h), ?_, h7⟩
  exact (h6.apartG hg hk (by decide) (fun cs y h => hE.apart _ _ _ _ _ cs y hg hk (by decide) h)).apartG gset hk2 (by decide) (fun cs y h => hE.apart _ _ _ _ _ cs y gset hk2 (by decide) h)
theorem FS.outs (h : FS E w w0 W G [v0, iv, ov, v3] t) : OwG E 57 2 W w0.heap.size ov t.outs := by
  obtain ⟨h1, h2, h3, h4, iv', ov', he, h5, h6, h7⟩ := h
  injection he with e0 he
  injection he with e1 he
  injection he with e2 he
  subst e2
  exact h6
theorem FS.ins8 (h : FS E w w0 W G [v0, iv, ov, v3] t) : OwG (EI8 w0) 55 36 W w0.heap.size iv t.ins := by
  obtain ⟨h1, h2, h3, h4, iv', ov', he, h5, h6, h7⟩ := h
  injection he with e0 he
  injection he with e1 he
  subst e1
  exact h5
theorem FS.size (h : FS E w w0 W G [v0, iv, ov, v3] t) : w0.heap.size ≤ W.heap.size := h.2.1.size
end
def dataO : LOut := ⟨0, [106]⟩
theorem litD (W : World) (base : Nat) (hb : base ≤ W.heap.size) : OwC (W.alloc (.cells #[.int .u8 106] 5)) base (.slice (some ⟨W.heap.size, 0, none⟩) 1 1) [106] := .inl (OwS.mono (owB_lit W 1 #[.int .u8 106] [106] rfl rfl (by decide)) hb)
set_option maxHeartbeats 1000000 in
set_option maxRecDepth 100000 in
theorem data_any {w w0 W : World} {G : Nat} {cs : List Value} {t : LTx} (h : FS (EP8 w0) w w0 W G cs t) (hn : t.outs.length ≤ 100) :
    Calls Try.prog 39 #[.pointer (some ⟨G, 0, none⟩)] W fun e w' => e = .returned (.tuple #[]) ∧ ∃ cs', FS (EO8 w0) w w0 w' G cs' { t with outs := t.outs ++ [dataO, dataO] } := by
  obtain ⟨AI, cI, AO, cO, rfl⟩ := h.form
  have ha := below_al W (.cells #[.int .u8 106] 5)
  have hb := below_al (W.alloc (.cells #[.int .u8 106] 5)) (.cells #[.int .u8 106] 5)
  have hc := below_al ((W.alloc (.cells #[.int .u8 106] 5)).alloc (.cells #[.int .u8 106] 5)) (.cells #[.int .u64 0, .slice (some ⟨W.heap.size, 0, none⟩) 1 1, .int .u64 0, .slice (some ⟨W.heap.size + 1, 0, none⟩) 1 1] 57)
  have H3 := As.mk (((h.weak.below (goodO8 w0) ha).below (goodO8 w0) hb).below (goodO8 w0) hc)
  have hsz := h.size
  have hown : ∀ k, (Value.slice AO t.outs.length cO).ownBlock = some k → k < W.heap.size := fun k hk => (OwG.lt h.outs k hk).2
  have HL : As (t.outs.length ≤ 100) := ⟨hn⟩
  have HY : As (RdL (fun w cs y => EO8 w0 w (Value.slice AO t.outs.length cO).ownBlock cs y) 2 (((W.alloc (.cells #[.int .u8 106] 5)).alloc (.cells #[.int .u8 106] 5)).alloc (.cells #[.int .u64 0, .slice (some ⟨W.heap.size, 0, none⟩) 1 1, .int .u64 0, .slice (some ⟨W.heap.size + 1, 0, none⟩) 1 1] 57)) (.slice (some ⟨W.heap.size + 2, 0, none⟩) 2 2) [dataO, dataO]) := ⟨by
    have hbx := Box.new ((W.alloc (.cells #[.int .u8 106] 5)).alloc (.cells #[.int .u8 106] 5)) #[.int .u64 0, .slice (some ⟨W.heap.size, 0, none⟩) 1 1, .int .u64 0, .slice (some ⟨W.heap.size + 1, 0, none⟩) 1 1] 57
    have e : ((W.alloc (.cells #[.int .u8 106] 5)).alloc (.cells #[.int .u8 106] 5)).heap.size = W.heap.size + 2 := by simp
    rw [e] at hbx
    refine rdOuts_two hbx ⟨_, rfl, by decide, .inr ⟨((litD W w0.heap.size hsz).below hb).below hc, fun k hk e => ?_⟩⟩ ⟨_, rfl, by decide, .inr ⟨?_, fun k hk e => ?_⟩⟩
    · simp [Value.ownBlock] at hk
      have := hown k e
      omega
    · have := litD (W.alloc (.cells #[.int .u8 106] 5)) w0.heap.size (Nat.le_trans hsz ha.size)
      have e2 : (W.alloc (.cells #[.int .u8 106] 5)).heap.size = W.heap.size + 1 := by simp
      rw [e2] at this
      exact this.below hc
    · simp [Value.ownBlock] at hk
      have := hown k e
      omega⟩
  obtain ⟨q0, q1, q2, q3, _⟩ := h.four
  have r2 := cell_of_below hc (cell_of_below hb (cell_of_below ha q2))
  clear ha hb hc hown hsz hn h
  go_enter Try.func39, Try.ntmps39
  go_wp2_with (at_builtin; refine wpList_appM (E := EO8 w0) (R := EO8 w0) w0.heap.size rfl (.tmp 2) (.tmp 7) 49 57 (.agg #[.int .u64 0, .slice none 0 0]) 2 32 rfl Try.underlying49 info57 rfl (by decide) (by decide) (.slice AO t.outs.length cO) rfl (.slice (some ⟨W.heap.size + 2, 0, none⟩) 2 2) rfl t.outs [dataO, dataO] H3.out.outs HY.out EO8.one (fun v' w' hg ht => ⟨EO8.grow hg ht, EO8.grow hg ht⟩) (by have := HL.out; simp; omega) H3.out.size ?_; intro v4 w4 ho hg ht; obtain ⟨A4, c4, h4⟩ := OwG.form ho; rw [List.length_append] at h4; subst h4; have HF := As.mk (H3.out.putO (goodO8 w0) hg H3.out.outs.kd (fun k hk => (OwG.lt H3.out.outs k hk).1) ho); have HB4 := As.mk (Box.apartO H3.out.2.2.1 hg H3.out.outs.kd (by decide)); obtain ⟨d0, d1, d2, d3, fz⟩ := Box.four HB4.out; clear ho hg ht)
  go_end0
  exact ⟨rfl, _, HF.out⟩
end Go.Proofs.Ytfggkljgfadacaa.W
namespace Go.Proofs.Ytfggkljgfadacaa.W
open Go.RowKit Go.Proofs.Ytfggkljgfadacaa.B Go.Proofs

def dustO : LOut := ⟨0, scriptB 0⟩
set_option maxHeartbeats 1000000 in
set_option maxRecDepth 100000 in
theorem dust8_any {w w0 W : World} {G : Nat} {cs : List Value} {t : LTx} (h : FS (EP8 w0) w w0 W G cs t) (hn : t.outs.length ≤ 100) :
    Calls Try.prog 41 #[.pointer (some ⟨G, 0, none⟩)] W fun e w' => e = .returned (.tuple #[]) ∧ ∃ cs', FS (EO8 w0) w w0 w' G cs' { t with outs := [dustO, dustO] ++ t.outs } := by
  obtain ⟨AI, cI, AO, cO, rfl⟩ := h.form
  have HF0 := As.mk h
  have HL : As (t.outs.length ≤ 100) := ⟨hn⟩
  clear h hn
  go_enter Try.func41, Try.ntmps41
  go_upto_region 1 with (go_at_call 42; (with_reducible refine (script_any 0 _).mono ?_); rintro e w3 ⟨sv, rfl, ho, hb⟩; obtain ⟨As3, cs3, rfl⟩ := RdB.formN (n := 4) ho.rd rfl; have HS3 := As.mk (OwC.mono ho HF0.out.size); have HF3 := As.mk (HF0.out.below (goodP8 w0) hb); clear ho hb)
  have HB4 : As (Box (w3.alloc (.cells #[.int .u64 0, .slice As3 4 cs3] 57)) w3.heap.size #[.int .u64 0, .slice As3 4 cs3] 57) := ⟨Box.new _ _ _⟩
  have HS4 := As.mk (OwC.below HS3.out (below_al w3 (.cells #[.int .u64 0, .slice As3 4 cs3] 57)))
  have HF4 := As.mk (HF3.out.below (goodP8 w0) (below_al w3 (.cells #[.int .u64 0, .slice As3 4 cs3] 57)))
  obtain ⟨D, hD⟩ : ∃ D, D = w3.heap.size := ⟨_, rfl⟩
  rw [← hD] at HB4 ⊢
  clear hD HF3 HS3
  change Code.wp _ _ _ _ (w3.alloc (.cells #[.int .u64 0, .slice As3 4 cs3] 57))
  generalize w3.alloc (.cells #[.int .u64 0, .slice As3 4 cs3] 57) = W4 at HB4 HS4 HF4 ⊢
  have hp := below_al W4 (.cells #[.int .u64 0, .slice As3 4 cs3, .int .u64 0, .slice As3 4 cs3] 57)
  have HF5 := As.mk (HF4.out.below (goodP8 w0) hp)
  have HEL : As (EO8 w0 (W4.alloc (.cells #[.int .u64 0, .slice As3 4 cs3, .int .u64 0, .slice As3 4 cs3] 57)) (some W4.heap.size) [.int .u64 0, .slice As3 4 cs3] dustO) := ⟨_, rfl, by decide, .inr ⟨HS4.out.below hp, fun k hk e => by have := (OwC.lt HS4.out k hk).2; injection e with e; omega⟩⟩
  have HPO : As (OwG (EO8 w0) 57 2 (W4.alloc (.cells #[.int .u64 0, .slice As3 4 cs3, .int .u64 0, .slice As3 4 cs3] 57)) w0.heap.size (.slice (some ⟨W4.heap.size, 0, none⟩) 2 2) [dustO, dustO]) := ⟨owOuts_two HF4.out.size HEL.out HEL.out⟩
  have HY : As (RdL (fun w cs y => EO8 w0 w (Value.slice (some ⟨W4.heap.size, 0, none⟩) 2 2).ownBlock cs y) 2 (W4.alloc (.cells #[.int .u64 0, .slice As3 4 cs3, .int .u64 0, .slice As3 4 cs3] 57)) (.slice AO t.outs.length cO) t.outs) := ⟨RdL.imp (R := fun _ cs y => OutC w0 cs y) (fun cs y h => EP8.weak (own := some W4.heap.size) cs y h) (OwG.rd (R := fun _ cs y => OutC w0 cs y) (fun w' own cs x hx => hx) HF5.out.outs)⟩
  obtain ⟨q0, q1, q2, q3, _⟩ := HF4.out.four
  have r2 := cell_of_below hp q2
  have d0 := HB4.out.cell 0 _ rfl
  have d1 := HB4.out.cell 1 _ rfl
  clear hp
  go_wp2_with (at_builtin; refine wpList_appM (E := EO8 w0) (R := EO8 w0) w0.heap.size rfl (.tmp 6) (.tmp 8) 49 57 (.agg #[.int .u64 0, .slice none 0 0]) 2 32 rfl Try.underlying49 info57 rfl (by decide) (by decide) (.slice (some ⟨W4.heap.size, 0, none⟩) 2 2) rfl (.slice AO t.outs.length cO) rfl [dustO, dustO] t.outs HPO.out HY.out EO8.one (fun v' w' hg ht => ⟨EO8.grow hg ht, EO8.grow hg ht⟩) (by have := HL.out; simp; omega) HF5.out.size ?_; intro v4 w4 ho hg ht; obtain ⟨A4, c4, h4⟩ := OwG.form ho; rw [List.length_append] at h4; subst h4; have HF := As.mk (HF5.out.putO (goodO8 w0) hg HPO.out.kd (fun k hk => (OwG.lt HPO.out k hk).1) ho); have HB6 := As.mk (Box.apartO HF5.out.2.2.1 hg HPO.out.kd (by decide)); obtain ⟨p0, p1, p2, p3, fz⟩ := Box.four HB6.out; clear ho hg ht)
  go_end0
  exact ⟨rfl, _, HF.out⟩
/-- Its first input's name turned, byte by byte. -/
theorem setPrev {w0 : World} {base g o n c : Nat} : ∀ (bs : List UInt8) (j : Nat) (W : World) (xs : List LIn) (x : LIn), xs[0]? = some x → x.prev.length = 32 → j + bs.length ≤ 32 → OwG (EI8 w0) 55 36 W base (.slice (some ⟨g, o, none⟩) n c) xs →
    OwG (EI8 w0) 55 36 (W.setCells g (o + j) (bs.map u8v)) base (.slice (some ⟨g, o, none⟩) n c) (xs.set 0 { x with prev := x.prev.take j ++ bs ++ x.prev.drop (j + bs.length) })
  | [], j, W, xs, x, hx, hl, hj, h => by
    have hlt := (List.getElem?_eq_some_iff.1 hx).1
    have e1 : x.prev.take j ++ [] ++ x.prev.drop (j + ([] : List UInt8).length) = x.prev := by simp
    have e2 : xs.set 0 x = xs := by
      have hx0 : xs[0] = x := (List.getElem?_eq_some_iff.1 hx).2
      rw [← hx0]; exact List.set_getElem_self hlt
    rw [e1]
    show OwG (EI8 w0) 55 36 W base _ (xs.set 0 x)
    rw [e2]
    exact h
  | b :: bs, j, W, xs, x, hx, hl, hj, h => by
    have hlt := (List.getElem?_eq_some_iff.1 hx).1
    simp only [List.length_cons] at hj
    have q := OwG.set h 0 x { x with prev := x.prev.set j b } hx j (by omega) (u8v b) (fun cs _ hc => by
      obtain ⟨sv, wv, rfl, r0, r1, r2, r3, r4⟩ := hc
      refine ⟨sv, wv, ?_, by rw [List.length_set]; exact r0, r1, r2, r3, r4⟩
      rw [List.set_append_left _ _ (by rw [List.length_map]; omega), List.map_set]) (fun cs y hc => hc)
    rw [Nat.zero_mul, Nat.zero_add] at q
    have ih := setPrev bs (j + 1) _ _ { x with prev := x.prev.set j b } (List.getElem?_set_self hlt) (by rw [List.length_set]; exact hl) (by omega) q
    rw [List.set_set] at ih
    have e : (x.prev.set j b).take (j + 1) ++ bs ++ (x.prev.set j b).drop (j + 1 + bs.length) = x.prev.take j ++ (b :: bs) ++ x.prev.drop (j + (b :: bs).length) := by
      rw [List.drop_set_of_lt (by omega), List.length_cons, show j + 1 + bs.length = j + (bs.length + 1) by omega]
      have : (x.prev.set j b).take (j + 1) = x.prev.take j ++ [b] := by
        rw [List.take_add_one, List.getElem?_set_self (by omega), List.take_set_of_le (Nat.le_refl j)]
        rfl
      rw [this]
      simp
    dsimp only at ih
    rw [e] at ih
    exact ih
theorem FS.null {E : World → Option Nat → List Value → LOut → Prop} {w w0 W : World} {G g o n cI : Nat} {v0 ov v3 : Value} {t : LTx} (h : FS E w w0 W G [v0, .slice (some ⟨g, o, none⟩) n cI, ov, v3] t) (hE : GoodE w0 E) (x : LIn) (hx : t.ins[0]? = some x) (hl : x.prev.length = 32) (zs : List Value) (hz : zs = (zB 32).map u8v) :
    W.there g o 32 ∧ (∃ t1, FS E w w0 (W.setCells g o zs) G [v0, .slice (some ⟨g, o, none⟩) n cI, ov, v3] t1) ∧ ((W.setCells g o zs).cell? ⟨g, o + 32, none⟩).isSome = true ∧ (W.setCells g o zs).frozen? ⟨g, o + 32, none⟩ = false ∧
      FS E w w0 ((W.setCells g o zs).setCell ⟨g, o + 32, none⟩ (.int .u32 4294967295)) G [v0, .slice (some ⟨g, o, none⟩) n cI, ov, v3] { t with ins := t.ins.set 0 { x with prev := zB 32, vout := 4294967295 } } := by
  have hins := h.ins8
  have hz32 := zB32_length
  obtain ⟨zb, hzb⟩ : ∃ z, z = zB 32 := ⟨_, rfl⟩
  rw [← hzb] at hz hz32 ⊢
  have hlt := (List.getElem?_eq_some_iff.1 hx).1
  obtain ⟨g', o', he, hg0, hg1, hcf⟩ := OwG.block hins 0 hlt
  injection he with he
  injection he with he1 he2
  subst he1 he2
  simp only [Nat.zero_mul, Nat.zero_add] at hcf
  have hkd : Kd W (some g) 55 := hins.kd
  have q1 := setPrev zb 0 W t.ins x hx hl (by omega) hins
  simp only [Nat.add_zero, List.take_zero, List.nil_append, Nat.zero_add] at q1
  have e1 : zb ++ x.prev.drop zb.length = zb := by rw [hz32, List.drop_of_length_le (by omega), List.append_nil]
  rw [e1, ← hz] at q1
  have hgr : ∀ (vs : List Value) (k : Nat) (V : World), V.grownBy (V.setCells g k vs) (some g) := by
    intro vs
    induction vs with
    | nil => intro k V; exact World.grownBy.refl V _
    | cons v vs ih => intro k V; exact grown_trans (grown_set V g k v) (ih (k + 1) _)
  have hg := hgr zs o W
  have mk : ∀ {W' : World} {xs : List LIn}, W.grownBy W' (some g) → OwG (EI8 w0) 55 36 W' w0.heap.size (.slice (some ⟨g, o, none⟩) n cI) xs → FS E w w0 W' G [v0, .slice (some ⟨g, o, none⟩) n cI, ov, v3] { t with ins := xs } := by
    intro W' xs hg hxs
    obtain ⟨h1, h2, h3, h4, iv', ov', he, h5, h6, h7⟩ := h
    injection he with e0 he
    injection he with e1 he
    injection he with e2 he
    injection he with e3 _
    subst e0 e1 e2 e3
    exact ⟨h1, h2.grown hg h2.size (fun k hk => by injection hk with hk; omega), h3.apartO hg hkd (by decide), h4, _, _, rfl, hxs, h6.apartG hg hkd (by decide) (fun cs y h => hE.apart _ _ _ _ _ cs y hg hkd (by decide) h), h7⟩
  obtain ⟨g', o', he, _, _, hcf2⟩ := OwG.block q1 0 (by rw [List.length_set]; exact hlt)
  injection he with he
  injection he with he1 he2
  subst he1 he2
  simp only [Nat.zero_mul, Nat.zero_add] at hcf2
  have q2 := OwG.set q1 0 { x with prev := zb } { x with prev := zb, vout := 4294967295 } (List.getElem?_set_self hlt) 32 (by decide) (.int .u32 4294967295) (fun cs _ hc => by
    obtain ⟨sv, wv, rfl, r0, r1, r2, r3, r4⟩ := hc
    refine ⟨sv, wv, ?_, r0, r1, r2, (by show (4294967295 : Nat) < 4294967296; decide), r4⟩
    rw [List.set_append_right _ _ (by rw [List.length_map]; omega), List.length_map, r0]
    rfl) (fun cs y hc => hc)
  rw [Nat.zero_mul, Nat.zero_add, List.set_set] at q2
  exact ⟨fun j hj => hcf j (by omega), ⟨_, mk hg q1⟩, (hcf2 32 (by decide)).1, (hcf2 32 (by decide)).2, mk (grown_trans hg (grown_set _ _ _ _)) q2⟩
set_option maxHeartbeats 1000000 in
set_option maxRecDepth 100000 in
theorem null8_any {E : World → Option Nat → List Value → LOut → Prop} {w w0 W : World} {G : Nat} {cs : List Value} {t : LTx} (h : FS E w w0 W G cs t) (hE : GoodE w0 E) (x : LIn) (hx : t.ins[0]? = some x) (hl : x.prev.length = 32) :
    Calls Try.prog 36 #[.pointer (some ⟨G, 0, none⟩)] W fun e w' => e = .returned (.tuple #[]) ∧ ∃ cs', FS E w w0 w' G cs' { t with ins := t.ins.set 0 { x with prev := zB 32, vout := 4294967295 } } := by
  obtain ⟨AI, cI, AO, cO, rfl⟩ := h.form
  have hn : 0 < t.ins.length := (List.getElem?_eq_some_iff.1 hx).1
  obtain ⟨g, o, rfl, _⟩ := OwG.block h.ins8 0 hn
  have HF0 := As.mk (h.below hE (below_dr W))
  obtain ⟨pz, hpz⟩ : ∃ z, z = (zB 32).map u8v := ⟨_, rfl⟩
  have HPZ := As.mk hpz
  obtain ⟨hth, ⟨t1, hf1⟩, hc, hf, hf2⟩ := FS.null HF0.out hE x hx hl pz hpz
  have HTH := As.mk hth
  have HF1 := As.mk hf1
  have HC32 := As.mk (And.intro hc hf)
  have HF2 := As.mk hf2
  have HPL : As (pz.length = 32) := ⟨by rw [hpz, List.length_map]; exact zB32_length⟩
  have HP1 : As (∀ v ∈ pz, v.oneCell' = true) := ⟨by rw [hpz]; exact u8v_one _⟩
  clear h hx hl hth hf1 hc hf hf2 hpz
  go_enter Try.func36, Try.ntmps36
  refine wp_region_held_drew (S := (fun V : World => V.cell? ⟨G, 1, none⟩ = some (.slice (some ⟨g, o, none⟩) t.ins.length cI))) (by kernel_rfl) ?_ (fun hHeld => ?_)
  · exact HF0.out.four.2.1
  refine wpAnyH_take (i := 0) (oi := ?_) (v := ?_) (by simp only [List.getElem?_toArray, List.getElem?_cons_zero, List.getElem?_cons_succ]; rfl) (by kernel_rfl) (by kernel_rfl) (by kernel_rfl) (by exact fun _ _ _ h => h) (Or.inl ⟨by rfl, ?_⟩) (by assumption) ?_
  rotate_left
  · (intro w hSw; (try dsimp only at hSw); go_simp; first | done | with_reducible rfl)
  try simp only [Act.put, List.setIfInBounds_toArray, List.set_cons_zero, List.set_cons_succ]
  refine wpAnyH_take (i := 1) (oi := ?_) (v := ?_) (by simp only [List.getElem?_toArray, List.getElem?_cons_zero, List.getElem?_cons_succ]; rfl) (by kernel_rfl) (by kernel_rfl) (by kernel_rfl) (by exact fun _ _ _ h => h) (Or.inl ⟨by rfl, ?_⟩) (by assumption) ?_
  rotate_left
  · (intro w hSw; (try dsimp only at hSw); go_simp; first | done | with_reducible rfl)
  try simp only [Act.put, List.setIfInBounds_toArray, List.set_cons_zero, List.set_cons_succ]
  refine wpAnyH_take (i := 2) (oi := ?_) (v := ?_) (by simp only [List.getElem?_toArray, List.getElem?_cons_zero, List.getElem?_cons_succ]; rfl) (by kernel_rfl) (by kernel_rfl) (by kernel_rfl) (by exact fun _ _ _ h => h) (Or.inl ⟨by rfl, ?_⟩) (by assumption) ?_
  rotate_left
  · (intro w hSw; (try dsimp only at hSw); go_simp; first | done | with_reducible rfl)
  try simp only [Act.put, List.setIfInBounds_toArray, List.set_cons_zero, List.set_cons_succ]
  refine wpAnyH_take (i := 3) (oi := ?_) (v := ?_) (by simp only [List.getElem?_toArray, List.getElem?_cons_zero, List.getElem?_cons_succ]; rfl) (by kernel_rfl) (by kernel_rfl) (by kernel_rfl) (by exact fun _ _ _ h => h) (Or.inl ⟨by rfl, ?_⟩) (by assumption) ?_
  rotate_left
  · (intro w hSw; (try dsimp only at hSw); go_simp; first | done | with_reducible rfl)
  try simp only [Act.put, List.setIfInBounds_toArray, List.set_cons_zero, List.set_cons_succ]
  refine wpAnyH_take (i := 4) (oi := ?_) (v := ?_) (by simp only [List.getElem?_toArray, List.getElem?_cons_zero, List.getElem?_cons_succ]; rfl) (by kernel_rfl) (by kernel_rfl) (by kernel_rfl) (by exact fun _ _ _ h => h) (Or.inl ⟨by rfl, ?_⟩) (by assumption) ?_
  rotate_left
  · (intro w hSw; (try dsimp only at hSw); go_simp; first | done | with_reducible rfl)
  try simp only [Act.put, List.setIfInBounds_toArray, List.set_cons_zero, List.set_cons_succ]
  refine wpAnyH_take (i := 5) (oi := ?_) (v := ?_) (by simp only [List.getElem?_toArray, List.getElem?_cons_zero, List.getElem?_cons_succ]; rfl) (by kernel_rfl) (by kernel_rfl) (by kernel_rfl) (by exact fun _ _ _ h => h) (Or.inl ⟨by rfl, ?_⟩) (by assumption) ?_
  rotate_left
  · (intro w hSw; (try dsimp only at hSw); go_simp; first | done | with_reducible rfl)
  try simp only [Act.put, List.setIfInBounds_toArray, List.set_cons_zero, List.set_cons_succ]
  refine wpAnyH_take (i := 6) (oi := ?_) (v := ?_) (by simp only [List.getElem?_toArray, List.getElem?_cons_zero, List.getElem?_cons_succ]; rfl) (by kernel_rfl) (by kernel_rfl) (by kernel_rfl) (by exact fun _ _ _ h => h) (Or.inl ⟨by rfl, ?_⟩) (by assumption) ?_
  rotate_left
  · (intro w hSw; (try dsimp only at hSw); go_simp; first | done | with_reducible rfl)
  try simp only [Act.put, List.setIfInBounds_toArray, List.set_cons_zero, List.set_cons_succ]
  refine wpAnyH_ready (rs := [7]) (by kernel_rfl) (by simp) ?_
  refine AllReadyH.cons (o := ?_) (by simp only [List.getElem?_toArray, List.getElem?_cons_zero, List.getElem?_cons_succ]; rfl) (fun K hK => ?_) ?_
  · rw [if_pos (by rfl)]
    refine wp_store_mid 53 (.tmp 7) (.tmp 5) rfl g o pz.toArray rfl ?_ ?_ ?_ (all_oneCell_toArray HP1.out) ?_
    · rw [HPZ.out]; rfl
    · intro j hj; exact HTH.out j (by rw [List.size_toArray, HPL.out] at hj; exact hj)
    · rw [List.size_toArray, HPL.out]; kernel_rfl
    have hS2 := HF1.out.four.2.1
    refine hK.out _ _ ?_ (fun hHeld2 => ?_)
    · exact hS2
    clear hK K hHeld
    have hHeld := hHeld2
    clear hHeld2
    try simp only [Act.put, List.setIfInBounds_toArray, List.set_cons_zero, List.set_cons_succ]
    refine wpAnyH_take (i := 8) (oi := ?_) (v := ?_) (by simp only [List.getElem?_toArray, List.getElem?_cons_zero, List.getElem?_cons_succ]; rfl) (by kernel_rfl) (by kernel_rfl) (by kernel_rfl) (by exact fun _ _ _ h => h) (Or.inl ⟨by rfl, ?_⟩) (by assumption) ?_
    rotate_left
    · (intro w hSw; (try dsimp only at hSw); go_simp; first | done | with_reducible rfl)
    try simp only [Act.put, List.setIfInBounds_toArray, List.set_cons_zero, List.set_cons_succ]
    refine wpAnyH_take (i := 9) (oi := ?_) (v := ?_) (by simp only [List.getElem?_toArray, List.getElem?_cons_zero, List.getElem?_cons_succ]; rfl) (by kernel_rfl) (by kernel_rfl) (by kernel_rfl) (by exact fun _ _ _ h => h) (Or.inl ⟨by rfl, ?_⟩) (by assumption) ?_
    rotate_left
    · (intro w hSw; (try dsimp only at hSw); go_simp; first | done | with_reducible rfl)
    try simp only [Act.put, List.setIfInBounds_toArray, List.set_cons_zero, List.set_cons_succ]
    refine wpAnyH_ready (rs := [10]) (by kernel_rfl) (by simp) ?_
    refine AllReadyH.cons (o := ?_) (by simp only [List.getElem?_toArray, List.getElem?_cons_zero, List.getElem?_cons_succ]; rfl) (fun K hK => ?_) ?_
    · obtain ⟨u32, c32⟩ := Option.isSome_iff_exists.1 HC32.out.1
      have f32 := HC32.out.2
      go_simp
      have hS2 := HF2.out.four.2.1
      clear c32 f32
      refine hK.out _ _ ?_ (fun hHeld2 => ?_)
      · exact hS2
      clear hK K hHeld
      have hHeld := hHeld2
      clear hHeld2
      try simp only [Act.put, List.setIfInBounds_toArray, List.set_cons_zero, List.set_cons_succ]
      refine wpAnyH_done (by kernel_rfl) ?_ _
      clear hHeld
      go_wp2
      go_end0
      exact ⟨rfl, _, HF2.out⟩
    exact AllReadyH.nil
  exact AllReadyH.nil
set_option maxHeartbeats 1000000 in
set_option maxRecDepth 100000 in
theorem twice_any {E : World → Option Nat → List Value → LOut → Prop} {w w0 W : World} {G : Nat} {cs : List Value} {t : LTx} (h : FS E w w0 W G cs t) (hE : GoodE w0 E) (x : LIn) (hx : t.ins[0]? = some x) (hn8 : t.ins.length ≤ 100) :
    Calls Try.prog 37 #[.pointer (some ⟨G, 0, none⟩)] W fun e w' => e = .returned (.tuple #[]) ∧ ∃ cs', FS E w w0 w' G cs' { t with ins := t.ins ++ [x] } := by
  obtain ⟨AI, cI, AO, cO, rfl⟩ := h.form
  have hn : 0 < t.ins.length := (List.getElem?_eq_some_iff.1 hx).1
  obtain ⟨g, o, rfl, _⟩ := OwG.block h.ins8 0 hn
  have HF0 := As.mk (h.below hE (below_dr W))
  have HQ1 := As.mk h.four.2.1
  obtain ⟨g', o', c36, he, hcl, hin, hrange⟩ := RdL.at (OwG.rd (R := fun _ cs x => InC w0 cs x) (fun w' own cs x hx => hx) HF0.out.ins8) 0 x hx
  injection he with he
  injection he with he1 he2
  subst he1 he2
  rw [Nat.zero_mul, Nat.add_zero] at hrange
  have HCL := As.mk hcl
  have HIN : As (InC w0 c36 x) := ⟨hin⟩
  have H1 := As.mk (InC.one (w := w0) hin)
  have HRG := As.mk hrange
  have HL := As.mk hn8
  obtain ⟨it, hit⟩ := Option.map_eq_some_iff.1 info55
  have HIT := As.mk hit
  clear h hx hcl hin hrange hn8 hit
  go_enter Try.func37, Try.ntmps37
  apply late_cut
  case main =>
    intro hTail
    refine wp_region_held_drew (S := (fun V : World => True)) (by kernel_rfl) ?_ (fun hHeld => ?_)
    · exact True.intro
    refine wpAnyH_take (i := 0) (oi := ?_) (v := ?_) (by simp only [List.getElem?_toArray, List.getElem?_cons_zero, List.getElem?_cons_succ]; rfl) (by kernel_rfl) (by kernel_rfl) (by kernel_rfl) (by exact fun _ _ _ h => h) (Or.inl ⟨by rfl, ?_⟩) (by assumption) ?_
    rotate_left
    · (intro w hSw; (try dsimp only at hSw); go_simp; first | done | with_reducible rfl)
    try simp only [Act.put, List.setIfInBounds_toArray, List.set_cons_zero, List.set_cons_succ]
    refine wpAnyH_take (i := 2) (oi := ?_) (v := ?_) (by simp only [List.getElem?_toArray, List.getElem?_cons_zero, List.getElem?_cons_succ]; rfl) (by kernel_rfl) (by kernel_rfl) (by kernel_rfl) (by exact fun _ _ _ h => h) (Or.inl ⟨by rfl, ?_⟩) (by assumption) ?_
    rotate_left
    · (intro w hSw; (try dsimp only at hSw); go_simp; first | done | with_reducible rfl)
    try simp only [Act.put, List.setIfInBounds_toArray, List.set_cons_zero, List.set_cons_succ]
    refine wpAnyH_ready (rs := [1, 3]) (by kernel_rfl) (by simp) ?_
    refine AllReadyH.cons (o := ?_) (by simp only [List.getElem?_toArray, List.getElem?_cons_zero, List.getElem?_cons_succ]; rfl) (fun K hK => ?_) ?_
    · have q1 := HF0.out.four.2.1
      go_simp
      have hS2 := True.intro
      clear q1
      refine hK.out _ _ ?_ (fun hHeld2 => ?_)
      · exact hS2
      clear hK K hHeld
      have hHeld := hHeld2
      clear hHeld2
      try simp only [Act.put, List.setIfInBounds_toArray, List.set_cons_zero, List.set_cons_succ]
      refine wpAnyH_ready (rs := [3]) (by kernel_rfl) (by simp) ?_
      refine AllReadyH.cons (o := ?_) (by simp only [List.getElem?_toArray, List.getElem?_cons_zero, List.getElem?_cons_succ]; rfl) (fun K hK => ?_) ?_
      · have q1 := HF0.out.four.2.1
        go_simp
        have hS2 := True.intro
        clear q1
        refine hK.out _ _ ?_ (fun hHeld2 => ?_)
        · exact hS2
        clear hK K hHeld
        have hHeld := hHeld2
        clear hHeld2
        try simp only [Act.put, List.setIfInBounds_toArray, List.set_cons_zero, List.set_cons_succ]
        refine wpAnyH_take (i := 4) (oi := ?_) (v := ?_) (by simp only [List.getElem?_toArray, List.getElem?_cons_zero, List.getElem?_cons_succ]; rfl) (by kernel_rfl) (by kernel_rfl) (by kernel_rfl) (by exact fun _ _ _ h => h) (Or.inl ⟨by rfl, ?_⟩) (by assumption) ?_
        rotate_left
        · (intro w hSw; (try dsimp only at hSw); go_simp; first | done | with_reducible rfl)
        try simp only [Act.put, List.setIfInBounds_toArray, List.set_cons_zero, List.set_cons_succ]
        refine wpAnyH_ready (rs := [5]) (by kernel_rfl) (by simp) ?_
        refine AllReadyH.cons (o := ?_) (by simp only [List.getElem?_toArray, List.getElem?_cons_zero, List.getElem?_cons_succ]; rfl) (fun K hK => ?_) ?_
        · rw [if_pos (by rfl)]
          refine wp_load_mid 55 (.tmp 5) rfl g o rfl c36 _ HRG.out Try.underlying55 rfl (by rw [HCL.out]; kernel_rfl) ?_
          have hS2 := True.intro
          refine hK.out _ _ ?_ (fun hHeld2 => ?_)
          · exact hS2
          clear hK K hHeld
          have hHeld := hHeld2
          clear hHeld2
          try simp only [Act.put, List.setIfInBounds_toArray, List.set_cons_zero, List.set_cons_succ]
          refine wpAnyH_ready (rs := [6]) (by kernel_rfl) (by simp) ?_
          refine AllReadyH.cons (o := ?_) (by simp only [List.getElem?_toArray, List.getElem?_cons_zero, List.getElem?_cons_succ]; rfl) (fun K hK => ?_) ?_
          · rw [if_pos (by rfl)]
            refine wp_buildSlice (t := 48) (e := 55) (len := 1) (parts := #[(0, .tmp 6)]) (ho := rfl) c36.toArray it (.agg (Z32 ++ [Value.int .u32 0, Value.slice none 0 0, Value.int .u32 0, Value.slice none 0 0]).toArray) Try.underlying48 HIT.out.1 ?hz ?hsm ?hpo ?hf ?_
            case hz => have h := HIT.out.2; simp only [Prod.mk.injEq] at h; exact h.1
            case hsm => have h := HIT.out.2; simp only [Prod.mk.injEq] at h; rw [h.2.1]; decide
            case hpo => have h := HIT.out.2; simp only [Prod.mk.injEq] at h; rw [h.2.1]; decide
            case hf => have h := HIT.out.2; simp only [Prod.mk.injEq] at h; rw [h.2.1]; simp only [List.map_toArray, List.map_cons, List.map_nil]; exact fill55 _ (by simp) c36 HCL.out
            have hS2 := True.intro
            refine hK.out _ _ ?_ (fun hHeld2 => ?_)
            · exact hS2
            clear hK K hHeld
            have hHeld := hHeld2
            clear hHeld2
            try simp only [Act.put, List.setIfInBounds_toArray, List.set_cons_zero, List.set_cons_succ]
            revert hHeld
            exact hTail.out
          exact AllReadyH.nil
        exact AllReadyH.nil
      exact AllReadyH.nil
    refine AllReadyH.cons (o := ?_) (by simp only [List.getElem?_toArray, List.getElem?_cons_zero, List.getElem?_cons_succ]; rfl) (fun K hK => ?_) ?_
    · have q1 := HF0.out.four.2.1
      go_simp
      have hS2 := True.intro
      clear q1
      refine hK.out _ _ ?_ (fun hHeld2 => ?_)
      · exact hS2
      clear hK K hHeld
      have hHeld := hHeld2
      clear hHeld2
      try simp only [Act.put, List.setIfInBounds_toArray, List.set_cons_zero, List.set_cons_succ]
      refine wpAnyH_take (i := 4) (oi := ?_) (v := ?_) (by simp only [List.getElem?_toArray, List.getElem?_cons_zero, List.getElem?_cons_succ]; rfl) (by kernel_rfl) (by kernel_rfl) (by kernel_rfl) (by exact fun _ _ _ h => h) (Or.inl ⟨by rfl, ?_⟩) (by assumption) ?_
      rotate_left
      · (intro w hSw; (try dsimp only at hSw); go_simp; first | done | with_reducible rfl)
      try simp only [Act.put, List.setIfInBounds_toArray, List.set_cons_zero, List.set_cons_succ]
      refine wpAnyH_ready (rs := [1, 5]) (by kernel_rfl) (by simp) ?_
      refine AllReadyH.cons (o := ?_) (by simp only [List.getElem?_toArray, List.getElem?_cons_zero, List.getElem?_cons_succ]; rfl) (fun K hK => ?_) ?_
      · have q1 := HF0.out.four.2.1
        go_simp
        have hS2 := True.intro
        clear q1
        refine hK.out _ _ ?_ (fun hHeld2 => ?_)
        · exact hS2
        clear hK K hHeld
        have hHeld := hHeld2
        clear hHeld2
        try simp only [Act.put, List.setIfInBounds_toArray, List.set_cons_zero, List.set_cons_succ]
        refine wpAnyH_ready (rs := [5]) (by kernel_rfl) (by simp) ?_
        refine AllReadyH.cons (o := ?_) (by simp only [List.getElem?_toArray, List.getElem?_cons_zero, List.getElem?_cons_succ]; rfl) (fun K hK => ?_) ?_
        · rw [if_pos (by rfl)]
          refine wp_load_mid 55 (.tmp 5) rfl g o rfl c36 _ HRG.out Try.underlying55 rfl (by rw [HCL.out]; kernel_rfl) ?_
          have hS2 := True.intro
          refine hK.out _ _ ?_ (fun hHeld2 => ?_)
          · exact hS2
          clear hK K hHeld
          have hHeld := hHeld2
          clear hHeld2
          try simp only [Act.put, List.setIfInBounds_toArray, List.set_cons_zero, List.set_cons_succ]
          refine wpAnyH_ready (rs := [6]) (by kernel_rfl) (by simp) ?_
          refine AllReadyH.cons (o := ?_) (by simp only [List.getElem?_toArray, List.getElem?_cons_zero, List.getElem?_cons_succ]; rfl) (fun K hK => ?_) ?_
          · rw [if_pos (by rfl)]
            refine wp_buildSlice (t := 48) (e := 55) (len := 1) (parts := #[(0, .tmp 6)]) (ho := rfl) c36.toArray it (.agg (Z32 ++ [Value.int .u32 0, Value.slice none 0 0, Value.int .u32 0, Value.slice none 0 0]).toArray) Try.underlying48 HIT.out.1 ?hz ?hsm ?hpo ?hf ?_
            case hz => have h := HIT.out.2; simp only [Prod.mk.injEq] at h; exact h.1
            case hsm => have h := HIT.out.2; simp only [Prod.mk.injEq] at h; rw [h.2.1]; decide
            case hpo => have h := HIT.out.2; simp only [Prod.mk.injEq] at h; rw [h.2.1]; decide
            case hf => have h := HIT.out.2; simp only [Prod.mk.injEq] at h; rw [h.2.1]; simp only [List.map_toArray, List.map_cons, List.map_nil]; exact fill55 _ (by simp) c36 HCL.out
            have hS2 := True.intro
            refine hK.out _ _ ?_ (fun hHeld2 => ?_)
            · exact hS2
            clear hK K hHeld
            have hHeld := hHeld2
            clear hHeld2
            try simp only [Act.put, List.setIfInBounds_toArray, List.set_cons_zero, List.set_cons_succ]
            revert hHeld
            exact hTail.out
          exact AllReadyH.nil
        exact AllReadyH.nil
      refine AllReadyH.cons (o := ?_) (by simp only [List.getElem?_toArray, List.getElem?_cons_zero, List.getElem?_cons_succ]; rfl) (fun K hK => ?_) ?_
      · rw [if_pos (by rfl)]
        refine wp_load_mid 55 (.tmp 5) rfl g o rfl c36 _ HRG.out Try.underlying55 rfl (by rw [HCL.out]; kernel_rfl) ?_
        have hS2 := True.intro
        refine hK.out _ _ ?_ (fun hHeld2 => ?_)
        · exact hS2
        clear hK K hHeld
        have hHeld := hHeld2
        clear hHeld2
        try simp only [Act.put, List.setIfInBounds_toArray, List.set_cons_zero, List.set_cons_succ]
        refine wpAnyH_ready (rs := [1, 6]) (by kernel_rfl) (by simp) ?_
        refine AllReadyH.cons (o := ?_) (by simp only [List.getElem?_toArray, List.getElem?_cons_zero, List.getElem?_cons_succ]; rfl) (fun K hK => ?_) ?_
        · have q1 := HF0.out.four.2.1
          go_simp
          have hS2 := True.intro
          clear q1
          refine hK.out _ _ ?_ (fun hHeld2 => ?_)
          · exact hS2
          clear hK K hHeld
          have hHeld := hHeld2
          clear hHeld2
          try simp only [Act.put, List.setIfInBounds_toArray, List.set_cons_zero, List.set_cons_succ]
          refine wpAnyH_ready (rs := [6]) (by kernel_rfl) (by simp) ?_
          refine AllReadyH.cons (o := ?_) (by simp only [List.getElem?_toArray, List.getElem?_cons_zero, List.getElem?_cons_succ]; rfl) (fun K hK => ?_) ?_
          · rw [if_pos (by rfl)]
            refine wp_buildSlice (t := 48) (e := 55) (len := 1) (parts := #[(0, .tmp 6)]) (ho := rfl) c36.toArray it (.agg (Z32 ++ [Value.int .u32 0, Value.slice none 0 0, Value.int .u32 0, Value.slice none 0 0]).toArray) Try.underlying48 HIT.out.1 ?hz ?hsm ?hpo ?hf ?_
            case hz => have h := HIT.out.2; simp only [Prod.mk.injEq] at h; exact h.1
            case hsm => have h := HIT.out.2; simp only [Prod.mk.injEq] at h; rw [h.2.1]; decide
            case hpo => have h := HIT.out.2; simp only [Prod.mk.injEq] at h; rw [h.2.1]; decide
            case hf => have h := HIT.out.2; simp only [Prod.mk.injEq] at h; rw [h.2.1]; simp only [List.map_toArray, List.map_cons, List.map_nil]; exact fill55 _ (by simp) c36 HCL.out
            have hS2 := True.intro
            refine hK.out _ _ ?_ (fun hHeld2 => ?_)
            · exact hS2
            clear hK K hHeld
            have hHeld := hHeld2
            clear hHeld2
            try simp only [Act.put, List.setIfInBounds_toArray, List.set_cons_zero, List.set_cons_succ]
            revert hHeld
            exact hTail.out
          exact AllReadyH.nil
        refine AllReadyH.cons (o := ?_) (by simp only [List.getElem?_toArray, List.getElem?_cons_zero, List.getElem?_cons_succ]; rfl) (fun K hK => ?_) ?_
        · rw [if_pos (by rfl)]
          refine wp_buildSlice (t := 48) (e := 55) (len := 1) (parts := #[(0, .tmp 6)]) (ho := rfl) c36.toArray it (.agg (Z32 ++ [Value.int .u32 0, Value.slice none 0 0, Value.int .u32 0, Value.slice none 0 0]).toArray) Try.underlying48 HIT.out.1 ?hz ?hsm ?hpo ?hf ?_
          case hz => have h := HIT.out.2; simp only [Prod.mk.injEq] at h; exact h.1
          case hsm => have h := HIT.out.2; simp only [Prod.mk.injEq] at h; rw [h.2.1]; decide
          case hpo => have h := HIT.out.2; simp only [Prod.mk.injEq] at h; rw [h.2.1]; decide
          case hf => have h := HIT.out.2; simp only [Prod.mk.injEq] at h; rw [h.2.1]; simp only [List.map_toArray, List.map_cons, List.map_nil]; exact fill55 _ (by simp) c36 HCL.out
          have hS2 := True.intro
          refine hK.out _ _ ?_ (fun hHeld2 => ?_)
          · exact hS2
          clear hK K hHeld
          have hHeld := hHeld2
          clear hHeld2
          try simp only [Act.put, List.setIfInBounds_toArray, List.set_cons_zero, List.set_cons_succ]
          refine wpAnyH_ready (rs := [1]) (by kernel_rfl) (by simp) ?_
          refine AllReadyH.cons (o := ?_) (by simp only [List.getElem?_toArray, List.getElem?_cons_zero, List.getElem?_cons_succ]; rfl) (fun K hK => ?_) ?_
          · have q1 := cell_of_below (below_dr (W.alloc (.cells c36.toArray 55))) (cell_of_below (below_al W (.cells c36.toArray 55)) HQ1.out)
            go_simp
            have hS2 := True.intro
            clear q1
            refine hK.out _ _ ?_ (fun hHeld2 => ?_)
            · exact hS2
            clear hK K hHeld
            have hHeld := hHeld2
            clear hHeld2
            try simp only [Act.put, List.setIfInBounds_toArray, List.set_cons_zero, List.set_cons_succ]
            revert hHeld
            exact hTail.out
          exact AllReadyH.nil
        exact AllReadyH.nil
      exact AllReadyH.nil
    exact AllReadyH.nil
  case tail =>
    intro hHeld
    have HF1 := As.mk (HF0.out.below hE (below_al W.drew (.cells c36.toArray 55)))
    have HBX := As.mk (Box.new W.drew c36.toArray 55)
    refine wpAnyH_ready (rs := [7]) (by kernel_rfl) (by simp) ?_
    refine AllReadyH.cons (o := ?_) (by simp only [List.getElem?_toArray, List.getElem?_cons_zero, List.getElem?_cons_succ]; rfl) (fun K hK => ?_) ?_
    · refine step_appG (E := EI8 w0) w0.heap.size ?hgd (.tmp 2) (.tmp 7) 48 55 ZIn 36 96 ?ho Try.underlying48 info55z zin_size (by decide) (by decide) (.slice (some ⟨g, o, none⟩) t.ins.length cI) ?hs W.heap.size ?hx c36 HBX.out HCL.out H1.out t.ins x HF1.out.ins8 HIN.out (fun v' w' hg ht cs y h => h) ?hl HF1.out.size ?_
      case hgd => rfl
      case ho => rfl
      case hs => rfl
      case hx => rfl
      case hl => have := HL.out; omega
      intro v4 w4 ho hg ht
      obtain ⟨A4, c4, h4⟩ := OwG.form ho
      rw [List.length_append, List.length_singleton] at h4
      subst h4
      have HF2 := As.mk (HF1.out.putI hE hg HF1.out.ins8.kd (fun k hk => (OwG.lt HF1.out.ins8 k hk).1) ho)
      have HB4 := As.mk (Box.apartO HF1.out.2.2.1 hg HF1.out.ins8.kd (by decide))
      have hS2 := True.intro
      clear ho hg ht
      refine hK.out _ _ ?_ (fun hHeld2 => ?_)
      · exact hS2
      clear hK K hHeld
      have hHeld := hHeld2
      clear hHeld2
      try simp only [Act.put, List.setIfInBounds_toArray, List.set_cons_zero, List.set_cons_succ]
      refine wpAnyH_take (i := 8) (oi := ?_) (v := ?_) (by simp only [List.getElem?_toArray, List.getElem?_cons_zero, List.getElem?_cons_succ]; rfl) (by kernel_rfl) (by kernel_rfl) (by kernel_rfl) (by exact fun _ _ _ h => h) (Or.inl ⟨by rfl, ?_⟩) (by assumption) ?_
      rotate_left
      · (intro w hSw; (try dsimp only at hSw); go_simp; first | done | with_reducible rfl)
      try simp only [Act.put, List.setIfInBounds_toArray, List.set_cons_zero, List.set_cons_succ]
      refine wpAnyH_ready (rs := [9]) (by kernel_rfl) (by simp) ?_
      refine AllReadyH.cons (o := ?_) (by simp only [List.getElem?_toArray, List.getElem?_cons_zero, List.getElem?_cons_succ]; rfl) (fun K hK => ?_) ?_
      · obtain ⟨d0, d1, d2, d3, fz⟩ := Box.four HB4.out
        go_simp
        have hS2 := True.intro
        clear d0 d1 d2 d3 fz
        refine hK.out _ _ ?_ (fun hHeld2 => ?_)
        · exact hS2
        clear hK K hHeld
        have hHeld := hHeld2
        clear hHeld2
        try simp only [Act.put, List.setIfInBounds_toArray, List.set_cons_zero, List.set_cons_succ]
        refine wpAnyH_done (by kernel_rfl) ?_ _
        clear hHeld
        go_wp2
        go_end0
        exact ⟨rfl, _, HF2.out⟩
      exact AllReadyH.nil
    exact AllReadyH.nil
end Go.Proofs.Ytfggkljgfadacaa.W
namespace Go.Proofs.Ytfggkljgfadacaa.W
open Go.RowKit Go.Proofs.Ytfggkljgfadacaa.B Go.Proofs

section
variable {P : Program} {ops : Array Oper} {Q : Exit → Act → World → Prop} {md : Region.Mode}
/-- Conditions, each till an operation has come up. -/
def SV (conds : List (Nat × (World → Prop))) (L : Array Bool) (w : World) : Prop := ∀ q ∈ conds, L.getD q.1 true = false → q.2 w
def wpAnyV (P : Program) (md : Region.Mode) (ops : Array Oper) (Q : Exit → Act → World → Prop) (S : Array Bool → World → Prop) : Nat → Array Bool → Act → World → Prop
  | 0, listed, a, w => Region.ready md ops listed = [] ∧ Q .normal a w
  | fuel + 1, listed, a, w =>
    (Region.ready md ops listed = [] → Q .normal a w) ∧
    ∀ i ∈ Region.ready md ops listed, wpOp P ops Q i (fun a' w' => S (listed.setIfInBounds i true) w' ∧ wpAnyV P md ops Q S fuel (listed.setIfInBounds i true) a' w') a w
variable {S : Array Bool → World → Prop}
theorem wpAny_of_heldV : ∀ (fuel : Nat) (listed : Array Bool) (a : Act) (w : World), wpAnyV P md ops Q S fuel listed a w → wpAny P md ops Q fuel listed a w
  | 0, _, _, _, h => h
  | fuel + 1, _, _, _, h => ⟨h.1, fun i hi => wpOp_mono (fun a' w' h' => wpAny_of_heldV fuel _ a' w' h'.2) (h.2 i hi)⟩
theorem wpAnyV_first {i : Nat} {oi : Oper} {v : Value} {T : World → Prop} {good : Array Bool → Prop} (hi : ops[i]? = some oi) (hsel : ∀ (j : Nat) (o : Oper) cs b, ops[j]? = some o → o.op ≠ .select cs b)
    (hQ : ∀ c a w, Q (.panic c) (a.put oi.dst v) w → Q (.panic c) a w)
    (hT : ∀ (L : Array Bool) (w : World), good L → S L w → T w) (hgood : ∀ (L : Array Bool) (j : Nat) (oj : Oper), good L → ops[j]? = some oj → (∀ e ∈ oj.after, Region.binds md e = true → e.on ≠ i) → good (L.setIfInBounds j true))
    (hS1 : ∀ (L : Array Bool) (w : World), S L w → S (L.setIfInBounds i true) w) (hS2 : ∀ (L : Array Bool) (j : Nat) (w : World), S ((L.setIfInBounds i true).setIfInBounds j true) w → S (L.setIfInBounds j true) w) :
    ∀ (fuel : Nat) (listed : Array Bool) (a : Act) (w : World),
      (∀ j oj, ops[j]? = some oj → j ≠ i → listed.getD j true = false → (∀ e ∈ oj.after, Region.binds md e = true → e.on ≠ i) → oi.apart ops oj = true) →
      good listed → i ∈ Region.ready md ops listed → YieldsIf P ops T oi v a → S listed w →
      wpAnyV P md ops Q S fuel (listed.setIfInBounds i true) (a.put oi.dst v) w → wpAnyV P md ops Q S (fuel + 1) listed a w := by
  intro fuel
  induction fuel with
  | zero =>
    intro listed a w _ hgd hr hy hS H
    refine ⟨fun h => (by rw [h] at hr; cases hr), fun j hj => ?_⟩
    by_cases hji : j = i
    · subst hji; exact hy.wpOp hi (hT _ _ hgd hS) ⟨hS1 _ _ hS, H⟩
    · have := ready_mono hj hji
      rw [H.1] at this
      cases this
  | succ fuel ih =>
    intro listed a w hfree hgd hr hy hS H
    refine ⟨fun h => (by rw [h] at hr; cases hr), fun j hj => ?_⟩
    by_cases hji : j = i
    · subst hji; exact hy.wpOp hi (hT _ _ hgd hS) ⟨hS1 _ _ hS, H⟩
    · have h1 := H.2 j (ready_mono hj hji)
      obtain ⟨hjun, oj, hoj, hall⟩ := mem_ready.1 hj
      have hnot : ∀ e ∈ oj.after, Region.binds md e = true → e.on ≠ i := fun e he hb heq => by
        have h1 := hall e he hb
        have h0 := (mem_ready.1 hr).1
        rw [heq] at h1
        rcases Nat.lt_or_ge i listed.size with h' | h'
        · simp [h'] at h0 h1; rw [h0] at h1; cases h1
        · simp [Array.getElem?_eq_none h'] at h1
      have h2 := wpOp_putIf hoj (hfree j oj hoj hji hjun hnot) (fun cs b => hsel i oi cs b hi) (fun cs b => hsel j oj cs b hoj) hQ hy h1
      have hfree' : ∀ k ok, ops[k]? = some ok → k ≠ i → (listed.setIfInBounds j true).getD k true = false →
          (∀ e ∈ ok.after, Region.binds md e = true → e.on ≠ i) → oi.apart ops ok = true := fun k ok hk hki hun hno => by
        refine hfree k ok hk hki ?_ hno
        by_cases hjk : j = k
        · subst hjk; exact hjun
        · rw [getD_set_ne true hjk] at hun; exact hun
      refine wpOp_mono (fun a' w' h3 => ⟨hS2 _ _ _ h3.2.1, ih (listed.setIfInBounds j true) a' w' hfree' (hgood _ _ _ hgd hoj hnot) (ready_mono hr (Ne.symm hji)) h3.1 (hS2 _ _ _ h3.2.1) ?_⟩) h2
      rw [Array.setIfInBounds_comm _ _ hji]
      exact h3.2.2
theorem SV.one {conds : List (Nat × (World → Prop))} {i : Nat} {L : Array Bool} {w : World} (hne : ∀ q ∈ conds, q.1 ≠ i) (h : SV conds L w) : SV conds (L.setIfInBounds i true) w := fun q hq hL => by
  rw [getD_set_ne true (fun e => hne q hq e.symm)] at hL
  exact h q hq hL
theorem SV.two {conds : List (Nat × (World → Prop))} {i j : Nat} {L : Array Bool} {w : World} (hne : ∀ q ∈ conds, q.1 ≠ i) (h : SV conds ((L.setIfInBounds i true).setIfInBounds j true) w) : SV conds (L.setIfInBounds j true) w := fun q hq hL => by
  refine h q hq ?_
  by_cases hij : i = j
  · subst hij
    rw [getD_set_ne true (fun e => hne q hq e.symm)] at hL ⊢
    rw [getD_set_ne true (fun e => hne q hq e.symm)]
    exact hL
  · rw [Array.setIfInBounds_comm _ _ hij, getD_set_ne true (fun e => hne q hq e.symm)]
    exact hL
variable {conds : List (Nat × (World → Prop))}
/-- Taken first: it needs no condition. -/
theorem wpAnyV_take0 {i : Nat} {oi : Oper} {v : Value} {fuel : Nat} {listed : Array Bool} {a : Act} {w : World} (hi : ops[i]? = some oi)
    (hs : Region.noSelect ops = true) (hf : Region.free md ops listed i = true) (hr : (Region.ready md ops listed).contains i = true)
    (hQ : ∀ c a w, Q (.panic c) (a.put oi.dst v) w → Q (.panic c) a w) (hne : ∀ q ∈ conds, q.1 ≠ i) (hy : YieldsIf P ops (fun _ => True) oi v a) (hS : SV conds listed w)
    (h : wpAnyV P md ops Q (SV conds) fuel (listed.setIfInBounds i true) (a.put oi.dst v) w) : wpAnyV P md ops Q (SV conds) (fuel + 1) listed a w :=
  wpAnyV_first (T := fun _ => True) (good := fun _ => True) hi (Region.noSelect_spec hs) hQ (fun _ _ _ _ => trivial) (fun _ _ _ _ _ _ => trivial) (fun _ _ => SV.one hne) (fun _ _ _ => SV.two hne) fuel listed a w (Region.free_spec hi hf) trivial (by simpa using hr) hy hS h
/-- Taken first: what it needs holds till b has come up, and b waits for it. -/
theorem wpAnyV_take {i b : Nat} {oi ob : Oper} {v : Value} {T : World → Prop} {fuel : Nat} {listed : Array Bool} {a : Act} {w : World} (hi : ops[i]? = some oi)
    (hs : Region.noSelect ops = true) (hf : Region.free md ops listed i = true) (hr : (Region.ready md ops listed).contains i = true)
    (hQ : ∀ c a w, Q (.panic c) (a.put oi.dst v) w → Q (.panic c) a w) (hne : ∀ q ∈ conds, q.1 ≠ i) (hob : ops[b]? = some ob) (hw : (ob.after.any fun e => Region.binds md e && e.on == i) = true) (hbl : listed.getD b true = false)
    (hmem : (b, T) ∈ conds) (hy : YieldsIf P ops T oi v a) (hS : SV conds listed w)
    (h : wpAnyV P md ops Q (SV conds) fuel (listed.setIfInBounds i true) (a.put oi.dst v) w) : wpAnyV P md ops Q (SV conds) (fuel + 1) listed a w :=
  wpAnyV_first (T := T) (good := fun L => L.getD b true = false) hi (Region.noSelect_spec hs) hQ (fun L w hg hS => hS _ hmem hg)
    (fun L j oj hg hj hnot => by
      by_cases hjb : j = b
      · subst hjb
        rw [hob] at hj
        obtain rfl := Option.some.inj hj
        obtain ⟨k, hk, he⟩ := Array.any_eq_true.1 hw
        rw [Bool.and_eq_true, beq_iff_eq] at he
        exact absurd he.2 (hnot _ (Array.getElem_mem hk) he.1)
      · rw [getD_set_ne true hjb]; exact hg)
    (fun _ _ => SV.one hne) (fun _ _ _ => SV.two hne) fuel listed a w (Region.free_spec hi hf) hbl (by simpa using hr) hy hS h
def AllReadyV (P : Program) (md : Region.Mode) (ops : Array Oper) (Q : Exit → Act → World → Prop) (S : Array Bool → World → Prop) (fuel : Nat) (listed : Array Bool) (a : Act) (w : World) (rs : List Nat) : Prop :=
  ∀ i ∈ rs, wpOp P ops Q i (fun a' w' => S (listed.setIfInBounds i true) w' ∧ wpAnyV P md ops Q S fuel (listed.setIfInBounds i true) a' w') a w
theorem AllReadyV.nil {fuel : Nat} {listed : Array Bool} {a : Act} {w : World} : AllReadyV P md ops Q S fuel listed a w [] := fun _ h => by cases h
theorem AllReadyV.cons {fuel : Nat} {listed : Array Bool} {a : Act} {w : World} {i : Nat} {o : Oper} {rs : List Nat} (ho : ops[i]? = some o)
    (h : ∀ K' : Act → World → Prop, Shut (∀ a w, S (listed.setIfInBounds i true) w → (S (listed.setIfInBounds i true) w → wpAnyV P md ops Q S fuel (listed.setIfInBounds i true) a w) → K' a w) → if Region.wanted o (yielded ops a.tmps) = true then Oper.wp P o a w K' Q else K' (a.put o.dst undef) w)
    (hs : AllReadyV P md ops Q S fuel listed a w rs) : AllReadyV P md ops Q S fuel listed a w (i :: rs) := fun j hj => by
  rcases List.mem_cons.1 hj with rfl | hj
  · exact wpOp_step ho (fun K' hK => h K' (fun a w hS hW => hK a w ⟨hS, hW hS⟩))
  · exact hs j hj
theorem wpAnyV_ready {rs : List Nat} {fuel : Nat} {listed : Array Bool} {a : Act} {w : World} (hr : Region.ready md ops listed = rs) (hne : rs ≠ [])
    (h : AllReadyV P md ops Q S fuel listed a w rs) : wpAnyV P md ops Q S (fuel + 1) listed a w := ⟨fun h0 => absurd (hr ▸ h0) hne, hr ▸ h⟩
theorem wpAnyV_done {listed : Array Bool} {a : Act} {w : World} (hr : Region.ready md ops listed = []) (h : Q .normal a w) :
    ∀ fuel, wpAnyV P md ops Q S fuel listed a w
  | 0 => ⟨hr, h⟩
  | _ + 1 => ⟨fun _ => h, by rw [hr]; simp⟩
theorem wp_region_V {id : Nat} {a : Act} {w : World} (hm : P.follows .mixedOrders = true) (hS : SV conds (Array.replicate ops.size false) w.drew)
    (h : SV conds (Array.replicate ops.size false) w.drew → wpAnyV P .any ops Q (SV conds) ops.size (Array.replicate ops.size false) a w.drew) : (Code.region id ops true).wp P Q a w :=
  wp_region_any hm (wpAny_of_heldV _ _ _ _ (h hS))
end
end Go.Proofs.Ytfggkljgfadacaa.W
