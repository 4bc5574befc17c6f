/- TxnsSame's plain part: how two transactions stand, and what one change makes of the second. -/
import Derived.Test.YtfggkljgfadacaaT33
set_option linter.unusedVariables false
set_option linter.unusedSimpArgs false
namespace Go.Proofs.Ytfggkljgfadacaa.W
open Go.RowKit Go.Proofs.Ytfggkljgfadacaa.B Go.Proofs

/-- One cell of one element turned, and what else was turned ahead of it. -/
theorem OwG.setK {α : Type} {E : List Value → α → Prop} {E' : World → Option Nat → List Value → α → Prop} {e : TypeId} {size : Nat} {w : World} {base g o n c : Nat} {ys : List α} {zs : List Value}
    (h1 : OwS w base e size (.slice (some ⟨g, o, none⟩) n c) ys.length zs) (h2 : ∀ (i : Nat) (y : α), ys[i]? = some y → E ((zs.drop (i * size)).take size) y)
    (k : Nat) (y y' : α) (hk : ys[k]? = some y) (j : Nat) (hj : j < size) (u : Value)
    (hy : ∀ cs : List Value, cs.length = size → E cs y → E' (w.setCell ⟨g, o + (k * size + j), none⟩ u) (some g) (cs.set j u) y')
    (hE : ∀ i cs x, i ≠ k → ys[i]? = some x → E cs x → E' (w.setCell ⟨g, o + (k * size + j), none⟩ u) (some g) cs x) :
    OwG E' e size (w.setCell ⟨g, o + (k * size + j), none⟩ u) base (.slice (some ⟨g, o, none⟩) n c) (ys.set k y') := by
  have hlt : k < ys.length := (List.getElem?_eq_some_iff.1 hk).1
  obtain rfl : n = ys.length := by
    rcases h1.2 with ⟨q, _⟩ | ⟨g', off, cap, cur, q, _⟩
    · cases q
    · injection q
  have hz := h1.1
  have hin : k * size + j < ys.length * size := by
    have : k * size + size ≤ ys.length * size := by rw [← Nat.succ_mul]; exact Nat.mul_le_mul_right _ hlt
    omega
  refine ⟨zs.set (k * size + j) u, ?_, fun i x hx => ?_⟩
  · rw [List.length_set]
    exact OwS.setN h1 _ hin u
  · have hown : (Value.slice (some ⟨g, o, none⟩) ys.length c).ownBlock = some g := rfl
    rw [hown]
    by_cases hik : i = k
    · subst hik
      rw [List.getElem?_set_self hlt] at hx
      obtain rfl := Option.some.inj hx
      have e1 : ((zs.set (i * size + j) u).drop (i * size)).take size = ((zs.drop (i * size)).take size).set j u := by
        rw [List.drop_set, if_neg (by omega), show i * size + j - i * size = j by omega, List.take_set]
      rw [e1]
      exact hy _ (part_length hz hlt) (h2 i y hk)
    · rw [List.getElem?_set_ne (fun q => hik q.symm)] at hx
      have e1 : ((zs.set (k * size + j) u).drop (i * size)).take size = (zs.drop (i * size)).take size := by
        apply List.ext_getElem?
        intro q
        simp only [List.getElem?_take, List.getElem?_drop]
        by_cases hq : q < size
        · rw [if_pos hq, if_pos hq, List.getElem?_set_ne]
          intro q2
          rcases Nat.lt_or_gt_of_ne hik with hlt2 | hlt2
          · have := Nat.mul_le_mul_right size (show i + 1 ≤ k by omega)
            rw [Nat.succ_mul] at this
            omega
          · have := Nat.mul_le_mul_right size (show k + 1 ≤ i by omega)
            rw [Nat.succ_mul] at this
            omega
        · rw [if_neg hq, if_neg hq]
      rw [e1]
      exact hE i _ _ hik hx (h2 i x hx)
theorem RdL.map {α β : Type} {R : World → List Value → β → Prop} {f : α → β} {size : Nat} {w : World} {v : Value} {zs : List α} (h : RdL (fun w cs z => R w cs (f z)) size w v zs) : RdL R size w v (zs.map f) := by
  obtain ⟨A, c, rfl, h1, h2, h3, h4⟩ := h
  refine ⟨A, c, by rw [List.length_map], by rw [List.length_map]; exact h1, h2, h3, fun ad had => ?_⟩
  obtain ⟨g, o, rfl, h5⟩ := h4 ad had
  refine ⟨g, o, rfl, fun j x hx => ?_⟩
  rw [List.getElem?_map] at hx
  obtain ⟨z, hz, rfl⟩ := Option.map_eq_some_iff.1 hx
  exact h5 j z hz
/-- What stands in one cell. -/
theorem OwS.cellN {w : World} {base : Nat} {e : TypeId} {size : Nat} {g o n c : Nat} {zs : List Value} (h : OwS w base e size (.slice (some ⟨g, o, none⟩) n c) n zs) (j : Nat) (u : Value) (hu : zs[j]? = some u) : w.cell? ⟨g, o + j, none⟩ = some u ∧ w.frozen? ⟨g, o + j, none⟩ = false := by
  constructor
  · obtain ⟨_, A', c', he, _, _, _, hcell⟩ := h.rd
    injection he with he1 he2 he3
    subst he1
    have := hcell _ rfl _ _ hu
    rwa [Addr.add_mid] at this
  · rcases h.2 with ⟨q, _⟩ | ⟨g', off, cap, cur, q, _, q2, _⟩
    · cases q
    · injection q with q _ _
      injection q with q
      injection q with q _
      subst q
      simp [World.frozen?, q2]
/-- How TxnsSame's two transactions stand. -/
def ST (w w1 w2 W : World) (A B : Nat) (cs1 cs2 : List Value) (T : LTx) : Prop :=
  Below w.heap.size w w1 ∧ TxC w1 cs1 T ∧ Below w1.heap.size w1 w2 ∧ OwT3 w2 w1.heap.size cs2 T ∧ Below w2.heap.size w2 W ∧ Box W A cs1.toArray 51 ∧ Box W B cs2.toArray 51 ∧ w2.heap.size ≤ A ∧ w2.heap.size ≤ B ∧ A ≠ B
theorem ST.below {w w1 w2 W W' : World} {A B : Nat} {cs1 cs2 : List Value} {T : LTx} (h : ST w w1 w2 W A B cs1 cs2 T) (hb : Below W.heap.size W W') : ST w w1 w2 W' A B cs1 cs2 T := by
  obtain ⟨h1, h2, h3, h4, h5, h6, h7, h8⟩ := h
  exact ⟨h1, h2, h3, h4, h5.trans (hb.mono h5.size), h6.below hb, h7.below hb, h8⟩
/-- How they stand behind the change. -/
def EN (w W : World) (A B : Nat) (cs1 cs2 : List Value) (T u : LTx) : Prop := Below w.heap.size w W ∧ BxT W A cs1 T ∧ BxT W B cs2 u
theorem ST.far {w w1 w2 W : World} {A B : Nat} {cs1 cs2 : List Value} {T : LTx} (h : ST w w1 w2 W A B cs1 cs2 T) : Below w1.heap.size w1 W := h.2.2.1.trans (h.2.2.2.2.1.mono h.2.2.1.size)
theorem ST.rd {w w1 w2 W : World} {A B : Nat} {cs1 cs2 : List Value} {T : LTx} (h : ST w w1 w2 W A B cs1 cs2 T) : EN w W A B cs1 cs2 T T :=
  ⟨h.1.trans (h.far.mono h.1.size), ⟨h.2.2.2.2.2.1, h.2.1.below h.far⟩, ⟨h.2.2.2.2.2.2.1, h.2.2.2.1.own.rd.below h.2.2.2.2.1⟩⟩
theorem EN.of {w w1 w2 W W' : World} {A B : Nat} {cs1 cs2 cs2' : List Value} {T u : LTx} (h : ST w w1 w2 W A B cs1 cs2 T) (hb : Below w1.heap.size w1 W') (hA : Box W' A cs1.toArray 51) (hB : Box W' B cs2'.toArray 51) (hu : TxC W' cs2' u) : EN w W' A B cs1 cs2' T u :=
  ⟨h.1.trans (hb.mono h.1.size), ⟨hA, h.2.1.below hb⟩, hB, hu⟩
/-- A cell of the second's box. -/
theorem ST.setBox {w w1 w2 W : World} {A B : Nat} {cs1 cs2 : List Value} {T u : LTx} (h : ST w w1 w2 W A B cs1 cs2 T) (j : Nat) (x : Value) (hu : TxC w2 (cs2.set j x) u) : EN w (W.setCell ⟨B, j, none⟩ x) A B cs1 (cs2.set j x) T u := by
  have hf := h.far
  obtain ⟨h1, h2, h3, h4, h5, h6, h7, h8, h9, h10⟩ := h
  have hgw := grown_set W B j x
  refine EN.of ⟨h1, h2, h3, h4, h5, h6, h7, h8, h9, h10⟩ (hf.setCell (show w1.heap.size ≤ B by have := h3.size; omega) _) (h6.grown hgw (fun e => by injection e with e; exact h10 e.symm)) (Box.set h7 j x) ?_
  exact hu.below (h5.setCell h9 _)
theorem TxC.ver {w : World} {v0 v1 v2 v3 : Value} {t : LTx} (h : TxC w [v0, v1, v2, v3] t) (x : Nat) (hx : x < 4294967296) : TxC w ([v0, v1, v2, v3].set 0 (.int .u32 (x : Int))) { t with ver := x } := by
  obtain ⟨iv, ov, he, h1, h2, h3, h4⟩ := h
  injection he with e0 he
  injection he with e1 he
  injection he with e2 he
  injection he with e3 _
  subst e0 e1 e2 e3
  exact ⟨_, _, rfl, h1, h2, hx, h4⟩
theorem TxC.lock {w : World} {v0 v1 v2 v3 : Value} {t : LTx} (h : TxC w [v0, v1, v2, v3] t) (x : Nat) (hx : x < 4294967296) : TxC w ([v0, v1, v2, v3].set 3 (.int .u32 (x : Int))) { t with lock := x } := by
  obtain ⟨iv, ov, he, h1, h2, h3, h4⟩ := h
  injection he with e0 he
  injection he with e1 he
  injection he with e2 he
  injection he with e3 _
  subst e0 e1 e2 e3
  exact ⟨_, _, rfl, h1, h2, h3, hx⟩
theorem TxC.four {w : World} {cs : List Value} {t : LTx} (h : TxC w cs t) : ∃ AI cI AO cO, cs = [.int .u32 (t.ver : Int), .slice AI t.ins.length cI, .slice AO t.outs.length cO, .int .u32 (t.lock : Int)] := by
  obtain ⟨iv, ov, rfl, h1, h2, _⟩ := h
  obtain ⟨AI, cI, rfl, _⟩ := h1.form
  obtain ⟨AO, cO, rfl, _⟩ := h2.form
  exact ⟨_, _, _, _, rfl⟩
/-- A growth that a growth of new blocks alone goes ahead of. -/
theorem grown_pre {w a b : World} {row : Option Nat} (h : Below w.heap.size w a) (hg : a.grownBy b row) : w.grownBy b row := by
  have h0 := grown_none h
  exact ⟨hg.os.trans h0.os, hg.tape.trans h0.tape, hg.output.trans h0.output, Nat.le_trans h0.size hg.size, fun i hi hr => (hg.block i (Nat.lt_of_lt_of_le hi h0.size) hr).trans (h0.block i hi (by simp))⟩
theorem Kd.grown {w w' : World} {row : Option Nat} {g : Nat} {k k' : TypeId} (h : Kd w (some g) k) (hg : w.grownBy w' row) (hk : Kd w row k') (hne : k ≠ k') : Kd w' (some g) k := by
  intro g' e
  injection e with e
  subst e
  obtain ⟨cur, hc⟩ := h g rfl
  refine ⟨cur, ?_⟩
  rw [hg.block g (Array.getElem?_eq_some_iff.1 hc).1 ?_, hc]
  intro e
  obtain ⟨cur', hc'⟩ := hk g e.symm
  rw [hc] at hc'
  injection hc' with hc'
  injection hc' with _ hc' _
  exact hne hc'
/-- The second's first output turned. -/
theorem ST.outs {w w1 w2 W : World} {A B : Nat} {cs1 : List Value} {v0 iv v3 : Value} {AO : Option Addr} {n cO : Nat} {T : LTx} (h : ST w w1 w2 W A B cs1 [v0, iv, .slice AO n cO, v3] T) (y : LOut) (hy : T.outs[0]? = some y) :
    ∃ g o s mid, AO = some ⟨g, o, none⟩ ∧ W.cell? ⟨g, o, none⟩ = some (.int .u64 (y.value : Int)) ∧ W.frozen? ⟨g, o, none⟩ = false ∧ W.cell? ⟨g, o + 1, none⟩ = some s ∧ W.frozen? ⟨g, o + 1, none⟩ = false ∧ g < W.heap.size ∧ s.ownBlock ≠ some g ∧ mid ≤ W.heap.size ∧ OwC W mid s y.script ∧
      (∀ x : Nat, x < 18446744073709551616 → EN w (W.setCell ⟨g, o, none⟩ (.int .u64 (x : Int))) A B cs1 [v0, iv, .slice AO n cO, v3] T { T with outs := T.outs.set 0 { y with value := x } }) ∧
      (∀ (W' : World) (row : Option Nat) (v' : Value), W.grownBy W' row → (∀ k, row = some k → s.ownBlock = some k) → Kd W row 5 → OwB W' mid 5 v' (y.script ++ [7]) → EN w (W'.setCell ⟨g, o + 1, none⟩ v') A B cs1 [v0, iv, .slice AO n cO, v3] T { T with outs := T.outs.set 0 { y with script := y.script ++ [7] } }) := by
  have hfar := h.far
  have hST := h
  obtain ⟨h1, h2, h3, h4, h5, h6, h7, h8, h9, h10⟩ := h
  obtain ⟨iv', ov', mid, b1, he, k1, ⟨b2, zs, kz, ki, k2⟩, k3, k3', k4, k5, k6, k7⟩ := h4
  injection he with e0 he
  injection he with e1 he
  injection he with e2 he
  injection he with e3 _
  subst e0 e1 e2 e3
  have hmid : mid ≤ W.heap.size := Nat.le_trans k3' h5.size
  have q2 := OwG.same (OutB.below h5) k2 h5
  have hz0 : ∃ z, zs[0]? = some z ∧ z.2 = y := by
    rw [← kz, List.getElem?_map] at hy
    exact Option.map_eq_some_iff.1 hy
  obtain ⟨z, hz, rfl⟩ := hz0
  have hz1 := ki 0 z hz
  have hlt := (List.getElem?_eq_some_iff.1 hz).1
  obtain ⟨g, o, rfl, hg0, hg1, _⟩ := OwG.block q2 0 hlt
  have hn : n = zs.length := by
    obtain ⟨us, p1, _⟩ := q2
    rcases p1.2 with ⟨q, _⟩ | ⟨g', off, cap, cur, q, _⟩
    · cases q
    · injection q
  have hkd : Kd W (some g) 57 := q2.kd
  have hins : ∀ w', Agr w1.heap.size mid w2 w' → RdIns w' iv T.ins := fun w' ha => OwG.rd (InE.rd _) (OwG.inE (k7 w' ha))
  obtain ⟨us, p1, p2⟩ := q2
  have hown : (Value.slice (some ⟨g, o, none⟩) n cO).ownBlock = some g := rfl
  rw [hown] at p2
  obtain ⟨⟨s, hcs, hel, hval⟩, hbd⟩ := p2 0 z hz
  have hs0 : us[0]? = some (.int .u64 (z.2.value : Int)) := by
    have := congrArg (·[0]?) hcs
    simpa [List.getElem?_take] using this
  have hs1 : us[1]? = some s := by
    have := congrArg (·[1]?) hcs
    simpa [List.getElem?_take] using this
  have p1' := p1
  rw [← hn] at p1'
  obtain ⟨c0, f0⟩ := OwS.cellN p1' 0 _ hs0
  obtain ⟨c1, f1⟩ := OwS.cellN p1' 1 _ hs1
  have hsb : ∀ k, s.ownBlock = some k → k < b2 := fun k hk => (hbd s k (by rw [hcs]; rfl) hk).1 hz1
  have hset : ∀ (x : Nat × LOut), (zs.set 0 x).map Prod.snd = T.outs.set 0 x.2 := fun x => by rw [List.map_set, kz]
  refine ⟨g, o, s, mid, rfl, c0, f0, c1, f1, hg1, fun e => hel.2 g e rfl, hmid, hel.1, fun x hx => ?_, fun W' row v' hg hr hkr ho => ?_⟩
  · have gset := grown_set W g o (.int .u64 (x : Int))
    have hb1 : Below w1.heap.size w1 (W.setCell ⟨g, o, none⟩ (.int .u64 (x : Int))) := hfar.setCell (show w1.heap.size ≤ g by omega) _
    refine EN.of hST hb1 (h6.apartO gset hkd (by decide)) (h7.apartO gset hkd (by decide)) ⟨_, _, rfl, hins _ ?_, ?_, k5, k6⟩
    · exact fun b hb1 hb2 => ((grown_set W g o (.int .u64 (x : Int))).block b (by omega) (fun e => by injection e with e; omega)).trans (h5.block b (by omega))
    · have q := OwG.setK (E := fun cs z => OutB mid b2 W (some g) cs z) (E' := fun w own cs (z : Nat × LOut) => OutC w cs z.2) p1 p2 0 z (z.1, { z.2 with value := x }) hz 0 (by decide) (.int .u64 (x : Int))
        (fun cs hl hc => by
          obtain ⟨⟨u, rfl, hu, _⟩, _⟩ := hc
          exact ⟨u, rfl, (hu.kept gset hu.2).1.rd, hx⟩)
        (fun i cs x' hi hx' hc => by
          obtain ⟨⟨u, rfl, hu, hv⟩, _⟩ := hc
          exact ⟨u, rfl, (hu.kept gset hu.2).1.rd, hv⟩)
      rw [Nat.zero_mul, Nat.zero_add, Nat.add_zero] at q
      have q3 := RdL.map (f := Prod.snd) (R := OutC) (OwG.rd (R := fun w cs (z : Nat × LOut) => OutC w cs z.2) (fun w own cs z h => h) q)
      rw [hset] at q3
      exact q3
  · have gset := grown_set W' g (o + 1) v'
    have hkd' : Kd W' (some g) 57 := hkd.grown hg hkr (by decide)
    have hrl : ∀ k, row = some k → mid ≤ k := fun k hk => (OwC.lt hel.1 k (hr k hk)).1
    have hb1 : Below w1.heap.size w1 (W'.setCell ⟨g, o + 1, none⟩ v') := (hfar.grown hg hfar.size (fun k hk => by have := hrl k hk; omega)).setCell (show w1.heap.size ≤ g by omega) _
    refine EN.of hST hb1 ((h6.apartO hg hkr (by decide)).apartO gset hkd' (by decide)) ((h7.apartO hg hkr (by decide)).apartO gset hkd' (by decide)) ⟨_, _, rfl, hins _ ?_, ?_, k5, k6⟩
    · intro b hb1 hb2
      have s1 := hg.block b (by omega) (fun e => by have := hrl b e.symm; omega)
      exact ((gset.block b (by have := hg.size; omega) (fun e => by injection e with e; omega)).trans s1).trans (h5.block b (by omega))
    · have hnr : row ≠ some g := fun e => hel.2 g (hr g e) rfl
      have p1w : OwS W' mid 57 2 (.slice (some ⟨g, o, none⟩) n cO) zs.length us := p1.kept hg (.inr (fun e => hnr e.symm))
      have q := OwG.setK (E := fun cs z => OutB mid b2 W (some g) cs z) (E' := fun w own cs (z : Nat × LOut) => OutC w cs z.2) p1w p2 0 z (z.1, { z.2 with script := z.2.script ++ [7] }) hz 1 (by decide) v'
        (fun cs hl hc => by
          obtain ⟨⟨u, rfl, hu, hv⟩, _⟩ := hc
          exact ⟨v', rfl, (OwS.apartO ho gset hkd' (by decide)).rd, hv⟩)
        (fun i cs x' hi hx' hc => by
          obtain ⟨⟨u, rfl, hu, hv⟩, hbd'⟩ := hc
          have hnz : x'.1 ≠ 0 := by rw [ki i x' hx']; exact hi
          have hoff : Off row u := fun k hk e => by
            have a1 := (hbd' u k rfl hk).2 hnz
            have a2 := hsb k (hr k e)
            omega
          exact ⟨u, rfl, ((hu.kept hg hoff).kept gset hu.2).1.rd, hv⟩)
      rw [Nat.zero_mul, Nat.zero_add] at q
      have q3 := RdL.map (f := Prod.snd) (R := OutC) (OwG.rd (R := fun w cs (z : Nat × LOut) => OutC w cs z.2) (fun w own cs z h => h) q)
      rw [hset] at q3
      exact q3
theorem ST.kdO {w w1 w2 W : World} {A B : Nat} {cs1 : List Value} {v0 iv v3 : Value} {g o : Nat} {n cO : Nat} {T : LTx} (h : ST w w1 w2 W A B cs1 [v0, iv, .slice (some ⟨g, o, none⟩) n cO, v3] T) : Kd W (some g) 57 := by
  obtain ⟨h1, h2, h3, h4, h5, h6⟩ := h
  obtain ⟨iv', ov', mid, b1, he, k1, ⟨b2, zs, kz, ki, k2⟩, _⟩ := h4
  injection he with e0 he
  injection he with e1 he
  injection he with e2 he
  subst e2
  exact (OwG.same (OutB.below h5) k2 h5).kd
theorem ST.kdI {w w1 w2 W : World} {A B : Nat} {cs1 : List Value} {v0 ov v3 : Value} {g o : Nat} {n cI : Nat} {T : LTx} (h : ST w w1 w2 W A B cs1 [v0, .slice (some ⟨g, o, none⟩) n cI, ov, v3] T) : Kd W (some g) 55 := by
  obtain ⟨h1, h2, h3, h4, h5, h6⟩ := h
  obtain ⟨iv', ov', mid, b1, he, k1, _⟩ := h4
  injection he with e0 he
  injection he with e1 he
  subst e1
  exact (OwG.same (InB.below h5) k1 h5).kd
theorem OwW.off {w w' : World} {base : Nat} {v : Value} {ws : List (List UInt8)} {row : Option Nat} (h : OwW w base v ws) (hg : w.grownBy w' row) (hk : Kd w row 24) (ho : Off row v) : OwW w' base v ws := by
  obtain ⟨us, k1, k2⟩ := h
  refine ⟨us, k1.kept hg (off_kept ho), fun i b hb => ?_⟩
  obtain ⟨u, q1, q2, q3⟩ := k2 i b hb
  exact ⟨u, q1, OwS.apartO q2 hg hk (by decide), q3⟩
theorem OwC.apartO {w w' : World} {base : Nat} {u : Value} {b : List UInt8} {row : Option Nat} {k : TypeId} (h : OwC w base u b) (hg : w.grownBy w' row) (hk : Kd w row k) (hne : (5 : TypeId) ≠ k) : OwC w' base u b := by
  rcases h with h | ⟨g, rfl, hb, hm, hgg⟩
  · exact .inl (OwS.apartO h hg hk hne)
  · refine .inr ⟨g, rfl, hb, hm, ?_⟩
    rw [hg.block g (Array.getElem?_eq_some_iff.1 hgg).1 ?_]
    · exact hgg
    · intro e
      obtain ⟨cur, hc⟩ := hk g e.symm
      rw [hgg] at hc
      injection hc with hc
      injection hc with _ hc _
      exact hne hc
theorem OutB.apartO {mid b2 : Nat} {w w' : World} {row : Option Nat} {k : TypeId} {ov : Value} {zs : List (Nat × LOut)} (h : OwG (OutB mid b2) 57 2 w mid ov zs) (hg : w.grownBy w' row) (hk : Kd w row k) (h1 : (57 : TypeId) ≠ k) (h2 : (5 : TypeId) ≠ k) : OwG (OutB mid b2) 57 2 w' mid ov zs := by
  obtain ⟨us, p1, p2⟩ := h
  refine ⟨us, OwS.apartO p1 hg hk h1, fun i z hz => ?_⟩
  obtain ⟨⟨u, q1, q2, q3⟩, q4⟩ := p2 i z hz
  exact ⟨⟨u, q1, ⟨OwC.apartO q2.1 hg hk h2, q2.2⟩, q3⟩, q4⟩
/-- The second's first input turned. -/
theorem ST.ins {w w1 w2 W : World} {A B : Nat} {cs1 : List Value} {v0 ov v3 : Value} {AI : Option Addr} {n cI : Nat} {T : LTx} (h : ST w w1 w2 W A B cs1 [v0, .slice AI n cI, ov, v3] T) (x : LIn) (hx : T.ins[0]? = some x)
    (hp : ∀ (i : Nat) (x : LIn), T.ins[i]? = some x → (x.prev[31]? = some 0 ↔ i = 0)) :
    ∃ g o Aw cw, AI = some ⟨g, o, none⟩ ∧ (W.cell? ⟨g, o + 9, none⟩ = (x.prev[9]?).map u8v ∧ W.frozen? ⟨g, o + 9, none⟩ = false) ∧ (W.cell? ⟨g, o + 34, none⟩ = some (.int .u32 (x.seq : Int)) ∧ W.frozen? ⟨g, o + 34, none⟩ = false) ∧ (W.cell? ⟨g, o + 35, none⟩ = some (.slice Aw x.wit.length cw) ∧ W.frozen? ⟨g, o + 35, none⟩ = false) ∧ g < W.heap.size ∧ OwW W w1.heap.size (.slice Aw x.wit.length cw) x.wit ∧ (Value.slice Aw x.wit.length cw).ownBlock ≠ some g ∧ w1.heap.size ≤ W.heap.size ∧
      (∀ b : UInt8, EN w (W.setCell ⟨g, o + 9, none⟩ (u8v b)) A B cs1 [v0, .slice AI n cI, ov, v3] T { T with ins := T.ins.set 0 { x with prev := x.prev.set 9 b } }) ∧
      (∀ q : Nat, q < 4294967296 → EN w (W.setCell ⟨g, o + 34, none⟩ (.int .u32 (q : Int))) A B cs1 [v0, .slice AI n cI, ov, v3] T { T with ins := T.ins.set 0 { x with seq := q } }) ∧
      (∀ (W' : World) (v' : Value), W.grownBy W' (Value.slice Aw x.wit.length cw).ownBlock → OwW W' w1.heap.size v' (x.wit ++ [[1]]) → EN w (W'.setCell ⟨g, o + 35, none⟩ v') A B cs1 [v0, .slice AI n cI, ov, v3] T { T with ins := T.ins.set 0 { x with wit := x.wit ++ [[1]] } }) := by
  have hfar := h.far
  have hST := h
  obtain ⟨h1, h2, h3, h4, h5, h6, h7, h8, h9, h10⟩ := h
  obtain ⟨iv', ov', mid, b1, he, k1, ⟨b2, zs, kz, ki, k2⟩, k3, k3', k4, k5, k6, k7⟩ := h4
  injection he with e0 he
  injection he with e1 he
  injection he with e2 he
  injection he with e3 _
  subst e0 e1 e2 e3
  have q1 := OwG.same (InB.below h5) k1 h5
  have q2 := OwG.same (OutB.below h5) k2 h5
  have hlt := (List.getElem?_eq_some_iff.1 hx).1
  obtain ⟨g, o, rfl, hg0, hg1, _⟩ := OwG.block q1 0 hlt
  have hn : n = T.ins.length := by
    obtain ⟨us, p1, _⟩ := q1
    rcases p1.2 with ⟨q, _⟩ | ⟨g', off, cap, cur, q, _⟩
    · cases q
    · injection q
  have hkd : Kd W (some g) 55 := q1.kd
  have houts : ∀ w' : World, OwG (OutB mid b2) 57 2 w' mid ov zs → RdOuts w' ov T.outs := fun w' hw => by
    have q := OwG.rd (OutE.rd _) (OwG.outE hw)
    rwa [kz] at q
  obtain ⟨us, p1, p2⟩ := q1
  have hown : (Value.slice (some ⟨g, o, none⟩) n cI).ownBlock = some g := rfl
  rw [hown] at p2
  obtain ⟨⟨sv, wv, hcs, hpl, hsv, hwv, hvo, hsq⟩, hbd⟩ := p2 0 x hx
  obtain ⟨Aw, cw, rfl⟩ := OwW.form hwv.row
  have hpm : (x.prev.map u8v).length = 32 := by rw [List.length_map]; exact hpl
  have hcell : ∀ j, j < 36 → us[j]? = (x.prev.map u8v ++ [Value.int .u32 (x.vout : Int), sv, Value.int .u32 (x.seq : Int), Value.slice Aw x.wit.length cw])[j]? := fun j hj => by
    have := congrArg (·[j]?) hcs
    simpa [List.getElem?_take, hj] using this
  have p1' := p1
  rw [← hn] at p1'
  have b9 : us[9]? = some (u8v x.prev[9]) := by
    rw [hcell 9 (by decide), List.getElem?_append_left (by omega), List.getElem?_map, List.getElem?_eq_getElem (by omega)]
    rfl
  obtain ⟨c9, f9⟩ := OwS.cellN p1' 9 _ b9
  obtain ⟨c34, f34⟩ := OwS.cellN p1' 34 (.int .u32 (x.seq : Int)) (by rw [hcell 34 (by decide), List.getElem?_append_right (by omega), hpm]; rfl)
  obtain ⟨c35, f35⟩ := OwS.cellN p1' 35 (.slice Aw x.wit.length cw) (by rw [hcell 35 (by decide), List.getElem?_append_right (by omega), hpm]; rfl)
  have hb35 : ∀ k, (Value.slice Aw x.wit.length cw).ownBlock = some k → k < b1 := fun k hk => (hbd _ k (by rw [hcs, List.getElem?_append_right (by omega), hpm]; rfl) hk).1 ((hp 0 x hx).2 rfl)
  have hwo : (Value.slice Aw x.wit.length cw).ownBlock ≠ some g := fun e => by
    obtain ⟨_, _, hoff, _⟩ := hwv
    exact hoff g e rfl
  have hrow := hwv.row
  refine ⟨g, o, Aw, cw, rfl, ⟨by rw [c9, List.getElem?_eq_getElem (by omega)]; rfl, f9⟩, ⟨c34, f34⟩, ⟨c35, f35⟩, hg1, hrow, hwo, hfar.size, fun b => ?_, fun q hq => ?_, fun W' v' hg ho => ?_⟩
  · have gset := grown_set W g (o + 9) (u8v b)
    refine EN.of hST (hfar.setCell hg0 _) (h6.apartO gset hkd (by decide)) (h7.apartO gset hkd (by decide)) ⟨_, _, rfl, ?_, houts _ (OutB.apartO q2 gset hkd (by decide) (by decide)), k5, k6⟩
    have q := OwG.setK (E := fun cs z => InB w1.heap.size b1 W (some g) cs z) (E' := fun w own cs z => InC w cs z) p1 p2 0 x { x with prev := x.prev.set 9 b } hx 9 (by decide) (u8v b)
      (fun cs hl hc => by
        obtain ⟨sv, wv, rfl, _, r1, r2, r3, r4⟩ := InE.at (o := o + (0 * 36 + 9)) (v := u8v b) cs x hc.1
        refine ⟨sv, wv, ?_, by rw [List.length_set]; exact hpl, r1.1.rd, r2.row.rd, r3, r4⟩
        rw [List.set_append_left _ _ (by omega), List.map_set])
      (fun i cs x' hi hx' hc => InE.rd _ _ _ _ _ (InE.at (o := o + (0 * 36 + 9)) (v := u8v b) cs x' hc.1))
    rw [Nat.zero_mul, Nat.zero_add] at q
    exact OwG.rd (R := InC) (fun w own cs z h => h) q
  · have gset := grown_set W g (o + 34) (.int .u32 (q : Int))
    refine EN.of hST (hfar.setCell hg0 _) (h6.apartO gset hkd (by decide)) (h7.apartO gset hkd (by decide)) ⟨_, _, rfl, ?_, houts _ (OutB.apartO q2 gset hkd (by decide) (by decide)), k5, k6⟩
    have q := OwG.setK (E := fun cs z => InB w1.heap.size b1 W (some g) cs z) (E' := fun w own cs z => InC w cs z) p1 p2 0 x { x with seq := q } hx 34 (by decide) (.int .u32 (q : Int))
      (fun cs hl hc => by
        obtain ⟨sv, wv, rfl, _, r1, r2, r3, r4⟩ := InE.at (o := o + (0 * 36 + 34)) (v := .int .u32 (q : Int)) cs x hc.1
        refine ⟨sv, wv, ?_, hpl, r1.1.rd, r2.row.rd, r3, hq⟩
        rw [List.set_append_right _ _ (by omega), hpm]
        rfl)
      (fun i cs x' hi hx' hc => InE.rd _ _ _ _ _ (InE.at (o := o + (0 * 36 + 34)) (v := .int .u32 (q : Int)) cs x' hc.1))
    rw [Nat.zero_mul, Nat.zero_add] at q
    exact OwG.rd (R := InC) (fun w own cs z h => h) q
  · have hkr := hrow.kd
    have gset := grown_set W' g (o + 35) v'
    have hkd' : Kd W' (some g) 55 := hkd.grown hg hkr (by decide)
    have hb1 : Below w1.heap.size w1 (W'.setCell ⟨g, o + 35, none⟩ v') := (hfar.grown hg hfar.size (fun k hk => (OwW.lt hrow k hk).1)).setCell hg0 _
    refine EN.of hST hb1 ((h6.apartO hg hkr (by decide)).apartO gset hkd' (by decide)) ((h7.apartO hg hkr (by decide)).apartO gset hkd' (by decide)) ⟨_, _, rfl, ?_, houts _ (OutB.apartO (OutB.apartO q2 hg hkr (by decide) (by decide)) gset hkd' (by decide) (by decide)), k5, k6⟩
    have p1w : OwS W' w1.heap.size 55 36 (.slice (some ⟨g, o, none⟩) n cI) T.ins.length us := p1.kept hg (.inr (fun e => hwo e.symm))
    have q := OwG.setK (E := fun cs z => InB w1.heap.size b1 W (some g) cs z) (E' := fun w own cs z => InC w cs z) p1w p2 0 x { x with wit := x.wit ++ [[1]] } hx 35 (by decide) v'
      (fun cs hl hc => by
        obtain ⟨⟨sv, wv, rfl, _, r1, r2, r3, r4⟩, _⟩ := hc
        refine ⟨sv, v', ?_, hpl, (OwS.apartO (OwS.apartO r1.1 hg hkr (by decide)) gset hkd' (by decide)).rd, (OwW.apartO ho gset hkd' (by decide) (by decide)).rd, r3, r4⟩
        rw [List.set_append_right _ _ (by omega), hpm]
        rfl)
      (fun i cs x' hi hx' hc => by
        obtain ⟨⟨sv, wv, rfl, r0, r1, r2, r3, r4⟩, hbd'⟩ := hc
        have hpm' : (x'.prev.map u8v).length = 32 := by rw [List.length_map]; exact r0
        have hoff : Off (Value.slice Aw x.wit.length cw).ownBlock wv := fun k hk e => by
          have a1 := (hbd' wv k (by rw [List.getElem?_append_right (by omega), hpm']; rfl) hk).2 (fun e => hi ((hp i x' hx').1 e))
          have a2 := hb35 k e
          omega
        exact ⟨sv, wv, rfl, r0, (OwS.apartO (OwS.apartO r1.1 hg hkr (by decide)) gset hkd' (by decide)).rd, (OwW.apartO (r2.row.off hg hkr hoff) gset hkd' (by decide) (by decide)).rd, r3, r4⟩)
    rw [Nat.zero_mul, Nat.zero_add] at q
    exact OwG.rd (R := InC) (fun w own cs z h => h) q
/-! What is turned is another transaction, and it still may be. -/
theorem may_in {t : LTx} (h : mayT t) (x : LIn) (hx : okIn x) : mayT { t with ins := t.ins.set 0 x } := by
  obtain ⟨h1, h2, h3, h4, h5, h6⟩ := h
  refine ⟨fun y hy => ?_, h2, by simpa using h3, by simpa using h4, h5, h6⟩
  rcases List.mem_or_eq_of_mem_set hy with h | h
  · exact h1 y h
  · rw [h]; exact hx
theorem may_out {t : LTx} (h : mayT t) (x : LOut) (hx : okOut x) : mayT { t with outs := t.outs.set 0 x } := by
  obtain ⟨h1, h2, h3, h4, h5, h6⟩ := h
  refine ⟨h1, fun y hy => ?_, h3, h4, by simpa using h5, by simpa using h6⟩
  rcases List.mem_or_eq_of_mem_set hy with h | h
  · exact h2 y h
  · rw [h]; exact hx
theorem ne_in {t : LTx} {x x' : LIn} (h : t.ins[0]? = some x) (hne : x' ≠ x) : ({ t with ins := t.ins.set 0 x' } : LTx) ≠ t := by
  intro e
  have e1 := congrArg (fun s => s.ins[0]?) e
  have hlt := (List.getElem?_eq_some_iff.1 h).1
  dsimp only at e1
  rw [List.getElem?_set_self hlt, h] at e1
  exact hne (Option.some.inj e1)
theorem ne_out {t : LTx} {x x' : LOut} (h : t.outs[0]? = some x) (hne : x' ≠ x) : ({ t with outs := t.outs.set 0 x' } : LTx) ≠ t := by
  intro e
  have e1 := congrArg (fun s => s.outs[0]?) e
  have hlt := (List.getElem?_eq_some_iff.1 h).1
  dsimp only at e1
  rw [List.getElem?_set_self hlt, h] at e1
  exact hne (Option.some.inj e1)
theorem bytes_ne {T u : LTx} {w w' : World} {cs cs' : List Value} (hT : mayT T) (hu : mayT u) (h1 : TxC w cs T) (h2 : TxC w' cs' u) (hne : u ≠ T) : (bytesT T == bytesT u) = false := by
  rw [beq_eq_false_iff_ne, bytesT_may hT, bytesT_may hu]
  exact fun e => hne (bytes_inj hT hu h1.fit h2.fit e).symm
end Go.Proofs.Ytfggkljgfadacaa.W
