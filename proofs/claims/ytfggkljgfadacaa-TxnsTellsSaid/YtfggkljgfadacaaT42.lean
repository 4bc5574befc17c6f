/- TxnsTells: any transaction has the bytes that the document says; any bytes are one, or none. -/
import Derived.Test.YtfggkljgfadacaaT41
set_option linter.unusedVariables false
set_option linter.unusedSimpArgs false
namespace Go.Proofs.Ytfggkljgfadacaa.W
open Go.RowKit Go.Proofs.Ytfggkljgfadacaa.B Go.Proofs
section
variable {P : Program} {ops : Array Oper} {Q : Exit → Act → World → Prop} {md : Region.Mode}
/-- A stronger condition will do. -/
theorem wpAnyH_mono {S S' : World → Prop} (h : ∀ w, S' w → S w) : ∀ (fuel : Nat) (listed : Array Bool) (a : Act) (w : World), wpAnyH P md ops Q S' fuel listed a w → wpAnyH P md ops Q S fuel listed a w
  | 0, _, _, _, H => H
  | fuel + 1, _, _, _, H => ⟨H.1, fun i hi => wpOp_mono (fun a' w' h' => ⟨h _ h'.1, wpAnyH_mono h fuel _ a' w' h'.2⟩) (H.2 i hi)⟩
end
theorem run_empty24 (w : World) : (Instr.buildSlice 24 0 #[]).run Try.prog w = .ok (.slice (some ⟨w.heap.size, 0, none⟩) 0 0) (w.alloc (.cells #[] 5)) := by
  obtain ⟨i, hi, hzz⟩ := Option.map_eq_some_iff.1 info5
  simp only [Prod.mk.injEq] at hzz
  simp [Instr.buildSlice, run_underlying Try.underlying24, sizeOf, typeInfo, zeroValue, hi, hzz.1, hzz.2.1, Instr.fill, newRow]
  rw [show Array.map (fun _ => (default : Value)) (Array.range 0) = #[] by apply Array.ext <;> simp]
/-- []byte{} at a step of a region that draws its order. -/
theorem step_empty24 {ops : Array Oper} {o : Oper} {a : Act} {w : World} {K : Act → World → Prop} {Q : Exit → Act → World → Prop} {E : Prop} (hgd : o.guard = none) (ho : o.op = .buildSlice 24 0 #[])
    (h : K (a.put o.dst (.slice (some ⟨w.heap.size, 0, none⟩) 0 0)) (w.alloc (.cells #[] 5))) : if Region.wanted o (yielded ops a.tmps) = true then Oper.wp Try.prog o a w K Q else E := by
  have hw : Region.wanted o (yielded ops a.tmps) = true := by simp [Region.wanted, hgd]
  rw [if_pos hw]
  unfold Oper.wp execOp
  simp only [ho, Sem.run_bind, Sem.run_pure, Result.andThen_ok, List.map_toArray, List.map_nil, run_empty24]
  exact h
theorem run_six (w : World) (A0 A1 A2 A3 A4 A5 : Option Addr) (n0 n1 n2 n3 n4 n5 c0 c1 c2 c3 c4 c5 : Nat) :
    (Instr.buildSlice 43 6 #[(0, .slice A0 n0 c0), (1, .slice A1 n1 c1), (2, .slice A2 n2 c2), (3, .slice A3 n3 c3), (4, .slice A4 n4 c4), (5, .slice A5 n5 c5)]).run Try.prog w =
      .ok (.slice (some ⟨w.heap.size, 0, none⟩) 6 6) (w.alloc (.cells #[.slice A0 n0 c0, .slice A1 n1 c1, .slice A2 n2 c2, .slice A3 n3 c3, .slice A4 n4 c4, .slice A5 n5 c5] 24)) := by
  go_simp
/-- A list of six slices of bytes at a step of a region that draws its order. -/
theorem step_six {ops : Array Oper} {o : Oper} {a : Act} {w : World} {K : Act → World → Prop} {Q : Exit → Act → World → Prop} {E : Prop} (hgd : o.guard = none) (x0 x1 x2 x3 x4 x5 : Operand) (ho : o.op = .buildSlice 43 6 #[(0, x0), (1, x1), (2, x2), (3, x3), (4, x4), (5, x5)])
    (A0 A1 A2 A3 A4 A5 : Option Addr) (n0 n1 n2 n3 n4 n5 c0 c1 c2 c3 c4 c5 : Nat) (h0 : a.eval x0 = .slice A0 n0 c0) (h1 : a.eval x1 = .slice A1 n1 c1) (h2 : a.eval x2 = .slice A2 n2 c2) (h3 : a.eval x3 = .slice A3 n3 c3) (h4 : a.eval x4 = .slice A4 n4 c4) (h5 : a.eval x5 = .slice A5 n5 c5)
    (h : K (a.put o.dst (.slice (some ⟨w.heap.size, 0, none⟩) 6 6)) (w.alloc (.cells #[.slice A0 n0 c0, .slice A1 n1 c1, .slice A2 n2 c2, .slice A3 n3 c3, .slice A4 n4 c4, .slice A5 n5 c5] 24))) : if Region.wanted o (yielded ops a.tmps) = true then Oper.wp Try.prog o a w K Q else E := by
  have hw : Region.wanted o (yielded ops a.tmps) = true := by simp [Region.wanted, hgd]
  rw [if_pos hw]
  unfold Oper.wp execOp
  simp only [ho, Sem.run_bind, Sem.run_pure, Result.andThen_ok, List.map_toArray, List.map_cons, List.map_nil, h0, h1, h2, h3, h4, h5, run_six]
  exact h
/-- How TxnsTells stands: the raw transaction, the made one, the raw bytes. -/
def LSt (W0 W : World) (A0 A1 : Nat) (cs : List Value) (raw : LTx) (ct : List Value) (T : LTx) (vb : Value) (lb : List UInt8) : Prop :=
  Below W0.heap.size W0 W ∧ BxT W A0 cs raw ∧ BxT W A1 ct T ∧ RdB W vb lb
section
variable {W0 W W' : World} {A0 A1 : Nat} {cs ct : List Value} {ra T : LTx} {vb : Value} {lb : List UInt8}
theorem LSt.step (h : LSt W0 W A0 A1 cs ra ct T vb lb) (hb : Below W.heap.size W W') : LSt W0 W' A0 A1 cs ra ct T vb lb :=
  ⟨h.1.trans (hb.mono h.1.size), h.2.1.below hb, h.2.2.1.below hb, h.2.2.2.below hb⟩
theorem LSt.raw (h : LSt W0 W A0 A1 cs ra ct T vb lb) (hb : Below W.heap.size W W') : BxT W' A0 cs ra := h.2.1.below hb
theorem LSt.tx (h : LSt W0 W A0 A1 cs ra ct T vb lb) (hb : Below W.heap.size W W') : BxT W' A1 ct T := h.2.2.1.below hb
theorem LSt.tx0 (h : LSt W0 W A0 A1 cs ra ct T vb lb) : BxT W A1 ct T := h.2.2.1
end
/-- Six rows of bytes, in a block of their own. -/
structure Six (W : World) (G : Nat) (vs : List Value) : Prop where
  blk : W.heap[G]? = some (.cells vs.toArray 24 (0, 0))
  rd : ∀ v ∈ vs, ∃ l : List UInt8, RdB W v l ∧ l.length ≤ 400001
theorem Six.below {W W' : World} {G : Nat} {vs : List Value} (h : Six W G vs) (hb : Below W.heap.size W W') : Six W' G vs :=
  ⟨by rw [hb.block G (Array.getElem?_eq_some_iff.1 h.blk).1]; exact h.blk, fun v hv => by
    obtain ⟨l, h1, h2⟩ := h.rd v hv
    exact ⟨l, h1.below hb, h2⟩⟩
theorem Six.at {W : World} {G : Nat} {vs : List Value} (h : Six W G vs) (k : Nat) (hk : k < vs.length) : ∃ A l c, W.cell? ⟨G, k, none⟩ = some (.slice A l.length c) ∧ RdB W (.slice A l.length c) l ∧ l.length ≤ 400001 := by
  obtain ⟨l, h1, h2⟩ := h.rd vs[k] (List.getElem_mem hk)
  obtain ⟨A, c, he, -⟩ := RdB.form h1
  refine ⟨A, l, c, ?_, by rw [← he]; exact h1, h2⟩
  simp only [World.cell?, h.blk]
  simp [hk, he]
/-- The four transactions that have been read, and both readers. -/
structure Fin6 (W0 W : World) (P Q V U : Nat) (cp cq cv cw : List Value) (tp tv : LTx) (B D : Nat) (l1 l2 : List UInt8) (c : Bool) : Prop where
  p : BxT W P cp tp
  q : BxT W Q cq tp
  v : BxT W V cv tv
  w : BxT W U cw tv
  r : Rdr 74 W B l1 c
  s : Rdr 46 W D l2 c
  below : Below W0.heap.size W0 W
theorem Fin6.bad {W0 W W' : World} {P Q V U : Nat} {cp cq cv cw : List Value} {tp tv : LTx} {B D : Nat} {l1 l2 : List UInt8} {c : Bool} (h : Fin6 W0 W P Q V U cp cq cv cw tp tv B D l1 l2 c) (hb : Below W.heap.size W W') : W'.cell? ⟨D, 1, none⟩ = some (.bool c) := by
  obtain ⟨A, c', _, h2, _⟩ := Rdr.two (h.s.below hb)
  exact h2
theorem Two.al {W0 W : World} {B D : Nat} {l l' : List UInt8} {b b' : Bool} (h : Two W0 W B D l b l' b') (o : Obj) : Two W0 (W.alloc o) B D l b l' b' :=
  ⟨h.r.below (below_al _ _), h.s.below (below_al _ _), h.below.alloc h.below.size _, h.hb, h.hd, h.ne⟩
theorem bytesT_any {t : LTx} (hf : fitT t) : (bytesT t).length ≤ 400000 := by
  by_cases h : mayT t
  · rw [bytesT_may h]; exact bytesB_length t h hf
  · unfold bytesT; rw [if_neg h]; decide
theorem bytesT_pos (T : LTx) (h : mayT T) : 0 < (bytesT T).length := by
  rw [bytesT_may h]; unfold bytesB baseB; split <;> simp only [List.length_append, le_length, List.length_cons, List.length_nil] <;> omega
/-- What both sides read of bytes. -/
theorem both_read (l : List UInt8) : ∃ p ok v so l1 l2 c, rParse l = (p, ok) ∧ qParse l = (p, ok) ∧ rTx (l, false) = ((v, so), (l1, c)) ∧ qTx (l, false) = ((v, so), (l2, c)) ∧ c = (!so) ∧ (so = true → l1 = l2) := by
  obtain ⟨⟨v, so⟩, l1, c, h1⟩ : ∃ a l1 c, rTx (l, false) = (a, (l1, c)) := ⟨_, _, _, rfl⟩
  obtain ⟨⟨v2, so2⟩, l2, c2, h2⟩ : ∃ a l1 c, qTx (l, false) = (a, (l1, c)) := ⟨_, _, _, rfl⟩
  have h3 := tx_same l
  rw [h1, h2] at h3
  simp only [Prod.mk.injEq] at h3
  obtain ⟨⟨e1, e2⟩, e3, e4, e5⟩ := h3
  subst e1 e2
  refine ⟨(rParse l).1, (rParse l).2, v2, so2, l1, l2, c, rfl, by rw [parse_same], h1, ?_, e4, fun h => (e5 h).1.symm⟩
  rw [h2, e3, e4]
set_option maxHeartbeats 8000000 in
set_option maxRecDepth 100000 in
theorem txnsTells_any (cs0 : List Value) (raw : LTx) (n m at_ : Int) (vb : Value) (lb : List UInt8) (b8 : UInt8) (w : World) (hraw : TxC w cs0 raw) (hvb : RdB w vb lb) :
    Calls Try.prog 13 #[.agg cs0.toArray, .int .i64 n, .int .i64 m, vb, .int .i64 at_, .int .u8 (b8.toNat : Int)] w fun e w' => e = .returned (.bool true) ∧ Below w.heap.size w w' := by
  obtain ⟨AI, cI, AO, cO, rfl⟩ := TxC.form hraw
  obtain ⟨Ab, cb, rfl, -⟩ := RdB.form hvb
  obtain ⟨T, hT⟩ : ∃ T, T = txOf n m := ⟨_, rfl⟩
  have HT := As.mk hT
  have HM : As (mayT T) := ⟨by rw [hT]; exact txOf_may n m⟩
  have HRW := As.mk hraw
  have HVB := As.mk hvb
  have HFR : As (fitT raw) := ⟨hraw.fit⟩
  have hli : (raw.ins.length : Int) ≤ 9223372036854775807 := by obtain ⟨_, _, he, h1, _⟩ := hraw; have := h1.len; unfold maxLen at this; omega
  have hlo : (raw.outs.length : Int) ≤ 9223372036854775807 := by obtain ⟨_, _, he, _, h1, _⟩ := hraw; have := h1.len; unfold maxLen at this; omega
  have hlb : (lb.length : Int) ≤ 9223372036854775807 := by obtain ⟨_, _, _, h1, h2, _⟩ := RdB.form hvb; unfold maxLen at h2; omega
  clear hT hraw hvb
  go_enter Try.func13, Try.ntmps13
  go_upto_region 1 with fail
  have HX0 : As (Below w.heap.size w (w.alloc (.cells #[.int .u32 (raw.ver : Int), .slice AI raw.ins.length cI, .slice AO raw.outs.length cO, .int .u32 (raw.lock : Int)] 51)) ∧ BxT (w.alloc (.cells #[.int .u32 (raw.ver : Int), .slice AI raw.ins.length cI, .slice AO raw.outs.length cO, .int .u32 (raw.lock : Int)] 51)) w.heap.size [.int .u32 (raw.ver : Int), .slice AI raw.ins.length cI, .slice AO raw.outs.length cO, .int .u32 (raw.lock : Int)] raw ∧ RdB (w.alloc (.cells #[.int .u32 (raw.ver : Int), .slice AI raw.ins.length cI, .slice AO raw.outs.length cO, .int .u32 (raw.lock : Int)] 51)) (.slice Ab lb.length cb) lb) := ⟨below_al _ _, BxT.new HRW.out, HVB.out.below (below_al _ _)⟩
  obtain ⟨A0, hA0⟩ : ∃ A, A = w.heap.size := ⟨_, rfl⟩
  have HX1 := HX0
  rw [← hA0] at HX1 ⊢
  have HX0 : As (Below w.heap.size w (w.alloc (.cells #[.int .u32 (raw.ver : Int), .slice AI raw.ins.length cI, .slice AO raw.outs.length cO, .int .u32 (raw.lock : Int)] 51)) ∧ BxT (w.alloc (.cells #[.int .u32 (raw.ver : Int), .slice AI raw.ins.length cI, .slice AO raw.outs.length cO, .int .u32 (raw.lock : Int)] 51)) A0 [.int .u32 (raw.ver : Int), .slice AI raw.ins.length cI, .slice AO raw.outs.length cO, .int .u32 (raw.lock : Int)] raw ∧ RdB (w.alloc (.cells #[.int .u32 (raw.ver : Int), .slice AI raw.ins.length cI, .slice AO raw.outs.length cO, .int .u32 (raw.lock : Int)] 51)) (.slice Ab lb.length cb) lb) := ⟨below_al _ _, by rw [hA0]; exact BxT.new HRW.out, HVB.out.below (below_al _ _)⟩
  clear hA0 HX1 HRW HVB
  generalize (w.alloc (.cells #[.int .u32 (raw.ver : Int), .slice AI raw.ins.length cI, .slice AO raw.outs.length cO, .int .u32 (raw.lock : Int)] 51)) = W0 at HX0 ⊢
  obtain ⟨q0, q1, q2, q3⟩ := HX0.out.2.1.four
  by_cases h1 : (400 : Int) < (lb.length : Int)
  · go_wp2_with (go_at_call 50; (with_reducible refine (awake3_any _).mono ?_); rintro e w9 ⟨rfl, hb⟩; have HB9 := As.mk (HX0.out.1.trans (hb.mono HX0.out.1.size)); clear hb)
    go_ret
    exact ⟨rfl, HB9.out⟩
  have h1' : (lb.length : Int) ≤ 400 := by omega
  clear h1 hlb
  by_cases h2 : (60 : Int) < (raw.ins.length : Int)
  · go_wp2_with (go_at_call 50; (with_reducible refine (awake3_any _).mono ?_); rintro e w9 ⟨rfl, hb⟩; have HB9 := As.mk (HX0.out.1.trans (hb.mono HX0.out.1.size)); clear hb)
    go_ret
    exact ⟨rfl, HB9.out⟩
  have h2' : (raw.ins.length : Int) ≤ 60 := by omega
  clear h2 hli
  by_cases h3 : (60 : Int) < (raw.outs.length : Int)
  · go_wp2_with (go_at_call 50; (with_reducible refine (awake3_any _).mono ?_); rintro e w9 ⟨rfl, hb⟩; have HB9 := As.mk (HX0.out.1.trans (hb.mono HX0.out.1.size)); clear hb)
    go_ret
    exact ⟨rfl, HB9.out⟩
  have h3' : (raw.outs.length : Int) ≤ 60 := by omega
  clear h3 hlo
  go_upto_region 4 with (go_at_call 51; (with_reducible refine (tx_any n m _).mono ?_); rintro e w1 ⟨cs, rfl, ht, hb⟩; have HX1 : As (OwTx w1 W0.heap.size cs T) := ⟨by rw [HT.out]; exact ht.own⟩; obtain ⟨BI, dI, BO, dO, rfl⟩ := OwTx.form HX1.out; have HB1 := As.mk hb; clear ht hb q0 q1 q2 q3)
  have HFT : As (fitT T) := ⟨HX1.out.rd.fit⟩
  obtain ⟨A1, hA1⟩ : ∃ A, A = w1.heap.size := ⟨_, rfl⟩
  have HC : As (LSt w (w1.alloc (.cells #[.int .u32 (T.ver : Int), .slice BI T.ins.length dI, .slice BO T.outs.length dO, .int .u32 (T.lock : Int)] 51)) A0 A1 [.int .u32 (raw.ver : Int), .slice AI raw.ins.length cI, .slice AO raw.outs.length cO, .int .u32 (raw.lock : Int)] raw [.int .u32 (T.ver : Int), .slice BI T.ins.length dI, .slice BO T.outs.length dO, .int .u32 (T.lock : Int)] T (.slice Ab lb.length cb) lb) := ⟨by
    have hbx := below_al w1 (.cells #[.int .u32 (T.ver : Int), .slice BI T.ins.length dI, .slice BO T.outs.length dO, .int .u32 (T.lock : Int)] 51)
    have hb1 := HB1.out.trans (hbx.mono HB1.out.size)
    exact ⟨HX0.out.1.trans (hb1.mono HX0.out.1.size), HX0.out.2.1.below hb1, by rw [hA1]; exact BxT.new HX1.out.rd, HX0.out.2.2.below hb1⟩⟩
  rw [← hA1]
  clear hA1 HX0 HX1 HB1
  generalize (w1.alloc (.cells #[.int .u32 (T.ver : Int), .slice BI T.ins.length dI, .slice BO T.outs.length dO, .int .u32 (T.lock : Int)] 51)) = W1 at HC ⊢
  go_cut [102] (fun v102 wc => v102 = .bool false ∧ As (LSt w wc A0 A1 [.int .u32 (raw.ver : Int), .slice AI raw.ins.length cI, .slice AO raw.outs.length cO, .int .u32 (raw.lock : Int)] raw [.int .u32 (T.ver : Int), .slice BI T.ins.length dI, .slice BO T.outs.length dO, .int .u32 (T.lock : Int)] T (.slice Ab lb.length cb) lb))
  case first =>
    as_aux_lemma =>
      obtain ⟨dm, hdm⟩ : ∃ d, decide (mayT raw) = d := ⟨_, rfl⟩
      have HDM := As.mk hdm
      obtain ⟨ds, hds⟩ : ∃ d, decide (raw = T) = d := ⟨_, rfl⟩
      have HDS := As.mk hds
      have HDT : As (decide (mayT T) = true) := ⟨decide_eq_true HM.out⟩
      have HW : As (Below w.heap.size w W1) := ⟨HC.out.1⟩
      clear hdm hds
      refine wp_region_held_drew (S := (fun V : World => Below W1.heap.size W1 V)) (by kernel_rfl) ?_ (fun hHeld => ?_)
      · exact below_dr W1
      refine wpAnyH_take (i := 0) (oi := ?_) (v := ?_) (by simp only [List.getElem?_toArray, List.getElem?_cons_zero, List.getElem?_cons_succ]; rfl) (by kernel_rfl) (by kernel_rfl) (by kernel_rfl) (by exact fun _ _ _ h => h) (Or.inl ⟨by rfl, ?_⟩) (by assumption) ?_
      rotate_left
      · (intro w hSw; (try dsimp only at hSw); obtain ⟨q0, q1, q2, q3⟩ := (HC.out.raw hSw).four; obtain ⟨r0, r1, r2, r3⟩ := (HC.out.tx hSw).four; clear hSw; go_simp; first | done | with_reducible rfl)
      try simp only [Act.put, List.setIfInBounds_toArray, List.set_cons_zero, List.set_cons_succ]
      refine wpAnyH_take (i := 2) (oi := ?_) (v := ?_) (by simp only [List.getElem?_toArray, List.getElem?_cons_zero, List.getElem?_cons_succ]; rfl) (by kernel_rfl) (by kernel_rfl) (by kernel_rfl) (by exact fun _ _ _ h => h) (Or.inl ⟨by rfl, ?_⟩) (by assumption) ?_
      rotate_left
      · (intro w hSw; (try dsimp only at hSw); obtain ⟨q0, q1, q2, q3⟩ := (HC.out.raw hSw).four; obtain ⟨r0, r1, r2, r3⟩ := (HC.out.tx hSw).four; clear hSw; go_simp; first | done | with_reducible rfl)
      try simp only [Act.put, List.setIfInBounds_toArray, List.set_cons_zero, List.set_cons_succ]
      refine wpAnyH_ready (rs := [1]) (by kernel_rfl) (by simp) ?_
      refine AllReadyH.cons (o := ?_) (by simp only [List.getElem?_toArray, List.getElem?_cons_zero, List.getElem?_cons_succ]; rfl) (fun K hK => ?_) ?_
      · go_simp
        (with_reducible refine (may_any _ raw _ (HC.out.raw hHeld).tx).mono ?_)
        rintro e w101 ⟨he, hb⟩
        rw [HDM.out] at he
        subst he
        have hS2 := hHeld.trans (hb.mono hHeld.size)
        clear hb
        dsimp only
        refine hK.out _ _ ?_ (fun hHeld2 => ?_)
        · exact hS2
        clear hK K hHeld
        have hHeld := hHeld2
        clear hHeld2
        refine wpAnyH_mono (S' := fun V : World => Below w101.heap.size w101 V) (fun V h => hHeld.trans (h.mono hHeld.size)) _ _ _ _ ?_
        have HCn := As.mk (HC.out.step hHeld)
        clear HC hHeld
        have HC := HCn
        clear HCn
        have hHeld : Below w101.heap.size w101 w101 := Below.refl _ _
        try simp only [Act.put, List.setIfInBounds_toArray, List.set_cons_zero, List.set_cons_succ]
        refine wpAnyH_ready (rs := [3]) (by kernel_rfl) (by simp) ?_
        refine AllReadyH.cons (o := ?_) (by simp only [List.getElem?_toArray, List.getElem?_cons_zero, List.getElem?_cons_succ]; rfl) (fun K hK => ?_) ?_
        · go_simp
          (with_reducible refine (qmay_any _ raw _ HDM.out (HC.out.raw hHeld).tx).mono ?_)
          rintro e w103 ⟨rfl, hb⟩
          have hS2 := hHeld.trans (hb.mono hHeld.size)
          clear hb
          dsimp only
          refine hK.out _ _ ?_ (fun hHeld2 => ?_)
          · exact hS2
          clear hK K hHeld
          have hHeld := hHeld2
          clear hHeld2
          refine wpAnyH_mono (S' := fun V : World => Below w103.heap.size w103 V) (fun V h => hHeld.trans (h.mono hHeld.size)) _ _ _ _ ?_
          have HCn := As.mk (HC.out.step hHeld)
          clear HC hHeld
          have HC := HCn
          clear HCn
          have hHeld : Below w103.heap.size w103 w103 := Below.refl _ _
          try simp only [Act.put, List.setIfInBounds_toArray, List.set_cons_zero, List.set_cons_succ]
          refine wpAnyH_take (i := 4) (oi := ?_) (v := ?_) (by simp only [List.getElem?_toArray, List.getElem?_cons_zero, List.getElem?_cons_succ]; rfl) (by kernel_rfl) (by kernel_rfl) (by kernel_rfl) (by exact fun _ _ _ h => h) (Or.inl ⟨by rfl, ?_⟩) (by assumption) ?_
          rotate_left
          · (intro w hSw; (try dsimp only at hSw); obtain ⟨q0, q1, q2, q3⟩ := (HC.out.raw hSw).four; obtain ⟨r0, r1, r2, r3⟩ := (HC.out.tx hSw).four; clear hSw; go_simp; first | done | with_reducible rfl)
          try simp only [Act.put, List.setIfInBounds_toArray, List.set_cons_zero, List.set_cons_succ]
          refine wpAnyH_take (i := 5) (oi := ?_) (v := ?_) (by simp only [List.getElem?_toArray, List.getElem?_cons_zero, List.getElem?_cons_succ]; rfl) (by kernel_rfl) (by kernel_rfl) (by kernel_rfl) (by exact fun _ _ _ h => h) (Or.inl ⟨by rfl, ?_⟩) (by assumption) ?_
          rotate_left
          · (intro w hSw; (try dsimp only at hSw); obtain ⟨q0, q1, q2, q3⟩ := (HC.out.raw hSw).four; obtain ⟨r0, r1, r2, r3⟩ := (HC.out.tx hSw).four; clear hSw; go_simp; first | done | with_reducible rfl)
          try simp only [Act.put, List.setIfInBounds_toArray, List.set_cons_zero, List.set_cons_succ]
          refine wpAnyH_take (i := 6) (oi := ?_) (v := ?_) (by simp only [List.getElem?_toArray, List.getElem?_cons_zero, List.getElem?_cons_succ]; rfl) (by kernel_rfl) (by kernel_rfl) (by kernel_rfl) (by exact fun _ _ _ h => h) (Or.inl ⟨by rfl, ?_⟩) (by assumption) ?_
          rotate_left
          · (intro w hSw; (try dsimp only at hSw); obtain ⟨q0, q1, q2, q3⟩ := (HC.out.raw hSw).four; obtain ⟨r0, r1, r2, r3⟩ := (HC.out.tx hSw).four; clear hSw; go_simp; first | done | with_reducible rfl)
          try simp only [Act.put, List.setIfInBounds_toArray, List.set_cons_zero, List.set_cons_succ]
          refine wpAnyH_take (i := 9) (oi := ?_) (v := ?_) (by simp only [List.getElem?_toArray, List.getElem?_cons_zero, List.getElem?_cons_succ]; rfl) (by kernel_rfl) (by kernel_rfl) (by kernel_rfl) (by exact fun _ _ _ h => h) (Or.inl ⟨by rfl, ?_⟩) (by assumption) ?_
          rotate_left
          · (intro w hSw; (try dsimp only at hSw); obtain ⟨q0, q1, q2, q3⟩ := (HC.out.raw hSw).four; obtain ⟨r0, r1, r2, r3⟩ := (HC.out.tx hSw).four; clear hSw; go_simp; first | done | with_reducible rfl)
          try simp only [Act.put, List.setIfInBounds_toArray, List.set_cons_zero, List.set_cons_succ]
          refine wpAnyH_ready (rs := [7]) (by kernel_rfl) (by simp) ?_
          refine AllReadyH.cons (o := ?_) (by simp only [List.getElem?_toArray, List.getElem?_cons_zero, List.getElem?_cons_succ]; rfl) (fun K hK => ?_) ?_
          · go_simp
            (with_reducible refine (bytes_any _ raw _ (HC.out.raw hHeld).tx).mono ?_)
            rintro e w107 ⟨r107, rfl, ho, hb⟩
            obtain ⟨AA7, cc7, rfl⟩ := RdB.formN ho.rd rfl
            have HR7 := As.mk ho.rd
            have hS2 := hHeld.trans (hb.mono hHeld.size)
            clear hb ho
            dsimp only
            refine hK.out _ _ ?_ (fun hHeld2 => ?_)
            · exact hS2
            clear hK K hHeld
            have hHeld := hHeld2
            clear hHeld2
            refine wpAnyH_mono (S' := fun V : World => Below w107.heap.size w107 V) (fun V h => hHeld.trans (h.mono hHeld.size)) _ _ _ _ ?_
            have HCn := As.mk (HC.out.step hHeld)
            clear HC hHeld
            have HC := HCn
            clear HCn
            have hHeld : Below w107.heap.size w107 w107 := Below.refl _ _
            try simp only [Act.put, List.setIfInBounds_toArray, List.set_cons_zero, List.set_cons_succ]
            refine wpAnyH_take (i := 8) (oi := ?_) (v := ?_) (by simp only [List.getElem?_toArray, List.getElem?_cons_zero, List.getElem?_cons_succ]; rfl) (by kernel_rfl) (by kernel_rfl) (by kernel_rfl) (by exact fun _ _ _ h => h) (Or.inl ⟨by rfl, ?_⟩) (by assumption) ?_
            rotate_left
            · (intro w2 hw2; (have kv := run_str (P := Try.prog) 24 9 5 Try.underlying24 Try.underlying5 Try.underlying9 (RdS.below HR7.out hw2); go_simp; first | done | with_reducible rfl))
            try simp only [Act.put, List.setIfInBounds_toArray, List.set_cons_zero, List.set_cons_succ]
            refine wpAnyH_ready (rs := [10]) (by kernel_rfl) (by simp) ?_
            refine AllReadyH.cons (o := ?_) (by simp only [List.getElem?_toArray, List.getElem?_cons_zero, List.getElem?_cons_succ]; rfl) (fun K hK => ?_) ?_
            · go_simp
              (with_reducible refine (qbytes_any _ raw _ (HC.out.raw hHeld).tx).mono ?_)
              rintro e w110 ⟨r110, rfl, ho, hb⟩
              obtain ⟨AA10, cc10, rfl⟩ := RdB.formN ho.rd rfl
              have HR10 := As.mk ho.rd
              have hS2 := hHeld.trans (hb.mono hHeld.size)
              clear hb ho
              dsimp only
              refine hK.out _ _ ?_ (fun hHeld2 => ?_)
              · exact hS2
              clear hK K hHeld
              have hHeld := hHeld2
              clear hHeld2
              refine wpAnyH_mono (S' := fun V : World => Below w110.heap.size w110 V) (fun V h => hHeld.trans (h.mono hHeld.size)) _ _ _ _ ?_
              have HCn := As.mk (HC.out.step hHeld)
              clear HC hHeld
              have HC := HCn
              clear HCn
              have hHeld : Below w110.heap.size w110 w110 := Below.refl _ _
              try simp only [Act.put, List.setIfInBounds_toArray, List.set_cons_zero, List.set_cons_succ]
              refine wpAnyH_take (i := 11) (oi := ?_) (v := ?_) (by simp only [List.getElem?_toArray, List.getElem?_cons_zero, List.getElem?_cons_succ]; rfl) (by kernel_rfl) (by kernel_rfl) (by kernel_rfl) (by exact fun _ _ _ h => h) (Or.inl ⟨by rfl, ?_⟩) (by assumption) ?_
              rotate_left
              · (intro w2 hw2; (have kv := run_str (P := Try.prog) 24 9 5 Try.underlying24 Try.underlying5 Try.underlying9 (RdS.below HR10.out hw2); go_simp; first | done | with_reducible rfl))
              try simp only [Act.put, List.setIfInBounds_toArray, List.set_cons_zero, List.set_cons_succ]
              refine wpAnyH_take (i := 12) (oi := ?_) (v := ?_) (by simp only [List.getElem?_toArray, List.getElem?_cons_zero, List.getElem?_cons_succ]; rfl) (by kernel_rfl) (by kernel_rfl) (by kernel_rfl) (by exact fun _ _ _ h => h) (Or.inl ⟨by rfl, ?_⟩) (by assumption) ?_
              rotate_left
              · (intro w hSw; (try dsimp only at hSw); obtain ⟨q0, q1, q2, q3⟩ := (HC.out.raw hSw).four; obtain ⟨r0, r1, r2, r3⟩ := (HC.out.tx hSw).four; clear hSw; go_simp; first | done | with_reducible rfl)
              try simp only [Act.put, List.setIfInBounds_toArray, List.set_cons_zero, List.set_cons_succ]
              refine wpAnyH_take (i := 13) (oi := ?_) (v := ?_) (by simp only [List.getElem?_toArray, List.getElem?_cons_zero, List.getElem?_cons_succ]; rfl) (by kernel_rfl) (by kernel_rfl) (by kernel_rfl) (by exact fun _ _ _ h => h) (Or.inl ⟨by rfl, ?_⟩) (by assumption) ?_
              rotate_left
              · (intro w hSw; (try dsimp only at hSw); obtain ⟨q0, q1, q2, q3⟩ := (HC.out.raw hSw).four; obtain ⟨r0, r1, r2, r3⟩ := (HC.out.tx hSw).four; clear hSw; go_simp; first | done | with_reducible rfl)
              try simp only [Act.put, List.setIfInBounds_toArray, List.set_cons_zero, List.set_cons_succ]
              refine wpAnyH_take (i := 14) (oi := ?_) (v := ?_) (by simp only [List.getElem?_toArray, List.getElem?_cons_zero, List.getElem?_cons_succ]; rfl) (by kernel_rfl) (by kernel_rfl) (by kernel_rfl) (by exact fun _ _ _ h => h) (Or.inl ⟨by rfl, ?_⟩) (by assumption) ?_
              rotate_left
              · (intro w hSw; (try dsimp only at hSw); obtain ⟨q0, q1, q2, q3⟩ := (HC.out.raw hSw).four; obtain ⟨r0, r1, r2, r3⟩ := (HC.out.tx hSw).four; clear hSw; go_simp; first | done | with_reducible rfl)
              try simp only [Act.put, List.setIfInBounds_toArray, List.set_cons_zero, List.set_cons_succ]
              refine wpAnyH_take (i := 15) (oi := ?_) (v := ?_) (by simp only [List.getElem?_toArray, List.getElem?_cons_zero, List.getElem?_cons_succ]; rfl) (by kernel_rfl) (by kernel_rfl) (by kernel_rfl) (by exact fun _ _ _ h => h) (Or.inl ⟨by rfl, ?_⟩) (by assumption) ?_
              rotate_left
              · (intro w hSw; (try dsimp only at hSw); obtain ⟨q0, q1, q2, q3⟩ := (HC.out.raw hSw).four; obtain ⟨r0, r1, r2, r3⟩ := (HC.out.tx hSw).four; clear hSw; go_simp; first | done | with_reducible rfl)
              try simp only [Act.put, List.setIfInBounds_toArray, List.set_cons_zero, List.set_cons_succ]
              refine wpAnyH_take (i := 18) (oi := ?_) (v := ?_) (by simp only [List.getElem?_toArray, List.getElem?_cons_zero, List.getElem?_cons_succ]; rfl) (by kernel_rfl) (by kernel_rfl) (by kernel_rfl) (by exact fun _ _ _ h => h) (Or.inl ⟨by rfl, ?_⟩) (by assumption) ?_
              rotate_left
              · (intro w hSw; (try dsimp only at hSw); obtain ⟨q0, q1, q2, q3⟩ := (HC.out.raw hSw).four; obtain ⟨r0, r1, r2, r3⟩ := (HC.out.tx hSw).four; clear hSw; go_simp; first | done | with_reducible rfl)
              try simp only [Act.put, List.setIfInBounds_toArray, List.set_cons_zero, List.set_cons_succ]
              refine wpAnyH_ready (rs := [16]) (by kernel_rfl) (by simp) ?_
              refine AllReadyH.cons (o := ?_) (by simp only [List.getElem?_toArray, List.getElem?_cons_zero, List.getElem?_cons_succ]; rfl) (fun K hK => ?_) ?_
              · go_simp
                (with_reducible refine (base_any _ raw _ (HC.out.raw hHeld).tx).mono ?_)
                rintro e w116 ⟨r116, rfl, ho, hb⟩
                obtain ⟨AA16, cc16, rfl⟩ := RdB.formN ho.rd rfl
                have HR16 := As.mk ho.rd
                have hS2 := hHeld.trans (hb.mono hHeld.size)
                clear hb ho
                dsimp only
                refine hK.out _ _ ?_ (fun hHeld2 => ?_)
                · exact hS2
                clear hK K hHeld
                have hHeld := hHeld2
                clear hHeld2
                refine wpAnyH_mono (S' := fun V : World => Below w116.heap.size w116 V) (fun V h => hHeld.trans (h.mono hHeld.size)) _ _ _ _ ?_
                have HCn := As.mk (HC.out.step hHeld)
                clear HC hHeld
                have HC := HCn
                clear HCn
                have hHeld : Below w116.heap.size w116 w116 := Below.refl _ _
                try simp only [Act.put, List.setIfInBounds_toArray, List.set_cons_zero, List.set_cons_succ]
                refine wpAnyH_take (i := 17) (oi := ?_) (v := ?_) (by simp only [List.getElem?_toArray, List.getElem?_cons_zero, List.getElem?_cons_succ]; rfl) (by kernel_rfl) (by kernel_rfl) (by kernel_rfl) (by exact fun _ _ _ h => h) (Or.inl ⟨by rfl, ?_⟩) (by assumption) ?_
                rotate_left
                · (intro w2 hw2; (have kv := run_str (P := Try.prog) 24 9 5 Try.underlying24 Try.underlying5 Try.underlying9 (RdS.below HR16.out hw2); go_simp; first | done | with_reducible rfl))
                try simp only [Act.put, List.setIfInBounds_toArray, List.set_cons_zero, List.set_cons_succ]
                refine wpAnyH_ready (rs := [19]) (by kernel_rfl) (by simp) ?_
                refine AllReadyH.cons (o := ?_) (by simp only [List.getElem?_toArray, List.getElem?_cons_zero, List.getElem?_cons_succ]; rfl) (fun K hK => ?_) ?_
                · go_simp
                  (with_reducible refine (qbase_any _ raw _ (HC.out.raw hHeld).tx).mono ?_)
                  rintro e w119 ⟨r119, rfl, ho, hb⟩
                  obtain ⟨AA19, cc19, rfl⟩ := RdB.formN ho.rd rfl
                  have HR19 := As.mk ho.rd
                  have hS2 := hHeld.trans (hb.mono hHeld.size)
                  clear hb ho
                  dsimp only
                  refine hK.out _ _ ?_ (fun hHeld2 => ?_)
                  · exact hS2
                  clear hK K hHeld
                  have hHeld := hHeld2
                  clear hHeld2
                  refine wpAnyH_mono (S' := fun V : World => Below w119.heap.size w119 V) (fun V h => hHeld.trans (h.mono hHeld.size)) _ _ _ _ ?_
                  have HCn := As.mk (HC.out.step hHeld)
                  clear HC hHeld
                  have HC := HCn
                  clear HCn
                  have hHeld : Below w119.heap.size w119 w119 := Below.refl _ _
                  try simp only [Act.put, List.setIfInBounds_toArray, List.set_cons_zero, List.set_cons_succ]
                  refine wpAnyH_take (i := 20) (oi := ?_) (v := ?_) (by simp only [List.getElem?_toArray, List.getElem?_cons_zero, List.getElem?_cons_succ]; rfl) (by kernel_rfl) (by kernel_rfl) (by kernel_rfl) (by exact fun _ _ _ h => h) (Or.inl ⟨by rfl, ?_⟩) (by assumption) ?_
                  rotate_left
                  · (intro w2 hw2; (have kv := run_str (P := Try.prog) 24 9 5 Try.underlying24 Try.underlying5 Try.underlying9 (RdS.below HR19.out hw2); go_simp; first | done | with_reducible rfl))
                  try simp only [Act.put, List.setIfInBounds_toArray, List.set_cons_zero, List.set_cons_succ]
                  refine wpAnyH_take (i := 21) (oi := ?_) (v := ?_) (by simp only [List.getElem?_toArray, List.getElem?_cons_zero, List.getElem?_cons_succ]; rfl) (by kernel_rfl) (by kernel_rfl) (by kernel_rfl) (by exact fun _ _ _ h => h) (Or.inl ⟨by rfl, ?_⟩) (by assumption) ?_
                  rotate_left
                  · (intro w hSw; (try dsimp only at hSw); obtain ⟨q0, q1, q2, q3⟩ := (HC.out.raw hSw).four; obtain ⟨r0, r1, r2, r3⟩ := (HC.out.tx hSw).four; clear hSw; go_simp; first | done | with_reducible rfl)
                  try simp only [Act.put, List.setIfInBounds_toArray, List.set_cons_zero, List.set_cons_succ]
                  refine wpAnyH_take (i := 22) (oi := ?_) (v := ?_) (by simp only [List.getElem?_toArray, List.getElem?_cons_zero, List.getElem?_cons_succ]; rfl) (by kernel_rfl) (by kernel_rfl) (by kernel_rfl) (by exact fun _ _ _ h => h) (Or.inl ⟨by rfl, ?_⟩) (by assumption) ?_
                  rotate_left
                  · (intro w hSw; (try dsimp only at hSw); obtain ⟨q0, q1, q2, q3⟩ := (HC.out.raw hSw).four; obtain ⟨r0, r1, r2, r3⟩ := (HC.out.tx hSw).four; clear hSw; go_simp; first | done | with_reducible rfl)
                  try simp only [Act.put, List.setIfInBounds_toArray, List.set_cons_zero, List.set_cons_succ]
                  refine wpAnyH_take (i := 23) (oi := ?_) (v := ?_) (by simp only [List.getElem?_toArray, List.getElem?_cons_zero, List.getElem?_cons_succ]; rfl) (by kernel_rfl) (by kernel_rfl) (by kernel_rfl) (by exact fun _ _ _ h => h) (Or.inl ⟨by rfl, ?_⟩) (by assumption) ?_
                  rotate_left
                  · (intro w hSw; (try dsimp only at hSw); obtain ⟨q0, q1, q2, q3⟩ := (HC.out.raw hSw).four; obtain ⟨r0, r1, r2, r3⟩ := (HC.out.tx hSw).four; clear hSw; go_simp; first | done | with_reducible rfl)
                  try simp only [Act.put, List.setIfInBounds_toArray, List.set_cons_zero, List.set_cons_succ]
                  refine wpAnyH_take (i := 24) (oi := ?_) (v := ?_) (by simp only [List.getElem?_toArray, List.getElem?_cons_zero, List.getElem?_cons_succ]; rfl) (by kernel_rfl) (by kernel_rfl) (by kernel_rfl) (by exact fun _ _ _ h => h) (Or.inl ⟨by rfl, ?_⟩) (by assumption) ?_
                  rotate_left
                  · (intro w hSw; (try dsimp only at hSw); obtain ⟨q0, q1, q2, q3⟩ := (HC.out.raw hSw).four; obtain ⟨r0, r1, r2, r3⟩ := (HC.out.tx hSw).four; clear hSw; go_simp; first | done | with_reducible rfl)
                  try simp only [Act.put, List.setIfInBounds_toArray, List.set_cons_zero, List.set_cons_succ]
                  refine wpAnyH_take (i := 27) (oi := ?_) (v := ?_) (by simp only [List.getElem?_toArray, List.getElem?_cons_zero, List.getElem?_cons_succ]; rfl) (by kernel_rfl) (by kernel_rfl) (by kernel_rfl) (by exact fun _ _ _ h => h) (Or.inl ⟨by rfl, ?_⟩) (by assumption) ?_
                  rotate_left
                  · (intro w hSw; (try dsimp only at hSw); obtain ⟨q0, q1, q2, q3⟩ := (HC.out.raw hSw).four; obtain ⟨r0, r1, r2, r3⟩ := (HC.out.tx hSw).four; clear hSw; go_simp; first | done | with_reducible rfl)
                  try simp only [Act.put, List.setIfInBounds_toArray, List.set_cons_zero, List.set_cons_succ]
                  refine wpAnyH_ready (rs := [25]) (by kernel_rfl) (by simp) ?_
                  refine AllReadyH.cons (o := ?_) (by simp only [List.getElem?_toArray, List.getElem?_cons_zero, List.getElem?_cons_succ]; rfl) (fun K hK => ?_) ?_
                  · go_simp
                    (with_reducible refine (bytes_any _ T _ (HC.out.tx hHeld).tx).mono ?_)
                    rintro e w125 ⟨r125, rfl, ho, hb⟩
                    obtain ⟨AA25, cc25, rfl⟩ := RdB.formN ho.rd rfl
                    have HR25 := As.mk ho.rd
                    have hS2 := hHeld.trans (hb.mono hHeld.size)
                    clear hb ho
                    dsimp only
                    refine hK.out _ _ ?_ (fun hHeld2 => ?_)
                    · exact hS2
                    clear hK K hHeld
                    have hHeld := hHeld2
                    clear hHeld2
                    refine wpAnyH_mono (S' := fun V : World => Below w125.heap.size w125 V) (fun V h => hHeld.trans (h.mono hHeld.size)) _ _ _ _ ?_
                    have HCn := As.mk (HC.out.step hHeld)
                    clear HC hHeld
                    have HC := HCn
                    clear HCn
                    have hHeld : Below w125.heap.size w125 w125 := Below.refl _ _
                    try simp only [Act.put, List.setIfInBounds_toArray, List.set_cons_zero, List.set_cons_succ]
                    refine wpAnyH_take (i := 26) (oi := ?_) (v := ?_) (by simp only [List.getElem?_toArray, List.getElem?_cons_zero, List.getElem?_cons_succ]; rfl) (by kernel_rfl) (by kernel_rfl) (by kernel_rfl) (by exact fun _ _ _ h => h) (Or.inl ⟨by rfl, ?_⟩) (by assumption) ?_
                    rotate_left
                    · (intro w2 hw2; (have kv := run_str (P := Try.prog) 24 9 5 Try.underlying24 Try.underlying5 Try.underlying9 (RdS.below HR25.out hw2); go_simp; first | done | with_reducible rfl))
                    try simp only [Act.put, List.setIfInBounds_toArray, List.set_cons_zero, List.set_cons_succ]
                    refine wpAnyH_ready (rs := [28]) (by kernel_rfl) (by simp) ?_
                    refine AllReadyH.cons (o := ?_) (by simp only [List.getElem?_toArray, List.getElem?_cons_zero, List.getElem?_cons_succ]; rfl) (fun K hK => ?_) ?_
                    · go_simp
                      (with_reducible refine (qbytes_any _ T _ (HC.out.tx hHeld).tx).mono ?_)
                      rintro e w128 ⟨r128, rfl, ho, hb⟩
                      obtain ⟨AA28, cc28, rfl⟩ := RdB.formN ho.rd rfl
                      have HR28 := As.mk ho.rd
                      have hS2 := hHeld.trans (hb.mono hHeld.size)
                      clear hb ho
                      dsimp only
                      refine hK.out _ _ ?_ (fun hHeld2 => ?_)
                      · exact hS2
                      clear hK K hHeld
                      have hHeld := hHeld2
                      clear hHeld2
                      refine wpAnyH_mono (S' := fun V : World => Below w128.heap.size w128 V) (fun V h => hHeld.trans (h.mono hHeld.size)) _ _ _ _ ?_
                      have HCn := As.mk (HC.out.step hHeld)
                      clear HC hHeld
                      have HC := HCn
                      clear HCn
                      have hHeld : Below w128.heap.size w128 w128 := Below.refl _ _
                      try simp only [Act.put, List.setIfInBounds_toArray, List.set_cons_zero, List.set_cons_succ]
                      refine wpAnyH_take (i := 29) (oi := ?_) (v := ?_) (by simp only [List.getElem?_toArray, List.getElem?_cons_zero, List.getElem?_cons_succ]; rfl) (by kernel_rfl) (by kernel_rfl) (by kernel_rfl) (by exact fun _ _ _ h => h) (Or.inl ⟨by rfl, ?_⟩) (by assumption) ?_
                      rotate_left
                      · (intro w2 hw2; (have kv := run_str (P := Try.prog) 24 9 5 Try.underlying24 Try.underlying5 Try.underlying9 (RdS.below HR28.out hw2); go_simp; first | done | with_reducible rfl))
                      try simp only [Act.put, List.setIfInBounds_toArray, List.set_cons_zero, List.set_cons_succ]
                      refine wpAnyH_take (i := 30) (oi := ?_) (v := ?_) (by simp only [List.getElem?_toArray, List.getElem?_cons_zero, List.getElem?_cons_succ]; rfl) (by kernel_rfl) (by kernel_rfl) (by kernel_rfl) (by exact fun _ _ _ h => h) (Or.inl ⟨by rfl, ?_⟩) (by assumption) ?_
                      rotate_left
                      · (intro w hSw; (try dsimp only at hSw); obtain ⟨q0, q1, q2, q3⟩ := (HC.out.raw hSw).four; obtain ⟨r0, r1, r2, r3⟩ := (HC.out.tx hSw).four; clear hSw; go_simp; first | done | with_reducible rfl)
                      try simp only [Act.put, List.setIfInBounds_toArray, List.set_cons_zero, List.set_cons_succ]
                      refine wpAnyH_take (i := 31) (oi := ?_) (v := ?_) (by simp only [List.getElem?_toArray, List.getElem?_cons_zero, List.getElem?_cons_succ]; rfl) (by kernel_rfl) (by kernel_rfl) (by kernel_rfl) (by exact fun _ _ _ h => h) (Or.inl ⟨by rfl, ?_⟩) (by assumption) ?_
                      rotate_left
                      · (intro w hSw; (try dsimp only at hSw); obtain ⟨q0, q1, q2, q3⟩ := (HC.out.raw hSw).four; obtain ⟨r0, r1, r2, r3⟩ := (HC.out.tx hSw).four; clear hSw; go_simp; first | done | with_reducible rfl)
                      try simp only [Act.put, List.setIfInBounds_toArray, List.set_cons_zero, List.set_cons_succ]
                      refine wpAnyH_take (i := 32) (oi := ?_) (v := ?_) (by simp only [List.getElem?_toArray, List.getElem?_cons_zero, List.getElem?_cons_succ]; rfl) (by kernel_rfl) (by kernel_rfl) (by kernel_rfl) (by exact fun _ _ _ h => h) (Or.inl ⟨by rfl, ?_⟩) (by assumption) ?_
                      rotate_left
                      · (intro w hSw; (try dsimp only at hSw); obtain ⟨q0, q1, q2, q3⟩ := (HC.out.raw hSw).four; obtain ⟨r0, r1, r2, r3⟩ := (HC.out.tx hSw).four; clear hSw; go_simp; first | done | with_reducible rfl)
                      try simp only [Act.put, List.setIfInBounds_toArray, List.set_cons_zero, List.set_cons_succ]
                      refine wpAnyH_take (i := 33) (oi := ?_) (v := ?_) (by simp only [List.getElem?_toArray, List.getElem?_cons_zero, List.getElem?_cons_succ]; rfl) (by kernel_rfl) (by kernel_rfl) (by kernel_rfl) (by exact fun _ _ _ h => h) (Or.inl ⟨by rfl, ?_⟩) (by assumption) ?_
                      rotate_left
                      · (intro w hSw; (try dsimp only at hSw); obtain ⟨q0, q1, q2, q3⟩ := (HC.out.raw hSw).four; obtain ⟨r0, r1, r2, r3⟩ := (HC.out.tx hSw).four; clear hSw; go_simp; first | done | with_reducible rfl)
                      try simp only [Act.put, List.setIfInBounds_toArray, List.set_cons_zero, List.set_cons_succ]
                      refine wpAnyH_take (i := 36) (oi := ?_) (v := ?_) (by simp only [List.getElem?_toArray, List.getElem?_cons_zero, List.getElem?_cons_succ]; rfl) (by kernel_rfl) (by kernel_rfl) (by kernel_rfl) (by exact fun _ _ _ h => h) (Or.inl ⟨by rfl, ?_⟩) (by assumption) ?_
                      rotate_left
                      · (intro w hSw; (try dsimp only at hSw); obtain ⟨q0, q1, q2, q3⟩ := (HC.out.raw hSw).four; obtain ⟨r0, r1, r2, r3⟩ := (HC.out.tx hSw).four; clear hSw; go_simp; first | done | with_reducible rfl)
                      try simp only [Act.put, List.setIfInBounds_toArray, List.set_cons_zero, List.set_cons_succ]
                      refine wpAnyH_ready (rs := [34]) (by kernel_rfl) (by simp) ?_
                      refine AllReadyH.cons (o := ?_) (by simp only [List.getElem?_toArray, List.getElem?_cons_zero, List.getElem?_cons_succ]; rfl) (fun K hK => ?_) ?_
                      · go_simp
                        (with_reducible refine (base_any _ T _ (HC.out.tx hHeld).tx).mono ?_)
                        rintro e w134 ⟨r134, rfl, ho, hb⟩
                        obtain ⟨AA34, cc34, rfl⟩ := RdB.formN ho.rd rfl
                        have HR34 := As.mk ho.rd
                        have hS2 := hHeld.trans (hb.mono hHeld.size)
                        clear hb ho
                        dsimp only
                        refine hK.out _ _ ?_ (fun hHeld2 => ?_)
                        · exact hS2
                        clear hK K hHeld
                        have hHeld := hHeld2
                        clear hHeld2
                        refine wpAnyH_mono (S' := fun V : World => Below w134.heap.size w134 V) (fun V h => hHeld.trans (h.mono hHeld.size)) _ _ _ _ ?_
                        have HCn := As.mk (HC.out.step hHeld)
                        clear HC hHeld
                        have HC := HCn
                        clear HCn
                        have hHeld : Below w134.heap.size w134 w134 := Below.refl _ _
                        try simp only [Act.put, List.setIfInBounds_toArray, List.set_cons_zero, List.set_cons_succ]
                        refine wpAnyH_take (i := 35) (oi := ?_) (v := ?_) (by simp only [List.getElem?_toArray, List.getElem?_cons_zero, List.getElem?_cons_succ]; rfl) (by kernel_rfl) (by kernel_rfl) (by kernel_rfl) (by exact fun _ _ _ h => h) (Or.inl ⟨by rfl, ?_⟩) (by assumption) ?_
                        rotate_left
                        · (intro w2 hw2; (have kv := run_str (P := Try.prog) 24 9 5 Try.underlying24 Try.underlying5 Try.underlying9 (RdS.below HR34.out hw2); go_simp; first | done | with_reducible rfl))
                        try simp only [Act.put, List.setIfInBounds_toArray, List.set_cons_zero, List.set_cons_succ]
                        refine wpAnyH_ready (rs := [37]) (by kernel_rfl) (by simp) ?_
                        refine AllReadyH.cons (o := ?_) (by simp only [List.getElem?_toArray, List.getElem?_cons_zero, List.getElem?_cons_succ]; rfl) (fun K hK => ?_) ?_
                        · go_simp
                          (with_reducible refine (qbase_any _ T _ (HC.out.tx hHeld).tx).mono ?_)
                          rintro e w137 ⟨r137, rfl, ho, hb⟩
                          obtain ⟨AA37, cc37, rfl⟩ := RdB.formN ho.rd rfl
                          have HR37 := As.mk ho.rd
                          have hS2 := hHeld.trans (hb.mono hHeld.size)
                          clear hb ho
                          dsimp only
                          refine hK.out _ _ ?_ (fun hHeld2 => ?_)
                          · exact hS2
                          clear hK K hHeld
                          have hHeld := hHeld2
                          clear hHeld2
                          refine wpAnyH_mono (S' := fun V : World => Below w137.heap.size w137 V) (fun V h => hHeld.trans (h.mono hHeld.size)) _ _ _ _ ?_
                          have HCn := As.mk (HC.out.step hHeld)
                          clear HC hHeld
                          have HC := HCn
                          clear HCn
                          have hHeld : Below w137.heap.size w137 w137 := Below.refl _ _
                          try simp only [Act.put, List.setIfInBounds_toArray, List.set_cons_zero, List.set_cons_succ]
                          refine wpAnyH_take (i := 38) (oi := ?_) (v := ?_) (by simp only [List.getElem?_toArray, List.getElem?_cons_zero, List.getElem?_cons_succ]; rfl) (by kernel_rfl) (by kernel_rfl) (by kernel_rfl) (by exact fun _ _ _ h => h) (Or.inl ⟨by rfl, ?_⟩) (by assumption) ?_
                          rotate_left
                          · (intro w2 hw2; (have kv := run_str (P := Try.prog) 24 9 5 Try.underlying24 Try.underlying5 Try.underlying9 (RdS.below HR37.out hw2); go_simp; first | done | with_reducible rfl))
                          try simp only [Act.put, List.setIfInBounds_toArray, List.set_cons_zero, List.set_cons_succ]
                          refine wpAnyH_take (i := 39) (oi := ?_) (v := ?_) (by simp only [List.getElem?_toArray, List.getElem?_cons_zero, List.getElem?_cons_succ]; rfl) (by kernel_rfl) (by kernel_rfl) (by kernel_rfl) (by exact fun _ _ _ h => h) (Or.inl ⟨by rfl, ?_⟩) (by assumption) ?_
                          rotate_left
                          · (intro w hSw; (try dsimp only at hSw); obtain ⟨q0, q1, q2, q3⟩ := (HC.out.raw hSw).four; obtain ⟨r0, r1, r2, r3⟩ := (HC.out.tx hSw).four; clear hSw; go_simp; first | done | with_reducible rfl)
                          try simp only [Act.put, List.setIfInBounds_toArray, List.set_cons_zero, List.set_cons_succ]
                          refine wpAnyH_take (i := 40) (oi := ?_) (v := ?_) (by simp only [List.getElem?_toArray, List.getElem?_cons_zero, List.getElem?_cons_succ]; rfl) (by kernel_rfl) (by kernel_rfl) (by kernel_rfl) (by exact fun _ _ _ h => h) (Or.inl ⟨by rfl, ?_⟩) (by assumption) ?_
                          rotate_left
                          · (intro w hSw; (try dsimp only at hSw); obtain ⟨q0, q1, q2, q3⟩ := (HC.out.raw hSw).four; obtain ⟨r0, r1, r2, r3⟩ := (HC.out.tx hSw).four; clear hSw; go_simp; first | done | with_reducible rfl)
                          try simp only [Act.put, List.setIfInBounds_toArray, List.set_cons_zero, List.set_cons_succ]
                          refine wpAnyH_take (i := 41) (oi := ?_) (v := ?_) (by simp only [List.getElem?_toArray, List.getElem?_cons_zero, List.getElem?_cons_succ]; rfl) (by kernel_rfl) (by kernel_rfl) (by kernel_rfl) (by exact fun _ _ _ h => h) (Or.inl ⟨by rfl, ?_⟩) (by assumption) ?_
                          rotate_left
                          · (intro w hSw; (try dsimp only at hSw); obtain ⟨q0, q1, q2, q3⟩ := (HC.out.raw hSw).four; obtain ⟨r0, r1, r2, r3⟩ := (HC.out.tx hSw).four; clear hSw; go_simp; first | done | with_reducible rfl)
                          try simp only [Act.put, List.setIfInBounds_toArray, List.set_cons_zero, List.set_cons_succ]
                          refine wpAnyH_take (i := 42) (oi := ?_) (v := ?_) (by simp only [List.getElem?_toArray, List.getElem?_cons_zero, List.getElem?_cons_succ]; rfl) (by kernel_rfl) (by kernel_rfl) (by kernel_rfl) (by exact fun _ _ _ h => h) (Or.inl ⟨by rfl, ?_⟩) (by assumption) ?_
                          rotate_left
                          · (intro w hSw; (try dsimp only at hSw); obtain ⟨q0, q1, q2, q3⟩ := (HC.out.raw hSw).four; obtain ⟨r0, r1, r2, r3⟩ := (HC.out.tx hSw).four; clear hSw; go_simp; first | done | with_reducible rfl)
                          try simp only [Act.put, List.setIfInBounds_toArray, List.set_cons_zero, List.set_cons_succ]
                          refine wpAnyH_take (i := 43) (oi := ?_) (v := ?_) (by simp only [List.getElem?_toArray, List.getElem?_cons_zero, List.getElem?_cons_succ]; rfl) (by kernel_rfl) (by kernel_rfl) (by kernel_rfl) (by exact fun _ _ _ h => h) (Or.inl ⟨by rfl, ?_⟩) (by assumption) ?_
                          rotate_left
                          · (intro w hSw; (try dsimp only at hSw); obtain ⟨q0, q1, q2, q3⟩ := (HC.out.raw hSw).four; obtain ⟨r0, r1, r2, r3⟩ := (HC.out.tx hSw).four; clear hSw; go_simp; first | done | with_reducible rfl)
                          try simp only [Act.put, List.setIfInBounds_toArray, List.set_cons_zero, List.set_cons_succ]
                          refine wpAnyH_take (i := 45) (oi := ?_) (v := ?_) (by simp only [List.getElem?_toArray, List.getElem?_cons_zero, List.getElem?_cons_succ]; rfl) (by kernel_rfl) (by kernel_rfl) (by kernel_rfl) (by exact fun _ _ _ h => h) (Or.inl ⟨by rfl, ?_⟩) (by assumption) ?_
                          rotate_left
                          · (intro w hSw; (try dsimp only at hSw); obtain ⟨q0, q1, q2, q3⟩ := (HC.out.raw hSw).four; obtain ⟨r0, r1, r2, r3⟩ := (HC.out.tx hSw).four; clear hSw; go_simp; first | done | with_reducible rfl)
                          try simp only [Act.put, List.setIfInBounds_toArray, List.set_cons_zero, List.set_cons_succ]
                          refine wpAnyH_take (i := 46) (oi := ?_) (v := ?_) (by simp only [List.getElem?_toArray, List.getElem?_cons_zero, List.getElem?_cons_succ]; rfl) (by kernel_rfl) (by kernel_rfl) (by kernel_rfl) (by exact fun _ _ _ h => h) (Or.inl ⟨by rfl, ?_⟩) (by assumption) ?_
                          rotate_left
                          · (intro w hSw; (try dsimp only at hSw); obtain ⟨q0, q1, q2, q3⟩ := (HC.out.raw hSw).four; obtain ⟨r0, r1, r2, r3⟩ := (HC.out.tx hSw).four; clear hSw; go_simp; first | done | with_reducible rfl)
                          try simp only [Act.put, List.setIfInBounds_toArray, List.set_cons_zero, List.set_cons_succ]
                          refine wpAnyH_ready (rs := [44]) (by kernel_rfl) (by simp) ?_
                          refine AllReadyH.cons (o := ?_) (by simp only [List.getElem?_toArray, List.getElem?_cons_zero, List.getElem?_cons_succ]; rfl) (fun K hK => ?_) ?_
                          · go_simp
                            (with_reducible refine (same_any _ _ raw T _ (HC.out.raw hHeld).tx (HC.out.tx hHeld).tx).mono ?_)
                            rintro e w144 ⟨he, hb⟩
                            rw [HDS.out] at he
                            subst he
                            have hS2 := hHeld.trans (hb.mono hHeld.size)
                            clear hb
                            dsimp only
                            refine hK.out _ _ ?_ (fun hHeld2 => ?_)
                            · exact hS2
                            clear hK K hHeld
                            have hHeld := hHeld2
                            clear hHeld2
                            refine wpAnyH_mono (S' := fun V : World => Below w144.heap.size w144 V) (fun V h => hHeld.trans (h.mono hHeld.size)) _ _ _ _ ?_
                            have HCn := As.mk (HC.out.step hHeld)
                            clear HC hHeld
                            have HC := HCn
                            clear HCn
                            have hHeld : Below w144.heap.size w144 w144 := Below.refl _ _
                            try simp only [Act.put, List.setIfInBounds_toArray, List.set_cons_zero, List.set_cons_succ]
                            refine wpAnyH_ready (rs := [47]) (by kernel_rfl) (by simp) ?_
                            refine AllReadyH.cons (o := ?_) (by simp only [List.getElem?_toArray, List.getElem?_cons_zero, List.getElem?_cons_succ]; rfl) (fun K hK => ?_) ?_
                            · go_simp
                              (with_reducible refine (qsame_any _ _ raw T _ (HC.out.raw hHeld).tx (HC.out.tx hHeld).tx).mono ?_)
                              rintro e w147 ⟨he, hb⟩
                              rw [HDS.out] at he
                              subst he
                              have hS2 := hHeld.trans (hb.mono hHeld.size)
                              clear hb
                              dsimp only
                              refine hK.out _ _ ?_ (fun hHeld2 => ?_)
                              · exact hS2
                              clear hK K hHeld
                              have hHeld := hHeld2
                              clear hHeld2
                              refine wpAnyH_mono (S' := fun V : World => Below w147.heap.size w147 V) (fun V h => hHeld.trans (h.mono hHeld.size)) _ _ _ _ ?_
                              have HCn := As.mk (HC.out.step hHeld)
                              clear HC hHeld
                              have HC := HCn
                              clear HCn
                              have hHeld : Below w147.heap.size w147 w147 := Below.refl _ _
                              try simp only [Act.put, List.setIfInBounds_toArray, List.set_cons_zero, List.set_cons_succ]
                              refine wpAnyH_take (i := 48) (oi := ?_) (v := ?_) (by simp only [List.getElem?_toArray, List.getElem?_cons_zero, List.getElem?_cons_succ]; rfl) (by kernel_rfl) (by kernel_rfl) (by kernel_rfl) (by exact fun _ _ _ h => h) (Or.inl ⟨by rfl, ?_⟩) (by assumption) ?_
                              rotate_left
                              · (intro w hSw; (try dsimp only at hSw); obtain ⟨q0, q1, q2, q3⟩ := (HC.out.raw hSw).four; obtain ⟨r0, r1, r2, r3⟩ := (HC.out.tx hSw).four; clear hSw; go_simp; first | done | with_reducible rfl)
                              try simp only [Act.put, List.setIfInBounds_toArray, List.set_cons_zero, List.set_cons_succ]
                              refine wpAnyH_take (i := 49) (oi := ?_) (v := ?_) (by simp only [List.getElem?_toArray, List.getElem?_cons_zero, List.getElem?_cons_succ]; rfl) (by kernel_rfl) (by kernel_rfl) (by kernel_rfl) (by exact fun _ _ _ h => h) (Or.inl ⟨by rfl, ?_⟩) (by assumption) ?_
                              rotate_left
                              · (intro w hSw; (try dsimp only at hSw); obtain ⟨q0, q1, q2, q3⟩ := (HC.out.raw hSw).four; obtain ⟨r0, r1, r2, r3⟩ := (HC.out.tx hSw).four; clear hSw; go_simp; first | done | with_reducible rfl)
                              try simp only [Act.put, List.setIfInBounds_toArray, List.set_cons_zero, List.set_cons_succ]
                              refine wpAnyH_take (i := 50) (oi := ?_) (v := ?_) (by simp only [List.getElem?_toArray, List.getElem?_cons_zero, List.getElem?_cons_succ]; rfl) (by kernel_rfl) (by kernel_rfl) (by kernel_rfl) (by exact fun _ _ _ h => h) (Or.inl ⟨by rfl, ?_⟩) (by assumption) ?_
                              rotate_left
                              · (intro w hSw; (try dsimp only at hSw); obtain ⟨q0, q1, q2, q3⟩ := (HC.out.raw hSw).four; obtain ⟨r0, r1, r2, r3⟩ := (HC.out.tx hSw).four; clear hSw; go_simp; first | done | with_reducible rfl)
                              try simp only [Act.put, List.setIfInBounds_toArray, List.set_cons_zero, List.set_cons_succ]
                              refine wpAnyH_take (i := 51) (oi := ?_) (v := ?_) (by simp only [List.getElem?_toArray, List.getElem?_cons_zero, List.getElem?_cons_succ]; rfl) (by kernel_rfl) (by kernel_rfl) (by kernel_rfl) (by exact fun _ _ _ h => h) (Or.inl ⟨by rfl, ?_⟩) (by assumption) ?_
                              rotate_left
                              · (intro w hSw; (try dsimp only at hSw); obtain ⟨q0, q1, q2, q3⟩ := (HC.out.raw hSw).four; obtain ⟨r0, r1, r2, r3⟩ := (HC.out.tx hSw).four; clear hSw; go_simp; first | done | with_reducible rfl)
                              try simp only [Act.put, List.setIfInBounds_toArray, List.set_cons_zero, List.set_cons_succ]
                              refine wpAnyH_ready (rs := [52]) (by kernel_rfl) (by simp) ?_
                              refine AllReadyH.cons (o := ?_) (by simp only [List.getElem?_toArray, List.getElem?_cons_zero, List.getElem?_cons_succ]; rfl) (fun K hK => ?_) ?_
                              · go_simp
                                (with_reducible refine (qmay_any _ T _ HDT.out (HC.out.tx hHeld).tx).mono ?_)
                                rintro e w152 ⟨rfl, hb⟩
                                have hS2 := hHeld.trans (hb.mono hHeld.size)
                                clear hb
                                dsimp only
                                refine hK.out _ _ ?_ (fun hHeld2 => ?_)
                                · exact hS2
                                clear hK K hHeld
                                have hHeld := hHeld2
                                clear hHeld2
                                refine wpAnyH_mono (S' := fun V : World => Below w152.heap.size w152 V) (fun V h => hHeld.trans (h.mono hHeld.size)) _ _ _ _ ?_
                                have HCn := As.mk (HC.out.step hHeld)
                                clear HC hHeld
                                have HC := HCn
                                clear HCn
                                have hHeld : Below w152.heap.size w152 w152 := Below.refl _ _
                                try simp only [Act.put, List.setIfInBounds_toArray, List.set_cons_zero, List.set_cons_succ]
                                refine wpAnyH_take (i := 53) (oi := ?_) (v := ?_) (by simp only [List.getElem?_toArray, List.getElem?_cons_zero, List.getElem?_cons_succ]; rfl) (by kernel_rfl) (by kernel_rfl) (by kernel_rfl) (by exact fun _ _ _ h => h) (Or.inl ⟨by rfl, ?_⟩) (by assumption) ?_
                                rotate_left
                                · (intro w hSw; (try dsimp only at hSw); obtain ⟨q0, q1, q2, q3⟩ := (HC.out.raw hSw).four; obtain ⟨r0, r1, r2, r3⟩ := (HC.out.tx hSw).four; clear hSw; go_simp; first | done | with_reducible rfl)
                                try simp only [Act.put, List.setIfInBounds_toArray, List.set_cons_zero, List.set_cons_succ]
                                refine wpAnyH_take (i := 54) (oi := ?_) (v := ?_) (by simp only [List.getElem?_toArray, List.getElem?_cons_zero, List.getElem?_cons_succ]; rfl) (by kernel_rfl) (by kernel_rfl) (by kernel_rfl) (by exact fun _ _ _ h => h) (Or.inl ⟨by rfl, ?_⟩) (by assumption) ?_
                                rotate_left
                                · (intro w hSw; (try dsimp only at hSw); obtain ⟨q0, q1, q2, q3⟩ := (HC.out.raw hSw).four; obtain ⟨r0, r1, r2, r3⟩ := (HC.out.tx hSw).four; clear hSw; go_simp; first | done | with_reducible rfl)
                                try simp only [Act.put, List.setIfInBounds_toArray, List.set_cons_zero, List.set_cons_succ]
                                refine wpAnyH_done (by kernel_rfl) ?_ _
                                go_wp2
                                go_meet
                                exact ⟨rfl, HC⟩
                              exact AllReadyH.nil
                            exact AllReadyH.nil
                          exact AllReadyH.nil
                        exact AllReadyH.nil
                      exact AllReadyH.nil
                    exact AllReadyH.nil
                  exact AllReadyH.nil
                exact AllReadyH.nil
              exact AllReadyH.nil
            exact AllReadyH.nil
          exact AllReadyH.nil
        exact AllReadyH.nil
      exact AllReadyH.nil
  case rest =>
    obtain ⟨rfl, HC2⟩ := hcut
    clear HC
    have HLX : As ((bytesT T).length ≤ 400000 ∧ 0 < (bytesT T).length) := ⟨bytesT_any HFT.out, bytesT_pos T HM.out⟩
    obtain ⟨X, hX⟩ : ∃ X, bytesT T = X := ⟨_, rfl⟩
    rw [hX] at HLX
    have HX := As.mk hX
    clear hX
    obtain ⟨r0, r1, r2, r3⟩ := HC2.out.tx0.four
    go_upto_region 8 with (first | (go_at_call 55; (with_reducible refine (qbytes_any _ T _ HC2.out.tx0.tx).mono ?_); rintro e w2 ⟨r9, rfl, ho, hb⟩; rw [HX.out] at ho; obtain ⟨Ax, cx, rfl⟩ := RdB.formN ho.rd rfl; have HX2 := As.mk ho.rd; have HC3 := As.mk (HC2.out.step hb); clear ho hb r0 r1 r2 r3) | (at_builtin; refine wpList_appB rfl (.tmp 105) (.tmp 106) rfl rfl w2.heap.size (.slice (some ⟨w2.heap.size, 0, none⟩) 0 0) [] rfl (OwB.empty w2 w2.heap.size 5 (Nat.le_refl _)) (.slice Ax X.length cx) X rfl (RdS.below HX2.out (below_al _ _)) (by have := HLX.out.1; simp; omega) (by simp) ?_; intro v4 w4 ho hg; have HB4 := As.mk (OwB.below_of (OwB.empty w2 w2.heap.size 5 (Nat.le_refl _)) hg (below_al w2 _) (Nat.le_refl _) (by simp)); obtain ⟨Au, cu, rfl⟩ := RdB.formN (n := X.length) ho.rd (by simp); have HU4 : As (OwB w4 w2.heap.size 5 (.slice Au X.length cu) X) := ⟨ho⟩; clear ho hg))
    have m16 : bits .and .i64 at_ 65535 = at_ % 65536 := by rw [i64_mask _ _ 16 (by decide) (by decide)]; rfl
    have e3 : (0 : Int) < (X.length : Int) := by have := HLX.out.2; omega
    have e4 : (X.length : Int) ≤ 400000 := by have := HLX.out.1; omega
    obtain ⟨q, hq, hql⟩ : ∃ q : Nat, at_ % 65536 % (X.length : Int) = (q : Int) ∧ q < X.length := by
      have h1 := Int.emod_nonneg (at_ % 65536) (show (X.length : Int) ≠ 0 by omega)
      have h2 := Int.emod_lt_of_pos (at_ % 65536) e3
      exact ⟨(at_ % 65536 % (X.length : Int)).toNat, by omega, by omega⟩
    have hql' : (q : Int) < (X.length : Int) := by omega
    obtain ⟨g, off, rfl, hgb, hc1, hc2, hc3⟩ := OwS.cellAt HU4.out q hql
    have hc4 : w4.cell? ⟨g, off + q, none⟩ = some (u8v X[q]) := by rw [hc1]; simp [hql]
    have HGB := As.mk hgb
    have HQL := As.mk hql
    obtain ⟨x8, hx8⟩ : ∃ x, x = X[q] := ⟨_, rfl⟩
    rw [← hx8] at hc4
    clear hx8 hc1 hc2 hql hgb
    go_upto_region 10 with fail
    rw [hq]
    obtain ⟨U, hU⟩ : ∃ U, U = X.set q b8 := ⟨_, rfl⟩
    have HUL : As (U.length = X.length) := ⟨by rw [hU, List.length_set]⟩
    have HU5 : As (RdB (w4.setCell ⟨g, off + q, none⟩ (.int .u8 (b8.toNat : Int))) (.slice (some ⟨g, off, none⟩) X.length cu) U) := ⟨by
      have h := (OwS.set HU4.out q HQL.out (u8v b8)).rd
      rw [hU]
      unfold RdB
      rw [List.length_set, List.map_set]
      exact h⟩
    have HB5 := As.mk (HB4.out.setCell (p := ⟨g, off + q, none⟩) HGB.out (.int .u8 (b8.toNat : Int)))
    have HC5 := As.mk (HC3.out.step HB5.out)
    have HX5 := As.mk (RdS.below HX2.out HB5.out)
    have hqc : (q : Int) ≤ (cx : Int) := by
      obtain ⟨A', c', he, hc, -⟩ := RdB.form HX2.out
      injection he with e1 e2 e3
      omega
    have hwq : IntKind.i64.wrap (q : Int) = (q : Int) := IntWalk.i64_in _ (by omega)
    clear hU HB5 HX2 HU4 HB4 HC3 HC2 hc3 hc4 m16 hq
    generalize (w4.setCell ⟨g, off + q, none⟩ (.int .u8 (b8.toNat : Int))) = W9 at HU5 HC5 HX5 ⊢
    have HXQ : As (RdB W9 (.slice Ax q cx) (X.take q)) := ⟨RdB.to HX5.out q (by omega)⟩
    go_cut [131, 132, 133] (fun v131 v132 v133 wc => ∃ (G : Nat) (vs : List Value), v131 = .slice (some ⟨G, 0, none⟩) 6 6 ∧ v132 = .int .i64 6 ∧ v133 = .int .i64 0 ∧ As (vs.length = 6 ∧ Six wc G vs ∧ Below w.heap.size w wc))
    case first =>
      as_aux_lemma =>
        refine wp_region_held_drew (S := (fun V : World => Below W9.heap.size W9 V)) (by kernel_rfl) ?_ (fun hHeld => ?_)
        · exact below_dr W9
        refine wpAnyH_take (i := 0) (oi := ?_) (v := ?_) (by simp only [List.getElem?_toArray, List.getElem?_cons_zero, List.getElem?_cons_succ]; rfl) (by kernel_rfl) (by kernel_rfl) (by kernel_rfl) (by exact fun _ _ _ h => h) (Or.inl ⟨by rfl, ?_⟩) (by assumption) ?_
        rotate_left
        · (intro w hSw; (try dsimp only at hSw); obtain ⟨q0, q1, q2, q3⟩ := (HC5.out.raw hSw).four; clear hSw; go_simp; first | done | with_reducible rfl)
        try simp only [Act.put, List.setIfInBounds_toArray, List.set_cons_zero, List.set_cons_succ]
        refine wpAnyH_take (i := 1) (oi := ?_) (v := ?_) (by simp only [List.getElem?_toArray, List.getElem?_cons_zero, List.getElem?_cons_succ]; rfl) (by kernel_rfl) (by kernel_rfl) (by kernel_rfl) (by exact fun _ _ _ h => h) (Or.inl ⟨by rfl, ?_⟩) (by assumption) ?_
        rotate_left
        · (intro w hSw; (try dsimp only at hSw); obtain ⟨q0, q1, q2, q3⟩ := (HC5.out.raw hSw).four; clear hSw; go_simp; first | done | with_reducible rfl)
        try simp only [Act.put, List.setIfInBounds_toArray, List.set_cons_zero, List.set_cons_succ]
        refine wpAnyH_take (i := 2) (oi := ?_) (v := ?_) (by simp only [List.getElem?_toArray, List.getElem?_cons_zero, List.getElem?_cons_succ]; rfl) (by kernel_rfl) (by kernel_rfl) (by kernel_rfl) (by exact fun _ _ _ h => h) (Or.inl ⟨by rfl, ?_⟩) (by assumption) ?_
        rotate_left
        · (intro w hSw; (try dsimp only at hSw); obtain ⟨q0, q1, q2, q3⟩ := (HC5.out.raw hSw).four; clear hSw; go_simp; first | done | with_reducible rfl)
        try simp only [Act.put, List.setIfInBounds_toArray, List.set_cons_zero, List.set_cons_succ]
        refine wpAnyH_take (i := 3) (oi := ?_) (v := ?_) (by simp only [List.getElem?_toArray, List.getElem?_cons_zero, List.getElem?_cons_succ]; rfl) (by kernel_rfl) (by kernel_rfl) (by kernel_rfl) (by exact fun _ _ _ h => h) (Or.inl ⟨by rfl, ?_⟩) (by assumption) ?_
        rotate_left
        · (intro w hSw; (try dsimp only at hSw); obtain ⟨q0, q1, q2, q3⟩ := (HC5.out.raw hSw).four; clear hSw; go_simp; first | done | with_reducible rfl)
        try simp only [Act.put, List.setIfInBounds_toArray, List.set_cons_zero, List.set_cons_succ]
        refine wpAnyH_take (i := 4) (oi := ?_) (v := ?_) (by simp only [List.getElem?_toArray, List.getElem?_cons_zero, List.getElem?_cons_succ]; rfl) (by kernel_rfl) (by kernel_rfl) (by kernel_rfl) (by exact fun _ _ _ h => h) (Or.inl ⟨by rfl, ?_⟩) (by assumption) ?_
        rotate_left
        · (intro w hSw; (try dsimp only at hSw); obtain ⟨q0, q1, q2, q3⟩ := (HC5.out.raw hSw).four; clear hSw; go_simp; first | done | with_reducible rfl)
        try simp only [Act.put, List.setIfInBounds_toArray, List.set_cons_zero, List.set_cons_succ]
        refine wpAnyH_take (i := 5) (oi := ?_) (v := ?_) (by simp only [List.getElem?_toArray, List.getElem?_cons_zero, List.getElem?_cons_succ]; rfl) (by kernel_rfl) (by kernel_rfl) (by kernel_rfl) (by exact fun _ _ _ h => h) (Or.inl ⟨by rfl, ?_⟩) (by assumption) ?_
        rotate_left
        · (intro w hSw; (try dsimp only at hSw); obtain ⟨q0, q1, q2, q3⟩ := (HC5.out.raw hSw).four; clear hSw; go_simp; first | done | with_reducible rfl)
        try simp only [Act.put, List.setIfInBounds_toArray, List.set_cons_zero, List.set_cons_succ]
        refine wpAnyH_take (i := 7) (oi := ?_) (v := ?_) (by simp only [List.getElem?_toArray, List.getElem?_cons_zero, List.getElem?_cons_succ]; rfl) (by kernel_rfl) (by kernel_rfl) (by kernel_rfl) (by exact fun _ _ _ h => h) (Or.inl ⟨by rfl, ?_⟩) (by assumption) ?_
        rotate_left
        · (intro w hSw; (try dsimp only at hSw); obtain ⟨q0, q1, q2, q3⟩ := (HC5.out.raw hSw).four; clear hSw; go_simp; first | done | with_reducible rfl)
        try simp only [Act.put, List.setIfInBounds_toArray, List.set_cons_zero, List.set_cons_succ]
        refine wpAnyH_take (i := 9) (oi := ?_) (v := ?_) (by simp only [List.getElem?_toArray, List.getElem?_cons_zero, List.getElem?_cons_succ]; rfl) (by kernel_rfl) (by kernel_rfl) (by kernel_rfl) (by exact fun _ _ _ h => h) (Or.inl ⟨by rfl, ?_⟩) (by assumption) ?_
        rotate_left
        · (intro w hSw; (try dsimp only at hSw); obtain ⟨q0, q1, q2, q3⟩ := (HC5.out.raw hSw).four; clear hSw; go_simp; first | done | with_reducible rfl)
        try simp only [Act.put, List.setIfInBounds_toArray, List.set_cons_zero, List.set_cons_succ]
        refine wpAnyH_take (i := 12) (oi := ?_) (v := ?_) (by simp only [List.getElem?_toArray, List.getElem?_cons_zero, List.getElem?_cons_succ]; rfl) (by kernel_rfl) (by kernel_rfl) (by kernel_rfl) (by exact fun _ _ _ h => h) (Or.inl ⟨by rfl, ?_⟩) (by assumption) ?_
        rotate_left
        · (intro w hSw; (try dsimp only at hSw); obtain ⟨q0, q1, q2, q3⟩ := (HC5.out.raw hSw).four; clear hSw; go_simp; first | done | with_reducible rfl)
        try simp only [Act.put, List.setIfInBounds_toArray, List.set_cons_zero, List.set_cons_succ]
        refine wpAnyH_take (i := 16) (oi := ?_) (v := ?_) (by simp only [List.getElem?_toArray, List.getElem?_cons_zero, List.getElem?_cons_succ]; rfl) (by kernel_rfl) (by kernel_rfl) (by kernel_rfl) (by exact fun _ _ _ h => h) (Or.inl ⟨by rfl, ?_⟩) (by assumption) ?_
        rotate_left
        · (intro w hSw; (try dsimp only at hSw); obtain ⟨q0, q1, q2, q3⟩ := (HC5.out.raw hSw).four; clear hSw; go_simp; first | done | with_reducible rfl)
        try simp only [Act.put, List.setIfInBounds_toArray, List.set_cons_zero, List.set_cons_succ]
        refine wpAnyH_ready (rs := [6, 10]) (by kernel_rfl) (by simp) ?_
        refine AllReadyH.cons (o := ?_) (by simp only [List.getElem?_toArray, List.getElem?_cons_zero, List.getElem?_cons_succ]; rfl) (fun K hK => ?_) ?_
        · refine step_empty24 ?hgd ?ho ?_
          case hgd => rfl
          case ho => rfl
          have hS2 := hHeld.alloc hHeld.size (.cells #[] 5)
          have HE0 : As (OwB (W9.drew.alloc (.cells #[] 5)) W9.heap.size 5 (.slice (some ⟨W9.heap.size, 0, none⟩) 0 0) []) := ⟨OwB.empty W9.drew W9.heap.size 5 (Nat.le_refl _)⟩
          refine hK.out _ _ ?_ (fun hHeld2 => ?_)
          · exact hS2
          clear hK K hHeld
          have hHeld := hHeld2
          clear hHeld2
          try simp only [Act.put, List.setIfInBounds_toArray, List.set_cons_zero, List.set_cons_succ]
          refine wpAnyH_ready (rs := [8, 10]) (by kernel_rfl) (by simp) ?_
          refine AllReadyH.cons (o := ?_) (by simp only [List.getElem?_toArray, List.getElem?_cons_zero, List.getElem?_cons_succ]; rfl) (fun K hK => ?_) ?_
          · refine step_appB ?hgd (.tmp 123) (.tmp 124) ?ho ?hty W9.heap.size (.slice (some ⟨W9.heap.size, 0, none⟩) 0 0) [] ?hs HE0.out (.slice Ax X.length cx) X ?hx (RdS.below HX5.out hHeld) ?hl hHeld.size ?_
            case hgd => rfl
            case ho => rfl
            case hty => rfl
            case hs => rfl
            case hx => rfl
            case hl => have := HLX.out.1; simp; omega
            intro v8 w8 ho hg
            have hS2 := OwB.below_of HE0.out hg hHeld (Nat.le_refl _) hHeld.size
            obtain ⟨A8, c8, rfl⟩ := RdB.formN (n := X.length) ho.rd (by simp)
            have HO8 : As (OwB w8 W9.heap.size 5 (.slice A8 X.length c8) X) := ⟨ho⟩
            clear ho hg
            refine hK.out _ _ ?_ (fun hHeld2 => ?_)
            · exact hS2
            clear hK K hHeld
            have hHeld := hHeld2
            clear hHeld2
            try simp only [Act.put, List.setIfInBounds_toArray, List.set_cons_zero, List.set_cons_succ]
            refine wpAnyH_ready (rs := [10]) (by kernel_rfl) (by simp) ?_
            refine AllReadyH.cons (o := ?_) (by simp only [List.getElem?_toArray, List.getElem?_cons_zero, List.getElem?_cons_succ]; rfl) (fun K hK => ?_) ?_
            · go_simp
              have hS2 := hHeld.alloc hHeld.size (.cells #[.int .u8 (b8.toNat : Int)] 5)
              have H1 : As (OwB (w8.alloc (.cells #[.int .u8 (b8.toNat : Int)] 5)) W9.heap.size 5 (.slice (some ⟨w8.heap.size, 0, none⟩) 1 1) [b8]) := ⟨by have h := OwS.lit w8 W9.heap.size 5 1 1 #[.int .u8 (b8.toNat : Int)] hHeld.size (by decide) rfl; exact h⟩
              have HO8b := As.mk (OwS.below HO8.out (below_al _ (.cells #[.int .u8 (b8.toNat : Int)] 5)))
              clear HO8
              have HO8 := HO8b
              clear HO8b
              refine hK.out _ _ ?_ (fun hHeld2 => ?_)
              · exact hS2
              clear hK K hHeld
              have hHeld := hHeld2
              clear hHeld2
              try simp only [Act.put, List.setIfInBounds_toArray, List.set_cons_zero, List.set_cons_succ]
              refine wpAnyH_ready (rs := [11]) (by kernel_rfl) (by simp) ?_
              refine AllReadyH.cons (o := ?_) (by simp only [List.getElem?_toArray, List.getElem?_cons_zero, List.getElem?_cons_succ]; rfl) (fun K hK => ?_) ?_
              · refine step_appB ?hgd (.tmp 125) (.tmp 127) ?ho ?hty W9.heap.size (.slice A8 X.length c8) X ?hs HO8.out (.slice (some ⟨w8.heap.size, 0, none⟩) 1 1) [b8] ?hx H1.out.rd ?hl hHeld.size ?_
                case hgd => rfl
                case ho => rfl
                case hty => rfl
                case hs => rfl
                case hx => rfl
                case hl => have := HLX.out.1; simp; omega
                intro v11 w11 ho hg
                have hS2 := OwB.below_of HO8.out hg hHeld (Nat.le_refl _) hHeld.size
                obtain ⟨A11, c11, rfl⟩ := RdB.formN (n := X.length + 1) ho.rd (by simp)
                have HR11 := As.mk ho.rd
                clear ho hg
                refine hK.out _ _ ?_ (fun hHeld2 => ?_)
                · exact hS2
                clear hK K hHeld
                have hHeld := hHeld2
                clear hHeld2
                try simp only [Act.put, List.setIfInBounds_toArray, List.set_cons_zero, List.set_cons_succ]
                refine wpAnyH_ready (rs := [13]) (by kernel_rfl) (by simp) ?_
                refine AllReadyH.cons (o := ?_) (by simp only [List.getElem?_toArray, List.getElem?_cons_zero, List.getElem?_cons_succ]; rfl) (fun K hK => ?_) ?_
                · go_simp
                  (with_reducible refine (qbytes_any _ raw _ (HC5.out.raw hHeld).tx).mono ?_)
                  rintro e w13 ⟨r13, rfl, ho, hb⟩
                  obtain ⟨A13, c13, rfl⟩ := RdB.formN ho.rd rfl
                  have hS2 := hHeld.trans (hb.mono hHeld.size)
                  have HR13 := As.mk ho.rd
                  have HR11b := As.mk (RdS.below HR11.out hb)
                  clear ho hb
                  dsimp only
                  refine hK.out _ _ ?_ (fun hHeld2 => ?_)
                  · exact hS2
                  clear hK K hHeld
                  have hHeld := hHeld2
                  clear hHeld2
                  try simp only [Act.put, List.setIfInBounds_toArray, List.set_cons_zero, List.set_cons_succ]
                  refine wpAnyH_ready (rs := [14]) (by kernel_rfl) (by simp) ?_
                  refine AllReadyH.cons (o := ?_) (by simp only [List.getElem?_toArray, List.getElem?_cons_zero, List.getElem?_cons_succ]; rfl) (fun K hK => ?_) ?_
                  · refine step_six ?hgd (.tmp 117) (.tmp 118) (.tmp 119) (.tmp 122) (.tmp 128) (.tmp 130) ?ho Ab Ax (some ⟨g, off, none⟩) Ax A11 A13 lb.length X.length X.length q (X.length + 1) (bytesT raw).length cb cx cu cx c11 c13 ?h0 ?h1 ?h2 ?h3 ?h4 ?h5 ?_
                    case hgd => rfl
                    case ho => rfl
                    case h0 => rfl
                    case h1 => rfl
                    case h2 => rfl
                    case h3 => rfl
                    case h4 => rfl
                    case h5 => rfl
                    have hS2 := hHeld.alloc hHeld.size (.cells #[.slice Ab lb.length cb, .slice Ax X.length cx, .slice (some ⟨g, off, none⟩) X.length cu, .slice Ax q cx, .slice A11 (X.length + 1) c11, .slice A13 (bytesT raw).length c13] 24)
                    refine hK.out _ _ ?_ (fun hHeld2 => ?_)
                    · exact hS2
                    clear hK K hHeld
                    have hHeld := hHeld2
                    clear hHeld2
                    try simp only [Act.put, List.setIfInBounds_toArray, List.set_cons_zero, List.set_cons_succ]
                    refine wpAnyH_take (i := 15) (oi := ?_) (v := ?_) (by simp only [List.getElem?_toArray, List.getElem?_cons_zero, List.getElem?_cons_succ]; rfl) (by kernel_rfl) (by kernel_rfl) (by kernel_rfl) (by exact fun _ _ _ h => h) (Or.inl ⟨by rfl, ?_⟩) (by assumption) ?_
                    rotate_left
                    · (intro w hSw; (try dsimp only at hSw); obtain ⟨q0, q1, q2, q3⟩ := (HC5.out.raw hSw).four; clear hSw; go_simp; first | done | with_reducible rfl)
                    try simp only [Act.put, List.setIfInBounds_toArray, List.set_cons_zero, List.set_cons_succ]
                    refine wpAnyH_done (by kernel_rfl) ?_ _
                    have HW := As.mk (And.intro (HC5.out.1.trans (hHeld.mono HC5.out.1.size)) hHeld)
                    clear hHeld
                    go_wp2
                    go_meet
                    refine ⟨w13.heap.size, [.slice Ab lb.length cb, .slice Ax X.length cx, .slice (some ⟨g, off, none⟩) X.length cu, .slice Ax q cx, .slice A11 (X.length + 1) c11, .slice A13 (bytesT raw).length c13], rfl, rfl, rfl, ⟨rfl, ⟨heap_alloc_new _ _, fun v hv => ?_⟩, HW.out.1⟩⟩
                    have hh := HW.out.2
                    have hx1 := HLX.out.1
                    simp only [List.mem_cons, List.not_mem_nil, or_false] at hv
                    rcases hv with rfl | rfl | rfl | rfl | rfl | rfl
                    · exact ⟨lb, RdS.below HC5.out.2.2.2 hh, by omega⟩
                    · exact ⟨X, RdS.below HX5.out hh, by omega⟩
                    · exact ⟨U, RdS.below HU5.out hh, by have := HUL.out; omega⟩
                    · exact ⟨X.take q, RdS.below HXQ.out hh, by rw [List.length_take]; omega⟩
                    · exact ⟨X ++ [b8], RdS.below HR11b.out (below_al _ _), by rw [List.length_append]; simp; omega⟩
                    · exact ⟨bytesT raw, RdS.below HR13.out (below_al _ _), by have := bytesT_any HFR.out; omega⟩
                  exact AllReadyH.nil
                exact AllReadyH.nil
              exact AllReadyH.nil
            exact AllReadyH.nil
          refine AllReadyH.cons (o := ?_) (by simp only [List.getElem?_toArray, List.getElem?_cons_zero, List.getElem?_cons_succ]; rfl) (fun K hK => ?_) ?_
          · go_simp
            have hS2 := hHeld.alloc hHeld.size (.cells #[.int .u8 (b8.toNat : Int)] 5)
            have H1 : As (OwB ((W9.drew.alloc (.cells #[] 5)).alloc (.cells #[.int .u8 (b8.toNat : Int)] 5)) W9.heap.size 5 (.slice (some ⟨W9.heap.size + 1, 0, none⟩) 1 1) [b8]) := ⟨by have h := OwS.lit (W9.drew.alloc (.cells #[] 5)) W9.heap.size 5 1 1 #[.int .u8 (b8.toNat : Int)] hHeld.size (by decide) rfl; rw [show (W9.drew.alloc (.cells #[] 5)).heap.size = W9.heap.size + 1 by simp] at h; exact h⟩
            have HE0b := As.mk (OwS.below HE0.out (below_al _ (.cells #[.int .u8 (b8.toNat : Int)] 5)))
            clear HE0
            have HE0 := HE0b
            clear HE0b
            refine hK.out _ _ ?_ (fun hHeld2 => ?_)
            · exact hS2
            clear hK K hHeld
            have hHeld := hHeld2
            clear hHeld2
            try simp only [Act.put, List.setIfInBounds_toArray, List.set_cons_zero, List.set_cons_succ]
            refine wpAnyH_ready (rs := [8]) (by kernel_rfl) (by simp) ?_
            refine AllReadyH.cons (o := ?_) (by simp only [List.getElem?_toArray, List.getElem?_cons_zero, List.getElem?_cons_succ]; rfl) (fun K hK => ?_) ?_
            · refine step_appB ?hgd (.tmp 123) (.tmp 124) ?ho ?hty W9.heap.size (.slice (some ⟨W9.heap.size, 0, none⟩) 0 0) [] ?hs HE0.out (.slice Ax X.length cx) X ?hx (RdS.below HX5.out hHeld) ?hl hHeld.size ?_
              case hgd => rfl
              case ho => rfl
              case hty => rfl
              case hs => rfl
              case hx => rfl
              case hl => have := HLX.out.1; simp; omega
              intro v8 w8 ho hg
              have hS2 := OwB.below_of HE0.out hg hHeld (Nat.le_refl _) hHeld.size
              obtain ⟨A8, c8, rfl⟩ := RdB.formN (n := X.length) ho.rd (by simp)
              have HO8 : As (OwB w8 W9.heap.size 5 (.slice A8 X.length c8) X) := ⟨ho⟩
              have H1b := As.mk (OwS.kept H1.out hg (off_kept (fun k hk e => by simp [Value.ownBlock] at hk e; omega)))
              clear H1
              have H1 := H1b
              clear H1b
              clear ho hg
              refine hK.out _ _ ?_ (fun hHeld2 => ?_)
              · exact hS2
              clear hK K hHeld
              have hHeld := hHeld2
              clear hHeld2
              try simp only [Act.put, List.setIfInBounds_toArray, List.set_cons_zero, List.set_cons_succ]
              refine wpAnyH_ready (rs := [11]) (by kernel_rfl) (by simp) ?_
              refine AllReadyH.cons (o := ?_) (by simp only [List.getElem?_toArray, List.getElem?_cons_zero, List.getElem?_cons_succ]; rfl) (fun K hK => ?_) ?_
              · refine step_appB ?hgd (.tmp 125) (.tmp 127) ?ho ?hty W9.heap.size (.slice A8 X.length c8) X ?hs HO8.out (.slice (some ⟨W9.heap.size + 1, 0, none⟩) 1 1) [b8] ?hx H1.out.rd ?hl hHeld.size ?_
                case hgd => rfl
                case ho => rfl
                case hty => rfl
                case hs => rfl
                case hx => rfl
                case hl => have := HLX.out.1; simp; omega
                intro v11 w11 ho hg
                have hS2 := OwB.below_of HO8.out hg hHeld (Nat.le_refl _) hHeld.size
                obtain ⟨A11, c11, rfl⟩ := RdB.formN (n := X.length + 1) ho.rd (by simp)
                have HR11 := As.mk ho.rd
                clear ho hg
                refine hK.out _ _ ?_ (fun hHeld2 => ?_)
                · exact hS2
                clear hK K hHeld
                have hHeld := hHeld2
                clear hHeld2
                try simp only [Act.put, List.setIfInBounds_toArray, List.set_cons_zero, List.set_cons_succ]
                refine wpAnyH_ready (rs := [13]) (by kernel_rfl) (by simp) ?_
                refine AllReadyH.cons (o := ?_) (by simp only [List.getElem?_toArray, List.getElem?_cons_zero, List.getElem?_cons_succ]; rfl) (fun K hK => ?_) ?_
                · go_simp
                  (with_reducible refine (qbytes_any _ raw _ (HC5.out.raw hHeld).tx).mono ?_)
                  rintro e w13 ⟨r13, rfl, ho, hb⟩
                  obtain ⟨A13, c13, rfl⟩ := RdB.formN ho.rd rfl
                  have hS2 := hHeld.trans (hb.mono hHeld.size)
                  have HR13 := As.mk ho.rd
                  have HR11b := As.mk (RdS.below HR11.out hb)
                  clear ho hb
                  dsimp only
                  refine hK.out _ _ ?_ (fun hHeld2 => ?_)
                  · exact hS2
                  clear hK K hHeld
                  have hHeld := hHeld2
                  clear hHeld2
                  try simp only [Act.put, List.setIfInBounds_toArray, List.set_cons_zero, List.set_cons_succ]
                  refine wpAnyH_ready (rs := [14]) (by kernel_rfl) (by simp) ?_
                  refine AllReadyH.cons (o := ?_) (by simp only [List.getElem?_toArray, List.getElem?_cons_zero, List.getElem?_cons_succ]; rfl) (fun K hK => ?_) ?_
                  · refine step_six ?hgd (.tmp 117) (.tmp 118) (.tmp 119) (.tmp 122) (.tmp 128) (.tmp 130) ?ho Ab Ax (some ⟨g, off, none⟩) Ax A11 A13 lb.length X.length X.length q (X.length + 1) (bytesT raw).length cb cx cu cx c11 c13 ?h0 ?h1 ?h2 ?h3 ?h4 ?h5 ?_
                    case hgd => rfl
                    case ho => rfl
                    case h0 => rfl
                    case h1 => rfl
                    case h2 => rfl
                    case h3 => rfl
                    case h4 => rfl
                    case h5 => rfl
                    have hS2 := hHeld.alloc hHeld.size (.cells #[.slice Ab lb.length cb, .slice Ax X.length cx, .slice (some ⟨g, off, none⟩) X.length cu, .slice Ax q cx, .slice A11 (X.length + 1) c11, .slice A13 (bytesT raw).length c13] 24)
                    refine hK.out _ _ ?_ (fun hHeld2 => ?_)
                    · exact hS2
                    clear hK K hHeld
                    have hHeld := hHeld2
                    clear hHeld2
                    try simp only [Act.put, List.setIfInBounds_toArray, List.set_cons_zero, List.set_cons_succ]
                    refine wpAnyH_take (i := 15) (oi := ?_) (v := ?_) (by simp only [List.getElem?_toArray, List.getElem?_cons_zero, List.getElem?_cons_succ]; rfl) (by kernel_rfl) (by kernel_rfl) (by kernel_rfl) (by exact fun _ _ _ h => h) (Or.inl ⟨by rfl, ?_⟩) (by assumption) ?_
                    rotate_left
                    · (intro w hSw; (try dsimp only at hSw); obtain ⟨q0, q1, q2, q3⟩ := (HC5.out.raw hSw).four; clear hSw; go_simp; first | done | with_reducible rfl)
                    try simp only [Act.put, List.setIfInBounds_toArray, List.set_cons_zero, List.set_cons_succ]
                    refine wpAnyH_done (by kernel_rfl) ?_ _
                    have HW := As.mk (And.intro (HC5.out.1.trans (hHeld.mono HC5.out.1.size)) hHeld)
                    clear hHeld
                    go_wp2
                    go_meet
                    refine ⟨w13.heap.size, [.slice Ab lb.length cb, .slice Ax X.length cx, .slice (some ⟨g, off, none⟩) X.length cu, .slice Ax q cx, .slice A11 (X.length + 1) c11, .slice A13 (bytesT raw).length c13], rfl, rfl, rfl, ⟨rfl, ⟨heap_alloc_new _ _, fun v hv => ?_⟩, HW.out.1⟩⟩
                    have hh := HW.out.2
                    have hx1 := HLX.out.1
                    simp only [List.mem_cons, List.not_mem_nil, or_false] at hv
                    rcases hv with rfl | rfl | rfl | rfl | rfl | rfl
                    · exact ⟨lb, RdS.below HC5.out.2.2.2 hh, by omega⟩
                    · exact ⟨X, RdS.below HX5.out hh, by omega⟩
                    · exact ⟨U, RdS.below HU5.out hh, by have := HUL.out; omega⟩
                    · exact ⟨X.take q, RdS.below HXQ.out hh, by rw [List.length_take]; omega⟩
                    · exact ⟨X ++ [b8], RdS.below HR11b.out (below_al _ _), by rw [List.length_append]; simp; omega⟩
                    · exact ⟨bytesT raw, RdS.below HR13.out (below_al _ _), by have := bytesT_any HFR.out; omega⟩
                  exact AllReadyH.nil
                exact AllReadyH.nil
              exact AllReadyH.nil
            exact AllReadyH.nil
          exact AllReadyH.nil
        refine AllReadyH.cons (o := ?_) (by simp only [List.getElem?_toArray, List.getElem?_cons_zero, List.getElem?_cons_succ]; rfl) (fun K hK => ?_) ?_
        · go_simp
          have hS2 := hHeld.alloc hHeld.size (.cells #[.int .u8 (b8.toNat : Int)] 5)
          have H1 : As (OwB (W9.drew.alloc (.cells #[.int .u8 (b8.toNat : Int)] 5)) W9.heap.size 5 (.slice (some ⟨W9.heap.size, 0, none⟩) 1 1) [b8]) := ⟨by have h := OwS.lit W9.drew W9.heap.size 5 1 1 #[.int .u8 (b8.toNat : Int)] hHeld.size (by decide) rfl; exact h⟩
          refine hK.out _ _ ?_ (fun hHeld2 => ?_)
          · exact hS2
          clear hK K hHeld
          have hHeld := hHeld2
          clear hHeld2
          try simp only [Act.put, List.setIfInBounds_toArray, List.set_cons_zero, List.set_cons_succ]
          refine wpAnyH_ready (rs := [6]) (by kernel_rfl) (by simp) ?_
          refine AllReadyH.cons (o := ?_) (by simp only [List.getElem?_toArray, List.getElem?_cons_zero, List.getElem?_cons_succ]; rfl) (fun K hK => ?_) ?_
          · refine step_empty24 ?hgd ?ho ?_
            case hgd => rfl
            case ho => rfl
            have hS2 := hHeld.alloc hHeld.size (.cells #[] 5)
            have HE0 : As (OwB ((W9.drew.alloc (.cells #[.int .u8 (b8.toNat : Int)] 5)).alloc (.cells #[] 5)) W9.heap.size 5 (.slice (some ⟨(W9.drew.alloc (.cells #[.int .u8 (b8.toNat : Int)] 5)).heap.size, 0, none⟩) 0 0) []) := ⟨OwB.empty (W9.drew.alloc (.cells #[.int .u8 (b8.toNat : Int)] 5)) W9.heap.size 5 hHeld.size⟩
            have H1b := As.mk (OwS.below H1.out (below_al _ (.cells #[] 5)))
            clear H1
            have H1 := H1b
            clear H1b
            refine hK.out _ _ ?_ (fun hHeld2 => ?_)
            · exact hS2
            clear hK K hHeld
            have hHeld := hHeld2
            clear hHeld2
            try simp only [Act.put, List.setIfInBounds_toArray, List.set_cons_zero, List.set_cons_succ]
            refine wpAnyH_ready (rs := [8]) (by kernel_rfl) (by simp) ?_
            refine AllReadyH.cons (o := ?_) (by simp only [List.getElem?_toArray, List.getElem?_cons_zero, List.getElem?_cons_succ]; rfl) (fun K hK => ?_) ?_
            · refine step_appB ?hgd (.tmp 123) (.tmp 124) ?ho ?hty W9.heap.size (.slice (some ⟨(W9.drew.alloc (.cells #[.int .u8 (b8.toNat : Int)] 5)).heap.size, 0, none⟩) 0 0) [] ?hs HE0.out (.slice Ax X.length cx) X ?hx (RdS.below HX5.out hHeld) ?hl hHeld.size ?_
              case hgd => rfl
              case ho => rfl
              case hty => rfl
              case hs => rfl
              case hx => rfl
              case hl => have := HLX.out.1; simp; omega
              intro v8 w8 ho hg
              have hS2 := OwB.below_of HE0.out hg hHeld (Nat.le_refl _) hHeld.size
              obtain ⟨A8, c8, rfl⟩ := RdB.formN (n := X.length) ho.rd (by simp)
              have HO8 : As (OwB w8 W9.heap.size 5 (.slice A8 X.length c8) X) := ⟨ho⟩
              have H1b := As.mk (OwS.kept H1.out hg (off_kept (fun k hk e => by simp [Value.ownBlock] at hk e; omega)))
              clear H1
              have H1 := H1b
              clear H1b
              clear ho hg
              refine hK.out _ _ ?_ (fun hHeld2 => ?_)
              · exact hS2
              clear hK K hHeld
              have hHeld := hHeld2
              clear hHeld2
              try simp only [Act.put, List.setIfInBounds_toArray, List.set_cons_zero, List.set_cons_succ]
              refine wpAnyH_ready (rs := [11]) (by kernel_rfl) (by simp) ?_
              refine AllReadyH.cons (o := ?_) (by simp only [List.getElem?_toArray, List.getElem?_cons_zero, List.getElem?_cons_succ]; rfl) (fun K hK => ?_) ?_
              · refine step_appB ?hgd (.tmp 125) (.tmp 127) ?ho ?hty W9.heap.size (.slice A8 X.length c8) X ?hs HO8.out (.slice (some ⟨W9.heap.size, 0, none⟩) 1 1) [b8] ?hx H1.out.rd ?hl hHeld.size ?_
                case hgd => rfl
                case ho => rfl
                case hty => rfl
                case hs => rfl
                case hx => rfl
                case hl => have := HLX.out.1; simp; omega
                intro v11 w11 ho hg
                have hS2 := OwB.below_of HO8.out hg hHeld (Nat.le_refl _) hHeld.size
                obtain ⟨A11, c11, rfl⟩ := RdB.formN (n := X.length + 1) ho.rd (by simp)
                have HR11 := As.mk ho.rd
                clear ho hg
                refine hK.out _ _ ?_ (fun hHeld2 => ?_)
                · exact hS2
                clear hK K hHeld
                have hHeld := hHeld2
                clear hHeld2
                try simp only [Act.put, List.setIfInBounds_toArray, List.set_cons_zero, List.set_cons_succ]
                refine wpAnyH_ready (rs := [13]) (by kernel_rfl) (by simp) ?_
                refine AllReadyH.cons (o := ?_) (by simp only [List.getElem?_toArray, List.getElem?_cons_zero, List.getElem?_cons_succ]; rfl) (fun K hK => ?_) ?_
                · go_simp
                  (with_reducible refine (qbytes_any _ raw _ (HC5.out.raw hHeld).tx).mono ?_)
                  rintro e w13 ⟨r13, rfl, ho, hb⟩
                  obtain ⟨A13, c13, rfl⟩ := RdB.formN ho.rd rfl
                  have hS2 := hHeld.trans (hb.mono hHeld.size)
                  have HR13 := As.mk ho.rd
                  have HR11b := As.mk (RdS.below HR11.out hb)
                  clear ho hb
                  dsimp only
                  refine hK.out _ _ ?_ (fun hHeld2 => ?_)
                  · exact hS2
                  clear hK K hHeld
                  have hHeld := hHeld2
                  clear hHeld2
                  try simp only [Act.put, List.setIfInBounds_toArray, List.set_cons_zero, List.set_cons_succ]
                  refine wpAnyH_ready (rs := [14]) (by kernel_rfl) (by simp) ?_
                  refine AllReadyH.cons (o := ?_) (by simp only [List.getElem?_toArray, List.getElem?_cons_zero, List.getElem?_cons_succ]; rfl) (fun K hK => ?_) ?_
                  · refine step_six ?hgd (.tmp 117) (.tmp 118) (.tmp 119) (.tmp 122) (.tmp 128) (.tmp 130) ?ho Ab Ax (some ⟨g, off, none⟩) Ax A11 A13 lb.length X.length X.length q (X.length + 1) (bytesT raw).length cb cx cu cx c11 c13 ?h0 ?h1 ?h2 ?h3 ?h4 ?h5 ?_
                    case hgd => rfl
                    case ho => rfl
                    case h0 => rfl
                    case h1 => rfl
                    case h2 => rfl
                    case h3 => rfl
                    case h4 => rfl
                    case h5 => rfl
                    have hS2 := hHeld.alloc hHeld.size (.cells #[.slice Ab lb.length cb, .slice Ax X.length cx, .slice (some ⟨g, off, none⟩) X.length cu, .slice Ax q cx, .slice A11 (X.length + 1) c11, .slice A13 (bytesT raw).length c13] 24)
                    refine hK.out _ _ ?_ (fun hHeld2 => ?_)
                    · exact hS2
                    clear hK K hHeld
                    have hHeld := hHeld2
                    clear hHeld2
                    try simp only [Act.put, List.setIfInBounds_toArray, List.set_cons_zero, List.set_cons_succ]
                    refine wpAnyH_take (i := 15) (oi := ?_) (v := ?_) (by simp only [List.getElem?_toArray, List.getElem?_cons_zero, List.getElem?_cons_succ]; rfl) (by kernel_rfl) (by kernel_rfl) (by kernel_rfl) (by exact fun _ _ _ h => h) (Or.inl ⟨by rfl, ?_⟩) (by assumption) ?_
                    rotate_left
                    · (intro w hSw; (try dsimp only at hSw); obtain ⟨q0, q1, q2, q3⟩ := (HC5.out.raw hSw).four; clear hSw; go_simp; first | done | with_reducible rfl)
                    try simp only [Act.put, List.setIfInBounds_toArray, List.set_cons_zero, List.set_cons_succ]
                    refine wpAnyH_done (by kernel_rfl) ?_ _
                    have HW := As.mk (And.intro (HC5.out.1.trans (hHeld.mono HC5.out.1.size)) hHeld)
                    clear hHeld
                    go_wp2
                    go_meet
                    refine ⟨w13.heap.size, [.slice Ab lb.length cb, .slice Ax X.length cx, .slice (some ⟨g, off, none⟩) X.length cu, .slice Ax q cx, .slice A11 (X.length + 1) c11, .slice A13 (bytesT raw).length c13], rfl, rfl, rfl, ⟨rfl, ⟨heap_alloc_new _ _, fun v hv => ?_⟩, HW.out.1⟩⟩
                    have hh := HW.out.2
                    have hx1 := HLX.out.1
                    simp only [List.mem_cons, List.not_mem_nil, or_false] at hv
                    rcases hv with rfl | rfl | rfl | rfl | rfl | rfl
                    · exact ⟨lb, RdS.below HC5.out.2.2.2 hh, by omega⟩
                    · exact ⟨X, RdS.below HX5.out hh, by omega⟩
                    · exact ⟨U, RdS.below HU5.out hh, by have := HUL.out; omega⟩
                    · exact ⟨X.take q, RdS.below HXQ.out hh, by rw [List.length_take]; omega⟩
                    · exact ⟨X ++ [b8], RdS.below HR11b.out (below_al _ _), by rw [List.length_append]; simp; omega⟩
                    · exact ⟨bytesT raw, RdS.below HR13.out (below_al _ _), by have := bytesT_any HFR.out; omega⟩
                  exact AllReadyH.nil
                exact AllReadyH.nil
              exact AllReadyH.nil
            exact AllReadyH.nil
          exact AllReadyH.nil
        exact AllReadyH.nil
    case rest =>
      obtain ⟨G, vs, rfl, rfl, rfl, HC6⟩ := hcut
      have HVL := As.mk HC6.out.1
      go_wp2_with fail
      go_loopw [133] (fun v133 wr => ∃ k : Nat, (k : Int) ≤ 6 ∧ v133 = .int .i64 (k : Int) ∧ As (Six wr G vs ∧ Below w.heap.size w wr)) (fun v133 _ => 6 - (intOf v133).toNat)
      case atStart => exact ⟨0, by omega, rfl, ⟨HC6.out.2.1, HC6.out.2.2⟩⟩
      case round =>
        clear HC6
        obtain ⟨k, hk, rfl, HE⟩ := hrel
        by_cases hlt : (k : Int) < 6
        · obtain ⟨Av, l, cv, x0, hrd, hll⟩ := HE.out.1.at k (by rw [HVL.out]; omega)
          have HRD := As.mk hrd
          have HLL : As (l.length ≤ 140737488355328) := ⟨by omega⟩
          obtain ⟨p, ok, v, so, l1, l2, c, e1, e2, e3, e4, e5, e6⟩ := both_read l
          have HP1 := As.mk e1
          have HP2 := As.mk e2
          have HQ1 := As.mk e3
          have HQ2 := As.mk e4
          have HSO := As.mk (And.intro e5 e6)
          clear hrd hll e1 e2 e3 e4 e5 e6
          go_upto_region 15 with (first | (go_at_call 47; (with_reducible refine (parse_to _ l _ HP1.out HRD.out HLL.out).mono ?_); rintro e w3 ⟨cs3, rfl, ht, hb⟩; obtain ⟨PI, pI, PO, pO, rfl⟩ := OwTx.form ht; have HT3 := As.mk ht; have HB3 := As.mk hb; clear ht hb x0) | (go_at_call 57; (with_reducible refine (qparse_to _ l _ HP2.out (RdS.below HRD.out (HB3.out.alloc HB3.out.size _)) HLL.out).mono ?_); rintro e w4 ⟨cs4, rfl, ht, hb⟩; obtain ⟨QI, qI, QO, qO, rfl⟩ := OwTx.form ht; have HT4 := As.mk ht; have HB4 := As.mk hb; clear ht hb))
          obtain ⟨P, hP⟩ : ∃ P, P = w3.heap.size := ⟨_, rfl⟩
          obtain ⟨Q, hQ⟩ : ∃ P, P = w4.heap.size := ⟨_, rfl⟩
          have HF4 : As (BxT (w4.alloc (.cells #[.int .u32 (p.ver : Int), .slice QI p.ins.length qI, .slice QO p.outs.length qO, .int .u32 (p.lock : Int)] 51)) P [.int .u32 (p.ver : Int), .slice PI p.ins.length pI, .slice PO p.outs.length pO, .int .u32 (p.lock : Int)] p ∧ BxT (w4.alloc (.cells #[.int .u32 (p.ver : Int), .slice QI p.ins.length qI, .slice QO p.outs.length qO, .int .u32 (p.lock : Int)] 51)) Q [.int .u32 (p.ver : Int), .slice QI p.ins.length qI, .slice QO p.outs.length qO, .int .u32 (p.lock : Int)] p ∧ Below wr.heap.size wr (w4.alloc (.cells #[.int .u32 (p.ver : Int), .slice QI p.ins.length qI, .slice QO p.outs.length qO, .int .u32 (p.lock : Int)] 51))) := ⟨by
            have h3 : BxT (w3.alloc (.cells #[.int .u32 (p.ver : Int), .slice PI p.ins.length pI, .slice PO p.outs.length pO, .int .u32 (p.lock : Int)] 51)) P [.int .u32 (p.ver : Int), .slice PI p.ins.length pI, .slice PO p.outs.length pO, .int .u32 (p.lock : Int)] p := by rw [hP]; exact BxT.new HT3.out.rd
            have hb3 := HB3.out.alloc HB3.out.size (.cells #[.int .u32 (p.ver : Int), .slice PI p.ins.length pI, .slice PO p.outs.length pO, .int .u32 (p.lock : Int)] 51)
            have h4 := h3.below HB4.out
            have hb4 := hb3.trans (HB4.out.mono hb3.size)
            exact ⟨h4.below (below_al _ _), by rw [hQ]; exact BxT.new HT4.out.rd, hb4.alloc hb4.size _⟩⟩
          rw [← hP, ← hQ]
          clear hP hQ HT3 HB3 HT4 HB4
          generalize (w4.alloc (.cells #[.int .u32 (p.ver : Int), .slice QI p.ins.length qI, .slice QO p.outs.length qO, .int .u32 (p.lock : Int)] 51)) = W4 at HF4 ⊢
          go_upto_region 19 with (go_at_call 18; (with_reducible refine (read_any _ l _ (RdS.below HRD.out HF4.out.2.2) HLL.out).mono ?_); rintro e w5 ⟨B, rfl, hB, hr, hb⟩; have HB5 := As.mk (And.intro hB hb); have HR5 := As.mk hr; clear hB hr hb)
          have HT0 : As (Two W4 (w5.alloc (.cells #[.slice Av l.length cv, .bool false] 46)) B w5.heap.size l false l false) := ⟨⟨HR5.out.below (below_al _ _), Rdr.new (RdS.below (RdS.below HRD.out HF4.out.2.2) HB5.out.2), HB5.out.2.alloc HB5.out.2.size _, HB5.out.1, HB5.out.2.size, Nat.ne_of_lt HR5.out.lt⟩⟩
          have HSZ : As (w5.heap.size < (w5.alloc (.cells #[.slice Av l.length cv, .bool false] 46)).heap.size) := ⟨by simp⟩
          obtain ⟨D, hD⟩ : ∃ D, D = w5.heap.size := ⟨_, rfl⟩
          rw [← hD] at HT0 HSZ ⊢
          clear hD HR5 HB5
          generalize (w5.alloc (.cells #[.slice Av l.length cv, .bool false] 46)) = W5 at HT0 HSZ ⊢
          go_upto_region 20 with (go_at_call 58; (with_reducible refine (rtx_to B l false _ HQ1.out HT0.out.r HLL.out).mono ?_); rintro e w6 ⟨cs6, rfl, ht, hr, hg⟩; obtain ⟨VI, vI, VO, vO, rfl⟩ := OwTx.form ht; have HV6 := As.mk ht; have HT6 := As.mk (HT0.out.step1 hr hg); have HG6 := As.mk hg.size; clear ht hr hg)
          have HF6 : As (Two W4 (w6.alloc (.cells #[.int .u32 (v.ver : Int), .slice VI v.ins.length vI, .slice VO v.outs.length vO, .int .u32 (v.lock : Int)] 51)) B D l1 c l false ∧ Box (w6.alloc (.cells #[.int .u32 (v.ver : Int), .slice VI v.ins.length vI, .slice VO v.outs.length vO, .int .u32 (v.lock : Int)] 51)) w6.heap.size #[.int .u32 (v.ver : Int), .slice VI v.ins.length vI, .slice VO v.outs.length vO, .int .u32 (v.lock : Int)] 51 ∧ OwTx (w6.alloc (.cells #[.int .u32 (v.ver : Int), .slice VI v.ins.length vI, .slice VO v.outs.length vO, .int .u32 (v.lock : Int)] 51)) (D + 1) [.int .u32 (v.ver : Int), .slice VI v.ins.length vI, .slice VO v.outs.length vO, .int .u32 (v.lock : Int)] v ∧ D < w6.heap.size) := ⟨by
            have hs := HSZ.out
            have hg := HG6.out
            exact ⟨HT6.out.al _, Box.new _ _ _, (HV6.out.mono (by omega)).below (below_al _ _), by omega⟩⟩
          obtain ⟨V, hV⟩ : ∃ D, D = w6.heap.size := ⟨_, rfl⟩
          rw [← hV] at HF6 ⊢
          clear hV HV6 HT6 HG6 HT0 HSZ
          generalize (w6.alloc (.cells #[.int .u32 (v.ver : Int), .slice VI v.ins.length vI, .slice VO v.outs.length vO, .int .u32 (v.lock : Int)] 51)) = W6 at HF6 ⊢
          go_upto_region 21 with (go_at_call 59; (with_reducible refine (qtx_to D l false _ HQ2.out HF6.out.1.s HLL.out).mono ?_); rintro e w7 ⟨cs7, rfl, ht, hr, hg⟩; obtain ⟨WI, wI, WO, wO, rfl⟩ := OwTx.form ht; have HV7 := As.mk ht; have HT7 := As.mk (HF6.out.1.step2 hr hg); have HG7 := As.mk hg; clear ht hr hg)
          obtain ⟨U, hU⟩ : ∃ D, D = w7.heap.size := ⟨_, rfl⟩
          have HF7 : As (Fin6 wr (w7.alloc (.cells #[.int .u32 (v.ver : Int), .slice WI v.ins.length wI, .slice WO v.outs.length wO, .int .u32 (v.lock : Int)] 51)) P Q V U [.int .u32 (p.ver : Int), .slice PI p.ins.length pI, .slice PO p.outs.length pO, .int .u32 (p.lock : Int)] [.int .u32 (p.ver : Int), .slice QI p.ins.length qI, .slice QO p.outs.length qO, .int .u32 (p.lock : Int)] [.int .u32 (v.ver : Int), .slice VI v.ins.length vI, .slice VO v.outs.length vO, .int .u32 (v.lock : Int)] [.int .u32 (v.ver : Int), .slice WI v.ins.length wI, .slice WO v.outs.length wO, .int .u32 (v.lock : Int)] p v B D l1 l2 c) := ⟨by
            have hg := HG7.out
            have ht := HT7.out.al (.cells #[.int .u32 (v.ver : Int), .slice WI v.ins.length wI, .slice WO v.outs.length wO, .int .u32 (v.lock : Int)] 51)
            have hd := HF6.out.2.2.2
            exact ⟨HF4.out.1.below ht.below, HF4.out.2.1.below ht.below, ⟨(HF6.out.2.1.grown hg (fun e => by injection e with e; omega)).below (below_al _ _), ((HF6.out.2.2.1.read hg (by omega)).below (below_al _ _)).rd⟩, by rw [hU]; exact BxT.new HV7.out.rd, ht.r, ht.s, HF4.out.2.2.trans (ht.below.mono HF4.out.2.2.size)⟩⟩
          rw [← hU]
          clear hU HV7 HT7 HG7 HF6 HF4 HRD
          generalize (w7.alloc (.cells #[.int .u32 (v.ver : Int), .slice WI v.ins.length wI, .slice WO v.outs.length wO, .int .u32 (v.lock : Int)] 51)) = W7 at HF7 ⊢
          cases so with
          | true =>
            obtain rfl : c = false := HSO.out.1
            obtain rfl : l1 = l2 := HSO.out.2 rfl
            obtain ⟨en, hen⟩ : ∃ en : Bool, (!false && l1.isEmpty) = en := ⟨_, rfl⟩
            have HEN1 := As.mk hen
            have HEN2 := As.mk hen
            clear hen
            refine wp_region_held_drew (S := (fun V : World => Below W7.heap.size W7 V)) (by kernel_rfl) ?_ (fun hHeld => ?_)
            · exact below_dr W7
            refine wpAnyH_take (i := 0) (oi := ?_) (v := ?_) (by simp only [List.getElem?_toArray, List.getElem?_cons_zero, List.getElem?_cons_succ]; rfl) (by kernel_rfl) (by kernel_rfl) (by kernel_rfl) (by exact fun _ _ _ h => h) (Or.inl ⟨by rfl, ?_⟩) (by assumption) ?_
            rotate_left
            · (intro w hSw; (try dsimp only at hSw); obtain ⟨p0, p1, p2, p3⟩ := (HF7.out.p.below hSw).four; obtain ⟨q0, q1, q2, q3⟩ := (HF7.out.q.below hSw).four; obtain ⟨r0, r1, r2, r3⟩ := (HF7.out.v.below hSw).four; obtain ⟨s0, s1, s2, s3⟩ := (HF7.out.w.below hSw).four; have sb := (HF7.out.bad hSw); clear hSw; go_simp; first | done | with_reducible rfl)
            try simp only [Act.put, List.setIfInBounds_toArray, List.set_cons_zero, List.set_cons_succ]
            refine wpAnyH_take (i := 1) (oi := ?_) (v := ?_) (by simp only [List.getElem?_toArray, List.getElem?_cons_zero, List.getElem?_cons_succ]; rfl) (by kernel_rfl) (by kernel_rfl) (by kernel_rfl) (by exact fun _ _ _ h => h) (Or.inl ⟨by rfl, ?_⟩) (by assumption) ?_
            rotate_left
            · (intro w hSw; (try dsimp only at hSw); obtain ⟨p0, p1, p2, p3⟩ := (HF7.out.p.below hSw).four; obtain ⟨q0, q1, q2, q3⟩ := (HF7.out.q.below hSw).four; obtain ⟨r0, r1, r2, r3⟩ := (HF7.out.v.below hSw).four; obtain ⟨s0, s1, s2, s3⟩ := (HF7.out.w.below hSw).four; have sb := (HF7.out.bad hSw); clear hSw; go_simp; first | done | with_reducible rfl)
            try simp only [Act.put, List.setIfInBounds_toArray, List.set_cons_zero, List.set_cons_succ]
            refine wpAnyH_take (i := 2) (oi := ?_) (v := ?_) (by simp only [List.getElem?_toArray, List.getElem?_cons_zero, List.getElem?_cons_succ]; rfl) (by kernel_rfl) (by kernel_rfl) (by kernel_rfl) (by exact fun _ _ _ h => h) (Or.inl ⟨by rfl, ?_⟩) (by assumption) ?_
            rotate_left
            · (intro w hSw; (try dsimp only at hSw); obtain ⟨p0, p1, p2, p3⟩ := (HF7.out.p.below hSw).four; obtain ⟨q0, q1, q2, q3⟩ := (HF7.out.q.below hSw).four; obtain ⟨r0, r1, r2, r3⟩ := (HF7.out.v.below hSw).four; obtain ⟨s0, s1, s2, s3⟩ := (HF7.out.w.below hSw).four; have sb := (HF7.out.bad hSw); clear hSw; go_simp; first | done | with_reducible rfl)
            try simp only [Act.put, List.setIfInBounds_toArray, List.set_cons_zero, List.set_cons_succ]
            refine wpAnyH_take (i := 3) (oi := ?_) (v := ?_) (by simp only [List.getElem?_toArray, List.getElem?_cons_zero, List.getElem?_cons_succ]; rfl) (by kernel_rfl) (by kernel_rfl) (by kernel_rfl) (by exact fun _ _ _ h => h) (Or.inl ⟨by rfl, ?_⟩) (by assumption) ?_
            rotate_left
            · (intro w hSw; (try dsimp only at hSw); obtain ⟨p0, p1, p2, p3⟩ := (HF7.out.p.below hSw).four; obtain ⟨q0, q1, q2, q3⟩ := (HF7.out.q.below hSw).four; obtain ⟨r0, r1, r2, r3⟩ := (HF7.out.v.below hSw).four; obtain ⟨s0, s1, s2, s3⟩ := (HF7.out.w.below hSw).four; have sb := (HF7.out.bad hSw); clear hSw; go_simp; first | done | with_reducible rfl)
            try simp only [Act.put, List.setIfInBounds_toArray, List.set_cons_zero, List.set_cons_succ]
            refine wpAnyH_take (i := 4) (oi := ?_) (v := ?_) (by simp only [List.getElem?_toArray, List.getElem?_cons_zero, List.getElem?_cons_succ]; rfl) (by kernel_rfl) (by kernel_rfl) (by kernel_rfl) (by exact fun _ _ _ h => h) (Or.inl ⟨by rfl, ?_⟩) (by assumption) ?_
            rotate_left
            · (intro w hSw; (try dsimp only at hSw); obtain ⟨p0, p1, p2, p3⟩ := (HF7.out.p.below hSw).four; obtain ⟨q0, q1, q2, q3⟩ := (HF7.out.q.below hSw).four; obtain ⟨r0, r1, r2, r3⟩ := (HF7.out.v.below hSw).four; obtain ⟨s0, s1, s2, s3⟩ := (HF7.out.w.below hSw).four; have sb := (HF7.out.bad hSw); clear hSw; go_simp; first | done | with_reducible rfl)
            try simp only [Act.put, List.setIfInBounds_toArray, List.set_cons_zero, List.set_cons_succ]
            refine wpAnyH_take (i := 5) (oi := ?_) (v := ?_) (by simp only [List.getElem?_toArray, List.getElem?_cons_zero, List.getElem?_cons_succ]; rfl) (by kernel_rfl) (by kernel_rfl) (by kernel_rfl) (by exact fun _ _ _ h => h) (Or.inl ⟨by rfl, ?_⟩) (by assumption) ?_
            rotate_left
            · (intro w hSw; (try dsimp only at hSw); obtain ⟨p0, p1, p2, p3⟩ := (HF7.out.p.below hSw).four; obtain ⟨q0, q1, q2, q3⟩ := (HF7.out.q.below hSw).four; obtain ⟨r0, r1, r2, r3⟩ := (HF7.out.v.below hSw).four; obtain ⟨s0, s1, s2, s3⟩ := (HF7.out.w.below hSw).four; have sb := (HF7.out.bad hSw); clear hSw; go_simp; first | done | with_reducible rfl)
            try simp only [Act.put, List.setIfInBounds_toArray, List.set_cons_zero, List.set_cons_succ]
            refine wpAnyH_ready (rs := [6]) (by kernel_rfl) (by simp) ?_
            refine AllReadyH.cons (o := ?_) (by simp only [List.getElem?_toArray, List.getElem?_cons_zero, List.getElem?_cons_succ]; rfl) (fun K hK => ?_) ?_
            · go_simp
              (with_reducible refine (qsame_any _ _ p p _ (HF7.out.p.below hHeld).tx (HF7.out.q.below hHeld).tx).mono ?_)
              rintro e w20 ⟨he, hb⟩
              rw [decide_eq_true rfl] at he
              subst he
              have hS2 := hHeld.trans (hb.mono hHeld.size)
              clear hb
              dsimp only
              refine hK.out _ _ ?_ (fun hHeld2 => ?_)
              · exact hS2
              clear hK K hHeld
              have hHeld := hHeld2
              clear hHeld2
              try simp only [Act.put, List.setIfInBounds_toArray, List.set_cons_zero, List.set_cons_succ]
              refine wpAnyH_take (i := 7) (oi := ?_) (v := ?_) (by simp only [List.getElem?_toArray, List.getElem?_cons_zero, List.getElem?_cons_succ]; rfl) (by kernel_rfl) (by kernel_rfl) (by kernel_rfl) (by exact fun _ _ _ h => h) (Or.inl ⟨by rfl, ?_⟩) (by assumption) ?_
              rotate_left
              · (intro w hSw; (try dsimp only at hSw); obtain ⟨p0, p1, p2, p3⟩ := (HF7.out.p.below hSw).four; obtain ⟨q0, q1, q2, q3⟩ := (HF7.out.q.below hSw).four; obtain ⟨r0, r1, r2, r3⟩ := (HF7.out.v.below hSw).four; obtain ⟨s0, s1, s2, s3⟩ := (HF7.out.w.below hSw).four; have sb := (HF7.out.bad hSw); clear hSw; go_simp; first | done | with_reducible rfl)
              try simp only [Act.put, List.setIfInBounds_toArray, List.set_cons_zero, List.set_cons_succ]
              refine wpAnyH_take (i := 8) (oi := ?_) (v := ?_) (by simp only [List.getElem?_toArray, List.getElem?_cons_zero, List.getElem?_cons_succ]; rfl) (by kernel_rfl) (by kernel_rfl) (by kernel_rfl) (by exact fun _ _ _ h => h) (Or.inl ⟨by rfl, ?_⟩) (by assumption) ?_
              rotate_left
              · (intro w hSw; (try dsimp only at hSw); obtain ⟨p0, p1, p2, p3⟩ := (HF7.out.p.below hSw).four; obtain ⟨q0, q1, q2, q3⟩ := (HF7.out.q.below hSw).four; obtain ⟨r0, r1, r2, r3⟩ := (HF7.out.v.below hSw).four; obtain ⟨s0, s1, s2, s3⟩ := (HF7.out.w.below hSw).four; have sb := (HF7.out.bad hSw); clear hSw; go_simp; first | done | with_reducible rfl)
              try simp only [Act.put, List.setIfInBounds_toArray, List.set_cons_zero, List.set_cons_succ]
              refine wpAnyH_take (i := 9) (oi := ?_) (v := ?_) (by simp only [List.getElem?_toArray, List.getElem?_cons_zero, List.getElem?_cons_succ]; rfl) (by kernel_rfl) (by kernel_rfl) (by kernel_rfl) (by exact fun _ _ _ h => h) (Or.inl ⟨by rfl, ?_⟩) (by assumption) ?_
              rotate_left
              · (intro w hSw; (try dsimp only at hSw); obtain ⟨p0, p1, p2, p3⟩ := (HF7.out.p.below hSw).four; obtain ⟨q0, q1, q2, q3⟩ := (HF7.out.q.below hSw).four; obtain ⟨r0, r1, r2, r3⟩ := (HF7.out.v.below hSw).four; obtain ⟨s0, s1, s2, s3⟩ := (HF7.out.w.below hSw).four; have sb := (HF7.out.bad hSw); clear hSw; go_simp; first | done | with_reducible rfl)
              try simp only [Act.put, List.setIfInBounds_toArray, List.set_cons_zero, List.set_cons_succ]
              refine wpAnyH_take (i := 10) (oi := ?_) (v := ?_) (by simp only [List.getElem?_toArray, List.getElem?_cons_zero, List.getElem?_cons_succ]; rfl) (by kernel_rfl) (by kernel_rfl) (by kernel_rfl) (by exact fun _ _ _ h => h) (Or.inl ⟨by rfl, ?_⟩) (by assumption) ?_
              rotate_left
              · (intro w hSw; (try dsimp only at hSw); obtain ⟨p0, p1, p2, p3⟩ := (HF7.out.p.below hSw).four; obtain ⟨q0, q1, q2, q3⟩ := (HF7.out.q.below hSw).four; obtain ⟨r0, r1, r2, r3⟩ := (HF7.out.v.below hSw).four; obtain ⟨s0, s1, s2, s3⟩ := (HF7.out.w.below hSw).four; have sb := (HF7.out.bad hSw); clear hSw; go_simp; first | done | with_reducible rfl)
              try simp only [Act.put, List.setIfInBounds_toArray, List.set_cons_zero, List.set_cons_succ]
              refine wpAnyH_take (i := 11) (oi := ?_) (v := ?_) (by simp only [List.getElem?_toArray, List.getElem?_cons_zero, List.getElem?_cons_succ]; rfl) (by kernel_rfl) (by kernel_rfl) (by kernel_rfl) (by exact fun _ _ _ h => h) (Or.inl ⟨by rfl, ?_⟩) (by assumption) ?_
              rotate_left
              · (intro w hSw; (try dsimp only at hSw); obtain ⟨p0, p1, p2, p3⟩ := (HF7.out.p.below hSw).four; obtain ⟨q0, q1, q2, q3⟩ := (HF7.out.q.below hSw).four; obtain ⟨r0, r1, r2, r3⟩ := (HF7.out.v.below hSw).four; obtain ⟨s0, s1, s2, s3⟩ := (HF7.out.w.below hSw).four; have sb := (HF7.out.bad hSw); clear hSw; go_simp; first | done | with_reducible rfl)
              try simp only [Act.put, List.setIfInBounds_toArray, List.set_cons_zero, List.set_cons_succ]
              refine wpAnyH_take (i := 12) (oi := ?_) (v := ?_) (by simp only [List.getElem?_toArray, List.getElem?_cons_zero, List.getElem?_cons_succ]; rfl) (by kernel_rfl) (by kernel_rfl) (by kernel_rfl) (by exact fun _ _ _ h => h) (Or.inl ⟨by rfl, ?_⟩) (by assumption) ?_
              rotate_left
              · (intro w hSw; (try dsimp only at hSw); obtain ⟨p0, p1, p2, p3⟩ := (HF7.out.p.below hSw).four; obtain ⟨q0, q1, q2, q3⟩ := (HF7.out.q.below hSw).four; obtain ⟨r0, r1, r2, r3⟩ := (HF7.out.v.below hSw).four; obtain ⟨s0, s1, s2, s3⟩ := (HF7.out.w.below hSw).four; have sb := (HF7.out.bad hSw); clear hSw; go_simp; first | done | with_reducible rfl)
              try simp only [Act.put, List.setIfInBounds_toArray, List.set_cons_zero, List.set_cons_succ]
              refine wpAnyH_take (i := 13) (oi := ?_) (v := ?_) (by simp only [List.getElem?_toArray, List.getElem?_cons_zero, List.getElem?_cons_succ]; rfl) (by kernel_rfl) (by kernel_rfl) (by kernel_rfl) (by exact fun _ _ _ h => h) (Or.inl ⟨by rfl, ?_⟩) (by assumption) ?_
              rotate_left
              · (intro w hSw; (try dsimp only at hSw); obtain ⟨p0, p1, p2, p3⟩ := (HF7.out.p.below hSw).four; obtain ⟨q0, q1, q2, q3⟩ := (HF7.out.q.below hSw).four; obtain ⟨r0, r1, r2, r3⟩ := (HF7.out.v.below hSw).four; obtain ⟨s0, s1, s2, s3⟩ := (HF7.out.w.below hSw).four; have sb := (HF7.out.bad hSw); clear hSw; go_simp; first | done | with_reducible rfl)
              try simp only [Act.put, List.setIfInBounds_toArray, List.set_cons_zero, List.set_cons_succ]
              refine wpAnyH_take (i := 14) (oi := ?_) (v := ?_) (by simp only [List.getElem?_toArray, List.getElem?_cons_zero, List.getElem?_cons_succ]; rfl) (by kernel_rfl) (by kernel_rfl) (by kernel_rfl) (by exact fun _ _ _ h => h) (Or.inl ⟨by rfl, ?_⟩) (by assumption) ?_
              rotate_left
              · (intro w hSw; (try dsimp only at hSw); obtain ⟨p0, p1, p2, p3⟩ := (HF7.out.p.below hSw).four; obtain ⟨q0, q1, q2, q3⟩ := (HF7.out.q.below hSw).four; obtain ⟨r0, r1, r2, r3⟩ := (HF7.out.v.below hSw).four; obtain ⟨s0, s1, s2, s3⟩ := (HF7.out.w.below hSw).four; have sb := (HF7.out.bad hSw); clear hSw; go_simp; first | done | with_reducible rfl)
              try simp only [Act.put, List.setIfInBounds_toArray, List.set_cons_zero, List.set_cons_succ]
              refine wpAnyH_take (i := 15) (oi := ?_) (v := ?_) (by simp only [List.getElem?_toArray, List.getElem?_cons_zero, List.getElem?_cons_succ]; rfl) (by kernel_rfl) (by kernel_rfl) (by kernel_rfl) (by exact fun _ _ _ h => h) (Or.inl ⟨by rfl, ?_⟩) (by assumption) ?_
              rotate_left
              · (intro w hSw; (try dsimp only at hSw); obtain ⟨p0, p1, p2, p3⟩ := (HF7.out.p.below hSw).four; obtain ⟨q0, q1, q2, q3⟩ := (HF7.out.q.below hSw).four; obtain ⟨r0, r1, r2, r3⟩ := (HF7.out.v.below hSw).four; obtain ⟨s0, s1, s2, s3⟩ := (HF7.out.w.below hSw).four; have sb := (HF7.out.bad hSw); clear hSw; go_simp; first | done | with_reducible rfl)
              try simp only [Act.put, List.setIfInBounds_toArray, List.set_cons_zero, List.set_cons_succ]
              refine wpAnyH_take (i := 16) (oi := ?_) (v := ?_) (by simp only [List.getElem?_toArray, List.getElem?_cons_zero, List.getElem?_cons_succ]; rfl) (by kernel_rfl) (by kernel_rfl) (by kernel_rfl) (by exact fun _ _ _ h => h) (Or.inl ⟨by rfl, ?_⟩) (by assumption) ?_
              rotate_left
              · (intro w hSw; (try dsimp only at hSw); obtain ⟨p0, p1, p2, p3⟩ := (HF7.out.p.below hSw).four; obtain ⟨q0, q1, q2, q3⟩ := (HF7.out.q.below hSw).four; obtain ⟨r0, r1, r2, r3⟩ := (HF7.out.v.below hSw).four; obtain ⟨s0, s1, s2, s3⟩ := (HF7.out.w.below hSw).four; have sb := (HF7.out.bad hSw); clear hSw; go_simp; first | done | with_reducible rfl)
              try simp only [Act.put, List.setIfInBounds_toArray, List.set_cons_zero, List.set_cons_succ]
              refine wpAnyH_ready (rs := [17]) (by kernel_rfl) (by simp) ?_
              refine AllReadyH.cons (o := ?_) (by simp only [List.getElem?_toArray, List.getElem?_cons_zero, List.getElem?_cons_succ]; rfl) (fun K hK => ?_) ?_
              · go_simp
                (with_reducible refine (qsame_any _ _ v v _ (HF7.out.v.below hHeld).tx (HF7.out.w.below hHeld).tx).mono ?_)
                rintro e w21 ⟨he, hb⟩
                rw [decide_eq_true rfl] at he
                subst he
                have hS2 := hHeld.trans (hb.mono hHeld.size)
                clear hb
                dsimp only
                refine hK.out _ _ ?_ (fun hHeld2 => ?_)
                · exact hS2
                clear hK K hHeld
                have hHeld := hHeld2
                clear hHeld2
                try simp only [Act.put, List.setIfInBounds_toArray, List.set_cons_zero, List.set_cons_succ]
                refine wpAnyH_take (i := 18) (oi := ?_) (v := ?_) (by simp only [List.getElem?_toArray, List.getElem?_cons_zero, List.getElem?_cons_succ]; rfl) (by kernel_rfl) (by kernel_rfl) (by kernel_rfl) (by exact fun _ _ _ h => h) (Or.inl ⟨by rfl, ?_⟩) (by assumption) ?_
                rotate_left
                · (intro w hSw; (try dsimp only at hSw); obtain ⟨p0, p1, p2, p3⟩ := (HF7.out.p.below hSw).four; obtain ⟨q0, q1, q2, q3⟩ := (HF7.out.q.below hSw).four; obtain ⟨r0, r1, r2, r3⟩ := (HF7.out.v.below hSw).four; obtain ⟨s0, s1, s2, s3⟩ := (HF7.out.w.below hSw).four; have sb := (HF7.out.bad hSw); clear hSw; go_simp; first | done | with_reducible rfl)
                try simp only [Act.put, List.setIfInBounds_toArray, List.set_cons_zero, List.set_cons_succ]
                refine wpAnyH_take (i := 19) (oi := ?_) (v := ?_) (by simp only [List.getElem?_toArray, List.getElem?_cons_zero, List.getElem?_cons_succ]; rfl) (by kernel_rfl) (by kernel_rfl) (by kernel_rfl) (by exact fun _ _ _ h => h) (Or.inl ⟨by rfl, ?_⟩) (by assumption) ?_
                rotate_left
                · (intro w hSw; (try dsimp only at hSw); obtain ⟨p0, p1, p2, p3⟩ := (HF7.out.p.below hSw).four; obtain ⟨q0, q1, q2, q3⟩ := (HF7.out.q.below hSw).four; obtain ⟨r0, r1, r2, r3⟩ := (HF7.out.v.below hSw).four; obtain ⟨s0, s1, s2, s3⟩ := (HF7.out.w.below hSw).four; have sb := (HF7.out.bad hSw); clear hSw; go_simp; first | done | with_reducible rfl)
                try simp only [Act.put, List.setIfInBounds_toArray, List.set_cons_zero, List.set_cons_succ]
                refine wpAnyH_take (i := 20) (oi := ?_) (v := ?_) (by simp only [List.getElem?_toArray, List.getElem?_cons_zero, List.getElem?_cons_succ]; rfl) (by kernel_rfl) (by kernel_rfl) (by kernel_rfl) (by exact fun _ _ _ h => h) (Or.inl ⟨by rfl, ?_⟩) (by assumption) ?_
                rotate_left
                · (intro w hSw; (try dsimp only at hSw); obtain ⟨p0, p1, p2, p3⟩ := (HF7.out.p.below hSw).four; obtain ⟨q0, q1, q2, q3⟩ := (HF7.out.q.below hSw).four; obtain ⟨r0, r1, r2, r3⟩ := (HF7.out.v.below hSw).four; obtain ⟨s0, s1, s2, s3⟩ := (HF7.out.w.below hSw).four; have sb := (HF7.out.bad hSw); clear hSw; go_simp; first | done | with_reducible rfl)
                try simp only [Act.put, List.setIfInBounds_toArray, List.set_cons_zero, List.set_cons_succ]
                refine wpAnyH_take (i := 21) (oi := ?_) (v := ?_) (by simp only [List.getElem?_toArray, List.getElem?_cons_zero, List.getElem?_cons_succ]; rfl) (by kernel_rfl) (by kernel_rfl) (by kernel_rfl) (by exact fun _ _ _ h => h) (Or.inl ⟨by rfl, ?_⟩) (by assumption) ?_
                rotate_left
                · (intro w hSw; (try dsimp only at hSw); obtain ⟨p0, p1, p2, p3⟩ := (HF7.out.p.below hSw).four; obtain ⟨q0, q1, q2, q3⟩ := (HF7.out.q.below hSw).four; obtain ⟨r0, r1, r2, r3⟩ := (HF7.out.v.below hSw).four; obtain ⟨s0, s1, s2, s3⟩ := (HF7.out.w.below hSw).four; have sb := (HF7.out.bad hSw); clear hSw; go_simp; first | done | with_reducible rfl)
                try simp only [Act.put, List.setIfInBounds_toArray, List.set_cons_zero, List.set_cons_succ]
                refine wpAnyH_take (i := 23) (oi := ?_) (v := ?_) (by simp only [List.getElem?_toArray, List.getElem?_cons_zero, List.getElem?_cons_succ]; rfl) (by kernel_rfl) (by kernel_rfl) (by kernel_rfl) (by exact fun _ _ _ h => h) (Or.inl ⟨by rfl, ?_⟩) (by assumption) ?_
                rotate_left
                · (intro w hSw; (try dsimp only at hSw); obtain ⟨p0, p1, p2, p3⟩ := (HF7.out.p.below hSw).four; obtain ⟨q0, q1, q2, q3⟩ := (HF7.out.q.below hSw).four; obtain ⟨r0, r1, r2, r3⟩ := (HF7.out.v.below hSw).four; obtain ⟨s0, s1, s2, s3⟩ := (HF7.out.w.below hSw).four; have sb := (HF7.out.bad hSw); clear hSw; go_simp; first | done | with_reducible rfl)
                try simp only [Act.put, List.setIfInBounds_toArray, List.set_cons_zero, List.set_cons_succ]
                refine wpAnyH_take (i := 24) (oi := ?_) (v := ?_) (by simp only [List.getElem?_toArray, List.getElem?_cons_zero, List.getElem?_cons_succ]; rfl) (by kernel_rfl) (by kernel_rfl) (by kernel_rfl) (by exact fun _ _ _ h => h) (Or.inl ⟨by rfl, ?_⟩) (by assumption) ?_
                rotate_left
                · (intro w hSw; (try dsimp only at hSw); obtain ⟨p0, p1, p2, p3⟩ := (HF7.out.p.below hSw).four; obtain ⟨q0, q1, q2, q3⟩ := (HF7.out.q.below hSw).four; obtain ⟨r0, r1, r2, r3⟩ := (HF7.out.v.below hSw).four; obtain ⟨s0, s1, s2, s3⟩ := (HF7.out.w.below hSw).four; have sb := (HF7.out.bad hSw); clear hSw; go_simp; first | done | with_reducible rfl)
                try simp only [Act.put, List.setIfInBounds_toArray, List.set_cons_zero, List.set_cons_succ]
                refine wpAnyH_take (i := 25) (oi := ?_) (v := ?_) (by simp only [List.getElem?_toArray, List.getElem?_cons_zero, List.getElem?_cons_succ]; rfl) (by kernel_rfl) (by kernel_rfl) (by kernel_rfl) (by exact fun _ _ _ h => h) (Or.inl ⟨by rfl, ?_⟩) (by assumption) ?_
                rotate_left
                · (intro w hSw; (try dsimp only at hSw); obtain ⟨p0, p1, p2, p3⟩ := (HF7.out.p.below hSw).four; obtain ⟨q0, q1, q2, q3⟩ := (HF7.out.q.below hSw).four; obtain ⟨r0, r1, r2, r3⟩ := (HF7.out.v.below hSw).four; obtain ⟨s0, s1, s2, s3⟩ := (HF7.out.w.below hSw).four; have sb := (HF7.out.bad hSw); clear hSw; go_simp; first | done | with_reducible rfl)
                try simp only [Act.put, List.setIfInBounds_toArray, List.set_cons_zero, List.set_cons_succ]
                refine wpAnyH_take (i := 26) (oi := ?_) (v := ?_) (by simp only [List.getElem?_toArray, List.getElem?_cons_zero, List.getElem?_cons_succ]; rfl) (by kernel_rfl) (by kernel_rfl) (by kernel_rfl) (by exact fun _ _ _ h => h) (Or.inl ⟨by rfl, ?_⟩) (by assumption) ?_
                rotate_left
                · (intro w hSw; (try dsimp only at hSw); obtain ⟨p0, p1, p2, p3⟩ := (HF7.out.p.below hSw).four; obtain ⟨q0, q1, q2, q3⟩ := (HF7.out.q.below hSw).four; obtain ⟨r0, r1, r2, r3⟩ := (HF7.out.v.below hSw).four; obtain ⟨s0, s1, s2, s3⟩ := (HF7.out.w.below hSw).four; have sb := (HF7.out.bad hSw); clear hSw; go_simp; first | done | with_reducible rfl)
                try simp only [Act.put, List.setIfInBounds_toArray, List.set_cons_zero, List.set_cons_succ]
                refine wpAnyH_ready (rs := [22]) (by kernel_rfl) (by simp) ?_
                refine AllReadyH.cons (o := ?_) (by simp only [List.getElem?_toArray, List.getElem?_cons_zero, List.getElem?_cons_succ]; rfl) (fun K hK => ?_) ?_
                · go_simp
                  (with_reducible refine (ok_to B l1 false _ (r := true) rfl (HF7.out.r.below hHeld)).mono ?_)
                  rintro e w22 ⟨rfl, hb⟩
                  subst hb
                  have hS2 := hHeld
                  dsimp only
                  refine hK.out _ _ ?_ (fun hHeld2 => ?_)
                  · exact hS2
                  clear hK K hHeld
                  have hHeld := hHeld2
                  clear hHeld2
                  try simp only [Act.put, List.setIfInBounds_toArray, List.set_cons_zero, List.set_cons_succ]
                  refine wpAnyH_take (i := 27) (oi := ?_) (v := ?_) (by simp only [List.getElem?_toArray, List.getElem?_cons_zero, List.getElem?_cons_succ]; rfl) (by kernel_rfl) (by kernel_rfl) (by kernel_rfl) (by exact fun _ _ _ h => h) (Or.inl ⟨by rfl, ?_⟩) (by assumption) ?_
                  rotate_left
                  · (intro w hSw; (try dsimp only at hSw); obtain ⟨p0, p1, p2, p3⟩ := (HF7.out.p.below hSw).four; obtain ⟨q0, q1, q2, q3⟩ := (HF7.out.q.below hSw).four; obtain ⟨r0, r1, r2, r3⟩ := (HF7.out.v.below hSw).four; obtain ⟨s0, s1, s2, s3⟩ := (HF7.out.w.below hSw).four; have sb := (HF7.out.bad hSw); clear hSw; go_simp; first | done | with_reducible rfl)
                  try simp only [Act.put, List.setIfInBounds_toArray, List.set_cons_zero, List.set_cons_succ]
                  refine wpAnyH_take (i := 28) (oi := ?_) (v := ?_) (by simp only [List.getElem?_toArray, List.getElem?_cons_zero, List.getElem?_cons_succ]; rfl) (by kernel_rfl) (by kernel_rfl) (by kernel_rfl) (by exact fun _ _ _ h => h) (Or.inl ⟨by rfl, ?_⟩) (by assumption) ?_
                  rotate_left
                  · (intro w hSw; (try dsimp only at hSw); obtain ⟨p0, p1, p2, p3⟩ := (HF7.out.p.below hSw).four; obtain ⟨q0, q1, q2, q3⟩ := (HF7.out.q.below hSw).four; obtain ⟨r0, r1, r2, r3⟩ := (HF7.out.v.below hSw).four; obtain ⟨s0, s1, s2, s3⟩ := (HF7.out.w.below hSw).four; have sb := (HF7.out.bad hSw); clear hSw; go_simp; first | done | with_reducible rfl)
                  try simp only [Act.put, List.setIfInBounds_toArray, List.set_cons_zero, List.set_cons_succ]
                  refine wpAnyH_take (i := 29) (oi := ?_) (v := ?_) (by simp only [List.getElem?_toArray, List.getElem?_cons_zero, List.getElem?_cons_succ]; rfl) (by kernel_rfl) (by kernel_rfl) (by kernel_rfl) (by exact fun _ _ _ h => h) (Or.inl ⟨by rfl, ?_⟩) (by assumption) ?_
                  rotate_left
                  · (intro w hSw; (try dsimp only at hSw); obtain ⟨p0, p1, p2, p3⟩ := (HF7.out.p.below hSw).four; obtain ⟨q0, q1, q2, q3⟩ := (HF7.out.q.below hSw).four; obtain ⟨r0, r1, r2, r3⟩ := (HF7.out.v.below hSw).four; obtain ⟨s0, s1, s2, s3⟩ := (HF7.out.w.below hSw).four; have sb := (HF7.out.bad hSw); clear hSw; go_simp; first | done | with_reducible rfl)
                  try simp only [Act.put, List.setIfInBounds_toArray, List.set_cons_zero, List.set_cons_succ]
                  refine wpAnyH_take (i := 30) (oi := ?_) (v := ?_) (by simp only [List.getElem?_toArray, List.getElem?_cons_zero, List.getElem?_cons_succ]; rfl) (by kernel_rfl) (by kernel_rfl) (by kernel_rfl) (by exact fun _ _ _ h => h) (Or.inl ⟨by rfl, ?_⟩) (by assumption) ?_
                  rotate_left
                  · (intro w hSw; (try dsimp only at hSw); obtain ⟨p0, p1, p2, p3⟩ := (HF7.out.p.below hSw).four; obtain ⟨q0, q1, q2, q3⟩ := (HF7.out.q.below hSw).four; obtain ⟨r0, r1, r2, r3⟩ := (HF7.out.v.below hSw).four; obtain ⟨s0, s1, s2, s3⟩ := (HF7.out.w.below hSw).four; have sb := (HF7.out.bad hSw); clear hSw; go_simp; first | done | with_reducible rfl)
                  try simp only [Act.put, List.setIfInBounds_toArray, List.set_cons_zero, List.set_cons_succ]
                  refine wpAnyH_take (i := 31) (oi := ?_) (v := ?_) (by simp only [List.getElem?_toArray, List.getElem?_cons_zero, List.getElem?_cons_succ]; rfl) (by kernel_rfl) (by kernel_rfl) (by kernel_rfl) (by exact fun _ _ _ h => h) (Or.inl ⟨by rfl, ?_⟩) (by assumption) ?_
                  rotate_left
                  · (intro w hSw; (try dsimp only at hSw); obtain ⟨p0, p1, p2, p3⟩ := (HF7.out.p.below hSw).four; obtain ⟨q0, q1, q2, q3⟩ := (HF7.out.q.below hSw).four; obtain ⟨r0, r1, r2, r3⟩ := (HF7.out.v.below hSw).four; obtain ⟨s0, s1, s2, s3⟩ := (HF7.out.w.below hSw).four; have sb := (HF7.out.bad hSw); clear hSw; go_simp; first | done | with_reducible rfl)
                  try simp only [Act.put, List.setIfInBounds_toArray, List.set_cons_zero, List.set_cons_succ]
                  refine wpAnyH_take (i := 32) (oi := ?_) (v := ?_) (by simp only [List.getElem?_toArray, List.getElem?_cons_zero, List.getElem?_cons_succ]; rfl) (by kernel_rfl) (by kernel_rfl) (by kernel_rfl) (by exact fun _ _ _ h => h) (Or.inl ⟨by rfl, ?_⟩) (by assumption) ?_
                  rotate_left
                  · (intro w hSw; (try dsimp only at hSw); obtain ⟨p0, p1, p2, p3⟩ := (HF7.out.p.below hSw).four; obtain ⟨q0, q1, q2, q3⟩ := (HF7.out.q.below hSw).four; obtain ⟨r0, r1, r2, r3⟩ := (HF7.out.v.below hSw).four; obtain ⟨s0, s1, s2, s3⟩ := (HF7.out.w.below hSw).four; have sb := (HF7.out.bad hSw); clear hSw; go_simp; first | done | with_reducible rfl)
                  try simp only [Act.put, List.setIfInBounds_toArray, List.set_cons_zero, List.set_cons_succ]
                  refine wpAnyH_take (i := 34) (oi := ?_) (v := ?_) (by simp only [List.getElem?_toArray, List.getElem?_cons_zero, List.getElem?_cons_succ]; rfl) (by kernel_rfl) (by kernel_rfl) (by kernel_rfl) (by exact fun _ _ _ h => h) (Or.inl ⟨by rfl, ?_⟩) (by assumption) ?_
                  rotate_left
                  · (intro w hSw; (try dsimp only at hSw); obtain ⟨p0, p1, p2, p3⟩ := (HF7.out.p.below hSw).four; obtain ⟨q0, q1, q2, q3⟩ := (HF7.out.q.below hSw).four; obtain ⟨r0, r1, r2, r3⟩ := (HF7.out.v.below hSw).four; obtain ⟨s0, s1, s2, s3⟩ := (HF7.out.w.below hSw).four; have sb := (HF7.out.bad hSw); clear hSw; go_simp; first | done | with_reducible rfl)
                  try simp only [Act.put, List.setIfInBounds_toArray, List.set_cons_zero, List.set_cons_succ]
                  refine wpAnyH_ready (rs := [33]) (by kernel_rfl) (by simp) ?_
                  refine AllReadyH.cons (o := ?_) (by simp only [List.getElem?_toArray, List.getElem?_cons_zero, List.getElem?_cons_succ]; rfl) (fun K hK => ?_) ?_
                  · go_simp
                    (with_reducible refine (end_to B l1 false _ (r := en) HEN1.out (HF7.out.r.below hHeld)).mono ?_)
                    rintro e w33 ⟨rfl, hb⟩
                    subst hb
                    have hS2 := hHeld
                    dsimp only
                    refine hK.out _ _ ?_ (fun hHeld2 => ?_)
                    · exact hS2
                    clear hK K hHeld
                    have hHeld := hHeld2
                    clear hHeld2
                    try simp only [Act.put, List.setIfInBounds_toArray, List.set_cons_zero, List.set_cons_succ]
                    refine wpAnyH_ready (rs := [35]) (by kernel_rfl) (by simp) ?_
                    refine AllReadyH.cons (o := ?_) (by simp only [List.getElem?_toArray, List.getElem?_cons_zero, List.getElem?_cons_succ]; rfl) (fun K hK => ?_) ?_
                    · go_simp
                      (with_reducible refine (qend_to D l1 false _ (r := en) HEN2.out (HF7.out.s.below hHeld)).mono ?_)
                      rintro e w35 ⟨rfl, hb⟩
                      subst hb
                      have hS2 := hHeld
                      dsimp only
                      refine hK.out _ _ ?_ (fun hHeld2 => ?_)
                      · exact hS2
                      clear hK K hHeld
                      have hHeld := hHeld2
                      clear hHeld2
                      try simp only [Act.put, List.setIfInBounds_toArray, List.set_cons_zero, List.set_cons_succ]
                      refine wpAnyH_take (i := 36) (oi := ?_) (v := ?_) (by simp only [List.getElem?_toArray, List.getElem?_cons_zero, List.getElem?_cons_succ]; rfl) (by kernel_rfl) (by kernel_rfl) (by kernel_rfl) (by exact fun _ _ _ h => h) (Or.inl ⟨by rfl, ?_⟩) (by assumption) ?_
                      rotate_left
                      · (intro w hSw; (try dsimp only at hSw); obtain ⟨p0, p1, p2, p3⟩ := (HF7.out.p.below hSw).four; obtain ⟨q0, q1, q2, q3⟩ := (HF7.out.q.below hSw).four; obtain ⟨r0, r1, r2, r3⟩ := (HF7.out.v.below hSw).four; obtain ⟨s0, s1, s2, s3⟩ := (HF7.out.w.below hSw).four; have sb := (HF7.out.bad hSw); clear hSw; go_simp; first | done | with_reducible rfl)
                      try simp only [Act.put, List.setIfInBounds_toArray, List.set_cons_zero, List.set_cons_succ]
                      refine wpAnyH_take (i := 37) (oi := ?_) (v := ?_) (by simp only [List.getElem?_toArray, List.getElem?_cons_zero, List.getElem?_cons_succ]; rfl) (by kernel_rfl) (by kernel_rfl) (by kernel_rfl) (by exact fun _ _ _ h => h) (Or.inl ⟨by rfl, ?_⟩) (by assumption) ?_
                      rotate_left
                      · (intro w hSw; (try dsimp only at hSw); obtain ⟨p0, p1, p2, p3⟩ := (HF7.out.p.below hSw).four; obtain ⟨q0, q1, q2, q3⟩ := (HF7.out.q.below hSw).four; obtain ⟨r0, r1, r2, r3⟩ := (HF7.out.v.below hSw).four; obtain ⟨s0, s1, s2, s3⟩ := (HF7.out.w.below hSw).four; have sb := (HF7.out.bad hSw); clear hSw; go_simp; first | done | with_reducible rfl)
                      try simp only [Act.put, List.setIfInBounds_toArray, List.set_cons_zero, List.set_cons_succ]
                      refine wpAnyH_take (i := 38) (oi := ?_) (v := ?_) (by simp only [List.getElem?_toArray, List.getElem?_cons_zero, List.getElem?_cons_succ]; rfl) (by kernel_rfl) (by kernel_rfl) (by kernel_rfl) (by exact fun _ _ _ h => h) (Or.inl ⟨by rfl, ?_⟩) (by assumption) ?_
                      rotate_left
                      · (intro w hSw; (try dsimp only at hSw); obtain ⟨p0, p1, p2, p3⟩ := (HF7.out.p.below hSw).four; obtain ⟨q0, q1, q2, q3⟩ := (HF7.out.q.below hSw).four; obtain ⟨r0, r1, r2, r3⟩ := (HF7.out.v.below hSw).four; obtain ⟨s0, s1, s2, s3⟩ := (HF7.out.w.below hSw).four; have sb := (HF7.out.bad hSw); clear hSw; go_simp; first | done | with_reducible rfl)
                      try simp only [Act.put, List.setIfInBounds_toArray, List.set_cons_zero, List.set_cons_succ]
                      refine wpAnyH_done (by kernel_rfl) ?_ _
                      have HW := As.mk (HF7.out.below.trans (hHeld.mono HF7.out.below.size))
                      clear hHeld
                      go_wp2
                      go_roundw
                      case rel => exact ⟨k + 1, by omega, by go_num, ⟨HE.out.1.below HW.out, HE.out.2.trans (HW.out.mono HE.out.2.size)⟩⟩
                      case measure => simp [intOf]; omega
                    exact AllReadyH.nil
                  exact AllReadyH.nil
                exact AllReadyH.nil
              exact AllReadyH.nil
            exact AllReadyH.nil
          | false =>
            obtain rfl : c = true := HSO.out.1
            refine wp_region_held_drew (S := (fun V : World => Below W7.heap.size W7 V)) (by kernel_rfl) ?_ (fun hHeld => ?_)
            · exact below_dr W7
            refine wpAnyH_take (i := 0) (oi := ?_) (v := ?_) (by simp only [List.getElem?_toArray, List.getElem?_cons_zero, List.getElem?_cons_succ]; rfl) (by kernel_rfl) (by kernel_rfl) (by kernel_rfl) (by exact fun _ _ _ h => h) (Or.inl ⟨by rfl, ?_⟩) (by assumption) ?_
            rotate_left
            · (intro w hSw; (try dsimp only at hSw); obtain ⟨p0, p1, p2, p3⟩ := (HF7.out.p.below hSw).four; obtain ⟨q0, q1, q2, q3⟩ := (HF7.out.q.below hSw).four; obtain ⟨r0, r1, r2, r3⟩ := (HF7.out.v.below hSw).four; obtain ⟨s0, s1, s2, s3⟩ := (HF7.out.w.below hSw).four; have sb := (HF7.out.bad hSw); clear hSw; go_simp; first | done | with_reducible rfl)
            try simp only [Act.put, List.setIfInBounds_toArray, List.set_cons_zero, List.set_cons_succ]
            refine wpAnyH_take (i := 1) (oi := ?_) (v := ?_) (by simp only [List.getElem?_toArray, List.getElem?_cons_zero, List.getElem?_cons_succ]; rfl) (by kernel_rfl) (by kernel_rfl) (by kernel_rfl) (by exact fun _ _ _ h => h) (Or.inl ⟨by rfl, ?_⟩) (by assumption) ?_
            rotate_left
            · (intro w hSw; (try dsimp only at hSw); obtain ⟨p0, p1, p2, p3⟩ := (HF7.out.p.below hSw).four; obtain ⟨q0, q1, q2, q3⟩ := (HF7.out.q.below hSw).four; obtain ⟨r0, r1, r2, r3⟩ := (HF7.out.v.below hSw).four; obtain ⟨s0, s1, s2, s3⟩ := (HF7.out.w.below hSw).four; have sb := (HF7.out.bad hSw); clear hSw; go_simp; first | done | with_reducible rfl)
            try simp only [Act.put, List.setIfInBounds_toArray, List.set_cons_zero, List.set_cons_succ]
            refine wpAnyH_take (i := 2) (oi := ?_) (v := ?_) (by simp only [List.getElem?_toArray, List.getElem?_cons_zero, List.getElem?_cons_succ]; rfl) (by kernel_rfl) (by kernel_rfl) (by kernel_rfl) (by exact fun _ _ _ h => h) (Or.inl ⟨by rfl, ?_⟩) (by assumption) ?_
            rotate_left
            · (intro w hSw; (try dsimp only at hSw); obtain ⟨p0, p1, p2, p3⟩ := (HF7.out.p.below hSw).four; obtain ⟨q0, q1, q2, q3⟩ := (HF7.out.q.below hSw).four; obtain ⟨r0, r1, r2, r3⟩ := (HF7.out.v.below hSw).four; obtain ⟨s0, s1, s2, s3⟩ := (HF7.out.w.below hSw).four; have sb := (HF7.out.bad hSw); clear hSw; go_simp; first | done | with_reducible rfl)
            try simp only [Act.put, List.setIfInBounds_toArray, List.set_cons_zero, List.set_cons_succ]
            refine wpAnyH_take (i := 3) (oi := ?_) (v := ?_) (by simp only [List.getElem?_toArray, List.getElem?_cons_zero, List.getElem?_cons_succ]; rfl) (by kernel_rfl) (by kernel_rfl) (by kernel_rfl) (by exact fun _ _ _ h => h) (Or.inl ⟨by rfl, ?_⟩) (by assumption) ?_
            rotate_left
            · (intro w hSw; (try dsimp only at hSw); obtain ⟨p0, p1, p2, p3⟩ := (HF7.out.p.below hSw).four; obtain ⟨q0, q1, q2, q3⟩ := (HF7.out.q.below hSw).four; obtain ⟨r0, r1, r2, r3⟩ := (HF7.out.v.below hSw).four; obtain ⟨s0, s1, s2, s3⟩ := (HF7.out.w.below hSw).four; have sb := (HF7.out.bad hSw); clear hSw; go_simp; first | done | with_reducible rfl)
            try simp only [Act.put, List.setIfInBounds_toArray, List.set_cons_zero, List.set_cons_succ]
            refine wpAnyH_take (i := 4) (oi := ?_) (v := ?_) (by simp only [List.getElem?_toArray, List.getElem?_cons_zero, List.getElem?_cons_succ]; rfl) (by kernel_rfl) (by kernel_rfl) (by kernel_rfl) (by exact fun _ _ _ h => h) (Or.inl ⟨by rfl, ?_⟩) (by assumption) ?_
            rotate_left
            · (intro w hSw; (try dsimp only at hSw); obtain ⟨p0, p1, p2, p3⟩ := (HF7.out.p.below hSw).four; obtain ⟨q0, q1, q2, q3⟩ := (HF7.out.q.below hSw).four; obtain ⟨r0, r1, r2, r3⟩ := (HF7.out.v.below hSw).four; obtain ⟨s0, s1, s2, s3⟩ := (HF7.out.w.below hSw).four; have sb := (HF7.out.bad hSw); clear hSw; go_simp; first | done | with_reducible rfl)
            try simp only [Act.put, List.setIfInBounds_toArray, List.set_cons_zero, List.set_cons_succ]
            refine wpAnyH_take (i := 5) (oi := ?_) (v := ?_) (by simp only [List.getElem?_toArray, List.getElem?_cons_zero, List.getElem?_cons_succ]; rfl) (by kernel_rfl) (by kernel_rfl) (by kernel_rfl) (by exact fun _ _ _ h => h) (Or.inl ⟨by rfl, ?_⟩) (by assumption) ?_
            rotate_left
            · (intro w hSw; (try dsimp only at hSw); obtain ⟨p0, p1, p2, p3⟩ := (HF7.out.p.below hSw).four; obtain ⟨q0, q1, q2, q3⟩ := (HF7.out.q.below hSw).four; obtain ⟨r0, r1, r2, r3⟩ := (HF7.out.v.below hSw).four; obtain ⟨s0, s1, s2, s3⟩ := (HF7.out.w.below hSw).four; have sb := (HF7.out.bad hSw); clear hSw; go_simp; first | done | with_reducible rfl)
            try simp only [Act.put, List.setIfInBounds_toArray, List.set_cons_zero, List.set_cons_succ]
            refine wpAnyH_ready (rs := [6]) (by kernel_rfl) (by simp) ?_
            refine AllReadyH.cons (o := ?_) (by simp only [List.getElem?_toArray, List.getElem?_cons_zero, List.getElem?_cons_succ]; rfl) (fun K hK => ?_) ?_
            · go_simp
              (with_reducible refine (qsame_any _ _ p p _ (HF7.out.p.below hHeld).tx (HF7.out.q.below hHeld).tx).mono ?_)
              rintro e w20 ⟨he, hb⟩
              rw [decide_eq_true rfl] at he
              subst he
              have hS2 := hHeld.trans (hb.mono hHeld.size)
              clear hb
              dsimp only
              refine hK.out _ _ ?_ (fun hHeld2 => ?_)
              · exact hS2
              clear hK K hHeld
              have hHeld := hHeld2
              clear hHeld2
              try simp only [Act.put, List.setIfInBounds_toArray, List.set_cons_zero, List.set_cons_succ]
              refine wpAnyH_take (i := 7) (oi := ?_) (v := ?_) (by simp only [List.getElem?_toArray, List.getElem?_cons_zero, List.getElem?_cons_succ]; rfl) (by kernel_rfl) (by kernel_rfl) (by kernel_rfl) (by exact fun _ _ _ h => h) (Or.inl ⟨by rfl, ?_⟩) (by assumption) ?_
              rotate_left
              · (intro w hSw; (try dsimp only at hSw); obtain ⟨p0, p1, p2, p3⟩ := (HF7.out.p.below hSw).four; obtain ⟨q0, q1, q2, q3⟩ := (HF7.out.q.below hSw).four; obtain ⟨r0, r1, r2, r3⟩ := (HF7.out.v.below hSw).four; obtain ⟨s0, s1, s2, s3⟩ := (HF7.out.w.below hSw).four; have sb := (HF7.out.bad hSw); clear hSw; go_simp; first | done | with_reducible rfl)
              try simp only [Act.put, List.setIfInBounds_toArray, List.set_cons_zero, List.set_cons_succ]
              refine wpAnyH_take (i := 8) (oi := ?_) (v := ?_) (by simp only [List.getElem?_toArray, List.getElem?_cons_zero, List.getElem?_cons_succ]; rfl) (by kernel_rfl) (by kernel_rfl) (by kernel_rfl) (by exact fun _ _ _ h => h) (Or.inl ⟨by rfl, ?_⟩) (by assumption) ?_
              rotate_left
              · (intro w hSw; (try dsimp only at hSw); obtain ⟨p0, p1, p2, p3⟩ := (HF7.out.p.below hSw).four; obtain ⟨q0, q1, q2, q3⟩ := (HF7.out.q.below hSw).four; obtain ⟨r0, r1, r2, r3⟩ := (HF7.out.v.below hSw).four; obtain ⟨s0, s1, s2, s3⟩ := (HF7.out.w.below hSw).four; have sb := (HF7.out.bad hSw); clear hSw; go_simp; first | done | with_reducible rfl)
              try simp only [Act.put, List.setIfInBounds_toArray, List.set_cons_zero, List.set_cons_succ]
              refine wpAnyH_take (i := 9) (oi := ?_) (v := ?_) (by simp only [List.getElem?_toArray, List.getElem?_cons_zero, List.getElem?_cons_succ]; rfl) (by kernel_rfl) (by kernel_rfl) (by kernel_rfl) (by exact fun _ _ _ h => h) (Or.inl ⟨by rfl, ?_⟩) (by assumption) ?_
              rotate_left
              · (intro w hSw; (try dsimp only at hSw); obtain ⟨p0, p1, p2, p3⟩ := (HF7.out.p.below hSw).four; obtain ⟨q0, q1, q2, q3⟩ := (HF7.out.q.below hSw).four; obtain ⟨r0, r1, r2, r3⟩ := (HF7.out.v.below hSw).four; obtain ⟨s0, s1, s2, s3⟩ := (HF7.out.w.below hSw).four; have sb := (HF7.out.bad hSw); clear hSw; go_simp; first | done | with_reducible rfl)
              try simp only [Act.put, List.setIfInBounds_toArray, List.set_cons_zero, List.set_cons_succ]
              refine wpAnyH_take (i := 10) (oi := ?_) (v := ?_) (by simp only [List.getElem?_toArray, List.getElem?_cons_zero, List.getElem?_cons_succ]; rfl) (by kernel_rfl) (by kernel_rfl) (by kernel_rfl) (by exact fun _ _ _ h => h) (Or.inl ⟨by rfl, ?_⟩) (by assumption) ?_
              rotate_left
              · (intro w hSw; (try dsimp only at hSw); obtain ⟨p0, p1, p2, p3⟩ := (HF7.out.p.below hSw).four; obtain ⟨q0, q1, q2, q3⟩ := (HF7.out.q.below hSw).four; obtain ⟨r0, r1, r2, r3⟩ := (HF7.out.v.below hSw).four; obtain ⟨s0, s1, s2, s3⟩ := (HF7.out.w.below hSw).four; have sb := (HF7.out.bad hSw); clear hSw; go_simp; first | done | with_reducible rfl)
              try simp only [Act.put, List.setIfInBounds_toArray, List.set_cons_zero, List.set_cons_succ]
              refine wpAnyH_take (i := 11) (oi := ?_) (v := ?_) (by simp only [List.getElem?_toArray, List.getElem?_cons_zero, List.getElem?_cons_succ]; rfl) (by kernel_rfl) (by kernel_rfl) (by kernel_rfl) (by exact fun _ _ _ h => h) (Or.inl ⟨by rfl, ?_⟩) (by assumption) ?_
              rotate_left
              · (intro w hSw; (try dsimp only at hSw); obtain ⟨p0, p1, p2, p3⟩ := (HF7.out.p.below hSw).four; obtain ⟨q0, q1, q2, q3⟩ := (HF7.out.q.below hSw).four; obtain ⟨r0, r1, r2, r3⟩ := (HF7.out.v.below hSw).four; obtain ⟨s0, s1, s2, s3⟩ := (HF7.out.w.below hSw).four; have sb := (HF7.out.bad hSw); clear hSw; go_simp; first | done | with_reducible rfl)
              try simp only [Act.put, List.setIfInBounds_toArray, List.set_cons_zero, List.set_cons_succ]
              refine wpAnyH_take (i := 12) (oi := ?_) (v := ?_) (by simp only [List.getElem?_toArray, List.getElem?_cons_zero, List.getElem?_cons_succ]; rfl) (by kernel_rfl) (by kernel_rfl) (by kernel_rfl) (by exact fun _ _ _ h => h) (Or.inl ⟨by rfl, ?_⟩) (by assumption) ?_
              rotate_left
              · (intro w hSw; (try dsimp only at hSw); obtain ⟨p0, p1, p2, p3⟩ := (HF7.out.p.below hSw).four; obtain ⟨q0, q1, q2, q3⟩ := (HF7.out.q.below hSw).four; obtain ⟨r0, r1, r2, r3⟩ := (HF7.out.v.below hSw).four; obtain ⟨s0, s1, s2, s3⟩ := (HF7.out.w.below hSw).four; have sb := (HF7.out.bad hSw); clear hSw; go_simp; first | done | with_reducible rfl)
              try simp only [Act.put, List.setIfInBounds_toArray, List.set_cons_zero, List.set_cons_succ]
              refine wpAnyH_take (i := 13) (oi := ?_) (v := ?_) (by simp only [List.getElem?_toArray, List.getElem?_cons_zero, List.getElem?_cons_succ]; rfl) (by kernel_rfl) (by kernel_rfl) (by kernel_rfl) (by exact fun _ _ _ h => h) (Or.inl ⟨by rfl, ?_⟩) (by assumption) ?_
              rotate_left
              · (intro w hSw; (try dsimp only at hSw); obtain ⟨p0, p1, p2, p3⟩ := (HF7.out.p.below hSw).four; obtain ⟨q0, q1, q2, q3⟩ := (HF7.out.q.below hSw).four; obtain ⟨r0, r1, r2, r3⟩ := (HF7.out.v.below hSw).four; obtain ⟨s0, s1, s2, s3⟩ := (HF7.out.w.below hSw).four; have sb := (HF7.out.bad hSw); clear hSw; go_simp; first | done | with_reducible rfl)
              try simp only [Act.put, List.setIfInBounds_toArray, List.set_cons_zero, List.set_cons_succ]
              refine wpAnyH_take (i := 14) (oi := ?_) (v := ?_) (by simp only [List.getElem?_toArray, List.getElem?_cons_zero, List.getElem?_cons_succ]; rfl) (by kernel_rfl) (by kernel_rfl) (by kernel_rfl) (by exact fun _ _ _ h => h) (Or.inl ⟨by rfl, ?_⟩) (by assumption) ?_
              rotate_left
              · (intro w hSw; (try dsimp only at hSw); obtain ⟨p0, p1, p2, p3⟩ := (HF7.out.p.below hSw).four; obtain ⟨q0, q1, q2, q3⟩ := (HF7.out.q.below hSw).four; obtain ⟨r0, r1, r2, r3⟩ := (HF7.out.v.below hSw).four; obtain ⟨s0, s1, s2, s3⟩ := (HF7.out.w.below hSw).four; have sb := (HF7.out.bad hSw); clear hSw; go_simp; first | done | with_reducible rfl)
              try simp only [Act.put, List.setIfInBounds_toArray, List.set_cons_zero, List.set_cons_succ]
              refine wpAnyH_take (i := 15) (oi := ?_) (v := ?_) (by simp only [List.getElem?_toArray, List.getElem?_cons_zero, List.getElem?_cons_succ]; rfl) (by kernel_rfl) (by kernel_rfl) (by kernel_rfl) (by exact fun _ _ _ h => h) (Or.inl ⟨by rfl, ?_⟩) (by assumption) ?_
              rotate_left
              · (intro w hSw; (try dsimp only at hSw); obtain ⟨p0, p1, p2, p3⟩ := (HF7.out.p.below hSw).four; obtain ⟨q0, q1, q2, q3⟩ := (HF7.out.q.below hSw).four; obtain ⟨r0, r1, r2, r3⟩ := (HF7.out.v.below hSw).four; obtain ⟨s0, s1, s2, s3⟩ := (HF7.out.w.below hSw).four; have sb := (HF7.out.bad hSw); clear hSw; go_simp; first | done | with_reducible rfl)
              try simp only [Act.put, List.setIfInBounds_toArray, List.set_cons_zero, List.set_cons_succ]
              refine wpAnyH_take (i := 16) (oi := ?_) (v := ?_) (by simp only [List.getElem?_toArray, List.getElem?_cons_zero, List.getElem?_cons_succ]; rfl) (by kernel_rfl) (by kernel_rfl) (by kernel_rfl) (by exact fun _ _ _ h => h) (Or.inl ⟨by rfl, ?_⟩) (by assumption) ?_
              rotate_left
              · (intro w hSw; (try dsimp only at hSw); obtain ⟨p0, p1, p2, p3⟩ := (HF7.out.p.below hSw).four; obtain ⟨q0, q1, q2, q3⟩ := (HF7.out.q.below hSw).four; obtain ⟨r0, r1, r2, r3⟩ := (HF7.out.v.below hSw).four; obtain ⟨s0, s1, s2, s3⟩ := (HF7.out.w.below hSw).four; have sb := (HF7.out.bad hSw); clear hSw; go_simp; first | done | with_reducible rfl)
              try simp only [Act.put, List.setIfInBounds_toArray, List.set_cons_zero, List.set_cons_succ]
              refine wpAnyH_ready (rs := [17]) (by kernel_rfl) (by simp) ?_
              refine AllReadyH.cons (o := ?_) (by simp only [List.getElem?_toArray, List.getElem?_cons_zero, List.getElem?_cons_succ]; rfl) (fun K hK => ?_) ?_
              · go_simp
                (with_reducible refine (qsame_any _ _ v v _ (HF7.out.v.below hHeld).tx (HF7.out.w.below hHeld).tx).mono ?_)
                rintro e w21 ⟨he, hb⟩
                rw [decide_eq_true rfl] at he
                subst he
                have hS2 := hHeld.trans (hb.mono hHeld.size)
                clear hb
                dsimp only
                refine hK.out _ _ ?_ (fun hHeld2 => ?_)
                · exact hS2
                clear hK K hHeld
                have hHeld := hHeld2
                clear hHeld2
                try simp only [Act.put, List.setIfInBounds_toArray, List.set_cons_zero, List.set_cons_succ]
                refine wpAnyH_take (i := 18) (oi := ?_) (v := ?_) (by simp only [List.getElem?_toArray, List.getElem?_cons_zero, List.getElem?_cons_succ]; rfl) (by kernel_rfl) (by kernel_rfl) (by kernel_rfl) (by exact fun _ _ _ h => h) (Or.inl ⟨by rfl, ?_⟩) (by assumption) ?_
                rotate_left
                · (intro w hSw; (try dsimp only at hSw); obtain ⟨p0, p1, p2, p3⟩ := (HF7.out.p.below hSw).four; obtain ⟨q0, q1, q2, q3⟩ := (HF7.out.q.below hSw).four; obtain ⟨r0, r1, r2, r3⟩ := (HF7.out.v.below hSw).four; obtain ⟨s0, s1, s2, s3⟩ := (HF7.out.w.below hSw).four; have sb := (HF7.out.bad hSw); clear hSw; go_simp; first | done | with_reducible rfl)
                try simp only [Act.put, List.setIfInBounds_toArray, List.set_cons_zero, List.set_cons_succ]
                refine wpAnyH_take (i := 19) (oi := ?_) (v := ?_) (by simp only [List.getElem?_toArray, List.getElem?_cons_zero, List.getElem?_cons_succ]; rfl) (by kernel_rfl) (by kernel_rfl) (by kernel_rfl) (by exact fun _ _ _ h => h) (Or.inl ⟨by rfl, ?_⟩) (by assumption) ?_
                rotate_left
                · (intro w hSw; (try dsimp only at hSw); obtain ⟨p0, p1, p2, p3⟩ := (HF7.out.p.below hSw).four; obtain ⟨q0, q1, q2, q3⟩ := (HF7.out.q.below hSw).four; obtain ⟨r0, r1, r2, r3⟩ := (HF7.out.v.below hSw).four; obtain ⟨s0, s1, s2, s3⟩ := (HF7.out.w.below hSw).four; have sb := (HF7.out.bad hSw); clear hSw; go_simp; first | done | with_reducible rfl)
                try simp only [Act.put, List.setIfInBounds_toArray, List.set_cons_zero, List.set_cons_succ]
                refine wpAnyH_take (i := 20) (oi := ?_) (v := ?_) (by simp only [List.getElem?_toArray, List.getElem?_cons_zero, List.getElem?_cons_succ]; rfl) (by kernel_rfl) (by kernel_rfl) (by kernel_rfl) (by exact fun _ _ _ h => h) (Or.inl ⟨by rfl, ?_⟩) (by assumption) ?_
                rotate_left
                · (intro w hSw; (try dsimp only at hSw); obtain ⟨p0, p1, p2, p3⟩ := (HF7.out.p.below hSw).four; obtain ⟨q0, q1, q2, q3⟩ := (HF7.out.q.below hSw).four; obtain ⟨r0, r1, r2, r3⟩ := (HF7.out.v.below hSw).four; obtain ⟨s0, s1, s2, s3⟩ := (HF7.out.w.below hSw).four; have sb := (HF7.out.bad hSw); clear hSw; go_simp; first | done | with_reducible rfl)
                try simp only [Act.put, List.setIfInBounds_toArray, List.set_cons_zero, List.set_cons_succ]
                refine wpAnyH_take (i := 21) (oi := ?_) (v := ?_) (by simp only [List.getElem?_toArray, List.getElem?_cons_zero, List.getElem?_cons_succ]; rfl) (by kernel_rfl) (by kernel_rfl) (by kernel_rfl) (by exact fun _ _ _ h => h) (Or.inl ⟨by rfl, ?_⟩) (by assumption) ?_
                rotate_left
                · (intro w hSw; (try dsimp only at hSw); obtain ⟨p0, p1, p2, p3⟩ := (HF7.out.p.below hSw).four; obtain ⟨q0, q1, q2, q3⟩ := (HF7.out.q.below hSw).four; obtain ⟨r0, r1, r2, r3⟩ := (HF7.out.v.below hSw).four; obtain ⟨s0, s1, s2, s3⟩ := (HF7.out.w.below hSw).four; have sb := (HF7.out.bad hSw); clear hSw; go_simp; first | done | with_reducible rfl)
                try simp only [Act.put, List.setIfInBounds_toArray, List.set_cons_zero, List.set_cons_succ]
                refine wpAnyH_take (i := 23) (oi := ?_) (v := ?_) (by simp only [List.getElem?_toArray, List.getElem?_cons_zero, List.getElem?_cons_succ]; rfl) (by kernel_rfl) (by kernel_rfl) (by kernel_rfl) (by exact fun _ _ _ h => h) (Or.inl ⟨by rfl, ?_⟩) (by assumption) ?_
                rotate_left
                · (intro w hSw; (try dsimp only at hSw); obtain ⟨p0, p1, p2, p3⟩ := (HF7.out.p.below hSw).four; obtain ⟨q0, q1, q2, q3⟩ := (HF7.out.q.below hSw).four; obtain ⟨r0, r1, r2, r3⟩ := (HF7.out.v.below hSw).four; obtain ⟨s0, s1, s2, s3⟩ := (HF7.out.w.below hSw).four; have sb := (HF7.out.bad hSw); clear hSw; go_simp; first | done | with_reducible rfl)
                try simp only [Act.put, List.setIfInBounds_toArray, List.set_cons_zero, List.set_cons_succ]
                refine wpAnyH_take (i := 24) (oi := ?_) (v := ?_) (by simp only [List.getElem?_toArray, List.getElem?_cons_zero, List.getElem?_cons_succ]; rfl) (by kernel_rfl) (by kernel_rfl) (by kernel_rfl) (by exact fun _ _ _ h => h) (Or.inl ⟨by rfl, ?_⟩) (by assumption) ?_
                rotate_left
                · (intro w hSw; (try dsimp only at hSw); obtain ⟨p0, p1, p2, p3⟩ := (HF7.out.p.below hSw).four; obtain ⟨q0, q1, q2, q3⟩ := (HF7.out.q.below hSw).four; obtain ⟨r0, r1, r2, r3⟩ := (HF7.out.v.below hSw).four; obtain ⟨s0, s1, s2, s3⟩ := (HF7.out.w.below hSw).four; have sb := (HF7.out.bad hSw); clear hSw; go_simp; first | done | with_reducible rfl)
                try simp only [Act.put, List.setIfInBounds_toArray, List.set_cons_zero, List.set_cons_succ]
                refine wpAnyH_take (i := 25) (oi := ?_) (v := ?_) (by simp only [List.getElem?_toArray, List.getElem?_cons_zero, List.getElem?_cons_succ]; rfl) (by kernel_rfl) (by kernel_rfl) (by kernel_rfl) (by exact fun _ _ _ h => h) (Or.inl ⟨by rfl, ?_⟩) (by assumption) ?_
                rotate_left
                · (intro w hSw; (try dsimp only at hSw); obtain ⟨p0, p1, p2, p3⟩ := (HF7.out.p.below hSw).four; obtain ⟨q0, q1, q2, q3⟩ := (HF7.out.q.below hSw).four; obtain ⟨r0, r1, r2, r3⟩ := (HF7.out.v.below hSw).four; obtain ⟨s0, s1, s2, s3⟩ := (HF7.out.w.below hSw).four; have sb := (HF7.out.bad hSw); clear hSw; go_simp; first | done | with_reducible rfl)
                try simp only [Act.put, List.setIfInBounds_toArray, List.set_cons_zero, List.set_cons_succ]
                refine wpAnyH_take (i := 26) (oi := ?_) (v := ?_) (by simp only [List.getElem?_toArray, List.getElem?_cons_zero, List.getElem?_cons_succ]; rfl) (by kernel_rfl) (by kernel_rfl) (by kernel_rfl) (by exact fun _ _ _ h => h) (Or.inl ⟨by rfl, ?_⟩) (by assumption) ?_
                rotate_left
                · (intro w hSw; (try dsimp only at hSw); obtain ⟨p0, p1, p2, p3⟩ := (HF7.out.p.below hSw).four; obtain ⟨q0, q1, q2, q3⟩ := (HF7.out.q.below hSw).four; obtain ⟨r0, r1, r2, r3⟩ := (HF7.out.v.below hSw).four; obtain ⟨s0, s1, s2, s3⟩ := (HF7.out.w.below hSw).four; have sb := (HF7.out.bad hSw); clear hSw; go_simp; first | done | with_reducible rfl)
                try simp only [Act.put, List.setIfInBounds_toArray, List.set_cons_zero, List.set_cons_succ]
                refine wpAnyH_ready (rs := [22]) (by kernel_rfl) (by simp) ?_
                refine AllReadyH.cons (o := ?_) (by simp only [List.getElem?_toArray, List.getElem?_cons_zero, List.getElem?_cons_succ]; rfl) (fun K hK => ?_) ?_
                · go_simp
                  (with_reducible refine (ok_to B l1 true _ (r := false) rfl (HF7.out.r.below hHeld)).mono ?_)
                  rintro e w22 ⟨rfl, hb⟩
                  subst hb
                  have hS2 := hHeld
                  dsimp only
                  refine hK.out _ _ ?_ (fun hHeld2 => ?_)
                  · exact hS2
                  clear hK K hHeld
                  have hHeld := hHeld2
                  clear hHeld2
                  try simp only [Act.put, List.setIfInBounds_toArray, List.set_cons_zero, List.set_cons_succ]
                  refine wpAnyH_take (i := 27) (oi := ?_) (v := ?_) (by simp only [List.getElem?_toArray, List.getElem?_cons_zero, List.getElem?_cons_succ]; rfl) (by kernel_rfl) (by kernel_rfl) (by kernel_rfl) (by exact fun _ _ _ h => h) (Or.inl ⟨by rfl, ?_⟩) (by assumption) ?_
                  rotate_left
                  · (intro w hSw; (try dsimp only at hSw); obtain ⟨p0, p1, p2, p3⟩ := (HF7.out.p.below hSw).four; obtain ⟨q0, q1, q2, q3⟩ := (HF7.out.q.below hSw).four; obtain ⟨r0, r1, r2, r3⟩ := (HF7.out.v.below hSw).four; obtain ⟨s0, s1, s2, s3⟩ := (HF7.out.w.below hSw).four; have sb := (HF7.out.bad hSw); clear hSw; go_simp; first | done | with_reducible rfl)
                  try simp only [Act.put, List.setIfInBounds_toArray, List.set_cons_zero, List.set_cons_succ]
                  refine wpAnyH_take (i := 28) (oi := ?_) (v := ?_) (by simp only [List.getElem?_toArray, List.getElem?_cons_zero, List.getElem?_cons_succ]; rfl) (by kernel_rfl) (by kernel_rfl) (by kernel_rfl) (by exact fun _ _ _ h => h) (Or.inl ⟨by rfl, ?_⟩) (by assumption) ?_
                  rotate_left
                  · (intro w hSw; (try dsimp only at hSw); obtain ⟨p0, p1, p2, p3⟩ := (HF7.out.p.below hSw).four; obtain ⟨q0, q1, q2, q3⟩ := (HF7.out.q.below hSw).four; obtain ⟨r0, r1, r2, r3⟩ := (HF7.out.v.below hSw).four; obtain ⟨s0, s1, s2, s3⟩ := (HF7.out.w.below hSw).four; have sb := (HF7.out.bad hSw); clear hSw; go_simp; first | done | with_reducible rfl)
                  try simp only [Act.put, List.setIfInBounds_toArray, List.set_cons_zero, List.set_cons_succ]
                  refine wpAnyH_take (i := 29) (oi := ?_) (v := ?_) (by simp only [List.getElem?_toArray, List.getElem?_cons_zero, List.getElem?_cons_succ]; rfl) (by kernel_rfl) (by kernel_rfl) (by kernel_rfl) (by exact fun _ _ _ h => h) (Or.inl ⟨by rfl, ?_⟩) (by assumption) ?_
                  rotate_left
                  · (intro w hSw; (try dsimp only at hSw); obtain ⟨p0, p1, p2, p3⟩ := (HF7.out.p.below hSw).four; obtain ⟨q0, q1, q2, q3⟩ := (HF7.out.q.below hSw).four; obtain ⟨r0, r1, r2, r3⟩ := (HF7.out.v.below hSw).four; obtain ⟨s0, s1, s2, s3⟩ := (HF7.out.w.below hSw).four; have sb := (HF7.out.bad hSw); clear hSw; go_simp; first | done | with_reducible rfl)
                  try simp only [Act.put, List.setIfInBounds_toArray, List.set_cons_zero, List.set_cons_succ]
                  refine wpAnyH_take (i := 30) (oi := ?_) (v := ?_) (by simp only [List.getElem?_toArray, List.getElem?_cons_zero, List.getElem?_cons_succ]; rfl) (by kernel_rfl) (by kernel_rfl) (by kernel_rfl) (by exact fun _ _ _ h => h) (Or.inl ⟨by rfl, ?_⟩) (by assumption) ?_
                  rotate_left
                  · (intro w hSw; (try dsimp only at hSw); obtain ⟨p0, p1, p2, p3⟩ := (HF7.out.p.below hSw).four; obtain ⟨q0, q1, q2, q3⟩ := (HF7.out.q.below hSw).four; obtain ⟨r0, r1, r2, r3⟩ := (HF7.out.v.below hSw).four; obtain ⟨s0, s1, s2, s3⟩ := (HF7.out.w.below hSw).four; have sb := (HF7.out.bad hSw); clear hSw; go_simp; first | done | with_reducible rfl)
                  try simp only [Act.put, List.setIfInBounds_toArray, List.set_cons_zero, List.set_cons_succ]
                  refine wpAnyH_take (i := 31) (oi := ?_) (v := ?_) (by simp only [List.getElem?_toArray, List.getElem?_cons_zero, List.getElem?_cons_succ]; rfl) (by kernel_rfl) (by kernel_rfl) (by kernel_rfl) (by exact fun _ _ _ h => h) (Or.inl ⟨by rfl, ?_⟩) (by assumption) ?_
                  rotate_left
                  · (intro w hSw; (try dsimp only at hSw); obtain ⟨p0, p1, p2, p3⟩ := (HF7.out.p.below hSw).four; obtain ⟨q0, q1, q2, q3⟩ := (HF7.out.q.below hSw).four; obtain ⟨r0, r1, r2, r3⟩ := (HF7.out.v.below hSw).four; obtain ⟨s0, s1, s2, s3⟩ := (HF7.out.w.below hSw).four; have sb := (HF7.out.bad hSw); clear hSw; go_simp; first | done | with_reducible rfl)
                  try simp only [Act.put, List.setIfInBounds_toArray, List.set_cons_zero, List.set_cons_succ]
                  refine wpAnyH_take (i := 32) (oi := ?_) (v := undef) (by simp only [List.getElem?_toArray, List.getElem?_cons_zero, List.getElem?_cons_succ]; rfl) (by kernel_rfl) (by kernel_rfl) (by kernel_rfl) (by exact fun _ _ _ h => h) (Or.inr ⟨by rfl, rfl⟩) (by assumption) ?_
                  try simp only [Act.put, List.setIfInBounds_toArray, List.set_cons_zero, List.set_cons_succ]
                  refine wpAnyH_take (i := 33) (oi := ?_) (v := undef) (by simp only [List.getElem?_toArray, List.getElem?_cons_zero, List.getElem?_cons_succ]; rfl) (by kernel_rfl) (by kernel_rfl) (by kernel_rfl) (by exact fun _ _ _ h => h) (Or.inr ⟨by rfl, rfl⟩) (by assumption) ?_
                  try simp only [Act.put, List.setIfInBounds_toArray, List.set_cons_zero, List.set_cons_succ]
                  refine wpAnyH_take (i := 34) (oi := ?_) (v := undef) (by simp only [List.getElem?_toArray, List.getElem?_cons_zero, List.getElem?_cons_succ]; rfl) (by kernel_rfl) (by kernel_rfl) (by kernel_rfl) (by exact fun _ _ _ h => h) (Or.inr ⟨by rfl, rfl⟩) (by assumption) ?_
                  try simp only [Act.put, List.setIfInBounds_toArray, List.set_cons_zero, List.set_cons_succ]
                  refine wpAnyH_take (i := 35) (oi := ?_) (v := undef) (by simp only [List.getElem?_toArray, List.getElem?_cons_zero, List.getElem?_cons_succ]; rfl) (by kernel_rfl) (by kernel_rfl) (by kernel_rfl) (by exact fun _ _ _ h => h) (Or.inr ⟨by rfl, rfl⟩) (by assumption) ?_
                  try simp only [Act.put, List.setIfInBounds_toArray, List.set_cons_zero, List.set_cons_succ]
                  refine wpAnyH_take (i := 36) (oi := ?_) (v := undef) (by simp only [List.getElem?_toArray, List.getElem?_cons_zero, List.getElem?_cons_succ]; rfl) (by kernel_rfl) (by kernel_rfl) (by kernel_rfl) (by exact fun _ _ _ h => h) (Or.inr ⟨by rfl, rfl⟩) (by assumption) ?_
                  try simp only [Act.put, List.setIfInBounds_toArray, List.set_cons_zero, List.set_cons_succ]
                  refine wpAnyH_take (i := 37) (oi := ?_) (v := ?_) (by simp only [List.getElem?_toArray, List.getElem?_cons_zero, List.getElem?_cons_succ]; rfl) (by kernel_rfl) (by kernel_rfl) (by kernel_rfl) (by exact fun _ _ _ h => h) (Or.inl ⟨by rfl, ?_⟩) (by assumption) ?_
                  rotate_left
                  · (intro w hSw; (try dsimp only at hSw); obtain ⟨p0, p1, p2, p3⟩ := (HF7.out.p.below hSw).four; obtain ⟨q0, q1, q2, q3⟩ := (HF7.out.q.below hSw).four; obtain ⟨r0, r1, r2, r3⟩ := (HF7.out.v.below hSw).four; obtain ⟨s0, s1, s2, s3⟩ := (HF7.out.w.below hSw).four; have sb := (HF7.out.bad hSw); clear hSw; go_simp; first | done | with_reducible rfl)
                  try simp only [Act.put, List.setIfInBounds_toArray, List.set_cons_zero, List.set_cons_succ]
                  refine wpAnyH_take (i := 38) (oi := ?_) (v := ?_) (by simp only [List.getElem?_toArray, List.getElem?_cons_zero, List.getElem?_cons_succ]; rfl) (by kernel_rfl) (by kernel_rfl) (by kernel_rfl) (by exact fun _ _ _ h => h) (Or.inl ⟨by rfl, ?_⟩) (by assumption) ?_
                  rotate_left
                  · (intro w hSw; (try dsimp only at hSw); obtain ⟨p0, p1, p2, p3⟩ := (HF7.out.p.below hSw).four; obtain ⟨q0, q1, q2, q3⟩ := (HF7.out.q.below hSw).four; obtain ⟨r0, r1, r2, r3⟩ := (HF7.out.v.below hSw).four; obtain ⟨s0, s1, s2, s3⟩ := (HF7.out.w.below hSw).four; have sb := (HF7.out.bad hSw); clear hSw; go_simp; first | done | with_reducible rfl)
                  try simp only [Act.put, List.setIfInBounds_toArray, List.set_cons_zero, List.set_cons_succ]
                  refine wpAnyH_done (by kernel_rfl) ?_ _
                  have HW := As.mk (HF7.out.below.trans (hHeld.mono HF7.out.below.size))
                  clear hHeld
                  go_wp2
                  go_roundw
                  case rel => exact ⟨k + 1, by omega, by go_num, ⟨HE.out.1.below HW.out, HE.out.2.trans (HW.out.mono HE.out.2.size)⟩⟩
                  case measure => simp [intOf]; omega
                exact AllReadyH.nil
              exact AllReadyH.nil
            exact AllReadyH.nil
        · have hke : k = 6 := by omega
          subst hke
          go_wp2_with (go_at_call 50; (with_reducible refine (awake3_any _).mono ?_); rintro e w9 ⟨rfl, hb⟩; have HB9 := As.mk (HE.out.2.trans (hb.mono HE.out.2.size)); clear hb)
          go_ret
          exact ⟨rfl, HB9.out⟩
end Go.Proofs.Ytfggkljgfadacaa.W
