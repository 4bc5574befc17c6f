/- StatWeight: a transaction weighs as much as may be, and no more, by whatever it weighs. -/
import Derived.Test.YtfggkljgfadacaaSE
import Derived.Test.YtfggkljgfadacaaDA
set_option linter.unusedVariables false
set_option linter.unusedSimpArgs false
namespace Go.Proofs.Ytfggkljgfadacaa.W
open Go.RowKit Go.Proofs.Ytfggkljgfadacaa.B Go.Proofs

set_option maxHeartbeats 1000000 in
set_option maxRecDepth 100000 in
theorem qweight_any (cs : List Value) (t : LTx) (w : World) {n : Nat} (hq : weightT t = n) (hr : TxC w cs t) :
    Calls Try.prog 45 #[.agg cs.toArray] w fun e w' => e = .returned (.int .i64 (n : Int)) ∧ Below w.heap.size w w' := by
  have hf := hr.fit
  have hl1 := baseT_bound hf
  have hl2 := bytesT_bound hf
  obtain ⟨AI, cI, AO, cO, rfl⟩ := hr.four
  have HTX := As.mk hr
  obtain ⟨L1, hL1⟩ : ∃ L, (baseT t).length = L := ⟨_, rfl⟩
  obtain ⟨L2, hL2⟩ : ∃ L, (bytesT t).length = L := ⟨_, rfl⟩
  have HL1 := As.mk hL1
  have HL2 := As.mk hL2
  have hn : n = 3 * L1 + L2 := by rw [← hq, ← hL1, ← hL2]; rfl
  rw [hL1] at hl1
  rw [hL2] at hl2
  obtain ⟨M3, hM3⟩ : ∃ m : Int, m = 3 * (L1 : Int) := ⟨_, rfl⟩
  have e1 : IntKind.i64.wrap (3 * (L1 : Int)) = M3 := by rw [IntWalk.i64_in _ (by omega)]; exact hM3.symm
  have e2 : IntKind.i64.wrap (M3 + (L2 : Int)) = (n : Int) := by rw [IntWalk.i64_in _ (by omega)]; omega
  clear hr hq hf hL1 hL2 hl1 hl2 hn hM3
  go_enter Try.func45, Try.ntmps45
  go_upto_region 1 with fail
  have HX : As (BxT (w.alloc (.cells #[.int .u32 (t.ver : Int), .slice AI t.ins.length cI, .slice AO t.outs.length cO, .int .u32 (t.lock : Int)] 51)) w.heap.size [.int .u32 (t.ver : Int), .slice AI t.ins.length cI, .slice AO t.outs.length cO, .int .u32 (t.lock : Int)] t) := ⟨BxT.new HTX.out⟩
  have HB : As (Below w.heap.size w (w.alloc (.cells #[.int .u32 (t.ver : Int), .slice AI t.ins.length cI, .slice AO t.outs.length cO, .int .u32 (t.lock : Int)] 51))) := ⟨below_al _ _⟩
  change Code.wp _ _ _ _ (w.alloc (.cells #[.int .u32 (t.ver : Int), .slice AI t.ins.length cI, .slice AO t.outs.length cO, .int .u32 (t.lock : Int)] 51))
  generalize w.alloc (.cells #[.int .u32 (t.ver : Int), .slice AI t.ins.length cI, .slice AO t.outs.length cO, .int .u32 (t.lock : Int)] 51) = W at HX HB ⊢
  refine wp_region_held_drew (S := (fun V : World => Below W.heap.size W V)) (by kernel_rfl) ?_ (fun hHeld => ?_)
  · exact below_dr W
  refine wpAnyH_take (i := 0) (oi := ?_) (v := ?_) (by simp only [List.getElem?_toArray, List.getElem?_cons_zero, List.getElem?_cons_succ]; rfl) (by kernel_rfl) (by kernel_rfl) (by kernel_rfl) (by exact fun _ _ _ h => h) (Or.inl ⟨by rfl, ?_⟩) (by assumption) ?_
  rotate_left
  · (intro w hSw; (try dsimp only at hSw); obtain ⟨q0, q1, q2, q3⟩ := (HX.out.below hSw).four; clear hSw; go_simp; first | done | with_reducible rfl)
  try simp only [Act.put, List.setIfInBounds_toArray, List.set_cons_zero, List.set_cons_succ]
  refine wpAnyH_take (i := 4) (oi := ?_) (v := ?_) (by simp only [List.getElem?_toArray, List.getElem?_cons_zero, List.getElem?_cons_succ]; rfl) (by kernel_rfl) (by kernel_rfl) (by kernel_rfl) (by exact fun _ _ _ h => h) (Or.inl ⟨by rfl, ?_⟩) (by assumption) ?_
  rotate_left
  · (intro w hSw; (try dsimp only at hSw); obtain ⟨q0, q1, q2, q3⟩ := (HX.out.below hSw).four; clear hSw; go_simp; first | done | with_reducible rfl)
  try simp only [Act.put, List.setIfInBounds_toArray, List.set_cons_zero, List.set_cons_succ]
  refine wpAnyH_ready (rs := [1]) (by kernel_rfl) (by simp) ?_
  refine AllReadyH.cons (o := ?_) (by simp only [List.getElem?_toArray, List.getElem?_cons_zero, List.getElem?_cons_succ]; rfl) (fun K hK => ?_) ?_
  · go_simp
    refine (qbase_any _ t _ (HX.out.below hHeld).tx).mono ?_
    rintro e w2 ⟨r2, rfl, ho, hb⟩
    obtain ⟨A2, c2, rfl⟩ := RdB.formN (n := L1) ho.rd HL1.out
    have hS2 := hHeld.trans (hb.mono hHeld.size)
    clear ho hb
    dsimp only
    refine hK.out _ _ ?_ (fun hHeld2 => ?_)
    · exact hS2
    clear hK K hHeld
    have hHeld := hHeld2
    clear hHeld2
    try simp only [Act.put, List.setIfInBounds_toArray, List.set_cons_zero, List.set_cons_succ]
    refine wpAnyH_take (i := 2) (oi := ?_) (v := ?_) (by simp only [List.getElem?_toArray, List.getElem?_cons_zero, List.getElem?_cons_succ]; rfl) (by kernel_rfl) (by kernel_rfl) (by kernel_rfl) (by exact fun _ _ _ h => h) (Or.inl ⟨by rfl, ?_⟩) (by assumption) ?_
    rotate_left
    · (intro w hSw; (try dsimp only at hSw); obtain ⟨q0, q1, q2, q3⟩ := (HX.out.below hSw).four; clear hSw; go_simp; first | done | with_reducible rfl)
    try simp only [Act.put, List.setIfInBounds_toArray, List.set_cons_zero, List.set_cons_succ]
    refine wpAnyH_take (i := 3) (oi := ?_) (v := ?_) (by simp only [List.getElem?_toArray, List.getElem?_cons_zero, List.getElem?_cons_succ]; rfl) (by kernel_rfl) (by kernel_rfl) (by kernel_rfl) (by exact fun _ _ _ h => h) (Or.inl ⟨by rfl, ?_⟩) (by assumption) ?_
    rotate_left
    · (intro w hSw; (try dsimp only at hSw); obtain ⟨q0, q1, q2, q3⟩ := (HX.out.below hSw).four; clear hSw; go_simp; first | done | with_reducible rfl)
    try simp only [Act.put, List.setIfInBounds_toArray, List.set_cons_zero, List.set_cons_succ]
    refine wpAnyH_ready (rs := [5]) (by kernel_rfl) (by simp) ?_
    refine AllReadyH.cons (o := ?_) (by simp only [List.getElem?_toArray, List.getElem?_cons_zero, List.getElem?_cons_succ]; rfl) (fun K hK => ?_) ?_
    · go_simp
      refine (qbytes_any _ t _ (HX.out.below hHeld).tx).mono ?_
      rintro e w3 ⟨r3, rfl, ho, hb⟩
      obtain ⟨A3, c3, rfl⟩ := RdB.formN (n := L2) ho.rd HL2.out
      have hS2 := hHeld.trans (hb.mono hHeld.size)
      clear ho hb
      dsimp only
      refine hK.out _ _ ?_ (fun hHeld2 => ?_)
      · exact hS2
      clear hK K hHeld
      have hHeld := hHeld2
      clear hHeld2
      try simp only [Act.put, List.setIfInBounds_toArray, List.set_cons_zero, List.set_cons_succ]
      refine wpAnyH_take (i := 6) (oi := ?_) (v := ?_) (by simp only [List.getElem?_toArray, List.getElem?_cons_zero, List.getElem?_cons_succ]; rfl) (by kernel_rfl) (by kernel_rfl) (by kernel_rfl) (by exact fun _ _ _ h => h) (Or.inl ⟨by rfl, ?_⟩) (by assumption) ?_
      rotate_left
      · (intro w hSw; (try dsimp only at hSw); obtain ⟨q0, q1, q2, q3⟩ := (HX.out.below hSw).four; clear hSw; go_simp; first | done | with_reducible rfl)
      try simp only [Act.put, List.setIfInBounds_toArray, List.set_cons_zero, List.set_cons_succ]
      refine wpAnyH_take (i := 7) (oi := ?_) (v := ?_) (by simp only [List.getElem?_toArray, List.getElem?_cons_zero, List.getElem?_cons_succ]; rfl) (by kernel_rfl) (by kernel_rfl) (by kernel_rfl) (by exact fun _ _ _ h => h) (Or.inl ⟨by rfl, ?_⟩) (by assumption) ?_
      rotate_left
      · (intro w hSw; (try dsimp only at hSw); obtain ⟨q0, q1, q2, q3⟩ := (HX.out.below hSw).four; clear hSw; go_simp; first | done | with_reducible rfl)
      try simp only [Act.put, List.setIfInBounds_toArray, List.set_cons_zero, List.set_cons_succ]
      refine wpAnyH_take (i := 8) (oi := ?_) (v := ?_) (by simp only [List.getElem?_toArray, List.getElem?_cons_zero, List.getElem?_cons_succ]; rfl) (by kernel_rfl) (by kernel_rfl) (by kernel_rfl) (by exact fun _ _ _ h => h) (Or.inl ⟨by rfl, ?_⟩) (by assumption) ?_
      rotate_left
      · (intro w hSw; (try dsimp only at hSw); obtain ⟨q0, q1, q2, q3⟩ := (HX.out.below hSw).four; clear hSw; go_simp; first | done | with_reducible rfl)
      try simp only [Act.put, List.setIfInBounds_toArray, List.set_cons_zero, List.set_cons_succ]
      refine wpAnyH_done (by kernel_rfl) ?_ _
      have HH := As.mk (HB.out.trans (hHeld.mono HB.out.size))
      clear hHeld
      go_wp2
      go_ret
      exact ⟨rfl, HH.out⟩
    exact AllReadyH.nil
  exact AllReadyH.nil
/-- An input that is one's own, whose witness row others may share. -/
def EW (base : Nat) (w : World) (own : Option Nat) (cs : List Value) (x : LIn) : Prop :=
  ∃ sv wv, cs = x.prev.map u8v ++ [.int .u32 (x.vout : Int), sv, .int .u32 (x.seq : Int), wv] ∧ x.prev.length = 32 ∧ OwB w base 5 sv x.script ∧ OwW w base wv x.wit ∧ x.vout < 4294967296 ∧ x.seq < 4294967296
theorem EW.of {base : Nat} {w : World} {own own' : Option Nat} {cs : List Value} {x : LIn} (h : InE base w own cs x) : EW base w own' cs x := by
  obtain ⟨sv, wv, h1, h2, h3, h4, h5⟩ := h
  exact ⟨sv, wv, h1, h2, h3.1, h4.row, h5⟩
theorem EW.apart {base : Nat} {w w' : World} {row : Option Nat} {k : TypeId} (hg : w.grownBy w' row) (hk : Kd w row k) (h1 : (24 : TypeId) ≠ k) (h2 : (5 : TypeId) ≠ k) (own own' : Option Nat) : ∀ cs x, EW base w own cs x → EW base w' own' cs x := by
  rintro cs x ⟨sv, wv, e, hl, hs, hw, h⟩
  exact ⟨sv, wv, e, hl, OwS.apartO hs hg hk h2, hw.apartO hg hk h1 h2, h⟩
theorem EW.below {base : Nat} {w w' : World} (hb : Below w.heap.size w w') : ∀ own cs x, EW base w own cs x → EW base w' own cs x := by
  rintro own cs x ⟨sv, wv, e, hl, hs, hw, h⟩
  exact ⟨sv, wv, e, hl, OwS.below hs hb, hw.below hb, h⟩
theorem EW.rd {base : Nat} : ∀ w own cs x, EW base w own cs x → InC w cs x := by
  rintro w own cs x ⟨sv, wv, e, hl, hs, hw, h⟩
  exact ⟨sv, wv, e, hl, hs.rd, hw.rd, h⟩
theorem EW.one {base : Nat} {w : World} {own : Option Nat} : ∀ cs x, EW base w own cs x → ∀ u ∈ cs, u.oneCell' = true := fun cs x h => InC.one (EW.rd _ _ _ _ h)
theorem OutE.apartO {base : Nat} {w w' : World} {row : Option Nat} {k : TypeId} (hg : w.grownBy w' row) (hk : Kd w row k) (h2 : (5 : TypeId) ≠ k) : ∀ own cs y, OutE base w own cs y → OutE base w' own cs y := by
  rintro own cs y ⟨u, e, hu, hv⟩
  exact ⟨u, e, ⟨hu.1.apartO hg hk h2, hu.2⟩, hv⟩
/-- How it stands. -/
def FW (w W : World) (G : Nat) (cs : List Value) (t : LTx) : Prop :=
  Below w.heap.size w W ∧ Box W G cs.toArray 51 ∧ w.heap.size ≤ G ∧ ∃ iv ov, cs = [.int .u32 (t.ver : Int), iv, ov, .int .u32 (t.lock : Int)] ∧ OwG (EW w.heap.size) 55 36 W w.heap.size iv t.ins ∧ OwG (OutE w.heap.size) 57 2 W w.heap.size ov t.outs ∧ t.ver < 4294967296 ∧ t.lock < 4294967296
section
variable {w W W' : World} {G : Nat} {cs : List Value} {t : LTx}
theorem FW.tx (h : FW w W G cs t) : TxC W cs t := by
  obtain ⟨h1, h2, h3, iv, ov, rfl, h5, h6, h7⟩ := h
  exact ⟨iv, ov, rfl, OwG.rd EW.rd h5, OwG.rd (OutE.rd _) h6, h7⟩
theorem FW.form (h : FW w W G cs t) : ∃ AI cI AO cO, cs = [.int .u32 (t.ver : Int), .slice AI t.ins.length cI, .slice AO t.outs.length cO, .int .u32 (t.lock : Int)] := by
  obtain ⟨h1, h2, h3, iv, ov, rfl, h5, h6, h7⟩ := h
  obtain ⟨AI, cI, rfl⟩ := h5.form
  obtain ⟨AO, cO, rfl⟩ := h6.form
  exact ⟨_, _, _, _, rfl⟩
theorem FW.below (h : FW w W G cs t) (hb : Below W.heap.size W W') : FW w W' G cs t := by
  obtain ⟨h1, h2, h3, iv, ov, rfl, h5, h6, h7⟩ := h
  exact ⟨h1.trans (hb.mono h1.size), h2.below hb, h3, iv, ov, rfl, OwG.same (fun own cs x h => EW.below hb own cs x h) h5 hb, OwG.same (OutE.below hb) h6 hb, h7⟩
theorem FW.make (ho : OwTx W w.heap.size cs t) (hb : Below w.heap.size w W) (hx : Box W G cs.toArray 51) (hg : w.heap.size ≤ G) : FW w W G cs t := by
  obtain ⟨iv, ov, mid, rfl, h1, h2, h3, h4, h5⟩ := ho
  obtain ⟨us, k1, k2⟩ := h1
  exact ⟨hb, hx, hg, iv, ov, rfl, ⟨us, k1, fun i x hx => EW.of (k2 i x hx)⟩, OwG.mono h2 h3 (fun own cs y h => OutE.mono h3 W own cs y h), h5⟩
end
section
variable {w W W' : World} {G : Nat} {v0 iv ov v3 : Value} {t : LTx}
theorem FW.four (h : FW w W G [v0, iv, ov, v3] t) : W.cell? ⟨G, 0, none⟩ = some v0 ∧ W.cell? ⟨G, 1, none⟩ = some iv ∧ W.cell? ⟨G, 2, none⟩ = some ov ∧ W.cell? ⟨G, 3, none⟩ = some v3 ∧ (∀ j, W.frozen? ⟨G, j, none⟩ = false) := Box.four h.2.1
theorem FW.ins (h : FW w W G [v0, iv, ov, v3] t) : OwG (EW w.heap.size) 55 36 W w.heap.size iv t.ins := by
  obtain ⟨h1, h2, h3, iv', ov', he, h5, h6, h7⟩ := h
  injection he with e0 he
  injection he with e1 he
  subst e1
  exact h5
theorem FW.outs (h : FW w W G [v0, iv, ov, v3] t) : OwG (OutE w.heap.size) 57 2 W w.heap.size ov t.outs := by
  obtain ⟨h1, h2, h3, iv', ov', he, h5, h6, h7⟩ := h
  injection he with e0 he
  injection he with e1 he
  injection he with e2 he
  subst e2
  exact h6
theorem FW.size (h : FW w W G [v0, iv, ov, v3] t) : w.heap.size ≤ W.heap.size := h.1.size
theorem FW.putI (h : FW w W G [v0, iv, ov, v3] t) {row : Option Nat} (hg : W.grownBy W' row) (hk : Kd W row 55) (hr : ∀ k, row = some k → w.heap.size ≤ k) {v : Value} {xs : List LIn} (ho : OwG (EW w.heap.size) 55 36 W' w.heap.size v xs) :
    FW w (W'.setCell ⟨G, 1, none⟩ v) G [v0, v, ov, v3] { t with ins := xs } := by
  obtain ⟨h1, h2, h3, iv', ov', he, h5, h6, h7⟩ := h
  injection he with e0 he
  injection he with e1 he
  injection he with e2 he
  injection he with e3 _
  subst e0 e1 e2 e3
  have b3 := h2.apartO hg hk (by decide)
  have gset := grown_set W' G 1 v
  have hk2 : Kd W' (some G) 51 := b3.kd
  refine ⟨(h1.grown hg h1.size hr).setCell h3 _, Box.set (cs := [_, _, _, _]) b3 1 v, h3, _, _, rfl, ho.apartG gset hk2 (by decide) (fun cs x h => EW.apart gset hk2 (by decide) (by decide) _ _ cs x h), ?_, h7⟩
  exact (h6.apartG hg hk (by decide) (fun cs y h => OutE.apartO hg hk (by decide) _ cs y h)).apartG gset hk2 (by decide) (fun cs y h => OutE.apartO gset hk2 (by decide) _ cs y h)
theorem FW.putO (h : FW w W G [v0, iv, ov, v3] t) {row : Option Nat} (hg : W.grownBy W' row) (hk : Kd W row 57) (hr : ∀ k, row = some k → w.heap.size ≤ k) {v : Value} {ys : List LOut} (ho : OwG (OutE w.heap.size) 57 2 W' w.heap.size v ys) :
    FW w (W'.setCell ⟨G, 2, none⟩ v) G [v0, iv, v, v3] { t with outs := ys } := by
  obtain ⟨h1, h2, h3, iv', ov', he, h5, h6, h7⟩ := h
  injection he with e0 he
  injection he with e1 he
  injection he with e2 he
  injection he with e3 _
  subst e0 e1 e2 e3
  have b3 := h2.apartO hg hk (by decide)
  have gset := grown_set W' G 2 v
  have hk2 : Kd W' (some G) 51 := b3.kd
  refine ⟨(h1.grown hg h1.size hr).setCell h3 _, Box.set (cs := [_, _, _, _]) b3 2 v, h3, _, _, rfl, ?_, ho.apartG gset hk2 (by decide) (fun cs y h => OutE.apartO gset hk2 (by decide) _ cs y h), h7⟩
  exact (h5.apartG hg hk (by decide) (fun cs x h => EW.apart hg hk (by decide) (by decide) _ _ cs x h)).apartG gset hk2 (by decide) (fun cs x h => EW.apart gset hk2 (by decide) (by decide) _ _ cs x h)
end
/-- The only input's witness. -/
theorem FW.wit {w W : World} {G g o n c : Nat} {v0 ov v3 : Value} {t : LTx} {x : LIn} (h : FW w W G [v0, .slice (some ⟨g, o, none⟩) n c, ov, v3] t) (hx : t.ins = [x]) :
    ∃ Aw cw, W.cell? ⟨g, o + 35, none⟩ = some (.slice Aw x.wit.length cw) ∧ W.frozen? ⟨g, o + 35, none⟩ = false ∧ OwW W w.heap.size (.slice Aw x.wit.length cw) x.wit ∧ Kd W (some g) 55 ∧ w.heap.size ≤ g ∧
      ∀ (W' : World) (row : Option Nat) (v' : Value) (ws : List (List UInt8)), W.grownBy W' row → Kd W row 24 → (∀ k, row = some k → w.heap.size ≤ k) → OwW W' w.heap.size v' ws → FW w (W'.setCell ⟨g, o + 35, none⟩ v') G [v0, .slice (some ⟨g, o, none⟩) n c, ov, v3] { t with ins := [{ x with wit := ws }] } := by
  have hins := h.ins
  rw [hx] at hins
  obtain ⟨g', o', he, hg0, hg1, _⟩ := OwG.block hins 0 (by simp)
  injection he with he
  injection he with he1 he2
  subst he1 he2
  have hkd : Kd W (some g) 55 := hins.kd
  have hn : n = 1 := by
    obtain ⟨us, p1, _⟩ := hins
    rcases p1.2 with ⟨q, _⟩ | ⟨g', off, cap, cur, q, _⟩
    · cases q
    · injection q
  obtain ⟨us, p1, p2⟩ := hins
  obtain ⟨sv, wv, hcs, hl, hs, hw, hb⟩ := p2 0 x rfl
  obtain ⟨Aw, cw, rfl⟩ := OwW.form hw
  have hpm : (x.prev.map u8v).length = 32 := by rw [List.length_map]; exact hl
  have b35 : us[35]? = some (.slice Aw x.wit.length cw) := by
    have := congrArg (·[35]?) hcs
    rw [List.getElem?_append_right (by omega), hpm] at this
    simpa [List.getElem?_take] using this
  have p1' := p1
  rw [show [x].length = n by rw [hn]; rfl] at p1'
  obtain ⟨c35, f35⟩ := OwS.cellN p1' 35 _ b35
  refine ⟨Aw, cw, c35, f35, hw, hkd, hg0, fun W' row v' ws hg hk hr ho => ?_⟩
  obtain ⟨h1, h2, h3, iv', ov', he, h5, h6, h7⟩ := h
  injection he with e0 he
  injection he with e1 he
  injection he with e2 he
  injection he with e3 _
  subst e0 e1 e2 e3
  have gset := grown_set W' g (o + 35) v'
  have hkd' : Kd W' (some g) 55 := hkd.grown hg hk (by decide)
  have p1w := OwS.apartO p1 hg hk (by decide)
  have q := OwG.setK (E := fun cs z => cs = x.prev.map u8v ++ [.int .u32 (x.vout : Int), sv, .int .u32 (x.seq : Int), .slice Aw x.wit.length cw]) (E' := fun w' own cs z => EW w.heap.size w' own cs z) (ys := [x]) p1w (fun i y hy => by
    rcases i with _ | i
    · exact hcs
    · simp at hy) 0 x { x with wit := ws } rfl 35 (by decide) v' (fun cs _ hc => by
    rw [hc]
    refine ⟨sv, v', ?_, hl, OwS.apartO (OwS.apartO hs hg hk (by decide)) gset hkd' (by decide), ho.apartO gset hkd' (by decide) (by decide), hb⟩
    rw [List.set_append_right _ _ (by omega), hpm]
    rfl) (fun i cs y hi hy _ => by
    rcases i with _ | i
    · exact absurd rfl hi
    · simp at hy)
  rw [Nat.zero_mul, Nat.zero_add] at q
  exact ⟨(h1.grown hg h1.size hr).setCell hg0 _, (h2.apartO hg hk (by decide)).apartO gset hkd' (by decide), h3, _, _, rfl, q, (h6.apartG hg hk (by decide) (fun cs y h => OutE.apartO hg hk (by decide) _ cs y h)).apartG gset hkd' (by decide) (fun cs y h => OutE.apartO gset hkd' (by decide) _ cs y h), h7⟩
theorem RdL.cutTo {α : Type} {R : World → List Value → α → Prop} {size : Nat} {w : World} {A : Option Addr} {n c : Nat} {xs : List α} (h : RdL R size w (.slice A n c) xs) (k : Nat) (hk : k ≤ xs.length) : RdL R size w (.slice A k c) (xs.take k) := by
  obtain ⟨A', c', he, h1, h2, h3, h4⟩ := h
  injection he with e1 e2 e3
  subst e1 e2 e3
  have hl : (xs.take k).length = k := by rw [List.length_take]; omega
  refine ⟨A, c, by rw [hl], by rw [hl]; omega, h2, h3, fun ad had => ?_⟩
  obtain ⟨g, o, rfl, h5⟩ := h4 ad had
  refine ⟨g, o, rfl, fun j x hx => h5 j x ?_⟩
  have hj := (List.getElem?_eq_some_iff.1 hx).1
  rw [List.getElem?_take_of_lt (by omega)] at hx
  exact hx
end Go.Proofs.Ytfggkljgfadacaa.W
namespace Go.Proofs.Ytfggkljgfadacaa.W
open Go.RowKit Go.Proofs.Ytfggkljgfadacaa.B Go.Proofs

theorem run_emp48 (w : World) : (Instr.buildSlice 48 0 #[]).run Try.prog w = .ok (.slice (some ⟨w.heap.size, 0, none⟩) 0 0) (w.alloc (.cells #[] 55)) := by
  obtain ⟨i, hi, hzz⟩ := Option.map_eq_some_iff.1 info55
  simp only [Prod.mk.injEq] at hzz
  simp [Instr.buildSlice, run_underlying Try.underlying48, sizeOf, typeInfo, zeroValue, hi, hzz.1, hzz.2.1, Instr.fill, newRow]
  rw [show Array.map (fun _ => (default : Value)) (Array.range 0) = #[] by apply Array.ext <;> simp]
/-- The inputs that are made of one. -/
def insW (x : LIn) (k : Nat) : List LIn := (List.range k).map fun j => if j = 0 then x else { x with vout := j + 100 }
theorem insW_one (x : LIn) : insW x 1 = [x] := rfl
theorem insW_length (x : LIn) (k : Nat) : (insW x k).length = k := by simp [insW]
theorem insW_zero (x : LIn) (k : Nat) (h : 1 ≤ k) : (insW x k)[0]? = some x := by
  unfold insW
  rw [List.getElem?_map, List.getElem?_range (by omega)]
  rfl
theorem insW_step (x : LIn) (k : Nat) (h : 1 ≤ k) : insW x (k + 1) = insW x k ++ [{ x with vout := k + 100 }] := by
  unfold insW
  rw [List.range_succ, List.map_append, List.map_cons, List.map_nil, if_neg (show ¬ k = 0 by omega)]
def outW : LOut := ⟨9000, scriptB 1⟩
def wT (t : LTx) (x : LIn) (N : Nat) : LTx := { t with ins := insW x 50, outs := t.outs ++ List.replicate N outW }
theorem insW_mem {x z : LIn} {k : Nat} (h : z ∈ insW x k) : z.prev = x.prev ∧ z.script = x.script ∧ z.wit = x.wit := by
  unfold insW at h
  obtain ⟨j, _, rfl⟩ := List.mem_map.1 h
  split <;> exact ⟨rfl, rfl, rfl⟩
theorem outW_plain : plainO outW := ⟨by decide, by decide, .inl kind_s1⟩
theorem wT_check {t : LTx} (h : goodP t) {x : LIn} (hx : x.prev.length = 32 ∧ x.script.length ≤ 1 ∧ x.vout ≤ 3 ∧ x.prev[31]? = some (u8i ((0 : Nat) + 1 : Int))) (hw : x.wit.length ≤ 10 ∧ ∀ b ∈ x.wit, b.length ≤ 500) (N : Nat) (hN : N ≤ 31) :
    checkT (wT t x N) = if 80000 < weightT (wT t x N) then 3 else 0 := by
  have ho := h.2.2.1
  have hpl : ∀ y ∈ t.outs ++ List.replicate N outW, plainO y := fun y hy => by
    rcases List.mem_append.1 hy with hy | hy
    · exact good_out h y hy
    · rw [(List.mem_replicate.1 hy).2]; exact outW_plain
  have hm : mayT (wT t x N) := by
    refine ⟨fun z hz => ?_, fun y hy => ?_, ?_, ?_, ?_, ?_⟩
    · obtain ⟨e1, e2, e3⟩ := insW_mem hz
      unfold okIn
      rw [e2, e3]
      exact ⟨by omega, hw.1, hw.2⟩
    · rcases List.mem_append.1 hy with hy | hy
      · have := (good_small h).2.2.2 y hy
        unfold okOut; omega
      · rw [(List.mem_replicate.1 hy).2]; unfold okOut; decide
    · show 1 ≤ (insW x 50).length; rw [insW_length]; omega
    · show (insW x 50).length ≤ 50; rw [insW_length]; omega
    · show 1 ≤ (t.outs ++ List.replicate N outW).length; simp; omega
    · show (t.outs ++ List.replicate N outW).length ≤ 50; simp; omega
  have hi : insT (wT t x N).ins = 0 := by
    show insT (insW x 50) = 0
    unfold insT
    rw [if_neg, if_pos]
    · rw [List.Nodup, List.pairwise_iff_getElem]
      intro i j hi hj hij e
      rw [List.length_map, insW_length] at hi hj
      rw [List.getElem_map, List.getElem_map] at e
      have e1 := congrArg Prod.snd e
      have a1 : ∀ (k : Nat) (hk : k < 50), (insW x 50)[k]'(by rw [insW_length]; exact hk) = if k = 0 then x else { x with vout := k + 100 } := fun k hk => by unfold insW; simp
      unfold ptOf at e1
      rw [a1 i hi, a1 j hj, if_neg (show ¬ j = 0 by omega)] at e1
      by_cases h0 : i = 0
      · rw [if_pos h0] at e1
        simp only at e1
        omega
      · rw [if_neg h0] at e1
        simp only at e1
        omega
    · intro ha
      obtain ⟨z, hz, hn⟩ := List.any_eq_true.1 ha
      have e1 := (insW_mem hz).1
      have := not_null (x := z) (i := 0) (by decide) (by rw [e1]; exact hx.2.2.2)
      rw [this] at hn
      cases hn
  have hn := plain_none hpl
  have hs := plain_sum _ hpl
  have hk : kindsT (wT t x N).outs = 0 := check_k0 (t := wT t x N) (fun y hy => (plain_kind (hpl y hy)).1) (by show ¬ 1 < (t.outs ++ List.replicate N outW).countP _; rw [hn.1]; omega)
  have hl : (t.outs ++ List.replicate N outW).length ≤ 35 := by simp; omega
  unfold checkT
  have hv := h.1
  rw [if_pos hm, if_neg (show ¬ ((wT t x N).ver = 0 ∨ 3 < (wT t x N).ver) by show ¬ (t.ver = 0 ∨ 3 < t.ver); omega), hi, hk]
  by_cases hwt : 80000 < weightT (wT t x N)
  · rw [if_pos hwt, if_pos hwt]
  · rw [if_neg hwt, if_neg hwt]
    have ht : (tot (valuesT (wT t x N).outs)).2 = true := by
      unfold tot
      rw [if_pos (show (valuesT (wT t x N).outs).sum ≤ 2100000000000000 by show (valuesT (t.outs ++ List.replicate N outW)).sum ≤ _; omega)]
    rw [ht]
    have hd : ¬ 1 < (wT t x N).outs.countP dustB := by show ¬ 1 < (t.outs ++ List.replicate N outW).countP dustB; rw [hn.2]; omega
    simp [hd]
end Go.Proofs.Ytfggkljgfadacaa.W
namespace Go.Proofs.Ytfggkljgfadacaa.W
open Go.RowKit Go.Proofs.Ytfggkljgfadacaa.B Go.Proofs

theorem size55 : (Try.prog.info? 55).map (·.size) = some 36 := by kernel_rfl
set_option maxHeartbeats 8000000 in
set_option maxRecDepth 100000 in
theorem statWeight_any (items nout long : Int) (w : World) : Calls Try.prog 9 #[.int .i64 items, .int .i64 nout, .int .i64 long] w fun e w' => e = .returned (.bool true) ∧ Below w.heap.size w w' := by
  obtain ⟨IA, eIA, hIA⟩ := mask_nat items 8 255 (by decide) (by decide)
  obtain ⟨N, eN, hN⟩ := mask_nat nout 5 31 (by decide) (by decide)
  obtain ⟨LA, eLA, hLA⟩ := mask_nat long 8 255 (by decide) (by decide)
  obtain ⟨I, hI⟩ : ∃ I, I = IA % 11 := ⟨_, rfl⟩
  have eI : Int.tmod (IA : Int) 11 = (I : Int) := by rw [hI, Int.tmod_eq_emod_of_nonneg (by omega)]; omega
  obtain ⟨J, hJ⟩ : ∃ J, J = LA + 200 := ⟨_, rfl⟩
  have eJ : IntKind.i64.wrap ((LA : Int) + 200) = (J : Int) := by rw [IntWalk.i64_in _ (by omega)]; omega
  have hI10 : (I : Int) ≤ 10 := by omega
  have hN31 : (N : Int) ≤ 31 := by omega
  have hJ5 : (J : Int) ≤ 455 := by omega
  clear hI hJ hIA hLA hN
  go_enter Try.func9, Try.ntmps9
  go_upto_region 2 with (go_at_call 34; (with_reducible refine (good_own 1 2 _).mono ?_); rintro e w0 ⟨cs, t, rfl, ht, hg, hb⟩; have HG := As.mk hg; have HT := As.mk ht; obtain ⟨AI, cI, AO, cO, rfl⟩ := OwTx.form ht; have HW0 := As.mk hb; clear ht hg hb)
  have HF0 : As (FW w (w0.alloc (.cells #[.int .u32 (t.ver : Int), .slice AI t.ins.length cI, .slice AO t.outs.length cO, .int .u32 (t.lock : Int)] 51)) w0.heap.size [.int .u32 (t.ver : Int), .slice AI t.ins.length cI, .slice AO t.outs.length cO, .int .u32 (t.lock : Int)] t) := ⟨FW.make (HT.out.below (below_al _ _)) (HW0.out.trans ((below_al w0 (.cells #[.int .u32 (t.ver : Int), .slice AI t.ins.length cI, .slice AO t.outs.length cO, .int .u32 (t.lock : Int)] 51)).mono HW0.out.size)) (Box.new _ _ _) HW0.out.size⟩
  obtain ⟨G, hGG⟩ : ∃ G, G = w0.heap.size := ⟨_, rfl⟩
  rw [← hGG] at HF0 ⊢
  clear hGG HT HW0
  change Code.wp _ _ _ _ (w0.alloc (.cells #[.int .u32 (t.ver : Int), .slice AI t.ins.length cI, .slice AO t.outs.length cO, .int .u32 (t.lock : Int)] 51))
  generalize w0.alloc (.cells #[.int .u32 (t.ver : Int), .slice AI t.ins.length cI, .slice AO t.outs.length cO, .int .u32 (t.lock : Int)] 51) = W at HF0 ⊢
  have HNI := As.mk HG.out.2.1
  have HNO : As (t.outs.length ≤ 4) := ⟨HG.out.2.2.1.2⟩
  obtain ⟨x0, hx0⟩ : ∃ x, t.ins[0]? = some x := ⟨_, List.getElem?_eq_getElem (by have := HNI.out; omega : 0 < t.ins.length)⟩
  have HX0 := As.mk hx0
  have HXG := As.mk (HG.out.2.2.2.1 0 x0 hx0)
  have HT1 : As (t.ins.take 1 = [x0]) := ⟨by rw [List.take_add_one, hx0]; rfl⟩
  clear hx0
  have hb := below_al W (.cells #[] 55)
  have HF1 := As.mk (HF0.out.below hb)
  have HE : As (OwG (EW w.heap.size) 55 36 (W.alloc (.cells #[] 55)) w.heap.size (.slice (some ⟨W.heap.size, 0, none⟩) 0 0) []) := ⟨⟨[], OwS.lit W w.heap.size 55 36 0 #[] HF0.out.size (by decide) rfl, fun i y hy => by simp at hy⟩⟩
  obtain ⟨_, _, he1, hc1, hm1, hz1⟩ := (OwG.rd EW.rd HF1.out.ins).form
  injection he1 with he1 he2 he3
  subst he3
  have HY : As (RdL (fun w' cs y => EW w.heap.size w' (Value.slice (some ⟨W.heap.size, 0, none⟩) 0 0).ownBlock cs y) 36 (W.alloc (.cells #[] 55)) (.slice AI 1 cI) [x0]) := ⟨by
    have h := RdL.cutTo (OwG.rd (R := fun w' cs y => EW w.heap.size w' none cs y) (fun w' own cs y h => h) HF1.out.ins) 1 (by have := HNI.out; omega)
    rw [HT1.out] at h
    exact h⟩
  have hct : ∀ V : World, (Instr.slice 48 (.slice AI t.ins.length cI) none (some (.int .i64 1)) none).run Try.prog V = .ok (.slice AI 1 cI) V := fun V => run_cut_to (P := Try.prog) 48 55 36 Try.underlying48 size55 AI t.ins.length cI 1 (by have := HNI.out; omega) V
  have hbs := fun V : World => run_emp48 V
  obtain ⟨q0, q1, q2, q3, _⟩ := HF0.out.four
  have r1 := cell_of_below hb q1
  clear hb he1 he2 hc1 hm1 hz1
  go_upto_region 3 with (at_builtin; refine wpList_appM (E := EW w.heap.size) (R := EW w.heap.size) w.heap.size rfl (.tmp 13) (.tmp 16) 48 55 ZIn 36 96 rfl Try.underlying48 info55z zin_size (by decide) (by decide) (.slice (some ⟨W.heap.size, 0, none⟩) 0 0) rfl (.slice AI 1 cI) rfl [] [x0] HE.out HY.out EW.one (fun v' w' hg ht => ⟨fun cs y h => EW.apart hg HE.out.kd (by decide) (by decide) _ _ cs y h, fun cs y h => EW.apart hg HE.out.kd (by decide) (by decide) _ _ cs y h⟩) (by simp) HF1.out.size ?_; intro v4 w4 ho hg ht; obtain ⟨A4, c1, h4⟩ := OwG.form ho; rw [List.nil_append] at h4 ho; subst h4; have HF2 := As.mk (HF1.out.putI hg HE.out.kd (fun k hk => (OwG.lt HE.out k hk).1) ho); have HB4 := As.mk (Box.apartO HF1.out.2.1 hg HE.out.kd (by decide)); obtain ⟨d0, d1, d2, d3, fz⟩ := Box.four HB4.out; clear ho hg ht)
  have HF3 : As (FW w (w4.setCell ⟨G, 1, none⟩ (.slice A4 1 c1)) G [.int .u32 (t.ver : Int), .slice A4 1 c1, .slice AO t.outs.length cO, .int .u32 (t.lock : Int)] { t with ins := [x0] }) := HF2
  clear HF2 HE HY HF1 hct hbs q0 q1 q2 q3 r1 d0 d1 d2 d3 fz HB4 HF0
  change Code.wp _ _ _ _ (w4.setCell ⟨G, 1, none⟩ (.slice A4 1 c1))
  generalize w4.setCell ⟨G, 1, none⟩ (.slice A4 1 c1) = W3 at HF3 ⊢
  obtain ⟨g, o, rfl, _⟩ := OwG.block HF3.out.ins 0 (by simp)
  obtain ⟨Aw0, cw0, c35, f35, _, _, _, F⟩ := FW.wit (x := x0) HF3.out rfl
  have HFZ := As.mk (F W3 none (.slice none 0 0) [] (World.grownBy.refl W3 none) (fun k hk => by cases hk) (fun k hk => by cases hk) (OwW.nil _ _))
  obtain ⟨q0, q1, q2, q3, _⟩ := HF3.out.four
  go_upto_region 4 with fail
  clear q0 q1 q2 q3 c35 f35 F HF3
  change Code.wp _ _ _ _ (W3.setCell ⟨g, o + 35, none⟩ (.slice none 0 0))
  generalize W3.setCell ⟨g, o + 35, none⟩ (.slice none 0 0) = W4 at HFZ ⊢
  have kj := fun V : World => run_make24 J (by omega) V
  go_wp2
  go_loopw [8] (fun v8 wr => ∃ i : Nat, v8 = .int .i64 (i : Int) ∧ (i : Int) ≤ I ∧ As (FW w wr G [.int .u32 (t.ver : Int), .slice (some ⟨g, o, none⟩) 1 c1, .slice AO t.outs.length cO, .int .u32 (t.lock : Int)] { t with ins := [{ x0 with wit := List.replicate i (zB J) }] })) (fun v8 _ => I - (intOf v8).toNat)
  case atStart => exact ⟨0, rfl, by omega, HFZ⟩
  case round =>
    clear HFZ
    obtain ⟨i, rfl, hi, HK⟩ := hrel
    by_cases hlt : (i : Int) < I
    · obtain ⟨Aw, cw, c35, f35, hrow, hkd, _, F⟩ := FW.wit (x := { x0 with wit := List.replicate i (zB J) }) HK.out rfl
      have hll : ({ x0 with wit := List.replicate i (zB J) } : LIn).wit.length = i := by simp
      rw [hll] at c35 hrow
      have HC := As.mk (And.intro HK.out.four.2.1 (And.intro c35 f35))
      have HOW := As.mk hrow
      have HKD := As.mk hkd
      have HFF := As.mk F
      have HSZ := As.mk HK.out.size
      have HBL : As (Below wr.heap.size wr ((wr.alloc (.cells (zV J) 5)).alloc (.cells #[.slice (some ⟨wr.heap.size, 0, none⟩) J J] 24)).drew) := ⟨(below_al wr _).trans (((below_al (wr.alloc (.cells (zV J) 5)) _).mono (below_al wr (.cells (zV J) 5)).size).trans ((below_dr _).mono (Nat.le_trans (below_al wr (.cells (zV J) 5)).size (below_al (wr.alloc (.cells (zV J) 5)) _).size)))⟩
      clear c35 f35 hrow hkd F hll
      go_upto_region 7 with fail
      refine wp_region_V (conds := [(15, (fun V : World => V.cell? ⟨G, 1, none⟩ = some (.slice (some ⟨g, o, none⟩) 1 c1) ∧ V.cell? ⟨g, o + 35, none⟩ = some (.slice Aw i cw)))]) (by kernel_rfl) ?_ (fun hHeld => ?_)
      · intro q hq hL
        simp only [List.mem_cons, List.not_mem_nil, or_false] at hq
        rcases hq with rfl
        · exact And.intro (cell_of_below (below_dr wr) HC.out.1) (cell_of_below (below_dr wr) HC.out.2.1)
      refine wpAnyV_take0 (i := 0) (oi := ?_) (v := ?_) (by simp only [List.getElem?_toArray, List.getElem?_cons_zero, List.getElem?_cons_succ]; rfl) (by kernel_rfl) (by kernel_rfl) (by kernel_rfl) (by exact fun _ _ _ h => h) (by simp) (Or.inl ⟨by rfl, ?_⟩) (by assumption) ?_
      rotate_left
      · (intro w hSw; clear hSw; go_simp; first | done | with_reducible rfl)
      try simp only [Act.put, List.setIfInBounds_toArray, List.set_cons_zero, List.set_cons_succ]
      replace hHeld := SV.one (i := 0) (by simp) hHeld
      refine wpAnyV_take (i := 1) (b := 15) (T := (fun V : World => V.cell? ⟨G, 1, none⟩ = some (.slice (some ⟨g, o, none⟩) 1 c1) ∧ V.cell? ⟨g, o + 35, none⟩ = some (.slice Aw i cw))) (oi := ?_) (v := ?_) (by simp only [List.getElem?_toArray, List.getElem?_cons_zero, List.getElem?_cons_succ]; rfl) (by kernel_rfl) (by kernel_rfl) (by kernel_rfl) (by exact fun _ _ _ h => h) (by simp) (by simp only [List.getElem?_toArray, List.getElem?_cons_zero, List.getElem?_cons_succ]; rfl) (by kernel_rfl) (by kernel_rfl) (List.Mem.head _) (Or.inl ⟨by rfl, ?_⟩) (by assumption) ?_
      rotate_left
      · (intro w hSw; (try dsimp only at hSw); have s1 := hSw.1; clear hSw; go_simp; first | done | with_reducible rfl)
      try simp only [Act.put, List.setIfInBounds_toArray, List.set_cons_zero, List.set_cons_succ]
      replace hHeld := SV.one (i := 1) (by simp) hHeld
      refine wpAnyV_take0 (i := 2) (oi := ?_) (v := ?_) (by simp only [List.getElem?_toArray, List.getElem?_cons_zero, List.getElem?_cons_succ]; rfl) (by kernel_rfl) (by kernel_rfl) (by kernel_rfl) (by exact fun _ _ _ h => h) (by simp) (Or.inl ⟨by rfl, ?_⟩) (by assumption) ?_
      rotate_left
      · (intro w hSw; clear hSw; go_simp; first | done | with_reducible rfl)
      try simp only [Act.put, List.setIfInBounds_toArray, List.set_cons_zero, List.set_cons_succ]
      replace hHeld := SV.one (i := 2) (by simp) hHeld
      refine wpAnyV_take (i := 3) (b := 15) (T := (fun V : World => V.cell? ⟨G, 1, none⟩ = some (.slice (some ⟨g, o, none⟩) 1 c1) ∧ V.cell? ⟨g, o + 35, none⟩ = some (.slice Aw i cw))) (oi := ?_) (v := ?_) (by simp only [List.getElem?_toArray, List.getElem?_cons_zero, List.getElem?_cons_succ]; rfl) (by kernel_rfl) (by kernel_rfl) (by kernel_rfl) (by exact fun _ _ _ h => h) (by simp) (by simp only [List.getElem?_toArray, List.getElem?_cons_zero, List.getElem?_cons_succ]; rfl) (by kernel_rfl) (by kernel_rfl) (List.Mem.head _) (Or.inl ⟨by rfl, ?_⟩) (by assumption) ?_
      rotate_left
      · (intro w hSw; (try dsimp only at hSw); have s1 := hSw.1; clear hSw; go_simp; first | done | with_reducible rfl)
      try simp only [Act.put, List.setIfInBounds_toArray, List.set_cons_zero, List.set_cons_succ]
      replace hHeld := SV.one (i := 3) (by simp) hHeld
      refine wpAnyV_take0 (i := 4) (oi := ?_) (v := ?_) (by simp only [List.getElem?_toArray, List.getElem?_cons_zero, List.getElem?_cons_succ]; rfl) (by kernel_rfl) (by kernel_rfl) (by kernel_rfl) (by exact fun _ _ _ h => h) (by simp) (Or.inl ⟨by rfl, ?_⟩) (by assumption) ?_
      rotate_left
      · (intro w hSw; clear hSw; go_simp; first | done | with_reducible rfl)
      try simp only [Act.put, List.setIfInBounds_toArray, List.set_cons_zero, List.set_cons_succ]
      replace hHeld := SV.one (i := 4) (by simp) hHeld
      refine wpAnyV_take0 (i := 5) (oi := ?_) (v := ?_) (by simp only [List.getElem?_toArray, List.getElem?_cons_zero, List.getElem?_cons_succ]; rfl) (by kernel_rfl) (by kernel_rfl) (by kernel_rfl) (by exact fun _ _ _ h => h) (by simp) (Or.inl ⟨by rfl, ?_⟩) (by assumption) ?_
      rotate_left
      · (intro w hSw; clear hSw; go_simp; first | done | with_reducible rfl)
      try simp only [Act.put, List.setIfInBounds_toArray, List.set_cons_zero, List.set_cons_succ]
      replace hHeld := SV.one (i := 5) (by simp) hHeld
      refine wpAnyV_take (i := 6) (b := 15) (T := (fun V : World => V.cell? ⟨G, 1, none⟩ = some (.slice (some ⟨g, o, none⟩) 1 c1) ∧ V.cell? ⟨g, o + 35, none⟩ = some (.slice Aw i cw))) (oi := ?_) (v := ?_) (by simp only [List.getElem?_toArray, List.getElem?_cons_zero, List.getElem?_cons_succ]; rfl) (by kernel_rfl) (by kernel_rfl) (by kernel_rfl) (by exact fun _ _ _ h => h) (by simp) (by simp only [List.getElem?_toArray, List.getElem?_cons_zero, List.getElem?_cons_succ]; rfl) (by kernel_rfl) (by kernel_rfl) (List.Mem.head _) (Or.inl ⟨by rfl, ?_⟩) (by assumption) ?_
      rotate_left
      · (intro w hSw; (try dsimp only at hSw); have s2 := hSw.2; clear hSw; go_simp; first | done | with_reducible rfl)
      try simp only [Act.put, List.setIfInBounds_toArray, List.set_cons_zero, List.set_cons_succ]
      replace hHeld := SV.one (i := 6) (by simp) hHeld
      refine wpAnyV_take0 (i := 7) (oi := ?_) (v := ?_) (by simp only [List.getElem?_toArray, List.getElem?_cons_zero, List.getElem?_cons_succ]; rfl) (by kernel_rfl) (by kernel_rfl) (by kernel_rfl) (by exact fun _ _ _ h => h) (by simp) (Or.inl ⟨by rfl, ?_⟩) (by assumption) ?_
      rotate_left
      · (intro w hSw; clear hSw; go_simp; first | done | with_reducible rfl)
      try simp only [Act.put, List.setIfInBounds_toArray, List.set_cons_zero, List.set_cons_succ]
      replace hHeld := SV.one (i := 7) (by simp) hHeld
      refine wpAnyV_take0 (i := 8) (oi := ?_) (v := ?_) (by simp only [List.getElem?_toArray, List.getElem?_cons_zero, List.getElem?_cons_succ]; rfl) (by kernel_rfl) (by kernel_rfl) (by kernel_rfl) (by exact fun _ _ _ h => h) (by simp) (Or.inl ⟨by rfl, ?_⟩) (by assumption) ?_
      rotate_left
      · (intro w hSw; clear hSw; go_simp; first | done | with_reducible rfl)
      try simp only [Act.put, List.setIfInBounds_toArray, List.set_cons_zero, List.set_cons_succ]
      replace hHeld := SV.one (i := 8) (by simp) hHeld
      refine wpAnyV_take0 (i := 9) (oi := ?_) (v := ?_) (by simp only [List.getElem?_toArray, List.getElem?_cons_zero, List.getElem?_cons_succ]; rfl) (by kernel_rfl) (by kernel_rfl) (by kernel_rfl) (by exact fun _ _ _ h => h) (by simp) (Or.inl ⟨by rfl, ?_⟩) (by assumption) ?_
      rotate_left
      · (intro w hSw; clear hSw; go_simp; first | done | with_reducible rfl)
      try simp only [Act.put, List.setIfInBounds_toArray, List.set_cons_zero, List.set_cons_succ]
      replace hHeld := SV.one (i := 9) (by simp) hHeld
      refine wpAnyV_ready (rs := [10]) (by kernel_rfl) (by simp) ?_
      refine AllReadyV.cons (o := ?_) (by simp only [List.getElem?_toArray, List.getElem?_cons_zero, List.getElem?_cons_succ]; rfl) (fun K hK => ?_) ?_
      · go_simp
        have hS15 := And.intro (cell_of_below (below_dr (wr.alloc (.cells (zV J) 5))) (cell_of_below (below_al wr (.cells (zV J) 5)) HC.out.1)) (cell_of_below (below_dr (wr.alloc (.cells (zV J) 5))) (cell_of_below (below_al wr (.cells (zV J) 5)) HC.out.2.1))
        refine hK.out _ _ ?_ (fun hHeld2 => ?_)
        · intro q hq hL
          simp only [List.mem_cons, List.not_mem_nil, or_false] at hq
          rcases hq with rfl
          · exact hS15
        clear hK K hHeld
        have hHeld := hHeld2
        clear hHeld2
        try simp only [Act.put, List.setIfInBounds_toArray, List.set_cons_zero, List.set_cons_succ]
        refine wpAnyV_ready (rs := [11]) (by kernel_rfl) (by simp) ?_
        refine AllReadyV.cons (o := ?_) (by simp only [List.getElem?_toArray, List.getElem?_cons_zero, List.getElem?_cons_succ]; rfl) (fun K hK => ?_) ?_
        · go_simp
          have hS15 := And.intro (cell_of_below HBL.out HC.out.1) (cell_of_below HBL.out HC.out.2.1)
          refine hK.out _ _ ?_ (fun hHeld2 => ?_)
          · intro q hq hL
            simp only [List.mem_cons, List.not_mem_nil, or_false] at hq
            rcases hq with rfl
            · exact hS15
          clear hK K hHeld
          have hHeld := hHeld2
          clear hHeld2
          try simp only [Act.put, List.setIfInBounds_toArray, List.set_cons_zero, List.set_cons_succ]
          refine wpAnyV_ready (rs := [12]) (by kernel_rfl) (by simp) ?_
          refine AllReadyV.cons (o := ?_) (by simp only [List.getElem?_toArray, List.getElem?_cons_zero, List.getElem?_cons_succ]; rfl) (fun K hK => ?_) ?_
          · have HBX : As (Box ((wr.alloc (.cells (zV J) 5)).alloc (.cells #[.slice (some ⟨wr.heap.size, 0, none⟩) J J] 24)).drew (wr.heap.size + 1) #[.slice (some ⟨wr.heap.size, 0, none⟩) J J] 24) := ⟨by have h := Box.below (Box.new (wr.alloc (.cells (zV J) 5)) #[.slice (some ⟨wr.heap.size, 0, none⟩) J J] 24) (below_dr _); simpa using h⟩
            have HIT : As (OwB ((wr.alloc (.cells (zV J) 5)).alloc (.cells #[.slice (some ⟨wr.heap.size, 0, none⟩) J J] 24)).drew wr.heap.size 5 (.slice (some ⟨wr.heap.size, 0, none⟩) J J) (zB J)) := ⟨OwS.below (OwS.below (zV_own J (by omega) wr) (below_al _ _)) (below_dr _)⟩
            have HELc : As (El ((wr.alloc (.cells (zV J) 5)).alloc (.cells #[.slice (some ⟨wr.heap.size, 0, none⟩) J J] 24)).drew w.heap.size (Value.slice Aw i cw).ownBlock (.slice (some ⟨wr.heap.size, 0, none⟩) J J) (zB J)) := ⟨OwS.mono HIT.out HSZ.out, fun j hj e => by have := (OwW.lt HOW.out j e).2; simp [Value.ownBlock] at hj; omega⟩
            have HWc := As.mk (OwW.below HOW.out HBL.out)
            refine step_appW w.heap.size ?hgd (.tmp 36) (.tmp 41) ?ho (.slice Aw i cw) ?hs (wr.heap.size + 1) ?hx (.slice (some ⟨wr.heap.size, 0, none⟩) J J) HBX.out rfl (List.replicate i (zB J)) (zB J) HWc.out HELc.out ?hl (Nat.le_trans HSZ.out HBL.out.size) ?_
            case hgd => rfl
            case ho => rfl
            case hs => rfl
            case hx => rfl
            case hl => rw [List.length_replicate]; omega
            intro v4 w4 ho hg
            obtain ⟨A4, c4, h4⟩ := OwW.form ho
            rw [List.length_append, List.length_replicate, List.length_singleton] at h4
            subst h4
            have hg4 := grown_pre HBL.out hg
            have hk4 := HOW.out.kd
            have HNX := As.mk (HFF.out w4 _ _ _ hg4 hk4 (fun k hk => (OwW.lt HOW.out k hk).1) ho)
            have HCR := As.mk (Kd.cell HKD.out hg4 hk4 (by decide) (o + 35))
            have HB4 := As.mk (Box.apartO HK.out.2.1 hg4 hk4 (by decide))
            have hS15 := And.intro (HB4.out.cell 1 _ rfl) (HCR.out.1.trans HC.out.2.1)
            clear ho hg hg4 hk4
            refine hK.out _ _ ?_ (fun hHeld2 => ?_)
            · intro q hq hL
              simp only [List.mem_cons, List.not_mem_nil, or_false] at hq
              rcases hq with rfl
              · exact hS15
            clear hK K hHeld
            have hHeld := hHeld2
            clear hHeld2
            try simp only [Act.put, List.setIfInBounds_toArray, List.set_cons_zero, List.set_cons_succ]
            refine wpAnyV_take0 (i := 13) (oi := ?_) (v := ?_) (by simp only [List.getElem?_toArray, List.getElem?_cons_zero, List.getElem?_cons_succ]; rfl) (by kernel_rfl) (by kernel_rfl) (by kernel_rfl) (by exact fun _ _ _ h => h) (by simp) (Or.inl ⟨by rfl, ?_⟩) (by assumption) ?_
            rotate_left
            · (intro w hSw; clear hSw; go_simp; first | done | with_reducible rfl)
            try simp only [Act.put, List.setIfInBounds_toArray, List.set_cons_zero, List.set_cons_succ]
            replace hHeld := SV.one (i := 13) (by simp) hHeld
            refine wpAnyV_take0 (i := 14) (oi := ?_) (v := ?_) (by simp only [List.getElem?_toArray, List.getElem?_cons_zero, List.getElem?_cons_succ]; rfl) (by kernel_rfl) (by kernel_rfl) (by kernel_rfl) (by exact fun _ _ _ h => h) (by simp) (Or.inl ⟨by rfl, ?_⟩) (by assumption) ?_
            rotate_left
            · (intro w hSw; clear hSw; go_simp; first | done | with_reducible rfl)
            try simp only [Act.put, List.setIfInBounds_toArray, List.set_cons_zero, List.set_cons_succ]
            replace hHeld := SV.one (i := 14) (by simp) hHeld
            refine wpAnyV_ready (rs := [15]) (by kernel_rfl) (by simp) ?_
            refine AllReadyV.cons (o := ?_) (by simp only [List.getElem?_toArray, List.getElem?_cons_zero, List.getElem?_cons_succ]; rfl) (fun K hK => ?_) ?_
            · have c4' := HCR.out.1.trans HC.out.2.1
              have f4' := HCR.out.2.trans HC.out.2.2
              go_simp
              clear c4' f4'
              refine hK.out _ _ ?_ (fun hHeld2 => ?_)
              · intro q hq hL
                simp only [List.mem_cons, List.not_mem_nil, or_false] at hq
                rcases hq with rfl
                · exact Bool.noConfusion ((show _ = true from by kernel_rfl).symm.trans hL)
              clear hK K hHeld
              have hHeld := hHeld2
              clear hHeld2
              try simp only [Act.put, List.setIfInBounds_toArray, List.set_cons_zero, List.set_cons_succ]
              refine wpAnyV_done (by kernel_rfl) ?_ _
              clear hHeld
              go_wp2
              refine ⟨⟨i + 1, ?_, ?_, ?_⟩, ?_⟩
              · go_num
              · omega
              · exact ⟨by rw [List.replicate_succ']; exact HNX.out⟩
              · simp [intOf]; omega
            exact AllReadyV.nil
          exact AllReadyV.nil
        exact AllReadyV.nil
      exact AllReadyV.nil
    · have hiI : i = I := by omega
      obtain ⟨x1, hx1⟩ : ∃ x, x = ({ x0 with wit := List.replicate I (zB J) } : LIn) := ⟨_, rfl⟩
      have HKX : As (FW w wr G [.int .u32 (t.ver : Int), .slice (some ⟨g, o, none⟩) 1 c1, .slice AO t.outs.length cO, .int .u32 (t.lock : Int)] { t with ins := insW x1 1 }) := ⟨by rw [insW_one, hx1, ← hiI]; exact HK.out⟩
      have HXA : As (x1.prev.length = 32 ∧ x1.script.length ≤ 1 ∧ x1.vout ≤ 3 ∧ x1.prev[31]? = some (u8i ((0 : Nat) + 1 : Int))) := ⟨by rw [hx1]; exact ⟨HXG.out.1, HXG.out.2.1.1, HXG.out.2.1.2, HXG.out.2.2.2.2 trivial⟩⟩
      have HXB : As (x1.wit.length ≤ 10 ∧ ∀ b ∈ x1.wit, b.length ≤ 500) := ⟨by
        rw [hx1]
        refine ⟨by simp; omega, fun b hb => ?_⟩
        rw [(List.mem_replicate.1 hb).2]
        simp [zB]
        omega⟩
      clear hiI hx1 HK HXG HX0 HT1
      go_wp2
      clear hlt hi eIA eLA eI eJ kj
      go_loopw [9] (fun v9 wr => ∃ (k : Nat) (A : Option Addr) (c : Nat), (1 : Int) ≤ k ∧ (k : Int) ≤ 50 ∧ As (FW w wr G [.int .u32 (t.ver : Int), .slice A k c, .slice AO t.outs.length cO, .int .u32 (t.lock : Int)] { t with ins := insW x1 k })) (fun _ wr => 50 - (match wr.cell? ⟨G, 1, none⟩ with | some (.slice _ n _) => n | _ => 0))
      case atStart => exact ⟨1, _, _, by omega, by omega, HKX⟩
      case round =>
        clear HKX
        obtain ⟨k, A, c, hk1, hk, HK⟩ := hrel
        obtain ⟨q0, q1, q2, q3, _⟩ := HK.out.four
        have HQ1 := As.mk q1
        by_cases hlt : (k : Int) < 50
        · obtain ⟨g2, o2, c36, he, hcl, hin, hrange⟩ := RdL.at (OwG.rd (R := fun w' cs y => EW w.heap.size w' none cs y) (fun w' own cs y h => h) HK.out.ins) 0 x1 (insW_zero x1 k (by omega))
          subst he
          rw [Nat.zero_mul, Nat.add_zero] at hrange
          have HCL := As.mk hcl
          have HIN := As.mk hin
          have HRG := As.mk hrange
          have H1 := As.mk (EW.one c36 x1 hin)
          have hk0 : 0 < k := by omega
          clear hcl hin hrange
          go_upto_region 10 with (first | ((with_reducible refine wpList_load_mid (op := ⟨_, .load 55 (.tmp 51), _, _, _, _⟩) ?hgd 55 (.tmp 51) rfl _ _ ?hx c36 _ HRG.out Try.underlying55 rfl ?hi ?_); (case hgd => exact rfl); (case hx => exact rfl); (case hi => rw [HCL.out]; kernel_rfl)) | ((with_reducible refine wpList_store_new (op := ⟨_, .store 55 (.tmp 9) (.tmp 52), _, _, _, _⟩) ?hgd 55 (.tmp 9) (.tmp 52) rfl (wr) ?cc55 c36 ?hw ?hx ?hy ?hi ?hc H1.out ?_); (case hgd => exact rfl); (case hw => exact rfl); (case hx => exact rfl); (case hy => exact rfl); (case hi => rw [HCL.out]; kernel_rfl); (case hc => rw [HCL.out]; exact rfl)))
          have HB1 : As (Below wr.heap.size wr (wr.alloc (.cells c36.toArray 55)) ∧ Box (wr.alloc (.cells c36.toArray 55)) wr.heap.size c36.toArray 55) := ⟨below_al _ _, Box.new _ _ _⟩
          obtain ⟨G9, hG9⟩ : ∃ g, g = wr.heap.size := ⟨_, rfl⟩
          have HG9 := As.mk hG9
          have HBX : As (Box (wr.alloc (.cells c36.toArray 55)) G9 c36.toArray 55) := ⟨by rw [hG9]; exact HB1.out.2⟩
          rw [← hG9]
          clear hG9 q0 q1 q2 q3
          change Code.wp _ _ _ _ (wr.alloc (.cells c36.toArray 55))
          generalize wr.alloc (.cells c36.toArray 55) = W1 at HB1 HBX ⊢
          obtain ⟨q0, q1, q2, q3, _⟩ := (HK.out.below HB1.out.1).four
          obtain ⟨V, hV⟩ : ∃ V, V = k + 100 := ⟨_, rfl⟩
          have HVV := As.mk hV
          have hu1 : IntKind.i64.wrap ((k : Int) + 100) = (V : Int) := by rw [IntWalk.i64_in _ (by omega)]; omega
          have hV2 : (V : Int) ≤ 150 := by omega
          have hu2 : IntKind.u32.wrap (V : Int) = (V : Int) := by rw [IntWalk.u32_in _ (by omega)]
          have e32 : c36[32]? = some (.int .u32 (x1.vout : Int)) := by
            obtain ⟨sv, wv, hc, hl, _⟩ := HIN.out
            rw [hc, List.getElem?_append_right (by rw [List.length_map]; omega), List.length_map, hl]
            rfl
          have p32 := Box.cell HBX.out 32 _ (by rw [List.getElem?_toArray]; exact e32)
          have f32 := Box.frozen HBX.out 32
          clear hV
          go_upto_region 11 with fail
          clear q0 q1 q2 q3 p32 f32 hu1 hu2
          have HB2 : As (Below wr.heap.size wr (W1.setCell ⟨G9, 32, none⟩ (.int .u32 (V : Int)))) := ⟨HB1.out.1.setCell (show wr.heap.size ≤ G9 by rw [HG9.out]; exact Nat.le_refl _) _⟩
          obtain ⟨d36, hd36⟩ : ∃ d, d = c36.set 32 (.int .u32 (V : Int)) := ⟨_, rfl⟩
          have HBX2 : As (Box (W1.setCell ⟨G9, 32, none⟩ (.int .u32 (V : Int))) G9 d36.toArray 55) := ⟨by rw [hd36]; exact Box.set HBX.out 32 _⟩
          change Code.wp _ _ _ _ (W1.setCell ⟨G9, 32, none⟩ (.int .u32 (V : Int)))
          generalize W1.setCell ⟨G9, 32, none⟩ (.int .u32 (V : Int)) = W2 at HB2 HBX2 ⊢
          have HDL : As (d36.length = 36) := ⟨by rw [hd36, List.length_set]; exact HCL.out⟩
          have HEN : As (EW w.heap.size (W2.alloc (.cells d36.toArray 55)) (Value.slice (some ⟨g2, o2, none⟩) k c).ownBlock d36 { x1 with vout := k + 100 }) := ⟨by
            obtain ⟨sv, wv, hc, hl, hs, hw, hb⟩ := HIN.out
            have hbb := HB2.out.trans ((below_al W2 (.cells d36.toArray 55)).mono HB2.out.size)
            refine ⟨sv, wv, ?_, hl, OwS.below hs hbb, hw.below hbb, (by have := HVV.out; show k + 100 < 4294967296; omega), hb.2⟩
            rw [hd36, hc, List.set_append_right _ _ (by rw [List.length_map]; omega), List.length_map, hl, HVV.out]
            rfl⟩
          have HD1 := As.mk (EW.one d36 _ HEN.out)
          have HRG2 := As.mk (range_of_block HBX2.out)
          have HKZ := As.mk ((HK.out.below HB2.out).below (below_al W2 (.cells d36.toArray 55)))
          have HBN := As.mk (Box.new W2 d36.toArray 55)
          obtain ⟨q0, q1, q2, q3, _⟩ := (HK.out.below HB2.out).four
          obtain ⟨it, hit⟩ := Option.map_eq_some_iff.1 info55
          have HIT := As.mk hit
          have HLN : As ((insW x1 k).length ≤ 1000000) := ⟨by rw [insW_length]; omega⟩
          clear hit hd36 e32 HB1 HBX
          go_wp2_with (first | ((with_reducible refine wpList_load_mid (op := ⟨_, .load 55 (.tmp 9), _, _, _, _⟩) ?hgd 55 (.tmp 9) rfl _ _ ?hx d36 _ HRG2.out Try.underlying55 rfl ?hi ?_); (case hgd => exact rfl); (case hx => exact rfl); (case hi => rw [HDL.out]; kernel_rfl)) | ((with_reducible refine wpList_buildSlice (o := ⟨_, .buildSlice 48 1 #[(0, .tmp 61)], _, _, _, _⟩) ?hgd 48 55 1 _ rfl d36.toArray it (.agg (Z32 ++ [Value.int .u32 0, Value.slice none 0 0, Value.int .u32 0, Value.slice none 0 0]).toArray) Try.underlying48 HIT.out.1 ?hz ?hsm ?hpo ?hf ?_); (case hgd => exact rfl); (case hz => have h := HIT.out.2; simp only [Prod.mk.injEq] at h; exact h.1); (case hsm => have h := HIT.out.2; simp only [Prod.mk.injEq] at h; rw [h.2.1]; decide); (case hpo => have h := HIT.out.2; simp only [Prod.mk.injEq] at h; rw [h.2.1]; decide); (case hf => have h := HIT.out.2; simp only [Prod.mk.injEq] at h; rw [h.2.1]; simp only [List.map_toArray, List.map_cons, List.map_nil]; exact fill55 _ (by simp) d36 HDL.out)) | (at_builtin; refine wpList_appG (E := EW w.heap.size) w.heap.size rfl (.tmp 60) (.tmp 62) 48 55 ZIn 36 96 rfl Try.underlying48 info55z zin_size (by decide) (by decide) (.slice (some ⟨g2, o2, none⟩) k c) rfl W2.heap.size rfl d36 HBN.out HDL.out HD1.out (insW x1 k) { x1 with vout := k + 100 } HKZ.out.ins HEN.out (fun v' w' hg ht => EW.apart hg HKZ.out.ins.kd (by decide) (by decide) _ _) HLN.out HKZ.out.size ?_; intro v4 w4 ho hg ht; obtain ⟨A4, c4, h4⟩ := OwG.form ho; rw [List.length_append, insW_length, List.length_singleton] at h4; subst h4; have HF2 := As.mk (HKZ.out.putI hg HKZ.out.ins.kd (fun k hk => (OwG.lt HKZ.out.ins k hk).1) ho); have HB4 := As.mk (Box.apartO HKZ.out.2.1 hg HKZ.out.ins.kd (by decide)); obtain ⟨d0, d1, d2, d3, fz⟩ := Box.four HB4.out; clear ho hg ht))
          have q9 := HF2.out.four.2.1
          go_roundw
          case rel => exact ⟨k + 1, _, _, by omega, by omega, ⟨by rw [insW_step x1 k (by omega)]; exact HF2.out⟩⟩
          case measure => rw [q9, HQ1.out]; simp; omega
        · have hk50 : k = 50 := by omega
          subst hk50
          clear hlt hk hk1
          go_wp2
          clear q0 q1 q2 q3 HQ1
          go_loopw [10] (fun v10 wr => ∃ (i : Nat) (AO : Option Addr) (cO : Nat), v10 = .int .i64 (i : Int) ∧ (i : Int) ≤ N ∧ As (FW w wr G [.int .u32 (t.ver : Int), .slice A 50 c, .slice AO (t.outs.length + i) cO, .int .u32 (t.lock : Int)] { t with ins := insW x1 50, outs := t.outs ++ List.replicate i outW })) (fun v10 _ => N - (intOf v10).toNat)
          case atStart => exact ⟨0, AO, cO, rfl, by omega, ⟨by rw [List.replicate_zero, List.append_nil]; exact HK.out⟩⟩
          case round =>
            clear HK
            obtain ⟨i, AO, cO, rfl, hi, HK⟩ := hrel
            by_cases hlt : (i : Int) < N
            · go_upto_region 15 with fail
              refine wp_region_V (conds := [(7, (fun V : World => V.cell? ⟨G, 2, none⟩ = some (.slice AO (t.outs.length + i) cO)))]) (by kernel_rfl) ?_ (fun hHeld => ?_)
              · intro q hq hL
                simp only [List.mem_cons, List.not_mem_nil, or_false] at hq
                rcases hq with rfl
                · exact (HK.out.below (below_dr wr)).four.2.2.1
              refine wpAnyV_take0 (i := 0) (oi := ?_) (v := ?_) (by simp only [List.getElem?_toArray, List.getElem?_cons_zero, List.getElem?_cons_succ]; rfl) (by kernel_rfl) (by kernel_rfl) (by kernel_rfl) (by exact fun _ _ _ h => h) (by simp) (Or.inl ⟨by rfl, ?_⟩) (by assumption) ?_
              rotate_left
              · (intro w hSw; clear hSw; go_simp; first | done | with_reducible rfl)
              try simp only [Act.put, List.setIfInBounds_toArray, List.set_cons_zero, List.set_cons_succ]
              replace hHeld := SV.one (i := 0) (by simp) hHeld
              refine wpAnyV_take (i := 1) (b := 7) (T := (fun V : World => V.cell? ⟨G, 2, none⟩ = some (.slice AO (t.outs.length + i) cO))) (oi := ?_) (v := ?_) (by simp only [List.getElem?_toArray, List.getElem?_cons_zero, List.getElem?_cons_succ]; rfl) (by kernel_rfl) (by kernel_rfl) (by kernel_rfl) (by exact fun _ _ _ h => h) (by simp) (by simp only [List.getElem?_toArray, List.getElem?_cons_zero, List.getElem?_cons_succ]; rfl) (by kernel_rfl) (by kernel_rfl) (List.Mem.head _) (Or.inl ⟨by rfl, ?_⟩) (by assumption) ?_
              rotate_left
              · (intro w hSw; (try dsimp only at hSw); go_simp; first | done | with_reducible rfl)
              try simp only [Act.put, List.setIfInBounds_toArray, List.set_cons_zero, List.set_cons_succ]
              replace hHeld := SV.one (i := 1) (by simp) hHeld
              refine wpAnyV_ready (rs := [2]) (by kernel_rfl) (by simp) ?_
              refine AllReadyV.cons (o := ?_) (by simp only [List.getElem?_toArray, List.getElem?_cons_zero, List.getElem?_cons_succ]; rfl) (fun K hK => ?_) ?_
              · go_simp
                refine (script_any 1 _).mono ?_
                rintro e w3 ⟨sv, rfl, ho, hb⟩
                obtain ⟨As3, cs3, rfl⟩ := RdB.formN (n := 22) ho.rd rfl
                have HK3 := As.mk (HK.out.below ((below_dr wr).trans hb))
                have HSF := As.mk (show OwC w3 wr.heap.size (.slice As3 22 cs3) (scriptB 1) from ho)
                have HS3 := As.mk (OwC.mono HSF.out HK.out.size)
                have hS7 := HK3.out.four.2.2.1
                clear ho hb
                dsimp only
                refine hK.out _ _ ?_ (fun hHeld2 => ?_)
                · intro q hq hL
                  simp only [List.mem_cons, List.not_mem_nil, or_false] at hq
                  rcases hq with rfl
                  · exact hS7
                clear hK K hHeld
                have hHeld := hHeld2
                clear hHeld2
                try simp only [Act.put, List.setIfInBounds_toArray, List.set_cons_zero, List.set_cons_succ]
                refine wpAnyV_take0 (i := 3) (oi := ?_) (v := ?_) (by simp only [List.getElem?_toArray, List.getElem?_cons_zero, List.getElem?_cons_succ]; rfl) (by kernel_rfl) (by kernel_rfl) (by kernel_rfl) (by exact fun _ _ _ h => h) (by simp) (Or.inl ⟨by rfl, ?_⟩) (by assumption) ?_
                rotate_left
                · (intro w hSw; clear hSw; go_simp; first | done | with_reducible rfl)
                try simp only [Act.put, List.setIfInBounds_toArray, List.set_cons_zero, List.set_cons_succ]
                replace hHeld := SV.one (i := 3) (by simp) hHeld
                refine wpAnyV_ready (rs := [4]) (by kernel_rfl) (by simp) ?_
                refine AllReadyV.cons (o := ?_) (by simp only [List.getElem?_toArray, List.getElem?_cons_zero, List.getElem?_cons_succ]; rfl) (fun K hK => ?_) ?_
                · go_simp
                  have HKE := As.mk (HK3.out.below (below_al w3 (.cells #[.int .u64 9000, .slice As3 22 cs3] 57)))
                  have HBX := As.mk (Box.new w3 #[.int .u64 9000, .slice As3 22 cs3] 57)
                  have HSE := As.mk (HS3.out.below (below_al w3 (.cells #[.int .u64 9000, .slice As3 22 cs3] 57)))
                  have hS7 := HKE.out.four.2.2.1
                  refine hK.out _ _ ?_ (fun hHeld2 => ?_)
                  · intro q hq hL
                    simp only [List.mem_cons, List.not_mem_nil, or_false] at hq
                    rcases hq with rfl
                    · exact hS7
                  clear hK K hHeld
                  have hHeld := hHeld2
                  clear hHeld2
                  try simp only [Act.put, List.setIfInBounds_toArray, List.set_cons_zero, List.set_cons_succ]
                  refine wpAnyV_ready (rs := [5]) (by kernel_rfl) (by simp) ?_
                  refine AllReadyV.cons (o := ?_) (by simp only [List.getElem?_toArray, List.getElem?_cons_zero, List.getElem?_cons_succ]; rfl) (fun K hK => ?_) ?_
                  · refine step_appG (E := OutE w.heap.size) w.heap.size ?hgd (.tmp 72) (.tmp 75) 49 57 (.agg #[.int .u64 0, .slice none 0 0]) 2 32 ?ho Try.underlying49 info57 rfl (by decide) (by decide) (.slice AO (t.outs.length + i) cO) ?hs w3.heap.size ?hx [.int .u64 9000, .slice As3 22 cs3] HBX.out rfl (by simp; exact ⟨rfl, rfl⟩) (t.outs ++ List.replicate i outW) outW HKE.out.outs ⟨_, rfl, ⟨HSE.out, fun k hk e => by have q1 := (OwG.lt HK.out.outs k e).2; have q2 := (OwC.lt HSF.out k hk).1; omega⟩, by decide⟩ (fun v' w' hg ht => OutE.grow hg ht) ?hl HKE.out.size ?_
                    case hgd => rfl
                    case ho => rfl
                    case hs => rfl
                    case hx => rfl
                    case hl => have := HNO.out; simp; omega
                    intro v4 w4 ho hg ht
                    obtain ⟨A4, c4, h4⟩ := OwG.form ho
                    rw [List.length_append, List.length_append, List.length_replicate, List.length_singleton] at h4
                    subst h4
                    have HF2 := As.mk (HKE.out.putO hg HKE.out.outs.kd (fun k hk => (OwG.lt HKE.out.outs k hk).1) ho)
                    have HB4 := As.mk (Box.apartO HKE.out.2.1 hg HKE.out.outs.kd (by decide))
                    have hS7 := HB4.out.cell 2 _ rfl
                    clear ho hg ht
                    refine hK.out _ _ ?_ (fun hHeld2 => ?_)
                    · intro q hq hL
                      simp only [List.mem_cons, List.not_mem_nil, or_false] at hq
                      rcases hq with rfl
                      · exact hS7
                    clear hK K hHeld
                    have hHeld := hHeld2
                    clear hHeld2
                    try simp only [Act.put, List.setIfInBounds_toArray, List.set_cons_zero, List.set_cons_succ]
                    refine wpAnyV_take0 (i := 6) (oi := ?_) (v := ?_) (by simp only [List.getElem?_toArray, List.getElem?_cons_zero, List.getElem?_cons_succ]; rfl) (by kernel_rfl) (by kernel_rfl) (by kernel_rfl) (by exact fun _ _ _ h => h) (by simp) (Or.inl ⟨by rfl, ?_⟩) (by assumption) ?_
                    rotate_left
                    · (intro w hSw; clear hSw; go_simp; first | done | with_reducible rfl)
                    try simp only [Act.put, List.setIfInBounds_toArray, List.set_cons_zero, List.set_cons_succ]
                    replace hHeld := SV.one (i := 6) (by simp) hHeld
                    refine wpAnyV_ready (rs := [7]) (by kernel_rfl) (by simp) ?_
                    refine AllReadyV.cons (o := ?_) (by simp only [List.getElem?_toArray, List.getElem?_cons_zero, List.getElem?_cons_succ]; rfl) (fun K hK => ?_) ?_
                    · obtain ⟨d0, d1, d2, d3, fz⟩ := Box.four HB4.out
                      go_simp
                      clear d0 d1 d2 d3 fz
                      refine hK.out _ _ ?_ (fun hHeld2 => ?_)
                      · intro q hq hL
                        simp only [List.mem_cons, List.not_mem_nil, or_false] at hq
                        rcases hq with rfl
                        · exact Bool.noConfusion ((show _ = true from by kernel_rfl).symm.trans hL)
                      clear hK K hHeld
                      have hHeld := hHeld2
                      clear hHeld2
                      try simp only [Act.put, List.setIfInBounds_toArray, List.set_cons_zero, List.set_cons_succ]
                      refine wpAnyV_done (by kernel_rfl) ?_ _
                      clear hHeld
                      go_wp2
                      refine ⟨⟨i + 1, A4, c4, ?_, ?_, ?_⟩, ?_⟩
                      · go_num
                      · omega
                      · exact ⟨by rw [List.replicate_succ', ← List.append_assoc, ← Nat.add_assoc]; exact HF2.out⟩
                      · simp [intOf]; omega
                    exact AllReadyV.nil
                  exact AllReadyV.nil
                exact AllReadyV.nil
              exact AllReadyV.nil
            · have hiN : i = N := by omega
              obtain ⟨n, hn⟩ : ∃ n, weightT (wT t x1 N) = n := ⟨_, rfl⟩
              have HWT := As.mk hn
              have HKN : As (FW w wr G [.int .u32 (t.ver : Int), .slice A 50 c, .slice AO (t.outs.length + i) cO, .int .u32 (t.lock : Int)] (wT t x1 N)) := ⟨by rw [← hiN]; exact HK.out⟩
              have HCK := As.mk (wT_check HG.out HXA.out HXB.out N (by omega))
              obtain ⟨q0, q1, q2, q3, _⟩ := HKN.out.four
              clear hiN hn HK
              have U := True.intro
              by_cases h8 : (80000 : Int) < n
              · have HC3 : As (checkT (wT t x1 N) = 3) := ⟨by rw [HCK.out, HWT.out, if_pos (by omega)]⟩
                go_wp2_with (first | (go_at_call 45; (with_reducible refine (qweight_any _ (wT t x1 N) _ HWT.out (FW.tx HKN.out)).mono ?_); rintro e w5 ⟨rfl, hb⟩; have HK5 := As.mk (FW.below HKN.out hb); clear hb q0 q1 q2 q3; obtain ⟨q0, q1, q2, q3, _⟩ := FW.four HK5.out) | (go_at_call 43; (with_reducible refine (check_to _ (wT t x1 N) _ HC3.out (FW.tx HK5.out)).mono ?_); rintro e w6 ⟨rfl, hb⟩; have HK6 := As.mk (FW.below HK5.out hb); clear hb) | (go_at_call 44; refine (awake8_any _).mono ?_; rintro e w7 ⟨rfl, hb⟩; have HK7 := As.mk (FW.below HK6.out hb); clear hb))
                go_ret
                exact ⟨rfl, HK7.out.1⟩
              · have HC3 : As (checkT (wT t x1 N) = 0) := ⟨by rw [HCK.out, HWT.out, if_neg (by omega)]⟩
                go_wp2_with (first | (go_at_call 45; (with_reducible refine (qweight_any _ (wT t x1 N) _ HWT.out (FW.tx HKN.out)).mono ?_); rintro e w5 ⟨rfl, hb⟩; have HK5 := As.mk (FW.below HKN.out hb); clear hb q0 q1 q2 q3; obtain ⟨q0, q1, q2, q3, _⟩ := FW.four HK5.out) | (go_at_call 43; (with_reducible refine (check_to _ (wT t x1 N) _ HC3.out (FW.tx HK5.out)).mono ?_); rintro e w6 ⟨rfl, hb⟩; have HK6 := As.mk (FW.below HK5.out hb); clear hb) | (go_at_call 44; refine (awake8_any _).mono ?_; rintro e w7 ⟨rfl, hb⟩; have HK7 := As.mk (FW.below HK6.out hb); clear hb))
                go_ret
                exact ⟨rfl, HK7.out.1⟩
theorem statWeight_row (a0 : Int) (w0 : (Lit.int .i64 a0).wf = true) (a1 : Int) (w1 : (Lit.int .i64 a1).wf = true) (a2 : Int) (w2 : (Lit.int .i64 a2).wf = true) (w : World) : Calls Try.prog 9 #[.int .i64 a0, .int .i64 a1, .int .i64 a2] w fun e w' => e = .returned (.bool true) ∧ Below w.heap.size w w' := statWeight_any a0 a1 a2 w
end Go.Proofs.Ytfggkljgfadacaa.W
