/- TxnsSame: two transactions are the same just if each part of them is. -/
import Derived.Test.YtfggkljgfadacaaT34
set_option linter.unusedVariables false
set_option linter.unusedSimpArgs false
namespace Go.Proofs.Ytfggkljgfadacaa.W
open Go.RowKit Go.Proofs.Ytfggkljgfadacaa.B Go.Proofs

theorem Kd.back {w w' : World} {row : Option Nat} {k : TypeId} (h : Kd w' row k) (hb : Below w.heap.size w w') (hl : ∀ j, row = some j → j < w.heap.size) : Kd w row k := by
  intro j hj
  obtain ⟨cur, hc⟩ := h j hj
  exact ⟨cur, by rw [← hb.block j (hl j hj)]; exact hc⟩
theorem Kd.cell {w w' : World} {g : Nat} {k k' : TypeId} {row : Option Nat} (h : Kd w (some g) k) (hg : w.grownBy w' row) (hk : Kd w row k') (hne : k ≠ k') (j : Nat) : w'.cell? ⟨g, j, none⟩ = w.cell? ⟨g, j, none⟩ ∧ w'.frozen? ⟨g, j, none⟩ = w.frozen? ⟨g, j, none⟩ := by
  obtain ⟨cur, hc⟩ := h g rfl
  have hb : w'.heap[g]? = w.heap[g]? := hg.block g (Array.getElem?_eq_some_iff.1 hc).1 (fun e => by
    obtain ⟨cur', hc'⟩ := hk g e.symm
    rw [hc] at hc'
    injection hc' with hc'
    injection hc' with _ hc' _
    exact hne hc')
  simp [World.cell?, World.frozen?, hb]
/-- append(v, y...) of bytes, v one's own or a constant's, at a step of a region that draws its order. -/
theorem step_appC {ops : Array Oper} {o : Oper} {a : Act} {w : World} {K : Act → World → Prop} {Q : Exit → Act → World → Prop} {F : Prop} (base : Nat) (hgd : o.guard = none) (s x : Operand)
    (ho : o.op = .call { callee := .builtin .append, args := #[s, x], argTypes := #[24, 24] })
    (v : Value) (hs : a.eval s = v) (y : Value) (hx : a.eval x = y) (L M : List UInt8) (hown : OwC w base v L) (hy : RdB w y M) (hM : 0 < M.length) (hlen : L.length + M.length ≤ 1000000) (hbase : base ≤ w.heap.size)
    (h : ∀ (v' : Value) (w' : World) (row : Option Nat), OwB w' base 5 v' (L ++ M) → w.grownBy w' row → (∀ k, row = some k → v.ownBlock = some k) → Kd w row 5 → K (a.put o.dst v') w') :
    if Region.wanted o (yielded ops a.tmps) = true then Oper.wp Try.prog o a w K Q else F := by
  obtain ⟨i, hi, hzz⟩ := Option.map_eq_some_iff.1 info5
  simp only [Prod.mk.injEq] at hzz
  obtain ⟨hz0, hz1, hz2⟩ := hzz
  have hw : Region.wanted o (yielded ops a.tmps) = true := by simp [Region.wanted, hgd]
  rw [if_pos hw]
  have hcat : (L ++ M).map u8v = L.map u8v ++ M.map u8v := by simp
  rcases hown with hown | ⟨g, rfl, hbg, hm, hg⟩
  · obtain ⟨v', w', hr, h2, h3, h4⟩ := run_app (P := Try.prog) w base 24 o.type 5 i (.int .u8 0) 1 1 Try.underlying24 hi hz0 hz1 hz2 rfl (by decide) v L.length _ hown y M.length _ hy (u8v_one M) (by unfold maxLen; omega) (by omega) hbase
    unfold Oper.wp execOp
    simp only [ho, resolve, invoke, builtin, Sem.run_bind, Sem.run_pure, Result.andThen_ok, List.map_toArray, List.map_cons, List.map_nil, hs, hx, hr]
    exact h v' w' v.ownBlock (by show OwS _ _ _ _ _ _ _; rw [hcat, List.length_append]; exact h2) h3 (fun k hk => hk) (fun k hk => OwS.kind hown k hk)
  · have hrd := (OwC.rd (.inr ⟨g, rfl, hbg, hm, hg⟩ : OwC w base _ L))
    obtain ⟨hyl, A, c, rfl, hmc, hcm, hA, hcell⟩ := hy
    rcases A with _ | ad
    · have := hA rfl; omega
    · obtain ⟨hxl, A2, c2, he, _, _, _, hcell2⟩ := hrd
      injection he with he1 he2 he3
      subst he1 he3
      obtain ⟨v', w', hr, r1, r2⟩ := run_append_arg_grows (P := Try.prog) w 24 o.type 5 i (.int .u8 0) 1 1 Try.underlying24 hi hz0 hz1 hz2 rfl (by decide) ⟨g, 0, none⟩ L.length L.length (L.map u8v) hxl (hcell2 _ rfl) ad M.length c (M.map u8v) hyl (hcell ad rfl) (by omega) (by unfold maxLen; omega) (by omega)
      unfold Oper.wp execOp
      simp only [ho, resolve, invoke, builtin, Sem.run_bind, Sem.run_pure, Result.andThen_ok, List.map_toArray, List.map_cons, List.map_nil, hs, hx, hr]
      exact h v' w' none (by show OwS _ _ _ _ _ _ _; rw [hcat, List.length_append]; exact OwS.mono (.of r1) hbase) ⟨r2.os, r2.tape, r2.output, r2.size, fun k hk _ => r2.block k hk (by simp)⟩ (fun k hk => by cases hk) (fun k hk => by cases hk)
theorem okIn_wit {x : LIn} (h1 : x.script.length ≤ 500) (h2 : x.wit.length ≤ 2) (h3 : ∀ b ∈ x.wit, b.length ≤ 500) : okIn { x with wit := x.wit ++ [[1]] } := by
  refine ⟨h1, by simp; omega, fun b hb => ?_⟩
  rcases List.mem_append.1 hb with hb | hb
  · exact h3 b hb
  · simp at hb; subst hb; decide
theorem EN.below {w W W' : World} {A B : Nat} {cs1 cs2 : List Value} {T u : LTx} (h : EN w W A B cs1 cs2 T u) (hb : Below W.heap.size W W') : EN w W' A B cs1 cs2 T u := ⟨h.1.trans (hb.mono h.1.size), h.2.1.below hb, h.2.2.below hb⟩
theorem EN.txA {w W : World} {A B : Nat} {cs1 cs2 : List Value} {T u : LTx} (h : EN w W A B cs1 cs2 T u) : TxC W cs1 T := h.2.1.2
theorem EN.txB {w W : World} {A B : Nat} {cs1 cs2 : List Value} {T u : LTx} (h : EN w W A B cs1 cs2 T u) : TxC W cs2 u := h.2.2.2
theorem EN.size {w W : World} {A B : Nat} {cs1 cs2 : List Value} {T u : LTx} (h : EN w W A B cs1 cs2 T u) : w.heap.size ≤ W.heap.size := h.1.size
theorem u8_succ (a : UInt8) : IntKind.u8.wrap ((a.toNat : Int) + 1) = (((a + 1).toNat : Nat) : Int) ∧ a + 1 ≠ a := by
  constructor
  · rw [UInt8.toNat_add]
    simp [IntKind.wrap, IntKind.bits, IntKind.signed]
  · intro h
    have := congrArg UInt8.toNat h
    rw [UInt8.toNat_add] at this
    have hl := a.toNat_lt
    simp at this
    omega
theorem u32_next (a : Nat) (d : Int) (h : a < 4294967296) (hd : d = 1 ∨ d = -1) : ∃ b : Nat, IntKind.u32.wrap ((a : Int) + d) = (b : Int) ∧ b < 4294967296 ∧ b ≠ a := by
  refine ⟨(((a : Int) + d) % 4294967296).toNat, ?_, ?_, ?_⟩
  · simp only [IntKind.wrap, IntKind.bits, IntKind.signed]
    simp
    omega
  · omega
  · rcases hd with rfl | rfl <;> omega
theorem u64_next (a : Nat) (h : a < 18446744073709551616) : ∃ b : Nat, IntKind.u64.wrap ((a : Int) + 1) = (b : Int) ∧ b < 18446744073709551616 ∧ b ≠ a := by
  refine ⟨(((a : Int) + 1) % 18446744073709551616).toNat, ?_, ?_, ?_⟩
  · rw [IntKind.wrap_u64]; omega
  · omega
  · omega
theorem txOf_first (n m : Int) : ∃ x y, (txOf n m).ins[0]? = some x ∧ (txOf n m).outs[0]? = some y ∧ x.prev.length = 32 ∧ x.script.length ≤ 500 ∧ x.wit.length ≤ 2 ∧ (∀ b ∈ x.wit, b.length ≤ 500) ∧ y.script.length ≤ 34 := by
  have h1 : (txOf n m).ins[0]? = some (inOf m 0) := by
    show ((List.range (n / 256 % 4 + 1).toNat).map (inOf m))[0]? = _
    rw [List.getElem?_map, List.getElem?_range (by omega)]; rfl
  have h2 : (txOf n m).outs[0]? = some (outOf n m 0) := by
    show ((List.range (n / 1024 % 4 + 1).toNat).map (outOf n m))[0]? = _
    rw [List.getElem?_map, List.getElem?_range (by omega)]; rfl
  have hm := (txOf_may n m).1 _ (List.mem_of_getElem? h1)
  refine ⟨_, _, h1, h2, prev_in m 0, hm.1, ?_, hm.2.2, scriptB_length _⟩
  show (if m / 2 ^ (12 + 0) % 4 = 0 then [[u8i m], []].take (m / 65536 % 2 + 1).toNat else [] : List (List UInt8)).length ≤ 2
  split
  · rw [List.length_take]; simp; omega
  · simp
theorem txOf_prev31 (n m : Int) : ∀ (i : Nat) (x : LIn), (txOf n m).ins[i]? = some x → (x.prev[31]? = some 0 ↔ i = 0) := by
  intro i x hx
  have hl := (List.getElem?_eq_some_iff.1 hx).1
  have hl' : i < (n / 256 % 4 + 1).toNat := by simpa [txOf] using hl
  have : (txOf n m).ins[i]? = some (inOf m i) := by
    show ((List.range (n / 256 % 4 + 1).toNat).map (inOf m))[i]? = _
    rw [List.getElem?_map, List.getElem?_range hl']; rfl
  rw [this] at hx
  obtain rfl := Option.some.inj hx
  exact prev31 m i (by omega)
set_option maxHeartbeats 4000000 in
set_option maxRecDepth 100000 in
theorem txnsSame_any (n m how : Int) (w : World) : Calls Try.prog 12 #[.int .i64 n, .int .i64 m, .int .i64 how] w fun e w' => e = .returned (.bool true) ∧ Below w.heap.size w w' := by
  obtain ⟨T, hT⟩ : ∃ T, T = txOf n m := ⟨_, rfl⟩
  have HT := As.mk hT
  have HM : As (mayT T) := ⟨by rw [hT]; exact txOf_may n m⟩
  have HP : As (∀ (i : Nat) (x : LIn), T.ins[i]? = some x → (x.prev[31]? = some 0 ↔ i = 0)) := ⟨by rw [hT]; exact txOf_prev31 n m⟩
  have HV : As (T.ver < 4294967296 ∧ T.lock < 4294967296) := ⟨by rw [hT]; exact ⟨txOf_ver n m, txOf_lock n m⟩⟩
  obtain ⟨x0, y0, HX⟩ : ∃ x y, As (T.ins[0]? = some x ∧ T.outs[0]? = some y ∧ x.prev.length = 32 ∧ x.script.length ≤ 500 ∧ x.wit.length ≤ 2 ∧ (∀ b ∈ x.wit, b.length ≤ 500) ∧ y.script.length ≤ 34) := by
    obtain ⟨x, y, h⟩ := txOf_first n m
    exact ⟨x, y, ⟨by rw [hT]; exact h⟩⟩
  have hIN : 0 < T.ins.length := by have := HM.out.2.2.1; omega
  have hON : 0 < T.outs.length := by have := HM.out.2.2.2.2.1; omega
  clear hT
  obtain ⟨K, hK, hK8⟩ := mask_nat how 3 7 (by decide) (by decide)
  have HKM := As.mk hK
  clear hK
  have mark1 := As.mk trivial
  go_enter Try.func12, Try.ntmps12
  go_upto_region 2 with (go_at_call 51; first | ((clear mark1; with_reducible refine (tx_two n m _).mono ?_); rintro e w1 ⟨cs1, rfl, ht, hb⟩; have HX1 : As (TxC w1 cs1 T) := ⟨by rw [HT.out]; exact ht.own.rd⟩; obtain ⟨AI, cI, AO, cO, rfl⟩ := TxC.four HX1.out; have HB1 := As.mk hb; clear ht hb) | ((with_reducible refine (tx_two n m _).mono ?_); rintro e w2 ⟨cs2, rfl, ht, hb⟩; have HX2 : As (OwT3 w2 w1.heap.size cs2 T) := ⟨by rw [HT.out]; exact ht⟩; obtain ⟨BI, dI, BO, dO, rfl⟩ := TxC.four HX2.out.own.rd; have HB2 := As.mk hb; clear ht hb))
  have HS1 : As (ST w w1 w2 ((w2.alloc (.cells #[.int .u32 (T.ver : Int), .slice AI T.ins.length cI, .slice AO T.outs.length cO, .int .u32 (T.lock : Int)] 51)).alloc (.cells #[.int .u32 (T.ver : Int), .slice BI T.ins.length dI, .slice BO T.outs.length dO, .int .u32 (T.lock : Int)] 51)) w2.heap.size (w2.heap.size + 1) [.int .u32 (T.ver : Int), .slice AI T.ins.length cI, .slice AO T.outs.length cO, .int .u32 (T.lock : Int)] [.int .u32 (T.ver : Int), .slice BI T.ins.length dI, .slice BO T.outs.length dO, .int .u32 (T.lock : Int)] T) := ⟨by
    have hb3 := below_al (w2.alloc (.cells #[.int .u32 (T.ver : Int), .slice AI T.ins.length cI, .slice AO T.outs.length cO, .int .u32 (T.lock : Int)] 51)) (.cells #[.int .u32 (T.ver : Int), .slice BI T.ins.length dI, .slice BO T.outs.length dO, .int .u32 (T.lock : Int)] 51)
    refine ⟨HB1.out, HX1.out, HB2.out, HX2.out, (below_al w2 _).trans (hb3.mono (below_al w2 _).size), (Box.new _ _ _).below hb3, ?_, Nat.le_refl _, Nat.le_succ _, Nat.ne_of_lt (Nat.lt_succ_self _)⟩
    have := Box.new (w2.alloc (.cells #[.int .u32 (T.ver : Int), .slice AI T.ins.length cI, .slice AO T.outs.length cO, .int .u32 (T.lock : Int)] 51)) #[.int .u32 (T.ver : Int), .slice BI T.ins.length dI, .slice BO T.outs.length dO, .int .u32 (T.lock : Int)] 51
    simpa using this⟩
  obtain ⟨A, hA⟩ : ∃ A, A = w2.heap.size := ⟨_, rfl⟩
  obtain ⟨B, hB⟩ : ∃ A, A = w2.heap.size + 1 := ⟨_, rfl⟩
  rw [← hB, ← hA] at HS1 ⊢
  clear hA hB HX1 HX2 HB1 HB2
  change Code.wp _ _ _ _ ((w2.alloc (.cells #[.int .u32 (T.ver : Int), .slice AI T.ins.length cI, .slice AO T.outs.length cO, .int .u32 (T.lock : Int)] 51)).alloc (.cells #[.int .u32 (T.ver : Int), .slice BI T.ins.length dI, .slice BO T.outs.length dO, .int .u32 (T.lock : Int)] 51))
  generalize (w2.alloc (.cells #[.int .u32 (T.ver : Int), .slice AI T.ins.length cI, .slice AO T.outs.length cO, .int .u32 (T.lock : Int)] 51)).alloc (.cells #[.int .u32 (T.ver : Int), .slice BI T.ins.length dI, .slice BO T.outs.length dO, .int .u32 (T.lock : Int)] 51) = W at HS1 ⊢
  have HEN := As.mk HS1.out.rd
  by_cases h7 : K = 7
  · obtain ⟨a0, a1, a2, a3⟩ := HEN.out.2.1.four
    obtain ⟨b0, b1, b2, b3⟩ := HEN.out.2.2.four
    have hk : bits .and .i64 how 7 = 7 := by rw [HKM.out, h7]; rfl
    have d1 : decide (T = T) = true := decide_eq_true rfl
    go_wp2_with (first | (go_at_call 53; (with_reducible refine (same_any _ _ T T _ (EN.txA HEN.out) (EN.txB HEN.out)).mono ?_); rintro e w5 ⟨rfl, hb⟩; have HS5 := As.mk (Below.trans (And.left HEN.out) (hb.mono (EN.size HEN.out))); clear hb a0 a1 a2 a3 b0 b1 b2 b3) | (go_at_call 50; refine (awake3_any _).mono ?_; rintro e w7 ⟨rfl, hb⟩; have HS7 := As.mk (HS5.out.trans (hb.mono HS5.out.size)); clear hb))
    go_ret
    exact ⟨rfl, HS7.out⟩
  · go_upto_block 0 with fail
    go_cut [16] (fun v16 wc => ∃ v0 v1 v2 v3 u, As (u ≠ T ∧ mayT u ∧ EN w wc A B [.int .u32 (T.ver : Int), .slice AI T.ins.length cI, .slice AO T.outs.length cO, .int .u32 (T.lock : Int)] [v0, v1, v2, v3] T u))
    case first =>
      rcases (show K = 0 ∨ K = 1 ∨ K = 2 ∨ K = 3 ∨ K = 4 ∨ K = 5 ∨ K = 6 by omega) with h | h | h | h | h | h | h
      · have hk : bits .and .i64 how 7 = 0 := by rw [HKM.out, h]; rfl
        obtain ⟨b0, b1, b2, b3⟩ := HEN.out.2.2.four
        obtain ⟨V, hV, HVV⟩ : ∃ V : Nat, IntKind.u32.wrap ((T.ver : Int) + 1) = (V : Int) ∧ As (V < 4294967296 ∧ V ≠ T.ver) := by
          obtain ⟨b, q1, q2, q3⟩ := u32_next T.ver 1 HV.out.1 (.inl rfl)
          exact ⟨b, q1, ⟨q2, q3⟩⟩
        have f0 := Box.frozen HEN.out.2.2.1 0
        go_wp2
        go_meet
        exact ⟨_, _, _, _, { T with ver := V }, ⟨fun e => HVV.out.2 (congrArg LTx.ver e), HM.out, HS1.out.setBox 0 (.int .u32 (V : Int)) (TxC.ver HS1.out.2.2.2.1.own.rd V HVV.out.1)⟩⟩
      · have hk : bits .and .i64 how 7 = 1 := by rw [HKM.out, h]; rfl
        obtain ⟨b0, b1, b2, b3⟩ := HEN.out.2.2.four
        obtain ⟨V, hV, HVV⟩ : ∃ V : Nat, IntKind.u32.wrap ((T.lock : Int) + 1) = (V : Int) ∧ As (V < 4294967296 ∧ V ≠ T.lock) := by
          obtain ⟨b, q1, q2, q3⟩ := u32_next T.lock 1 HV.out.2 (.inl rfl)
          exact ⟨b, q1, ⟨q2, q3⟩⟩
        have f0 := Box.frozen HEN.out.2.2.1 3
        go_wp2
        go_meet
        exact ⟨_, _, _, _, { T with lock := V }, ⟨fun e => HVV.out.2 (congrArg LTx.lock e), HM.out, HS1.out.setBox 3 (.int .u32 (V : Int)) (TxC.lock HS1.out.2.2.2.1.own.rd V HVV.out.1)⟩⟩
      · have hk : bits .and .i64 how 7 = 2 := by rw [HKM.out, h]; rfl
        obtain ⟨g, o, Aw, cw, rfl, c9, c34, c35, hgl, _, _, _, F9, F34, F35⟩ := HS1.out.ins x0 HX.out.1 HP.out
        have HB1 : As (W.cell? ⟨B, 1, none⟩ = some (.slice (some ⟨g, o, none⟩) T.ins.length dI)) := ⟨HEN.out.2.2.four.2.1⟩
        have h9 : 9 < x0.prev.length := by rw [HX.out.2.2.1]; decide
        obtain ⟨a, ha⟩ : ∃ a, a = x0.prev[9]'h9 := ⟨_, rfl⟩
        have HC9 : As (W.cell? ⟨g, o + 9, none⟩ = some (.int .u8 (a.toNat : Int)) ∧ W.frozen? ⟨g, o + 9, none⟩ = false) := ⟨by rw [c9.1, List.getElem?_eq_getElem h9, ← ha]; rfl, c9.2⟩
        obtain ⟨V, hV, HVV⟩ : ∃ V : UInt8, IntKind.u8.wrap ((a.toNat : Int) + 1) = (V.toNat : Int) ∧ As (V = a + 1) := ⟨a + 1, (u8_succ a).1, ⟨rfl⟩⟩
        have HPN : As (x0.prev.set 9 V ≠ x0.prev) := ⟨fun e => by
          have e1 := congrArg (·[9]?) e
          simp only [List.getElem?_set_self h9, List.getElem?_eq_getElem h9] at e1
          injection e1 with e1
          rw [HVV.out, ← ha] at e1
          exact (u8_succ a).2 e1⟩
        have HF := As.mk (show EN w (W.setCell ⟨g, o + 9, none⟩ (.int .u8 (V.toNat : Int))) A B [.int .u32 (T.ver : Int), .slice AI T.ins.length cI, .slice AO T.outs.length cO, .int .u32 (T.lock : Int)] [.int .u32 (T.ver : Int), .slice (some ⟨g, o, none⟩) T.ins.length dI, .slice BO T.outs.length dO, .int .u32 (T.lock : Int)] T { T with ins := T.ins.set 0 { x0 with prev := x0.prev.set 9 V } } from F9 V)
        clear c9 c34 c35 F9 F34 F35 h9 ha
        go_upto_region 9 with fail
        refine wp_region_held_drew (S := (fun V : World => V.cell? ⟨B, 1, none⟩ = some (.slice (some ⟨g, o, none⟩) T.ins.length dI))) (by kernel_rfl) ?_ (fun hHeld => ?_)
        · exact cell_of_below (below_dr W) HB1.out
        refine wpAnyH_take (i := 0) (oi := ?_) (v := ?_) (by simp only [List.getElem?_toArray, List.getElem?_cons_zero, List.getElem?_cons_succ]; rfl) (by kernel_rfl) (by kernel_rfl) (by kernel_rfl) (by exact fun _ _ _ h => h) (Or.inl ⟨by rfl, ?_⟩) (by assumption) ?_
        rotate_left
        · (intro w hSw; (try dsimp only at hSw); go_simp; first | done | with_reducible rfl)
        try simp only [Act.put, List.setIfInBounds_toArray, List.set_cons_zero, List.set_cons_succ]
        refine wpAnyH_take (i := 1) (oi := ?_) (v := ?_) (by simp only [List.getElem?_toArray, List.getElem?_cons_zero, List.getElem?_cons_succ]; rfl) (by kernel_rfl) (by kernel_rfl) (by kernel_rfl) (by exact fun _ _ _ h => h) (Or.inl ⟨by rfl, ?_⟩) (by assumption) ?_
        rotate_left
        · (intro w hSw; (try dsimp only at hSw); go_simp; first | done | with_reducible rfl)
        try simp only [Act.put, List.setIfInBounds_toArray, List.set_cons_zero, List.set_cons_succ]
        refine wpAnyH_take (i := 2) (oi := ?_) (v := ?_) (by simp only [List.getElem?_toArray, List.getElem?_cons_zero, List.getElem?_cons_succ]; rfl) (by kernel_rfl) (by kernel_rfl) (by kernel_rfl) (by exact fun _ _ _ h => h) (Or.inl ⟨by rfl, ?_⟩) (by assumption) ?_
        rotate_left
        · (intro w hSw; (try dsimp only at hSw); go_simp; first | done | with_reducible rfl)
        try simp only [Act.put, List.setIfInBounds_toArray, List.set_cons_zero, List.set_cons_succ]
        refine wpAnyH_take (i := 3) (oi := ?_) (v := ?_) (by simp only [List.getElem?_toArray, List.getElem?_cons_zero, List.getElem?_cons_succ]; rfl) (by kernel_rfl) (by kernel_rfl) (by kernel_rfl) (by exact fun _ _ _ h => h) (Or.inl ⟨by rfl, ?_⟩) (by assumption) ?_
        rotate_left
        · (intro w hSw; (try dsimp only at hSw); go_simp; first | done | with_reducible rfl)
        try simp only [Act.put, List.setIfInBounds_toArray, List.set_cons_zero, List.set_cons_succ]
        refine wpAnyH_take (i := 4) (oi := ?_) (v := ?_) (by simp only [List.getElem?_toArray, List.getElem?_cons_zero, List.getElem?_cons_succ]; rfl) (by kernel_rfl) (by kernel_rfl) (by kernel_rfl) (by exact fun _ _ _ h => h) (Or.inl ⟨by rfl, ?_⟩) (by assumption) ?_
        rotate_left
        · (intro w hSw; (try dsimp only at hSw); go_simp; first | done | with_reducible rfl)
        try simp only [Act.put, List.setIfInBounds_toArray, List.set_cons_zero, List.set_cons_succ]
        refine wpAnyH_take (i := 7) (oi := ?_) (v := ?_) (by simp only [List.getElem?_toArray, List.getElem?_cons_zero, List.getElem?_cons_succ]; rfl) (by kernel_rfl) (by kernel_rfl) (by kernel_rfl) (by exact fun _ _ _ h => h) (Or.inl ⟨by rfl, ?_⟩) (by assumption) ?_
        rotate_left
        · (intro w hSw; (try dsimp only at hSw); go_simp; first | done | with_reducible rfl)
        try simp only [Act.put, List.setIfInBounds_toArray, List.set_cons_zero, List.set_cons_succ]
        refine wpAnyH_take (i := 8) (oi := ?_) (v := ?_) (by simp only [List.getElem?_toArray, List.getElem?_cons_zero, List.getElem?_cons_succ]; rfl) (by kernel_rfl) (by kernel_rfl) (by kernel_rfl) (by exact fun _ _ _ h => h) (Or.inl ⟨by rfl, ?_⟩) (by assumption) ?_
        rotate_left
        · (intro w hSw; (try dsimp only at hSw); go_simp; first | done | with_reducible rfl)
        try simp only [Act.put, List.setIfInBounds_toArray, List.set_cons_zero, List.set_cons_succ]
        refine wpAnyH_ready (rs := [5]) (by kernel_rfl) (by simp) ?_
        refine AllReadyH.cons (o := ?_) (by simp only [List.getElem?_toArray, List.getElem?_cons_zero, List.getElem?_cons_succ]; rfl) (fun K hK => ?_) ?_
        · have c9' := cell_of_below (below_dr W) HC9.out.1
          go_simp
          have hS2 := hHeld
          clear c9'
          refine hK.out _ _ ?_ (fun hHeld2 => ?_)
          · exact hS2
          clear hK K hHeld
          have hHeld := hHeld2
          clear hHeld2
          try simp only [Act.put, List.setIfInBounds_toArray, List.set_cons_zero, List.set_cons_succ]
          refine wpAnyH_take (i := 6) (oi := ?_) (v := ?_) (by simp only [List.getElem?_toArray, List.getElem?_cons_zero, List.getElem?_cons_succ]; rfl) (by kernel_rfl) (by kernel_rfl) (by kernel_rfl) (by exact fun _ _ _ h => h) (Or.inl ⟨by rfl, ?_⟩) (by assumption) ?_
          rotate_left
          · (intro w hSw; (try dsimp only at hSw); go_simp; first | done | with_reducible rfl)
          try simp only [Act.put, List.setIfInBounds_toArray, List.set_cons_zero, List.set_cons_succ]
          refine wpAnyH_take (i := 9) (oi := ?_) (v := ?_) (by simp only [List.getElem?_toArray, List.getElem?_cons_zero, List.getElem?_cons_succ]; rfl) (by kernel_rfl) (by kernel_rfl) (by kernel_rfl) (by exact fun _ _ _ h => h) (Or.inl ⟨by rfl, ?_⟩) (by assumption) ?_
          rotate_left
          · (intro w hSw; (try dsimp only at hSw); go_simp; first | done | with_reducible rfl)
          try simp only [Act.put, List.setIfInBounds_toArray, List.set_cons_zero, List.set_cons_succ]
          refine wpAnyH_ready (rs := [10]) (by kernel_rfl) (by simp) ?_
          refine AllReadyH.cons (o := ?_) (by simp only [List.getElem?_toArray, List.getElem?_cons_zero, List.getElem?_cons_succ]; rfl) (fun K hK => ?_) ?_
          · have c9' := cell_of_below (below_dr W) HC9.out.1
            have f9' : W.drew.frozen? ⟨g, o + 9, none⟩ = false := HC9.out.2
            go_simp
            have hS2 := (Box.below HF.out.2.2.1 (below_dr _)).cell 1 _ rfl
            clear c9' f9'
            refine hK.out _ _ ?_ (fun hHeld2 => ?_)
            · exact hS2
            clear hK K hHeld
            have hHeld := hHeld2
            clear hHeld2
            try simp only [Act.put, List.setIfInBounds_toArray, List.set_cons_zero, List.set_cons_succ]
            refine wpAnyH_done (by kernel_rfl) ?_ _
            clear hHeld
            go_wp2
            go_meet
            exact ⟨_, _, _, _, { T with ins := T.ins.set 0 { x0 with prev := x0.prev.set 9 V } }, ⟨ne_in HX.out.1 (fun e => HPN.out (congrArg LIn.prev e)), may_in HM.out _ ⟨HX.out.2.2.2.1, Nat.le_trans HX.out.2.2.2.2.1 (by decide), HX.out.2.2.2.2.2.1⟩, HF.out.below (below_dr _)⟩⟩
          exact AllReadyH.nil
        exact AllReadyH.nil
      · have hk : bits .and .i64 how 7 = 3 := by rw [HKM.out, h]; rfl
        obtain ⟨g, o, Aw, cw, rfl, c9, c34, c35, hgl, _, _, _, F9, F34, F35⟩ := HS1.out.ins x0 HX.out.1 HP.out
        obtain ⟨b0, b1, b2, b3⟩ := HEN.out.2.2.four
        have HSQ : As (x0.seq < 4294967296) := ⟨(HS1.out.2.1.fit.2.2.1 x0 (List.mem_of_getElem? HX.out.1)).2.2⟩
        obtain ⟨V, hV, HVV⟩ : ∃ V : Nat, IntKind.u32.wrap ((x0.seq : Int) - 1) = (V : Int) ∧ As (V < 4294967296 ∧ V ≠ x0.seq) := by
          obtain ⟨b, q1, q2, q3⟩ := u32_next x0.seq (-1) HSQ.out (.inr rfl)
          exact ⟨b, q1, ⟨q2, q3⟩⟩
        have HF := As.mk (F34 V HVV.out.1)
        obtain ⟨c34, f34⟩ := c34
        clear c9 c35 F9 F34 F35
        go_wp2
        go_meet
        exact ⟨_, _, _, _, { T with ins := T.ins.set 0 { x0 with seq := V } }, ⟨ne_in HX.out.1 (fun e => HVV.out.2 (congrArg LIn.seq e)), may_in HM.out _ ⟨HX.out.2.2.2.1, Nat.le_trans HX.out.2.2.2.2.1 (by decide), HX.out.2.2.2.2.2.1⟩, HF.out⟩⟩
      · have hk : bits .and .i64 how 7 = 4 := by rw [HKM.out, h]; rfl
        obtain ⟨g, o, s, mid, rfl, c0, f0, c1, f1, hgl, _, _, _, F0, F1⟩ := HS1.out.outs y0 HX.out.2.1
        obtain ⟨b0, b1, b2, b3⟩ := HEN.out.2.2.four
        obtain ⟨V, hV, HVV⟩ : ∃ V : Nat, IntKind.u64.wrap ((y0.value : Int) + 1) = (V : Int) ∧ As (V < 18446744073709551616 ∧ V ≠ y0.value) := by
          obtain ⟨b, q1, q2, q3⟩ := u64_next y0.value (HS1.out.2.1.fit.2.2.2 y0 (List.mem_of_getElem? HX.out.2.1))
          exact ⟨b, q1, ⟨q2, q3⟩⟩
        have HF := As.mk (F0 V HVV.out.1)
        clear c1 f1 F0 F1
        go_wp2
        go_meet
        exact ⟨_, _, _, _, { T with outs := T.outs.set 0 { y0 with value := V } }, ⟨ne_out HX.out.2.1 (fun e => HVV.out.2 (congrArg LOut.value e)), may_out HM.out _ (Nat.le_trans HX.out.2.2.2.2.2.2 (by decide)), HF.out⟩⟩
      · have hk : bits .and .i64 how 7 = 5 := by rw [HKM.out, h]; rfl
        obtain ⟨g, o, s, mid, rfl, c0, f0, c1, f1, hgl, _, hmid, hsc, F0, F1⟩ := HS1.out.outs y0 HX.out.2.1
        have HBB : As (Box W B #[.int .u32 (T.ver : Int), .slice BI T.ins.length dI, .slice (some ⟨g, o, none⟩) T.outs.length dO, .int .u32 (T.lock : Int)] 51) := ⟨HEN.out.2.2.1⟩
        have HB1 : As (W.cell? ⟨B, 2, none⟩ = some (.slice (some ⟨g, o, none⟩) T.outs.length dO)) := ⟨HBB.out.cell 2 _ rfl⟩
        have HCQ := As.mk (And.intro c1 f1)
        have HSC := As.mk (And.intro hsc hmid)
        have HFF := As.mk F1
        have HKD : As (Kd W (some g) 57) := ⟨HS1.out.kdO⟩
        clear c0 f0 c1 f1 F0 F1 hsc hmid
        go_upto_region 15 with fail
        apply late_cut
        case main =>
          intro hTail
          refine wp_region_held_drew (S := (fun V : World => V.cell? ⟨B, 2, none⟩ = some (.slice (some ⟨g, o, none⟩) T.outs.length dO))) (by kernel_rfl) ?_ (fun hHeld => ?_)
          · exact cell_of_below (below_dr W) HB1.out
          refine wpAnyH_take (i := 0) (oi := ?_) (v := ?_) (by simp only [List.getElem?_toArray, List.getElem?_cons_zero, List.getElem?_cons_succ]; rfl) (by kernel_rfl) (by kernel_rfl) (by kernel_rfl) (by exact fun _ _ _ h => h) (Or.inl ⟨by rfl, ?_⟩) (by assumption) ?_
          rotate_left
          · (intro w hSw; (try dsimp only at hSw); go_simp; first | done | with_reducible rfl)
          try simp only [Act.put, List.setIfInBounds_toArray, List.set_cons_zero, List.set_cons_succ]
          refine wpAnyH_take (i := 1) (oi := ?_) (v := ?_) (by simp only [List.getElem?_toArray, List.getElem?_cons_zero, List.getElem?_cons_succ]; rfl) (by kernel_rfl) (by kernel_rfl) (by kernel_rfl) (by exact fun _ _ _ h => h) (Or.inl ⟨by rfl, ?_⟩) (by assumption) ?_
          rotate_left
          · (intro w hSw; (try dsimp only at hSw); go_simp; first | done | with_reducible rfl)
          try simp only [Act.put, List.setIfInBounds_toArray, List.set_cons_zero, List.set_cons_succ]
          refine wpAnyH_take (i := 2) (oi := ?_) (v := ?_) (by simp only [List.getElem?_toArray, List.getElem?_cons_zero, List.getElem?_cons_succ]; rfl) (by kernel_rfl) (by kernel_rfl) (by kernel_rfl) (by exact fun _ _ _ h => h) (Or.inl ⟨by rfl, ?_⟩) (by assumption) ?_
          rotate_left
          · (intro w hSw; (try dsimp only at hSw); go_simp; first | done | with_reducible rfl)
          try simp only [Act.put, List.setIfInBounds_toArray, List.set_cons_zero, List.set_cons_succ]
          refine wpAnyH_take (i := 3) (oi := ?_) (v := ?_) (by simp only [List.getElem?_toArray, List.getElem?_cons_zero, List.getElem?_cons_succ]; rfl) (by kernel_rfl) (by kernel_rfl) (by kernel_rfl) (by exact fun _ _ _ h => h) (Or.inl ⟨by rfl, ?_⟩) (by assumption) ?_
          rotate_left
          · (intro w hSw; (try dsimp only at hSw); go_simp; first | done | with_reducible rfl)
          try simp only [Act.put, List.setIfInBounds_toArray, List.set_cons_zero, List.set_cons_succ]
          refine wpAnyH_take (i := 4) (oi := ?_) (v := ?_) (by simp only [List.getElem?_toArray, List.getElem?_cons_zero, List.getElem?_cons_succ]; rfl) (by kernel_rfl) (by kernel_rfl) (by kernel_rfl) (by exact fun _ _ _ h => h) (Or.inl ⟨by rfl, ?_⟩) (by assumption) ?_
          rotate_left
          · (intro w hSw; (try dsimp only at hSw); go_simp; first | done | with_reducible rfl)
          try simp only [Act.put, List.setIfInBounds_toArray, List.set_cons_zero, List.set_cons_succ]
          refine wpAnyH_take (i := 5) (oi := ?_) (v := ?_) (by simp only [List.getElem?_toArray, List.getElem?_cons_zero, List.getElem?_cons_succ]; rfl) (by kernel_rfl) (by kernel_rfl) (by kernel_rfl) (by exact fun _ _ _ h => h) (Or.inl ⟨by rfl, ?_⟩) (by assumption) ?_
          rotate_left
          · (intro w hSw; (try dsimp only at hSw); go_simp; first | done | with_reducible rfl)
          try simp only [Act.put, List.setIfInBounds_toArray, List.set_cons_zero, List.set_cons_succ]
          refine wpAnyH_ready (rs := [6, 7]) (by kernel_rfl) (by simp) ?_
          refine AllReadyH.cons (o := ?_) (by simp only [List.getElem?_toArray, List.getElem?_cons_zero, List.getElem?_cons_succ]; rfl) (fun K hK => ?_) ?_
          · have c1' := cell_of_below (below_dr W) HCQ.out.1
            go_simp
            have hS2 := hHeld
            clear c1'
            refine hK.out _ _ ?_ (fun hHeld2 => ?_)
            · exact hS2
            clear hK K hHeld
            have hHeld := hHeld2
            clear hHeld2
            try simp only [Act.put, List.setIfInBounds_toArray, List.set_cons_zero, List.set_cons_succ]
            refine wpAnyH_ready (rs := [7]) (by kernel_rfl) (by simp) ?_
            refine AllReadyH.cons (o := ?_) (by simp only [List.getElem?_toArray, List.getElem?_cons_zero, List.getElem?_cons_succ]; rfl) (fun K hK => ?_) ?_
            · go_simp
              have hS2 := cell_of_below (below_dr (W.alloc (.cells #[.int .u8 7] 5))) (cell_of_below (below_al W (.cells #[.int .u8 7] 5)) HB1.out)
              refine hK.out _ _ ?_ (fun hHeld2 => ?_)
              · exact hS2
              clear hK K hHeld
              have hHeld := hHeld2
              clear hHeld2
              try simp only [Act.put, List.setIfInBounds_toArray, List.set_cons_zero, List.set_cons_succ]
              revert hHeld
              exact hTail.out
            exact AllReadyH.nil
          refine AllReadyH.cons (o := ?_) (by simp only [List.getElem?_toArray, List.getElem?_cons_zero, List.getElem?_cons_succ]; rfl) (fun K hK => ?_) ?_
          · go_simp
            have hS2 := cell_of_below (below_dr (W.alloc (.cells #[.int .u8 7] 5))) (cell_of_below (below_al W (.cells #[.int .u8 7] 5)) HB1.out)
            refine hK.out _ _ ?_ (fun hHeld2 => ?_)
            · exact hS2
            clear hK K hHeld
            have hHeld := hHeld2
            clear hHeld2
            try simp only [Act.put, List.setIfInBounds_toArray, List.set_cons_zero, List.set_cons_succ]
            refine wpAnyH_ready (rs := [6]) (by kernel_rfl) (by simp) ?_
            refine AllReadyH.cons (o := ?_) (by simp only [List.getElem?_toArray, List.getElem?_cons_zero, List.getElem?_cons_succ]; rfl) (fun K hK => ?_) ?_
            · have c1' := cell_of_below (below_dr (W.alloc (.cells #[.int .u8 7] 5))) (cell_of_below (below_al W (.cells #[.int .u8 7] 5)) HCQ.out.1)
              go_simp
              have hS2 := hHeld
              clear c1'
              refine hK.out _ _ ?_ (fun hHeld2 => ?_)
              · exact hS2
              clear hK K hHeld
              have hHeld := hHeld2
              clear hHeld2
              try simp only [Act.put, List.setIfInBounds_toArray, List.set_cons_zero, List.set_cons_succ]
              revert hHeld
              exact hTail.out
            exact AllReadyH.nil
          exact AllReadyH.nil
        case tail =>
          intro hHeld
          refine wpAnyH_ready (rs := [8]) (by kernel_rfl) (by simp) ?_
          refine AllReadyH.cons (o := ?_) (by simp only [List.getElem?_toArray, List.getElem?_cons_zero, List.getElem?_cons_succ]; rfl) (fun K hK => ?_) ?_
          · have HBL : As (Below W.heap.size W (W.alloc (.cells #[.int .u8 7] 5)).drew) := ⟨(below_al W _).trans ((below_dr (W.alloc (.cells #[.int .u8 7] 5))).mono (below_al W _).size)⟩
            refine step_appC mid ?hgd (.tmp 75) (.tmp 76) ?ho s ?hs (.slice (some ⟨W.heap.size, 0, none⟩) 1 1) ?hx y0.script [7] (HSC.out.1.below HBL.out) (RdS.below (RdB.one W 5 7 7 rfl) (below_dr (W.alloc (.cells #[.int .u8 7] 5)))) (by decide) ?hl (Nat.le_trans HSC.out.2 HBL.out.size) ?_
            case hgd => rfl
            case ho => rfl
            case hs => rfl
            case hx => rfl
            case hl => have := HX.out.2.2.2.2.2.2; simp; omega
            intro v4 w4 row ho hg hr hk
            obtain ⟨A4, c4, rfl⟩ := RdB.formN (n := y0.script.length + 1) ho.rd (by simp)
            have hg4 := grown_pre HBL.out hg
            have hk4 := Kd.back hk HBL.out (fun j hj => (OwC.lt HSC.out.1 j (hr j hj)).2)
            have HF := As.mk (HFF.out w4 row _ hg4 hr hk4 ho)
            have HCR := As.mk (Kd.cell HKD.out hg4 hk4 (by decide) (o + 1))
            have hS2 := (Box.apartO HBB.out hg4 hk4 (by decide)).cell 2 _ rfl
            clear ho hg hr hk hg4 hk4
            refine hK.out _ _ ?_ (fun hHeld2 => ?_)
            · exact hS2
            clear hK K hHeld
            have hHeld := hHeld2
            clear hHeld2
            try simp only [Act.put, List.setIfInBounds_toArray, List.set_cons_zero, List.set_cons_succ]
            refine wpAnyH_take (i := 9) (oi := ?_) (v := ?_) (by simp only [List.getElem?_toArray, List.getElem?_cons_zero, List.getElem?_cons_succ]; rfl) (by kernel_rfl) (by kernel_rfl) (by kernel_rfl) (by exact fun _ _ _ h => h) (Or.inl ⟨by rfl, ?_⟩) (by assumption) ?_
            rotate_left
            · (intro w hSw; (try dsimp only at hSw); go_simp; first | done | with_reducible rfl)
            try simp only [Act.put, List.setIfInBounds_toArray, List.set_cons_zero, List.set_cons_succ]
            refine wpAnyH_take (i := 10) (oi := ?_) (v := ?_) (by simp only [List.getElem?_toArray, List.getElem?_cons_zero, List.getElem?_cons_succ]; rfl) (by kernel_rfl) (by kernel_rfl) (by kernel_rfl) (by exact fun _ _ _ h => h) (Or.inl ⟨by rfl, ?_⟩) (by assumption) ?_
            rotate_left
            · (intro w hSw; (try dsimp only at hSw); go_simp; first | done | with_reducible rfl)
            try simp only [Act.put, List.setIfInBounds_toArray, List.set_cons_zero, List.set_cons_succ]
            refine wpAnyH_ready (rs := [11]) (by kernel_rfl) (by simp) ?_
            refine AllReadyH.cons (o := ?_) (by simp only [List.getElem?_toArray, List.getElem?_cons_zero, List.getElem?_cons_succ]; rfl) (fun K hK => ?_) ?_
            · have c4 : w4.cell? ⟨g, o + 1, none⟩ = some s := HCR.out.1.trans HCQ.out.1
              have f4 : w4.frozen? ⟨g, o + 1, none⟩ = false := HCR.out.2.trans HCQ.out.2
              go_simp
              have hS2 := HF.out.2.2.1.cell 2 _ rfl
              clear c4 f4
              refine hK.out _ _ ?_ (fun hHeld2 => ?_)
              · exact hS2
              clear hK K hHeld
              have hHeld := hHeld2
              clear hHeld2
              try simp only [Act.put, List.setIfInBounds_toArray, List.set_cons_zero, List.set_cons_succ]
              refine wpAnyH_done (by kernel_rfl) ?_ _
              clear hHeld
              go_wp2
              go_meet
              exact ⟨_, _, _, _, { T with outs := T.outs.set 0 { y0 with script := y0.script ++ [7] } }, ⟨ne_out HX.out.2.1 (fun e => by have := congrArg (fun x => x.script.length) e; simp at this), may_out HM.out _ (by have := HX.out.2.2.2.2.2.2; unfold okOut; simp; omega), HF.out⟩⟩
            exact AllReadyH.nil
          exact AllReadyH.nil
      · have hk : bits .and .i64 how 7 = 6 := by rw [HKM.out, h]; rfl
        obtain ⟨g, o, Aw, cw, rfl, c9, c34, c35, hgl, hrow, _, hsz, F9, F34, F35⟩ := HS1.out.ins x0 HX.out.1 HP.out
        have HBB : As (Box W B #[.int .u32 (T.ver : Int), .slice (some ⟨g, o, none⟩) T.ins.length dI, .slice BO T.outs.length dO, .int .u32 (T.lock : Int)] 51) := ⟨HEN.out.2.2.1⟩
        have HB1 : As (W.cell? ⟨B, 1, none⟩ = some (.slice (some ⟨g, o, none⟩) T.ins.length dI)) := ⟨HBB.out.cell 1 _ rfl⟩
        have HCQ := As.mk c35
        have HSC := As.mk (And.intro hrow hsz)
        have HFF := As.mk F35
        have HKD : As (Kd W (some g) 55) := ⟨HS1.out.kdI⟩
        clear c9 c34 c35 F9 F34 F35 hrow hsz
        go_upto_region 17 with fail
        apply late_cut
        case main =>
          intro hTail
          refine wp_region_held_drew (S := (fun V : World => V.cell? ⟨B, 1, none⟩ = some (.slice (some ⟨g, o, none⟩) T.ins.length dI))) (by kernel_rfl) ?_ (fun hHeld => ?_)
          · exact cell_of_below (below_dr W) HB1.out
          refine wpAnyH_take (i := 0) (oi := ?_) (v := ?_) (by simp only [List.getElem?_toArray, List.getElem?_cons_zero, List.getElem?_cons_succ]; rfl) (by kernel_rfl) (by kernel_rfl) (by kernel_rfl) (by exact fun _ _ _ h => h) (Or.inl ⟨by rfl, ?_⟩) (by assumption) ?_
          rotate_left
          · (intro w hSw; (try dsimp only at hSw); go_simp; first | done | with_reducible rfl)
          try simp only [Act.put, List.setIfInBounds_toArray, List.set_cons_zero, List.set_cons_succ]
          refine wpAnyH_take (i := 1) (oi := ?_) (v := ?_) (by simp only [List.getElem?_toArray, List.getElem?_cons_zero, List.getElem?_cons_succ]; rfl) (by kernel_rfl) (by kernel_rfl) (by kernel_rfl) (by exact fun _ _ _ h => h) (Or.inl ⟨by rfl, ?_⟩) (by assumption) ?_
          rotate_left
          · (intro w hSw; (try dsimp only at hSw); go_simp; first | done | with_reducible rfl)
          try simp only [Act.put, List.setIfInBounds_toArray, List.set_cons_zero, List.set_cons_succ]
          refine wpAnyH_take (i := 2) (oi := ?_) (v := ?_) (by simp only [List.getElem?_toArray, List.getElem?_cons_zero, List.getElem?_cons_succ]; rfl) (by kernel_rfl) (by kernel_rfl) (by kernel_rfl) (by exact fun _ _ _ h => h) (Or.inl ⟨by rfl, ?_⟩) (by assumption) ?_
          rotate_left
          · (intro w hSw; (try dsimp only at hSw); go_simp; first | done | with_reducible rfl)
          try simp only [Act.put, List.setIfInBounds_toArray, List.set_cons_zero, List.set_cons_succ]
          refine wpAnyH_take (i := 3) (oi := ?_) (v := ?_) (by simp only [List.getElem?_toArray, List.getElem?_cons_zero, List.getElem?_cons_succ]; rfl) (by kernel_rfl) (by kernel_rfl) (by kernel_rfl) (by exact fun _ _ _ h => h) (Or.inl ⟨by rfl, ?_⟩) (by assumption) ?_
          rotate_left
          · (intro w hSw; (try dsimp only at hSw); go_simp; first | done | with_reducible rfl)
          try simp only [Act.put, List.setIfInBounds_toArray, List.set_cons_zero, List.set_cons_succ]
          refine wpAnyH_take (i := 4) (oi := ?_) (v := ?_) (by simp only [List.getElem?_toArray, List.getElem?_cons_zero, List.getElem?_cons_succ]; rfl) (by kernel_rfl) (by kernel_rfl) (by kernel_rfl) (by exact fun _ _ _ h => h) (Or.inl ⟨by rfl, ?_⟩) (by assumption) ?_
          rotate_left
          · (intro w hSw; (try dsimp only at hSw); go_simp; first | done | with_reducible rfl)
          try simp only [Act.put, List.setIfInBounds_toArray, List.set_cons_zero, List.set_cons_succ]
          refine wpAnyH_take (i := 5) (oi := ?_) (v := ?_) (by simp only [List.getElem?_toArray, List.getElem?_cons_zero, List.getElem?_cons_succ]; rfl) (by kernel_rfl) (by kernel_rfl) (by kernel_rfl) (by exact fun _ _ _ h => h) (Or.inl ⟨by rfl, ?_⟩) (by assumption) ?_
          rotate_left
          · (intro w hSw; (try dsimp only at hSw); go_simp; first | done | with_reducible rfl)
          try simp only [Act.put, List.setIfInBounds_toArray, List.set_cons_zero, List.set_cons_succ]
          refine wpAnyH_ready (rs := [6, 7]) (by kernel_rfl) (by simp) ?_
          refine AllReadyH.cons (o := ?_) (by simp only [List.getElem?_toArray, List.getElem?_cons_zero, List.getElem?_cons_succ]; rfl) (fun K hK => ?_) ?_
          · have c35' := cell_of_below (below_dr W) (HCQ.out.1)
            go_simp
            have hS2 := hHeld
            clear c35'
            refine hK.out _ _ ?_ (fun hHeld2 => ?_)
            · exact hS2
            clear hK K hHeld
            have hHeld := hHeld2
            clear hHeld2
            try simp only [Act.put, List.setIfInBounds_toArray, List.set_cons_zero, List.set_cons_succ]
            refine wpAnyH_ready (rs := [7]) (by kernel_rfl) (by simp) ?_
            refine AllReadyH.cons (o := ?_) (by simp only [List.getElem?_toArray, List.getElem?_cons_zero, List.getElem?_cons_succ]; rfl) (fun K hK => ?_) ?_
            · go_simp
              have hS2 := cell_of_below (below_dr (W.alloc (.cells #[.int .u8 1] 5))) (cell_of_below (below_al W (.cells #[.int .u8 1] 5)) (HB1.out))
              refine hK.out _ _ ?_ (fun hHeld2 => ?_)
              · exact hS2
              clear hK K hHeld
              have hHeld := hHeld2
              clear hHeld2
              try simp only [Act.put, List.setIfInBounds_toArray, List.set_cons_zero, List.set_cons_succ]
              refine wpAnyH_ready (rs := [8]) (by kernel_rfl) (by simp) ?_
              refine AllReadyH.cons (o := ?_) (by simp only [List.getElem?_toArray, List.getElem?_cons_zero, List.getElem?_cons_succ]; rfl) (fun K hK => ?_) ?_
              · go_simp
                have hS2 := cell_of_below (below_dr ((W.alloc (.cells #[.int .u8 1] 5)).alloc (.cells #[.slice (some ⟨W.heap.size, 0, none⟩) 1 1] 24))) (cell_of_below (below_al (W.alloc (.cells #[.int .u8 1] 5)) (.cells #[.slice (some ⟨W.heap.size, 0, none⟩) 1 1] 24)) (cell_of_below (below_al W (.cells #[.int .u8 1] 5)) (HB1.out)))
                refine hK.out _ _ ?_ (fun hHeld2 => ?_)
                · exact hS2
                clear hK K hHeld
                have hHeld := hHeld2
                clear hHeld2
                try simp only [Act.put, List.setIfInBounds_toArray, List.set_cons_zero, List.set_cons_succ]
                revert hHeld
                exact hTail.out
              exact AllReadyH.nil
            exact AllReadyH.nil
          refine AllReadyH.cons (o := ?_) (by simp only [List.getElem?_toArray, List.getElem?_cons_zero, List.getElem?_cons_succ]; rfl) (fun K hK => ?_) ?_
          · go_simp
            have hS2 := cell_of_below (below_dr (W.alloc (.cells #[.int .u8 1] 5))) (cell_of_below (below_al W (.cells #[.int .u8 1] 5)) (HB1.out))
            refine hK.out _ _ ?_ (fun hHeld2 => ?_)
            · exact hS2
            clear hK K hHeld
            have hHeld := hHeld2
            clear hHeld2
            try simp only [Act.put, List.setIfInBounds_toArray, List.set_cons_zero, List.set_cons_succ]
            refine wpAnyH_ready (rs := [6, 8]) (by kernel_rfl) (by simp) ?_
            refine AllReadyH.cons (o := ?_) (by simp only [List.getElem?_toArray, List.getElem?_cons_zero, List.getElem?_cons_succ]; rfl) (fun K hK => ?_) ?_
            · have c35' := cell_of_below (below_dr (W.alloc (.cells #[.int .u8 1] 5))) (cell_of_below (below_al W (.cells #[.int .u8 1] 5)) (HCQ.out.1))
              go_simp
              have hS2 := hHeld
              clear c35'
              refine hK.out _ _ ?_ (fun hHeld2 => ?_)
              · exact hS2
              clear hK K hHeld
              have hHeld := hHeld2
              clear hHeld2
              try simp only [Act.put, List.setIfInBounds_toArray, List.set_cons_zero, List.set_cons_succ]
              refine wpAnyH_ready (rs := [8]) (by kernel_rfl) (by simp) ?_
              refine AllReadyH.cons (o := ?_) (by simp only [List.getElem?_toArray, List.getElem?_cons_zero, List.getElem?_cons_succ]; rfl) (fun K hK => ?_) ?_
              · go_simp
                have hS2 := cell_of_below (below_dr ((W.alloc (.cells #[.int .u8 1] 5)).alloc (.cells #[.slice (some ⟨W.heap.size, 0, none⟩) 1 1] 24))) (cell_of_below (below_al (W.alloc (.cells #[.int .u8 1] 5)) (.cells #[.slice (some ⟨W.heap.size, 0, none⟩) 1 1] 24)) (cell_of_below (below_al W (.cells #[.int .u8 1] 5)) (HB1.out)))
                refine hK.out _ _ ?_ (fun hHeld2 => ?_)
                · exact hS2
                clear hK K hHeld
                have hHeld := hHeld2
                clear hHeld2
                try simp only [Act.put, List.setIfInBounds_toArray, List.set_cons_zero, List.set_cons_succ]
                revert hHeld
                exact hTail.out
              exact AllReadyH.nil
            refine AllReadyH.cons (o := ?_) (by simp only [List.getElem?_toArray, List.getElem?_cons_zero, List.getElem?_cons_succ]; rfl) (fun K hK => ?_) ?_
            · go_simp
              have hS2 := cell_of_below (below_dr ((W.alloc (.cells #[.int .u8 1] 5)).alloc (.cells #[.slice (some ⟨W.heap.size, 0, none⟩) 1 1] 24))) (cell_of_below (below_al (W.alloc (.cells #[.int .u8 1] 5)) (.cells #[.slice (some ⟨W.heap.size, 0, none⟩) 1 1] 24)) (cell_of_below (below_al W (.cells #[.int .u8 1] 5)) (HB1.out)))
              refine hK.out _ _ ?_ (fun hHeld2 => ?_)
              · exact hS2
              clear hK K hHeld
              have hHeld := hHeld2
              clear hHeld2
              try simp only [Act.put, List.setIfInBounds_toArray, List.set_cons_zero, List.set_cons_succ]
              refine wpAnyH_ready (rs := [6]) (by kernel_rfl) (by simp) ?_
              refine AllReadyH.cons (o := ?_) (by simp only [List.getElem?_toArray, List.getElem?_cons_zero, List.getElem?_cons_succ]; rfl) (fun K hK => ?_) ?_
              · have c35' := cell_of_below (below_dr ((W.alloc (.cells #[.int .u8 1] 5)).alloc (.cells #[.slice (some ⟨W.heap.size, 0, none⟩) 1 1] 24))) (cell_of_below (below_al (W.alloc (.cells #[.int .u8 1] 5)) (.cells #[.slice (some ⟨W.heap.size, 0, none⟩) 1 1] 24)) (cell_of_below (below_al W (.cells #[.int .u8 1] 5)) (HCQ.out.1)))
                go_simp
                have hS2 := hHeld
                clear c35'
                refine hK.out _ _ ?_ (fun hHeld2 => ?_)
                · exact hS2
                clear hK K hHeld
                have hHeld := hHeld2
                clear hHeld2
                try simp only [Act.put, List.setIfInBounds_toArray, List.set_cons_zero, List.set_cons_succ]
                revert hHeld
                exact hTail.out
              exact AllReadyH.nil
            exact AllReadyH.nil
          exact AllReadyH.nil
        case tail =>
          intro hHeld
          refine wpAnyH_ready (rs := [9]) (by kernel_rfl) (by simp) ?_
          refine AllReadyH.cons (o := ?_) (by simp only [List.getElem?_toArray, List.getElem?_cons_zero, List.getElem?_cons_succ]; rfl) (fun K hK => ?_) ?_
          · have HBL : As (Below W.heap.size W ((W.alloc (.cells #[.int .u8 1] 5)).alloc (.cells #[.slice (some ⟨W.heap.size, 0, none⟩) 1 1] 24)).drew) := ⟨(below_al W _).trans (((below_al (W.alloc (.cells #[.int .u8 1] 5)) _).mono (below_al W (.cells #[.int .u8 1] 5)).size).trans ((below_dr ((W.alloc (.cells #[.int .u8 1] 5)).alloc (.cells #[.slice (some ⟨W.heap.size, 0, none⟩) 1 1] 24))).mono (Nat.le_trans (below_al W (.cells #[.int .u8 1] 5)).size (below_al (W.alloc (.cells #[.int .u8 1] 5)) _).size)))⟩
            have HBX : As (Box ((W.alloc (.cells #[.int .u8 1] 5)).alloc (.cells #[.slice (some ⟨W.heap.size, 0, none⟩) 1 1] 24)).drew (W.heap.size + 1) #[.slice (some ⟨W.heap.size, 0, none⟩) 1 1] 24) := ⟨by have h := Box.below (Box.new (W.alloc (.cells #[.int .u8 1] 5)) #[.slice (some ⟨W.heap.size, 0, none⟩) 1 1] 24) (below_dr _); simpa using h⟩
            have HIT : As (OwB ((W.alloc (.cells #[.int .u8 1] 5)).alloc (.cells #[.slice (some ⟨W.heap.size, 0, none⟩) 1 1] 24)).drew W.heap.size 5 (.slice (some ⟨W.heap.size, 0, none⟩) 1 1) [1]) := ⟨OwS.below (OwS.below (owB_lit W 1 #[.int .u8 1] [1] rfl rfl (by decide)) (below_al _ _)) (below_dr _)⟩
            have HELc : As (El ((W.alloc (.cells #[.int .u8 1] 5)).alloc (.cells #[.slice (some ⟨W.heap.size, 0, none⟩) 1 1] 24)).drew w1.heap.size (Value.slice Aw x0.wit.length cw).ownBlock (.slice (some ⟨W.heap.size, 0, none⟩) 1 1) [1]) := ⟨OwS.mono HIT.out HSC.out.2, fun j hj e => by have := (OwW.lt HSC.out.1 j e).2; simp [Value.ownBlock] at hj; omega⟩
            have HWc := As.mk (OwW.below HSC.out.1 HBL.out)
            refine step_appW w1.heap.size ?hgd (.tmp 88) (.tmp 90) ?ho (.slice Aw x0.wit.length cw) ?hs (W.heap.size + 1) ?hx (.slice (some ⟨W.heap.size, 0, none⟩) 1 1) HBX.out rfl x0.wit [1] HWc.out HELc.out ?hl (Nat.le_trans HSC.out.2 HBL.out.size) ?_
            case hgd => rfl
            case ho => rfl
            case hs => rfl
            case hx => rfl
            case hl => have := HX.out.2.2.2.2.1; omega
            intro v4 w4 ho hg
            obtain ⟨A4, c4, h4⟩ := OwW.form ho
            rw [List.length_append, List.length_singleton] at h4
            subst h4
            have hg4 := grown_pre HBL.out hg
            have hk4 := HSC.out.1.kd
            have HF := As.mk (HFF.out w4 _ hg4 ho)
            have HCR := As.mk (Kd.cell HKD.out hg4 hk4 (by decide) (o + 35))
            have hS2 := (Box.apartO HBB.out hg4 hk4 (by decide)).cell 1 _ rfl
            clear ho hg hg4 hk4
            refine hK.out _ _ ?_ (fun hHeld2 => ?_)
            · exact hS2
            clear hK K hHeld
            have hHeld := hHeld2
            clear hHeld2
            try simp only [Act.put, List.setIfInBounds_toArray, List.set_cons_zero, List.set_cons_succ]
            refine wpAnyH_take (i := 10) (oi := ?_) (v := ?_) (by simp only [List.getElem?_toArray, List.getElem?_cons_zero, List.getElem?_cons_succ]; rfl) (by kernel_rfl) (by kernel_rfl) (by kernel_rfl) (by exact fun _ _ _ h => h) (Or.inl ⟨by rfl, ?_⟩) (by assumption) ?_
            rotate_left
            · (intro w hSw; (try dsimp only at hSw); go_simp; first | done | with_reducible rfl)
            try simp only [Act.put, List.setIfInBounds_toArray, List.set_cons_zero, List.set_cons_succ]
            refine wpAnyH_take (i := 11) (oi := ?_) (v := ?_) (by simp only [List.getElem?_toArray, List.getElem?_cons_zero, List.getElem?_cons_succ]; rfl) (by kernel_rfl) (by kernel_rfl) (by kernel_rfl) (by exact fun _ _ _ h => h) (Or.inl ⟨by rfl, ?_⟩) (by assumption) ?_
            rotate_left
            · (intro w hSw; (try dsimp only at hSw); go_simp; first | done | with_reducible rfl)
            try simp only [Act.put, List.setIfInBounds_toArray, List.set_cons_zero, List.set_cons_succ]
            refine wpAnyH_ready (rs := [12]) (by kernel_rfl) (by simp) ?_
            refine AllReadyH.cons (o := ?_) (by simp only [List.getElem?_toArray, List.getElem?_cons_zero, List.getElem?_cons_succ]; rfl) (fun K hK => ?_) ?_
            · have c4 := HCR.out.1.trans HCQ.out.1
              have f4 := HCR.out.2.trans HCQ.out.2
              go_simp
              have hS2 := HF.out.2.2.1.cell 1 _ rfl
              clear c4 f4
              refine hK.out _ _ ?_ (fun hHeld2 => ?_)
              · exact hS2
              clear hK K hHeld
              have hHeld := hHeld2
              clear hHeld2
              try simp only [Act.put, List.setIfInBounds_toArray, List.set_cons_zero, List.set_cons_succ]
              refine wpAnyH_done (by kernel_rfl) ?_ _
              clear hHeld
              go_wp2
              go_meet
              exact ⟨_, _, _, _, { T with ins := T.ins.set 0 { x0 with wit := x0.wit ++ [[1]] } }, ⟨ne_in HX.out.1 (fun e => by have := congrArg (fun x => x.wit.length) e; simp at this), may_in HM.out _ (okIn_wit HX.out.2.2.2.1 HX.out.2.2.2.2.1 HX.out.2.2.2.2.2.1), HF.out⟩⟩
            exact AllReadyH.nil
          exact AllReadyH.nil
    case rest =>
      obtain ⟨v0, v1, v2, v3, u, HU⟩ := hcut
      have d1 : decide (T = u) = false := decide_eq_false (fun e => HU.out.1 e.symm)
      have d2 : decide (u = T) = false := decide_eq_false HU.out.1
      have d3 : decide (T = T) = true := decide_eq_true rfl
      obtain ⟨x1, hx1⟩ : ∃ x, bytesT T = x := ⟨_, rfl⟩
      obtain ⟨x2, hx2⟩ : ∃ x, bytesT u = x := ⟨_, rfl⟩
      have d4 : (x1 == x2) = false := by rw [← hx1, ← hx2]; exact bytes_ne HM.out HU.out.2.1 (EN.txA HU.out.2.2) (EN.txB HU.out.2.2) HU.out.1
      have HBT := As.mk hx1
      have HBU := As.mk hx2
      have HW := As.mk HU.out.2.2
      clear hx1 hx2 HU HEN HS1
      go_upto_region 18 with fail
      refine wp_region_held_drew (S := (fun V : World => EN w V A B [.int .u32 (T.ver : Int), .slice AI T.ins.length cI, .slice AO T.outs.length cO, .int .u32 (T.lock : Int)] [v0, v1, v2, v3] T u)) (by kernel_rfl) ?_ (fun hHeld => ?_)
      · exact EN.below HW.out (below_dr _)
      refine wpAnyH_take (i := 0) (oi := ?_) (v := ?_) (by simp only [List.getElem?_toArray, List.getElem?_cons_zero, List.getElem?_cons_succ]; rfl) (by kernel_rfl) (by kernel_rfl) (by kernel_rfl) (by exact fun _ _ _ h => h) (Or.inl ⟨by rfl, ?_⟩) (by assumption) ?_
      rotate_left
      · (intro w hSw; (try dsimp only at hSw); obtain ⟨q0, q1, q2, q3⟩ := hSw.2.1.four; obtain ⟨r0, r1, r2, r3⟩ := hSw.2.2.four; clear hSw; go_simp; first | done | with_reducible rfl)
      try simp only [Act.put, List.setIfInBounds_toArray, List.set_cons_zero, List.set_cons_succ]
      refine wpAnyH_take (i := 1) (oi := ?_) (v := ?_) (by simp only [List.getElem?_toArray, List.getElem?_cons_zero, List.getElem?_cons_succ]; rfl) (by kernel_rfl) (by kernel_rfl) (by kernel_rfl) (by exact fun _ _ _ h => h) (Or.inl ⟨by rfl, ?_⟩) (by assumption) ?_
      rotate_left
      · (intro w hSw; (try dsimp only at hSw); obtain ⟨q0, q1, q2, q3⟩ := hSw.2.1.four; obtain ⟨r0, r1, r2, r3⟩ := hSw.2.2.four; clear hSw; go_simp; first | done | with_reducible rfl)
      try simp only [Act.put, List.setIfInBounds_toArray, List.set_cons_zero, List.set_cons_succ]
      refine wpAnyH_ready (rs := [2]) (by kernel_rfl) (by simp) ?_
      refine AllReadyH.cons (o := ?_) (by simp only [List.getElem?_toArray, List.getElem?_cons_zero, List.getElem?_cons_succ]; rfl) (fun K hK => ?_) ?_
      · go_simp
        refine (same_any _ _ T u _ (EN.txA hHeld) (EN.txB hHeld)).mono ?_
        rintro e w9 ⟨rfl, hb⟩
        have hS2 := EN.below hHeld hb
        clear hb
        (try rw [d1])
        (try rw [d2])
        (try rw [d3])
        dsimp only
        refine hK.out _ _ ?_ (fun hHeld2 => ?_)
        · exact hS2
        clear hK K hHeld
        have hHeld := hHeld2
        clear hHeld2
        try simp only [Act.put, List.setIfInBounds_toArray, List.set_cons_zero, List.set_cons_succ]
        refine wpAnyH_take (i := 3) (oi := ?_) (v := ?_) (by simp only [List.getElem?_toArray, List.getElem?_cons_zero, List.getElem?_cons_succ]; rfl) (by kernel_rfl) (by kernel_rfl) (by kernel_rfl) (by exact fun _ _ _ h => h) (Or.inl ⟨by rfl, ?_⟩) (by assumption) ?_
        rotate_left
        · (intro w hSw; (try dsimp only at hSw); obtain ⟨q0, q1, q2, q3⟩ := hSw.2.1.four; obtain ⟨r0, r1, r2, r3⟩ := hSw.2.2.four; clear hSw; go_simp; first | done | with_reducible rfl)
        try simp only [Act.put, List.setIfInBounds_toArray, List.set_cons_zero, List.set_cons_succ]
        refine wpAnyH_take (i := 4) (oi := ?_) (v := ?_) (by simp only [List.getElem?_toArray, List.getElem?_cons_zero, List.getElem?_cons_succ]; rfl) (by kernel_rfl) (by kernel_rfl) (by kernel_rfl) (by exact fun _ _ _ h => h) (Or.inl ⟨by rfl, ?_⟩) (by assumption) ?_
        rotate_left
        · (intro w hSw; (try dsimp only at hSw); obtain ⟨q0, q1, q2, q3⟩ := hSw.2.1.four; obtain ⟨r0, r1, r2, r3⟩ := hSw.2.2.four; clear hSw; go_simp; first | done | with_reducible rfl)
        try simp only [Act.put, List.setIfInBounds_toArray, List.set_cons_zero, List.set_cons_succ]
        refine wpAnyH_take (i := 5) (oi := ?_) (v := ?_) (by simp only [List.getElem?_toArray, List.getElem?_cons_zero, List.getElem?_cons_succ]; rfl) (by kernel_rfl) (by kernel_rfl) (by kernel_rfl) (by exact fun _ _ _ h => h) (Or.inl ⟨by rfl, ?_⟩) (by assumption) ?_
        rotate_left
        · (intro w hSw; (try dsimp only at hSw); obtain ⟨q0, q1, q2, q3⟩ := hSw.2.1.four; obtain ⟨r0, r1, r2, r3⟩ := hSw.2.2.four; clear hSw; go_simp; first | done | with_reducible rfl)
        try simp only [Act.put, List.setIfInBounds_toArray, List.set_cons_zero, List.set_cons_succ]
        refine wpAnyH_take (i := 6) (oi := ?_) (v := ?_) (by simp only [List.getElem?_toArray, List.getElem?_cons_zero, List.getElem?_cons_succ]; rfl) (by kernel_rfl) (by kernel_rfl) (by kernel_rfl) (by exact fun _ _ _ h => h) (Or.inl ⟨by rfl, ?_⟩) (by assumption) ?_
        rotate_left
        · (intro w hSw; (try dsimp only at hSw); obtain ⟨q0, q1, q2, q3⟩ := hSw.2.1.four; obtain ⟨r0, r1, r2, r3⟩ := hSw.2.2.four; clear hSw; go_simp; first | done | with_reducible rfl)
        try simp only [Act.put, List.setIfInBounds_toArray, List.set_cons_zero, List.set_cons_succ]
        refine wpAnyH_ready (rs := [7]) (by kernel_rfl) (by simp) ?_
        refine AllReadyH.cons (o := ?_) (by simp only [List.getElem?_toArray, List.getElem?_cons_zero, List.getElem?_cons_succ]; rfl) (fun K hK => ?_) ?_
        · go_simp
          refine (same_any _ _ u T _ (EN.txB hHeld) (EN.txA hHeld)).mono ?_
          rintro e w9 ⟨rfl, hb⟩
          have hS2 := EN.below hHeld hb
          clear hb
          (try rw [d1])
          (try rw [d2])
          (try rw [d3])
          dsimp only
          refine hK.out _ _ ?_ (fun hHeld2 => ?_)
          · exact hS2
          clear hK K hHeld
          have hHeld := hHeld2
          clear hHeld2
          try simp only [Act.put, List.setIfInBounds_toArray, List.set_cons_zero, List.set_cons_succ]
          refine wpAnyH_take (i := 8) (oi := ?_) (v := ?_) (by simp only [List.getElem?_toArray, List.getElem?_cons_zero, List.getElem?_cons_succ]; rfl) (by kernel_rfl) (by kernel_rfl) (by kernel_rfl) (by exact fun _ _ _ h => h) (Or.inl ⟨by rfl, ?_⟩) (by assumption) ?_
          rotate_left
          · (intro w hSw; (try dsimp only at hSw); obtain ⟨q0, q1, q2, q3⟩ := hSw.2.1.four; obtain ⟨r0, r1, r2, r3⟩ := hSw.2.2.four; clear hSw; go_simp; first | done | with_reducible rfl)
          try simp only [Act.put, List.setIfInBounds_toArray, List.set_cons_zero, List.set_cons_succ]
          refine wpAnyH_take (i := 9) (oi := ?_) (v := ?_) (by simp only [List.getElem?_toArray, List.getElem?_cons_zero, List.getElem?_cons_succ]; rfl) (by kernel_rfl) (by kernel_rfl) (by kernel_rfl) (by exact fun _ _ _ h => h) (Or.inl ⟨by rfl, ?_⟩) (by assumption) ?_
          rotate_left
          · (intro w hSw; (try dsimp only at hSw); obtain ⟨q0, q1, q2, q3⟩ := hSw.2.1.four; obtain ⟨r0, r1, r2, r3⟩ := hSw.2.2.four; clear hSw; go_simp; first | done | with_reducible rfl)
          try simp only [Act.put, List.setIfInBounds_toArray, List.set_cons_zero, List.set_cons_succ]
          refine wpAnyH_take (i := 10) (oi := ?_) (v := ?_) (by simp only [List.getElem?_toArray, List.getElem?_cons_zero, List.getElem?_cons_succ]; rfl) (by kernel_rfl) (by kernel_rfl) (by kernel_rfl) (by exact fun _ _ _ h => h) (Or.inl ⟨by rfl, ?_⟩) (by assumption) ?_
          rotate_left
          · (intro w hSw; (try dsimp only at hSw); obtain ⟨q0, q1, q2, q3⟩ := hSw.2.1.four; obtain ⟨r0, r1, r2, r3⟩ := hSw.2.2.four; clear hSw; go_simp; first | done | with_reducible rfl)
          try simp only [Act.put, List.setIfInBounds_toArray, List.set_cons_zero, List.set_cons_succ]
          refine wpAnyH_take (i := 11) (oi := ?_) (v := ?_) (by simp only [List.getElem?_toArray, List.getElem?_cons_zero, List.getElem?_cons_succ]; rfl) (by kernel_rfl) (by kernel_rfl) (by kernel_rfl) (by exact fun _ _ _ h => h) (Or.inl ⟨by rfl, ?_⟩) (by assumption) ?_
          rotate_left
          · (intro w hSw; (try dsimp only at hSw); obtain ⟨q0, q1, q2, q3⟩ := hSw.2.1.four; obtain ⟨r0, r1, r2, r3⟩ := hSw.2.2.four; clear hSw; go_simp; first | done | with_reducible rfl)
          try simp only [Act.put, List.setIfInBounds_toArray, List.set_cons_zero, List.set_cons_succ]
          refine wpAnyH_take (i := 12) (oi := ?_) (v := ?_) (by simp only [List.getElem?_toArray, List.getElem?_cons_zero, List.getElem?_cons_succ]; rfl) (by kernel_rfl) (by kernel_rfl) (by kernel_rfl) (by exact fun _ _ _ h => h) (Or.inl ⟨by rfl, ?_⟩) (by assumption) ?_
          rotate_left
          · (intro w hSw; (try dsimp only at hSw); obtain ⟨q0, q1, q2, q3⟩ := hSw.2.1.four; obtain ⟨r0, r1, r2, r3⟩ := hSw.2.2.four; clear hSw; go_simp; first | done | with_reducible rfl)
          try simp only [Act.put, List.setIfInBounds_toArray, List.set_cons_zero, List.set_cons_succ]
          refine wpAnyH_ready (rs := [13]) (by kernel_rfl) (by simp) ?_
          refine AllReadyH.cons (o := ?_) (by simp only [List.getElem?_toArray, List.getElem?_cons_zero, List.getElem?_cons_succ]; rfl) (fun K hK => ?_) ?_
          · go_simp
            refine (same_any _ _ T T _ (EN.txA hHeld) (EN.txA hHeld)).mono ?_
            rintro e w9 ⟨rfl, hb⟩
            have hS2 := EN.below hHeld hb
            clear hb
            (try rw [d1])
            (try rw [d2])
            (try rw [d3])
            dsimp only
            refine hK.out _ _ ?_ (fun hHeld2 => ?_)
            · exact hS2
            clear hK K hHeld
            have hHeld := hHeld2
            clear hHeld2
            try simp only [Act.put, List.setIfInBounds_toArray, List.set_cons_zero, List.set_cons_succ]
            refine wpAnyH_take (i := 14) (oi := ?_) (v := ?_) (by simp only [List.getElem?_toArray, List.getElem?_cons_zero, List.getElem?_cons_succ]; rfl) (by kernel_rfl) (by kernel_rfl) (by kernel_rfl) (by exact fun _ _ _ h => h) (Or.inl ⟨by rfl, ?_⟩) (by assumption) ?_
            rotate_left
            · (intro w hSw; (try dsimp only at hSw); obtain ⟨q0, q1, q2, q3⟩ := hSw.2.1.four; obtain ⟨r0, r1, r2, r3⟩ := hSw.2.2.four; clear hSw; go_simp; first | done | with_reducible rfl)
            try simp only [Act.put, List.setIfInBounds_toArray, List.set_cons_zero, List.set_cons_succ]
            refine wpAnyH_take (i := 15) (oi := ?_) (v := ?_) (by simp only [List.getElem?_toArray, List.getElem?_cons_zero, List.getElem?_cons_succ]; rfl) (by kernel_rfl) (by kernel_rfl) (by kernel_rfl) (by exact fun _ _ _ h => h) (Or.inl ⟨by rfl, ?_⟩) (by assumption) ?_
            rotate_left
            · (intro w hSw; (try dsimp only at hSw); obtain ⟨q0, q1, q2, q3⟩ := hSw.2.1.four; obtain ⟨r0, r1, r2, r3⟩ := hSw.2.2.four; clear hSw; go_simp; first | done | with_reducible rfl)
            try simp only [Act.put, List.setIfInBounds_toArray, List.set_cons_zero, List.set_cons_succ]
            refine wpAnyH_take (i := 16) (oi := ?_) (v := ?_) (by simp only [List.getElem?_toArray, List.getElem?_cons_zero, List.getElem?_cons_succ]; rfl) (by kernel_rfl) (by kernel_rfl) (by kernel_rfl) (by exact fun _ _ _ h => h) (Or.inl ⟨by rfl, ?_⟩) (by assumption) ?_
            rotate_left
            · (intro w hSw; (try dsimp only at hSw); obtain ⟨q0, q1, q2, q3⟩ := hSw.2.1.four; obtain ⟨r0, r1, r2, r3⟩ := hSw.2.2.four; clear hSw; go_simp; first | done | with_reducible rfl)
            try simp only [Act.put, List.setIfInBounds_toArray, List.set_cons_zero, List.set_cons_succ]
            refine wpAnyH_take (i := 19) (oi := ?_) (v := ?_) (by simp only [List.getElem?_toArray, List.getElem?_cons_zero, List.getElem?_cons_succ]; rfl) (by kernel_rfl) (by kernel_rfl) (by kernel_rfl) (by exact fun _ _ _ h => h) (Or.inl ⟨by rfl, ?_⟩) (by assumption) ?_
            rotate_left
            · (intro w hSw; (try dsimp only at hSw); obtain ⟨q0, q1, q2, q3⟩ := hSw.2.1.four; obtain ⟨r0, r1, r2, r3⟩ := hSw.2.2.four; clear hSw; go_simp; first | done | with_reducible rfl)
            try simp only [Act.put, List.setIfInBounds_toArray, List.set_cons_zero, List.set_cons_succ]
            refine wpAnyH_ready (rs := [17]) (by kernel_rfl) (by simp) ?_
            refine AllReadyH.cons (o := ?_) (by simp only [List.getElem?_toArray, List.getElem?_cons_zero, List.getElem?_cons_succ]; rfl) (fun K hK => ?_) ?_
            · go_simp
              refine (bytes_any _ T _ (EN.txA hHeld)).mono ?_
              rintro e w9 ⟨r9, rfl, ho, hb⟩
              rw [HBT.out] at ho
              obtain ⟨A9, c9, rfl⟩ := RdB.formN ho.rd rfl
              have hS2 := EN.below hHeld hb
              have HRa := As.mk ho.rd
              clear ho hb
              dsimp only
              refine hK.out _ _ ?_ (fun hHeld2 => ?_)
              · exact hS2
              clear hK K hHeld
              have hHeld := hHeld2
              clear hHeld2
              try simp only [Act.put, List.setIfInBounds_toArray, List.set_cons_zero, List.set_cons_succ]
              refine wpAnyH_ready (rs := [18, 20]) (by kernel_rfl) (by simp) ?_
              refine AllReadyH.cons (o := ?_) (by simp only [List.getElem?_toArray, List.getElem?_cons_zero, List.getElem?_cons_succ]; rfl) (fun K hK => ?_) ?_
              · have kv := run_str (P := Try.prog) 24 9 5 Try.underlying24 Try.underlying5 Try.underlying9 HRa.out
                have hS2 := hHeld
                go_simp
                clear kv
                refine hK.out _ _ ?_ (fun hHeld2 => ?_)
                · exact hS2
                clear hK K hHeld
                have hHeld := hHeld2
                clear hHeld2
                try simp only [Act.put, List.setIfInBounds_toArray, List.set_cons_zero, List.set_cons_succ]
                refine wpAnyH_ready (rs := [20]) (by kernel_rfl) (by simp) ?_
                refine AllReadyH.cons (o := ?_) (by simp only [List.getElem?_toArray, List.getElem?_cons_zero, List.getElem?_cons_succ]; rfl) (fun K hK => ?_) ?_
                · go_simp
                  refine (bytes_any _ u _ (EN.txB hHeld)).mono ?_
                  rintro e w10 ⟨r10, rfl, ho, hb⟩
                  rw [HBU.out] at ho
                  obtain ⟨A10, c10, rfl⟩ := RdB.formN ho.rd rfl
                  have hS2 := EN.below hHeld hb
                  have HRb := As.mk ho.rd
                  clear ho hb
                  dsimp only
                  refine hK.out _ _ ?_ (fun hHeld2 => ?_)
                  · exact hS2
                  clear hK K hHeld
                  have hHeld := hHeld2
                  clear hHeld2
                  try simp only [Act.put, List.setIfInBounds_toArray, List.set_cons_zero, List.set_cons_succ]
                  refine wpAnyH_ready (rs := [21]) (by kernel_rfl) (by simp) ?_
                  refine AllReadyH.cons (o := ?_) (by simp only [List.getElem?_toArray, List.getElem?_cons_zero, List.getElem?_cons_succ]; rfl) (fun K hK => ?_) ?_
                  · have kv := run_str (P := Try.prog) 24 9 5 Try.underlying24 Try.underlying5 Try.underlying9 HRb.out
                    have hS2 := hHeld
                    go_simp
                    clear kv
                    refine hK.out _ _ ?_ (fun hHeld2 => ?_)
                    · exact hS2
                    clear hK K hHeld
                    have hHeld := hHeld2
                    clear hHeld2
                    try simp only [Act.put, List.setIfInBounds_toArray, List.set_cons_zero, List.set_cons_succ]
                    refine wpAnyH_take (i := 22) (oi := ?_) (v := ?_) (by simp only [List.getElem?_toArray, List.getElem?_cons_zero, List.getElem?_cons_succ]; rfl) (by kernel_rfl) (by kernel_rfl) (by kernel_rfl) (by exact fun _ _ _ h => h) (Or.inl ⟨by rfl, ?_⟩) (by assumption) ?_
                    rotate_left
                    · (intro w hSw; (try dsimp only at hSw); obtain ⟨q0, q1, q2, q3⟩ := hSw.2.1.four; obtain ⟨r0, r1, r2, r3⟩ := hSw.2.2.four; clear hSw; go_simp; first | done | with_reducible rfl)
                    try simp only [Act.put, List.setIfInBounds_toArray, List.set_cons_zero, List.set_cons_succ]
                    refine wpAnyH_take (i := 23) (oi := ?_) (v := ?_) (by simp only [List.getElem?_toArray, List.getElem?_cons_zero, List.getElem?_cons_succ]; rfl) (by kernel_rfl) (by kernel_rfl) (by kernel_rfl) (by exact fun _ _ _ h => h) (Or.inl ⟨by rfl, ?_⟩) (by assumption) ?_
                    rotate_left
                    · (intro w hSw; (try dsimp only at hSw); obtain ⟨q0, q1, q2, q3⟩ := hSw.2.1.four; obtain ⟨r0, r1, r2, r3⟩ := hSw.2.2.four; clear hSw; go_simp; first | done | with_reducible rfl)
                    try simp only [Act.put, List.setIfInBounds_toArray, List.set_cons_zero, List.set_cons_succ]
                    refine wpAnyH_take (i := 24) (oi := ?_) (v := ?_) (by simp only [List.getElem?_toArray, List.getElem?_cons_zero, List.getElem?_cons_succ]; rfl) (by kernel_rfl) (by kernel_rfl) (by kernel_rfl) (by exact fun _ _ _ h => h) (Or.inl ⟨by rfl, ?_⟩) (by assumption) ?_
                    rotate_left
                    · (intro w hSw; (try dsimp only at hSw); obtain ⟨q0, q1, q2, q3⟩ := hSw.2.1.four; obtain ⟨r0, r1, r2, r3⟩ := hSw.2.2.four; clear hSw; go_simp; first | done | with_reducible rfl)
                    try simp only [Act.put, List.setIfInBounds_toArray, List.set_cons_zero, List.set_cons_succ]
                    refine wpAnyH_ready (rs := [25]) (by kernel_rfl) (by simp) ?_
                    refine AllReadyH.cons (o := ?_) (by simp only [List.getElem?_toArray, List.getElem?_cons_zero, List.getElem?_cons_succ]; rfl) (fun K hK => ?_) ?_
                    · go_simp
                      refine (awake3_any _).mono ?_
                      rintro e w20 ⟨rfl, hb⟩
                      have hS2 := EN.below hHeld hb
                      clear hb
                      dsimp only
                      refine hK.out _ _ ?_ (fun hHeld2 => ?_)
                      · exact hS2
                      clear hK K hHeld
                      have hHeld := hHeld2
                      clear hHeld2
                      try simp only [Act.put, List.setIfInBounds_toArray, List.set_cons_zero, List.set_cons_succ]
                      refine wpAnyH_take (i := 26) (oi := ?_) (v := ?_) (by simp only [List.getElem?_toArray, List.getElem?_cons_zero, List.getElem?_cons_succ]; rfl) (by kernel_rfl) (by kernel_rfl) (by kernel_rfl) (by exact fun _ _ _ h => h) (Or.inl ⟨by rfl, ?_⟩) (by assumption) ?_
                      rotate_left
                      · (intro w hSw; (try dsimp only at hSw); obtain ⟨q0, q1, q2, q3⟩ := hSw.2.1.four; obtain ⟨r0, r1, r2, r3⟩ := hSw.2.2.four; clear hSw; go_simp; first | done | with_reducible rfl)
                      try simp only [Act.put, List.setIfInBounds_toArray, List.set_cons_zero, List.set_cons_succ]
                      refine wpAnyH_take (i := 27) (oi := ?_) (v := ?_) (by simp only [List.getElem?_toArray, List.getElem?_cons_zero, List.getElem?_cons_succ]; rfl) (by kernel_rfl) (by kernel_rfl) (by kernel_rfl) (by exact fun _ _ _ h => h) (Or.inl ⟨by rfl, ?_⟩) (by assumption) ?_
                      rotate_left
                      · (intro w hSw; (try dsimp only at hSw); obtain ⟨q0, q1, q2, q3⟩ := hSw.2.1.four; obtain ⟨r0, r1, r2, r3⟩ := hSw.2.2.four; clear hSw; go_simp; first | done | with_reducible rfl)
                      try simp only [Act.put, List.setIfInBounds_toArray, List.set_cons_zero, List.set_cons_succ]
                      refine wpAnyH_done (by kernel_rfl) ?_ _
                      have HF := As.mk hHeld.1
                      clear hHeld
                      go_wp2
                      go_ret
                      exact ⟨rfl, HF.out⟩
                    exact AllReadyH.nil
                  exact AllReadyH.nil
                exact AllReadyH.nil
              refine AllReadyH.cons (o := ?_) (by simp only [List.getElem?_toArray, List.getElem?_cons_zero, List.getElem?_cons_succ]; rfl) (fun K hK => ?_) ?_
              · go_simp
                refine (bytes_any _ u _ (EN.txB hHeld)).mono ?_
                rintro e w10 ⟨r10, rfl, ho, hb⟩
                rw [HBU.out] at ho
                obtain ⟨A10, c10, rfl⟩ := RdB.formN ho.rd rfl
                have hS2 := EN.below hHeld hb
                have HRb := As.mk ho.rd
                have HRa2 := As.mk (HRa.out.below hb)
                clear HRa
                have HRa := HRa2
                clear HRa2
                clear ho hb
                dsimp only
                refine hK.out _ _ ?_ (fun hHeld2 => ?_)
                · exact hS2
                clear hK K hHeld
                have hHeld := hHeld2
                clear hHeld2
                try simp only [Act.put, List.setIfInBounds_toArray, List.set_cons_zero, List.set_cons_succ]
                refine wpAnyH_ready (rs := [18, 21]) (by kernel_rfl) (by simp) ?_
                refine AllReadyH.cons (o := ?_) (by simp only [List.getElem?_toArray, List.getElem?_cons_zero, List.getElem?_cons_succ]; rfl) (fun K hK => ?_) ?_
                · have kv := run_str (P := Try.prog) 24 9 5 Try.underlying24 Try.underlying5 Try.underlying9 HRa.out
                  have hS2 := hHeld
                  go_simp
                  clear kv
                  refine hK.out _ _ ?_ (fun hHeld2 => ?_)
                  · exact hS2
                  clear hK K hHeld
                  have hHeld := hHeld2
                  clear hHeld2
                  try simp only [Act.put, List.setIfInBounds_toArray, List.set_cons_zero, List.set_cons_succ]
                  refine wpAnyH_ready (rs := [21]) (by kernel_rfl) (by simp) ?_
                  refine AllReadyH.cons (o := ?_) (by simp only [List.getElem?_toArray, List.getElem?_cons_zero, List.getElem?_cons_succ]; rfl) (fun K hK => ?_) ?_
                  · have kv := run_str (P := Try.prog) 24 9 5 Try.underlying24 Try.underlying5 Try.underlying9 HRb.out
                    have hS2 := hHeld
                    go_simp
                    clear kv
                    refine hK.out _ _ ?_ (fun hHeld2 => ?_)
                    · exact hS2
                    clear hK K hHeld
                    have hHeld := hHeld2
                    clear hHeld2
                    try simp only [Act.put, List.setIfInBounds_toArray, List.set_cons_zero, List.set_cons_succ]
                    refine wpAnyH_take (i := 22) (oi := ?_) (v := ?_) (by simp only [List.getElem?_toArray, List.getElem?_cons_zero, List.getElem?_cons_succ]; rfl) (by kernel_rfl) (by kernel_rfl) (by kernel_rfl) (by exact fun _ _ _ h => h) (Or.inl ⟨by rfl, ?_⟩) (by assumption) ?_
                    rotate_left
                    · (intro w hSw; (try dsimp only at hSw); obtain ⟨q0, q1, q2, q3⟩ := hSw.2.1.four; obtain ⟨r0, r1, r2, r3⟩ := hSw.2.2.four; clear hSw; go_simp; first | done | with_reducible rfl)
                    try simp only [Act.put, List.setIfInBounds_toArray, List.set_cons_zero, List.set_cons_succ]
                    refine wpAnyH_take (i := 23) (oi := ?_) (v := ?_) (by simp only [List.getElem?_toArray, List.getElem?_cons_zero, List.getElem?_cons_succ]; rfl) (by kernel_rfl) (by kernel_rfl) (by kernel_rfl) (by exact fun _ _ _ h => h) (Or.inl ⟨by rfl, ?_⟩) (by assumption) ?_
                    rotate_left
                    · (intro w hSw; (try dsimp only at hSw); obtain ⟨q0, q1, q2, q3⟩ := hSw.2.1.four; obtain ⟨r0, r1, r2, r3⟩ := hSw.2.2.four; clear hSw; go_simp; first | done | with_reducible rfl)
                    try simp only [Act.put, List.setIfInBounds_toArray, List.set_cons_zero, List.set_cons_succ]
                    refine wpAnyH_take (i := 24) (oi := ?_) (v := ?_) (by simp only [List.getElem?_toArray, List.getElem?_cons_zero, List.getElem?_cons_succ]; rfl) (by kernel_rfl) (by kernel_rfl) (by kernel_rfl) (by exact fun _ _ _ h => h) (Or.inl ⟨by rfl, ?_⟩) (by assumption) ?_
                    rotate_left
                    · (intro w hSw; (try dsimp only at hSw); obtain ⟨q0, q1, q2, q3⟩ := hSw.2.1.four; obtain ⟨r0, r1, r2, r3⟩ := hSw.2.2.four; clear hSw; go_simp; first | done | with_reducible rfl)
                    try simp only [Act.put, List.setIfInBounds_toArray, List.set_cons_zero, List.set_cons_succ]
                    refine wpAnyH_ready (rs := [25]) (by kernel_rfl) (by simp) ?_
                    refine AllReadyH.cons (o := ?_) (by simp only [List.getElem?_toArray, List.getElem?_cons_zero, List.getElem?_cons_succ]; rfl) (fun K hK => ?_) ?_
                    · go_simp
                      refine (awake3_any _).mono ?_
                      rintro e w20 ⟨rfl, hb⟩
                      have hS2 := EN.below hHeld hb
                      clear hb
                      dsimp only
                      refine hK.out _ _ ?_ (fun hHeld2 => ?_)
                      · exact hS2
                      clear hK K hHeld
                      have hHeld := hHeld2
                      clear hHeld2
                      try simp only [Act.put, List.setIfInBounds_toArray, List.set_cons_zero, List.set_cons_succ]
                      refine wpAnyH_take (i := 26) (oi := ?_) (v := ?_) (by simp only [List.getElem?_toArray, List.getElem?_cons_zero, List.getElem?_cons_succ]; rfl) (by kernel_rfl) (by kernel_rfl) (by kernel_rfl) (by exact fun _ _ _ h => h) (Or.inl ⟨by rfl, ?_⟩) (by assumption) ?_
                      rotate_left
                      · (intro w hSw; (try dsimp only at hSw); obtain ⟨q0, q1, q2, q3⟩ := hSw.2.1.four; obtain ⟨r0, r1, r2, r3⟩ := hSw.2.2.four; clear hSw; go_simp; first | done | with_reducible rfl)
                      try simp only [Act.put, List.setIfInBounds_toArray, List.set_cons_zero, List.set_cons_succ]
                      refine wpAnyH_take (i := 27) (oi := ?_) (v := ?_) (by simp only [List.getElem?_toArray, List.getElem?_cons_zero, List.getElem?_cons_succ]; rfl) (by kernel_rfl) (by kernel_rfl) (by kernel_rfl) (by exact fun _ _ _ h => h) (Or.inl ⟨by rfl, ?_⟩) (by assumption) ?_
                      rotate_left
                      · (intro w hSw; (try dsimp only at hSw); obtain ⟨q0, q1, q2, q3⟩ := hSw.2.1.four; obtain ⟨r0, r1, r2, r3⟩ := hSw.2.2.four; clear hSw; go_simp; first | done | with_reducible rfl)
                      try simp only [Act.put, List.setIfInBounds_toArray, List.set_cons_zero, List.set_cons_succ]
                      refine wpAnyH_done (by kernel_rfl) ?_ _
                      have HF := As.mk hHeld.1
                      clear hHeld
                      go_wp2
                      go_ret
                      exact ⟨rfl, HF.out⟩
                    exact AllReadyH.nil
                  exact AllReadyH.nil
                refine AllReadyH.cons (o := ?_) (by simp only [List.getElem?_toArray, List.getElem?_cons_zero, List.getElem?_cons_succ]; rfl) (fun K hK => ?_) ?_
                · have kv := run_str (P := Try.prog) 24 9 5 Try.underlying24 Try.underlying5 Try.underlying9 HRb.out
                  have hS2 := hHeld
                  go_simp
                  clear kv
                  refine hK.out _ _ ?_ (fun hHeld2 => ?_)
                  · exact hS2
                  clear hK K hHeld
                  have hHeld := hHeld2
                  clear hHeld2
                  try simp only [Act.put, List.setIfInBounds_toArray, List.set_cons_zero, List.set_cons_succ]
                  refine wpAnyH_ready (rs := [18]) (by kernel_rfl) (by simp) ?_
                  refine AllReadyH.cons (o := ?_) (by simp only [List.getElem?_toArray, List.getElem?_cons_zero, List.getElem?_cons_succ]; rfl) (fun K hK => ?_) ?_
                  · have kv := run_str (P := Try.prog) 24 9 5 Try.underlying24 Try.underlying5 Try.underlying9 HRa.out
                    have hS2 := hHeld
                    go_simp
                    clear kv
                    refine hK.out _ _ ?_ (fun hHeld2 => ?_)
                    · exact hS2
                    clear hK K hHeld
                    have hHeld := hHeld2
                    clear hHeld2
                    try simp only [Act.put, List.setIfInBounds_toArray, List.set_cons_zero, List.set_cons_succ]
                    refine wpAnyH_take (i := 22) (oi := ?_) (v := ?_) (by simp only [List.getElem?_toArray, List.getElem?_cons_zero, List.getElem?_cons_succ]; rfl) (by kernel_rfl) (by kernel_rfl) (by kernel_rfl) (by exact fun _ _ _ h => h) (Or.inl ⟨by rfl, ?_⟩) (by assumption) ?_
                    rotate_left
                    · (intro w hSw; (try dsimp only at hSw); obtain ⟨q0, q1, q2, q3⟩ := hSw.2.1.four; obtain ⟨r0, r1, r2, r3⟩ := hSw.2.2.four; clear hSw; go_simp; first | done | with_reducible rfl)
                    try simp only [Act.put, List.setIfInBounds_toArray, List.set_cons_zero, List.set_cons_succ]
                    refine wpAnyH_take (i := 23) (oi := ?_) (v := ?_) (by simp only [List.getElem?_toArray, List.getElem?_cons_zero, List.getElem?_cons_succ]; rfl) (by kernel_rfl) (by kernel_rfl) (by kernel_rfl) (by exact fun _ _ _ h => h) (Or.inl ⟨by rfl, ?_⟩) (by assumption) ?_
                    rotate_left
                    · (intro w hSw; (try dsimp only at hSw); obtain ⟨q0, q1, q2, q3⟩ := hSw.2.1.four; obtain ⟨r0, r1, r2, r3⟩ := hSw.2.2.four; clear hSw; go_simp; first | done | with_reducible rfl)
                    try simp only [Act.put, List.setIfInBounds_toArray, List.set_cons_zero, List.set_cons_succ]
                    refine wpAnyH_take (i := 24) (oi := ?_) (v := ?_) (by simp only [List.getElem?_toArray, List.getElem?_cons_zero, List.getElem?_cons_succ]; rfl) (by kernel_rfl) (by kernel_rfl) (by kernel_rfl) (by exact fun _ _ _ h => h) (Or.inl ⟨by rfl, ?_⟩) (by assumption) ?_
                    rotate_left
                    · (intro w hSw; (try dsimp only at hSw); obtain ⟨q0, q1, q2, q3⟩ := hSw.2.1.four; obtain ⟨r0, r1, r2, r3⟩ := hSw.2.2.four; clear hSw; go_simp; first | done | with_reducible rfl)
                    try simp only [Act.put, List.setIfInBounds_toArray, List.set_cons_zero, List.set_cons_succ]
                    refine wpAnyH_ready (rs := [25]) (by kernel_rfl) (by simp) ?_
                    refine AllReadyH.cons (o := ?_) (by simp only [List.getElem?_toArray, List.getElem?_cons_zero, List.getElem?_cons_succ]; rfl) (fun K hK => ?_) ?_
                    · go_simp
                      refine (awake3_any _).mono ?_
                      rintro e w20 ⟨rfl, hb⟩
                      have hS2 := EN.below hHeld hb
                      clear hb
                      dsimp only
                      refine hK.out _ _ ?_ (fun hHeld2 => ?_)
                      · exact hS2
                      clear hK K hHeld
                      have hHeld := hHeld2
                      clear hHeld2
                      try simp only [Act.put, List.setIfInBounds_toArray, List.set_cons_zero, List.set_cons_succ]
                      refine wpAnyH_take (i := 26) (oi := ?_) (v := ?_) (by simp only [List.getElem?_toArray, List.getElem?_cons_zero, List.getElem?_cons_succ]; rfl) (by kernel_rfl) (by kernel_rfl) (by kernel_rfl) (by exact fun _ _ _ h => h) (Or.inl ⟨by rfl, ?_⟩) (by assumption) ?_
                      rotate_left
                      · (intro w hSw; (try dsimp only at hSw); obtain ⟨q0, q1, q2, q3⟩ := hSw.2.1.four; obtain ⟨r0, r1, r2, r3⟩ := hSw.2.2.four; clear hSw; go_simp; first | done | with_reducible rfl)
                      try simp only [Act.put, List.setIfInBounds_toArray, List.set_cons_zero, List.set_cons_succ]
                      refine wpAnyH_take (i := 27) (oi := ?_) (v := ?_) (by simp only [List.getElem?_toArray, List.getElem?_cons_zero, List.getElem?_cons_succ]; rfl) (by kernel_rfl) (by kernel_rfl) (by kernel_rfl) (by exact fun _ _ _ h => h) (Or.inl ⟨by rfl, ?_⟩) (by assumption) ?_
                      rotate_left
                      · (intro w hSw; (try dsimp only at hSw); obtain ⟨q0, q1, q2, q3⟩ := hSw.2.1.four; obtain ⟨r0, r1, r2, r3⟩ := hSw.2.2.four; clear hSw; go_simp; first | done | with_reducible rfl)
                      try simp only [Act.put, List.setIfInBounds_toArray, List.set_cons_zero, List.set_cons_succ]
                      refine wpAnyH_done (by kernel_rfl) ?_ _
                      have HF := As.mk hHeld.1
                      clear hHeld
                      go_wp2
                      go_ret
                      exact ⟨rfl, HF.out⟩
                    exact AllReadyH.nil
                  exact AllReadyH.nil
                exact AllReadyH.nil
              exact AllReadyH.nil
            exact AllReadyH.nil
          exact AllReadyH.nil
        exact AllReadyH.nil
      exact AllReadyH.nil
theorem txnsSame_row (a0 : Int) (w0 : (Lit.int .i64 a0).wf = true) (a1 : Int) (w1 : (Lit.int .i64 a1).wf = true) (a2 : Int) (w2 : (Lit.int .i64 a2).wf = true) (w : World) : Calls Try.prog 12 #[.int .i64 a0, .int .i64 a1, .int .i64 a2] w fun e w' => e = .returned (.bool true) ∧ Below w.heap.size w w' := txnsSame_any a0 a1 a2 w
end Go.Proofs.Ytfggkljgfadacaa.W
