/- TxnsBack: a transaction is read as it was told. -/
import Derived.Test.YtfggkljgfadacaaT28
set_option linter.unusedVariables false
set_option linter.unusedSimpArgs false
namespace Go.Proofs.Ytfggkljgfadacaa.W
open Go.RowKit Go.Proofs.Ytfggkljgfadacaa.B Go.Proofs

/-- One cell of one input turned. -/
theorem OwTx.setIn {w : World} {base g o n cI : Nat} {v0 ov v3 : Value} {t : LTx} (h : OwTx w base [v0, .slice (some ⟨g, o, none⟩) n cI, ov, v3] t) (k : Nat) (x x' : LIn) (hk : t.ins[k]? = some x) (j : Nat) (hj : j < 36) (u : Value)
    (hy : ∀ cs : List Value, cs.length = 36 → InE base w (some g) cs x → InE base (w.setCell ⟨g, o + k * 36 + j, none⟩ u) (some g) (cs.set j u) x') : OwTx (w.setCell ⟨g, o + k * 36 + j, none⟩ u) base [v0, .slice (some ⟨g, o, none⟩) n cI, ov, v3] { t with ins := t.ins.set k x' } := by
  obtain ⟨iv, ov', mid, he, h1, h2, h3, h4, h5, h6⟩ := h
  injection he with e0 he
  injection he with e1 he
  injection he with e2 he
  injection he with e3 _
  subst e0 e1 e2 e3
  have gset := grown_set w g (o + k * 36 + j) u
  have hg := h4 g rfl
  refine ⟨_, _, mid, rfl, ?_, OwG.kept (row := some g) (fun cs y => OutE.kept gset (fun d hd => by injection hd with hd; omega) _ cs y) h2 gset (fun d hd e => by injection e with e; have := (OwG.lt h2 d hd).1; omega), h3, h4, h5, h6⟩
  have hq := OwG.set h1 k x x' hk j hj u
  rw [← Nat.add_assoc] at hq
  exact hq hy InE.at
/-- Where an input's witness lies. -/
theorem OwTx.witAt {w : World} {base n cI : Nat} {A : Option Addr} {v0 ov v3 : Value} {t : LTx} (h : OwTx w base [v0, .slice A n cI, ov, v3] t) (i : Nat) (x : LIn) (hk : t.ins[i]? = some x) :
    ∃ g o Aw cw, A = some ⟨g, o, none⟩ ∧ base ≤ g ∧ g < w.heap.size ∧ w.cell? ⟨g, o + i * 36 + 35, none⟩ = some (.slice Aw x.wit.length cw) ∧ w.frozen? ⟨g, o + i * 36 + 35, none⟩ = false ∧ ∃ cur, w.heap[g]? = some (.cells cur 55 (0, 0)) := by
  obtain ⟨iv, ov', mid, he, h1, _⟩ := h
  injection he with e0 he
  injection he with e1 _
  subst e1
  have hlt := (List.getElem?_eq_some_iff.1 hk).1
  obtain ⟨g, o, rfl, hg0, hg1, hcf⟩ := OwG.block h1 i hlt
  obtain ⟨hc, hf⟩ := hcf 35 (by decide)
  rw [← Nat.add_assoc] at hc hf
  obtain ⟨zs, k1, k2⟩ := h1
  have hin := k2 i x hk
  obtain ⟨A1, A2, c1, c2, _, _, _, h35, _, _⟩ := (InE.rd _ _ _ _ _ hin).facts
  refine ⟨g, o, A2, c2, rfl, hg0, hg1, ?_, hf, ?_⟩
  · obtain ⟨_, A', c', he, _, _, _, hcell⟩ := k1.rd
    injection he with he1 he2 he3
    subst he1
    rw [List.getElem?_take_of_lt (by omega), List.getElem?_drop] at h35
    have := hcell _ rfl _ _ h35
    rw [Addr.add_mid] at this
    rw [Nat.add_assoc]
    exact this
  · rcases k1.2 with ⟨q, _⟩ | ⟨g', off, cap, cur, q, _, q2, _⟩
    · cases q
    · injection q with q _ _
      injection q with q
      injection q with q _
      subst q
      exact ⟨cur, q2⟩
/-- An input without its witness. -/
def unwit (x : LIn) : LIn := { x with wit := [] }
theorem unwit_step {xs : List LIn} {i : Nat} {x : LIn} (h : xs[i]? = some x) : ((xs.take i).map unwit ++ xs.drop i).set i (unwit x) = (xs.take (i + 1)).map unwit ++ xs.drop (i + 1) ∧ ((xs.take i).map unwit ++ xs.drop i)[i]? = some x := by
  have hlt := (List.getElem?_eq_some_iff.1 h).1
  have hl : ((xs.take i).map unwit).length = i := by rw [List.length_map, List.length_take]; omega
  have hx : xs[i] = x := (List.getElem?_eq_some_iff.1 h).2
  constructor
  · rw [List.set_append_right _ _ (by omega), hl, Nat.sub_self, List.drop_eq_getElem_cons hlt, List.set_cons_zero, List.take_succ_eq_append_getElem hlt, List.map_append, hx]
    simp
  · rw [List.getElem?_append_right (by omega), hl, Nat.sub_self, List.getElem?_drop]
    simpa using h
theorem inB_unwit (x : LIn) : inB (unwit x) = inB x := rfl
theorem baseB_unwit (t : LTx) : baseB { t with ins := t.ins.map unwit } = baseB t := by
  unfold baseB bodyB
  simp only [List.length_map, List.flatMap_map]
  rfl
theorem may_unwit {t : LTx} (h : mayT t) : mayT { t with ins := t.ins.map unwit } := by
  obtain ⟨h1, h2, h3, h4, h5, h6⟩ := h
  refine ⟨fun x hx => ?_, h2, by simpa using h3, by simpa using h4, h5, h6⟩
  obtain ⟨y, hy, rfl⟩ := List.mem_map.1 hx
  have := h1 y hy
  exact ⟨this.1, by simp [unwit], fun b hb => by simp [unwit] at hb⟩
theorem bytes_unwit {t : LTx} (h : mayT t) : bytesT { t with ins := t.ins.map unwit } = baseT t := by
  rw [bytesT_may (may_unwit h)]
  unfold baseT bytesB
  rw [if_pos h, if_neg, baseB_unwit]
  rintro ⟨x, hx, hw⟩
  obtain ⟨y, hy, rfl⟩ := List.mem_map.1 hx
  simp [unwit] at hw
theorem bytes_base_iff {t : LTx} (h : mayT t) : (bytesT t == baseT t) = !decide (hasW t) := by
  rw [bytesT_may h]
  unfold baseT bytesB
  rw [if_pos h]
  by_cases hw : hasW t
  · rw [if_pos hw, decide_eq_true hw]
    rw [Bool.not_true, beq_eq_false_iff_ne]
    intro e
    have := congrArg List.length e
    unfold baseB at this
    simp only [List.length_append, le_length, List.length_cons, List.length_nil] at this
    omega
  · rw [if_neg hw, decide_eq_false hw]
    simp
theorem baseT_length {t : LTx} (h : mayT t) (hf : fitT t) : (baseT t).length ≤ 100000 := by
  unfold baseT baseB
  rw [if_pos h]
  have := bodyB_length t h (fun x hx => (hf.2.2.1 x hx).1)
  simp only [List.length_append, le_length]
  omega
def hasAny (xs : List LIn) : Bool := xs.any fun x => decide (0 < x.wit.length)
theorem had_step {xs : List LIn} {i : Nat} {x : LIn} (h : xs[i]? = some x) : hasAny (xs.take (i + 1)) = (hasAny (xs.take i) || decide (0 < x.wit.length)) := by
  unfold hasAny
  rw [List.take_add_one, h, List.any_append]
  simp
theorem hasAny_w (t : LTx) : hasAny t.ins = decide (hasW t) := by
  rw [Bool.eq_iff_iff, decide_eq_true_iff]
  unfold hasAny hasW
  simp
set_option maxHeartbeats 4000000 in
set_option maxRecDepth 100000 in
theorem txnsBack_any (n m k l : Int) (w : World) : Calls Try.prog 14 #[.int .i64 n, .int .i64 m, .int .i64 k, .int .i64 l] w fun e w' => e = .returned (.bool true) ∧ Below w.heap.size w w' := by
  obtain ⟨T, hT⟩ : ∃ T, T = txOf n m := ⟨_, rfl⟩
  obtain ⟨S, hS⟩ : ∃ T, T = txOf k l := ⟨_, rfl⟩
  have HT := As.mk hT
  have HTS := As.mk hS
  have HM : As (mayT T ∧ mayT S) := ⟨by rw [hT, hS]; exact ⟨txOf_may n m, txOf_may k l⟩⟩
  have hN : (T.ins.length : Int) ≤ 4 := by rw [hT]; have := (txOf_ins n m).2; omega
  clear hT hS
  go_enter Try.func14, Try.ntmps14
  go_upto_region 2 with (go_at_call 51; first | ((with_reducible refine (tx_any n m _).mono ?_); rintro e w1 ⟨cs, rfl, ht, hb⟩; have HX1 : As (OwTx w1 w.heap.size cs T) := ⟨by rw [HT.out]; exact ht.own⟩; obtain ⟨AI, cI, AO, cO, rfl⟩ := OwTx.form HX1.out; have HB1 := As.mk hb; clear ht hb) | ((with_reducible refine (tx_any k l _).mono ?_); rintro e w2 ⟨cs, rfl, ht, hb⟩; have HX2 : As (OwTx w2 w1.heap.size cs S) := ⟨by rw [HTS.out]; exact ht.own⟩; obtain ⟨BI, dI, BO, dO, rfl⟩ := OwTx.form HX2.out; have HB2 := As.mk hb; clear ht hb))
  have HF : As (fitT T ∧ fitT S) := ⟨HX1.out.rd.fit, HX2.out.rd.fit⟩
  obtain ⟨b1, hb1⟩ : ∃ b, b = bytesT T := ⟨_, rfl⟩
  obtain ⟨b2, hb2⟩ : ∃ b, b = bytesT S := ⟨_, rfl⟩
  have HBT := As.mk hb1
  have HBS := As.mk hb2
  have HP1 : As (rTx (b1 ++ b2, false) = ((T, true), (b2, false))) := ⟨by rw [hb1, bytesT_may HM.out.1]; exact rTx_bytes T b2 HM.out.1 HF.out.1⟩
  have HP2 : As (rTx (b2, false) = ((S, true), ([], false))) := ⟨by have := rTx_bytes S [] HM.out.2 HF.out.2; rw [List.append_nil, ← bytesT_may HM.out.2, ← hb2] at this; exact this⟩
  have HLN : As (b1.length ≤ 400000 ∧ b2.length ≤ 400000) := ⟨by rw [hb1, hb2, bytesT_may HM.out.1, bytesT_may HM.out.2]; exact ⟨bytesB_length T HM.out.1 HF.out.1, bytesB_length S HM.out.2 HF.out.2⟩⟩
  obtain ⟨d, hd⟩ : ∃ d : Bool, decide (T = S) = d := ⟨_, rfl⟩
  have HD : As ((b1 == b2) = d) := ⟨by
    rw [← hd, Bool.eq_iff_iff, beq_iff_eq, decide_eq_true_iff, hb1, hb2, bytesT_may HM.out.1, bytesT_may HM.out.2]
    exact ⟨fun h => bytes_inj HM.out.1 HM.out.2 HF.out.1 HF.out.2 h, fun h => by rw [h]⟩⟩
  have HDD := As.mk hd
  clear hb1 hb2 hd
  have HS1 : As (Below w.heap.size w ((w2.alloc (.cells #[.int .u32 (T.ver : Int), .slice AI T.ins.length cI, .slice AO T.outs.length cO, .int .u32 (T.lock : Int)] 51)).alloc (.cells #[.int .u32 (S.ver : Int), .slice BI S.ins.length dI, .slice BO S.outs.length dO, .int .u32 (S.lock : Int)] 51)) ∧ BxT ((w2.alloc (.cells #[.int .u32 (T.ver : Int), .slice AI T.ins.length cI, .slice AO T.outs.length cO, .int .u32 (T.lock : Int)] 51)).alloc (.cells #[.int .u32 (S.ver : Int), .slice BI S.ins.length dI, .slice BO S.outs.length dO, .int .u32 (S.lock : Int)] 51)) w2.heap.size [.int .u32 (T.ver : Int), .slice AI T.ins.length cI, .slice AO T.outs.length cO, .int .u32 (T.lock : Int)] T ∧ BxT ((w2.alloc (.cells #[.int .u32 (T.ver : Int), .slice AI T.ins.length cI, .slice AO T.outs.length cO, .int .u32 (T.lock : Int)] 51)).alloc (.cells #[.int .u32 (S.ver : Int), .slice BI S.ins.length dI, .slice BO S.outs.length dO, .int .u32 (S.lock : Int)] 51)) (w2.heap.size + 1) [.int .u32 (S.ver : Int), .slice BI S.ins.length dI, .slice BO S.outs.length dO, .int .u32 (S.lock : Int)] S) := by
    have hb0 : Below w.heap.size w w2 := HB1.out.trans (HB2.out.mono HB1.out.size)
    have hb3 := below_al (w2.alloc (.cells #[.int .u32 (T.ver : Int), .slice AI T.ins.length cI, .slice AO T.outs.length cO, .int .u32 (T.lock : Int)] 51)) (.cells #[.int .u32 (S.ver : Int), .slice BI S.ins.length dI, .slice BO S.outs.length dO, .int .u32 (S.lock : Int)] 51)
    refine ⟨(hb0.alloc hb0.size _).trans (hb3.mono (Nat.le_trans hb0.size (below_al w2 _).size)), (BxT.new (HX1.out.rd.below HB2.out)).below hb3, ?_⟩
    have := BxT.new (HX2.out.rd.below (below_al w2 (.cells #[.int .u32 (T.ver : Int), .slice AI T.ins.length cI, .slice AO T.outs.length cO, .int .u32 (T.lock : Int)] 51)))
    simpa using this
  obtain ⟨A, hA⟩ : ∃ A, A = w2.heap.size := ⟨_, rfl⟩
  obtain ⟨B, hB⟩ : ∃ A, A = w2.heap.size + 1 := ⟨_, rfl⟩
  rw [← hB, ← hA] at HS1 ⊢
  clear hA hB HX1 HX2 HB1 HB2
  change Code.wp _ _ _ _ ((w2.alloc (.cells #[.int .u32 (T.ver : Int), .slice AI T.ins.length cI, .slice AO T.outs.length cO, .int .u32 (T.lock : Int)] 51)).alloc (.cells #[.int .u32 (S.ver : Int), .slice BI S.ins.length dI, .slice BO S.outs.length dO, .int .u32 (S.lock : Int)] 51))
  generalize (w2.alloc (.cells #[.int .u32 (T.ver : Int), .slice AI T.ins.length cI, .slice AO T.outs.length cO, .int .u32 (T.lock : Int)] 51)).alloc (.cells #[.int .u32 (S.ver : Int), .slice BI S.ins.length dI, .slice BO S.outs.length dO, .int .u32 (S.lock : Int)] 51) = W1 at HS1 ⊢
  go_cut [11] (fun v11 wc => ∃ Z, v11 = .pointer (some ⟨Z, 0, none⟩) ∧ As (Rdr 74 wc Z (b1 ++ b2) false ∧ W1.heap.size ≤ Z ∧ Below W1.heap.size W1 wc))
  case first =>
    refine wp_region_held_drew (S := (fun V : World => Below W1.heap.size W1 V)) (by kernel_rfl) ?_ (fun hHeld => ?_)
    · exact below_dr W1
    refine wpAnyH_take (i := 1) (oi := ?_) (v := ?_) (by simp only [List.getElem?_toArray, List.getElem?_cons_zero, List.getElem?_cons_succ]; rfl) (by kernel_rfl) (by kernel_rfl) (by kernel_rfl) (by exact fun _ _ _ h => h) (Or.inl ⟨by rfl, ?_⟩) (by assumption) ?_
    rotate_left
    · (intro w hSw; (try dsimp only at hSw); obtain ⟨q0, q1, q2, q3⟩ := (HS1.out.2.1.below hSw).four; obtain ⟨r0, r1, r2, r3⟩ := (HS1.out.2.2.below hSw).four; clear hSw; go_simp; first | done | with_reducible rfl)
    try simp only [Act.put, List.setIfInBounds_toArray, List.set_cons_zero, List.set_cons_succ]
    refine wpAnyH_take (i := 4) (oi := ?_) (v := ?_) (by simp only [List.getElem?_toArray, List.getElem?_cons_zero, List.getElem?_cons_succ]; rfl) (by kernel_rfl) (by kernel_rfl) (by kernel_rfl) (by exact fun _ _ _ h => h) (Or.inl ⟨by rfl, ?_⟩) (by assumption) ?_
    rotate_left
    · (intro w hSw; (try dsimp only at hSw); obtain ⟨q0, q1, q2, q3⟩ := (HS1.out.2.1.below hSw).four; obtain ⟨r0, r1, r2, r3⟩ := (HS1.out.2.2.below hSw).four; clear hSw; go_simp; first | done | with_reducible rfl)
    try simp only [Act.put, List.setIfInBounds_toArray, List.set_cons_zero, List.set_cons_succ]
    refine wpAnyH_ready (rs := [0, 2]) (by kernel_rfl) (by simp) ?_
    refine AllReadyH.cons (o := ?_) (by simp only [List.getElem?_toArray, List.getElem?_cons_zero, List.getElem?_cons_succ]; rfl) (fun K hK => ?_) ?_
    · go_simp
      have hS2 : Below W1.heap.size W1 (W1.drew.alloc (.cells #[] 5)) := (below_dr W1).alloc (Nat.le_refl _) _
      have HE0 : As (OwB (W1.drew.alloc (.cells #[] 5)) W1.heap.size 5 (.slice (some ⟨W1.heap.size, 0, none⟩) 0 0) []) := ⟨OwB.empty W1.drew W1.heap.size 5 (Nat.le_refl _)⟩
      refine hK.out _ _ ?_ (fun hHeld2 => ?_)
      · exact hS2
      clear hK K hHeld
      have hHeld := hHeld2
      clear hHeld2
      try simp only [Act.put, List.setIfInBounds_toArray, List.set_cons_zero, List.set_cons_succ]
      refine wpAnyH_ready (rs := [2]) (by kernel_rfl) (by simp) ?_
      refine AllReadyH.cons (o := ?_) (by simp only [List.getElem?_toArray, List.getElem?_cons_zero, List.getElem?_cons_succ]; rfl) (fun K hK => ?_) ?_
      · go_simp
        refine (bytes_any _ T _ (HS1.out.2.1.below hHeld).tx).mono ?_
        rintro e w2 ⟨r2, rfl, ho, hb⟩
        rw [← HBT.out] at ho
        obtain ⟨A2, c2, rfl⟩ := RdB.formN ho.rd rfl
        have hS2 := hHeld.trans (hb.mono hHeld.size)
        have HEF := As.mk (OwS.below HE0.out hb)
        have HRF := As.mk ho.rd
        clear ho hb
        dsimp only
        refine hK.out _ _ ?_ (fun hHeld2 => ?_)
        · exact hS2
        clear hK K hHeld
        have hHeld := hHeld2
        clear hHeld2
        try simp only [Act.put, List.setIfInBounds_toArray, List.set_cons_zero, List.set_cons_succ]
        refine wpAnyH_ready (rs := [3]) (by kernel_rfl) (by simp) ?_
        refine AllReadyH.cons (o := ?_) (by simp only [List.getElem?_toArray, List.getElem?_cons_zero, List.getElem?_cons_succ]; rfl) (fun K hK => ?_) ?_
        · refine step_appB ?hgd (.tmp 24) (.tmp 26) ?ho ?hty W1.heap.size (.slice (some ⟨W1.heap.size, 0, none⟩) 0 0) [] ?hs HEF.out (.slice A2 b1.length c2) b1 ?hx HRF.out ?hl hHeld.size ?_
          case hgd => rfl
          case ho => rfl
          case hty => rfl
          case hs => rfl
          case hx => rfl
          case hl => have := HLN.out.1; simp; omega
          intro v3 w3 ho hg
          have hS2 := OwB.below_of HEF.out hg hHeld (Nat.le_refl _) hHeld.size
          obtain ⟨A3, c3, rfl⟩ := RdB.formN ho.rd rfl
          have HO3 := As.mk (show OwB w3 W1.heap.size 5 (.slice A3 b1.length c3) b1 from ho)
          clear ho hg
          refine hK.out _ _ ?_ (fun hHeld2 => ?_)
          · exact hS2
          clear hK K hHeld
          have hHeld := hHeld2
          clear hHeld2
          try simp only [Act.put, List.setIfInBounds_toArray, List.set_cons_zero, List.set_cons_succ]
          refine wpAnyH_ready (rs := [5]) (by kernel_rfl) (by simp) ?_
          refine AllReadyH.cons (o := ?_) (by simp only [List.getElem?_toArray, List.getElem?_cons_zero, List.getElem?_cons_succ]; rfl) (fun K hK => ?_) ?_
          · go_simp
            refine (bytes_any _ S _ (HS1.out.2.2.below hHeld).tx).mono ?_
            rintro e w5 ⟨r5, rfl, ho, hb⟩
            rw [← HBS.out] at ho
            obtain ⟨A5, c5, rfl⟩ := RdB.formN ho.rd rfl
            have hS2 := hHeld.trans (hb.mono hHeld.size)
            have HO5 := As.mk (OwS.below HO3.out hb)
            have HR5 := As.mk ho.rd
            clear ho hb
            dsimp only
            refine hK.out _ _ ?_ (fun hHeld2 => ?_)
            · exact hS2
            clear hK K hHeld
            have hHeld := hHeld2
            clear hHeld2
            try simp only [Act.put, List.setIfInBounds_toArray, List.set_cons_zero, List.set_cons_succ]
            refine wpAnyH_ready (rs := [6]) (by kernel_rfl) (by simp) ?_
            refine AllReadyH.cons (o := ?_) (by simp only [List.getElem?_toArray, List.getElem?_cons_zero, List.getElem?_cons_succ]; rfl) (fun K hK => ?_) ?_
            · refine step_appB ?hgd (.tmp 27) (.tmp 29) ?ho ?hty W1.heap.size (.slice A3 b1.length c3) b1 ?hs HO5.out (.slice A5 b2.length c5) b2 ?hx HR5.out ?hl hHeld.size ?_
              case hgd => rfl
              case ho => rfl
              case hty => rfl
              case hs => rfl
              case hx => rfl
              case hl => have := HLN.out; omega
              intro v6 w6 ho hg
              have hS2 := OwB.below_of HO5.out hg hHeld (Nat.le_refl _) hHeld.size
              have HO6 := As.mk (show RdB w6 v6 (b1 ++ b2) from ho.rd)
              clear ho hg
              refine hK.out _ _ ?_ (fun hHeld2 => ?_)
              · exact hS2
              clear hK K hHeld
              have hHeld := hHeld2
              clear hHeld2
              try simp only [Act.put, List.setIfInBounds_toArray, List.set_cons_zero, List.set_cons_succ]
              refine wpAnyH_ready (rs := [7]) (by kernel_rfl) (by simp) ?_
              refine AllReadyH.cons (o := ?_) (by simp only [List.getElem?_toArray, List.getElem?_cons_zero, List.getElem?_cons_succ]; rfl) (fun K hK => ?_) ?_
              · go_simp
                refine (read_any _ (b1 ++ b2) _ HO6.out (by have := HLN.out; simp; omega)).mono ?_
                rintro e w7 ⟨Z, rfl, hZ, hr, hb⟩
                have hS2 := hHeld.trans (hb.mono hHeld.size)
                have HR7 := As.mk (And.intro hr (Nat.le_trans hHeld.size hZ))
                clear hr hb hZ
                dsimp only
                refine hK.out _ _ ?_ (fun hHeld2 => ?_)
                · exact hS2
                clear hK K hHeld
                have hHeld := hHeld2
                clear hHeld2
                try simp only [Act.put, List.setIfInBounds_toArray, List.set_cons_zero, List.set_cons_succ]
                refine wpAnyH_take (i := 8) (oi := ?_) (v := ?_) (by simp only [List.getElem?_toArray, List.getElem?_cons_zero, List.getElem?_cons_succ]; rfl) (by kernel_rfl) (by kernel_rfl) (by kernel_rfl) (by exact fun _ _ _ h => h) (Or.inl ⟨by rfl, ?_⟩) (by assumption) ?_
                rotate_left
                · (intro w hSw; (try dsimp only at hSw); obtain ⟨q0, q1, q2, q3⟩ := (HS1.out.2.1.below hSw).four; obtain ⟨r0, r1, r2, r3⟩ := (HS1.out.2.2.below hSw).four; clear hSw; go_simp; first | done | with_reducible rfl)
                try simp only [Act.put, List.setIfInBounds_toArray, List.set_cons_zero, List.set_cons_succ]
                refine wpAnyH_done (by kernel_rfl) ?_ _
                have HH := As.mk hHeld
                clear hHeld
                go_wp2
                go_meet
                exact ⟨Z, rfl, ⟨HR7.out.1, HR7.out.2, HH.out⟩⟩
              exact AllReadyH.nil
            exact AllReadyH.nil
          exact AllReadyH.nil
        exact AllReadyH.nil
      exact AllReadyH.nil
    refine AllReadyH.cons (o := ?_) (by simp only [List.getElem?_toArray, List.getElem?_cons_zero, List.getElem?_cons_succ]; rfl) (fun K hK => ?_) ?_
    · go_simp
      refine (bytes_any _ T _ (HS1.out.2.1.below hHeld).tx).mono ?_
      rintro e w2 ⟨r2, rfl, ho, hb⟩
      rw [← HBT.out] at ho
      obtain ⟨A2, c2, rfl⟩ := RdB.formN ho.rd rfl
      have hS2 := hHeld.trans (hb.mono hHeld.size)
      have HR2 := As.mk ho.rd
      clear ho hb
      dsimp only
      refine hK.out _ _ ?_ (fun hHeld2 => ?_)
      · exact hS2
      clear hK K hHeld
      have hHeld := hHeld2
      clear hHeld2
      try simp only [Act.put, List.setIfInBounds_toArray, List.set_cons_zero, List.set_cons_succ]
      refine wpAnyH_ready (rs := [0]) (by kernel_rfl) (by simp) ?_
      refine AllReadyH.cons (o := ?_) (by simp only [List.getElem?_toArray, List.getElem?_cons_zero, List.getElem?_cons_succ]; rfl) (fun K hK => ?_) ?_
      · go_simp
        have hS2 : Below W1.heap.size W1 (w2.alloc (.cells #[] 5)) := hHeld.alloc hHeld.size _
        have HEF : As (OwB (w2.alloc (.cells #[] 5)) W1.heap.size 5 (.slice (some ⟨w2.heap.size, 0, none⟩) 0 0) []) := ⟨OwB.empty w2 W1.heap.size 5 hHeld.size⟩
        have HRF := As.mk (HR2.out.below (below_al w2 (.cells #[] 5)))
        refine hK.out _ _ ?_ (fun hHeld2 => ?_)
        · exact hS2
        clear hK K hHeld
        have hHeld := hHeld2
        clear hHeld2
        try simp only [Act.put, List.setIfInBounds_toArray, List.set_cons_zero, List.set_cons_succ]
        refine wpAnyH_ready (rs := [3]) (by kernel_rfl) (by simp) ?_
        refine AllReadyH.cons (o := ?_) (by simp only [List.getElem?_toArray, List.getElem?_cons_zero, List.getElem?_cons_succ]; rfl) (fun K hK => ?_) ?_
        · refine step_appB ?hgd (.tmp 24) (.tmp 26) ?ho ?hty W1.heap.size (.slice (some ⟨w2.heap.size, 0, none⟩) 0 0) [] ?hs HEF.out (.slice A2 b1.length c2) b1 ?hx HRF.out ?hl hHeld.size ?_
          case hgd => rfl
          case ho => rfl
          case hty => rfl
          case hs => rfl
          case hx => rfl
          case hl => have := HLN.out.1; simp; omega
          intro v3 w3 ho hg
          have hS2 := OwB.below_of HEF.out hg hHeld (Nat.le_refl _) hHeld.size
          obtain ⟨A3, c3, rfl⟩ := RdB.formN ho.rd rfl
          have HO3 := As.mk (show OwB w3 W1.heap.size 5 (.slice A3 b1.length c3) b1 from ho)
          clear ho hg
          refine hK.out _ _ ?_ (fun hHeld2 => ?_)
          · exact hS2
          clear hK K hHeld
          have hHeld := hHeld2
          clear hHeld2
          try simp only [Act.put, List.setIfInBounds_toArray, List.set_cons_zero, List.set_cons_succ]
          refine wpAnyH_ready (rs := [5]) (by kernel_rfl) (by simp) ?_
          refine AllReadyH.cons (o := ?_) (by simp only [List.getElem?_toArray, List.getElem?_cons_zero, List.getElem?_cons_succ]; rfl) (fun K hK => ?_) ?_
          · go_simp
            refine (bytes_any _ S _ (HS1.out.2.2.below hHeld).tx).mono ?_
            rintro e w5 ⟨r5, rfl, ho, hb⟩
            rw [← HBS.out] at ho
            obtain ⟨A5, c5, rfl⟩ := RdB.formN ho.rd rfl
            have hS2 := hHeld.trans (hb.mono hHeld.size)
            have HO5 := As.mk (OwS.below HO3.out hb)
            have HR5 := As.mk ho.rd
            clear ho hb
            dsimp only
            refine hK.out _ _ ?_ (fun hHeld2 => ?_)
            · exact hS2
            clear hK K hHeld
            have hHeld := hHeld2
            clear hHeld2
            try simp only [Act.put, List.setIfInBounds_toArray, List.set_cons_zero, List.set_cons_succ]
            refine wpAnyH_ready (rs := [6]) (by kernel_rfl) (by simp) ?_
            refine AllReadyH.cons (o := ?_) (by simp only [List.getElem?_toArray, List.getElem?_cons_zero, List.getElem?_cons_succ]; rfl) (fun K hK => ?_) ?_
            · refine step_appB ?hgd (.tmp 27) (.tmp 29) ?ho ?hty W1.heap.size (.slice A3 b1.length c3) b1 ?hs HO5.out (.slice A5 b2.length c5) b2 ?hx HR5.out ?hl hHeld.size ?_
              case hgd => rfl
              case ho => rfl
              case hty => rfl
              case hs => rfl
              case hx => rfl
              case hl => have := HLN.out; omega
              intro v6 w6 ho hg
              have hS2 := OwB.below_of HO5.out hg hHeld (Nat.le_refl _) hHeld.size
              have HO6 := As.mk (show RdB w6 v6 (b1 ++ b2) from ho.rd)
              clear ho hg
              refine hK.out _ _ ?_ (fun hHeld2 => ?_)
              · exact hS2
              clear hK K hHeld
              have hHeld := hHeld2
              clear hHeld2
              try simp only [Act.put, List.setIfInBounds_toArray, List.set_cons_zero, List.set_cons_succ]
              refine wpAnyH_ready (rs := [7]) (by kernel_rfl) (by simp) ?_
              refine AllReadyH.cons (o := ?_) (by simp only [List.getElem?_toArray, List.getElem?_cons_zero, List.getElem?_cons_succ]; rfl) (fun K hK => ?_) ?_
              · go_simp
                refine (read_any _ (b1 ++ b2) _ HO6.out (by have := HLN.out; simp; omega)).mono ?_
                rintro e w7 ⟨Z, rfl, hZ, hr, hb⟩
                have hS2 := hHeld.trans (hb.mono hHeld.size)
                have HR7 := As.mk (And.intro hr (Nat.le_trans hHeld.size hZ))
                clear hr hb hZ
                dsimp only
                refine hK.out _ _ ?_ (fun hHeld2 => ?_)
                · exact hS2
                clear hK K hHeld
                have hHeld := hHeld2
                clear hHeld2
                try simp only [Act.put, List.setIfInBounds_toArray, List.set_cons_zero, List.set_cons_succ]
                refine wpAnyH_take (i := 8) (oi := ?_) (v := ?_) (by simp only [List.getElem?_toArray, List.getElem?_cons_zero, List.getElem?_cons_succ]; rfl) (by kernel_rfl) (by kernel_rfl) (by kernel_rfl) (by exact fun _ _ _ h => h) (Or.inl ⟨by rfl, ?_⟩) (by assumption) ?_
                rotate_left
                · (intro w hSw; (try dsimp only at hSw); obtain ⟨q0, q1, q2, q3⟩ := (HS1.out.2.1.below hSw).four; obtain ⟨r0, r1, r2, r3⟩ := (HS1.out.2.2.below hSw).four; clear hSw; go_simp; first | done | with_reducible rfl)
                try simp only [Act.put, List.setIfInBounds_toArray, List.set_cons_zero, List.set_cons_succ]
                refine wpAnyH_done (by kernel_rfl) ?_ _
                have HH := As.mk hHeld
                clear hHeld
                go_wp2
                go_meet
                exact ⟨Z, rfl, ⟨HR7.out.1, HR7.out.2, HH.out⟩⟩
              exact AllReadyH.nil
            exact AllReadyH.nil
          exact AllReadyH.nil
        exact AllReadyH.nil
      exact AllReadyH.nil
    exact AllReadyH.nil
  case rest =>
    obtain ⟨Z, rfl, HZ⟩ := hcut
    have HZ0 := As.mk (And.intro HZ.out.1.lt HZ.out.2.1)
    have hl12 : ((b1 ++ b2).length : Int) ≤ 140737488355328 := by have := HLN.out; rw [List.length_append]; omega
    go_upto_region 6 with (go_at_call 58; (with_reducible refine (rtx_to Z (b1 ++ b2) false _ HP1.out HZ.out.1 (by omega)).mono ?_); rintro e w3 ⟨cs, rfl, ht, hr, hg⟩; have HX3 := As.mk ht; obtain ⟨CI, eI, CO, eO, rfl⟩ := OwTx.form ht; have HR3 := As.mk hr; have HG3 := As.mk hg; clear ht hr hg)
    obtain ⟨lo, hlo⟩ : ∃ l, l = wc.heap.size := ⟨_, rfl⟩
    obtain ⟨X, hX⟩ : ∃ l, l = w3.heap.size := ⟨_, rfl⟩
    have HS3 : As (Below W1.heap.size W1 (w3.alloc (.cells #[.int .u32 (T.ver : Int), .slice CI T.ins.length eI, .slice CO T.outs.length eO, .int .u32 (T.lock : Int)] 51)) ∧ Box (w3.alloc (.cells #[.int .u32 (T.ver : Int), .slice CI T.ins.length eI, .slice CO T.outs.length eO, .int .u32 (T.lock : Int)] 51)) X #[.int .u32 (T.ver : Int), .slice CI T.ins.length eI, .slice CO T.outs.length eO, .int .u32 (T.lock : Int)] 51 ∧ OwTx (w3.alloc (.cells #[.int .u32 (T.ver : Int), .slice CI T.ins.length eI, .slice CO T.outs.length eO, .int .u32 (T.lock : Int)] 51)) lo [.int .u32 (T.ver : Int), .slice CI T.ins.length eI, .slice CO T.outs.length eO, .int .u32 (T.lock : Int)] T ∧ Rdr 74 (w3.alloc (.cells #[.int .u32 (T.ver : Int), .slice CI T.ins.length eI, .slice CO T.outs.length eO, .int .u32 (T.lock : Int)] 51)) Z b2 false ∧ Z < lo ∧ W1.heap.size ≤ Z ∧ lo ≤ X) := by
      have hz := HZ0.out
      have hb := HZ.out.2.2
      exact ⟨(hb.trans (below_of_grown HG3.out hz.2 hb.size)).alloc (Nat.le_trans hb.size HG3.out.size) _, by rw [hX]; exact Box.new _ _ _, by rw [hlo]; exact HX3.out.below (below_al _ _), HR3.out.below (below_al _ _), by rw [hlo]; exact hz.1, hz.2, by rw [hlo, hX]; exact HG3.out.size⟩
    rw [← hX]
    clear hX hlo HR3 HG3 HX3 HZ HZ0
    generalize w3.alloc (.cells #[.int .u32 (T.ver : Int), .slice CI T.ins.length eI, .slice CO T.outs.length eO, .int .u32 (T.lock : Int)] 51) = W3 at HS3 ⊢
    go_upto_region 7 with (go_at_call 58; (with_reducible refine (rtx_to Z b2 false _ HP2.out HS3.out.2.2.2.1 (by have := HLN.out; omega)).mono ?_); rintro e w4 ⟨cs, rfl, ht, hr, hg⟩; have HX4 := As.mk ht.rd; obtain ⟨DI, fI, DO, fO, rfl⟩ := OwTx.form ht; have HR4 := As.mk hr; have HG4 := As.mk hg; clear ht hr hg)
    have HS4 : As (Below W1.heap.size W1 (w4.alloc (.cells #[.int .u32 (S.ver : Int), .slice DI S.ins.length fI, .slice DO S.outs.length fO, .int .u32 (S.lock : Int)] 51)) ∧ Box (w4.alloc (.cells #[.int .u32 (S.ver : Int), .slice DI S.ins.length fI, .slice DO S.outs.length fO, .int .u32 (S.lock : Int)] 51)) X #[.int .u32 (T.ver : Int), .slice CI T.ins.length eI, .slice CO T.outs.length eO, .int .u32 (T.lock : Int)] 51 ∧ OwTx (w4.alloc (.cells #[.int .u32 (S.ver : Int), .slice DI S.ins.length fI, .slice DO S.outs.length fO, .int .u32 (S.lock : Int)] 51)) lo [.int .u32 (T.ver : Int), .slice CI T.ins.length eI, .slice CO T.outs.length eO, .int .u32 (T.lock : Int)] T ∧ Rdr 74 (w4.alloc (.cells #[.int .u32 (S.ver : Int), .slice DI S.ins.length fI, .slice DO S.outs.length fO, .int .u32 (S.lock : Int)] 51)) Z [] false ∧ BxT (w4.alloc (.cells #[.int .u32 (S.ver : Int), .slice DI S.ins.length fI, .slice DO S.outs.length fO, .int .u32 (S.lock : Int)] 51)) w4.heap.size [.int .u32 (S.ver : Int), .slice DI S.ins.length fI, .slice DO S.outs.length fO, .int .u32 (S.lock : Int)] S ∧ W1.heap.size ≤ lo ∧ lo ≤ X) := by
      obtain ⟨h1, h2, h3, h4, h5, h6, h7⟩ := HS3.out
      have hg := HG4.out
      exact ⟨(h1.trans (below_of_grown hg h6 h1.size)).alloc (Nat.le_trans h1.size hg.size) _, (h2.grown hg (fun e => by injection e with e; omega)).below (below_al _ _), (h3.read hg h5).below (below_al _ _), HR4.out.below (below_al _ _), BxT.new HX4.out, by omega, h7⟩
    obtain ⟨Y, hY⟩ : ∃ l, l = w4.heap.size := ⟨_, rfl⟩
    rw [← hY] at HS4 ⊢
    clear hY HR4 HG4 HX4 HS3
    generalize w4.alloc (.cells #[.int .u32 (S.ver : Int), .slice DI S.ins.length fI, .slice DO S.outs.length fO, .int .u32 (S.lock : Int)] 51) = W4 at HS4 ⊢
    have HB4 := As.mk (And.intro (HS1.out.2.1.below HS4.out.1) (HS1.out.2.2.below HS4.out.1))
    obtain ⟨q0, q1, q2, q3⟩ := HB4.out.1.four
    obtain ⟨r0, r1, r2, r3⟩ := HB4.out.2.four
    obtain ⟨s0, s1, s2, s3, -⟩ := Box.four HS4.out.2.1
    obtain ⟨t0, t1, t2, t3⟩ := HS4.out.2.2.2.2.1.four
    have d1 : decide (T = T) = true := decide_eq_true rfl
    have d2 : decide (S = S) = true := decide_eq_true rfl
    go_upto_region 9 with (first | (go_at_call 22; (with_reducible refine (end_to Z [] false _ (r := true) rfl HS4.out.2.2.2.1).mono ?_); rintro e w' ⟨rfl, rfl⟩) | (go_at_call 52; first | ((with_reducible refine (qsame_any _ _ T T _ HS4.out.2.2.1.rd HB4.out.1.tx).mono ?_); rintro e w5 ⟨rfl, hb⟩; have HS5 := As.mk (And.intro (HS4.out.1.trans (hb.mono HS4.out.1.size)) (And.intro (HS4.out.2.1.below hb) (And.intro (HS4.out.2.2.1.below hb) (HS4.out.2.2.2.2.1.below hb)))); have HB5 := As.mk (And.intro (HB4.out.1.below hb) (HB4.out.2.below hb)); clear hb q0 q1 q2 q3 r0 r1 r2 r3 s0 s1 s2 s3 t0 t1 t2 t3; obtain ⟨r0, r1, r2, r3⟩ := HB5.out.2.four; obtain ⟨t0, t1, t2, t3⟩ := HS5.out.2.2.2.four) | ((with_reducible refine (qsame_any _ _ S S _ HS5.out.2.2.2.tx HB5.out.2.tx).mono ?_); rintro e w6 ⟨rfl, hb⟩; have HS6 := As.mk (And.intro (HS5.out.1.trans (hb.mono HS5.out.1.size)) (And.intro (HS5.out.2.1.below hb) (HS5.out.2.2.1.below hb))); have HB6 := As.mk (And.intro (HB5.out.1.below hb) (HB5.out.2.below hb)); clear hb r0 r1 r2 r3 t0 t1 t2 t3)))
    have HLX := As.mk (And.intro HS4.out.2.2.2.2.2.1 HS4.out.2.2.2.2.2.2)
    clear HS5 HB5 HS4 HB4
    have hd1 := HD.out
    have hd2 := HDD.out
    have hdx : (d != d) = false := bne_self_eq_false d
    go_cut [77] (fun v77 wc => v77 = .bool false ∧ As (Below w6.heap.size w6 wc))
    case first =>
      refine wp_region_held_drew (S := (fun V : World => Below w6.heap.size w6 V)) (by kernel_rfl) ?_ (fun hHeld => ?_)
      · exact below_dr w6
      refine wpAnyH_take (i := 0) (oi := ?_) (v := ?_) (by simp only [List.getElem?_toArray, List.getElem?_cons_zero, List.getElem?_cons_succ]; rfl) (by kernel_rfl) (by kernel_rfl) (by kernel_rfl) (by exact fun _ _ _ h => h) (Or.inl ⟨by rfl, ?_⟩) (by assumption) ?_
      rotate_left
      · (intro w hSw; (try dsimp only at hSw); obtain ⟨q0, q1, q2, q3⟩ := (HB6.out.1.below hSw).four; obtain ⟨r0, r1, r2, r3⟩ := (HB6.out.2.below hSw).four; clear hSw; go_simp; first | done | with_reducible rfl)
      try simp only [Act.put, List.setIfInBounds_toArray, List.set_cons_zero, List.set_cons_succ]
      refine wpAnyH_take (i := 3) (oi := ?_) (v := ?_) (by simp only [List.getElem?_toArray, List.getElem?_cons_zero, List.getElem?_cons_succ]; rfl) (by kernel_rfl) (by kernel_rfl) (by kernel_rfl) (by exact fun _ _ _ h => h) (Or.inl ⟨by rfl, ?_⟩) (by assumption) ?_
      rotate_left
      · (intro w hSw; (try dsimp only at hSw); obtain ⟨q0, q1, q2, q3⟩ := (HB6.out.1.below hSw).four; obtain ⟨r0, r1, r2, r3⟩ := (HB6.out.2.below hSw).four; clear hSw; go_simp; first | done | with_reducible rfl)
      try simp only [Act.put, List.setIfInBounds_toArray, List.set_cons_zero, List.set_cons_succ]
      refine wpAnyH_take (i := 7) (oi := ?_) (v := ?_) (by simp only [List.getElem?_toArray, List.getElem?_cons_zero, List.getElem?_cons_succ]; rfl) (by kernel_rfl) (by kernel_rfl) (by kernel_rfl) (by exact fun _ _ _ h => h) (Or.inl ⟨by rfl, ?_⟩) (by assumption) ?_
      rotate_left
      · (intro w hSw; (try dsimp only at hSw); obtain ⟨q0, q1, q2, q3⟩ := (HB6.out.1.below hSw).four; obtain ⟨r0, r1, r2, r3⟩ := (HB6.out.2.below hSw).four; clear hSw; go_simp; first | done | with_reducible rfl)
      try simp only [Act.put, List.setIfInBounds_toArray, List.set_cons_zero, List.set_cons_succ]
      refine wpAnyH_take (i := 8) (oi := ?_) (v := ?_) (by simp only [List.getElem?_toArray, List.getElem?_cons_zero, List.getElem?_cons_succ]; rfl) (by kernel_rfl) (by kernel_rfl) (by kernel_rfl) (by exact fun _ _ _ h => h) (Or.inl ⟨by rfl, ?_⟩) (by assumption) ?_
      rotate_left
      · (intro w hSw; (try dsimp only at hSw); obtain ⟨q0, q1, q2, q3⟩ := (HB6.out.1.below hSw).four; obtain ⟨r0, r1, r2, r3⟩ := (HB6.out.2.below hSw).four; clear hSw; go_simp; first | done | with_reducible rfl)
      try simp only [Act.put, List.setIfInBounds_toArray, List.set_cons_zero, List.set_cons_succ]
      refine wpAnyH_ready (rs := [1]) (by kernel_rfl) (by simp) ?_
      refine AllReadyH.cons (o := ?_) (by simp only [List.getElem?_toArray, List.getElem?_cons_zero, List.getElem?_cons_succ]; rfl) (fun K hK => ?_) ?_
      · go_simp
        refine (bytes_any _ T _ (HB6.out.1.below hHeld).tx).mono ?_
        rintro e w9 ⟨r9, rfl, ho, hb⟩
        rw [← HBT.out] at ho
        obtain ⟨A9, c9, rfl⟩ := RdB.formN ho.rd rfl
        have hS2 := hHeld.trans (hb.mono hHeld.size)
        have HRa := As.mk ho.rd
        clear ho hb
        dsimp only
        refine hK.out _ _ ?_ (fun hHeld2 => ?_)
        · exact hS2
        clear hK K hHeld
        have hHeld := hHeld2
        clear hHeld2
        try simp only [Act.put, List.setIfInBounds_toArray, List.set_cons_zero, List.set_cons_succ]
        refine wpAnyH_ready (rs := [2, 4]) (by kernel_rfl) (by simp) ?_
        refine AllReadyH.cons (o := ?_) (by simp only [List.getElem?_toArray, List.getElem?_cons_zero, List.getElem?_cons_succ]; rfl) (fun K hK => ?_) ?_
        · have kv := run_str (P := Try.prog) 24 9 5 Try.underlying24 Try.underlying5 Try.underlying9 HRa.out
          have hS2 := hHeld
          go_simp
          clear kv
          refine hK.out _ _ ?_ (fun hHeld2 => ?_)
          · exact hS2
          clear hK K hHeld
          have hHeld := hHeld2
          clear hHeld2
          try simp only [Act.put, List.setIfInBounds_toArray, List.set_cons_zero, List.set_cons_succ]
          refine wpAnyH_ready (rs := [4]) (by kernel_rfl) (by simp) ?_
          refine AllReadyH.cons (o := ?_) (by simp only [List.getElem?_toArray, List.getElem?_cons_zero, List.getElem?_cons_succ]; rfl) (fun K hK => ?_) ?_
          · go_simp
            refine (bytes_any _ S _ (HB6.out.2.below hHeld).tx).mono ?_
            rintro e w10 ⟨r10, rfl, ho, hb⟩
            rw [← HBS.out] at ho
            obtain ⟨A10, c10, rfl⟩ := RdB.formN ho.rd rfl
            have hS2 := hHeld.trans (hb.mono hHeld.size)
            have HRb := As.mk ho.rd
            clear ho hb
            dsimp only
            refine hK.out _ _ ?_ (fun hHeld2 => ?_)
            · exact hS2
            clear hK K hHeld
            have hHeld := hHeld2
            clear hHeld2
            try simp only [Act.put, List.setIfInBounds_toArray, List.set_cons_zero, List.set_cons_succ]
            refine wpAnyH_ready (rs := [5, 9]) (by kernel_rfl) (by simp) ?_
            refine AllReadyH.cons (o := ?_) (by simp only [List.getElem?_toArray, List.getElem?_cons_zero, List.getElem?_cons_succ]; rfl) (fun K hK => ?_) ?_
            · have kv := run_str (P := Try.prog) 24 9 5 Try.underlying24 Try.underlying5 Try.underlying9 HRb.out
              have hS2 := hHeld
              go_simp
              clear kv
              refine hK.out _ _ ?_ (fun hHeld2 => ?_)
              · exact hS2
              clear hK K hHeld
              have hHeld := hHeld2
              clear hHeld2
              try simp only [Act.put, List.setIfInBounds_toArray, List.set_cons_zero, List.set_cons_succ]
              refine wpAnyH_take (i := 6) (oi := ?_) (v := ?_) (by simp only [List.getElem?_toArray, List.getElem?_cons_zero, List.getElem?_cons_succ]; rfl) (by kernel_rfl) (by kernel_rfl) (by kernel_rfl) (by exact fun _ _ _ h => h) (Or.inl ⟨by rfl, ?_⟩) (by assumption) ?_
              rotate_left
              · (intro w hSw; (try dsimp only at hSw); obtain ⟨q0, q1, q2, q3⟩ := (HB6.out.1.below hSw).four; obtain ⟨r0, r1, r2, r3⟩ := (HB6.out.2.below hSw).four; clear hSw; go_simp; first | done | with_reducible rfl)
              try simp only [Act.put, List.setIfInBounds_toArray, List.set_cons_zero, List.set_cons_succ]
              refine wpAnyH_ready (rs := [9]) (by kernel_rfl) (by simp) ?_
              refine AllReadyH.cons (o := ?_) (by simp only [List.getElem?_toArray, List.getElem?_cons_zero, List.getElem?_cons_succ]; rfl) (fun K hK => ?_) ?_
              · go_simp
                refine (qsame_any _ _ T S _ (HB6.out.1.below hHeld).tx (HB6.out.2.below hHeld).tx).mono ?_
                rintro e w11 ⟨rfl, hb⟩
                have hS2 := hHeld.trans (hb.mono hHeld.size)
                clear hb
                (try rw [hd2])
                dsimp only
                refine hK.out _ _ ?_ (fun hHeld2 => ?_)
                · exact hS2
                clear hK K hHeld
                have hHeld := hHeld2
                clear hHeld2
                try simp only [Act.put, List.setIfInBounds_toArray, List.set_cons_zero, List.set_cons_succ]
                refine wpAnyH_take (i := 10) (oi := ?_) (v := ?_) (by simp only [List.getElem?_toArray, List.getElem?_cons_zero, List.getElem?_cons_succ]; rfl) (by kernel_rfl) (by kernel_rfl) (by kernel_rfl) (by exact fun _ _ _ h => h) (Or.inl ⟨by rfl, ?_⟩) (by assumption) ?_
                rotate_left
                · (intro w hSw; (try dsimp only at hSw); obtain ⟨q0, q1, q2, q3⟩ := (HB6.out.1.below hSw).four; obtain ⟨r0, r1, r2, r3⟩ := (HB6.out.2.below hSw).four; clear hSw; go_simp; first | done | with_reducible rfl)
                try simp only [Act.put, List.setIfInBounds_toArray, List.set_cons_zero, List.set_cons_succ]
                refine wpAnyH_done (by kernel_rfl) ?_ _
                have HH := As.mk hHeld
                clear hHeld
                go_wp2
                go_meet
                exact ⟨rfl, HH⟩
              exact AllReadyH.nil
            refine AllReadyH.cons (o := ?_) (by simp only [List.getElem?_toArray, List.getElem?_cons_zero, List.getElem?_cons_succ]; rfl) (fun K hK => ?_) ?_
            · go_simp
              refine (qsame_any _ _ T S _ (HB6.out.1.below hHeld).tx (HB6.out.2.below hHeld).tx).mono ?_
              rintro e w11 ⟨rfl, hb⟩
              have hS2 := hHeld.trans (hb.mono hHeld.size)
              have HRb2 := As.mk (HRb.out.below hb)
              clear HRb
              have HRb := HRb2
              clear HRb2
              clear hb
              (try rw [hd2])
              dsimp only
              refine hK.out _ _ ?_ (fun hHeld2 => ?_)
              · exact hS2
              clear hK K hHeld
              have hHeld := hHeld2
              clear hHeld2
              try simp only [Act.put, List.setIfInBounds_toArray, List.set_cons_zero, List.set_cons_succ]
              refine wpAnyH_ready (rs := [5]) (by kernel_rfl) (by simp) ?_
              refine AllReadyH.cons (o := ?_) (by simp only [List.getElem?_toArray, List.getElem?_cons_zero, List.getElem?_cons_succ]; rfl) (fun K hK => ?_) ?_
              · have kv := run_str (P := Try.prog) 24 9 5 Try.underlying24 Try.underlying5 Try.underlying9 HRb.out
                have hS2 := hHeld
                go_simp
                clear kv
                refine hK.out _ _ ?_ (fun hHeld2 => ?_)
                · exact hS2
                clear hK K hHeld
                have hHeld := hHeld2
                clear hHeld2
                try simp only [Act.put, List.setIfInBounds_toArray, List.set_cons_zero, List.set_cons_succ]
                refine wpAnyH_take (i := 6) (oi := ?_) (v := ?_) (by simp only [List.getElem?_toArray, List.getElem?_cons_zero, List.getElem?_cons_succ]; rfl) (by kernel_rfl) (by kernel_rfl) (by kernel_rfl) (by exact fun _ _ _ h => h) (Or.inl ⟨by rfl, ?_⟩) (by assumption) ?_
                rotate_left
                · (intro w hSw; (try dsimp only at hSw); obtain ⟨q0, q1, q2, q3⟩ := (HB6.out.1.below hSw).four; obtain ⟨r0, r1, r2, r3⟩ := (HB6.out.2.below hSw).four; clear hSw; go_simp; first | done | with_reducible rfl)
                try simp only [Act.put, List.setIfInBounds_toArray, List.set_cons_zero, List.set_cons_succ]
                refine wpAnyH_take (i := 10) (oi := ?_) (v := ?_) (by simp only [List.getElem?_toArray, List.getElem?_cons_zero, List.getElem?_cons_succ]; rfl) (by kernel_rfl) (by kernel_rfl) (by kernel_rfl) (by exact fun _ _ _ h => h) (Or.inl ⟨by rfl, ?_⟩) (by assumption) ?_
                rotate_left
                · (intro w hSw; (try dsimp only at hSw); obtain ⟨q0, q1, q2, q3⟩ := (HB6.out.1.below hSw).four; obtain ⟨r0, r1, r2, r3⟩ := (HB6.out.2.below hSw).four; clear hSw; go_simp; first | done | with_reducible rfl)
                try simp only [Act.put, List.setIfInBounds_toArray, List.set_cons_zero, List.set_cons_succ]
                refine wpAnyH_done (by kernel_rfl) ?_ _
                have HH := As.mk hHeld
                clear hHeld
                go_wp2
                go_meet
                exact ⟨rfl, HH⟩
              exact AllReadyH.nil
            exact AllReadyH.nil
          exact AllReadyH.nil
        refine AllReadyH.cons (o := ?_) (by simp only [List.getElem?_toArray, List.getElem?_cons_zero, List.getElem?_cons_succ]; rfl) (fun K hK => ?_) ?_
        · go_simp
          refine (bytes_any _ S _ (HB6.out.2.below hHeld).tx).mono ?_
          rintro e w10 ⟨r10, rfl, ho, hb⟩
          rw [← HBS.out] at ho
          obtain ⟨A10, c10, rfl⟩ := RdB.formN ho.rd rfl
          have hS2 := hHeld.trans (hb.mono hHeld.size)
          have HRb := As.mk ho.rd
          have HRa2 := As.mk (HRa.out.below hb)
          clear HRa
          have HRa := HRa2
          clear HRa2
          clear ho hb
          dsimp only
          refine hK.out _ _ ?_ (fun hHeld2 => ?_)
          · exact hS2
          clear hK K hHeld
          have hHeld := hHeld2
          clear hHeld2
          try simp only [Act.put, List.setIfInBounds_toArray, List.set_cons_zero, List.set_cons_succ]
          refine wpAnyH_ready (rs := [2, 5, 9]) (by kernel_rfl) (by simp) ?_
          refine AllReadyH.cons (o := ?_) (by simp only [List.getElem?_toArray, List.getElem?_cons_zero, List.getElem?_cons_succ]; rfl) (fun K hK => ?_) ?_
          · have kv := run_str (P := Try.prog) 24 9 5 Try.underlying24 Try.underlying5 Try.underlying9 HRa.out
            have hS2 := hHeld
            go_simp
            clear kv
            refine hK.out _ _ ?_ (fun hHeld2 => ?_)
            · exact hS2
            clear hK K hHeld
            have hHeld := hHeld2
            clear hHeld2
            try simp only [Act.put, List.setIfInBounds_toArray, List.set_cons_zero, List.set_cons_succ]
            refine wpAnyH_ready (rs := [5, 9]) (by kernel_rfl) (by simp) ?_
            refine AllReadyH.cons (o := ?_) (by simp only [List.getElem?_toArray, List.getElem?_cons_zero, List.getElem?_cons_succ]; rfl) (fun K hK => ?_) ?_
            · have kv := run_str (P := Try.prog) 24 9 5 Try.underlying24 Try.underlying5 Try.underlying9 HRb.out
              have hS2 := hHeld
              go_simp
              clear kv
              refine hK.out _ _ ?_ (fun hHeld2 => ?_)
              · exact hS2
              clear hK K hHeld
              have hHeld := hHeld2
              clear hHeld2
              try simp only [Act.put, List.setIfInBounds_toArray, List.set_cons_zero, List.set_cons_succ]
              refine wpAnyH_take (i := 6) (oi := ?_) (v := ?_) (by simp only [List.getElem?_toArray, List.getElem?_cons_zero, List.getElem?_cons_succ]; rfl) (by kernel_rfl) (by kernel_rfl) (by kernel_rfl) (by exact fun _ _ _ h => h) (Or.inl ⟨by rfl, ?_⟩) (by assumption) ?_
              rotate_left
              · (intro w hSw; (try dsimp only at hSw); obtain ⟨q0, q1, q2, q3⟩ := (HB6.out.1.below hSw).four; obtain ⟨r0, r1, r2, r3⟩ := (HB6.out.2.below hSw).four; clear hSw; go_simp; first | done | with_reducible rfl)
              try simp only [Act.put, List.setIfInBounds_toArray, List.set_cons_zero, List.set_cons_succ]
              refine wpAnyH_ready (rs := [9]) (by kernel_rfl) (by simp) ?_
              refine AllReadyH.cons (o := ?_) (by simp only [List.getElem?_toArray, List.getElem?_cons_zero, List.getElem?_cons_succ]; rfl) (fun K hK => ?_) ?_
              · go_simp
                refine (qsame_any _ _ T S _ (HB6.out.1.below hHeld).tx (HB6.out.2.below hHeld).tx).mono ?_
                rintro e w11 ⟨rfl, hb⟩
                have hS2 := hHeld.trans (hb.mono hHeld.size)
                clear hb
                (try rw [hd2])
                dsimp only
                refine hK.out _ _ ?_ (fun hHeld2 => ?_)
                · exact hS2
                clear hK K hHeld
                have hHeld := hHeld2
                clear hHeld2
                try simp only [Act.put, List.setIfInBounds_toArray, List.set_cons_zero, List.set_cons_succ]
                refine wpAnyH_take (i := 10) (oi := ?_) (v := ?_) (by simp only [List.getElem?_toArray, List.getElem?_cons_zero, List.getElem?_cons_succ]; rfl) (by kernel_rfl) (by kernel_rfl) (by kernel_rfl) (by exact fun _ _ _ h => h) (Or.inl ⟨by rfl, ?_⟩) (by assumption) ?_
                rotate_left
                · (intro w hSw; (try dsimp only at hSw); obtain ⟨q0, q1, q2, q3⟩ := (HB6.out.1.below hSw).four; obtain ⟨r0, r1, r2, r3⟩ := (HB6.out.2.below hSw).four; clear hSw; go_simp; first | done | with_reducible rfl)
                try simp only [Act.put, List.setIfInBounds_toArray, List.set_cons_zero, List.set_cons_succ]
                refine wpAnyH_done (by kernel_rfl) ?_ _
                have HH := As.mk hHeld
                clear hHeld
                go_wp2
                go_meet
                exact ⟨rfl, HH⟩
              exact AllReadyH.nil
            refine AllReadyH.cons (o := ?_) (by simp only [List.getElem?_toArray, List.getElem?_cons_zero, List.getElem?_cons_succ]; rfl) (fun K hK => ?_) ?_
            · go_simp
              refine (qsame_any _ _ T S _ (HB6.out.1.below hHeld).tx (HB6.out.2.below hHeld).tx).mono ?_
              rintro e w11 ⟨rfl, hb⟩
              have hS2 := hHeld.trans (hb.mono hHeld.size)
              have HRb2 := As.mk (HRb.out.below hb)
              clear HRb
              have HRb := HRb2
              clear HRb2
              clear hb
              (try rw [hd2])
              dsimp only
              refine hK.out _ _ ?_ (fun hHeld2 => ?_)
              · exact hS2
              clear hK K hHeld
              have hHeld := hHeld2
              clear hHeld2
              try simp only [Act.put, List.setIfInBounds_toArray, List.set_cons_zero, List.set_cons_succ]
              refine wpAnyH_ready (rs := [5]) (by kernel_rfl) (by simp) ?_
              refine AllReadyH.cons (o := ?_) (by simp only [List.getElem?_toArray, List.getElem?_cons_zero, List.getElem?_cons_succ]; rfl) (fun K hK => ?_) ?_
              · have kv := run_str (P := Try.prog) 24 9 5 Try.underlying24 Try.underlying5 Try.underlying9 HRb.out
                have hS2 := hHeld
                go_simp
                clear kv
                refine hK.out _ _ ?_ (fun hHeld2 => ?_)
                · exact hS2
                clear hK K hHeld
                have hHeld := hHeld2
                clear hHeld2
                try simp only [Act.put, List.setIfInBounds_toArray, List.set_cons_zero, List.set_cons_succ]
                refine wpAnyH_take (i := 6) (oi := ?_) (v := ?_) (by simp only [List.getElem?_toArray, List.getElem?_cons_zero, List.getElem?_cons_succ]; rfl) (by kernel_rfl) (by kernel_rfl) (by kernel_rfl) (by exact fun _ _ _ h => h) (Or.inl ⟨by rfl, ?_⟩) (by assumption) ?_
                rotate_left
                · (intro w hSw; (try dsimp only at hSw); obtain ⟨q0, q1, q2, q3⟩ := (HB6.out.1.below hSw).four; obtain ⟨r0, r1, r2, r3⟩ := (HB6.out.2.below hSw).four; clear hSw; go_simp; first | done | with_reducible rfl)
                try simp only [Act.put, List.setIfInBounds_toArray, List.set_cons_zero, List.set_cons_succ]
                refine wpAnyH_take (i := 10) (oi := ?_) (v := ?_) (by simp only [List.getElem?_toArray, List.getElem?_cons_zero, List.getElem?_cons_succ]; rfl) (by kernel_rfl) (by kernel_rfl) (by kernel_rfl) (by exact fun _ _ _ h => h) (Or.inl ⟨by rfl, ?_⟩) (by assumption) ?_
                rotate_left
                · (intro w hSw; (try dsimp only at hSw); obtain ⟨q0, q1, q2, q3⟩ := (HB6.out.1.below hSw).four; obtain ⟨r0, r1, r2, r3⟩ := (HB6.out.2.below hSw).four; clear hSw; go_simp; first | done | with_reducible rfl)
                try simp only [Act.put, List.setIfInBounds_toArray, List.set_cons_zero, List.set_cons_succ]
                refine wpAnyH_done (by kernel_rfl) ?_ _
                have HH := As.mk hHeld
                clear hHeld
                go_wp2
                go_meet
                exact ⟨rfl, HH⟩
              exact AllReadyH.nil
            exact AllReadyH.nil
          refine AllReadyH.cons (o := ?_) (by simp only [List.getElem?_toArray, List.getElem?_cons_zero, List.getElem?_cons_succ]; rfl) (fun K hK => ?_) ?_
          · have kv := run_str (P := Try.prog) 24 9 5 Try.underlying24 Try.underlying5 Try.underlying9 HRb.out
            have hS2 := hHeld
            go_simp
            clear kv
            refine hK.out _ _ ?_ (fun hHeld2 => ?_)
            · exact hS2
            clear hK K hHeld
            have hHeld := hHeld2
            clear hHeld2
            try simp only [Act.put, List.setIfInBounds_toArray, List.set_cons_zero, List.set_cons_succ]
            refine wpAnyH_ready (rs := [2, 9]) (by kernel_rfl) (by simp) ?_
            refine AllReadyH.cons (o := ?_) (by simp only [List.getElem?_toArray, List.getElem?_cons_zero, List.getElem?_cons_succ]; rfl) (fun K hK => ?_) ?_
            · have kv := run_str (P := Try.prog) 24 9 5 Try.underlying24 Try.underlying5 Try.underlying9 HRa.out
              have hS2 := hHeld
              go_simp
              clear kv
              refine hK.out _ _ ?_ (fun hHeld2 => ?_)
              · exact hS2
              clear hK K hHeld
              have hHeld := hHeld2
              clear hHeld2
              try simp only [Act.put, List.setIfInBounds_toArray, List.set_cons_zero, List.set_cons_succ]
              refine wpAnyH_take (i := 6) (oi := ?_) (v := ?_) (by simp only [List.getElem?_toArray, List.getElem?_cons_zero, List.getElem?_cons_succ]; rfl) (by kernel_rfl) (by kernel_rfl) (by kernel_rfl) (by exact fun _ _ _ h => h) (Or.inl ⟨by rfl, ?_⟩) (by assumption) ?_
              rotate_left
              · (intro w hSw; (try dsimp only at hSw); obtain ⟨q0, q1, q2, q3⟩ := (HB6.out.1.below hSw).four; obtain ⟨r0, r1, r2, r3⟩ := (HB6.out.2.below hSw).four; clear hSw; go_simp; first | done | with_reducible rfl)
              try simp only [Act.put, List.setIfInBounds_toArray, List.set_cons_zero, List.set_cons_succ]
              refine wpAnyH_ready (rs := [9]) (by kernel_rfl) (by simp) ?_
              refine AllReadyH.cons (o := ?_) (by simp only [List.getElem?_toArray, List.getElem?_cons_zero, List.getElem?_cons_succ]; rfl) (fun K hK => ?_) ?_
              · go_simp
                refine (qsame_any _ _ T S _ (HB6.out.1.below hHeld).tx (HB6.out.2.below hHeld).tx).mono ?_
                rintro e w11 ⟨rfl, hb⟩
                have hS2 := hHeld.trans (hb.mono hHeld.size)
                clear hb
                (try rw [hd2])
                dsimp only
                refine hK.out _ _ ?_ (fun hHeld2 => ?_)
                · exact hS2
                clear hK K hHeld
                have hHeld := hHeld2
                clear hHeld2
                try simp only [Act.put, List.setIfInBounds_toArray, List.set_cons_zero, List.set_cons_succ]
                refine wpAnyH_take (i := 10) (oi := ?_) (v := ?_) (by simp only [List.getElem?_toArray, List.getElem?_cons_zero, List.getElem?_cons_succ]; rfl) (by kernel_rfl) (by kernel_rfl) (by kernel_rfl) (by exact fun _ _ _ h => h) (Or.inl ⟨by rfl, ?_⟩) (by assumption) ?_
                rotate_left
                · (intro w hSw; (try dsimp only at hSw); obtain ⟨q0, q1, q2, q3⟩ := (HB6.out.1.below hSw).four; obtain ⟨r0, r1, r2, r3⟩ := (HB6.out.2.below hSw).four; clear hSw; go_simp; first | done | with_reducible rfl)
                try simp only [Act.put, List.setIfInBounds_toArray, List.set_cons_zero, List.set_cons_succ]
                refine wpAnyH_done (by kernel_rfl) ?_ _
                have HH := As.mk hHeld
                clear hHeld
                go_wp2
                go_meet
                exact ⟨rfl, HH⟩
              exact AllReadyH.nil
            refine AllReadyH.cons (o := ?_) (by simp only [List.getElem?_toArray, List.getElem?_cons_zero, List.getElem?_cons_succ]; rfl) (fun K hK => ?_) ?_
            · go_simp
              refine (qsame_any _ _ T S _ (HB6.out.1.below hHeld).tx (HB6.out.2.below hHeld).tx).mono ?_
              rintro e w11 ⟨rfl, hb⟩
              have hS2 := hHeld.trans (hb.mono hHeld.size)
              have HRa2 := As.mk (HRa.out.below hb)
              clear HRa
              have HRa := HRa2
              clear HRa2
              clear hb
              (try rw [hd2])
              dsimp only
              refine hK.out _ _ ?_ (fun hHeld2 => ?_)
              · exact hS2
              clear hK K hHeld
              have hHeld := hHeld2
              clear hHeld2
              try simp only [Act.put, List.setIfInBounds_toArray, List.set_cons_zero, List.set_cons_succ]
              refine wpAnyH_ready (rs := [2]) (by kernel_rfl) (by simp) ?_
              refine AllReadyH.cons (o := ?_) (by simp only [List.getElem?_toArray, List.getElem?_cons_zero, List.getElem?_cons_succ]; rfl) (fun K hK => ?_) ?_
              · have kv := run_str (P := Try.prog) 24 9 5 Try.underlying24 Try.underlying5 Try.underlying9 HRa.out
                have hS2 := hHeld
                go_simp
                clear kv
                refine hK.out _ _ ?_ (fun hHeld2 => ?_)
                · exact hS2
                clear hK K hHeld
                have hHeld := hHeld2
                clear hHeld2
                try simp only [Act.put, List.setIfInBounds_toArray, List.set_cons_zero, List.set_cons_succ]
                refine wpAnyH_take (i := 6) (oi := ?_) (v := ?_) (by simp only [List.getElem?_toArray, List.getElem?_cons_zero, List.getElem?_cons_succ]; rfl) (by kernel_rfl) (by kernel_rfl) (by kernel_rfl) (by exact fun _ _ _ h => h) (Or.inl ⟨by rfl, ?_⟩) (by assumption) ?_
                rotate_left
                · (intro w hSw; (try dsimp only at hSw); obtain ⟨q0, q1, q2, q3⟩ := (HB6.out.1.below hSw).four; obtain ⟨r0, r1, r2, r3⟩ := (HB6.out.2.below hSw).four; clear hSw; go_simp; first | done | with_reducible rfl)
                try simp only [Act.put, List.setIfInBounds_toArray, List.set_cons_zero, List.set_cons_succ]
                refine wpAnyH_take (i := 10) (oi := ?_) (v := ?_) (by simp only [List.getElem?_toArray, List.getElem?_cons_zero, List.getElem?_cons_succ]; rfl) (by kernel_rfl) (by kernel_rfl) (by kernel_rfl) (by exact fun _ _ _ h => h) (Or.inl ⟨by rfl, ?_⟩) (by assumption) ?_
                rotate_left
                · (intro w hSw; (try dsimp only at hSw); obtain ⟨q0, q1, q2, q3⟩ := (HB6.out.1.below hSw).four; obtain ⟨r0, r1, r2, r3⟩ := (HB6.out.2.below hSw).four; clear hSw; go_simp; first | done | with_reducible rfl)
                try simp only [Act.put, List.setIfInBounds_toArray, List.set_cons_zero, List.set_cons_succ]
                refine wpAnyH_done (by kernel_rfl) ?_ _
                have HH := As.mk hHeld
                clear hHeld
                go_wp2
                go_meet
                exact ⟨rfl, HH⟩
              exact AllReadyH.nil
            exact AllReadyH.nil
          refine AllReadyH.cons (o := ?_) (by simp only [List.getElem?_toArray, List.getElem?_cons_zero, List.getElem?_cons_succ]; rfl) (fun K hK => ?_) ?_
          · go_simp
            refine (qsame_any _ _ T S _ (HB6.out.1.below hHeld).tx (HB6.out.2.below hHeld).tx).mono ?_
            rintro e w11 ⟨rfl, hb⟩
            have hS2 := hHeld.trans (hb.mono hHeld.size)
            have HRa2 := As.mk (HRa.out.below hb)
            clear HRa
            have HRa := HRa2
            clear HRa2
            have HRb2 := As.mk (HRb.out.below hb)
            clear HRb
            have HRb := HRb2
            clear HRb2
            clear hb
            (try rw [hd2])
            dsimp only
            refine hK.out _ _ ?_ (fun hHeld2 => ?_)
            · exact hS2
            clear hK K hHeld
            have hHeld := hHeld2
            clear hHeld2
            try simp only [Act.put, List.setIfInBounds_toArray, List.set_cons_zero, List.set_cons_succ]
            refine wpAnyH_ready (rs := [2, 5]) (by kernel_rfl) (by simp) ?_
            refine AllReadyH.cons (o := ?_) (by simp only [List.getElem?_toArray, List.getElem?_cons_zero, List.getElem?_cons_succ]; rfl) (fun K hK => ?_) ?_
            · have kv := run_str (P := Try.prog) 24 9 5 Try.underlying24 Try.underlying5 Try.underlying9 HRa.out
              have hS2 := hHeld
              go_simp
              clear kv
              refine hK.out _ _ ?_ (fun hHeld2 => ?_)
              · exact hS2
              clear hK K hHeld
              have hHeld := hHeld2
              clear hHeld2
              try simp only [Act.put, List.setIfInBounds_toArray, List.set_cons_zero, List.set_cons_succ]
              refine wpAnyH_ready (rs := [5]) (by kernel_rfl) (by simp) ?_
              refine AllReadyH.cons (o := ?_) (by simp only [List.getElem?_toArray, List.getElem?_cons_zero, List.getElem?_cons_succ]; rfl) (fun K hK => ?_) ?_
              · have kv := run_str (P := Try.prog) 24 9 5 Try.underlying24 Try.underlying5 Try.underlying9 HRb.out
                have hS2 := hHeld
                go_simp
                clear kv
                refine hK.out _ _ ?_ (fun hHeld2 => ?_)
                · exact hS2
                clear hK K hHeld
                have hHeld := hHeld2
                clear hHeld2
                try simp only [Act.put, List.setIfInBounds_toArray, List.set_cons_zero, List.set_cons_succ]
                refine wpAnyH_take (i := 6) (oi := ?_) (v := ?_) (by simp only [List.getElem?_toArray, List.getElem?_cons_zero, List.getElem?_cons_succ]; rfl) (by kernel_rfl) (by kernel_rfl) (by kernel_rfl) (by exact fun _ _ _ h => h) (Or.inl ⟨by rfl, ?_⟩) (by assumption) ?_
                rotate_left
                · (intro w hSw; (try dsimp only at hSw); obtain ⟨q0, q1, q2, q3⟩ := (HB6.out.1.below hSw).four; obtain ⟨r0, r1, r2, r3⟩ := (HB6.out.2.below hSw).four; clear hSw; go_simp; first | done | with_reducible rfl)
                try simp only [Act.put, List.setIfInBounds_toArray, List.set_cons_zero, List.set_cons_succ]
                refine wpAnyH_take (i := 10) (oi := ?_) (v := ?_) (by simp only [List.getElem?_toArray, List.getElem?_cons_zero, List.getElem?_cons_succ]; rfl) (by kernel_rfl) (by kernel_rfl) (by kernel_rfl) (by exact fun _ _ _ h => h) (Or.inl ⟨by rfl, ?_⟩) (by assumption) ?_
                rotate_left
                · (intro w hSw; (try dsimp only at hSw); obtain ⟨q0, q1, q2, q3⟩ := (HB6.out.1.below hSw).four; obtain ⟨r0, r1, r2, r3⟩ := (HB6.out.2.below hSw).four; clear hSw; go_simp; first | done | with_reducible rfl)
                try simp only [Act.put, List.setIfInBounds_toArray, List.set_cons_zero, List.set_cons_succ]
                refine wpAnyH_done (by kernel_rfl) ?_ _
                have HH := As.mk hHeld
                clear hHeld
                go_wp2
                go_meet
                exact ⟨rfl, HH⟩
              exact AllReadyH.nil
            refine AllReadyH.cons (o := ?_) (by simp only [List.getElem?_toArray, List.getElem?_cons_zero, List.getElem?_cons_succ]; rfl) (fun K hK => ?_) ?_
            · have kv := run_str (P := Try.prog) 24 9 5 Try.underlying24 Try.underlying5 Try.underlying9 HRb.out
              have hS2 := hHeld
              go_simp
              clear kv
              refine hK.out _ _ ?_ (fun hHeld2 => ?_)
              · exact hS2
              clear hK K hHeld
              have hHeld := hHeld2
              clear hHeld2
              try simp only [Act.put, List.setIfInBounds_toArray, List.set_cons_zero, List.set_cons_succ]
              refine wpAnyH_ready (rs := [2]) (by kernel_rfl) (by simp) ?_
              refine AllReadyH.cons (o := ?_) (by simp only [List.getElem?_toArray, List.getElem?_cons_zero, List.getElem?_cons_succ]; rfl) (fun K hK => ?_) ?_
              · have kv := run_str (P := Try.prog) 24 9 5 Try.underlying24 Try.underlying5 Try.underlying9 HRa.out
                have hS2 := hHeld
                go_simp
                clear kv
                refine hK.out _ _ ?_ (fun hHeld2 => ?_)
                · exact hS2
                clear hK K hHeld
                have hHeld := hHeld2
                clear hHeld2
                try simp only [Act.put, List.setIfInBounds_toArray, List.set_cons_zero, List.set_cons_succ]
                refine wpAnyH_take (i := 6) (oi := ?_) (v := ?_) (by simp only [List.getElem?_toArray, List.getElem?_cons_zero, List.getElem?_cons_succ]; rfl) (by kernel_rfl) (by kernel_rfl) (by kernel_rfl) (by exact fun _ _ _ h => h) (Or.inl ⟨by rfl, ?_⟩) (by assumption) ?_
                rotate_left
                · (intro w hSw; (try dsimp only at hSw); obtain ⟨q0, q1, q2, q3⟩ := (HB6.out.1.below hSw).four; obtain ⟨r0, r1, r2, r3⟩ := (HB6.out.2.below hSw).four; clear hSw; go_simp; first | done | with_reducible rfl)
                try simp only [Act.put, List.setIfInBounds_toArray, List.set_cons_zero, List.set_cons_succ]
                refine wpAnyH_take (i := 10) (oi := ?_) (v := ?_) (by simp only [List.getElem?_toArray, List.getElem?_cons_zero, List.getElem?_cons_succ]; rfl) (by kernel_rfl) (by kernel_rfl) (by kernel_rfl) (by exact fun _ _ _ h => h) (Or.inl ⟨by rfl, ?_⟩) (by assumption) ?_
                rotate_left
                · (intro w hSw; (try dsimp only at hSw); obtain ⟨q0, q1, q2, q3⟩ := (HB6.out.1.below hSw).four; obtain ⟨r0, r1, r2, r3⟩ := (HB6.out.2.below hSw).four; clear hSw; go_simp; first | done | with_reducible rfl)
                try simp only [Act.put, List.setIfInBounds_toArray, List.set_cons_zero, List.set_cons_succ]
                refine wpAnyH_done (by kernel_rfl) ?_ _
                have HH := As.mk hHeld
                clear hHeld
                go_wp2
                go_meet
                exact ⟨rfl, HH⟩
              exact AllReadyH.nil
            exact AllReadyH.nil
          exact AllReadyH.nil
        exact AllReadyH.nil
      exact AllReadyH.nil
    case rest =>
      obtain ⟨rfl, HC⟩ := hcut
      clear hd1 hd2 hdx
      have HS7 := As.mk (And.intro (HS6.out.1.trans (HC.out.mono HS6.out.1.size)) (And.intro (HS6.out.2.1.below HC.out) (HS6.out.2.2.below HC.out)))
      have HB7 := As.mk (And.intro (HB6.out.1.below HC.out) (HB6.out.2.below HC.out))
      clear HS6 HB6 HC
      obtain ⟨x0, hx0⟩ : ∃ x, T.ins[0]? = some x := ⟨_, List.getElem?_eq_getElem (by have := HM.out.1.2.2.1; omega)⟩
      obtain ⟨g, o, _, _, rfl, hg0, _, _, _, cur0, hcur0⟩ := HS7.out.2.2.witAt 0 x0 hx0
      clear hx0 hcur0
      have s1 := Box.cell HS7.out.2.1 1 _ rfl
      have HLO : As (W1.heap.size ≤ lo ∧ lo ≤ g) := ⟨HLX.out.1, hg0⟩
      have hn1 : (T.ins.length : Int) ≤ 9223372036854775807 := by omega
      clear hg0
      go_wp2
      clear s1
      go_loopw [16, 81] (fun v16 v81 wr => ∃ (i : Nat) (hb : Bool), v81 = .int .i64 (i : Int) ∧ v16 = .bool hb ∧ (i : Int) ≤ T.ins.length ∧ As (hb = hasAny (T.ins.take i)) ∧ As (Below W1.heap.size W1 wr ∧ Box wr X #[.int .u32 (T.ver : Int), .slice (some ⟨g, o, none⟩) T.ins.length eI, .slice CO T.outs.length eO, .int .u32 (T.lock : Int)] 51 ∧ OwTx wr lo [.int .u32 (T.ver : Int), .slice (some ⟨g, o, none⟩) T.ins.length eI, .slice CO T.outs.length eO, .int .u32 (T.lock : Int)] { T with ins := (T.ins.take i).map unwit ++ T.ins.drop i })) (fun _ v81 _ => T.ins.length - (intOf v81).toNat)
      case atStart => exact ⟨0, false, rfl, rfl, by omega, ⟨rfl⟩, HS7⟩
      case round =>
        clear HS7 HB7
        obtain ⟨i, hb, rfl, rfl, hi, HH, HI⟩ := hrel
        have s1 := Box.cell HI.out.2.1 1 _ rfl
        by_cases hlt : (i : Int) < T.ins.length
        · obtain ⟨x, hx⟩ : ∃ x, T.ins[i]? = some x := ⟨_, List.getElem?_eq_getElem (by omega)⟩
          have HX := As.mk hx
          obtain ⟨g', o', Aw, cw, he, hg0, hg1, hcell, hfr, cur, hcur⟩ := HI.out.2.2.witAt i x (unwit_step hx).2
          injection he with he
          injection he with he1 he2
          subst he1 he2
          have HG := As.mk (And.intro hg1 (And.intro hcur hcell))
          have HGX : As (g ≠ X) := ⟨fun e => by have hb1 : wr.heap[X]? = _ := HI.out.2.1; rw [← e, hcur] at hb1; injection hb1 with hb1; injection hb1 with _ hb1; cases hb1⟩
          have HI2 : As (Below W1.heap.size W1 (wr.setCell ⟨g, o + i * 36 + 35, none⟩ (.slice none 0 0)) ∧ Box (wr.setCell ⟨g, o + i * 36 + 35, none⟩ (.slice none 0 0)) X #[.int .u32 (T.ver : Int), .slice (some ⟨g, o, none⟩) T.ins.length eI, .slice CO T.outs.length eO, .int .u32 (T.lock : Int)] 51 ∧ OwTx (wr.setCell ⟨g, o + i * 36 + 35, none⟩ (.slice none 0 0)) lo [.int .u32 (T.ver : Int), .slice (some ⟨g, o, none⟩) T.ins.length eI, .slice CO T.outs.length eO, .int .u32 (T.lock : Int)] { T with ins := (T.ins.take (i + 1)).map unwit ++ T.ins.drop (i + 1) }) := ⟨by
            have hl := HLO.out
            have gset := grown_set wr g (o + i * 36 + 35) (.slice none 0 0)
            refine ⟨HI.out.1.setCell (show W1.heap.size ≤ g by omega) _, HI.out.2.1.grown gset (fun e => by injection e with e; exact HGX.out e), ?_⟩
            have h := OwTx.setIn HI.out.2.2 i x (unwit x) (unwit_step HX.out).2 35 (by decide) (.slice none 0 0) (InE.setWit (OwW.nil wr wr.heap.size) (by omega) HG.out.1)
            rw [show ({ T with ins := (T.ins.take i).map unwit ++ T.ins.drop i } : LTx).ins.set i (unwit x) = (T.ins.take (i + 1)).map unwit ++ T.ins.drop (i + 1) from (unwit_step HX.out).1] at h
            exact h⟩
          clear hx hg0 hg1 hcur
          cases hb with
          | true =>
            have HH2 : As (true = hasAny (T.ins.take (i + 1))) := ⟨by rw [had_step HX.out, ← HH.out]; rfl⟩
            go_wp2
            clear s1 hcell hfr
            go_roundw
            case rel =>
              refine ⟨i + 1, true, ?_, rfl, ?_, ?_, ?_⟩
              · go_num
              · omega
              · exact HH2
              · exact HI2
            case measure => simp [intOf]; omega
          | false =>
            have HH2 : As (decide (0 < x.wit.length) = hasAny (T.ins.take (i + 1))) := ⟨by rw [had_step HX.out, ← HH.out]; rfl⟩
            go_wp2
            clear s1 hcell hfr
            go_roundw
            case rel =>
              refine ⟨i + 1, decide (0 < x.wit.length), ?_, rfl, ?_, ?_, ?_⟩
              · go_num
              · omega
              · exact HH2
              · exact HI2
            case measure => simp [intOf]; omega
        · clear s1
          have hin : i = T.ins.length := by omega
          obtain ⟨bb, hbb⟩ : ∃ b, b = baseT T := ⟨_, rfl⟩
          have HBB := As.mk hbb
          have HBX : As (bytesT { T with ins := T.ins.map unwit } = bb) := ⟨by rw [hbb]; exact bytes_unwit HM.out.1⟩
          have h1 : (b1 == bb) = !hb := by rw [HBT.out, hbb, bytes_base_iff HM.out.1, HH.out, hin, List.take_length, hasAny_w]
          have HXL : As (Below W1.heap.size W1 wr ∧ BxT wr X [.int .u32 (T.ver : Int), .slice (some ⟨g, o, none⟩) T.ins.length eI, .slice CO T.outs.length eO, .int .u32 (T.lock : Int)] { T with ins := T.ins.map unwit } ∧ BxT wr A [.int .u32 (T.ver : Int), .slice AI T.ins.length cI, .slice AO T.outs.length cO, .int .u32 (T.lock : Int)] T) := ⟨by
            have h := HI.out
            rw [hin, List.take_length, List.drop_length, List.append_nil] at h
            exact ⟨h.1, ⟨h.2.1, h.2.2.rd⟩, HS1.out.2.1.below h.1⟩⟩
          have HXW := As.mk (HS1.out.1.trans (HXL.out.1.mono HS1.out.1.size))
          clear HI hin hbb
          go_upto_region 18 with fail
          refine wp_region_held_drew (S := (fun V : World => Below wr.heap.size wr V)) (by kernel_rfl) ?_ (fun hHeld => ?_)
          · exact below_dr wr
          refine wpAnyH_take (i := 0) (oi := ?_) (v := ?_) (by simp only [List.getElem?_toArray, List.getElem?_cons_zero, List.getElem?_cons_succ]; rfl) (by kernel_rfl) (by kernel_rfl) (by kernel_rfl) (by exact fun _ _ _ h => h) (Or.inl ⟨by rfl, ?_⟩) (by assumption) ?_
          rotate_left
          · (intro w hSw; (try dsimp only at hSw); obtain ⟨q0, q1, q2, q3⟩ := (HXL.out.2.1.below hSw).four; obtain ⟨r0, r1, r2, r3⟩ := (HXL.out.2.2.below hSw).four; clear hSw; go_simp; first | done | with_reducible rfl)
          try simp only [Act.put, List.setIfInBounds_toArray, List.set_cons_zero, List.set_cons_succ]
          refine wpAnyH_take (i := 3) (oi := ?_) (v := ?_) (by simp only [List.getElem?_toArray, List.getElem?_cons_zero, List.getElem?_cons_succ]; rfl) (by kernel_rfl) (by kernel_rfl) (by kernel_rfl) (by exact fun _ _ _ h => h) (Or.inl ⟨by rfl, ?_⟩) (by assumption) ?_
          rotate_left
          · (intro w hSw; (try dsimp only at hSw); obtain ⟨q0, q1, q2, q3⟩ := (HXL.out.2.1.below hSw).four; obtain ⟨r0, r1, r2, r3⟩ := (HXL.out.2.2.below hSw).four; clear hSw; go_simp; first | done | with_reducible rfl)
          try simp only [Act.put, List.setIfInBounds_toArray, List.set_cons_zero, List.set_cons_succ]
          refine wpAnyH_ready (rs := [1]) (by kernel_rfl) (by simp) ?_
          refine AllReadyH.cons (o := ?_) (by simp only [List.getElem?_toArray, List.getElem?_cons_zero, List.getElem?_cons_succ]; rfl) (fun K hK => ?_) ?_
          · go_simp
            refine (bytes_any _ { T with ins := T.ins.map unwit } _ (HXL.out.2.1.below hHeld).tx).mono ?_
            rintro e w9 ⟨r9, rfl, ho, hb⟩
            rw [HBX.out] at ho
            obtain ⟨A9, c9, rfl⟩ := RdB.formN ho.rd rfl
            have hS2 := hHeld.trans (hb.mono hHeld.size)
            have HRa := As.mk ho.rd
            clear ho hb
            dsimp only
            refine hK.out _ _ ?_ (fun hHeld2 => ?_)
            · exact hS2
            clear hK K hHeld
            have hHeld := hHeld2
            clear hHeld2
            try simp only [Act.put, List.setIfInBounds_toArray, List.set_cons_zero, List.set_cons_succ]
            refine wpAnyH_ready (rs := [2, 4]) (by kernel_rfl) (by simp) ?_
            refine AllReadyH.cons (o := ?_) (by simp only [List.getElem?_toArray, List.getElem?_cons_zero, List.getElem?_cons_succ]; rfl) (fun K hK => ?_) ?_
            · have kv := run_str (P := Try.prog) 24 9 5 Try.underlying24 Try.underlying5 Try.underlying9 HRa.out
              have hS2 := hHeld
              go_simp
              clear kv
              refine hK.out _ _ ?_ (fun hHeld2 => ?_)
              · exact hS2
              clear hK K hHeld
              have hHeld := hHeld2
              clear hHeld2
              try simp only [Act.put, List.setIfInBounds_toArray, List.set_cons_zero, List.set_cons_succ]
              refine wpAnyH_ready (rs := [4]) (by kernel_rfl) (by simp) ?_
              refine AllReadyH.cons (o := ?_) (by simp only [List.getElem?_toArray, List.getElem?_cons_zero, List.getElem?_cons_succ]; rfl) (fun K hK => ?_) ?_
              · go_simp
                refine (base_any _ T _ (HXL.out.2.2.below hHeld).tx).mono ?_
                rintro e w9 ⟨r9, rfl, ho, hb⟩
                rw [← HBB.out] at ho
                obtain ⟨A9, c9, rfl⟩ := RdB.formN ho.rd rfl
                have hS2 := hHeld.trans (hb.mono hHeld.size)
                have HRb := As.mk ho.rd
                clear ho hb
                dsimp only
                refine hK.out _ _ ?_ (fun hHeld2 => ?_)
                · exact hS2
                clear hK K hHeld
                have hHeld := hHeld2
                clear hHeld2
                try simp only [Act.put, List.setIfInBounds_toArray, List.set_cons_zero, List.set_cons_succ]
                refine wpAnyH_ready (rs := [5]) (by kernel_rfl) (by simp) ?_
                refine AllReadyH.cons (o := ?_) (by simp only [List.getElem?_toArray, List.getElem?_cons_zero, List.getElem?_cons_succ]; rfl) (fun K hK => ?_) ?_
                · have kv := run_str (P := Try.prog) 24 9 5 Try.underlying24 Try.underlying5 Try.underlying9 HRb.out
                  have hS2 := hHeld
                  go_simp
                  clear kv
                  refine hK.out _ _ ?_ (fun hHeld2 => ?_)
                  · exact hS2
                  clear hK K hHeld
                  have hHeld := hHeld2
                  clear hHeld2
                  try simp only [Act.put, List.setIfInBounds_toArray, List.set_cons_zero, List.set_cons_succ]
                  refine wpAnyH_take (i := 6) (oi := ?_) (v := ?_) (by simp only [List.getElem?_toArray, List.getElem?_cons_zero, List.getElem?_cons_succ]; rfl) (by kernel_rfl) (by kernel_rfl) (by kernel_rfl) (by exact fun _ _ _ h => h) (Or.inl ⟨by rfl, ?_⟩) (by assumption) ?_
                  rotate_left
                  · (intro w hSw; (try dsimp only at hSw); obtain ⟨q0, q1, q2, q3⟩ := (HXL.out.2.1.below hSw).four; obtain ⟨r0, r1, r2, r3⟩ := (HXL.out.2.2.below hSw).four; clear hSw; go_simp; first | done | with_reducible rfl)
                  try simp only [Act.put, List.setIfInBounds_toArray, List.set_cons_zero, List.set_cons_succ]
                  refine wpAnyH_take (i := 7) (oi := ?_) (v := ?_) (by simp only [List.getElem?_toArray, List.getElem?_cons_zero, List.getElem?_cons_succ]; rfl) (by kernel_rfl) (by kernel_rfl) (by kernel_rfl) (by exact fun _ _ _ h => h) (Or.inl ⟨by rfl, ?_⟩) (by assumption) ?_
                  rotate_left
                  · (intro w hSw; (try dsimp only at hSw); obtain ⟨q0, q1, q2, q3⟩ := (HXL.out.2.1.below hSw).four; obtain ⟨r0, r1, r2, r3⟩ := (HXL.out.2.2.below hSw).four; clear hSw; go_simp; first | done | with_reducible rfl)
                  try simp only [Act.put, List.setIfInBounds_toArray, List.set_cons_zero, List.set_cons_succ]
                  refine wpAnyH_take (i := 8) (oi := ?_) (v := ?_) (by simp only [List.getElem?_toArray, List.getElem?_cons_zero, List.getElem?_cons_succ]; rfl) (by kernel_rfl) (by kernel_rfl) (by kernel_rfl) (by exact fun _ _ _ h => h) (Or.inl ⟨by rfl, ?_⟩) (by assumption) ?_
                  rotate_left
                  · (intro w hSw; (try dsimp only at hSw); obtain ⟨q0, q1, q2, q3⟩ := (HXL.out.2.1.below hSw).four; obtain ⟨r0, r1, r2, r3⟩ := (HXL.out.2.2.below hSw).four; clear hSw; go_simp; first | done | with_reducible rfl)
                  try simp only [Act.put, List.setIfInBounds_toArray, List.set_cons_zero, List.set_cons_succ]
                  refine wpAnyH_take (i := 11) (oi := ?_) (v := ?_) (by simp only [List.getElem?_toArray, List.getElem?_cons_zero, List.getElem?_cons_succ]; rfl) (by kernel_rfl) (by kernel_rfl) (by kernel_rfl) (by exact fun _ _ _ h => h) (Or.inl ⟨by rfl, ?_⟩) (by assumption) ?_
                  rotate_left
                  · (intro w hSw; (try dsimp only at hSw); obtain ⟨q0, q1, q2, q3⟩ := (HXL.out.2.1.below hSw).four; obtain ⟨r0, r1, r2, r3⟩ := (HXL.out.2.2.below hSw).four; clear hSw; go_simp; first | done | with_reducible rfl)
                  try simp only [Act.put, List.setIfInBounds_toArray, List.set_cons_zero, List.set_cons_succ]
                  refine wpAnyH_take (i := 15) (oi := ?_) (v := ?_) (by simp only [List.getElem?_toArray, List.getElem?_cons_zero, List.getElem?_cons_succ]; rfl) (by kernel_rfl) (by kernel_rfl) (by kernel_rfl) (by exact fun _ _ _ h => h) (Or.inl ⟨by rfl, ?_⟩) (by assumption) ?_
                  rotate_left
                  · (intro w hSw; (try dsimp only at hSw); obtain ⟨q0, q1, q2, q3⟩ := (HXL.out.2.1.below hSw).four; obtain ⟨r0, r1, r2, r3⟩ := (HXL.out.2.2.below hSw).four; clear hSw; go_simp; first | done | with_reducible rfl)
                  try simp only [Act.put, List.setIfInBounds_toArray, List.set_cons_zero, List.set_cons_succ]
                  refine wpAnyH_take (i := 16) (oi := ?_) (v := ?_) (by simp only [List.getElem?_toArray, List.getElem?_cons_zero, List.getElem?_cons_succ]; rfl) (by kernel_rfl) (by kernel_rfl) (by kernel_rfl) (by exact fun _ _ _ h => h) (Or.inl ⟨by rfl, ?_⟩) (by assumption) ?_
                  rotate_left
                  · (intro w hSw; (try dsimp only at hSw); obtain ⟨q0, q1, q2, q3⟩ := (HXL.out.2.1.below hSw).four; obtain ⟨r0, r1, r2, r3⟩ := (HXL.out.2.2.below hSw).four; clear hSw; go_simp; first | done | with_reducible rfl)
                  try simp only [Act.put, List.setIfInBounds_toArray, List.set_cons_zero, List.set_cons_succ]
                  refine wpAnyH_ready (rs := [9]) (by kernel_rfl) (by simp) ?_
                  refine AllReadyH.cons (o := ?_) (by simp only [List.getElem?_toArray, List.getElem?_cons_zero, List.getElem?_cons_succ]; rfl) (fun K hK => ?_) ?_
                  · go_simp
                    refine (bytes_any _ T _ (HXL.out.2.2.below hHeld).tx).mono ?_
                    rintro e w9 ⟨r9, rfl, ho, hb⟩
                    rw [← HBT.out] at ho
                    obtain ⟨A9, c9, rfl⟩ := RdB.formN ho.rd rfl
                    have hS2 := hHeld.trans (hb.mono hHeld.size)
                    have HRa := As.mk ho.rd
                    clear ho hb
                    dsimp only
                    refine hK.out _ _ ?_ (fun hHeld2 => ?_)
                    · exact hS2
                    clear hK K hHeld
                    have hHeld := hHeld2
                    clear hHeld2
                    try simp only [Act.put, List.setIfInBounds_toArray, List.set_cons_zero, List.set_cons_succ]
                    refine wpAnyH_ready (rs := [10, 12]) (by kernel_rfl) (by simp) ?_
                    refine AllReadyH.cons (o := ?_) (by simp only [List.getElem?_toArray, List.getElem?_cons_zero, List.getElem?_cons_succ]; rfl) (fun K hK => ?_) ?_
                    · have kv := run_str (P := Try.prog) 24 9 5 Try.underlying24 Try.underlying5 Try.underlying9 HRa.out
                      have hS2 := hHeld
                      go_simp
                      clear kv
                      refine hK.out _ _ ?_ (fun hHeld2 => ?_)
                      · exact hS2
                      clear hK K hHeld
                      have hHeld := hHeld2
                      clear hHeld2
                      try simp only [Act.put, List.setIfInBounds_toArray, List.set_cons_zero, List.set_cons_succ]
                      refine wpAnyH_ready (rs := [12]) (by kernel_rfl) (by simp) ?_
                      refine AllReadyH.cons (o := ?_) (by simp only [List.getElem?_toArray, List.getElem?_cons_zero, List.getElem?_cons_succ]; rfl) (fun K hK => ?_) ?_
                      · go_simp
                        refine (base_any _ T _ (HXL.out.2.2.below hHeld).tx).mono ?_
                        rintro e w9 ⟨r9, rfl, ho, hb⟩
                        rw [← HBB.out] at ho
                        obtain ⟨A9, c9, rfl⟩ := RdB.formN ho.rd rfl
                        have hS2 := hHeld.trans (hb.mono hHeld.size)
                        have HRb := As.mk ho.rd
                        clear ho hb
                        dsimp only
                        refine hK.out _ _ ?_ (fun hHeld2 => ?_)
                        · exact hS2
                        clear hK K hHeld
                        have hHeld := hHeld2
                        clear hHeld2
                        try simp only [Act.put, List.setIfInBounds_toArray, List.set_cons_zero, List.set_cons_succ]
                        refine wpAnyH_ready (rs := [13]) (by kernel_rfl) (by simp) ?_
                        refine AllReadyH.cons (o := ?_) (by simp only [List.getElem?_toArray, List.getElem?_cons_zero, List.getElem?_cons_succ]; rfl) (fun K hK => ?_) ?_
                        · have kv := run_str (P := Try.prog) 24 9 5 Try.underlying24 Try.underlying5 Try.underlying9 HRb.out
                          have hS2 := hHeld
                          go_simp
                          clear kv
                          refine hK.out _ _ ?_ (fun hHeld2 => ?_)
                          · exact hS2
                          clear hK K hHeld
                          have hHeld := hHeld2
                          clear hHeld2
                          try simp only [Act.put, List.setIfInBounds_toArray, List.set_cons_zero, List.set_cons_succ]
                          refine wpAnyH_take (i := 14) (oi := ?_) (v := ?_) (by simp only [List.getElem?_toArray, List.getElem?_cons_zero, List.getElem?_cons_succ]; rfl) (by kernel_rfl) (by kernel_rfl) (by kernel_rfl) (by exact fun _ _ _ h => h) (Or.inl ⟨by rfl, ?_⟩) (by assumption) ?_
                          rotate_left
                          · (intro w hSw; (try dsimp only at hSw); obtain ⟨q0, q1, q2, q3⟩ := (HXL.out.2.1.below hSw).four; obtain ⟨r0, r1, r2, r3⟩ := (HXL.out.2.2.below hSw).four; clear hSw; go_simp; first | done | with_reducible rfl)
                          try simp only [Act.put, List.setIfInBounds_toArray, List.set_cons_zero, List.set_cons_succ]
                          refine wpAnyH_take (i := 17) (oi := ?_) (v := ?_) (by simp only [List.getElem?_toArray, List.getElem?_cons_zero, List.getElem?_cons_succ]; rfl) (by kernel_rfl) (by kernel_rfl) (by kernel_rfl) (by exact fun _ _ _ h => h) (Or.inl ⟨by rfl, ?_⟩) (by assumption) ?_
                          rotate_left
                          · (intro w hSw; (try dsimp only at hSw); obtain ⟨q0, q1, q2, q3⟩ := (HXL.out.2.1.below hSw).four; obtain ⟨r0, r1, r2, r3⟩ := (HXL.out.2.2.below hSw).four; clear hSw; go_simp; first | done | with_reducible rfl)
                          try simp only [Act.put, List.setIfInBounds_toArray, List.set_cons_zero, List.set_cons_succ]
                          refine wpAnyH_take (i := 18) (oi := ?_) (v := ?_) (by simp only [List.getElem?_toArray, List.getElem?_cons_zero, List.getElem?_cons_succ]; rfl) (by kernel_rfl) (by kernel_rfl) (by kernel_rfl) (by exact fun _ _ _ h => h) (Or.inl ⟨by rfl, ?_⟩) (by assumption) ?_
                          rotate_left
                          · (intro w hSw; (try dsimp only at hSw); obtain ⟨q0, q1, q2, q3⟩ := (HXL.out.2.1.below hSw).four; obtain ⟨r0, r1, r2, r3⟩ := (HXL.out.2.2.below hSw).four; clear hSw; go_simp; first | done | with_reducible rfl)
                          try simp only [Act.put, List.setIfInBounds_toArray, List.set_cons_zero, List.set_cons_succ]
                          refine wpAnyH_take (i := 19) (oi := ?_) (v := ?_) (by simp only [List.getElem?_toArray, List.getElem?_cons_zero, List.getElem?_cons_succ]; rfl) (by kernel_rfl) (by kernel_rfl) (by kernel_rfl) (by exact fun _ _ _ h => h) (Or.inl ⟨by rfl, ?_⟩) (by assumption) ?_
                          rotate_left
                          · (intro w hSw; (try dsimp only at hSw); obtain ⟨q0, q1, q2, q3⟩ := (HXL.out.2.1.below hSw).four; obtain ⟨r0, r1, r2, r3⟩ := (HXL.out.2.2.below hSw).four; clear hSw; go_simp; first | done | with_reducible rfl)
                          try simp only [Act.put, List.setIfInBounds_toArray, List.set_cons_zero, List.set_cons_succ]
                          refine wpAnyH_ready (rs := [20]) (by kernel_rfl) (by simp) ?_
                          refine AllReadyH.cons (o := ?_) (by simp only [List.getElem?_toArray, List.getElem?_cons_zero, List.getElem?_cons_succ]; rfl) (fun K hK => ?_) ?_
                          · go_simp
                            refine (awake3_any _).mono ?_
                            rintro e w20 ⟨rfl, hb⟩
                            have hS2 := hHeld.trans (hb.mono hHeld.size)
                            clear hb
                            dsimp only
                            refine hK.out _ _ ?_ (fun hHeld2 => ?_)
                            · exact hS2
                            clear hK K hHeld
                            have hHeld := hHeld2
                            clear hHeld2
                            try simp only [Act.put, List.setIfInBounds_toArray, List.set_cons_zero, List.set_cons_succ]
                            refine wpAnyH_take (i := 21) (oi := ?_) (v := ?_) (by simp only [List.getElem?_toArray, List.getElem?_cons_zero, List.getElem?_cons_succ]; rfl) (by kernel_rfl) (by kernel_rfl) (by kernel_rfl) (by exact fun _ _ _ h => h) (Or.inl ⟨by rfl, ?_⟩) (by assumption) ?_
                            rotate_left
                            · (intro w hSw; (try dsimp only at hSw); obtain ⟨q0, q1, q2, q3⟩ := (HXL.out.2.1.below hSw).four; obtain ⟨r0, r1, r2, r3⟩ := (HXL.out.2.2.below hSw).four; clear hSw; go_simp; first | done | with_reducible rfl)
                            try simp only [Act.put, List.setIfInBounds_toArray, List.set_cons_zero, List.set_cons_succ]
                            refine wpAnyH_take (i := 22) (oi := ?_) (v := ?_) (by simp only [List.getElem?_toArray, List.getElem?_cons_zero, List.getElem?_cons_succ]; rfl) (by kernel_rfl) (by kernel_rfl) (by kernel_rfl) (by exact fun _ _ _ h => h) (Or.inl ⟨by rfl, ?_⟩) (by assumption) ?_
                            rotate_left
                            · (intro w hSw; (try dsimp only at hSw); obtain ⟨q0, q1, q2, q3⟩ := (HXL.out.2.1.below hSw).four; obtain ⟨r0, r1, r2, r3⟩ := (HXL.out.2.2.below hSw).four; clear hSw; go_simp; first | done | with_reducible rfl)
                            try simp only [Act.put, List.setIfInBounds_toArray, List.set_cons_zero, List.set_cons_succ]
                            refine wpAnyH_done (by kernel_rfl) ?_ _
                            have HH18 := As.mk (HXW.out.trans (hHeld.mono HXW.out.size))
                            clear hHeld
                            go_wp2
                            go_ret
                            exact ⟨rfl, HH18.out⟩
                          exact AllReadyH.nil
                        exact AllReadyH.nil
                      exact AllReadyH.nil
                    refine AllReadyH.cons (o := ?_) (by simp only [List.getElem?_toArray, List.getElem?_cons_zero, List.getElem?_cons_succ]; rfl) (fun K hK => ?_) ?_
                    · go_simp
                      refine (base_any _ T _ (HXL.out.2.2.below hHeld).tx).mono ?_
                      rintro e w9 ⟨r9, rfl, ho, hb⟩
                      rw [← HBB.out] at ho
                      obtain ⟨A9, c9, rfl⟩ := RdB.formN ho.rd rfl
                      have hS2 := hHeld.trans (hb.mono hHeld.size)
                      have HRb := As.mk ho.rd
                      have HRa2 := As.mk (HRa.out.below hb)
                      clear HRa
                      have HRa := HRa2
                      clear HRa2
                      clear ho hb
                      dsimp only
                      refine hK.out _ _ ?_ (fun hHeld2 => ?_)
                      · exact hS2
                      clear hK K hHeld
                      have hHeld := hHeld2
                      clear hHeld2
                      try simp only [Act.put, List.setIfInBounds_toArray, List.set_cons_zero, List.set_cons_succ]
                      refine wpAnyH_ready (rs := [10, 13]) (by kernel_rfl) (by simp) ?_
                      refine AllReadyH.cons (o := ?_) (by simp only [List.getElem?_toArray, List.getElem?_cons_zero, List.getElem?_cons_succ]; rfl) (fun K hK => ?_) ?_
                      · have kv := run_str (P := Try.prog) 24 9 5 Try.underlying24 Try.underlying5 Try.underlying9 HRa.out
                        have hS2 := hHeld
                        go_simp
                        clear kv
                        refine hK.out _ _ ?_ (fun hHeld2 => ?_)
                        · exact hS2
                        clear hK K hHeld
                        have hHeld := hHeld2
                        clear hHeld2
                        try simp only [Act.put, List.setIfInBounds_toArray, List.set_cons_zero, List.set_cons_succ]
                        refine wpAnyH_ready (rs := [13]) (by kernel_rfl) (by simp) ?_
                        refine AllReadyH.cons (o := ?_) (by simp only [List.getElem?_toArray, List.getElem?_cons_zero, List.getElem?_cons_succ]; rfl) (fun K hK => ?_) ?_
                        · have kv := run_str (P := Try.prog) 24 9 5 Try.underlying24 Try.underlying5 Try.underlying9 HRb.out
                          have hS2 := hHeld
                          go_simp
                          clear kv
                          refine hK.out _ _ ?_ (fun hHeld2 => ?_)
                          · exact hS2
                          clear hK K hHeld
                          have hHeld := hHeld2
                          clear hHeld2
                          try simp only [Act.put, List.setIfInBounds_toArray, List.set_cons_zero, List.set_cons_succ]
                          refine wpAnyH_take (i := 14) (oi := ?_) (v := ?_) (by simp only [List.getElem?_toArray, List.getElem?_cons_zero, List.getElem?_cons_succ]; rfl) (by kernel_rfl) (by kernel_rfl) (by kernel_rfl) (by exact fun _ _ _ h => h) (Or.inl ⟨by rfl, ?_⟩) (by assumption) ?_
                          rotate_left
                          · (intro w hSw; (try dsimp only at hSw); obtain ⟨q0, q1, q2, q3⟩ := (HXL.out.2.1.below hSw).four; obtain ⟨r0, r1, r2, r3⟩ := (HXL.out.2.2.below hSw).four; clear hSw; go_simp; first | done | with_reducible rfl)
                          try simp only [Act.put, List.setIfInBounds_toArray, List.set_cons_zero, List.set_cons_succ]
                          refine wpAnyH_take (i := 17) (oi := ?_) (v := ?_) (by simp only [List.getElem?_toArray, List.getElem?_cons_zero, List.getElem?_cons_succ]; rfl) (by kernel_rfl) (by kernel_rfl) (by kernel_rfl) (by exact fun _ _ _ h => h) (Or.inl ⟨by rfl, ?_⟩) (by assumption) ?_
                          rotate_left
                          · (intro w hSw; (try dsimp only at hSw); obtain ⟨q0, q1, q2, q3⟩ := (HXL.out.2.1.below hSw).four; obtain ⟨r0, r1, r2, r3⟩ := (HXL.out.2.2.below hSw).four; clear hSw; go_simp; first | done | with_reducible rfl)
                          try simp only [Act.put, List.setIfInBounds_toArray, List.set_cons_zero, List.set_cons_succ]
                          refine wpAnyH_take (i := 18) (oi := ?_) (v := ?_) (by simp only [List.getElem?_toArray, List.getElem?_cons_zero, List.getElem?_cons_succ]; rfl) (by kernel_rfl) (by kernel_rfl) (by kernel_rfl) (by exact fun _ _ _ h => h) (Or.inl ⟨by rfl, ?_⟩) (by assumption) ?_
                          rotate_left
                          · (intro w hSw; (try dsimp only at hSw); obtain ⟨q0, q1, q2, q3⟩ := (HXL.out.2.1.below hSw).four; obtain ⟨r0, r1, r2, r3⟩ := (HXL.out.2.2.below hSw).four; clear hSw; go_simp; first | done | with_reducible rfl)
                          try simp only [Act.put, List.setIfInBounds_toArray, List.set_cons_zero, List.set_cons_succ]
                          refine wpAnyH_take (i := 19) (oi := ?_) (v := ?_) (by simp only [List.getElem?_toArray, List.getElem?_cons_zero, List.getElem?_cons_succ]; rfl) (by kernel_rfl) (by kernel_rfl) (by kernel_rfl) (by exact fun _ _ _ h => h) (Or.inl ⟨by rfl, ?_⟩) (by assumption) ?_
                          rotate_left
                          · (intro w hSw; (try dsimp only at hSw); obtain ⟨q0, q1, q2, q3⟩ := (HXL.out.2.1.below hSw).four; obtain ⟨r0, r1, r2, r3⟩ := (HXL.out.2.2.below hSw).four; clear hSw; go_simp; first | done | with_reducible rfl)
                          try simp only [Act.put, List.setIfInBounds_toArray, List.set_cons_zero, List.set_cons_succ]
                          refine wpAnyH_ready (rs := [20]) (by kernel_rfl) (by simp) ?_
                          refine AllReadyH.cons (o := ?_) (by simp only [List.getElem?_toArray, List.getElem?_cons_zero, List.getElem?_cons_succ]; rfl) (fun K hK => ?_) ?_
                          · go_simp
                            refine (awake3_any _).mono ?_
                            rintro e w20 ⟨rfl, hb⟩
                            have hS2 := hHeld.trans (hb.mono hHeld.size)
                            clear hb
                            dsimp only
                            refine hK.out _ _ ?_ (fun hHeld2 => ?_)
                            · exact hS2
                            clear hK K hHeld
                            have hHeld := hHeld2
                            clear hHeld2
                            try simp only [Act.put, List.setIfInBounds_toArray, List.set_cons_zero, List.set_cons_succ]
                            refine wpAnyH_take (i := 21) (oi := ?_) (v := ?_) (by simp only [List.getElem?_toArray, List.getElem?_cons_zero, List.getElem?_cons_succ]; rfl) (by kernel_rfl) (by kernel_rfl) (by kernel_rfl) (by exact fun _ _ _ h => h) (Or.inl ⟨by rfl, ?_⟩) (by assumption) ?_
                            rotate_left
                            · (intro w hSw; (try dsimp only at hSw); obtain ⟨q0, q1, q2, q3⟩ := (HXL.out.2.1.below hSw).four; obtain ⟨r0, r1, r2, r3⟩ := (HXL.out.2.2.below hSw).four; clear hSw; go_simp; first | done | with_reducible rfl)
                            try simp only [Act.put, List.setIfInBounds_toArray, List.set_cons_zero, List.set_cons_succ]
                            refine wpAnyH_take (i := 22) (oi := ?_) (v := ?_) (by simp only [List.getElem?_toArray, List.getElem?_cons_zero, List.getElem?_cons_succ]; rfl) (by kernel_rfl) (by kernel_rfl) (by kernel_rfl) (by exact fun _ _ _ h => h) (Or.inl ⟨by rfl, ?_⟩) (by assumption) ?_
                            rotate_left
                            · (intro w hSw; (try dsimp only at hSw); obtain ⟨q0, q1, q2, q3⟩ := (HXL.out.2.1.below hSw).four; obtain ⟨r0, r1, r2, r3⟩ := (HXL.out.2.2.below hSw).four; clear hSw; go_simp; first | done | with_reducible rfl)
                            try simp only [Act.put, List.setIfInBounds_toArray, List.set_cons_zero, List.set_cons_succ]
                            refine wpAnyH_done (by kernel_rfl) ?_ _
                            have HH18 := As.mk (HXW.out.trans (hHeld.mono HXW.out.size))
                            clear hHeld
                            go_wp2
                            go_ret
                            exact ⟨rfl, HH18.out⟩
                          exact AllReadyH.nil
                        exact AllReadyH.nil
                      refine AllReadyH.cons (o := ?_) (by simp only [List.getElem?_toArray, List.getElem?_cons_zero, List.getElem?_cons_succ]; rfl) (fun K hK => ?_) ?_
                      · have kv := run_str (P := Try.prog) 24 9 5 Try.underlying24 Try.underlying5 Try.underlying9 HRb.out
                        have hS2 := hHeld
                        go_simp
                        clear kv
                        refine hK.out _ _ ?_ (fun hHeld2 => ?_)
                        · exact hS2
                        clear hK K hHeld
                        have hHeld := hHeld2
                        clear hHeld2
                        try simp only [Act.put, List.setIfInBounds_toArray, List.set_cons_zero, List.set_cons_succ]
                        refine wpAnyH_ready (rs := [10]) (by kernel_rfl) (by simp) ?_
                        refine AllReadyH.cons (o := ?_) (by simp only [List.getElem?_toArray, List.getElem?_cons_zero, List.getElem?_cons_succ]; rfl) (fun K hK => ?_) ?_
                        · have kv := run_str (P := Try.prog) 24 9 5 Try.underlying24 Try.underlying5 Try.underlying9 HRa.out
                          have hS2 := hHeld
                          go_simp
                          clear kv
                          refine hK.out _ _ ?_ (fun hHeld2 => ?_)
                          · exact hS2
                          clear hK K hHeld
                          have hHeld := hHeld2
                          clear hHeld2
                          try simp only [Act.put, List.setIfInBounds_toArray, List.set_cons_zero, List.set_cons_succ]
                          refine wpAnyH_take (i := 14) (oi := ?_) (v := ?_) (by simp only [List.getElem?_toArray, List.getElem?_cons_zero, List.getElem?_cons_succ]; rfl) (by kernel_rfl) (by kernel_rfl) (by kernel_rfl) (by exact fun _ _ _ h => h) (Or.inl ⟨by rfl, ?_⟩) (by assumption) ?_
                          rotate_left
                          · (intro w hSw; (try dsimp only at hSw); obtain ⟨q0, q1, q2, q3⟩ := (HXL.out.2.1.below hSw).four; obtain ⟨r0, r1, r2, r3⟩ := (HXL.out.2.2.below hSw).four; clear hSw; go_simp; first | done | with_reducible rfl)
                          try simp only [Act.put, List.setIfInBounds_toArray, List.set_cons_zero, List.set_cons_succ]
                          refine wpAnyH_take (i := 17) (oi := ?_) (v := ?_) (by simp only [List.getElem?_toArray, List.getElem?_cons_zero, List.getElem?_cons_succ]; rfl) (by kernel_rfl) (by kernel_rfl) (by kernel_rfl) (by exact fun _ _ _ h => h) (Or.inl ⟨by rfl, ?_⟩) (by assumption) ?_
                          rotate_left
                          · (intro w hSw; (try dsimp only at hSw); obtain ⟨q0, q1, q2, q3⟩ := (HXL.out.2.1.below hSw).four; obtain ⟨r0, r1, r2, r3⟩ := (HXL.out.2.2.below hSw).four; clear hSw; go_simp; first | done | with_reducible rfl)
                          try simp only [Act.put, List.setIfInBounds_toArray, List.set_cons_zero, List.set_cons_succ]
                          refine wpAnyH_take (i := 18) (oi := ?_) (v := ?_) (by simp only [List.getElem?_toArray, List.getElem?_cons_zero, List.getElem?_cons_succ]; rfl) (by kernel_rfl) (by kernel_rfl) (by kernel_rfl) (by exact fun _ _ _ h => h) (Or.inl ⟨by rfl, ?_⟩) (by assumption) ?_
                          rotate_left
                          · (intro w hSw; (try dsimp only at hSw); obtain ⟨q0, q1, q2, q3⟩ := (HXL.out.2.1.below hSw).four; obtain ⟨r0, r1, r2, r3⟩ := (HXL.out.2.2.below hSw).four; clear hSw; go_simp; first | done | with_reducible rfl)
                          try simp only [Act.put, List.setIfInBounds_toArray, List.set_cons_zero, List.set_cons_succ]
                          refine wpAnyH_take (i := 19) (oi := ?_) (v := ?_) (by simp only [List.getElem?_toArray, List.getElem?_cons_zero, List.getElem?_cons_succ]; rfl) (by kernel_rfl) (by kernel_rfl) (by kernel_rfl) (by exact fun _ _ _ h => h) (Or.inl ⟨by rfl, ?_⟩) (by assumption) ?_
                          rotate_left
                          · (intro w hSw; (try dsimp only at hSw); obtain ⟨q0, q1, q2, q3⟩ := (HXL.out.2.1.below hSw).four; obtain ⟨r0, r1, r2, r3⟩ := (HXL.out.2.2.below hSw).four; clear hSw; go_simp; first | done | with_reducible rfl)
                          try simp only [Act.put, List.setIfInBounds_toArray, List.set_cons_zero, List.set_cons_succ]
                          refine wpAnyH_ready (rs := [20]) (by kernel_rfl) (by simp) ?_
                          refine AllReadyH.cons (o := ?_) (by simp only [List.getElem?_toArray, List.getElem?_cons_zero, List.getElem?_cons_succ]; rfl) (fun K hK => ?_) ?_
                          · go_simp
                            refine (awake3_any _).mono ?_
                            rintro e w20 ⟨rfl, hb⟩
                            have hS2 := hHeld.trans (hb.mono hHeld.size)
                            clear hb
                            dsimp only
                            refine hK.out _ _ ?_ (fun hHeld2 => ?_)
                            · exact hS2
                            clear hK K hHeld
                            have hHeld := hHeld2
                            clear hHeld2
                            try simp only [Act.put, List.setIfInBounds_toArray, List.set_cons_zero, List.set_cons_succ]
                            refine wpAnyH_take (i := 21) (oi := ?_) (v := ?_) (by simp only [List.getElem?_toArray, List.getElem?_cons_zero, List.getElem?_cons_succ]; rfl) (by kernel_rfl) (by kernel_rfl) (by kernel_rfl) (by exact fun _ _ _ h => h) (Or.inl ⟨by rfl, ?_⟩) (by assumption) ?_
                            rotate_left
                            · (intro w hSw; (try dsimp only at hSw); obtain ⟨q0, q1, q2, q3⟩ := (HXL.out.2.1.below hSw).four; obtain ⟨r0, r1, r2, r3⟩ := (HXL.out.2.2.below hSw).four; clear hSw; go_simp; first | done | with_reducible rfl)
                            try simp only [Act.put, List.setIfInBounds_toArray, List.set_cons_zero, List.set_cons_succ]
                            refine wpAnyH_take (i := 22) (oi := ?_) (v := ?_) (by simp only [List.getElem?_toArray, List.getElem?_cons_zero, List.getElem?_cons_succ]; rfl) (by kernel_rfl) (by kernel_rfl) (by kernel_rfl) (by exact fun _ _ _ h => h) (Or.inl ⟨by rfl, ?_⟩) (by assumption) ?_
                            rotate_left
                            · (intro w hSw; (try dsimp only at hSw); obtain ⟨q0, q1, q2, q3⟩ := (HXL.out.2.1.below hSw).four; obtain ⟨r0, r1, r2, r3⟩ := (HXL.out.2.2.below hSw).four; clear hSw; go_simp; first | done | with_reducible rfl)
                            try simp only [Act.put, List.setIfInBounds_toArray, List.set_cons_zero, List.set_cons_succ]
                            refine wpAnyH_done (by kernel_rfl) ?_ _
                            have HH18 := As.mk (HXW.out.trans (hHeld.mono HXW.out.size))
                            clear hHeld
                            go_wp2
                            go_ret
                            exact ⟨rfl, HH18.out⟩
                          exact AllReadyH.nil
                        exact AllReadyH.nil
                      exact AllReadyH.nil
                    exact AllReadyH.nil
                  exact AllReadyH.nil
                exact AllReadyH.nil
              exact AllReadyH.nil
            refine AllReadyH.cons (o := ?_) (by simp only [List.getElem?_toArray, List.getElem?_cons_zero, List.getElem?_cons_succ]; rfl) (fun K hK => ?_) ?_
            · go_simp
              refine (base_any _ T _ (HXL.out.2.2.below hHeld).tx).mono ?_
              rintro e w9 ⟨r9, rfl, ho, hb⟩
              rw [← HBB.out] at ho
              obtain ⟨A9, c9, rfl⟩ := RdB.formN ho.rd rfl
              have hS2 := hHeld.trans (hb.mono hHeld.size)
              have HRb := As.mk ho.rd
              have HRa2 := As.mk (HRa.out.below hb)
              clear HRa
              have HRa := HRa2
              clear HRa2
              clear ho hb
              dsimp only
              refine hK.out _ _ ?_ (fun hHeld2 => ?_)
              · exact hS2
              clear hK K hHeld
              have hHeld := hHeld2
              clear hHeld2
              try simp only [Act.put, List.setIfInBounds_toArray, List.set_cons_zero, List.set_cons_succ]
              refine wpAnyH_ready (rs := [2, 5]) (by kernel_rfl) (by simp) ?_
              refine AllReadyH.cons (o := ?_) (by simp only [List.getElem?_toArray, List.getElem?_cons_zero, List.getElem?_cons_succ]; rfl) (fun K hK => ?_) ?_
              · have kv := run_str (P := Try.prog) 24 9 5 Try.underlying24 Try.underlying5 Try.underlying9 HRa.out
                have hS2 := hHeld
                go_simp
                clear kv
                refine hK.out _ _ ?_ (fun hHeld2 => ?_)
                · exact hS2
                clear hK K hHeld
                have hHeld := hHeld2
                clear hHeld2
                try simp only [Act.put, List.setIfInBounds_toArray, List.set_cons_zero, List.set_cons_succ]
                refine wpAnyH_ready (rs := [5]) (by kernel_rfl) (by simp) ?_
                refine AllReadyH.cons (o := ?_) (by simp only [List.getElem?_toArray, List.getElem?_cons_zero, List.getElem?_cons_succ]; rfl) (fun K hK => ?_) ?_
                · have kv := run_str (P := Try.prog) 24 9 5 Try.underlying24 Try.underlying5 Try.underlying9 HRb.out
                  have hS2 := hHeld
                  go_simp
                  clear kv
                  refine hK.out _ _ ?_ (fun hHeld2 => ?_)
                  · exact hS2
                  clear hK K hHeld
                  have hHeld := hHeld2
                  clear hHeld2
                  try simp only [Act.put, List.setIfInBounds_toArray, List.set_cons_zero, List.set_cons_succ]
                  refine wpAnyH_take (i := 6) (oi := ?_) (v := ?_) (by simp only [List.getElem?_toArray, List.getElem?_cons_zero, List.getElem?_cons_succ]; rfl) (by kernel_rfl) (by kernel_rfl) (by kernel_rfl) (by exact fun _ _ _ h => h) (Or.inl ⟨by rfl, ?_⟩) (by assumption) ?_
                  rotate_left
                  · (intro w hSw; (try dsimp only at hSw); obtain ⟨q0, q1, q2, q3⟩ := (HXL.out.2.1.below hSw).four; obtain ⟨r0, r1, r2, r3⟩ := (HXL.out.2.2.below hSw).four; clear hSw; go_simp; first | done | with_reducible rfl)
                  try simp only [Act.put, List.setIfInBounds_toArray, List.set_cons_zero, List.set_cons_succ]
                  refine wpAnyH_take (i := 7) (oi := ?_) (v := ?_) (by simp only [List.getElem?_toArray, List.getElem?_cons_zero, List.getElem?_cons_succ]; rfl) (by kernel_rfl) (by kernel_rfl) (by kernel_rfl) (by exact fun _ _ _ h => h) (Or.inl ⟨by rfl, ?_⟩) (by assumption) ?_
                  rotate_left
                  · (intro w hSw; (try dsimp only at hSw); obtain ⟨q0, q1, q2, q3⟩ := (HXL.out.2.1.below hSw).four; obtain ⟨r0, r1, r2, r3⟩ := (HXL.out.2.2.below hSw).four; clear hSw; go_simp; first | done | with_reducible rfl)
                  try simp only [Act.put, List.setIfInBounds_toArray, List.set_cons_zero, List.set_cons_succ]
                  refine wpAnyH_take (i := 8) (oi := ?_) (v := ?_) (by simp only [List.getElem?_toArray, List.getElem?_cons_zero, List.getElem?_cons_succ]; rfl) (by kernel_rfl) (by kernel_rfl) (by kernel_rfl) (by exact fun _ _ _ h => h) (Or.inl ⟨by rfl, ?_⟩) (by assumption) ?_
                  rotate_left
                  · (intro w hSw; (try dsimp only at hSw); obtain ⟨q0, q1, q2, q3⟩ := (HXL.out.2.1.below hSw).four; obtain ⟨r0, r1, r2, r3⟩ := (HXL.out.2.2.below hSw).four; clear hSw; go_simp; first | done | with_reducible rfl)
                  try simp only [Act.put, List.setIfInBounds_toArray, List.set_cons_zero, List.set_cons_succ]
                  refine wpAnyH_take (i := 11) (oi := ?_) (v := ?_) (by simp only [List.getElem?_toArray, List.getElem?_cons_zero, List.getElem?_cons_succ]; rfl) (by kernel_rfl) (by kernel_rfl) (by kernel_rfl) (by exact fun _ _ _ h => h) (Or.inl ⟨by rfl, ?_⟩) (by assumption) ?_
                  rotate_left
                  · (intro w hSw; (try dsimp only at hSw); obtain ⟨q0, q1, q2, q3⟩ := (HXL.out.2.1.below hSw).four; obtain ⟨r0, r1, r2, r3⟩ := (HXL.out.2.2.below hSw).four; clear hSw; go_simp; first | done | with_reducible rfl)
                  try simp only [Act.put, List.setIfInBounds_toArray, List.set_cons_zero, List.set_cons_succ]
                  refine wpAnyH_take (i := 15) (oi := ?_) (v := ?_) (by simp only [List.getElem?_toArray, List.getElem?_cons_zero, List.getElem?_cons_succ]; rfl) (by kernel_rfl) (by kernel_rfl) (by kernel_rfl) (by exact fun _ _ _ h => h) (Or.inl ⟨by rfl, ?_⟩) (by assumption) ?_
                  rotate_left
                  · (intro w hSw; (try dsimp only at hSw); obtain ⟨q0, q1, q2, q3⟩ := (HXL.out.2.1.below hSw).four; obtain ⟨r0, r1, r2, r3⟩ := (HXL.out.2.2.below hSw).four; clear hSw; go_simp; first | done | with_reducible rfl)
                  try simp only [Act.put, List.setIfInBounds_toArray, List.set_cons_zero, List.set_cons_succ]
                  refine wpAnyH_take (i := 16) (oi := ?_) (v := ?_) (by simp only [List.getElem?_toArray, List.getElem?_cons_zero, List.getElem?_cons_succ]; rfl) (by kernel_rfl) (by kernel_rfl) (by kernel_rfl) (by exact fun _ _ _ h => h) (Or.inl ⟨by rfl, ?_⟩) (by assumption) ?_
                  rotate_left
                  · (intro w hSw; (try dsimp only at hSw); obtain ⟨q0, q1, q2, q3⟩ := (HXL.out.2.1.below hSw).four; obtain ⟨r0, r1, r2, r3⟩ := (HXL.out.2.2.below hSw).four; clear hSw; go_simp; first | done | with_reducible rfl)
                  try simp only [Act.put, List.setIfInBounds_toArray, List.set_cons_zero, List.set_cons_succ]
                  refine wpAnyH_ready (rs := [9]) (by kernel_rfl) (by simp) ?_
                  refine AllReadyH.cons (o := ?_) (by simp only [List.getElem?_toArray, List.getElem?_cons_zero, List.getElem?_cons_succ]; rfl) (fun K hK => ?_) ?_
                  · go_simp
                    refine (bytes_any _ T _ (HXL.out.2.2.below hHeld).tx).mono ?_
                    rintro e w9 ⟨r9, rfl, ho, hb⟩
                    rw [← HBT.out] at ho
                    obtain ⟨A9, c9, rfl⟩ := RdB.formN ho.rd rfl
                    have hS2 := hHeld.trans (hb.mono hHeld.size)
                    have HRa := As.mk ho.rd
                    clear ho hb
                    dsimp only
                    refine hK.out _ _ ?_ (fun hHeld2 => ?_)
                    · exact hS2
                    clear hK K hHeld
                    have hHeld := hHeld2
                    clear hHeld2
                    try simp only [Act.put, List.setIfInBounds_toArray, List.set_cons_zero, List.set_cons_succ]
                    refine wpAnyH_ready (rs := [10, 12]) (by kernel_rfl) (by simp) ?_
                    refine AllReadyH.cons (o := ?_) (by simp only [List.getElem?_toArray, List.getElem?_cons_zero, List.getElem?_cons_succ]; rfl) (fun K hK => ?_) ?_
                    · have kv := run_str (P := Try.prog) 24 9 5 Try.underlying24 Try.underlying5 Try.underlying9 HRa.out
                      have hS2 := hHeld
                      go_simp
                      clear kv
                      refine hK.out _ _ ?_ (fun hHeld2 => ?_)
                      · exact hS2
                      clear hK K hHeld
                      have hHeld := hHeld2
                      clear hHeld2
                      try simp only [Act.put, List.setIfInBounds_toArray, List.set_cons_zero, List.set_cons_succ]
                      refine wpAnyH_ready (rs := [12]) (by kernel_rfl) (by simp) ?_
                      refine AllReadyH.cons (o := ?_) (by simp only [List.getElem?_toArray, List.getElem?_cons_zero, List.getElem?_cons_succ]; rfl) (fun K hK => ?_) ?_
                      · go_simp
                        refine (base_any _ T _ (HXL.out.2.2.below hHeld).tx).mono ?_
                        rintro e w9 ⟨r9, rfl, ho, hb⟩
                        rw [← HBB.out] at ho
                        obtain ⟨A9, c9, rfl⟩ := RdB.formN ho.rd rfl
                        have hS2 := hHeld.trans (hb.mono hHeld.size)
                        have HRb := As.mk ho.rd
                        clear ho hb
                        dsimp only
                        refine hK.out _ _ ?_ (fun hHeld2 => ?_)
                        · exact hS2
                        clear hK K hHeld
                        have hHeld := hHeld2
                        clear hHeld2
                        try simp only [Act.put, List.setIfInBounds_toArray, List.set_cons_zero, List.set_cons_succ]
                        refine wpAnyH_ready (rs := [13]) (by kernel_rfl) (by simp) ?_
                        refine AllReadyH.cons (o := ?_) (by simp only [List.getElem?_toArray, List.getElem?_cons_zero, List.getElem?_cons_succ]; rfl) (fun K hK => ?_) ?_
                        · have kv := run_str (P := Try.prog) 24 9 5 Try.underlying24 Try.underlying5 Try.underlying9 HRb.out
                          have hS2 := hHeld
                          go_simp
                          clear kv
                          refine hK.out _ _ ?_ (fun hHeld2 => ?_)
                          · exact hS2
                          clear hK K hHeld
                          have hHeld := hHeld2
                          clear hHeld2
                          try simp only [Act.put, List.setIfInBounds_toArray, List.set_cons_zero, List.set_cons_succ]
                          refine wpAnyH_take (i := 14) (oi := ?_) (v := ?_) (by simp only [List.getElem?_toArray, List.getElem?_cons_zero, List.getElem?_cons_succ]; rfl) (by kernel_rfl) (by kernel_rfl) (by kernel_rfl) (by exact fun _ _ _ h => h) (Or.inl ⟨by rfl, ?_⟩) (by assumption) ?_
                          rotate_left
                          · (intro w hSw; (try dsimp only at hSw); obtain ⟨q0, q1, q2, q3⟩ := (HXL.out.2.1.below hSw).four; obtain ⟨r0, r1, r2, r3⟩ := (HXL.out.2.2.below hSw).four; clear hSw; go_simp; first | done | with_reducible rfl)
                          try simp only [Act.put, List.setIfInBounds_toArray, List.set_cons_zero, List.set_cons_succ]
                          refine wpAnyH_take (i := 17) (oi := ?_) (v := ?_) (by simp only [List.getElem?_toArray, List.getElem?_cons_zero, List.getElem?_cons_succ]; rfl) (by kernel_rfl) (by kernel_rfl) (by kernel_rfl) (by exact fun _ _ _ h => h) (Or.inl ⟨by rfl, ?_⟩) (by assumption) ?_
                          rotate_left
                          · (intro w hSw; (try dsimp only at hSw); obtain ⟨q0, q1, q2, q3⟩ := (HXL.out.2.1.below hSw).four; obtain ⟨r0, r1, r2, r3⟩ := (HXL.out.2.2.below hSw).four; clear hSw; go_simp; first | done | with_reducible rfl)
                          try simp only [Act.put, List.setIfInBounds_toArray, List.set_cons_zero, List.set_cons_succ]
                          refine wpAnyH_take (i := 18) (oi := ?_) (v := ?_) (by simp only [List.getElem?_toArray, List.getElem?_cons_zero, List.getElem?_cons_succ]; rfl) (by kernel_rfl) (by kernel_rfl) (by kernel_rfl) (by exact fun _ _ _ h => h) (Or.inl ⟨by rfl, ?_⟩) (by assumption) ?_
                          rotate_left
                          · (intro w hSw; (try dsimp only at hSw); obtain ⟨q0, q1, q2, q3⟩ := (HXL.out.2.1.below hSw).four; obtain ⟨r0, r1, r2, r3⟩ := (HXL.out.2.2.below hSw).four; clear hSw; go_simp; first | done | with_reducible rfl)
                          try simp only [Act.put, List.setIfInBounds_toArray, List.set_cons_zero, List.set_cons_succ]
                          refine wpAnyH_take (i := 19) (oi := ?_) (v := ?_) (by simp only [List.getElem?_toArray, List.getElem?_cons_zero, List.getElem?_cons_succ]; rfl) (by kernel_rfl) (by kernel_rfl) (by kernel_rfl) (by exact fun _ _ _ h => h) (Or.inl ⟨by rfl, ?_⟩) (by assumption) ?_
                          rotate_left
                          · (intro w hSw; (try dsimp only at hSw); obtain ⟨q0, q1, q2, q3⟩ := (HXL.out.2.1.below hSw).four; obtain ⟨r0, r1, r2, r3⟩ := (HXL.out.2.2.below hSw).four; clear hSw; go_simp; first | done | with_reducible rfl)
                          try simp only [Act.put, List.setIfInBounds_toArray, List.set_cons_zero, List.set_cons_succ]
                          refine wpAnyH_ready (rs := [20]) (by kernel_rfl) (by simp) ?_
                          refine AllReadyH.cons (o := ?_) (by simp only [List.getElem?_toArray, List.getElem?_cons_zero, List.getElem?_cons_succ]; rfl) (fun K hK => ?_) ?_
                          · go_simp
                            refine (awake3_any _).mono ?_
                            rintro e w20 ⟨rfl, hb⟩
                            have hS2 := hHeld.trans (hb.mono hHeld.size)
                            clear hb
                            dsimp only
                            refine hK.out _ _ ?_ (fun hHeld2 => ?_)
                            · exact hS2
                            clear hK K hHeld
                            have hHeld := hHeld2
                            clear hHeld2
                            try simp only [Act.put, List.setIfInBounds_toArray, List.set_cons_zero, List.set_cons_succ]
                            refine wpAnyH_take (i := 21) (oi := ?_) (v := ?_) (by simp only [List.getElem?_toArray, List.getElem?_cons_zero, List.getElem?_cons_succ]; rfl) (by kernel_rfl) (by kernel_rfl) (by kernel_rfl) (by exact fun _ _ _ h => h) (Or.inl ⟨by rfl, ?_⟩) (by assumption) ?_
                            rotate_left
                            · (intro w hSw; (try dsimp only at hSw); obtain ⟨q0, q1, q2, q3⟩ := (HXL.out.2.1.below hSw).four; obtain ⟨r0, r1, r2, r3⟩ := (HXL.out.2.2.below hSw).four; clear hSw; go_simp; first | done | with_reducible rfl)
                            try simp only [Act.put, List.setIfInBounds_toArray, List.set_cons_zero, List.set_cons_succ]
                            refine wpAnyH_take (i := 22) (oi := ?_) (v := ?_) (by simp only [List.getElem?_toArray, List.getElem?_cons_zero, List.getElem?_cons_succ]; rfl) (by kernel_rfl) (by kernel_rfl) (by kernel_rfl) (by exact fun _ _ _ h => h) (Or.inl ⟨by rfl, ?_⟩) (by assumption) ?_
                            rotate_left
                            · (intro w hSw; (try dsimp only at hSw); obtain ⟨q0, q1, q2, q3⟩ := (HXL.out.2.1.below hSw).four; obtain ⟨r0, r1, r2, r3⟩ := (HXL.out.2.2.below hSw).four; clear hSw; go_simp; first | done | with_reducible rfl)
                            try simp only [Act.put, List.setIfInBounds_toArray, List.set_cons_zero, List.set_cons_succ]
                            refine wpAnyH_done (by kernel_rfl) ?_ _
                            have HH18 := As.mk (HXW.out.trans (hHeld.mono HXW.out.size))
                            clear hHeld
                            go_wp2
                            go_ret
                            exact ⟨rfl, HH18.out⟩
                          exact AllReadyH.nil
                        exact AllReadyH.nil
                      exact AllReadyH.nil
                    refine AllReadyH.cons (o := ?_) (by simp only [List.getElem?_toArray, List.getElem?_cons_zero, List.getElem?_cons_succ]; rfl) (fun K hK => ?_) ?_
                    · go_simp
                      refine (base_any _ T _ (HXL.out.2.2.below hHeld).tx).mono ?_
                      rintro e w9 ⟨r9, rfl, ho, hb⟩
                      rw [← HBB.out] at ho
                      obtain ⟨A9, c9, rfl⟩ := RdB.formN ho.rd rfl
                      have hS2 := hHeld.trans (hb.mono hHeld.size)
                      have HRb := As.mk ho.rd
                      have HRa2 := As.mk (HRa.out.below hb)
                      clear HRa
                      have HRa := HRa2
                      clear HRa2
                      clear ho hb
                      dsimp only
                      refine hK.out _ _ ?_ (fun hHeld2 => ?_)
                      · exact hS2
                      clear hK K hHeld
                      have hHeld := hHeld2
                      clear hHeld2
                      try simp only [Act.put, List.setIfInBounds_toArray, List.set_cons_zero, List.set_cons_succ]
                      refine wpAnyH_ready (rs := [10, 13]) (by kernel_rfl) (by simp) ?_
                      refine AllReadyH.cons (o := ?_) (by simp only [List.getElem?_toArray, List.getElem?_cons_zero, List.getElem?_cons_succ]; rfl) (fun K hK => ?_) ?_
                      · have kv := run_str (P := Try.prog) 24 9 5 Try.underlying24 Try.underlying5 Try.underlying9 HRa.out
                        have hS2 := hHeld
                        go_simp
                        clear kv
                        refine hK.out _ _ ?_ (fun hHeld2 => ?_)
                        · exact hS2
                        clear hK K hHeld
                        have hHeld := hHeld2
                        clear hHeld2
                        try simp only [Act.put, List.setIfInBounds_toArray, List.set_cons_zero, List.set_cons_succ]
                        refine wpAnyH_ready (rs := [13]) (by kernel_rfl) (by simp) ?_
                        refine AllReadyH.cons (o := ?_) (by simp only [List.getElem?_toArray, List.getElem?_cons_zero, List.getElem?_cons_succ]; rfl) (fun K hK => ?_) ?_
                        · have kv := run_str (P := Try.prog) 24 9 5 Try.underlying24 Try.underlying5 Try.underlying9 HRb.out
                          have hS2 := hHeld
                          go_simp
                          clear kv
                          refine hK.out _ _ ?_ (fun hHeld2 => ?_)
                          · exact hS2
                          clear hK K hHeld
                          have hHeld := hHeld2
                          clear hHeld2
                          try simp only [Act.put, List.setIfInBounds_toArray, List.set_cons_zero, List.set_cons_succ]
                          refine wpAnyH_take (i := 14) (oi := ?_) (v := ?_) (by simp only [List.getElem?_toArray, List.getElem?_cons_zero, List.getElem?_cons_succ]; rfl) (by kernel_rfl) (by kernel_rfl) (by kernel_rfl) (by exact fun _ _ _ h => h) (Or.inl ⟨by rfl, ?_⟩) (by assumption) ?_
                          rotate_left
                          · (intro w hSw; (try dsimp only at hSw); obtain ⟨q0, q1, q2, q3⟩ := (HXL.out.2.1.below hSw).four; obtain ⟨r0, r1, r2, r3⟩ := (HXL.out.2.2.below hSw).four; clear hSw; go_simp; first | done | with_reducible rfl)
                          try simp only [Act.put, List.setIfInBounds_toArray, List.set_cons_zero, List.set_cons_succ]
                          refine wpAnyH_take (i := 17) (oi := ?_) (v := ?_) (by simp only [List.getElem?_toArray, List.getElem?_cons_zero, List.getElem?_cons_succ]; rfl) (by kernel_rfl) (by kernel_rfl) (by kernel_rfl) (by exact fun _ _ _ h => h) (Or.inl ⟨by rfl, ?_⟩) (by assumption) ?_
                          rotate_left
                          · (intro w hSw; (try dsimp only at hSw); obtain ⟨q0, q1, q2, q3⟩ := (HXL.out.2.1.below hSw).four; obtain ⟨r0, r1, r2, r3⟩ := (HXL.out.2.2.below hSw).four; clear hSw; go_simp; first | done | with_reducible rfl)
                          try simp only [Act.put, List.setIfInBounds_toArray, List.set_cons_zero, List.set_cons_succ]
                          refine wpAnyH_take (i := 18) (oi := ?_) (v := ?_) (by simp only [List.getElem?_toArray, List.getElem?_cons_zero, List.getElem?_cons_succ]; rfl) (by kernel_rfl) (by kernel_rfl) (by kernel_rfl) (by exact fun _ _ _ h => h) (Or.inl ⟨by rfl, ?_⟩) (by assumption) ?_
                          rotate_left
                          · (intro w hSw; (try dsimp only at hSw); obtain ⟨q0, q1, q2, q3⟩ := (HXL.out.2.1.below hSw).four; obtain ⟨r0, r1, r2, r3⟩ := (HXL.out.2.2.below hSw).four; clear hSw; go_simp; first | done | with_reducible rfl)
                          try simp only [Act.put, List.setIfInBounds_toArray, List.set_cons_zero, List.set_cons_succ]
                          refine wpAnyH_take (i := 19) (oi := ?_) (v := ?_) (by simp only [List.getElem?_toArray, List.getElem?_cons_zero, List.getElem?_cons_succ]; rfl) (by kernel_rfl) (by kernel_rfl) (by kernel_rfl) (by exact fun _ _ _ h => h) (Or.inl ⟨by rfl, ?_⟩) (by assumption) ?_
                          rotate_left
                          · (intro w hSw; (try dsimp only at hSw); obtain ⟨q0, q1, q2, q3⟩ := (HXL.out.2.1.below hSw).four; obtain ⟨r0, r1, r2, r3⟩ := (HXL.out.2.2.below hSw).four; clear hSw; go_simp; first | done | with_reducible rfl)
                          try simp only [Act.put, List.setIfInBounds_toArray, List.set_cons_zero, List.set_cons_succ]
                          refine wpAnyH_ready (rs := [20]) (by kernel_rfl) (by simp) ?_
                          refine AllReadyH.cons (o := ?_) (by simp only [List.getElem?_toArray, List.getElem?_cons_zero, List.getElem?_cons_succ]; rfl) (fun K hK => ?_) ?_
                          · go_simp
                            refine (awake3_any _).mono ?_
                            rintro e w20 ⟨rfl, hb⟩
                            have hS2 := hHeld.trans (hb.mono hHeld.size)
                            clear hb
                            dsimp only
                            refine hK.out _ _ ?_ (fun hHeld2 => ?_)
                            · exact hS2
                            clear hK K hHeld
                            have hHeld := hHeld2
                            clear hHeld2
                            try simp only [Act.put, List.setIfInBounds_toArray, List.set_cons_zero, List.set_cons_succ]
                            refine wpAnyH_take (i := 21) (oi := ?_) (v := ?_) (by simp only [List.getElem?_toArray, List.getElem?_cons_zero, List.getElem?_cons_succ]; rfl) (by kernel_rfl) (by kernel_rfl) (by kernel_rfl) (by exact fun _ _ _ h => h) (Or.inl ⟨by rfl, ?_⟩) (by assumption) ?_
                            rotate_left
                            · (intro w hSw; (try dsimp only at hSw); obtain ⟨q0, q1, q2, q3⟩ := (HXL.out.2.1.below hSw).four; obtain ⟨r0, r1, r2, r3⟩ := (HXL.out.2.2.below hSw).four; clear hSw; go_simp; first | done | with_reducible rfl)
                            try simp only [Act.put, List.setIfInBounds_toArray, List.set_cons_zero, List.set_cons_succ]
                            refine wpAnyH_take (i := 22) (oi := ?_) (v := ?_) (by simp only [List.getElem?_toArray, List.getElem?_cons_zero, List.getElem?_cons_succ]; rfl) (by kernel_rfl) (by kernel_rfl) (by kernel_rfl) (by exact fun _ _ _ h => h) (Or.inl ⟨by rfl, ?_⟩) (by assumption) ?_
                            rotate_left
                            · (intro w hSw; (try dsimp only at hSw); obtain ⟨q0, q1, q2, q3⟩ := (HXL.out.2.1.below hSw).four; obtain ⟨r0, r1, r2, r3⟩ := (HXL.out.2.2.below hSw).four; clear hSw; go_simp; first | done | with_reducible rfl)
                            try simp only [Act.put, List.setIfInBounds_toArray, List.set_cons_zero, List.set_cons_succ]
                            refine wpAnyH_done (by kernel_rfl) ?_ _
                            have HH18 := As.mk (HXW.out.trans (hHeld.mono HXW.out.size))
                            clear hHeld
                            go_wp2
                            go_ret
                            exact ⟨rfl, HH18.out⟩
                          exact AllReadyH.nil
                        exact AllReadyH.nil
                      refine AllReadyH.cons (o := ?_) (by simp only [List.getElem?_toArray, List.getElem?_cons_zero, List.getElem?_cons_succ]; rfl) (fun K hK => ?_) ?_
                      · have kv := run_str (P := Try.prog) 24 9 5 Try.underlying24 Try.underlying5 Try.underlying9 HRb.out
                        have hS2 := hHeld
                        go_simp
                        clear kv
                        refine hK.out _ _ ?_ (fun hHeld2 => ?_)
                        · exact hS2
                        clear hK K hHeld
                        have hHeld := hHeld2
                        clear hHeld2
                        try simp only [Act.put, List.setIfInBounds_toArray, List.set_cons_zero, List.set_cons_succ]
                        refine wpAnyH_ready (rs := [10]) (by kernel_rfl) (by simp) ?_
                        refine AllReadyH.cons (o := ?_) (by simp only [List.getElem?_toArray, List.getElem?_cons_zero, List.getElem?_cons_succ]; rfl) (fun K hK => ?_) ?_
                        · have kv := run_str (P := Try.prog) 24 9 5 Try.underlying24 Try.underlying5 Try.underlying9 HRa.out
                          have hS2 := hHeld
                          go_simp
                          clear kv
                          refine hK.out _ _ ?_ (fun hHeld2 => ?_)
                          · exact hS2
                          clear hK K hHeld
                          have hHeld := hHeld2
                          clear hHeld2
                          try simp only [Act.put, List.setIfInBounds_toArray, List.set_cons_zero, List.set_cons_succ]
                          refine wpAnyH_take (i := 14) (oi := ?_) (v := ?_) (by simp only [List.getElem?_toArray, List.getElem?_cons_zero, List.getElem?_cons_succ]; rfl) (by kernel_rfl) (by kernel_rfl) (by kernel_rfl) (by exact fun _ _ _ h => h) (Or.inl ⟨by rfl, ?_⟩) (by assumption) ?_
                          rotate_left
                          · (intro w hSw; (try dsimp only at hSw); obtain ⟨q0, q1, q2, q3⟩ := (HXL.out.2.1.below hSw).four; obtain ⟨r0, r1, r2, r3⟩ := (HXL.out.2.2.below hSw).four; clear hSw; go_simp; first | done | with_reducible rfl)
                          try simp only [Act.put, List.setIfInBounds_toArray, List.set_cons_zero, List.set_cons_succ]
                          refine wpAnyH_take (i := 17) (oi := ?_) (v := ?_) (by simp only [List.getElem?_toArray, List.getElem?_cons_zero, List.getElem?_cons_succ]; rfl) (by kernel_rfl) (by kernel_rfl) (by kernel_rfl) (by exact fun _ _ _ h => h) (Or.inl ⟨by rfl, ?_⟩) (by assumption) ?_
                          rotate_left
                          · (intro w hSw; (try dsimp only at hSw); obtain ⟨q0, q1, q2, q3⟩ := (HXL.out.2.1.below hSw).four; obtain ⟨r0, r1, r2, r3⟩ := (HXL.out.2.2.below hSw).four; clear hSw; go_simp; first | done | with_reducible rfl)
                          try simp only [Act.put, List.setIfInBounds_toArray, List.set_cons_zero, List.set_cons_succ]
                          refine wpAnyH_take (i := 18) (oi := ?_) (v := ?_) (by simp only [List.getElem?_toArray, List.getElem?_cons_zero, List.getElem?_cons_succ]; rfl) (by kernel_rfl) (by kernel_rfl) (by kernel_rfl) (by exact fun _ _ _ h => h) (Or.inl ⟨by rfl, ?_⟩) (by assumption) ?_
                          rotate_left
                          · (intro w hSw; (try dsimp only at hSw); obtain ⟨q0, q1, q2, q3⟩ := (HXL.out.2.1.below hSw).four; obtain ⟨r0, r1, r2, r3⟩ := (HXL.out.2.2.below hSw).four; clear hSw; go_simp; first | done | with_reducible rfl)
                          try simp only [Act.put, List.setIfInBounds_toArray, List.set_cons_zero, List.set_cons_succ]
                          refine wpAnyH_take (i := 19) (oi := ?_) (v := ?_) (by simp only [List.getElem?_toArray, List.getElem?_cons_zero, List.getElem?_cons_succ]; rfl) (by kernel_rfl) (by kernel_rfl) (by kernel_rfl) (by exact fun _ _ _ h => h) (Or.inl ⟨by rfl, ?_⟩) (by assumption) ?_
                          rotate_left
                          · (intro w hSw; (try dsimp only at hSw); obtain ⟨q0, q1, q2, q3⟩ := (HXL.out.2.1.below hSw).four; obtain ⟨r0, r1, r2, r3⟩ := (HXL.out.2.2.below hSw).four; clear hSw; go_simp; first | done | with_reducible rfl)
                          try simp only [Act.put, List.setIfInBounds_toArray, List.set_cons_zero, List.set_cons_succ]
                          refine wpAnyH_ready (rs := [20]) (by kernel_rfl) (by simp) ?_
                          refine AllReadyH.cons (o := ?_) (by simp only [List.getElem?_toArray, List.getElem?_cons_zero, List.getElem?_cons_succ]; rfl) (fun K hK => ?_) ?_
                          · go_simp
                            refine (awake3_any _).mono ?_
                            rintro e w20 ⟨rfl, hb⟩
                            have hS2 := hHeld.trans (hb.mono hHeld.size)
                            clear hb
                            dsimp only
                            refine hK.out _ _ ?_ (fun hHeld2 => ?_)
                            · exact hS2
                            clear hK K hHeld
                            have hHeld := hHeld2
                            clear hHeld2
                            try simp only [Act.put, List.setIfInBounds_toArray, List.set_cons_zero, List.set_cons_succ]
                            refine wpAnyH_take (i := 21) (oi := ?_) (v := ?_) (by simp only [List.getElem?_toArray, List.getElem?_cons_zero, List.getElem?_cons_succ]; rfl) (by kernel_rfl) (by kernel_rfl) (by kernel_rfl) (by exact fun _ _ _ h => h) (Or.inl ⟨by rfl, ?_⟩) (by assumption) ?_
                            rotate_left
                            · (intro w hSw; (try dsimp only at hSw); obtain ⟨q0, q1, q2, q3⟩ := (HXL.out.2.1.below hSw).four; obtain ⟨r0, r1, r2, r3⟩ := (HXL.out.2.2.below hSw).four; clear hSw; go_simp; first | done | with_reducible rfl)
                            try simp only [Act.put, List.setIfInBounds_toArray, List.set_cons_zero, List.set_cons_succ]
                            refine wpAnyH_take (i := 22) (oi := ?_) (v := ?_) (by simp only [List.getElem?_toArray, List.getElem?_cons_zero, List.getElem?_cons_succ]; rfl) (by kernel_rfl) (by kernel_rfl) (by kernel_rfl) (by exact fun _ _ _ h => h) (Or.inl ⟨by rfl, ?_⟩) (by assumption) ?_
                            rotate_left
                            · (intro w hSw; (try dsimp only at hSw); obtain ⟨q0, q1, q2, q3⟩ := (HXL.out.2.1.below hSw).four; obtain ⟨r0, r1, r2, r3⟩ := (HXL.out.2.2.below hSw).four; clear hSw; go_simp; first | done | with_reducible rfl)
                            try simp only [Act.put, List.setIfInBounds_toArray, List.set_cons_zero, List.set_cons_succ]
                            refine wpAnyH_done (by kernel_rfl) ?_ _
                            have HH18 := As.mk (HXW.out.trans (hHeld.mono HXW.out.size))
                            clear hHeld
                            go_wp2
                            go_ret
                            exact ⟨rfl, HH18.out⟩
                          exact AllReadyH.nil
                        exact AllReadyH.nil
                      exact AllReadyH.nil
                    exact AllReadyH.nil
                  exact AllReadyH.nil
                exact AllReadyH.nil
              refine AllReadyH.cons (o := ?_) (by simp only [List.getElem?_toArray, List.getElem?_cons_zero, List.getElem?_cons_succ]; rfl) (fun K hK => ?_) ?_
              · have kv := run_str (P := Try.prog) 24 9 5 Try.underlying24 Try.underlying5 Try.underlying9 HRb.out
                have hS2 := hHeld
                go_simp
                clear kv
                refine hK.out _ _ ?_ (fun hHeld2 => ?_)
                · exact hS2
                clear hK K hHeld
                have hHeld := hHeld2
                clear hHeld2
                try simp only [Act.put, List.setIfInBounds_toArray, List.set_cons_zero, List.set_cons_succ]
                refine wpAnyH_ready (rs := [2]) (by kernel_rfl) (by simp) ?_
                refine AllReadyH.cons (o := ?_) (by simp only [List.getElem?_toArray, List.getElem?_cons_zero, List.getElem?_cons_succ]; rfl) (fun K hK => ?_) ?_
                · have kv := run_str (P := Try.prog) 24 9 5 Try.underlying24 Try.underlying5 Try.underlying9 HRa.out
                  have hS2 := hHeld
                  go_simp
                  clear kv
                  refine hK.out _ _ ?_ (fun hHeld2 => ?_)
                  · exact hS2
                  clear hK K hHeld
                  have hHeld := hHeld2
                  clear hHeld2
                  try simp only [Act.put, List.setIfInBounds_toArray, List.set_cons_zero, List.set_cons_succ]
                  refine wpAnyH_take (i := 6) (oi := ?_) (v := ?_) (by simp only [List.getElem?_toArray, List.getElem?_cons_zero, List.getElem?_cons_succ]; rfl) (by kernel_rfl) (by kernel_rfl) (by kernel_rfl) (by exact fun _ _ _ h => h) (Or.inl ⟨by rfl, ?_⟩) (by assumption) ?_
                  rotate_left
                  · (intro w hSw; (try dsimp only at hSw); obtain ⟨q0, q1, q2, q3⟩ := (HXL.out.2.1.below hSw).four; obtain ⟨r0, r1, r2, r3⟩ := (HXL.out.2.2.below hSw).four; clear hSw; go_simp; first | done | with_reducible rfl)
                  try simp only [Act.put, List.setIfInBounds_toArray, List.set_cons_zero, List.set_cons_succ]
                  refine wpAnyH_take (i := 7) (oi := ?_) (v := ?_) (by simp only [List.getElem?_toArray, List.getElem?_cons_zero, List.getElem?_cons_succ]; rfl) (by kernel_rfl) (by kernel_rfl) (by kernel_rfl) (by exact fun _ _ _ h => h) (Or.inl ⟨by rfl, ?_⟩) (by assumption) ?_
                  rotate_left
                  · (intro w hSw; (try dsimp only at hSw); obtain ⟨q0, q1, q2, q3⟩ := (HXL.out.2.1.below hSw).four; obtain ⟨r0, r1, r2, r3⟩ := (HXL.out.2.2.below hSw).four; clear hSw; go_simp; first | done | with_reducible rfl)
                  try simp only [Act.put, List.setIfInBounds_toArray, List.set_cons_zero, List.set_cons_succ]
                  refine wpAnyH_take (i := 8) (oi := ?_) (v := ?_) (by simp only [List.getElem?_toArray, List.getElem?_cons_zero, List.getElem?_cons_succ]; rfl) (by kernel_rfl) (by kernel_rfl) (by kernel_rfl) (by exact fun _ _ _ h => h) (Or.inl ⟨by rfl, ?_⟩) (by assumption) ?_
                  rotate_left
                  · (intro w hSw; (try dsimp only at hSw); obtain ⟨q0, q1, q2, q3⟩ := (HXL.out.2.1.below hSw).four; obtain ⟨r0, r1, r2, r3⟩ := (HXL.out.2.2.below hSw).four; clear hSw; go_simp; first | done | with_reducible rfl)
                  try simp only [Act.put, List.setIfInBounds_toArray, List.set_cons_zero, List.set_cons_succ]
                  refine wpAnyH_take (i := 11) (oi := ?_) (v := ?_) (by simp only [List.getElem?_toArray, List.getElem?_cons_zero, List.getElem?_cons_succ]; rfl) (by kernel_rfl) (by kernel_rfl) (by kernel_rfl) (by exact fun _ _ _ h => h) (Or.inl ⟨by rfl, ?_⟩) (by assumption) ?_
                  rotate_left
                  · (intro w hSw; (try dsimp only at hSw); obtain ⟨q0, q1, q2, q3⟩ := (HXL.out.2.1.below hSw).four; obtain ⟨r0, r1, r2, r3⟩ := (HXL.out.2.2.below hSw).four; clear hSw; go_simp; first | done | with_reducible rfl)
                  try simp only [Act.put, List.setIfInBounds_toArray, List.set_cons_zero, List.set_cons_succ]
                  refine wpAnyH_take (i := 15) (oi := ?_) (v := ?_) (by simp only [List.getElem?_toArray, List.getElem?_cons_zero, List.getElem?_cons_succ]; rfl) (by kernel_rfl) (by kernel_rfl) (by kernel_rfl) (by exact fun _ _ _ h => h) (Or.inl ⟨by rfl, ?_⟩) (by assumption) ?_
                  rotate_left
                  · (intro w hSw; (try dsimp only at hSw); obtain ⟨q0, q1, q2, q3⟩ := (HXL.out.2.1.below hSw).four; obtain ⟨r0, r1, r2, r3⟩ := (HXL.out.2.2.below hSw).four; clear hSw; go_simp; first | done | with_reducible rfl)
                  try simp only [Act.put, List.setIfInBounds_toArray, List.set_cons_zero, List.set_cons_succ]
                  refine wpAnyH_take (i := 16) (oi := ?_) (v := ?_) (by simp only [List.getElem?_toArray, List.getElem?_cons_zero, List.getElem?_cons_succ]; rfl) (by kernel_rfl) (by kernel_rfl) (by kernel_rfl) (by exact fun _ _ _ h => h) (Or.inl ⟨by rfl, ?_⟩) (by assumption) ?_
                  rotate_left
                  · (intro w hSw; (try dsimp only at hSw); obtain ⟨q0, q1, q2, q3⟩ := (HXL.out.2.1.below hSw).four; obtain ⟨r0, r1, r2, r3⟩ := (HXL.out.2.2.below hSw).four; clear hSw; go_simp; first | done | with_reducible rfl)
                  try simp only [Act.put, List.setIfInBounds_toArray, List.set_cons_zero, List.set_cons_succ]
                  refine wpAnyH_ready (rs := [9]) (by kernel_rfl) (by simp) ?_
                  refine AllReadyH.cons (o := ?_) (by simp only [List.getElem?_toArray, List.getElem?_cons_zero, List.getElem?_cons_succ]; rfl) (fun K hK => ?_) ?_
                  · go_simp
                    refine (bytes_any _ T _ (HXL.out.2.2.below hHeld).tx).mono ?_
                    rintro e w9 ⟨r9, rfl, ho, hb⟩
                    rw [← HBT.out] at ho
                    obtain ⟨A9, c9, rfl⟩ := RdB.formN ho.rd rfl
                    have hS2 := hHeld.trans (hb.mono hHeld.size)
                    have HRa := As.mk ho.rd
                    clear ho hb
                    dsimp only
                    refine hK.out _ _ ?_ (fun hHeld2 => ?_)
                    · exact hS2
                    clear hK K hHeld
                    have hHeld := hHeld2
                    clear hHeld2
                    try simp only [Act.put, List.setIfInBounds_toArray, List.set_cons_zero, List.set_cons_succ]
                    refine wpAnyH_ready (rs := [10, 12]) (by kernel_rfl) (by simp) ?_
                    refine AllReadyH.cons (o := ?_) (by simp only [List.getElem?_toArray, List.getElem?_cons_zero, List.getElem?_cons_succ]; rfl) (fun K hK => ?_) ?_
                    · have kv := run_str (P := Try.prog) 24 9 5 Try.underlying24 Try.underlying5 Try.underlying9 HRa.out
                      have hS2 := hHeld
                      go_simp
                      clear kv
                      refine hK.out _ _ ?_ (fun hHeld2 => ?_)
                      · exact hS2
                      clear hK K hHeld
                      have hHeld := hHeld2
                      clear hHeld2
                      try simp only [Act.put, List.setIfInBounds_toArray, List.set_cons_zero, List.set_cons_succ]
                      refine wpAnyH_ready (rs := [12]) (by kernel_rfl) (by simp) ?_
                      refine AllReadyH.cons (o := ?_) (by simp only [List.getElem?_toArray, List.getElem?_cons_zero, List.getElem?_cons_succ]; rfl) (fun K hK => ?_) ?_
                      · go_simp
                        refine (base_any _ T _ (HXL.out.2.2.below hHeld).tx).mono ?_
                        rintro e w9 ⟨r9, rfl, ho, hb⟩
                        rw [← HBB.out] at ho
                        obtain ⟨A9, c9, rfl⟩ := RdB.formN ho.rd rfl
                        have hS2 := hHeld.trans (hb.mono hHeld.size)
                        have HRb := As.mk ho.rd
                        clear ho hb
                        dsimp only
                        refine hK.out _ _ ?_ (fun hHeld2 => ?_)
                        · exact hS2
                        clear hK K hHeld
                        have hHeld := hHeld2
                        clear hHeld2
                        try simp only [Act.put, List.setIfInBounds_toArray, List.set_cons_zero, List.set_cons_succ]
                        refine wpAnyH_ready (rs := [13]) (by kernel_rfl) (by simp) ?_
                        refine AllReadyH.cons (o := ?_) (by simp only [List.getElem?_toArray, List.getElem?_cons_zero, List.getElem?_cons_succ]; rfl) (fun K hK => ?_) ?_
                        · have kv := run_str (P := Try.prog) 24 9 5 Try.underlying24 Try.underlying5 Try.underlying9 HRb.out
                          have hS2 := hHeld
                          go_simp
                          clear kv
                          refine hK.out _ _ ?_ (fun hHeld2 => ?_)
                          · exact hS2
                          clear hK K hHeld
                          have hHeld := hHeld2
                          clear hHeld2
                          try simp only [Act.put, List.setIfInBounds_toArray, List.set_cons_zero, List.set_cons_succ]
                          refine wpAnyH_take (i := 14) (oi := ?_) (v := ?_) (by simp only [List.getElem?_toArray, List.getElem?_cons_zero, List.getElem?_cons_succ]; rfl) (by kernel_rfl) (by kernel_rfl) (by kernel_rfl) (by exact fun _ _ _ h => h) (Or.inl ⟨by rfl, ?_⟩) (by assumption) ?_
                          rotate_left
                          · (intro w hSw; (try dsimp only at hSw); obtain ⟨q0, q1, q2, q3⟩ := (HXL.out.2.1.below hSw).four; obtain ⟨r0, r1, r2, r3⟩ := (HXL.out.2.2.below hSw).four; clear hSw; go_simp; first | done | with_reducible rfl)
                          try simp only [Act.put, List.setIfInBounds_toArray, List.set_cons_zero, List.set_cons_succ]
                          refine wpAnyH_take (i := 17) (oi := ?_) (v := ?_) (by simp only [List.getElem?_toArray, List.getElem?_cons_zero, List.getElem?_cons_succ]; rfl) (by kernel_rfl) (by kernel_rfl) (by kernel_rfl) (by exact fun _ _ _ h => h) (Or.inl ⟨by rfl, ?_⟩) (by assumption) ?_
                          rotate_left
                          · (intro w hSw; (try dsimp only at hSw); obtain ⟨q0, q1, q2, q3⟩ := (HXL.out.2.1.below hSw).four; obtain ⟨r0, r1, r2, r3⟩ := (HXL.out.2.2.below hSw).four; clear hSw; go_simp; first | done | with_reducible rfl)
                          try simp only [Act.put, List.setIfInBounds_toArray, List.set_cons_zero, List.set_cons_succ]
                          refine wpAnyH_take (i := 18) (oi := ?_) (v := ?_) (by simp only [List.getElem?_toArray, List.getElem?_cons_zero, List.getElem?_cons_succ]; rfl) (by kernel_rfl) (by kernel_rfl) (by kernel_rfl) (by exact fun _ _ _ h => h) (Or.inl ⟨by rfl, ?_⟩) (by assumption) ?_
                          rotate_left
                          · (intro w hSw; (try dsimp only at hSw); obtain ⟨q0, q1, q2, q3⟩ := (HXL.out.2.1.below hSw).four; obtain ⟨r0, r1, r2, r3⟩ := (HXL.out.2.2.below hSw).four; clear hSw; go_simp; first | done | with_reducible rfl)
                          try simp only [Act.put, List.setIfInBounds_toArray, List.set_cons_zero, List.set_cons_succ]
                          refine wpAnyH_take (i := 19) (oi := ?_) (v := ?_) (by simp only [List.getElem?_toArray, List.getElem?_cons_zero, List.getElem?_cons_succ]; rfl) (by kernel_rfl) (by kernel_rfl) (by kernel_rfl) (by exact fun _ _ _ h => h) (Or.inl ⟨by rfl, ?_⟩) (by assumption) ?_
                          rotate_left
                          · (intro w hSw; (try dsimp only at hSw); obtain ⟨q0, q1, q2, q3⟩ := (HXL.out.2.1.below hSw).four; obtain ⟨r0, r1, r2, r3⟩ := (HXL.out.2.2.below hSw).four; clear hSw; go_simp; first | done | with_reducible rfl)
                          try simp only [Act.put, List.setIfInBounds_toArray, List.set_cons_zero, List.set_cons_succ]
                          refine wpAnyH_ready (rs := [20]) (by kernel_rfl) (by simp) ?_
                          refine AllReadyH.cons (o := ?_) (by simp only [List.getElem?_toArray, List.getElem?_cons_zero, List.getElem?_cons_succ]; rfl) (fun K hK => ?_) ?_
                          · go_simp
                            refine (awake3_any _).mono ?_
                            rintro e w20 ⟨rfl, hb⟩
                            have hS2 := hHeld.trans (hb.mono hHeld.size)
                            clear hb
                            dsimp only
                            refine hK.out _ _ ?_ (fun hHeld2 => ?_)
                            · exact hS2
                            clear hK K hHeld
                            have hHeld := hHeld2
                            clear hHeld2
                            try simp only [Act.put, List.setIfInBounds_toArray, List.set_cons_zero, List.set_cons_succ]
                            refine wpAnyH_take (i := 21) (oi := ?_) (v := ?_) (by simp only [List.getElem?_toArray, List.getElem?_cons_zero, List.getElem?_cons_succ]; rfl) (by kernel_rfl) (by kernel_rfl) (by kernel_rfl) (by exact fun _ _ _ h => h) (Or.inl ⟨by rfl, ?_⟩) (by assumption) ?_
                            rotate_left
                            · (intro w hSw; (try dsimp only at hSw); obtain ⟨q0, q1, q2, q3⟩ := (HXL.out.2.1.below hSw).four; obtain ⟨r0, r1, r2, r3⟩ := (HXL.out.2.2.below hSw).four; clear hSw; go_simp; first | done | with_reducible rfl)
                            try simp only [Act.put, List.setIfInBounds_toArray, List.set_cons_zero, List.set_cons_succ]
                            refine wpAnyH_take (i := 22) (oi := ?_) (v := ?_) (by simp only [List.getElem?_toArray, List.getElem?_cons_zero, List.getElem?_cons_succ]; rfl) (by kernel_rfl) (by kernel_rfl) (by kernel_rfl) (by exact fun _ _ _ h => h) (Or.inl ⟨by rfl, ?_⟩) (by assumption) ?_
                            rotate_left
                            · (intro w hSw; (try dsimp only at hSw); obtain ⟨q0, q1, q2, q3⟩ := (HXL.out.2.1.below hSw).four; obtain ⟨r0, r1, r2, r3⟩ := (HXL.out.2.2.below hSw).four; clear hSw; go_simp; first | done | with_reducible rfl)
                            try simp only [Act.put, List.setIfInBounds_toArray, List.set_cons_zero, List.set_cons_succ]
                            refine wpAnyH_done (by kernel_rfl) ?_ _
                            have HH18 := As.mk (HXW.out.trans (hHeld.mono HXW.out.size))
                            clear hHeld
                            go_wp2
                            go_ret
                            exact ⟨rfl, HH18.out⟩
                          exact AllReadyH.nil
                        exact AllReadyH.nil
                      exact AllReadyH.nil
                    refine AllReadyH.cons (o := ?_) (by simp only [List.getElem?_toArray, List.getElem?_cons_zero, List.getElem?_cons_succ]; rfl) (fun K hK => ?_) ?_
                    · go_simp
                      refine (base_any _ T _ (HXL.out.2.2.below hHeld).tx).mono ?_
                      rintro e w9 ⟨r9, rfl, ho, hb⟩
                      rw [← HBB.out] at ho
                      obtain ⟨A9, c9, rfl⟩ := RdB.formN ho.rd rfl
                      have hS2 := hHeld.trans (hb.mono hHeld.size)
                      have HRb := As.mk ho.rd
                      have HRa2 := As.mk (HRa.out.below hb)
                      clear HRa
                      have HRa := HRa2
                      clear HRa2
                      clear ho hb
                      dsimp only
                      refine hK.out _ _ ?_ (fun hHeld2 => ?_)
                      · exact hS2
                      clear hK K hHeld
                      have hHeld := hHeld2
                      clear hHeld2
                      try simp only [Act.put, List.setIfInBounds_toArray, List.set_cons_zero, List.set_cons_succ]
                      refine wpAnyH_ready (rs := [10, 13]) (by kernel_rfl) (by simp) ?_
                      refine AllReadyH.cons (o := ?_) (by simp only [List.getElem?_toArray, List.getElem?_cons_zero, List.getElem?_cons_succ]; rfl) (fun K hK => ?_) ?_
                      · have kv := run_str (P := Try.prog) 24 9 5 Try.underlying24 Try.underlying5 Try.underlying9 HRa.out
                        have hS2 := hHeld
                        go_simp
                        clear kv
                        refine hK.out _ _ ?_ (fun hHeld2 => ?_)
                        · exact hS2
                        clear hK K hHeld
                        have hHeld := hHeld2
                        clear hHeld2
                        try simp only [Act.put, List.setIfInBounds_toArray, List.set_cons_zero, List.set_cons_succ]
                        refine wpAnyH_ready (rs := [13]) (by kernel_rfl) (by simp) ?_
                        refine AllReadyH.cons (o := ?_) (by simp only [List.getElem?_toArray, List.getElem?_cons_zero, List.getElem?_cons_succ]; rfl) (fun K hK => ?_) ?_
                        · have kv := run_str (P := Try.prog) 24 9 5 Try.underlying24 Try.underlying5 Try.underlying9 HRb.out
                          have hS2 := hHeld
                          go_simp
                          clear kv
                          refine hK.out _ _ ?_ (fun hHeld2 => ?_)
                          · exact hS2
                          clear hK K hHeld
                          have hHeld := hHeld2
                          clear hHeld2
                          try simp only [Act.put, List.setIfInBounds_toArray, List.set_cons_zero, List.set_cons_succ]
                          refine wpAnyH_take (i := 14) (oi := ?_) (v := ?_) (by simp only [List.getElem?_toArray, List.getElem?_cons_zero, List.getElem?_cons_succ]; rfl) (by kernel_rfl) (by kernel_rfl) (by kernel_rfl) (by exact fun _ _ _ h => h) (Or.inl ⟨by rfl, ?_⟩) (by assumption) ?_
                          rotate_left
                          · (intro w hSw; (try dsimp only at hSw); obtain ⟨q0, q1, q2, q3⟩ := (HXL.out.2.1.below hSw).four; obtain ⟨r0, r1, r2, r3⟩ := (HXL.out.2.2.below hSw).four; clear hSw; go_simp; first | done | with_reducible rfl)
                          try simp only [Act.put, List.setIfInBounds_toArray, List.set_cons_zero, List.set_cons_succ]
                          refine wpAnyH_take (i := 17) (oi := ?_) (v := ?_) (by simp only [List.getElem?_toArray, List.getElem?_cons_zero, List.getElem?_cons_succ]; rfl) (by kernel_rfl) (by kernel_rfl) (by kernel_rfl) (by exact fun _ _ _ h => h) (Or.inl ⟨by rfl, ?_⟩) (by assumption) ?_
                          rotate_left
                          · (intro w hSw; (try dsimp only at hSw); obtain ⟨q0, q1, q2, q3⟩ := (HXL.out.2.1.below hSw).four; obtain ⟨r0, r1, r2, r3⟩ := (HXL.out.2.2.below hSw).four; clear hSw; go_simp; first | done | with_reducible rfl)
                          try simp only [Act.put, List.setIfInBounds_toArray, List.set_cons_zero, List.set_cons_succ]
                          refine wpAnyH_take (i := 18) (oi := ?_) (v := ?_) (by simp only [List.getElem?_toArray, List.getElem?_cons_zero, List.getElem?_cons_succ]; rfl) (by kernel_rfl) (by kernel_rfl) (by kernel_rfl) (by exact fun _ _ _ h => h) (Or.inl ⟨by rfl, ?_⟩) (by assumption) ?_
                          rotate_left
                          · (intro w hSw; (try dsimp only at hSw); obtain ⟨q0, q1, q2, q3⟩ := (HXL.out.2.1.below hSw).four; obtain ⟨r0, r1, r2, r3⟩ := (HXL.out.2.2.below hSw).four; clear hSw; go_simp; first | done | with_reducible rfl)
                          try simp only [Act.put, List.setIfInBounds_toArray, List.set_cons_zero, List.set_cons_succ]
                          refine wpAnyH_take (i := 19) (oi := ?_) (v := ?_) (by simp only [List.getElem?_toArray, List.getElem?_cons_zero, List.getElem?_cons_succ]; rfl) (by kernel_rfl) (by kernel_rfl) (by kernel_rfl) (by exact fun _ _ _ h => h) (Or.inl ⟨by rfl, ?_⟩) (by assumption) ?_
                          rotate_left
                          · (intro w hSw; (try dsimp only at hSw); obtain ⟨q0, q1, q2, q3⟩ := (HXL.out.2.1.below hSw).four; obtain ⟨r0, r1, r2, r3⟩ := (HXL.out.2.2.below hSw).four; clear hSw; go_simp; first | done | with_reducible rfl)
                          try simp only [Act.put, List.setIfInBounds_toArray, List.set_cons_zero, List.set_cons_succ]
                          refine wpAnyH_ready (rs := [20]) (by kernel_rfl) (by simp) ?_
                          refine AllReadyH.cons (o := ?_) (by simp only [List.getElem?_toArray, List.getElem?_cons_zero, List.getElem?_cons_succ]; rfl) (fun K hK => ?_) ?_
                          · go_simp
                            refine (awake3_any _).mono ?_
                            rintro e w20 ⟨rfl, hb⟩
                            have hS2 := hHeld.trans (hb.mono hHeld.size)
                            clear hb
                            dsimp only
                            refine hK.out _ _ ?_ (fun hHeld2 => ?_)
                            · exact hS2
                            clear hK K hHeld
                            have hHeld := hHeld2
                            clear hHeld2
                            try simp only [Act.put, List.setIfInBounds_toArray, List.set_cons_zero, List.set_cons_succ]
                            refine wpAnyH_take (i := 21) (oi := ?_) (v := ?_) (by simp only [List.getElem?_toArray, List.getElem?_cons_zero, List.getElem?_cons_succ]; rfl) (by kernel_rfl) (by kernel_rfl) (by kernel_rfl) (by exact fun _ _ _ h => h) (Or.inl ⟨by rfl, ?_⟩) (by assumption) ?_
                            rotate_left
                            · (intro w hSw; (try dsimp only at hSw); obtain ⟨q0, q1, q2, q3⟩ := (HXL.out.2.1.below hSw).four; obtain ⟨r0, r1, r2, r3⟩ := (HXL.out.2.2.below hSw).four; clear hSw; go_simp; first | done | with_reducible rfl)
                            try simp only [Act.put, List.setIfInBounds_toArray, List.set_cons_zero, List.set_cons_succ]
                            refine wpAnyH_take (i := 22) (oi := ?_) (v := ?_) (by simp only [List.getElem?_toArray, List.getElem?_cons_zero, List.getElem?_cons_succ]; rfl) (by kernel_rfl) (by kernel_rfl) (by kernel_rfl) (by exact fun _ _ _ h => h) (Or.inl ⟨by rfl, ?_⟩) (by assumption) ?_
                            rotate_left
                            · (intro w hSw; (try dsimp only at hSw); obtain ⟨q0, q1, q2, q3⟩ := (HXL.out.2.1.below hSw).four; obtain ⟨r0, r1, r2, r3⟩ := (HXL.out.2.2.below hSw).four; clear hSw; go_simp; first | done | with_reducible rfl)
                            try simp only [Act.put, List.setIfInBounds_toArray, List.set_cons_zero, List.set_cons_succ]
                            refine wpAnyH_done (by kernel_rfl) ?_ _
                            have HH18 := As.mk (HXW.out.trans (hHeld.mono HXW.out.size))
                            clear hHeld
                            go_wp2
                            go_ret
                            exact ⟨rfl, HH18.out⟩
                          exact AllReadyH.nil
                        exact AllReadyH.nil
                      refine AllReadyH.cons (o := ?_) (by simp only [List.getElem?_toArray, List.getElem?_cons_zero, List.getElem?_cons_succ]; rfl) (fun K hK => ?_) ?_
                      · have kv := run_str (P := Try.prog) 24 9 5 Try.underlying24 Try.underlying5 Try.underlying9 HRb.out
                        have hS2 := hHeld
                        go_simp
                        clear kv
                        refine hK.out _ _ ?_ (fun hHeld2 => ?_)
                        · exact hS2
                        clear hK K hHeld
                        have hHeld := hHeld2
                        clear hHeld2
                        try simp only [Act.put, List.setIfInBounds_toArray, List.set_cons_zero, List.set_cons_succ]
                        refine wpAnyH_ready (rs := [10]) (by kernel_rfl) (by simp) ?_
                        refine AllReadyH.cons (o := ?_) (by simp only [List.getElem?_toArray, List.getElem?_cons_zero, List.getElem?_cons_succ]; rfl) (fun K hK => ?_) ?_
                        · have kv := run_str (P := Try.prog) 24 9 5 Try.underlying24 Try.underlying5 Try.underlying9 HRa.out
                          have hS2 := hHeld
                          go_simp
                          clear kv
                          refine hK.out _ _ ?_ (fun hHeld2 => ?_)
                          · exact hS2
                          clear hK K hHeld
                          have hHeld := hHeld2
                          clear hHeld2
                          try simp only [Act.put, List.setIfInBounds_toArray, List.set_cons_zero, List.set_cons_succ]
                          refine wpAnyH_take (i := 14) (oi := ?_) (v := ?_) (by simp only [List.getElem?_toArray, List.getElem?_cons_zero, List.getElem?_cons_succ]; rfl) (by kernel_rfl) (by kernel_rfl) (by kernel_rfl) (by exact fun _ _ _ h => h) (Or.inl ⟨by rfl, ?_⟩) (by assumption) ?_
                          rotate_left
                          · (intro w hSw; (try dsimp only at hSw); obtain ⟨q0, q1, q2, q3⟩ := (HXL.out.2.1.below hSw).four; obtain ⟨r0, r1, r2, r3⟩ := (HXL.out.2.2.below hSw).four; clear hSw; go_simp; first | done | with_reducible rfl)
                          try simp only [Act.put, List.setIfInBounds_toArray, List.set_cons_zero, List.set_cons_succ]
                          refine wpAnyH_take (i := 17) (oi := ?_) (v := ?_) (by simp only [List.getElem?_toArray, List.getElem?_cons_zero, List.getElem?_cons_succ]; rfl) (by kernel_rfl) (by kernel_rfl) (by kernel_rfl) (by exact fun _ _ _ h => h) (Or.inl ⟨by rfl, ?_⟩) (by assumption) ?_
                          rotate_left
                          · (intro w hSw; (try dsimp only at hSw); obtain ⟨q0, q1, q2, q3⟩ := (HXL.out.2.1.below hSw).four; obtain ⟨r0, r1, r2, r3⟩ := (HXL.out.2.2.below hSw).four; clear hSw; go_simp; first | done | with_reducible rfl)
                          try simp only [Act.put, List.setIfInBounds_toArray, List.set_cons_zero, List.set_cons_succ]
                          refine wpAnyH_take (i := 18) (oi := ?_) (v := ?_) (by simp only [List.getElem?_toArray, List.getElem?_cons_zero, List.getElem?_cons_succ]; rfl) (by kernel_rfl) (by kernel_rfl) (by kernel_rfl) (by exact fun _ _ _ h => h) (Or.inl ⟨by rfl, ?_⟩) (by assumption) ?_
                          rotate_left
                          · (intro w hSw; (try dsimp only at hSw); obtain ⟨q0, q1, q2, q3⟩ := (HXL.out.2.1.below hSw).four; obtain ⟨r0, r1, r2, r3⟩ := (HXL.out.2.2.below hSw).four; clear hSw; go_simp; first | done | with_reducible rfl)
                          try simp only [Act.put, List.setIfInBounds_toArray, List.set_cons_zero, List.set_cons_succ]
                          refine wpAnyH_take (i := 19) (oi := ?_) (v := ?_) (by simp only [List.getElem?_toArray, List.getElem?_cons_zero, List.getElem?_cons_succ]; rfl) (by kernel_rfl) (by kernel_rfl) (by kernel_rfl) (by exact fun _ _ _ h => h) (Or.inl ⟨by rfl, ?_⟩) (by assumption) ?_
                          rotate_left
                          · (intro w hSw; (try dsimp only at hSw); obtain ⟨q0, q1, q2, q3⟩ := (HXL.out.2.1.below hSw).four; obtain ⟨r0, r1, r2, r3⟩ := (HXL.out.2.2.below hSw).four; clear hSw; go_simp; first | done | with_reducible rfl)
                          try simp only [Act.put, List.setIfInBounds_toArray, List.set_cons_zero, List.set_cons_succ]
                          refine wpAnyH_ready (rs := [20]) (by kernel_rfl) (by simp) ?_
                          refine AllReadyH.cons (o := ?_) (by simp only [List.getElem?_toArray, List.getElem?_cons_zero, List.getElem?_cons_succ]; rfl) (fun K hK => ?_) ?_
                          · go_simp
                            refine (awake3_any _).mono ?_
                            rintro e w20 ⟨rfl, hb⟩
                            have hS2 := hHeld.trans (hb.mono hHeld.size)
                            clear hb
                            dsimp only
                            refine hK.out _ _ ?_ (fun hHeld2 => ?_)
                            · exact hS2
                            clear hK K hHeld
                            have hHeld := hHeld2
                            clear hHeld2
                            try simp only [Act.put, List.setIfInBounds_toArray, List.set_cons_zero, List.set_cons_succ]
                            refine wpAnyH_take (i := 21) (oi := ?_) (v := ?_) (by simp only [List.getElem?_toArray, List.getElem?_cons_zero, List.getElem?_cons_succ]; rfl) (by kernel_rfl) (by kernel_rfl) (by kernel_rfl) (by exact fun _ _ _ h => h) (Or.inl ⟨by rfl, ?_⟩) (by assumption) ?_
                            rotate_left
                            · (intro w hSw; (try dsimp only at hSw); obtain ⟨q0, q1, q2, q3⟩ := (HXL.out.2.1.below hSw).four; obtain ⟨r0, r1, r2, r3⟩ := (HXL.out.2.2.below hSw).four; clear hSw; go_simp; first | done | with_reducible rfl)
                            try simp only [Act.put, List.setIfInBounds_toArray, List.set_cons_zero, List.set_cons_succ]
                            refine wpAnyH_take (i := 22) (oi := ?_) (v := ?_) (by simp only [List.getElem?_toArray, List.getElem?_cons_zero, List.getElem?_cons_succ]; rfl) (by kernel_rfl) (by kernel_rfl) (by kernel_rfl) (by exact fun _ _ _ h => h) (Or.inl ⟨by rfl, ?_⟩) (by assumption) ?_
                            rotate_left
                            · (intro w hSw; (try dsimp only at hSw); obtain ⟨q0, q1, q2, q3⟩ := (HXL.out.2.1.below hSw).four; obtain ⟨r0, r1, r2, r3⟩ := (HXL.out.2.2.below hSw).four; clear hSw; go_simp; first | done | with_reducible rfl)
                            try simp only [Act.put, List.setIfInBounds_toArray, List.set_cons_zero, List.set_cons_succ]
                            refine wpAnyH_done (by kernel_rfl) ?_ _
                            have HH18 := As.mk (HXW.out.trans (hHeld.mono HXW.out.size))
                            clear hHeld
                            go_wp2
                            go_ret
                            exact ⟨rfl, HH18.out⟩
                          exact AllReadyH.nil
                        exact AllReadyH.nil
                      exact AllReadyH.nil
                    exact AllReadyH.nil
                  exact AllReadyH.nil
                exact AllReadyH.nil
              exact AllReadyH.nil
            exact AllReadyH.nil
          exact AllReadyH.nil
theorem txnsBack_row (n : Int) (wn : (Lit.int .i64 n).wf = true) (m : Int) (wm : (Lit.int .i64 m).wf = true) (k : Int) (wk : (Lit.int .i64 k).wf = true) (l : Int) (wl : (Lit.int .i64 l).wf = true) (w : World) : Calls Try.prog 14 #[.int .i64 n, .int .i64 m, .int .i64 k, .int .i64 l] w fun e w' => e = .returned (.bool true) ∧ Below w.heap.size w w' := txnsBack_any n m k l w
end Go.Proofs.Ytfggkljgfadacaa.W
