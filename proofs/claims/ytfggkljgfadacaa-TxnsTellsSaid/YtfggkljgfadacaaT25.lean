/- Tx: it may be; bytes tell transactions apart. -/
import Derived.Test.YtfggkljgfadacaaT23
import Derived.Test.YtfggkljgfadacaaT24
set_option linter.unusedVariables false
set_option linter.unusedSimpArgs false
namespace Go.Proofs.Ytfggkljgfadacaa.W
open Go.RowKit Go.Proofs.Ytfggkljgfadacaa.B Go.Proofs

theorem scriptB_length (n : Int) : (scriptB n).length ≤ 34 := by
  unfold scriptB
  repeat' split
  all_goals simp
  omega
theorem txOf_may (n m : Int) : mayT (txOf n m) := by
  refine ⟨fun x hx => ?_, fun y hy => ?_, ?_, ?_, ?_, ?_⟩
  · obtain ⟨i, _, rfl⟩ := List.mem_map.1 hx
    refine ⟨?_, ?_, fun b hb => ?_⟩
    · show (if m / 262144 % 4 = 0 then [u8i (m / 16)] else []).length ≤ 500
      split <;> simp
    · show (if m / 2 ^ (12 + i) % 4 = 0 then [[u8i m], []].take (m / 65536 % 2 + 1).toNat else [] : List (List UInt8)).length ≤ 10
      split
      · rw [List.length_take]; simp; omega
      · simp
    · have hb' : b ∈ (if m / 2 ^ (12 + i) % 4 = 0 then [[u8i m], []].take (m / 65536 % 2 + 1).toNat else [] : List (List UInt8)) := hb
      split at hb'
      · have := List.mem_of_mem_take hb'
        simp at this
        rcases this with rfl | rfl <;> simp
      · cases hb'
  · obtain ⟨i, _, rfl⟩ := List.mem_map.1 hy
    have := scriptB_length (m / 2 ^ i)
    show (scriptB (m / 2 ^ i)).length ≤ 500
    omega
  · show 1 ≤ ((List.range (n / 256 % 4 + 1).toNat).map (inOf m)).length
    rw [List.length_map, List.length_range]; omega
  · show ((List.range (n / 256 % 4 + 1).toNat).map (inOf m)).length ≤ 50
    rw [List.length_map, List.length_range]; omega
  · show 1 ≤ ((List.range (n / 1024 % 4 + 1).toNat).map (outOf n m)).length
    rw [List.length_map, List.length_range]; omega
  · show ((List.range (n / 1024 % 4 + 1).toNat).map (outOf n m)).length ≤ 50
    rw [List.length_map, List.length_range]; omega
theorem bytesT_may {t : LTx} (h : mayT t) : bytesT t = bytesB t := by unfold bytesT; rw [if_pos h]
theorem bytes_inj {t u : LTx} (ht : mayT t) (hu : mayT u) (ft : fitT t) (fu : fitT u) (h : bytesB t = bytesB u) : t = u := by
  have h1 := rParse_bytes t ht ft
  rw [h, rParse_bytes u hu fu] at h1
  exact (congrArg Prod.fst h1).symm
theorem not_may_no : ¬ mayT noTx := fun h => by have := h.2.2.1; simp [noTx] at this
theorem may_ne_no {t : LTx} (h : mayT t) : t ≠ noTx := fun e => not_may_no (e ▸ h)
theorem no_txC (w : World) : TxC w [.int .u32 0, .slice none 0 0, .slice none 0 0, .int .u32 0] noTx := (OwTx.no w 0).rd
theorem bytesB_length (t : LTx) (h : mayT t) (hp : fitT t) : (bytesB t).length ≤ 400000 := by
  have h1 := bodyB_length t h (fun x hx => (hp.2.2.1 x hx).1)
  have h2 := flat_le witB 5055 t.ins (fun x hx => witB_length x (h.1 x hx))
  have h5 := h.2.2
  unfold bytesB baseB
  split <;> simp only [List.length_append, le_length, List.length_cons, List.length_nil] <;> omega
theorem parse_to (v : Value) (l : List UInt8) (w : World) {t : LTx} {ok : Bool} (hq : rParse l = (t, ok)) (hr : RdB w v l) (hl : l.length ≤ 140737488355328) :
    Calls Try.prog 47 #[v] w fun e w' => ∃ cs, e = .returned (.tuple #[.agg cs.toArray, .bool ok]) ∧ OwTx w' w.heap.size cs t ∧ Below w.heap.size w w' := by
  have := parse_any v l w hr hl
  rw [hq] at this
  exact this
/-- append(v, y...) of bytes. -/
theorem wpList_appB {w : World} {ops : Array Oper} {rest : List Oper} {o : Oper} {a : Act} {Q : Exit → Act → World → Prop} (hgd : o.guard = none) (s x : Operand) (ho : o.op = .call { callee := .builtin .append, args := #[s, x], argTypes := #[24, 24] }) (hty : o.type = 24)
    (base : Nat) (v : Value) (L : List UInt8) (hs : a.eval s = v) (hown : OwB w base 5 v L) (y : Value) (M : List UInt8) (hx : a.eval x = y) (hy : RdB w y M) (hlen : L.length + M.length ≤ 140737488355328) (hbase : base ≤ w.heap.size)
    (h : ∀ v' w', OwB w' base 5 v' (L ++ M) → w.grownBy w' v.ownBlock → wpList Try.prog ops Q rest (a.put o.dst v') w') : wpList Try.prog ops Q (o :: rest) a w := by
  obtain ⟨v', w', hr, h2, h3⟩ := run_appB w base v L hown y M hy hlen hbase
  refine wpList_plain hgd fun K hK => ?_
  unfold Oper.wp execOp
  simp only [ho, resolve, invoke, builtin, Sem.run_bind, Sem.run_pure, Result.andThen_ok, List.map_toArray, List.map_cons, List.map_nil, hs, hx, hty, hr]
  exact hK _ _ (h v' w' h2 h3)
/-- A transaction in a box of its own. -/
def BxT (W : World) (A : Nat) (cs : List Value) (t : LTx) : Prop := Box W A cs.toArray 51 ∧ TxC W cs t
theorem BxT.below {W W' : World} {A : Nat} {cs : List Value} {t : LTx} (h : BxT W A cs t) (hb : Below W.heap.size W W') : BxT W' A cs t := ⟨h.1.below hb, h.2.below hb⟩
theorem BxT.tx {W : World} {A : Nat} {cs : List Value} {t : LTx} (h : BxT W A cs t) : TxC W cs t := h.2
theorem BxT.new {W : World} {cs : List Value} {t : LTx} (h : TxC W cs t) : BxT (W.alloc (.cells cs.toArray 51)) W.heap.size cs t := ⟨Box.new _ _ _, h.below (below_al _ _)⟩
theorem BxT.four {W : World} {A : Nat} {v0 v1 v2 v3 : Value} {t : LTx} (h : BxT W A [v0, v1, v2, v3] t) : W.cell? ⟨A, 0, none⟩ = some v0 ∧ W.cell? ⟨A, 1, none⟩ = some v1 ∧ W.cell? ⟨A, 2, none⟩ = some v2 ∧ W.cell? ⟨A, 3, none⟩ = some v3 :=
  ⟨h.1.cell 0 _ rfl, h.1.cell 1 _ rfl, h.1.cell 2 _ rfl, h.1.cell 3 _ rfl⟩
set_option maxHeartbeats 4000000 in
set_option maxRecDepth 100000 in
theorem awake3_any (w : World) : Calls Try.prog 50 #[] w fun e w' => e = .returned (.bool true) ∧ Below w.heap.size w w' := by
  obtain ⟨T, hT⟩ : ∃ T, T = txOf 5 9 := ⟨_, rfl⟩
  have HT := As.mk hT
  have HM : As (mayT T) := ⟨by rw [hT]; exact txOf_may 5 9⟩
  clear hT
  go_enter Try.func50, Try.ntmps50
  go_upto_region 2 with (go_at_call 51; (with_reducible refine (tx_any 5 9 _).mono ?_); rintro e w1 ⟨cs, rfl, ht, hb⟩; have HX1 : As (OwTx w1 w.heap.size cs T) := ⟨by rw [HT.out]; exact ht.own⟩; obtain ⟨AI, cI, AO, cO, rfl⟩ := OwTx.form HX1.out; have HB1 := As.mk hb; clear ht hb)
  have HS1 : As (Below w.heap.size w (w1.alloc (.cells #[.int .u32 (T.ver : Int), .slice AI T.ins.length cI, .slice AO T.outs.length cO, .int .u32 (T.lock : Int)] 51)) ∧ BxT (w1.alloc (.cells #[.int .u32 (T.ver : Int), .slice AI T.ins.length cI, .slice AO T.outs.length cO, .int .u32 (T.lock : Int)] 51)) w1.heap.size [.int .u32 (T.ver : Int), .slice AI T.ins.length cI, .slice AO T.outs.length cO, .int .u32 (T.lock : Int)] T) := ⟨HB1.out.alloc HB1.out.size _, BxT.new HX1.out.rd⟩
  have HF : As (fitT T) := ⟨HX1.out.rd.fit⟩
  have HP1 : As (rParse (bytesT T) = (T, true)) := ⟨by rw [bytesT_may HM.out]; exact rParse_bytes T HM.out HF.out⟩
  have HP2 : As (rParse (bytesT T ++ [0]) = (noTx, false)) := ⟨by rw [bytesT_may HM.out]; exact rParse_more T 0 [] HM.out HF.out⟩
  have HLN : As ((bytesT T).length ≤ 400000) := ⟨by rw [bytesT_may HM.out]; exact bytesB_length T HM.out HF.out⟩
  obtain ⟨bt, hbt⟩ : ∃ b, b = bytesT T := ⟨_, rfl⟩
  have HBT := As.mk hbt
  rw [← hbt] at HP1 HP2 HLN
  clear hbt
  obtain ⟨A, hA⟩ : ∃ A, A = w1.heap.size := ⟨_, rfl⟩
  rw [← hA] at HS1 ⊢
  clear hA HX1 HB1
  generalize w1.alloc (.cells #[.int .u32 (T.ver : Int), .slice AI T.ins.length cI, .slice AO T.outs.length cO, .int .u32 (T.lock : Int)] 51) = W1 at HS1 ⊢
  obtain ⟨q0, q1, q2, q3⟩ := HS1.out.2.four
  go_upto_region 4 with (first | (go_at_call 46; (with_reducible refine (bytes_any _ T _ HS1.out.2.tx).mono ?_); rintro e w2 ⟨r2, rfl, ho, hb⟩; rw [← HBT.out] at ho; obtain ⟨A2, c2, rfl⟩ := RdB.formN ho.rd rfl; have HR2 := As.mk ho.rd; have HS2 := As.mk (And.intro (HS1.out.1.trans (hb.mono HS1.out.1.size)) (HS1.out.2.below hb)); clear ho hb q0 q1 q2 q3) | (go_at_call 47; (with_reducible refine (parse_to _ _ _ HP1.out HR2.out (by have := HLN.out; omega)).mono ?_); rintro e w3 ⟨cs3, rfl, ht, hb⟩; obtain ⟨BI, dI, BO, dO, rfl⟩ := OwTx.form ht; have HU3 := As.mk ht.rd; have HR3 := As.mk (HR2.out.below hb); have HS3 := As.mk (And.intro (HS2.out.1.trans (hb.mono HS2.out.1.size)) (HS2.out.2.below hb)); clear ht hb))
  have HS4 : As (Below w.heap.size w (w3.alloc (.cells #[.int .u32 (T.ver : Int), .slice BI T.ins.length dI, .slice BO T.outs.length dO, .int .u32 (T.lock : Int)] 51)) ∧ BxT (w3.alloc (.cells #[.int .u32 (T.ver : Int), .slice BI T.ins.length dI, .slice BO T.outs.length dO, .int .u32 (T.lock : Int)] 51)) A [.int .u32 (T.ver : Int), .slice AI T.ins.length cI, .slice AO T.outs.length cO, .int .u32 (T.lock : Int)] T ∧ BxT (w3.alloc (.cells #[.int .u32 (T.ver : Int), .slice BI T.ins.length dI, .slice BO T.outs.length dO, .int .u32 (T.lock : Int)] 51)) w3.heap.size [.int .u32 (T.ver : Int), .slice BI T.ins.length dI, .slice BO T.outs.length dO, .int .u32 (T.lock : Int)] T ∧ RdB (w3.alloc (.cells #[.int .u32 (T.ver : Int), .slice BI T.ins.length dI, .slice BO T.outs.length dO, .int .u32 (T.lock : Int)] 51)) (.slice A2 bt.length c2) bt) := ⟨HS3.out.1.alloc HS3.out.1.size _, HS3.out.2.below (below_al _ _), BxT.new HU3.out, HR3.out.below (below_al _ _)⟩
  obtain ⟨U, hU⟩ : ∃ A, A = w3.heap.size := ⟨_, rfl⟩
  rw [← hU] at HS4 ⊢
  clear hU HS3 HS2 HU3 HR3 HR2 HS1
  generalize w3.alloc (.cells #[.int .u32 (T.ver : Int), .slice BI T.ins.length dI, .slice BO T.outs.length dO, .int .u32 (T.lock : Int)] 51) = W4 at HS4 ⊢
  have HE4 : As (OwB (W4.alloc (.cells #[] 5)) W4.heap.size 5 (.slice (some ⟨W4.heap.size, 0, none⟩) 0 0) []) := ⟨OwB.empty W4 W4.heap.size 5 (Nat.le_refl _)⟩
  have HR4 : As (RdB (W4.alloc (.cells #[] 5)) (.slice A2 bt.length c2) bt) := ⟨HS4.out.2.2.2.below (below_al _ _)⟩
  go_upto_region 5 with (first | (at_builtin; refine wpList_appB rfl (.tmp 16) (.tmp 17) rfl rfl W4.heap.size (.slice (some ⟨W4.heap.size, 0, none⟩) 0 0) [] rfl HE4.out (.slice A2 bt.length c2) bt rfl HR4.out (by have := HLN.out; simp; omega) (by simp) ?_; intro v5 w5 ho hg; obtain ⟨A5, c5, rfl⟩ := RdB.formN ho.rd rfl; have HB5 := As.mk (OwB.below_of HE4.out hg (below_al W4 _) (Nat.le_refl _) (by simp)); have HO5 := As.mk (OwS.alloc ho (.cells #[.int .u8 0] 5)); have HN5 := As.mk (RdB.one w5 5 0 0 rfl); clear ho hg) | (at_builtin; refine wpList_appB rfl (.tmp 18) (.tmp 19) rfl rfl W4.heap.size (.slice A5 ([] ++ bt : List UInt8).length c5) ([] ++ bt) rfl HO5.out (.slice (some ⟨w5.heap.size, 0, none⟩) 1 1) [0] rfl HN5.out (by have := HLN.out; simp; omega) (by have := HB5.out.size; simp; omega) ?_; intro v6 w6 ho hg; have HB6 := As.mk (OwB.below_of HO5.out hg (HB5.out.alloc HB5.out.size (.cells #[.int .u8 0] 5)) (Nat.le_refl _) (by have := HB5.out.size; simp; omega)); have HR6 := As.mk (show RdB w6 v6 (bt ++ [0]) from ho.rd); clear ho hg) | (go_at_call 47; (with_reducible refine (parse_to _ _ _ HP2.out HR6.out (by have := HLN.out; simp; omega)).mono ?_); rintro e w7 ⟨cs7, rfl, ht, hb⟩; obtain ⟨CI, eI, CO, eO, rfl⟩ := OwTx.form ht; have HB7 := As.mk (HB6.out.trans (hb.mono HB6.out.size)); clear ht hb))
  have HS8 : As (Below w.heap.size w (w7.alloc (.cells #[.int .u32 (noTx.ver : Int), .slice CI noTx.ins.length eI, .slice CO noTx.outs.length eO, .int .u32 (noTx.lock : Int)] 51)) ∧ BxT (w7.alloc (.cells #[.int .u32 (noTx.ver : Int), .slice CI noTx.ins.length eI, .slice CO noTx.outs.length eO, .int .u32 (noTx.lock : Int)] 51)) A [.int .u32 (T.ver : Int), .slice AI T.ins.length cI, .slice AO T.outs.length cO, .int .u32 (T.lock : Int)] T ∧ BxT (w7.alloc (.cells #[.int .u32 (noTx.ver : Int), .slice CI noTx.ins.length eI, .slice CO noTx.outs.length eO, .int .u32 (noTx.lock : Int)] 51)) U [.int .u32 (T.ver : Int), .slice BI T.ins.length dI, .slice BO T.outs.length dO, .int .u32 (T.lock : Int)] T) := by
    have hb := HB7.out.alloc HB7.out.size (.cells #[.int .u32 (noTx.ver : Int), .slice CI noTx.ins.length eI, .slice CO noTx.outs.length eO, .int .u32 (noTx.lock : Int)] 51)
    exact ⟨HS4.out.1.trans (hb.mono HS4.out.1.size), HS4.out.2.1.below hb, HS4.out.2.2.1.below hb⟩
  clear HS4 HB7 HB6 HB5 HO5 HN5 HR6 HE4 HR4
  generalize w7.alloc (.cells #[.int .u32 (noTx.ver : Int), .slice CI noTx.ins.length eI, .slice CO noTx.outs.length eO, .int .u32 (noTx.lock : Int)] 51) = W8 at HS8 ⊢
  obtain ⟨q0, q1, q2, q3⟩ := HS8.out.2.1.four
  obtain ⟨r0, r1, r2, r3⟩ := HS8.out.2.2.four
  have d2 : decide (mayT T) = true := decide_eq_true HM.out
  have d3 : decide (mayT noTx) = false := decide_eq_false not_may_no
  have d4 : decide (T = noTx) = false := decide_eq_false (may_ne_no HM.out)
  have d1 : decide (T = T) = true := decide_eq_true rfl
  go_wp2_with (first | (go_at_call 53; first | ((with_reducible refine (same_any _ _ T T _ HS8.out.2.1.tx HS8.out.2.2.tx).mono ?_); rintro e w9 ⟨rfl, hb⟩; have HS9 := As.mk (And.intro (HS8.out.1.trans (hb.mono HS8.out.1.size)) (HS8.out.2.1.below hb)); clear hb q0 q1 q2 q3 r0 r1 r2 r3; obtain ⟨q0, q1, q2, q3⟩ := HS9.out.2.four) | ((with_reducible refine (same_any _ _ T noTx _ HS12.out.2.tx (no_txC _)).mono ?_); rintro e w13 ⟨rfl, hb⟩; have HS13 := As.mk (HS12.out.1.trans (hb.mono HS12.out.1.size)); clear hb)) | (go_at_call 48; first | ((with_reducible refine (may_any _ T _ HS9.out.2.tx).mono ?_); rintro e w10 ⟨rfl, hb⟩; have HS10 := As.mk (And.intro (HS9.out.1.trans (hb.mono HS9.out.1.size)) (HS9.out.2.below hb)); clear hb q0 q1 q2 q3; obtain ⟨q0, q1, q2, q3⟩ := HS10.out.2.four) | ((with_reducible refine (may_any _ noTx _ (no_txC _)).mono ?_); rintro e w11 ⟨rfl, hb⟩; have HS11 := As.mk (And.intro (HS10.out.1.trans (hb.mono HS10.out.1.size)) (HS10.out.2.below hb)); clear hb q0 q1 q2 q3; obtain ⟨q0, q1, q2, q3⟩ := HS11.out.2.four)) | (go_at_call 49; (with_reducible refine (base_not _ noTx _ (no_txC _) not_may_no).mono ?_); rintro e w12 ⟨rfl, hb⟩; have HS12 := As.mk (And.intro (HS11.out.1.trans (hb.mono HS11.out.1.size)) (HS11.out.2.below hb)); clear hb q0 q1 q2 q3; obtain ⟨q0, q1, q2, q3⟩ := HS12.out.2.four))
  go_ret
  exact ⟨rfl, HS13.out⟩
end Go.Proofs.Ytfggkljgfadacaa.W
