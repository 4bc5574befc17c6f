/- The document's Read. -/
import Derived.Test.YtfggkljgfadacaaT38W
set_option linter.unusedVariables false
set_option linter.unusedSimpArgs false
namespace Go.Proofs.Ytfggkljgfadacaa.W
open Go.RowKit Go.Proofs.Ytfggkljgfadacaa.B Go.Proofs

set_option maxHeartbeats 8000000 in
set_option maxRecDepth 100000 in
theorem qtx_to (B : Nat) (l : List UInt8) (bad : Bool) (w : World) {t : LTx} {ok : Bool} {l' : List UInt8} {bad' : Bool} (hq : qTx (l, bad) = ((t, ok), (l', bad'))) (h : Rdr 46 w B l bad) (hl : l.length ≤ 140737488355328) :
    Calls Try.prog 59 #[.pointer (some ⟨B, 0, none⟩)] w fun e w' => ∃ cs, e = .returned (.tuple #[.agg cs.toArray, .bool ok]) ∧ OwTx w' w.heap.size cs t ∧ Rdr 46 w' B l' bad' ∧ w.grownBy w' (some B) := by
  obtain ⟨ver, l1, b1, hq1⟩ : ∃ m p q, qnum 4 l bad = (m, p, q) := ⟨_, _, _, rfl⟩
  obtain ⟨l2, b2, hq2⟩ : ∃ p q, qMark (l1, b1) = (p, q) := ⟨_, _, rfl⟩
  obtain ⟨n, l3, b3, hq3⟩ : ∃ m p q, qcount 50 l2 b2 = (m, p, q) := ⟨_, _, _, rfl⟩
  obtain ⟨xs, l4, b4, hq4⟩ : ∃ m p q, iterS qIn n (l3, b3) = (m, p, q) := ⟨_, _, _, rfl⟩
  obtain ⟨m, l5, b5, hq5⟩ : ∃ z p q, qcount 50 l4 b4 = (z, p, q) := ⟨_, _, _, rfl⟩
  obtain ⟨ys, l6, b6, hq6⟩ : ∃ z p q, iterS qOut m (l5, b5) = (z, p, q) := ⟨_, _, _, rfl⟩
  obtain ⟨mk, hmk⟩ : ∃ mk, qMore l1 = mk := ⟨_, rfl⟩
  obtain ⟨ws, l7, b7, hq7⟩ : ∃ z p q, qW mk n (l6, b6) = (z, p, q) := ⟨_, _, _, rfl⟩
  obtain ⟨lock, l8, b8, hq8⟩ : ∃ z p q, qnum 4 l7 b7 = (z, p, q) := ⟨_, _, _, rfl⟩
  obtain ⟨T, hT⟩ : ∃ T : LTx, T = ⟨ver, setTo xs ws, ys, lock⟩ := ⟨_, rfl⟩
  have HE : qRaw (l, bad) = ((T, mk), (l8, b8)) := by
    unfold qRaw
    subst hmk
    simp only [hq1, hq2, hq3, hq4, hq5, hq6, hq7, hq8, hT]
  have HF : As ((b8 = false ∧ mayT T ∧ bytesT T = l.take (l.length - l8.length) ∧ t = T ∧ ok = true ∧ l' = l8 ∧ bad' = b8) ∨ (¬ (b8 = false ∧ mayT T ∧ bytesT T = l.take (l.length - l8.length)) ∧ t = noTx ∧ ok = false ∧ l' = l8 ∧ bad' = true)) := ⟨by
    have h := hq
    unfold qTx at h
    simp only [HE] at h
    split at h <;> rename_i hc
    · simp only [Prod.mk.injEq] at h; exact .inl ⟨hc.1, hc.2.1, hc.2.2, h.1.1.symm, h.1.2.symm, h.2.1.symm, h.2.2.symm⟩
    · simp only [Prod.mk.injEq] at h; exact .inr ⟨hc, h.1.1.symm, h.1.2.symm, h.2.1.symm, h.2.2.symm⟩⟩
  have HL := As.mk hl
  have HL1 : As (l1.length ≤ 140737488355328) := ⟨by have := qnum_le_len 4 l bad; rw [hq1] at this; simp only at this; omega⟩
  have HL2 : As (l2.length ≤ 140737488355328) := ⟨by have := qMark_le (l1, b1); rw [hq2] at this; simp only at this; have := HL1.out; omega⟩
  have HL3 : As (l3.length ≤ 140737488355328) := ⟨by have := qcount_le_len 50 l2 b2; rw [hq3] at this; simp only at this; have := HL2.out; omega⟩
  have HL4 : As (l4.length ≤ 140737488355328) := ⟨by have := iterS_le qIn qIn_le n (l3, b3); rw [hq4] at this; simp only at this; have := HL3.out; omega⟩
  have HL5 : As (l5.length ≤ 140737488355328) := ⟨by have := qcount_le_len 50 l4 b4; rw [hq5] at this; simp only at this; have := HL4.out; omega⟩
  have HL6 : As (l6.length ≤ 140737488355328) := ⟨by have := iterS_le qOut qOut_le m (l5, b5); rw [hq6] at this; simp only at this; have := HL5.out; omega⟩
  have HL7 : As (l7.length ≤ 140737488355328) := ⟨by
    have h7 := HL6.out
    unfold qW at hq7
    split at hq7
    · have := iterS_le qWit qWit_le n (l6, b6); rw [hq7] at this; simp only at this; omega
    · simp only [Prod.mk.injEq] at hq7; rw [← hq7.2.1]; exact h7⟩
  have HL8 : As (l8.length ≤ 140737488355328 ∧ (l8.length : Int) ≤ l.length) := ⟨by
    have e8 := qnum_le_len 4 l7 b7; rw [hq8] at e8; simp only at e8
    have e1 := qnum_le_len 4 l bad; rw [hq1] at e1; simp only at e1
    have e2 := qMark_le (l1, b1); rw [hq2] at e2; simp only at e2
    have e3 := qcount_le_len 50 l2 b2; rw [hq3] at e3; simp only at e3
    have e4 := iterS_le qIn qIn_le n (l3, b3); rw [hq4] at e4; simp only at e4
    have e5 := qcount_le_len 50 l4 b4; rw [hq5] at e5; simp only at e5
    have e6 := iterS_le qOut qOut_le m (l5, b5); rw [hq6] at e6; simp only at e6
    have e7 : l7.length ≤ l6.length := by
      have h7 := hq7
      unfold qW at h7
      split at h7
      · have := iterS_le qWit qWit_le n (l6, b6); rw [h7] at this; exact this
      · simp only [Prod.mk.injEq] at h7; rw [← h7.2.1]; exact Nat.le_refl _
    have := HL.out
    omega⟩
  have HVER : As (ver < 4294967296) := ⟨by have := qnum_lt 4 l bad; rw [hq1] at this; simpa using this⟩
  have HLOCK : As (lock < 4294967296) := ⟨by have := qnum_lt 4 l7 b7; rw [hq8] at this; simpa using this⟩
  have hn : (n : Int) ≤ 50 := by have := qcount_top l2 b2; rw [hq3] at this; simp only at this; omega
  have hm : (m : Int) ≤ 50 := by have := qcount_top l4 b4; rw [hq5] at this; simp only at this; omega
  have HQ1 := As.mk hq1
  have HQ2 := As.mk hq2
  have HQ3 := As.mk hq3
  have HQ4 := As.mk hq4
  have HQ5 := As.mk hq5
  have HQ6 := As.mk hq6
  have HQ7 := As.mk hq7
  have HQ8 := As.mk hq8
  have HMK := As.mk hmk
  have HT := As.mk hT
  have HR := As.mk h
  have HBL := As.mk h.lt
  clear HE hq hq1 hq2 hq3 hq4 hq5 hq6 hq7 hq8 hmk hT h hl
  obtain ⟨A0, c0, k0, k1, f0, f1, hwas⟩ := Rdr.two HR.out
  have HWAS := As.mk hwas
  have hlen0 := HL.out
  have hB0 := HBL.out
  clear hwas
  go_enter Try.func59, Try.ntmps59
  go_upto_region 3 with (first | (go_at_call 29; (with_reducible refine (qsmall_to B l bad _ HQ1.out (HR.out.below ((Below.refl _ _).alloc (Nat.le_refl _) _)) HL.out).mono ?_); rintro e w1 ⟨rfl, hr, hg⟩; have HR1 := As.mk hr; have HG1 := As.mk hg; clear hr hg k0 k1 f0 f1 hB0))
  have HZ : As (QSt w (w1.alloc (.cells #[.int .u32 (ver : Int), .slice none 0 0, .slice none 0 0, .int .u32 0] 51)) B w.heap.size w1.heap.size l1 b1 [.int .u32 (ver : Int), .slice none 0 0, .slice none 0 0, .int .u32 0]) := by
    have q1 := HG1.out.size
    have q0 : (w.alloc (Obj.cells zTx 51)).heap.size = w.heap.size + 1 := by simp
    change (w.alloc (Obj.cells zTx 51)).heap.size ≤ _ at q1
    rw [q0] at q1
    have q2 := HBL.out
    exact ⟨⟨HR1.out.below (below_al _ _), grown_al (grown_trans (grown_any (grown_none (below_al _ _)) _) HG1.out) _, Box.below (Box.grown (Box.new w zTx 51) HG1.out (fun e => by injection e with e; omega)) (below_al _ _), Box.new _ _ _, q2, Nat.le_refl _, q1⟩⟩
  obtain ⟨G, hG⟩ : ∃ G, G = w1.heap.size := ⟨_, rfl⟩
  obtain ⟨RR, hRR⟩ : ∃ R, R = w.heap.size := ⟨_, rfl⟩
  rw [← hG] at HZ ⊢
  have HRW := As.mk hRR
  have HZ1 : As (QSt w (w1.alloc (.cells #[.int .u32 (ver : Int), .slice none 0 0, .slice none 0 0, .int .u32 0] 51)) B RR G l1 b1 [.int .u32 (ver : Int), .slice none 0 0, .slice none 0 0, .int .u32 0]) := ⟨by rw [hRR]; exact HZ.out⟩
  rw [← hRR]
  clear HZ hG hRR HR1 HG1
  generalize (w1.alloc (.cells #[.int .u32 (ver : Int), .slice none 0 0, .slice none 0 0, .int .u32 0] 51)) = W1 at HZ1 ⊢
  go_cut [6] (fun v6 wc => v6 = .bool mk ∧ W1 = wc)
  case first =>
    as_aux_lemma =>
      obtain ⟨A1, c1, k0, k1, f0, f1, hrd⟩ := Rdr.two HZ1.out.at
      have hl1 := HL1.out
      rcases l1 with _ | ⟨a, _ | ⟨b, r⟩⟩
      · obtain rfl : mk = false := HMK.out.symm
        go_wp2
        go_meet
        exact ⟨rfl, rfl⟩
      · obtain rfl : mk = false := HMK.out.symm
        go_wp2
        go_meet
        exact ⟨rfl, rfl⟩
      · obtain ⟨_, A2, c2, he, h1, h2, h3, h4⟩ := hrd
        injection he with e1 e2 e3
        subst e1 e3
        rcases A1 with _ | ad
        · exfalso
          have := h3 rfl
          simp at h1
          omega
        have ka : W1.cell? ad = some (.int .u8 (a.toNat : Int)) := h4 ad rfl 0 (u8v a) rfl
        have kb : W1.cell? ⟨ad.block, ad.off + 1, none⟩ = some (.int .u8 (b.toNat : Int)) := h4 ad rfl 1 (u8v b) rfl
        clear h3 h4
        have hlt : (2 : Int) ≤ (a :: b :: r).length := by simp; omega
        have HMM : As (mk = (a == 0 && b == 1)) := ⟨HMK.out.symm⟩
        obtain ⟨N2, hN2⟩ : ∃ N : Nat, N = (a :: b :: r).length := ⟨_, rfl⟩
        rw [← hN2] at k0 hlt
        clear hl1
        by_cases ha : a = 0
        · subst ha
          by_cases hb : b = 1
          · subst hb
            obtain rfl : mk = true := HMM.out
            go_wp2
            go_meet
            exact ⟨rfl, rfl⟩
          · have hbb : ((b.toNat : Int) == 1) = false := by
              rw [beq_eq_false_iff_ne]
              intro e
              exact hb (UInt8.toNat_inj.1 (by show b.toNat = 1; omega))
            obtain rfl : mk = false := by rw [HMM.out]; simp [hb]
            go_wp2
            go_meet
            exact ⟨rfl, rfl⟩
        · have haa : ((a.toNat : Int) == 0) = false := by
            rw [beq_eq_false_iff_ne]
            intro e
            exact ha (UInt8.toNat_inj.1 (by show a.toNat = 0; omega))
          obtain rfl : mk = false := by rw [HMM.out]; simp [ha]
          go_wp2
          go_meet
          exact ⟨rfl, rfl⟩
  case rest =>
    obtain ⟨rfl, rfl⟩ := hcut
    go_upto_if 46 with fail
    go_cut [] (fun wc => As (QSt w wc B RR G l2 b2 [.int .u32 (ver : Int), .slice none 0 0, .slice none 0 0, .int .u32 0]))
    case first =>
      as_aux_lemma =>
        cases mk with
        | true =>
          have HE2 : As (qtake 2 l1 b1 = ((qtake 2 l1 b1).1, l2, b2)) := ⟨by
            have h := HQ2.out
            unfold qMark at h
            rw [if_pos HMK.out] at h
            exact Prod.ext rfl h⟩
          go_wp2_with (go_at_call 32; (with_reducible refine (qtake_to B l1 b1 2 _ HE2.out HZ1.out.at HL1.out).mono ?_); rintro e w2 ⟨r2, rfl, ho, hr, hg⟩; have HZ2 := As.mk (HZ1.out.read hr hg); clear ho hr hg)
          go_meet
          exact HZ2
        | false =>
          have HE2 : As (l1 = l2 ∧ b1 = b2) := ⟨by
            have h := HQ2.out
            unfold qMark at h
            rw [if_neg (by rw [HMK.out]; decide)] at h
            simp only [Prod.mk.injEq] at h
            exact h⟩
          go_wp2
          go_meet
          rw [← HE2.out.1, ← HE2.out.2]
          exact HZ1
    case rest =>
      have HZ2 := hcut
      clear hcut HZ1
      go_upto_block 0 with (go_at_call 31; (with_reducible refine (qcount_to B l2 b2 50 _ HQ3.out HZ2.out.at HL2.out (by omega) (by omega)).mono ?_); rintro e w3 ⟨rfl, hr, hg⟩; have HZ3 := As.mk (HZ2.out.read hr hg); clear hr hg)
      go_cut [8] (fun v8 wc => ∃ iv, As (QSt w wc B RR G l4 b4 [.int .u32 (ver : Int), iv, .slice none 0 0, .int .u32 0]) ∧ As (OwG (InN (G + 1)) 55 36 wc (G + 1) iv xs))
      case first =>
        as_aux_lemma =>
          go_wp2
          go_loopw [8] (fun v8 wr => ∃ (k : Nat) (iv : Value) (xk : List LIn) (lk : List UInt8) (bk : Bool), v8 = .int .i64 (k : Int) ∧ (k : Int) ≤ n ∧ As (iterS qIn k (l3, b3) = (xk, lk, bk)) ∧ As (QSt w wr B RR G lk bk [.int .u32 (ver : Int), iv, .slice none 0 0, .int .u32 0]) ∧ As (OwG (InN (G + 1)) 55 36 wr (G + 1) iv xk) ∧ As (lk.length ≤ 140737488355328)) (fun v8 _ => n - (intOf v8).toNat)
          case atStart => exact ⟨0, _, [], l3, b3, rfl, by omega, ⟨rfl⟩, HZ3, ⟨OwG.nil⟩, HL3⟩
          case round =>
            obtain ⟨k, iv, xk, lk, bk, rfl, hk, HI, HZk, HO, HLk⟩ := hrel
            obtain ⟨A1, c1, k0, k1, f0, f1, -⟩ := Rdr.two HZk.out.at
            clear k0 f0 f1
            by_cases hlt : (k : Int) < n
            · cases bk with
              | true =>
                have HF4 : As (xk = xs ∧ lk = l4 ∧ true = b4) := ⟨by have h1 := HI.out; have h2 := iterS_bad qIn k (l3, b3) (by rw [h1]) n (by omega); rw [h1, HQ4.out] at h2; simp only [Prod.mk.injEq] at h2; exact ⟨h2.1.symm, h2.2.1.symm, h2.2.2.symm⟩⟩
                go_wp2
                go_meet
                obtain ⟨rfl, rfl, rfl⟩ := HF4.out
                exact ⟨_, HZk, HO⟩
              | false =>
                have HXL : As (xk.length ≤ k) := ⟨by have := iterS_length qIn k (l3, b3); rw [HI.out] at this; exact this⟩
                obtain ⟨pv, la, ba, hqa⟩ : ∃ m p q, qtake 32 lk false = (m, p, q) := ⟨_, _, _, rfl⟩
                obtain ⟨vo, lb, bb, hqb⟩ : ∃ m p q, qnum 4 la ba = (m, p, q) := ⟨_, _, _, rfl⟩
                obtain ⟨m3, lc, bc, hqc⟩ : ∃ m p q, qcount 500 lb bb = (m, p, q) := ⟨_, _, _, rfl⟩
                obtain ⟨x, ld, bd, hqd⟩ : ∃ x p q, qtake (m3 : Int) lc bc = (x, p, q) := ⟨_, _, _, rfl⟩
                obtain ⟨sq, le_, be, hqe⟩ : ∃ m p q, qnum 4 ld bd = (m, p, q) := ⟨_, _, _, rfl⟩
                have HLa : As (la.length ≤ 140737488355328) := ⟨by have := qtake_le 32 lk false; rw [hqa] at this; simp only at this; have := HLk.out; omega⟩
                have HLb : As (lb.length ≤ 140737488355328) := ⟨by have := qnum_le_len 4 la ba; rw [hqb] at this; simp only at this; have := HLa.out; omega⟩
                have HLc : As (lc.length ≤ 140737488355328) := ⟨by have := qcount_le_len 500 lb bb; rw [hqc] at this; simp only at this; have := HLb.out; omega⟩
                have HLd : As (ld.length ≤ 140737488355328) := ⟨by have := qtake_le m3 lc bc; rw [hqd] at this; simp only at this; have := HLc.out; omega⟩
                have HLe : As (le_.length ≤ 140737488355328) := ⟨by have := qnum_le_len 4 ld bd; rw [hqe] at this; simp only at this; have := HLd.out; omega⟩
                have HVO : As (vo < 4294967296 ∧ sq < 4294967296) := ⟨by have := qnum_lt 4 la ba; rw [hqb] at this; have := qnum_lt 4 ld bd; rw [hqe] at this; simp only at *; omega⟩
                have HPVL : As (pv.length ≤ 32) := ⟨by have := qtake_len 32 lk false; have e : ((32 : Nat) : Int) = 32 := rfl; rw [e, hqa] at this; exact this⟩
                have HPL : As ((pad32 pv).length = 32) := ⟨pad32_length pv HPVL.out⟩
                have HI2 : As (iterS qIn (k + 1) (l3, b3) = (xk ++ [⟨pad32 pv, vo, x, sq, []⟩], le_, be)) := ⟨by rw [iterS_good qIn k (l3, b3) (by rw [HI.out]), HI.out]; simp only [qIn, qRow]; rw [hqa]; simp only; rw [hqb]; simp only; rw [hqc]; simp only; rw [hqd]; simp only; rw [hqe]⟩
                have HQa := As.mk hqa
                have HQb := As.mk hqb
                have HQc := As.mk hqc
                have HQd := As.mk hqd
                have HQe := As.mk hqe
                clear hqa hqb hqc hqd hqe
                have HU := As.mk (fun b hb => (OwG.lt HO.out b hb).2)
                obtain ⟨pc, hpc⟩ : ∃ pc, pc = (pad32 pv).map u8v := ⟨_, rfl⟩
                obtain ⟨c36, hc36⟩ : ∃ c, c = (Z32 ++ [Value.int .u32 0, Value.slice none 0 0, Value.int .u32 0, Value.slice none 0 0] : List Value) := ⟨_, rfl⟩
                obtain ⟨d36, hd36⟩ : ∃ c, c = (pc ++ [Value.int .u32 0, Value.slice none 0 0, Value.int .u32 0, Value.slice none 0 0] : List Value) := ⟨_, rfl⟩
                have HPCL : As (pc.length = 32) := ⟨by rw [hpc, List.length_map]; exact HPL.out⟩
                have HPC := As.mk hpc
                have HC36 := As.mk hc36
                have HD36 : As (d36 = ((pad32 pv).map u8v ++ [Value.int .u32 0, Value.slice none 0 0, Value.int .u32 0, Value.slice none 0 0] : List Value)) := ⟨by rw [hd36, hpc]⟩
                have HCL : As (c36.length = 36) := ⟨by rw [hc36]; rfl⟩
                have H1 : As (∀ v ∈ c36, v.oneCell' = true) := ⟨by
                  intro v hv
                  rw [hc36] at hv
                  rcases List.mem_append.1 hv with hv | hv
                  · exact u8v_one _ v hv
                  · simp at hv; rcases hv with rfl | rfl | rfl | rfl <;> rfl⟩
                clear hpc hc36 hd36
                go_upto_region 10 with fail
                refine wp_region_list ?_
                refine wpList_build_to (o := ⟨_, .build 55 #[], _, _, _, _⟩) rfl 55 #[] rfl c36.toArray (by rw [HC36.out]; simp only [List.map_toArray, List.map_nil]; exact built55z) ?_
                go_upto_region 11 with ((with_reducible refine wpList_store_new (op := ⟨_, .store 55 (.tmp 9) (.tmp 63), _, _, _, _⟩) ?hgd 55 (.tmp 9) (.tmp 63) rfl (wr) ?cc55 c36 ?hw ?hx ?hy ?hi ?hc H1.out ?_); (case hgd => exact rfl); (case hw => exact rfl); (case hx => exact rfl); (case hy => exact rfl); (case hi => rw [HCL.out]; kernel_rfl); (case hc => rw [HCL.out]; exact rfl))
                have hb0 : Below wr.heap.size wr (wr.alloc (.cells c36.toArray 55)) := below_al _ _
                have HZ0 : As (QSt w (wr.alloc (.cells c36.toArray 55)) B RR G lk false [.int .u32 (ver : Int), iv, .slice none 0 0, .int .u32 0] ∧ wr.grownBy (wr.alloc (.cells c36.toArray 55)) (some B) ∧ Box (wr.alloc (.cells c36.toArray 55)) wr.heap.size c36.toArray 55) := ⟨HZk.out.below hb0, grown_any (grown_none hb0) _, Box.new _ _ _⟩
                obtain ⟨H, hH⟩ : ∃ H, H = wr.heap.size := ⟨_, rfl⟩
                have HB3 : As (B < H ∧ wr.heap.size ≤ H ∧ G < H) := ⟨by have h1 := HZk.out.ltB; have h2 := HZk.out.lt; omega⟩
                rw [← hH] at HZ0
                rw [← hH]
                clear hb0 hH k1
                generalize (wr.alloc (.cells c36.toArray 55)) = WH at HZ0 ⊢
                simp only [Act.put, List.setIfInBounds_toArray, List.set_cons_zero, List.set_cons_succ]
                go_cut [] (fun wc => As (QSt w wc B RR G la ba [.int .u32 (ver : Int), iv, .slice none 0 0, .int .u32 0] ∧ wr.grownBy wc (some B) ∧ Box wc H d36.toArray 55))
                case first =>
                  as_aux_lemma =>
                    refine wp_region_any (by kernel_rfl) ?_
                    try (change wpAny _ _ _ _ _ _ _ (World.drew _))
                    refine wpAny_take (i := 0) (oi := ?_) (v := ?_) (by simp only [List.getElem?_toArray, List.getElem?_cons_zero, List.getElem?_cons_succ]; rfl) (by kernel_rfl) (by kernel_rfl) (by kernel_rfl) (by exact fun _ _ _ h => h) (Or.inl ⟨by rfl, ?_⟩) ?_
                    rotate_left
                    · (intro w; go_simp; first | done | with_reducible rfl)
                    try simp only [Act.put, List.setIfInBounds_toArray, List.set_cons_zero, List.set_cons_succ]
                    refine wpAny_take (i := 1) (oi := ?_) (v := ?_) (by simp only [List.getElem?_toArray, List.getElem?_cons_zero, List.getElem?_cons_succ]; rfl) (by kernel_rfl) (by kernel_rfl) (by kernel_rfl) (by exact fun _ _ _ h => h) (Or.inl ⟨by rfl, ?_⟩) ?_
                    rotate_left
                    · (intro w; go_simp; first | done | with_reducible rfl)
                    try simp only [Act.put, List.setIfInBounds_toArray, List.set_cons_zero, List.set_cons_succ]
                    refine wpAny_take (i := 2) (oi := ?_) (v := ?_) (by simp only [List.getElem?_toArray, List.getElem?_cons_zero, List.getElem?_cons_succ]; rfl) (by kernel_rfl) (by kernel_rfl) (by kernel_rfl) (by exact fun _ _ _ h => h) (Or.inl ⟨by rfl, ?_⟩) ?_
                    rotate_left
                    · (intro w; go_simp; first | done | with_reducible rfl)
                    try simp only [Act.put, List.setIfInBounds_toArray, List.set_cons_zero, List.set_cons_succ]
                    refine wpAny_ready (rs := [3]) (by kernel_rfl) (by simp) ?_
                    refine AllReady.cons (o := ?_) (by simp only [List.getElem?_toArray, List.getElem?_cons_zero, List.getElem?_cons_succ]; rfl) (fun K hK => ?_) ?_
                    · go_simp
                      (with_reducible refine (qtake_to B lk false 32 _ HQa.out (HZ0.out.1.below (below_dr WH)).at HLk.out).mono ?_)
                      rintro e w3 ⟨r3, rfl, ho, hr, hg⟩
                      obtain ⟨A3, c3, rfl, -⟩ := RdB.form ho.rd
                      have HO3 := As.mk ho.rd
                      have HZ5 := As.mk ((HZ0.out.1.below (below_dr WH)).read hr hg)
                      have HG5 := As.mk (grown_trans (grown_trans HZ0.out.2.1 (grown_any (grown_none (below_dr WH)) (some B))) hg)
                      have HB5 := As.mk (Box.grown (HZ0.out.2.2.below (below_dr WH)) hg (fun e => by injection e with e; have := HB3.out.1; omega))
                      clear ho hr hg
                      dsimp only
                      refine hK _ _ ?_
                      clear hK K
                      try simp only [Act.put, List.setIfInBounds_toArray, List.set_cons_zero, List.set_cons_succ]
                      refine wpAny_ready (rs := [4]) (by kernel_rfl) (by simp) ?_
                      refine AllReady.cons (o := ?_) (by simp only [List.getElem?_toArray, List.getElem?_cons_zero, List.getElem?_cons_succ]; rfl) (fun K hK => ?_) ?_
                      · refine step_copy_grown ?hgd (.tmp 65) (.tmp 67) 24 24 ?ho 5 Try.underlying24 size5 (some ⟨H, 0, none⟩) A3 32 32 pv.length c3 ?hd ?hs H 0 c36 55 HB5.out (pv.map u8v) ?hn ?hpos ?hfit (u8v_one _) ?_
                        case hgd => rfl
                        case ho => rfl
                        case hd => rfl
                        case hs => rfl
                        case hn => have := HPVL.out; rw [List.length_map]; exact (Nat.min_eq_left this).symm
                        case hpos => intro hp; refine ⟨rfl, ?_⟩; obtain ⟨_, A', c', he, k1, k2, k3, k4⟩ := HO3.out; injection he with e1 e2 e3; subst e1 e3; rcases A3 with _ | ad; (have := k3 rfl; simp at hp; omega); exact ⟨ad, rfl, k4 ad rfl⟩
                        case hfit => have := HPVL.out; rw [HCL.out]; simp; omega
                        intro w4 HX4
                        refine hK _ _ ?_
                        clear hK K
                        try simp only [Act.put, List.setIfInBounds_toArray, List.set_cons_zero, List.set_cons_succ]
                        refine wpAny_done (by kernel_rfl) ?_ _
                        have HB6 : As (Box w4 H d36.toArray 55) := ⟨by have h := HX4.out.1; rw [HC36.out, pad36_cells pv HPVL.out] at h; rw [HD36.out]; exact h⟩
                        have HZ6 := As.mk (HZ5.out.far HX4.out.2 (fun j hj => by injection hj with hj; have := HB3.out; omega))
                        have HG6 := As.mk (grown_far HG5.out HX4.out.2 (fun j hj => by injection hj with hj; have := HB3.out; omega))
                        go_wp2
                        go_meet
                        exact ⟨⟨HZ6.out, HG6.out, HB6.out⟩⟩
                      exact AllReady.nil
                    exact AllReady.nil
                case rest =>
                  have HX0 := hcut
                  clear hcut HZ0
                  have HZ3 := As.mk HX0.out.1
                  have HG3 := As.mk HX0.out.2.1
                  have HB4 := As.mk HX0.out.2.2
                  clear HX0
                  have HC32 : As (d36[32]? = some (Value.int .u32 0)) := ⟨by rw [HD36.out, ← HPC.out, List.getElem?_append_right (by have := HPCL.out; omega), HPCL.out]; rfl⟩
                  go_upto_region 13 with (go_at_call 29; (with_reducible refine (qsmall_to B la ba _ HQb.out HZ3.out.at HLa.out).mono ?_); rintro e w4 ⟨rfl, hr, hg⟩; have HZ4 := As.mk (HZ3.out.read hr hg); have HG4 := As.mk (grown_trans HG3.out hg); have HB5 := As.mk (Box.grown HB4.out hg (fun e => by injection e with e; have := HB3.out.1; omega)); have q32 := Box.cell HB5.out 32 (.int .u32 0) (by simpa using HC32.out); have f32 := Box.frozen HB5.out 32; clear hr hg)
                  have gset := grown_set w4 H 32 (.int .u32 (vo : Int))
                  have HB6 := As.mk (Box.set HB5.out 32 (.int .u32 (vo : Int)))
                  have HZ6 := As.mk (HZ4.out.far gset (fun b hb => by injection hb with hb; have := HB3.out.2.2; omega))
                  have HG6 := As.mk (grown_far HG4.out gset (fun b hb => by injection hb with hb; have := HB3.out.2.1; omega))
                  obtain ⟨e36, he36⟩ : ∃ d, d = d36.set 32 (.int .u32 (vo : Int)) := ⟨_, rfl⟩
                  rw [← he36] at HB6
                  have HE36 : As (e36 = (pc ++ [Value.int .u32 (vo : Int), Value.slice none 0 0, Value.int .u32 0, Value.slice none 0 0] : List Value)) := ⟨by rw [he36, HD36.out, ← HPC.out, List.set_append_right _ _ (by have := HPCL.out; omega), HPCL.out]; rfl⟩
                  have HE33 : As (e36[33]? = some (Value.slice none 0 0)) := ⟨by rw [HE36.out, List.getElem?_append_right (by have := HPCL.out; omega), HPCL.out]; rfl⟩
                  clear gset q32 f32 HZ4 HG4 HB5 HZ3 HG3 HB4 he36
                  generalize (w4.setCell ⟨H, 32, none⟩ (.int .u32 (vo : Int))) = W6 at HB6 HZ6 HG6 ⊢
                  go_upto_region 14 with (first | (go_at_call 31; (with_reducible refine (qcount_to B lb bb 500 _ HQc.out HZ6.out.at HLb.out (by omega) (by omega)).mono ?_); rintro e w7 ⟨rfl, hr, hg⟩; have HZ7 := As.mk (HZ6.out.read hr hg); have HG7 := As.mk (grown_trans HG6.out hg); have HB7 := As.mk (Box.grown HB6.out hg (fun e => by injection e with e; have := HB3.out.1; omega)); clear hr hg) | (go_at_call 32; (with_reducible refine (qtake_to B lc bc _ _ HQd.out HZ7.out.at HLc.out).mono ?_); rintro e w8 ⟨r3, rfl, ho, hr, hg⟩; obtain ⟨A3, c3, rfl, -⟩ := RdB.form ho.rd; have HX8 := As.mk ho; have HZ8 := As.mk (HZ7.out.read hr hg); have HG8 := As.mk (grown_trans HG7.out hg); have HB8 := As.mk (Box.grown HB7.out hg (fun e => by injection e with e; have := HB3.out.1; omega)); have q33 := Box.cell HB8.out 33 (.slice none 0 0) (by simpa using HE33.out); have f33 := Box.frozen HB8.out 33; clear hr hg ho))
                  have gset := grown_set w8 H 33 (.slice A3 x.length c3)
                  have HB9 := As.mk (Box.set HB8.out 33 (.slice A3 x.length c3))
                  have HZ9 := As.mk (HZ8.out.far gset (fun b hb => by injection hb with hb; have := HB3.out.2.2; omega))
                  have HG9 := As.mk (grown_far HG8.out gset (fun b hb => by injection hb with hb; have := HB3.out.2.1; omega))
                  have HX9 : As (OwB (w8.setCell ⟨H, 33, none⟩ (.slice A3 x.length c3)) (H + 1) 5 (.slice A3 x.length c3) x) :=
                    ⟨OwS.mono (OwS.kept HX8.out gset (off_kept (off_low HX8.out HB7.out.lt))) HB7.out.lt⟩
                  obtain ⟨f36, hf36⟩ : ∃ d, d = e36.set 33 (.slice A3 x.length c3) := ⟨_, rfl⟩
                  rw [← hf36] at HB9
                  have HF36 : As (f36 = (pc ++ [Value.int .u32 (vo : Int), Value.slice A3 x.length c3, Value.int .u32 0, Value.slice none 0 0] : List Value)) := ⟨by rw [hf36, HE36.out, List.set_append_right _ _ (by have := HPCL.out; omega), HPCL.out]; rfl⟩
                  have HF34 : As (f36[34]? = some (Value.int .u32 0)) := ⟨by rw [HF36.out, List.getElem?_append_right (by have := HPCL.out; omega), HPCL.out]; rfl⟩
                  clear gset q33 f33 HZ8 HG8 HB8 HX8 HZ7 HG7 HB7 HZ6 HG6 HB6 hf36
                  generalize (w8.setCell ⟨H, 33, none⟩ (.slice A3 x.length c3)) = W9 at HB9 HZ9 HG9 HX9 ⊢
                  go_upto_region 15 with (go_at_call 29; (with_reducible refine (qsmall_to B ld bd _ HQe.out HZ9.out.at HLd.out).mono ?_); rintro e w10 ⟨rfl, hr, hg⟩; have HZ10 := As.mk (HZ9.out.read hr hg); have HG10 := As.mk (grown_trans HG9.out hg); have HB10 := As.mk (Box.grown HB9.out hg (fun e => by injection e with e; have := HB3.out.1; omega)); have HX10 := As.mk (OwS.kept HX9.out hg (off_kept (off_low HX9.out (by have := HB3.out.1; omega)))); have q34 := Box.cell HB10.out 34 (.int .u32 0) (by simpa using HF34.out); have f34 := Box.frozen HB10.out 34; clear hr hg)
                  have gset := grown_set w10 H 34 (.int .u32 (sq : Int))
                  have HB11 := As.mk (Box.set HB10.out 34 (.int .u32 (sq : Int)))
                  have HZ11 := As.mk (HZ10.out.far gset (fun b hb => by injection hb with hb; have := HB3.out.2.2; omega))
                  have HG11 := As.mk (grown_far HG10.out gset (fun b hb => by injection hb with hb; have := HB3.out.2.1; omega))
                  have HX11 : As (OwB (w10.setCell ⟨H, 34, none⟩ (.int .u32 (sq : Int))) (H + 1) 5 (.slice A3 x.length c3) x) :=
                    ⟨OwS.kept HX10.out gset (off_kept (off_low HX10.out (Nat.lt_succ_self H)))⟩
                  obtain ⟨g36, hg36⟩ : ∃ d, d = f36.set 34 (.int .u32 (sq : Int)) := ⟨_, rfl⟩
                  rw [← hg36] at HB11
                  have HG36 : As (g36 = (pc ++ [Value.int .u32 (vo : Int), Value.slice A3 x.length c3, Value.int .u32 (sq : Int), Value.slice none 0 0] : List Value)) := ⟨by rw [hg36, HF36.out, List.set_append_right _ _ (by have := HPCL.out; omega), HPCL.out]; rfl⟩
                  have HEL : As (g36.length = 36) := ⟨by rw [HG36.out, List.length_append, HPCL.out]; rfl⟩
                  have HE1 : As (∀ v ∈ g36, v.oneCell' = true) := ⟨by
                    intro v hv
                    rw [HG36.out, HPC.out] at hv
                    rcases List.mem_append.1 hv with hv | hv
                    · exact u8v_one _ v hv
                    · simp at hv; rcases hv with rfl | rfl | rfl | rfl <;> rfl⟩
                  clear gset q34 f34 HZ10 HG10 HB10 HX10 HZ9 HG9 HB9 HX9 hg36
                  generalize (w10.setCell ⟨H, 34, none⟩ (.int .u32 (sq : Int))) = W11 at HB11 HZ11 HG11 HX11 ⊢
                  have HRG := As.mk (range_of_block HB11.out)
                  have HO11 := As.mk (OwG.read (l := []) (bad := false) (InN.read HZk.out.ltB HG11.out) HO.out HG11.out HZk.out.ltB)
                  have HS11 := As.mk HG11.out.size
                  have hbz : Below W11.heap.size W11 (W11.alloc (.cells g36.toArray 55)) := (Below.refl _ _).alloc (Nat.le_refl _) _
                  have HBZ := As.mk hbz
                  clear hbz
                  have HBN := As.mk (Box.new W11 g36.toArray 55)
                  have HOZ := As.mk (OwG.same (InN.below HBZ.out) HO11.out HBZ.out)
                  have HEN : As (InN (G + 1) (W11.alloc (.cells g36.toArray 55)) iv.ownBlock g36 ⟨pad32 pv, vo, x, sq, []⟩) := ⟨⟨⟨_, _, (by rw [HG36.out, HPC.out]), HPL.out, ⟨OwS.below (OwS.mono HX11.out (by have q3 := HB3.out.2.2; omega)) HBZ.out, fun b hb e => (by have q1 := HX11.out.lt b hb; have q2 := HU.out b e; have q3 := HB3.out.2.1; omega)⟩, OwV.nil _ _ _, HVO.out.1, HVO.out.2⟩, fun _ => by rw [HG36.out, List.getElem?_append_right (by have := HPCL.out; omega), HPCL.out]; rfl⟩⟩
                  have HBS : As (G + 1 ≤ (W11.alloc (.cells g36.toArray 55)).heap.size) := ⟨by have q1 := HZ11.out.lt; have q2 := HBZ.out.size; omega⟩
                  obtain ⟨it, hit⟩ := Option.map_eq_some_iff.1 info55
                  have HIT := As.mk hit
                  clear hit
                  obtain ⟨d0, d1, d2, d3, -⟩ := HZ11.out.cells
                  clear d0 d2 d3
                  go_wp2_with (first | ((with_reducible refine wpList_load_mid (op := ⟨_, .load 55 (.tmp 9), _, _, _, _⟩) ?hgd 55 (.tmp 9) rfl _ _ ?hx g36 _ HRG.out Try.underlying55 rfl ?hi ?_); (case hgd => exact rfl); (case hx => exact rfl); (case hi => rw [HEL.out]; kernel_rfl)) | ((with_reducible refine wpList_buildSlice (o := ⟨_, .buildSlice 48 1 #[(0, .tmp 82)], _, _, _, _⟩) ?hgd 48 55 1 _ rfl g36.toArray it (.agg (Z32 ++ [Value.int .u32 0, Value.slice none 0 0, Value.int .u32 0, Value.slice none 0 0]).toArray) Try.underlying48 HIT.out.1 ?hz ?hsm ?hpo ?hf ?_); (case hgd => exact rfl); (case hz => have h := HIT.out.2; simp only [Prod.mk.injEq] at h; exact h.1); (case hsm => have h := HIT.out.2; simp only [Prod.mk.injEq] at h; rw [h.2.1]; decide); (case hpo => have h := HIT.out.2; simp only [Prod.mk.injEq] at h; rw [h.2.1]; decide); (case hf => have h := HIT.out.2; simp only [Prod.mk.injEq] at h; rw [h.2.1]; simp only [List.map_toArray, List.map_cons, List.map_nil]; exact fill55 _ (by simp) g36 HEL.out)) | (at_builtin; refine wpList_appG (E := InN (G + 1)) (G + 1) rfl (.tmp 81) (.tmp 83) 48 55 ZIn 36 96 rfl Try.underlying48 info55z zin_size (by decide) (by decide) iv rfl W11.heap.size rfl g36 HBN.out HEL.out HE1.out xk ⟨pad32 pv, vo, x, sq, []⟩ HOZ.out HEN.out (fun v' w' hg ht => InN.grow hg ht) (by have := HXL.out; omega) HBS.out ?_; intro v4 w4 ho hg ht; obtain ⟨A4, c4, hv4⟩ := OwG.form ho; obtain ⟨N4, hN4⟩ : ∃ N4 : Nat, N4 = (xk ++ [(⟨pad32 pv, vo, x, sq, []⟩ : LIn)]).length := ⟨_, rfl⟩; rw [← hN4] at hv4; clear hN4; subst hv4; have HO4 := As.mk ho; have HZ4 := As.mk ((HZ11.out.below HBZ.out).far hg (fun b hb => (OwG.lt HO.out b hb).1)); have q1 := HZ4.out.cells.2.1; have f1 := HZ4.out.cells.2.2.2.2 1; clear ho hg ht d1))
                  go_roundw
                  case rel =>
                    have gset := grown_set w4 G 1 (.slice A4 N4 c4)
                    have HZF : As (QSt w (w4.setCell ⟨G, 1, none⟩ (.slice A4 N4 c4)) B RR G le_ be [.int .u32 (ver : Int), .slice A4 N4 c4, .slice none 0 0, .int .u32 0]) := ⟨HZ4.out.set 1 (.slice A4 N4 c4)⟩
                    have HOF : As (OwG (InN (G + 1)) 55 36 (w4.setCell ⟨G, 1, none⟩ (.slice A4 N4 c4)) (G + 1) (.slice A4 N4 c4) (xk ++ [⟨pad32 pv, vo, x, sq, []⟩])) := ⟨OwG.read (l := []) (bad := false) (InN.read (Nat.lt_succ_self G) gset) HO4.out gset (Nat.lt_succ_self G)⟩
                    refine ⟨k + 1, .slice A4 N4 c4, xk ++ [⟨pad32 pv, vo, x, sq, []⟩], le_, be, ?_, ?_, ?_, ?_, ?_, ?_⟩
                    · go_num
                    · omega
                    · exact HI2
                    · exact HZF
                    · exact HOF
                    · exact HLe
                  case measure => simp [intOf]; omega
            · have hkN : k = n := by omega
              have HF4 : As (xk = xs ∧ lk = l4 ∧ bk = b4) := ⟨by have h1 := HI.out; rw [hkN, HQ4.out] at h1; simp only [Prod.mk.injEq] at h1; exact ⟨h1.1.symm, h1.2.1.symm, h1.2.2.symm⟩⟩
              clear hkN
              go_wp2
              go_meet
              obtain ⟨rfl, rfl, rfl⟩ := HF4.out
              exact ⟨_, HZk, HO⟩
      case rest =>
        obtain ⟨iv, HZ4, HI4⟩ := hcut
        clear HZ3 HZ2
        go_upto_block 2 with (go_at_call 31; (with_reducible refine (qcount_to B l4 b4 50 _ HQ5.out HZ4.out.at HL4.out (by omega) (by omega)).mono ?_); rintro e w5 ⟨rfl, hr, hg⟩; have HZ5 := As.mk (HZ4.out.read hr hg); have HI5 := As.mk (OwG.read (l := []) (bad := false) (InN.read HZ4.out.ltB hg) HI4.out hg HZ4.out.ltB); clear hr hg)
        obtain ⟨mid, hmid⟩ : ∃ m, m = w5.heap.size := ⟨_, rfl⟩
        have HMID : As (G + 1 ≤ mid ∧ ∀ k, iv.ownBlock = some k → k < mid) := ⟨by rw [hmid]; exact ⟨HZ5.out.lt, fun k hk => (OwG.lt HI5.out k hk).2⟩⟩
        have HMB : As (B < mid) := ⟨by have := HMID.out.1; have := HZ5.out.ltB; omega⟩
        have HMS : As (mid ≤ w5.heap.size) := ⟨by rw [hmid]; exact Nat.le_refl _⟩
        clear hmid HZ4 HI4
        go_cut [11] (fun v11 wc => ∃ ov, As (QSt w wc B RR G l6 b6 [.int .u32 (ver : Int), iv, ov, .int .u32 0]) ∧ As (OwG (InN (G + 1)) 55 36 wc (G + 1) iv xs) ∧ As (OwG (OutE mid) 57 2 wc mid ov ys))
        case first =>
          as_aux_lemma =>
            go_wp2
            go_loopw [11] (fun v11 wr => ∃ (k : Nat) (ov : Value) (yk : List LOut) (lk : List UInt8) (bk : Bool), v11 = .int .i64 (k : Int) ∧ (k : Int) ≤ m ∧ As (iterS qOut k (l5, b5) = (yk, lk, bk)) ∧ As (QSt w wr B RR G lk bk [.int .u32 (ver : Int), iv, ov, .int .u32 0]) ∧ As (OwG (InN (G + 1)) 55 36 wr (G + 1) iv xs) ∧ As (OwG (OutE mid) 57 2 wr mid ov yk) ∧ As (lk.length ≤ 140737488355328) ∧ As (mid ≤ wr.heap.size)) (fun v11 _ => m - (intOf v11).toNat)
            case atStart => exact ⟨0, _, [], l5, b5, rfl, by omega, ⟨rfl⟩, HZ5, HI5, ⟨OwG.nil⟩, HL5, HMS⟩
            case round =>
              obtain ⟨k, ov, yk, lk, bk, rfl, hk, HQk, HZk, HIk, HOk, HLk, HSk⟩ := hrel
              obtain ⟨A1, c1, k0, k1, f0, f1, -⟩ := Rdr.two HZk.out.at
              clear k0 f0 f1
              by_cases hlt : (k : Int) < m
              · cases bk with
                | true =>
                  have HF4 : As (yk = ys ∧ lk = l6 ∧ true = b6) := ⟨by have h1 := HQk.out; have h2 := iterS_bad qOut k (l5, b5) (by rw [h1]) m (by omega); rw [h1, HQ6.out] at h2; simp only [Prod.mk.injEq] at h2; exact ⟨h2.1.symm, h2.2.1.symm, h2.2.2.symm⟩⟩
                  go_wp2
                  go_meet
                  obtain ⟨rfl, rfl, rfl⟩ := HF4.out
                  exact ⟨_, HZk, HIk, HOk⟩
                | false =>
                  have HYL : As (yk.length ≤ k) := ⟨by have := iterS_length qOut k (l5, b5); rw [HQk.out] at this; exact this⟩
                  obtain ⟨val, la, ba, hqa⟩ : ∃ m p q, qnum 8 lk false = (m, p, q) := ⟨_, _, _, rfl⟩
                  obtain ⟨m3, lb, bb, hqb⟩ : ∃ m p q, qcount 500 la ba = (m, p, q) := ⟨_, _, _, rfl⟩
                  obtain ⟨x, lc, bc, hqc⟩ : ∃ x p q, qtake (m3 : Int) lb bb = (x, p, q) := ⟨_, _, _, rfl⟩
                  have HLa : As (la.length ≤ 140737488355328) := ⟨by have := qnum_le_len 8 lk false; rw [hqa] at this; simp only at this; have := HLk.out; omega⟩
                  have HLb : As (lb.length ≤ 140737488355328) := ⟨by have := qcount_le_len 500 la ba; rw [hqb] at this; simp only at this; have := HLa.out; omega⟩
                  have HLc : As (lc.length ≤ 140737488355328) := ⟨by have := qtake_le m3 lb bb; rw [hqc] at this; simp only at this; have := HLb.out; omega⟩
                  have HVAL : As (val < 18446744073709551616) := ⟨by have := qnum_lt 8 lk false; rw [hqa] at this; simpa using this⟩
                  have HI2 : As (iterS qOut (k + 1) (l5, b5) = (yk ++ [⟨val, x⟩], lc, bc)) := ⟨by rw [iterS_good qOut k (l5, b5) (by rw [HQk.out]), HQk.out]; simp only [qOut, qRow]; rw [hqa]; simp only; rw [hqb]; simp only; rw [hqc]⟩
                  have HQa := As.mk hqa
                  have HQb := As.mk hqb
                  have HQc := As.mk hqc
                  clear hqa hqb hqc
                  have HU := As.mk (fun b hb => (OwG.lt HOk.out b hb).2)
                  go_upto_region 21 with (go_at_call 30; (with_reducible refine (qbig_to B lk false _ HQa.out HZk.out.at HLk.out).mono ?_); rintro e w2 ⟨rfl, hr, hg⟩; have HZ2 := As.mk (HZk.out.read hr hg); have HG2 := As.mk hg; clear hr hg k1)
                  have hb0 : Below w2.heap.size w2 (w2.alloc (.cells #[.int .u64 (val : Int), .slice none 0 0] 57)) := below_al _ _
                  have HZ0 : As (QSt w (w2.alloc (.cells #[.int .u64 (val : Int), .slice none 0 0] 57)) B RR G la ba [.int .u32 (ver : Int), iv, ov, .int .u32 0] ∧ wr.grownBy (w2.alloc (.cells #[.int .u64 (val : Int), .slice none 0 0] 57)) (some B) ∧ Box (w2.alloc (.cells #[.int .u64 (val : Int), .slice none 0 0] 57)) w2.heap.size #[.int .u64 (val : Int), .slice none 0 0] 57) := ⟨HZ2.out.below hb0, grown_trans HG2.out (grown_any (grown_none hb0) _), Box.new _ _ _⟩
                  obtain ⟨H, hH⟩ : ∃ H, H = w2.heap.size := ⟨_, rfl⟩
                  have HB3 : As (B < H ∧ wr.heap.size ≤ H ∧ G < H) := ⟨by have h1 := HZ2.out.ltB; have h2 := HZ2.out.lt; have h3 := HG2.out.size; omega⟩
                  rw [← hH] at HZ0
                  rw [← hH]
                  clear hb0 hH HZ2 HG2
                  generalize (w2.alloc (.cells #[.int .u64 (val : Int), .slice none 0 0] 57)) = W3 at HZ0 ⊢
                  have HZ3 := As.mk HZ0.out.1
                  have HG3 := As.mk HZ0.out.2.1
                  have HX3 := As.mk HZ0.out.2.2
                  clear HZ0
                  go_upto_region 22 with (first | (go_at_call 31; (with_reducible refine (qcount_to B la ba 500 _ HQb.out HZ3.out.at HLa.out (by omega) (by omega)).mono ?_); rintro e w4 ⟨rfl, hr, hg⟩; have HZ4 := As.mk (HZ3.out.read hr hg); have HG4 := As.mk (grown_trans HG3.out hg); have HB4 := As.mk (Box.grown HX3.out hg (fun e => by injection e with e; have := HB3.out.1; omega)); clear hr hg) | (go_at_call 32; (with_reducible refine (qtake_to B lb bb _ _ HQc.out HZ4.out.at HLb.out).mono ?_); rintro e w5' ⟨r3, rfl, ho, hr, hg⟩; obtain ⟨A3, c3, rfl, -⟩ := RdB.form ho.rd; have HX5 := As.mk ho; have HZ5' := As.mk (HZ4.out.read hr hg); have HG5 := As.mk (grown_trans HG4.out hg); have HB5 := As.mk (Box.grown HB4.out hg (fun e => by injection e with e; have := HB3.out.1; omega)); obtain ⟨c0, c1, f0, f1⟩ := two_cell HB5.out; clear hr hg ho))
                  have gset := grown_set w5' H 1 (.slice A3 x.length c3)
                  have HB6 := As.mk (show Box (w5'.setCell ⟨H, 1, none⟩ (.slice A3 x.length c3)) H #[.int .u64 (val : Int), .slice A3 x.length c3] 57 from two_set1 HB5.out _)
                  have HZ6 := As.mk (HZ5'.out.far gset (fun b hb => by injection hb with hb; have := HB3.out.2.2; omega))
                  have HG6 := As.mk (grown_far HG5.out gset (fun b hb => by injection hb with hb; have := HB3.out.2.1; omega))
                  have HX6 : As (OwB (w5'.setCell ⟨H, 1, none⟩ (.slice A3 x.length c3)) (H + 1) 5 (.slice A3 x.length c3) x) :=
                    ⟨OwS.mono (OwS.kept HX5.out gset (off_kept (off_low HX5.out HB4.out.lt))) HB4.out.lt⟩
                  clear gset c0 c1 f0 f1 HZ5' HG5 HB5 HX5 HZ4 HG4 HB4 HZ3 HG3 HX3
                  generalize (w5'.setCell ⟨H, 1, none⟩ (.slice A3 x.length c3)) = W6 at HB6 HZ6 HG6 HX6 ⊢
                  obtain ⟨c0, c1, f0, f1⟩ := two_cell HB6.out
                  have HO6 := As.mk (OwG.read (l := []) (bad := false) (OutE.read HMB.out HG6.out) HOk.out HG6.out HMB.out)
                  have HI6 := As.mk (OwG.read (l := []) (bad := false) (InN.read HZk.out.ltB HG6.out) HIk.out HG6.out HZk.out.ltB)
                  have hbz : Below W6.heap.size W6 (W6.alloc (.cells #[.int .u64 (val : Int), .slice A3 x.length c3] 57)) := (Below.refl _ _).alloc (Nat.le_refl _) _
                  have HBZ := As.mk hbz
                  clear hbz
                  have HBN := As.mk (Box.new W6 #[.int .u64 (val : Int), .slice A3 x.length c3] 57)
                  have HOZ := As.mk (OwG.same (OutE.below HBZ.out) HO6.out HBZ.out)
                  have HIZ := As.mk (OwG.same (InN.below HBZ.out) HI6.out HBZ.out)
                  have HEN : As (OutE mid (W6.alloc (.cells #[.int .u64 (val : Int), .slice A3 x.length c3] 57)) ov.ownBlock [.int .u64 (val : Int), .slice A3 x.length c3] ⟨val, x⟩) := ⟨⟨_, rfl, ⟨.inl (OwS.below (OwS.mono HX6.out (by have q2 := HSk.out; have q3 := HB3.out.2.1; omega)) HBZ.out), fun b hb e => (by have q1 := HX6.out.lt b hb; have q2 := HU.out b e; have q3 := HB3.out.2.1; omega)⟩, HVAL.out⟩⟩
                  have HE1 : As (∀ v ∈ [Value.int .u64 (val : Int), Value.slice A3 x.length c3], v.oneCell' = true) := ⟨by intro v hv; simp at hv; rcases hv with rfl | rfl <;> rfl⟩
                  have HS6 : As (mid ≤ (W6.alloc (.cells #[.int .u64 (val : Int), .slice A3 x.length c3] 57)).heap.size) := ⟨by have q2 := HBZ.out.size; have q3 := HG6.out.size; have q4 := HSk.out; omega⟩
                  obtain ⟨d0, d1, d2, d3, -⟩ := HZ6.out.cells
                  clear d0 d1 d3
                  go_wp2_with (at_builtin; refine wpList_appG (E := OutE mid) mid rfl (.tmp 109) (.tmp 111) 49 57 (.agg #[.int .u64 0, .slice none 0 0]) 2 32 rfl Try.underlying49 info57 rfl (by decide) (by decide) ov rfl W6.heap.size rfl [.int .u64 (val : Int), .slice A3 x.length c3] HBN.out rfl HE1.out yk ⟨val, x⟩ HOZ.out HEN.out (fun v' w' hg ht => OutE.grow hg ht) (by have := HYL.out; omega) HS6.out ?_; intro v4 w4 ho hg ht; obtain ⟨A4, c4, hv4⟩ := OwG.form ho; obtain ⟨N4, hN4⟩ : ∃ N4 : Nat, N4 = (yk ++ [(⟨val, x⟩ : LOut)]).length := ⟨_, rfl⟩; rw [← hN4] at hv4; clear hN4; subst hv4; have HO4 := As.mk ho; have HS4 := As.mk (Nat.le_trans HS6.out hg.size); have HI4 := As.mk (OwG.apartE (InN.apart hg (OwG.kd HOZ.out) (by decide) (by decide)) HIZ.out hg (OwG.kd HOZ.out) (by decide)); have HZ4 := As.mk ((HZ6.out.below HBZ.out).far hg (fun b hb => (by have q1 := (OwG.lt HOk.out b hb).1; have q2 := HMID.out.1; omega))); have q1 := HZ4.out.cells.2.2.1; have f1 := HZ4.out.cells.2.2.2.2 2; clear ho hg ht d2)
                  go_roundw
                  case rel =>
                    have gset := grown_set w4 G 2 (.slice A4 N4 c4)
                    have HZF : As (QSt w (w4.setCell ⟨G, 2, none⟩ (.slice A4 N4 c4)) B RR G lc bc [.int .u32 (ver : Int), iv, .slice A4 N4 c4, .int .u32 0]) := ⟨HZ4.out.set 2 (.slice A4 N4 c4)⟩
                    have HOF : As (OwG (OutE mid) 57 2 (w4.setCell ⟨G, 2, none⟩ (.slice A4 N4 c4)) mid (.slice A4 N4 c4) (yk ++ [⟨val, x⟩])) := ⟨OwG.read (l := []) (bad := false) (OutE.read HMID.out.1 gset) HO4.out gset HMID.out.1⟩
                    have HIF : As (OwG (InN (G + 1)) 55 36 (w4.setCell ⟨G, 2, none⟩ (.slice A4 N4 c4)) (G + 1) iv xs) := ⟨OwG.read (l := []) (bad := false) (InN.read (Nat.lt_succ_self G) gset) HI4.out gset (Nat.lt_succ_self G)⟩
                    have HSF : As (mid ≤ (w4.setCell ⟨G, 2, none⟩ (.slice A4 N4 c4)).heap.size) := ⟨by have := HS4.out; simpa [World.setCell] using this⟩
                    refine ⟨k + 1, .slice A4 N4 c4, yk ++ [⟨val, x⟩], lc, bc, ?_, ?_, ?_, ?_, ?_, ?_, ?_, ?_⟩
                    · go_num
                    · omega
                    · exact HI2
                    · exact HZF
                    · exact HIF
                    · exact HOF
                    · exact HLc
                    · exact HSF
                  case measure => simp [intOf]; omega
              · have hkM : k = m := by omega
                have HF4 : As (yk = ys ∧ lk = l6 ∧ bk = b6) := ⟨by have h1 := HQk.out; rw [hkM, HQ6.out] at h1; simp only [Prod.mk.injEq] at h1; exact ⟨h1.1.symm, h1.2.1.symm, h1.2.2.symm⟩⟩
                clear hkM
                go_wp2
                go_meet
                obtain ⟨rfl, rfl, rfl⟩ := HF4.out
                exact ⟨_, HZk, HIk, HOk⟩
        case rest =>
          obtain ⟨ov, HZ6, HI6, HO6⟩ := hcut
          clear HZ5 HI5 HMS
          obtain ⟨AI, cI, hiv⟩ := OwG.form HI6.out
          obtain ⟨AO, cO, hov⟩ := OwG.form HO6.out
          subst hiv hov
          go_upto_block 4 with fail
          go_cut [13] (fun v13 wc => As (QSt w wc B RR G l7 b7 [.int .u32 (ver : Int), .slice AI xs.length cI, .slice AO ys.length cO, .int .u32 0]) ∧ As (OwG (InN (G + 1)) 55 36 wc (G + 1) (.slice AI xs.length cI) (setTo xs ws)) ∧ As (OwG (OutE mid) 57 2 wc mid (.slice AO ys.length cO) ys))
          case first =>
            as_aux_lemma =>
              go_wp2
              go_loopw [13] (fun v13 wr => ∃ (k : Nat) (wk : List (List (List UInt8))) (lk : List UInt8) (bk : Bool), v13 = .int .i64 (k : Int) ∧ (k : Int) ≤ n ∧ As (qW mk k (l6, b6) = (wk, lk, bk)) ∧ As (QSt w wr B RR G lk bk [.int .u32 (ver : Int), .slice AI xs.length cI, .slice AO ys.length cO, .int .u32 0]) ∧ As (OwG (InN (G + 1)) 55 36 wr (G + 1) (.slice AI xs.length cI) (setTo xs wk)) ∧ As (OwG (OutE mid) 57 2 wr mid (.slice AO ys.length cO) ys) ∧ As (lk.length ≤ 140737488355328)) (fun v13 _ => n - (intOf v13).toNat)
              case atStart =>
                refine ⟨0, [], l6, b6, rfl, by omega, ⟨?_⟩, HZ6, ?_, HO6, HL6⟩
                · cases mk <;> rfl
                · rw [setTo_nil]; exact HI6
              case round =>
                obtain ⟨k, wk, lk, bk, rfl, hk, HWk, HZk, HIk, HOk, HLk⟩ := hrel
                obtain ⟨A1, c1, k0, k1, f0, f1, -⟩ := Rdr.two HZk.out.at
                clear k0 f0 f1
                by_cases hlt : (k : Int) < n
                · cases mk with
                  | false =>
                    have HF4 : As (wk = ws ∧ lk = l7 ∧ bk = b7) := ⟨by have h1 := HWk.out; have h2 := HQ7.out; unfold qW at h1 h2; rw [if_neg (by decide)] at h1 h2; rw [h1] at h2; simp only [Prod.mk.injEq] at h2; exact ⟨h2.1, h2.2.1, h2.2.2⟩⟩
                    go_wp2
                    go_meet
                    obtain ⟨rfl, rfl, rfl⟩ := HF4.out
                    exact ⟨HZk, HIk, HOk⟩
                  | true => cases bk with
                    | true =>
                      have HF4 : As (wk = ws ∧ lk = l7 ∧ true = b7) := ⟨by have h1 := HWk.out; have h3 := HQ7.out; unfold qW at h1 h3; rw [if_pos rfl] at h1 h3; have h2 := iterS_bad qWit k (l6, b6) (by rw [h1]) n (by omega); rw [h1, h3] at h2; simp only [Prod.mk.injEq] at h2; exact ⟨h2.1.symm, h2.2.1.symm, h2.2.2.symm⟩⟩
                      go_wp2
                      go_meet
                      obtain ⟨rfl, rfl, rfl⟩ := HF4.out
                      exact ⟨HZk, HIk, HOk⟩
                    | false =>
                      have HWL : As (xs.length = n ∧ wk.length = k) := ⟨by
                        have h1 := HWk.out
                        unfold qW at h1
                        rw [if_pos rfl] at h1
                        obtain ⟨h2, -, h3⟩ := iterS_inv (g := fun ws => cnt ws.length ++ ws.flatMap cntB) (fun s x l' h => qWit_inv h) k (l6, b6) _ _ h1
                        simp only at h2
                        have h4 := HQ6.out
                        rw [h2] at h4
                        have h5 := (iterS_inv (fun s x l' h => qOut_inv h) m (l5, b5) _ _ h4).1
                        simp only at h5
                        have h6 := HQ5.out
                        rw [h5] at h6
                        have h7 := (qcount_inv h6).1
                        have h8 := HQ4.out
                        rw [h7] at h8
                        exact ⟨(iterS_inv (fun s x l' h => qIn_inv h) n (l3, b3) _ _ h8).2.2, h3⟩⟩
                      obtain ⟨x, hx⟩ : ∃ x, xs[k]? = some x := ⟨_, List.getElem?_eq_getElem (by have := HWL.out.1; omega)⟩
                      have HSX : As ((setTo xs wk)[k]? = some x) := ⟨by
                        have := setTo_at xs wk
                        rw [HWL.out.2] at this
                        rcases this with h | h
                        · rw [h]; exact hx
                        · have := HWL.out.1; omega⟩
                      have HX := As.mk hx
                      obtain ⟨g, o, hA, hn1, hn2, hn3, hn4⟩ := OwG.noWit HIk.out k x HSX.out (iterS_bare n (l3, b3) HQ4.out x (List.mem_of_getElem? hx))
                      subst hA
                      have HGG := As.mk (And.intro hn3 hn4)
                      have HGM := As.mk (HMID.out.2 g rfl)
                      have HN1 := As.mk hn1
                      have HN2 := As.mk hn2
                      have hkx : (k : Int) < xs.length := by have := HWL.out.1; omega
                      clear hn1 hn2 hn3 hn4 hx
                      obtain ⟨c0, la, ba, hqa⟩ : ∃ m p q, qcount 10 lk false = (m, p, q) := ⟨_, _, _, rfl⟩
                      obtain ⟨part, lz, bz, hqz⟩ : ∃ m p q, iterS qRow c0 (la, ba) = (m, p, q) := ⟨_, _, _, rfl⟩
                      have HLa : As (la.length ≤ 140737488355328) := ⟨by have := qcount_le_len 10 lk false; rw [hqa] at this; simp only at this; have := HLk.out; omega⟩
                      have HLz : As (lz.length ≤ 140737488355328) := ⟨by have := iterS_le qRow qRow_le c0 (la, ba); rw [hqz] at this; simp only at this; have := HLa.out; omega⟩
                      have hc10 : (c0 : Int) ≤ 10 := by have := qcount_top10 lk false; rw [hqa] at this; simp only at this; omega
                      have HI2 : As (qW true (k + 1) (l6, b6) = (wk ++ [part], lz, bz)) := ⟨by
                        have h1 := HWk.out
                        unfold qW at h1 ⊢
                        rw [if_pos rfl] at h1 ⊢
                        rw [iterS_good qWit k (l6, b6) (by rw [h1]), h1]
                        simp only [qWit]
                        rw [hqa]
                        simp only
                        rw [hqz]⟩
                      have HQa := As.mk hqa
                      have HQz := As.mk hqz
                      clear hqa hqz
                      go_upto_block 6 with (go_at_call 31; (with_reducible refine (qcount_to B lk false 10 _ HQa.out HZk.out.at HLk.out (by omega) (by omega)).mono ?_); rintro e w1 ⟨rfl, hr, hg⟩; have HZ1 := As.mk (HZk.out.read hr hg); have HI1 := As.mk (OwG.read (l := []) (bad := false) (InN.read HZk.out.ltB hg) HIk.out hg HZk.out.ltB); have HO1 := As.mk (OwG.read (l := []) (bad := false) (OutE.read HMB.out hg) HOk.out hg HMB.out); have HNE : some g ≠ some B := (fun e => by injection e with e2; have q1 := HGG.out.1; have q2 := HZk.out.BG; omega); have HC1 := As.mk (hg.cell (a := ⟨g, o + k * 36 + 35, none⟩) HN1.out HNE); have HC2 : As (w1.frozen? ⟨g, o + k * 36 + 35, none⟩ = false) := ⟨by rw [World.frozen?_of_block (hg.block g HGG.out.2 HNE)]; exact HN2.out⟩; clear HNE; have HG1 := As.mk (Nat.lt_of_lt_of_le HGG.out.2 hg.size); clear hr hg k1)
                      have HW0 : As (QWi w w1 w1 B RR G g (o + k * 36 + 35) la ba [.int .u32 (ver : Int), .slice (some ⟨g, o, none⟩) xs.length cI, .slice AO ys.length cO, .int .u32 0] (.slice none 0 0) []) := ⟨QWi.start HZ1.out HC1.out HC2.out HGG.out.1 HG1.out⟩
                      clear HZk HIk HOk HN1 HN2
                      go_wp2
                      go_loopw [14] (fun v14 wr => ∃ (j : Nat) (wv : Value) (pj : List (List UInt8)) (lj : List UInt8) (bj : Bool) (r : Int), v14 = .int .i64 r ∧ r = (c0 : Int) - (j : Int) ∧ 0 ≤ r ∧ As (iterS qRow j (la, ba) = (pj, lj, bj)) ∧ As (QWi w w1 wr B RR G g (o + k * 36 + 35) lj bj [.int .u32 (ver : Int), .slice (some ⟨g, o, none⟩) xs.length cI, .slice AO ys.length cO, .int .u32 0] wv pj) ∧ As (lj.length ≤ 140737488355328)) (fun v14 _ => (intOf v14).toNat)
                      case atStart => exact ⟨0, _, [], la, ba, c0, rfl, by omega, by omega, ⟨rfl⟩, HW0, HLa⟩
                      case round =>
                        obtain ⟨j, wv, pj, lj, bj, r, rfl, hrj, hr0, HJ, HWj, HLj⟩ := hrel
                        obtain ⟨A1, c1, k0, k1, f0, f1, -⟩ := Rdr.two HWj.out.at.at
                        clear k0 f0 f1
                        by_cases hlt2 : 0 < r
                        · cases bj with
                          | true =>
                            have HF5 : As (pj = part ∧ lj = lz ∧ true = bz) := ⟨by have h1 := HJ.out; have h2 := iterS_bad qRow j (la, ba) (by rw [h1]) c0 (by omega); rw [h1, HQz.out] at h2; simp only [Prod.mk.injEq] at h2; exact ⟨h2.1.symm, h2.2.1.symm, h2.2.2.symm⟩⟩
                            have HWZ : As (QWi w w1 wr B RR G g (o + k * 36 + 35) lz bz [.int .u32 (ver : Int), .slice (some ⟨g, o, none⟩) xs.length cI, .slice AO ys.length cO, .int .u32 0] wv part) := ⟨by obtain ⟨q1, q2, q3⟩ := HF5.out; rw [← q1, ← q2, ← q3]; exact HWj.out⟩
                            have HZF := As.mk HWZ.out.at
                            have HIF : As (OwG (InN (G + 1)) 55 36 wr (G + 1) (.slice (some ⟨g, o, none⟩) xs.length cI) (setTo xs (wk ++ [part]))) := ⟨by
                              rw [setTo_snoc xs wk x part (by rw [HWL.out.2]; exact HX.out), HWL.out.2]
                              exact QWi.ins HWZ.out HC1.out HI1.out HSX.out⟩
                            have HOF := As.mk (QWi.outs HWZ.out HC1.out HMID.out.1 HGM.out HO1.out)
                            clear HWZ HC1 HC2 HI1 HO1 HZ1 HW0 HG1 HWj
                            go_wp2
                            go_roundw
                            case rel =>
                              refine ⟨k + 1, wk ++ [part], lz, bz, ?_, ?_, ?_, ?_, ?_, ?_, ?_⟩
                              · go_num
                              · omega
                              · exact HI2
                              · exact HZF
                              · exact HIF
                              · exact HOF
                              · exact HLz
                            case measure => simp [intOf]; omega
                          | false =>
                            have HPL : As (pj.length ≤ 10) := ⟨by have := iterS_length qRow j (la, ba); rw [HJ.out] at this; simp only at this; omega⟩
                            obtain ⟨m3, le_, be, hqe⟩ : ∃ m p q, qcount 500 lj false = (m, p, q) := ⟨_, _, _, rfl⟩
                            obtain ⟨x2, lf, bf, hqf⟩ : ∃ x p q, qtake (m3 : Int) le_ be = (x, p, q) := ⟨_, _, _, rfl⟩
                            have HLe : As (le_.length ≤ 140737488355328) := ⟨by have := qcount_le_len 500 lj false; rw [hqe] at this; simp only at this; have := HLj.out; omega⟩
                            have HLf : As (lf.length ≤ 140737488355328) := ⟨by have := qtake_le m3 le_ be; rw [hqf] at this; simp only at this; have := HLe.out; omega⟩
                            have HJ2 : As (iterS qRow (j + 1) (la, ba) = (pj ++ [x2], lf, bf)) := ⟨by rw [iterS_good qRow j (la, ba) (by rw [HJ.out]), HJ.out]; simp only [qRow]; rw [hqe]; simp only; rw [hqf]⟩
                            have HQe := As.mk hqe
                            have HQf := As.mk hqf
                            clear hqe hqf
                            go_upto_region 29 with fail
                            refine wp_region_V (conds := [(17, (fun W : World => W.cell? ⟨G, 1, none⟩ = some (.slice (some ⟨g, o, none⟩) xs.length cI) ∧ W.cell? ⟨g, o + k * 36 + 35, none⟩ = some wv))]) (by kernel_rfl) ?_ (fun hHeld => ?_)
                            · intro q hq hL
                              simp only [List.mem_cons, List.not_mem_nil, or_false] at hq
                              rcases hq with rfl
                              · exact ⟨(HWj.out.below (below_dr wr)).at.cells.2.1, (HWj.out.below (below_dr wr)).cell⟩
                            refine wpAnyV_take0 (i := 0) (oi := ?_) (v := ?_) (by simp only [List.getElem?_toArray, List.getElem?_cons_zero, List.getElem?_cons_succ]; rfl) (by kernel_rfl) (by kernel_rfl) (by kernel_rfl) (by exact fun _ _ _ h => h) (by simp) (Or.inl ⟨by rfl, ?_⟩) (by assumption) ?_
                            rotate_left
                            · (intro w hSw; clear hSw; go_simp; first | done | with_reducible rfl)
                            try simp only [Act.put, List.setIfInBounds_toArray, List.set_cons_zero, List.set_cons_succ]
                            replace hHeld := SV.one (i := 0) (by simp) hHeld
                            refine wpAnyV_take (i := 1) (b := 17) (T := (fun W : World => W.cell? ⟨G, 1, none⟩ = some (.slice (some ⟨g, o, none⟩) xs.length cI) ∧ W.cell? ⟨g, o + k * 36 + 35, none⟩ = some wv)) (oi := ?_) (v := ?_) (by simp only [List.getElem?_toArray, List.getElem?_cons_zero, List.getElem?_cons_succ]; rfl) (by kernel_rfl) (by kernel_rfl) (by kernel_rfl) (by exact fun _ _ _ h => h) (by simp) (by simp only [List.getElem?_toArray, List.getElem?_cons_zero, List.getElem?_cons_succ]; rfl) (by kernel_rfl) (by kernel_rfl) (List.Mem.head _) (Or.inl ⟨by rfl, ?_⟩) (by assumption) ?_
                            rotate_left
                            · (intro w hSw; (try dsimp only at hSw); obtain ⟨hs1, hs2⟩ := hSw; go_simp; first | done | with_reducible rfl)
                            try simp only [Act.put, List.setIfInBounds_toArray, List.set_cons_zero, List.set_cons_succ]
                            replace hHeld := SV.one (i := 1) (by simp) hHeld
                            refine wpAnyV_take0 (i := 2) (oi := ?_) (v := ?_) (by simp only [List.getElem?_toArray, List.getElem?_cons_zero, List.getElem?_cons_succ]; rfl) (by kernel_rfl) (by kernel_rfl) (by kernel_rfl) (by exact fun _ _ _ h => h) (by simp) (Or.inl ⟨by rfl, ?_⟩) (by assumption) ?_
                            rotate_left
                            · (intro w hSw; clear hSw; go_simp; first | done | with_reducible rfl)
                            try simp only [Act.put, List.setIfInBounds_toArray, List.set_cons_zero, List.set_cons_succ]
                            replace hHeld := SV.one (i := 2) (by simp) hHeld
                            refine wpAnyV_take0 (i := 3) (oi := ?_) (v := ?_) (by simp only [List.getElem?_toArray, List.getElem?_cons_zero, List.getElem?_cons_succ]; rfl) (by kernel_rfl) (by kernel_rfl) (by kernel_rfl) (by exact fun _ _ _ h => h) (by simp) (Or.inl ⟨by rfl, ?_⟩) (by assumption) ?_
                            rotate_left
                            · (intro w hSw; clear hSw; go_simp; first | done | with_reducible rfl)
                            try simp only [Act.put, List.setIfInBounds_toArray, List.set_cons_zero, List.set_cons_succ]
                            replace hHeld := SV.one (i := 3) (by simp) hHeld
                            refine wpAnyV_take (i := 4) (b := 17) (T := (fun W : World => W.cell? ⟨G, 1, none⟩ = some (.slice (some ⟨g, o, none⟩) xs.length cI) ∧ W.cell? ⟨g, o + k * 36 + 35, none⟩ = some wv)) (oi := ?_) (v := ?_) (by simp only [List.getElem?_toArray, List.getElem?_cons_zero, List.getElem?_cons_succ]; rfl) (by kernel_rfl) (by kernel_rfl) (by kernel_rfl) (by exact fun _ _ _ h => h) (by simp) (by simp only [List.getElem?_toArray, List.getElem?_cons_zero, List.getElem?_cons_succ]; rfl) (by kernel_rfl) (by kernel_rfl) (List.Mem.head _) (Or.inl ⟨by rfl, ?_⟩) (by assumption) ?_
                            rotate_left
                            · (intro w hSw; (try dsimp only at hSw); obtain ⟨hs1, hs2⟩ := hSw; go_simp; first | done | with_reducible rfl)
                            try simp only [Act.put, List.setIfInBounds_toArray, List.set_cons_zero, List.set_cons_succ]
                            replace hHeld := SV.one (i := 4) (by simp) hHeld
                            refine wpAnyV_take0 (i := 5) (oi := ?_) (v := ?_) (by simp only [List.getElem?_toArray, List.getElem?_cons_zero, List.getElem?_cons_succ]; rfl) (by kernel_rfl) (by kernel_rfl) (by kernel_rfl) (by exact fun _ _ _ h => h) (by simp) (Or.inl ⟨by rfl, ?_⟩) (by assumption) ?_
                            rotate_left
                            · (intro w hSw; clear hSw; go_simp; first | done | with_reducible rfl)
                            try simp only [Act.put, List.setIfInBounds_toArray, List.set_cons_zero, List.set_cons_succ]
                            replace hHeld := SV.one (i := 5) (by simp) hHeld
                            refine wpAnyV_take0 (i := 6) (oi := ?_) (v := ?_) (by simp only [List.getElem?_toArray, List.getElem?_cons_zero, List.getElem?_cons_succ]; rfl) (by kernel_rfl) (by kernel_rfl) (by kernel_rfl) (by exact fun _ _ _ h => h) (by simp) (Or.inl ⟨by rfl, ?_⟩) (by assumption) ?_
                            rotate_left
                            · (intro w hSw; clear hSw; go_simp; first | done | with_reducible rfl)
                            try simp only [Act.put, List.setIfInBounds_toArray, List.set_cons_zero, List.set_cons_succ]
                            replace hHeld := SV.one (i := 6) (by simp) hHeld
                            refine wpAnyV_take0 (i := 7) (oi := ?_) (v := ?_) (by simp only [List.getElem?_toArray, List.getElem?_cons_zero, List.getElem?_cons_succ]; rfl) (by kernel_rfl) (by kernel_rfl) (by kernel_rfl) (by exact fun _ _ _ h => h) (by simp) (Or.inl ⟨by rfl, ?_⟩) (by assumption) ?_
                            rotate_left
                            · (intro w hSw; clear hSw; go_simp; first | done | with_reducible rfl)
                            try simp only [Act.put, List.setIfInBounds_toArray, List.set_cons_zero, List.set_cons_succ]
                            replace hHeld := SV.one (i := 7) (by simp) hHeld
                            refine wpAnyV_take (i := 8) (b := 17) (T := (fun W : World => W.cell? ⟨G, 1, none⟩ = some (.slice (some ⟨g, o, none⟩) xs.length cI) ∧ W.cell? ⟨g, o + k * 36 + 35, none⟩ = some wv)) (oi := ?_) (v := ?_) (by simp only [List.getElem?_toArray, List.getElem?_cons_zero, List.getElem?_cons_succ]; rfl) (by kernel_rfl) (by kernel_rfl) (by kernel_rfl) (by exact fun _ _ _ h => h) (by simp) (by simp only [List.getElem?_toArray, List.getElem?_cons_zero, List.getElem?_cons_succ]; rfl) (by kernel_rfl) (by kernel_rfl) (List.Mem.head _) (Or.inl ⟨by rfl, ?_⟩) (by assumption) ?_
                            rotate_left
                            · (intro w hSw; (try dsimp only at hSw); obtain ⟨hs1, hs2⟩ := hSw; go_simp; first | done | with_reducible rfl)
                            try simp only [Act.put, List.setIfInBounds_toArray, List.set_cons_zero, List.set_cons_succ]
                            replace hHeld := SV.one (i := 8) (by simp) hHeld
                            refine wpAnyV_take0 (i := 9) (oi := ?_) (v := ?_) (by simp only [List.getElem?_toArray, List.getElem?_cons_zero, List.getElem?_cons_succ]; rfl) (by kernel_rfl) (by kernel_rfl) (by kernel_rfl) (by exact fun _ _ _ h => h) (by simp) (Or.inl ⟨by rfl, ?_⟩) (by assumption) ?_
                            rotate_left
                            · (intro w hSw; clear hSw; go_simp; first | done | with_reducible rfl)
                            try simp only [Act.put, List.setIfInBounds_toArray, List.set_cons_zero, List.set_cons_succ]
                            replace hHeld := SV.one (i := 9) (by simp) hHeld
                            refine wpAnyV_take0 (i := 10) (oi := ?_) (v := ?_) (by simp only [List.getElem?_toArray, List.getElem?_cons_zero, List.getElem?_cons_succ]; rfl) (by kernel_rfl) (by kernel_rfl) (by kernel_rfl) (by exact fun _ _ _ h => h) (by simp) (Or.inl ⟨by rfl, ?_⟩) (by assumption) ?_
                            rotate_left
                            · (intro w hSw; clear hSw; go_simp; first | done | with_reducible rfl)
                            try simp only [Act.put, List.setIfInBounds_toArray, List.set_cons_zero, List.set_cons_succ]
                            replace hHeld := SV.one (i := 10) (by simp) hHeld
                            refine wpAnyV_ready (rs := [11]) (by kernel_rfl) (by simp) ?_
                            refine AllReadyV.cons (o := ?_) (by simp only [List.getElem?_toArray, List.getElem?_cons_zero, List.getElem?_cons_succ]; rfl) (fun K hK => ?_) ?_
                            · go_simp
                              (with_reducible refine (qcount_to B lj false 500 _ HQe.out (HWj.out.below (below_dr wr)).at.at HLj.out (by omega) (by omega)).mono ?_)
                              rintro e w3 ⟨rfl, hr, hg⟩
                              have HW3 := As.mk ((HWj.out.below (below_dr wr)).read hr hg)
                              have hS17 := And.intro HW3.out.at.cells.2.1 HW3.out.cell
                              clear hr hg
                              dsimp only
                              refine hK.out _ _ ?_ (fun hHeld2 => ?_)
                              · intro q hq hL
                                simp only [List.mem_cons, List.not_mem_nil, or_false] at hq
                                rcases hq with rfl
                                · exact hS17
                              clear hK K hHeld
                              have hHeld := hHeld2
                              clear hHeld2
                              try simp only [Act.put, List.setIfInBounds_toArray, List.set_cons_zero, List.set_cons_succ]
                              refine wpAnyV_ready (rs := [12]) (by kernel_rfl) (by simp) ?_
                              refine AllReadyV.cons (o := ?_) (by simp only [List.getElem?_toArray, List.getElem?_cons_zero, List.getElem?_cons_succ]; rfl) (fun K hK => ?_) ?_
                              · go_simp
                                (with_reducible refine (qtake_to B le_ be _ _ HQf.out HW3.out.at.at HLe.out).mono ?_)
                                rintro e w4 ⟨r4, rfl, ho, hr, hg⟩
                                obtain ⟨A4, c4, rfl, -⟩ := RdB.form ho.rd
                                have HX4 := As.mk ho
                                have HW4 := As.mk (HW3.out.read hr hg)
                                have HU4 := As.mk (And.intro HW3.out.size (fun b hb => (OwW.lt HW3.out.own b hb).2))
                                clear hS17
                                have hS17 := And.intro HW4.out.at.cells.2.1 HW4.out.cell
                                clear ho hr hg
                                dsimp only
                                refine hK.out _ _ ?_ (fun hHeld2 => ?_)
                                · intro q hq hL
                                  simp only [List.mem_cons, List.not_mem_nil, or_false] at hq
                                  rcases hq with rfl
                                  · exact hS17
                                clear hK K hHeld
                                have hHeld := hHeld2
                                clear hHeld2
                                try simp only [Act.put, List.setIfInBounds_toArray, List.set_cons_zero, List.set_cons_succ]
                                refine wpAnyV_ready (rs := [13]) (by kernel_rfl) (by simp) ?_
                                refine AllReadyV.cons (o := ?_) (by simp only [List.getElem?_toArray, List.getElem?_cons_zero, List.getElem?_cons_succ]; rfl) (fun K hK => ?_) ?_
                                · go_simp
                                  have HBZ := As.mk (below_al w4 (.cells #[.slice A4 x2.length c4] 24))
                                  have HW5 := As.mk (HW4.out.below HBZ.out)
                                  have HBN := As.mk (Box.new w4 #[.slice A4 x2.length c4] 24)
                                  have HEL : As (El (w4.alloc (.cells #[.slice A4 x2.length c4] 24)) w1.heap.size wv.ownBlock (.slice A4 x2.length c4) x2) := ⟨OwS.below (OwS.mono HX4.out HU4.out.1) HBZ.out, fun b hb e => by have q1 := HX4.out.lt b hb; have q2 := HU4.out.2 b e; omega⟩
                                  clear hS17
                                  have hS17 := And.intro HW5.out.at.cells.2.1 HW5.out.cell
                                  refine hK.out _ _ ?_ (fun hHeld2 => ?_)
                                  · intro q hq hL
                                    simp only [List.mem_cons, List.not_mem_nil, or_false] at hq
                                    rcases hq with rfl
                                    · exact hS17
                                  clear hK K hHeld
                                  have hHeld := hHeld2
                                  clear hHeld2
                                  try simp only [Act.put, List.setIfInBounds_toArray, List.set_cons_zero, List.set_cons_succ]
                                  refine wpAnyV_ready (rs := [14]) (by kernel_rfl) (by simp) ?_
                                  refine AllReadyV.cons (o := ?_) (by simp only [List.getElem?_toArray, List.getElem?_cons_zero, List.getElem?_cons_succ]; rfl) (fun K hK => ?_) ?_
                                  · refine step_appW w1.heap.size ?hgd (.tmp 150) (.tmp 155) ?ho wv ?hs w4.heap.size ?hx (.slice A4 x2.length c4) HBN.out rfl pj x2 HW5.out.own HEL.out ?hl HW5.out.size ?_
                                    case hgd => rfl
                                    case ho => rfl
                                    case hs => rfl
                                    case hx => rfl
                                    case hl => have := HPL.out; omega
                                    intro v6 w6 ho hg
                                    obtain ⟨A6, c6, hv6⟩ := OwW.form ho
                                    obtain ⟨N6, hN6⟩ : ∃ N6 : Nat, N6 = (pj ++ [x2]).length := ⟨_, rfl⟩
                                    rw [← hN6] at hv6
                                    clear hN6
                                    subst hv6
                                    have HA := As.mk (QWi.app HW5.out hg ho (by simp))
                                    clear ho hg hS17
                                    have hS17 := And.intro HA.out.2.2.2.cells.2.1 HA.out.2.1
                                    refine hK.out _ _ ?_ (fun hHeld2 => ?_)
                                    · intro q hq hL
                                      simp only [List.mem_cons, List.not_mem_nil, or_false] at hq
                                      rcases hq with rfl
                                      · exact hS17
                                    clear hK K hHeld
                                    have hHeld := hHeld2
                                    clear hHeld2
                                    try simp only [Act.put, List.setIfInBounds_toArray, List.set_cons_zero, List.set_cons_succ]
                                    refine wpAnyV_take0 (i := 15) (oi := ?_) (v := ?_) (by simp only [List.getElem?_toArray, List.getElem?_cons_zero, List.getElem?_cons_succ]; rfl) (by kernel_rfl) (by kernel_rfl) (by kernel_rfl) (by exact fun _ _ _ h => h) (by simp) (Or.inl ⟨by rfl, ?_⟩) (by assumption) ?_
                                    rotate_left
                                    · (intro w hSw; clear hSw; go_simp; first | done | with_reducible rfl)
                                    try simp only [Act.put, List.setIfInBounds_toArray, List.set_cons_zero, List.set_cons_succ]
                                    replace hHeld := SV.one (i := 15) (by simp) hHeld
                                    refine wpAnyV_take0 (i := 16) (oi := ?_) (v := ?_) (by simp only [List.getElem?_toArray, List.getElem?_cons_zero, List.getElem?_cons_succ]; rfl) (by kernel_rfl) (by kernel_rfl) (by kernel_rfl) (by exact fun _ _ _ h => h) (by simp) (Or.inl ⟨by rfl, ?_⟩) (by assumption) ?_
                                    rotate_left
                                    · (intro w hSw; clear hSw; go_simp; first | done | with_reducible rfl)
                                    try simp only [Act.put, List.setIfInBounds_toArray, List.set_cons_zero, List.set_cons_succ]
                                    replace hHeld := SV.one (i := 16) (by simp) hHeld
                                    refine wpAnyV_ready (rs := [17]) (by kernel_rfl) (by simp) ?_
                                    refine AllReadyV.cons (o := ?_) (by simp only [List.getElem?_toArray, List.getElem?_cons_zero, List.getElem?_cons_succ]; rfl) (fun K hK => ?_) ?_
                                    · have q1 := HA.out.2.1
                                      have f1 := HA.out.2.2.1
                                      go_simp
                                      clear q1 f1 hS17
                                      refine hK.out _ _ ?_ (fun hHeld2 => ?_)
                                      · intro q hq hL
                                        simp only [List.mem_cons, List.not_mem_nil, or_false] at hq
                                        rcases hq with rfl
                                        · exact Bool.noConfusion ((show _ = true from by kernel_rfl).symm.trans hL)
                                      clear hK K hHeld
                                      have hHeld := hHeld2
                                      clear hHeld2
                                      try simp only [Act.put, List.setIfInBounds_toArray, List.set_cons_zero, List.set_cons_succ]
                                      refine wpAnyV_done (by kernel_rfl) ?_ _
                                      clear hHeld
                                      have HWF := As.mk HA.out.1
                                      generalize (w6.setCell ⟨g, o + k * 36 + 35, none⟩ (.slice A6 N6 c6)) = W7 at HWF ⊢
                                      clear HA
                                      go_wp2
                                      go_roundw
                                      case rel =>
                                        refine ⟨j + 1, .slice A6 N6 c6, pj ++ [x2], lf, bf, r - 1, ?_, ?_, ?_, ?_, ?_, ?_⟩
                                        · go_num
                                        · omega
                                        · omega
                                        · exact HJ2
                                        · exact HWF
                                        · exact HLf
                                      case measure => simp [intOf]; omega
                                    exact AllReadyV.nil
                                  exact AllReadyV.nil
                                exact AllReadyV.nil
                              exact AllReadyV.nil
                            exact AllReadyV.nil
                        · have hjc : j = c0 := by omega
                          have HF5 : As (pj = part ∧ lj = lz ∧ bj = bz) := ⟨by have h1 := HJ.out; rw [hjc, HQz.out] at h1; simp only [Prod.mk.injEq] at h1; exact ⟨h1.1.symm, h1.2.1.symm, h1.2.2.symm⟩⟩
                          clear hjc
                          have HWZ : As (QWi w w1 wr B RR G g (o + k * 36 + 35) lz bz [.int .u32 (ver : Int), .slice (some ⟨g, o, none⟩) xs.length cI, .slice AO ys.length cO, .int .u32 0] wv part) := ⟨by obtain ⟨q1, q2, q3⟩ := HF5.out; rw [← q1, ← q2, ← q3]; exact HWj.out⟩
                          have HZF := As.mk HWZ.out.at
                          have HIF : As (OwG (InN (G + 1)) 55 36 wr (G + 1) (.slice (some ⟨g, o, none⟩) xs.length cI) (setTo xs (wk ++ [part]))) := ⟨by
                            rw [setTo_snoc xs wk x part (by rw [HWL.out.2]; exact HX.out), HWL.out.2]
                            exact QWi.ins HWZ.out HC1.out HI1.out HSX.out⟩
                          have HOF := As.mk (QWi.outs HWZ.out HC1.out HMID.out.1 HGM.out HO1.out)
                          clear HWZ HC1 HC2 HI1 HO1 HZ1 HW0 HG1 HWj
                          go_wp2
                          go_roundw
                          case rel =>
                            refine ⟨k + 1, wk ++ [part], lz, bz, ?_, ?_, ?_, ?_, ?_, ?_, ?_⟩
                            · go_num
                            · omega
                            · exact HI2
                            · exact HZF
                            · exact HIF
                            · exact HOF
                            · exact HLz
                          case measure => simp [intOf]; omega
                · have hkn : k = n := by omega
                  have HF4 : As (wk = ws ∧ lk = l7 ∧ bk = b7) := ⟨by have h1 := HWk.out; rw [hkn, HQ7.out] at h1; simp only [Prod.mk.injEq] at h1; exact ⟨h1.1.symm, h1.2.1.symm, h1.2.2.symm⟩⟩
                  clear hkn
                  go_wp2
                  go_meet
                  obtain ⟨rfl, rfl, rfl⟩ := HF4.out
                  exact ⟨HZk, HIk, HOk⟩
          case rest =>
            obtain ⟨HZ7, HI7, HO7⟩ := hcut
            clear HZ6 HI6 HO6
            go_upto_region 31 with (go_at_call 29; (with_reducible refine (qsmall_to B l7 b7 _ HQ8.out HZ7.out.at HL7.out).mono ?_); rintro e w8 ⟨rfl, hr, hg⟩; have HI8 := As.mk (OwG.read (l := []) (bad := false) (InN.read HZ7.out.ltB hg) HI7.out hg HZ7.out.ltB); have HO8 := As.mk (OwG.read (l := []) (bad := false) (OutE.read HMB.out hg) HO7.out hg HMB.out); have HZ8 := As.mk (HZ7.out.read hr hg); have q3 := HZ8.out.cells.2.2.2.1; have f3 := HZ8.out.cells.2.2.2.2 3; clear hr hg)
            have HZ9 : As (QSt w (w8.setCell ⟨G, 3, none⟩ (.int .u32 (lock : Int))) B RR G l8 b8 [.int .u32 (ver : Int), .slice AI xs.length cI, .slice AO ys.length cO, .int .u32 (lock : Int)]) := ⟨HZ8.out.set 3 (.int .u32 (lock : Int))⟩
            have HT9 : As (OwTx (w8.setCell ⟨G, 3, none⟩ (.int .u32 (lock : Int))) (G + 1) [.int .u32 (ver : Int), .slice AI xs.length cI, .slice AO ys.length cO, .int .u32 (lock : Int)] T) := ⟨by
              have gset := grown_set w8 G 3 (.int .u32 (lock : Int))
              rw [HT.out]
              exact ⟨_, _, mid, rfl, OwG.mono (OwG.read (l := []) (bad := false) (InN.read (Nat.lt_succ_self G) gset) HI8.out gset (Nat.lt_succ_self G)) (Nat.le_refl _) (InN.mono (Nat.le_refl _) _), OwG.read (l := []) (bad := false) (OutE.read HMID.out.1 gset) HO8.out gset HMID.out.1, HMID.out.1, HMID.out.2, HVER.out, HLOCK.out⟩⟩
            clear q3 f3 HZ8 HI8 HO8 HZ7 HI7 HO7
            generalize (w8.setCell ⟨G, 3, none⟩ (.int .u32 (lock : Int))) = W9 at HZ9 HT9 ⊢
            go_cut [187] (fun v187 wc => v187 = .bool (!ok) ∧ As (QSt w wc B RR G l8 b8 [.int .u32 (ver : Int), .slice AI xs.length cI, .slice AO ys.length cO, .int .u32 (lock : Int)] ∧ OwTx wc (G + 1) [.int .u32 (ver : Int), .slice AI xs.length cI, .slice AO ys.length cO, .int .u32 (lock : Int)] T))
            case first =>
              as_aux_lemma =>
                obtain ⟨d0, d1, d2, d3, -⟩ := HZ9.out.cells
                obtain ⟨A8, c8, k0, k1, -, -, -⟩ := Rdr.two HZ9.out.at
                have HBW : As (B < W9.heap.size) := ⟨by have q1 := HZ9.out.BG; have q2 := HZ9.out.lt; omega⟩
                cases b8 with
                | true =>
                  have HOK : As (ok = false) := ⟨by rcases HF.out with h | h; cases h.1; exact h.2.2.1⟩
                  refine wp_region_held_drew (S := (fun W : World => W.cell? ⟨B, 0, none⟩ = some (.slice A8 l8.length c8) ∧ W.cell? ⟨B, 1, none⟩ = some (.bool true) ∧ W.cell? ⟨G, 0, none⟩ = some (.int .u32 (ver : Int)) ∧ W.cell? ⟨G, 1, none⟩ = some (.slice AI xs.length cI) ∧ W.cell? ⟨G, 2, none⟩ = some (.slice AO ys.length cO) ∧ W.cell? ⟨G, 3, none⟩ = some (.int .u32 (lock : Int)))) (by kernel_rfl) ?_ (fun hHeld => ?_)
                  · exact ⟨k0, k1, d0, d1, d2, d3⟩
                  refine wpAnyH_take (i := 0) (oi := ?_) (v := ?_) (by simp only [List.getElem?_toArray, List.getElem?_cons_zero, List.getElem?_cons_succ]; rfl) (by kernel_rfl) (by kernel_rfl) (by kernel_rfl) (by exact fun _ _ _ h => h) (Or.inl ⟨by rfl, ?_⟩) (by assumption) ?_
                  rotate_left
                  · (intro w hSw; (try dsimp only at hSw); obtain ⟨s0, s1, s2, s3, s4, s5⟩ := hSw; go_simp; first | done | with_reducible rfl)
                  try simp only [Act.put, List.setIfInBounds_toArray, List.set_cons_zero, List.set_cons_succ]
                  refine wpAnyH_take (i := 1) (oi := ?_) (v := ?_) (by simp only [List.getElem?_toArray, List.getElem?_cons_zero, List.getElem?_cons_succ]; rfl) (by kernel_rfl) (by kernel_rfl) (by kernel_rfl) (by exact fun _ _ _ h => h) (Or.inl ⟨by rfl, ?_⟩) (by assumption) ?_
                  rotate_left
                  · (intro w hSw; (try dsimp only at hSw); obtain ⟨s0, s1, s2, s3, s4, s5⟩ := hSw; go_simp; first | done | with_reducible rfl)
                  try simp only [Act.put, List.setIfInBounds_toArray, List.set_cons_zero, List.set_cons_succ]
                  refine wpAnyH_take (i := 2) (oi := ?_) (v := ?_) (by simp only [List.getElem?_toArray, List.getElem?_cons_zero, List.getElem?_cons_succ]; rfl) (by kernel_rfl) (by kernel_rfl) (by kernel_rfl) (by exact fun _ _ _ h => h) (Or.inl ⟨by rfl, ?_⟩) (by assumption) ?_
                  rotate_left
                  · (intro w hSw; (try dsimp only at hSw); obtain ⟨s0, s1, s2, s3, s4, s5⟩ := hSw; go_simp; first | done | with_reducible rfl)
                  try simp only [Act.put, List.setIfInBounds_toArray, List.set_cons_zero, List.set_cons_succ]
                  refine wpAnyH_take (i := 3) (oi := ?_) (v := ?_) (by simp only [List.getElem?_toArray, List.getElem?_cons_zero, List.getElem?_cons_succ]; rfl) (by kernel_rfl) (by kernel_rfl) (by kernel_rfl) (by exact fun _ _ _ h => h) (Or.inl ⟨by rfl, ?_⟩) (by assumption) ?_
                  rotate_left
                  · (intro w hSw; (try dsimp only at hSw); obtain ⟨s0, s1, s2, s3, s4, s5⟩ := hSw; go_simp; first | done | with_reducible rfl)
                  try simp only [Act.put, List.setIfInBounds_toArray, List.set_cons_zero, List.set_cons_succ]
                  refine wpAnyH_take (i := 4) (oi := ?_) (v := ?_) (by simp only [List.getElem?_toArray, List.getElem?_cons_zero, List.getElem?_cons_succ]; rfl) (by kernel_rfl) (by kernel_rfl) (by kernel_rfl) (by exact fun _ _ _ h => h) (Or.inl ⟨by rfl, ?_⟩) (by assumption) ?_
                  rotate_left
                  · (intro w hSw; (try dsimp only at hSw); obtain ⟨s0, s1, s2, s3, s4, s5⟩ := hSw; go_simp; first | done | with_reducible rfl)
                  try simp only [Act.put, List.setIfInBounds_toArray, List.set_cons_zero, List.set_cons_succ]
                  refine wpAnyH_take (i := 5) (oi := ?_) (v := undef) (by simp only [List.getElem?_toArray, List.getElem?_cons_zero, List.getElem?_cons_succ]; rfl) (by kernel_rfl) (by kernel_rfl) (by kernel_rfl) (by exact fun _ _ _ h => h) (Or.inr ⟨by rfl, rfl⟩) (by assumption) ?_
                  try simp only [Act.put, List.setIfInBounds_toArray, List.set_cons_zero, List.set_cons_succ]
                  refine wpAnyH_take (i := 6) (oi := ?_) (v := undef) (by simp only [List.getElem?_toArray, List.getElem?_cons_zero, List.getElem?_cons_succ]; rfl) (by kernel_rfl) (by kernel_rfl) (by kernel_rfl) (by exact fun _ _ _ h => h) (Or.inr ⟨by rfl, rfl⟩) (by assumption) ?_
                  try simp only [Act.put, List.setIfInBounds_toArray, List.set_cons_zero, List.set_cons_succ]
                  refine wpAnyH_take (i := 7) (oi := ?_) (v := undef) (by simp only [List.getElem?_toArray, List.getElem?_cons_zero, List.getElem?_cons_succ]; rfl) (by kernel_rfl) (by kernel_rfl) (by kernel_rfl) (by exact fun _ _ _ h => h) (Or.inr ⟨by rfl, rfl⟩) (by assumption) ?_
                  try simp only [Act.put, List.setIfInBounds_toArray, List.set_cons_zero, List.set_cons_succ]
                  refine wpAnyH_take (i := 8) (oi := ?_) (v := ?_) (by simp only [List.getElem?_toArray, List.getElem?_cons_zero, List.getElem?_cons_succ]; rfl) (by kernel_rfl) (by kernel_rfl) (by kernel_rfl) (by exact fun _ _ _ h => h) (Or.inl ⟨by rfl, ?_⟩) (by assumption) ?_
                  rotate_left
                  · (intro w hSw; (try dsimp only at hSw); obtain ⟨s0, s1, s2, s3, s4, s5⟩ := hSw; go_simp; first | done | with_reducible rfl)
                  try simp only [Act.put, List.setIfInBounds_toArray, List.set_cons_zero, List.set_cons_succ]
                  refine wpAnyH_take (i := 9) (oi := ?_) (v := ?_) (by simp only [List.getElem?_toArray, List.getElem?_cons_zero, List.getElem?_cons_succ]; rfl) (by kernel_rfl) (by kernel_rfl) (by kernel_rfl) (by exact fun _ _ _ h => h) (Or.inl ⟨by rfl, ?_⟩) (by assumption) ?_
                  rotate_left
                  · (intro w hSw; (try dsimp only at hSw); obtain ⟨s0, s1, s2, s3, s4, s5⟩ := hSw; go_simp; first | done | with_reducible rfl)
                  try simp only [Act.put, List.setIfInBounds_toArray, List.set_cons_zero, List.set_cons_succ]
                  refine wpAnyH_take (i := 10) (oi := ?_) (v := undef) (by simp only [List.getElem?_toArray, List.getElem?_cons_zero, List.getElem?_cons_succ]; rfl) (by kernel_rfl) (by kernel_rfl) (by kernel_rfl) (by exact fun _ _ _ h => h) (Or.inr ⟨by rfl, rfl⟩) (by assumption) ?_
                  try simp only [Act.put, List.setIfInBounds_toArray, List.set_cons_zero, List.set_cons_succ]
                  refine wpAnyH_take (i := 11) (oi := ?_) (v := undef) (by simp only [List.getElem?_toArray, List.getElem?_cons_zero, List.getElem?_cons_succ]; rfl) (by kernel_rfl) (by kernel_rfl) (by kernel_rfl) (by exact fun _ _ _ h => h) (Or.inr ⟨by rfl, rfl⟩) (by assumption) ?_
                  try simp only [Act.put, List.setIfInBounds_toArray, List.set_cons_zero, List.set_cons_succ]
                  refine wpAnyH_take (i := 12) (oi := ?_) (v := undef) (by simp only [List.getElem?_toArray, List.getElem?_cons_zero, List.getElem?_cons_succ]; rfl) (by kernel_rfl) (by kernel_rfl) (by kernel_rfl) (by exact fun _ _ _ h => h) (Or.inr ⟨by rfl, rfl⟩) (by assumption) ?_
                  try simp only [Act.put, List.setIfInBounds_toArray, List.set_cons_zero, List.set_cons_succ]
                  refine wpAnyH_take (i := 13) (oi := ?_) (v := undef) (by simp only [List.getElem?_toArray, List.getElem?_cons_zero, List.getElem?_cons_succ]; rfl) (by kernel_rfl) (by kernel_rfl) (by kernel_rfl) (by exact fun _ _ _ h => h) (Or.inr ⟨by rfl, rfl⟩) (by assumption) ?_
                  try simp only [Act.put, List.setIfInBounds_toArray, List.set_cons_zero, List.set_cons_succ]
                  refine wpAnyH_take (i := 14) (oi := ?_) (v := undef) (by simp only [List.getElem?_toArray, List.getElem?_cons_zero, List.getElem?_cons_succ]; rfl) (by kernel_rfl) (by kernel_rfl) (by kernel_rfl) (by exact fun _ _ _ h => h) (Or.inr ⟨by rfl, rfl⟩) (by assumption) ?_
                  try simp only [Act.put, List.setIfInBounds_toArray, List.set_cons_zero, List.set_cons_succ]
                  refine wpAnyH_take (i := 15) (oi := ?_) (v := undef) (by simp only [List.getElem?_toArray, List.getElem?_cons_zero, List.getElem?_cons_succ]; rfl) (by kernel_rfl) (by kernel_rfl) (by kernel_rfl) (by exact fun _ _ _ h => h) (Or.inr ⟨by rfl, rfl⟩) (by assumption) ?_
                  try simp only [Act.put, List.setIfInBounds_toArray, List.set_cons_zero, List.set_cons_succ]
                  refine wpAnyH_take (i := 16) (oi := ?_) (v := undef) (by simp only [List.getElem?_toArray, List.getElem?_cons_zero, List.getElem?_cons_succ]; rfl) (by kernel_rfl) (by kernel_rfl) (by kernel_rfl) (by exact fun _ _ _ h => h) (Or.inr ⟨by rfl, rfl⟩) (by assumption) ?_
                  try simp only [Act.put, List.setIfInBounds_toArray, List.set_cons_zero, List.set_cons_succ]
                  refine wpAnyH_take (i := 17) (oi := ?_) (v := undef) (by simp only [List.getElem?_toArray, List.getElem?_cons_zero, List.getElem?_cons_succ]; rfl) (by kernel_rfl) (by kernel_rfl) (by kernel_rfl) (by exact fun _ _ _ h => h) (Or.inr ⟨by rfl, rfl⟩) (by assumption) ?_
                  try simp only [Act.put, List.setIfInBounds_toArray, List.set_cons_zero, List.set_cons_succ]
                  refine wpAnyH_take (i := 18) (oi := ?_) (v := undef) (by simp only [List.getElem?_toArray, List.getElem?_cons_zero, List.getElem?_cons_succ]; rfl) (by kernel_rfl) (by kernel_rfl) (by kernel_rfl) (by exact fun _ _ _ h => h) (Or.inr ⟨by rfl, rfl⟩) (by assumption) ?_
                  try simp only [Act.put, List.setIfInBounds_toArray, List.set_cons_zero, List.set_cons_succ]
                  refine wpAnyH_take (i := 19) (oi := ?_) (v := undef) (by simp only [List.getElem?_toArray, List.getElem?_cons_zero, List.getElem?_cons_succ]; rfl) (by kernel_rfl) (by kernel_rfl) (by kernel_rfl) (by exact fun _ _ _ h => h) (Or.inr ⟨by rfl, rfl⟩) (by assumption) ?_
                  try simp only [Act.put, List.setIfInBounds_toArray, List.set_cons_zero, List.set_cons_succ]
                  refine wpAnyH_take (i := 20) (oi := ?_) (v := undef) (by simp only [List.getElem?_toArray, List.getElem?_cons_zero, List.getElem?_cons_succ]; rfl) (by kernel_rfl) (by kernel_rfl) (by kernel_rfl) (by exact fun _ _ _ h => h) (Or.inr ⟨by rfl, rfl⟩) (by assumption) ?_
                  try simp only [Act.put, List.setIfInBounds_toArray, List.set_cons_zero, List.set_cons_succ]
                  refine wpAnyH_take (i := 21) (oi := ?_) (v := undef) (by simp only [List.getElem?_toArray, List.getElem?_cons_zero, List.getElem?_cons_succ]; rfl) (by kernel_rfl) (by kernel_rfl) (by kernel_rfl) (by exact fun _ _ _ h => h) (Or.inr ⟨by rfl, rfl⟩) (by assumption) ?_
                  try simp only [Act.put, List.setIfInBounds_toArray, List.set_cons_zero, List.set_cons_succ]
                  refine wpAnyH_take (i := 22) (oi := ?_) (v := undef) (by simp only [List.getElem?_toArray, List.getElem?_cons_zero, List.getElem?_cons_succ]; rfl) (by kernel_rfl) (by kernel_rfl) (by kernel_rfl) (by exact fun _ _ _ h => h) (Or.inr ⟨by rfl, rfl⟩) (by assumption) ?_
                  try simp only [Act.put, List.setIfInBounds_toArray, List.set_cons_zero, List.set_cons_succ]
                  refine wpAnyH_take (i := 23) (oi := ?_) (v := undef) (by simp only [List.getElem?_toArray, List.getElem?_cons_zero, List.getElem?_cons_succ]; rfl) (by kernel_rfl) (by kernel_rfl) (by kernel_rfl) (by exact fun _ _ _ h => h) (Or.inr ⟨by rfl, rfl⟩) (by assumption) ?_
                  try simp only [Act.put, List.setIfInBounds_toArray, List.set_cons_zero, List.set_cons_succ]
                  refine wpAnyH_take (i := 24) (oi := ?_) (v := undef) (by simp only [List.getElem?_toArray, List.getElem?_cons_zero, List.getElem?_cons_succ]; rfl) (by kernel_rfl) (by kernel_rfl) (by kernel_rfl) (by exact fun _ _ _ h => h) (Or.inr ⟨by rfl, rfl⟩) (by assumption) ?_
                  try simp only [Act.put, List.setIfInBounds_toArray, List.set_cons_zero, List.set_cons_succ]
                  refine wpAnyH_take (i := 25) (oi := ?_) (v := ?_) (by simp only [List.getElem?_toArray, List.getElem?_cons_zero, List.getElem?_cons_succ]; rfl) (by kernel_rfl) (by kernel_rfl) (by kernel_rfl) (by exact fun _ _ _ h => h) (Or.inl ⟨by rfl, ?_⟩) (by assumption) ?_
                  rotate_left
                  · (intro w hSw; (try dsimp only at hSw); obtain ⟨s0, s1, s2, s3, s4, s5⟩ := hSw; go_simp; first | done | with_reducible rfl)
                  try simp only [Act.put, List.setIfInBounds_toArray, List.set_cons_zero, List.set_cons_succ]
                  refine wpAnyH_done (by kernel_rfl) ?_ _
                  go_wp2
                  go_meet
                  rw [HOK.out]
                  exact ⟨rfl, ⟨HZ9.out.below (below_dr _), HT9.out.below (below_dr _)⟩⟩

                | false =>
                  by_cases hm : mayT T
                  · have HDM : As (decide (mayT T) = true) := ⟨decide_eq_true hm⟩
                    have HM := As.mk hm
                    clear hm
                    obtain ⟨K9, hK9⟩ : ∃ K : Nat, K = l.length - l8.length := ⟨_, rfl⟩
                    have hK1 : K9 ≤ l.length := by omega
                    have hsub : (l.length : Int) - (l8.length : Int) = (K9 : Int) := by have := HL8.out.2; omega
                    have hwrap : IntKind.i64.wrap (K9 : Int) = (K9 : Int) := IntWalk.i64_in _ (by have := HL.out; omega)
                    have hKc : (K9 : Int) ≤ (c0 : Int) := by
                      obtain ⟨A', c', he, hc, -⟩ := RdB.form HWAS.out
                      injection he with e1 e2 e3
                      omega
                    have HWT0 := As.mk (RdB.to (HR.out.keep HWAS.out HZ9.out.gr) K9 hK1)
                    have HTL : As ((l.take K9).length = K9) := ⟨by rw [List.length_take]; exact Nat.min_eq_left hK1⟩
                    have HK9 := As.mk hK9
                    clear hK9 hK1
                    by_cases hs : bytesT T = l.take K9
                    · have HOK : As (ok = true) := ⟨by rcases HF.out with h | h; exact h.2.2.2.2.1; exact absurd ⟨rfl, HM.out, by rw [← HK9.out]; exact hs⟩ h.1⟩
                      have HWT : As (RdB W9 (.slice A0 K9 c0) (bytesT T)) := ⟨by rw [hs]; exact HWT0.out⟩
                      clear hs HWT0
                      refine wp_region_held_drew (S := (fun W : World => W.cell? ⟨B, 0, none⟩ = some (.slice A8 l8.length c8) ∧ W.cell? ⟨B, 1, none⟩ = some (.bool false) ∧ W.cell? ⟨G, 0, none⟩ = some (.int .u32 (ver : Int)) ∧ W.cell? ⟨G, 1, none⟩ = some (.slice AI xs.length cI) ∧ W.cell? ⟨G, 2, none⟩ = some (.slice AO ys.length cO) ∧ W.cell? ⟨G, 3, none⟩ = some (.int .u32 (lock : Int)))) (by kernel_rfl) ?_ (fun hHeld => ?_)
                      · exact ⟨k0, k1, d0, d1, d2, d3⟩
                      refine wpAnyH_take (i := 0) (oi := ?_) (v := ?_) (by simp only [List.getElem?_toArray, List.getElem?_cons_zero, List.getElem?_cons_succ]; rfl) (by kernel_rfl) (by kernel_rfl) (by kernel_rfl) (by exact fun _ _ _ h => h) (Or.inl ⟨by rfl, ?_⟩) (by assumption) ?_
                      rotate_left
                      · (intro w hSw; (try dsimp only at hSw); obtain ⟨s0, s1, s2, s3, s4, s5⟩ := hSw; go_simp; first | done | with_reducible rfl)
                      try simp only [Act.put, List.setIfInBounds_toArray, List.set_cons_zero, List.set_cons_succ]
                      refine wpAnyH_take (i := 1) (oi := ?_) (v := ?_) (by simp only [List.getElem?_toArray, List.getElem?_cons_zero, List.getElem?_cons_succ]; rfl) (by kernel_rfl) (by kernel_rfl) (by kernel_rfl) (by exact fun _ _ _ h => h) (Or.inl ⟨by rfl, ?_⟩) (by assumption) ?_
                      rotate_left
                      · (intro w hSw; (try dsimp only at hSw); obtain ⟨s0, s1, s2, s3, s4, s5⟩ := hSw; go_simp; first | done | with_reducible rfl)
                      try simp only [Act.put, List.setIfInBounds_toArray, List.set_cons_zero, List.set_cons_succ]
                      refine wpAnyH_take (i := 2) (oi := ?_) (v := ?_) (by simp only [List.getElem?_toArray, List.getElem?_cons_zero, List.getElem?_cons_succ]; rfl) (by kernel_rfl) (by kernel_rfl) (by kernel_rfl) (by exact fun _ _ _ h => h) (Or.inl ⟨by rfl, ?_⟩) (by assumption) ?_
                      rotate_left
                      · (intro w hSw; (try dsimp only at hSw); obtain ⟨s0, s1, s2, s3, s4, s5⟩ := hSw; go_simp; first | done | with_reducible rfl)
                      try simp only [Act.put, List.setIfInBounds_toArray, List.set_cons_zero, List.set_cons_succ]
                      refine wpAnyH_take (i := 3) (oi := ?_) (v := ?_) (by simp only [List.getElem?_toArray, List.getElem?_cons_zero, List.getElem?_cons_succ]; rfl) (by kernel_rfl) (by kernel_rfl) (by kernel_rfl) (by exact fun _ _ _ h => h) (Or.inl ⟨by rfl, ?_⟩) (by assumption) ?_
                      rotate_left
                      · (intro w hSw; (try dsimp only at hSw); obtain ⟨s0, s1, s2, s3, s4, s5⟩ := hSw; go_simp; first | done | with_reducible rfl)
                      try simp only [Act.put, List.setIfInBounds_toArray, List.set_cons_zero, List.set_cons_succ]
                      refine wpAnyH_take (i := 4) (oi := ?_) (v := ?_) (by simp only [List.getElem?_toArray, List.getElem?_cons_zero, List.getElem?_cons_succ]; rfl) (by kernel_rfl) (by kernel_rfl) (by kernel_rfl) (by exact fun _ _ _ h => h) (Or.inl ⟨by rfl, ?_⟩) (by assumption) ?_
                      rotate_left
                      · (intro w hSw; (try dsimp only at hSw); obtain ⟨s0, s1, s2, s3, s4, s5⟩ := hSw; go_simp; first | done | with_reducible rfl)
                      try simp only [Act.put, List.setIfInBounds_toArray, List.set_cons_zero, List.set_cons_succ]
                      refine wpAnyH_take (i := 5) (oi := ?_) (v := ?_) (by simp only [List.getElem?_toArray, List.getElem?_cons_zero, List.getElem?_cons_succ]; rfl) (by kernel_rfl) (by kernel_rfl) (by kernel_rfl) (by exact fun _ _ _ h => h) (Or.inl ⟨by rfl, ?_⟩) (by assumption) ?_
                      rotate_left
                      · (intro w hSw; (try dsimp only at hSw); obtain ⟨s0, s1, s2, s3, s4, s5⟩ := hSw; go_simp; first | done | with_reducible rfl)
                      try simp only [Act.put, List.setIfInBounds_toArray, List.set_cons_zero, List.set_cons_succ]
                      refine wpAnyH_ready (rs := [6]) (by kernel_rfl) (by simp) ?_
                      refine AllReadyH.cons (o := ?_) (by simp only [List.getElem?_toArray, List.getElem?_cons_zero, List.getElem?_cons_succ]; rfl) (fun K hK => ?_) ?_
                      · go_simp
                        (with_reducible refine (qmay_any _ T _ HDM.out (HT9.out.below (below_dr W9)).rd).mono ?_)
                        rintro e w12 ⟨rfl, hb⟩
                        have HB12 := As.mk (show Below W9.heap.size W9 w12 from (below_dr W9).trans hb)
                        have HZ12 := As.mk (HZ9.out.below HB12.out)
                        have HT12 := As.mk (HT9.out.below HB12.out)
                        obtain ⟨d0, d1, d2, d3, -⟩ := HZ12.out.cells
                        have hSn : (fun W : World => W.cell? ⟨B, 0, none⟩ = some (.slice A8 l8.length c8) ∧ W.cell? ⟨B, 1, none⟩ = some (.bool false) ∧ W.cell? ⟨G, 0, none⟩ = some (.int .u32 (ver : Int)) ∧ W.cell? ⟨G, 1, none⟩ = some (.slice AI xs.length cI) ∧ W.cell? ⟨G, 2, none⟩ = some (.slice AO ys.length cO) ∧ W.cell? ⟨G, 3, none⟩ = some (.int .u32 (lock : Int))) w12 := ⟨(HB12.out.cell (HBW.out)).trans k0, (HB12.out.cell (HBW.out)).trans k1, d0, d1, d2, d3⟩
                        clear hb
                        dsimp only
                        refine hK.out _ _ ?_ (fun hHeld2 => ?_)
                        · exact hSn
                        clear hK K hHeld
                        have hHeld := hHeld2
                        clear hHeld2
                        try simp only [Act.put, List.setIfInBounds_toArray, List.set_cons_zero, List.set_cons_succ]
                        refine wpAnyH_take (i := 7) (oi := ?_) (v := ?_) (by simp only [List.getElem?_toArray, List.getElem?_cons_zero, List.getElem?_cons_succ]; rfl) (by kernel_rfl) (by kernel_rfl) (by kernel_rfl) (by exact fun _ _ _ h => h) (Or.inl ⟨by rfl, ?_⟩) (by assumption) ?_
                        rotate_left
                        · (intro w hSw; (try dsimp only at hSw); obtain ⟨s0, s1, s2, s3, s4, s5⟩ := hSw; go_simp; first | done | with_reducible rfl)
                        try simp only [Act.put, List.setIfInBounds_toArray, List.set_cons_zero, List.set_cons_succ]
                        refine wpAnyH_take (i := 8) (oi := ?_) (v := ?_) (by simp only [List.getElem?_toArray, List.getElem?_cons_zero, List.getElem?_cons_succ]; rfl) (by kernel_rfl) (by kernel_rfl) (by kernel_rfl) (by exact fun _ _ _ h => h) (Or.inl ⟨by rfl, ?_⟩) (by assumption) ?_
                        rotate_left
                        · (intro w hSw; (try dsimp only at hSw); obtain ⟨s0, s1, s2, s3, s4, s5⟩ := hSw; go_simp; first | done | with_reducible rfl)
                        try simp only [Act.put, List.setIfInBounds_toArray, List.set_cons_zero, List.set_cons_succ]
                        refine wpAnyH_take (i := 9) (oi := ?_) (v := ?_) (by simp only [List.getElem?_toArray, List.getElem?_cons_zero, List.getElem?_cons_succ]; rfl) (by kernel_rfl) (by kernel_rfl) (by kernel_rfl) (by exact fun _ _ _ h => h) (Or.inl ⟨by rfl, ?_⟩) (by assumption) ?_
                        rotate_left
                        · (intro w hSw; (try dsimp only at hSw); obtain ⟨s0, s1, s2, s3, s4, s5⟩ := hSw; go_simp; first | done | with_reducible rfl)
                        try simp only [Act.put, List.setIfInBounds_toArray, List.set_cons_zero, List.set_cons_succ]
                        refine wpAnyH_take (i := 10) (oi := ?_) (v := ?_) (by simp only [List.getElem?_toArray, List.getElem?_cons_zero, List.getElem?_cons_succ]; rfl) (by kernel_rfl) (by kernel_rfl) (by kernel_rfl) (by exact fun _ _ _ h => h) (Or.inl ⟨by rfl, ?_⟩) (by assumption) ?_
                        rotate_left
                        · (intro w hSw; (try dsimp only at hSw); obtain ⟨s0, s1, s2, s3, s4, s5⟩ := hSw; go_simp; first | done | with_reducible rfl)
                        try simp only [Act.put, List.setIfInBounds_toArray, List.set_cons_zero, List.set_cons_succ]
                        refine wpAnyH_take (i := 13) (oi := ?_) (v := ?_) (by simp only [List.getElem?_toArray, List.getElem?_cons_zero, List.getElem?_cons_succ]; rfl) (by kernel_rfl) (by kernel_rfl) (by kernel_rfl) (by exact fun _ _ _ h => h) (Or.inl ⟨by rfl, ?_⟩) (by assumption) ?_
                        rotate_left
                        · (intro w hSw; (try dsimp only at hSw); obtain ⟨s0, s1, s2, s3, s4, s5⟩ := hSw; go_simp; first | done | with_reducible rfl)
                        try simp only [Act.put, List.setIfInBounds_toArray, List.set_cons_zero, List.set_cons_succ]
                        refine wpAnyH_take (i := 14) (oi := ?_) (v := ?_) (by simp only [List.getElem?_toArray, List.getElem?_cons_zero, List.getElem?_cons_succ]; rfl) (by kernel_rfl) (by kernel_rfl) (by kernel_rfl) (by exact fun _ _ _ h => h) (Or.inl ⟨by rfl, ?_⟩) (by assumption) ?_
                        rotate_left
                        · (intro w hSw; (try dsimp only at hSw); obtain ⟨s0, s1, s2, s3, s4, s5⟩ := hSw; go_simp; first | done | with_reducible rfl)
                        try simp only [Act.put, List.setIfInBounds_toArray, List.set_cons_zero, List.set_cons_succ]
                        refine wpAnyH_take (i := 15) (oi := ?_) (v := ?_) (by simp only [List.getElem?_toArray, List.getElem?_cons_zero, List.getElem?_cons_succ]; rfl) (by kernel_rfl) (by kernel_rfl) (by kernel_rfl) (by exact fun _ _ _ h => h) (Or.inl ⟨by rfl, ?_⟩) (by assumption) ?_
                        rotate_left
                        · (intro w hSw; (try dsimp only at hSw); obtain ⟨s0, s1, s2, s3, s4, s5⟩ := hSw; go_simp; first | done | with_reducible rfl)
                        try simp only [Act.put, List.setIfInBounds_toArray, List.set_cons_zero, List.set_cons_succ]
                        refine wpAnyH_take (i := 16) (oi := ?_) (v := ?_) (by simp only [List.getElem?_toArray, List.getElem?_cons_zero, List.getElem?_cons_succ]; rfl) (by kernel_rfl) (by kernel_rfl) (by kernel_rfl) (by exact fun _ _ _ h => h) (Or.inl ⟨by rfl, ?_⟩) (by assumption) ?_
                        rotate_left
                        · (intro w hSw; (try dsimp only at hSw); obtain ⟨s0, s1, s2, s3, s4, s5⟩ := hSw; go_simp; first | done | with_reducible rfl)
                        try simp only [Act.put, List.setIfInBounds_toArray, List.set_cons_zero, List.set_cons_succ]
                        refine wpAnyH_take (i := 17) (oi := ?_) (v := ?_) (by simp only [List.getElem?_toArray, List.getElem?_cons_zero, List.getElem?_cons_succ]; rfl) (by kernel_rfl) (by kernel_rfl) (by kernel_rfl) (by exact fun _ _ _ h => h) (Or.inl ⟨by rfl, ?_⟩) (by assumption) ?_
                        rotate_left
                        · (intro w hSw; (try dsimp only at hSw); obtain ⟨s0, s1, s2, s3, s4, s5⟩ := hSw; go_simp; first | done | with_reducible rfl)
                        try simp only [Act.put, List.setIfInBounds_toArray, List.set_cons_zero, List.set_cons_succ]
                        refine wpAnyH_take (i := 18) (oi := ?_) (v := ?_) (by simp only [List.getElem?_toArray, List.getElem?_cons_zero, List.getElem?_cons_succ]; rfl) (by kernel_rfl) (by kernel_rfl) (by kernel_rfl) (by exact fun _ _ _ h => h) (Or.inl ⟨by rfl, ?_⟩) (by assumption) ?_
                        rotate_left
                        · (intro w hSw; (try dsimp only at hSw); obtain ⟨s0, s1, s2, s3, s4, s5⟩ := hSw; go_simp; first | done | with_reducible rfl)
                        try simp only [Act.put, List.setIfInBounds_toArray, List.set_cons_zero, List.set_cons_succ]
                        refine wpAnyH_take (i := 19) (oi := ?_) (v := ?_) (by simp only [List.getElem?_toArray, List.getElem?_cons_zero, List.getElem?_cons_succ]; rfl) (by kernel_rfl) (by kernel_rfl) (by kernel_rfl) (by exact fun _ _ _ h => h) (Or.inl ⟨by rfl, ?_⟩) (by assumption) ?_
                        rotate_left
                        · (intro w hSw; (try dsimp only at hSw); obtain ⟨s0, s1, s2, s3, s4, s5⟩ := hSw; go_simp; first | done | with_reducible rfl)
                        try simp only [Act.put, List.setIfInBounds_toArray, List.set_cons_zero, List.set_cons_succ]
                        refine wpAnyH_take (i := 20) (oi := ?_) (v := ?_) (by simp only [List.getElem?_toArray, List.getElem?_cons_zero, List.getElem?_cons_succ]; rfl) (by kernel_rfl) (by kernel_rfl) (by kernel_rfl) (by exact fun _ _ _ h => h) (Or.inl ⟨by rfl, ?_⟩) (by assumption) ?_
                        rotate_left
                        · (intro w hSw; (try dsimp only at hSw); obtain ⟨s0, s1, s2, s3, s4, s5⟩ := hSw; go_simp; first | done | with_reducible rfl)
                        try simp only [Act.put, List.setIfInBounds_toArray, List.set_cons_zero, List.set_cons_succ]
                        refine wpAnyH_take (i := 21) (oi := ?_) (v := ?_) (by simp only [List.getElem?_toArray, List.getElem?_cons_zero, List.getElem?_cons_succ]; rfl) (by kernel_rfl) (by kernel_rfl) (by kernel_rfl) (by exact fun _ _ _ h => h) (Or.inl ⟨by rfl, ?_⟩) (by assumption) ?_
                        rotate_left
                        · (intro w hSw; (try dsimp only at hSw); obtain ⟨s0, s1, s2, s3, s4, s5⟩ := hSw; go_simp; first | done | with_reducible rfl)
                        try simp only [Act.put, List.setIfInBounds_toArray, List.set_cons_zero, List.set_cons_succ]
                        refine wpAnyH_take (i := 22) (oi := ?_) (v := ?_) (by simp only [List.getElem?_toArray, List.getElem?_cons_zero, List.getElem?_cons_succ]; rfl) (by kernel_rfl) (by kernel_rfl) (by kernel_rfl) (by exact fun _ _ _ h => h) (Or.inl ⟨by rfl, ?_⟩) (by assumption) ?_
                        rotate_left
                        · (intro w hSw; (try dsimp only at hSw); obtain ⟨s0, s1, s2, s3, s4, s5⟩ := hSw; go_simp; first | done | with_reducible rfl)
                        try simp only [Act.put, List.setIfInBounds_toArray, List.set_cons_zero, List.set_cons_succ]
                        refine wpAnyH_ready (rs := [11, 23]) (by kernel_rfl) (by simp) ?_
                        refine AllReadyH.cons (o := ?_) (by simp only [List.getElem?_toArray, List.getElem?_cons_zero, List.getElem?_cons_succ]; rfl) (fun K hK => ?_) ?_
                        · go_simp
                          (with_reducible refine (qbytes_any _ T _ HT12.out.rd).mono ?_)
                          rintro e w13 ⟨r13, rfl, ho, hb⟩
                          obtain ⟨A13, c13, rfl, -⟩ := RdB.form ho.rd
                          have HX13 := As.mk ho.rd
                          have HB13 := As.mk (HB12.out.trans (hb.mono HB12.out.size))
                          have HZ13 := As.mk (HZ9.out.below HB13.out)
                          have HT13 := As.mk (HT9.out.below HB13.out)
                          obtain ⟨d0, d1, d2, d3, -⟩ := HZ13.out.cells
                          have hSn : (fun W : World => W.cell? ⟨B, 0, none⟩ = some (.slice A8 l8.length c8) ∧ W.cell? ⟨B, 1, none⟩ = some (.bool false) ∧ W.cell? ⟨G, 0, none⟩ = some (.int .u32 (ver : Int)) ∧ W.cell? ⟨G, 1, none⟩ = some (.slice AI xs.length cI) ∧ W.cell? ⟨G, 2, none⟩ = some (.slice AO ys.length cO) ∧ W.cell? ⟨G, 3, none⟩ = some (.int .u32 (lock : Int))) w13 := ⟨(HB13.out.cell (HBW.out)).trans k0, (HB13.out.cell (HBW.out)).trans k1, d0, d1, d2, d3⟩
                          clear hb ho
                          dsimp only
                          refine hK.out _ _ ?_ (fun hHeld2 => ?_)
                          · exact hSn
                          clear hK K hHeld
                          have hHeld := hHeld2
                          clear hHeld2
                          try simp only [Act.put, List.setIfInBounds_toArray, List.set_cons_zero, List.set_cons_succ]
                          refine wpAnyH_ready (rs := [12, 23]) (by kernel_rfl) (by simp) ?_
                          refine AllReadyH.cons (o := ?_) (by simp only [List.getElem?_toArray, List.getElem?_cons_zero, List.getElem?_cons_succ]; rfl) (fun K hK => ?_) ?_
                          · refine step_str ?hgd (.tmp 173) 24 9 5 ?ho Try.underlying24 Try.underlying5 Try.underlying9 (.slice A13 (bytesT T).length c13) ?hx (bytesT T) HX13.out ?_
                            case hgd => rfl
                            case ho => rfl
                            case hx => rfl
                            refine hK.out _ _ ?_ (fun hHeld2 => ?_)
                            · exact hSn
                            clear hK K hHeld
                            have hHeld := hHeld2
                            clear hHeld2
                            try simp only [Act.put, List.setIfInBounds_toArray, List.set_cons_zero, List.set_cons_succ]
                            refine wpAnyH_ready (rs := [23]) (by kernel_rfl) (by simp) ?_
                            refine AllReadyH.cons (o := ?_) (by simp only [List.getElem?_toArray, List.getElem?_cons_zero, List.getElem?_cons_succ]; rfl) (fun K hK => ?_) ?_
                            · refine step_str ?hgd (.tmp 184) 24 9 5 ?ho Try.underlying24 Try.underlying5 Try.underlying9 (.slice A0 K9 c0) ?hx (bytesT T) (RdS.below HWT.out HB13.out) ?_
                              case hgd => rfl
                              case ho => rfl
                              case hx => rfl
                              refine hK.out _ _ ?_ (fun hHeld2 => ?_)
                              · exact hSn
                              clear hK K hHeld
                              have hHeld := hHeld2
                              clear hHeld2
                              try simp only [Act.put, List.setIfInBounds_toArray, List.set_cons_zero, List.set_cons_succ]
                              refine wpAnyH_take (i := 24) (oi := ?_) (v := ?_) (by simp only [List.getElem?_toArray, List.getElem?_cons_zero, List.getElem?_cons_succ]; rfl) (by kernel_rfl) (by kernel_rfl) (by kernel_rfl) (by exact fun _ _ _ h => h) (Or.inl ⟨by rfl, ?_⟩) (by assumption) ?_
                              rotate_left
                              · (intro w hSw; (try dsimp only at hSw); obtain ⟨s0, s1, s2, s3, s4, s5⟩ := hSw; go_simp; first | done | with_reducible rfl)
                              try simp only [Act.put, List.setIfInBounds_toArray, List.set_cons_zero, List.set_cons_succ]
                              refine wpAnyH_take (i := 25) (oi := ?_) (v := ?_) (by simp only [List.getElem?_toArray, List.getElem?_cons_zero, List.getElem?_cons_succ]; rfl) (by kernel_rfl) (by kernel_rfl) (by kernel_rfl) (by exact fun _ _ _ h => h) (Or.inl ⟨by rfl, ?_⟩) (by assumption) ?_
                              rotate_left
                              · (intro w hSw; (try dsimp only at hSw); obtain ⟨s0, s1, s2, s3, s4, s5⟩ := hSw; go_simp; first | done | with_reducible rfl)
                              try simp only [Act.put, List.setIfInBounds_toArray, List.set_cons_zero, List.set_cons_succ]
                              refine wpAnyH_done (by kernel_rfl) ?_ _
                              go_wp2
                              go_meet
                              rw [HOK.out]
                              exact ⟨rfl, ⟨HZ13.out, HT13.out⟩⟩
                            exact AllReadyH.nil
                          refine AllReadyH.cons (o := ?_) (by simp only [List.getElem?_toArray, List.getElem?_cons_zero, List.getElem?_cons_succ]; rfl) (fun K hK => ?_) ?_
                          · refine step_str ?hgd (.tmp 184) 24 9 5 ?ho Try.underlying24 Try.underlying5 Try.underlying9 (.slice A0 K9 c0) ?hx (bytesT T) (RdS.below HWT.out HB13.out) ?_
                            case hgd => rfl
                            case ho => rfl
                            case hx => rfl
                            refine hK.out _ _ ?_ (fun hHeld2 => ?_)
                            · exact hSn
                            clear hK K hHeld
                            have hHeld := hHeld2
                            clear hHeld2
                            try simp only [Act.put, List.setIfInBounds_toArray, List.set_cons_zero, List.set_cons_succ]
                            refine wpAnyH_ready (rs := [12]) (by kernel_rfl) (by simp) ?_
                            refine AllReadyH.cons (o := ?_) (by simp only [List.getElem?_toArray, List.getElem?_cons_zero, List.getElem?_cons_succ]; rfl) (fun K hK => ?_) ?_
                            · refine step_str ?hgd (.tmp 173) 24 9 5 ?ho Try.underlying24 Try.underlying5 Try.underlying9 (.slice A13 (bytesT T).length c13) ?hx (bytesT T) HX13.out ?_
                              case hgd => rfl
                              case ho => rfl
                              case hx => rfl
                              refine hK.out _ _ ?_ (fun hHeld2 => ?_)
                              · exact hSn
                              clear hK K hHeld
                              have hHeld := hHeld2
                              clear hHeld2
                              try simp only [Act.put, List.setIfInBounds_toArray, List.set_cons_zero, List.set_cons_succ]
                              refine wpAnyH_take (i := 24) (oi := ?_) (v := ?_) (by simp only [List.getElem?_toArray, List.getElem?_cons_zero, List.getElem?_cons_succ]; rfl) (by kernel_rfl) (by kernel_rfl) (by kernel_rfl) (by exact fun _ _ _ h => h) (Or.inl ⟨by rfl, ?_⟩) (by assumption) ?_
                              rotate_left
                              · (intro w hSw; (try dsimp only at hSw); obtain ⟨s0, s1, s2, s3, s4, s5⟩ := hSw; go_simp; first | done | with_reducible rfl)
                              try simp only [Act.put, List.setIfInBounds_toArray, List.set_cons_zero, List.set_cons_succ]
                              refine wpAnyH_take (i := 25) (oi := ?_) (v := ?_) (by simp only [List.getElem?_toArray, List.getElem?_cons_zero, List.getElem?_cons_succ]; rfl) (by kernel_rfl) (by kernel_rfl) (by kernel_rfl) (by exact fun _ _ _ h => h) (Or.inl ⟨by rfl, ?_⟩) (by assumption) ?_
                              rotate_left
                              · (intro w hSw; (try dsimp only at hSw); obtain ⟨s0, s1, s2, s3, s4, s5⟩ := hSw; go_simp; first | done | with_reducible rfl)
                              try simp only [Act.put, List.setIfInBounds_toArray, List.set_cons_zero, List.set_cons_succ]
                              refine wpAnyH_done (by kernel_rfl) ?_ _
                              go_wp2
                              go_meet
                              rw [HOK.out]
                              exact ⟨rfl, ⟨HZ13.out, HT13.out⟩⟩
                            exact AllReadyH.nil
                          exact AllReadyH.nil
                        refine AllReadyH.cons (o := ?_) (by simp only [List.getElem?_toArray, List.getElem?_cons_zero, List.getElem?_cons_succ]; rfl) (fun K hK => ?_) ?_
                        · refine step_str ?hgd (.tmp 184) 24 9 5 ?ho Try.underlying24 Try.underlying5 Try.underlying9 (.slice A0 K9 c0) ?hx (bytesT T) (RdS.below HWT.out HB12.out) ?_
                          case hgd => rfl
                          case ho => rfl
                          case hx => rfl
                          refine hK.out _ _ ?_ (fun hHeld2 => ?_)
                          · exact hSn
                          clear hK K hHeld
                          have hHeld := hHeld2
                          clear hHeld2
                          try simp only [Act.put, List.setIfInBounds_toArray, List.set_cons_zero, List.set_cons_succ]
                          refine wpAnyH_ready (rs := [11]) (by kernel_rfl) (by simp) ?_
                          refine AllReadyH.cons (o := ?_) (by simp only [List.getElem?_toArray, List.getElem?_cons_zero, List.getElem?_cons_succ]; rfl) (fun K hK => ?_) ?_
                          · go_simp
                            (with_reducible refine (qbytes_any _ T _ HT12.out.rd).mono ?_)
                            rintro e w13 ⟨r13, rfl, ho, hb⟩
                            obtain ⟨A13, c13, rfl, -⟩ := RdB.form ho.rd
                            have HX13 := As.mk ho.rd
                            have HB13 := As.mk (HB12.out.trans (hb.mono HB12.out.size))
                            have HZ13 := As.mk (HZ9.out.below HB13.out)
                            have HT13 := As.mk (HT9.out.below HB13.out)
                            obtain ⟨d0, d1, d2, d3, -⟩ := HZ13.out.cells
                            have hSn : (fun W : World => W.cell? ⟨B, 0, none⟩ = some (.slice A8 l8.length c8) ∧ W.cell? ⟨B, 1, none⟩ = some (.bool false) ∧ W.cell? ⟨G, 0, none⟩ = some (.int .u32 (ver : Int)) ∧ W.cell? ⟨G, 1, none⟩ = some (.slice AI xs.length cI) ∧ W.cell? ⟨G, 2, none⟩ = some (.slice AO ys.length cO) ∧ W.cell? ⟨G, 3, none⟩ = some (.int .u32 (lock : Int))) w13 := ⟨(HB13.out.cell (HBW.out)).trans k0, (HB13.out.cell (HBW.out)).trans k1, d0, d1, d2, d3⟩
                            clear hb ho
                            dsimp only
                            refine hK.out _ _ ?_ (fun hHeld2 => ?_)
                            · exact hSn
                            clear hK K hHeld
                            have hHeld := hHeld2
                            clear hHeld2
                            try simp only [Act.put, List.setIfInBounds_toArray, List.set_cons_zero, List.set_cons_succ]
                            refine wpAnyH_ready (rs := [12]) (by kernel_rfl) (by simp) ?_
                            refine AllReadyH.cons (o := ?_) (by simp only [List.getElem?_toArray, List.getElem?_cons_zero, List.getElem?_cons_succ]; rfl) (fun K hK => ?_) ?_
                            · refine step_str ?hgd (.tmp 173) 24 9 5 ?ho Try.underlying24 Try.underlying5 Try.underlying9 (.slice A13 (bytesT T).length c13) ?hx (bytesT T) HX13.out ?_
                              case hgd => rfl
                              case ho => rfl
                              case hx => rfl
                              refine hK.out _ _ ?_ (fun hHeld2 => ?_)
                              · exact hSn
                              clear hK K hHeld
                              have hHeld := hHeld2
                              clear hHeld2
                              try simp only [Act.put, List.setIfInBounds_toArray, List.set_cons_zero, List.set_cons_succ]
                              refine wpAnyH_take (i := 24) (oi := ?_) (v := ?_) (by simp only [List.getElem?_toArray, List.getElem?_cons_zero, List.getElem?_cons_succ]; rfl) (by kernel_rfl) (by kernel_rfl) (by kernel_rfl) (by exact fun _ _ _ h => h) (Or.inl ⟨by rfl, ?_⟩) (by assumption) ?_
                              rotate_left
                              · (intro w hSw; (try dsimp only at hSw); obtain ⟨s0, s1, s2, s3, s4, s5⟩ := hSw; go_simp; first | done | with_reducible rfl)
                              try simp only [Act.put, List.setIfInBounds_toArray, List.set_cons_zero, List.set_cons_succ]
                              refine wpAnyH_take (i := 25) (oi := ?_) (v := ?_) (by simp only [List.getElem?_toArray, List.getElem?_cons_zero, List.getElem?_cons_succ]; rfl) (by kernel_rfl) (by kernel_rfl) (by kernel_rfl) (by exact fun _ _ _ h => h) (Or.inl ⟨by rfl, ?_⟩) (by assumption) ?_
                              rotate_left
                              · (intro w hSw; (try dsimp only at hSw); obtain ⟨s0, s1, s2, s3, s4, s5⟩ := hSw; go_simp; first | done | with_reducible rfl)
                              try simp only [Act.put, List.setIfInBounds_toArray, List.set_cons_zero, List.set_cons_succ]
                              refine wpAnyH_done (by kernel_rfl) ?_ _
                              go_wp2
                              go_meet
                              rw [HOK.out]
                              exact ⟨rfl, ⟨HZ13.out, HT13.out⟩⟩
                            exact AllReadyH.nil
                          exact AllReadyH.nil
                        exact AllReadyH.nil
                      exact AllReadyH.nil

                    · have HOK : As (ok = false) := ⟨by rcases HF.out with h | h; exact absurd (by rw [HK9.out]; exact h.2.2.1) hs; exact h.2.2.1⟩
                      have hbl : (bytesT T == l.take K9) = false := beq_eq_false_iff_ne.2 hs
                      have HWT := HWT0
                      clear hs HWT0
                      refine wp_region_held_drew (S := (fun W : World => W.cell? ⟨B, 0, none⟩ = some (.slice A8 l8.length c8) ∧ W.cell? ⟨B, 1, none⟩ = some (.bool false) ∧ W.cell? ⟨G, 0, none⟩ = some (.int .u32 (ver : Int)) ∧ W.cell? ⟨G, 1, none⟩ = some (.slice AI xs.length cI) ∧ W.cell? ⟨G, 2, none⟩ = some (.slice AO ys.length cO) ∧ W.cell? ⟨G, 3, none⟩ = some (.int .u32 (lock : Int)))) (by kernel_rfl) ?_ (fun hHeld => ?_)
                      · exact ⟨k0, k1, d0, d1, d2, d3⟩
                      refine wpAnyH_take (i := 0) (oi := ?_) (v := ?_) (by simp only [List.getElem?_toArray, List.getElem?_cons_zero, List.getElem?_cons_succ]; rfl) (by kernel_rfl) (by kernel_rfl) (by kernel_rfl) (by exact fun _ _ _ h => h) (Or.inl ⟨by rfl, ?_⟩) (by assumption) ?_
                      rotate_left
                      · (intro w hSw; (try dsimp only at hSw); obtain ⟨s0, s1, s2, s3, s4, s5⟩ := hSw; go_simp; first | done | with_reducible rfl)
                      try simp only [Act.put, List.setIfInBounds_toArray, List.set_cons_zero, List.set_cons_succ]
                      refine wpAnyH_take (i := 1) (oi := ?_) (v := ?_) (by simp only [List.getElem?_toArray, List.getElem?_cons_zero, List.getElem?_cons_succ]; rfl) (by kernel_rfl) (by kernel_rfl) (by kernel_rfl) (by exact fun _ _ _ h => h) (Or.inl ⟨by rfl, ?_⟩) (by assumption) ?_
                      rotate_left
                      · (intro w hSw; (try dsimp only at hSw); obtain ⟨s0, s1, s2, s3, s4, s5⟩ := hSw; go_simp; first | done | with_reducible rfl)
                      try simp only [Act.put, List.setIfInBounds_toArray, List.set_cons_zero, List.set_cons_succ]
                      refine wpAnyH_take (i := 2) (oi := ?_) (v := ?_) (by simp only [List.getElem?_toArray, List.getElem?_cons_zero, List.getElem?_cons_succ]; rfl) (by kernel_rfl) (by kernel_rfl) (by kernel_rfl) (by exact fun _ _ _ h => h) (Or.inl ⟨by rfl, ?_⟩) (by assumption) ?_
                      rotate_left
                      · (intro w hSw; (try dsimp only at hSw); obtain ⟨s0, s1, s2, s3, s4, s5⟩ := hSw; go_simp; first | done | with_reducible rfl)
                      try simp only [Act.put, List.setIfInBounds_toArray, List.set_cons_zero, List.set_cons_succ]
                      refine wpAnyH_take (i := 3) (oi := ?_) (v := ?_) (by simp only [List.getElem?_toArray, List.getElem?_cons_zero, List.getElem?_cons_succ]; rfl) (by kernel_rfl) (by kernel_rfl) (by kernel_rfl) (by exact fun _ _ _ h => h) (Or.inl ⟨by rfl, ?_⟩) (by assumption) ?_
                      rotate_left
                      · (intro w hSw; (try dsimp only at hSw); obtain ⟨s0, s1, s2, s3, s4, s5⟩ := hSw; go_simp; first | done | with_reducible rfl)
                      try simp only [Act.put, List.setIfInBounds_toArray, List.set_cons_zero, List.set_cons_succ]
                      refine wpAnyH_take (i := 4) (oi := ?_) (v := ?_) (by simp only [List.getElem?_toArray, List.getElem?_cons_zero, List.getElem?_cons_succ]; rfl) (by kernel_rfl) (by kernel_rfl) (by kernel_rfl) (by exact fun _ _ _ h => h) (Or.inl ⟨by rfl, ?_⟩) (by assumption) ?_
                      rotate_left
                      · (intro w hSw; (try dsimp only at hSw); obtain ⟨s0, s1, s2, s3, s4, s5⟩ := hSw; go_simp; first | done | with_reducible rfl)
                      try simp only [Act.put, List.setIfInBounds_toArray, List.set_cons_zero, List.set_cons_succ]
                      refine wpAnyH_take (i := 5) (oi := ?_) (v := ?_) (by simp only [List.getElem?_toArray, List.getElem?_cons_zero, List.getElem?_cons_succ]; rfl) (by kernel_rfl) (by kernel_rfl) (by kernel_rfl) (by exact fun _ _ _ h => h) (Or.inl ⟨by rfl, ?_⟩) (by assumption) ?_
                      rotate_left
                      · (intro w hSw; (try dsimp only at hSw); obtain ⟨s0, s1, s2, s3, s4, s5⟩ := hSw; go_simp; first | done | with_reducible rfl)
                      try simp only [Act.put, List.setIfInBounds_toArray, List.set_cons_zero, List.set_cons_succ]
                      refine wpAnyH_ready (rs := [6]) (by kernel_rfl) (by simp) ?_
                      refine AllReadyH.cons (o := ?_) (by simp only [List.getElem?_toArray, List.getElem?_cons_zero, List.getElem?_cons_succ]; rfl) (fun K hK => ?_) ?_
                      · go_simp
                        (with_reducible refine (qmay_any _ T _ HDM.out (HT9.out.below (below_dr W9)).rd).mono ?_)
                        rintro e w12 ⟨rfl, hb⟩
                        have HB12 := As.mk (show Below W9.heap.size W9 w12 from (below_dr W9).trans hb)
                        have HZ12 := As.mk (HZ9.out.below HB12.out)
                        have HT12 := As.mk (HT9.out.below HB12.out)
                        obtain ⟨d0, d1, d2, d3, -⟩ := HZ12.out.cells
                        have hSn : (fun W : World => W.cell? ⟨B, 0, none⟩ = some (.slice A8 l8.length c8) ∧ W.cell? ⟨B, 1, none⟩ = some (.bool false) ∧ W.cell? ⟨G, 0, none⟩ = some (.int .u32 (ver : Int)) ∧ W.cell? ⟨G, 1, none⟩ = some (.slice AI xs.length cI) ∧ W.cell? ⟨G, 2, none⟩ = some (.slice AO ys.length cO) ∧ W.cell? ⟨G, 3, none⟩ = some (.int .u32 (lock : Int))) w12 := ⟨(HB12.out.cell (HBW.out)).trans k0, (HB12.out.cell (HBW.out)).trans k1, d0, d1, d2, d3⟩
                        clear hb
                        dsimp only
                        refine hK.out _ _ ?_ (fun hHeld2 => ?_)
                        · exact hSn
                        clear hK K hHeld
                        have hHeld := hHeld2
                        clear hHeld2
                        try simp only [Act.put, List.setIfInBounds_toArray, List.set_cons_zero, List.set_cons_succ]
                        refine wpAnyH_take (i := 7) (oi := ?_) (v := ?_) (by simp only [List.getElem?_toArray, List.getElem?_cons_zero, List.getElem?_cons_succ]; rfl) (by kernel_rfl) (by kernel_rfl) (by kernel_rfl) (by exact fun _ _ _ h => h) (Or.inl ⟨by rfl, ?_⟩) (by assumption) ?_
                        rotate_left
                        · (intro w hSw; (try dsimp only at hSw); obtain ⟨s0, s1, s2, s3, s4, s5⟩ := hSw; go_simp; first | done | with_reducible rfl)
                        try simp only [Act.put, List.setIfInBounds_toArray, List.set_cons_zero, List.set_cons_succ]
                        refine wpAnyH_take (i := 8) (oi := ?_) (v := ?_) (by simp only [List.getElem?_toArray, List.getElem?_cons_zero, List.getElem?_cons_succ]; rfl) (by kernel_rfl) (by kernel_rfl) (by kernel_rfl) (by exact fun _ _ _ h => h) (Or.inl ⟨by rfl, ?_⟩) (by assumption) ?_
                        rotate_left
                        · (intro w hSw; (try dsimp only at hSw); obtain ⟨s0, s1, s2, s3, s4, s5⟩ := hSw; go_simp; first | done | with_reducible rfl)
                        try simp only [Act.put, List.setIfInBounds_toArray, List.set_cons_zero, List.set_cons_succ]
                        refine wpAnyH_take (i := 9) (oi := ?_) (v := ?_) (by simp only [List.getElem?_toArray, List.getElem?_cons_zero, List.getElem?_cons_succ]; rfl) (by kernel_rfl) (by kernel_rfl) (by kernel_rfl) (by exact fun _ _ _ h => h) (Or.inl ⟨by rfl, ?_⟩) (by assumption) ?_
                        rotate_left
                        · (intro w hSw; (try dsimp only at hSw); obtain ⟨s0, s1, s2, s3, s4, s5⟩ := hSw; go_simp; first | done | with_reducible rfl)
                        try simp only [Act.put, List.setIfInBounds_toArray, List.set_cons_zero, List.set_cons_succ]
                        refine wpAnyH_take (i := 10) (oi := ?_) (v := ?_) (by simp only [List.getElem?_toArray, List.getElem?_cons_zero, List.getElem?_cons_succ]; rfl) (by kernel_rfl) (by kernel_rfl) (by kernel_rfl) (by exact fun _ _ _ h => h) (Or.inl ⟨by rfl, ?_⟩) (by assumption) ?_
                        rotate_left
                        · (intro w hSw; (try dsimp only at hSw); obtain ⟨s0, s1, s2, s3, s4, s5⟩ := hSw; go_simp; first | done | with_reducible rfl)
                        try simp only [Act.put, List.setIfInBounds_toArray, List.set_cons_zero, List.set_cons_succ]
                        refine wpAnyH_take (i := 13) (oi := ?_) (v := ?_) (by simp only [List.getElem?_toArray, List.getElem?_cons_zero, List.getElem?_cons_succ]; rfl) (by kernel_rfl) (by kernel_rfl) (by kernel_rfl) (by exact fun _ _ _ h => h) (Or.inl ⟨by rfl, ?_⟩) (by assumption) ?_
                        rotate_left
                        · (intro w hSw; (try dsimp only at hSw); obtain ⟨s0, s1, s2, s3, s4, s5⟩ := hSw; go_simp; first | done | with_reducible rfl)
                        try simp only [Act.put, List.setIfInBounds_toArray, List.set_cons_zero, List.set_cons_succ]
                        refine wpAnyH_take (i := 14) (oi := ?_) (v := ?_) (by simp only [List.getElem?_toArray, List.getElem?_cons_zero, List.getElem?_cons_succ]; rfl) (by kernel_rfl) (by kernel_rfl) (by kernel_rfl) (by exact fun _ _ _ h => h) (Or.inl ⟨by rfl, ?_⟩) (by assumption) ?_
                        rotate_left
                        · (intro w hSw; (try dsimp only at hSw); obtain ⟨s0, s1, s2, s3, s4, s5⟩ := hSw; go_simp; first | done | with_reducible rfl)
                        try simp only [Act.put, List.setIfInBounds_toArray, List.set_cons_zero, List.set_cons_succ]
                        refine wpAnyH_take (i := 15) (oi := ?_) (v := ?_) (by simp only [List.getElem?_toArray, List.getElem?_cons_zero, List.getElem?_cons_succ]; rfl) (by kernel_rfl) (by kernel_rfl) (by kernel_rfl) (by exact fun _ _ _ h => h) (Or.inl ⟨by rfl, ?_⟩) (by assumption) ?_
                        rotate_left
                        · (intro w hSw; (try dsimp only at hSw); obtain ⟨s0, s1, s2, s3, s4, s5⟩ := hSw; go_simp; first | done | with_reducible rfl)
                        try simp only [Act.put, List.setIfInBounds_toArray, List.set_cons_zero, List.set_cons_succ]
                        refine wpAnyH_take (i := 16) (oi := ?_) (v := ?_) (by simp only [List.getElem?_toArray, List.getElem?_cons_zero, List.getElem?_cons_succ]; rfl) (by kernel_rfl) (by kernel_rfl) (by kernel_rfl) (by exact fun _ _ _ h => h) (Or.inl ⟨by rfl, ?_⟩) (by assumption) ?_
                        rotate_left
                        · (intro w hSw; (try dsimp only at hSw); obtain ⟨s0, s1, s2, s3, s4, s5⟩ := hSw; go_simp; first | done | with_reducible rfl)
                        try simp only [Act.put, List.setIfInBounds_toArray, List.set_cons_zero, List.set_cons_succ]
                        refine wpAnyH_take (i := 17) (oi := ?_) (v := ?_) (by simp only [List.getElem?_toArray, List.getElem?_cons_zero, List.getElem?_cons_succ]; rfl) (by kernel_rfl) (by kernel_rfl) (by kernel_rfl) (by exact fun _ _ _ h => h) (Or.inl ⟨by rfl, ?_⟩) (by assumption) ?_
                        rotate_left
                        · (intro w hSw; (try dsimp only at hSw); obtain ⟨s0, s1, s2, s3, s4, s5⟩ := hSw; go_simp; first | done | with_reducible rfl)
                        try simp only [Act.put, List.setIfInBounds_toArray, List.set_cons_zero, List.set_cons_succ]
                        refine wpAnyH_take (i := 18) (oi := ?_) (v := ?_) (by simp only [List.getElem?_toArray, List.getElem?_cons_zero, List.getElem?_cons_succ]; rfl) (by kernel_rfl) (by kernel_rfl) (by kernel_rfl) (by exact fun _ _ _ h => h) (Or.inl ⟨by rfl, ?_⟩) (by assumption) ?_
                        rotate_left
                        · (intro w hSw; (try dsimp only at hSw); obtain ⟨s0, s1, s2, s3, s4, s5⟩ := hSw; go_simp; first | done | with_reducible rfl)
                        try simp only [Act.put, List.setIfInBounds_toArray, List.set_cons_zero, List.set_cons_succ]
                        refine wpAnyH_take (i := 19) (oi := ?_) (v := ?_) (by simp only [List.getElem?_toArray, List.getElem?_cons_zero, List.getElem?_cons_succ]; rfl) (by kernel_rfl) (by kernel_rfl) (by kernel_rfl) (by exact fun _ _ _ h => h) (Or.inl ⟨by rfl, ?_⟩) (by assumption) ?_
                        rotate_left
                        · (intro w hSw; (try dsimp only at hSw); obtain ⟨s0, s1, s2, s3, s4, s5⟩ := hSw; go_simp; first | done | with_reducible rfl)
                        try simp only [Act.put, List.setIfInBounds_toArray, List.set_cons_zero, List.set_cons_succ]
                        refine wpAnyH_take (i := 20) (oi := ?_) (v := ?_) (by simp only [List.getElem?_toArray, List.getElem?_cons_zero, List.getElem?_cons_succ]; rfl) (by kernel_rfl) (by kernel_rfl) (by kernel_rfl) (by exact fun _ _ _ h => h) (Or.inl ⟨by rfl, ?_⟩) (by assumption) ?_
                        rotate_left
                        · (intro w hSw; (try dsimp only at hSw); obtain ⟨s0, s1, s2, s3, s4, s5⟩ := hSw; go_simp; first | done | with_reducible rfl)
                        try simp only [Act.put, List.setIfInBounds_toArray, List.set_cons_zero, List.set_cons_succ]
                        refine wpAnyH_take (i := 21) (oi := ?_) (v := ?_) (by simp only [List.getElem?_toArray, List.getElem?_cons_zero, List.getElem?_cons_succ]; rfl) (by kernel_rfl) (by kernel_rfl) (by kernel_rfl) (by exact fun _ _ _ h => h) (Or.inl ⟨by rfl, ?_⟩) (by assumption) ?_
                        rotate_left
                        · (intro w hSw; (try dsimp only at hSw); obtain ⟨s0, s1, s2, s3, s4, s5⟩ := hSw; go_simp; first | done | with_reducible rfl)
                        try simp only [Act.put, List.setIfInBounds_toArray, List.set_cons_zero, List.set_cons_succ]
                        refine wpAnyH_take (i := 22) (oi := ?_) (v := ?_) (by simp only [List.getElem?_toArray, List.getElem?_cons_zero, List.getElem?_cons_succ]; rfl) (by kernel_rfl) (by kernel_rfl) (by kernel_rfl) (by exact fun _ _ _ h => h) (Or.inl ⟨by rfl, ?_⟩) (by assumption) ?_
                        rotate_left
                        · (intro w hSw; (try dsimp only at hSw); obtain ⟨s0, s1, s2, s3, s4, s5⟩ := hSw; go_simp; first | done | with_reducible rfl)
                        try simp only [Act.put, List.setIfInBounds_toArray, List.set_cons_zero, List.set_cons_succ]
                        refine wpAnyH_ready (rs := [11, 23]) (by kernel_rfl) (by simp) ?_
                        refine AllReadyH.cons (o := ?_) (by simp only [List.getElem?_toArray, List.getElem?_cons_zero, List.getElem?_cons_succ]; rfl) (fun K hK => ?_) ?_
                        · go_simp
                          (with_reducible refine (qbytes_any _ T _ HT12.out.rd).mono ?_)
                          rintro e w13 ⟨r13, rfl, ho, hb⟩
                          obtain ⟨A13, c13, rfl, -⟩ := RdB.form ho.rd
                          have HX13 := As.mk ho.rd
                          have HB13 := As.mk (HB12.out.trans (hb.mono HB12.out.size))
                          have HZ13 := As.mk (HZ9.out.below HB13.out)
                          have HT13 := As.mk (HT9.out.below HB13.out)
                          obtain ⟨d0, d1, d2, d3, -⟩ := HZ13.out.cells
                          have hSn : (fun W : World => W.cell? ⟨B, 0, none⟩ = some (.slice A8 l8.length c8) ∧ W.cell? ⟨B, 1, none⟩ = some (.bool false) ∧ W.cell? ⟨G, 0, none⟩ = some (.int .u32 (ver : Int)) ∧ W.cell? ⟨G, 1, none⟩ = some (.slice AI xs.length cI) ∧ W.cell? ⟨G, 2, none⟩ = some (.slice AO ys.length cO) ∧ W.cell? ⟨G, 3, none⟩ = some (.int .u32 (lock : Int))) w13 := ⟨(HB13.out.cell (HBW.out)).trans k0, (HB13.out.cell (HBW.out)).trans k1, d0, d1, d2, d3⟩
                          clear hb ho
                          dsimp only
                          refine hK.out _ _ ?_ (fun hHeld2 => ?_)
                          · exact hSn
                          clear hK K hHeld
                          have hHeld := hHeld2
                          clear hHeld2
                          try simp only [Act.put, List.setIfInBounds_toArray, List.set_cons_zero, List.set_cons_succ]
                          refine wpAnyH_ready (rs := [12, 23]) (by kernel_rfl) (by simp) ?_
                          refine AllReadyH.cons (o := ?_) (by simp only [List.getElem?_toArray, List.getElem?_cons_zero, List.getElem?_cons_succ]; rfl) (fun K hK => ?_) ?_
                          · refine step_str ?hgd (.tmp 173) 24 9 5 ?ho Try.underlying24 Try.underlying5 Try.underlying9 (.slice A13 (bytesT T).length c13) ?hx (bytesT T) HX13.out ?_
                            case hgd => rfl
                            case ho => rfl
                            case hx => rfl
                            refine hK.out _ _ ?_ (fun hHeld2 => ?_)
                            · exact hSn
                            clear hK K hHeld
                            have hHeld := hHeld2
                            clear hHeld2
                            try simp only [Act.put, List.setIfInBounds_toArray, List.set_cons_zero, List.set_cons_succ]
                            refine wpAnyH_ready (rs := [23]) (by kernel_rfl) (by simp) ?_
                            refine AllReadyH.cons (o := ?_) (by simp only [List.getElem?_toArray, List.getElem?_cons_zero, List.getElem?_cons_succ]; rfl) (fun K hK => ?_) ?_
                            · refine step_str ?hgd (.tmp 184) 24 9 5 ?ho Try.underlying24 Try.underlying5 Try.underlying9 (.slice A0 K9 c0) ?hx (l.take K9) (RdS.below HWT.out HB13.out) ?_
                              case hgd => rfl
                              case ho => rfl
                              case hx => rfl
                              refine hK.out _ _ ?_ (fun hHeld2 => ?_)
                              · exact hSn
                              clear hK K hHeld
                              have hHeld := hHeld2
                              clear hHeld2
                              try simp only [Act.put, List.setIfInBounds_toArray, List.set_cons_zero, List.set_cons_succ]
                              refine wpAnyH_take (i := 24) (oi := ?_) (v := ?_) (by simp only [List.getElem?_toArray, List.getElem?_cons_zero, List.getElem?_cons_succ]; rfl) (by kernel_rfl) (by kernel_rfl) (by kernel_rfl) (by exact fun _ _ _ h => h) (Or.inl ⟨by rfl, ?_⟩) (by assumption) ?_
                              rotate_left
                              · (intro w hSw; (try dsimp only at hSw); obtain ⟨s0, s1, s2, s3, s4, s5⟩ := hSw; go_simp; first | done | with_reducible rfl)
                              try simp only [Act.put, List.setIfInBounds_toArray, List.set_cons_zero, List.set_cons_succ]
                              refine wpAnyH_take (i := 25) (oi := ?_) (v := ?_) (by simp only [List.getElem?_toArray, List.getElem?_cons_zero, List.getElem?_cons_succ]; rfl) (by kernel_rfl) (by kernel_rfl) (by kernel_rfl) (by exact fun _ _ _ h => h) (Or.inl ⟨by rfl, ?_⟩) (by assumption) ?_
                              rotate_left
                              · (intro w hSw; (try dsimp only at hSw); obtain ⟨s0, s1, s2, s3, s4, s5⟩ := hSw; go_simp; first | done | with_reducible rfl)
                              try simp only [Act.put, List.setIfInBounds_toArray, List.set_cons_zero, List.set_cons_succ]
                              refine wpAnyH_done (by kernel_rfl) ?_ _
                              go_wp2
                              go_meet
                              rw [HOK.out]
                              exact ⟨rfl, ⟨HZ13.out, HT13.out⟩⟩
                            exact AllReadyH.nil
                          refine AllReadyH.cons (o := ?_) (by simp only [List.getElem?_toArray, List.getElem?_cons_zero, List.getElem?_cons_succ]; rfl) (fun K hK => ?_) ?_
                          · refine step_str ?hgd (.tmp 184) 24 9 5 ?ho Try.underlying24 Try.underlying5 Try.underlying9 (.slice A0 K9 c0) ?hx (l.take K9) (RdS.below HWT.out HB13.out) ?_
                            case hgd => rfl
                            case ho => rfl
                            case hx => rfl
                            refine hK.out _ _ ?_ (fun hHeld2 => ?_)
                            · exact hSn
                            clear hK K hHeld
                            have hHeld := hHeld2
                            clear hHeld2
                            try simp only [Act.put, List.setIfInBounds_toArray, List.set_cons_zero, List.set_cons_succ]
                            refine wpAnyH_ready (rs := [12]) (by kernel_rfl) (by simp) ?_
                            refine AllReadyH.cons (o := ?_) (by simp only [List.getElem?_toArray, List.getElem?_cons_zero, List.getElem?_cons_succ]; rfl) (fun K hK => ?_) ?_
                            · refine step_str ?hgd (.tmp 173) 24 9 5 ?ho Try.underlying24 Try.underlying5 Try.underlying9 (.slice A13 (bytesT T).length c13) ?hx (bytesT T) HX13.out ?_
                              case hgd => rfl
                              case ho => rfl
                              case hx => rfl
                              refine hK.out _ _ ?_ (fun hHeld2 => ?_)
                              · exact hSn
                              clear hK K hHeld
                              have hHeld := hHeld2
                              clear hHeld2
                              try simp only [Act.put, List.setIfInBounds_toArray, List.set_cons_zero, List.set_cons_succ]
                              refine wpAnyH_take (i := 24) (oi := ?_) (v := ?_) (by simp only [List.getElem?_toArray, List.getElem?_cons_zero, List.getElem?_cons_succ]; rfl) (by kernel_rfl) (by kernel_rfl) (by kernel_rfl) (by exact fun _ _ _ h => h) (Or.inl ⟨by rfl, ?_⟩) (by assumption) ?_
                              rotate_left
                              · (intro w hSw; (try dsimp only at hSw); obtain ⟨s0, s1, s2, s3, s4, s5⟩ := hSw; go_simp; first | done | with_reducible rfl)
                              try simp only [Act.put, List.setIfInBounds_toArray, List.set_cons_zero, List.set_cons_succ]
                              refine wpAnyH_take (i := 25) (oi := ?_) (v := ?_) (by simp only [List.getElem?_toArray, List.getElem?_cons_zero, List.getElem?_cons_succ]; rfl) (by kernel_rfl) (by kernel_rfl) (by kernel_rfl) (by exact fun _ _ _ h => h) (Or.inl ⟨by rfl, ?_⟩) (by assumption) ?_
                              rotate_left
                              · (intro w hSw; (try dsimp only at hSw); obtain ⟨s0, s1, s2, s3, s4, s5⟩ := hSw; go_simp; first | done | with_reducible rfl)
                              try simp only [Act.put, List.setIfInBounds_toArray, List.set_cons_zero, List.set_cons_succ]
                              refine wpAnyH_done (by kernel_rfl) ?_ _
                              go_wp2
                              go_meet
                              rw [HOK.out]
                              exact ⟨rfl, ⟨HZ13.out, HT13.out⟩⟩
                            exact AllReadyH.nil
                          exact AllReadyH.nil
                        refine AllReadyH.cons (o := ?_) (by simp only [List.getElem?_toArray, List.getElem?_cons_zero, List.getElem?_cons_succ]; rfl) (fun K hK => ?_) ?_
                        · refine step_str ?hgd (.tmp 184) 24 9 5 ?ho Try.underlying24 Try.underlying5 Try.underlying9 (.slice A0 K9 c0) ?hx (l.take K9) (RdS.below HWT.out HB12.out) ?_
                          case hgd => rfl
                          case ho => rfl
                          case hx => rfl
                          refine hK.out _ _ ?_ (fun hHeld2 => ?_)
                          · exact hSn
                          clear hK K hHeld
                          have hHeld := hHeld2
                          clear hHeld2
                          try simp only [Act.put, List.setIfInBounds_toArray, List.set_cons_zero, List.set_cons_succ]
                          refine wpAnyH_ready (rs := [11]) (by kernel_rfl) (by simp) ?_
                          refine AllReadyH.cons (o := ?_) (by simp only [List.getElem?_toArray, List.getElem?_cons_zero, List.getElem?_cons_succ]; rfl) (fun K hK => ?_) ?_
                          · go_simp
                            (with_reducible refine (qbytes_any _ T _ HT12.out.rd).mono ?_)
                            rintro e w13 ⟨r13, rfl, ho, hb⟩
                            obtain ⟨A13, c13, rfl, -⟩ := RdB.form ho.rd
                            have HX13 := As.mk ho.rd
                            have HB13 := As.mk (HB12.out.trans (hb.mono HB12.out.size))
                            have HZ13 := As.mk (HZ9.out.below HB13.out)
                            have HT13 := As.mk (HT9.out.below HB13.out)
                            obtain ⟨d0, d1, d2, d3, -⟩ := HZ13.out.cells
                            have hSn : (fun W : World => W.cell? ⟨B, 0, none⟩ = some (.slice A8 l8.length c8) ∧ W.cell? ⟨B, 1, none⟩ = some (.bool false) ∧ W.cell? ⟨G, 0, none⟩ = some (.int .u32 (ver : Int)) ∧ W.cell? ⟨G, 1, none⟩ = some (.slice AI xs.length cI) ∧ W.cell? ⟨G, 2, none⟩ = some (.slice AO ys.length cO) ∧ W.cell? ⟨G, 3, none⟩ = some (.int .u32 (lock : Int))) w13 := ⟨(HB13.out.cell (HBW.out)).trans k0, (HB13.out.cell (HBW.out)).trans k1, d0, d1, d2, d3⟩
                            clear hb ho
                            dsimp only
                            refine hK.out _ _ ?_ (fun hHeld2 => ?_)
                            · exact hSn
                            clear hK K hHeld
                            have hHeld := hHeld2
                            clear hHeld2
                            try simp only [Act.put, List.setIfInBounds_toArray, List.set_cons_zero, List.set_cons_succ]
                            refine wpAnyH_ready (rs := [12]) (by kernel_rfl) (by simp) ?_
                            refine AllReadyH.cons (o := ?_) (by simp only [List.getElem?_toArray, List.getElem?_cons_zero, List.getElem?_cons_succ]; rfl) (fun K hK => ?_) ?_
                            · refine step_str ?hgd (.tmp 173) 24 9 5 ?ho Try.underlying24 Try.underlying5 Try.underlying9 (.slice A13 (bytesT T).length c13) ?hx (bytesT T) HX13.out ?_
                              case hgd => rfl
                              case ho => rfl
                              case hx => rfl
                              refine hK.out _ _ ?_ (fun hHeld2 => ?_)
                              · exact hSn
                              clear hK K hHeld
                              have hHeld := hHeld2
                              clear hHeld2
                              try simp only [Act.put, List.setIfInBounds_toArray, List.set_cons_zero, List.set_cons_succ]
                              refine wpAnyH_take (i := 24) (oi := ?_) (v := ?_) (by simp only [List.getElem?_toArray, List.getElem?_cons_zero, List.getElem?_cons_succ]; rfl) (by kernel_rfl) (by kernel_rfl) (by kernel_rfl) (by exact fun _ _ _ h => h) (Or.inl ⟨by rfl, ?_⟩) (by assumption) ?_
                              rotate_left
                              · (intro w hSw; (try dsimp only at hSw); obtain ⟨s0, s1, s2, s3, s4, s5⟩ := hSw; go_simp; first | done | with_reducible rfl)
                              try simp only [Act.put, List.setIfInBounds_toArray, List.set_cons_zero, List.set_cons_succ]
                              refine wpAnyH_take (i := 25) (oi := ?_) (v := ?_) (by simp only [List.getElem?_toArray, List.getElem?_cons_zero, List.getElem?_cons_succ]; rfl) (by kernel_rfl) (by kernel_rfl) (by kernel_rfl) (by exact fun _ _ _ h => h) (Or.inl ⟨by rfl, ?_⟩) (by assumption) ?_
                              rotate_left
                              · (intro w hSw; (try dsimp only at hSw); obtain ⟨s0, s1, s2, s3, s4, s5⟩ := hSw; go_simp; first | done | with_reducible rfl)
                              try simp only [Act.put, List.setIfInBounds_toArray, List.set_cons_zero, List.set_cons_succ]
                              refine wpAnyH_done (by kernel_rfl) ?_ _
                              go_wp2
                              go_meet
                              rw [HOK.out]
                              exact ⟨rfl, ⟨HZ13.out, HT13.out⟩⟩
                            exact AllReadyH.nil
                          exact AllReadyH.nil
                        exact AllReadyH.nil
                      exact AllReadyH.nil

                  · have HDM : As (decide (mayT T) = false) := ⟨decide_eq_false hm⟩
                    have HOK : As (ok = false) := ⟨by rcases HF.out with h | h; exact absurd h.2.1 hm; exact h.2.2.1⟩
                    clear hm
                    refine wp_region_held_drew (S := (fun W : World => W.cell? ⟨B, 0, none⟩ = some (.slice A8 l8.length c8) ∧ W.cell? ⟨B, 1, none⟩ = some (.bool false) ∧ W.cell? ⟨G, 0, none⟩ = some (.int .u32 (ver : Int)) ∧ W.cell? ⟨G, 1, none⟩ = some (.slice AI xs.length cI) ∧ W.cell? ⟨G, 2, none⟩ = some (.slice AO ys.length cO) ∧ W.cell? ⟨G, 3, none⟩ = some (.int .u32 (lock : Int)))) (by kernel_rfl) ?_ (fun hHeld => ?_)
                    · exact ⟨k0, k1, d0, d1, d2, d3⟩
                    refine wpAnyH_take (i := 0) (oi := ?_) (v := ?_) (by simp only [List.getElem?_toArray, List.getElem?_cons_zero, List.getElem?_cons_succ]; rfl) (by kernel_rfl) (by kernel_rfl) (by kernel_rfl) (by exact fun _ _ _ h => h) (Or.inl ⟨by rfl, ?_⟩) (by assumption) ?_
                    rotate_left
                    · (intro w hSw; (try dsimp only at hSw); obtain ⟨s0, s1, s2, s3, s4, s5⟩ := hSw; go_simp; first | done | with_reducible rfl)
                    try simp only [Act.put, List.setIfInBounds_toArray, List.set_cons_zero, List.set_cons_succ]
                    refine wpAnyH_take (i := 1) (oi := ?_) (v := ?_) (by simp only [List.getElem?_toArray, List.getElem?_cons_zero, List.getElem?_cons_succ]; rfl) (by kernel_rfl) (by kernel_rfl) (by kernel_rfl) (by exact fun _ _ _ h => h) (Or.inl ⟨by rfl, ?_⟩) (by assumption) ?_
                    rotate_left
                    · (intro w hSw; (try dsimp only at hSw); obtain ⟨s0, s1, s2, s3, s4, s5⟩ := hSw; go_simp; first | done | with_reducible rfl)
                    try simp only [Act.put, List.setIfInBounds_toArray, List.set_cons_zero, List.set_cons_succ]
                    refine wpAnyH_take (i := 2) (oi := ?_) (v := ?_) (by simp only [List.getElem?_toArray, List.getElem?_cons_zero, List.getElem?_cons_succ]; rfl) (by kernel_rfl) (by kernel_rfl) (by kernel_rfl) (by exact fun _ _ _ h => h) (Or.inl ⟨by rfl, ?_⟩) (by assumption) ?_
                    rotate_left
                    · (intro w hSw; (try dsimp only at hSw); obtain ⟨s0, s1, s2, s3, s4, s5⟩ := hSw; go_simp; first | done | with_reducible rfl)
                    try simp only [Act.put, List.setIfInBounds_toArray, List.set_cons_zero, List.set_cons_succ]
                    refine wpAnyH_take (i := 3) (oi := ?_) (v := ?_) (by simp only [List.getElem?_toArray, List.getElem?_cons_zero, List.getElem?_cons_succ]; rfl) (by kernel_rfl) (by kernel_rfl) (by kernel_rfl) (by exact fun _ _ _ h => h) (Or.inl ⟨by rfl, ?_⟩) (by assumption) ?_
                    rotate_left
                    · (intro w hSw; (try dsimp only at hSw); obtain ⟨s0, s1, s2, s3, s4, s5⟩ := hSw; go_simp; first | done | with_reducible rfl)
                    try simp only [Act.put, List.setIfInBounds_toArray, List.set_cons_zero, List.set_cons_succ]
                    refine wpAnyH_take (i := 4) (oi := ?_) (v := ?_) (by simp only [List.getElem?_toArray, List.getElem?_cons_zero, List.getElem?_cons_succ]; rfl) (by kernel_rfl) (by kernel_rfl) (by kernel_rfl) (by exact fun _ _ _ h => h) (Or.inl ⟨by rfl, ?_⟩) (by assumption) ?_
                    rotate_left
                    · (intro w hSw; (try dsimp only at hSw); obtain ⟨s0, s1, s2, s3, s4, s5⟩ := hSw; go_simp; first | done | with_reducible rfl)
                    try simp only [Act.put, List.setIfInBounds_toArray, List.set_cons_zero, List.set_cons_succ]
                    refine wpAnyH_take (i := 5) (oi := ?_) (v := ?_) (by simp only [List.getElem?_toArray, List.getElem?_cons_zero, List.getElem?_cons_succ]; rfl) (by kernel_rfl) (by kernel_rfl) (by kernel_rfl) (by exact fun _ _ _ h => h) (Or.inl ⟨by rfl, ?_⟩) (by assumption) ?_
                    rotate_left
                    · (intro w hSw; (try dsimp only at hSw); obtain ⟨s0, s1, s2, s3, s4, s5⟩ := hSw; go_simp; first | done | with_reducible rfl)
                    try simp only [Act.put, List.setIfInBounds_toArray, List.set_cons_zero, List.set_cons_succ]
                    refine wpAnyH_ready (rs := [6]) (by kernel_rfl) (by simp) ?_
                    refine AllReadyH.cons (o := ?_) (by simp only [List.getElem?_toArray, List.getElem?_cons_zero, List.getElem?_cons_succ]; rfl) (fun K hK => ?_) ?_
                    · go_simp
                      (with_reducible refine (qmay_any _ T _ HDM.out (HT9.out.below (below_dr W9)).rd).mono ?_)
                      rintro e w12 ⟨rfl, hb⟩
                      have HB12 := As.mk (show Below W9.heap.size W9 w12 from (below_dr W9).trans hb)
                      have HZ12 := As.mk (HZ9.out.below HB12.out)
                      have HT12 := As.mk (HT9.out.below HB12.out)
                      obtain ⟨d0, d1, d2, d3, -⟩ := HZ12.out.cells
                      have hSn : (fun W : World => W.cell? ⟨B, 0, none⟩ = some (.slice A8 l8.length c8) ∧ W.cell? ⟨B, 1, none⟩ = some (.bool false) ∧ W.cell? ⟨G, 0, none⟩ = some (.int .u32 (ver : Int)) ∧ W.cell? ⟨G, 1, none⟩ = some (.slice AI xs.length cI) ∧ W.cell? ⟨G, 2, none⟩ = some (.slice AO ys.length cO) ∧ W.cell? ⟨G, 3, none⟩ = some (.int .u32 (lock : Int))) w12 := ⟨(HB12.out.cell (HBW.out)).trans k0, (HB12.out.cell (HBW.out)).trans k1, d0, d1, d2, d3⟩
                      clear hb
                      dsimp only
                      refine hK.out _ _ ?_ (fun hHeld2 => ?_)
                      · exact hSn
                      clear hK K hHeld
                      have hHeld := hHeld2
                      clear hHeld2
                      try simp only [Act.put, List.setIfInBounds_toArray, List.set_cons_zero, List.set_cons_succ]
                      refine wpAnyH_take (i := 7) (oi := ?_) (v := ?_) (by simp only [List.getElem?_toArray, List.getElem?_cons_zero, List.getElem?_cons_succ]; rfl) (by kernel_rfl) (by kernel_rfl) (by kernel_rfl) (by exact fun _ _ _ h => h) (Or.inl ⟨by rfl, ?_⟩) (by assumption) ?_
                      rotate_left
                      · (intro w hSw; (try dsimp only at hSw); obtain ⟨s0, s1, s2, s3, s4, s5⟩ := hSw; go_simp; first | done | with_reducible rfl)
                      try simp only [Act.put, List.setIfInBounds_toArray, List.set_cons_zero, List.set_cons_succ]
                      refine wpAnyH_take (i := 8) (oi := ?_) (v := ?_) (by simp only [List.getElem?_toArray, List.getElem?_cons_zero, List.getElem?_cons_succ]; rfl) (by kernel_rfl) (by kernel_rfl) (by kernel_rfl) (by exact fun _ _ _ h => h) (Or.inl ⟨by rfl, ?_⟩) (by assumption) ?_
                      rotate_left
                      · (intro w hSw; (try dsimp only at hSw); obtain ⟨s0, s1, s2, s3, s4, s5⟩ := hSw; go_simp; first | done | with_reducible rfl)
                      try simp only [Act.put, List.setIfInBounds_toArray, List.set_cons_zero, List.set_cons_succ]
                      refine wpAnyH_take (i := 9) (oi := ?_) (v := ?_) (by simp only [List.getElem?_toArray, List.getElem?_cons_zero, List.getElem?_cons_succ]; rfl) (by kernel_rfl) (by kernel_rfl) (by kernel_rfl) (by exact fun _ _ _ h => h) (Or.inl ⟨by rfl, ?_⟩) (by assumption) ?_
                      rotate_left
                      · (intro w hSw; (try dsimp only at hSw); obtain ⟨s0, s1, s2, s3, s4, s5⟩ := hSw; go_simp; first | done | with_reducible rfl)
                      try simp only [Act.put, List.setIfInBounds_toArray, List.set_cons_zero, List.set_cons_succ]
                      refine wpAnyH_take (i := 10) (oi := ?_) (v := undef) (by simp only [List.getElem?_toArray, List.getElem?_cons_zero, List.getElem?_cons_succ]; rfl) (by kernel_rfl) (by kernel_rfl) (by kernel_rfl) (by exact fun _ _ _ h => h) (Or.inr ⟨by rfl, rfl⟩) (by assumption) ?_
                      try simp only [Act.put, List.setIfInBounds_toArray, List.set_cons_zero, List.set_cons_succ]
                      refine wpAnyH_take (i := 11) (oi := ?_) (v := undef) (by simp only [List.getElem?_toArray, List.getElem?_cons_zero, List.getElem?_cons_succ]; rfl) (by kernel_rfl) (by kernel_rfl) (by kernel_rfl) (by exact fun _ _ _ h => h) (Or.inr ⟨by rfl, rfl⟩) (by assumption) ?_
                      try simp only [Act.put, List.setIfInBounds_toArray, List.set_cons_zero, List.set_cons_succ]
                      refine wpAnyH_take (i := 12) (oi := ?_) (v := undef) (by simp only [List.getElem?_toArray, List.getElem?_cons_zero, List.getElem?_cons_succ]; rfl) (by kernel_rfl) (by kernel_rfl) (by kernel_rfl) (by exact fun _ _ _ h => h) (Or.inr ⟨by rfl, rfl⟩) (by assumption) ?_
                      try simp only [Act.put, List.setIfInBounds_toArray, List.set_cons_zero, List.set_cons_succ]
                      refine wpAnyH_take (i := 13) (oi := ?_) (v := undef) (by simp only [List.getElem?_toArray, List.getElem?_cons_zero, List.getElem?_cons_succ]; rfl) (by kernel_rfl) (by kernel_rfl) (by kernel_rfl) (by exact fun _ _ _ h => h) (Or.inr ⟨by rfl, rfl⟩) (by assumption) ?_
                      try simp only [Act.put, List.setIfInBounds_toArray, List.set_cons_zero, List.set_cons_succ]
                      refine wpAnyH_take (i := 14) (oi := ?_) (v := undef) (by simp only [List.getElem?_toArray, List.getElem?_cons_zero, List.getElem?_cons_succ]; rfl) (by kernel_rfl) (by kernel_rfl) (by kernel_rfl) (by exact fun _ _ _ h => h) (Or.inr ⟨by rfl, rfl⟩) (by assumption) ?_
                      try simp only [Act.put, List.setIfInBounds_toArray, List.set_cons_zero, List.set_cons_succ]
                      refine wpAnyH_take (i := 15) (oi := ?_) (v := undef) (by simp only [List.getElem?_toArray, List.getElem?_cons_zero, List.getElem?_cons_succ]; rfl) (by kernel_rfl) (by kernel_rfl) (by kernel_rfl) (by exact fun _ _ _ h => h) (Or.inr ⟨by rfl, rfl⟩) (by assumption) ?_
                      try simp only [Act.put, List.setIfInBounds_toArray, List.set_cons_zero, List.set_cons_succ]
                      refine wpAnyH_take (i := 16) (oi := ?_) (v := undef) (by simp only [List.getElem?_toArray, List.getElem?_cons_zero, List.getElem?_cons_succ]; rfl) (by kernel_rfl) (by kernel_rfl) (by kernel_rfl) (by exact fun _ _ _ h => h) (Or.inr ⟨by rfl, rfl⟩) (by assumption) ?_
                      try simp only [Act.put, List.setIfInBounds_toArray, List.set_cons_zero, List.set_cons_succ]
                      refine wpAnyH_take (i := 17) (oi := ?_) (v := undef) (by simp only [List.getElem?_toArray, List.getElem?_cons_zero, List.getElem?_cons_succ]; rfl) (by kernel_rfl) (by kernel_rfl) (by kernel_rfl) (by exact fun _ _ _ h => h) (Or.inr ⟨by rfl, rfl⟩) (by assumption) ?_
                      try simp only [Act.put, List.setIfInBounds_toArray, List.set_cons_zero, List.set_cons_succ]
                      refine wpAnyH_take (i := 18) (oi := ?_) (v := undef) (by simp only [List.getElem?_toArray, List.getElem?_cons_zero, List.getElem?_cons_succ]; rfl) (by kernel_rfl) (by kernel_rfl) (by kernel_rfl) (by exact fun _ _ _ h => h) (Or.inr ⟨by rfl, rfl⟩) (by assumption) ?_
                      try simp only [Act.put, List.setIfInBounds_toArray, List.set_cons_zero, List.set_cons_succ]
                      refine wpAnyH_take (i := 19) (oi := ?_) (v := undef) (by simp only [List.getElem?_toArray, List.getElem?_cons_zero, List.getElem?_cons_succ]; rfl) (by kernel_rfl) (by kernel_rfl) (by kernel_rfl) (by exact fun _ _ _ h => h) (Or.inr ⟨by rfl, rfl⟩) (by assumption) ?_
                      try simp only [Act.put, List.setIfInBounds_toArray, List.set_cons_zero, List.set_cons_succ]
                      refine wpAnyH_take (i := 20) (oi := ?_) (v := undef) (by simp only [List.getElem?_toArray, List.getElem?_cons_zero, List.getElem?_cons_succ]; rfl) (by kernel_rfl) (by kernel_rfl) (by kernel_rfl) (by exact fun _ _ _ h => h) (Or.inr ⟨by rfl, rfl⟩) (by assumption) ?_
                      try simp only [Act.put, List.setIfInBounds_toArray, List.set_cons_zero, List.set_cons_succ]
                      refine wpAnyH_take (i := 21) (oi := ?_) (v := undef) (by simp only [List.getElem?_toArray, List.getElem?_cons_zero, List.getElem?_cons_succ]; rfl) (by kernel_rfl) (by kernel_rfl) (by kernel_rfl) (by exact fun _ _ _ h => h) (Or.inr ⟨by rfl, rfl⟩) (by assumption) ?_
                      try simp only [Act.put, List.setIfInBounds_toArray, List.set_cons_zero, List.set_cons_succ]
                      refine wpAnyH_take (i := 22) (oi := ?_) (v := undef) (by simp only [List.getElem?_toArray, List.getElem?_cons_zero, List.getElem?_cons_succ]; rfl) (by kernel_rfl) (by kernel_rfl) (by kernel_rfl) (by exact fun _ _ _ h => h) (Or.inr ⟨by rfl, rfl⟩) (by assumption) ?_
                      try simp only [Act.put, List.setIfInBounds_toArray, List.set_cons_zero, List.set_cons_succ]
                      refine wpAnyH_take (i := 23) (oi := ?_) (v := undef) (by simp only [List.getElem?_toArray, List.getElem?_cons_zero, List.getElem?_cons_succ]; rfl) (by kernel_rfl) (by kernel_rfl) (by kernel_rfl) (by exact fun _ _ _ h => h) (Or.inr ⟨by rfl, rfl⟩) (by assumption) ?_
                      try simp only [Act.put, List.setIfInBounds_toArray, List.set_cons_zero, List.set_cons_succ]
                      refine wpAnyH_take (i := 24) (oi := ?_) (v := undef) (by simp only [List.getElem?_toArray, List.getElem?_cons_zero, List.getElem?_cons_succ]; rfl) (by kernel_rfl) (by kernel_rfl) (by kernel_rfl) (by exact fun _ _ _ h => h) (Or.inr ⟨by rfl, rfl⟩) (by assumption) ?_
                      try simp only [Act.put, List.setIfInBounds_toArray, List.set_cons_zero, List.set_cons_succ]
                      refine wpAnyH_take (i := 25) (oi := ?_) (v := ?_) (by simp only [List.getElem?_toArray, List.getElem?_cons_zero, List.getElem?_cons_succ]; rfl) (by kernel_rfl) (by kernel_rfl) (by kernel_rfl) (by exact fun _ _ _ h => h) (Or.inl ⟨by rfl, ?_⟩) (by assumption) ?_
                      rotate_left
                      · (intro w hSw; (try dsimp only at hSw); obtain ⟨s0, s1, s2, s3, s4, s5⟩ := hSw; go_simp; first | done | with_reducible rfl)
                      try simp only [Act.put, List.setIfInBounds_toArray, List.set_cons_zero, List.set_cons_succ]
                      refine wpAnyH_done (by kernel_rfl) ?_ _
                      go_wp2
                      go_meet
                      rw [HOK.out]
                      exact ⟨rfl, ⟨HZ12.out, HT12.out⟩⟩
                    exact AllReadyH.nil

            case rest =>
              obtain ⟨rfl, HC⟩ := hcut
              clear HZ9 HT9
              have HZ13 := As.mk HC.out.1
              have HT13 := As.mk HC.out.2
              clear HC
              cases ok with
              | false =>
                have HF2 : As (t = noTx ∧ l' = l8 ∧ bad' = true) := ⟨by
                  rcases HF.out with h | h
                  · cases h.2.2.2.2.1
                  · exact ⟨h.2.1, h.2.2.2⟩⟩
                obtain ⟨A8, c8, k0, k1, f0, f1, -⟩ := Rdr.two HZ13.out.at
                go_upto_region 33 with fail
                have HZ14 : As (QSt w (wc.setCell ⟨B, 1, none⟩ (.bool true)) B RR G l8 true [.int .u32 (ver : Int), .slice AI xs.length cI, .slice AO ys.length cO, .int .u32 (lock : Int)]) := ⟨HZ13.out.read (rdr_setBad HZ13.out.at true) (grown_set _ _ _ _)⟩
                clear k0 k1 f0 f1 HT13
                generalize (wc.setCell ⟨B, 1, none⟩ (.bool true)) = w14 at HZ14 ⊢
                have HB14 := As.mk HZ14.out.box
                obtain ⟨q0, q1, q2, q3, fz⟩ := Box.four HB14.out
                go_wp2
                have HW4 := As.mk (And.intro (set4_box HB14.out (.int .u32 0) (.slice none 0 0) (.slice none 0 0) (.int .u32 0)) (set4_grown w14 RR (.int .u32 0) (.slice none 0 0) (.slice none 0 0) (.int .u32 0)))
                clear q0 q1 q2 q3 fz HB14
                generalize ((((w14.setCell ⟨RR, 0, none⟩ (.int .u32 0)).setCell ⟨RR, 1, none⟩ (.slice none 0 0)).setCell ⟨RR, 2, none⟩ (.slice none 0 0)).setCell ⟨RR, 3, none⟩ (.int .u32 0)) = W15 at HW4 ⊢
                obtain ⟨q0, q1, q2, q3, -⟩ := Box.four HW4.out.1
                refine bodyPost_ret (v := .tuple #[.agg #[.int .u32 0, .slice none 0 0, .slice none 0 0, .int .u32 0], .bool false]) (by simp [results, Try.results59, go_sem, q0, q1, q2, q3]) rfl ?_
                have hz := HZ14.out
                obtain ⟨rfl, rfl, rfl⟩ := HF2.out
                exact ⟨[.int .u32 0, .slice none 0 0, .slice none 0 0, .int .u32 0], rfl, OwTx.no _ _, Rdr.grown hz.at HW4.out.2 (fun j hj => by injection hj with hj; have := hz.2.2.2.2; omega), grown_far hz.2.1 HW4.out.2 (fun j hj => by injection hj with hj; have := hz.2.2.2.2; omega)⟩
              | true =>
                have HF2 : As (t = T ∧ l' = l8 ∧ bad' = b8) := ⟨by
                  rcases HF.out with h | h
                  · exact ⟨h.2.2.2.1, h.2.2.2.2.2⟩
                  · cases h.2.2.1⟩
                obtain ⟨q0, q1, q2, q3, fz⟩ := Box.four HZ13.out.box
                obtain ⟨d0, d1, d2, d3, -⟩ := HZ13.out.cells
                go_wp2
                have HW4 := As.mk (And.intro (set4_box HZ13.out.box (.int .u32 (ver : Int)) (.slice AI xs.length cI) (.slice AO ys.length cO) (.int .u32 (lock : Int))) (set4_grown wc RR (.int .u32 (ver : Int)) (.slice AI xs.length cI) (.slice AO ys.length cO) (.int .u32 (lock : Int))))
                clear q0 q1 q2 q3 fz d0 d1 d2 d3
                generalize ((((wc.setCell ⟨RR, 0, none⟩ (.int .u32 (ver : Int))).setCell ⟨RR, 1, none⟩ (.slice AI xs.length cI)).setCell ⟨RR, 2, none⟩ (.slice AO ys.length cO)).setCell ⟨RR, 3, none⟩ (.int .u32 (lock : Int))) = W15 at HW4 ⊢
                obtain ⟨q0, q1, q2, q3, -⟩ := Box.four HW4.out.1
                refine bodyPost_ret (v := .tuple #[.agg #[.int .u32 (ver : Int), .slice AI xs.length cI, .slice AO ys.length cO, .int .u32 (lock : Int)], .bool true]) (by simp [results, Try.results59, go_sem, q0, q1, q2, q3]) rfl ?_
                have hz := HZ13.out
                obtain ⟨rfl, rfl, rfl⟩ := HF2.out
                have hord := hz.2.2.2.2
                exact ⟨[.int .u32 (ver : Int), .slice AI xs.length cI, .slice AO ys.length cO, .int .u32 (lock : Int)], rfl, OwTx.mono (OwTx.read HT13.out HW4.out.2 (by omega)) (by omega), Rdr.grown hz.at HW4.out.2 (fun j hj => by injection hj with hj; omega), grown_far hz.2.1 HW4.out.2 (fun j hj => by injection hj with hj; omega)⟩
end Go.Proofs.Ytfggkljgfadacaa.W
