/- txns.ins: the next inputs. -/
import Derived.Test.YtfggkljgfadacaaT11
set_option linter.unusedVariables false
set_option linter.unusedSimpArgs false
namespace Go.Proofs.Ytfggkljgfadacaa.W
open Go.RowKit Go.Proofs.Ytfggkljgfadacaa.B Go.Proofs

set_option maxHeartbeats 4000000 in
set_option maxRecDepth 100000 in
theorem ins_to (B : Nat) (l : List UInt8) (bad : Bool) (N : Nat) (y : Int) (w : World) {xs0 : List LIn} {l' : List UInt8} {bad' : Bool} (hy : y = (N : Int)) (hN : N ≤ 50) (hq : iter rIn N (l, bad) = (xs0, l', bad')) (h : Rdr 74 w B l bad) (hl : l.length ≤ 140737488355328) :
    Calls Try.prog 86 #[.pointer (some ⟨B, 0, none⟩), .int .i64 y] w fun e w' => ∃ r, e = .returned r ∧ OwIns w' w.heap.size r xs0 ∧ Rdr 74 w' B l' bad' ∧ w.grownBy w' (some B) := by
  subst hy
  have HQ := As.mk hq
  have HL1 := As.mk hl
  have HR := As.mk h
  have HBL := As.mk h.lt
  have hN' : (N : Int) ≤ 50 := by omega
  clear hq hl h hN
  go_enter Try.func86, Try.ntmps86
  go_wp2
  go_loopw [5, 8] (fun v5 v8 wr => ∃ (k : Nat) (xs : List LIn) (l2 : List UInt8) (b2 : Bool), v8 = .int .i64 (k : Int) ∧ (k : Int) ≤ N ∧ As (iter rIn k (l, bad) = (xs, l2, b2)) ∧ As (Rdr 74 wr B l2 b2) ∧ As (OwIns wr w.heap.size v5 xs) ∧ As (w.grownBy wr (some B)) ∧ As (l2.length ≤ 140737488355328) ∧ As (xs.length = k)) (fun _ v8 _ => N - (intOf v8).toNat)
  case atStart => exact ⟨0, [], l, bad, rfl, by omega, ⟨rfl⟩, HR, ⟨OwG.nil⟩, ⟨World.grownBy.refl w _⟩, HL1, ⟨rfl⟩⟩
  case round =>
    obtain ⟨k, xs, l2, b2, rfl, hk, HI, HRk, HO, HG, HL2, HXL⟩ := hrel
    by_cases hlt : (k : Int) < N
    · obtain ⟨pv, la, ba, hqa⟩ : ∃ m l3 b3, rtake 32 l2 b2 = (m, l3, b3) := ⟨_, _, _, rfl⟩
      obtain ⟨vo, lb, bb, hqb⟩ : ∃ m l3 b3, rnum 4 la ba = (m, l3, b3) := ⟨_, _, _, rfl⟩
      obtain ⟨m, lc, bc, hqc⟩ : ∃ m l3 b3, rcount 500 lb bb = (m, l3, b3) := ⟨_, _, _, rfl⟩
      obtain ⟨x, ld, bd, hqd⟩ : ∃ x l4 b4, rtake (m : Int) lc bc = (x, l4, b4) := ⟨_, _, _, rfl⟩
      obtain ⟨sq, le_, be, hqe⟩ : ∃ m l3 b3, rnum 4 ld bd = (m, l3, b3) := ⟨_, _, _, rfl⟩
      have HLa : As (la.length ≤ 140737488355328) := ⟨by have := rtake_le_len 32 l2 b2; rw [hqa] at this; simp only at this; have := HL2.out; omega⟩
      have HLb : As (lb.length ≤ 140737488355328) := ⟨by have := rnum_le_len 4 la ba; rw [hqb] at this; simp only at this; have := HLa.out; omega⟩
      have HLc : As (lc.length ≤ 140737488355328) := ⟨by have := rcount_le_len 500 lb bb; rw [hqc] at this; simp only at this; have := HLb.out; omega⟩
      have HLd : As (ld.length ≤ 140737488355328) := ⟨by have := rtake_le_len m lc bc; rw [hqd] at this; simp only at this; have := HLc.out; omega⟩
      have HLe : As (le_.length ≤ 140737488355328) := ⟨by have := rnum_le_len 4 ld bd; rw [hqe] at this; simp only at this; have := HLd.out; omega⟩
      have HVO : As (vo < 4294967296 ∧ sq < 4294967296) := ⟨by have := rnum_lt 4 la ba; rw [hqb] at this; have := rnum_lt 4 ld bd; rw [hqe] at this; simp only at *; omega⟩
      have HPL : As ((pad32 pv).length = 32) := ⟨pad32_length pv (by have := rtake_len 32 l2 b2; have e : ((32 : Nat) : Int) = 32 := rfl; rw [e, hqa] at this; exact this)⟩
      have HI2 : As (iter rIn (k + 1) (l, bad) = (xs ++ [⟨pad32 pv, vo, x, sq, []⟩], le_, be)) := ⟨by unfold iter; rw [HI.out]; simp only [rIn, rRow]; rw [hqa]; simp only; rw [hqb]; simp only; rw [hqc]; simp only; rw [hqd]; simp only; rw [hqe]⟩
      have HQa := As.mk hqa
      have HQb := As.mk hqb
      have HQc := As.mk hqc
      have HQd := As.mk hqd
      have HQe := As.mk hqe
      clear hqa hqb hqc hqd hqe
      have HU := As.mk (fun b hb => (OwG.lt HO.out b hb).2)
      obtain ⟨pc, hpc⟩ : ∃ pc, pc = (pad32 pv).map u8v := ⟨_, rfl⟩
      obtain ⟨c36, hc36⟩ : ∃ c, c = (pc ++ [Value.int .u32 (vo : Int), Value.slice none 0 0, Value.int .u32 0, Value.slice none 0 0] : List Value) := ⟨_, rfl⟩
      have HPCL : As (pc.length = 32) := ⟨by rw [hpc, List.length_map]; exact HPL.out⟩
      have HPC := As.mk hpc
      have HC36 := As.mk hc36
      have HCL : As (c36.length = 36) := ⟨by rw [hc36, List.length_append, HPCL.out]; rfl⟩
      have H1 : As (∀ v ∈ c36, v.oneCell' = true) := ⟨by
        intro v hv
        rw [hc36, hpc] at hv
        rcases List.mem_append.1 hv with hv | hv
        · exact u8v_one _ v hv
        · simp at hv; rcases hv with rfl | rfl | rfl | rfl <;> rfl⟩
      clear hpc hc36
      go_upto_region 5 with (first | (go_at_call 99; (with_reducible refine (id_as B l2 b2 _ HPC.out HQa.out HRk.out HL2.out).mono ?_); rintro e w2 ⟨rfl, hr, hg⟩; have HR2 := As.mk hr; have HG2 := As.mk hg; clear hr hg) | (go_at_call 19; ((with_reducible refine (rsmall_to B la ba _ HQb.out HR2.out).mono ?_); rintro e w3 ⟨rfl, hr, hg⟩; have HR3 := As.mk hr; have HG3 := As.mk (grown_trans HG2.out hg); clear hr hg; dsimp only; apply_assumption; (with_reducible refine wpList_build_to (o := ⟨_, .build 55 #[(0, .tmp 11), (1, .tmp 13)], _, _, _, _⟩) ?hgd 55 _ rfl c36.toArray ?hf ?_); (case hgd => exact rfl); (case hf => rw [HC36.out]; simp only [List.map_toArray, List.map_cons, List.map_nil]; exact built55 pc HPCL.out vo))) | ((with_reducible refine wpList_store_new (op := ⟨_, .store 55 (.tmp 6) (.tmp 14), _, _, _, _⟩) ?hgd 55 (.tmp 6) (.tmp 14) rfl (w3) ?cc55 c36 ?hw ?hx ?hy ?hi ?hc H1.out ?_); (case hgd => exact rfl); (case hw => exact rfl); (case hx => exact rfl); (case hy => exact rfl); (case hi => rw [HCL.out]; kernel_rfl); (case hc => rw [HCL.out]; exact rfl)))
      have HZ : As (Rdr 74 (w3.alloc (.cells c36.toArray 55)) B lb bb ∧ wr.grownBy (w3.alloc (.cells c36.toArray 55)) (some B) ∧ Box (w3.alloc (.cells c36.toArray 55)) w3.heap.size c36.toArray 55 ∧ B < w3.heap.size ∧ wr.heap.size ≤ w3.heap.size) :=
        ⟨Rdr.below HR3.out ((Below.refl _ _).alloc (Nat.le_refl _) _), grown_al HG3.out _, Box.new _ _ _, by have := HG3.out.size; have := HG.out.size; have := HBL.out; omega, HG3.out.size⟩
      obtain ⟨G, hG⟩ : ∃ G, G = w3.heap.size := ⟨_, rfl⟩
      rw [← hG] at HZ
      rw [← hG]
      generalize (w3.alloc (.cells c36.toArray 55)) = W3 at HZ ⊢
      have HB3 := As.mk (And.intro HZ.out.2.2.2.1 HZ.out.2.2.2.2)
      have HC33 : As (c36[33]? = some (Value.slice none 0 0)) := ⟨by rw [HC36.out, List.getElem?_append_right (by have := HPCL.out; omega), HPCL.out]; rfl⟩
      clear HR3 HG3 HR2 HG2 hG
      go_upto_region 6 with (first | (go_at_call 21; (with_reducible refine (rcount_to B lb bb 500 _ HQc.out HZ.out.1 (by omega) (by omega)).mono ?_); rintro e w4 ⟨rfl, hr, hg⟩; have HR4 := As.mk hr; have HG4 := As.mk (grown_trans HZ.out.2.1 hg); have HX4 := As.mk (Box.grown HZ.out.2.2.1 hg (fun e => by injection e with e; have := HB3.out.1; omega)); clear hr hg) | (go_at_call 25; (with_reducible refine (rtake_to B lc bc _ _ HQd.out HR4.out HLc.out).mono ?_); rintro e w5 ⟨r3, rfl, ho, hr, hg⟩; obtain ⟨A3, c3, rfl, -⟩ := RdB.form ho.rd; have HX5 := As.mk ho; have HR5 := As.mk hr; have HG5 := As.mk (grown_trans HG4.out hg); have HB5 := As.mk (Box.grown HX4.out hg (fun e => by injection e with e; have := HB3.out.1; omega)); have q33 := Box.cell HB5.out 33 (.slice none 0 0) (by simpa using HC33.out); have f33 := Box.frozen HB5.out 33; clear hr hg ho))
      have gset := grown_set w5 G 33 (.slice A3 x.length c3)
      have HB6 := As.mk (Box.set HB5.out 33 (.slice A3 x.length c3))
      have HR6 := As.mk (Rdr.grown HR5.out gset (fun b hb => by injection hb with hb; have := HB3.out.1; omega))
      have HG6 := As.mk (grown_far HG5.out gset (fun b hb => by injection hb with hb; have := HB3.out.2; omega))
      have HX6 : As (OwB (w5.setCell ⟨G, 33, none⟩ (.slice A3 x.length c3)) (G + 1) 5 (.slice A3 x.length c3) x) :=
        ⟨OwS.mono (OwS.kept HX5.out gset (off_kept (off_low HX5.out HX4.out.lt))) HX4.out.lt⟩
      obtain ⟨d36, hd36⟩ : ∃ d, d = c36.set 33 (.slice A3 x.length c3) := ⟨_, rfl⟩
      rw [← hd36] at HB6
      have HD36 : As (d36 = (pc ++ [Value.int .u32 (vo : Int), Value.slice A3 x.length c3, Value.int .u32 0, Value.slice none 0 0] : List Value)) := ⟨by rw [hd36, HC36.out, List.set_append_right _ _ (by have := HPCL.out; omega), HPCL.out]; rfl⟩
      have HD34 : As (d36[34]? = some (Value.int .u32 0)) := ⟨by rw [HD36.out, List.getElem?_append_right (by have := HPCL.out; omega), HPCL.out]; rfl⟩
      clear gset q33 f33 HR5 HG5 HB5 HX5 HR4 HG4 HX4 HZ hd36
      generalize (w5.setCell ⟨G, 33, none⟩ (.slice A3 x.length c3)) = W6 at HB6 HR6 HG6 HX6 ⊢
      go_upto_region 7 with (go_at_call 19; (with_reducible refine (rsmall_to B ld bd _ HQe.out HR6.out).mono ?_); rintro e w7 ⟨rfl, hr, hg⟩; have HR7 := As.mk hr; have HG7 := As.mk (grown_trans HG6.out hg); have HB7 := As.mk (Box.grown HB6.out hg (fun e => by injection e with e; have := HB3.out.1; omega)); have HX7 := As.mk (OwS.kept HX6.out hg (off_kept (off_low HX6.out (by have := HB3.out.1; omega)))); have q34 := Box.cell HB7.out 34 (.int .u32 0) (by simpa using HD34.out); have f34 := Box.frozen HB7.out 34; clear hr hg)
      have gset := grown_set w7 G 34 (.int .u32 (sq : Int))
      have HB8 := As.mk (Box.set HB7.out 34 (.int .u32 (sq : Int)))
      have HR8 := As.mk (Rdr.grown HR7.out gset (fun b hb => by injection hb with hb; have := HB3.out.1; omega))
      have HG8 := As.mk (grown_far HG7.out gset (fun b hb => by injection hb with hb; have := HB3.out.2; omega))
      have HX8 : As (OwB (w7.setCell ⟨G, 34, none⟩ (.int .u32 (sq : Int))) (G + 1) 5 (.slice A3 x.length c3) x) :=
        ⟨OwS.kept HX7.out gset (off_kept (off_low HX7.out (Nat.lt_succ_self G)))⟩
      obtain ⟨e36, he36⟩ : ∃ d, d = d36.set 34 (.int .u32 (sq : Int)) := ⟨_, rfl⟩
      rw [← he36] at HB8
      have HE36 : As (e36 = (pc ++ [Value.int .u32 (vo : Int), Value.slice A3 x.length c3, Value.int .u32 (sq : Int), Value.slice none 0 0] : List Value)) := ⟨by rw [he36, HD36.out, List.set_append_right _ _ (by have := HPCL.out; omega), HPCL.out]; rfl⟩
      have HEL : As (e36.length = 36) := ⟨by rw [HE36.out, List.length_append, HPCL.out]; rfl⟩
      have HE1 : As (∀ v ∈ e36, v.oneCell' = true) := ⟨by
        intro v hv
        rw [HE36.out, HPC.out] at hv
        rcases List.mem_append.1 hv with hv | hv
        · exact u8v_one _ v hv
        · simp at hv; rcases hv with rfl | rfl | rfl | rfl <;> rfl⟩
      clear gset q34 f34 HR7 HG7 HB7 HX7 HR6 HG6 HB6 HX6 he36
      generalize (w7.setCell ⟨G, 34, none⟩ (.int .u32 (sq : Int))) = W8 at HB8 HR8 HG8 HX8 ⊢
      have HRG := As.mk (range_of_block HB8.out)
      have HO8 := As.mk (OwG.read (l := l2) (bad := b2) (InE.read HBL.out HG8.out) HO.out HG8.out HBL.out)
      have HS8 := As.mk (Nat.le_trans HG.out.size HG8.out.size)
      have hbz : Below W8.heap.size W8 (W8.alloc (.cells e36.toArray 55)) := (Below.refl _ _).alloc (Nat.le_refl _) _
      have HBZ := As.mk hbz
      clear hbz
      have HBN := As.mk (Box.new W8 e36.toArray 55)
      have HOZ := As.mk (OwG.same (InE.below HBZ.out) HO8.out HBZ.out)
      have HEN : As (InE w.heap.size (W8.alloc (.cells e36.toArray 55)) u5.ownBlock e36 ⟨pad32 pv, vo, x, sq, []⟩) := ⟨⟨_, _, (by rw [HE36.out, HPC.out]), HPL.out, ⟨OwS.below (OwS.mono HX8.out (by have q2 := HG.out.size; have q3 := HB3.out.2; omega)) HBZ.out, fun b hb e => (by have q1 := HX8.out.lt b hb; have q2 := HU.out b e; have q3 := HB3.out.2; omega)⟩, OwV.nil _ _ _, HVO.out.1, HVO.out.2⟩⟩
      obtain ⟨it, hit⟩ := Option.map_eq_some_iff.1 info55
      have HIT := As.mk hit
      clear hit
      go_wp2_with (first | ((with_reducible refine wpList_load_mid (op := ⟨_, .load 55 (.tmp 6), _, _, _, _⟩) ?hgd 55 (.tmp 6) rfl _ _ ?hx e36 _ HRG.out Try.underlying55 rfl ?hi ?_); (case hgd => exact rfl); (case hx => exact rfl); (case hi => rw [HEL.out]; kernel_rfl)) | ((with_reducible refine wpList_buildSlice (o := ⟨_, .buildSlice 48 1 #[(0, .tmp 24)], _, _, _, _⟩) ?hgd 48 55 1 _ rfl e36.toArray it (.agg (Z32 ++ [Value.int .u32 0, Value.slice none 0 0, Value.int .u32 0, Value.slice none 0 0]).toArray) Try.underlying48 HIT.out.1 ?hz ?hsm ?hpo ?hf ?_); (case hgd => exact rfl); (case hz => have h := HIT.out.2; simp only [Prod.mk.injEq] at h; exact h.1); (case hsm => have h := HIT.out.2; simp only [Prod.mk.injEq] at h; rw [h.2.1]; decide); (case hpo => have h := HIT.out.2; simp only [Prod.mk.injEq] at h; rw [h.2.1]; decide); (case hf => have h := HIT.out.2; simp only [Prod.mk.injEq] at h; rw [h.2.1]; simp only [List.map_toArray, List.map_cons, List.map_nil]; exact fill55 _ (by simp) e36 HEL.out)) | (at_builtin; refine wpList_appG (E := InE w.heap.size) w.heap.size rfl (.tmp 23) (.tmp 25) 48 55 ZIn 36 96 rfl Try.underlying48 info55z zin_size (by decide) (by decide) u5 rfl W8.heap.size rfl e36 HBN.out HEL.out HE1.out xs ⟨pad32 pv, vo, x, sq, []⟩ HOZ.out HEN.out (fun v' w' hg ht => InE.grow hg ht) (by have := HXL.out; omega) (Nat.le_trans HS8.out HBZ.out.size) ?_; intro v4 w4 ho hg ht; have HO4 := As.mk ho; have HR4 := As.mk (Rdr.grown (Rdr.below HR8.out HBZ.out) hg (fun b hb => (by have q1 := OwG.lt HO.out b hb; have q2 := HBL.out; omega))); have HG4 := As.mk (grown_far (grown_al (grown_trans HG.out HG8.out) _) hg (fun b hb => (OwG.lt HO.out b hb).1)); clear ho hg ht))
      go_roundw
      case rel =>
        refine ⟨k + 1, xs ++ [⟨pad32 pv, vo, x, sq, []⟩], le_, be, ?_, ?_, ?_, ?_, ?_, ?_, ?_, ?_⟩
        · go_num
        · omega
        · exact HI2
        · exact HR4
        · exact HO4
        · exact HG4
        · exact HLe
        · exact ⟨by rw [List.length_append, HXL.out]; rfl⟩
      case measure => simp [intOf]; omega
    · have hkN : k = N := by omega
      have HF : As (xs = xs0 ∧ l2 = l' ∧ b2 = bad') := ⟨by have h1 := HI.out; rw [hkN, HQ.out] at h1; simp only [Prod.mk.injEq] at h1; exact ⟨h1.1.symm, h1.2.1.symm, h1.2.2.symm⟩⟩
      clear hkN
      go_wp2
      go_ret
      obtain ⟨rfl, rfl, rfl⟩ := HF.out
      exact ⟨_, rfl, HO.out, HRk.out, HG.out⟩
end Go.Proofs.Ytfggkljgfadacaa.W
