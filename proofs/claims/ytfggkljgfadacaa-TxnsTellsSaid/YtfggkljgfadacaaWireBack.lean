/- Numbers written one behind the other are read as they were, and cut anywhere the last can't be: the walk of WireBack. -/
import Derived.Test.YtfggkljgfadacaaA2
import Derived.Test.YtfggkljgfadacaaL2
import Derived.OpenShut
set_option linter.unusedVariables false
set_option linter.unusedSimpArgs false
namespace Go.Proofs.Ytfggkljgfadacaa.W
open Go.RowKit Go.Proofs.Ytfggkljgfadacaa.B Go.Proofs

theorem count_to (v : Value) (l : List UInt8) (x : Int) (w : World) {L : List UInt8} (hq : l ++ cnt (clampU x) = L) (hr : RdB w v l) (hl : l.length + 5 ≤ 140737488355328) :
    Calls Try.prog 15 #[v, .int .i64 x] w fun e w' => ∃ r, e = .returned r ∧ OwB w' w.heap.size 5 r L ∧ Below w.heap.size w w' := by
  have := count_any v l x w hr hl
  rw [hq] at this
  exact this
theorem i64_and255 (n : Int) : bits .and .i64 n 255 = n % 256 := by
  have h255 : (BitVec.ofInt 64 255).toNat = 2 ^ 8 - 1 := by decide
  have key : (BitVec.ofInt 64 n &&& BitVec.ofInt 64 255).toNat = (n % ((2 ^ 64 : Nat) : Int)).toNat % 2 ^ 8 := by
    rw [BitVec.toNat_and, BitVec.toNat_ofInt, h255, Nat.and_two_pow_sub_one_eq_mod]
  show IntKind.i64.wrap ((BitVec.ofInt 64 n &&& BitVec.ofInt 64 255).toNat : Nat) = n % 256
  rw [key, IntKind.wrap_i64]
  omega
theorem clampU_nat (N : Nat) (h : N ≤ 4294967295) : clampU (N : Int) = N := by unfold clampU; omega

set_option maxHeartbeats 4000000 in
set_option maxRecDepth 100000 in
theorem wireBack_walk (A U : Nat) (n cut : Int) (hA : A < 4294967296) (hU : U < 18446744073709551616) (w : World) :
    Calls Try.prog 3 #[.int .u32 (A : Int), .int .u64 (U : Int), .int .i64 n, .int .i64 cut] w fun e w' => e = .returned (.bool true) ∧ Below w.heap.size w w' := by
  have HA := As.mk hA
  have HU := As.mk hU
  clear hA hU
  go_enter Try.func3, Try.ntmps3
  go_upto_region 1 with (fail)
  go_cut [2] (fun v2 wc => ∃ N : Nat, v2 = .int .i64 (N : Int) ∧ As (N ≤ 4294967295) ∧ w = wc)
  case first =>
    by_cases k1 : n < 0
    · go_wp2
      go_meet
      exact ⟨0, rfl, ⟨by omega⟩, rfl⟩
    have k1' : 0 ≤ n := by omega
    by_cases k2 : n ≤ 4294967295
    · go_wp2
      go_meet
      exact ⟨n.toNat, by congr 1; omega, ⟨by omega⟩, rfl⟩
    · have k2' : 4294967295 < n := by omega
      go_wp2
      go_meet
      exact ⟨4294967295, rfl, ⟨by omega⟩, rfl⟩
  case rest =>
    obtain ⟨N, rfl, HN, rfl⟩ := hcut
    obtain ⟨L, hL⟩ : ∃ L, L = le A 4 ++ (le U 8 ++ cnt N) := ⟨_, rfl⟩
    have hLL : L.length = 12 + (cnt N).length := by rw [hL]; simp [le_length]; omega
    have hc5 := cnt_length N
    have HLL := As.mk (show L.length ≤ 17 ∧ 12 ≤ L.length ∧ 13 ≤ L.length from ⟨by omega, by omega, by
      have : 1 ≤ (cnt N).length := by unfold cnt; split <;> (try split) <;> simp [le_length]
      omega⟩)
    have HQ0 : As ([] ++ le A 4 ++ le U 8 ++ cnt (clampU (N : Int)) = L) := ⟨by rw [clampU_nat N HN.out, hL]; simp⟩
    have HL := As.mk hL
    clear hLL hL hc5
    have HB : As (Below w.heap.size w w) := ⟨Below.refl _ _⟩
    go_upto_region 3 with (first | (go_at_call 17; (with_reducible refine (small_any _ [] A _ _ (nilB _) (by simp) HA.out rfl).mono ?_); rintro e w' ⟨r1, rfl, ho, hb⟩; have HO1 := As.mk ho; have HB2 := As.mk (HB.out.trans (hb.mono HB.out.size)); clear ho hb; clear HB; have HB := HB2; clear HB2) | (go_at_call 16; (with_reducible refine (big_any _ ([] ++ le A 4) U _ _ HO1.out.rd (by simp [le_length]) HU.out rfl).mono ?_); rintro e w' ⟨r2, rfl, ho, hb⟩; have HO2 := As.mk ho; have HB2 := As.mk (HB.out.trans (hb.mono HB.out.size)); clear ho hb; clear HB; have HB := HB2; clear HB2) | (go_at_call 15; (go_at_call 15; (with_reducible refine (count_to _ ([] ++ le A 4 ++ le U 8) (N : Int) _ HQ0.out HO2.out.rd (by simp [le_length])).mono ?_); rintro e w' ⟨r3, rfl, ho, hb⟩; have HO3 := As.mk ho; have HB2 := As.mk (HB.out.trans (hb.mono HB.out.size)); clear ho hb; clear HB; have HB := HB2; clear HB2)))
    have HX := As.mk HO3.out.rd
    clear HO1 HO2 HO3 HQ0
    obtain ⟨Ad, cp, rfl, hlc, -⟩ := RdB.form HX.out
    have HLC := As.mk hlc
    clear hlc
    have hl13 : (13 : Int) ≤ L.length := by have := HLL.out; omega
    have hc0 := i64_and255 cut
    go_wp2_with fail
    have HB1 : As (Below w.heap.size w (w'.alloc (Obj.cells #[Value.int IntKind.i64 ↑L.length, Value.int IntKind.i64 (cut % 256 % ↑L.length)] 3))) := ⟨HB.out.alloc HB.out.size _⟩
    have HX1 : As (RdB (w'.alloc (Obj.cells #[Value.int IntKind.i64 ↑L.length, Value.int IntKind.i64 (cut % 256 % ↑L.length)] 3)) (.slice Ad L.length cp) L) := ⟨HX.out.alloc _⟩
    have hD : (w'.alloc (Obj.cells #[Value.int IntKind.i64 ↑L.length, Value.int IntKind.i64 (cut % 256 % ↑L.length)] 3)).heap[w'.heap.size]? = some (.cells #[Value.int IntKind.i64 ↑L.length, Value.int IntKind.i64 (cut % 256 % ↑L.length)] 3 (0, 0)) := heap_alloc_new w' _
    obtain ⟨K, hK0, hK⟩ : ∃ K : Nat, K < L.length ∧ cut % 256 % (L.length : Int) = (K : Int) := ⟨(cut % 256 % (L.length : Int)).toNat, by
      have h1 := Int.emod_nonneg (cut % 256) (show (L.length : Int) ≠ 0 by omega)
      have h2 := Int.emod_lt_of_pos (cut % 256) (show 0 < (L.length : Int) by omega)
      omega, by
      have h1 := Int.emod_nonneg (cut % 256) (show (L.length : Int) ≠ 0 by omega)
      omega⟩
    rw [hK] at hD HB1 HX1
    rw [hK]
    clear HB HX hc0 hK
    generalize (w'.alloc (Obj.cells #[Value.int IntKind.i64 ↑L.length, Value.int IntKind.i64 ↑K] 3)) = W1 at *
    generalize w'.heap.size = D at *
    have hDlt : D < W1.heap.size := (Array.getElem?_eq_some_iff.1 hD).1
    have HD := As.mk hD
    have HDL := As.mk hDlt
    have HK := As.mk hK0
    have HX := HX1
    clear hD hDlt hK0 hl13 HX1
    go_loopw [37] (fun v37 wr => ∃ i : Nat, (i : Int) ≤ 2 ∧ v37 = .int .i64 (i : Int) ∧ As (Below W1.heap.size W1 wr)) (fun v37 _ => (2 - intOf v37).toNat)
    case atStart => exact ⟨0, by omega, rfl, ⟨Below.refl _ _⟩⟩
    case round =>
      obtain ⟨i, hi, rfl, HBr⟩ := hrel
      have hX := HX.out.below HBr.out
      have hD := HD.out
      rw [← HBr.out.block D HDL.out] at hD
      obtain ⟨c0, c1, -, -⟩ := two_cell hD
      clear hD
      by_cases i0 : i = 0
      · subst i0
        obtain ⟨q1, q2, q3⟩ := three_read A U N HA.out HU.out (by have := HN.out; omega)
        rw [← HL.out] at q1
        have HQ1 : As (rnum 4 (L.take L.length) false = (A, le U 8 ++ cnt N, false)) := ⟨by rw [List.take_length]; exact q1⟩
        have HQ2 := As.mk q2
        have HQ3 := As.mk q3
        clear q1 q2 q3
        have hS := fun W => run_cut_to (P := Try.prog) 24 5 1 Try.underlying24 size5 Ad L.length cp L.length (by have := HLC.out; have := HK.out; omega) W
        have HT := As.mk (RdB.to hX L.length (by have := HK.out; omega))
        have HB : As (Below wr.heap.size wr wr) := ⟨Below.refl _ _⟩
        clear hX
        go_wp2_with (first | (go_at_call 18; (with_reducible refine (read_any _ (L.take L.length) _ HT.out (by have := HLL.out; rw [List.length_take]; omega)).mono ?_); rintro e w' ⟨B, rfl, hB, hr, hb⟩; have HR := As.mk hr; have HBB := As.mk (Nat.le_trans HB.out.size hB); have HB2 := As.mk (HB.out.trans (hb.mono HB.out.size)); clear hr hb hB; clear HB; have HB := HB2; clear HB2) | (go_at_call 19; (with_reducible refine (rsmall_to B (L.take L.length) false _ HQ1.out HR.out).mono ?_); rintro e w' ⟨rfl, hr1, hg1⟩; have HR2 := As.mk hr1; have HB2 := As.mk (below_grown HB.out hg1 HBB.out HB.out.size); clear hr1 hg1; clear HR; have HR := HR2; clear HR2; clear HB; have HB := HB2; clear HB2) | (go_at_call 20; (with_reducible refine (rbig_to B (le U 8 ++ cnt N) false _ HQ2.out HR.out).mono ?_); rintro e w' ⟨rfl, hr1, hg1⟩; have HR2 := As.mk hr1; have HB2 := As.mk (below_grown HB.out hg1 HBB.out HB.out.size); clear hr1 hg1; clear HR; have HR := HR2; clear HR2; clear HB; have HB := HB2; clear HB2) | (go_at_call 21; (with_reducible refine (rcount_to B (cnt N) false 4294967295 _ HQ3.out HR.out (by omega) (by omega)).mono ?_); rintro e w' ⟨rfl, hr1, hg1⟩; have HR2 := As.mk hr1; have HB2 := As.mk (below_grown HB.out hg1 HBB.out HB.out.size); clear hr1 hg1; clear HR; have HR := HR2; clear HR2; clear HB; have HB := HB2; clear HB2) | (go_at_call 22; (with_reducible refine (end_any B [] false _ HR.out).mono ?_); rintro e w' ⟨rfl, rfl⟩) | (go_at_call 23; (with_reducible refine (ok_any B [] false _ HR.out).mono ?_); rintro e w' ⟨rfl, rfl⟩))
        go_roundw
        case rel => exact ⟨1, by omega, by first | rfl | go_num, ⟨HBr.out.trans (HB.out.mono HBr.out.size)⟩⟩
        case measure => simp [intOf]
      by_cases i1 : i = 1
      · subst i1
        obtain ⟨x, l1, b1, y, l2, b2, q1, q2, q3⟩ := three_cut A U N K HA.out HU.out (by have := HN.out; omega) (by rw [← HL.out]; exact HK.out)
        rw [← HL.out] at q1
        have HQ1 := As.mk q1
        have HQ2 := As.mk q2
        have HQ3 := As.mk q3
        have t1 : ((K : Int) == (L.length : Int)) = false := by have := HK.out; simp; omega
        have t2 : decide (K < L.length) = true := by simpa using HK.out
        clear q1 q2 q3 i0
        have hS := fun W => run_cut_to (P := Try.prog) 24 5 1 Try.underlying24 size5 Ad L.length cp K (by have := HLC.out; have := HK.out; omega) W
        have HT := As.mk (RdB.to hX K (by have := HK.out; omega))
        have HB : As (Below wr.heap.size wr wr) := ⟨Below.refl _ _⟩
        clear hX
        go_wp2_with (first | (go_at_call 18; (with_reducible refine (read_any _ (L.take K) _ HT.out (by have := HLL.out; rw [List.length_take]; omega)).mono ?_); rintro e w' ⟨B, rfl, hB, hr, hb⟩; have HR := As.mk hr; have HBB := As.mk (Nat.le_trans HB.out.size hB); have HB2 := As.mk (HB.out.trans (hb.mono HB.out.size)); clear hr hb hB; clear HB; have HB := HB2; clear HB2) | (go_at_call 19; (with_reducible refine (rsmall_to B (L.take K) false _ HQ1.out HR.out).mono ?_); rintro e w' ⟨rfl, hr1, hg1⟩; have HR2 := As.mk hr1; have HB2 := As.mk (below_grown HB.out hg1 HBB.out HB.out.size); clear hr1 hg1; clear HR; have HR := HR2; clear HR2; clear HB; have HB := HB2; clear HB2) | (go_at_call 20; (with_reducible refine (rbig_to B (l1) b1 _ HQ2.out HR.out).mono ?_); rintro e w' ⟨rfl, hr1, hg1⟩; have HR2 := As.mk hr1; have HB2 := As.mk (below_grown HB.out hg1 HBB.out HB.out.size); clear hr1 hg1; clear HR; have HR := HR2; clear HR2; clear HB; have HB := HB2; clear HB2) | (go_at_call 21; (with_reducible refine (rcount_to B (l2) b2 4294967295 _ HQ3.out HR.out (by omega) (by omega)).mono ?_); rintro e w' ⟨rfl, hr1, hg1⟩; have HR2 := As.mk hr1; have HB2 := As.mk (below_grown HB.out hg1 HBB.out HB.out.size); clear hr1 hg1; clear HR; have HR := HR2; clear HR2; clear HB; have HB := HB2; clear HB2) | (go_at_call 22; (with_reducible refine (end_any B [] true _ HR.out).mono ?_); rintro e w' ⟨rfl, rfl⟩) | (go_at_call 23; (with_reducible refine (ok_any B [] true _ HR.out).mono ?_); rintro e w' ⟨rfl, rfl⟩))
        go_roundw
        case rel => exact ⟨2, by omega, by first | rfl | go_num, ⟨HBr.out.trans (HB.out.mono HBr.out.size)⟩⟩
        case measure => simp [intOf]
      · have i2 : i = 2 := by omega
        subst i2
        clear i0 i1 hX
        go_wp2_with ((go_at_call 24; (with_reducible refine (awake2_any _).mono ?_); rintro e w' ⟨rfl, hb⟩; have HBa := As.mk hb; clear hb))
        go_ret
        exact ⟨rfl, HB1.out.trans ((HBr.out.trans (HBa.out.mono HBr.out.size)).mono HB1.out.size)⟩
end Go.Proofs.Ytfggkljgfadacaa.W
namespace Go.Proofs.Ytfggkljgfadacaa.W
open Go.RowKit
theorem wireBack_row (a : Int) (wa : (Lit.int .u32 a).wf = true) (u : Int) (wu : (Lit.int .u64 u).wf = true) (n : Int) (wn : (Lit.int .i64 n).wf = true) (cut : Int) (wc : (Lit.int .i64 cut).wf = true) (w : World) :
    Calls Try.prog 3 #[.int .u32 a, .int .u64 u, .int .i64 n, .int .i64 cut] w fun e w' => e = .returned (.bool true) ∧ Below w.heap.size w w' := by
  have ha := bounds_u32 wa
  have hu := bounds_u64 wu
  obtain ⟨A, rfl⟩ := Int.eq_ofNat_of_zero_le ha.1
  obtain ⟨U, rfl⟩ := Int.eq_ofNat_of_zero_le hu.1
  exact wireBack_walk A U n cut (by omega) (by omega) w
end Go.Proofs.Ytfggkljgfadacaa.W
