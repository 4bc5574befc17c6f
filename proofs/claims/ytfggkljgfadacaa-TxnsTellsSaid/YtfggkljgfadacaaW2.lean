/- wire's Reader: what each call reads, and how the reader stands behind it. -/
import Derived.Test.YtfggkljgfadacaaW1
import Derived.Deep.DeepCutAuto
import Derived.Deep.CutBlock
set_option linter.unusedVariables false
set_option linter.unusedSimpArgs false
namespace Go.Proofs.Ytfggkljgfadacaa.W
open Go.RowKit Go.Proofs.Ytfggkljgfadacaa.B Go.Proofs

theorem fail_any (B : Nat) (l : List UInt8) (bad : Bool) (w : World) (h : Rdr 74 w B l bad) :
    Calls Try.prog 63 #[.pointer (some ⟨B, 0, none⟩)] w fun e w' => e = .returned (.tuple #[]) ∧ Rdr 74 w' B [] true ∧ w.grownBy w' (some B) := by
  have HR := As.mk h
  obtain ⟨A, n, c, h1, h2, hlo⟩ := h
  have HL0 := As.mk hlo
  clear hlo
  obtain ⟨c0, c1, f0, f1⟩ := two_cell h1
  clear h1 h2
  go_enter Try.func63, Try.ntmps63
  go_wp2
  go_end0
  exact ⟨rfl, HR.out.set (RdB.nil w) (Lo.nil _) true, grown_trans (grown_set _ _ _ _) (grown_set _ _ _ _)⟩

/-- The number of bytes, the lowest first. -/
def leVal : List UInt8 → Nat
  | [] => 0
  | b :: r => b.toNat + 256 * leVal r
/-- What a number of so many bytes is, and how the reader stands behind it. -/
def rnum (wide : Nat) (l : List UInt8) (bad : Bool) : Nat × List UInt8 × Bool := if l.length < wide then (0, [], true) else (leVal (l.take wide), l.drop wide, bad)

theorem leVal_drop (l : List UInt8) (k : Nat) (h : k < l.length) : leVal (l.drop k) = (l.getD k 0).toNat + 256 * leVal (l.drop (k + 1)) := by
  rw [List.drop_eq_getElem_cons h, leVal, List.getD_eq_getElem?_getD, List.getElem?_eq_getElem h]
  rfl
theorem leVal_lt (l : List UInt8) : leVal l < 256 ^ l.length := by
  induction l with
  | nil => simp [leVal]
  | cons b r ih =>
    have := b.toNat_lt
    simp only [leVal, List.length_cons, Nat.pow_succ]
    omega

theorem size5 : (Try.prog.info? 5).map (·.size) = some 1 := by kernel_rfl
set_option maxHeartbeats 1000000 in
theorem num_any (B : Nat) (l : List UInt8) (bad : Bool) (wide : Nat) (y : Int) (w : World) (h : Rdr 74 w B l bad) (hw1 : 1 ≤ wide) (hw : wide ≤ 8) (hy : y = (wide : Int)) :
    Calls Try.prog 62 #[.pointer (some ⟨B, 0, none⟩), .int .i64 y] w fun e w' => e = .returned (.int .u64 ((rnum wide l bad).1 : Int)) ∧ Rdr 74 w' B (rnum wide l bad).2.1 (rnum wide l bad).2.2 ∧ w.grownBy w' (some B) := by
  subst hy
  have HR := As.mk h
  obtain ⟨A, n, c, h1, h2, hlo⟩ := h
  have HL0 := As.mk hlo
  clear hlo
  obtain ⟨c0, c1, f0, f1⟩ := two_cell h1
  obtain ⟨A', c', he, hc1, hc2, hA⟩ := h2.form
  injection he with e1 e2 e3
  subst e1 e2 e3
  have H1 := As.mk h1
  have HB := As.mk h2
  clear h1 h2 hA
  by_cases hlt : l.length < wide
  · have HE : As (rnum wide l bad = (0, [], true)) := ⟨by unfold rnum; rw [if_pos hlt]⟩
    have hd : decide ((l.length : Int) < wide) = true := by simpa using hlt
    go_enter Try.func62, Try.ntmps62
    go_wp2_with ((go_at_call 63; (with_reducible refine (fail_any B l bad _ HR.out).mono ?_); rintro e w1 ⟨rfl, hr1, hg1⟩; have HR1 := As.mk hr1; have HG1 := As.mk hg1; clear hr1 hg1))
    go_ret
    rw [HE.out]
    exact ⟨rfl, HR1.out, HG1.out⟩
  · have HE : As (rnum wide l bad = (leVal (l.take wide), l.drop wide, bad)) := ⟨by unfold rnum; rw [if_neg hlt]⟩
    have hd : decide ((l.length : Int) < wide) = false := by simp; omega
    go_enter Try.func62, Try.ntmps62
    have hd' : (wide : Int) ≤ l.length := by omega
    have HLT := As.mk hlt
    clear hlt
    obtain ⟨ad, rfl, _⟩ := RdB.at HB.out 0 (by omega)
    go_wp2
    go_loop [5, 6] (fun v5 v6 => ∃ (i : Int) (n : Nat), -1 ≤ i ∧ i < wide ∧ v6 = .int .i64 i ∧ v5 = .int .u64 (n : Int) ∧ As (n = leVal ((l.take wide).drop (i + 1).toNat))) (fun _ v6 => (intOf v6 + 1).toNat)
    case atStart => exact ⟨(wide : Int) - 1, 0, by omega, by omega, rfl, rfl, ⟨by rw [List.drop_eq_nil_of_le (by simp; omega)]; rfl⟩⟩
    case round =>
      obtain ⟨i, n, hi0, hi1, rfl, rfl, HN⟩ := hrel
      by_cases hi : 0 ≤ i
      · obtain ⟨q, rfl⟩ := Int.eq_ofNat_of_zero_le hi
        have hq : q < l.length := by omega
        obtain ⟨ad', e, hcq⟩ := RdB.at HB.out q hq
        cases e
        have hql : (q : Int) < (l.length : Int) := by omega
        have hln : n < 72057594037927936 := by
          have h := leVal_lt ((l.take wide).drop (q + 1))
          rw [List.length_drop, List.length_take] at h
          have h2 : 256 ^ (min wide l.length - (q + 1)) ≤ 256 ^ 7 := Nat.pow_le_pow_right (by decide) (by omega)
          have := HN.out
          rw [show ((q : Int) + 1).toNat = q + 1 by omega] at this
          omega
        have hor := or_u64 n (l.getD q 0).toNat hln (l.getD q 0).toNat_lt
        have hdr := leVal_drop (l.take wide) q (by rw [List.length_take]; omega)
        have HOR := As.mk hor
        have HDR := As.mk hdr
        have HLN := As.mk hln
        clear hor hdr hln
        go_wp2
        go_round
        case rel =>
          refine ⟨(q : Int) - 1, leVal ((l.take wide).drop q), by omega, by omega, rfl, ?_, ⟨by rw [show ((q : Int) - 1 + 1).toNat = q by omega]⟩⟩
          have h3 := HOR.out
          have h4 : (l.take wide).getD q 0 = l.getD q 0 := by
            rw [List.getD_eq_getElem?_getD, List.getD_eq_getElem?_getD, List.getElem?_take_of_lt (by omega)]
          have h5 := HN.out
          rw [show ((q : Int) + 1).toNat = q + 1 by omega] at h5
          rw [HDR.out, h4, ← h5, ← h3]
          simp [hq]
        case measure => simp [intOf]
      · have hN : n = leVal (l.take wide) := by
          have := HN.out
          rw [show (i + 1).toNat = 0 by omega] at this
          simpa using this
        have HN' := As.mk hN
        clear hN HN
        obtain ⟨A', HS, hA', hlo'⟩ := RdB.cutFrom (P := Try.prog) 24 5 Try.underlying24 size5 HB.out wide (by omega)
        have HA' := As.mk hA'
        have HLO := As.mk (hlo' B HL0.out)
        clear hlo'
        clear hA'
        go_wp2
        go_ret
        rw [HE.out]
        exact ⟨by rw [← HN'.out]; rfl, HR.out.set0 HA'.out HLO.out, grown_set _ _ _ _⟩

/-- What any read leaves: only the reader's own block may have turned. -/
theorem rnum_lt (wide : Nat) (l : List UInt8) (bad : Bool) : (rnum wide l bad).1 < 256 ^ wide := by
  unfold rnum; split
  · exact Nat.pow_pos (by decide)
  · have h := leVal_lt (l.take wide)
    rw [List.length_take, Nat.min_eq_left (by omega)] at h
    exact h
theorem rsmall_any (B : Nat) (l : List UInt8) (bad : Bool) (w : World) (h : Rdr 74 w B l bad) :
    Calls Try.prog 19 #[.pointer (some ⟨B, 0, none⟩)] w fun e w' => e = .returned (.int .u32 ((rnum 4 l bad).1 : Int)) ∧ Rdr 74 w' B (rnum 4 l bad).2.1 (rnum 4 l bad).2.2 ∧ w.grownBy w' (some B) := by
  have HR := As.mk h
  have hb := rnum_lt 4 l bad
  have hb' : ((rnum 4 l bad).1 : Int) ≤ 4294967295 := by omega
  clear h hb
  go_enter Try.func19, Try.ntmps19
  go_wp2_with ((go_at_call 62; (with_reducible refine (num_any B l bad 4 _ _ HR.out (by omega) (by omega) (by omega)).mono ?_); rintro e w1 ⟨rfl, hr1, hg1⟩; have HR1 := As.mk hr1; have HG1 := As.mk hg1; clear hr1 hg1))
  go_ret
  exact ⟨rfl, HR1.out, HG1.out⟩
theorem rbig_any (B : Nat) (l : List UInt8) (bad : Bool) (w : World) (h : Rdr 74 w B l bad) :
    Calls Try.prog 20 #[.pointer (some ⟨B, 0, none⟩)] w fun e w' => e = .returned (.int .u64 ((rnum 8 l bad).1 : Int)) ∧ Rdr 74 w' B (rnum 8 l bad).2.1 (rnum 8 l bad).2.2 ∧ w.grownBy w' (some B) := by
  have HR := As.mk h
  clear h
  go_enter Try.func20, Try.ntmps20
  go_wp2_with ((go_at_call 62; (with_reducible refine (num_any B l bad 8 _ _ HR.out (by omega) (by omega) (by omega)).mono ?_); rintro e w1 ⟨rfl, hr1, hg1⟩; have HR1 := As.mk hr1; have HG1 := As.mk hg1; clear hr1 hg1))
  go_ret
  exact ⟨rfl, HR1.out, HG1.out⟩
theorem ok_any (B : Nat) (l : List UInt8) (bad : Bool) (w : World) (h : Rdr 74 w B l bad) :
    Calls Try.prog 23 #[.pointer (some ⟨B, 0, none⟩)] w fun e w' => e = .returned (.bool (!bad)) ∧ w = w' := by
  obtain ⟨A, n, c, h1, h2, hlo⟩ := h
  have HL0 := As.mk hlo
  clear hlo
  obtain ⟨c0, c1, f0, f1⟩ := two_cell h1
  clear h1 h2
  go_enter Try.func23, Try.ntmps23
  go_wp2
  go_ret
  exact ⟨rfl, rfl⟩
theorem end_any (B : Nat) (l : List UInt8) (bad : Bool) (w : World) (h : Rdr 74 w B l bad) :
    Calls Try.prog 22 #[.pointer (some ⟨B, 0, none⟩)] w fun e w' => e = .returned (.bool (!bad && l.isEmpty)) ∧ w = w' := by
  obtain ⟨A, n, c, h1, h2, hlo⟩ := h
  have HL0 := As.mk hlo
  clear hlo
  obtain ⟨c0, c1, f0, f1⟩ := two_cell h1
  obtain ⟨A', c', he, _⟩ := RdB.form h2
  injection he with e1 e2 e3
  subst e1 e2 e3
  clear h1 h2
  cases bad
  · cases l with
    | nil =>
      go_enter Try.func22, Try.ntmps22
      go_wp2
      go_ret
      exact ⟨rfl, rfl⟩
    | cons b r =>
      have hz : (((b :: r).length : Int) == 0) = false := by simp; omega
      go_enter Try.func22, Try.ntmps22
      go_wp2
      go_ret
      exact ⟨rfl, rfl⟩
  · go_enter Try.func22, Try.ntmps22
    go_wp2
    go_ret
    exact ⟨rfl, rfl⟩
theorem num_to (B : Nat) (l : List UInt8) (bad : Bool) (wide : Nat) (y : Int) (w : World) {m : Nat} {l' : List UInt8} {bad' : Bool} (hq : rnum wide l bad = (m, l', bad')) (h : Rdr 74 w B l bad) (hw1 : 1 ≤ wide) (hw : wide ≤ 8) (hy : y = (wide : Int)) :
    Calls Try.prog 62 #[.pointer (some ⟨B, 0, none⟩), .int .i64 y] w fun e w' => e = .returned (.int .u64 (m : Int)) ∧ Rdr 74 w' B l' bad' ∧ w.grownBy w' (some B) := by
  have := num_any B l bad wide y w h hw1 hw hy
  rw [hq] at this
  exact this
/-- What a count is, and how the reader stands behind it. -/
def rpre (l : List UInt8) (bad : Bool) : (Nat × List UInt8 × Bool) × Nat :=
  let r := rnum 1 l bad
  if r.1 = 253 then (rnum 2 r.2.1 r.2.2, 253) else if r.1 = 254 then (rnum 4 r.2.1 r.2.2, 65536) else if r.1 = 255 then ((255, [], true), 0) else (r, 0)
def rcount (top : Int) (l : List UInt8) (bad : Bool) : Nat × List UInt8 × Bool :=
  let q := rpre l bad
  if q.1.2.2 = true ∨ q.1.1 < q.2 ∨ top < 0 ∨ top < q.1.1 then (0, [], true) else q.1
theorem rpre_lt (l : List UInt8) (bad : Bool) : (rpre l bad).1.1 < 4294967296 := by
  have h1 := rnum_lt 1 l bad
  unfold rpre
  simp only
  split
  · have := rnum_lt 2 (rnum 1 l bad).2.1 (rnum 1 l bad).2.2; simp only; omega
  · split
    · have := rnum_lt 4 (rnum 1 l bad).2.1 (rnum 1 l bad).2.2; simp only; omega
    · split
      · simp
      · simp only; omega
set_option maxHeartbeats 2000000 in
theorem rcount_any (B : Nat) (l : List UInt8) (bad : Bool) (top : Int) (w : World) (h : Rdr 74 w B l bad) (ht0 : -9223372036854775808 ≤ top) (ht1 : top ≤ 9223372036854775807) :
    Calls Try.prog 21 #[.pointer (some ⟨B, 0, none⟩), .int .i64 top] w fun e w' => e = .returned (.int .i64 ((rcount top l bad).1 : Int)) ∧ Rdr 74 w' B (rcount top l bad).2.1 (rcount top l bad).2.2 ∧ w.grownBy w' (some B) := by
  have HR := As.mk h
  clear h
  obtain ⟨m1, l1, b1, hq1⟩ : ∃ m1 l1 b1, rnum 1 l bad = (m1, l1, b1) := ⟨_, _, _, rfl⟩
  obtain ⟨m2, l2, b2, hq2⟩ : ∃ m1' l1' b1', rnum 2 l1 b1 = (m1', l1', b1') := ⟨_, _, _, rfl⟩
  obtain ⟨m4, l4, b4, hq4⟩ : ∃ m1' l1' b1', rnum 4 l1 b1 = (m1', l1', b1') := ⟨_, _, _, rfl⟩
  have HQ1 := As.mk hq1
  have HQ2 := As.mk hq2
  have HQ4 := As.mk hq4
  have HPL := As.mk (rpre_lt l bad)
  clear hq1 hq2 hq4
  go_enter Try.func21, Try.ntmps21
  go_upto_block 0 with (first | (go_at_call 62; (with_reducible refine (num_to B l bad 1 _ _ HQ1.out HR.out (by omega) (by omega) (by omega)).mono ?_); rintro e w1 ⟨rfl, hr1, hg1⟩; have HR1 := As.mk hr1; have HG1 := As.mk hg1; clear hr1 hg1))
  go_cut [5, 6] (fun v5 v6 wc => ∃ m least : Nat, v5 = .int .u64 (m : Int) ∧ v6 = .int .u64 (least : Int) ∧ As ((rpre l bad).1.1 = m ∧ (rpre l bad).2 = least ∧ Rdr 74 wc B (rpre l bad).1.2.1 (rpre l bad).1.2.2 ∧ w.grownBy wc (some B)))
  case first =>
    by_cases c3 : m1 = 253
    · subst c3
      have HE : As (rpre l bad = ((m2, l2, b2), 253)) := ⟨by unfold rpre; simp [HQ1.out, HQ2.out]⟩
      go_wp2_with ((go_at_call 62; (with_reducible refine (num_to B l1 b1 2 _ _ HQ2.out HR1.out (by omega) (by omega) (by omega)).mono ?_); rintro e w1 ⟨rfl, hr1, hg1⟩; have HR2 := As.mk hr1; have HG2 := As.mk hg1; clear hr1 hg1))
      go_meet
      exact ⟨m2, 253, rfl, rfl, ⟨by rw [HE.out]; exact ⟨rfl, rfl, HR2.out, grown_trans HG1.out HG2.out⟩⟩⟩
    by_cases c4 : m1 = 254
    · subst c4
      have HE : As (rpre l bad = ((m4, l4, b4), 65536)) := ⟨by unfold rpre; simp [HQ1.out, HQ4.out]⟩
      go_wp2_with ((go_at_call 62; (with_reducible refine (num_to B l1 b1 4 _ _ HQ4.out HR1.out (by omega) (by omega) (by omega)).mono ?_); rintro e w1 ⟨rfl, hr1, hg1⟩; have HR2 := As.mk hr1; have HG2 := As.mk hg1; clear hr1 hg1))
      go_meet
      exact ⟨m4, 65536, rfl, rfl, ⟨by rw [HE.out]; exact ⟨rfl, rfl, HR2.out, grown_trans HG1.out HG2.out⟩⟩⟩
    by_cases c5 : m1 = 255
    · subst c5
      have HE : As (rpre l bad = ((255, [], true), 0)) := ⟨by unfold rpre; simp [HQ1.out]⟩
      go_wp2_with ((go_at_call 63; (with_reducible refine (fail_any B l1 b1 _ HR1.out).mono ?_); rintro e w1 ⟨rfl, hr1, hg1⟩; have HR2 := As.mk hr1; have HG2 := As.mk hg1; clear hr1 hg1))
      go_meet
      exact ⟨255, 0, rfl, rfl, ⟨by rw [HE.out]; exact ⟨rfl, rfl, HR2.out, grown_trans HG1.out HG2.out⟩⟩⟩
    · have HE : As (rpre l bad = ((m1, l1, b1), 0)) := ⟨by unfold rpre; simp [HQ1.out, c3, c4, c5]⟩
      have d3 : ((m1 : Int) == 253) = false := by simp; omega
      have d4 : ((m1 : Int) == 254) = false := by simp; omega
      have d5 : ((m1 : Int) == 255) = false := by simp; omega
      clear c3 c4 c5
      go_wp2
      go_meet
      exact ⟨m1, 0, rfl, rfl, ⟨by rw [HE.out]; exact ⟨rfl, rfl, HR1.out, HG1.out⟩⟩⟩
  case rest =>
    obtain ⟨m, least, rfl, rfl, HC⟩ := hcut
    clear HR1 HG1
    obtain ⟨em, el, hrc, hgc⟩ := HC.out
    obtain ⟨q1, q2, q3, q4, hp⟩ : ∃ q1 q2 q3 q4, rpre l bad = ((q1, q2, q3), q4) := ⟨_, _, _, _, rfl⟩
    rw [hp] at em el hrc
    simp only at em el hrc
    subst em el
    have HRc := As.mk hrc
    have HGc := As.mk hgc
    obtain ⟨A, n, c, h1, h2⟩ := hrc
    obtain ⟨c0, c1, f0, f1⟩ := two_cell h1
    have hm : q1 < 4294967296 := by have := HPL.out; rw [hp] at this; exact this
    have hm' : (q1 : Int) ≤ 4294967295 := by omega
    have HP := As.mk hp
    clear h1 h2 hgc hp HC hm HPL
    cases q3 with
    | true =>
      have HE : As (rcount top l bad = (0, [], true)) := ⟨by unfold rcount; rw [HP.out]; simp⟩
      go_wp2_with ((go_at_call 63; (with_reducible refine (fail_any B _ _ _ HRc.out).mono ?_); rintro e w1 ⟨rfl, hr1, hg1⟩; have HR2 := As.mk hr1; have HG2 := As.mk hg1; clear hr1 hg1))
      go_ret
      rw [HE.out]
      exact ⟨rfl, HR2.out, grown_trans HGc.out HG2.out⟩
    | false =>
      by_cases d1 : q1 < q4
      · have HE : As (rcount top l bad = (0, [], true)) := ⟨by unfold rcount; rw [HP.out]; simp [d1]⟩
        have k1 : decide (q1 < q4) = true := by simpa using d1
        clear d1
        go_wp2_with ((go_at_call 63; (with_reducible refine (fail_any B _ _ _ HRc.out).mono ?_); rintro e w1 ⟨rfl, hr1, hg1⟩; have HR2 := As.mk hr1; have HG2 := As.mk hg1; clear hr1 hg1))
        go_ret
        rw [HE.out]
        exact ⟨rfl, HR2.out, grown_trans HGc.out HG2.out⟩
      have k1 : decide (q1 < q4) = false := by simpa using d1
      by_cases d2 : top < 0
      · have HE : As (rcount top l bad = (0, [], true)) := ⟨by unfold rcount; rw [HP.out]; simp [d2]⟩
        clear d1
        go_wp2_with ((go_at_call 63; (with_reducible refine (fail_any B _ _ _ HRc.out).mono ?_); rintro e w1 ⟨rfl, hr1, hg1⟩; have HR2 := As.mk hr1; have HG2 := As.mk hg1; clear hr1 hg1))
        go_ret
        rw [HE.out]
        exact ⟨rfl, HR2.out, grown_trans HGc.out HG2.out⟩
      have d2' : 0 ≤ top := by omega
      by_cases d3 : top < q1
      · have HE : As (rcount top l bad = (0, [], true)) := ⟨by unfold rcount; rw [HP.out]; simp [d3]⟩
        clear d1 d2
        go_wp2_with ((go_at_call 63; (with_reducible refine (fail_any B _ _ _ HRc.out).mono ?_); rintro e w1 ⟨rfl, hr1, hg1⟩; have HR2 := As.mk hr1; have HG2 := As.mk hg1; clear hr1 hg1))
        go_ret
        rw [HE.out]
        exact ⟨rfl, HR2.out, grown_trans HGc.out HG2.out⟩
      · have HE : As (rcount top l bad = (q1, q2, false)) := ⟨by unfold rcount; rw [HP.out]; simp; omega⟩
        have d3' : (q1 : Int) ≤ top := by omega
        clear d1 d2 d3
        go_wp2
        go_ret
        rw [HE.out]
        exact ⟨rfl, HRc.out, HGc.out⟩

def rtake (n : Int) (l : List UInt8) (bad : Bool) : List UInt8 × List UInt8 × Bool :=
  if n < 0 ∨ (l.length : Int) < n ∨ bad = true then ([], [], true) else (l.take n.toNat, l.drop n.toNat, false)
set_option maxHeartbeats 2000000 in
theorem rtake_any (B : Nat) (l : List UInt8) (bad : Bool) (n : Int) (w : World) (h : Rdr 74 w B l bad) (hl : l.length ≤ 140737488355328) :
    Calls Try.prog 25 #[.pointer (some ⟨B, 0, none⟩), .int .i64 n] w fun e w' => ∃ r, e = .returned r ∧ OwB w' w.heap.size 5 r (rtake n l bad).1 ∧ Rdr 74 w' B (rtake n l bad).2.1 (rtake n l bad).2.2 ∧ w.grownBy w' (some B) := by
  have HR := As.mk h
  obtain ⟨A, n', c, h1, h2, hlo⟩ := h
  have HL0 := As.mk hlo
  clear hlo
  obtain ⟨c0, c1, f0, f1⟩ := two_cell h1
  obtain ⟨A', c', he, hc1, hc2, hA⟩ := RdB.form h2
  injection he with e1 e2 e3
  subst e1 e2 e3
  have HB := As.mk h2
  have H1 := As.mk h1
  have HL := As.mk hl
  have hlt := As.mk HR.out.lt
  clear h1 h2 hA hl
  by_cases d1 : n < 0
  · have HE : As (rtake n l bad = ([], [], true)) := ⟨by unfold rtake; rw [if_pos (.inl d1)]⟩
    go_enter Try.func25, Try.ntmps25
    go_wp2_with ((go_at_call 63; (with_reducible refine (fail_any B _ _ _ HR.out).mono ?_); rintro e w1 ⟨rfl, hr1, hg1⟩; have HR2 := As.mk hr1; have HG2 := As.mk hg1; clear hr1 hg1))
    go_ret
    rw [HE.out]
    exact ⟨_, rfl, OwS.nil _ _ _ _, HR2.out, HG2.out⟩
  have d1' : 0 ≤ n := by omega
  by_cases d2 : (l.length : Int) < n
  · have HE : As (rtake n l bad = ([], [], true)) := ⟨by unfold rtake; rw [if_pos (.inr (.inl d2))]⟩
    go_enter Try.func25, Try.ntmps25
    go_wp2_with ((go_at_call 63; (with_reducible refine (fail_any B _ _ _ HR.out).mono ?_); rintro e w1 ⟨rfl, hr1, hg1⟩; have HR2 := As.mk hr1; have HG2 := As.mk hg1; clear hr1 hg1))
    go_ret
    rw [HE.out]
    exact ⟨_, rfl, OwS.nil _ _ _ _, HR2.out, HG2.out⟩
  have d2' : n ≤ (l.length : Int) := by omega
  cases bad with
  | true =>
    have HE : As (rtake n l true = ([], [], true)) := ⟨by unfold rtake; rw [if_pos (.inr (.inr rfl))]⟩
    clear d1 d2
    go_enter Try.func25, Try.ntmps25
    go_wp2_with ((go_at_call 63; (with_reducible refine (fail_any B _ _ _ HR.out).mono ?_); rintro e w1 ⟨rfl, hr1, hg1⟩; have HR2 := As.mk hr1; have HG2 := As.mk hg1; clear hr1 hg1))
    go_ret
    rw [HE.out]
    exact ⟨_, rfl, OwS.nil _ _ _ _, HR2.out, HG2.out⟩
  | false =>
    have HE : As (rtake n l false = (l.take n.toNat, l.drop n.toNat, false)) := ⟨by unfold rtake; rw [if_neg (by rintro (h | h | h); exact d1 h; exact d2 h; cases h)]⟩
    clear d1 d2
    obtain ⟨k, rfl⟩ := Int.eq_ofNat_of_zero_le d1'
    have HT := fun W => run_cut_to (P := Try.prog) 24 5 1 Try.underlying24 size5 A l.length c k (by omega) W
    obtain ⟨A', HS, hA', hlo'⟩ := RdB.cutFrom (P := Try.prog) 24 5 Try.underlying24 size5 HB.out k (by omega)
    have HA' := As.mk hA'
    have HLO := As.mk (hlo' B HL0.out)
    clear hlo'
    have HTO := As.mk (RdB.to HB.out k (by omega))
    have HK := As.mk (show k ≤ l.length by omega)
    clear hA'
    go_enter Try.func25, Try.ntmps25
    go_wp2_with ((go_at_call 61; (with_reducible refine (clone_any _ (l.take k) _ HTO.out (by have := HL.out; rw [List.length_take]; omega)).mono ?_); rintro e w1 ⟨r1, rfl, ho1, hb1⟩; have HO1 := As.mk ho1; have HB1 := As.mk hb1; have g0 := hb1.cell (p := ⟨B, 0, none⟩) hlt.out; have g1 := hb1.cell (p := ⟨B, 1, none⟩) hlt.out; have g2 := hb1.frozen (p := ⟨B, 0, none⟩) hlt.out; clear ho1 hb1))
    go_ret
    rw [HE.out]
    refine ⟨r1, rfl, ?_, ?_, ?_⟩
    · have hs := grown_set w1 B 0 (.slice A' (l.length - k) (c - k))
      refine OwS.kept HO1.out hs ?_
      rcases hb : r1.ownBlock with _ | b
      · exact .inl rfl
      · right
        have h3 := (HO1.out.lt b hb).1
        have h4 := hlt.out
        intro h5
        injection h5 with h5
        omega
    · exact (HR.out.below HB1.out).set0 (HA'.out.below HB1.out) HLO.out
    · exact grown_trans ⟨HB1.out.os, HB1.out.tape, HB1.out.output, HB1.out.size, fun k hk _ => HB1.out.block k hk⟩ (grown_set _ _ _ _)
set_option maxHeartbeats 1000000 in
theorem read_any (v : Value) (l : List UInt8) (w : World) (hr : RdB w v l) (hl : l.length ≤ 140737488355328) :
    Calls Try.prog 18 #[v] w fun e w' => ∃ B, e = .returned (.pointer (some ⟨B, 0, none⟩)) ∧ w.heap.size ≤ B ∧ Rdr 74 w' B l false ∧ Below w.heap.size w w' := by
  have HR := As.mk hr
  have HL := As.mk hl
  clear hr hl
  go_enter Try.func18, Try.ntmps18
  go_wp2_with ((go_at_call 61; (with_reducible refine (clone_any _ l _ HR.out HL.out).mono ?_); rintro e w1 ⟨r1, rfl, ho1, hb1⟩; obtain ⟨A, c, rfl, _⟩ := RdB.form ho1.rd; have HO1 := As.mk ho1; have HB1 := As.mk hb1; clear ho1 hb1))
  go_ret
  refine ⟨w1.heap.size, rfl, HB1.out.size, ⟨A, l.length, c, heap_alloc_new w1 _, (HO1.out.alloc _).rd, fun _ ad had => by subst had; have := HO1.out.lt ad.block (by simp [Value.ownBlock]); omega⟩, HB1.out.alloc HB1.out.size _⟩

theorem rsmall_to (B : Nat) (l : List UInt8) (bad : Bool) (w : World) {m : Nat} {l' : List UInt8} {bad' : Bool} (hq : rnum 4 l bad = (m, l', bad')) (h : Rdr 74 w B l bad) :
    Calls Try.prog 19 #[.pointer (some ⟨B, 0, none⟩)] w fun e w' => e = .returned (.int .u32 (m : Int)) ∧ Rdr 74 w' B l' bad' ∧ w.grownBy w' (some B) := by
  have := rsmall_any B l bad w h
  rw [hq] at this
  exact this
theorem rbig_to (B : Nat) (l : List UInt8) (bad : Bool) (w : World) {m : Nat} {l' : List UInt8} {bad' : Bool} (hq : rnum 8 l bad = (m, l', bad')) (h : Rdr 74 w B l bad) :
    Calls Try.prog 20 #[.pointer (some ⟨B, 0, none⟩)] w fun e w' => e = .returned (.int .u64 (m : Int)) ∧ Rdr 74 w' B l' bad' ∧ w.grownBy w' (some B) := by
  have := rbig_any B l bad w h
  rw [hq] at this
  exact this
theorem rcount_to (B : Nat) (l : List UInt8) (bad : Bool) (top : Int) (w : World) {m : Nat} {l' : List UInt8} {bad' : Bool} (hq : rcount top l bad = (m, l', bad')) (h : Rdr 74 w B l bad) (ht0 : -9223372036854775808 ≤ top) (ht1 : top ≤ 9223372036854775807) :
    Calls Try.prog 21 #[.pointer (some ⟨B, 0, none⟩), .int .i64 top] w fun e w' => e = .returned (.int .i64 (m : Int)) ∧ Rdr 74 w' B l' bad' ∧ w.grownBy w' (some B) := by
  have := rcount_any B l bad top w h ht0 ht1
  rw [hq] at this
  exact this
theorem rtake_to (B : Nat) (l : List UInt8) (bad : Bool) (n : Int) (w : World) {x : List UInt8} {l' : List UInt8} {bad' : Bool} (hq : rtake n l bad = (x, l', bad')) (h : Rdr 74 w B l bad) (hl : l.length ≤ 140737488355328) :
    Calls Try.prog 25 #[.pointer (some ⟨B, 0, none⟩), .int .i64 n] w fun e w' => ∃ r, e = .returned r ∧ OwB w' w.heap.size 5 r x ∧ Rdr 74 w' B l' bad' ∧ w.grownBy w' (some B) := by
  have := rtake_any B l bad n w h hl
  rw [hq] at this
  exact this
end Go.Proofs.Ytfggkljgfadacaa.W
