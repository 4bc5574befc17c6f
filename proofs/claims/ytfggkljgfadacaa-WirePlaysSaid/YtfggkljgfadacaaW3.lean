/- R.Take: what is taken is apart of the reader. -/
import Derived.Test.YtfggkljgfadacaaWireBack
set_option linter.unusedVariables false
set_option linter.unusedSimpArgs false
namespace Go.Proofs.Ytfggkljgfadacaa.W
open Go.RowKit Go.Proofs.Ytfggkljgfadacaa.B Go.Proofs

theorem rdr_apart {t : TypeId} {w w' W : World} {B : Nat} {l l0 : List UInt8} {bad bad0 : Bool} (h0 : Rdr t w B l0 bad0) {A : Option Addr} {n c : Nat} (hh : w'.heap[B]? = some (.cells #[.slice A n c, .bool bad] t (0, 0))) (hx : RdB w (.slice A n c) l)
    (hg : w.grownBy w' (some B)) {row : Option Nat} (hW : w'.grownBy W row) (hrow : ∀ b, row = some b → w.heap.size ≤ b) : Rdr t W B l bad := by
  have hlt := h0.lt
  obtain ⟨A0, n0, c0, h1, _⟩ := h0
  have hB : row ≠ some B := fun h => by have := hrow _ h; omega
  refine ⟨A, n, c, ?_, hx.apart h1 (w' := W) ⟨hW.os.trans hg.os, hW.tape.trans hg.tape, hW.output.trans hg.output, Nat.le_trans hg.size hW.size, fun k hk hne => ?_⟩⟩
  · rw [hW.block B (Nat.lt_of_lt_of_le hlt hg.size) (fun h => hB h.symm)]
    exact hh
  · have := hg.size
    rw [hW.block k (by omega) (fun h => by have := hrow _ h.symm; omega)]
    exact hg.block k hk hne
theorem rdr_grown_none {t : TypeId} {w' W : World} {B : Nat} {l : List UInt8} {bad : Bool} (h : Rdr t w' B l bad) {row : Option Nat} (hrow : row = none) (hW : w'.grownBy W row) : Rdr t W B l bad := by
  subst hrow
  exact h.below ⟨hW.os, hW.tape, hW.output, hW.size, fun k hk => hW.block k hk (by simp)⟩
set_option maxHeartbeats 2000000 in
theorem rtake_own (B : Nat) (l : List UInt8) (bad : Bool) (n : Int) (w : World) (h : Rdr 74 w B l bad) (hl : l.length ≤ 140737488355328) :
    Calls Try.prog 25 #[.pointer (some ⟨B, 0, none⟩), .int .i64 n] w fun e w' => ∃ r, e = .returned r ∧ OwB w' w.heap.size 5 r (rtake n l bad).1 ∧ Rdr 74 w' B (rtake n l bad).2.1 (rtake n l bad).2.2 ∧ w.grownBy w' (some B) ∧ ∀ W, w'.grownBy W r.ownBlock → Rdr 74 W B (rtake n l bad).2.1 (rtake n l bad).2.2 := by
  have HR := As.mk h
  obtain ⟨A, n', c, h1, h2⟩ := h
  obtain ⟨c0, c1, f0, f1⟩ := two_cell h1
  obtain ⟨A', c', he, hc1, hc2, hA⟩ := RdB.form h2
  injection he with e1 e2 e3
  subst e1 e2 e3
  have HB := As.mk h2
  have H1 := As.mk h1
  have HL := As.mk hl
  have hlt := As.mk HR.out.lt
  clear h1 h2 hA hl
  by_cases d1 : n < 0
  · have HE : As (rtake n l bad = ([], [], true)) := ⟨by unfold rtake; rw [if_pos (.inl d1)]⟩
    go_enter Try.func25, Try.ntmps25
    go_wp2_with ((go_at_call 63; (with_reducible refine (fail_any B _ _ _ HR.out).mono ?_); rintro e w1 ⟨rfl, hr1, hg1⟩; have HR2 := As.mk hr1; have HG2 := As.mk hg1; clear hr1 hg1))
    go_ret
    rw [HE.out]
    exact ⟨_, rfl, OwS.nil _ _ _ _, HR2.out, HG2.out, fun W hW => rdr_grown_none HR2.out rfl hW⟩
  have d1' : 0 ≤ n := by omega
  by_cases d2 : (l.length : Int) < n
  · have HE : As (rtake n l bad = ([], [], true)) := ⟨by unfold rtake; rw [if_pos (.inr (.inl d2))]⟩
    go_enter Try.func25, Try.ntmps25
    go_wp2_with ((go_at_call 63; (with_reducible refine (fail_any B _ _ _ HR.out).mono ?_); rintro e w1 ⟨rfl, hr1, hg1⟩; have HR2 := As.mk hr1; have HG2 := As.mk hg1; clear hr1 hg1))
    go_ret
    rw [HE.out]
    exact ⟨_, rfl, OwS.nil _ _ _ _, HR2.out, HG2.out, fun W hW => rdr_grown_none HR2.out rfl hW⟩
  have d2' : n ≤ (l.length : Int) := by omega
  cases bad with
  | true =>
    have HE : As (rtake n l true = ([], [], true)) := ⟨by unfold rtake; rw [if_pos (.inr (.inr rfl))]⟩
    clear d1 d2
    go_enter Try.func25, Try.ntmps25
    go_wp2_with ((go_at_call 63; (with_reducible refine (fail_any B _ _ _ HR.out).mono ?_); rintro e w1 ⟨rfl, hr1, hg1⟩; have HR2 := As.mk hr1; have HG2 := As.mk hg1; clear hr1 hg1))
    go_ret
    rw [HE.out]
    exact ⟨_, rfl, OwS.nil _ _ _ _, HR2.out, HG2.out, fun W hW => rdr_grown_none HR2.out rfl hW⟩
  | false =>
    have HE : As (rtake n l false = (l.take n.toNat, l.drop n.toNat, false)) := ⟨by unfold rtake; rw [if_neg (by rintro (h | h | h); exact d1 h; exact d2 h; cases h)]⟩
    clear d1 d2
    obtain ⟨k, rfl⟩ := Int.eq_ofNat_of_zero_le d1'
    have HT := fun W => run_cut_to (P := Try.prog) 24 5 1 Try.underlying24 size5 A l.length c k (by omega) W
    obtain ⟨A', HS, hA'⟩ := RdB.cutFrom (P := Try.prog) 24 5 Try.underlying24 size5 HB.out k (by omega)
    have HA' := As.mk hA'
    have HTO := As.mk (RdB.to HB.out k (by omega))
    have HK := As.mk (show k ≤ l.length by omega)
    clear hA'
    go_enter Try.func25, Try.ntmps25
    go_wp2_with ((go_at_call 61; (with_reducible refine (clone_any _ (l.take k) _ HTO.out (by have := HL.out; rw [List.length_take]; omega)).mono ?_); rintro e w1 ⟨r1, rfl, ho1, hb1⟩; have HO1 := As.mk ho1; have HB1 := As.mk hb1; have g0 := hb1.cell (p := ⟨B, 0, none⟩) hlt.out; have g1 := hb1.cell (p := ⟨B, 1, none⟩) hlt.out; have g2 := hb1.frozen (p := ⟨B, 0, none⟩) hlt.out; clear ho1 hb1))
    go_ret
    rw [HE.out]
    have hG := grown_trans (⟨HB1.out.os, HB1.out.tape, HB1.out.output, HB1.out.size, fun k hk _ => HB1.out.block k hk⟩ : w.grownBy w1 (some B)) (grown_set w1 B 0 (.slice A' (l.length - k) (c - k)))
    refine ⟨r1, rfl, ?_, ?_, ?_, fun W hW => ?_⟩
    · have hs := grown_set w1 B 0 (.slice A' (l.length - k) (c - k))
      refine OwS.kept HO1.out hs ?_
      rcases hb : r1.ownBlock with _ | b
      · exact .inl rfl
      · right
        have h3 := (HO1.out.lt b hb).1
        have h4 := hlt.out
        intro h5
        injection h5 with h5
        omega
    · exact (HR.out.below HB1.out).set0 (HA'.out.below HB1.out)
    · exact hG
    · have hh : w1.heap[B]? = some (.cells #[.slice A l.length c, .bool false] 74 (0, 0)) := by rw [HB1.out.block B hlt.out]; exact H1.out
      exact rdr_apart HR.out (two_set0 hh _) HA'.out hG hW (fun b hb => (HO1.out.lt b hb).1)
end Go.Proofs.Ytfggkljgfadacaa.W
