/- The document's reader: what each call reads, and how it stands behind it. -/
import Derived.Test.YtfggkljgfadacaaW4
set_option linter.unusedVariables false
set_option linter.unusedSimpArgs false
namespace Go.Proofs.Ytfggkljgfadacaa.W
open Go.RowKit Go.Proofs.Ytfggkljgfadacaa.B Go.Proofs

/-- What the document's Take takes, and how its reader stands behind it. -/
def qtake (n : Int) (l : List UInt8) (bad : Bool) : List UInt8 × List UInt8 × Bool :=
  if bad = true ∨ n < 0 ∨ (l.length : Int) < n then ([], l, true) else (l.take n.toNat, l.drop n.toNat, false)
theorem rdr_setBad {t : TypeId} {w : World} {B : Nat} {l : List UInt8} {bad : Bool} (h : Rdr t w B l bad) (b' : Bool) : Rdr t (w.setCell ⟨B, 1, none⟩ (.bool b')) B l b' := by
  obtain ⟨A, n, c, h1, h2, h3⟩ := h
  exact ⟨A, n, c, two_set1 h1 _, h2.apart h1 (grown_set _ _ _ _), h3⟩
set_option maxRecDepth 100000 in
set_option maxHeartbeats 2000000 in
theorem qtake_any (B : Nat) (l : List UInt8) (bad : Bool) (n : Int) (w : World) (h : Rdr 46 w B l bad) (hl : l.length ≤ 140737488355328) :
    Calls Try.prog 32 #[.pointer (some ⟨B, 0, none⟩), .int .i64 n] w fun e w' => ∃ r, e = .returned r ∧ OwB w' w.heap.size 5 r (qtake n l bad).1 ∧ Rdr 46 w' B (qtake n l bad).2.1 (qtake n l bad).2.2 ∧ w.grownBy w' (some B) := by
  have HR := As.mk h
  obtain ⟨A, n', c, h1, h2, hlo⟩ := h
  have HL0 := As.mk hlo
  clear hlo
  obtain ⟨c0, c1, f0, f1⟩ := two_cell h1
  obtain ⟨A', c', he, hc1, hc2, hA⟩ := RdB.form h2
  injection he with e1 e2 e3
  subst e1 e2 e3
  have HX := As.mk h2
  have HL := As.mk hl
  have hlt := As.mk HR.out.lt
  clear h1 h2 hA hl
  cases bad with
  | true =>
    have HE : As (qtake n l true = ([], l, true)) := ⟨by unfold qtake; rw [if_pos (.inl rfl)]⟩
    go_enter Try.func32, Try.ntmps32
    go_wp2
    go_ret
    rw [HE.out]
    exact ⟨_, rfl, OwS.nil _ _ _ _, rdr_setBad HR.out true, grown_set _ _ _ _⟩
  | false =>
  by_cases d1 : n < 0
  · have HE : As (qtake n l false = ([], l, true)) := ⟨by unfold qtake; rw [if_pos (.inr (.inl d1))]⟩
    go_enter Try.func32, Try.ntmps32
    go_wp2
    go_ret
    rw [HE.out]
    exact ⟨_, rfl, OwS.nil _ _ _ _, rdr_setBad HR.out true, grown_set _ _ _ _⟩
  have d1' : 0 ≤ n := by omega
  by_cases d2 : (l.length : Int) < n
  · have HE : As (qtake n l false = ([], l, true)) := ⟨by unfold qtake; rw [if_pos (.inr (.inr d2))]⟩
    go_enter Try.func32, Try.ntmps32
    go_wp2
    go_ret
    rw [HE.out]
    exact ⟨_, rfl, OwS.nil _ _ _ _, rdr_setBad HR.out true, grown_set _ _ _ _⟩
  have d2' : n ≤ (l.length : Int) := by omega
  have HE : As (qtake n l false = (l.take n.toNat, l.drop n.toNat, false)) := ⟨by unfold qtake; rw [if_neg (by rintro (h | h | h); cases h; exact d1 h; exact d2 h)]⟩
  clear d1 d2
  obtain ⟨k, rfl⟩ := Int.eq_ofNat_of_zero_le d1'
  have HT := fun W => run_cut_to (P := Try.prog) 24 5 1 Try.underlying24 size5 A l.length c k (by omega) W
  obtain ⟨A', HS, hA', hlo'⟩ := RdB.cutFrom (P := Try.prog) 24 5 Try.underlying24 size5 HX.out k (by omega)
  have HA' := As.mk hA'
  have HLO := As.mk (hlo' B HL0.out)
  clear hlo'
  have HTO := As.mk (RdB.to HX.out k (by omega))
  have HK := As.mk (show k ≤ l.length by omega)
  have HC : As ((l.take k).length = k) := ⟨by rw [List.length_take]; have := HK.out; omega⟩
  have HTO2 : As (RdS w 1 (.slice A k c) k ((l.take k).map u8v)) := ⟨by have h := HTO.out; unfold RdB at h; rw [HC.out] at h; exact h⟩
  clear hA'
  have hltv := hlt.out
  have HB : As (Below w.heap.size w w) := ⟨Below.refl _ _⟩
  go_enter Try.func32, Try.ntmps32
  go_wp2_with (((at_builtin; refine wpList_app (w.heap.size) rfl (.tmp 26) (.tmp 32) 24 5 (.int .u8 0) 1 1 rfl Try.underlying24 info5 rfl (by decide) (.slice (some ⟨w.heap.size, 0, none⟩) 0 0) (.slice A k c) rfl rfl (([] : List UInt8)).length ((([] : List UInt8)).map u8v) ?own (k) ((l.take k).map u8v) ?rd (u8v_one _) ?b1 ?b2 ?b3 ?_; (case own => exact (OwB.empty w _ _ (Nat.le_refl _))); (case rd => exact (HTO2.out.alloc _)); (case b1 => have := HL.out; have := HK.out; (try simp only [List.length_nil]); unfold maxLen; omega); (case b2 => have := HL.out; have := HK.out; (try simp only [List.length_nil]); omega); (case b3 => have := HB.out.size; first | omega | (simp; done) | (simp; omega)); intro v1 v1w ho hg ht; have HO := As.mk (show OwB v1w (w.heap.size) 5 v1 ((([] : List UInt8)) ++ (l.take k)) by (have hm : (l.take k).length = k := by first | rfl | exact HC.out | simp [le_length]); unfold OwB; rw [List.length_append, List.map_append, hm]; exact ho); have HB2 : As (Below w.heap.size w v1w) := As.mk (Below.grown (by repeat' first | exact HB.out | refine Below.alloc ?_ (by have := HB.out.size; first | omega | (simp; done) | (simp; omega)) _) hg (by have := HB.out.size; first | omega | (simp; done) | (simp; omega)) (by simp [Value.ownBlock])); have HGv1 := As.mk hg; clear ho hg ht; clear HB; have HB := HB2; clear HB2); have g0 := HB.out.cell (p := ⟨B, 0, none⟩) hlt.out; have g1 := HB.out.cell (p := ⟨B, 1, none⟩) hlt.out; have g2 := HB.out.frozen (p := ⟨B, 0, none⟩) hlt.out))
  go_ret
  rw [HE.out]
  have hG := grown_trans (⟨HB.out.os, HB.out.tape, HB.out.output, HB.out.size, fun k hk _ => HB.out.block k hk⟩ : w.grownBy v1w (some B)) (grown_set v1w B 0 (.slice A' (l.length - k) (c - k)))
  refine ⟨v1, rfl, ?_, ?_, hG⟩
  · have hs := grown_set v1w B 0 (.slice A' (l.length - k) (c - k))
    refine OwS.kept HO.out hs ?_
    rcases hb : v1.ownBlock with _ | b
    · exact .inl rfl
    · right
      have h3 := (HO.out.lt b hb).1
      have h4 := hlt.out
      intro h5
      injection h5 with h5
      omega
  · exact (HR.out.below HB.out).set0 (HA'.out.below HB.out) HLO.out
theorem qtake_to (B : Nat) (l : List UInt8) (bad : Bool) (n : Int) (w : World) {x : List UInt8} {l' : List UInt8} {bad' : Bool} (hq : qtake n l bad = (x, l', bad')) (h : Rdr 46 w B l bad) (hl : l.length ≤ 140737488355328) :
    Calls Try.prog 32 #[.pointer (some ⟨B, 0, none⟩), .int .i64 n] w fun e w' => ∃ r, e = .returned r ∧ OwB w' w.heap.size 5 r x ∧ Rdr 46 w' B l' bad' ∧ w.grownBy w' (some B) := by
  have := qtake_any B l bad n w h hl
  rw [hq] at this
  exact this
def qnum (k : Nat) (l : List UInt8) (bad : Bool) : Nat × List UInt8 × Bool := (leVal (qtake k l bad).1, (qtake k l bad).2)
theorem qtake_len (k : Nat) (l : List UInt8) (bad : Bool) : (qtake k l bad).1.length ≤ k := by
  unfold qtake; split
  · simp
  · simp; omega
theorem qnum_lt (k : Nat) (l : List UInt8) (bad : Bool) : (qnum k l bad).1 < 256 ^ k := by
  have h := leVal_lt (qtake k l bad).1
  have h2 : 256 ^ (qtake k l bad).1.length ≤ 256 ^ k := Nat.pow_le_pow_right (by decide) (qtake_len k l bad)
  unfold qnum
  simp only
  omega
set_option maxRecDepth 100000 in
set_option maxHeartbeats 2000000 in
theorem qnum_any (B : Nat) (l : List UInt8) (bad : Bool) (k : Nat) (y : Int) (w : World) (h : Rdr 46 w B l bad) (hl : l.length ≤ 140737488355328) (hk : k ≤ 8) (hy : y = (k : Int)) :
    Calls Try.prog 64 #[.pointer (some ⟨B, 0, none⟩), .int .i64 y] w fun e w' => e = .returned (.int .u64 ((qnum k l bad).1 : Int)) ∧ Rdr 46 w' B (qnum k l bad).2.1 (qnum k l bad).2.2 ∧ w.grownBy w' (some B) := by
  subst hy
  have HC := As.mk (qtake_any B l bad k w h hl)
  obtain ⟨x, l', b', hq⟩ : ∃ x l' b', qtake k l bad = (x, l', b') := ⟨_, _, _, rfl⟩
  have hx := qtake_len k l bad
  have HE : As (qnum k l bad = (leVal x, l', b')) := ⟨by unfold qnum; rw [hq]⟩
  rw [hq] at HC hx
  simp only at HC hx
  have HX := As.mk (show x.length ≤ 8 by omega)
  clear h hl hk hq hx
  rw [HE.out]
  clear HE
  have hx8 : (x.length : Int) ≤ 8 := by have := HX.out; omega
  go_enter Try.func64, Try.ntmps64
  go_upto_block 0 with ((go_at_call 32; (with_reducible refine HC.out.mono ?_); rintro e w1 ⟨r1, rfl, ho1, hr1, hg1⟩; obtain ⟨A1, c1, rfl, -⟩ := RdB.form ho1.rd; have HO := As.mk ho1.rd; have HR := As.mk hr1; have HG := As.mk hg1; clear ho1 hr1 hg1))
  go_wp2_with fail
  go_loop [6, 7] (fun v6 v7 => ∃ (i : Int) (n : Nat), -1 ≤ i ∧ i < x.length ∧ v7 = .int .i64 i ∧ v6 = .int .u64 (n : Int) ∧ As (n = leVal (x.drop (i + 1).toNat))) (fun _ v7 => (intOf v7 + 1).toNat)
  case atStart => exact ⟨(x.length : Int) - 1, 0, by omega, by omega, rfl, rfl, ⟨by rw [List.drop_eq_nil_of_le (by omega)]; rfl⟩⟩
  case round =>
    obtain ⟨i, n, hi0, hi1, rfl, rfl, HN⟩ := hrel
    by_cases hi : 0 ≤ i
    · obtain ⟨q, rfl⟩ := Int.eq_ofNat_of_zero_le hi
      have hq : q < x.length := by omega
      obtain ⟨ad', e, hcq⟩ := RdB.at HO.out q hq
      cases e
      have hln : n < 72057594037927936 := by
        have h := leVal_lt (x.drop (q + 1))
        rw [List.length_drop] at h
        have h2 : 256 ^ (x.length - (q + 1)) ≤ 256 ^ 7 := Nat.pow_le_pow_right (by decide) (by have := HX.out; omega)
        have := HN.out
        rw [show ((q : Int) + 1).toNat = q + 1 by omega] at this
        omega
      have hor := or_u64 n (x.getD q 0).toNat hln (x.getD q 0).toNat_lt
      have hdr := leVal_drop x q hq
      have HOR := As.mk hor
      have HDR := As.mk hdr
      have HLN := As.mk hln
      clear hor hdr hln
      go_wp2
      go_round
      case rel =>
        refine ⟨(q : Int) - 1, leVal (x.drop q), by omega, by omega, rfl, ?_, ⟨by rw [show ((q : Int) - 1 + 1).toNat = q by omega]⟩⟩
        have h3 := HOR.out
        have h5 := HN.out
        rw [show ((q : Int) + 1).toNat = q + 1 by omega] at h5
        rw [HDR.out, ← h5, ← h3]
        simp [hq]
      case measure => simp [intOf]
    · have hN : n = leVal x := by
        have := HN.out
        rw [show (i + 1).toNat = 0 by omega] at this
        simpa using this
      have HN' := As.mk hN
      clear hN HN
      go_wp2
      go_ret
      exact ⟨by rw [← HN'.out]; rfl, HR.out, HG.out⟩
end Go.Proofs.Ytfggkljgfadacaa.W
