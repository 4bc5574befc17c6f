/- The document's Small, Big, Count, End; how its reader and the program's stand to each other. -/
import Derived.Test.YtfggkljgfadacaaW5
set_option linter.unusedVariables false
set_option linter.unusedSimpArgs false
namespace Go.Proofs.Ytfggkljgfadacaa.W
open Go.RowKit Go.Proofs.Ytfggkljgfadacaa.B Go.Proofs

theorem qnum_to (B : Nat) (l : List UInt8) (bad : Bool) (k : Nat) (y : Int) (w : World) {m : Nat} {l' : List UInt8} {b' : Bool} (hq : qnum k l bad = (m, l', b')) (h : Rdr 46 w B l bad) (hl : l.length ≤ 140737488355328) (hk : k ≤ 8) (hy : y = (k : Int)) :
    Calls Try.prog 64 #[.pointer (some ⟨B, 0, none⟩), .int .i64 y] w fun e w' => e = .returned (.int .u64 (m : Int)) ∧ Rdr 46 w' B l' b' ∧ w.grownBy w' (some B) := by
  have := qnum_any B l bad k y w h hl hk hy
  rw [hq] at this
  exact this
theorem qsmall_to (B : Nat) (l : List UInt8) (bad : Bool) (w : World) {m : Nat} {l' : List UInt8} {b' : Bool} (hq : qnum 4 l bad = (m, l', b')) (h : Rdr 46 w B l bad) (hl : l.length ≤ 140737488355328) :
    Calls Try.prog 29 #[.pointer (some ⟨B, 0, none⟩)] w fun e w' => e = .returned (.int .u32 (m : Int)) ∧ Rdr 46 w' B l' b' ∧ w.grownBy w' (some B) := by
  have HQ := As.mk hq
  have hb := qnum_lt 4 l bad
  rw [hq] at hb
  have hb' : (m : Int) ≤ 4294967295 := by simp only at hb; omega
  have HR := As.mk h
  have HL := As.mk hl
  clear h hl hq hb
  go_enter Try.func29, Try.ntmps29
  go_wp2_with ((go_at_call 64; (with_reducible refine (qnum_to B l bad 4 _ _ HQ.out HR.out HL.out (by omega) (by omega)).mono ?_); rintro e w1 ⟨rfl, hr1, hg1⟩; have HR1 := As.mk hr1; have HG1 := As.mk hg1; clear hr1 hg1))
  go_ret
  exact ⟨rfl, HR1.out, HG1.out⟩
theorem qbig_to (B : Nat) (l : List UInt8) (bad : Bool) (w : World) {m : Nat} {l' : List UInt8} {b' : Bool} (hq : qnum 8 l bad = (m, l', b')) (h : Rdr 46 w B l bad) (hl : l.length ≤ 140737488355328) :
    Calls Try.prog 30 #[.pointer (some ⟨B, 0, none⟩)] w fun e w' => e = .returned (.int .u64 (m : Int)) ∧ Rdr 46 w' B l' b' ∧ w.grownBy w' (some B) := by
  have HQ := As.mk hq
  have HR := As.mk h
  have HL := As.mk hl
  clear h hl hq
  go_enter Try.func30, Try.ntmps30
  go_wp2_with ((go_at_call 64; (with_reducible refine (qnum_to B l bad 8 _ _ HQ.out HR.out HL.out (by omega) (by omega)).mono ?_); rintro e w1 ⟨rfl, hr1, hg1⟩; have HR1 := As.mk hr1; have HG1 := As.mk hg1; clear hr1 hg1))
  go_ret
  exact ⟨rfl, HR1.out, HG1.out⟩
theorem qend_any (B : Nat) (l : List UInt8) (bad : Bool) (w : World) (h : Rdr 46 w B l bad) :
    Calls Try.prog 33 #[.pointer (some ⟨B, 0, none⟩)] w fun e w' => e = .returned (.bool (!bad && l.isEmpty)) ∧ w = w' := by
  obtain ⟨A, n, c, h1, h2, _⟩ := h
  obtain ⟨c0, c1, f0, f1⟩ := two_cell h1
  obtain ⟨A', c', he, _⟩ := RdB.form h2
  injection he with e1 e2 e3
  subst e1 e2 e3
  clear h1 h2
  cases bad
  · cases l with
    | nil =>
      go_enter Try.func33, Try.ntmps33
      go_wp2
      go_ret
      exact ⟨rfl, rfl⟩
    | cons b r =>
      have hz : (((b :: r).length : Int) == 0) = false := by simp; omega
      go_enter Try.func33, Try.ntmps33
      go_wp2
      go_ret
      exact ⟨rfl, rfl⟩
  · go_enter Try.func33, Try.ntmps33
    go_wp2
    go_ret
    exact ⟨rfl, rfl⟩
/-- What a count is to the document, and how its reader stands behind it. -/
def qpre (l : List UInt8) (bad : Bool) : (Nat × List UInt8 × Bool) × Nat :=
  let r := qnum 1 l bad
  if r.1 = 253 then (qnum 2 r.2.1 r.2.2, 253) else if r.1 = 254 then (qnum 4 r.2.1 r.2.2, 65536) else if r.1 = 255 then ((255, r.2.1, true), 0) else (r, 0)
def qcount (top : Int) (l : List UInt8) (bad : Bool) : Nat × List UInt8 × Bool :=
  let q := qpre l bad
  if q.1.2.2 = true ∨ q.1.1 < q.2 ∨ top < 0 ∨ top < q.1.1 then (0, q.1.2.1, true) else q.1
theorem qpre_lt (l : List UInt8) (bad : Bool) : (qpre l bad).1.1 < 4294967296 := by
  have h1 := qnum_lt 1 l bad
  unfold qpre
  simp only
  split
  · have := qnum_lt 2 (qnum 1 l bad).2.1 (qnum 1 l bad).2.2; simp only; omega
  · split
    · have := qnum_lt 4 (qnum 1 l bad).2.1 (qnum 1 l bad).2.2; simp only; omega
    · split
      · simp
      · simp only; omega
theorem qtake_le (n : Int) (l : List UInt8) (bad : Bool) : (qtake n l bad).2.1.length ≤ l.length := by
  unfold qtake; split
  · exact Nat.le_refl _
  · simp
set_option maxRecDepth 100000 in
set_option maxHeartbeats 2000000 in
theorem qcount_any (B : Nat) (l : List UInt8) (bad : Bool) (top : Int) (w : World) (h : Rdr 46 w B l bad) (hl : l.length ≤ 140737488355328) (ht0 : -9223372036854775808 ≤ top) (ht1 : top ≤ 9223372036854775807) :
    Calls Try.prog 31 #[.pointer (some ⟨B, 0, none⟩), .int .i64 top] w fun e w' => e = .returned (.int .i64 ((qcount top l bad).1 : Int)) ∧ Rdr 46 w' B (qcount top l bad).2.1 (qcount top l bad).2.2 ∧ w.grownBy w' (some B) := by
  have HR := As.mk h
  have HL := As.mk hl
  clear h
  obtain ⟨m1, l1, b1, hq1⟩ : ∃ m1 l1 b1, qnum 1 l bad = (m1, l1, b1) := ⟨_, _, _, rfl⟩
  obtain ⟨m2, l2, b2, hq2⟩ : ∃ m1' l1' b1', qnum 2 l1 b1 = (m1', l1', b1') := ⟨_, _, _, rfl⟩
  obtain ⟨m4, l4, b4, hq4⟩ : ∃ m1' l1' b1', qnum 4 l1 b1 = (m1', l1', b1') := ⟨_, _, _, rfl⟩
  have hl1 : l1.length ≤ l.length := by
    have := qtake_le (1 : Nat) l bad
    have e : (qtake (1 : Nat) l bad).2 = (l1, b1) := by
      have := congrArg Prod.snd hq1
      exact this
    rw [e] at this
    exact this
  have HL1 := As.mk (show l1.length ≤ 140737488355328 by omega)
  have HQ1 := As.mk hq1
  have HQ2 := As.mk hq2
  have HQ4 := As.mk hq4
  have HPL := As.mk (qpre_lt l bad)
  clear hq1 hq2 hq4 hl hl1
  go_enter Try.func31, Try.ntmps31
  go_upto_block 0 with (first | (go_at_call 64; (with_reducible refine (qnum_to B l bad 1 _ _ HQ1.out HR.out HL.out (by omega) (by omega)).mono ?_); rintro e w1 ⟨rfl, hr1, hg1⟩; have HR1 := As.mk hr1; have HG1 := As.mk hg1; clear hr1 hg1))
  go_cut [5, 6] (fun v5 v6 wc => ∃ m least : Nat, v5 = .int .u64 (m : Int) ∧ v6 = .int .u64 (least : Int) ∧ As ((qpre l bad).1.1 = m ∧ (qpre l bad).2 = least ∧ Rdr 46 wc B (qpre l bad).1.2.1 (qpre l bad).1.2.2 ∧ w.grownBy wc (some B)))
  case first =>
    by_cases c3 : m1 = 253
    · subst c3
      have HE : As (qpre l bad = ((m2, l2, b2), 253)) := ⟨by unfold qpre; simp [HQ1.out, HQ2.out]⟩
      go_wp2_with ((go_at_call 64; (with_reducible refine (qnum_to B l1 b1 2 _ _ HQ2.out HR1.out HL1.out (by omega) (by omega)).mono ?_); rintro e w1 ⟨rfl, hr1, hg1⟩; have HR2 := As.mk hr1; have HG2 := As.mk hg1; clear hr1 hg1))
      go_meet
      exact ⟨m2, 253, rfl, rfl, ⟨by rw [HE.out]; exact ⟨rfl, rfl, HR2.out, grown_trans HG1.out HG2.out⟩⟩⟩
    by_cases c4 : m1 = 254
    · subst c4
      have HE : As (qpre l bad = ((m4, l4, b4), 65536)) := ⟨by unfold qpre; simp [HQ1.out, HQ4.out]⟩
      go_wp2_with ((go_at_call 64; (with_reducible refine (qnum_to B l1 b1 4 _ _ HQ4.out HR1.out HL1.out (by omega) (by omega)).mono ?_); rintro e w1 ⟨rfl, hr1, hg1⟩; have HR2 := As.mk hr1; have HG2 := As.mk hg1; clear hr1 hg1))
      go_meet
      exact ⟨m4, 65536, rfl, rfl, ⟨by rw [HE.out]; exact ⟨rfl, rfl, HR2.out, grown_trans HG1.out HG2.out⟩⟩⟩
    by_cases c5 : m1 = 255
    · subst c5
      have HE : As (qpre l bad = ((255, l1, true), 0)) := ⟨by unfold qpre; simp [HQ1.out]⟩
      obtain ⟨A1, n1, cc1, h1, h2, _⟩ := HR1.out
      obtain ⟨c0, c1, f0, f1⟩ := two_cell h1
      clear h1 h2
      go_wp2
      go_meet
      exact ⟨255, 0, rfl, rfl, ⟨by rw [HE.out]; exact ⟨rfl, rfl, rdr_setBad HR1.out true, grown_trans HG1.out (grown_set _ _ _ _)⟩⟩⟩
    · have HE : As (qpre l bad = ((m1, l1, b1), 0)) := ⟨by unfold qpre; simp [HQ1.out, c3, c4, c5]⟩
      have d3 : ((m1 : Int) == 253) = false := by simp; omega
      have d4 : ((m1 : Int) == 254) = false := by simp; omega
      have d5 : ((m1 : Int) == 255) = false := by simp; omega
      clear c3 c4 c5
      go_wp2
      go_meet
      exact ⟨m1, 0, rfl, rfl, ⟨by rw [HE.out]; exact ⟨rfl, rfl, HR1.out, HG1.out⟩⟩⟩
  case rest =>
    obtain ⟨m, least, rfl, rfl, HC⟩ := hcut
    clear HR1 HG1
    obtain ⟨em, el, hrc, hgc⟩ := HC.out
    obtain ⟨q1, q2, q3, q4, hp⟩ : ∃ q1 q2 q3 q4, qpre l bad = ((q1, q2, q3), q4) := ⟨_, _, _, _, rfl⟩
    rw [hp] at em el hrc
    simp only at em el hrc
    subst em el
    have HRc := As.mk hrc
    have HGc := As.mk hgc
    obtain ⟨A, n, c, h1, h2, _⟩ := hrc
    obtain ⟨c0, c1, f0, f1⟩ := two_cell h1
    have hm : q1 < 4294967296 := by have := HPL.out; rw [hp] at this; exact this
    have hm' : (q1 : Int) ≤ 4294967295 := by omega
    have HP := As.mk hp
    clear h1 h2 hgc hp HC hm HPL
    cases q3 with
    | true =>
      have HE : As (qcount top l bad = (0, q2, true)) := ⟨by unfold qcount; rw [HP.out]; simp⟩
      go_wp2
      go_ret
      rw [HE.out]
      exact ⟨rfl, rdr_setBad HRc.out true, grown_trans HGc.out (grown_set _ _ _ _)⟩
    | false =>
      by_cases d1 : q1 < q4
      · have HE : As (qcount top l bad = (0, q2, true)) := ⟨by unfold qcount; rw [HP.out]; simp [d1]⟩
        have k1 : decide (q1 < q4) = true := by simpa using d1
        clear d1
        go_wp2
        go_ret
        rw [HE.out]
        exact ⟨rfl, rdr_setBad HRc.out true, grown_trans HGc.out (grown_set _ _ _ _)⟩
      have k1 : decide (q1 < q4) = false := by simpa using d1
      by_cases d2 : top < 0
      · have HE : As (qcount top l bad = (0, q2, true)) := ⟨by unfold qcount; rw [HP.out]; simp [d2]⟩
        clear d1
        go_wp2
        go_ret
        rw [HE.out]
        exact ⟨rfl, rdr_setBad HRc.out true, grown_trans HGc.out (grown_set _ _ _ _)⟩
      have d2' : 0 ≤ top := by omega
      by_cases d3 : top < q1
      · have HE : As (qcount top l bad = (0, q2, true)) := ⟨by unfold qcount; rw [HP.out]; simp [d3]⟩
        clear d1 d2
        go_wp2
        go_ret
        rw [HE.out]
        exact ⟨rfl, rdr_setBad HRc.out true, grown_trans HGc.out (grown_set _ _ _ _)⟩
      · have HE : As (qcount top l bad = (q1, q2, false)) := ⟨by unfold qcount; rw [HP.out]; simp; omega⟩
        have d3' : (q1 : Int) ≤ top := by omega
        clear d1 d2 d3
        go_wp2
        go_ret
        rw [HE.out]
        exact ⟨rfl, HRc.out, HGc.out⟩
theorem qcount_to (B : Nat) (l : List UInt8) (bad : Bool) (top : Int) (w : World) {m : Nat} {l' : List UInt8} {bad' : Bool} (hq : qcount top l bad = (m, l', bad')) (h : Rdr 46 w B l bad) (hl : l.length ≤ 140737488355328) (ht0 : -9223372036854775808 ≤ top) (ht1 : top ≤ 9223372036854775807) :
    Calls Try.prog 31 #[.pointer (some ⟨B, 0, none⟩), .int .i64 top] w fun e w' => e = .returned (.int .i64 (m : Int)) ∧ Rdr 46 w' B l' bad' ∧ w.grownBy w' (some B) := by
  have := qcount_any B l bad top w h hl ht0 ht1
  rw [hq] at this
  exact this
/-! The two readers. -/
/-- They read on alike: where nothing failed both have the same before them; else the program's has nothing. -/
def Sim (l : List UInt8) (b : Bool) (l' : List UInt8) (b' : Bool) : Prop := b = b' ∧ (b = false → l = l') ∧ (b = true → l = [])
theorem Sim.start (l : List UInt8) : Sim l false l false := ⟨rfl, fun _ => rfl, (fun h => by cases h)⟩
theorem Sim.fin {l l' : List UInt8} {b b' : Bool} (h : Sim l b l' b') : (!b && l.isEmpty) = (!b' && l'.isEmpty) := by
  obtain ⟨rfl, h1, h2⟩ := h
  cases b
  · rw [h1 rfl]
  · rfl
theorem Sim.num {l l' : List UInt8} {b b' : Bool} (k : Nat) (hk : 1 ≤ k) (h : Sim l b l' b') : (rnum k l b).1 = (qnum k l' b').1 ∧ Sim (rnum k l b).2.1 (rnum k l b).2.2 (qnum k l' b').2.1 (qnum k l' b').2.2 := by
  obtain ⟨rfl, h1, h2⟩ := h
  cases b with
  | true =>
    rw [h2 rfl]
    unfold rnum qnum qtake
    rw [if_pos (by simp; omega), if_pos (.inl rfl)]
    exact ⟨rfl, rfl, (fun h => by cases h), fun _ => rfl⟩
  | false =>
    obtain rfl := h1 rfl
    unfold rnum qnum qtake
    by_cases c : l.length < k
    · rw [if_pos c, if_pos (.inr (.inr (by omega)))]
      exact ⟨rfl, rfl, (fun h => by cases h), fun _ => rfl⟩
    · rw [if_neg c, if_neg (by rintro (h | h | h); cases h; omega; omega)]
      exact ⟨rfl, rfl, fun _ => rfl, fun h => by cases h⟩
theorem Sim.pre {l l' : List UInt8} {b b' : Bool} (h : Sim l b l' b') : (rpre l b).1.1 = (qpre l' b').1.1 ∧ (rpre l b).2 = (qpre l' b').2 ∧ Sim (rpre l b).1.2.1 (rpre l b).1.2.2 (qpre l' b').1.2.1 (qpre l' b').1.2.2 := by
  obtain ⟨e1, s1⟩ := h.num 1 (Nat.le_refl _)
  obtain ⟨e2, s2⟩ := s1.num 2 (by omega)
  obtain ⟨e4, s4⟩ := s1.num 4 (by omega)
  unfold rpre qpre
  simp only
  rw [← e1]
  split
  · exact ⟨e2, rfl, s2⟩
  · split
    · exact ⟨e4, rfl, s4⟩
    · split
      · exact ⟨rfl, rfl, rfl, (fun h => by cases h), fun _ => rfl⟩
      · exact ⟨e1, rfl, s1⟩
theorem Sim.count {l l' : List UInt8} {b b' : Bool} (top : Int) (h : Sim l b l' b') : (rcount top l b).1 = (qcount top l' b').1 ∧ Sim (rcount top l b).2.1 (rcount top l b).2.2 (qcount top l' b').2.1 (qcount top l' b').2.2 := by
  obtain ⟨e1, e2, s⟩ := h.pre
  unfold rcount qcount
  simp only
  rw [← e1, ← e2, ← s.1]
  split
  · exact ⟨rfl, rfl, (fun h => by cases h), fun _ => rfl⟩
  · exact ⟨e1, s⟩
theorem Sim.take {l l' : List UInt8} {b b' : Bool} (n : Int) (h : Sim l b l' b') : (rtake n l b).1 = (qtake n l' b').1 ∧ Sim (rtake n l b).2.1 (rtake n l b).2.2 (qtake n l' b').2.1 (qtake n l' b').2.2 := by
  obtain ⟨rfl, h1, h2⟩ := h
  cases b with
  | true =>
    unfold rtake qtake
    rw [if_pos (.inr (.inr rfl)), if_pos (.inl rfl)]
    exact ⟨rfl, rfl, (fun h => by cases h), fun _ => rfl⟩
  | false =>
    obtain rfl := h1 rfl
    unfold rtake qtake
    by_cases c : n < 0 ∨ (l.length : Int) < n
    · rw [if_pos (by rcases c with c | c; exact .inl c; exact .inr (.inl c)), if_pos (.inr c)]
      exact ⟨rfl, rfl, (fun h => by cases h), fun _ => rfl⟩
    · rw [if_neg (by rintro (h | h | h); exact c (.inl h); exact c (.inr h); cases h), if_neg (by rintro (h | h); cases h; exact c h)]
      exact ⟨rfl, rfl, fun _ => rfl, fun h => by cases h⟩
end Go.Proofs.Ytfggkljgfadacaa.W
