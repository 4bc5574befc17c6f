/- txns.witness: the next witness; rows of rows that are one's own. -/
import Derived.Test.YtfggkljgfadacaaT7
set_option linter.unusedVariables false
set_option linter.unusedSimpArgs false
namespace Go.Proofs.Ytfggkljgfadacaa.W
open Go.RowKit Go.Proofs.Ytfggkljgfadacaa.B Go.Proofs

abbrev St := List UInt8 × Bool
/-- So many reads, one behind the other. -/
def iter {α : Type} (f : St → α × St) : Nat → St → List α × St
  | 0, s => ([], s)
  | k + 1, s => ((iter f k s).1 ++ [(f (iter f k s).2).1], (f (iter f k s).2).2)
theorem iter_length {α : Type} (f : St → α × St) (k : Nat) (s : St) : (iter f k s).1.length = k := by
  induction k with
  | zero => rfl
  | succ k ih => simp [iter, ih]
/-- Bytes behind how many they are. -/
def rRow (s : St) : List UInt8 × St := rtake ((rcount 500 s.1 s.2).1 : Int) (rcount 500 s.1 s.2).2.1 (rcount 500 s.1 s.2).2.2
def rWit (s : St) : List (List UInt8) × St := iter rRow (rcount 10 s.1 s.2).1 (rcount 10 s.1 s.2).2

def Off (k : Option Nat) (u : Value) : Prop := ∀ b, u.ownBlock = some b → k ≠ some b
theorem RdB.off {w w' : World} {u : Value} {b : List UInt8} {row : Option Nat} (h : RdB w u b) (hg : w.grownBy w' row) (ho : Off row u) : RdB w' u b := by
  obtain ⟨hl, A, c, rfl, h1, h2, h3, h4⟩ := h
  refine ⟨hl, A, c, rfl, h1, h2, h3, fun ad had j v hv => ?_⟩
  have e : (ad.add j).block = ad.block := by unfold Addr.add; split <;> rfl
  refine hg.cell (h4 ad had j v hv) (fun e2 => ho ad.block (by subst had; simp [Value.ownBlock]) (by rw [← e2, e]))
theorem off_kept {row : Option Nat} {u : Value} (h : Off row u) : u.ownBlock = none ∨ u.ownBlock ≠ row := by
  rcases hk : u.ownBlock with _ | k
  · exact .inl rfl
  · exact .inr (fun e => h k hk e.symm)
/-- An element of a row of one's own: its bytes lie in another block of one's own. -/
def El (w : World) (base : Nat) (own : Option Nat) (u : Value) (b : List UInt8) : Prop := OwB w base 5 u b ∧ Off own u
theorem El.kept {w w' : World} {base : Nat} {own row : Option Nat} {u : Value} {b : List UInt8} (h : El w base own u b) (hg : w.grownBy w' row) (ho : Off row u) : El w' base own u b := ⟨h.1.kept hg (off_kept ho), h.2⟩
theorem El.below {w w' : World} {base : Nat} {own : Option Nat} {u : Value} {b : List UInt8} (h : El w base own u b) (hb : Below w.heap.size w w') : El w' base own u b := ⟨h.1.below hb, h.2⟩
theorem off_low {w : World} {base B : Nat} {u : Value} {n size : Nat} {e : TypeId} {xs : List Value} (h : OwS w base e size u n xs) (hB : B < base) : Off (some B) u := fun k hk e2 => by
  injection e2 with e2
  have := (h.lt k hk).1
  omega
theorem El.read {w w' : World} {base B : Nat} {own : Option Nat} {u : Value} {b : List UInt8} (h : El w base own u b) (hg : w.grownBy w' (some B)) (hB : B < base) : El w' base own u b := h.kept hg (off_low h.1 hB)
theorem off_grow {w : World} {base : Nat} {own own' : Option Nat} {u : Value} {n size : Nat} {e : TypeId} {xs : List Value} (h : OwS w base e size u n xs) (ho : Off own u) (ht : own' = own ∨ ∃ k, own' = some k ∧ w.heap.size ≤ k) : Off own' u := fun k hk => by
  rcases ht with e | ⟨k', e, hk'⟩
  · rw [e]; exact ho k hk
  · rw [e]
    intro e2
    injection e2 with e2
    have := (h.lt k hk).2
    omega
/-- Behind a growth of the row. -/
theorem El.grow {w w' : World} {base : Nat} {own own' : Option Nat} {u : Value} {b : List UInt8} (h : El w base own u b) (hg : w.grownBy w' own) (ht : own' = own ∨ ∃ k, own' = some k ∧ w.heap.size ≤ k) : El w' base own' u b :=
  ⟨(h.kept hg h.2).1, off_grow h.1 h.2 ht⟩
/-- Bytes of one's own, or a constant's: a full row whose block is marked behind its last cell. -/
def OwC (w : World) (base : Nat) (u : Value) (b : List UInt8) : Prop :=
  OwB w base 5 u b ∨ ∃ g, u = .slice (some ⟨g, 0, none⟩) b.length b.length ∧ base ≤ g ∧ b.length ≤ maxLen ∧ w.heap[g]? = some (.cells (b.map u8v).toArray 5 (b.length, b.length + 1))
theorem OwC.rd {w : World} {base : Nat} {u : Value} {b : List UInt8} (h : OwC w base u b) : RdB w u b := by
  rcases h with h | ⟨g, rfl, _, hm, hg⟩
  · exact h.rd
  · refine ⟨by simp, some ⟨g, 0, none⟩, _, rfl, Nat.le_refl _, hm, (fun h => by cases h), ?_⟩
    rintro ad had j v hv
    obtain rfl := Option.some.inj had
    rw [Addr.add_lit, Nat.zero_add]
    simp only [World.cell?, hg]
    simpa using hv
theorem OwC.lt {w : World} {base : Nat} {u : Value} {b : List UInt8} (h : OwC w base u b) (k : Nat) (hk : u.ownBlock = some k) : base ≤ k ∧ k < w.heap.size := by
  rcases h with h | ⟨g, rfl, hb, hm, hg⟩
  · exact h.lt k hk
  · simp [Value.ownBlock] at hk
    have := (Array.getElem?_eq_some_iff.1 hg).1
    omega
theorem OwC.kept {w w' : World} {base : Nat} {u : Value} {b : List UInt8} {row : Option Nat} (h : OwC w base u b) (hg : w.grownBy w' row) (ho : Off row u) : OwC w' base u b := by
  rcases h with h | ⟨g, rfl, hb, hm, hgg⟩
  · exact .inl (h.kept hg (off_kept ho))
  · refine .inr ⟨g, rfl, hb, hm, ?_⟩
    rw [hg.block g (Array.getElem?_eq_some_iff.1 hgg).1 (fun e => ho g rfl e.symm)]
    exact hgg
theorem OwC.below {w w' : World} {base : Nat} {u : Value} {b : List UInt8} (h : OwC w base u b) (hb : Below w.heap.size w w') : OwC w' base u b := h.kept (grown_none hb) (fun k _ e => by cases e)
theorem OwC.mono {w : World} {base base' : Nat} {u : Value} {b : List UInt8} (h : OwC w base u b) (hb : base' ≤ base) : OwC w base' u b := by
  rcases h with h | ⟨g, rfl, hbg, hm, hg⟩
  · exact .inl (h.mono hb)
  · exact .inr ⟨g, rfl, by omega, hm, hg⟩
def ElC (w : World) (base : Nat) (own : Option Nat) (u : Value) (b : List UInt8) : Prop := OwC w base u b ∧ Off own u
theorem ElC.kept {w w' : World} {base : Nat} {own row : Option Nat} {u : Value} {b : List UInt8} (h : ElC w base own u b) (hg : w.grownBy w' row) (ho : Off row u) : ElC w' base own u b := ⟨h.1.kept hg ho, h.2⟩
theorem ElC.below {w w' : World} {base : Nat} {own : Option Nat} {u : Value} {b : List UInt8} (h : ElC w base own u b) (hb : Below w.heap.size w w') : ElC w' base own u b := ⟨h.1.below hb, h.2⟩
theorem ElC.read {w w' : World} {base B : Nat} {own : Option Nat} {u : Value} {b : List UInt8} (h : ElC w base own u b) (hg : w.grownBy w' (some B)) (hB : B < base) : ElC w' base own u b :=
  h.kept hg (fun k hk e => by injection e with e; have := (h.1.lt k hk).1; omega)
theorem ElC.grow {w w' : World} {base : Nat} {own own' : Option Nat} {u : Value} {b : List UInt8} (h : ElC w base own u b) (hg : w.grownBy w' own) (ht : own' = own ∨ ∃ k, own' = some k ∧ w.heap.size ≤ k) : ElC w' base own' u b :=
  ⟨(h.kept hg h.2).1, fun k hk => by
    rcases ht with e | ⟨k', e, hk'⟩
    · rw [e]; exact h.2 k hk
    · rw [e]
      intro e2
      injection e2 with e2
      have := (h.1.lt k hk).2
      omega⟩
/-- A row of bytes, the row in a block of one's own, and the bytes in other blocks of one's own. -/
def OwW (w : World) (base : Nat) (v : Value) (ws : List (List UInt8)) : Prop :=
  ∃ us : List Value, OwS w base 24 1 v ws.length us ∧ ∀ (i : Nat) (b : List UInt8), ws[i]? = some b → ∃ u, us[i]? = some u ∧ El w base v.ownBlock u b
theorem OwW.nil (w : World) (base : Nat) : OwW w base (.slice none 0 0) [] := ⟨[], OwS.nil _ _ _ _, fun i b h => by simp at h⟩
theorem OwW.rd {w : World} {base : Nat} {v : Value} {ws : List (List UInt8)} (h : OwW w base v ws) : RdW w v ws := by
  obtain ⟨us, h1, h2⟩ := h
  have hrd := h1.rd
  obtain ⟨hl, A, c, rfl, k1, k2, k3, k4⟩ := hrd
  refine ⟨A, c, rfl, k1, k2, k3, fun ad had _ => ?_⟩
  have hn : ∃ g o, ad = ⟨g, o, none⟩ := by
    rcases h1.2 with ⟨e, _⟩ | ⟨g, off, cap, cur, e, _⟩
    · injection e with e; rw [e] at had; cases had
    · injection e with e; rw [e] at had; exact ⟨g, off, (Option.some.inj had).symm⟩
  obtain ⟨g, o, rfl⟩ := hn
  refine ⟨g, o, rfl, fun j x hx => ?_⟩
  obtain ⟨u, hu, hr, _⟩ := h2 j x hx
  refine ⟨[u], rfl, ⟨u, rfl, hr.rd⟩, fun i v hv => ?_⟩
  rcases i with _ | i
  · simp at hv
    subst hv
    have := k4 _ had j u hu
    rw [Addr.add_mid] at this
    simpa using this
  · simp at hv
/-- Reads leave it. -/
theorem OwW.read {w w' : World} {base B : Nat} {v : Value} {ws : List (List UInt8)} (h : OwW w base v ws) (hg : w.grownBy w' (some B)) (hB : B < base) : OwW w' base v ws := by
  obtain ⟨us, h1, h2⟩ := h
  refine ⟨us, h1.kept hg ?_, fun i b hb => ?_⟩
  · rcases hv : v.ownBlock with _ | k
    · exact .inl rfl
    · exact .inr (fun e => by injection e with e; have := (h1.lt k hv).1; omega)
  · obtain ⟨u, hu, h3⟩ := h2 i b hb
    exact ⟨u, hu, h3.read hg hB⟩
theorem OwW.alloc {w : World} {base : Nat} {v : Value} {ws : List (List UInt8)} (h : OwW w base v ws) (o : Obj) : OwW (w.alloc o) base v ws := by
  obtain ⟨us, h1, h2⟩ := h
  refine ⟨us, h1.alloc o, fun i b hb => ?_⟩
  obtain ⟨u, hu, h3⟩ := h2 i b hb
  exact ⟨u, hu, h3.below ((Below.refl _ _).alloc (Nat.le_refl _) o)⟩
/-- What an append leaves. -/
theorem OwW.app {w w' : World} {base : Nat} {v v' u : Value} {ws : List (List UInt8)} {b : List UInt8} (us : List Value) (h1 : OwS w base 24 1 v ws.length us) (h2 : ∀ (i : Nat) (b : List UInt8), ws[i]? = some b → ∃ u, us[i]? = some u ∧ El w base v.ownBlock u b)
    (hu : El w base v.ownBlock u b) (ho : OwS w' base 24 1 v' (ws.length + 1) (us ++ [u])) (hg : w.grownBy w' v.ownBlock) (ht : v'.ownBlock = v.ownBlock ∨ ∃ k, v'.ownBlock = some k ∧ w.heap.size ≤ k) : OwW w' base v' (ws ++ [b]) := by
  have hus : us.length = ws.length := by have := h1.1; omega
  refine ⟨us ++ [u], by rw [List.length_append]; exact ho, fun i x hx => ?_⟩
  by_cases hi : i < ws.length
  · rw [List.getElem?_append_left hi] at hx
    obtain ⟨y, hy, h3⟩ := h2 i x hx
    exact ⟨y, by rw [List.getElem?_append_left (by omega)]; exact hy, h3.grow hg ht⟩
  · have e : i = ws.length := by
      have := (List.getElem?_eq_some_iff.1 hx).1
      simp at this
      omega
    subst e
    rw [List.getElem?_append_right (Nat.le_refl _)] at hx
    simp at hx
    subst hx
    exact ⟨u, by rw [List.getElem?_append_right (by omega), hus]; simp, hu.grow hg ht⟩
/-- What turns in newer blocks is no matter to what stood. -/
theorem grown_far {w a b : World} {o row : Option Nat} (h : w.grownBy a o) (hg : a.grownBy b row) (hrow : ∀ k, row = some k → w.heap.size ≤ k) : w.grownBy b o :=
  ⟨hg.os.trans h.os, hg.tape.trans h.tape, hg.output.trans h.output, Nat.le_trans h.size hg.size, fun i hi hne => by rw [hg.block i (Nat.lt_of_lt_of_le hi h.size) (fun e => by have := hrow i e.symm; omega)]; exact h.block i hi hne⟩
theorem grown_al {w a : World} {o : Option Nat} (h : w.grownBy a o) (ob : Obj) : w.grownBy (a.alloc ob) o :=
  grown_far h (grown_none ((Below.refl _ _).alloc (Nat.le_refl _) ob)) (fun k hk => by cases hk)
theorem OwW.lt {w : World} {base : Nat} {v : Value} {ws : List (List UInt8)} (h : OwW w base v ws) (k : Nat) (hk : v.ownBlock = some k) : base ≤ k ∧ k < w.heap.size := by
  obtain ⟨us, h1, _⟩ := h
  exact h1.lt k hk
theorem info24 : (Try.prog.info? 24).map (fun i => (i.zero, i.size, i.bytes)) = some (some (.slice none 0 0), 1, 24) := by kernel_rfl

set_option maxHeartbeats 4000000 in
set_option maxRecDepth 100000 in
theorem wit_to (B : Nat) (l : List UInt8) (bad : Bool) (w : World) {ws : List (List UInt8)} {l' : List UInt8} {bad' : Bool} (hq : rWit (l, bad) = (ws, l', bad')) (h : Rdr 74 w B l bad) (hl : l.length ≤ 140737488355328) :
    Calls Try.prog 88 #[.pointer (some ⟨B, 0, none⟩)] w fun e w' => ∃ r, e = .returned r ∧ OwW w' w.heap.size r ws ∧ Rdr 74 w' B l' bad' ∧ w.grownBy w' (some B) := by
  obtain ⟨N, l1, b1, hq1⟩ : ∃ N l1 b1, rcount 10 l bad = (N, l1, b1) := ⟨_, _, _, rfl⟩
  have HQ : As (iter rRow N (l1, b1) = (ws, l', bad')) := ⟨by rw [← hq]; unfold rWit; rw [hq1]⟩
  have HQ1 := As.mk hq1
  have HL1 : As (l1.length ≤ 140737488355328) := ⟨by have := rcount_le_len 10 l bad; rw [hq1] at this; simp only at this; omega⟩
  have hN : (N : Int) ≤ 10 := by
    have : (rcount 10 l bad).1 = N := by rw [hq1]
    rw [← this]
    unfold rcount
    simp only
    split
    · simp
    · omega
  have HR := As.mk h
  have HBL := As.mk h.lt
  clear hq hq1 h hl
  go_enter Try.func88, Try.ntmps88
  go_wp2_with ((go_at_call 21; (with_reducible refine (rcount_to B l bad 10 _ HQ1.out HR.out (by omega) (by omega)).mono ?_); rintro e w1 ⟨rfl, hr, hg⟩; have HR1 := As.mk hr; have HG1 := As.mk hg; clear hr hg))
  go_loopw [3, 6] (fun v3 v6 wr => ∃ (k : Nat) (xs : List (List UInt8)) (l2 : List UInt8) (b2 : Bool), v6 = .int .i64 (k : Int) ∧ (k : Int) ≤ N ∧ As (iter rRow k (l1, b1) = (xs, l2, b2)) ∧ As (Rdr 74 wr B l2 b2) ∧ As (OwW wr w.heap.size v3 xs) ∧ As (w.grownBy wr (some B)) ∧ As (l2.length ≤ 140737488355328) ∧ As (xs.length = k)) (fun _ v6 _ => N - (intOf v6).toNat)
  case atStart => exact ⟨0, [], l1, b1, rfl, by omega, ⟨rfl⟩, HR1, ⟨OwW.nil _ _⟩, HG1, HL1, ⟨rfl⟩⟩
  case round =>
    obtain ⟨k, xs, l2, b2, rfl, hk, HI, HRk, HO, HG, HL2, HXL⟩ := hrel
    by_cases hlt : (k : Int) < N
    · obtain ⟨m, l3, b3, hq3⟩ : ∃ m l3 b3, rcount 500 l2 b2 = (m, l3, b3) := ⟨_, _, _, rfl⟩
      obtain ⟨x, l4, b4, hq4⟩ : ∃ x l4 b4, rtake (m : Int) l3 b3 = (x, l4, b4) := ⟨_, _, _, rfl⟩
      have HL3 : As (l3.length ≤ 140737488355328) := ⟨by have := rcount_le_len 500 l2 b2; rw [hq3] at this; simp only at this; have := HL2.out; omega⟩
      have HL4 : As (l4.length ≤ 140737488355328) := ⟨by have := rtake_le_len m l3 b3; rw [hq4] at this; simp only at this; have := HL3.out; omega⟩
      have HI2 : As (iter rRow (k + 1) (l1, b1) = (xs ++ [x], l4, b4)) := ⟨by unfold iter; rw [HI.out]; simp only [rRow]; rw [hq3]; simp only; rw [hq4]⟩
      have HQ3 := As.mk hq3
      have HQ4 := As.mk hq4
      clear hq3 hq4
      have HU := As.mk (fun b hb => (OwW.lt HO.out b hb).2)
      go_wp2_with (first | (go_at_call 21; (with_reducible refine (rcount_to B l2 b2 500 _ HQ3.out HRk.out (by omega) (by omega)).mono ?_); rintro e w2 ⟨rfl, hr, hg⟩; have HR2 := As.mk hr; have HO2 := As.mk (OwW.read HO.out hg HBL.out); have HG2 := As.mk (grown_trans HG.out hg); have HS2 := As.mk hg.size; clear hr hg) | (go_at_call 25; (with_reducible refine (rtake_to B l3 b3 _ _ HQ4.out HR2.out HL3.out).mono ?_); rintro e w3 ⟨r3, rfl, ho, hr, hg⟩; obtain ⟨A3, c3, rfl, -⟩ := RdB.form ho.rd; have HX3 := As.mk ho; have HR3 := As.mk hr; have HO3 := As.mk (OwW.read HO2.out hg HBL.out); have HG3 := As.mk (grown_trans HG2.out hg); clear hr hg ho) | (at_builtin; obtain ⟨us, k1, k2⟩ := OwW.alloc HO3.out (.cells #[.slice A3 x.length c3] 24); refine wpList_app w.heap.size rfl (.tmp 8) (.tmp 13) 43 24 (.slice none 0 0) 1 24 rfl Try.underlying43 info24 rfl (by decide) u3 (.slice (some ⟨w3.heap.size, 0, none⟩) 1 1) rfl rfl xs.length us k1 1 [.slice A3 x.length c3] ?rd (by simp; rfl) ?b1 ?b2 ?b3 ?_; (case rd => exact (OwS.lit w3 w3.heap.size 24 1 1 #[.slice A3 x.length c3] (Nat.le_refl _) (by decide) rfl).rd); (case b1 => have := HXL.out; unfold maxLen; omega); (case b2 => have := HXL.out; omega); (case b3 => have := HG3.out.size; simp; omega); intro v4 w4 ho hg ht; have HO4 := As.mk (OwW.app us k1 k2 (u := .slice A3 x.length c3) (b := x) ⟨OwS.alloc (OwS.mono HX3.out HG2.out.size) _, fun b hb e => (by have q1 := HX3.out.lt b hb; have q2 := HU.out b e; have q3 := HS2.out; omega)⟩ ho hg ht); have HR4 := As.mk (Rdr.grown (Rdr.below HR3.out ((Below.refl _ _).alloc (Nat.le_refl _) (.cells #[.slice A3 x.length c3] 24))) hg (fun b hb => (by have q1 := OwW.lt HO3.out b hb; have q2 := HBL.out; omega))); have HG4 := As.mk (grown_far (grown_al HG3.out _) hg (fun b hb => (OwW.lt HO3.out b hb).1)); clear ho hg ht k1 k2))
      go_roundw
      case rel => exact ⟨k + 1, xs ++ [x], l4, b4, by go_num, by omega, HI2, HR4, HO4, HG4, HL4, ⟨by rw [List.length_append, HXL.out]; rfl⟩⟩
      case measure => simp [intOf]; omega
    · have hkN : k = N := by omega
      have HF : As (xs = ws ∧ l2 = l' ∧ b2 = bad') := ⟨by have h1 := HI.out; rw [hkN, HQ.out] at h1; simp only [Prod.mk.injEq] at h1; exact ⟨h1.1.symm, h1.2.1.symm, h1.2.2.symm⟩⟩
      clear hkN
      go_wp2
      go_ret
      obtain ⟨rfl, rfl, rfl⟩ := HF.out
      exact ⟨_, rfl, HO.out, HRk.out, HG.out⟩
end Go.Proofs.Ytfggkljgfadacaa.W
