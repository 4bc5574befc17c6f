/- What is told: rows of bytes of one's own. -/
import Derived.Test.YtodcbcpjlhlakaaDoorR14
set_option linter.unusedVariables false
set_option linter.unusedSimpArgs false
namespace Go.Proofs.YtodcbcpjlhlakaaDoor.W
open Go.RowKit Go.Proofs.YtodcbcpjlhlakaaDoor.B Go.Proofs

def Off (k : Option Nat) (u : Value) : Prop := ∀ b, u.ownBlock = some b → k ≠ some b
theorem RdB.off {w w' : World} {u : Value} {b : List UInt8} {row : Option Nat} (h : RdB w u b) (hg : w.grownBy w' row) (ho : Off row u) : RdB w' u b := by
  obtain ⟨hl, A, c, rfl, h1, h2, h3, h4⟩ := h
  refine ⟨hl, A, c, rfl, h1, h2, h3, fun ad had j v hv => ?_⟩
  have e : (ad.add j).block = ad.block := by unfold Addr.add; split <;> rfl
  refine hg.cell (h4 ad had j v hv) (fun e2 => ho ad.block (by subst had; simp [Value.ownBlock]) (by rw [← e2, e]))
theorem off_kept {row : Option Nat} {u : Value} (h : Off row u) : u.ownBlock = none ∨ u.ownBlock ≠ row := by
  rcases hk : u.ownBlock with _ | k
  · exact .inl rfl
  · exact .inr (fun e => h k hk e.symm)
/-- An element of a row of one's own: its bytes lie in another block of one's own. -/
def El (w : World) (base : Nat) (own : Option Nat) (u : Value) (b : List UInt8) : Prop := OwB w base 5 u b ∧ Off own u
theorem El.kept {w w' : World} {base : Nat} {own row : Option Nat} {u : Value} {b : List UInt8} (h : El w base own u b) (hg : w.grownBy w' row) (ho : Off row u) : El w' base own u b := ⟨h.1.kept hg (off_kept ho), h.2⟩
theorem El.below {w w' : World} {base : Nat} {own : Option Nat} {u : Value} {b : List UInt8} (h : El w base own u b) (hb : Below w.heap.size w w') : El w' base own u b := ⟨h.1.below hb, h.2⟩
theorem off_low {w : World} {base B : Nat} {u : Value} {n size : Nat} {e : TypeId} {xs : List Value} (h : OwS w base e size u n xs) (hB : B < base) : Off (some B) u := fun k hk e2 => by
  injection e2 with e2
  have := (h.lt k hk).1
  omega
theorem El.read {w w' : World} {base B : Nat} {own : Option Nat} {u : Value} {b : List UInt8} (h : El w base own u b) (hg : w.grownBy w' (some B)) (hB : B < base) : El w' base own u b := h.kept hg (off_low h.1 hB)
theorem off_grow {w : World} {base : Nat} {own own' : Option Nat} {u : Value} {n size : Nat} {e : TypeId} {xs : List Value} (h : OwS w base e size u n xs) (ho : Off own u) (ht : own' = own ∨ ∃ k, own' = some k ∧ w.heap.size ≤ k) : Off own' u := fun k hk => by
  rcases ht with e | ⟨k', e, hk'⟩
  · rw [e]; exact ho k hk
  · rw [e]
    intro e2
    injection e2 with e2
    have := (h.lt k hk).2
    omega
/-- Behind a growth of the row. -/
theorem El.grow {w w' : World} {base : Nat} {own own' : Option Nat} {u : Value} {b : List UInt8} (h : El w base own u b) (hg : w.grownBy w' own) (ht : own' = own ∨ ∃ k, own' = some k ∧ w.heap.size ≤ k) : El w' base own' u b :=
  ⟨(h.kept hg h.2).1, off_grow h.1 h.2 ht⟩
/-- Bytes of one's own, or a constant's: a full row whose block is marked behind its last cell. -/
def OwC (w : World) (base : Nat) (u : Value) (b : List UInt8) : Prop :=
  OwB w base 5 u b ∨ ∃ g, u = .slice (some ⟨g, 0, none⟩) b.length b.length ∧ base ≤ g ∧ b.length ≤ maxLen ∧ w.heap[g]? = some (.cells (b.map u8v).toArray 5 (b.length, b.length + 1))
theorem OwC.rd {w : World} {base : Nat} {u : Value} {b : List UInt8} (h : OwC w base u b) : RdB w u b := by
  rcases h with h | ⟨g, rfl, _, hm, hg⟩
  · exact h.rd
  · refine ⟨by simp, some ⟨g, 0, none⟩, _, rfl, Nat.le_refl _, hm, (fun h => by cases h), ?_⟩
    rintro ad had j v hv
    obtain rfl := Option.some.inj had
    rw [Addr.add_lit, Nat.zero_add]
    simp only [World.cell?, hg]
    simpa using hv
theorem OwC.lt {w : World} {base : Nat} {u : Value} {b : List UInt8} (h : OwC w base u b) (k : Nat) (hk : u.ownBlock = some k) : base ≤ k ∧ k < w.heap.size := by
  rcases h with h | ⟨g, rfl, hb, hm, hg⟩
  · exact h.lt k hk
  · simp [Value.ownBlock] at hk
    have := (Array.getElem?_eq_some_iff.1 hg).1
    omega
theorem OwC.kept {w w' : World} {base : Nat} {u : Value} {b : List UInt8} {row : Option Nat} (h : OwC w base u b) (hg : w.grownBy w' row) (ho : Off row u) : OwC w' base u b := by
  rcases h with h | ⟨g, rfl, hb, hm, hgg⟩
  · exact .inl (h.kept hg (off_kept ho))
  · refine .inr ⟨g, rfl, hb, hm, ?_⟩
    rw [hg.block g (Array.getElem?_eq_some_iff.1 hgg).1 (fun e => ho g rfl e.symm)]
    exact hgg
theorem OwC.below {w w' : World} {base : Nat} {u : Value} {b : List UInt8} (h : OwC w base u b) (hb : Below w.heap.size w w') : OwC w' base u b := h.kept (grown_none hb) (fun k _ e => by cases e)
theorem OwC.mono {w : World} {base base' : Nat} {u : Value} {b : List UInt8} (h : OwC w base u b) (hb : base' ≤ base) : OwC w base' u b := by
  rcases h with h | ⟨g, rfl, hbg, hm, hg⟩
  · exact .inl (h.mono hb)
  · exact .inr ⟨g, rfl, by omega, hm, hg⟩
def ElC (w : World) (base : Nat) (own : Option Nat) (u : Value) (b : List UInt8) : Prop := OwC w base u b ∧ Off own u
theorem ElC.kept {w w' : World} {base : Nat} {own row : Option Nat} {u : Value} {b : List UInt8} (h : ElC w base own u b) (hg : w.grownBy w' row) (ho : Off row u) : ElC w' base own u b := ⟨h.1.kept hg ho, h.2⟩
theorem ElC.below {w w' : World} {base : Nat} {own : Option Nat} {u : Value} {b : List UInt8} (h : ElC w base own u b) (hb : Below w.heap.size w w') : ElC w' base own u b := ⟨h.1.below hb, h.2⟩
theorem ElC.read {w w' : World} {base B : Nat} {own : Option Nat} {u : Value} {b : List UInt8} (h : ElC w base own u b) (hg : w.grownBy w' (some B)) (hB : B < base) : ElC w' base own u b :=
  h.kept hg (fun k hk e => by injection e with e; have := (h.1.lt k hk).1; omega)
theorem ElC.grow {w w' : World} {base : Nat} {own own' : Option Nat} {u : Value} {b : List UInt8} (h : ElC w base own u b) (hg : w.grownBy w' own) (ht : own' = own ∨ ∃ k, own' = some k ∧ w.heap.size ≤ k) : ElC w' base own' u b :=
  ⟨(h.kept hg h.2).1, fun k hk => by
    rcases ht with e | ⟨k', e, hk'⟩
    · rw [e]; exact h.2 k hk
    · rw [e]
      intro e2
      injection e2 with e2
      have := (h.1.lt k hk).2
      omega⟩
/-- A row of bytes, the row in a block of one's own, and the bytes in other blocks of one's own. -/
def OwW (w : World) (base : Nat) (v : Value) (ws : List (List UInt8)) : Prop :=
  ∃ us : List Value, OwS w base 29 1 v ws.length us ∧ ∀ (i : Nat) (b : List UInt8), ws[i]? = some b → ∃ u, us[i]? = some u ∧ El w base v.ownBlock u b
theorem OwW.nil (w : World) (base : Nat) : OwW w base (.slice none 0 0) [] := ⟨[], OwS.nil _ _ _ _, fun i b h => by simp at h⟩
theorem OwW.rd {w : World} {base : Nat} {v : Value} {ws : List (List UInt8)} (h : OwW w base v ws) : RdW w v ws := by
  obtain ⟨us, h1, h2⟩ := h
  have hrd := h1.rd
  obtain ⟨hl, A, c, rfl, k1, k2, k3, k4⟩ := hrd
  refine ⟨A, c, rfl, k1, k2, k3, fun ad had _ => ?_⟩
  have hn : ∃ g o, ad = ⟨g, o, none⟩ := by
    rcases h1.2 with ⟨e, _⟩ | ⟨g, off, cap, cur, e, _⟩
    · injection e with e; rw [e] at had; cases had
    · injection e with e; rw [e] at had; exact ⟨g, off, (Option.some.inj had).symm⟩
  obtain ⟨g, o, rfl⟩ := hn
  refine ⟨g, o, rfl, fun j x hx => ?_⟩
  obtain ⟨u, hu, hr, _⟩ := h2 j x hx
  refine ⟨[u], rfl, ⟨u, rfl, hr.rd⟩, fun i v hv => ?_⟩
  rcases i with _ | i
  · simp at hv
    subst hv
    have := k4 _ had j u hu
    rw [Addr.add_mid] at this
    simpa using this
  · simp at hv
/-- Reads leave it. -/
theorem OwW.read {w w' : World} {base B : Nat} {v : Value} {ws : List (List UInt8)} (h : OwW w base v ws) (hg : w.grownBy w' (some B)) (hB : B < base) : OwW w' base v ws := by
  obtain ⟨us, h1, h2⟩ := h
  refine ⟨us, h1.kept hg ?_, fun i b hb => ?_⟩
  · rcases hv : v.ownBlock with _ | k
    · exact .inl rfl
    · exact .inr (fun e => by injection e with e; have := (h1.lt k hv).1; omega)
  · obtain ⟨u, hu, h3⟩ := h2 i b hb
    exact ⟨u, hu, h3.read hg hB⟩
theorem OwW.alloc {w : World} {base : Nat} {v : Value} {ws : List (List UInt8)} (h : OwW w base v ws) (o : Obj) : OwW (w.alloc o) base v ws := by
  obtain ⟨us, h1, h2⟩ := h
  refine ⟨us, h1.alloc o, fun i b hb => ?_⟩
  obtain ⟨u, hu, h3⟩ := h2 i b hb
  exact ⟨u, hu, h3.below ((Below.refl _ _).alloc (Nat.le_refl _) o)⟩
/-- What an append leaves. -/
theorem OwW.app {w w' : World} {base : Nat} {v v' u : Value} {ws : List (List UInt8)} {b : List UInt8} (us : List Value) (h1 : OwS w base 29 1 v ws.length us) (h2 : ∀ (i : Nat) (b : List UInt8), ws[i]? = some b → ∃ u, us[i]? = some u ∧ El w base v.ownBlock u b)
    (hu : El w base v.ownBlock u b) (ho : OwS w' base 29 1 v' (ws.length + 1) (us ++ [u])) (hg : w.grownBy w' v.ownBlock) (ht : v'.ownBlock = v.ownBlock ∨ ∃ k, v'.ownBlock = some k ∧ w.heap.size ≤ k) : OwW w' base v' (ws ++ [b]) := by
  have hus : us.length = ws.length := by have := h1.1; omega
  refine ⟨us ++ [u], by rw [List.length_append]; exact ho, fun i x hx => ?_⟩
  by_cases hi : i < ws.length
  · rw [List.getElem?_append_left hi] at hx
    obtain ⟨y, hy, h3⟩ := h2 i x hx
    exact ⟨y, by rw [List.getElem?_append_left (by omega)]; exact hy, h3.grow hg ht⟩
  · have e : i = ws.length := by
      have := (List.getElem?_eq_some_iff.1 hx).1
      simp at this
      omega
    subst e
    rw [List.getElem?_append_right (Nat.le_refl _)] at hx
    simp at hx
    subst hx
    exact ⟨u, by rw [List.getElem?_append_right (by omega), hus]; simp, hu.grow hg ht⟩
/-- What turns in newer blocks is no matter to what stood. -/
theorem grown_far {w a b : World} {o row : Option Nat} (h : w.grownBy a o) (hg : a.grownBy b row) (hrow : ∀ k, row = some k → w.heap.size ≤ k) : w.grownBy b o :=
  ⟨hg.os.trans h.os, hg.tape.trans h.tape, hg.output.trans h.output, Nat.le_trans h.size hg.size, fun i hi hne => by rw [hg.block i (Nat.lt_of_lt_of_le hi h.size) (fun e => by have := hrow i e.symm; omega)]; exact h.block i hi hne⟩
theorem grown_al {w a : World} {o : Option Nat} (h : w.grownBy a o) (ob : Obj) : w.grownBy (a.alloc ob) o :=
  grown_far h (grown_none ((Below.refl _ _).alloc (Nat.le_refl _) ob)) (fun k hk => by cases hk)
theorem OwW.lt {w : World} {base : Nat} {v : Value} {ws : List (List UInt8)} (h : OwW w base v ws) (k : Nat) (hk : v.ownBlock = some k) : base ≤ k ∧ k < w.heap.size := by
  obtain ⟨us, h1, _⟩ := h
  exact h1.lt k hk
theorem OwW.below {w w' : World} {base : Nat} {v : Value} {ws : List (List UInt8)} (h : OwW w base v ws) (hb : Below w.heap.size w w') : OwW w' base v ws := by
  obtain ⟨us, k1, k2⟩ := h
  refine ⟨us, k1.below hb, fun i b hbb => ?_⟩
  obtain ⟨u, q1, q2⟩ := k2 i b hbb
  exact ⟨u, q1, q2.below hb⟩
theorem OwW.form {w : World} {base : Nat} {v : Value} {ws : List (List UInt8)} (h : OwW w base v ws) : ∃ A c, v = .slice A ws.length c := by
  obtain ⟨us, h1, _⟩ := h
  rcases h1.2 with ⟨rfl, h⟩ | ⟨g, off, cap, cur, rfl, _⟩
  · exact ⟨none, 0, by rw [h]⟩
  · exact ⟨_, _, rfl⟩
end Go.Proofs.YtodcbcpjlhlakaaDoor.W
