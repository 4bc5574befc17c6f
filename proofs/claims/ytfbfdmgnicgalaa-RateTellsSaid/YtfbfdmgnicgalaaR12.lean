/- A slice of rates that came in, as a list of pairs. -/
import Derived.Test.YtfbfdmgnicgalaaR7
import Derived.Deep.Slices
import Derived.Deep.Fields
import Derived.ChangeSame
import Derived.OpenShut
set_option linter.unusedVariables false
set_option linter.unusedSimpArgs false
namespace Go.Proofs.Ytfbfdmgnicgalaa.W
open Go.RowKit Go.Proofs.Ytfbfdmgnicgalaa.B Go.Proofs Go.ChangeShapes Go.WideShapes Go.Deep
section
variable {H : Type} {enc : TypeId × Value → H} {P : Program} {w : World} {base : Nat} {spare : Nat → Bool} {held : Bool}
theorem open_slice_fields {t e : TypeId} {fs : Array Field} {fuel : Nat} {cs : List Value} {x : DataW H × List MemPlace} (ht : P.underlying t = some (.slice e)) (he : P.underlying e = some (.struct fs))
    (hone : oneCellFields P fs = true) (hC : P.cellsOf e = fs.size) (h : DataW.trod enc P w base spare held fuel t cs = some x) :
    (cs = [.slice none 0 0] ∧ x = (.nil, [])) ∨
    ∃ (a : Addr) (len cap m : Nat) (D : Nat → DataW H) (Pl : Nat → List MemPlace), cs = [.slice (some a) len cap] ∧ base ≤ a.block ∧ len ≤ cap ∧ cap ≤ maxLen ∧ m = (if spare a.block then cap else len) ∧
      x = (.slice ((List.range len).map D) ((List.range (m - len)).map fun j => D (len + j)), MemPlace.row a (m * fs.size) ++ (List.range m).flatMap Pl) ∧
      ∀ i, i < m → ∃ (ys : List (DataW H × List MemPlace)) (n : Nat), D i = .agg (ys.map (·.1)) ∧ Pl i = ys.flatMap (·.2) ∧ ys.length = fs.size ∧
        ∀ (j : Nat) (f : Field), fs[j]? = some f → ∃ (v : Value) (y : DataW H × List MemPlace), w.cell? (a.add (i * fs.size + j)) = some v ∧ ys[j]? = some y ∧ DataW.trod enc P w base spare held n f.type [v] = some y := by
  rcases open_slice ht h with h0 | ⟨a, len, cap, m, n, D, Pl, hcs, hb, hl, hm, hmm, hx, hi⟩
  · exact .inl h0
  · refine .inr ⟨a, len, cap, m, D, Pl, hcs, hb, hl, hm, hmm, by rw [hC] at hx; exact hx, fun i him => ?_⟩
    obtain ⟨cs', hc, ht'⟩ := hi i him
    rw [hC] at hc
    obtain ⟨ys, n', hn', hy, hlen, hyl, hf⟩ := DataW.trod_struct he ht'
    obtain ⟨_, hcl, hat⟩ := World.cells?_some hc
    simp only [Prod.mk.injEq] at hy
    refine ⟨ys, n', hy.1, hy.2, hyl, fun j f hj => ?_⟩
    obtain ⟨ho, hk⟩ := hone_of hone j f hj
    have hjl : j < fs.size := (Array.getElem?_eq_some_iff.1 hj).1
    have hcell := hat j hjl
    have hv : cs'[j]? = some (cs'[j]'(by omega)) := List.getElem?_eq_getElem (by omega)
    have h1 := hf j f hj
    rw [ho, hk] at h1
    have hone' : (cs'.drop j).take 1 = [cs'[j]'(by omega)] := by
      rw [List.drop_eq_getElem_cons (by omega)]
      rfl
    rw [hone'] at h1
    have hys : ys[j]? = some (ys[j]'(by omega)) := List.getElem?_eq_getElem (by omega)
    refine ⟨_, _, ?_, hys, h1.trans hys⟩
    rw [← Go.Deep.add_add, hcell, hv]
/-- A slice of rates, as it is read. -/
theorem open_rates {t e : TypeId} {f0 f1 : Field} (ht : P.underlying t = some (.slice e)) (he : P.underlying e = some (.struct #[f0, f1])) (hone : oneCellFields P #[f0, f1] = true) (hC : P.cellsOf e = 2)
    (h0 : P.underlying f0.type = some (.int .u64)) (h1 : P.underlying f1.type = some (.int .i64)) {A : Option Addr} {len cap : Nat} {d : DataW H} {p : List MemPlace}
    (h : DataW.Trod enc P w base spare held t (.slice A len cap) d p) : ∃ l : List (Nat × Int), l.length = len ∧ RdS w 2 (.slice A len cap) len (rcells l) ∧ ∀ r ∈ l, r.1 < 18446744073709551616 := by
  obtain ⟨fuel, hf⟩ := h
  rcases open_slice_fields ht he hone hC hf with ⟨hcs, _⟩ | ⟨a, len', cap', m, D, Pl, hcs, hb, hl, hm, hmm, _, hi⟩
  · simp [Value.cells] at hcs
    obtain ⟨rfl, rfl, rfl⟩ := hcs
    exact ⟨[], rfl, ⟨rfl, none, 0, rfl, Nat.le_refl _, Nat.zero_le _, fun _ => rfl, fun _ h => by cases h⟩, by simp⟩
  · simp [Value.cells] at hcs
    obtain ⟨rfl, rfl, rfl⟩ := hcs
    have hlm : len ≤ m := by rw [hmm]; split <;> omega
    have hstep : ∀ n, n ≤ len → ∃ l : List (Nat × Int), l.length = n ∧ (∀ k (hk : k < l.length), w.cell? (a.add (k * 2)) = some (.int .u64 ((l[k]).1 : Int)) ∧ w.cell? (a.add (k * 2 + 1)) = some (.int .i64 (l[k]).2)) ∧ ∀ r ∈ l, r.1 < 18446744073709551616 := by
      intro n
      induction n with
      | zero => intro _; exact ⟨[], rfl, fun k hk => by simp at hk, by simp⟩
      | succ n ih =>
        intro hn
        obtain ⟨l, hl1, hl2, hl3⟩ := ih (by omega)
        obtain ⟨ys, q, -, -, -, hg⟩ := hi n (by omega)
        obtain ⟨v0, y0, c0, -, t0⟩ := hg 0 f0 rfl
        obtain ⟨v1, y1, c1, -, t1⟩ := hg 1 f1 rfl
        obtain ⟨x0, e0, -, w0⟩ := DataW.trod_int h0 t0
        obtain ⟨x1, e1, -, w1⟩ := DataW.trod_int h1 t1
        injection e0 with e0
        injection e1 with e1
        subst e0 e1
        obtain ⟨b0, b1⟩ := bounds_u64 w0
        obtain ⟨x, rfl⟩ := Int.eq_ofNat_of_zero_le b0
        refine ⟨l ++ [(x, x1)], by simp [hl1], fun k hk => ?_, fun r hr => ?_⟩
        · by_cases hkn : k < l.length
          · rw [List.getElem_append_left hkn]
            exact hl2 k hkn
          · have : k = n := by simp [hl1] at hk hkn; omega
            subst this
            rw [List.getElem_append_right (by omega)]
            simp only [hl1, Nat.sub_self, List.getElem_cons_zero]
            exact ⟨c0, c1⟩
        · rcases List.mem_append.1 hr with h | h
          · exact hl3 r h
          · simp at h; subst h; simp; omega
    obtain ⟨l, hl1, hl2, hl3⟩ := hstep len (Nat.le_refl _)
    refine ⟨l, hl1, ⟨by rw [rcells_length, hl1], some a, cap, rfl, hl, hm, (fun h => by cases h), ?_⟩, hl3⟩
    rintro ad had j u hu
    obtain rfl := Option.some.inj had
    have hj : j < l.length * 2 := by
      have := (List.getElem?_eq_some_iff.1 hu).1
      rwa [rcells_length] at this
    obtain ⟨e0, e1⟩ := rcells_at l (j / 2) (by omega)
    obtain ⟨c0, c1⟩ := hl2 (j / 2) (by omega)
    rcases Nat.mod_two_eq_zero_or_one j with hm2 | hm2
    · rw [show j / 2 * 2 = j by omega] at e0 c0
      rw [c0, ← hu, e0]
    · rw [show j / 2 * 2 + 1 = j by omega] at e1 c1
      rw [c1, ← hu, e1]
end
end Go.Proofs.Ytfbfdmgnicgalaa.W
