/- What comes in: names; ReptSays' walk as the row takes it. -/
import Derived.Test.YtodcbcpjlhlakaaDoorR30
import Derived.Deep.Slices
import Derived.OpenShut
import Derived.ChangeSlices
import Derived.ChangeArms
set_option linter.unusedVariables false
set_option linter.unusedSimpArgs false
namespace Go.Proofs.YtodcbcpjlhlakaaDoor.W
open Go.RowKit Go.Proofs.YtodcbcpjlhlakaaDoor.B Go.Proofs Go.ChangeShapes Go.WideShapes Go.Deep
section
variable {H : Type} {enc : TypeId × Value → H} {P : Program} {w : World} {base : Nat} {held : Bool}
/-- Bytes that come in. -/
theorem trod_bytes {t e : TypeId} (ht : P.underlying t = some (.slice e)) (he : P.underlying e = some (.int .u8)) (hc : P.cellsOf e = 1) {fuel : Nat} {cs : List Value} {x : DataW H × List MemPlace}
    (h : DataW.trod enc P w base (fun _ => true) held fuel t cs = some x) : ∃ v l, cs = [v] ∧ RdB w v l := by
  rcases open_ints ht he hc h with ⟨rfl, _⟩ | ⟨a, len, cap, zs, rfl, _, hl, hm, hz, _, hcell, hwz⟩
  · exact ⟨_, [], rfl, RdB.nil w⟩
  · obtain ⟨l, rfl, hl⟩ := IsRow.rdB (w := w) (a := some a) (len := len) (cap := cap) (zs := zs) (.inr ⟨_, rfl, hl, hm, by simpa using hz, hcell, hwz⟩)
    exact ⟨_, l, rfl, hl⟩
/-- A slice that comes in, each element so many cells. -/
theorem trod_list {α : Type} (R : World → List Value → α → Prop) {t e : TypeId} {size : Nat} (ht : P.underlying t = some (.slice e)) (hsz : P.cellsOf e = size) (hpos : 0 < size)
    (hR : ∀ n cs y, DataW.trod enc P w base (fun _ => true) held n e cs = some y → ∃ x : α, R w cs x)
    {fuel : Nat} {cs : List Value} {x : DataW H × List MemPlace} (h : DataW.trod enc P w base (fun _ => true) held fuel t cs = some x) : ∃ v xs, cs = [v] ∧ RdL R size w v xs := by
  rcases open_slice ht h with ⟨rfl, _⟩ | ⟨a, len, cap, m, n, D, Pl, rfl, hb, hl, hm, hmm, _, hi⟩
  · exact ⟨_, [], rfl, none, 0, rfl, Nat.le_refl _, Nat.zero_le _, fun _ => rfl, fun _ h => by cases h⟩
  · have hlm : len ≤ m := by rw [hmm]; split <;> omega
    have hex : ∀ i : Fin len, ∃ x : α, ∃ cs' : List Value, w.cells? base (a.add (i * size)) size = some cs' ∧ R w cs' x := fun i => by
      obtain ⟨cs', h1, h2⟩ := hi i (Nat.lt_of_lt_of_le i.isLt hlm)
      obtain ⟨x, hx⟩ := hR _ _ _ h2
      rw [hsz] at h1
      exact ⟨x, cs', h1, hx⟩
    refine ⟨_, List.ofFn (fun i : Fin len => (hex i).choose), rfl, some a, cap, by rw [List.length_ofFn], by rw [List.length_ofFn]; exact hl, hm, (fun h => by cases h), fun ad had hne => ?_⟩
    obtain rfl := Option.some.inj had
    have hlen : 0 < len := by
      rcases Nat.eq_zero_or_pos len with h | h
      · subst h
        exact absurd rfl hne
      · exact h
    have hspot : a.spot = none := by
      obtain ⟨_, cs', h1, _⟩ := hex ⟨0, hlen⟩
      have h2 := (World.cells?_some h1).2.2 0 hpos
      have h3 : (cs'[0]?).isSome = true := by
        have := (World.cells?_some h1).2.1
        rw [List.getElem?_eq_getElem (by omega)]
        rfl
      obtain ⟨v, hv⟩ := Option.isSome_iff_exists.1 h3
      have := World.cell?_spot (h2.trans hv)
      simpa [Addr.add] using this
    obtain ⟨g, o, s⟩ := a
    simp only at hspot
    subst hspot
    refine ⟨g, o, rfl, fun j x hx => ?_⟩
    have hj : j < len := by have := (List.getElem?_eq_some_iff.1 hx).1; simpa using this
    have hxe : x = (hex ⟨j, hj⟩).choose := by
      rw [List.getElem?_ofFn, dif_pos hj] at hx
      exact (Option.some.inj hx).symm
    obtain ⟨cs', h1, h2⟩ := (hex ⟨j, hj⟩).choose_spec
    obtain ⟨_, h3, h4⟩ := World.cells?_some h1
    refine ⟨cs', h3, by rw [hxe]; exact h2, fun q v hv => ?_⟩
    have hq : q < size := by have := (List.getElem?_eq_some_iff.1 hv).1; omega
    have := (h4 q hq).trans hv
    rw [Addr.add_mid, Addr.add_mid] at this
    exact this
/-- An array of 32 bytes that comes in. -/
theorem trod_arr {t e : TypeId} (ht : P.underlying t = some (.array 32 e)) (he : P.underlying e = some (.int .u8)) (hc : P.cellsOf e = 1) (hct : P.cellsOf t = 32) {fuel : Nat} {cs : List Value} {x : DataW H × List MemPlace}
    (h : DataW.trod enc P w base (fun _ => true) held fuel t cs = some x) : ∃ l : List UInt8, l.length = 32 ∧ cs = l.map u8v := by
  obtain ⟨xs, m, _, _, hl, hxl, hi⟩ := DataW.trod_array ht h
  rw [hct] at hl
  have each : ∀ i, i < 32 → ∃ b : UInt8, cs[i]? = some (u8v b) := fun i hlt => by
    have h1 := hi i hlt
    rw [hc, Nat.mul_one, List.getElem?_eq_getElem (by omega)] at h1
    obtain ⟨_, z, h2, _, hw⟩ : ∃ m z, (cs.drop i).take 1 = [.int .u8 z] ∧ True ∧ (Lit.int .u8 z).wf = true := by
      obtain ⟨m, h3, _, h4⟩ := DataW.trod_int he h1
      exact ⟨0, _, h3, trivial, h4⟩
    have h3 : cs[i]? = some (.int .u8 z) := by
      have : ((cs.drop i).take 1)[0]? = some (.int .u8 z) := by rw [h2]; rfl
      simpa using this
    obtain ⟨b0, b1⟩ := bounds_u8 hw
    refine ⟨UInt8.ofNat z.toNat, ?_⟩
    rw [h3]
    have : ((UInt8.ofNat z.toNat).toNat : Int) = z := by
      rw [u8_ofNat]
      omega
    show _ = some (Value.int .u8 ((UInt8.ofNat z.toNat).toNat : Int))
    rw [this]
  refine ⟨List.ofFn (fun i : Fin 32 => (each i i.isLt).choose), by simp, ?_⟩
  apply List.ext_getElem?
  intro i
  by_cases hlt : i < 32
  · rw [(each i hlt).choose_spec, List.getElem?_map, List.getElem?_ofFn, dif_pos hlt]
    rfl
  · rw [List.getElem?_eq_none (by omega), List.getElem?_eq_none (by simp; omega)]
end
section
variable {H : Type} {enc : TypeId × Value → H} {w : World} {base : Nat} {held : Bool}
theorem part1 {cs : List Value} {k : Nat} {v : Value} (h : (cs.drop k).take 1 = [v]) : cs[k]? = some v := by
  have : ((cs.drop k).take 1)[0]? = some v := by rw [h]; rfl
  simpa using this
/-- A name that comes in. -/
theorem trod_id {v : Value} {d : DataW H} {p : List MemPlace} (h : DataW.Trod enc Tryd.prog w base (fun _ => true) held 22 v d p) : ∃ (cs : List Value) (t : List UInt8), v.cells.toList = cs ∧ (cs = t.map u8v ∧ t.length = 32) := by
  obtain ⟨fuel, h⟩ := h
  obtain ⟨l, h1, h2⟩ := trod_arr Tryd.underlying22 Tryd.underlying5 (by kernel_rfl) (by kernel_rfl) h
  exact ⟨_, l, rfl, h2, h1⟩
end
theorem reptSays_row (cx : List Value) (x : List UInt8) (hx : cx = x.map u8v ∧ x.length = 32) (cy : List Value) (y : List UInt8) (hy : cy = y.map u8v ∧ y.length = 32) (n : Int) (_wn : (Lit.int .i64 n).wf = true) (k : Int) (_wk : (Lit.int .i64 k).wf = true) {w : World} (he : Env w) :
    Calls Tryd.prog 3 #[.agg cx.toArray, .agg cy.toArray, .int .i64 n, .int .i64 k] w fun e w' => e = .returned (.bool true) ∧ Below w.heap.size w w' := by
  obtain ⟨rfl, h1⟩ := hx
  obtain ⟨rfl, h2⟩ := hy
  exact says_walk x y h1 h2 n k w he
end Go.Proofs.YtodcbcpjlhlakaaDoor.W
