/- A transaction that comes in. -/
import Derived.Test.YtfggkljgfadacaaT40
import Derived.Test.YtfggkljgfadacaaBytes
import Derived.Deep.Slices
import Derived.OpenShut
import Derived.ChangeSlices
import Derived.ChangeArms
set_option linter.unusedVariables false
set_option linter.unusedSimpArgs false
namespace Go.Proofs.Ytfggkljgfadacaa.W
open Go.RowKit Go.Proofs.Ytfggkljgfadacaa.B Go.Proofs Go.ChangeShapes Go.WideShapes Go.Deep
section
variable {H : Type} {enc : TypeId × Value → H} {P : Program} {w : World} {base : Nat} {held : Bool}
/-- Bytes that come in. -/
theorem trod_bytes {t e : TypeId} (ht : P.underlying t = some (.slice e)) (he : P.underlying e = some (.int .u8)) (hc : P.cellsOf e = 1) {fuel : Nat} {cs : List Value} {x : DataW H × List MemPlace}
    (h : DataW.trod enc P w base (fun _ => true) held fuel t cs = some x) : ∃ v l, cs = [v] ∧ RdB w v l := by
  rcases open_ints ht he hc h with ⟨rfl, _⟩ | ⟨a, len, cap, zs, rfl, _, hl, hm, hz, _, hcell, hwz⟩
  · exact ⟨_, [], rfl, RdB.nil w⟩
  · obtain ⟨l, rfl, hl⟩ := IsRow.rdB (w := w) (a := some a) (len := len) (cap := cap) (zs := zs) (.inr ⟨_, rfl, hl, hm, by simpa using hz, hcell, hwz⟩)
    exact ⟨_, l, rfl, hl⟩
/-- A slice that comes in, each element so many cells. -/
theorem trod_list {α : Type} (R : World → List Value → α → Prop) {t e : TypeId} {size : Nat} (ht : P.underlying t = some (.slice e)) (hsz : P.cellsOf e = size) (hpos : 0 < size)
    (hR : ∀ n cs y, DataW.trod enc P w base (fun _ => true) held n e cs = some y → ∃ x : α, R w cs x)
    {fuel : Nat} {cs : List Value} {x : DataW H × List MemPlace} (h : DataW.trod enc P w base (fun _ => true) held fuel t cs = some x) : ∃ v xs, cs = [v] ∧ RdL R size w v xs := by
  rcases open_slice ht h with ⟨rfl, _⟩ | ⟨a, len, cap, m, n, D, Pl, rfl, hb, hl, hm, hmm, _, hi⟩
  · exact ⟨_, [], rfl, none, 0, rfl, Nat.le_refl _, Nat.zero_le _, fun _ => rfl, fun _ h => by cases h⟩
  · have hlm : len ≤ m := by rw [hmm]; split <;> omega
    have hex : ∀ i : Fin len, ∃ x : α, ∃ cs' : List Value, w.cells? base (a.add (i * size)) size = some cs' ∧ R w cs' x := fun i => by
      obtain ⟨cs', h1, h2⟩ := hi i (Nat.lt_of_lt_of_le i.isLt hlm)
      obtain ⟨x, hx⟩ := hR _ _ _ h2
      rw [hsz] at h1
      exact ⟨x, cs', h1, hx⟩
    refine ⟨_, List.ofFn (fun i : Fin len => (hex i).choose), rfl, some a, cap, by rw [List.length_ofFn], by rw [List.length_ofFn]; exact hl, hm, (fun h => by cases h), fun ad had hne => ?_⟩
    obtain rfl := Option.some.inj had
    have hlen : 0 < len := by
      rcases Nat.eq_zero_or_pos len with h | h
      · subst h
        exact absurd rfl hne
      · exact h
    have hspot : a.spot = none := by
      obtain ⟨_, cs', h1, _⟩ := hex ⟨0, hlen⟩
      have h2 := (World.cells?_some h1).2.2 0 hpos
      have h3 : (cs'[0]?).isSome = true := by
        have := (World.cells?_some h1).2.1
        rw [List.getElem?_eq_getElem (by omega)]
        rfl
      obtain ⟨v, hv⟩ := Option.isSome_iff_exists.1 h3
      have := World.cell?_spot (h2.trans hv)
      simpa [Addr.add] using this
    obtain ⟨g, o, s⟩ := a
    simp only at hspot
    subst hspot
    refine ⟨g, o, rfl, fun j x hx => ?_⟩
    have hj : j < len := by have := (List.getElem?_eq_some_iff.1 hx).1; simpa using this
    have hxe : x = (hex ⟨j, hj⟩).choose := by
      rw [List.getElem?_ofFn, dif_pos hj] at hx
      exact (Option.some.inj hx).symm
    obtain ⟨cs', h1, h2⟩ := (hex ⟨j, hj⟩).choose_spec
    obtain ⟨_, h3, h4⟩ := World.cells?_some h1
    refine ⟨cs', h3, by rw [hxe]; exact h2, fun q v hv => ?_⟩
    have hq : q < size := by have := (List.getElem?_eq_some_iff.1 hv).1; omega
    have := (h4 q hq).trans hv
    rw [Addr.add_mid, Addr.add_mid] at this
    exact this
/-- An array of 32 bytes that comes in. -/
theorem trod_id {t e : TypeId} (ht : P.underlying t = some (.array 32 e)) (he : P.underlying e = some (.int .u8)) (hc : P.cellsOf e = 1) (hct : P.cellsOf t = 32) {fuel : Nat} {cs : List Value} {x : DataW H × List MemPlace}
    (h : DataW.trod enc P w base (fun _ => true) held fuel t cs = some x) : ∃ l : List UInt8, l.length = 32 ∧ cs = l.map u8v := by
  obtain ⟨xs, m, _, _, hl, hxl, hi⟩ := DataW.trod_array ht h
  rw [hct] at hl
  have each : ∀ i, i < 32 → ∃ b : UInt8, cs[i]? = some (u8v b) := fun i hlt => by
    have h1 := hi i hlt
    rw [hc, Nat.mul_one, List.getElem?_eq_getElem (by omega)] at h1
    obtain ⟨_, z, h2, _, hw⟩ : ∃ m z, (cs.drop i).take 1 = [.int .u8 z] ∧ True ∧ (Lit.int .u8 z).wf = true := by
      obtain ⟨m, h3, _, h4⟩ := DataW.trod_int he h1
      exact ⟨0, _, h3, trivial, h4⟩
    have h3 : cs[i]? = some (.int .u8 z) := by
      have : ((cs.drop i).take 1)[0]? = some (.int .u8 z) := by rw [h2]; rfl
      simpa using this
    obtain ⟨b0, b1⟩ := bounds_u8 hw
    refine ⟨UInt8.ofNat z.toNat, ?_⟩
    rw [h3]
    have : ((UInt8.ofNat z.toNat).toNat : Int) = z := by
      rw [u8_ofNat]
      omega
    show _ = some (Value.int .u8 ((UInt8.ofNat z.toNat).toNat : Int))
    rw [this]
  refine ⟨List.ofFn (fun i : Fin 32 => (each i i.isLt).choose), by simp, ?_⟩
  apply List.ext_getElem?
  intro i
  by_cases hlt : i < 32
  · rw [(each i hlt).choose_spec, List.getElem?_map, List.getElem?_ofFn, dif_pos hlt]
    rfl
  · rw [List.getElem?_eq_none (by omega), List.getElem?_eq_none (by simp; omega)]
end
section
variable {H : Type} {enc : TypeId × Value → H} {w : World} {base : Nat} {held : Bool}
theorem part1 {cs : List Value} {k : Nat} {v : Value} (h : (cs.drop k).take 1 = [v]) : cs[k]? = some v := by
  have : ((cs.drop k).take 1)[0]? = some v := by rw [h]; rfl
  simpa using this
theorem trod_in (n : Nat) (cs : List Value) (y : DataW H × List MemPlace) (h : DataW.trod enc Try.prog w base (fun _ => true) held n 55 cs = some y) : ∃ x : LIn, InC w cs x := by
  obtain ⟨xs, m, _, _, hl, hxl, hi⟩ := DataW.trod_struct Try.underlying55 h
  have hl' : cs.length = 36 := by rw [hl]; kernel_rfl
  have hx5 : xs.length = 5 := hxl
  have g : ∀ (i : Nat) (hlt : i < 5), ∃ z, xs[i]? = some z := fun i hlt => ⟨_, List.getElem?_eq_getElem (by omega)⟩
  obtain ⟨z0, hz0⟩ := g 0 (by decide)
  obtain ⟨z1, hz1⟩ := g 1 (by decide)
  obtain ⟨z2, hz2⟩ := g 2 (by decide)
  obtain ⟨z3, hz3⟩ := g 3 (by decide)
  obtain ⟨z4, hz4⟩ := g 4 (by decide)
  have t0 : DataW.trod enc Try.prog w base (fun _ => true) held m 53 ((cs.drop 0).take (Try.prog.cellsOf 53)) = some z0 := (hi 0 _ rfl).trans hz0
  rw [show Try.prog.cellsOf 53 = 32 by kernel_rfl] at t0
  have t1 : DataW.trod enc Try.prog w base (fun _ => true) held m 22 ((cs.drop 32).take (Try.prog.cellsOf 22)) = some z1 := (hi 1 _ rfl).trans hz1
  rw [show Try.prog.cellsOf 22 = 1 by kernel_rfl] at t1
  have t2 : DataW.trod enc Try.prog w base (fun _ => true) held m 24 ((cs.drop 33).take (Try.prog.cellsOf 24)) = some z2 := (hi 2 _ rfl).trans hz2
  rw [show Try.prog.cellsOf 24 = 1 by kernel_rfl] at t2
  have t3 : DataW.trod enc Try.prog w base (fun _ => true) held m 22 ((cs.drop 34).take (Try.prog.cellsOf 22)) = some z3 := (hi 3 _ rfl).trans hz3
  rw [show Try.prog.cellsOf 22 = 1 by kernel_rfl] at t3
  have t4 : DataW.trod enc Try.prog w base (fun _ => true) held m 43 ((cs.drop 35).take (Try.prog.cellsOf 43)) = some z4 := (hi 4 _ rfl).trans hz4
  rw [show Try.prog.cellsOf 43 = 1 by kernel_rfl] at t4
  rw [List.drop_zero] at t0
  obtain ⟨pv, hpv, e0⟩ := trod_id Try.underlying53 Try.underlying5 (by kernel_rfl) (by kernel_rfl) t0
  obtain ⟨a1, e1, _, w1⟩ := DataW.trod_int Try.underlying22 t1
  obtain ⟨v2, l2, e2, r2⟩ := trod_bytes Try.underlying24 Try.underlying5 (by kernel_rfl) t2
  obtain ⟨a3, e3, _, w3⟩ := DataW.trod_int Try.underlying22 t3
  obtain ⟨v4, l4, e4, r4⟩ := trod_list ByC Try.underlying43 (show Try.prog.cellsOf 24 = 1 by kernel_rfl) (by decide) (fun n cs y h => by
    obtain ⟨v, l, e, r⟩ := trod_bytes Try.underlying24 Try.underlying5 (by kernel_rfl) h
    exact ⟨l, v, e, r⟩) t4
  obtain ⟨b1, c1⟩ := bounds_u32 w1
  obtain ⟨b3, c3⟩ := bounds_u32 w3
  obtain ⟨n1, rfl⟩ := Int.eq_ofNat_of_zero_le b1
  obtain ⟨n3, rfl⟩ := Int.eq_ofNat_of_zero_le b3
  refine ⟨⟨pv, n1, l2, n3, l4⟩, v2, v4, ?_, hpv, r2, r4, by simp only; omega, by simp only; omega⟩
  apply List.ext_getElem?
  intro i
  by_cases hlt : i < 32
  · rw [List.getElem?_append_left (by simpa [hpv] using hlt), ← e0, List.getElem?_take_of_lt hlt]
  · rw [List.getElem?_append_right (by simp [hpv]; omega), List.length_map, hpv]
    by_cases h32 : i = 32
    · subst h32; exact part1 e1
    by_cases h33 : i = 33
    · subst h33; exact part1 e2
    by_cases h34 : i = 34
    · subst h34; exact part1 e3
    by_cases h35 : i = 35
    · subst h35; exact part1 e4
    rw [List.getElem?_eq_none (by omega), List.getElem?_eq_none (by simp; omega)]
theorem trod_out (n : Nat) (cs : List Value) (y : DataW H × List MemPlace) (h : DataW.trod enc Try.prog w base (fun _ => true) held n 57 cs = some y) : ∃ x : LOut, OutC w cs x := by
  obtain ⟨xs, m, _, _, hl, hxl, hi⟩ := DataW.trod_struct Try.underlying57 h
  have hl' : cs.length = 2 := by rw [hl]; kernel_rfl
  have hx5 : xs.length = 2 := hxl
  have g : ∀ (i : Nat) (hlt : i < 2), ∃ z, xs[i]? = some z := fun i hlt => ⟨_, List.getElem?_eq_getElem (by omega)⟩
  obtain ⟨z0, hz0⟩ := g 0 (by decide)
  obtain ⟨z1, hz1⟩ := g 1 (by decide)
  have t0 : DataW.trod enc Try.prog w base (fun _ => true) held m 23 ((cs.drop 0).take (Try.prog.cellsOf 23)) = some z0 := (hi 0 _ rfl).trans hz0
  rw [show Try.prog.cellsOf 23 = 1 by kernel_rfl] at t0
  have t1 : DataW.trod enc Try.prog w base (fun _ => true) held m 24 ((cs.drop 1).take (Try.prog.cellsOf 24)) = some z1 := (hi 1 _ rfl).trans hz1
  rw [show Try.prog.cellsOf 24 = 1 by kernel_rfl] at t1
  rw [List.drop_zero] at t0
  obtain ⟨a0, e0, _, w0⟩ := DataW.trod_int Try.underlying23 t0
  obtain ⟨v1, l1, e1, r1⟩ := trod_bytes Try.underlying24 Try.underlying5 (by kernel_rfl) t1
  obtain ⟨b0, c0⟩ := bounds_u64 w0
  obtain ⟨n0, rfl⟩ := Int.eq_ofNat_of_zero_le b0
  refine ⟨⟨n0, l1⟩, v1, ?_, r1, by simp only; omega⟩
  have q0 : cs[0]? = some _ := part1 (k := 0) (by simpa using e0)
  have q1 := part1 e1
  apply List.ext_getElem?
  intro i
  rcases i with _ | _ | i
  · exact q0
  · exact q1
  · rw [List.getElem?_eq_none (by omega), List.getElem?_eq_none (by simp)]
/-- A transaction that comes in reads as one. -/
theorem trod_tx {v : Value} {d : DataW H} {p : List MemPlace} (h : DataW.Trod enc Try.prog w base (fun _ => true) held 51 v d p) : ∃ cs t, v.cells.toList = cs ∧ TxC w cs t := by
  obtain ⟨fuel, h⟩ := h
  obtain ⟨xs, m, _, _, hl, hxl, hi⟩ := DataW.trod_struct Try.underlying51 h
  have hl' : v.cells.toList.length = 4 := by rw [hl]; kernel_rfl
  have hx5 : xs.length = 4 := hxl
  have g : ∀ (i : Nat) (hlt : i < 4), ∃ z, xs[i]? = some z := fun i hlt => ⟨_, List.getElem?_eq_getElem (by omega)⟩
  obtain ⟨z0, hz0⟩ := g 0 (by decide)
  obtain ⟨z1, hz1⟩ := g 1 (by decide)
  obtain ⟨z2, hz2⟩ := g 2 (by decide)
  obtain ⟨z3, hz3⟩ := g 3 (by decide)
  have t0 : DataW.trod enc Try.prog w base (fun _ => true) held m 22 ((v.cells.toList.drop 0).take (Try.prog.cellsOf 22)) = some z0 := (hi 0 _ rfl).trans hz0
  rw [show Try.prog.cellsOf 22 = 1 by kernel_rfl] at t0
  have t1 : DataW.trod enc Try.prog w base (fun _ => true) held m 48 ((v.cells.toList.drop 1).take (Try.prog.cellsOf 48)) = some z1 := (hi 1 _ rfl).trans hz1
  rw [show Try.prog.cellsOf 48 = 1 by kernel_rfl] at t1
  have t2 : DataW.trod enc Try.prog w base (fun _ => true) held m 49 ((v.cells.toList.drop 2).take (Try.prog.cellsOf 49)) = some z2 := (hi 2 _ rfl).trans hz2
  rw [show Try.prog.cellsOf 49 = 1 by kernel_rfl] at t2
  have t3 : DataW.trod enc Try.prog w base (fun _ => true) held m 22 ((v.cells.toList.drop 3).take (Try.prog.cellsOf 22)) = some z3 := (hi 3 _ rfl).trans hz3
  rw [show Try.prog.cellsOf 22 = 1 by kernel_rfl] at t3
  rw [List.drop_zero] at t0
  obtain ⟨a0, e0, _, w0⟩ := DataW.trod_int Try.underlying22 t0
  obtain ⟨v1, l1, e1, r1⟩ := trod_list InC Try.underlying48 (show Try.prog.cellsOf 55 = 36 by kernel_rfl) (by decide) trod_in t1
  obtain ⟨v2, l2, e2, r2⟩ := trod_list OutC Try.underlying49 (show Try.prog.cellsOf 57 = 2 by kernel_rfl) (by decide) trod_out t2
  obtain ⟨a3, e3, _, w3⟩ := DataW.trod_int Try.underlying22 t3
  obtain ⟨b0, c0⟩ := bounds_u32 w0
  obtain ⟨b3, c3⟩ := bounds_u32 w3
  obtain ⟨n0, rfl⟩ := Int.eq_ofNat_of_zero_le b0
  obtain ⟨n3, rfl⟩ := Int.eq_ofNat_of_zero_le b3
  refine ⟨_, ⟨n0, l1, l2, n3⟩, rfl, v1, v2, ?_, r1, r2, by simp only; omega, by simp only; omega⟩
  have q0 : v.cells.toList[0]? = some _ := part1 (k := 0) (by simpa using e0)
  have q1 := part1 e1
  have q2 := part1 e2
  have q3 := part1 e3
  apply List.ext_getElem?
  intro i
  rcases i with _ | _ | _ | _ | i
  · exact q0
  · exact q1
  · exact q2
  · exact q3
  · rw [List.getElem?_eq_none (by omega), List.getElem?_eq_none (by simp)]
end
end Go.Proofs.Ytfggkljgfadacaa.W
