/- What comes in: steps, and what is said; ReptTells' walk as the row takes it. -/
import Derived.Test.YtodcbcpjlhlakaaDoorR33
set_option linter.unusedVariables false
set_option linter.unusedSimpArgs false
namespace Go.Proofs.YtodcbcpjlhlakaaDoor.W
open Go.RowKit Go.Proofs.YtodcbcpjlhlakaaDoor.B Go.Proofs Go.ChangeShapes Go.WideShapes Go.Deep

theorem bulk_one {H : Type} (d : DataW H) : 1 ≤ Rows.uptoBulk d := by
  cases d with
  | lit l => cases l <;> simp [Rows.uptoBulk]
  | nil => simp [Rows.uptoBulk]
  | ptr d => simp [Rows.uptoBulk]
  | slice elems spare => simp [Rows.uptoBulk]
  | agg parts => simp [Rows.uptoBulk]
  | iface t d => simp [Rows.uptoBulk]
  | map entries => simp [Rows.uptoBulk]
  | held h => simp [Rows.uptoBulk]
theorem bulk_part {H : Type} {d : DataW H} {l : List (DataW H)} (h : d ∈ l) : Rows.uptoBulk d ≤ Rows.uptoBulkAll l := by
  induction l with
  | nil => cases h
  | cons x r ih =>
    simp only [Rows.uptoBulkAll]
    rcases List.mem_cons.1 h with rfl | e
    · omega
    · have := ih e; omega
theorem bulk_len {H : Type} (l : List (DataW H)) : l.length ≤ Rows.uptoBulkAll l := by
  induction l with
  | nil => exact Nat.zero_le _
  | cons x r ih => have := bulk_one x; simp only [Rows.uptoBulkAll, List.length_cons]; omega
theorem bulk_sum {H : Type} : ∀ (L : List (List UInt8)) (E : List (DataW H)), L.length = E.length → (∀ (i : Nat) x d, L[i]? = some x → E[i]? = some d → x.length ≤ Rows.uptoBulk d) → (L.map List.length).sum ≤ Rows.uptoBulkAll E
  | [], _, _, _ => Nat.zero_le _
  | x :: L, [], h, _ => by simp at h
  | x :: L, d :: E, h, hh => by
    have h1 := hh 0 x d rfl rfl
    have h2 := bulk_sum L E (by simpa using h) (fun i y e hy he => hh (i + 1) y e hy he)
    rw [List.map_cons, List.sum_cons]
    simp only [Rows.uptoBulkAll]
    omega
section
variable {H : Type} {enc : TypeId × Value → H} {w : World} {base : Nat} {held : Bool}
/-- Bytes that come in are no more than their bulk. -/
theorem bytes_bulk {fuel : Nat} {cs : List Value} {x : DataW H × List MemPlace} (h : DataW.trod enc Tryd.prog w base (fun _ => true) held fuel 29 cs = some x) : ∃ v l, cs = [v] ∧ RdB w v l ∧ l.length ≤ Rows.uptoBulk x.1 := by
  rcases open_ints Tryd.underlying29 Tryd.underlying5 (by kernel_rfl) h with ⟨rfl, rfl⟩ | ⟨a, len, cap, zs, rfl, _, hl, hm, hz, rfl, hcell, hwz⟩
  · exact ⟨_, [], rfl, RdB.nil w, Nat.zero_le _⟩
  · obtain ⟨l, he, hl2⟩ := IsRow.rdB (w := w) (a := some a) (len := len) (cap := cap) (zs := zs) (.inr ⟨_, rfl, hl, hm, by simpa using hz, hcell, hwz⟩)
    refine ⟨_, l, rfl, ?_, ?_⟩
    · subst he; exact hl2
    · have hz' : zs.length = cap := by simpa using hz
      have h1 := bulk_len (H := H) (Go.ChangeShapes.lits .u8 (zs.take len))
      have h2 : (Go.ChangeShapes.lits (H := H) .u8 (zs.take len)).length = len := by simp [Go.ChangeShapes.lits]; omega
      simp only [Rows.uptoBulk]
      omega
/-- Rows of bytes that come in are, together, no more than their bulk. -/
theorem rows_bulk {fuel : Nat} {cs : List Value} {x : DataW H × List MemPlace} (h : DataW.trod enc Tryd.prog w base (fun _ => true) held fuel 33 cs = some x) : ∃ v xs, cs = [v] ∧ RdW w v xs ∧ (xs.map List.length).sum ≤ Rows.uptoBulk x.1 := by
  rcases open_slice Tryd.underlying33 h with ⟨rfl, rfl⟩ | ⟨a, len, cap, m, n, D, Pl, rfl, hb, hl, hm, hmm, rfl, hi⟩
  · exact ⟨_, [], rfl, RdW.nil w, Nat.zero_le _⟩
  · have hlm : len ≤ m := by rw [hmm]; split <;> omega
    have hsz : Tryd.prog.cellsOf 29 = 1 := by kernel_rfl
    have hex : ∀ i : Fin len, ∃ y : List UInt8, ∃ cs' : List Value, w.cells? base (a.add (i * 1)) 1 = some cs' ∧ ByC w cs' y ∧ y.length ≤ Rows.uptoBulk (D i) := fun i => by
      obtain ⟨cs', h1, h2⟩ := hi i (Nat.lt_of_lt_of_le i.isLt hlm)
      obtain ⟨v, l, e, r, hb⟩ := bytes_bulk h2
      rw [hsz] at h1
      exact ⟨l, cs', h1, ⟨v, e, r⟩, hb⟩
    refine ⟨_, List.ofFn (fun i : Fin len => (hex i).choose), rfl, ⟨some a, cap, by rw [List.length_ofFn], by rw [List.length_ofFn]; exact hl, hm, (fun h => by cases h), fun ad had hne => ?_⟩, ?_⟩
    · obtain rfl := Option.some.inj had
      have hlen : 0 < len := by
        rcases Nat.eq_zero_or_pos len with h | h
        · subst h
          exact absurd rfl hne
        · exact h
      have hspot : a.spot = none := by
        obtain ⟨_, cs', h1, _⟩ := hex ⟨0, hlen⟩
        have h2 := (World.cells?_some h1).2.2 0 (by decide)
        have h3 : (cs'[0]?).isSome = true := by
          have := (World.cells?_some h1).2.1
          rw [List.getElem?_eq_getElem (by omega)]
          rfl
        obtain ⟨v, hv⟩ := Option.isSome_iff_exists.1 h3
        have := World.cell?_spot (h2.trans hv)
        simpa [Addr.add] using this
      obtain ⟨g, o, s⟩ := a
      simp only at hspot
      subst hspot
      refine ⟨g, o, rfl, fun j x hx => ?_⟩
      have hj : j < len := by have := (List.getElem?_eq_some_iff.1 hx).1; simpa using this
      have hxe : x = (hex ⟨j, hj⟩).choose := by
        rw [List.getElem?_ofFn, dif_pos hj] at hx
        exact (Option.some.inj hx).symm
      obtain ⟨cs', h1, h2, _⟩ := (hex ⟨j, hj⟩).choose_spec
      obtain ⟨_, h3, h4⟩ := World.cells?_some h1
      refine ⟨cs', h3, by rw [hxe]; exact h2, fun q v hv => ?_⟩
      have hq : q < 1 := by have := (List.getElem?_eq_some_iff.1 hv).1; omega
      have := (h4 q hq).trans hv
      rw [Addr.add_mid, Addr.add_mid] at this
      exact this
    · have h1 := bulk_sum (List.ofFn (fun i : Fin len => (hex i).choose)) ((List.range len).map D) (by simp) (fun i y d hy hd => by
        have hlt : i < len := by have := (List.getElem?_eq_some_iff.1 hy).1; simpa using this
        rw [List.getElem?_ofFn, dif_pos hlt] at hy
        obtain rfl := Option.some.inj hy
        rw [List.getElem?_map, List.getElem?_range hlt] at hd
        obtain rfl := Option.some.inj hd
        exact (hex ⟨i, hlt⟩).choose_spec.choose_spec.2.2)
      simp only [Rows.uptoBulk]
      omega
theorem wf_u64 {z : Int} (h : (Lit.int .u64 z).wf = true) : ∃ n : Nat, z = (n : Int) ∧ n < 18446744073709551616 := by
  have := bounds_u64 h
  exact ⟨z.toNat, by omega, by omega⟩
theorem wf_u8 {z : Int} (h : (Lit.int .u8 z).wf = true) : ∃ b : UInt8, z = (b.toNat : Int) := by
  have := bounds_u8 h
  exact ⟨UInt8.ofNat z.toNat, by rw [u8_ofNat]; omega⟩
def I64 (z : Int) : Prop := -9223372036854775808 ≤ z ∧ z ≤ 9223372036854775807
/-- A step that comes in. -/
def StepIn (w : World) (cs : List Value) (s : LStep) : Prop := ∃ bv lv, cs = [.int .i64 s.k, .int .i64 s.p, .int .i64 s.n, .bool s.good, bv, lv] ∧ RdB w bv s.bs ∧ RdW w lv s.ls ∧ I64 s.k ∧ I64 s.p ∧ I64 s.n ∧ (s.ls.map List.length).sum ≤ 1048576
/-- What is said, as lists. -/
structure LSay where
  k : Int
  p : Int
  c : Int
  x : List UInt8
  ids : List (List UInt8)
  n : Nat
def SayIn (w : World) (cs : List Value) (s : LSay) : Prop := ∃ iv, cs = sayC s.k s.p s.c (s.x.map u8v) iv s.n ∧ RdN w iv s.ids ∧ I64 s.k ∧ I64 s.p ∧ I64 s.c ∧ s.x.length = 32 ∧ s.n < 18446744073709551616
theorem part_at {cs : List Value} {k : Nat} {v : Value} (h : (cs.drop k).take 1 = [v]) : cs[k]? = some v := by
  have : ((cs.drop k).take 1)[0]? = some v := by rw [h]; rfl
  simpa using this
theorem trod_stepU {v : Value} {d : DataW H} {p : List MemPlace} (hbk : Rows.uptoBulk d ≤ 1048576) (h : DataW.Trod enc Tryd.prog w base (fun _ => true) held 35 v d p) : ∃ cs s, v.cells.toList = cs ∧ StepIn w cs s := by
  obtain ⟨fuel, h⟩ := h
  obtain ⟨xs, m, _, hx, hl, hxl, hi⟩ := DataW.trod_struct Tryd.underlying35 h
  have hl' : v.cells.toList.length = 6 := by rw [hl]; kernel_rfl
  have hx6 : xs.length = 6 := hxl
  have hdx : d = .agg (xs.map (·.1)) := congrArg Prod.fst hx
  generalize v.cells.toList = cs at *
  have g : ∀ (i : Nat) (hlt : i < 6), ∃ z, xs[i]? = some z := fun i hlt => ⟨_, List.getElem?_eq_getElem (by omega)⟩
  obtain ⟨z0, hz0⟩ := g 0 (by decide)
  obtain ⟨z1, hz1⟩ := g 1 (by decide)
  obtain ⟨z2, hz2⟩ := g 2 (by decide)
  obtain ⟨z3, hz3⟩ := g 3 (by decide)
  obtain ⟨z4, hz4⟩ := g 4 (by decide)
  obtain ⟨z5, hz5⟩ := g 5 (by decide)
  have t0 : DataW.trod enc Tryd.prog w base (fun _ => true) held m 3 ((cs.drop 0).take (Tryd.prog.cellsOf 3)) = some z0 := (hi 0 _ rfl).trans hz0
  have t1 : DataW.trod enc Tryd.prog w base (fun _ => true) held m 3 ((cs.drop 1).take (Tryd.prog.cellsOf 3)) = some z1 := (hi 1 _ rfl).trans hz1
  have t2 : DataW.trod enc Tryd.prog w base (fun _ => true) held m 3 ((cs.drop 2).take (Tryd.prog.cellsOf 3)) = some z2 := (hi 2 _ rfl).trans hz2
  rw [show Tryd.prog.cellsOf 3 = 1 by kernel_rfl] at t0 t1 t2
  have t3 : DataW.trod enc Tryd.prog w base (fun _ => true) held m 4 ((cs.drop 3).take (Tryd.prog.cellsOf 4)) = some z3 := (hi 3 _ rfl).trans hz3
  rw [show Tryd.prog.cellsOf 4 = 1 by kernel_rfl] at t3
  have t4 : DataW.trod enc Tryd.prog w base (fun _ => true) held m 29 ((cs.drop 4).take (Tryd.prog.cellsOf 29)) = some z4 := (hi 4 _ rfl).trans hz4
  rw [show Tryd.prog.cellsOf 29 = 1 by kernel_rfl] at t4
  have t5 : DataW.trod enc Tryd.prog w base (fun _ => true) held m 33 ((cs.drop 5).take (Tryd.prog.cellsOf 33)) = some z5 := (hi 5 _ rfl).trans hz5
  rw [show Tryd.prog.cellsOf 33 = 1 by kernel_rfl] at t5
  obtain ⟨k, e0, _, w0⟩ := DataW.trod_int Tryd.underlying3 t0
  obtain ⟨pp, e1, _, w1⟩ := DataW.trod_int Tryd.underlying3 t1
  obtain ⟨n, e2, _, w2⟩ := DataW.trod_int Tryd.underlying3 t2
  obtain ⟨b, e3, _⟩ := DataW.trod_bool Tryd.underlying4 t3
  obtain ⟨bv, bs, e4, r4, -⟩ := bytes_bulk t4
  obtain ⟨lv, ls, e5, r5, hb5⟩ := rows_bulk t5
  have hbz : Rows.uptoBulk z5.1 ≤ Rows.uptoBulkAll (xs.map (·.1)) := bulk_part (List.mem_map.2 ⟨z5, List.mem_of_getElem? hz5, rfl⟩)
  have hbd : Rows.uptoBulk d = Rows.uptoBulkAll (xs.map (·.1)) + 1 := by rw [hdx]; simp [Rows.uptoBulk]
  refine ⟨_, ⟨k, pp, n, b, bs, ls⟩, rfl, bv, lv, ?_, r4, r5, bounds_i64 w0, bounds_i64 w1, bounds_i64 w2, by simp only; omega⟩
  have q0 := part_at e0
  have q1 := part_at e1
  have q2 := part_at e2
  have q3 := part_at e3
  have q4 := part_at e4
  have q5 := part_at e5
  apply List.ext_getElem?
  intro i
  rcases i with _ | _ | _ | _ | _ | _ | i
  · exact q0
  · exact q1
  · exact q2
  · exact q3
  · exact q4
  · exact q5
  · rw [List.getElem?_eq_none (by omega), List.getElem?_eq_none (by simp)]
theorem trod_say {v : Value} {d : DataW H} {p : List MemPlace} (h : DataW.Trod enc Tryd.prog w base (fun _ => true) held 26 v d p) : ∃ cs s, v.cells.toList = cs ∧ SayIn w cs s := by
  obtain ⟨fuel, h⟩ := h
  obtain ⟨xs, m, _, hx, hl, hxl, hi⟩ := DataW.trod_struct Tryd.underlying26 h
  have hl' : v.cells.toList.length = 37 := by rw [hl]; kernel_rfl
  have hx6 : xs.length = 6 := hxl
  generalize v.cells.toList = cs at *
  have g : ∀ (i : Nat) (hlt : i < 6), ∃ z, xs[i]? = some z := fun i hlt => ⟨_, List.getElem?_eq_getElem (by omega)⟩
  obtain ⟨z0, hz0⟩ := g 0 (by decide)
  obtain ⟨z1, hz1⟩ := g 1 (by decide)
  obtain ⟨z2, hz2⟩ := g 2 (by decide)
  obtain ⟨z3, hz3⟩ := g 3 (by decide)
  obtain ⟨z4, hz4⟩ := g 4 (by decide)
  obtain ⟨z5, hz5⟩ := g 5 (by decide)
  have t0 : DataW.trod enc Tryd.prog w base (fun _ => true) held m 3 ((cs.drop 0).take (Tryd.prog.cellsOf 3)) = some z0 := (hi 0 _ rfl).trans hz0
  have t1 : DataW.trod enc Tryd.prog w base (fun _ => true) held m 3 ((cs.drop 1).take (Tryd.prog.cellsOf 3)) = some z1 := (hi 1 _ rfl).trans hz1
  have t2 : DataW.trod enc Tryd.prog w base (fun _ => true) held m 3 ((cs.drop 2).take (Tryd.prog.cellsOf 3)) = some z2 := (hi 2 _ rfl).trans hz2
  rw [show Tryd.prog.cellsOf 3 = 1 by kernel_rfl] at t0 t1 t2
  have t3 : DataW.trod enc Tryd.prog w base (fun _ => true) held m 22 ((cs.drop 3).take (Tryd.prog.cellsOf 22)) = some z3 := (hi 3 _ rfl).trans hz3
  rw [show Tryd.prog.cellsOf 22 = 32 by kernel_rfl] at t3
  have t4 : DataW.trod enc Tryd.prog w base (fun _ => true) held m 24 ((cs.drop 35).take (Tryd.prog.cellsOf 24)) = some z4 := (hi 4 _ rfl).trans hz4
  rw [show Tryd.prog.cellsOf 24 = 1 by kernel_rfl] at t4
  have t5 : DataW.trod enc Tryd.prog w base (fun _ => true) held m 23 ((cs.drop 36).take (Tryd.prog.cellsOf 23)) = some z5 := (hi 5 _ rfl).trans hz5
  rw [show Tryd.prog.cellsOf 23 = 1 by kernel_rfl] at t5
  obtain ⟨k, e0, _, w0⟩ := DataW.trod_int Tryd.underlying3 t0
  obtain ⟨pp, e1, _, w1⟩ := DataW.trod_int Tryd.underlying3 t1
  obtain ⟨n, e2, _, w2⟩ := DataW.trod_int Tryd.underlying3 t2
  obtain ⟨x, hx32, e3⟩ := trod_arr Tryd.underlying22 Tryd.underlying5 (by kernel_rfl) (by kernel_rfl) t3
  obtain ⟨iv, ids, e4, r4⟩ := trod_list IdC Tryd.underlying24 (show Tryd.prog.cellsOf 22 = 32 by kernel_rfl) (by decide) (fun n cs y h => by
    obtain ⟨l, h1, h2⟩ := trod_arr Tryd.underlying22 Tryd.underlying5 (by kernel_rfl) (by kernel_rfl) h
    exact ⟨l, h2, h1⟩) t4
  obtain ⟨u, e5, _, w5⟩ := DataW.trod_int Tryd.underlying23 t5
  obtain ⟨un, rfl, hun⟩ := wf_u64 w5
  refine ⟨_, ⟨k, pp, n, x, ids, un⟩, rfl, iv, ?_, r4, bounds_i64 w0, bounds_i64 w1, bounds_i64 w2, hx32, hun⟩
  have q0 := part_at e0
  have q1 := part_at e1
  have q2 := part_at e2
  have q4 := part_at e4
  have q5 := part_at e5
  have hxl2 : (x.map u8v).length = 32 := by simp [hx32]
  obtain ⟨i35, i36, irg⟩ := idx5 (a := .int .i64 k) (b := .int .i64 pp) (c := .int .i64 n) (iv := iv) (nv := .int .u64 (un : Int)) hxl2
  apply List.ext_getElem?
  intro i
  simp only
  unfold sayC
  rcases i with _ | _ | _ | i
  · exact q0
  · exact q1
  · exact q2
  by_cases hlt : i < 32
  · have hv : (x.map u8v)[i]? = some ((x.map u8v)[i]'(by omega)) := List.getElem?_eq_getElem (by omega)
    have h2 := irg i _ hv
    rw [show i + 1 + 1 + 1 = 3 + i by omega, h2, ← hv, ← e3, List.getElem?_take_of_lt hlt, List.getElem?_drop]
  by_cases h32 : i = 32
  · subst h32; exact q4.trans i35.symm
  by_cases h33 : i = 33
  · subst h33; exact q5.trans i36.symm
  rw [List.getElem?_eq_none (by omega), List.getElem?_eq_none (by simp [hx32]; omega)]
theorem trod_raw {a : Option Addr} {n c : Nat} {d : DataW H} {p : List MemPlace} (h : DataW.Trod enc Tryd.prog w base (fun _ => true) held 29 (.slice a n c) d p) : ∃ l, RdB w (.slice a n c) l := by
  obtain ⟨fuel, h⟩ := h
  obtain ⟨v', l, e, r⟩ := trod_bytes Tryd.underlying29 Tryd.underlying5 (by kernel_rfl) h
  have hv : Value.slice a n c = v' := by simpa [Value.cells] using e
  rw [hv]
  exact ⟨l, r⟩
end
theorem reptTells_row {w : World} (cs : List Value) (s : LStep) (hs : StepIn w cs s) (cy : List Value) (y : LSay) (hy : SayIn w cy y) (rv : Value) (rb : List UInt8) (hr : RdB w rv rb) (at_ : Int) (_wa : (Lit.int .i64 at_).wf = true) (by_ : Int) (wb : (Lit.int .u8 by_).wf = true) (kind : Int) (_wk : (Lit.int .i64 kind).wf = true) (he : Env w) :
    Calls Tryd.prog 4 #[.agg cs.toArray, .agg cy.toArray, rv, .int .i64 at_, .int .u8 by_, .int .i64 kind] w fun e w' => e = .returned (.bool true) ∧ Below w.heap.size w w' := by
  obtain ⟨bv, lv, rfl, h1, h2, h3, h4, h5, h6⟩ := hs
  obtain ⟨iv, rfl, g1, g2, g3, g4, g5, g6⟩ := hy
  obtain ⟨b8, rfl⟩ := wf_u8 wb
  exact tells_walk s.k s.p s.n s.good bv lv s.bs s.ls y.k y.p y.c y.x iv y.ids y.n rv rb at_ b8 kind w he h3 h4 h5 h1 h2 h6 g2 g3 g4 g5 g1 g6 hr
end Go.Proofs.YtodcbcpjlhlakaaDoor.W
