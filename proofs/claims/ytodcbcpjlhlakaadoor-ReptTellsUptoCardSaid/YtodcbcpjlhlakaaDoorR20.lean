/- What is told: what stands behind a step's word. -/
import Derived.Test.YtodcbcpjlhlakaaDoorP1
import Derived.WalkSmall
set_option linter.unusedVariables false
set_option linter.unusedSimpArgs false
namespace Go.Proofs.YtodcbcpjlhlakaaDoor.W
open Go.RowKit Go.Proofs.YtodcbcpjlhlakaaDoor.B Go.Proofs

def Box (w : World) (B : Nat) (cs : Array Value) (t : TypeId) : Prop := w.heap[B]? = some (.cells cs t (0, 0))
theorem Box.below {w w' : World} {B : Nat} {cs : Array Value} {t : TypeId} (h : Box w B cs t) (hb : Below w.heap.size w w') : Box w' B cs t := by
  unfold Box
  rw [hb.block B (Array.getElem?_eq_some_iff.1 h).1]
  exact h
theorem Box.lt {w : World} {B : Nat} {cs : Array Value} {t : TypeId} (h : Box w B cs t) : B < w.heap.size := (Array.getElem?_eq_some_iff.1 h).1
theorem Box.cell {w : World} {B : Nat} {cs : Array Value} {t : TypeId} (h : Box w B cs t) (j : Nat) (v : Value) (hv : cs[j]? = some v) : w.cell? ⟨B, j, none⟩ = some v := by
  rw [cell_of_row w B j cs t (0, 0) h]
  exact hv
theorem Box.new (w : World) (cs : Array Value) (t : TypeId) : Box (w.alloc (.cells cs t)) w.heap.size cs t := heap_alloc_last w _
theorem Box.grown {w w' : World} {B : Nat} {cs : Array Value} {t : TypeId} {row : Option Nat} (h : Box w B cs t) (hg : w.grownBy w' row) (hne : row ≠ some B) : Box w' B cs t := by
  unfold Box
  rw [hg.block B (Array.getElem?_eq_some_iff.1 h).1 (fun e => hne e.symm)]
  exact h
theorem Box.frozen {w : World} {B : Nat} {cs : Array Value} {t : TypeId} (h : Box w B cs t) (j : Nat) : w.frozen? ⟨B, j, none⟩ = false := by
  have h' : w.heap[B]? = some (.cells cs t (0, 0)) := h
  simp [World.frozen?, h']
theorem Box.set {w : World} {B : Nat} {cs : List Value} {t : TypeId} (h : Box w B cs.toArray t) (off : Nat) (v : Value) : Box (w.setCell ⟨B, off, none⟩ v) B (cs.set off v).toArray t := by
  have h' : w.heap[B]? = some (.cells cs.toArray t (0, 0)) := h
  show (w.setCell ⟨B, off, none⟩ v).heap[B]? = _
  simp [World.setCell, Array.getElem?_modify, h']
theorem OwB.read {w w' : World} {base B : Nat} {u : Value} {b : List UInt8} (h : OwB w base 5 u b) (hg : w.grownBy w' (some B)) (hB : B < base) : OwB w' base 5 u b := OwS.kept h hg (off_kept (off_low h hB))
theorem OwW.mono {w : World} {base base' : Nat} {v : Value} {ws : List (List UInt8)} (h : OwW w base v ws) (hb : base' ≤ base) : OwW w base' v ws := by
  obtain ⟨us, k1, k2⟩ := h
  exact ⟨us, OwS.mono k1 hb, fun i b hi => by obtain ⟨u, q1, q2, q3⟩ := k2 i b hi; exact ⟨u, q1, OwS.mono q2 hb, q3⟩⟩
theorem Env.far {w w' : World} {B : Nat} (h : Env w) (hb : Below B w w') (h8 : 8 ≤ B) : Env w' := by
  obtain ⟨h1, ⟨t2, p2, h2⟩, ⟨t3, p3, h3⟩, m, h4⟩ := h
  refine ⟨var?_below (g := 0) hb (by kernel_rfl) (by omega) h1, ⟨t2, p2, var?_below (g := 6) hb (by kernel_rfl) (by omega) h2⟩, ⟨t3, p3, var?_below (g := 7) hb (by kernel_rfl) (by omega) h3⟩, m, ?_⟩
  rw [hb.cell (show (⟨1, 0, none⟩ : Addr).block < B by show 1 < B; omega)]
  exact h4
/-- Words in a row that lies below a block. -/
def Wd (w : World) (B : Nat) (A : Option Addr) (n c : Nat) (ws : List (List UInt8)) : Prop :=
  ws.length = n ∧ n ≤ c ∧ ∀ j x, ws[j]? = some x → ∃ g o, A = some ⟨g, o, none⟩ ∧ g < B ∧ w.cell? ⟨g, o + j, none⟩ = some (.string ⟨x.toArray⟩)
theorem Wd.below {w w' : World} {B n c : Nat} {A : Option Addr} {ws : List (List UInt8)} (h : Wd w B A n c ws) (hb : Below B w w') : Wd w' B A n c ws := by
  refine ⟨h.1, h.2.1, fun j x hx => ?_⟩
  obtain ⟨g, o, e, hg, hc⟩ := h.2.2 j x hx
  refine ⟨g, o, e, hg, ?_⟩
  rw [hb.cell (show (⟨g, o + j, none⟩ : Addr).block < B from hg)]
  exact hc
theorem Wd.head {w : World} {B n c : Nat} {A : Option Addr} {a : List UInt8} {r : List (List UInt8)} (h : Wd w B A n c (a :: r)) : ∃ g o, A = some ⟨g, o, none⟩ ∧ w.cell? ⟨g, o, none⟩ = some (.string ⟨a.toArray⟩) ∧ g < B := by
  obtain ⟨g, o, e, hg, hc⟩ := h.2.2 0 a rfl
  exact ⟨g, o, e, hc, hg⟩
theorem size9 : (Tryd.prog.info? 9).map (·.size) = some 1 := by kernel_rfl
theorem Wd.cut1 {w : World} {B n c : Nat} {A : Option Addr} {a : List UInt8} {r : List (List UInt8)} (h : Wd w B A n c (a :: r)) :
    ∃ A' n' c', (∀ W : World, (Instr.slice 27 (.slice A n c) (some (.int .i64 1)) none none).run Tryd.prog W = .ok (.slice A' n' c') W) ∧ Wd w B A' n' c' r := by
  have hn : r.length + 1 = n := h.1
  have hc := h.2.1
  refine ⟨_, _, _, fun W => run_cut_from (P := Tryd.prog) 27 9 1 Tryd.underlying27 size9 A n c 1 (by omega) W, by omega, by omega, fun j x hx => ?_⟩
  obtain ⟨g, o, e, hg, hcell⟩ := h.2.2 (j + 1) x hx
  have hj := (List.getElem?_eq_some_iff.1 hx).1
  rw [if_neg (by omega), e]
  refine ⟨g, o + 1, rfl, hg, ?_⟩
  rw [show o + 1 + j = o + (j + 1) by omega]
  exact hcell
/-- How the world stands while a step is filled: its block, and the box of the words. -/
def RS (w W : World) (G C : Nat) (cs : List Value) (v : Value) : Prop := Below G w W ∧ Box W G cs.toArray 35 ∧ Box W C #[v] 27 ∧ 8 ≤ G ∧ G < C
section
variable {w W W' : World} {G C : Nat} {cs : List Value} {v : Value}
theorem RS.below (h : RS w W G C cs v) (hb : Below W.heap.size W W') : RS w W' G C cs v :=
  ⟨h.1.trans (hb.mono (by have := h.2.1.lt; omega)), h.2.1.below hb, h.2.2.1.below hb, h.2.2.2⟩
theorem RS.setG (h : RS w W G C cs v) (j : Nat) (u : Value) : RS w (W.setCell ⟨G, j, none⟩ u) G C (cs.set j u) v :=
  ⟨h.1.setCell (Nat.le_refl _) u, h.2.1.set j u, h.2.2.1.grown (grown_set W G j u) (fun e => by injection e with e; have := h.2.2.2.2; omega), h.2.2.2⟩
theorem RS.setC (h : RS w W G C cs v) (u : Value) : RS w (W.setCell ⟨C, 0, none⟩ u) G C cs u :=
  ⟨h.1.setCell (show G ≤ C from Nat.le_of_lt h.2.2.2.2) u, h.2.1.grown (grown_set W C 0 u) (fun e => by injection e with e; have := h.2.2.2.2; omega), Box.set (cs := [v]) h.2.2.1 0 u, h.2.2.2⟩
theorem RS.cG (h : RS w W G C cs v) (j : Nat) (u : Value) (hu : cs[j]? = some u) : W.cell? ⟨G, j, none⟩ = some u := h.2.1.cell j u (by simpa using hu)
theorem RS.fG (h : RS w W G C cs v) (j : Nat) : W.frozen? ⟨G, j, none⟩ = false := h.2.1.frozen j
theorem RS.fC (h : RS w W G C cs v) : W.frozen? ⟨C, 0, none⟩ = false := h.2.2.1.frozen 0
theorem RS.bl (h : RS w W G C cs v) : Below G w W := h.1
theorem RS.cC (h : RS w W G C cs v) : W.cell? ⟨C, 0, none⟩ = some v := h.2.2.1.cell 0 v rfl
theorem RS.env (h : RS w W G C cs v) (he : Env w) : Env W := he.far h.1 h.2.2.2.1
theorem RS.hd (h : RS w W G C cs v) {g o B : Nat} {u : Value} (hc : w.cell? ⟨g, o, none⟩ = some u) (hg : g < G) : W.cell? ⟨g, o, none⟩ = some u := by
  rw [h.1.cell (show (⟨g, o, none⟩ : Addr).block < G from hg)]; exact hc
end
/-- How rest ends. -/
def RestE (k : Int) (ws : List (List UInt8)) (G : Nat) (w : World) (e : Ending) (w' : World) : Prop :=
  e = .returned (.bool (restP k ws).isSome) ∧ Below G w w' ∧ ∀ z, restP k ws = some z → ∃ bv lv, Box w' G #[.int .i64 k, .int .i64 z.p, .int .i64 z.n, .bool z.good, bv, lv] 35 ∧ OwB w' w.heap.size 5 bv z.bs ∧ OwW w' w.heap.size lv z.ls
theorem rest_none {k : Int} {ws : List (List UInt8)} {G : Nat} {w w' : World} (hz : restP k ws = none) (hb : Below G w w') : RestE k ws G w (.returned (.bool false)) w' :=
  ⟨by rw [hz]; rfl, hb, fun z h => by rw [hz] at h; cases h⟩
theorem rest_some {k : Int} {ws : List (List UInt8)} {G : Nat} {w w' : World} {z : LStep} (hz : restP k ws = some z) (hb : Below G w w') {bv lv : Value} (h : Box w' G #[.int .i64 k, .int .i64 z.p, .int .i64 z.n, .bool z.good, bv, lv] 35) (h1 : OwB w' w.heap.size 5 bv z.bs) (h2 : OwW w' w.heap.size lv z.ls) : RestE k ws G w (.returned (.bool true)) w' :=
  ⟨by rw [hz]; rfl, hb, fun z' h' => by rw [hz] at h'; injection h' with h'; subst h'; exact ⟨bv, lv, h, h1, h2⟩⟩
theorem RdW.nil (w : World) : RdW w (.slice none 0 0) [] := (OwW.nil w 0).rd
theorem beq_dec (g : List UInt8) : (g == [121]) = decide (g = [121]) := by
  by_cases h : g = [121]
  · subst h; rfl
  · rw [decide_eq_false h, beq_eq_false_iff_ne.2 h]
theorem numbered_to (G j C g o n c : Nat) (s : List UInt8) {u : Value} {p : Int} {ok : Bool} (hz : numP s = (p, ok)) (hs : s.length ≤ 4000000000) (w : World) (he : Env w) (h1 : w.cell? ⟨C, 0, none⟩ = some (.slice (some ⟨g, o, none⟩) n c)) (hn : (0 : Int) < (n : Int)) (h2 : w.cell? ⟨g, o, none⟩ = some (.string ⟨s.toArray⟩))
    (ht : w.cell? ⟨G, j, none⟩ = some u) (hf : w.frozen? ⟨G, j, none⟩ = false) :
    Calls Tryd.prog 37 #[.pointer (some ⟨G, j, none⟩), .pointer (some ⟨C, 0, none⟩)] w fun e w' => e = .returned (.bool ok) ∧ ∃ w1, Below w.heap.size w w1 ∧ w' = w1.setCell ⟨G, j, none⟩ (.int .i64 p) := by
  have h := numbered_any G j C g o n c s u hs w he h1 hn h2 ht hf
  rw [hz] at h
  exact h
set_option maxHeartbeats 4000000 in
set_option maxRecDepth 100000 in
theorem rest_8 (G n c : Nat) (A : Option Addr) (ws : List (List UInt8)) (w : World) (he : Env w) (hG : 8 ≤ G)
    (hb : Box w G #[.int .i64 8, .int .i64 0, .int .i64 0, .bool false, .slice none 0 0, .slice none 0 0] 35) (hw : Wd w G A n c ws)
    (hs : ∀ x ∈ ws, x.length ≤ 4000000) (hl : ∀ x ∈ ws, (wordsOf 44 x).length ≤ 4000000) :
    Calls Tryd.prog 32 #[.pointer (some ⟨G, 0, none⟩), .slice A n c] w (RestE 8 ws G w) := by
  have hlt := hb.lt
  have H0 : As (RS w (w.alloc (.cells #[.slice A n c] 27)) G w.heap.size [.int .i64 8, .int .i64 0, .int .i64 0, .bool false, .slice none 0 0, .slice none 0 0] (.slice A n c)) :=
    ⟨(Below.refl _ _).alloc (by omega) _, Box.below hb (below_al _ _), Box.new _ _ _, hG, hlt⟩
  have HEN := As.mk he
  have HWD := As.mk hw
  have HS := As.mk hs
  have HL := As.mk hl
  clear he hb hw hs hl hlt
  go_enter Tryd.func32, Tryd.ntmps32
  go_upto_region 2 with fail
  generalize (w.alloc (.cells #[.slice A n c] 27)) = W0 at H0 ⊢
  generalize w.heap.size = C at H0 ⊢
  rcases ws with _ | ⟨a, r⟩
  · obtain rfl : n = 0 := HWD.out.1.symm
    have HF : As (restP 8 [] = some ⟨8, 0, 0, false, [], []⟩) := ⟨rfl⟩
    have c0 := H0.out.cG 0 _ rfl
    have cc := H0.out.cC
    go_wp2
    go_ret
    exact rest_some HF.out H0.out.1 H0.out.2.1 (OwS.nil _ _ _ _) (OwW.nil _ _)
  · have HF : As (restP 8 (a :: r) = none) := ⟨rfl⟩
    have hn0 : ((n : Int) == 0) = false := by have := HWD.out.1; rw [beq_eq_false_iff_ne]; simp only [List.length_cons] at this; omega
    have c0 := H0.out.cG 0 _ rfl
    have cc := H0.out.cC
    go_wp2
    go_ret
    exact rest_none HF.out H0.out.bl
set_option maxHeartbeats 4000000 in
set_option maxRecDepth 100000 in
theorem rest_6 (G n c : Nat) (A : Option Addr) (ws : List (List UInt8)) (w : World) (he : Env w) (hG : 8 ≤ G)
    (hb : Box w G #[.int .i64 6, .int .i64 0, .int .i64 0, .bool false, .slice none 0 0, .slice none 0 0] 35) (hw : Wd w G A n c ws)
    (hs : ∀ x ∈ ws, x.length ≤ 4000000) (hl : ∀ x ∈ ws, (wordsOf 44 x).length ≤ 4000000) :
    Calls Tryd.prog 32 #[.pointer (some ⟨G, 0, none⟩), .slice A n c] w (RestE 6 ws G w) := by
  have hlt := hb.lt
  have H0 : As (RS w (w.alloc (.cells #[.slice A n c] 27)) G w.heap.size [.int .i64 6, .int .i64 0, .int .i64 0, .bool false, .slice none 0 0, .slice none 0 0] (.slice A n c)) :=
    ⟨(Below.refl _ _).alloc (by omega) _, Box.below hb (below_al _ _), Box.new _ _ _, hG, hlt⟩
  have HEN := As.mk he
  have HWD := As.mk hw
  have HS := As.mk hs
  have HL := As.mk hl
  clear he hb hw hs hl hlt
  go_enter Tryd.func32, Tryd.ntmps32
  go_upto_region 2 with fail
  generalize (w.alloc (.cells #[.slice A n c] 27)) = W0 at H0 ⊢
  generalize w.heap.size = C at H0 ⊢
  rcases ws with _ | ⟨a, _ | ⟨b, r⟩⟩
  · obtain rfl : n = 0 := HWD.out.1.symm
    have HF : As (restP 6 [] = none) := ⟨rfl⟩
    have c0 := H0.out.cG 0 _ rfl
    have cc := H0.out.cC
    go_wp2
    go_ret
    exact rest_none HF.out H0.out.bl
  · obtain rfl : n = 1 := HWD.out.1.symm
    have HSA : As (a.length ≤ 4000000000) := ⟨by have := HS.out a (List.mem_cons_self ..); omega⟩
    obtain ⟨g, o, rfl, hc1, hc2⟩ := HWD.out.head
    have HHD := As.mk (And.intro hc1 hc2)
    obtain ⟨p, ok, hnp0⟩ : ∃ p ok, numP a = (p, ok) := ⟨_, _, rfl⟩
    have HNP := As.mk hnp0
    clear hc1 hc2 hnp0
    have hnp : (0 : Int) < ((1 : Nat) : Int) := by decide
    have c0 := H0.out.cG 0 _ rfl
    have c2 := H0.out.cG 2 _ rfl
    have cc := H0.out.cC
    cases ok with
    | false =>
      have HF : As (restP 6 [a] = none) := ⟨by simp [restP, numd, zero, one, two, HNP.out]⟩
      go_wp2_with (go_at_call 37; (with_reducible refine (numbered_to G 2 C g o 1 c a HNP.out HSA.out _ (H0.out.env HEN.out) H0.out.cC hnp (H0.out.hd (B := G) HHD.out.1 HHD.out.2) c2 (H0.out.fG 2)).mono ?_); rintro e w2 ⟨rfl, w1, hb, rfl⟩; have H1 := As.mk ((H0.out.below hb).setG 2 (.int .i64 p)); clear hb)
      go_ret
      exact rest_none HF.out H1.out.bl
    | true =>
      have HF : As (restP 6 [a] = some ⟨6, 0, p, false, [], []⟩) := ⟨by simp [restP, numd, zero, one, two, HNP.out]⟩
      go_wp2_with (go_at_call 37; (with_reducible refine (numbered_to G 2 C g o 1 c a HNP.out HSA.out _ (H0.out.env HEN.out) H0.out.cC hnp (H0.out.hd (B := G) HHD.out.1 HHD.out.2) c2 (H0.out.fG 2)).mono ?_); rintro e w2 ⟨rfl, w1, hb, rfl⟩; have H1 := As.mk ((H0.out.below hb).setG 2 (.int .i64 p)); clear hb)
      go_ret
      exact rest_some HF.out H1.out.1 H1.out.2.1 (OwS.nil _ _ _ _) (OwW.nil _ _)
  · have HF : As (restP 6 (a :: b :: r) = none) := ⟨by simp [restP, numd, zero, one, two]⟩
    have hn1 : ((n : Int) == 1) = false := by have := HWD.out.1; rw [beq_eq_false_iff_ne]; simp only [List.length_cons] at this; omega
    have c0 := H0.out.cG 0 _ rfl
    have cc := H0.out.cC
    go_wp2
    go_ret
    exact rest_none HF.out H0.out.bl
set_option maxHeartbeats 4000000 in
set_option maxRecDepth 100000 in
theorem rest_9 (G n c : Nat) (A : Option Addr) (ws : List (List UInt8)) (w : World) (he : Env w) (hG : 8 ≤ G)
    (hb : Box w G #[.int .i64 9, .int .i64 0, .int .i64 0, .bool false, .slice none 0 0, .slice none 0 0] 35) (hw : Wd w G A n c ws)
    (hs : ∀ x ∈ ws, x.length ≤ 4000000) (hl : ∀ x ∈ ws, (wordsOf 44 x).length ≤ 4000000) :
    Calls Tryd.prog 32 #[.pointer (some ⟨G, 0, none⟩), .slice A n c] w (RestE 9 ws G w) := by
  have hlt := hb.lt
  have H0 : As (RS w (w.alloc (.cells #[.slice A n c] 27)) G w.heap.size [.int .i64 9, .int .i64 0, .int .i64 0, .bool false, .slice none 0 0, .slice none 0 0] (.slice A n c)) :=
    ⟨(Below.refl _ _).alloc (by omega) _, Box.below hb (below_al _ _), Box.new _ _ _, hG, hlt⟩
  have HEN := As.mk he
  have HWD := As.mk hw
  have HS := As.mk hs
  have HL := As.mk hl
  clear he hb hw hs hl hlt
  go_enter Tryd.func32, Tryd.ntmps32
  go_upto_region 2 with fail
  generalize (w.alloc (.cells #[.slice A n c] 27)) = W0 at H0 ⊢
  generalize w.heap.size = C at H0 ⊢
  rcases ws with _ | ⟨a, _ | ⟨b, r⟩⟩
  · obtain rfl : n = 0 := HWD.out.1.symm
    have HF : As (restP 9 [] = none) := ⟨rfl⟩
    have c0 := H0.out.cG 0 _ rfl
    have cc := H0.out.cC
    go_wp2
    go_ret
    exact rest_none HF.out H0.out.bl
  · obtain rfl : n = 1 := HWD.out.1.symm
    have HSA : As (a.length ≤ 4000000000) := ⟨by have := HS.out a (List.mem_cons_self ..); omega⟩
    obtain ⟨g, o, rfl, hc1, hc2⟩ := HWD.out.head
    have HHD := As.mk (And.intro hc1 hc2)
    obtain ⟨p, ok, hnp0⟩ : ∃ p ok, numP a = (p, ok) := ⟨_, _, rfl⟩
    have HNP := As.mk hnp0
    clear hc1 hc2 hnp0
    have hnp : (0 : Int) < ((1 : Nat) : Int) := by decide
    have c0 := H0.out.cG 0 _ rfl
    have c2 := H0.out.cG 2 _ rfl
    have cc := H0.out.cC
    cases ok with
    | false =>
      have HF : As (restP 9 [a] = none) := ⟨by simp [restP, numd, zero, one, two, HNP.out]⟩
      go_wp2_with (go_at_call 37; (with_reducible refine (numbered_to G 2 C g o 1 c a HNP.out HSA.out _ (H0.out.env HEN.out) H0.out.cC hnp (H0.out.hd (B := G) HHD.out.1 HHD.out.2) c2 (H0.out.fG 2)).mono ?_); rintro e w2 ⟨rfl, w1, hb, rfl⟩; have H1 := As.mk ((H0.out.below hb).setG 2 (.int .i64 p)); clear hb)
      go_ret
      exact rest_none HF.out H1.out.bl
    | true =>
      have HF : As (restP 9 [a] = some ⟨9, 0, p, false, [], []⟩) := ⟨by simp [restP, numd, zero, one, two, HNP.out]⟩
      go_wp2_with (go_at_call 37; (with_reducible refine (numbered_to G 2 C g o 1 c a HNP.out HSA.out _ (H0.out.env HEN.out) H0.out.cC hnp (H0.out.hd (B := G) HHD.out.1 HHD.out.2) c2 (H0.out.fG 2)).mono ?_); rintro e w2 ⟨rfl, w1, hb, rfl⟩; have H1 := As.mk ((H0.out.below hb).setG 2 (.int .i64 p)); clear hb)
      go_ret
      exact rest_some HF.out H1.out.1 H1.out.2.1 (OwS.nil _ _ _ _) (OwW.nil _ _)
  · have HF : As (restP 9 (a :: b :: r) = none) := ⟨by simp [restP, numd, zero, one, two]⟩
    have hn1 : ((n : Int) == 1) = false := by have := HWD.out.1; rw [beq_eq_false_iff_ne]; simp only [List.length_cons] at this; omega
    have c0 := H0.out.cG 0 _ rfl
    have cc := H0.out.cC
    go_wp2
    go_ret
    exact rest_none HF.out H0.out.bl
set_option maxHeartbeats 4000000 in
set_option maxRecDepth 100000 in
theorem rest_5 (G n c : Nat) (A : Option Addr) (ws : List (List UInt8)) (w : World) (he : Env w) (hG : 8 ≤ G)
    (hb : Box w G #[.int .i64 5, .int .i64 0, .int .i64 0, .bool false, .slice none 0 0, .slice none 0 0] 35) (hw : Wd w G A n c ws)
    (hs : ∀ x ∈ ws, x.length ≤ 4000000) (hl : ∀ x ∈ ws, (wordsOf 44 x).length ≤ 4000000) :
    Calls Tryd.prog 32 #[.pointer (some ⟨G, 0, none⟩), .slice A n c] w (RestE 5 ws G w) := by
  have hlt := hb.lt
  have H0 : As (RS w (w.alloc (.cells #[.slice A n c] 27)) G w.heap.size [.int .i64 5, .int .i64 0, .int .i64 0, .bool false, .slice none 0 0, .slice none 0 0] (.slice A n c)) :=
    ⟨(Below.refl _ _).alloc (by omega) _, Box.below hb (below_al _ _), Box.new _ _ _, hG, hlt⟩
  have HEN := As.mk he
  have HWD := As.mk hw
  have HS := As.mk hs
  have HL := As.mk hl
  clear he hb hw hs hl hlt
  go_enter Tryd.func32, Tryd.ntmps32
  go_upto_region 2 with fail
  generalize (w.alloc (.cells #[.slice A n c] 27)) = W0 at H0 ⊢
  generalize w.heap.size = C at H0 ⊢
  rcases ws with _ | ⟨a, _ | ⟨b, r⟩⟩
  · obtain rfl : n = 0 := HWD.out.1.symm
    have HF : As (restP 5 [] = none) := ⟨rfl⟩
    have c0 := H0.out.cG 0 _ rfl
    have cc := H0.out.cC
    go_wp2
    go_ret
    exact rest_none HF.out H0.out.bl
  · obtain rfl : n = 1 := HWD.out.1.symm
    have HSA : As (a.length ≤ 4000000000) := ⟨by have := HS.out a (List.mem_cons_self ..); omega⟩
    obtain ⟨g, o, rfl, hc1, hc2⟩ := HWD.out.head
    have HHD := As.mk (And.intro hc1 hc2)
    obtain ⟨p, ok, hnp0⟩ : ∃ p ok, numP a = (p, ok) := ⟨_, _, rfl⟩
    have HNP := As.mk hnp0
    clear hc1 hc2 hnp0
    have hnp : (0 : Int) < ((1 : Nat) : Int) := by decide
    have c0 := H0.out.cG 0 _ rfl
    have c1 := H0.out.cG 1 _ rfl
    have cc := H0.out.cC
    cases ok with
    | false =>
      have HF : As (restP 5 [a] = none) := ⟨by simp [restP, numd, zero, one, two, HNP.out]⟩
      go_wp2_with (go_at_call 37; (with_reducible refine (numbered_to G 1 C g o 1 c a HNP.out HSA.out _ (H0.out.env HEN.out) H0.out.cC hnp (H0.out.hd (B := G) HHD.out.1 HHD.out.2) c1 (H0.out.fG 1)).mono ?_); rintro e w2 ⟨rfl, w1, hb, rfl⟩; have H1 := As.mk ((H0.out.below hb).setG 1 (.int .i64 p)); clear hb)
      go_ret
      exact rest_none HF.out H1.out.bl
    | true =>
      have HF : As (restP 5 [a] = some ⟨5, p, 0, false, [], []⟩) := ⟨by simp [restP, numd, zero, one, two, HNP.out]⟩
      go_wp2_with (go_at_call 37; (with_reducible refine (numbered_to G 1 C g o 1 c a HNP.out HSA.out _ (H0.out.env HEN.out) H0.out.cC hnp (H0.out.hd (B := G) HHD.out.1 HHD.out.2) c1 (H0.out.fG 1)).mono ?_); rintro e w2 ⟨rfl, w1, hb, rfl⟩; have H1 := As.mk ((H0.out.below hb).setG 1 (.int .i64 p)); clear hb)
      go_ret
      exact rest_some HF.out H1.out.1 H1.out.2.1 (OwS.nil _ _ _ _) (OwW.nil _ _)
  · have HF : As (restP 5 (a :: b :: r) = none) := ⟨by simp [restP, numd, zero, one, two]⟩
    have hn1 : ((n : Int) == 1) = false := by have := HWD.out.1; rw [beq_eq_false_iff_ne]; simp only [List.length_cons] at this; omega
    have c0 := H0.out.cG 0 _ rfl
    have cc := H0.out.cC
    go_wp2
    go_ret
    exact rest_none HF.out H0.out.bl
end Go.Proofs.YtodcbcpjlhlakaaDoor.W
