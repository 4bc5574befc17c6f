/- What is said tells its kind by its first word, and its names by their first eight digits, none by a stroke: lemmas. -/
import Derived.Test.YtodcbcpjlhlakaaDoorR27
import Derived.Great.BuildSlice
import Derived.Deep.WholeRow
import Derived.Deep.MidRow
set_option linter.unusedVariables false
set_option linter.unusedSimpArgs false
namespace Go.Proofs.YtodcbcpjlhlakaaDoor.W
open Go.RowKit Go.Proofs.YtodcbcpjlhlakaaDoor.B Go.Proofs

section
variable {P : Program}
theorem wpList_build_to {ops : Array Oper} {rest : List Oper} {o : Oper} {a : Act} {w : World} {Q : Exit → Act → World → Prop} (hg : o.guard = none) (t : TypeId) (parts : Array (Nat × Operand)) (ho : o.op = .build t parts) (cells : Array Value)
    (hf : P.built t (parts.map fun (i, x) => (i, a.eval x)).toList = some cells) (h : wpList P ops Q rest (a.put o.dst (.agg cells)) w) : wpList P ops Q (o :: rest) a w :=
  wpList_build hg t parts ho (by rw [hf]; rfl) (by rw [hf]; exact h)
end
theorem set_all : ∀ (cs pre rest : List Value), rest.length = cs.length → (cs.zipIdx pre.length).foldl (fun (a : Array Value) x => a.setIfInBounds (0 + x.2) x.1) (pre ++ rest).toArray = (pre ++ cs).toArray
  | [], pre, rest, h => by
    obtain rfl : rest = [] := List.eq_nil_of_length_eq_zero h
    rfl
  | c :: cs, pre, [], h => by cases h
  | c :: cs, pre, r :: rest, h => by
    rw [List.zipIdx_cons, List.foldl_cons]
    have e : (pre ++ r :: rest).toArray.setIfInBounds (0 + pre.length) c = ((pre ++ [c]) ++ rest).toArray := by simp
    simp only
    rw [e]
    have := set_all cs (pre ++ [c]) rest (by simpa using h)
    rw [List.length_append, List.length_singleton] at this
    rw [this]
    simp
theorem built_of {P : Program} {t : TypeId} {fields : Array Field} {it : TypeInfo} {z : Value} {places : List (Nat × Nat)} (hu : P.underlying t = some (.struct fields)) (hi : P.info? t = some it) (hz : it.zero = some z)
    (hp : fields.toList.mapM (fun f => (P.info? f.type).map fun i => (f.offset, i.size)) = some places) (parts : List (Nat × Value)) : P.built t parts = Instr.fill (places.toArray[·]?) z.cells parts := by
  unfold Program.built
  simp only [hu, hi, hz, hp]
theorem set_pre (off : Nat) : ∀ (cs pre rest tail : List Value), rest.length = cs.length → off ≤ pre.length → (cs.zipIdx (pre.length - off)).foldl (fun (a : Array Value) x => a.setIfInBounds (off + x.2) x.1) (pre ++ rest ++ tail).toArray = (pre ++ cs ++ tail).toArray
  | [], pre, rest, tail, h, _ => by
    obtain rfl : rest = [] := List.eq_nil_of_length_eq_zero h
    rfl
  | c :: cs, pre, [], tail, h, _ => by cases h
  | c :: cs, pre, r :: rest, tail, h, ho => by
    rw [List.zipIdx_cons, List.foldl_cons]
    have e0 : off + (pre.length - off) = pre.length := by omega
    have e : (pre ++ r :: rest ++ tail).toArray.setIfInBounds (off + (pre.length - off)) c = ((pre ++ [c]) ++ rest ++ tail).toArray := by rw [e0]; simp
    simp only
    rw [e]
    have := set_pre off cs (pre ++ [c]) rest tail (by simpa using h) (by simp; omega)
    rw [List.length_append, List.length_singleton] at this
    rw [show pre.length - off + 1 = pre.length + 1 - off by omega, this]
    simp
theorem fill_step (places : Nat → Option (Nat × Nat)) (i off : Nat) (cs : List Value) (v : Value) (hp : places i = some (off, cs.length)) (hv : v.cells = cs.toArray) (pre rest tail : List Value) (hpre : pre.length = off) (hrest : rest.length = cs.length) (parts : List (Nat × Value)) :
    Instr.fill places (pre ++ rest ++ tail).toArray ((i, v) :: parts) = Instr.fill places (pre ++ cs ++ tail).toArray parts := by
  rw [Instr.fill]
  simp only [hp, hv, List.size_toArray]
  rw [if_neg (by simp; omega), ← Array.foldl_toList]
  have h := set_pre off cs pre rest tail hrest (by omega)
  rw [show pre.length - off = 0 by omega] at h
  congr 1
  simpa using h
def Z32 : List Value := List.replicate 32 (.int .u8 0)
theorem info22z : (Tryd.prog.info? 22).map (fun i => (i.zero, i.size, i.bytes)) = some (some (.agg Z32.toArray), 32, 32) := by kernel_rfl
theorem info26z : (Tryd.prog.info? 26).map (fun i => (i.zero, i.size, i.bytes)) = some (some (.agg (sayC 0 0 0 Z32 (.slice none 0 0) 0).toArray), 37, 88) := by kernel_rfl
theorem fill22 (z : Array Value) (hz : z.size = 32) (cs : List Value) (h : cs.length = 32) : Instr.fill (fun i => some (i * 32, 32)) z [(0, .agg cs.toArray)] = some cs.toArray := by
  unfold Instr.fill
  have hc : (Value.agg cs.toArray).cells = cs.toArray := rfl
  simp only [hc, List.size_toArray, h, hz, Nat.zero_mul]
  rw [if_neg (by decide)]
  unfold Instr.fill
  congr 1
  rw [← Array.foldl_toList]
  obtain ⟨z⟩ := z
  have := set_all cs [] z (by simpa [h] using hz)
  simpa using this
theorem built26 (cs : List Value) (h : cs.length = 32) (k : Int) : Tryd.prog.built 26 [(0, .int .i64 k), (1, .int .i64 3), (2, .int .i64 4), (3, .agg cs.toArray), (5, .int .u64 5)] = some (sayC k 3 4 cs (.slice none 0 0) 5).toArray := by
  obtain ⟨it, hi, hzz⟩ := Option.map_eq_some_iff.1 info26z
  simp only [Prod.mk.injEq] at hzz
  rw [built_of Tryd.underlying26 hi hzz.1 (places := [(0, 1), (1, 1), (2, 1), (3, 32), (35, 1), (36, 1)]) (by kernel_rfl)]
  have hz32 : Z32.length = 32 := rfl
  have P1 := fill_step (([(0, 1), (1, 1), (2, 1), (3, 32), (35, 1), (36, 1)] : List (Nat × Nat)).toArray[·]?) 0 0 [.int .i64 k] (.int .i64 k) rfl rfl [] [.int .i64 0] ([.int .i64 0, .int .i64 0] ++ Z32 ++ [.slice none 0 0, .int .u64 0]) rfl rfl [(1, .int .i64 3), (2, .int .i64 4), (3, .agg cs.toArray), (5, .int .u64 5)]
  have P2 := fill_step (([(0, 1), (1, 1), (2, 1), (3, 32), (35, 1), (36, 1)] : List (Nat × Nat)).toArray[·]?) 1 1 [.int .i64 3] (.int .i64 3) rfl rfl [.int .i64 k] [.int .i64 0] ([.int .i64 0] ++ Z32 ++ [.slice none 0 0, .int .u64 0]) rfl rfl [(2, .int .i64 4), (3, .agg cs.toArray), (5, .int .u64 5)]
  have P3 := fill_step (([(0, 1), (1, 1), (2, 1), (3, 32), (35, 1), (36, 1)] : List (Nat × Nat)).toArray[·]?) 2 2 [.int .i64 4] (.int .i64 4) rfl rfl [.int .i64 k, .int .i64 3] [.int .i64 0] (Z32 ++ [.slice none 0 0, .int .u64 0]) rfl rfl [(3, .agg cs.toArray), (5, .int .u64 5)]
  have P4 := fill_step (([(0, 1), (1, 1), (2, 1), (3, 32), (35, 1), (36, 1)] : List (Nat × Nat)).toArray[·]?) 3 3 cs (.agg cs.toArray) (by rw [h]; rfl) rfl [.int .i64 k, .int .i64 3, .int .i64 4] Z32 [.slice none 0 0, .int .u64 0] rfl (by rw [h, hz32]) [(5, .int .u64 5)]
  have P5 := fill_step (([(0, 1), (1, 1), (2, 1), (3, 32), (35, 1), (36, 1)] : List (Nat × Nat)).toArray[·]?) 5 36 [.int .u64 5] (.int .u64 5) rfl rfl ([.int .i64 k, .int .i64 3, .int .i64 4] ++ cs ++ [.slice none 0 0]) [.int .u64 0] [] (by simp [h]) rfl []
  simp only [List.nil_append, List.append_assoc, List.singleton_append, List.cons_append, List.append_nil] at P1 P2 P3 P4 P5
  exact P1.trans (P2.trans (P3.trans (P4.trans (P5.trans rfl))))
theorem sayC_set {k p c : Int} {cs : List Value} {iv v : Value} {n : Nat} (h : cs.length = 32) : (sayC k p c cs iv n).set 35 v = sayC k p c cs v n := by
  unfold sayC
  rw [List.set_append_right _ _ (by simp [h])]
  simp [h]
theorem sayC_one {k p c : Int} {x : List UInt8} {iv : Value} {n : Nat} (h : iv.oneCell' = true) : ∀ v ∈ sayC k p c (x.map u8v) iv n, v.oneCell' = true := by
  intro v hv
  unfold sayC at hv
  simp only [List.mem_append, List.mem_cons, List.not_mem_nil, or_false] at hv
  rcases hv with ((rfl | rfl | rfl) | hv) | (rfl | rfl)
  · rfl
  · rfl
  · rfl
  · exact u8v_one x v hv
  · exact h
  · rfl
theorem sayC_len {k p c : Int} {cs : List Value} {iv : Value} {n : Nat} (h : cs.length = 32) : (sayC k p c cs iv n).length = 37 := by simp [sayC, h]
/-- Names of one's own, each the same. -/
abbrev OwR (w : World) (base : Nat) (v : Value) (k : Nat) (cs : List Value) : Prop := OwS w base 22 32 v k (List.replicate k cs).flatten
theorem rep_at (cs : List Value) (h : cs.length = 32) : ∀ (k j i : Nat), j < k → i < 32 → (List.replicate k cs).flatten[j * 32 + i]? = cs[i]? := by
  intro k
  induction k with
  | zero => intro j i hj; omega
  | succ k ih =>
    intro j i hj hi
    rw [List.replicate_succ, List.flatten_cons]
    rcases j with _ | j
    · rw [List.getElem?_append_left (by omega)]; congr 1; omega
    · rw [List.getElem?_append_right (by omega), h, show (j + 1) * 32 + i - 32 = j * 32 + i by omega]
      exact ih j i (by omega) hi
theorem ownR_rd {w : World} {base : Nat} {v : Value} {k : Nat} {y : List UInt8} (hy : y.length = 32) (h : OwR w base v k (y.map u8v)) : RdN w v (List.replicate k y) := by
  have hrd := OwS.rd h
  obtain ⟨hl, A, c, rfl, k1, k2, k3, k4⟩ := hrd
  refine ⟨A, c, by rw [List.length_replicate], by rw [List.length_replicate]; exact k1, k2, k3, fun ad had hne => ?_⟩
  have hn : ∃ g o, ad = ⟨g, o, none⟩ := by
    rcases h.2 with ⟨e, _⟩ | ⟨g, off, cap, cur, e, _⟩
    · injection e with e; rw [e] at had; cases had
    · injection e with e; rw [e] at had; exact ⟨g, off, (Option.some.inj had).symm⟩
  obtain ⟨g, o, rfl⟩ := hn
  refine ⟨g, o, rfl, fun j x hx => ?_⟩
  have hj : j < k := by have := (List.getElem?_eq_some_iff.1 hx).1; simpa using this
  obtain rfl : x = y := by rw [List.getElem?_replicate, if_pos hj] at hx; exact (Option.some.inj hx).symm
  refine ⟨x.map u8v, by simp [hy], ⟨rfl, hy⟩, fun i u hu => ?_⟩
  have hi : i < 32 := by have := (List.getElem?_eq_some_iff.1 hu).1; simpa [hy] using this
  have := k4 _ had (j * 32 + i) u (by rw [rep_at _ (by simp [hy]) k j i hj hi]; exact hu)
  rw [Addr.add_mid] at this
  rw [Nat.add_assoc]
  exact this
/-- How ReptSays stands. -/
def SS (w W : World) (X Y G : Nat) (cx cy cs : List Value) : Prop :=
  Below w.heap.size w W ∧ Box W X cx.toArray 22 ∧ Box W Y cy.toArray 22 ∧ Box W G cs.toArray 26 ∧ w.heap.size ≤ X ∧ X < Y ∧ Y < G
section
variable {w W W' : World} {X Y G : Nat} {cx cy cs : List Value}
theorem SS.grown {row : Option Nat} (h : SS w W X Y G cx cy cs) (hg : W.grownBy W' row) (hr : ∀ b, row = some b → G < b) : SS w W' X Y G cx cy cs := by
  obtain ⟨h1, h2, h3, h4, h5, h6, h7⟩ := h
  exact ⟨h1.grown hg h1.size (fun b hb => by have := hr b hb; omega), h2.grown hg (fun e => by have := hr _ e; omega), h3.grown hg (fun e => by have := hr _ e; omega), h4.grown hg (fun e => by have := hr _ e; omega), h5, h6, h7⟩
theorem SS.below (h : SS w W X Y G cx cy cs) (hb : Below W.heap.size W W') : SS w W' X Y G cx cy cs := h.grown (grown_none hb) (fun b e => by cases e)
theorem SS.set (h : SS w W X Y G cx cy cs) (j : Nat) (v : Value) : SS w (W.setCell ⟨G, j, none⟩ v) X Y G cx cy (cs.set j v) := by
  obtain ⟨h1, h2, h3, h4, h5, h6, h7⟩ := h
  exact ⟨h1.setCell (p := ⟨G, j, none⟩) (show w.heap.size ≤ G from by omega) v, h2.grown (grown_set W G j v) (fun e => by injection e with e; omega), h3.grown (grown_set W G j v) (fun e => by injection e with e; omega), h4.set j v, h5, h6, h7⟩
theorem SS.bl (h : SS w W X Y G cx cy cs) : Below w.heap.size w W := h.1
theorem SS.lt (h : SS w W X Y G cx cy cs) : G < W.heap.size := h.2.2.2.1.lt
theorem SS.c (h : SS w W X Y G cx cy cs) (j : Nat) (v : Value) (hv : cs[j]? = some v) : W.cell? ⟨G, j, none⟩ = some v := h.2.2.2.1.cell j v (by simpa using hv)
theorem SS.f (h : SS w W X Y G cx cy cs) (j : Nat) : W.frozen? ⟨G, j, none⟩ = false := h.2.2.2.1.frozen j
theorem SS.rx (h : SS w W X Y G cx cy cs) : W.rangeAt X 0 cx := fun j v hv => by rw [Nat.zero_add]; exact h.2.1.cell j v (by simpa using hv)
theorem SS.ry (h : SS w W X Y G cx cy cs) : W.rangeAt Y 0 cy := fun j v hv => by rw [Nat.zero_add]; exact h.2.2.1.cell j v (by simpa using hv)
theorem SS.rg (h : SS w W X Y G cx cy cs) : W.rangeAt G 0 cs := fun j v hv => by rw [Nat.zero_add]; exact h.2.2.2.1.cell j v (by simpa using hv)
end
theorem id_box {w : World} {B : Nat} (x : List UInt8) (hx : x.length = 32) (h : Box w B (x.map u8v).toArray 22) : RdB w (.slice (some ⟨B, 0, none⟩) 4 32) (x.take 4) := by
  have hl : (x.take 4).length = 4 := by rw [List.length_take]; omega
  unfold RdB
  rw [hl]
  refine ⟨by rw [List.length_map, hl], _, _, rfl, by decide, by decide, (fun h => by cases h), ?_⟩
  rintro ad had j u hu
  obtain rfl := Option.some.inj had
  rw [Addr.add_mid, Nat.zero_add]
  refine h.cell j u ?_
  rw [List.map_take, List.getElem?_take] at hu
  split at hu
  · simpa using hu
  · cases hu
theorem joinL_rep (k : Nat) (H : List UInt8) : joinL (List.replicate (k + 1) H) = (if k = 0 then [] else joinL (List.replicate k H) ++ [44]) ++ H := by
  unfold joinL
  rw [if_neg (by simp [List.replicate_succ])]
  rcases k with _ | k
  · simp [List.replicate_succ, Lib.join_one]
  · rw [if_neg (by omega), if_neg (by simp [List.replicate_succ])]
    have e := join_snoc (List.replicate (k + 1) H) H
    rw [if_neg (by simp [List.replicate_succ])] at e
    rw [show k + 1 + 1 = (k + 1) + 1 from rfl, List.replicate_succ' (n := k + 1), e]
theorem rd_box {w : World} {g size : Nat} {cs : List Value} {e : TypeId} (hb : Box w g cs.toArray e) (hl : cs.length = size) : RdS w size (.slice (some ⟨g, 0, none⟩) 1 1) 1 cs := by
  refine ⟨by omega, some ⟨g, 0, none⟩, 1, rfl, Nat.le_refl _, by decide, (fun h => by cases h), ?_⟩
  rintro ad had j u hu
  obtain rfl := Option.some.inj had
  rw [Addr.add_mid, Nat.zero_add]
  exact hb.cell j u (by simpa using hu)
theorem rep_snoc (j : Nat) (cs : List Value) : (List.replicate (j + 1) cs).flatten = (List.replicate j cs).flatten ++ cs := by
  rw [List.replicate_succ', List.flatten_append]
  simp
theorem idL_nine (x : List UInt8) : (hexL (x.take 4)).length ≤ 9 := by
  have h := hexL_length (x.take 4)
  have h2 : (x.take 4).length ≤ 4 := by rw [List.length_take]; omega
  omega
theorem joinL_len (k : Nat) (H : List UInt8) (hH : H.length ≤ 9) (hk : k ≤ 3) : (joinL (List.replicate k H)).length ≤ 1000 := by
  have h1 : ∀ k : Nat, (joinL (List.replicate k H)).length ≤ 1 + 10 * k := by
    intro k
    induction k with
    | zero => exact Nat.le_refl 1
    | succ k ih =>
      rw [joinL_rep]
      split
      · simp; omega
      · simp only [List.length_append, List.length_cons, List.length_nil]; omega
  have := h1 k
  omega
theorem itoa_4 : Lib.itoa 4 = [52] := by simp [Lib.itoa, Lib.decDigits]
theorem dec_5 : Lib.decDigits 5 = [53] := by simp [Lib.decDigits]
/-- The words that tell a kind. -/
def headL (K : Int) : List UInt8 :=
  if K = 1 then [116, 111, 111, 107, 32, 51, 32] else if K = 2 then [114, 101, 102, 117, 115, 101, 100, 32, 51, 32, 52, 32] else if K = 3 then [97, 115, 107, 32, 51, 32] else if K = 4 then [103, 101, 116, 32, 51, 32] else if K = 5 then [103, 111, 110, 101, 32]
  else if K = 6 then [98, 108, 111, 99, 107, 32, 52, 32] else if K = 7 then [98, 97, 99, 107, 32, 52, 32] else if K = 8 then [119, 111, 114, 107, 32, 53, 32, 52, 32] else if K = 9 then [104, 111, 109, 101, 32, 51, 32] else [119, 97, 110, 116, 32, 51, 32]
theorem headL_len (K : Int) : (headL K).length ≤ 20 := by
  unfold headL
  repeat' split
  all_goals decide
theorem say_head (K : Int) (hK : 1 ≤ K ∧ K ≤ 10) (x : List UInt8) (ids : List (List UInt8)) : sayL K 3 4 x ids 5 =
    if K = 1 ∨ K = 9 then headL K ++ idL x ++ [32] ++ joinL (ids.map idL) else if K = 4 ∨ K = 5 ∨ K = 8 then headL K ++ joinL (ids.map idL) else headL K ++ idL x := by
  rcases (by omega : K = 1 ∨ K = 2 ∨ K = 3 ∨ K = 4 ∨ K = 5 ∨ K = 6 ∨ K = 7 ∨ K = 8 ∨ K = 9 ∨ K = 10) with rfl | rfl | rfl | rfl | rfl | rfl | rfl | rfl | rfl | rfl
  all_goals simp [sayL, headL, itoa_3, itoa_4, dec_5]
end Go.Proofs.YtodcbcpjlhlakaaDoor.W
