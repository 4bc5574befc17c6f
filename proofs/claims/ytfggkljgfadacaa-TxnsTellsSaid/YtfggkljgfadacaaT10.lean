/- An input built of 32 bytes and a number; a row of one input: without opening the cells. -/
import Derived.Test.YtfggkljgfadacaaT9
import Derived.Great.BuildSlice
set_option linter.unusedVariables false
set_option linter.unusedSimpArgs false
namespace Go.Proofs.Ytfggkljgfadacaa.W
open Go.RowKit Go.Proofs.Ytfggkljgfadacaa.B Go.Proofs

section
variable {P : Program}
theorem wpList_build_to {ops : Array Oper} {rest : List Oper} {o : Oper} {a : Act} {w : World} {Q : Exit → Act → World → Prop} (hg : o.guard = none) (t : TypeId) (parts : Array (Nat × Operand)) (ho : o.op = .build t parts) (cells : Array Value)
    (hf : P.built t (parts.map fun (i, x) => (i, a.eval x)).toList = some cells) (h : wpList P ops Q rest (a.put o.dst (.agg cells)) w) : wpList P ops Q (o :: rest) a w :=
  wpList_build hg t parts ho (by rw [hf]; rfl) (by rw [hf]; exact h)
end
theorem info55 : (Try.prog.info? 55).map (fun i => (i.zero, i.size, i.bytes)) = some (some (.agg (Z32 ++ [Value.int .u32 0, Value.slice none 0 0, Value.int .u32 0, Value.slice none 0 0]).toArray), 36, 96) := by kernel_rfl
theorem set_all : ∀ (cs pre rest : List Value), rest.length = cs.length → (cs.zipIdx pre.length).foldl (fun (a : Array Value) x => a.setIfInBounds (0 + x.2) x.1) (pre ++ rest).toArray = (pre ++ cs).toArray
  | [], pre, rest, h => by
    obtain rfl : rest = [] := List.eq_nil_of_length_eq_zero h
    rfl
  | c :: cs, pre, [], h => by cases h
  | c :: cs, pre, r :: rest, h => by
    rw [List.zipIdx_cons, List.foldl_cons]
    have e : (pre ++ r :: rest).toArray.setIfInBounds (0 + pre.length) c = ((pre ++ [c]) ++ rest).toArray := by simp
    simp only
    rw [e]
    have := set_all cs (pre ++ [c]) rest (by simpa using h)
    rw [List.length_append, List.length_singleton] at this
    rw [this]
    simp
theorem fill55 (z : Array Value) (hz : z.size = 36) (cs : List Value) (h : cs.length = 36) : Instr.fill (fun i => some (i * 36, 36)) z [(0, .agg cs.toArray)] = some cs.toArray := by
  unfold Instr.fill
  have hc : (Value.agg cs.toArray).cells = cs.toArray := rfl
  simp only [hc, List.size_toArray, h, hz, Nat.zero_mul]
  rw [if_neg (by decide)]
  unfold Instr.fill
  congr 1
  rw [← Array.foldl_toList]
  obtain ⟨z⟩ := z
  have := set_all cs [] z (by simpa [h] using hz)
  simpa using this
theorem built_of {P : Program} {t : TypeId} {fields : Array Field} {it : TypeInfo} {z : Value} {places : List (Nat × Nat)} (hu : P.underlying t = some (.struct fields)) (hi : P.info? t = some it) (hz : it.zero = some z)
    (hp : fields.toList.mapM (fun f => (P.info? f.type).map fun i => (f.offset, i.size)) = some places) (parts : List (Nat × Value)) : P.built t parts = Instr.fill (places.toArray[·]?) z.cells parts := by
  unfold Program.built
  simp only [hu, hi, hz, hp]
theorem set_pre (off : Nat) : ∀ (cs pre rest tail : List Value), rest.length = cs.length → off ≤ pre.length → (cs.zipIdx (pre.length - off)).foldl (fun (a : Array Value) x => a.setIfInBounds (off + x.2) x.1) (pre ++ rest ++ tail).toArray = (pre ++ cs ++ tail).toArray
  | [], pre, rest, tail, h, _ => by
    obtain rfl : rest = [] := List.eq_nil_of_length_eq_zero h
    rfl
  | c :: cs, pre, [], tail, h, _ => by cases h
  | c :: cs, pre, r :: rest, tail, h, ho => by
    rw [List.zipIdx_cons, List.foldl_cons]
    have e0 : off + (pre.length - off) = pre.length := by omega
    have e : (pre ++ r :: rest ++ tail).toArray.setIfInBounds (off + (pre.length - off)) c = ((pre ++ [c]) ++ rest ++ tail).toArray := by rw [e0]; simp
    simp only
    rw [e]
    have := set_pre off cs (pre ++ [c]) rest tail (by simpa using h) (by simp; omega)
    rw [List.length_append, List.length_singleton] at this
    rw [show pre.length - off + 1 = pre.length + 1 - off by omega, this]
    simp
theorem fill_step (places : Nat → Option (Nat × Nat)) (i off : Nat) (cs : List Value) (v : Value) (hp : places i = some (off, cs.length)) (hv : v.cells = cs.toArray) (pre rest tail : List Value) (hpre : pre.length = off) (hrest : rest.length = cs.length) (parts : List (Nat × Value)) :
    Instr.fill places (pre ++ rest ++ tail).toArray ((i, v) :: parts) = Instr.fill places (pre ++ cs ++ tail).toArray parts := by
  rw [Instr.fill]
  simp only [hp, hv, List.size_toArray]
  rw [if_neg (by simp; omega), ← Array.foldl_toList]
  have h := set_pre off cs pre rest tail hrest (by omega)
  rw [show pre.length - off = 0 by omega] at h
  congr 1
  simpa using h
theorem built55 (cs : List Value) (h : cs.length = 32) (n : Int) : Try.prog.built 55 [(0, .agg cs.toArray), (1, .int .u32 n)] = some ((cs ++ [Value.int .u32 n, Value.slice none 0 0, Value.int .u32 0, Value.slice none 0 0] : List Value).toArray) := by
  obtain ⟨it, hi, hzz⟩ := Option.map_eq_some_iff.1 info55
  simp only [Prod.mk.injEq] at hzz
  rw [built_of Try.underlying55 hi hzz.1 (places := [(0, 32), (32, 1), (33, 1), (34, 1), (35, 1)]) (by kernel_rfl)]
  have hz32 : Z32.length = 32 := rfl
  have h1 := fill_step (([(0, 32), (32, 1), (33, 1), (34, 1), (35, 1)] : List (Nat × Nat)).toArray[·]?) 0 0 cs (.agg cs.toArray) (by rw [h]; rfl) rfl [] Z32 [Value.int .u32 0, Value.slice none 0 0, Value.int .u32 0, Value.slice none 0 0] rfl (by rw [h, hz32]) [(1, .int .u32 n)]
  have h2 := fill_step (([(0, 32), (32, 1), (33, 1), (34, 1), (35, 1)] : List (Nat × Nat)).toArray[·]?) 1 32 [Value.int .u32 n] (.int .u32 n) rfl rfl cs [Value.int .u32 0] [Value.slice none 0 0, Value.int .u32 0, Value.slice none 0 0] h rfl []
  simp only [List.nil_append, List.append_assoc, List.singleton_append] at h1 h2
  exact h1.trans (h2.trans rfl)
end Go.Proofs.Ytfggkljgfadacaa.W
