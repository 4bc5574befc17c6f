/- TxnsBounds: the transaction that it makes, as plain lists; rows whose cells are known. -/
import Derived.Test.YtfggkljgfadacaaT29
import Derived.Laws.MakeOwn
set_option linter.unusedVariables false
set_option linter.unusedSimpArgs false
namespace Go.Proofs.Ytfggkljgfadacaa.W
open Go.RowKit Go.Proofs.Ytfggkljgfadacaa.B Go.Proofs

/-- Blocks of other kinds are other blocks. -/
theorem OwS.apart {w w' : World} {base : Nat} {e e' : TypeId} {size g : Nat} {v : Value} {n : Nat} {xs : List Value} {cur : Array Value} {fr : Nat × Nat} (h : OwS w base e size v n xs) (hg : w.grownBy w' (some g)) (hc : w.heap[g]? = some (.cells cur e' fr)) (hne : e ≠ e') : OwS w' base e size v n xs := by
  refine h.kept hg ?_
  rcases h.2 with ⟨rfl, _⟩ | ⟨g', off, cap, cur', rfl, _, h3, _⟩
  · exact .inl rfl
  · refine .inr (fun e2 => ?_)
    injection e2 with e2
    have e3 : g' = g := e2
    rw [e3, hc] at h3
    injection h3 with h3
    injection h3 with _ h3 _
    exact hne h3.symm
theorem Box.apart {w w' : World} {B g : Nat} {cs : Array Value} {t e' : TypeId} {cur : Array Value} {fr : Nat × Nat} (h : Box w B cs t) (hg : w.grownBy w' (some g)) (hc : w.heap[g]? = some (.cells cur e' fr)) (hne : t ≠ e') : Box w' B cs t := by
  refine h.grown hg (fun e => ?_)
  injection e with e
  have h' : w.heap[B]? = some (.cells cs t (0, 0)) := h
  rw [← e, hc] at h'
  injection h' with h'
  injection h' with _ h' _
  exact hne h'.symm
theorem OwS.kind {w : World} {base : Nat} {e : TypeId} {size : Nat} {v : Value} {n : Nat} {xs : List Value} (h : OwS w base e size v n xs) (g : Nat) (hg : v.ownBlock = some g) : ∃ cur, w.heap[g]? = some (.cells cur e (0, 0)) := by
  rcases h.2 with ⟨rfl, _⟩ | ⟨g', off, cap, cur', rfl, _, h3, _⟩
  · simp [Value.ownBlock] at hg
  · simp [Value.ownBlock] at hg
    subst hg
    exact ⟨_, h3⟩
/-- An input's cells: its number, its script, its witness. -/
def cellI (y : Nat × Value × Value) : List Value := Z32 ++ [Value.int .u32 (y.1 : Int), y.2.1, Value.int .u32 0, y.2.2]
def EI (w : World) (own : Option Nat) (cs : List Value) (y : Nat × Value × Value) : Prop := cs = cellI y
def EO (w : World) (own : Option Nat) (cs : List Value) (s : Value) : Prop := cs = [Value.int .u64 0, s]
theorem built55c (a : Int) : Try.prog.built 55 [(1, .int .u32 a)] = some ((Z32 ++ [Value.int .u32 a, Value.slice none 0 0, Value.int .u32 0, Value.slice none 0 0] : List Value).toArray) := by
  obtain ⟨it, hi, hzz⟩ := Option.map_eq_some_iff.1 info55
  simp only [Prod.mk.injEq] at hzz
  rw [built_of Try.underlying55 hi hzz.1 (places := [(0, 32), (32, 1), (33, 1), (34, 1), (35, 1)]) (by kernel_rfl)]
  have hz32 : Z32.length = 32 := rfl
  have h1 := fill_step (([(0, 32), (32, 1), (33, 1), (34, 1), (35, 1)] : List (Nat × Nat)).toArray[·]?) 1 32 [Value.int .u32 a] (.int .u32 a) rfl rfl Z32 [Value.int .u32 0] [Value.slice none 0 0, Value.int .u32 0, Value.slice none 0 0] hz32 rfl []
  simp only [List.append_assoc, List.singleton_append, List.cons_append, List.nil_append] at h1
  exact h1.trans rfl
def nilV : Value := .slice none 0 0
def ysF (N : Nat) (s wv : Value) : List (Nat × Value × Value) := (List.range N).map fun i => (i, if i + 1 = N then s else nilV, if i = 0 then wv else nilV)
theorem ysF_length (N : Nat) (s wv : Value) : (ysF N s wv).length = N := by simp [ysF]
theorem ysF_nil (N : Nat) : ysF N nilV nilV = (List.range N).map fun i => (i, nilV, nilV) := by simp [ysF]
theorem ysF_at (N : Nat) (s wv : Value) (i : Nat) (h : i < N) : (ysF N s wv)[i]? = some (i, if i + 1 = N then s else nilV, if i = 0 then wv else nilV) := by
  unfold ysF
  rw [List.getElem?_map, List.getElem?_range h]
  rfl
theorem ysF_script (N : Nat) (s s' wv : Value) (h : 1 ≤ N) : (ysF N s wv).set (N - 1) (N - 1, s', if N - 1 = 0 then wv else nilV) = ysF N s' wv := by
  apply List.ext_getElem?
  intro j
  by_cases hj : j < N
  · rw [ysF_at N s' wv j hj]
    by_cases hjn : j = N - 1
    · subst hjn
      rw [List.getElem?_set_self (by rw [ysF_length]; omega), if_pos (show N - 1 + 1 = N by omega)]
    · rw [List.getElem?_set_ne (by omega), ysF_at N s wv j hj, if_neg (show ¬ j + 1 = N by omega), if_neg (show ¬ j + 1 = N by omega)]
  · rw [List.getElem?_eq_none (by rw [List.length_set, ysF_length]; omega), List.getElem?_eq_none (by rw [ysF_length]; omega)]
theorem ysF_wit (N : Nat) (s wv wv' : Value) (h : 1 ≤ N) : (ysF N s wv).set 0 (0, if 0 + 1 = N then s else nilV, wv') = ysF N s wv' := by
  apply List.ext_getElem?
  intro j
  by_cases hj : j < N
  · rw [ysF_at N s wv' j hj]
    by_cases hjn : j = 0
    · subst hjn
      rw [List.getElem?_set_self (by rw [ysF_length]; omega), if_pos rfl]
    · rw [List.getElem?_set_ne (by omega), ysF_at N s wv j hj, if_neg hjn, if_neg hjn]
  · rw [List.getElem?_eq_none (by rw [List.length_set, ysF_length]; omega), List.getElem?_eq_none (by rw [ysF_length]; omega)]
def zB (n : Nat) : List UInt8 := List.replicate n 0
/-- The inputs that are made. -/
def xsF (N C I J : Nat) : List LIn := (List.range N).map fun i => { prev := zB 32, vout := i, script := if i + 1 = N then zB C else [], seq := 0, wit := if i = 0 then List.replicate I (zB J) else [] }
def soF (M : Nat) (s : Value) : List Value := (List.range M).map fun i => if i = 0 then s else nilV
def osF (M C : Nat) : List LOut := (List.range M).map fun i => { value := 0, script := if i = 0 then zB C else [] }
def txF (N M C I J : Nat) : LTx := { ver := 2, ins := xsF N C I J, outs := osF M C, lock := 0 }
theorem soF_set (M : Nat) (s s' : Value) (h : 1 ≤ M) : (soF M s).set 0 s' = soF M s' := by
  apply List.ext_getElem?
  intro j
  unfold soF
  by_cases hj : j < M
  · by_cases h0 : j = 0
    · subst h0
      rw [List.getElem?_set_self (by simp; omega), List.getElem?_map, List.getElem?_range hj]; simp
    · rw [List.getElem?_set_ne (by omega), List.getElem?_map, List.getElem?_map, List.getElem?_range hj]
      simp [h0]
  · rw [List.getElem?_eq_none (by simp; omega), List.getElem?_eq_none (by simp; omega)]
theorem soF_nil (M : Nat) : soF M nilV = (List.range M).map fun _ => nilV := by simp [soF]
theorem Z32_eq : Z32 = (zB 32).map u8v := rfl
/-- They read so. -/
theorem xsF_rd {w : World} {base : Nat} {v : Value} {N C I J : Nat} {s wv : Value} (h : OwG EI 55 36 w base v (ysF N s wv)) (hs : RdB w s (zB C)) (hw : RdW w wv (List.replicate I (zB J))) (hN : N < 4294967296) : RdIns w v (xsF N C I J) := by
  obtain ⟨A, c, rfl, h1, h2, h3, h4⟩ := OwG.rd (R := fun w cs y => cs = cellI y) (fun w own cs y h => h) h
  have hl : (ysF N s wv).length = (xsF N C I J).length := by simp [ysF, xsF]
  refine ⟨A, c, by rw [hl], by rw [← hl]; exact h1, h2, h3, fun ad had hne => ?_⟩
  obtain ⟨g, o, rfl, h5⟩ := h4 ad had (fun e => hne (List.eq_nil_of_length_eq_zero (by rw [← hl, e]; rfl)))
  refine ⟨g, o, rfl, fun j x hx => ?_⟩
  have hj : j < N := by have := (List.getElem?_eq_some_iff.1 hx).1; simpa [xsF] using this
  obtain ⟨cs, h6, h7, h8⟩ := h5 j _ (ysF_at N s wv j hj)
  refine ⟨cs, h6, ?_, h8⟩
  unfold xsF at hx
  rw [List.getElem?_map, List.getElem?_range hj] at hx
  obtain rfl := Option.some.inj hx
  rw [h7]
  refine ⟨if j + 1 = N then s else nilV, if j = 0 then wv else nilV, ?_, by simp [zB], ?_, ?_, by simp; omega, by simp⟩
  · unfold cellI
    rw [Z32_eq]
    rfl
  · by_cases hjn : j + 1 = N
    · simp only [hjn, if_true]; exact hs
    · simp only [hjn, if_false]; exact RdB.nil w
  · by_cases hj0 : j = 0
    · simp only [hj0, if_true]; exact hw
    · simp only [hj0, if_false]; exact RdW.nil w
theorem osF_rd {w : World} {base : Nat} {v : Value} {M C : Nat} {s : Value} (h : OwG EO 57 2 w base v (soF M s)) (hs : RdB w s (zB C)) : RdOuts w v (osF M C) := by
  obtain ⟨A, c, rfl, h1, h2, h3, h4⟩ := OwG.rd (R := fun w cs y => cs = [Value.int .u64 0, y]) (fun w own cs y h => h) h
  have hl : (soF M s).length = (osF M C).length := by simp [soF, osF]
  refine ⟨A, c, by rw [hl], by rw [← hl]; exact h1, h2, h3, fun ad had hne => ?_⟩
  obtain ⟨g, o, rfl, h5⟩ := h4 ad had (fun e => hne (List.eq_nil_of_length_eq_zero (by rw [← hl, e]; rfl)))
  refine ⟨g, o, rfl, fun j x hx => ?_⟩
  have hj : j < M := by have := (List.getElem?_eq_some_iff.1 hx).1; simpa [osF] using this
  obtain ⟨cs, h6, h7, h8⟩ := h5 j (if j = 0 then s else nilV) (by unfold soF; rw [List.getElem?_map, List.getElem?_range hj]; rfl)
  refine ⟨cs, h6, ?_, h8⟩
  unfold osF at hx
  rw [List.getElem?_map, List.getElem?_range hj] at hx
  obtain rfl := Option.some.inj hx
  rw [h7]
  refine ⟨if j = 0 then s else nilV, rfl, ?_, by simp⟩
  by_cases hj0 : j = 0
  · simp only [hj0, if_true]; exact hs
  · simp only [hj0, if_false]; exact RdB.nil w
/-- It may be just if the numbers are in their bounds. -/
theorem txF_may (N M C I J : Nat) : mayT (txF N M C I J) ↔ ((1 ≤ N ∧ N ≤ 50) ∧ 1 ≤ M ∧ M ≤ 50) ∧ C ≤ 500 ∧ I ≤ 10 ∧ (J ≤ 500 ∨ I = 0) := by
  constructor
  · rintro ⟨h1, h2, h3, h4, h5, h6⟩
    have hN : 1 ≤ N ∧ N ≤ 50 := by simp [txF, xsF] at h3 h4; omega
    have hM : 1 ≤ M ∧ M ≤ 50 := by simp [txF, osF] at h5 h6; omega
    have hl := h1 _ (List.mem_map.2 ⟨N - 1, List.mem_range.2 (by omega), rfl⟩)
    have h0 := h1 _ (List.mem_map.2 ⟨0, List.mem_range.2 (by omega), rfl⟩)
    have hc := hl.1
    simp only [show N - 1 + 1 = N by omega, if_true, zB, List.length_replicate] at hc
    have hi := h0.2.1
    simp only [if_true, List.length_replicate] at hi
    refine ⟨⟨hN, hM⟩, hc, hi, ?_⟩
    by_cases hI : I = 0
    · exact .inr hI
    · have := h0.2.2 (zB J) (by simp [hI])
      simp [zB] at this
      exact .inl this
  · rintro ⟨⟨hN, hM⟩, hC, hI, hJ⟩
    refine ⟨fun x hx => ?_, fun y hy => ?_, by simp [txF, xsF]; omega, by simp [txF, xsF]; omega, by simp [txF, osF]; omega, by simp [txF, osF]; omega⟩
    · obtain ⟨i, hi, rfl⟩ := List.mem_map.1 hx
      refine ⟨?_, ?_, fun b hb => ?_⟩
      · dsimp only
        split <;> simp [zB]
        omega
      · dsimp only
        split <;> simp
        omega
      · dsimp only at hb
        split at hb
        · simp at hb
          obtain ⟨h0, rfl⟩ := hb
          simp [zB]
          omega
        · simp at hb
    · obtain ⟨i, hi, rfl⟩ := List.mem_map.1 hy
      unfold okOut
      dsimp only
      split <;> simp [zB]
      omega
end Go.Proofs.Ytfggkljgfadacaa.W
