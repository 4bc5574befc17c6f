/- What is told, the plain law: the step of a text. -/
import Derived.Test.YtodcbcpjlhlakaaDoorP0
set_option linter.unusedVariables false
set_option linter.unusedSimpArgs false
namespace Go.Proofs.YtodcbcpjlhlakaaDoor.W
open Go.RowKit Go.Proofs.YtodcbcpjlhlakaaDoor.B Go.Proofs

/-- A step as lists. -/
structure LStep where
  k : Int
  p : Int
  n : Int
  good : Bool
  bs : List UInt8
  ls : List (List UInt8)
deriving DecidableEq
def textL (s : LStep) : List UInt8 := stepL s.k s.p s.n s.good s.bs s.ls
/-- No step. -/
def noS : LStep := ⟨0, 0, 0, false, [], []⟩
/-- A word's kind; 0: none. -/
def kindL (w : List UInt8) : Int :=
  if w = [116, 120] then 1 else if w = [112, 97, 99, 107] then 2 else if w = [104, 97, 118, 101] then 3 else if w = [105, 110, 102, 111] then 4
  else if w = [108, 101, 97, 118, 101] then 5 else if w = [116, 105, 99, 107] then 6 else if w = [98, 108, 111, 99, 107] then 7 else if w = [98, 97, 99, 107] then 8 else if w = [119, 111, 114, 107] then 9 else 0
def two (f : List UInt8 → List UInt8 → LStep) : List (List UInt8) → Option LStep
  | [g, b] => some (f g b)
  | _ => none
def one (f : List UInt8 → LStep) : List (List UInt8) → Option LStep
  | [b] => some (f b)
  | _ => none
def zero (z : LStep) : List (List UInt8) → Option LStep
  | [] => some z
  | _ => none
def numd (f : Int → List (List UInt8) → Option LStep) : List (List UInt8) → Option LStep
  | [] => none
  | a :: r => if (numP a).2 = true then f (numP a).1 r else none
/-- What stands behind a step's word. -/
def restP (k : Int) (ws : List (List UInt8)) : Option LStep :=
  if k = 8 then zero ⟨8, 0, 0, false, [], []⟩ ws
  else if k = 7 then two (fun g b => ⟨7, 0, 0, decide (g = [121]), bytesL b, []⟩) ws
  else if k = 1 then numd (fun p r => two (fun g b => ⟨1, p, 0, decide (g = [121]), bytesL b, []⟩) r) ws
  else if k = 2 then numd (fun p r => two (fun g b => ⟨2, p, 0, decide (g = [121]), [], listsL b⟩) r) ws
  else if k = 3 then numd (fun p r => one (fun b => ⟨3, p, 0, false, bytesL b, []⟩) r) ws
  else if k = 4 then numd (fun p r => one (fun b => ⟨4, p, 0, false, [], listsL b⟩) r) ws
  else if k = 5 then numd (fun p r => zero ⟨5, p, 0, false, [], []⟩ r) ws
  else numd (fun p r => zero ⟨k, 0, p, false, [], []⟩ r) ws
/-- The step of a text. -/
def parseL (t : List UInt8) : Option LStep :=
  match cutW 32 t with
  | [] => none
  | w :: ws => if kindL w = 0 then none else match restP (kindL w) ws with
    | none => none
    | some s => if textL s = t then some s else none
/-- What a step's text tells. -/
def onlyL (s : LStep) : LStep :=
  if s.k = 1 then ⟨1, s.p, 0, s.good, s.bs, []⟩
  else if s.k = 2 then ⟨2, s.p, 0, s.good, [], tidy s.ls⟩
  else if s.k = 3 then ⟨3, s.p, 0, false, s.bs, []⟩
  else if s.k = 4 then ⟨4, s.p, 0, false, [], tidy s.ls⟩
  else if s.k = 5 then ⟨5, s.p, 0, false, [], []⟩
  else if s.k = 6 then ⟨6, 0, s.n, false, [], []⟩
  else if s.k = 7 then ⟨7, 0, 0, s.good, s.bs, []⟩
  else if s.k = 9 then ⟨9, 0, s.n, false, [], []⟩
  else ⟨s.k, 0, 0, false, [], []⟩
theorem tidy_tidy (ls : List (List UInt8)) : tidy (tidy ls) = tidy ls := by
  unfold tidy
  by_cases h : ls = [[]]
  · rw [if_pos h]; rfl
  · rw [if_neg h, if_neg h]
theorem tidy_text (ls : List (List UInt8)) : joinL ((tidy ls).map hexL) = joinL (ls.map hexL) := by
  unfold tidy
  split
  · next h => subst h; rfl
  · rfl
theorem zb : (0 : Int) ≤ 0 ∧ (0 : Int) < 1000000000000000000 := by decide
theorem only_only (s : LStep) : onlyL (onlyL s) = onlyL s := by
  obtain ⟨k, p, n, g, bs, ls⟩ := s
  by_cases h1 : k = 1
  · subst h1; simp [onlyL, tidy_tidy]
  by_cases h2 : k = 2
  · subst h2; simp [onlyL, tidy_tidy]
  by_cases h3 : k = 3
  · subst h3; simp [onlyL, tidy_tidy]
  by_cases h4 : k = 4
  · subst h4; simp [onlyL, tidy_tidy]
  by_cases h5 : k = 5
  · subst h5; simp [onlyL, tidy_tidy]
  by_cases h6 : k = 6
  · subst h6; simp [onlyL, tidy_tidy]
  by_cases h7 : k = 7
  · subst h7; simp [onlyL, tidy_tidy]
  by_cases h9 : k = 9
  · subst h9; simp [onlyL, tidy_tidy]
  simp [onlyL, h1, h2, h3, h4, h5, h6, h7, h9]
theorem text_only (s : LStep) : textL (onlyL s) = textL s := by
  obtain ⟨k, p, n, g, bs, ls⟩ := s
  unfold onlyL textL
  simp only
  repeat' split
  all_goals first | (rename_i h; subst h; simp [stepL, tidy_text]; done) | (simp_all [stepL, tidy_text]; done) | skip
theorem itoa_free (n : Int) (h0 : 0 ≤ n) : (32 : UInt8) ∉ Lib.itoa n := fun h => by have := itoa_all n h0 _ h; simp at this
theorem good_free (g : Bool) : (32 : UInt8) ∉ goodL g := by cases g <;> decide
theorem good_back (g : Bool) : decide (goodL g = [121]) = g := by cases g <;> decide
/-- The words of a step's text. -/
theorem words_text (s : LStep) (hp : 0 ≤ s.p) (hn : 0 ≤ s.n) : cutW 32 (textL s) =
    if s.k = 1 then [[116, 120], Lib.itoa s.p, goodL s.good, hexL s.bs]
    else if s.k = 2 then [[112, 97, 99, 107], Lib.itoa s.p, goodL s.good, joinL (s.ls.map hexL)]
    else if s.k = 3 then [[104, 97, 118, 101], Lib.itoa s.p, hexL s.bs]
    else if s.k = 4 then [[105, 110, 102, 111], Lib.itoa s.p, joinL (s.ls.map hexL)]
    else if s.k = 5 then [[108, 101, 97, 118, 101], Lib.itoa s.p]
    else if s.k = 6 then [[116, 105, 99, 107], Lib.itoa s.n]
    else if s.k = 7 then [[98, 108, 111, 99, 107], goodL s.good, hexL s.bs]
    else if s.k = 8 then [[98, 97, 99, 107]]
    else if s.k = 9 then [[119, 111, 114, 107], Lib.itoa s.n]
    else [[]] := by
  obtain ⟨k, p, n, g, bs, ls⟩ := s
  simp only at hp hn
  have h1 := itoa_free p hp
  have h2 := itoa_free n hn
  have h3 := good_free g
  have h4 := (hexL_free bs).1
  have h5 := joinL_free ls
  unfold textL stepL
  simp only
  generalize Lib.itoa p = P at *
  generalize Lib.itoa n = N at *
  generalize goodL g = G at *
  generalize hexL bs = H at *
  generalize joinL (ls.map hexL) = J at *
  have c3 : ∀ w a b c : List UInt8, (32 : UInt8) ∉ w → (32 : UInt8) ∉ a → (32 : UInt8) ∉ b → (32 : UInt8) ∉ c → cutW 32 (w ++ 32 :: (a ++ 32 :: (b ++ 32 :: c))) = [w, a, b, c] := fun w a b c q1 q2 q3 q4 => by rw [cutW_app q1, cutW_app q2, cutW_app q3, cutW_none q4]
  have c2 : ∀ w a b : List UInt8, (32 : UInt8) ∉ w → (32 : UInt8) ∉ a → (32 : UInt8) ∉ b → cutW 32 (w ++ 32 :: (a ++ 32 :: b)) = [w, a, b] := fun w a b q1 q2 q3 => by rw [cutW_app q1, cutW_app q2, cutW_none q3]
  have c1 : ∀ w a : List UInt8, (32 : UInt8) ∉ w → (32 : UInt8) ∉ a → cutW 32 (w ++ 32 :: a) = [w, a] := fun w a q1 q2 => by rw [cutW_app q1, cutW_none q2]
  split
  · have := c3 [116, 120] P G H (by decide) h1 h3 h4; simpa using this
  split
  · have := c3 [112, 97, 99, 107] P G J (by decide) h1 h3 h5; simpa using this
  split
  · have := c2 [104, 97, 118, 101] P H (by decide) h1 h4; simpa using this
  split
  · have := c2 [105, 110, 102, 111] P J (by decide) h1 h5; simpa using this
  split
  · have := c1 [108, 101, 97, 118, 101] P (by decide) h1; simpa using this
  split
  · have := c1 [116, 105, 99, 107] N (by decide) h2; simpa using this
  split
  · have := c2 [98, 108, 111, 99, 107] G H (by decide) h3 h4; simpa using this
  split
  · decide
  split
  · have := c1 [119, 111, 114, 107] N (by decide) h2; simpa using this
  · decide
/-- A step that is told is read as what its text tells. -/
theorem parse_text (s : LStep) (hk : 1 ≤ s.k ∧ s.k ≤ 9) (hp : 0 ≤ s.p ∧ s.p < 1000000000) (hn : 0 ≤ s.n ∧ s.n < 1000000000) : parseL (textL s) = some (onlyL s) := by
  have hw := words_text s hp.1 hn.1
  have ho := text_only s
  have np := numP_itoa s.p hp.1 hp.2
  have nn := numP_itoa s.n hn.1 hn.2
  have hb := bytesL_hex s.bs
  have hl := listsL_join s.ls
  have hg := good_back s.good
  unfold parseL
  rw [hw]
  rw [← ho]
  rcases (by omega : s.k = 1 ∨ s.k = 2 ∨ s.k = 3 ∨ s.k = 4 ∨ s.k = 5 ∨ s.k = 6 ∨ s.k = 7 ∨ s.k = 8 ∨ s.k = 9) with h | h | h | h | h | h | h | h | h
  all_goals (rw [show onlyL s = _ from rfl] ; simp [h, kindL, restP, numd, two, one, zero, np, nn, hb, hl, hg, onlyL])
theorem kindL_cases (w : List UInt8) : kindL w = 0 ∨ (kindL w = 1 ∧ w = [116, 120]) ∨ (kindL w = 2 ∧ w = [112, 97, 99, 107]) ∨ (kindL w = 3 ∧ w = [104, 97, 118, 101]) ∨ (kindL w = 4 ∧ w = [105, 110, 102, 111]) ∨ (kindL w = 5 ∧ w = [108, 101, 97, 118, 101]) ∨ (kindL w = 6 ∧ w = [116, 105, 99, 107]) ∨ (kindL w = 7 ∧ w = [98, 108, 111, 99, 107]) ∨ (kindL w = 8 ∧ w = [98, 97, 99, 107]) ∨ (kindL w = 9 ∧ w = [119, 111, 114, 107]) := by
  unfold kindL
  repeat' split
  all_goals simp_all
theorem tidy_eq {ls : List (List UInt8)} (h : ls ≠ [[]]) : tidy ls = ls := by unfold tidy; rw [if_neg h]
theorem listsL_bounds (s : List UInt8) : (listsL s).length ≤ s.length + 1 ∧ ∀ x ∈ listsL s, 2 * x.length ≤ s.length := by
  unfold listsL
  split
  · exact ⟨by simp, fun x hx => by cases hx⟩
  · rw [wordsOf_eq, List.length_map]
    have h := cutW_bounds 44 s
    refine ⟨h.1, fun x hx => ?_⟩
    obtain ⟨y, hy, rfl⟩ := List.mem_map.1 hx
    have h1 := h.2 y hy
    have h2 := bytesL_length y
    omega
/-- What the words behind give. -/
theorem restP_ok {k : Int} {ws : List (List UInt8)} {z : LStep} (hk : 1 ≤ k ∧ k ≤ 9) (h : restP k ws = some z) {N : Nat} (hN : ∀ x ∈ ws, x.length ≤ N) :
    z.k = k ∧ (0 ≤ z.p ∧ z.p < 1000000000000000000) ∧ (0 ≤ z.n ∧ z.n < 1000000000000000000) ∧ 2 * z.bs.length ≤ N ∧ z.ls.length ≤ N + 1 ∧ (∀ x ∈ z.ls, 2 * x.length ≤ N) ∧ (z.ls ≠ [[]] → onlyL z = z) ∧ (z.ls = [[]] → (k = 2 ∧ ∃ a g b, ws = [a, g, b] ∧ z.ls = listsL b) ∨ (k = 4 ∧ ∃ a b, ws = [a, b] ∧ z.ls = listsL b)) := by
  have B : ∀ b ∈ ws, 2 * (bytesL b).length ≤ N := fun b hb => by have h1 := bytesL_length b; have h2 := hN b hb; omega
  have L1 : ∀ b ∈ ws, (listsL b).length ≤ N + 1 := fun b hb => by have h1 := (listsL_bounds b).1; have h2 := hN b hb; omega
  have L2 : ∀ b ∈ ws, ∀ x ∈ listsL b, 2 * x.length ≤ N := fun b hb x hx => by have h1 := (listsL_bounds b).2 x hx; have h2 := hN b hb; omega
  rcases (by omega : k = 8 ∨ k = 7 ∨ k = 1 ∨ k = 2 ∨ k = 3 ∨ k = 4 ∨ k = 5 ∨ k = 6 ∨ k = 9) with rfl | rfl | rfl | rfl | rfl | rfl | rfl | rfl | rfl
  · rcases ws with _ | ⟨a, r⟩
    · obtain rfl : (⟨8, 0, 0, false, [], []⟩ : LStep) = z := Option.some.inj h
      exact ⟨rfl, zb, zb, Nat.zero_le _, Nat.zero_le _, (fun x hx => by cases hx), fun _ => rfl, fun e => by cases e⟩
    · cases h
  · rcases ws with _ | ⟨g, _ | ⟨b, _ | ⟨c, r⟩⟩⟩
    · cases h
    · cases h
    · obtain rfl : (⟨7, 0, 0, decide (g = [121]), bytesL b, []⟩ : LStep) = z := Option.some.inj h
      exact ⟨rfl, zb, zb, B b (by simp), Nat.zero_le _, (fun x hx => by cases hx), fun _ => rfl, fun e => by cases e⟩
    · cases h
  · rcases ws with _ | ⟨a, r⟩
    · cases h
    · by_cases hn : (numP a).2 = true
      · have hp := numP_ok hn
        have h' : two (fun g b => ⟨1, (numP a).1, 0, decide (g = [121]), bytesL b, []⟩) r = some z := by
          have e : restP 1 (a :: r) = if (numP a).2 = true then two (fun g b => ⟨1, (numP a).1, 0, decide (g = [121]), bytesL b, []⟩) r else none := rfl
          rw [e, if_pos hn] at h
          exact h
        rcases r with _ | ⟨g, _ | ⟨b, _ | ⟨c, r⟩⟩⟩
        · cases h'
        · cases h'
        · obtain rfl : (⟨1, (numP a).1, 0, decide (g = [121]), bytesL b, []⟩ : LStep) = z := Option.some.inj h'
          refine ⟨rfl, ⟨hp.1, hp.2.1⟩, zb, ?_, ?_, ?_, ?_, ?_⟩
          · exact B b (by simp)
          · exact Nat.zero_le _
          · intro x hx; cases hx
          · intro _; rfl
          · intro e; cases e
        · cases h'
      · have e : restP 1 (a :: r) = if (numP a).2 = true then two (fun g b => ⟨1, (numP a).1, 0, decide (g = [121]), bytesL b, []⟩) r else none := rfl
        rw [e, if_neg hn] at h
        cases h
  · rcases ws with _ | ⟨a, r⟩
    · cases h
    · by_cases hn : (numP a).2 = true
      · have hp := numP_ok hn
        have h' : two (fun g b => ⟨2, (numP a).1, 0, decide (g = [121]), [], listsL b⟩) r = some z := by
          have e : restP 2 (a :: r) = if (numP a).2 = true then two (fun g b => ⟨2, (numP a).1, 0, decide (g = [121]), [], listsL b⟩) r else none := rfl
          rw [e, if_pos hn] at h
          exact h
        rcases r with _ | ⟨g, _ | ⟨b, _ | ⟨c, r⟩⟩⟩
        · cases h'
        · cases h'
        · obtain rfl : (⟨2, (numP a).1, 0, decide (g = [121]), [], listsL b⟩ : LStep) = z := Option.some.inj h'
          refine ⟨rfl, ⟨hp.1, hp.2.1⟩, zb, ?_, ?_, ?_, ?_, ?_⟩
          · exact Nat.zero_le _
          · exact L1 b (by simp)
          · exact L2 b (by simp)
          · intro hne; simp only at hne; simp [onlyL, tidy_eq hne]
          · intro e; exact .inl ⟨rfl, a, g, b, rfl, rfl⟩
        · cases h'
      · have e : restP 2 (a :: r) = if (numP a).2 = true then two (fun g b => ⟨2, (numP a).1, 0, decide (g = [121]), [], listsL b⟩) r else none := rfl
        rw [e, if_neg hn] at h
        cases h
  · rcases ws with _ | ⟨a, r⟩
    · cases h
    · by_cases hn : (numP a).2 = true
      · have hp := numP_ok hn
        have h' : one (fun b => ⟨3, (numP a).1, 0, false, bytesL b, []⟩) r = some z := by
          have e : restP 3 (a :: r) = if (numP a).2 = true then one (fun b => ⟨3, (numP a).1, 0, false, bytesL b, []⟩) r else none := rfl
          rw [e, if_pos hn] at h
          exact h
        rcases r with _ | ⟨b, _ | ⟨c, r⟩⟩
        · cases h'
        · obtain rfl : (⟨3, (numP a).1, 0, false, bytesL b, []⟩ : LStep) = z := Option.some.inj h'
          refine ⟨rfl, ⟨hp.1, hp.2.1⟩, zb, ?_, ?_, ?_, ?_, ?_⟩
          · exact B b (by simp)
          · exact Nat.zero_le _
          · intro x hx; cases hx
          · intro _; rfl
          · intro e; cases e
        · cases h'
      · have e : restP 3 (a :: r) = if (numP a).2 = true then one (fun b => ⟨3, (numP a).1, 0, false, bytesL b, []⟩) r else none := rfl
        rw [e, if_neg hn] at h
        cases h
  · rcases ws with _ | ⟨a, r⟩
    · cases h
    · by_cases hn : (numP a).2 = true
      · have hp := numP_ok hn
        have h' : one (fun b => ⟨4, (numP a).1, 0, false, [], listsL b⟩) r = some z := by
          have e : restP 4 (a :: r) = if (numP a).2 = true then one (fun b => ⟨4, (numP a).1, 0, false, [], listsL b⟩) r else none := rfl
          rw [e, if_pos hn] at h
          exact h
        rcases r with _ | ⟨b, _ | ⟨c, r⟩⟩
        · cases h'
        · obtain rfl : (⟨4, (numP a).1, 0, false, [], listsL b⟩ : LStep) = z := Option.some.inj h'
          refine ⟨rfl, ⟨hp.1, hp.2.1⟩, zb, ?_, ?_, ?_, ?_, ?_⟩
          · exact Nat.zero_le _
          · exact L1 b (by simp)
          · exact L2 b (by simp)
          · intro hne; simp only at hne; simp [onlyL, tidy_eq hne]
          · intro e; exact .inr ⟨rfl, a, b, rfl, rfl⟩
        · cases h'
      · have e : restP 4 (a :: r) = if (numP a).2 = true then one (fun b => ⟨4, (numP a).1, 0, false, [], listsL b⟩) r else none := rfl
        rw [e, if_neg hn] at h
        cases h
  · rcases ws with _ | ⟨a, r⟩
    · cases h
    · by_cases hn : (numP a).2 = true
      · have hp := numP_ok hn
        have h' : zero (⟨5, (numP a).1, 0, false, [], []⟩) r = some z := by
          have e : restP 5 (a :: r) = if (numP a).2 = true then zero (⟨5, (numP a).1, 0, false, [], []⟩) r else none := rfl
          rw [e, if_pos hn] at h
          exact h
        rcases r with _ | ⟨c, r⟩
        · obtain rfl : (⟨5, (numP a).1, 0, false, [], []⟩ : LStep) = z := Option.some.inj h'
          refine ⟨rfl, ⟨hp.1, hp.2.1⟩, zb, ?_, ?_, ?_, ?_, ?_⟩
          · exact Nat.zero_le _
          · exact Nat.zero_le _
          · intro x hx; cases hx
          · intro _; rfl
          · intro e; cases e
        · cases h'
      · have e : restP 5 (a :: r) = if (numP a).2 = true then zero (⟨5, (numP a).1, 0, false, [], []⟩) r else none := rfl
        rw [e, if_neg hn] at h
        cases h
  · rcases ws with _ | ⟨a, r⟩
    · cases h
    · by_cases hn : (numP a).2 = true
      · have hp := numP_ok hn
        have h' : zero (⟨6, 0, (numP a).1, false, [], []⟩) r = some z := by
          have e : restP 6 (a :: r) = if (numP a).2 = true then zero (⟨6, 0, (numP a).1, false, [], []⟩) r else none := rfl
          rw [e, if_pos hn] at h
          exact h
        rcases r with _ | ⟨c, r⟩
        · obtain rfl : (⟨6, 0, (numP a).1, false, [], []⟩ : LStep) = z := Option.some.inj h'
          refine ⟨rfl, zb, ⟨hp.1, hp.2.1⟩, ?_, ?_, ?_, ?_, ?_⟩
          · exact Nat.zero_le _
          · exact Nat.zero_le _
          · intro x hx; cases hx
          · intro _; rfl
          · intro e; cases e
        · cases h'
      · have e : restP 6 (a :: r) = if (numP a).2 = true then zero (⟨6, 0, (numP a).1, false, [], []⟩) r else none := rfl
        rw [e, if_neg hn] at h
        cases h
  · rcases ws with _ | ⟨a, r⟩
    · cases h
    · by_cases hn : (numP a).2 = true
      · have hp := numP_ok hn
        have h' : zero (⟨9, 0, (numP a).1, false, [], []⟩) r = some z := by
          have e : restP 9 (a :: r) = if (numP a).2 = true then zero (⟨9, 0, (numP a).1, false, [], []⟩) r else none := rfl
          rw [e, if_pos hn] at h
          exact h
        rcases r with _ | ⟨c, r⟩
        · obtain rfl : (⟨9, 0, (numP a).1, false, [], []⟩ : LStep) = z := Option.some.inj h'
          refine ⟨rfl, zb, ⟨hp.1, hp.2.1⟩, ?_, ?_, ?_, ?_, ?_⟩
          · exact Nat.zero_le _
          · exact Nat.zero_le _
          · intro x hx; cases hx
          · intro _; rfl
          · intro e; cases e
        · cases h'
      · have e : restP 9 (a :: r) = if (numP a).2 = true then zero (⟨9, 0, (numP a).1, false, [], []⟩) r else none := rfl
        rw [e, if_neg hn] at h
        cases h
/-- What is read of a text. -/
theorem parse_ok {t : List UInt8} {z : LStep} (h : parseL t = some z) : textL z = t ∧ onlyL z = z ∧ (1 ≤ z.k ∧ z.k ≤ 9) ∧ (0 ≤ z.p ∧ z.p < 1000000000000000000) ∧ (0 ≤ z.n ∧ z.n < 1000000000000000000) ∧ 2 * z.bs.length ≤ t.length ∧ z.ls.length ≤ t.length + 1 ∧ ∀ x ∈ z.ls, 2 * x.length ≤ t.length := by
  have hbd := cutW_bounds 32 t
  obtain ⟨w, ws, hw⟩ := cutW_ne 32 t
  unfold parseL at h
  rw [hw] at h hbd
  simp only at h
  split at h
  · cases h
  · next hk =>
    have hk9 : 1 ≤ kindL w ∧ kindL w ≤ 9 := by
      rcases kindL_cases w with h0 | ⟨h0, _⟩ | ⟨h0, _⟩ | ⟨h0, _⟩ | ⟨h0, _⟩ | ⟨h0, _⟩ | ⟨h0, _⟩ | ⟨h0, _⟩ | ⟨h0, _⟩ | ⟨h0, _⟩
      · exact absurd h0 hk
      all_goals omega
    split at h
    · cases h
    · next z' hr =>
      split at h
      · next ht =>
        obtain rfl := Option.some.inj h
        obtain ⟨r1, r2, r3, r4, r5, r6, r7, r8⟩ := restP_ok hk9 hr (N := t.length) (fun x hx => hbd.2 x (List.mem_cons_of_mem _ hx))
        refine ⟨ht, ?_, by rw [r1]; exact hk9, r2, r3, r4, r5, r6⟩
        by_cases hd : z'.ls = [[]]
        · exfalso
          have hwt := words_text z' r2.1 r3.1
          rw [ht, hw, hd] at hwt
          have hJ : joinL (([[]] : List (List UInt8)).map hexL) = [45] := rfl
          rcases r8 hd with ⟨e2, a, g, b, rfl, e3⟩ | ⟨e4, a, b, rfl, e3⟩
          · rw [r1, e2, hJ] at hwt
            simp at hwt
            rw [hwt.2.2.2] at e3
            rw [hd] at e3
            exact absurd e3 (by decide)
          · rw [r1, e4, hJ] at hwt
            simp at hwt
            rw [hwt.2.2] at e3
            rw [hd] at e3
            exact absurd e3 (by decide)
        · exact r7 hd
      · cases h
/-- Two small steps have one text just if what their texts tell is one. -/
theorem text_inj {a b : LStep} (ha : 1 ≤ a.k ∧ a.k ≤ 9) (hap : 0 ≤ a.p ∧ a.p < 1000000000) (han : 0 ≤ a.n ∧ a.n < 1000000000) (hb : 1 ≤ b.k ∧ b.k ≤ 9) (hbp : 0 ≤ b.p ∧ b.p < 1000000000) (hbn : 0 ≤ b.n ∧ b.n < 1000000000) (h : textL a = textL b) : onlyL a = onlyL b := by
  have h1 := parse_text a ha hap han
  have h2 := parse_text b hb hbp hbn
  rw [h, h2] at h1
  exact (Option.some.inj h1).symm
end Go.Proofs.YtodcbcpjlhlakaaDoor.W
