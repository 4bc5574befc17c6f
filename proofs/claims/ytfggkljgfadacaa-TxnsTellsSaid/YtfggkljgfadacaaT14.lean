/- bytes.Equal; how much is left behind reads. -/
import Derived.Test.YtfggkljgfadacaaT13
set_option linter.unusedVariables false
set_option linter.unusedSimpArgs false
namespace Go.Proofs.Ytfggkljgfadacaa.W
open Go.RowKit Go.Proofs.Ytfggkljgfadacaa.B Go.Proofs

theorem equal_any (a b : Value) (X Y : List UInt8) (w : World) (ha : RdB w a X) (hb : RdB w b Y) :
    Calls Try.prog 85 #[a, b] w fun e w' => e = .returned (.bool (X == Y)) ∧ w = w' := by
  have hca := run_str (P := Try.prog) 24 9 5 Try.underlying24 Try.underlying5 Try.underlying9 ha
  have hcb := run_str (P := Try.prog) 24 9 5 Try.underlying24 Try.underlying5 Try.underlying9 hb
  clear ha hb
  go_enter Try.func85, Try.ntmps85
  go_wp2
  go_ret
  exact ⟨rfl, rfl⟩
theorem grown_any {w a : World} (h : w.grownBy a none) (row : Option Nat) : w.grownBy a row := ⟨h.os, h.tape, h.output, h.size, fun i hi _ => h.block i hi (by simp)⟩
theorem below_al (w : World) (o : Obj) : Below w.heap.size w (w.alloc o) := (Below.refl _ _).alloc (Nat.le_refl _) o
theorem below_dr (w : World) : Below w.heap.size w w.drew := (Below.refl _ _).drew
theorem OwW.form {w : World} {base : Nat} {v : Value} {ws : List (List UInt8)} (h : OwW w base v ws) : ∃ A c, v = .slice A ws.length c := by
  obtain ⟨zs, h1, _⟩ := h
  rcases h1.2 with ⟨rfl, h⟩ | ⟨g, off, cap, cur, rfl, _⟩
  · exact ⟨none, 0, by rw [h]⟩
  · exact ⟨_, _, rfl⟩
theorem Box.four {w : World} {B : Nat} {v0 v1 v2 v3 : Value} {t : TypeId} (h : Box w B #[v0, v1, v2, v3] t) :
    w.cell? ⟨B, 0, none⟩ = some v0 ∧ w.cell? ⟨B, 1, none⟩ = some v1 ∧ w.cell? ⟨B, 2, none⟩ = some v2 ∧ w.cell? ⟨B, 3, none⟩ = some v3 ∧ (∀ j, w.frozen? ⟨B, j, none⟩ = false) :=
  ⟨h.cell 0 _ rfl, h.cell 1 _ rfl, h.cell 2 _ rfl, h.cell 3 _ rfl, fun j => h.frozen j⟩
theorem RSt.box {w W : World} {B R G : Nat} {l : List UInt8} {b : Bool} {gcs : List Value} (h : RSt w W B R G l b gcs) : Box W R #[.int .u32 0, .slice none 0 0, .slice none 0 0, .int .u32 0] 51 := h.2.2.1
theorem set4_box {w : World} {R : Nat} {x0 x1 x2 x3 : Value} {t : TypeId} (h : Box w R #[x0, x1, x2, x3] t) (v0 v1 v2 v3 : Value) :
    Box ((((w.setCell ⟨R, 0, none⟩ v0).setCell ⟨R, 1, none⟩ v1).setCell ⟨R, 2, none⟩ v2).setCell ⟨R, 3, none⟩ v3) R #[v0, v1, v2, v3] t :=
  Box.set (cs := [v0, v1, v2, x3]) (Box.set (cs := [v0, v1, x2, x3]) (Box.set (cs := [v0, x1, x2, x3]) (Box.set (cs := [x0, x1, x2, x3]) h 0 v0) 1 v1) 2 v2) 3 v3
theorem set4_grown (w : World) (R : Nat) (v0 v1 v2 v3 : Value) : w.grownBy ((((w.setCell ⟨R, 0, none⟩ v0).setCell ⟨R, 1, none⟩ v1).setCell ⟨R, 2, none⟩ v2).setCell ⟨R, 3, none⟩ v3) (some R) :=
  grown_trans (grown_trans (grown_trans (grown_set _ _ _ _) (grown_set _ _ _ _)) (grown_set _ _ _ _)) (grown_set _ _ _ _)
theorem iter_le {α : Type} (f : St → α × St) (hf : ∀ s, (f s).2.1.length ≤ s.1.length) (k : Nat) (s : St) : (iter f k s).2.1.length ≤ s.1.length := by
  induction k with
  | zero => exact Nat.le_refl _
  | succ k ih => exact Nat.le_trans (hf _) ih
theorem rRow_le (s : St) : (rRow s).2.1.length ≤ s.1.length := by
  unfold rRow
  exact Nat.le_trans (rtake_le_len _ _ _) (rcount_le_len _ _ _)
theorem rWit_le (s : St) : (rWit s).2.1.length ≤ s.1.length := by
  unfold rWit
  exact Nat.le_trans (iter_le rRow rRow_le _ _) (rcount_le_len _ _ _)
theorem rIn_le (s : St) : (rIn s).2.1.length ≤ s.1.length := by
  have h1 := rtake_le_len 32 s.1 s.2
  have h2 := rnum_le_len 4 (rtake 32 s.1 s.2).2.1 (rtake 32 s.1 s.2).2.2
  have h3 := rRow_le (rnum 4 (rtake 32 s.1 s.2).2.1 (rtake 32 s.1 s.2).2.2).2
  have h4 := rnum_le_len 4 (rRow (rnum 4 (rtake 32 s.1 s.2).2.1 (rtake 32 s.1 s.2).2.2).2).2.1 (rRow (rnum 4 (rtake 32 s.1 s.2).2.1 (rtake 32 s.1 s.2).2.2).2).2.2
  unfold rIn
  simp only at *
  omega
theorem rOut_le (s : St) : (rOut s).2.1.length ≤ s.1.length := by
  have h2 := rnum_le_len 8 s.1 s.2
  have h3 := rRow_le (rnum 8 s.1 s.2).2
  unfold rOut
  simp only at *
  omega
theorem rOuts_le (s : St) : (rOuts s).2.1.length ≤ s.1.length := by
  unfold rOuts
  exact Nat.le_trans (iter_le rOut rOut_le _ _) (rcount_le_len _ _ _)
theorem rcount_top (top : Int) (l : List UInt8) (b : Bool) (h0 : 0 ≤ top) : ((rcount top l b).1 : Int) ≤ top := by
  unfold rcount
  simp only
  split
  · exact h0
  · omega
theorem rMark_le (s : St) : (rMark s).2.1.length ≤ s.1.length := by
  unfold rMark
  simp only
  split
  · split
    · exact Nat.le_trans (rcount_le_len _ _ _) (Nat.le_trans (rtake_le_len _ _ _) (rcount_le_len _ _ _))
    · exact Nat.le_trans (rcount_le_len _ _ _) (Nat.le_trans (rtake_le_len _ _ _) (Nat.le_trans (rtake_le_len _ _ _) (rcount_le_len _ _ _)))
  · exact rcount_le_len _ _ _
theorem rcount_50 (l : List UInt8) (b : Bool) : (rcount 50 l b).1 ≤ 50 := by have := rcount_top 50 l b (by omega); omega
theorem rMark_top (s : St) : (rMark s).1.2 ≤ 50 := by
  unfold rMark
  simp only
  split
  · split <;> exact rcount_50 _ _
  · exact rcount_50 _ _
/-- Where an element of a row of one's own lies. -/
theorem OwG.block {α : Type} {E : World → Option Nat → List Value → α → Prop} {e : TypeId} {size : Nat} {w : World} {base : Nat} {A : Option Addr} {n c : Nat} {ys : List α} (h : OwG E e size w base (.slice A n c) ys) (k : Nat) (hk : k < ys.length) :
    ∃ g o, A = some ⟨g, o, none⟩ ∧ base ≤ g ∧ g < w.heap.size ∧ ∀ j, j < size → (w.cell? ⟨g, o + (k * size + j), none⟩).isSome = true ∧ w.frozen? ⟨g, o + (k * size + j), none⟩ = false := by
  obtain ⟨zs, h1, h2⟩ := h
  rcases h1.2 with ⟨q, h0⟩ | ⟨g, off, cap, cur, q, q1, q2, q3, q4, q5, q6⟩
  · omega
  · injection q with e1 e2 e3
    subst e1 e2 e3
    refine ⟨g, off, rfl, q1, (Array.getElem?_eq_some_iff.1 q2).1, fun j hj => ⟨?_, ?_⟩⟩
    · have m1 : k * size + size ≤ ys.length * size := by rw [← Nat.succ_mul]; exact Nat.mul_le_mul_right _ (by omega)
      have m2 := Nat.mul_le_mul_right size q3
      simp only [World.cell?, q2]
      simp
      omega
    · simp [World.frozen?, q2]
/-- The witness of an input of one's own turned. -/
theorem InE.setWit {base base' : Nat} {w : World} {g o : Nat} {wv : Value} {a : List (List UInt8)} {x : LIn} (ha : OwW w base' wv a) (hb : base ≤ base') (hg : g < base') :
    ∀ cs : List Value, cs.length = 36 → InE base w (some g) cs x → InE base (w.setCell ⟨g, o, none⟩ wv) (some g) (cs.set 35 wv) { x with wit := a } := by
  rintro cs hcs ⟨sv, wv0, rfl, h1, h2, h3, h4⟩
  have hs := grown_set w g o wv
  have hl : (x.prev.map u8v).length = 32 := by rw [List.length_map]; exact h1
  refine ⟨sv, wv, ?_, h1, h2.kept hs h2.2, (OwV.of ha hb (fun k hk => by injection hk with hk; omega)).kept hs (.inl rfl), h4⟩
  rw [List.set_append_right _ _ (by omega), hl]
  rfl
theorem InE.at {base : Nat} {w : World} {g o : Nat} {v : Value} : ∀ cs x, InE base w (some g) cs x → InE base (w.setCell ⟨g, o, none⟩ v) (some g) cs x :=
  fun cs x h => InE.grow (grown_set w g o v) (.inl rfl) cs x h
/-- So many witnesses, where there is a mark. -/
def rW (mk : Bool) (k : Nat) (s : St) : List (List (List UInt8)) × St := if mk then iter rWit k s else ([], s)
theorem rW_snoc (k : Nat) (s : St) {ws : List (List (List UInt8))} {s' s'' : St} {a : List (List UInt8)} (h : rW true k s = (ws, s')) (ha : rWit s' = (a, s'')) : rW true (k + 1) s = (ws ++ [a], s'') := by
  unfold rW at *
  simp only [if_true] at *
  unfold iter
  rw [h, ha]
theorem rW_false (k : Nat) (s : St) : rW false k s = ([], s) := rfl
theorem rW_length (mk : Bool) (k : Nat) (s : St) {ws : List (List (List UInt8))} {s' : St} (h : rW mk k s = (ws, s')) : ws.length = if mk then k else 0 := by
  unfold rW at h
  cases mk with
  | true => simp only [if_true] at *; rw [← iter_length rWit k s, h]
  | false => simp at *; exact h.1 ▸ rfl
theorem setTo_nil (xs : List LIn) : setTo xs [] = xs := by simp [setTo, setWits]
theorem rParts_of (mk : Bool) (n : Nat) (s : St) {xs : List LIn} {ys : List LOut} {ws : List (List (List UInt8))} {s1 s2 s3 : St} (h1 : iter rIn n s = (xs, s1)) (h2 : rOuts s1 = (ys, s2)) (h3 : rW mk n s2 = (ws, s3)) : rParts mk n s = ((setTo xs ws, ys), s3) := by
  have hx : xs.length = n := by have := iter_length rIn n s; rw [h1] at this; exact this
  have hw := rW_length mk n s2 h3
  unfold rParts rW at *
  simp only [h1, h2]
  cases mk with
  | true =>
    simp only [if_true] at *
    rw [h3]
    unfold setTo
    rw [List.take_of_length_le (by omega), List.drop_of_length_le (by omega), List.append_nil]
  | false =>
    simp at h3 ⊢
    obtain ⟨rfl, rfl⟩ := h3
    exact ⟨(setTo_nil xs).symm, rfl⟩
end Go.Proofs.Ytfggkljgfadacaa.W
