/- How the document's Read stands while an input's witness is read. -/
import Derived.Test.YtfggkljgfadacaaT38
set_option linter.unusedVariables false
set_option linter.unusedSimpArgs false
namespace Go.Proofs.Ytfggkljgfadacaa.W
open Go.RowKit Go.Proofs.Ytfggkljgfadacaa.B Go.Proofs

/-- The witness of the input whose cell is ⟨g, c⟩ is under way; W1: the world ahead of it. -/
def QWi (w W1 W : World) (B R G g c : Nat) (l : List UInt8) (b : Bool) (gcs : List Value) (wv : Value) (part : List (List UInt8)) : Prop :=
  QSt w W B R G l b gcs ∧ (W1.setCell ⟨g, c, none⟩ wv).grownBy W (some B) ∧ OwW W W1.heap.size wv part ∧ (part = [] → wv = .slice none 0 0) ∧ G < g ∧ g < W1.heap.size ∧ W.cell? ⟨g, c, none⟩ = some wv ∧ W.frozen? ⟨g, c, none⟩ = false
section
variable {w W1 W W' : World} {B R G g c : Nat} {l l' : List UInt8} {b b' : Bool} {gcs : List Value} {wv v' : Value} {part part' : List (List UInt8)}
theorem QSt.BG (h : QSt w W B R G l b gcs) : B < G := by obtain ⟨_, _, _, _, h5, h6, h7⟩ := h; omega
theorem QWi.start (hz : QSt w W1 B R G l b gcs) (hc : W1.cell? ⟨g, c, none⟩ = some (.slice none 0 0)) (hf : W1.frozen? ⟨g, c, none⟩ = false) (hg : G < g) (hl : g < W1.heap.size) :
    QWi w W1 W1 B R G g c l b gcs (.slice none 0 0) [] :=
  ⟨hz, by rw [setCell_self hc]; exact World.grownBy.refl W1 _, OwW.nil _ _, fun _ => rfl, hg, hl, hc, hf⟩
theorem QWi.at (h : QWi w W1 W B R G g c l b gcs wv part) : QSt w W B R G l b gcs := h.1
theorem QWi.own (h : QWi w W1 W B R G g c l b gcs wv part) : OwW W W1.heap.size wv part := h.2.2.1
theorem QWi.cell (h : QWi w W1 W B R G g c l b gcs wv part) : W.cell? ⟨g, c, none⟩ = some wv := h.2.2.2.2.2.2.1
theorem QWi.frozen (h : QWi w W1 W B R G g c l b gcs wv part) : W.frozen? ⟨g, c, none⟩ = false := h.2.2.2.2.2.2.2
theorem QWi.size (h : QWi w W1 W B R G g c l b gcs wv part) : W1.heap.size ≤ W.heap.size := by
  have := h.2.1.size
  simpa [World.setCell] using this
theorem QWi.step {row : Option Nat} (h : QWi w W1 W B R G g c l b gcs wv part) (hz : QSt w W' B R G l' b' gcs) (hg : W.grownBy W' row) (hrow : ∀ k, row = some k → k = B ∨ W1.heap.size ≤ k) (ho : OwW W' W1.heap.size v' part') :
    (W1.setCell ⟨g, c, none⟩ wv).grownBy W' (some B) ∧ W'.cell? ⟨g, c, none⟩ = some wv ∧ W'.frozen? ⟨g, c, none⟩ = false := by
  obtain ⟨h1, h2, h3, h4, h5, h6, h7, h8⟩ := h
  have hB := h1.BG
  have hne : some g ≠ row := fun e => by
    rcases hrow g e.symm with h | h <;> omega
  refine ⟨World.grownBy.andThen h2 hg (fun j hj => ?_), hg.cell h7 hne, ?_⟩
  · rcases hrow j hj with h | h
    · exact .inr (by rw [h])
    · exact .inl (by simpa [World.setCell] using h)
  · rw [World.frozen?_of_block (hg.block g (World.block_lt_of_cell? W _ h7) hne)]; exact h8
theorem QWi.read (h : QWi w W1 W B R G g c l b gcs wv part) (hr : Rdr 46 W' B l' b') (hg : W.grownBy W' (some B)) : QWi w W1 W' B R G g c l' b' gcs wv part := by
  have hz := h.1.read hr hg
  have hB := h.1.BG
  have ho : OwW W' W1.heap.size wv part := h.own.read hg (by have := h.2.2.2.2.1; have := h.2.2.2.2.2.1; omega)
  obtain ⟨q1, q2, q3⟩ := h.step hz hg (fun k hk => .inl (by injection hk with hk; exact hk.symm)) ho
  exact ⟨hz, q1, ho, h.2.2.2.1, h.2.2.2.2.1, h.2.2.2.2.2.1, q2, q3⟩
theorem QWi.below (h : QWi w W1 W B R G g c l b gcs wv part) (hb : Below W.heap.size W W') : QWi w W1 W' B R G g c l b gcs wv part := by
  have hz := h.1.below hb
  have ho : OwW W' W1.heap.size wv part := h.own.below hb
  obtain ⟨q1, q2, q3⟩ := h.step hz (grown_none hb) (fun k hk => by cases hk) ho
  exact ⟨hz, q1, ho, h.2.2.2.1, h.2.2.2.2.1, h.2.2.2.2.2.1, q2, q3⟩
theorem QWi.app (h : QWi w W1 W B R G g c l b gcs wv part) (hg : W.grownBy W' wv.ownBlock) (ho : OwW W' W1.heap.size v' part') (hne : part' ≠ []) :
    QWi w W1 (W'.setCell ⟨g, c, none⟩ v') B R G g c l b gcs v' part' ∧ W'.cell? ⟨g, c, none⟩ = some wv ∧ W'.frozen? ⟨g, c, none⟩ = false ∧ QSt w W' B R G l b gcs := by
  have hlt := h.own.lt
  have hGg := h.2.2.2.2.1
  have hg1 := h.2.2.2.2.2.1
  have hB := h.1.BG
  have hz : QSt w W' B R G l b gcs := h.1.far hg (fun k hk => by have := (hlt k hk).1; omega)
  obtain ⟨q1, q2, q3⟩ := h.step hz hg (fun k hk => .inr (hlt k hk).1) ho
  have gset := grown_set W' g c v'
  refine ⟨⟨hz.far gset (fun k hk => by injection hk with hk; omega), grown_turn v' q1 (by omega), ho.read gset hg1, fun e => absurd e hne, hGg, hg1, World.cell?_setCell_same _ _ _ q2, ?_⟩, q2, q3, hz⟩
  rw [World.frozen?_setCell]; exact q3
/-- The world with the witness' cell as it was. -/
theorem QWi.undo (h : QWi w W1 W B R G g c l b gcs wv part) (hc : W1.cell? ⟨g, c, none⟩ = some (.slice none 0 0)) :
    W1.grownBy (W.setCell ⟨g, c, none⟩ (.slice none 0 0)) (some B) ∧ (W.setCell ⟨g, c, none⟩ (.slice none 0 0)).setCell ⟨g, c, none⟩ wv = W := by
  have hB := h.1.BG
  have hGg := h.2.2.2.2.1
  refine ⟨?_, ?_⟩
  · have := grown_turn (.slice none 0 0) h.2.1 (show g ≠ B by omega)
    rw [setCell_self hc] at this
    exact this
  · rw [setCell_twice, setCell_self h.cell]
theorem QWi.ins {o k n c' : Nat} {xs1 : List LIn} {x : LIn} (h : QWi w W1 W B R G g (o + k * 36 + 35) l b gcs wv part) (hc : W1.cell? ⟨g, o + k * 36 + 35, none⟩ = some (.slice none 0 0))
    (hi : OwG (InN (G + 1)) 55 36 W1 (G + 1) (.slice (some ⟨g, o, none⟩) n c') xs1) (hk : xs1[k]? = some x) : OwG (InN (G + 1)) 55 36 W (G + 1) (.slice (some ⟨g, o, none⟩) n c') (xs1.set k { x with wit := part }) := by
  rw [Nat.add_assoc] at h hc
  obtain ⟨u1, u2⟩ := h.undo hc
  have hB := h.1.BG
  have hGg := h.2.2.2.2.1
  have hg1 := h.2.2.2.2.2.1
  have h1 := OwG.read (l := []) (bad := false) (InN.read (show B < G + 1 by omega) u1) hi u1 (by omega)
  have gset := grown_set W g (o + (k * 36 + 35)) (.slice none 0 0)
  have h2 : OwW (W.setCell ⟨g, o + (k * 36 + 35), none⟩ (.slice none 0 0)) W1.heap.size wv part := h.own.read gset hg1
  have h3 := OwG.set h1 k x { x with wit := part } hk 35 (by decide) wv (InN.setWit h2 h.2.2.2.1 (by omega) hg1) InN.at
  rw [u2] at h3
  exact h3
theorem QWi.outs {mid : Nat} {ov : Value} {ys : List LOut} (h : QWi w W1 W B R G g c l b gcs wv part) (hc : W1.cell? ⟨g, c, none⟩ = some (.slice none 0 0))
    (hm : G + 1 ≤ mid) (hgm : g < mid) (ho : OwG (OutE mid) 57 2 W1 mid ov ys) : OwG (OutE mid) 57 2 W mid ov ys := by
  obtain ⟨u1, u2⟩ := h.undo hc
  have hB := h.1.BG
  have h1 := OwG.read (l := []) (bad := false) (OutE.read (show B < mid by omega) u1) ho u1 (by omega)
  have gset := grown_set (W.setCell ⟨g, c, none⟩ (.slice none 0 0)) g c wv
  have h2 := OwG.read (l := []) (bad := false) (OutE.read hgm gset) h1 gset hgm
  rw [u2] at h2
  exact h2
end
theorem qcount_top10 (l : List UInt8) (b : Bool) : (qcount 10 l b).1 ≤ 10 := by
  unfold qcount
  simp only
  split
  · simp
  · omega
end Go.Proofs.Ytfggkljgfadacaa.W
