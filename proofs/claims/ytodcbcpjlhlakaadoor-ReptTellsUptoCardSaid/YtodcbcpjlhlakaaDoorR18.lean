/- What is told: a word's number laid where a pointer says. -/
import Derived.Test.YtodcbcpjlhlakaaDoorR17
set_option linter.unusedVariables false
set_option linter.unusedSimpArgs false
namespace Go.Proofs.YtodcbcpjlhlakaaDoor.W
open Go.RowKit Go.Proofs.YtodcbcpjlhlakaaDoor.B Go.Proofs

theorem frozen_below {w w' : World} {g j : Nat} {u : Value} (h : w.frozen? ⟨g, j, none⟩ = false) (hc : w.cell? ⟨g, j, none⟩ = some u) (hb : Below w.heap.size w w') : w'.frozen? ⟨g, j, none⟩ = false := by
  rw [hb.frozen (p := ⟨g, j, none⟩) (World.block_lt_of_cell? w _ hc)]; exact h
set_option maxHeartbeats 1000000 in
set_option maxRecDepth 100000 in
theorem numbered_any (G j C g o n c : Nat) (s : List UInt8) (u : Value) (hs : s.length ≤ 4000000000) (w : World) (he : Env w) (h1 : w.cell? ⟨C, 0, none⟩ = some (.slice (some ⟨g, o, none⟩) n c)) (hn : (0 : Int) < (n : Int)) (h2 : w.cell? ⟨g, o, none⟩ = some (.string ⟨s.toArray⟩))
    (ht : w.cell? ⟨G, j, none⟩ = some u) (hf : w.frozen? ⟨G, j, none⟩ = false) :
    Calls Tryd.prog 37 #[.pointer (some ⟨G, j, none⟩), .pointer (some ⟨C, 0, none⟩)] w fun e w' => e = .returned (.bool (numP s).2) ∧ ∃ w1, Below w.heap.size w w1 ∧ w' = w1.setCell ⟨G, j, none⟩ (.int .i64 (numP s).1) := by
  have HT := As.mk (And.intro ht hf)
  have HE := As.mk he
  have HS := As.mk hs
  obtain ⟨z, hz⟩ : ∃ z, (numP s) = z := ⟨_, rfl⟩
  have HZ := As.mk hz
  clear ht hf he hs hz
  go_enter Tryd.func37, Tryd.ntmps37
  go_wp2_with (go_at_call 38; (with_reducible refine (num_of s HS.out _ HE.out).mono ?_); rintro e w1 ⟨he, hb⟩; rw [HZ.out] at he; subst he; have HB := As.mk hb; have q1 := cell_below hb HT.out.1; have q2 := frozen_below HT.out.2 HT.out.1 hb; clear hb h1 h2)
  go_ret
  rw [HZ.out]
  exact ⟨rfl, _, HB.out, rfl⟩
end Go.Proofs.YtodcbcpjlhlakaaDoor.W
