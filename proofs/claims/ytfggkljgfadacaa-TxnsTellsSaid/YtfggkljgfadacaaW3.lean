/- R.Take: what is taken is apart of the reader. -/
import Derived.Test.YtfggkljgfadacaaWireBack
set_option linter.unusedVariables false
set_option linter.unusedSimpArgs false
namespace Go.Proofs.Ytfggkljgfadacaa.W
open Go.RowKit Go.Proofs.Ytfggkljgfadacaa.B Go.Proofs

set_option maxHeartbeats 2000000 in
theorem rtake_own (B : Nat) (l : List UInt8) (bad : Bool) (n : Int) (w : World) (h : Rdr 74 w B l bad) (hl : l.length ≤ 140737488355328) :
    Calls Try.prog 25 #[.pointer (some ⟨B, 0, none⟩), .int .i64 n] w fun e w' => ∃ r, e = .returned r ∧ OwB w' w.heap.size 5 r (rtake n l bad).1 ∧ Rdr 74 w' B (rtake n l bad).2.1 (rtake n l bad).2.2 ∧ w.grownBy w' (some B) ∧ ∀ W, w'.grownBy W r.ownBlock → Rdr 74 W B (rtake n l bad).2.1 (rtake n l bad).2.2 := by
  refine (rtake_any B l bad n w h hl).mono ?_
  rintro e w' ⟨r, rfl, ho, hr, hg⟩
  exact ⟨r, rfl, ho, hr, hg, fun W hW => hr.grown hW (fun b hb => by have := ho.lt b hb; have := h.lt; omega)⟩
end Go.Proofs.Ytfggkljgfadacaa.W
