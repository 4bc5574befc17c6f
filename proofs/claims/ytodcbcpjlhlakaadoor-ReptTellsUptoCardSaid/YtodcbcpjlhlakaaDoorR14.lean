/- What is told: bytes of a word. -/
import Derived.Test.YtodcbcpjlhlakaaDoorR13
set_option linter.unusedVariables false
set_option linter.unusedSimpArgs false
namespace Go.Proofs.YtodcbcpjlhlakaaDoor.W
open Go.RowKit Go.Proofs.YtodcbcpjlhlakaaDoor.B Go.Proofs

/-- A word's bytes; a stroke: none. -/
def bytesL (s : List UInt8) : List UInt8 := if s = [45] then [] else unhexL s
theorem unhexL_length : ∀ s : List UInt8, 2 * (unhexL s).length ≤ s.length
  | [] => by simp [unhexL]
  | [_] => by simp [unhexL]
  | a :: b :: r => by
    have := unhexL_length r
    simp only [unhexL, List.length_cons]
    omega
theorem bytesL_length (s : List UInt8) : 2 * (bytesL s).length ≤ s.length := by
  unfold bytesL
  split
  · simp
  · exact unhexL_length s
set_option maxRecDepth 100000 in
theorem bytes_any (s : List UInt8) (hs : s.length ≤ 4000000) (w : World) :
    Calls Tryd.prog 40 #[.string ⟨s.toArray⟩] w fun e w' => ∃ r, e = .returned r ∧ OwB w' w.heap.size 5 r (bytesL s) ∧ Below w.heap.size w w' := by
  by_cases h : s = [45]
  · have HE : As (bytesL s = []) := ⟨by unfold bytesL; rw [if_pos h]⟩
    subst h
    go_enter Tryd.func40, Tryd.ntmps40
    go_wp2
    go_ret
    exact ⟨_, rfl, by rw [HE.out]; exact OwS.nil _ _ _ _, Below.refl _ _⟩
  · have HE : As (bytesL s = unhexL s) := ⟨by unfold bytesL; rw [if_neg h]⟩
    have hne : (s == [45]) = false := beq_eq_false_iff_ne.2 h
    have HS := As.mk hs
    clear h hs
    go_enter Tryd.func40, Tryd.ntmps40
    go_wp2_with (go_at_call 53; (with_reducible refine (unhex_any s HS.out _).mono ?_); rintro e w1 ⟨r1, rfl, ho, hb⟩; have HO := As.mk ho; have HB := As.mk hb; clear ho hb)
    go_ret
    exact ⟨_, rfl, by rw [HE.out]; exact HO.out, HB.out⟩
end Go.Proofs.YtodcbcpjlhlakaaDoor.W
