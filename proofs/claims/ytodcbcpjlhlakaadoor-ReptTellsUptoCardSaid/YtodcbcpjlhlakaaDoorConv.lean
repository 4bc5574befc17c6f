/- '[]byte(s)' of a string that is no constant, as bytes that are read. -/
import Derived.Test.YtodcbcpjlhlakaaDoorBase
import Derived.Lib.ConvBytes
set_option linter.unusedVariables false
set_option linter.unusedSimpArgs false
namespace Go.Proofs.YtodcbcpjlhlakaaDoor.B
open Go.RowKit
variable {P : Program}
theorem conv_bytes (src dst e : TypeId) {u : TypeDesc} (hs : P.underlying src = some u) (hd : P.underlying dst = some (.slice e)) (he : P.underlying e = some (.int .u8)) (bs : List UInt8) (hl : bs.length ≤ maxLen) (w : World) :
    ∃ A c W', (convert src dst (.string ⟨bs.toArray⟩)).run P w = .ok (.slice A bs.length c) W' ∧ RdB W' (.slice A bs.length c) bs ∧ Below w.heap.size w W' := by
  have hr := Go.Lib.run_convert_string_bytes (P := P) w src dst e ⟨bs.toArray⟩ hs hd he
  have hsz : (⟨bs.toArray⟩ : ByteArray).size = bs.length := rfl
  rw [hsz] at hr
  refine ⟨_, _, _, hr, ⟨by simp, _, _, rfl, ?_, ?_, (fun h => by cases h), ?_⟩, ⟨rfl, rfl, rfl, ?_, ?_⟩⟩
  · exact grownCap_ge _ _ _ _
  · exact grownCap_le_maxLen _ _ _ _ hl
  · rintro ad had j u hu
    obtain rfl := Option.some.inj had
    rw [Addr.add_lit]
    simp only [Nat.zero_add]
    rw [List.getElem?_map] at hu
    have hj : j < bs.length := by
      rcases Nat.lt_or_ge j bs.length with h | h
      · exact h
      · rw [List.getElem?_eq_none h] at hu; cases hu
    rw [Go.Lib.bytesWorld_cell w e ⟨bs.toArray⟩ j hj]
    rw [List.getElem?_eq_getElem hj] at hu
    rw [← hu]
    simp [u8v, List.getD, hj]
  · rw [Go.Lib.bytesWorld_size]; omega
  · intro i hi
    exact Go.Lib.bytesWorld_at_old w e _ i hi
end Go.Proofs.YtodcbcpjlhlakaaDoor.B
