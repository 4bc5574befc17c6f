/- A slice of bytes handed in, as a list of bytes. -/
import Derived.Test.YtodcbcpjlhlakaaDoorBase
set_option linter.unusedVariables false
set_option linter.unusedSimpArgs false
namespace Go.Proofs.YtodcbcpjlhlakaaDoor.B
open Go.RowKit
theorem bytes_of (zs : List Int) (h : ∀ z ∈ zs, 0 ≤ z ∧ z ≤ 255) : ∃ l : List UInt8, zs.map (Value.int .u8) = l.map u8v := by
  refine ⟨zs.map fun z => UInt8.ofNat z.toNat, ?_⟩
  rw [List.map_map]
  apply List.map_congr_left
  intro z hz
  have := h z hz
  show Value.int .u8 z = u8v (UInt8.ofNat z.toNat)
  unfold u8v
  rw [u8_ofNat, show ((z.toNat : Nat) : Int) % 256 = z by omega]
theorem IsRow.rdB {w : World} {a : Option Addr} {len cap : Nat} {zs : List Int} (h : IsRow .u8 w a len cap zs) : ∃ l : List UInt8, l.length = len ∧ RdB w (.slice a len cap) l := by
  obtain ⟨h1, h2, h3⟩ := h.rd
  obtain ⟨l, hl⟩ := bytes_of (zs.take len) (fun z hz => bounds_u8 (h3 z (List.mem_of_mem_take hz)))
  have hll : l.length = len := by
    have := congrArg List.length hl
    simp only [List.length_map] at this
    omega
  refine ⟨l, hll, ?_⟩
  rw [hl] at h1
  unfold RdB
  rw [hll]
  exact h1
end Go.Proofs.YtodcbcpjlhlakaaDoor.B
