/- rate.Need, rate.Per where the product is small. -/
import Derived.Test.YtfbfdmgnicgalaaR3
set_option linter.unusedVariables false
set_option linter.unusedSimpArgs false
namespace Go.Proofs.Ytfbfdmgnicgalaa.W
open Go.RowKit Go.Proofs.Ytfbfdmgnicgalaa.B Go.Proofs

/-- A size as it is asked for. -/
def needN (n : Int) : Nat := (if 1073741824 < (if n < 0 then 0 else n) then 1073741824 else (if n < 0 then 0 else n)).toNat
theorem needN_eq (n : Int) : (if 1073741824 < (if n < 0 then 0 else n) then 1073741824 else (if n < 0 then 0 else n)) = (needN n : Int) := by unfold needN; split <;> split <;> omega
theorem needN_le (n : Int) : needN n ≤ 1073741824 := by unfold needN; split <;> split <;> omega
set_option maxRecDepth 100000 in
theorem need_of (p : Nat) (n : Int) (w : World) {r : Nat} (H : ∀ w, Calls Try.prog 35 #[.int .u64 (p : Int), .int .u64 (needN n : Int), .int .u64 1000] w fun e w' => e = .returned (.int .u64 (r : Int)) ∧ Below w.heap.size w w') :
    Calls Try.prog 20 #[.int .u64 (p : Int), .int .i64 n] w fun e w' => e = .returned (.int .u64 (r : Int)) ∧ Below w.heap.size w w' := by
  obtain ⟨m, hm⟩ : ∃ m : Int, m = if n < 0 then 0 else n := ⟨_, rfl⟩
  obtain ⟨z, hz⟩ : ∃ z : Int, z = needN n := ⟨_, rfl⟩
  have hb := needN_le n
  have h2 : (if 1073741824 < m then 1073741824 else m) = z := by rw [hm, hz]; exact needN_eq n
  have hw : IntKind.u64.wrap z = z := IntWalk.u64_in _ (by omega)
  have HC := As.mk H
  rw [← hz] at HC
  have h1 := hm.symm
  clear H hb hz hm
  go_enter Try.func20, Try.ntmps20
  go_wp2_with (go_at_call 35; (with_reducible refine (HC.out _).mono ?_); rintro e w' ⟨rfl, hb⟩; have HB := As.mk hb; clear hb)
  go_ret
  exact ⟨rfl, HB.out⟩
end Go.Proofs.Ytfbfdmgnicgalaa.W
