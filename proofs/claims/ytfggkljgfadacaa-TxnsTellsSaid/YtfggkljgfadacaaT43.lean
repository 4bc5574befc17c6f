/- TxnsTells: what the row takes. -/
import Derived.Test.YtfggkljgfadacaaT42
set_option linter.unusedVariables false
namespace Go.Proofs.Ytfggkljgfadacaa.W
open Go.RowKit Go.Proofs.Ytfggkljgfadacaa.B Go.Proofs

theorem txnsTells_row (cs : List Value) (t : LTx) {w : World} (hr : TxC w cs t) (n : Int) (wn : (Lit.int .i64 n).wf = true) (m : Int) (wm : (Lit.int .i64 m).wf = true) (a : Option Addr) (len cap : Nat) (zs : List Int) (h : IsRow .u8 w a len cap zs) (hb : len * 1 ≤ 140737488351232)
    (at_ : Int) (wat : (Lit.int .i64 at_).wf = true) (by_ : Int) (wby : (Lit.int .u8 by_).wf = true) :
    Calls Try.prog 13 #[.agg cs.toArray, .int .i64 n, .int .i64 m, .slice a len cap, .int .i64 at_, .int .u8 by_] w fun e w' => e = .returned (.bool true) ∧ Below w.heap.size w w' := by
  obtain ⟨l, rfl, hl⟩ := IsRow.rdB h
  obtain ⟨b0, b1⟩ := bounds_u8 wby
  have hby : by_ = ((UInt8.ofNat by_.toNat).toNat : Int) := by rw [u8_ofNat]; omega
  rw [hby]
  exact txnsTells_any cs t n m at_ _ l _ w hr hl
end Go.Proofs.Ytfggkljgfadacaa.W
