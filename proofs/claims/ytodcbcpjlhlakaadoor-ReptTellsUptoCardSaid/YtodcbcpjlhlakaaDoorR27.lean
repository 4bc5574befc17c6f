/- What the rows list of the package variables, and a world for their witness. -/
import Derived.Test.YtodcbcpjlhlakaaDoorR26
import Derived.Test.YtodcbcpjlhlakaaDoorRows
import Derived.Deep.DeepHandedRow
import Derived.Deep.DeepWitnessRowRef
import Derived.Lib.LaidIn
import Derived.Lib.LaidTab
import Derived.Stop.LaidErr
import Derived.Shelf.Vars
import Derived.ProofKit
set_option linter.unusedVariables false
set_option linter.unusedSimpArgs false
namespace Go.Proofs.YtodcbcpjlhlakaaDoor.W
open Go.RowKit Go.Proofs.YtodcbcpjlhlakaaDoor.B Go.Proofs

theorem star : "*" ++ "errors.errorString" = "*errors.errorString" := by decide
/-- The one type of that name. -/
theorem row120 (u : TypeId) (h : Tryd.prog.typeName? 3 u = some "*errors.errorString") : u = 120 :=
  typeName_ptr_named (nm := "errors.errorString") (by rw [star]; kernel_rfl) (by kernel_rfl) (by decide) u (by rw [star]; exact h)
theorem env_of {W : World} (h : laidMet Tryd.prog Rows.reptSaysRow.laid W) (hs : W.ShapedOpen Tryd.prog) : Env W := by
  obtain ⟨a1, t1, hv1, -⟩ := laid_sentinel (g := 7) h.tail.tail.tail.tail (by kernel_rfl) (by kernel_rfl) Tryd.underlying70 row120 Tryd.underlying120 Tryd.underlying122 rfl rfl Tryd.underlying9 (by kernel_rfl) (by kernel_rfl)
  obtain ⟨a2, t2, hv2, -⟩ := laid_sentinel (g := 6) h.tail.tail.tail.tail.tail (by kernel_rfl) (by kernel_rfl) Tryd.underlying70 row120 Tryd.underlying120 Tryd.underlying122 rfl rfl Tryd.underlying9 (by kernel_rfl) (by kernel_rfl)
  exact ⟨Lib.tabIs_of_head (g := 0) (zs := Lib.pow10Tab) (by kernel_rfl) (by kernel_rfl) Tryd.underlying85 Tryd.underlying23 (by kernel_rfl) (by kernel_rfl) h.tail.tail,
    ⟨_, _, hv2⟩, ⟨_, _, hv1⟩, cell_of_shapedOpen_int (g := 1) (t := 3) hs (of_decide_eq_true (by kernel_rfl)) (zero := #[.int .i64 0]) (by kernel_rfl) rfl (by kernel_rfl) (by kernel_rfl) Tryd.underlying3⟩
/-- The cells of a row of numbers. -/
def litCells (d : DataW Unit) : List Value :=
  match d with
  | .agg ps => ps.map fun
    | .lit (.int k z) => .int k z
    | _ => undef
  | _ => []
def litCells2 (d : DataW Unit) : List Value :=
  match d with
  | .agg ps => ps.flatMap litCells
  | _ => []
/-- A world for the witness: the settled one, with two blocks more (the errors' texts), the variables holding what is laid. -/
noncomputable def laidWorld (os : Os) : World :=
  let N := (World.settled Tryd.prog os).heap.size
  let w0 := World.holding Tryd.prog os ⟨#[.cells #[.string ⟨#[118, 97, 108, 117, 101, 32, 111, 117, 116, 32, 111, 102, 32, 114, 97, 110, 103, 101]⟩] 122, .cells #[.string ⟨#[105, 110, 118, 97, 108, 105, 100, 32, 115, 121, 110, 116, 97, 120]⟩] 122], #[], []⟩
  let put (h : Array Obj) (g : Nat) (cs : Array Value) : Array Obj := h.modify g fun
    | .cells _ t frozen => .cells cs t frozen
    | o => o
  let h0 := put (put w0.heap 7 #[.iface 120 (.pointer (some ⟨N, 0, none⟩))]) 6 #[.iface 120 (.pointer (some ⟨N + 1, 0, none⟩))]
  let h1 := put h0 0 (litCells Rows.laid_internal_strconv_uint64pow10).toArray
  let h2 := put h1 2 (litCells Rows.laid_math_bits_deBruijn32tab).toArray
  let h3 := put h2 3 (litCells Rows.laid_math_bits_deBruijn64tab).toArray
  let h4 := put h3 4 (litCells Rows.laid_unicode_utf8_first).toArray
  let h5 := put h4 5 (litCells2 Rows.laid_unicode_utf8_acceptRanges).toArray
  { w0 with heap := h5 }
noncomputable abbrev N0 : Nat := (World.settled Tryd.prog default).heap.size
set_option maxRecDepth 1000000 in
theorem laid_met (os : Os) (args : Array Value) : laidMet Tryd.prog Rows.reptSaysRow.laid ((laidWorld os).forCall (fun _ _ => 0) ⟨#[], args, []⟩).memory :=
  (LaidIn.of_run [2, 3, 0, 5, 7, N0, 6, N0 + 1, 4] 8 (by kernel_rfl) (by kernel_rfl) (by kernel_rfl) (by kernel_rfl)).met
end Go.Proofs.YtodcbcpjlhlakaaDoor.W
