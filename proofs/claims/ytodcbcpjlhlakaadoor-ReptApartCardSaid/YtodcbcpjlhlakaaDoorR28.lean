/- ReptApart: the walk as the row takes it. -/
import Derived.Test.YtodcbcpjlhlakaaDoorR27
namespace Go.Proofs.YtodcbcpjlhlakaaDoor.W
open Go.RowKit Go.Proofs.YtodcbcpjlhlakaaDoor.B Go.Proofs
theorem reptApart_row (a : Int) (_wa : (Lit.int .i64 a).wf = true) (b : Int) (_wb : (Lit.int .i64 b).wf = true) (c : Bool) {w : World} (he : Env w) : Calls Tryd.prog 5 #[.int .i64 a, .int .i64 b, .bool c] w fun e w' => e = .returned (.bool true) ∧ Below w.heap.size w w' := apart_walk a b c w he
end Go.Proofs.YtodcbcpjlhlakaaDoor.W
