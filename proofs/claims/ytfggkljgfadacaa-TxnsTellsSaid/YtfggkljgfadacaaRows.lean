/-
  No cell of these rows narrows 'for every input' (looked for: loops, veiled, ifaces, maps, wideKeys, modest, calm, conditions, laid).
  DERIVED. THE GIVEN ROWS OF THIS SEAT. 12 by the template 'for every input the law returns true; each argument reads behind the call as it read before'; 0 by the template 'total and deterministic' (their statements: YtfggkljgfadacaaTotals.lean).
  GIVEN WITH THE SEED: the statements are not yours to turn. If you find one false, say at which input.
  Laid BY PROGRAM, IN A SANDBOX (cutbox-rows.mjs): the forced cells as the released guide's own fill.sh prints them over the translation 62fb9cc3fe35a44b… (all of the seat's roots in one cut). By AI agents, Wed Nov 11 2026. No macro, syntax, notation, axiom, sorry.
-/
import Derived.Test.YtfggkljgfadacaaChecked
import GoSem.Claim
import GoSem.ClaimJoined
import GoSem.ClaimMapViews
import Derived.JoinedTies
import Derived.KernelRfl
namespace Go.Proofs.Ytfggkljgfadacaa
/- THE CELL 'sum', in the pinned program and in every row, IS THE sha256 OF THE DUMP (.gsa) THAT YtfggkljgfadacaaProg.lean LOADS. Nothing in Lean hashes anything: it is a label: what it is worth is what the hold of that sum in a sandbox is worth. -/
noncomputable def Try.pinned : Pinned := { name := "ytfggkljgfadacaa", sum := "62fb9cc3fe35a44b9b837c1aebfd9262bc937cf46bb2b3c058b932c08836a7f2", checked := Try.checked }
namespace Rows
def none {H : Type} : Left H := { results := [], args := [] }

/-- 'lighteragelaw2.WireBack': WHATEVER THE INPUT: true; the input reads as it did. -/
def wireBackSpec : ChangeSpec := { name := "wireBack", fn := fun _ => fun
  | [d1, d2, d3, d4] => { results := [.lit (.bool true)], args := [d1, d2, d3, d4] }
  | _ => none }
def wireBackRow : OpenClaim := { program := "ytfggkljgfadacaa", sum := "62fb9cc3fe35a44b9b837c1aebfd9262bc937cf46bb2b3c058b932c08836a7f2", func := "lighterage/lighteragelaw2.WireBack", spec := "wireBack", plainKeys := false, apart := false }
def WireBackSaid : Prop := wireBackRow.holds Try.pinned (OpenSpec.ofChange wireBackSpec)

/-- ITS FALSE NEIGHBOUR: 'it returns false'. Refute it at one input. -/
def wireBackWrong : ChangeSpec := { name := "wireBack", fn := fun _ => fun
  | [d1, d2, d3, d4] => { results := [.lit (.bool false)], args := [d1, d2, d3, d4] }
  | _ => none }
def WireBackWrongFalsely : Prop := wireBackRow.holds Try.pinned (OpenSpec.ofChange wireBackWrong)

/-- 'lighteragelaw2.WireOrder': WHATEVER THE INPUT: true; the input reads as it did. -/
def wireOrderSpec : ChangeSpec := { name := "wireOrder", fn := fun _ => fun
  | [d1, d2, d3] => { results := [.lit (.bool true)], args := [d1, d2, d3] }
  | _ => none }
def wireOrderRow : OpenClaim := { program := "ytfggkljgfadacaa", sum := "62fb9cc3fe35a44b9b837c1aebfd9262bc937cf46bb2b3c058b932c08836a7f2", func := "lighterage/lighteragelaw2.WireOrder", spec := "wireOrder", plainKeys := false, apart := false }
def WireOrderSaid : Prop := wireOrderRow.holds Try.pinned (OpenSpec.ofChange wireOrderSpec)

/-- ITS FALSE NEIGHBOUR: 'it returns false'. Refute it at one input. -/
def wireOrderWrong : ChangeSpec := { name := "wireOrder", fn := fun _ => fun
  | [d1, d2, d3] => { results := [.lit (.bool false)], args := [d1, d2, d3] }
  | _ => none }
def WireOrderWrongFalsely : Prop := wireOrderRow.holds Try.pinned (OpenSpec.ofChange wireOrderWrong)

/-- 'lighteragelaw2.WireForms': WHATEVER THE INPUT: true; the input reads as it did. -/
def wireFormsSpec : ChangeSpec := { name := "wireForms", fn := fun _ => fun
  | [d] => { results := [.lit (.bool true)], args := [d] }
  | _ => none }
def wireFormsRow : OpenClaim := { program := "ytfggkljgfadacaa", sum := "62fb9cc3fe35a44b9b837c1aebfd9262bc937cf46bb2b3c058b932c08836a7f2", func := "lighterage/lighteragelaw2.WireForms", spec := "wireForms", plainKeys := false, apart := false }
def WireFormsSaid : Prop := wireFormsRow.holds Try.pinned (OpenSpec.ofChange wireFormsSpec)

/-- ITS FALSE NEIGHBOUR: 'it returns false'. Refute it at one input. -/
def wireFormsWrong : ChangeSpec := { name := "wireForms", fn := fun _ => fun
  | [d] => { results := [.lit (.bool false)], args := [d] }
  | _ => none }
def WireFormsWrongFalsely : Prop := wireFormsRow.holds Try.pinned (OpenSpec.ofChange wireFormsWrong)

/-- 'lighteragelaw2.WireTakes': WHATEVER THE INPUT: true; the input reads as it did. -/
def wireTakesSpec : ChangeSpec := { name := "wireTakes", fn := fun _ => fun
  | [d1, d2, d3] => { results := [.lit (.bool true)], args := [d1, d2, d3] }
  | _ => none }
def wireTakesRow : OpenClaim := { program := "ytfggkljgfadacaa", sum := "62fb9cc3fe35a44b9b837c1aebfd9262bc937cf46bb2b3c058b932c08836a7f2", func := "lighterage/lighteragelaw2.WireTakes", spec := "wireTakes", plainKeys := false, apart := false }
def WireTakesSaid : Prop := wireTakesRow.holds Try.pinned (OpenSpec.ofChange wireTakesSpec)

/-- ITS FALSE NEIGHBOUR: 'it returns false'. Refute it at one input. -/
def wireTakesWrong : ChangeSpec := { name := "wireTakes", fn := fun _ => fun
  | [d1, d2, d3] => { results := [.lit (.bool false)], args := [d1, d2, d3] }
  | _ => none }
def WireTakesWrongFalsely : Prop := wireTakesRow.holds Try.pinned (OpenSpec.ofChange wireTakesWrong)

/-- 'lighteragelaw2.WirePlays': WHATEVER THE INPUT: true; the input reads as it did. -/
def wirePlaysSpec : ChangeSpec := { name := "wirePlays", fn := fun _ => fun
  | [d1, d2, d3, d4, d5, d6] => { results := [.lit (.bool true)], args := [d1, d2, d3, d4, d5, d6] }
  | _ => none }
def wirePlaysRow : OpenClaim := { program := "ytfggkljgfadacaa", sum := "62fb9cc3fe35a44b9b837c1aebfd9262bc937cf46bb2b3c058b932c08836a7f2", func := "lighterage/lighteragelaw2.WirePlays", spec := "wirePlays", plainKeys := false, apart := false }
def WirePlaysSaid : Prop := wirePlaysRow.holds Try.pinned (OpenSpec.ofChange wirePlaysSpec)

/-- ITS FALSE NEIGHBOUR: 'it returns false'. Refute it at one input. -/
def wirePlaysWrong : ChangeSpec := { name := "wirePlays", fn := fun _ => fun
  | [d1, d2, d3, d4, d5, d6] => { results := [.lit (.bool false)], args := [d1, d2, d3, d4, d5, d6] }
  | _ => none }
def WirePlaysWrongFalsely : Prop := wirePlaysRow.holds Try.pinned (OpenSpec.ofChange wirePlaysWrong)

/-- 'lighteragelaw8.StatForms': WHATEVER THE INPUT: true; the input reads as it did. -/
def statFormsSpec : ChangeSpec := { name := "statForms", fn := fun _ => fun
  | [d1, d2, d3] => { results := [.lit (.bool true)], args := [d1, d2, d3] }
  | _ => none }
def statFormsRow : OpenClaim := { program := "ytfggkljgfadacaa", sum := "62fb9cc3fe35a44b9b837c1aebfd9262bc937cf46bb2b3c058b932c08836a7f2", func := "lighterage/lighteragelaw8.StatForms", spec := "statForms", unfollowed := true, recurses := true, plainKeys := false, apart := false }
def StatFormsSaid : Prop := statFormsRow.holds Try.pinned (OpenSpec.ofChange statFormsSpec)

/-- ITS FALSE NEIGHBOUR: 'it returns false'. Refute it at one input. -/
def statFormsWrong : ChangeSpec := { name := "statForms", fn := fun _ => fun
  | [d1, d2, d3] => { results := [.lit (.bool false)], args := [d1, d2, d3] }
  | _ => none }
def StatFormsWrongFalsely : Prop := statFormsRow.holds Try.pinned (OpenSpec.ofChange statFormsWrong)

/-- 'lighteragelaw8.StatWeight': WHATEVER THE INPUT: true; the input reads as it did. -/
def statWeightSpec : ChangeSpec := { name := "statWeight", fn := fun _ => fun
  | [d1, d2, d3] => { results := [.lit (.bool true)], args := [d1, d2, d3] }
  | _ => none }
def statWeightRow : OpenClaim := { program := "ytfggkljgfadacaa", sum := "62fb9cc3fe35a44b9b837c1aebfd9262bc937cf46bb2b3c058b932c08836a7f2", func := "lighterage/lighteragelaw8.StatWeight", spec := "statWeight", unfollowed := true, recurses := true, plainKeys := false, apart := false }
def StatWeightSaid : Prop := statWeightRow.holds Try.pinned (OpenSpec.ofChange statWeightSpec)

/-- ITS FALSE NEIGHBOUR: 'it returns false'. Refute it at one input. -/
def statWeightWrong : ChangeSpec := { name := "statWeight", fn := fun _ => fun
  | [d1, d2, d3] => { results := [.lit (.bool false)], args := [d1, d2, d3] }
  | _ => none }
def StatWeightWrongFalsely : Prop := statWeightRow.holds Try.pinned (OpenSpec.ofChange statWeightWrong)

/-- 'lighteragelaw3.TxnsBounds': WHATEVER THE INPUT: true; the input reads as it did. -/
def txnsBoundsSpec : ChangeSpec := { name := "txnsBounds", fn := fun _ => fun
  | [d1, d2, d3, d4, d5] => { results := [.lit (.bool true)], args := [d1, d2, d3, d4, d5] }
  | _ => none }
def txnsBoundsRow : OpenClaim := { program := "ytfggkljgfadacaa", sum := "62fb9cc3fe35a44b9b837c1aebfd9262bc937cf46bb2b3c058b932c08836a7f2", func := "lighterage/lighteragelaw3.TxnsBounds", spec := "txnsBounds", unfollowed := true, recurses := true, plainKeys := false, apart := false }
def TxnsBoundsSaid : Prop := txnsBoundsRow.holds Try.pinned (OpenSpec.ofChange txnsBoundsSpec)

/-- ITS FALSE NEIGHBOUR: 'it returns false'. Refute it at one input. -/
def txnsBoundsWrong : ChangeSpec := { name := "txnsBounds", fn := fun _ => fun
  | [d1, d2, d3, d4, d5] => { results := [.lit (.bool false)], args := [d1, d2, d3, d4, d5] }
  | _ => none }
def TxnsBoundsWrongFalsely : Prop := txnsBoundsRow.holds Try.pinned (OpenSpec.ofChange txnsBoundsWrong)

/-- 'lighteragelaw3.TxnsOwn': WHATEVER THE INPUT: true; the input reads as it did. -/
def txnsOwnSpec : ChangeSpec := { name := "txnsOwn", fn := fun _ => fun
  | [d1, d2] => { results := [.lit (.bool true)], args := [d1, d2] }
  | _ => none }
def txnsOwnRow : OpenClaim := { program := "ytfggkljgfadacaa", sum := "62fb9cc3fe35a44b9b837c1aebfd9262bc937cf46bb2b3c058b932c08836a7f2", func := "lighterage/lighteragelaw3.TxnsOwn", spec := "txnsOwn", unfollowed := true, recurses := true, plainKeys := false, apart := false }
def TxnsOwnSaid : Prop := txnsOwnRow.holds Try.pinned (OpenSpec.ofChange txnsOwnSpec)

/-- ITS FALSE NEIGHBOUR: 'it returns false'. Refute it at one input. -/
def txnsOwnWrong : ChangeSpec := { name := "txnsOwn", fn := fun _ => fun
  | [d1, d2] => { results := [.lit (.bool false)], args := [d1, d2] }
  | _ => none }
def TxnsOwnWrongFalsely : Prop := txnsOwnRow.holds Try.pinned (OpenSpec.ofChange txnsOwnWrong)

/-- 'lighteragelaw3.TxnsSame': WHATEVER THE INPUT: true; the input reads as it did. -/
def txnsSameSpec : ChangeSpec := { name := "txnsSame", fn := fun _ => fun
  | [d1, d2, d3] => { results := [.lit (.bool true)], args := [d1, d2, d3] }
  | _ => none }
def txnsSameRow : OpenClaim := { program := "ytfggkljgfadacaa", sum := "62fb9cc3fe35a44b9b837c1aebfd9262bc937cf46bb2b3c058b932c08836a7f2", func := "lighterage/lighteragelaw3.TxnsSame", spec := "txnsSame", unfollowed := true, recurses := true, plainKeys := false, apart := false }
def TxnsSameSaid : Prop := txnsSameRow.holds Try.pinned (OpenSpec.ofChange txnsSameSpec)

/-- ITS FALSE NEIGHBOUR: 'it returns false'. Refute it at one input. -/
def txnsSameWrong : ChangeSpec := { name := "txnsSame", fn := fun _ => fun
  | [d1, d2, d3] => { results := [.lit (.bool false)], args := [d1, d2, d3] }
  | _ => none }
def TxnsSameWrongFalsely : Prop := txnsSameRow.holds Try.pinned (OpenSpec.ofChange txnsSameWrong)

/-- 'lighteragelaw3.TxnsTells': WHATEVER THE INPUT: true; the input reads as it did. -/
def txnsTellsSpec : ChangeSpec := { name := "txnsTells", fn := fun _ => fun
  | [d1, d2, d3, d4, d5, d6] => { results := [.lit (.bool true)], args := [d1, d2, d3, d4, d5, d6] }
  | _ => none }
def txnsTellsRow : OpenClaim := { program := "ytfggkljgfadacaa", sum := "62fb9cc3fe35a44b9b837c1aebfd9262bc937cf46bb2b3c058b932c08836a7f2", func := "lighterage/lighteragelaw3.TxnsTells", spec := "txnsTells", unfollowed := true, recurses := true, plainKeys := false, apart := false }
def TxnsTellsSaid : Prop := txnsTellsRow.holds Try.pinned (OpenSpec.ofChange txnsTellsSpec)

/-- ITS FALSE NEIGHBOUR: 'it returns false'. Refute it at one input. -/
def txnsTellsWrong : ChangeSpec := { name := "txnsTells", fn := fun _ => fun
  | [d1, d2, d3, d4, d5, d6] => { results := [.lit (.bool false)], args := [d1, d2, d3, d4, d5, d6] }
  | _ => none }
def TxnsTellsWrongFalsely : Prop := txnsTellsRow.holds Try.pinned (OpenSpec.ofChange txnsTellsWrong)

/-- 'lighteragelaw3.TxnsBack': WHATEVER THE INPUT: true; the input reads as it did. -/
def txnsBackSpec : ChangeSpec := { name := "txnsBack", fn := fun _ => fun
  | [d1, d2, d3, d4] => { results := [.lit (.bool true)], args := [d1, d2, d3, d4] }
  | _ => none }
def txnsBackRow : OpenClaim := { program := "ytfggkljgfadacaa", sum := "62fb9cc3fe35a44b9b837c1aebfd9262bc937cf46bb2b3c058b932c08836a7f2", func := "lighterage/lighteragelaw3.TxnsBack", spec := "txnsBack", unfollowed := true, recurses := true, plainKeys := false, apart := false }
def TxnsBackSaid : Prop := txnsBackRow.holds Try.pinned (OpenSpec.ofChange txnsBackSpec)

/-- ITS FALSE NEIGHBOUR: 'it returns false'. Refute it at one input. -/
def txnsBackWrong : ChangeSpec := { name := "txnsBack", fn := fun _ => fun
  | [d1, d2, d3, d4] => { results := [.lit (.bool false)], args := [d1, d2, d3, d4] }
  | _ => none }
def TxnsBackWrongFalsely : Prop := txnsBackRow.holds Try.pinned (OpenSpec.ofChange txnsBackWrong)

/- THE SECOND FORM. 'bulk': how many values and letters a reading holds, each counted each time it is reached (what is shared counts as often as it is met; a slice's spare places count too). A statement '..UptoSaid' is the law's where the arguments, and the package variables that the reading takes, are together of bulk at most 1048576: NARROWER than '..Said'. Prove '..Said' where nothing that the law and all that it calls make is longer than what came in: it says more and counts as full. Else prove '..UptoSaid'. A law counts once. -/
mutual
def uptoBulk {H : Type} : DataW H → Nat
  | .lit (.string bytes) => bytes.length + 1
  | .lit _ => 1
  | .nil => 1
  | .ptr d => uptoBulk d + 1
  | .slice elems spare => uptoBulkAll elems + uptoBulkAll spare + 1
  | .agg parts => uptoBulkAll parts + 1
  | .iface _ d => uptoBulk d + 1
  | .map entries => uptoBulkEntries entries + 1
  | .held _ => 1
def uptoBulkAll {H : Type} : List (DataW H) → Nat
  | [] => 0
  | d :: r => uptoBulk d + uptoBulkAll r
def uptoBulkEntries {H : Type} : List (Lit × DataW H) → Nat
  | [] => 0
  | x :: r => uptoBulkEntry x + uptoBulkEntries r
def uptoBulkEntry {H : Type} : Lit × DataW H → Nat
  | (.string bytes, d) => bytes.length + uptoBulk d + 1
  | (_, d) => uptoBulk d + 1
 end
def uptoSmall : (H : Type) → List (DataW H) → Bool := fun _ ds => decide (uptoBulkAll ds ≤ 1048576)
def OpenSpec.upto (s : _root_.Go.ChangeSpec) : _root_.Go.OpenSpec := { _root_.Go.OpenSpec.ofChange s with cond := some uptoSmall }

/-- 'lighteragelaw2.WireBack', WHERE WHAT IT READS IS OF BULK AT MOST 1048576: true; the input reads as it did. -/
def wireBackUptoRow : OpenClaim := { program := "ytfggkljgfadacaa", sum := "62fb9cc3fe35a44b9b837c1aebfd9262bc937cf46bb2b3c058b932c08836a7f2", func := "lighterage/lighteragelaw2.WireBack", spec := "wireBack", plainKeys := false, apart := false, narrowed := true }
def WireBackUptoSaid : Prop := wireBackUptoRow.holds Try.pinned (OpenSpec.upto wireBackSpec)

/-- 'lighteragelaw2.WireOrder', WHERE WHAT IT READS IS OF BULK AT MOST 1048576: true; the input reads as it did. -/
def wireOrderUptoRow : OpenClaim := { program := "ytfggkljgfadacaa", sum := "62fb9cc3fe35a44b9b837c1aebfd9262bc937cf46bb2b3c058b932c08836a7f2", func := "lighterage/lighteragelaw2.WireOrder", spec := "wireOrder", plainKeys := false, apart := false, narrowed := true }
def WireOrderUptoSaid : Prop := wireOrderUptoRow.holds Try.pinned (OpenSpec.upto wireOrderSpec)

/-- 'lighteragelaw2.WireForms', WHERE WHAT IT READS IS OF BULK AT MOST 1048576: true; the input reads as it did. -/
def wireFormsUptoRow : OpenClaim := { program := "ytfggkljgfadacaa", sum := "62fb9cc3fe35a44b9b837c1aebfd9262bc937cf46bb2b3c058b932c08836a7f2", func := "lighterage/lighteragelaw2.WireForms", spec := "wireForms", plainKeys := false, apart := false, narrowed := true }
def WireFormsUptoSaid : Prop := wireFormsUptoRow.holds Try.pinned (OpenSpec.upto wireFormsSpec)

/-- 'lighteragelaw2.WireTakes', WHERE WHAT IT READS IS OF BULK AT MOST 1048576: true; the input reads as it did. -/
def wireTakesUptoRow : OpenClaim := { program := "ytfggkljgfadacaa", sum := "62fb9cc3fe35a44b9b837c1aebfd9262bc937cf46bb2b3c058b932c08836a7f2", func := "lighterage/lighteragelaw2.WireTakes", spec := "wireTakes", plainKeys := false, apart := false, narrowed := true }
def WireTakesUptoSaid : Prop := wireTakesUptoRow.holds Try.pinned (OpenSpec.upto wireTakesSpec)

/-- 'lighteragelaw2.WirePlays', WHERE WHAT IT READS IS OF BULK AT MOST 1048576: true; the input reads as it did. -/
def wirePlaysUptoRow : OpenClaim := { program := "ytfggkljgfadacaa", sum := "62fb9cc3fe35a44b9b837c1aebfd9262bc937cf46bb2b3c058b932c08836a7f2", func := "lighterage/lighteragelaw2.WirePlays", spec := "wirePlays", plainKeys := false, apart := false, narrowed := true }
def WirePlaysUptoSaid : Prop := wirePlaysUptoRow.holds Try.pinned (OpenSpec.upto wirePlaysSpec)

/-- 'lighteragelaw8.StatForms', WHERE WHAT IT READS IS OF BULK AT MOST 1048576: true; the input reads as it did. -/
def statFormsUptoRow : OpenClaim := { program := "ytfggkljgfadacaa", sum := "62fb9cc3fe35a44b9b837c1aebfd9262bc937cf46bb2b3c058b932c08836a7f2", func := "lighterage/lighteragelaw8.StatForms", spec := "statForms", unfollowed := true, recurses := true, plainKeys := false, apart := false, narrowed := true }
def StatFormsUptoSaid : Prop := statFormsUptoRow.holds Try.pinned (OpenSpec.upto statFormsSpec)

/-- 'lighteragelaw8.StatWeight', WHERE WHAT IT READS IS OF BULK AT MOST 1048576: true; the input reads as it did. -/
def statWeightUptoRow : OpenClaim := { program := "ytfggkljgfadacaa", sum := "62fb9cc3fe35a44b9b837c1aebfd9262bc937cf46bb2b3c058b932c08836a7f2", func := "lighterage/lighteragelaw8.StatWeight", spec := "statWeight", unfollowed := true, recurses := true, plainKeys := false, apart := false, narrowed := true }
def StatWeightUptoSaid : Prop := statWeightUptoRow.holds Try.pinned (OpenSpec.upto statWeightSpec)

/-- 'lighteragelaw3.TxnsBounds', WHERE WHAT IT READS IS OF BULK AT MOST 1048576: true; the input reads as it did. -/
def txnsBoundsUptoRow : OpenClaim := { program := "ytfggkljgfadacaa", sum := "62fb9cc3fe35a44b9b837c1aebfd9262bc937cf46bb2b3c058b932c08836a7f2", func := "lighterage/lighteragelaw3.TxnsBounds", spec := "txnsBounds", unfollowed := true, recurses := true, plainKeys := false, apart := false, narrowed := true }
def TxnsBoundsUptoSaid : Prop := txnsBoundsUptoRow.holds Try.pinned (OpenSpec.upto txnsBoundsSpec)

/-- 'lighteragelaw3.TxnsOwn', WHERE WHAT IT READS IS OF BULK AT MOST 1048576: true; the input reads as it did. -/
def txnsOwnUptoRow : OpenClaim := { program := "ytfggkljgfadacaa", sum := "62fb9cc3fe35a44b9b837c1aebfd9262bc937cf46bb2b3c058b932c08836a7f2", func := "lighterage/lighteragelaw3.TxnsOwn", spec := "txnsOwn", unfollowed := true, recurses := true, plainKeys := false, apart := false, narrowed := true }
def TxnsOwnUptoSaid : Prop := txnsOwnUptoRow.holds Try.pinned (OpenSpec.upto txnsOwnSpec)

/-- 'lighteragelaw3.TxnsSame', WHERE WHAT IT READS IS OF BULK AT MOST 1048576: true; the input reads as it did. -/
def txnsSameUptoRow : OpenClaim := { program := "ytfggkljgfadacaa", sum := "62fb9cc3fe35a44b9b837c1aebfd9262bc937cf46bb2b3c058b932c08836a7f2", func := "lighterage/lighteragelaw3.TxnsSame", spec := "txnsSame", unfollowed := true, recurses := true, plainKeys := false, apart := false, narrowed := true }
def TxnsSameUptoSaid : Prop := txnsSameUptoRow.holds Try.pinned (OpenSpec.upto txnsSameSpec)

/-- 'lighteragelaw3.TxnsTells', WHERE WHAT IT READS IS OF BULK AT MOST 1048576: true; the input reads as it did. -/
def txnsTellsUptoRow : OpenClaim := { program := "ytfggkljgfadacaa", sum := "62fb9cc3fe35a44b9b837c1aebfd9262bc937cf46bb2b3c058b932c08836a7f2", func := "lighterage/lighteragelaw3.TxnsTells", spec := "txnsTells", unfollowed := true, recurses := true, plainKeys := false, apart := false, narrowed := true }
def TxnsTellsUptoSaid : Prop := txnsTellsUptoRow.holds Try.pinned (OpenSpec.upto txnsTellsSpec)

/-- 'lighteragelaw3.TxnsBack', WHERE WHAT IT READS IS OF BULK AT MOST 1048576: true; the input reads as it did. -/
def txnsBackUptoRow : OpenClaim := { program := "ytfggkljgfadacaa", sum := "62fb9cc3fe35a44b9b837c1aebfd9262bc937cf46bb2b3c058b932c08836a7f2", func := "lighterage/lighteragelaw3.TxnsBack", spec := "txnsBack", unfollowed := true, recurses := true, plainKeys := false, apart := false, narrowed := true }
def TxnsBackUptoSaid : Prop := txnsBackUptoRow.holds Try.pinned (OpenSpec.upto txnsBackSpec)

end Rows
end Go.Proofs.Ytfggkljgfadacaa
