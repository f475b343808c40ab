/-
  No cell of these rows narrows 'for every input' (looked for: loops, veiled, ifaces, maps, wideKeys, modest, calm, conditions, laid).
  DERIVED. THE GIVEN ROWS OF THIS SEAT. 11 by the template 'for every input the law returns true; each argument reads behind the call as it read before'; 0 by the template 'total and deterministic' (their statements: YtehfglfbnjdcoaaTotals.lean).
  GIVEN WITH THE SEED: the statements are not yours to turn. If you find one false, say at which input.
  Laid BY PROGRAM, IN A SANDBOX (cutbox-rows.mjs): the forced cells as the released guide's own fill.sh prints them over the translation f86c2f7117b429ea… (all of the seat's roots in one cut). By AI agents, Wed Nov 11 2026. No macro, syntax, notation, axiom, sorry.
-/
import Derived.Test.YtehfglfbnjdcoaaChecked
import GoSem.Claim
import GoSem.ClaimJoined
import GoSem.ClaimMapViews
import Derived.JoinedTies
import Derived.KernelRfl
namespace Go.Proofs.Ytehfglfbnjdcoaa
/- THE CELL 'sum', in the pinned program and in every row, IS THE sha256 OF THE DUMP (.gsa) THAT YtehfglfbnjdcoaaProg.lean LOADS. Nothing in Lean hashes anything: it is a label: what it is worth is what the hold of that sum in a sandbox is worth. -/
noncomputable def Try.pinned : Pinned := { name := "ytehfglfbnjdcoaa", sum := "f86c2f7117b429ea2b263ea7b7d3f883512f6cea951961697e80001eb35b8c14", checked := Try.checked }
namespace Rows
def none {H : Type} : Left H := { results := [], args := [] }

/-- 'laws.FnExactMicroGrads': WHATEVER THE INPUT: true; the input reads as it did. -/
def fnExactMicroGradsSpec : ChangeSpec := { name := "fnExactMicroGrads", fn := fun _ => fun
  | [d1, d2] => { results := [.lit (.bool true)], args := [d1, d2] }
  | _ => none }
def fnExactMicroGradsRow : OpenClaim := { program := "ytehfglfbnjdcoaa", sum := "f86c2f7117b429ea2b263ea7b7d3f883512f6cea951961697e80001eb35b8c14", func := "loop.example/g01407/laws.FnExactMicroGrads", spec := "fnExactMicroGrads", apart := false }
def FnExactMicroGradsSaid : Prop := fnExactMicroGradsRow.holds Try.pinned (OpenSpec.ofChange fnExactMicroGradsSpec)

/-- ITS FALSE NEIGHBOUR: 'it returns false'. Refute it at one input. -/
def fnExactMicroGradsWrong : ChangeSpec := { name := "fnExactMicroGrads", fn := fun _ => fun
  | [d1, d2] => { results := [.lit (.bool false)], args := [d1, d2] }
  | _ => none }
def FnExactMicroGradsWrongFalsely : Prop := fnExactMicroGradsRow.holds Try.pinned (OpenSpec.ofChange fnExactMicroGradsWrong)

/-- 'laws.FnExactOpForward': WHATEVER THE INPUT: true; the input reads as it did. -/
def fnExactOpForwardSpec : ChangeSpec := { name := "fnExactOpForward", fn := fun _ => fun
  | [d1, d2] => { results := [.lit (.bool true)], args := [d1, d2] }
  | _ => none }
def fnExactOpForwardRow : OpenClaim := { program := "ytehfglfbnjdcoaa", sum := "f86c2f7117b429ea2b263ea7b7d3f883512f6cea951961697e80001eb35b8c14", func := "loop.example/g01407/laws.FnExactOpForward", spec := "fnExactOpForward", apart := false }
def FnExactOpForwardSaid : Prop := fnExactOpForwardRow.holds Try.pinned (OpenSpec.ofChange fnExactOpForwardSpec)

/-- ITS FALSE NEIGHBOUR: 'it returns false'. Refute it at one input. -/
def fnExactOpForwardWrong : ChangeSpec := { name := "fnExactOpForward", fn := fun _ => fun
  | [d1, d2] => { results := [.lit (.bool false)], args := [d1, d2] }
  | _ => none }
def FnExactOpForwardWrongFalsely : Prop := fnExactOpForwardRow.holds Try.pinned (OpenSpec.ofChange fnExactOpForwardWrong)

/-- 'laws.FnExactOpBackward': WHATEVER THE INPUT: true; the input reads as it did. -/
def fnExactOpBackwardSpec : ChangeSpec := { name := "fnExactOpBackward", fn := fun _ => fun
  | [d1, d2, d3] => { results := [.lit (.bool true)], args := [d1, d2, d3] }
  | _ => none }
def fnExactOpBackwardRow : OpenClaim := { program := "ytehfglfbnjdcoaa", sum := "f86c2f7117b429ea2b263ea7b7d3f883512f6cea951961697e80001eb35b8c14", func := "loop.example/g01407/laws.FnExactOpBackward", spec := "fnExactOpBackward", apart := false }
def FnExactOpBackwardSaid : Prop := fnExactOpBackwardRow.holds Try.pinned (OpenSpec.ofChange fnExactOpBackwardSpec)

/-- ITS FALSE NEIGHBOUR: 'it returns false'. Refute it at one input. -/
def fnExactOpBackwardWrong : ChangeSpec := { name := "fnExactOpBackward", fn := fun _ => fun
  | [d1, d2, d3] => { results := [.lit (.bool false)], args := [d1, d2, d3] }
  | _ => none }
def FnExactOpBackwardWrongFalsely : Prop := fnExactOpBackwardRow.holds Try.pinned (OpenSpec.ofChange fnExactOpBackwardWrong)

/-- 'laws.FnExactInputs': WHATEVER THE INPUT: true; the input reads as it did. -/
def fnExactInputsSpec : ChangeSpec := { name := "fnExactInputs", fn := fun _ => fun
  | [d1, d2] => { results := [.lit (.bool true)], args := [d1, d2] }
  | _ => none }
def fnExactInputsRow : OpenClaim := { program := "ytehfglfbnjdcoaa", sum := "f86c2f7117b429ea2b263ea7b7d3f883512f6cea951961697e80001eb35b8c14", func := "loop.example/g01407/laws.FnExactInputs", spec := "fnExactInputs", apart := false }
def FnExactInputsSaid : Prop := fnExactInputsRow.holds Try.pinned (OpenSpec.ofChange fnExactInputsSpec)

/-- ITS FALSE NEIGHBOUR: 'it returns false'. Refute it at one input. -/
def fnExactInputsWrong : ChangeSpec := { name := "fnExactInputs", fn := fun _ => fun
  | [d1, d2] => { results := [.lit (.bool false)], args := [d1, d2] }
  | _ => none }
def FnExactInputsWrongFalsely : Prop := fnExactInputsRow.holds Try.pinned (OpenSpec.ofChange fnExactInputsWrong)

/-- 'laws.FnExactZeroGrads': WHATEVER THE INPUT: true; the input reads as it did. -/
def fnExactZeroGradsSpec : ChangeSpec := { name := "fnExactZeroGrads", fn := fun _ => fun
  | [d] => { results := [.lit (.bool true)], args := [d] }
  | _ => none }
def fnExactZeroGradsRow : OpenClaim := { program := "ytehfglfbnjdcoaa", sum := "f86c2f7117b429ea2b263ea7b7d3f883512f6cea951961697e80001eb35b8c14", func := "loop.example/g01407/laws.FnExactZeroGrads", spec := "fnExactZeroGrads", apart := false }
def FnExactZeroGradsSaid : Prop := fnExactZeroGradsRow.holds Try.pinned (OpenSpec.ofChange fnExactZeroGradsSpec)

/-- ITS FALSE NEIGHBOUR: 'it returns false'. Refute it at one input. -/
def fnExactZeroGradsWrong : ChangeSpec := { name := "fnExactZeroGrads", fn := fun _ => fun
  | [d] => { results := [.lit (.bool false)], args := [d] }
  | _ => none }
def FnExactZeroGradsWrongFalsely : Prop := fnExactZeroGradsRow.holds Try.pinned (OpenSpec.ofChange fnExactZeroGradsWrong)

/-- 'laws.FnExactAddGrads': WHATEVER THE INPUT: true; the input reads as it did. -/
def fnExactAddGradsSpec : ChangeSpec := { name := "fnExactAddGrads", fn := fun _ => fun
  | [d1, d2] => { results := [.lit (.bool true)], args := [d1, d2] }
  | _ => none }
def fnExactAddGradsRow : OpenClaim := { program := "ytehfglfbnjdcoaa", sum := "f86c2f7117b429ea2b263ea7b7d3f883512f6cea951961697e80001eb35b8c14", func := "loop.example/g01407/laws.FnExactAddGrads", spec := "fnExactAddGrads", apart := false }
def FnExactAddGradsSaid : Prop := fnExactAddGradsRow.holds Try.pinned (OpenSpec.ofChange fnExactAddGradsSpec)

/-- ITS FALSE NEIGHBOUR: 'it returns false'. Refute it at one input. -/
def fnExactAddGradsWrong : ChangeSpec := { name := "fnExactAddGrads", fn := fun _ => fun
  | [d1, d2] => { results := [.lit (.bool false)], args := [d1, d2] }
  | _ => none }
def FnExactAddGradsWrongFalsely : Prop := fnExactAddGradsRow.holds Try.pinned (OpenSpec.ofChange fnExactAddGradsWrong)

/-- 'laws.FnExactSameGrads': WHATEVER THE INPUT: true; the input reads as it did. -/
def fnExactSameGradsSpec : ChangeSpec := { name := "fnExactSameGrads", fn := fun _ => fun
  | [d1, d2] => { results := [.lit (.bool true)], args := [d1, d2] }
  | _ => none }
def fnExactSameGradsRow : OpenClaim := { program := "ytehfglfbnjdcoaa", sum := "f86c2f7117b429ea2b263ea7b7d3f883512f6cea951961697e80001eb35b8c14", func := "loop.example/g01407/laws.FnExactSameGrads", spec := "fnExactSameGrads", apart := false }
def FnExactSameGradsSaid : Prop := fnExactSameGradsRow.holds Try.pinned (OpenSpec.ofChange fnExactSameGradsSpec)

/-- ITS FALSE NEIGHBOUR: 'it returns false'. Refute it at one input. -/
def fnExactSameGradsWrong : ChangeSpec := { name := "fnExactSameGrads", fn := fun _ => fun
  | [d1, d2] => { results := [.lit (.bool false)], args := [d1, d2] }
  | _ => none }
def FnExactSameGradsWrongFalsely : Prop := fnExactSameGradsRow.holds Try.pinned (OpenSpec.ofChange fnExactSameGradsWrong)

/-- 'laws.FnExactBatchOk': WHATEVER THE INPUT: true; the input reads as it did. -/
def fnExactBatchOkSpec : ChangeSpec := { name := "fnExactBatchOk", fn := fun _ => fun
  | [d1, d2] => { results := [.lit (.bool true)], args := [d1, d2] }
  | _ => none }
def fnExactBatchOkRow : OpenClaim := { program := "ytehfglfbnjdcoaa", sum := "f86c2f7117b429ea2b263ea7b7d3f883512f6cea951961697e80001eb35b8c14", func := "loop.example/g01407/laws.FnExactBatchOk", spec := "fnExactBatchOk", apart := false }
def FnExactBatchOkSaid : Prop := fnExactBatchOkRow.holds Try.pinned (OpenSpec.ofChange fnExactBatchOkSpec)

/-- ITS FALSE NEIGHBOUR: 'it returns false'. Refute it at one input. -/
def fnExactBatchOkWrong : ChangeSpec := { name := "fnExactBatchOk", fn := fun _ => fun
  | [d1, d2] => { results := [.lit (.bool false)], args := [d1, d2] }
  | _ => none }
def FnExactBatchOkWrongFalsely : Prop := fnExactBatchOkRow.holds Try.pinned (OpenSpec.ofChange fnExactBatchOkWrong)

/-- 'laws.FnInARow': WHATEVER THE INPUT: true; the input reads as it did. -/
def fnInARowSpec : ChangeSpec := { name := "fnInARow", fn := fun _ => fun
  | [d] => { results := [.lit (.bool true)], args := [d] }
  | _ => none }
def fnInARowRow : OpenClaim := { program := "ytehfglfbnjdcoaa", sum := "f86c2f7117b429ea2b263ea7b7d3f883512f6cea951961697e80001eb35b8c14", func := "loop.example/g01407/laws.FnInARow", spec := "fnInARow", apart := false }
def FnInARowSaid : Prop := fnInARowRow.holds Try.pinned (OpenSpec.ofChange fnInARowSpec)

/-- ITS FALSE NEIGHBOUR: 'it returns false'. Refute it at one input. -/
def fnInARowWrong : ChangeSpec := { name := "fnInARow", fn := fun _ => fun
  | [d] => { results := [.lit (.bool false)], args := [d] }
  | _ => none }
def FnInARowWrongFalsely : Prop := fnInARowRow.holds Try.pinned (OpenSpec.ofChange fnInARowWrong)

/-- 'laws.FnOps': WHATEVER THE INPUT: true; the input reads as it did. -/
def fnOpsSpec : ChangeSpec := { name := "fnOps", fn := fun _ => fun
  | [d] => { results := [.lit (.bool true)], args := [d] }
  | _ => none }
def fnOpsRow : OpenClaim := { program := "ytehfglfbnjdcoaa", sum := "f86c2f7117b429ea2b263ea7b7d3f883512f6cea951961697e80001eb35b8c14", func := "loop.example/g01407/laws.FnOps", spec := "fnOps", apart := false }
def FnOpsSaid : Prop := fnOpsRow.holds Try.pinned (OpenSpec.ofChange fnOpsSpec)

/-- ITS FALSE NEIGHBOUR: 'it returns false'. Refute it at one input. -/
def fnOpsWrong : ChangeSpec := { name := "fnOps", fn := fun _ => fun
  | [d] => { results := [.lit (.bool false)], args := [d] }
  | _ => none }
def FnOpsWrongFalsely : Prop := fnOpsRow.holds Try.pinned (OpenSpec.ofChange fnOpsWrong)

/-- 'laws.FnSizes': WHATEVER THE INPUT: true; the input reads as it did. -/
def fnSizesSpec : ChangeSpec := { name := "fnSizes", fn := fun _ => fun
  | [d] => { results := [.lit (.bool true)], args := [d] }
  | _ => none }
def fnSizesRow : OpenClaim := { program := "ytehfglfbnjdcoaa", sum := "f86c2f7117b429ea2b263ea7b7d3f883512f6cea951961697e80001eb35b8c14", func := "loop.example/g01407/laws.FnSizes", spec := "fnSizes", apart := false }
def FnSizesSaid : Prop := fnSizesRow.holds Try.pinned (OpenSpec.ofChange fnSizesSpec)

/-- ITS FALSE NEIGHBOUR: 'it returns false'. Refute it at one input. -/
def fnSizesWrong : ChangeSpec := { name := "fnSizes", fn := fun _ => fun
  | [d] => { results := [.lit (.bool false)], args := [d] }
  | _ => none }
def FnSizesWrongFalsely : Prop := fnSizesRow.holds Try.pinned (OpenSpec.ofChange fnSizesWrong)

/- THE SECOND FORM. 'bulk': how many values and letters a reading holds, each counted each time it is reached (what is shared counts as often as it is met; a slice's spare places count too). A statement '..UptoSaid' is the law's where the arguments, and the package variables that the reading takes, are together of bulk at most 1048576: NARROWER than '..Said'. Prove '..Said' where nothing that the law and all that it calls make is longer than what came in: it says more and counts as full. Else prove '..UptoSaid'. A law counts once. -/
mutual
def uptoBulk {H : Type} : DataW H → Nat
  | .lit (.string bytes) => bytes.length + 1
  | .lit _ => 1
  | .nil => 1
  | .ptr d => uptoBulk d + 1
  | .slice elems spare => uptoBulkAll elems + uptoBulkAll spare + 1
  | .agg parts => uptoBulkAll parts + 1
  | .iface _ d => uptoBulk d + 1
  | .map entries => uptoBulkEntries entries + 1
  | .held _ => 1
def uptoBulkAll {H : Type} : List (DataW H) → Nat
  | [] => 0
  | d :: r => uptoBulk d + uptoBulkAll r
def uptoBulkEntries {H : Type} : List (Lit × DataW H) → Nat
  | [] => 0
  | x :: r => uptoBulkEntry x + uptoBulkEntries r
def uptoBulkEntry {H : Type} : Lit × DataW H → Nat
  | (.string bytes, d) => bytes.length + uptoBulk d + 1
  | (_, d) => uptoBulk d + 1
 end
def uptoSmall : (H : Type) → List (DataW H) → Bool := fun _ ds => decide (uptoBulkAll ds ≤ 1048576)
def OpenSpec.upto (s : _root_.Go.ChangeSpec) : _root_.Go.OpenSpec := { _root_.Go.OpenSpec.ofChange s with cond := some uptoSmall }

/-- 'laws.FnExactMicroGrads', WHERE WHAT IT READS IS OF BULK AT MOST 1048576: true; the input reads as it did. -/
def fnExactMicroGradsUptoRow : OpenClaim := { program := "ytehfglfbnjdcoaa", sum := "f86c2f7117b429ea2b263ea7b7d3f883512f6cea951961697e80001eb35b8c14", func := "loop.example/g01407/laws.FnExactMicroGrads", spec := "fnExactMicroGrads", apart := false, narrowed := true }
def FnExactMicroGradsUptoSaid : Prop := fnExactMicroGradsUptoRow.holds Try.pinned (OpenSpec.upto fnExactMicroGradsSpec)

/-- 'laws.FnExactOpForward', WHERE WHAT IT READS IS OF BULK AT MOST 1048576: true; the input reads as it did. -/
def fnExactOpForwardUptoRow : OpenClaim := { program := "ytehfglfbnjdcoaa", sum := "f86c2f7117b429ea2b263ea7b7d3f883512f6cea951961697e80001eb35b8c14", func := "loop.example/g01407/laws.FnExactOpForward", spec := "fnExactOpForward", apart := false, narrowed := true }
def FnExactOpForwardUptoSaid : Prop := fnExactOpForwardUptoRow.holds Try.pinned (OpenSpec.upto fnExactOpForwardSpec)

/-- 'laws.FnExactOpBackward', WHERE WHAT IT READS IS OF BULK AT MOST 1048576: true; the input reads as it did. -/
def fnExactOpBackwardUptoRow : OpenClaim := { program := "ytehfglfbnjdcoaa", sum := "f86c2f7117b429ea2b263ea7b7d3f883512f6cea951961697e80001eb35b8c14", func := "loop.example/g01407/laws.FnExactOpBackward", spec := "fnExactOpBackward", apart := false, narrowed := true }
def FnExactOpBackwardUptoSaid : Prop := fnExactOpBackwardUptoRow.holds Try.pinned (OpenSpec.upto fnExactOpBackwardSpec)

/-- 'laws.FnExactInputs', WHERE WHAT IT READS IS OF BULK AT MOST 1048576: true; the input reads as it did. -/
def fnExactInputsUptoRow : OpenClaim := { program := "ytehfglfbnjdcoaa", sum := "f86c2f7117b429ea2b263ea7b7d3f883512f6cea951961697e80001eb35b8c14", func := "loop.example/g01407/laws.FnExactInputs", spec := "fnExactInputs", apart := false, narrowed := true }
def FnExactInputsUptoSaid : Prop := fnExactInputsUptoRow.holds Try.pinned (OpenSpec.upto fnExactInputsSpec)

/-- 'laws.FnExactZeroGrads', WHERE WHAT IT READS IS OF BULK AT MOST 1048576: true; the input reads as it did. -/
def fnExactZeroGradsUptoRow : OpenClaim := { program := "ytehfglfbnjdcoaa", sum := "f86c2f7117b429ea2b263ea7b7d3f883512f6cea951961697e80001eb35b8c14", func := "loop.example/g01407/laws.FnExactZeroGrads", spec := "fnExactZeroGrads", apart := false, narrowed := true }
def FnExactZeroGradsUptoSaid : Prop := fnExactZeroGradsUptoRow.holds Try.pinned (OpenSpec.upto fnExactZeroGradsSpec)

/-- 'laws.FnExactAddGrads', WHERE WHAT IT READS IS OF BULK AT MOST 1048576: true; the input reads as it did. -/
def fnExactAddGradsUptoRow : OpenClaim := { program := "ytehfglfbnjdcoaa", sum := "f86c2f7117b429ea2b263ea7b7d3f883512f6cea951961697e80001eb35b8c14", func := "loop.example/g01407/laws.FnExactAddGrads", spec := "fnExactAddGrads", apart := false, narrowed := true }
def FnExactAddGradsUptoSaid : Prop := fnExactAddGradsUptoRow.holds Try.pinned (OpenSpec.upto fnExactAddGradsSpec)

/-- 'laws.FnExactSameGrads', WHERE WHAT IT READS IS OF BULK AT MOST 1048576: true; the input reads as it did. -/
def fnExactSameGradsUptoRow : OpenClaim := { program := "ytehfglfbnjdcoaa", sum := "f86c2f7117b429ea2b263ea7b7d3f883512f6cea951961697e80001eb35b8c14", func := "loop.example/g01407/laws.FnExactSameGrads", spec := "fnExactSameGrads", apart := false, narrowed := true }
def FnExactSameGradsUptoSaid : Prop := fnExactSameGradsUptoRow.holds Try.pinned (OpenSpec.upto fnExactSameGradsSpec)

/-- 'laws.FnExactBatchOk', WHERE WHAT IT READS IS OF BULK AT MOST 1048576: true; the input reads as it did. -/
def fnExactBatchOkUptoRow : OpenClaim := { program := "ytehfglfbnjdcoaa", sum := "f86c2f7117b429ea2b263ea7b7d3f883512f6cea951961697e80001eb35b8c14", func := "loop.example/g01407/laws.FnExactBatchOk", spec := "fnExactBatchOk", apart := false, narrowed := true }
def FnExactBatchOkUptoSaid : Prop := fnExactBatchOkUptoRow.holds Try.pinned (OpenSpec.upto fnExactBatchOkSpec)

/-- 'laws.FnInARow', WHERE WHAT IT READS IS OF BULK AT MOST 1048576: true; the input reads as it did. -/
def fnInARowUptoRow : OpenClaim := { program := "ytehfglfbnjdcoaa", sum := "f86c2f7117b429ea2b263ea7b7d3f883512f6cea951961697e80001eb35b8c14", func := "loop.example/g01407/laws.FnInARow", spec := "fnInARow", apart := false, narrowed := true }
def FnInARowUptoSaid : Prop := fnInARowUptoRow.holds Try.pinned (OpenSpec.upto fnInARowSpec)

/-- 'laws.FnOps', WHERE WHAT IT READS IS OF BULK AT MOST 1048576: true; the input reads as it did. -/
def fnOpsUptoRow : OpenClaim := { program := "ytehfglfbnjdcoaa", sum := "f86c2f7117b429ea2b263ea7b7d3f883512f6cea951961697e80001eb35b8c14", func := "loop.example/g01407/laws.FnOps", spec := "fnOps", apart := false, narrowed := true }
def FnOpsUptoSaid : Prop := fnOpsUptoRow.holds Try.pinned (OpenSpec.upto fnOpsSpec)

/-- 'laws.FnSizes', WHERE WHAT IT READS IS OF BULK AT MOST 1048576: true; the input reads as it did. -/
def fnSizesUptoRow : OpenClaim := { program := "ytehfglfbnjdcoaa", sum := "f86c2f7117b429ea2b263ea7b7d3f883512f6cea951961697e80001eb35b8c14", func := "loop.example/g01407/laws.FnSizes", spec := "fnSizes", apart := false, narrowed := true }
def FnSizesUptoSaid : Prop := fnSizesUptoRow.holds Try.pinned (OpenSpec.upto fnSizesSpec)

end Rows
end Go.Proofs.Ytehfglfbnjdcoaa
