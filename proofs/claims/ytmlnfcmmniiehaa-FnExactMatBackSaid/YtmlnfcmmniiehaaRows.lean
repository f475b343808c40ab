/-
  No cell of these rows narrows 'for every input' (looked for: loops, veiled, ifaces, maps, wideKeys, modest, calm, conditions, laid).
  DERIVED. THE GIVEN ROWS OF THIS SEAT. 12 by the template 'for every input the law returns true; each argument reads behind the call as it read before'; 0 by the template 'total and deterministic' (their statements: YtmlnfcmmniiehaaTotals.lean).
  GIVEN WITH THE SEED: the statements are not yours to turn. If you find one false, say at which input.
  Laid BY PROGRAM, IN A SANDBOX (cutbox-rows.mjs): the forced cells as the released guide's own fill.sh prints them over the translation a99e70f9e7933a16… (all of the seat's roots in one cut). By AI agents, Wed Nov 11 2026. No macro, syntax, notation, axiom, sorry.
-/
import Derived.Test.YtmlnfcmmniiehaaChecked
import GoSem.Claim
import GoSem.ClaimJoined
import GoSem.ClaimMapViews
import Derived.JoinedTies
import Derived.KernelRfl
namespace Go.Proofs.Ytmlnfcmmniiehaa
/- THE CELL 'sum', in the pinned program and in every row, IS THE sha256 OF THE DUMP (.gsa) THAT YtmlnfcmmniiehaaProg.lean LOADS. Nothing in Lean hashes anything: it is a label: what it is worth is what the hold of that sum in a sandbox is worth. -/
noncomputable def Try.pinned : Pinned := { name := "ytmlnfcmmniiehaa", sum := "a99e70f9e7933a16c64378f4e60b8610d7bb1e836bde07ac02d7a0996c81b1ca", checked := Try.checked }
namespace Rows
def none {H : Type} : Left H := { results := [], args := [] }

/-- 'laws.FnExactVecOk': WHATEVER THE INPUT: true; the input reads as it did. -/
def fnExactVecOkSpec : ChangeSpec := { name := "fnExactVecOk", fn := fun _ => fun
  | [d] => { results := [.lit (.bool true)], args := [d] }
  | _ => none }
def fnExactVecOkRow : OpenClaim := { program := "ytmlnfcmmniiehaa", sum := "a99e70f9e7933a16c64378f4e60b8610d7bb1e836bde07ac02d7a0996c81b1ca", func := "loop.example/g01407/laws.FnExactVecOk", spec := "fnExactVecOk", apart := false }
def FnExactVecOkSaid : Prop := fnExactVecOkRow.holds Try.pinned (OpenSpec.ofChange fnExactVecOkSpec)

/-- ITS FALSE NEIGHBOUR: 'it returns false'. Refute it at one input. -/
def fnExactVecOkWrong : ChangeSpec := { name := "fnExactVecOk", fn := fun _ => fun
  | [d] => { results := [.lit (.bool false)], args := [d] }
  | _ => none }
def FnExactVecOkWrongFalsely : Prop := fnExactVecOkRow.holds Try.pinned (OpenSpec.ofChange fnExactVecOkWrong)

/-- 'laws.FnExactSameVec': WHATEVER THE INPUT: true; the input reads as it did. -/
def fnExactSameVecSpec : ChangeSpec := { name := "fnExactSameVec", fn := fun _ => fun
  | [d1, d2] => { results := [.lit (.bool true)], args := [d1, d2] }
  | _ => none }
def fnExactSameVecRow : OpenClaim := { program := "ytmlnfcmmniiehaa", sum := "a99e70f9e7933a16c64378f4e60b8610d7bb1e836bde07ac02d7a0996c81b1ca", func := "loop.example/g01407/laws.FnExactSameVec", spec := "fnExactSameVec", apart := false }
def FnExactSameVecSaid : Prop := fnExactSameVecRow.holds Try.pinned (OpenSpec.ofChange fnExactSameVecSpec)

/-- ITS FALSE NEIGHBOUR: 'it returns false'. Refute it at one input. -/
def fnExactSameVecWrong : ChangeSpec := { name := "fnExactSameVec", fn := fun _ => fun
  | [d1, d2] => { results := [.lit (.bool false)], args := [d1, d2] }
  | _ => none }
def FnExactSameVecWrongFalsely : Prop := fnExactSameVecRow.holds Try.pinned (OpenSpec.ofChange fnExactSameVecWrong)

/-- 'laws.FnExactVecAdd': WHATEVER THE INPUT: true; the input reads as it did. -/
def fnExactVecAddSpec : ChangeSpec := { name := "fnExactVecAdd", fn := fun _ => fun
  | [d1, d2] => { results := [.lit (.bool true)], args := [d1, d2] }
  | _ => none }
def fnExactVecAddRow : OpenClaim := { program := "ytmlnfcmmniiehaa", sum := "a99e70f9e7933a16c64378f4e60b8610d7bb1e836bde07ac02d7a0996c81b1ca", func := "loop.example/g01407/laws.FnExactVecAdd", spec := "fnExactVecAdd", apart := false }
def FnExactVecAddSaid : Prop := fnExactVecAddRow.holds Try.pinned (OpenSpec.ofChange fnExactVecAddSpec)

/-- ITS FALSE NEIGHBOUR: 'it returns false'. Refute it at one input. -/
def fnExactVecAddWrong : ChangeSpec := { name := "fnExactVecAdd", fn := fun _ => fun
  | [d1, d2] => { results := [.lit (.bool false)], args := [d1, d2] }
  | _ => none }
def FnExactVecAddWrongFalsely : Prop := fnExactVecAddRow.holds Try.pinned (OpenSpec.ofChange fnExactVecAddWrong)

/-- 'laws.FnExactVecSub': WHATEVER THE INPUT: true; the input reads as it did. -/
def fnExactVecSubSpec : ChangeSpec := { name := "fnExactVecSub", fn := fun _ => fun
  | [d1, d2] => { results := [.lit (.bool true)], args := [d1, d2] }
  | _ => none }
def fnExactVecSubRow : OpenClaim := { program := "ytmlnfcmmniiehaa", sum := "a99e70f9e7933a16c64378f4e60b8610d7bb1e836bde07ac02d7a0996c81b1ca", func := "loop.example/g01407/laws.FnExactVecSub", spec := "fnExactVecSub", apart := false }
def FnExactVecSubSaid : Prop := fnExactVecSubRow.holds Try.pinned (OpenSpec.ofChange fnExactVecSubSpec)

/-- ITS FALSE NEIGHBOUR: 'it returns false'. Refute it at one input. -/
def fnExactVecSubWrong : ChangeSpec := { name := "fnExactVecSub", fn := fun _ => fun
  | [d1, d2] => { results := [.lit (.bool false)], args := [d1, d2] }
  | _ => none }
def FnExactVecSubWrongFalsely : Prop := fnExactVecSubRow.holds Try.pinned (OpenSpec.ofChange fnExactVecSubWrong)

/-- 'laws.FnExactVecScale': WHATEVER THE INPUT: true; the input reads as it did. -/
def fnExactVecScaleSpec : ChangeSpec := { name := "fnExactVecScale", fn := fun _ => fun
  | [d1, d2] => { results := [.lit (.bool true)], args := [d1, d2] }
  | _ => none }
def fnExactVecScaleRow : OpenClaim := { program := "ytmlnfcmmniiehaa", sum := "a99e70f9e7933a16c64378f4e60b8610d7bb1e836bde07ac02d7a0996c81b1ca", func := "loop.example/g01407/laws.FnExactVecScale", spec := "fnExactVecScale", apart := false }
def FnExactVecScaleSaid : Prop := fnExactVecScaleRow.holds Try.pinned (OpenSpec.ofChange fnExactVecScaleSpec)

/-- ITS FALSE NEIGHBOUR: 'it returns false'. Refute it at one input. -/
def fnExactVecScaleWrong : ChangeSpec := { name := "fnExactVecScale", fn := fun _ => fun
  | [d1, d2] => { results := [.lit (.bool false)], args := [d1, d2] }
  | _ => none }
def FnExactVecScaleWrongFalsely : Prop := fnExactVecScaleRow.holds Try.pinned (OpenSpec.ofChange fnExactVecScaleWrong)

/-- 'laws.FnExactVecDot': WHATEVER THE INPUT: true; the input reads as it did. -/
def fnExactVecDotSpec : ChangeSpec := { name := "fnExactVecDot", fn := fun _ => fun
  | [d1, d2] => { results := [.lit (.bool true)], args := [d1, d2] }
  | _ => none }
def fnExactVecDotRow : OpenClaim := { program := "ytmlnfcmmniiehaa", sum := "a99e70f9e7933a16c64378f4e60b8610d7bb1e836bde07ac02d7a0996c81b1ca", func := "loop.example/g01407/laws.FnExactVecDot", spec := "fnExactVecDot", apart := false }
def FnExactVecDotSaid : Prop := fnExactVecDotRow.holds Try.pinned (OpenSpec.ofChange fnExactVecDotSpec)

/-- ITS FALSE NEIGHBOUR: 'it returns false'. Refute it at one input. -/
def fnExactVecDotWrong : ChangeSpec := { name := "fnExactVecDot", fn := fun _ => fun
  | [d1, d2] => { results := [.lit (.bool false)], args := [d1, d2] }
  | _ => none }
def FnExactVecDotWrongFalsely : Prop := fnExactVecDotRow.holds Try.pinned (OpenSpec.ofChange fnExactVecDotWrong)

/-- 'laws.FnExactVecRelu': WHATEVER THE INPUT: true; the input reads as it did. -/
def fnExactVecReluSpec : ChangeSpec := { name := "fnExactVecRelu", fn := fun _ => fun
  | [d] => { results := [.lit (.bool true)], args := [d] }
  | _ => none }
def fnExactVecReluRow : OpenClaim := { program := "ytmlnfcmmniiehaa", sum := "a99e70f9e7933a16c64378f4e60b8610d7bb1e836bde07ac02d7a0996c81b1ca", func := "loop.example/g01407/laws.FnExactVecRelu", spec := "fnExactVecRelu", apart := false }
def FnExactVecReluSaid : Prop := fnExactVecReluRow.holds Try.pinned (OpenSpec.ofChange fnExactVecReluSpec)

/-- ITS FALSE NEIGHBOUR: 'it returns false'. Refute it at one input. -/
def fnExactVecReluWrong : ChangeSpec := { name := "fnExactVecRelu", fn := fun _ => fun
  | [d] => { results := [.lit (.bool false)], args := [d] }
  | _ => none }
def FnExactVecReluWrongFalsely : Prop := fnExactVecReluRow.holds Try.pinned (OpenSpec.ofChange fnExactVecReluWrong)

/-- 'laws.FnExactVecMask': WHATEVER THE INPUT: true; the input reads as it did. -/
def fnExactVecMaskSpec : ChangeSpec := { name := "fnExactVecMask", fn := fun _ => fun
  | [d1, d2] => { results := [.lit (.bool true)], args := [d1, d2] }
  | _ => none }
def fnExactVecMaskRow : OpenClaim := { program := "ytmlnfcmmniiehaa", sum := "a99e70f9e7933a16c64378f4e60b8610d7bb1e836bde07ac02d7a0996c81b1ca", func := "loop.example/g01407/laws.FnExactVecMask", spec := "fnExactVecMask", apart := false }
def FnExactVecMaskSaid : Prop := fnExactVecMaskRow.holds Try.pinned (OpenSpec.ofChange fnExactVecMaskSpec)

/-- ITS FALSE NEIGHBOUR: 'it returns false'. Refute it at one input. -/
def fnExactVecMaskWrong : ChangeSpec := { name := "fnExactVecMask", fn := fun _ => fun
  | [d1, d2] => { results := [.lit (.bool false)], args := [d1, d2] }
  | _ => none }
def FnExactVecMaskWrongFalsely : Prop := fnExactVecMaskRow.holds Try.pinned (OpenSpec.ofChange fnExactVecMaskWrong)

/-- 'laws.FnExactLossOf': WHATEVER THE INPUT: true; the input reads as it did. -/
def fnExactLossOfSpec : ChangeSpec := { name := "fnExactLossOf", fn := fun _ => fun
  | [d1, d2] => { results := [.lit (.bool true)], args := [d1, d2] }
  | _ => none }
def fnExactLossOfRow : OpenClaim := { program := "ytmlnfcmmniiehaa", sum := "a99e70f9e7933a16c64378f4e60b8610d7bb1e836bde07ac02d7a0996c81b1ca", func := "loop.example/g01407/laws.FnExactLossOf", spec := "fnExactLossOf", apart := false }
def FnExactLossOfSaid : Prop := fnExactLossOfRow.holds Try.pinned (OpenSpec.ofChange fnExactLossOfSpec)

/-- ITS FALSE NEIGHBOUR: 'it returns false'. Refute it at one input. -/
def fnExactLossOfWrong : ChangeSpec := { name := "fnExactLossOf", fn := fun _ => fun
  | [d1, d2] => { results := [.lit (.bool false)], args := [d1, d2] }
  | _ => none }
def FnExactLossOfWrongFalsely : Prop := fnExactLossOfRow.holds Try.pinned (OpenSpec.ofChange fnExactLossOfWrong)

/-- 'laws.FnExactMatVec': WHATEVER THE INPUT: true; the input reads as it did. -/
def fnExactMatVecSpec : ChangeSpec := { name := "fnExactMatVec", fn := fun _ => fun
  | [d1, d2] => { results := [.lit (.bool true)], args := [d1, d2] }
  | _ => none }
def fnExactMatVecRow : OpenClaim := { program := "ytmlnfcmmniiehaa", sum := "a99e70f9e7933a16c64378f4e60b8610d7bb1e836bde07ac02d7a0996c81b1ca", func := "loop.example/g01407/laws.FnExactMatVec", spec := "fnExactMatVec", apart := false }
def FnExactMatVecSaid : Prop := fnExactMatVecRow.holds Try.pinned (OpenSpec.ofChange fnExactMatVecSpec)

/-- ITS FALSE NEIGHBOUR: 'it returns false'. Refute it at one input. -/
def fnExactMatVecWrong : ChangeSpec := { name := "fnExactMatVec", fn := fun _ => fun
  | [d1, d2] => { results := [.lit (.bool false)], args := [d1, d2] }
  | _ => none }
def FnExactMatVecWrongFalsely : Prop := fnExactMatVecRow.holds Try.pinned (OpenSpec.ofChange fnExactMatVecWrong)

/-- 'laws.FnExactMatBack': WHATEVER THE INPUT: true; the input reads as it did. -/
def fnExactMatBackSpec : ChangeSpec := { name := "fnExactMatBack", fn := fun _ => fun
  | [d1, d2] => { results := [.lit (.bool true)], args := [d1, d2] }
  | _ => none }
def fnExactMatBackRow : OpenClaim := { program := "ytmlnfcmmniiehaa", sum := "a99e70f9e7933a16c64378f4e60b8610d7bb1e836bde07ac02d7a0996c81b1ca", func := "loop.example/g01407/laws.FnExactMatBack", spec := "fnExactMatBack", apart := false }
def FnExactMatBackSaid : Prop := fnExactMatBackRow.holds Try.pinned (OpenSpec.ofChange fnExactMatBackSpec)

/-- ITS FALSE NEIGHBOUR: 'it returns false'. Refute it at one input. -/
def fnExactMatBackWrong : ChangeSpec := { name := "fnExactMatBack", fn := fun _ => fun
  | [d1, d2] => { results := [.lit (.bool false)], args := [d1, d2] }
  | _ => none }
def FnExactMatBackWrongFalsely : Prop := fnExactMatBackRow.holds Try.pinned (OpenSpec.ofChange fnExactMatBackWrong)

/-- 'laws.FnExactTranspose': WHATEVER THE INPUT: true; the input reads as it did. -/
def fnExactTransposeSpec : ChangeSpec := { name := "fnExactTranspose", fn := fun _ => fun
  | [d] => { results := [.lit (.bool true)], args := [d] }
  | _ => none }
def fnExactTransposeRow : OpenClaim := { program := "ytmlnfcmmniiehaa", sum := "a99e70f9e7933a16c64378f4e60b8610d7bb1e836bde07ac02d7a0996c81b1ca", func := "loop.example/g01407/laws.FnExactTranspose", spec := "fnExactTranspose", apart := false }
def FnExactTransposeSaid : Prop := fnExactTransposeRow.holds Try.pinned (OpenSpec.ofChange fnExactTransposeSpec)

/-- ITS FALSE NEIGHBOUR: 'it returns false'. Refute it at one input. -/
def fnExactTransposeWrong : ChangeSpec := { name := "fnExactTranspose", fn := fun _ => fun
  | [d] => { results := [.lit (.bool false)], args := [d] }
  | _ => none }
def FnExactTransposeWrongFalsely : Prop := fnExactTransposeRow.holds Try.pinned (OpenSpec.ofChange fnExactTransposeWrong)

/- THE SECOND FORM. 'bulk': how many values and letters a reading holds, each counted each time it is reached (what is shared counts as often as it is met; a slice's spare places count too). A statement '..UptoSaid' is the law's where the arguments, and the package variables that the reading takes, are together of bulk at most 1048576: NARROWER than '..Said'. Prove '..Said' where nothing that the law and all that it calls make is longer than what came in: it says more and counts as full. Else prove '..UptoSaid'. A law counts once. -/
mutual
def uptoBulk {H : Type} : DataW H → Nat
  | .lit (.string bytes) => bytes.length + 1
  | .lit _ => 1
  | .nil => 1
  | .ptr d => uptoBulk d + 1
  | .slice elems spare => uptoBulkAll elems + uptoBulkAll spare + 1
  | .agg parts => uptoBulkAll parts + 1
  | .iface _ d => uptoBulk d + 1
  | .map entries => uptoBulkEntries entries + 1
  | .held _ => 1
def uptoBulkAll {H : Type} : List (DataW H) → Nat
  | [] => 0
  | d :: r => uptoBulk d + uptoBulkAll r
def uptoBulkEntries {H : Type} : List (Lit × DataW H) → Nat
  | [] => 0
  | x :: r => uptoBulkEntry x + uptoBulkEntries r
def uptoBulkEntry {H : Type} : Lit × DataW H → Nat
  | (.string bytes, d) => bytes.length + uptoBulk d + 1
  | (_, d) => uptoBulk d + 1
 end
def uptoSmall : (H : Type) → List (DataW H) → Bool := fun _ ds => decide (uptoBulkAll ds ≤ 1048576)
def OpenSpec.upto (s : _root_.Go.ChangeSpec) : _root_.Go.OpenSpec := { _root_.Go.OpenSpec.ofChange s with cond := some uptoSmall }

/-- 'laws.FnExactVecOk', WHERE WHAT IT READS IS OF BULK AT MOST 1048576: true; the input reads as it did. -/
def fnExactVecOkUptoRow : OpenClaim := { program := "ytmlnfcmmniiehaa", sum := "a99e70f9e7933a16c64378f4e60b8610d7bb1e836bde07ac02d7a0996c81b1ca", func := "loop.example/g01407/laws.FnExactVecOk", spec := "fnExactVecOk", apart := false, narrowed := true }
def FnExactVecOkUptoSaid : Prop := fnExactVecOkUptoRow.holds Try.pinned (OpenSpec.upto fnExactVecOkSpec)

/-- 'laws.FnExactSameVec', WHERE WHAT IT READS IS OF BULK AT MOST 1048576: true; the input reads as it did. -/
def fnExactSameVecUptoRow : OpenClaim := { program := "ytmlnfcmmniiehaa", sum := "a99e70f9e7933a16c64378f4e60b8610d7bb1e836bde07ac02d7a0996c81b1ca", func := "loop.example/g01407/laws.FnExactSameVec", spec := "fnExactSameVec", apart := false, narrowed := true }
def FnExactSameVecUptoSaid : Prop := fnExactSameVecUptoRow.holds Try.pinned (OpenSpec.upto fnExactSameVecSpec)

/-- 'laws.FnExactVecAdd', WHERE WHAT IT READS IS OF BULK AT MOST 1048576: true; the input reads as it did. -/
def fnExactVecAddUptoRow : OpenClaim := { program := "ytmlnfcmmniiehaa", sum := "a99e70f9e7933a16c64378f4e60b8610d7bb1e836bde07ac02d7a0996c81b1ca", func := "loop.example/g01407/laws.FnExactVecAdd", spec := "fnExactVecAdd", apart := false, narrowed := true }
def FnExactVecAddUptoSaid : Prop := fnExactVecAddUptoRow.holds Try.pinned (OpenSpec.upto fnExactVecAddSpec)

/-- 'laws.FnExactVecSub', WHERE WHAT IT READS IS OF BULK AT MOST 1048576: true; the input reads as it did. -/
def fnExactVecSubUptoRow : OpenClaim := { program := "ytmlnfcmmniiehaa", sum := "a99e70f9e7933a16c64378f4e60b8610d7bb1e836bde07ac02d7a0996c81b1ca", func := "loop.example/g01407/laws.FnExactVecSub", spec := "fnExactVecSub", apart := false, narrowed := true }
def FnExactVecSubUptoSaid : Prop := fnExactVecSubUptoRow.holds Try.pinned (OpenSpec.upto fnExactVecSubSpec)

/-- 'laws.FnExactVecScale', WHERE WHAT IT READS IS OF BULK AT MOST 1048576: true; the input reads as it did. -/
def fnExactVecScaleUptoRow : OpenClaim := { program := "ytmlnfcmmniiehaa", sum := "a99e70f9e7933a16c64378f4e60b8610d7bb1e836bde07ac02d7a0996c81b1ca", func := "loop.example/g01407/laws.FnExactVecScale", spec := "fnExactVecScale", apart := false, narrowed := true }
def FnExactVecScaleUptoSaid : Prop := fnExactVecScaleUptoRow.holds Try.pinned (OpenSpec.upto fnExactVecScaleSpec)

/-- 'laws.FnExactVecDot', WHERE WHAT IT READS IS OF BULK AT MOST 1048576: true; the input reads as it did. -/
def fnExactVecDotUptoRow : OpenClaim := { program := "ytmlnfcmmniiehaa", sum := "a99e70f9e7933a16c64378f4e60b8610d7bb1e836bde07ac02d7a0996c81b1ca", func := "loop.example/g01407/laws.FnExactVecDot", spec := "fnExactVecDot", apart := false, narrowed := true }
def FnExactVecDotUptoSaid : Prop := fnExactVecDotUptoRow.holds Try.pinned (OpenSpec.upto fnExactVecDotSpec)

/-- 'laws.FnExactVecRelu', WHERE WHAT IT READS IS OF BULK AT MOST 1048576: true; the input reads as it did. -/
def fnExactVecReluUptoRow : OpenClaim := { program := "ytmlnfcmmniiehaa", sum := "a99e70f9e7933a16c64378f4e60b8610d7bb1e836bde07ac02d7a0996c81b1ca", func := "loop.example/g01407/laws.FnExactVecRelu", spec := "fnExactVecRelu", apart := false, narrowed := true }
def FnExactVecReluUptoSaid : Prop := fnExactVecReluUptoRow.holds Try.pinned (OpenSpec.upto fnExactVecReluSpec)

/-- 'laws.FnExactVecMask', WHERE WHAT IT READS IS OF BULK AT MOST 1048576: true; the input reads as it did. -/
def fnExactVecMaskUptoRow : OpenClaim := { program := "ytmlnfcmmniiehaa", sum := "a99e70f9e7933a16c64378f4e60b8610d7bb1e836bde07ac02d7a0996c81b1ca", func := "loop.example/g01407/laws.FnExactVecMask", spec := "fnExactVecMask", apart := false, narrowed := true }
def FnExactVecMaskUptoSaid : Prop := fnExactVecMaskUptoRow.holds Try.pinned (OpenSpec.upto fnExactVecMaskSpec)

/-- 'laws.FnExactLossOf', WHERE WHAT IT READS IS OF BULK AT MOST 1048576: true; the input reads as it did. -/
def fnExactLossOfUptoRow : OpenClaim := { program := "ytmlnfcmmniiehaa", sum := "a99e70f9e7933a16c64378f4e60b8610d7bb1e836bde07ac02d7a0996c81b1ca", func := "loop.example/g01407/laws.FnExactLossOf", spec := "fnExactLossOf", apart := false, narrowed := true }
def FnExactLossOfUptoSaid : Prop := fnExactLossOfUptoRow.holds Try.pinned (OpenSpec.upto fnExactLossOfSpec)

/-- 'laws.FnExactMatVec', WHERE WHAT IT READS IS OF BULK AT MOST 1048576: true; the input reads as it did. -/
def fnExactMatVecUptoRow : OpenClaim := { program := "ytmlnfcmmniiehaa", sum := "a99e70f9e7933a16c64378f4e60b8610d7bb1e836bde07ac02d7a0996c81b1ca", func := "loop.example/g01407/laws.FnExactMatVec", spec := "fnExactMatVec", apart := false, narrowed := true }
def FnExactMatVecUptoSaid : Prop := fnExactMatVecUptoRow.holds Try.pinned (OpenSpec.upto fnExactMatVecSpec)

/-- 'laws.FnExactMatBack', WHERE WHAT IT READS IS OF BULK AT MOST 1048576: true; the input reads as it did. -/
def fnExactMatBackUptoRow : OpenClaim := { program := "ytmlnfcmmniiehaa", sum := "a99e70f9e7933a16c64378f4e60b8610d7bb1e836bde07ac02d7a0996c81b1ca", func := "loop.example/g01407/laws.FnExactMatBack", spec := "fnExactMatBack", apart := false, narrowed := true }
def FnExactMatBackUptoSaid : Prop := fnExactMatBackUptoRow.holds Try.pinned (OpenSpec.upto fnExactMatBackSpec)

/-- 'laws.FnExactTranspose', WHERE WHAT IT READS IS OF BULK AT MOST 1048576: true; the input reads as it did. -/
def fnExactTransposeUptoRow : OpenClaim := { program := "ytmlnfcmmniiehaa", sum := "a99e70f9e7933a16c64378f4e60b8610d7bb1e836bde07ac02d7a0996c81b1ca", func := "loop.example/g01407/laws.FnExactTranspose", spec := "fnExactTranspose", apart := false, narrowed := true }
def FnExactTransposeUptoSaid : Prop := fnExactTransposeUptoRow.holds Try.pinned (OpenSpec.upto fnExactTransposeSpec)

end Rows
end Go.Proofs.Ytmlnfcmmniiehaa
