/-
  No cell of these rows narrows 'for every input' (looked for: loops, veiled, ifaces, maps, wideKeys, modest, calm, conditions, laid).
  DERIVED. THE GIVEN ROWS OF THIS SEAT. 11 by the template 'for every input the law returns true; each argument reads behind the call as it read before'; 0 by the template 'total and deterministic' (their statements: YtomlkcljdacfkaaTotals.lean).
  GIVEN WITH THE SEED: the statements are not yours to turn. If you find one false, say at which input.
  Laid BY PROGRAM, IN A SANDBOX (cutbox-rows.mjs): the forced cells as the released guide's own fill.sh prints them over the translation 09f3f3211442a9e9… (all of the seat's roots in one cut). By AI agents, Wed Nov 11 2026. No macro, syntax, notation, axiom, sorry.
-/
import Derived.Test.YtomlkcljdacfkaaChecked
import GoSem.Claim
import GoSem.ClaimJoined
import GoSem.ClaimMapViews
import Derived.JoinedTies
import Derived.KernelRfl
namespace Go.Proofs.Ytomlkcljdacfkaa
/- THE CELL 'sum', in the pinned program and in every row, IS THE sha256 OF THE DUMP (.gsa) THAT YtomlkcljdacfkaaProg.lean LOADS. Nothing in Lean hashes anything: it is a label: what it is worth is what the hold of that sum in a sandbox is worth. -/
noncomputable def Try.pinned : Pinned := { name := "ytomlkcljdacfkaa", sum := "09f3f3211442a9e938e583b2a9392496c8ca6f54b84f53fd88c3df17d2633aa0", checked := Try.checked }
namespace Rows
def none {H : Type} : Left H := { results := [], args := [] }

/-- 'laws.FnExactConstants': WHATEVER THE INPUT: true; the input reads as it did. -/
def fnExactConstantsSpec : ChangeSpec := { name := "fnExactConstants", fn := fun _ => fun
  | [] => { results := [.lit (.bool true)], args := [] }
  | _ => none }
def fnExactConstantsRow : OpenClaim := { program := "ytomlkcljdacfkaa", sum := "09f3f3211442a9e938e583b2a9392496c8ca6f54b84f53fd88c3df17d2633aa0", func := "loop.example/g01407/laws.FnExactConstants", spec := "fnExactConstants", apart := false }
def FnExactConstantsSaid : Prop := fnExactConstantsRow.holds Try.pinned (OpenSpec.ofChange fnExactConstantsSpec)

/-- ITS FALSE NEIGHBOUR: 'it returns false'. Refute it at one input. -/
def fnExactConstantsWrong : ChangeSpec := { name := "fnExactConstants", fn := fun _ => fun
  | [] => { results := [.lit (.bool false)], args := [] }
  | _ => none }
def FnExactConstantsWrongFalsely : Prop := fnExactConstantsRow.holds Try.pinned (OpenSpec.ofChange fnExactConstantsWrong)

/-- 'laws.FnExactFixOk': WHATEVER THE INPUT: true; the input reads as it did. -/
def fnExactFixOkSpec : ChangeSpec := { name := "fnExactFixOk", fn := fun _ => fun
  | [d] => { results := [.lit (.bool true)], args := [d] }
  | _ => none }
def fnExactFixOkRow : OpenClaim := { program := "ytomlkcljdacfkaa", sum := "09f3f3211442a9e938e583b2a9392496c8ca6f54b84f53fd88c3df17d2633aa0", func := "loop.example/g01407/laws.FnExactFixOk", spec := "fnExactFixOk", apart := false }
def FnExactFixOkSaid : Prop := fnExactFixOkRow.holds Try.pinned (OpenSpec.ofChange fnExactFixOkSpec)

/-- ITS FALSE NEIGHBOUR: 'it returns false'. Refute it at one input. -/
def fnExactFixOkWrong : ChangeSpec := { name := "fnExactFixOk", fn := fun _ => fun
  | [d] => { results := [.lit (.bool false)], args := [d] }
  | _ => none }
def FnExactFixOkWrongFalsely : Prop := fnExactFixOkRow.holds Try.pinned (OpenSpec.ofChange fnExactFixOkWrong)

/-- 'laws.FnExactHex': WHATEVER THE INPUT: true; the input reads as it did. -/
def fnExactHexSpec : ChangeSpec := { name := "fnExactHex", fn := fun _ => fun
  | [d] => { results := [.lit (.bool true)], args := [d] }
  | _ => none }
def fnExactHexRow : OpenClaim := { program := "ytomlkcljdacfkaa", sum := "09f3f3211442a9e938e583b2a9392496c8ca6f54b84f53fd88c3df17d2633aa0", func := "loop.example/g01407/laws.FnExactHex", spec := "fnExactHex", apart := false }
def FnExactHexSaid : Prop := fnExactHexRow.holds Try.pinned (OpenSpec.ofChange fnExactHexSpec)

/-- ITS FALSE NEIGHBOUR: 'it returns false'. Refute it at one input. -/
def fnExactHexWrong : ChangeSpec := { name := "fnExactHex", fn := fun _ => fun
  | [d] => { results := [.lit (.bool false)], args := [d] }
  | _ => none }
def FnExactHexWrongFalsely : Prop := fnExactHexRow.holds Try.pinned (OpenSpec.ofChange fnExactHexWrong)

/-- 'laws.FnExactFixNeg': WHATEVER THE INPUT: true; the input reads as it did. -/
def fnExactFixNegSpec : ChangeSpec := { name := "fnExactFixNeg", fn := fun _ => fun
  | [d] => { results := [.lit (.bool true)], args := [d] }
  | _ => none }
def fnExactFixNegRow : OpenClaim := { program := "ytomlkcljdacfkaa", sum := "09f3f3211442a9e938e583b2a9392496c8ca6f54b84f53fd88c3df17d2633aa0", func := "loop.example/g01407/laws.FnExactFixNeg", spec := "fnExactFixNeg", apart := false }
def FnExactFixNegSaid : Prop := fnExactFixNegRow.holds Try.pinned (OpenSpec.ofChange fnExactFixNegSpec)

/-- ITS FALSE NEIGHBOUR: 'it returns false'. Refute it at one input. -/
def fnExactFixNegWrong : ChangeSpec := { name := "fnExactFixNeg", fn := fun _ => fun
  | [d] => { results := [.lit (.bool false)], args := [d] }
  | _ => none }
def FnExactFixNegWrongFalsely : Prop := fnExactFixNegRow.holds Try.pinned (OpenSpec.ofChange fnExactFixNegWrong)

/-- 'laws.FnExactRelu': WHATEVER THE INPUT: true; the input reads as it did. -/
def fnExactReluSpec : ChangeSpec := { name := "fnExactRelu", fn := fun _ => fun
  | [d] => { results := [.lit (.bool true)], args := [d] }
  | _ => none }
def fnExactReluRow : OpenClaim := { program := "ytomlkcljdacfkaa", sum := "09f3f3211442a9e938e583b2a9392496c8ca6f54b84f53fd88c3df17d2633aa0", func := "loop.example/g01407/laws.FnExactRelu", spec := "fnExactRelu", apart := false }
def FnExactReluSaid : Prop := fnExactReluRow.holds Try.pinned (OpenSpec.ofChange fnExactReluSpec)

/-- ITS FALSE NEIGHBOUR: 'it returns false'. Refute it at one input. -/
def fnExactReluWrong : ChangeSpec := { name := "fnExactRelu", fn := fun _ => fun
  | [d] => { results := [.lit (.bool false)], args := [d] }
  | _ => none }
def FnExactReluWrongFalsely : Prop := fnExactReluRow.holds Try.pinned (OpenSpec.ofChange fnExactReluWrong)

/-- 'laws.FnExactFixAdd': WHATEVER THE INPUT: true; the input reads as it did. -/
def fnExactFixAddSpec : ChangeSpec := { name := "fnExactFixAdd", fn := fun _ => fun
  | [d1, d2] => { results := [.lit (.bool true)], args := [d1, d2] }
  | _ => none }
def fnExactFixAddRow : OpenClaim := { program := "ytomlkcljdacfkaa", sum := "09f3f3211442a9e938e583b2a9392496c8ca6f54b84f53fd88c3df17d2633aa0", func := "loop.example/g01407/laws.FnExactFixAdd", spec := "fnExactFixAdd", apart := false }
def FnExactFixAddSaid : Prop := fnExactFixAddRow.holds Try.pinned (OpenSpec.ofChange fnExactFixAddSpec)

/-- ITS FALSE NEIGHBOUR: 'it returns false'. Refute it at one input. -/
def fnExactFixAddWrong : ChangeSpec := { name := "fnExactFixAdd", fn := fun _ => fun
  | [d1, d2] => { results := [.lit (.bool false)], args := [d1, d2] }
  | _ => none }
def FnExactFixAddWrongFalsely : Prop := fnExactFixAddRow.holds Try.pinned (OpenSpec.ofChange fnExactFixAddWrong)

/-- 'laws.FnExactFixSub': WHATEVER THE INPUT: true; the input reads as it did. -/
def fnExactFixSubSpec : ChangeSpec := { name := "fnExactFixSub", fn := fun _ => fun
  | [d1, d2] => { results := [.lit (.bool true)], args := [d1, d2] }
  | _ => none }
def fnExactFixSubRow : OpenClaim := { program := "ytomlkcljdacfkaa", sum := "09f3f3211442a9e938e583b2a9392496c8ca6f54b84f53fd88c3df17d2633aa0", func := "loop.example/g01407/laws.FnExactFixSub", spec := "fnExactFixSub", apart := false }
def FnExactFixSubSaid : Prop := fnExactFixSubRow.holds Try.pinned (OpenSpec.ofChange fnExactFixSubSpec)

/-- ITS FALSE NEIGHBOUR: 'it returns false'. Refute it at one input. -/
def fnExactFixSubWrong : ChangeSpec := { name := "fnExactFixSub", fn := fun _ => fun
  | [d1, d2] => { results := [.lit (.bool false)], args := [d1, d2] }
  | _ => none }
def FnExactFixSubWrongFalsely : Prop := fnExactFixSubRow.holds Try.pinned (OpenSpec.ofChange fnExactFixSubWrong)

/-- 'laws.FnExactReadFixed': WHATEVER THE INPUT: true; the input reads as it did. -/
def fnExactReadFixedSpec : ChangeSpec := { name := "fnExactReadFixed", fn := fun _ => fun
  | [d1, d2] => { results := [.lit (.bool true)], args := [d1, d2] }
  | _ => none }
def fnExactReadFixedRow : OpenClaim := { program := "ytomlkcljdacfkaa", sum := "09f3f3211442a9e938e583b2a9392496c8ca6f54b84f53fd88c3df17d2633aa0", func := "loop.example/g01407/laws.FnExactReadFixed", spec := "fnExactReadFixed", apart := false }
def FnExactReadFixedSaid : Prop := fnExactReadFixedRow.holds Try.pinned (OpenSpec.ofChange fnExactReadFixedSpec)

/-- ITS FALSE NEIGHBOUR: 'it returns false'. Refute it at one input. -/
def fnExactReadFixedWrong : ChangeSpec := { name := "fnExactReadFixed", fn := fun _ => fun
  | [d1, d2] => { results := [.lit (.bool false)], args := [d1, d2] }
  | _ => none }
def FnExactReadFixedWrongFalsely : Prop := fnExactReadFixedRow.holds Try.pinned (OpenSpec.ofChange fnExactReadFixedWrong)

/-- 'laws.FnExactVar': WHATEVER THE INPUT: true; the input reads as it did. -/
def fnExactVarSpec : ChangeSpec := { name := "fnExactVar", fn := fun _ => fun
  | [d] => { results := [.lit (.bool true)], args := [d] }
  | _ => none }
def fnExactVarRow : OpenClaim := { program := "ytomlkcljdacfkaa", sum := "09f3f3211442a9e938e583b2a9392496c8ca6f54b84f53fd88c3df17d2633aa0", func := "loop.example/g01407/laws.FnExactVar", spec := "fnExactVar", apart := false }
def FnExactVarSaid : Prop := fnExactVarRow.holds Try.pinned (OpenSpec.ofChange fnExactVarSpec)

/-- ITS FALSE NEIGHBOUR: 'it returns false'. Refute it at one input. -/
def fnExactVarWrong : ChangeSpec := { name := "fnExactVar", fn := fun _ => fun
  | [d] => { results := [.lit (.bool false)], args := [d] }
  | _ => none }
def FnExactVarWrongFalsely : Prop := fnExactVarRow.holds Try.pinned (OpenSpec.ofChange fnExactVarWrong)

/-- 'laws.FnExactFixMul': WHATEVER THE INPUT: true; the input reads as it did. -/
def fnExactFixMulSpec : ChangeSpec := { name := "fnExactFixMul", fn := fun _ => fun
  | [d1, d2] => { results := [.lit (.bool true)], args := [d1, d2] }
  | _ => none }
def fnExactFixMulRow : OpenClaim := { program := "ytomlkcljdacfkaa", sum := "09f3f3211442a9e938e583b2a9392496c8ca6f54b84f53fd88c3df17d2633aa0", func := "loop.example/g01407/laws.FnExactFixMul", spec := "fnExactFixMul", apart := false }
def FnExactFixMulSaid : Prop := fnExactFixMulRow.holds Try.pinned (OpenSpec.ofChange fnExactFixMulSpec)

/-- ITS FALSE NEIGHBOUR: 'it returns false'. Refute it at one input. -/
def fnExactFixMulWrong : ChangeSpec := { name := "fnExactFixMul", fn := fun _ => fun
  | [d1, d2] => { results := [.lit (.bool false)], args := [d1, d2] }
  | _ => none }
def FnExactFixMulWrongFalsely : Prop := fnExactFixMulRow.holds Try.pinned (OpenSpec.ofChange fnExactFixMulWrong)

/-- 'laws.FnExactFixed': WHATEVER THE INPUT: true; the input reads as it did. -/
def fnExactFixedSpec : ChangeSpec := { name := "fnExactFixed", fn := fun _ => fun
  | [d1, d2] => { results := [.lit (.bool true)], args := [d1, d2] }
  | _ => none }
def fnExactFixedRow : OpenClaim := { program := "ytomlkcljdacfkaa", sum := "09f3f3211442a9e938e583b2a9392496c8ca6f54b84f53fd88c3df17d2633aa0", func := "loop.example/g01407/laws.FnExactFixed", spec := "fnExactFixed", apart := false }
def FnExactFixedSaid : Prop := fnExactFixedRow.holds Try.pinned (OpenSpec.ofChange fnExactFixedSpec)

/-- ITS FALSE NEIGHBOUR: 'it returns false'. Refute it at one input. -/
def fnExactFixedWrong : ChangeSpec := { name := "fnExactFixed", fn := fun _ => fun
  | [d1, d2] => { results := [.lit (.bool false)], args := [d1, d2] }
  | _ => none }
def FnExactFixedWrongFalsely : Prop := fnExactFixedRow.holds Try.pinned (OpenSpec.ofChange fnExactFixedWrong)

/- THE SECOND FORM. 'bulk': how many values and letters a reading holds, each counted each time it is reached (what is shared counts as often as it is met; a slice's spare places count too). A statement '..UptoSaid' is the law's where the arguments, and the package variables that the reading takes, are together of bulk at most 1048576: NARROWER than '..Said'. Prove '..Said' where nothing that the law and all that it calls make is longer than what came in: it says more and counts as full. Else prove '..UptoSaid'. A law counts once. -/
mutual
def uptoBulk {H : Type} : DataW H → Nat
  | .lit (.string bytes) => bytes.length + 1
  | .lit _ => 1
  | .nil => 1
  | .ptr d => uptoBulk d + 1
  | .slice elems spare => uptoBulkAll elems + uptoBulkAll spare + 1
  | .agg parts => uptoBulkAll parts + 1
  | .iface _ d => uptoBulk d + 1
  | .map entries => uptoBulkEntries entries + 1
  | .held _ => 1
def uptoBulkAll {H : Type} : List (DataW H) → Nat
  | [] => 0
  | d :: r => uptoBulk d + uptoBulkAll r
def uptoBulkEntries {H : Type} : List (Lit × DataW H) → Nat
  | [] => 0
  | x :: r => uptoBulkEntry x + uptoBulkEntries r
def uptoBulkEntry {H : Type} : Lit × DataW H → Nat
  | (.string bytes, d) => bytes.length + uptoBulk d + 1
  | (_, d) => uptoBulk d + 1
 end
def uptoSmall : (H : Type) → List (DataW H) → Bool := fun _ ds => decide (uptoBulkAll ds ≤ 1048576)
def OpenSpec.upto (s : _root_.Go.ChangeSpec) : _root_.Go.OpenSpec := { _root_.Go.OpenSpec.ofChange s with cond := some uptoSmall }

/-- 'laws.FnExactConstants', WHERE WHAT IT READS IS OF BULK AT MOST 1048576: true; the input reads as it did. -/
def fnExactConstantsUptoRow : OpenClaim := { program := "ytomlkcljdacfkaa", sum := "09f3f3211442a9e938e583b2a9392496c8ca6f54b84f53fd88c3df17d2633aa0", func := "loop.example/g01407/laws.FnExactConstants", spec := "fnExactConstants", apart := false, narrowed := true }
def FnExactConstantsUptoSaid : Prop := fnExactConstantsUptoRow.holds Try.pinned (OpenSpec.upto fnExactConstantsSpec)

/-- 'laws.FnExactFixOk', WHERE WHAT IT READS IS OF BULK AT MOST 1048576: true; the input reads as it did. -/
def fnExactFixOkUptoRow : OpenClaim := { program := "ytomlkcljdacfkaa", sum := "09f3f3211442a9e938e583b2a9392496c8ca6f54b84f53fd88c3df17d2633aa0", func := "loop.example/g01407/laws.FnExactFixOk", spec := "fnExactFixOk", apart := false, narrowed := true }
def FnExactFixOkUptoSaid : Prop := fnExactFixOkUptoRow.holds Try.pinned (OpenSpec.upto fnExactFixOkSpec)

/-- 'laws.FnExactHex', WHERE WHAT IT READS IS OF BULK AT MOST 1048576: true; the input reads as it did. -/
def fnExactHexUptoRow : OpenClaim := { program := "ytomlkcljdacfkaa", sum := "09f3f3211442a9e938e583b2a9392496c8ca6f54b84f53fd88c3df17d2633aa0", func := "loop.example/g01407/laws.FnExactHex", spec := "fnExactHex", apart := false, narrowed := true }
def FnExactHexUptoSaid : Prop := fnExactHexUptoRow.holds Try.pinned (OpenSpec.upto fnExactHexSpec)

/-- 'laws.FnExactFixNeg', WHERE WHAT IT READS IS OF BULK AT MOST 1048576: true; the input reads as it did. -/
def fnExactFixNegUptoRow : OpenClaim := { program := "ytomlkcljdacfkaa", sum := "09f3f3211442a9e938e583b2a9392496c8ca6f54b84f53fd88c3df17d2633aa0", func := "loop.example/g01407/laws.FnExactFixNeg", spec := "fnExactFixNeg", apart := false, narrowed := true }
def FnExactFixNegUptoSaid : Prop := fnExactFixNegUptoRow.holds Try.pinned (OpenSpec.upto fnExactFixNegSpec)

/-- 'laws.FnExactRelu', WHERE WHAT IT READS IS OF BULK AT MOST 1048576: true; the input reads as it did. -/
def fnExactReluUptoRow : OpenClaim := { program := "ytomlkcljdacfkaa", sum := "09f3f3211442a9e938e583b2a9392496c8ca6f54b84f53fd88c3df17d2633aa0", func := "loop.example/g01407/laws.FnExactRelu", spec := "fnExactRelu", apart := false, narrowed := true }
def FnExactReluUptoSaid : Prop := fnExactReluUptoRow.holds Try.pinned (OpenSpec.upto fnExactReluSpec)

/-- 'laws.FnExactFixAdd', WHERE WHAT IT READS IS OF BULK AT MOST 1048576: true; the input reads as it did. -/
def fnExactFixAddUptoRow : OpenClaim := { program := "ytomlkcljdacfkaa", sum := "09f3f3211442a9e938e583b2a9392496c8ca6f54b84f53fd88c3df17d2633aa0", func := "loop.example/g01407/laws.FnExactFixAdd", spec := "fnExactFixAdd", apart := false, narrowed := true }
def FnExactFixAddUptoSaid : Prop := fnExactFixAddUptoRow.holds Try.pinned (OpenSpec.upto fnExactFixAddSpec)

/-- 'laws.FnExactFixSub', WHERE WHAT IT READS IS OF BULK AT MOST 1048576: true; the input reads as it did. -/
def fnExactFixSubUptoRow : OpenClaim := { program := "ytomlkcljdacfkaa", sum := "09f3f3211442a9e938e583b2a9392496c8ca6f54b84f53fd88c3df17d2633aa0", func := "loop.example/g01407/laws.FnExactFixSub", spec := "fnExactFixSub", apart := false, narrowed := true }
def FnExactFixSubUptoSaid : Prop := fnExactFixSubUptoRow.holds Try.pinned (OpenSpec.upto fnExactFixSubSpec)

/-- 'laws.FnExactReadFixed', WHERE WHAT IT READS IS OF BULK AT MOST 1048576: true; the input reads as it did. -/
def fnExactReadFixedUptoRow : OpenClaim := { program := "ytomlkcljdacfkaa", sum := "09f3f3211442a9e938e583b2a9392496c8ca6f54b84f53fd88c3df17d2633aa0", func := "loop.example/g01407/laws.FnExactReadFixed", spec := "fnExactReadFixed", apart := false, narrowed := true }
def FnExactReadFixedUptoSaid : Prop := fnExactReadFixedUptoRow.holds Try.pinned (OpenSpec.upto fnExactReadFixedSpec)

/-- 'laws.FnExactVar', WHERE WHAT IT READS IS OF BULK AT MOST 1048576: true; the input reads as it did. -/
def fnExactVarUptoRow : OpenClaim := { program := "ytomlkcljdacfkaa", sum := "09f3f3211442a9e938e583b2a9392496c8ca6f54b84f53fd88c3df17d2633aa0", func := "loop.example/g01407/laws.FnExactVar", spec := "fnExactVar", apart := false, narrowed := true }
def FnExactVarUptoSaid : Prop := fnExactVarUptoRow.holds Try.pinned (OpenSpec.upto fnExactVarSpec)

/-- 'laws.FnExactFixMul', WHERE WHAT IT READS IS OF BULK AT MOST 1048576: true; the input reads as it did. -/
def fnExactFixMulUptoRow : OpenClaim := { program := "ytomlkcljdacfkaa", sum := "09f3f3211442a9e938e583b2a9392496c8ca6f54b84f53fd88c3df17d2633aa0", func := "loop.example/g01407/laws.FnExactFixMul", spec := "fnExactFixMul", apart := false, narrowed := true }
def FnExactFixMulUptoSaid : Prop := fnExactFixMulUptoRow.holds Try.pinned (OpenSpec.upto fnExactFixMulSpec)

/-- 'laws.FnExactFixed', WHERE WHAT IT READS IS OF BULK AT MOST 1048576: true; the input reads as it did. -/
def fnExactFixedUptoRow : OpenClaim := { program := "ytomlkcljdacfkaa", sum := "09f3f3211442a9e938e583b2a9392496c8ca6f54b84f53fd88c3df17d2633aa0", func := "loop.example/g01407/laws.FnExactFixed", spec := "fnExactFixed", apart := false, narrowed := true }
def FnExactFixedUptoSaid : Prop := fnExactFixedUptoRow.holds Try.pinned (OpenSpec.upto fnExactFixedSpec)

end Rows
end Go.Proofs.Ytomlkcljdacfkaa
