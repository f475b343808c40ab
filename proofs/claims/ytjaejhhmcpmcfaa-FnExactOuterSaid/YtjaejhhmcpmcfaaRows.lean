/-
  No cell of these rows narrows 'for every input' (looked for: loops, veiled, ifaces, maps, wideKeys, modest, calm, conditions, laid).
  DERIVED. THE GIVEN ROWS OF THIS SEAT. 12 by the template 'for every input the law returns true; each argument reads behind the call as it read before'; 0 by the template 'total and deterministic' (their statements: YtjaejhhmcpmcfaaTotals.lean).
  GIVEN WITH THE SEED: the statements are not yours to turn. If you find one false, say at which input.
  Laid BY PROGRAM, IN A SANDBOX (cutbox-rows.mjs): the forced cells as the released guide's own fill.sh prints them over the translation a91d7eece6128805… (all of the seat's roots in one cut). By AI agents, Wed Nov 11 2026. No macro, syntax, notation, axiom, sorry.
-/
import Derived.Test.YtjaejhhmcpmcfaaChecked
import GoSem.Claim
import GoSem.ClaimJoined
import GoSem.ClaimMapViews
import Derived.JoinedTies
import Derived.KernelRfl
namespace Go.Proofs.Ytjaejhhmcpmcfaa
/- THE CELL 'sum', in the pinned program and in every row, IS THE sha256 OF THE DUMP (.gsa) THAT YtjaejhhmcpmcfaaProg.lean LOADS. Nothing in Lean hashes anything: it is a label: what it is worth is what the hold of that sum in a sandbox is worth. -/
noncomputable def Try.pinned : Pinned := { name := "ytjaejhhmcpmcfaa", sum := "a91d7eece6128805d74f4727126c1877f0e180c3c8b4ef4ecf538be811b4960a", checked := Try.checked }
namespace Rows
def none {H : Type} : Left H := { results := [], args := [] }

/-- 'laws.FnExactOuter': WHATEVER THE INPUT: true; the input reads as it did. -/
def fnExactOuterSpec : ChangeSpec := { name := "fnExactOuter", fn := fun _ => fun
  | [d1, d2] => { results := [.lit (.bool true)], args := [d1, d2] }
  | _ => none }
def fnExactOuterRow : OpenClaim := { program := "ytjaejhhmcpmcfaa", sum := "a91d7eece6128805d74f4727126c1877f0e180c3c8b4ef4ecf538be811b4960a", func := "loop.example/g01407/laws.FnExactOuter", spec := "fnExactOuter", apart := false }
def FnExactOuterSaid : Prop := fnExactOuterRow.holds Try.pinned (OpenSpec.ofChange fnExactOuterSpec)

/-- ITS FALSE NEIGHBOUR: 'it returns false'. Refute it at one input. -/
def fnExactOuterWrong : ChangeSpec := { name := "fnExactOuter", fn := fun _ => fun
  | [d1, d2] => { results := [.lit (.bool false)], args := [d1, d2] }
  | _ => none }
def FnExactOuterWrongFalsely : Prop := fnExactOuterRow.holds Try.pinned (OpenSpec.ofChange fnExactOuterWrong)

/-- 'laws.FnExactSameMat': WHATEVER THE INPUT: true; the input reads as it did. -/
def fnExactSameMatSpec : ChangeSpec := { name := "fnExactSameMat", fn := fun _ => fun
  | [d1, d2] => { results := [.lit (.bool true)], args := [d1, d2] }
  | _ => none }
def fnExactSameMatRow : OpenClaim := { program := "ytjaejhhmcpmcfaa", sum := "a91d7eece6128805d74f4727126c1877f0e180c3c8b4ef4ecf538be811b4960a", func := "loop.example/g01407/laws.FnExactSameMat", spec := "fnExactSameMat", apart := false }
def FnExactSameMatSaid : Prop := fnExactSameMatRow.holds Try.pinned (OpenSpec.ofChange fnExactSameMatSpec)

/-- ITS FALSE NEIGHBOUR: 'it returns false'. Refute it at one input. -/
def fnExactSameMatWrong : ChangeSpec := { name := "fnExactSameMat", fn := fun _ => fun
  | [d1, d2] => { results := [.lit (.bool false)], args := [d1, d2] }
  | _ => none }
def FnExactSameMatWrongFalsely : Prop := fnExactSameMatRow.holds Try.pinned (OpenSpec.ofChange fnExactSameMatWrong)

/-- 'laws.FnExactMatOk': WHATEVER THE INPUT: true; the input reads as it did. -/
def fnExactMatOkSpec : ChangeSpec := { name := "fnExactMatOk", fn := fun _ => fun
  | [d] => { results := [.lit (.bool true)], args := [d] }
  | _ => none }
def fnExactMatOkRow : OpenClaim := { program := "ytjaejhhmcpmcfaa", sum := "a91d7eece6128805d74f4727126c1877f0e180c3c8b4ef4ecf538be811b4960a", func := "loop.example/g01407/laws.FnExactMatOk", spec := "fnExactMatOk", apart := false }
def FnExactMatOkSaid : Prop := fnExactMatOkRow.holds Try.pinned (OpenSpec.ofChange fnExactMatOkSpec)

/-- ITS FALSE NEIGHBOUR: 'it returns false'. Refute it at one input. -/
def fnExactMatOkWrong : ChangeSpec := { name := "fnExactMatOk", fn := fun _ => fun
  | [d] => { results := [.lit (.bool false)], args := [d] }
  | _ => none }
def FnExactMatOkWrongFalsely : Prop := fnExactMatOkRow.holds Try.pinned (OpenSpec.ofChange fnExactMatOkWrong)

/-- 'laws.FnExactOpOk': WHATEVER THE INPUT: true; the input reads as it did. -/
def fnExactOpOkSpec : ChangeSpec := { name := "fnExactOpOk", fn := fun _ => fun
  | [d] => { results := [.lit (.bool true)], args := [d] }
  | _ => none }
def fnExactOpOkRow : OpenClaim := { program := "ytjaejhhmcpmcfaa", sum := "a91d7eece6128805d74f4727126c1877f0e180c3c8b4ef4ecf538be811b4960a", func := "loop.example/g01407/laws.FnExactOpOk", spec := "fnExactOpOk", apart := false }
def FnExactOpOkSaid : Prop := fnExactOpOkRow.holds Try.pinned (OpenSpec.ofChange fnExactOpOkSpec)

/-- ITS FALSE NEIGHBOUR: 'it returns false'. Refute it at one input. -/
def fnExactOpOkWrong : ChangeSpec := { name := "fnExactOpOk", fn := fun _ => fun
  | [d] => { results := [.lit (.bool false)], args := [d] }
  | _ => none }
def FnExactOpOkWrongFalsely : Prop := fnExactOpOkRow.holds Try.pinned (OpenSpec.ofChange fnExactOpOkWrong)

/-- 'laws.FnExactOpSize': WHATEVER THE INPUT: true; the input reads as it did. -/
def fnExactOpSizeSpec : ChangeSpec := { name := "fnExactOpSize", fn := fun _ => fun
  | [d] => { results := [.lit (.bool true)], args := [d] }
  | _ => none }
def fnExactOpSizeRow : OpenClaim := { program := "ytjaejhhmcpmcfaa", sum := "a91d7eece6128805d74f4727126c1877f0e180c3c8b4ef4ecf538be811b4960a", func := "loop.example/g01407/laws.FnExactOpSize", spec := "fnExactOpSize", apart := false }
def FnExactOpSizeSaid : Prop := fnExactOpSizeRow.holds Try.pinned (OpenSpec.ofChange fnExactOpSizeSpec)

/-- ITS FALSE NEIGHBOUR: 'it returns false'. Refute it at one input. -/
def fnExactOpSizeWrong : ChangeSpec := { name := "fnExactOpSize", fn := fun _ => fun
  | [d] => { results := [.lit (.bool false)], args := [d] }
  | _ => none }
def FnExactOpSizeWrongFalsely : Prop := fnExactOpSizeRow.holds Try.pinned (OpenSpec.ofChange fnExactOpSizeWrong)

/-- 'laws.FnExactOpCost': WHATEVER THE INPUT: true; the input reads as it did. -/
def fnExactOpCostSpec : ChangeSpec := { name := "fnExactOpCost", fn := fun _ => fun
  | [d] => { results := [.lit (.bool true)], args := [d] }
  | _ => none }
def fnExactOpCostRow : OpenClaim := { program := "ytjaejhhmcpmcfaa", sum := "a91d7eece6128805d74f4727126c1877f0e180c3c8b4ef4ecf538be811b4960a", func := "loop.example/g01407/laws.FnExactOpCost", spec := "fnExactOpCost", apart := false }
def FnExactOpCostSaid : Prop := fnExactOpCostRow.holds Try.pinned (OpenSpec.ofChange fnExactOpCostSpec)

/-- ITS FALSE NEIGHBOUR: 'it returns false'. Refute it at one input. -/
def fnExactOpCostWrong : ChangeSpec := { name := "fnExactOpCost", fn := fun _ => fun
  | [d] => { results := [.lit (.bool false)], args := [d] }
  | _ => none }
def FnExactOpCostWrongFalsely : Prop := fnExactOpCostRow.holds Try.pinned (OpenSpec.ofChange fnExactOpCostWrong)

/-- 'laws.FnExactSameOp': WHATEVER THE INPUT: true; the input reads as it did. -/
def fnExactSameOpSpec : ChangeSpec := { name := "fnExactSameOp", fn := fun _ => fun
  | [d1, d2] => { results := [.lit (.bool true)], args := [d1, d2] }
  | _ => none }
def fnExactSameOpRow : OpenClaim := { program := "ytjaejhhmcpmcfaa", sum := "a91d7eece6128805d74f4727126c1877f0e180c3c8b4ef4ecf538be811b4960a", func := "loop.example/g01407/laws.FnExactSameOp", spec := "fnExactSameOp", apart := false }
def FnExactSameOpSaid : Prop := fnExactSameOpRow.holds Try.pinned (OpenSpec.ofChange fnExactSameOpSpec)

/-- ITS FALSE NEIGHBOUR: 'it returns false'. Refute it at one input. -/
def fnExactSameOpWrong : ChangeSpec := { name := "fnExactSameOp", fn := fun _ => fun
  | [d1, d2] => { results := [.lit (.bool false)], args := [d1, d2] }
  | _ => none }
def FnExactSameOpWrongFalsely : Prop := fnExactSameOpRow.holds Try.pinned (OpenSpec.ofChange fnExactSameOpWrong)

/-- 'laws.FnExactModelOk': WHATEVER THE INPUT: true; the input reads as it did. -/
def fnExactModelOkSpec : ChangeSpec := { name := "fnExactModelOk", fn := fun _ => fun
  | [d] => { results := [.lit (.bool true)], args := [d] }
  | _ => none }
def fnExactModelOkRow : OpenClaim := { program := "ytjaejhhmcpmcfaa", sum := "a91d7eece6128805d74f4727126c1877f0e180c3c8b4ef4ecf538be811b4960a", func := "loop.example/g01407/laws.FnExactModelOk", spec := "fnExactModelOk", apart := false }
def FnExactModelOkSaid : Prop := fnExactModelOkRow.holds Try.pinned (OpenSpec.ofChange fnExactModelOkSpec)

/-- ITS FALSE NEIGHBOUR: 'it returns false'. Refute it at one input. -/
def fnExactModelOkWrong : ChangeSpec := { name := "fnExactModelOk", fn := fun _ => fun
  | [d] => { results := [.lit (.bool false)], args := [d] }
  | _ => none }
def FnExactModelOkWrongFalsely : Prop := fnExactModelOkRow.holds Try.pinned (OpenSpec.ofChange fnExactModelOkWrong)

/-- 'laws.FnExactInOf': WHATEVER THE INPUT: true; the input reads as it did. -/
def fnExactInOfSpec : ChangeSpec := { name := "fnExactInOf", fn := fun _ => fun
  | [d] => { results := [.lit (.bool true)], args := [d] }
  | _ => none }
def fnExactInOfRow : OpenClaim := { program := "ytjaejhhmcpmcfaa", sum := "a91d7eece6128805d74f4727126c1877f0e180c3c8b4ef4ecf538be811b4960a", func := "loop.example/g01407/laws.FnExactInOf", spec := "fnExactInOf", apart := false }
def FnExactInOfSaid : Prop := fnExactInOfRow.holds Try.pinned (OpenSpec.ofChange fnExactInOfSpec)

/-- ITS FALSE NEIGHBOUR: 'it returns false'. Refute it at one input. -/
def fnExactInOfWrong : ChangeSpec := { name := "fnExactInOf", fn := fun _ => fun
  | [d] => { results := [.lit (.bool false)], args := [d] }
  | _ => none }
def FnExactInOfWrongFalsely : Prop := fnExactInOfRow.holds Try.pinned (OpenSpec.ofChange fnExactInOfWrong)

/-- 'laws.FnExactOutOf': WHATEVER THE INPUT: true; the input reads as it did. -/
def fnExactOutOfSpec : ChangeSpec := { name := "fnExactOutOf", fn := fun _ => fun
  | [d] => { results := [.lit (.bool true)], args := [d] }
  | _ => none }
def fnExactOutOfRow : OpenClaim := { program := "ytjaejhhmcpmcfaa", sum := "a91d7eece6128805d74f4727126c1877f0e180c3c8b4ef4ecf538be811b4960a", func := "loop.example/g01407/laws.FnExactOutOf", spec := "fnExactOutOf", apart := false }
def FnExactOutOfSaid : Prop := fnExactOutOfRow.holds Try.pinned (OpenSpec.ofChange fnExactOutOfSpec)

/-- ITS FALSE NEIGHBOUR: 'it returns false'. Refute it at one input. -/
def fnExactOutOfWrong : ChangeSpec := { name := "fnExactOutOf", fn := fun _ => fun
  | [d] => { results := [.lit (.bool false)], args := [d] }
  | _ => none }
def FnExactOutOfWrongFalsely : Prop := fnExactOutOfRow.holds Try.pinned (OpenSpec.ofChange fnExactOutOfWrong)

/-- 'laws.FnExactWordsOf': WHATEVER THE INPUT: true; the input reads as it did. -/
def fnExactWordsOfSpec : ChangeSpec := { name := "fnExactWordsOf", fn := fun _ => fun
  | [d] => { results := [.lit (.bool true)], args := [d] }
  | _ => none }
def fnExactWordsOfRow : OpenClaim := { program := "ytjaejhhmcpmcfaa", sum := "a91d7eece6128805d74f4727126c1877f0e180c3c8b4ef4ecf538be811b4960a", func := "loop.example/g01407/laws.FnExactWordsOf", spec := "fnExactWordsOf", apart := false }
def FnExactWordsOfSaid : Prop := fnExactWordsOfRow.holds Try.pinned (OpenSpec.ofChange fnExactWordsOfSpec)

/-- ITS FALSE NEIGHBOUR: 'it returns false'. Refute it at one input. -/
def fnExactWordsOfWrong : ChangeSpec := { name := "fnExactWordsOf", fn := fun _ => fun
  | [d] => { results := [.lit (.bool false)], args := [d] }
  | _ => none }
def FnExactWordsOfWrongFalsely : Prop := fnExactWordsOfRow.holds Try.pinned (OpenSpec.ofChange fnExactWordsOfWrong)

/-- 'laws.FnExactSameRows': WHATEVER THE INPUT: true; the input reads as it did. -/
def fnExactSameRowsSpec : ChangeSpec := { name := "fnExactSameRows", fn := fun _ => fun
  | [d1, d2] => { results := [.lit (.bool true)], args := [d1, d2] }
  | _ => none }
def fnExactSameRowsRow : OpenClaim := { program := "ytjaejhhmcpmcfaa", sum := "a91d7eece6128805d74f4727126c1877f0e180c3c8b4ef4ecf538be811b4960a", func := "loop.example/g01407/laws.FnExactSameRows", spec := "fnExactSameRows", apart := false }
def FnExactSameRowsSaid : Prop := fnExactSameRowsRow.holds Try.pinned (OpenSpec.ofChange fnExactSameRowsSpec)

/-- ITS FALSE NEIGHBOUR: 'it returns false'. Refute it at one input. -/
def fnExactSameRowsWrong : ChangeSpec := { name := "fnExactSameRows", fn := fun _ => fun
  | [d1, d2] => { results := [.lit (.bool false)], args := [d1, d2] }
  | _ => none }
def FnExactSameRowsWrongFalsely : Prop := fnExactSameRowsRow.holds Try.pinned (OpenSpec.ofChange fnExactSameRowsWrong)

/- THE SECOND FORM. 'bulk': how many values and letters a reading holds, each counted each time it is reached (what is shared counts as often as it is met; a slice's spare places count too). A statement '..UptoSaid' is the law's where the arguments, and the package variables that the reading takes, are together of bulk at most 1048576: NARROWER than '..Said'. Prove '..Said' where nothing that the law and all that it calls make is longer than what came in: it says more and counts as full. Else prove '..UptoSaid'. A law counts once. -/
mutual
def uptoBulk {H : Type} : DataW H → Nat
  | .lit (.string bytes) => bytes.length + 1
  | .lit _ => 1
  | .nil => 1
  | .ptr d => uptoBulk d + 1
  | .slice elems spare => uptoBulkAll elems + uptoBulkAll spare + 1
  | .agg parts => uptoBulkAll parts + 1
  | .iface _ d => uptoBulk d + 1
  | .map entries => uptoBulkEntries entries + 1
  | .held _ => 1
def uptoBulkAll {H : Type} : List (DataW H) → Nat
  | [] => 0
  | d :: r => uptoBulk d + uptoBulkAll r
def uptoBulkEntries {H : Type} : List (Lit × DataW H) → Nat
  | [] => 0
  | x :: r => uptoBulkEntry x + uptoBulkEntries r
def uptoBulkEntry {H : Type} : Lit × DataW H → Nat
  | (.string bytes, d) => bytes.length + uptoBulk d + 1
  | (_, d) => uptoBulk d + 1
 end
def uptoSmall : (H : Type) → List (DataW H) → Bool := fun _ ds => decide (uptoBulkAll ds ≤ 1048576)
def OpenSpec.upto (s : _root_.Go.ChangeSpec) : _root_.Go.OpenSpec := { _root_.Go.OpenSpec.ofChange s with cond := some uptoSmall }

/-- 'laws.FnExactOuter', WHERE WHAT IT READS IS OF BULK AT MOST 1048576: true; the input reads as it did. -/
def fnExactOuterUptoRow : OpenClaim := { program := "ytjaejhhmcpmcfaa", sum := "a91d7eece6128805d74f4727126c1877f0e180c3c8b4ef4ecf538be811b4960a", func := "loop.example/g01407/laws.FnExactOuter", spec := "fnExactOuter", apart := false, narrowed := true }
def FnExactOuterUptoSaid : Prop := fnExactOuterUptoRow.holds Try.pinned (OpenSpec.upto fnExactOuterSpec)

/-- 'laws.FnExactSameMat', WHERE WHAT IT READS IS OF BULK AT MOST 1048576: true; the input reads as it did. -/
def fnExactSameMatUptoRow : OpenClaim := { program := "ytjaejhhmcpmcfaa", sum := "a91d7eece6128805d74f4727126c1877f0e180c3c8b4ef4ecf538be811b4960a", func := "loop.example/g01407/laws.FnExactSameMat", spec := "fnExactSameMat", apart := false, narrowed := true }
def FnExactSameMatUptoSaid : Prop := fnExactSameMatUptoRow.holds Try.pinned (OpenSpec.upto fnExactSameMatSpec)

/-- 'laws.FnExactMatOk', WHERE WHAT IT READS IS OF BULK AT MOST 1048576: true; the input reads as it did. -/
def fnExactMatOkUptoRow : OpenClaim := { program := "ytjaejhhmcpmcfaa", sum := "a91d7eece6128805d74f4727126c1877f0e180c3c8b4ef4ecf538be811b4960a", func := "loop.example/g01407/laws.FnExactMatOk", spec := "fnExactMatOk", apart := false, narrowed := true }
def FnExactMatOkUptoSaid : Prop := fnExactMatOkUptoRow.holds Try.pinned (OpenSpec.upto fnExactMatOkSpec)

/-- 'laws.FnExactOpOk', WHERE WHAT IT READS IS OF BULK AT MOST 1048576: true; the input reads as it did. -/
def fnExactOpOkUptoRow : OpenClaim := { program := "ytjaejhhmcpmcfaa", sum := "a91d7eece6128805d74f4727126c1877f0e180c3c8b4ef4ecf538be811b4960a", func := "loop.example/g01407/laws.FnExactOpOk", spec := "fnExactOpOk", apart := false, narrowed := true }
def FnExactOpOkUptoSaid : Prop := fnExactOpOkUptoRow.holds Try.pinned (OpenSpec.upto fnExactOpOkSpec)

/-- 'laws.FnExactOpSize', WHERE WHAT IT READS IS OF BULK AT MOST 1048576: true; the input reads as it did. -/
def fnExactOpSizeUptoRow : OpenClaim := { program := "ytjaejhhmcpmcfaa", sum := "a91d7eece6128805d74f4727126c1877f0e180c3c8b4ef4ecf538be811b4960a", func := "loop.example/g01407/laws.FnExactOpSize", spec := "fnExactOpSize", apart := false, narrowed := true }
def FnExactOpSizeUptoSaid : Prop := fnExactOpSizeUptoRow.holds Try.pinned (OpenSpec.upto fnExactOpSizeSpec)

/-- 'laws.FnExactOpCost', WHERE WHAT IT READS IS OF BULK AT MOST 1048576: true; the input reads as it did. -/
def fnExactOpCostUptoRow : OpenClaim := { program := "ytjaejhhmcpmcfaa", sum := "a91d7eece6128805d74f4727126c1877f0e180c3c8b4ef4ecf538be811b4960a", func := "loop.example/g01407/laws.FnExactOpCost", spec := "fnExactOpCost", apart := false, narrowed := true }
def FnExactOpCostUptoSaid : Prop := fnExactOpCostUptoRow.holds Try.pinned (OpenSpec.upto fnExactOpCostSpec)

/-- 'laws.FnExactSameOp', WHERE WHAT IT READS IS OF BULK AT MOST 1048576: true; the input reads as it did. -/
def fnExactSameOpUptoRow : OpenClaim := { program := "ytjaejhhmcpmcfaa", sum := "a91d7eece6128805d74f4727126c1877f0e180c3c8b4ef4ecf538be811b4960a", func := "loop.example/g01407/laws.FnExactSameOp", spec := "fnExactSameOp", apart := false, narrowed := true }
def FnExactSameOpUptoSaid : Prop := fnExactSameOpUptoRow.holds Try.pinned (OpenSpec.upto fnExactSameOpSpec)

/-- 'laws.FnExactModelOk', WHERE WHAT IT READS IS OF BULK AT MOST 1048576: true; the input reads as it did. -/
def fnExactModelOkUptoRow : OpenClaim := { program := "ytjaejhhmcpmcfaa", sum := "a91d7eece6128805d74f4727126c1877f0e180c3c8b4ef4ecf538be811b4960a", func := "loop.example/g01407/laws.FnExactModelOk", spec := "fnExactModelOk", apart := false, narrowed := true }
def FnExactModelOkUptoSaid : Prop := fnExactModelOkUptoRow.holds Try.pinned (OpenSpec.upto fnExactModelOkSpec)

/-- 'laws.FnExactInOf', WHERE WHAT IT READS IS OF BULK AT MOST 1048576: true; the input reads as it did. -/
def fnExactInOfUptoRow : OpenClaim := { program := "ytjaejhhmcpmcfaa", sum := "a91d7eece6128805d74f4727126c1877f0e180c3c8b4ef4ecf538be811b4960a", func := "loop.example/g01407/laws.FnExactInOf", spec := "fnExactInOf", apart := false, narrowed := true }
def FnExactInOfUptoSaid : Prop := fnExactInOfUptoRow.holds Try.pinned (OpenSpec.upto fnExactInOfSpec)

/-- 'laws.FnExactOutOf', WHERE WHAT IT READS IS OF BULK AT MOST 1048576: true; the input reads as it did. -/
def fnExactOutOfUptoRow : OpenClaim := { program := "ytjaejhhmcpmcfaa", sum := "a91d7eece6128805d74f4727126c1877f0e180c3c8b4ef4ecf538be811b4960a", func := "loop.example/g01407/laws.FnExactOutOf", spec := "fnExactOutOf", apart := false, narrowed := true }
def FnExactOutOfUptoSaid : Prop := fnExactOutOfUptoRow.holds Try.pinned (OpenSpec.upto fnExactOutOfSpec)

/-- 'laws.FnExactWordsOf', WHERE WHAT IT READS IS OF BULK AT MOST 1048576: true; the input reads as it did. -/
def fnExactWordsOfUptoRow : OpenClaim := { program := "ytjaejhhmcpmcfaa", sum := "a91d7eece6128805d74f4727126c1877f0e180c3c8b4ef4ecf538be811b4960a", func := "loop.example/g01407/laws.FnExactWordsOf", spec := "fnExactWordsOf", apart := false, narrowed := true }
def FnExactWordsOfUptoSaid : Prop := fnExactWordsOfUptoRow.holds Try.pinned (OpenSpec.upto fnExactWordsOfSpec)

/-- 'laws.FnExactSameRows', WHERE WHAT IT READS IS OF BULK AT MOST 1048576: true; the input reads as it did. -/
def fnExactSameRowsUptoRow : OpenClaim := { program := "ytjaejhhmcpmcfaa", sum := "a91d7eece6128805d74f4727126c1877f0e180c3c8b4ef4ecf538be811b4960a", func := "loop.example/g01407/laws.FnExactSameRows", spec := "fnExactSameRows", apart := false, narrowed := true }
def FnExactSameRowsUptoSaid : Prop := fnExactSameRowsUptoRow.holds Try.pinned (OpenSpec.upto fnExactSameRowsSpec)

end Rows
end Go.Proofs.Ytjaejhhmcpmcfaa
