/-
  No cell of these rows narrows 'for every input' (looked for: loops, veiled, ifaces, maps, wideKeys, modest, calm, conditions, laid).
  DERIVED. THE GIVEN ROWS OF THIS SEAT. 18 by the template 'for every input the law returns true; each argument reads behind the call as it read before'; 0 by the template 'total and deterministic' (their statements: YtndeehlndbdonaaTotals.lean).
  GIVEN WITH THE SEED: the statements are not yours to turn. If you find one false, say at which input.
  Laid BY PROGRAM, IN A SANDBOX (cutbox-rows.mjs): the forced cells as the released guide's own fill.sh prints them over the translation 1920e3d6efbcfb38… (all of the seat's roots in one cut). By AI agents, Wed Nov 11 2026. No macro, syntax, notation, axiom, sorry.
-/
import Derived.Test.YtndeehlndbdonaaChecked
import GoSem.Claim
import GoSem.ClaimJoined
import GoSem.ClaimMapViews
import Derived.JoinedTies
import Derived.KernelRfl
namespace Go.Proofs.Ytndeehlndbdonaa
/- THE CELL 'sum', in the pinned program and in every row, IS THE sha256 OF THE DUMP (.gsa) THAT YtndeehlndbdonaaProg.lean LOADS. Nothing in Lean hashes anything: it is a label: what it is worth is what the hold of that sum in a sandbox is worth. -/
noncomputable def Try.pinned : Pinned := { name := "ytndeehlndbdonaa", sum := "1920e3d6efbcfb388a35f5aaa0de0cf81b9fc9042776d5f3b5fde2279f54e495", checked := Try.checked }
namespace Rows
def none {H : Type} : Left H := { results := [], args := [] }

/-- 'laws.FnExactKeyOk': WHATEVER THE INPUT: true; the input reads as it did. -/
def fnExactKeyOkSpec : ChangeSpec := { name := "fnExactKeyOk", fn := fun _ => fun
  | [d] => { results := [.lit (.bool true)], args := [d] }
  | _ => none }
def fnExactKeyOkRow : OpenClaim := { program := "ytndeehlndbdonaa", sum := "1920e3d6efbcfb388a35f5aaa0de0cf81b9fc9042776d5f3b5fde2279f54e495", func := "loop.example/engrosser/laws.FnExactKeyOk", spec := "fnExactKeyOk", apart := false }
def FnExactKeyOkSaid : Prop := fnExactKeyOkRow.holds Try.pinned (OpenSpec.ofChange fnExactKeyOkSpec)

/-- ITS FALSE NEIGHBOUR: 'it returns false'. Refute it at one input. -/
def fnExactKeyOkWrong : ChangeSpec := { name := "fnExactKeyOk", fn := fun _ => fun
  | [d] => { results := [.lit (.bool false)], args := [d] }
  | _ => none }
def FnExactKeyOkWrongFalsely : Prop := fnExactKeyOkRow.holds Try.pinned (OpenSpec.ofChange fnExactKeyOkWrong)

/-- 'laws.FnExactRowsOk': WHATEVER THE INPUT: true; the input reads as it did. -/
def fnExactRowsOkSpec : ChangeSpec := { name := "fnExactRowsOk", fn := fun _ => fun
  | [d] => { results := [.lit (.bool true)], args := [d] }
  | _ => none }
def fnExactRowsOkRow : OpenClaim := { program := "ytndeehlndbdonaa", sum := "1920e3d6efbcfb388a35f5aaa0de0cf81b9fc9042776d5f3b5fde2279f54e495", func := "loop.example/engrosser/laws.FnExactRowsOk", spec := "fnExactRowsOk", unfollowed := true, recurses := true, apart := false }
def FnExactRowsOkSaid : Prop := fnExactRowsOkRow.holds Try.pinned (OpenSpec.ofChange fnExactRowsOkSpec)

/-- ITS FALSE NEIGHBOUR: 'it returns false'. Refute it at one input. -/
def fnExactRowsOkWrong : ChangeSpec := { name := "fnExactRowsOk", fn := fun _ => fun
  | [d] => { results := [.lit (.bool false)], args := [d] }
  | _ => none }
def FnExactRowsOkWrongFalsely : Prop := fnExactRowsOkRow.holds Try.pinned (OpenSpec.ofChange fnExactRowsOkWrong)

/-- 'laws.FnExactRowsSum': WHATEVER THE INPUT: true; the input reads as it did. -/
def fnExactRowsSumSpec : ChangeSpec := { name := "fnExactRowsSum", fn := fun _ => fun
  | [d] => { results := [.lit (.bool true)], args := [d] }
  | _ => none }
def fnExactRowsSumRow : OpenClaim := { program := "ytndeehlndbdonaa", sum := "1920e3d6efbcfb388a35f5aaa0de0cf81b9fc9042776d5f3b5fde2279f54e495", func := "loop.example/engrosser/laws.FnExactRowsSum", spec := "fnExactRowsSum", unfollowed := true, recurses := true, apart := false }
def FnExactRowsSumSaid : Prop := fnExactRowsSumRow.holds Try.pinned (OpenSpec.ofChange fnExactRowsSumSpec)

/-- ITS FALSE NEIGHBOUR: 'it returns false'. Refute it at one input. -/
def fnExactRowsSumWrong : ChangeSpec := { name := "fnExactRowsSum", fn := fun _ => fun
  | [d] => { results := [.lit (.bool false)], args := [d] }
  | _ => none }
def FnExactRowsSumWrongFalsely : Prop := fnExactRowsSumRow.holds Try.pinned (OpenSpec.ofChange fnExactRowsSumWrong)

/-- 'laws.FnExactRowsGet': WHATEVER THE INPUT: true; the input reads as it did. -/
def fnExactRowsGetSpec : ChangeSpec := { name := "fnExactRowsGet", fn := fun _ => fun
  | [d1, d2] => { results := [.lit (.bool true)], args := [d1, d2] }
  | _ => none }
def fnExactRowsGetRow : OpenClaim := { program := "ytndeehlndbdonaa", sum := "1920e3d6efbcfb388a35f5aaa0de0cf81b9fc9042776d5f3b5fde2279f54e495", func := "loop.example/engrosser/laws.FnExactRowsGet", spec := "fnExactRowsGet", inPlace := ["internal/bytealg.abigen_runtime_cmpstring"], unfollowed := true, recurses := true, apart := false }
def FnExactRowsGetSaid : Prop := fnExactRowsGetRow.holds Try.pinned (OpenSpec.ofChange fnExactRowsGetSpec)

/-- ITS FALSE NEIGHBOUR: 'it returns false'. Refute it at one input. -/
def fnExactRowsGetWrong : ChangeSpec := { name := "fnExactRowsGet", fn := fun _ => fun
  | [d1, d2] => { results := [.lit (.bool false)], args := [d1, d2] }
  | _ => none }
def FnExactRowsGetWrongFalsely : Prop := fnExactRowsGetRow.holds Try.pinned (OpenSpec.ofChange fnExactRowsGetWrong)

/-- 'laws.FnRowsSum': WHATEVER THE INPUT: true; the input reads as it did. -/
def fnRowsSumSpec : ChangeSpec := { name := "fnRowsSum", fn := fun _ => fun
  | [d1, d2] => { results := [.lit (.bool true)], args := [d1, d2] }
  | _ => none }
def fnRowsSumRow : OpenClaim := { program := "ytndeehlndbdonaa", sum := "1920e3d6efbcfb388a35f5aaa0de0cf81b9fc9042776d5f3b5fde2279f54e495", func := "loop.example/engrosser/laws.FnRowsSum", spec := "fnRowsSum", unfollowed := true, recurses := true, apart := false }
def FnRowsSumSaid : Prop := fnRowsSumRow.holds Try.pinned (OpenSpec.ofChange fnRowsSumSpec)

/-- ITS FALSE NEIGHBOUR: 'it returns false'. Refute it at one input. -/
def fnRowsSumWrong : ChangeSpec := { name := "fnRowsSum", fn := fun _ => fun
  | [d1, d2] => { results := [.lit (.bool false)], args := [d1, d2] }
  | _ => none }
def FnRowsSumWrongFalsely : Prop := fnRowsSumRow.holds Try.pinned (OpenSpec.ofChange fnRowsSumWrong)

/-- 'laws.FnExactRowsDiff': WHATEVER THE INPUT: true; the input reads as it did. -/
def fnExactRowsDiffSpec : ChangeSpec := { name := "fnExactRowsDiff", fn := fun _ => fun
  | [d1, d2] => { results := [.lit (.bool true)], args := [d1, d2] }
  | _ => none }
def fnExactRowsDiffRow : OpenClaim := { program := "ytndeehlndbdonaa", sum := "1920e3d6efbcfb388a35f5aaa0de0cf81b9fc9042776d5f3b5fde2279f54e495", func := "loop.example/engrosser/laws.FnExactRowsDiff", spec := "fnExactRowsDiff", unfollowed := true, recurses := true, apart := false }
def FnExactRowsDiffSaid : Prop := fnExactRowsDiffRow.holds Try.pinned (OpenSpec.ofChange fnExactRowsDiffSpec)

/-- ITS FALSE NEIGHBOUR: 'it returns false'. Refute it at one input. -/
def fnExactRowsDiffWrong : ChangeSpec := { name := "fnExactRowsDiff", fn := fun _ => fun
  | [d1, d2] => { results := [.lit (.bool false)], args := [d1, d2] }
  | _ => none }
def FnExactRowsDiffWrongFalsely : Prop := fnExactRowsDiffRow.holds Try.pinned (OpenSpec.ofChange fnExactRowsDiffWrong)

/-- 'laws.FnExactRowsIn': WHATEVER THE INPUT: true; the input reads as it did. -/
def fnExactRowsInSpec : ChangeSpec := { name := "fnExactRowsIn", fn := fun _ => fun
  | [d1, d2, d3] => { results := [.lit (.bool true)], args := [d1, d2, d3] }
  | _ => none }
def fnExactRowsInRow : OpenClaim := { program := "ytndeehlndbdonaa", sum := "1920e3d6efbcfb388a35f5aaa0de0cf81b9fc9042776d5f3b5fde2279f54e495", func := "loop.example/engrosser/laws.FnExactRowsIn", spec := "fnExactRowsIn", inPlace := ["internal/bytealg.abigen_runtime_cmpstring"], unfollowed := true, recurses := true, apart := false }
def FnExactRowsInSaid : Prop := fnExactRowsInRow.holds Try.pinned (OpenSpec.ofChange fnExactRowsInSpec)

/-- ITS FALSE NEIGHBOUR: 'it returns false'. Refute it at one input. -/
def fnExactRowsInWrong : ChangeSpec := { name := "fnExactRowsIn", fn := fun _ => fun
  | [d1, d2, d3] => { results := [.lit (.bool false)], args := [d1, d2, d3] }
  | _ => none }
def FnExactRowsInWrongFalsely : Prop := fnExactRowsInRow.holds Try.pinned (OpenSpec.ofChange fnExactRowsInWrong)

/-- 'laws.FnRowsAll': WHATEVER THE INPUT: true; the input reads as it did. -/
def fnRowsAllSpec : ChangeSpec := { name := "fnRowsAll", fn := fun _ => fun
  | [d] => { results := [.lit (.bool true)], args := [d] }
  | _ => none }
def fnRowsAllRow : OpenClaim := { program := "ytndeehlndbdonaa", sum := "1920e3d6efbcfb388a35f5aaa0de0cf81b9fc9042776d5f3b5fde2279f54e495", func := "loop.example/engrosser/laws.FnRowsAll", spec := "fnRowsAll", inPlace := ["internal/bytealg.abigen_runtime_cmpstring"], unfollowed := true, recurses := true, apart := false }
def FnRowsAllSaid : Prop := fnRowsAllRow.holds Try.pinned (OpenSpec.ofChange fnRowsAllSpec)

/-- ITS FALSE NEIGHBOUR: 'it returns false'. Refute it at one input. -/
def fnRowsAllWrong : ChangeSpec := { name := "fnRowsAll", fn := fun _ => fun
  | [d] => { results := [.lit (.bool false)], args := [d] }
  | _ => none }
def FnRowsAllWrongFalsely : Prop := fnRowsAllRow.holds Try.pinned (OpenSpec.ofChange fnRowsAllWrong)

/-- 'laws.FnExactRowsPut': WHATEVER THE INPUT: true; the input reads as it did. -/
def fnExactRowsPutSpec : ChangeSpec := { name := "fnExactRowsPut", fn := fun _ => fun
  | [d1, d2, d3] => { results := [.lit (.bool true)], args := [d1, d2, d3] }
  | _ => none }
def fnExactRowsPutRow : OpenClaim := { program := "ytndeehlndbdonaa", sum := "1920e3d6efbcfb388a35f5aaa0de0cf81b9fc9042776d5f3b5fde2279f54e495", func := "loop.example/engrosser/laws.FnExactRowsPut", spec := "fnExactRowsPut", inPlace := ["internal/bytealg.abigen_runtime_cmpstring"], unfollowed := true, recurses := true, apart := false }
def FnExactRowsPutSaid : Prop := fnExactRowsPutRow.holds Try.pinned (OpenSpec.ofChange fnExactRowsPutSpec)

/-- ITS FALSE NEIGHBOUR: 'it returns false'. Refute it at one input. -/
def fnExactRowsPutWrong : ChangeSpec := { name := "fnExactRowsPut", fn := fun _ => fun
  | [d1, d2, d3] => { results := [.lit (.bool false)], args := [d1, d2, d3] }
  | _ => none }
def FnExactRowsPutWrongFalsely : Prop := fnExactRowsPutRow.holds Try.pinned (OpenSpec.ofChange fnExactRowsPutWrong)

/-- 'laws.FnRowsIn': WHATEVER THE INPUT: true; the input reads as it did. -/
def fnRowsInSpec : ChangeSpec := { name := "fnRowsIn", fn := fun _ => fun
  | [d] => { results := [.lit (.bool true)], args := [d] }
  | _ => none }
def fnRowsInRow : OpenClaim := { program := "ytndeehlndbdonaa", sum := "1920e3d6efbcfb388a35f5aaa0de0cf81b9fc9042776d5f3b5fde2279f54e495", func := "loop.example/engrosser/laws.FnRowsIn", spec := "fnRowsIn", inPlace := ["internal/bytealg.abigen_runtime_cmpstring"], unfollowed := true, recurses := true, apart := false }
def FnRowsInSaid : Prop := fnRowsInRow.holds Try.pinned (OpenSpec.ofChange fnRowsInSpec)

/-- ITS FALSE NEIGHBOUR: 'it returns false'. Refute it at one input. -/
def fnRowsInWrong : ChangeSpec := { name := "fnRowsIn", fn := fun _ => fun
  | [d] => { results := [.lit (.bool false)], args := [d] }
  | _ => none }
def FnRowsInWrongFalsely : Prop := fnRowsInRow.holds Try.pinned (OpenSpec.ofChange fnRowsInWrong)

/-- 'laws.FnRowsFull': WHATEVER THE INPUT: true; the input reads as it did. -/
def fnRowsFullSpec : ChangeSpec := { name := "fnRowsFull", fn := fun _ => fun
  | [d] => { results := [.lit (.bool true)], args := [d] }
  | _ => none }
def fnRowsFullRow : OpenClaim := { program := "ytndeehlndbdonaa", sum := "1920e3d6efbcfb388a35f5aaa0de0cf81b9fc9042776d5f3b5fde2279f54e495", func := "loop.example/engrosser/laws.FnRowsFull", spec := "fnRowsFull", inPlace := ["internal/bytealg.abigen_runtime_cmpstring"], unfollowed := true, recurses := true, apart := false }
def FnRowsFullSaid : Prop := fnRowsFullRow.holds Try.pinned (OpenSpec.ofChange fnRowsFullSpec)

/-- ITS FALSE NEIGHBOUR: 'it returns false'. Refute it at one input. -/
def fnRowsFullWrong : ChangeSpec := { name := "fnRowsFull", fn := fun _ => fun
  | [d] => { results := [.lit (.bool false)], args := [d] }
  | _ => none }
def FnRowsFullWrongFalsely : Prop := fnRowsFullRow.holds Try.pinned (OpenSpec.ofChange fnRowsFullWrong)

/-- 'laws.FnRowsTurn': WHATEVER THE INPUT: true; the input reads as it did. -/
def fnRowsTurnSpec : ChangeSpec := { name := "fnRowsTurn", fn := fun _ => fun
  | [d1, d2] => { results := [.lit (.bool true)], args := [d1, d2] }
  | _ => none }
def fnRowsTurnRow : OpenClaim := { program := "ytndeehlndbdonaa", sum := "1920e3d6efbcfb388a35f5aaa0de0cf81b9fc9042776d5f3b5fde2279f54e495", func := "loop.example/engrosser/laws.FnRowsTurn", spec := "fnRowsTurn", inPlace := ["internal/bytealg.abigen_runtime_cmpstring"], unfollowed := true, recurses := true, apart := false }
def FnRowsTurnSaid : Prop := fnRowsTurnRow.holds Try.pinned (OpenSpec.ofChange fnRowsTurnSpec)

/-- ITS FALSE NEIGHBOUR: 'it returns false'. Refute it at one input. -/
def fnRowsTurnWrong : ChangeSpec := { name := "fnRowsTurn", fn := fun _ => fun
  | [d1, d2] => { results := [.lit (.bool false)], args := [d1, d2] }
  | _ => none }
def FnRowsTurnWrongFalsely : Prop := fnRowsTurnRow.holds Try.pinned (OpenSpec.ofChange fnRowsTurnWrong)

/-- 'laws.FnExactRowsCut': WHATEVER THE INPUT: true; the input reads as it did. -/
def fnExactRowsCutSpec : ChangeSpec := { name := "fnExactRowsCut", fn := fun _ => fun
  | [d1, d2] => { results := [.lit (.bool true)], args := [d1, d2] }
  | _ => none }
def fnExactRowsCutRow : OpenClaim := { program := "ytndeehlndbdonaa", sum := "1920e3d6efbcfb388a35f5aaa0de0cf81b9fc9042776d5f3b5fde2279f54e495", func := "loop.example/engrosser/laws.FnExactRowsCut", spec := "fnExactRowsCut", inPlace := ["internal/bytealg.abigen_runtime_cmpstring"], unfollowed := true, recurses := true, apart := false }
def FnExactRowsCutSaid : Prop := fnExactRowsCutRow.holds Try.pinned (OpenSpec.ofChange fnExactRowsCutSpec)

/-- ITS FALSE NEIGHBOUR: 'it returns false'. Refute it at one input. -/
def fnExactRowsCutWrong : ChangeSpec := { name := "fnExactRowsCut", fn := fun _ => fun
  | [d1, d2] => { results := [.lit (.bool false)], args := [d1, d2] }
  | _ => none }
def FnExactRowsCutWrongFalsely : Prop := fnExactRowsCutRow.holds Try.pinned (OpenSpec.ofChange fnExactRowsCutWrong)

/-- 'laws.FnRowsPut': WHATEVER THE INPUT: true; the input reads as it did. -/
def fnRowsPutSpec : ChangeSpec := { name := "fnRowsPut", fn := fun _ => fun
  | [d] => { results := [.lit (.bool true)], args := [d] }
  | _ => none }
def fnRowsPutRow : OpenClaim := { program := "ytndeehlndbdonaa", sum := "1920e3d6efbcfb388a35f5aaa0de0cf81b9fc9042776d5f3b5fde2279f54e495", func := "loop.example/engrosser/laws.FnRowsPut", spec := "fnRowsPut", inPlace := ["internal/bytealg.abigen_runtime_cmpstring"], unfollowed := true, recurses := true, apart := false }
def FnRowsPutSaid : Prop := fnRowsPutRow.holds Try.pinned (OpenSpec.ofChange fnRowsPutSpec)

/-- ITS FALSE NEIGHBOUR: 'it returns false'. Refute it at one input. -/
def fnRowsPutWrong : ChangeSpec := { name := "fnRowsPut", fn := fun _ => fun
  | [d] => { results := [.lit (.bool false)], args := [d] }
  | _ => none }
def FnRowsPutWrongFalsely : Prop := fnRowsPutRow.holds Try.pinned (OpenSpec.ofChange fnRowsPutWrong)

/-- 'laws.FnRowsCutTwo': WHATEVER THE INPUT: true; the input reads as it did. -/
def fnRowsCutTwoSpec : ChangeSpec := { name := "fnRowsCutTwo", fn := fun _ => fun
  | [d1, d2] => { results := [.lit (.bool true)], args := [d1, d2] }
  | _ => none }
def fnRowsCutTwoRow : OpenClaim := { program := "ytndeehlndbdonaa", sum := "1920e3d6efbcfb388a35f5aaa0de0cf81b9fc9042776d5f3b5fde2279f54e495", func := "loop.example/engrosser/laws.FnRowsCutTwo", spec := "fnRowsCutTwo", inPlace := ["internal/bytealg.abigen_runtime_cmpstring"], unfollowed := true, recurses := true, apart := false }
def FnRowsCutTwoSaid : Prop := fnRowsCutTwoRow.holds Try.pinned (OpenSpec.ofChange fnRowsCutTwoSpec)

/-- ITS FALSE NEIGHBOUR: 'it returns false'. Refute it at one input. -/
def fnRowsCutTwoWrong : ChangeSpec := { name := "fnRowsCutTwo", fn := fun _ => fun
  | [d1, d2] => { results := [.lit (.bool false)], args := [d1, d2] }
  | _ => none }
def FnRowsCutTwoWrongFalsely : Prop := fnRowsCutTwoRow.holds Try.pinned (OpenSpec.ofChange fnRowsCutTwoWrong)

/-- 'laws.FnRowsDiff': WHATEVER THE INPUT: true; the input reads as it did. -/
def fnRowsDiffSpec : ChangeSpec := { name := "fnRowsDiff", fn := fun _ => fun
  | [d] => { results := [.lit (.bool true)], args := [d] }
  | _ => none }
def fnRowsDiffRow : OpenClaim := { program := "ytndeehlndbdonaa", sum := "1920e3d6efbcfb388a35f5aaa0de0cf81b9fc9042776d5f3b5fde2279f54e495", func := "loop.example/engrosser/laws.FnRowsDiff", spec := "fnRowsDiff", inPlace := ["internal/bytealg.abigen_runtime_cmpstring"], unfollowed := true, recurses := true, apart := false }
def FnRowsDiffSaid : Prop := fnRowsDiffRow.holds Try.pinned (OpenSpec.ofChange fnRowsDiffSpec)

/-- ITS FALSE NEIGHBOUR: 'it returns false'. Refute it at one input. -/
def fnRowsDiffWrong : ChangeSpec := { name := "fnRowsDiff", fn := fun _ => fun
  | [d] => { results := [.lit (.bool false)], args := [d] }
  | _ => none }
def FnRowsDiffWrongFalsely : Prop := fnRowsDiffRow.holds Try.pinned (OpenSpec.ofChange fnRowsDiffWrong)

/-- 'laws.FnRowsCut': WHATEVER THE INPUT: true; the input reads as it did. -/
def fnRowsCutSpec : ChangeSpec := { name := "fnRowsCut", fn := fun _ => fun
  | [d] => { results := [.lit (.bool true)], args := [d] }
  | _ => none }
def fnRowsCutRow : OpenClaim := { program := "ytndeehlndbdonaa", sum := "1920e3d6efbcfb388a35f5aaa0de0cf81b9fc9042776d5f3b5fde2279f54e495", func := "loop.example/engrosser/laws.FnRowsCut", spec := "fnRowsCut", inPlace := ["internal/bytealg.abigen_runtime_cmpstring"], unfollowed := true, recurses := true, apart := false }
def FnRowsCutSaid : Prop := fnRowsCutRow.holds Try.pinned (OpenSpec.ofChange fnRowsCutSpec)

/-- ITS FALSE NEIGHBOUR: 'it returns false'. Refute it at one input. -/
def fnRowsCutWrong : ChangeSpec := { name := "fnRowsCut", fn := fun _ => fun
  | [d] => { results := [.lit (.bool false)], args := [d] }
  | _ => none }
def FnRowsCutWrongFalsely : Prop := fnRowsCutRow.holds Try.pinned (OpenSpec.ofChange fnRowsCutWrong)

/-- 'laws.FnRowsBent': WHATEVER THE INPUT: true; the input reads as it did. -/
def fnRowsBentSpec : ChangeSpec := { name := "fnRowsBent", fn := fun _ => fun
  | [d] => { results := [.lit (.bool true)], args := [d] }
  | _ => none }
def fnRowsBentRow : OpenClaim := { program := "ytndeehlndbdonaa", sum := "1920e3d6efbcfb388a35f5aaa0de0cf81b9fc9042776d5f3b5fde2279f54e495", func := "loop.example/engrosser/laws.FnRowsBent", spec := "fnRowsBent", inPlace := ["internal/bytealg.abigen_runtime_cmpstring"], unfollowed := true, recurses := true, apart := false }
def FnRowsBentSaid : Prop := fnRowsBentRow.holds Try.pinned (OpenSpec.ofChange fnRowsBentSpec)

/-- ITS FALSE NEIGHBOUR: 'it returns false'. Refute it at one input. -/
def fnRowsBentWrong : ChangeSpec := { name := "fnRowsBent", fn := fun _ => fun
  | [d] => { results := [.lit (.bool false)], args := [d] }
  | _ => none }
def FnRowsBentWrongFalsely : Prop := fnRowsBentRow.holds Try.pinned (OpenSpec.ofChange fnRowsBentWrong)

/- THE SECOND FORM. 'bulk': how many values and letters a reading holds, each counted each time it is reached (what is shared counts as often as it is met; a slice's spare places count too). A statement '..UptoSaid' is the law's where the arguments, and the package variables that the reading takes, are together of bulk at most 1048576: NARROWER than '..Said'. Prove '..Said' where nothing that the law and all that it calls make is longer than what came in: it says more and counts as full. Else prove '..UptoSaid'. A law counts once. -/
mutual
def uptoBulk {H : Type} : DataW H → Nat
  | .lit (.string bytes) => bytes.length + 1
  | .lit _ => 1
  | .nil => 1
  | .ptr d => uptoBulk d + 1
  | .slice elems spare => uptoBulkAll elems + uptoBulkAll spare + 1
  | .agg parts => uptoBulkAll parts + 1
  | .iface _ d => uptoBulk d + 1
  | .map entries => uptoBulkEntries entries + 1
  | .held _ => 1
def uptoBulkAll {H : Type} : List (DataW H) → Nat
  | [] => 0
  | d :: r => uptoBulk d + uptoBulkAll r
def uptoBulkEntries {H : Type} : List (Lit × DataW H) → Nat
  | [] => 0
  | x :: r => uptoBulkEntry x + uptoBulkEntries r
def uptoBulkEntry {H : Type} : Lit × DataW H → Nat
  | (.string bytes, d) => bytes.length + uptoBulk d + 1
  | (_, d) => uptoBulk d + 1
 end
def uptoSmall : (H : Type) → List (DataW H) → Bool := fun _ ds => decide (uptoBulkAll ds ≤ 1048576)
def OpenSpec.upto (s : _root_.Go.ChangeSpec) : _root_.Go.OpenSpec := { _root_.Go.OpenSpec.ofChange s with cond := some uptoSmall }

/-- 'laws.FnExactKeyOk', WHERE WHAT IT READS IS OF BULK AT MOST 1048576: true; the input reads as it did. -/
def fnExactKeyOkUptoRow : OpenClaim := { program := "ytndeehlndbdonaa", sum := "1920e3d6efbcfb388a35f5aaa0de0cf81b9fc9042776d5f3b5fde2279f54e495", func := "loop.example/engrosser/laws.FnExactKeyOk", spec := "fnExactKeyOk", apart := false, narrowed := true }
def FnExactKeyOkUptoSaid : Prop := fnExactKeyOkUptoRow.holds Try.pinned (OpenSpec.upto fnExactKeyOkSpec)

/-- 'laws.FnExactRowsOk', WHERE WHAT IT READS IS OF BULK AT MOST 1048576: true; the input reads as it did. -/
def fnExactRowsOkUptoRow : OpenClaim := { program := "ytndeehlndbdonaa", sum := "1920e3d6efbcfb388a35f5aaa0de0cf81b9fc9042776d5f3b5fde2279f54e495", func := "loop.example/engrosser/laws.FnExactRowsOk", spec := "fnExactRowsOk", unfollowed := true, recurses := true, apart := false, narrowed := true }
def FnExactRowsOkUptoSaid : Prop := fnExactRowsOkUptoRow.holds Try.pinned (OpenSpec.upto fnExactRowsOkSpec)

/-- 'laws.FnExactRowsSum', WHERE WHAT IT READS IS OF BULK AT MOST 1048576: true; the input reads as it did. -/
def fnExactRowsSumUptoRow : OpenClaim := { program := "ytndeehlndbdonaa", sum := "1920e3d6efbcfb388a35f5aaa0de0cf81b9fc9042776d5f3b5fde2279f54e495", func := "loop.example/engrosser/laws.FnExactRowsSum", spec := "fnExactRowsSum", unfollowed := true, recurses := true, apart := false, narrowed := true }
def FnExactRowsSumUptoSaid : Prop := fnExactRowsSumUptoRow.holds Try.pinned (OpenSpec.upto fnExactRowsSumSpec)

/-- 'laws.FnExactRowsGet', WHERE WHAT IT READS IS OF BULK AT MOST 1048576: true; the input reads as it did. -/
def fnExactRowsGetUptoRow : OpenClaim := { program := "ytndeehlndbdonaa", sum := "1920e3d6efbcfb388a35f5aaa0de0cf81b9fc9042776d5f3b5fde2279f54e495", func := "loop.example/engrosser/laws.FnExactRowsGet", spec := "fnExactRowsGet", inPlace := ["internal/bytealg.abigen_runtime_cmpstring"], unfollowed := true, recurses := true, apart := false, narrowed := true }
def FnExactRowsGetUptoSaid : Prop := fnExactRowsGetUptoRow.holds Try.pinned (OpenSpec.upto fnExactRowsGetSpec)

/-- 'laws.FnRowsSum', WHERE WHAT IT READS IS OF BULK AT MOST 1048576: true; the input reads as it did. -/
def fnRowsSumUptoRow : OpenClaim := { program := "ytndeehlndbdonaa", sum := "1920e3d6efbcfb388a35f5aaa0de0cf81b9fc9042776d5f3b5fde2279f54e495", func := "loop.example/engrosser/laws.FnRowsSum", spec := "fnRowsSum", unfollowed := true, recurses := true, apart := false, narrowed := true }
def FnRowsSumUptoSaid : Prop := fnRowsSumUptoRow.holds Try.pinned (OpenSpec.upto fnRowsSumSpec)

/-- 'laws.FnExactRowsDiff', WHERE WHAT IT READS IS OF BULK AT MOST 1048576: true; the input reads as it did. -/
def fnExactRowsDiffUptoRow : OpenClaim := { program := "ytndeehlndbdonaa", sum := "1920e3d6efbcfb388a35f5aaa0de0cf81b9fc9042776d5f3b5fde2279f54e495", func := "loop.example/engrosser/laws.FnExactRowsDiff", spec := "fnExactRowsDiff", unfollowed := true, recurses := true, apart := false, narrowed := true }
def FnExactRowsDiffUptoSaid : Prop := fnExactRowsDiffUptoRow.holds Try.pinned (OpenSpec.upto fnExactRowsDiffSpec)

/-- 'laws.FnExactRowsIn', WHERE WHAT IT READS IS OF BULK AT MOST 1048576: true; the input reads as it did. -/
def fnExactRowsInUptoRow : OpenClaim := { program := "ytndeehlndbdonaa", sum := "1920e3d6efbcfb388a35f5aaa0de0cf81b9fc9042776d5f3b5fde2279f54e495", func := "loop.example/engrosser/laws.FnExactRowsIn", spec := "fnExactRowsIn", inPlace := ["internal/bytealg.abigen_runtime_cmpstring"], unfollowed := true, recurses := true, apart := false, narrowed := true }
def FnExactRowsInUptoSaid : Prop := fnExactRowsInUptoRow.holds Try.pinned (OpenSpec.upto fnExactRowsInSpec)

/-- 'laws.FnRowsAll', WHERE WHAT IT READS IS OF BULK AT MOST 1048576: true; the input reads as it did. -/
def fnRowsAllUptoRow : OpenClaim := { program := "ytndeehlndbdonaa", sum := "1920e3d6efbcfb388a35f5aaa0de0cf81b9fc9042776d5f3b5fde2279f54e495", func := "loop.example/engrosser/laws.FnRowsAll", spec := "fnRowsAll", inPlace := ["internal/bytealg.abigen_runtime_cmpstring"], unfollowed := true, recurses := true, apart := false, narrowed := true }
def FnRowsAllUptoSaid : Prop := fnRowsAllUptoRow.holds Try.pinned (OpenSpec.upto fnRowsAllSpec)

/-- 'laws.FnExactRowsPut', WHERE WHAT IT READS IS OF BULK AT MOST 1048576: true; the input reads as it did. -/
def fnExactRowsPutUptoRow : OpenClaim := { program := "ytndeehlndbdonaa", sum := "1920e3d6efbcfb388a35f5aaa0de0cf81b9fc9042776d5f3b5fde2279f54e495", func := "loop.example/engrosser/laws.FnExactRowsPut", spec := "fnExactRowsPut", inPlace := ["internal/bytealg.abigen_runtime_cmpstring"], unfollowed := true, recurses := true, apart := false, narrowed := true }
def FnExactRowsPutUptoSaid : Prop := fnExactRowsPutUptoRow.holds Try.pinned (OpenSpec.upto fnExactRowsPutSpec)

/-- 'laws.FnRowsIn', WHERE WHAT IT READS IS OF BULK AT MOST 1048576: true; the input reads as it did. -/
def fnRowsInUptoRow : OpenClaim := { program := "ytndeehlndbdonaa", sum := "1920e3d6efbcfb388a35f5aaa0de0cf81b9fc9042776d5f3b5fde2279f54e495", func := "loop.example/engrosser/laws.FnRowsIn", spec := "fnRowsIn", inPlace := ["internal/bytealg.abigen_runtime_cmpstring"], unfollowed := true, recurses := true, apart := false, narrowed := true }
def FnRowsInUptoSaid : Prop := fnRowsInUptoRow.holds Try.pinned (OpenSpec.upto fnRowsInSpec)

/-- 'laws.FnRowsFull', WHERE WHAT IT READS IS OF BULK AT MOST 1048576: true; the input reads as it did. -/
def fnRowsFullUptoRow : OpenClaim := { program := "ytndeehlndbdonaa", sum := "1920e3d6efbcfb388a35f5aaa0de0cf81b9fc9042776d5f3b5fde2279f54e495", func := "loop.example/engrosser/laws.FnRowsFull", spec := "fnRowsFull", inPlace := ["internal/bytealg.abigen_runtime_cmpstring"], unfollowed := true, recurses := true, apart := false, narrowed := true }
def FnRowsFullUptoSaid : Prop := fnRowsFullUptoRow.holds Try.pinned (OpenSpec.upto fnRowsFullSpec)

/-- 'laws.FnRowsTurn', WHERE WHAT IT READS IS OF BULK AT MOST 1048576: true; the input reads as it did. -/
def fnRowsTurnUptoRow : OpenClaim := { program := "ytndeehlndbdonaa", sum := "1920e3d6efbcfb388a35f5aaa0de0cf81b9fc9042776d5f3b5fde2279f54e495", func := "loop.example/engrosser/laws.FnRowsTurn", spec := "fnRowsTurn", inPlace := ["internal/bytealg.abigen_runtime_cmpstring"], unfollowed := true, recurses := true, apart := false, narrowed := true }
def FnRowsTurnUptoSaid : Prop := fnRowsTurnUptoRow.holds Try.pinned (OpenSpec.upto fnRowsTurnSpec)

/-- 'laws.FnExactRowsCut', WHERE WHAT IT READS IS OF BULK AT MOST 1048576: true; the input reads as it did. -/
def fnExactRowsCutUptoRow : OpenClaim := { program := "ytndeehlndbdonaa", sum := "1920e3d6efbcfb388a35f5aaa0de0cf81b9fc9042776d5f3b5fde2279f54e495", func := "loop.example/engrosser/laws.FnExactRowsCut", spec := "fnExactRowsCut", inPlace := ["internal/bytealg.abigen_runtime_cmpstring"], unfollowed := true, recurses := true, apart := false, narrowed := true }
def FnExactRowsCutUptoSaid : Prop := fnExactRowsCutUptoRow.holds Try.pinned (OpenSpec.upto fnExactRowsCutSpec)

/-- 'laws.FnRowsPut', WHERE WHAT IT READS IS OF BULK AT MOST 1048576: true; the input reads as it did. -/
def fnRowsPutUptoRow : OpenClaim := { program := "ytndeehlndbdonaa", sum := "1920e3d6efbcfb388a35f5aaa0de0cf81b9fc9042776d5f3b5fde2279f54e495", func := "loop.example/engrosser/laws.FnRowsPut", spec := "fnRowsPut", inPlace := ["internal/bytealg.abigen_runtime_cmpstring"], unfollowed := true, recurses := true, apart := false, narrowed := true }
def FnRowsPutUptoSaid : Prop := fnRowsPutUptoRow.holds Try.pinned (OpenSpec.upto fnRowsPutSpec)

/-- 'laws.FnRowsCutTwo', WHERE WHAT IT READS IS OF BULK AT MOST 1048576: true; the input reads as it did. -/
def fnRowsCutTwoUptoRow : OpenClaim := { program := "ytndeehlndbdonaa", sum := "1920e3d6efbcfb388a35f5aaa0de0cf81b9fc9042776d5f3b5fde2279f54e495", func := "loop.example/engrosser/laws.FnRowsCutTwo", spec := "fnRowsCutTwo", inPlace := ["internal/bytealg.abigen_runtime_cmpstring"], unfollowed := true, recurses := true, apart := false, narrowed := true }
def FnRowsCutTwoUptoSaid : Prop := fnRowsCutTwoUptoRow.holds Try.pinned (OpenSpec.upto fnRowsCutTwoSpec)

/-- 'laws.FnRowsDiff', WHERE WHAT IT READS IS OF BULK AT MOST 1048576: true; the input reads as it did. -/
def fnRowsDiffUptoRow : OpenClaim := { program := "ytndeehlndbdonaa", sum := "1920e3d6efbcfb388a35f5aaa0de0cf81b9fc9042776d5f3b5fde2279f54e495", func := "loop.example/engrosser/laws.FnRowsDiff", spec := "fnRowsDiff", inPlace := ["internal/bytealg.abigen_runtime_cmpstring"], unfollowed := true, recurses := true, apart := false, narrowed := true }
def FnRowsDiffUptoSaid : Prop := fnRowsDiffUptoRow.holds Try.pinned (OpenSpec.upto fnRowsDiffSpec)

/-- 'laws.FnRowsCut', WHERE WHAT IT READS IS OF BULK AT MOST 1048576: true; the input reads as it did. -/
def fnRowsCutUptoRow : OpenClaim := { program := "ytndeehlndbdonaa", sum := "1920e3d6efbcfb388a35f5aaa0de0cf81b9fc9042776d5f3b5fde2279f54e495", func := "loop.example/engrosser/laws.FnRowsCut", spec := "fnRowsCut", inPlace := ["internal/bytealg.abigen_runtime_cmpstring"], unfollowed := true, recurses := true, apart := false, narrowed := true }
def FnRowsCutUptoSaid : Prop := fnRowsCutUptoRow.holds Try.pinned (OpenSpec.upto fnRowsCutSpec)

/-- 'laws.FnRowsBent', WHERE WHAT IT READS IS OF BULK AT MOST 1048576: true; the input reads as it did. -/
def fnRowsBentUptoRow : OpenClaim := { program := "ytndeehlndbdonaa", sum := "1920e3d6efbcfb388a35f5aaa0de0cf81b9fc9042776d5f3b5fde2279f54e495", func := "loop.example/engrosser/laws.FnRowsBent", spec := "fnRowsBent", inPlace := ["internal/bytealg.abigen_runtime_cmpstring"], unfollowed := true, recurses := true, apart := false, narrowed := true }
def FnRowsBentUptoSaid : Prop := fnRowsBentUptoRow.holds Try.pinned (OpenSpec.upto fnRowsBentSpec)

end Rows
end Go.Proofs.Ytndeehlndbdonaa
