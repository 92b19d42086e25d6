/-
  No cell of these rows narrows 'for every input' (looked for: loops, veiled, ifaces, maps, wideKeys, modest, calm, conditions, laid).
  DERIVED. THE GIVEN ROWS OF THIS SEAT. 16 by the template 'for every input the law returns true; each argument reads behind the call as it read before'; 0 by the template 'total and deterministic' (their statements: YtpofgidhhcolfaaTotals.lean).
  GIVEN WITH THE SEED: the statements are not yours to turn. If you find one false, say at which input.
  Laid BY PROGRAM, IN A SANDBOX (cutbox-rows.mjs): the forced cells as the released guide's own fill.sh prints them over the translation b53ff8bc527034a0… (all of the seat's roots in one cut). By AI agents, Wed Nov 11 2026. No macro, syntax, notation, axiom, sorry.
-/
import Derived.Test.YtpofgidhhcolfaaChecked
import GoSem.Claim
import GoSem.ClaimJoined
import GoSem.ClaimMapViews
import Derived.JoinedTies
import Derived.KernelRfl
namespace Go.Proofs.Ytpofgidhhcolfaa
/- THE CELL 'sum', in the pinned program and in every row, IS THE sha256 OF THE DUMP (.gsa) THAT YtpofgidhhcolfaaProg.lean LOADS. Nothing in Lean hashes anything: it is a label: what it is worth is what the hold of that sum in a sandbox is worth. -/
noncomputable def Try.pinned : Pinned := { name := "ytpofgidhhcolfaa", sum := "b53ff8bc527034a0583e62b7cae5b99b5b81bb052f842d2d9768af29c2f40cac", checked := Try.checked }
namespace Rows
def none {H : Type} : Left H := { results := [], args := [] }

/-- 'laws.FnExactWorkSame': WHATEVER THE INPUT: true; the input reads as it did. -/
def fnExactWorkSameSpec : ChangeSpec := { name := "fnExactWorkSame", fn := fun _ => fun
  | [d1, d2] => { results := [.lit (.bool true)], args := [d1, d2] }
  | _ => none }
def fnExactWorkSameRow : OpenClaim := { program := "ytpofgidhhcolfaa", sum := "b53ff8bc527034a0583e62b7cae5b99b5b81bb052f842d2d9768af29c2f40cac", func := "loop.example/engrosser/laws.FnExactWorkSame", spec := "fnExactWorkSame", apart := false }
def FnExactWorkSameSaid : Prop := fnExactWorkSameRow.holds Try.pinned (OpenSpec.ofChange fnExactWorkSameSpec)

/-- ITS FALSE NEIGHBOUR: 'it returns false'. Refute it at one input. -/
def fnExactWorkSameWrong : ChangeSpec := { name := "fnExactWorkSame", fn := fun _ => fun
  | [d1, d2] => { results := [.lit (.bool false)], args := [d1, d2] }
  | _ => none }
def FnExactWorkSameWrongFalsely : Prop := fnExactWorkSameRow.holds Try.pinned (OpenSpec.ofChange fnExactWorkSameWrong)

/-- 'laws.FnExactVersSame': WHATEVER THE INPUT: true; the input reads as it did. -/
def fnExactVersSameSpec : ChangeSpec := { name := "fnExactVersSame", fn := fun _ => fun
  | [d1, d2] => { results := [.lit (.bool true)], args := [d1, d2] }
  | _ => none }
def fnExactVersSameRow : OpenClaim := { program := "ytpofgidhhcolfaa", sum := "b53ff8bc527034a0583e62b7cae5b99b5b81bb052f842d2d9768af29c2f40cac", func := "loop.example/engrosser/laws.FnExactVersSame", spec := "fnExactVersSame", apart := false }
def FnExactVersSameSaid : Prop := fnExactVersSameRow.holds Try.pinned (OpenSpec.ofChange fnExactVersSameSpec)

/-- ITS FALSE NEIGHBOUR: 'it returns false'. Refute it at one input. -/
def fnExactVersSameWrong : ChangeSpec := { name := "fnExactVersSame", fn := fun _ => fun
  | [d1, d2] => { results := [.lit (.bool false)], args := [d1, d2] }
  | _ => none }
def FnExactVersSameWrongFalsely : Prop := fnExactVersSameRow.holds Try.pinned (OpenSpec.ofChange fnExactVersSameWrong)

/-- 'laws.FnExactHallOnly': WHATEVER THE INPUT: true; the input reads as it did. -/
def fnExactHallOnlySpec : ChangeSpec := { name := "fnExactHallOnly", fn := fun _ => fun
  | [d1, d2] => { results := [.lit (.bool true)], args := [d1, d2] }
  | _ => none }
def fnExactHallOnlyRow : OpenClaim := { program := "ytpofgidhhcolfaa", sum := "b53ff8bc527034a0583e62b7cae5b99b5b81bb052f842d2d9768af29c2f40cac", func := "loop.example/engrosser/laws.FnExactHallOnly", spec := "fnExactHallOnly", apart := false }
def FnExactHallOnlySaid : Prop := fnExactHallOnlyRow.holds Try.pinned (OpenSpec.ofChange fnExactHallOnlySpec)

/-- ITS FALSE NEIGHBOUR: 'it returns false'. Refute it at one input. -/
def fnExactHallOnlyWrong : ChangeSpec := { name := "fnExactHallOnly", fn := fun _ => fun
  | [d1, d2] => { results := [.lit (.bool false)], args := [d1, d2] }
  | _ => none }
def FnExactHallOnlyWrongFalsely : Prop := fnExactHallOnlyRow.holds Try.pinned (OpenSpec.ofChange fnExactHallOnlyWrong)

/-- 'laws.FnExactWritesOk': WHATEVER THE INPUT: true; the input reads as it did. -/
def fnExactWritesOkSpec : ChangeSpec := { name := "fnExactWritesOk", fn := fun _ => fun
  | [d] => { results := [.lit (.bool true)], args := [d] }
  | _ => none }
def fnExactWritesOkRow : OpenClaim := { program := "ytpofgidhhcolfaa", sum := "b53ff8bc527034a0583e62b7cae5b99b5b81bb052f842d2d9768af29c2f40cac", func := "loop.example/engrosser/laws.FnExactWritesOk", spec := "fnExactWritesOk", unfollowed := true, recurses := true, apart := false }
def FnExactWritesOkSaid : Prop := fnExactWritesOkRow.holds Try.pinned (OpenSpec.ofChange fnExactWritesOkSpec)

/-- ITS FALSE NEIGHBOUR: 'it returns false'. Refute it at one input. -/
def fnExactWritesOkWrong : ChangeSpec := { name := "fnExactWritesOk", fn := fun _ => fun
  | [d] => { results := [.lit (.bool false)], args := [d] }
  | _ => none }
def FnExactWritesOkWrongFalsely : Prop := fnExactWritesOkRow.holds Try.pinned (OpenSpec.ofChange fnExactWritesOkWrong)

/-- 'laws.FnExactVersOk': WHATEVER THE INPUT: true; the input reads as it did. -/
def fnExactVersOkSpec : ChangeSpec := { name := "fnExactVersOk", fn := fun _ => fun
  | [d] => { results := [.lit (.bool true)], args := [d] }
  | _ => none }
def fnExactVersOkRow : OpenClaim := { program := "ytpofgidhhcolfaa", sum := "b53ff8bc527034a0583e62b7cae5b99b5b81bb052f842d2d9768af29c2f40cac", func := "loop.example/engrosser/laws.FnExactVersOk", spec := "fnExactVersOk", unfollowed := true, recurses := true, apart := false }
def FnExactVersOkSaid : Prop := fnExactVersOkRow.holds Try.pinned (OpenSpec.ofChange fnExactVersOkSpec)

/-- ITS FALSE NEIGHBOUR: 'it returns false'. Refute it at one input. -/
def fnExactVersOkWrong : ChangeSpec := { name := "fnExactVersOk", fn := fun _ => fun
  | [d] => { results := [.lit (.bool false)], args := [d] }
  | _ => none }
def FnExactVersOkWrongFalsely : Prop := fnExactVersOkRow.holds Try.pinned (OpenSpec.ofChange fnExactVersOkWrong)

/-- 'laws.FnExactVersLast': WHATEVER THE INPUT: true; the input reads as it did. -/
def fnExactVersLastSpec : ChangeSpec := { name := "fnExactVersLast", fn := fun _ => fun
  | [d1, d2] => { results := [.lit (.bool true)], args := [d1, d2] }
  | _ => none }
def fnExactVersLastRow : OpenClaim := { program := "ytpofgidhhcolfaa", sum := "b53ff8bc527034a0583e62b7cae5b99b5b81bb052f842d2d9768af29c2f40cac", func := "loop.example/engrosser/laws.FnExactVersLast", spec := "fnExactVersLast", unfollowed := true, recurses := true, apart := false }
def FnExactVersLastSaid : Prop := fnExactVersLastRow.holds Try.pinned (OpenSpec.ofChange fnExactVersLastSpec)

/-- ITS FALSE NEIGHBOUR: 'it returns false'. Refute it at one input. -/
def fnExactVersLastWrong : ChangeSpec := { name := "fnExactVersLast", fn := fun _ => fun
  | [d1, d2] => { results := [.lit (.bool false)], args := [d1, d2] }
  | _ => none }
def FnExactVersLastWrongFalsely : Prop := fnExactVersLastRow.holds Try.pinned (OpenSpec.ofChange fnExactVersLastWrong)

/-- 'laws.FnExactVersAt': WHATEVER THE INPUT: true; the input reads as it did. -/
def fnExactVersAtSpec : ChangeSpec := { name := "fnExactVersAt", fn := fun _ => fun
  | [d1, d2] => { results := [.lit (.bool true)], args := [d1, d2] }
  | _ => none }
def fnExactVersAtRow : OpenClaim := { program := "ytpofgidhhcolfaa", sum := "b53ff8bc527034a0583e62b7cae5b99b5b81bb052f842d2d9768af29c2f40cac", func := "loop.example/engrosser/laws.FnExactVersAt", spec := "fnExactVersAt", unfollowed := true, recurses := true, apart := false }
def FnExactVersAtSaid : Prop := fnExactVersAtRow.holds Try.pinned (OpenSpec.ofChange fnExactVersAtSpec)

/-- ITS FALSE NEIGHBOUR: 'it returns false'. Refute it at one input. -/
def fnExactVersAtWrong : ChangeSpec := { name := "fnExactVersAt", fn := fun _ => fun
  | [d1, d2] => { results := [.lit (.bool false)], args := [d1, d2] }
  | _ => none }
def FnExactVersAtWrongFalsely : Prop := fnExactVersAtRow.holds Try.pinned (OpenSpec.ofChange fnExactVersAtWrong)

/-- 'laws.FnExactVersTrim': WHATEVER THE INPUT: true; the input reads as it did. -/
def fnExactVersTrimSpec : ChangeSpec := { name := "fnExactVersTrim", fn := fun _ => fun
  | [d1, d2] => { results := [.lit (.bool true)], args := [d1, d2] }
  | _ => none }
def fnExactVersTrimRow : OpenClaim := { program := "ytpofgidhhcolfaa", sum := "b53ff8bc527034a0583e62b7cae5b99b5b81bb052f842d2d9768af29c2f40cac", func := "loop.example/engrosser/laws.FnExactVersTrim", spec := "fnExactVersTrim", unfollowed := true, recurses := true, apart := false }
def FnExactVersTrimSaid : Prop := fnExactVersTrimRow.holds Try.pinned (OpenSpec.ofChange fnExactVersTrimSpec)

/-- ITS FALSE NEIGHBOUR: 'it returns false'. Refute it at one input. -/
def fnExactVersTrimWrong : ChangeSpec := { name := "fnExactVersTrim", fn := fun _ => fun
  | [d1, d2] => { results := [.lit (.bool false)], args := [d1, d2] }
  | _ => none }
def FnExactVersTrimWrongFalsely : Prop := fnExactVersTrimRow.holds Try.pinned (OpenSpec.ofChange fnExactVersTrimWrong)

/-- 'laws.FnExactWorkNew': WHATEVER THE INPUT: true; the input reads as it did. -/
def fnExactWorkNewSpec : ChangeSpec := { name := "fnExactWorkNew", fn := fun _ => fun
  | [d] => { results := [.lit (.bool true)], args := [d] }
  | _ => none }
def fnExactWorkNewRow : OpenClaim := { program := "ytpofgidhhcolfaa", sum := "b53ff8bc527034a0583e62b7cae5b99b5b81bb052f842d2d9768af29c2f40cac", func := "loop.example/engrosser/laws.FnExactWorkNew", spec := "fnExactWorkNew", unfollowed := true, recurses := true, apart := false }
def FnExactWorkNewSaid : Prop := fnExactWorkNewRow.holds Try.pinned (OpenSpec.ofChange fnExactWorkNewSpec)

/-- ITS FALSE NEIGHBOUR: 'it returns false'. Refute it at one input. -/
def fnExactWorkNewWrong : ChangeSpec := { name := "fnExactWorkNew", fn := fun _ => fun
  | [d] => { results := [.lit (.bool false)], args := [d] }
  | _ => none }
def FnExactWorkNewWrongFalsely : Prop := fnExactWorkNewRow.holds Try.pinned (OpenSpec.ofChange fnExactWorkNewWrong)

/-- 'laws.FnVersSame': WHATEVER THE INPUT: true; the input reads as it did. -/
def fnVersSameSpec : ChangeSpec := { name := "fnVersSame", fn := fun _ => fun
  | [d] => { results := [.lit (.bool true)], args := [d] }
  | _ => none }
def fnVersSameRow : OpenClaim := { program := "ytpofgidhhcolfaa", sum := "b53ff8bc527034a0583e62b7cae5b99b5b81bb052f842d2d9768af29c2f40cac", func := "loop.example/engrosser/laws.FnVersSame", spec := "fnVersSame", unfollowed := true, recurses := true, apart := false }
def FnVersSameSaid : Prop := fnVersSameRow.holds Try.pinned (OpenSpec.ofChange fnVersSameSpec)

/-- ITS FALSE NEIGHBOUR: 'it returns false'. Refute it at one input. -/
def fnVersSameWrong : ChangeSpec := { name := "fnVersSame", fn := fun _ => fun
  | [d] => { results := [.lit (.bool false)], args := [d] }
  | _ => none }
def FnVersSameWrongFalsely : Prop := fnVersSameRow.holds Try.pinned (OpenSpec.ofChange fnVersSameWrong)

/-- 'laws.FnVersKeys': WHATEVER THE INPUT: true; the input reads as it did. -/
def fnVersKeysSpec : ChangeSpec := { name := "fnVersKeys", fn := fun _ => fun
  | [d] => { results := [.lit (.bool true)], args := [d] }
  | _ => none }
def fnVersKeysRow : OpenClaim := { program := "ytpofgidhhcolfaa", sum := "b53ff8bc527034a0583e62b7cae5b99b5b81bb052f842d2d9768af29c2f40cac", func := "loop.example/engrosser/laws.FnVersKeys", spec := "fnVersKeys", inPlace := ["internal/bytealg.abigen_runtime_cmpstring"], unfollowed := true, recurses := true, apart := false }
def FnVersKeysSaid : Prop := fnVersKeysRow.holds Try.pinned (OpenSpec.ofChange fnVersKeysSpec)

/-- ITS FALSE NEIGHBOUR: 'it returns false'. Refute it at one input. -/
def fnVersKeysWrong : ChangeSpec := { name := "fnVersKeys", fn := fun _ => fun
  | [d] => { results := [.lit (.bool false)], args := [d] }
  | _ => none }
def FnVersKeysWrongFalsely : Prop := fnVersKeysRow.holds Try.pinned (OpenSpec.ofChange fnVersKeysWrong)

/-- 'laws.FnWorkSame': WHATEVER THE INPUT: true; the input reads as it did. -/
def fnWorkSameSpec : ChangeSpec := { name := "fnWorkSame", fn := fun _ => fun
  | [d] => { results := [.lit (.bool true)], args := [d] }
  | _ => none }
def fnWorkSameRow : OpenClaim := { program := "ytpofgidhhcolfaa", sum := "b53ff8bc527034a0583e62b7cae5b99b5b81bb052f842d2d9768af29c2f40cac", func := "loop.example/engrosser/laws.FnWorkSame", spec := "fnWorkSame", apart := false }
def FnWorkSameSaid : Prop := fnWorkSameRow.holds Try.pinned (OpenSpec.ofChange fnWorkSameSpec)

/-- ITS FALSE NEIGHBOUR: 'it returns false'. Refute it at one input. -/
def fnWorkSameWrong : ChangeSpec := { name := "fnWorkSame", fn := fun _ => fun
  | [d] => { results := [.lit (.bool false)], args := [d] }
  | _ => none }
def FnWorkSameWrongFalsely : Prop := fnWorkSameRow.holds Try.pinned (OpenSpec.ofChange fnWorkSameWrong)

/-- 'laws.FnVersTrim': WHATEVER THE INPUT: true; the input reads as it did. -/
def fnVersTrimSpec : ChangeSpec := { name := "fnVersTrim", fn := fun _ => fun
  | [d] => { results := [.lit (.bool true)], args := [d] }
  | _ => none }
def fnVersTrimRow : OpenClaim := { program := "ytpofgidhhcolfaa", sum := "b53ff8bc527034a0583e62b7cae5b99b5b81bb052f842d2d9768af29c2f40cac", func := "loop.example/engrosser/laws.FnVersTrim", spec := "fnVersTrim", unfollowed := true, recurses := true, apart := false }
def FnVersTrimSaid : Prop := fnVersTrimRow.holds Try.pinned (OpenSpec.ofChange fnVersTrimSpec)

/-- ITS FALSE NEIGHBOUR: 'it returns false'. Refute it at one input. -/
def fnVersTrimWrong : ChangeSpec := { name := "fnVersTrim", fn := fun _ => fun
  | [d] => { results := [.lit (.bool false)], args := [d] }
  | _ => none }
def FnVersTrimWrongFalsely : Prop := fnVersTrimRow.holds Try.pinned (OpenSpec.ofChange fnVersTrimWrong)

/-- 'laws.FnVersAt': WHATEVER THE INPUT: true; the input reads as it did. -/
def fnVersAtSpec : ChangeSpec := { name := "fnVersAt", fn := fun _ => fun
  | [d] => { results := [.lit (.bool true)], args := [d] }
  | _ => none }
def fnVersAtRow : OpenClaim := { program := "ytpofgidhhcolfaa", sum := "b53ff8bc527034a0583e62b7cae5b99b5b81bb052f842d2d9768af29c2f40cac", func := "loop.example/engrosser/laws.FnVersAt", spec := "fnVersAt", inPlace := ["internal/bytealg.abigen_runtime_cmpstring"], unfollowed := true, recurses := true, apart := false }
def FnVersAtSaid : Prop := fnVersAtRow.holds Try.pinned (OpenSpec.ofChange fnVersAtSpec)

/-- ITS FALSE NEIGHBOUR: 'it returns false'. Refute it at one input. -/
def fnVersAtWrong : ChangeSpec := { name := "fnVersAt", fn := fun _ => fun
  | [d] => { results := [.lit (.bool false)], args := [d] }
  | _ => none }
def FnVersAtWrongFalsely : Prop := fnVersAtRow.holds Try.pinned (OpenSpec.ofChange fnVersAtWrong)

/-- 'laws.FnExactHallNew': WHATEVER THE INPUT: true; the input reads as it did. -/
def fnExactHallNewSpec : ChangeSpec := { name := "fnExactHallNew", fn := fun _ => fun
  | [] => { results := [.lit (.bool true)], args := [] }
  | _ => none }
def fnExactHallNewRow : OpenClaim := { program := "ytpofgidhhcolfaa", sum := "b53ff8bc527034a0583e62b7cae5b99b5b81bb052f842d2d9768af29c2f40cac", func := "loop.example/engrosser/laws.FnExactHallNew", spec := "fnExactHallNew", apart := false }
def FnExactHallNewSaid : Prop := fnExactHallNewRow.holds Try.pinned (OpenSpec.ofChange fnExactHallNewSpec)

/-- ITS FALSE NEIGHBOUR: 'it returns false'. Refute it at one input. -/
def fnExactHallNewWrong : ChangeSpec := { name := "fnExactHallNew", fn := fun _ => fun
  | [] => { results := [.lit (.bool false)], args := [] }
  | _ => none }
def FnExactHallNewWrongFalsely : Prop := fnExactHallNewRow.holds Try.pinned (OpenSpec.ofChange fnExactHallNewWrong)

/-- 'laws.FnVersLast': WHATEVER THE INPUT: true; the input reads as it did. -/
def fnVersLastSpec : ChangeSpec := { name := "fnVersLast", fn := fun _ => fun
  | [d] => { results := [.lit (.bool true)], args := [d] }
  | _ => none }
def fnVersLastRow : OpenClaim := { program := "ytpofgidhhcolfaa", sum := "b53ff8bc527034a0583e62b7cae5b99b5b81bb052f842d2d9768af29c2f40cac", func := "loop.example/engrosser/laws.FnVersLast", spec := "fnVersLast", inPlace := ["internal/bytealg.abigen_runtime_cmpstring"], unfollowed := true, recurses := true, apart := false }
def FnVersLastSaid : Prop := fnVersLastRow.holds Try.pinned (OpenSpec.ofChange fnVersLastSpec)

/-- ITS FALSE NEIGHBOUR: 'it returns false'. Refute it at one input. -/
def fnVersLastWrong : ChangeSpec := { name := "fnVersLast", fn := fun _ => fun
  | [d] => { results := [.lit (.bool false)], args := [d] }
  | _ => none }
def FnVersLastWrongFalsely : Prop := fnVersLastRow.holds Try.pinned (OpenSpec.ofChange fnVersLastWrong)

/- THE SECOND FORM. 'bulk': how many values and letters a reading holds, each counted each time it is reached (what is shared counts as often as it is met; a slice's spare places count too). A statement '..UptoSaid' is the law's where the arguments, and the package variables that the reading takes, are together of bulk at most 1048576: NARROWER than '..Said'. Prove '..Said' where nothing that the law and all that it calls make is longer than what came in: it says more and counts as full. Else prove '..UptoSaid'. A law counts once. -/
mutual
def uptoBulk {H : Type} : DataW H → Nat
  | .lit (.string bytes) => bytes.length + 1
  | .lit _ => 1
  | .nil => 1
  | .ptr d => uptoBulk d + 1
  | .slice elems spare => uptoBulkAll elems + uptoBulkAll spare + 1
  | .agg parts => uptoBulkAll parts + 1
  | .iface _ d => uptoBulk d + 1
  | .map entries => uptoBulkEntries entries + 1
  | .held _ => 1
def uptoBulkAll {H : Type} : List (DataW H) → Nat
  | [] => 0
  | d :: r => uptoBulk d + uptoBulkAll r
def uptoBulkEntries {H : Type} : List (Lit × DataW H) → Nat
  | [] => 0
  | x :: r => uptoBulkEntry x + uptoBulkEntries r
def uptoBulkEntry {H : Type} : Lit × DataW H → Nat
  | (.string bytes, d) => bytes.length + uptoBulk d + 1
  | (_, d) => uptoBulk d + 1
 end
def uptoSmall : (H : Type) → List (DataW H) → Bool := fun _ ds => decide (uptoBulkAll ds ≤ 1048576)
def OpenSpec.upto (s : _root_.Go.ChangeSpec) : _root_.Go.OpenSpec := { _root_.Go.OpenSpec.ofChange s with cond := some uptoSmall }

/-- 'laws.FnExactWorkSame', WHERE WHAT IT READS IS OF BULK AT MOST 1048576: true; the input reads as it did. -/
def fnExactWorkSameUptoRow : OpenClaim := { program := "ytpofgidhhcolfaa", sum := "b53ff8bc527034a0583e62b7cae5b99b5b81bb052f842d2d9768af29c2f40cac", func := "loop.example/engrosser/laws.FnExactWorkSame", spec := "fnExactWorkSame", apart := false, narrowed := true }
def FnExactWorkSameUptoSaid : Prop := fnExactWorkSameUptoRow.holds Try.pinned (OpenSpec.upto fnExactWorkSameSpec)

/-- 'laws.FnExactVersSame', WHERE WHAT IT READS IS OF BULK AT MOST 1048576: true; the input reads as it did. -/
def fnExactVersSameUptoRow : OpenClaim := { program := "ytpofgidhhcolfaa", sum := "b53ff8bc527034a0583e62b7cae5b99b5b81bb052f842d2d9768af29c2f40cac", func := "loop.example/engrosser/laws.FnExactVersSame", spec := "fnExactVersSame", apart := false, narrowed := true }
def FnExactVersSameUptoSaid : Prop := fnExactVersSameUptoRow.holds Try.pinned (OpenSpec.upto fnExactVersSameSpec)

/-- 'laws.FnExactHallOnly', WHERE WHAT IT READS IS OF BULK AT MOST 1048576: true; the input reads as it did. -/
def fnExactHallOnlyUptoRow : OpenClaim := { program := "ytpofgidhhcolfaa", sum := "b53ff8bc527034a0583e62b7cae5b99b5b81bb052f842d2d9768af29c2f40cac", func := "loop.example/engrosser/laws.FnExactHallOnly", spec := "fnExactHallOnly", apart := false, narrowed := true }
def FnExactHallOnlyUptoSaid : Prop := fnExactHallOnlyUptoRow.holds Try.pinned (OpenSpec.upto fnExactHallOnlySpec)

/-- 'laws.FnExactWritesOk', WHERE WHAT IT READS IS OF BULK AT MOST 1048576: true; the input reads as it did. -/
def fnExactWritesOkUptoRow : OpenClaim := { program := "ytpofgidhhcolfaa", sum := "b53ff8bc527034a0583e62b7cae5b99b5b81bb052f842d2d9768af29c2f40cac", func := "loop.example/engrosser/laws.FnExactWritesOk", spec := "fnExactWritesOk", unfollowed := true, recurses := true, apart := false, narrowed := true }
def FnExactWritesOkUptoSaid : Prop := fnExactWritesOkUptoRow.holds Try.pinned (OpenSpec.upto fnExactWritesOkSpec)

/-- 'laws.FnExactVersOk', WHERE WHAT IT READS IS OF BULK AT MOST 1048576: true; the input reads as it did. -/
def fnExactVersOkUptoRow : OpenClaim := { program := "ytpofgidhhcolfaa", sum := "b53ff8bc527034a0583e62b7cae5b99b5b81bb052f842d2d9768af29c2f40cac", func := "loop.example/engrosser/laws.FnExactVersOk", spec := "fnExactVersOk", unfollowed := true, recurses := true, apart := false, narrowed := true }
def FnExactVersOkUptoSaid : Prop := fnExactVersOkUptoRow.holds Try.pinned (OpenSpec.upto fnExactVersOkSpec)

/-- 'laws.FnExactVersLast', WHERE WHAT IT READS IS OF BULK AT MOST 1048576: true; the input reads as it did. -/
def fnExactVersLastUptoRow : OpenClaim := { program := "ytpofgidhhcolfaa", sum := "b53ff8bc527034a0583e62b7cae5b99b5b81bb052f842d2d9768af29c2f40cac", func := "loop.example/engrosser/laws.FnExactVersLast", spec := "fnExactVersLast", unfollowed := true, recurses := true, apart := false, narrowed := true }
def FnExactVersLastUptoSaid : Prop := fnExactVersLastUptoRow.holds Try.pinned (OpenSpec.upto fnExactVersLastSpec)

/-- 'laws.FnExactVersAt', WHERE WHAT IT READS IS OF BULK AT MOST 1048576: true; the input reads as it did. -/
def fnExactVersAtUptoRow : OpenClaim := { program := "ytpofgidhhcolfaa", sum := "b53ff8bc527034a0583e62b7cae5b99b5b81bb052f842d2d9768af29c2f40cac", func := "loop.example/engrosser/laws.FnExactVersAt", spec := "fnExactVersAt", unfollowed := true, recurses := true, apart := false, narrowed := true }
def FnExactVersAtUptoSaid : Prop := fnExactVersAtUptoRow.holds Try.pinned (OpenSpec.upto fnExactVersAtSpec)

/-- 'laws.FnExactVersTrim', WHERE WHAT IT READS IS OF BULK AT MOST 1048576: true; the input reads as it did. -/
def fnExactVersTrimUptoRow : OpenClaim := { program := "ytpofgidhhcolfaa", sum := "b53ff8bc527034a0583e62b7cae5b99b5b81bb052f842d2d9768af29c2f40cac", func := "loop.example/engrosser/laws.FnExactVersTrim", spec := "fnExactVersTrim", unfollowed := true, recurses := true, apart := false, narrowed := true }
def FnExactVersTrimUptoSaid : Prop := fnExactVersTrimUptoRow.holds Try.pinned (OpenSpec.upto fnExactVersTrimSpec)

/-- 'laws.FnExactWorkNew', WHERE WHAT IT READS IS OF BULK AT MOST 1048576: true; the input reads as it did. -/
def fnExactWorkNewUptoRow : OpenClaim := { program := "ytpofgidhhcolfaa", sum := "b53ff8bc527034a0583e62b7cae5b99b5b81bb052f842d2d9768af29c2f40cac", func := "loop.example/engrosser/laws.FnExactWorkNew", spec := "fnExactWorkNew", unfollowed := true, recurses := true, apart := false, narrowed := true }
def FnExactWorkNewUptoSaid : Prop := fnExactWorkNewUptoRow.holds Try.pinned (OpenSpec.upto fnExactWorkNewSpec)

/-- 'laws.FnVersSame', WHERE WHAT IT READS IS OF BULK AT MOST 1048576: true; the input reads as it did. -/
def fnVersSameUptoRow : OpenClaim := { program := "ytpofgidhhcolfaa", sum := "b53ff8bc527034a0583e62b7cae5b99b5b81bb052f842d2d9768af29c2f40cac", func := "loop.example/engrosser/laws.FnVersSame", spec := "fnVersSame", unfollowed := true, recurses := true, apart := false, narrowed := true }
def FnVersSameUptoSaid : Prop := fnVersSameUptoRow.holds Try.pinned (OpenSpec.upto fnVersSameSpec)

/-- 'laws.FnVersKeys', WHERE WHAT IT READS IS OF BULK AT MOST 1048576: true; the input reads as it did. -/
def fnVersKeysUptoRow : OpenClaim := { program := "ytpofgidhhcolfaa", sum := "b53ff8bc527034a0583e62b7cae5b99b5b81bb052f842d2d9768af29c2f40cac", func := "loop.example/engrosser/laws.FnVersKeys", spec := "fnVersKeys", inPlace := ["internal/bytealg.abigen_runtime_cmpstring"], unfollowed := true, recurses := true, apart := false, narrowed := true }
def FnVersKeysUptoSaid : Prop := fnVersKeysUptoRow.holds Try.pinned (OpenSpec.upto fnVersKeysSpec)

/-- 'laws.FnWorkSame', WHERE WHAT IT READS IS OF BULK AT MOST 1048576: true; the input reads as it did. -/
def fnWorkSameUptoRow : OpenClaim := { program := "ytpofgidhhcolfaa", sum := "b53ff8bc527034a0583e62b7cae5b99b5b81bb052f842d2d9768af29c2f40cac", func := "loop.example/engrosser/laws.FnWorkSame", spec := "fnWorkSame", apart := false, narrowed := true }
def FnWorkSameUptoSaid : Prop := fnWorkSameUptoRow.holds Try.pinned (OpenSpec.upto fnWorkSameSpec)

/-- 'laws.FnVersTrim', WHERE WHAT IT READS IS OF BULK AT MOST 1048576: true; the input reads as it did. -/
def fnVersTrimUptoRow : OpenClaim := { program := "ytpofgidhhcolfaa", sum := "b53ff8bc527034a0583e62b7cae5b99b5b81bb052f842d2d9768af29c2f40cac", func := "loop.example/engrosser/laws.FnVersTrim", spec := "fnVersTrim", unfollowed := true, recurses := true, apart := false, narrowed := true }
def FnVersTrimUptoSaid : Prop := fnVersTrimUptoRow.holds Try.pinned (OpenSpec.upto fnVersTrimSpec)

/-- 'laws.FnVersAt', WHERE WHAT IT READS IS OF BULK AT MOST 1048576: true; the input reads as it did. -/
def fnVersAtUptoRow : OpenClaim := { program := "ytpofgidhhcolfaa", sum := "b53ff8bc527034a0583e62b7cae5b99b5b81bb052f842d2d9768af29c2f40cac", func := "loop.example/engrosser/laws.FnVersAt", spec := "fnVersAt", inPlace := ["internal/bytealg.abigen_runtime_cmpstring"], unfollowed := true, recurses := true, apart := false, narrowed := true }
def FnVersAtUptoSaid : Prop := fnVersAtUptoRow.holds Try.pinned (OpenSpec.upto fnVersAtSpec)

/-- 'laws.FnExactHallNew', WHERE WHAT IT READS IS OF BULK AT MOST 1048576: true; the input reads as it did. -/
def fnExactHallNewUptoRow : OpenClaim := { program := "ytpofgidhhcolfaa", sum := "b53ff8bc527034a0583e62b7cae5b99b5b81bb052f842d2d9768af29c2f40cac", func := "loop.example/engrosser/laws.FnExactHallNew", spec := "fnExactHallNew", apart := false, narrowed := true }
def FnExactHallNewUptoSaid : Prop := fnExactHallNewUptoRow.holds Try.pinned (OpenSpec.upto fnExactHallNewSpec)

/-- 'laws.FnVersLast', WHERE WHAT IT READS IS OF BULK AT MOST 1048576: true; the input reads as it did. -/
def fnVersLastUptoRow : OpenClaim := { program := "ytpofgidhhcolfaa", sum := "b53ff8bc527034a0583e62b7cae5b99b5b81bb052f842d2d9768af29c2f40cac", func := "loop.example/engrosser/laws.FnVersLast", spec := "fnVersLast", inPlace := ["internal/bytealg.abigen_runtime_cmpstring"], unfollowed := true, recurses := true, apart := false, narrowed := true }
def FnVersLastUptoSaid : Prop := fnVersLastUptoRow.holds Try.pinned (OpenSpec.upto fnVersLastSpec)

end Rows
end Go.Proofs.Ytpofgidhhcolfaa
