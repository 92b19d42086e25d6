/-
  No cell of these rows narrows 'for every input' (looked for: loops, veiled, ifaces, maps, wideKeys, modest, calm, conditions, laid).
  DERIVED. THE GIVEN ROWS OF THIS SEAT. 8 by the template 'for every input the law returns true; each argument reads behind the call as it read before'; 0 by the template 'total and deterministic' (their statements: YtpmeaikiaoojkaaTotals.lean).
  GIVEN WITH THE SEED: the statements are not yours to turn. If you find one false, say at which input.
  Laid BY PROGRAM, IN A SANDBOX (cutbox-rows.mjs): the forced cells as the released guide's own fill.sh prints them over the translation dee299cd97cdf713… (all of the seat's roots in one cut). By AI agents, Wed Nov 11 2026. No macro, syntax, notation, axiom, sorry.
-/
import Derived.Test.YtpmeaikiaoojkaaChecked
import GoSem.Claim
import GoSem.ClaimJoined
import GoSem.ClaimMapViews
import Derived.JoinedTies
import Derived.KernelRfl
namespace Go.Proofs.Ytpmeaikiaoojkaa
/- THE CELL 'sum', in the pinned program and in every row, IS THE sha256 OF THE DUMP (.gsa) THAT YtpmeaikiaoojkaaProg.lean LOADS. Nothing in Lean hashes anything: it is a label: what it is worth is what the hold of that sum in a sandbox is worth. -/
noncomputable def Try.pinned : Pinned := { name := "ytpmeaikiaoojkaa", sum := "dee299cd97cdf7134975ca3e1cc91bba95de7bb9b7a7082353b6f48044ab63e5", checked := Try.checked }
namespace Rows
def none {H : Type} : Left H := { results := [], args := [] }

/-- 'laws.FnExactConstants': WHATEVER THE INPUT: true; the input reads as it did. -/
def fnExactConstantsSpec : ChangeSpec := { name := "fnExactConstants", fn := fun _ => fun
  | [] => { results := [.lit (.bool true)], args := [] }
  | _ => none }
def fnExactConstantsRow : OpenClaim := { program := "ytpmeaikiaoojkaa", sum := "dee299cd97cdf7134975ca3e1cc91bba95de7bb9b7a7082353b6f48044ab63e5", func := "loop.example/engrosser/laws.FnExactConstants", spec := "fnExactConstants", apart := false }
def FnExactConstantsSaid : Prop := fnExactConstantsRow.holds Try.pinned (OpenSpec.ofChange fnExactConstantsSpec)

/-- ITS FALSE NEIGHBOUR: 'it returns false'. Refute it at one input. -/
def fnExactConstantsWrong : ChangeSpec := { name := "fnExactConstants", fn := fun _ => fun
  | [] => { results := [.lit (.bool false)], args := [] }
  | _ => none }
def FnExactConstantsWrongFalsely : Prop := fnExactConstantsRow.holds Try.pinned (OpenSpec.ofChange fnExactConstantsWrong)

/-- 'laws.FnExactLetterOk': WHATEVER THE INPUT: true; the input reads as it did. -/
def fnExactLetterOkSpec : ChangeSpec := { name := "fnExactLetterOk", fn := fun _ => fun
  | [d] => { results := [.lit (.bool true)], args := [d] }
  | _ => none }
def fnExactLetterOkRow : OpenClaim := { program := "ytpmeaikiaoojkaa", sum := "dee299cd97cdf7134975ca3e1cc91bba95de7bb9b7a7082353b6f48044ab63e5", func := "loop.example/engrosser/laws.FnExactLetterOk", spec := "fnExactLetterOk", apart := false }
def FnExactLetterOkSaid : Prop := fnExactLetterOkRow.holds Try.pinned (OpenSpec.ofChange fnExactLetterOkSpec)

/-- ITS FALSE NEIGHBOUR: 'it returns false'. Refute it at one input. -/
def fnExactLetterOkWrong : ChangeSpec := { name := "fnExactLetterOk", fn := fun _ => fun
  | [d] => { results := [.lit (.bool false)], args := [d] }
  | _ => none }
def FnExactLetterOkWrongFalsely : Prop := fnExactLetterOkRow.holds Try.pinned (OpenSpec.ofChange fnExactLetterOkWrong)

/-- 'laws.FnExactLetterText': WHATEVER THE INPUT: true; the input reads as it did. -/
def fnExactLetterTextSpec : ChangeSpec := { name := "fnExactLetterText", fn := fun _ => fun
  | [d] => { results := [.lit (.bool true)], args := [d] }
  | _ => none }
def fnExactLetterTextRow : OpenClaim := { program := "ytpmeaikiaoojkaa", sum := "dee299cd97cdf7134975ca3e1cc91bba95de7bb9b7a7082353b6f48044ab63e5", func := "loop.example/engrosser/laws.FnExactLetterText", spec := "fnExactLetterText", inPlace := ["internal/abi.NoEscape"], recurses := true, apart := false }
def FnExactLetterTextSaid : Prop := fnExactLetterTextRow.holds Try.pinned (OpenSpec.ofChange fnExactLetterTextSpec)

/-- ITS FALSE NEIGHBOUR: 'it returns false'. Refute it at one input. -/
def fnExactLetterTextWrong : ChangeSpec := { name := "fnExactLetterText", fn := fun _ => fun
  | [d] => { results := [.lit (.bool false)], args := [d] }
  | _ => none }
def FnExactLetterTextWrongFalsely : Prop := fnExactLetterTextRow.holds Try.pinned (OpenSpec.ofChange fnExactLetterTextWrong)

/-- 'laws.FnLetterBent': WHATEVER THE INPUT: true; the input reads as it did. -/
def fnLetterBentSpec : ChangeSpec := { name := "fnLetterBent", fn := fun _ => fun
  | [d] => { results := [.lit (.bool true)], args := [d] }
  | _ => none }
def fnLetterBentRow : OpenClaim := { program := "ytpmeaikiaoojkaa", sum := "dee299cd97cdf7134975ca3e1cc91bba95de7bb9b7a7082353b6f48044ab63e5", func := "loop.example/engrosser/laws.FnLetterBent", spec := "fnLetterBent", inPlace := ["internal/abi.NoEscape"], apart := false }
def FnLetterBentSaid : Prop := fnLetterBentRow.holds Try.pinned (OpenSpec.ofChange fnLetterBentSpec)

/-- ITS FALSE NEIGHBOUR: 'it returns false'. Refute it at one input. -/
def fnLetterBentWrong : ChangeSpec := { name := "fnLetterBent", fn := fun _ => fun
  | [d] => { results := [.lit (.bool false)], args := [d] }
  | _ => none }
def FnLetterBentWrongFalsely : Prop := fnLetterBentRow.holds Try.pinned (OpenSpec.ofChange fnLetterBentWrong)

/-- 'laws.FnExactLettersText': WHATEVER THE INPUT: true; the input reads as it did. -/
def fnExactLettersTextSpec : ChangeSpec := { name := "fnExactLettersText", fn := fun _ => fun
  | [d] => { results := [.lit (.bool true)], args := [d] }
  | _ => none }
def fnExactLettersTextRow : OpenClaim := { program := "ytpmeaikiaoojkaa", sum := "dee299cd97cdf7134975ca3e1cc91bba95de7bb9b7a7082353b6f48044ab63e5", func := "loop.example/engrosser/laws.FnExactLettersText", spec := "fnExactLettersText", inPlace := ["internal/abi.NoEscape"], recurses := true, apart := false }
def FnExactLettersTextSaid : Prop := fnExactLettersTextRow.holds Try.pinned (OpenSpec.ofChange fnExactLettersTextSpec)

/-- ITS FALSE NEIGHBOUR: 'it returns false'. Refute it at one input. -/
def fnExactLettersTextWrong : ChangeSpec := { name := "fnExactLettersText", fn := fun _ => fun
  | [d] => { results := [.lit (.bool false)], args := [d] }
  | _ => none }
def FnExactLettersTextWrongFalsely : Prop := fnExactLettersTextRow.holds Try.pinned (OpenSpec.ofChange fnExactLettersTextWrong)

/-- 'laws.FnExactSeatSame': WHATEVER THE INPUT: true; the input reads as it did. -/
def fnExactSeatSameSpec : ChangeSpec := { name := "fnExactSeatSame", fn := fun _ => fun
  | [d1, d2] => { results := [.lit (.bool true)], args := [d1, d2] }
  | _ => none }
def fnExactSeatSameRow : OpenClaim := { program := "ytpmeaikiaoojkaa", sum := "dee299cd97cdf7134975ca3e1cc91bba95de7bb9b7a7082353b6f48044ab63e5", func := "loop.example/engrosser/laws.FnExactSeatSame", spec := "fnExactSeatSame", apart := false }
def FnExactSeatSameSaid : Prop := fnExactSeatSameRow.holds Try.pinned (OpenSpec.ofChange fnExactSeatSameSpec)

/-- ITS FALSE NEIGHBOUR: 'it returns false'. Refute it at one input. -/
def fnExactSeatSameWrong : ChangeSpec := { name := "fnExactSeatSame", fn := fun _ => fun
  | [d1, d2] => { results := [.lit (.bool false)], args := [d1, d2] }
  | _ => none }
def FnExactSeatSameWrongFalsely : Prop := fnExactSeatSameRow.holds Try.pinned (OpenSpec.ofChange fnExactSeatSameWrong)

/-- 'laws.FnTalkSame': WHATEVER THE INPUT: true; the input reads as it did. -/
def fnTalkSameSpec : ChangeSpec := { name := "fnTalkSame", fn := fun _ => fun
  | [d] => { results := [.lit (.bool true)], args := [d] }
  | _ => none }
def fnTalkSameRow : OpenClaim := { program := "ytpmeaikiaoojkaa", sum := "dee299cd97cdf7134975ca3e1cc91bba95de7bb9b7a7082353b6f48044ab63e5", func := "loop.example/engrosser/laws.FnTalkSame", spec := "fnTalkSame", recurses := true, apart := false }
def FnTalkSameSaid : Prop := fnTalkSameRow.holds Try.pinned (OpenSpec.ofChange fnTalkSameSpec)

/-- ITS FALSE NEIGHBOUR: 'it returns false'. Refute it at one input. -/
def fnTalkSameWrong : ChangeSpec := { name := "fnTalkSame", fn := fun _ => fun
  | [d] => { results := [.lit (.bool false)], args := [d] }
  | _ => none }
def FnTalkSameWrongFalsely : Prop := fnTalkSameRow.holds Try.pinned (OpenSpec.ofChange fnTalkSameWrong)

/-- 'laws.FnExactTalkSame': WHATEVER THE INPUT: true; the input reads as it did. -/
def fnExactTalkSameSpec : ChangeSpec := { name := "fnExactTalkSame", fn := fun _ => fun
  | [d1, d2] => { results := [.lit (.bool true)], args := [d1, d2] }
  | _ => none }
def fnExactTalkSameRow : OpenClaim := { program := "ytpmeaikiaoojkaa", sum := "dee299cd97cdf7134975ca3e1cc91bba95de7bb9b7a7082353b6f48044ab63e5", func := "loop.example/engrosser/laws.FnExactTalkSame", spec := "fnExactTalkSame", apart := false }
def FnExactTalkSameSaid : Prop := fnExactTalkSameRow.holds Try.pinned (OpenSpec.ofChange fnExactTalkSameSpec)

/-- ITS FALSE NEIGHBOUR: 'it returns false'. Refute it at one input. -/
def fnExactTalkSameWrong : ChangeSpec := { name := "fnExactTalkSame", fn := fun _ => fun
  | [d1, d2] => { results := [.lit (.bool false)], args := [d1, d2] }
  | _ => none }
def FnExactTalkSameWrongFalsely : Prop := fnExactTalkSameRow.holds Try.pinned (OpenSpec.ofChange fnExactTalkSameWrong)

/- THE SECOND FORM. 'bulk': how many values and letters a reading holds, each counted each time it is reached (what is shared counts as often as it is met; a slice's spare places count too). A statement '..UptoSaid' is the law's where the arguments, and the package variables that the reading takes, are together of bulk at most 1048576: NARROWER than '..Said'. Prove '..Said' where nothing that the law and all that it calls make is longer than what came in: it says more and counts as full. Else prove '..UptoSaid'. A law counts once. -/
mutual
def uptoBulk {H : Type} : DataW H → Nat
  | .lit (.string bytes) => bytes.length + 1
  | .lit _ => 1
  | .nil => 1
  | .ptr d => uptoBulk d + 1
  | .slice elems spare => uptoBulkAll elems + uptoBulkAll spare + 1
  | .agg parts => uptoBulkAll parts + 1
  | .iface _ d => uptoBulk d + 1
  | .map entries => uptoBulkEntries entries + 1
  | .held _ => 1
def uptoBulkAll {H : Type} : List (DataW H) → Nat
  | [] => 0
  | d :: r => uptoBulk d + uptoBulkAll r
def uptoBulkEntries {H : Type} : List (Lit × DataW H) → Nat
  | [] => 0
  | x :: r => uptoBulkEntry x + uptoBulkEntries r
def uptoBulkEntry {H : Type} : Lit × DataW H → Nat
  | (.string bytes, d) => bytes.length + uptoBulk d + 1
  | (_, d) => uptoBulk d + 1
 end
def uptoSmall : (H : Type) → List (DataW H) → Bool := fun _ ds => decide (uptoBulkAll ds ≤ 1048576)
def OpenSpec.upto (s : _root_.Go.ChangeSpec) : _root_.Go.OpenSpec := { _root_.Go.OpenSpec.ofChange s with cond := some uptoSmall }

/-- 'laws.FnExactConstants', WHERE WHAT IT READS IS OF BULK AT MOST 1048576: true; the input reads as it did. -/
def fnExactConstantsUptoRow : OpenClaim := { program := "ytpmeaikiaoojkaa", sum := "dee299cd97cdf7134975ca3e1cc91bba95de7bb9b7a7082353b6f48044ab63e5", func := "loop.example/engrosser/laws.FnExactConstants", spec := "fnExactConstants", apart := false, narrowed := true }
def FnExactConstantsUptoSaid : Prop := fnExactConstantsUptoRow.holds Try.pinned (OpenSpec.upto fnExactConstantsSpec)

/-- 'laws.FnExactLetterOk', WHERE WHAT IT READS IS OF BULK AT MOST 1048576: true; the input reads as it did. -/
def fnExactLetterOkUptoRow : OpenClaim := { program := "ytpmeaikiaoojkaa", sum := "dee299cd97cdf7134975ca3e1cc91bba95de7bb9b7a7082353b6f48044ab63e5", func := "loop.example/engrosser/laws.FnExactLetterOk", spec := "fnExactLetterOk", apart := false, narrowed := true }
def FnExactLetterOkUptoSaid : Prop := fnExactLetterOkUptoRow.holds Try.pinned (OpenSpec.upto fnExactLetterOkSpec)

/-- 'laws.FnExactLetterText', WHERE WHAT IT READS IS OF BULK AT MOST 1048576: true; the input reads as it did. -/
def fnExactLetterTextUptoRow : OpenClaim := { program := "ytpmeaikiaoojkaa", sum := "dee299cd97cdf7134975ca3e1cc91bba95de7bb9b7a7082353b6f48044ab63e5", func := "loop.example/engrosser/laws.FnExactLetterText", spec := "fnExactLetterText", inPlace := ["internal/abi.NoEscape"], recurses := true, apart := false, narrowed := true }
def FnExactLetterTextUptoSaid : Prop := fnExactLetterTextUptoRow.holds Try.pinned (OpenSpec.upto fnExactLetterTextSpec)

/-- 'laws.FnLetterBent', WHERE WHAT IT READS IS OF BULK AT MOST 1048576: true; the input reads as it did. -/
def fnLetterBentUptoRow : OpenClaim := { program := "ytpmeaikiaoojkaa", sum := "dee299cd97cdf7134975ca3e1cc91bba95de7bb9b7a7082353b6f48044ab63e5", func := "loop.example/engrosser/laws.FnLetterBent", spec := "fnLetterBent", inPlace := ["internal/abi.NoEscape"], apart := false, narrowed := true }
def FnLetterBentUptoSaid : Prop := fnLetterBentUptoRow.holds Try.pinned (OpenSpec.upto fnLetterBentSpec)

/-- 'laws.FnExactLettersText', WHERE WHAT IT READS IS OF BULK AT MOST 1048576: true; the input reads as it did. -/
def fnExactLettersTextUptoRow : OpenClaim := { program := "ytpmeaikiaoojkaa", sum := "dee299cd97cdf7134975ca3e1cc91bba95de7bb9b7a7082353b6f48044ab63e5", func := "loop.example/engrosser/laws.FnExactLettersText", spec := "fnExactLettersText", inPlace := ["internal/abi.NoEscape"], recurses := true, apart := false, narrowed := true }
def FnExactLettersTextUptoSaid : Prop := fnExactLettersTextUptoRow.holds Try.pinned (OpenSpec.upto fnExactLettersTextSpec)

/-- 'laws.FnExactSeatSame', WHERE WHAT IT READS IS OF BULK AT MOST 1048576: true; the input reads as it did. -/
def fnExactSeatSameUptoRow : OpenClaim := { program := "ytpmeaikiaoojkaa", sum := "dee299cd97cdf7134975ca3e1cc91bba95de7bb9b7a7082353b6f48044ab63e5", func := "loop.example/engrosser/laws.FnExactSeatSame", spec := "fnExactSeatSame", apart := false, narrowed := true }
def FnExactSeatSameUptoSaid : Prop := fnExactSeatSameUptoRow.holds Try.pinned (OpenSpec.upto fnExactSeatSameSpec)

/-- 'laws.FnTalkSame', WHERE WHAT IT READS IS OF BULK AT MOST 1048576: true; the input reads as it did. -/
def fnTalkSameUptoRow : OpenClaim := { program := "ytpmeaikiaoojkaa", sum := "dee299cd97cdf7134975ca3e1cc91bba95de7bb9b7a7082353b6f48044ab63e5", func := "loop.example/engrosser/laws.FnTalkSame", spec := "fnTalkSame", recurses := true, apart := false, narrowed := true }
def FnTalkSameUptoSaid : Prop := fnTalkSameUptoRow.holds Try.pinned (OpenSpec.upto fnTalkSameSpec)

/-- 'laws.FnExactTalkSame', WHERE WHAT IT READS IS OF BULK AT MOST 1048576: true; the input reads as it did. -/
def fnExactTalkSameUptoRow : OpenClaim := { program := "ytpmeaikiaoojkaa", sum := "dee299cd97cdf7134975ca3e1cc91bba95de7bb9b7a7082353b6f48044ab63e5", func := "loop.example/engrosser/laws.FnExactTalkSame", spec := "fnExactTalkSame", apart := false, narrowed := true }
def FnExactTalkSameUptoSaid : Prop := fnExactTalkSameUptoRow.holds Try.pinned (OpenSpec.upto fnExactTalkSameSpec)

end Rows
end Go.Proofs.Ytpmeaikiaoojkaa
