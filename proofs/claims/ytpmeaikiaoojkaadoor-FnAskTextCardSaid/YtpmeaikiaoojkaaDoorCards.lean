/-
  DERIVED. GIVEN WITH THE SEED: THE CARDS: each row of YtpmeaikiaoojkaaDoorRows.lean that lists a variable, with what it lists TIED to the program's text (the seventh form; the later family's looks); each row that meets fmt, with fmt's text TOLD by the authors' own Lean function (tested against real Go, not proved from fmt's source: count such statements apart). THE CARD IS WHAT COUNTS. Prove the row's statement (the work); the ties are given (YtpmeaikiaoojkaaDoorTie.lean); close each card by the builder's one call (the guide's Derived/Test/ToyasCard.lean, 'card_holds'). Laid BY PROGRAM, IN A SANDBOX (cutbox-door.mjs). By AI agents, Wed Nov 11 2026. No macro, syntax, notation, axiom, sorry.
-/
import Derived.Test.YtpmeaikiaoojkaaDoorRows
import GoSem.ClaimSeven
namespace Go.Proofs.YtpmeaikiaoojkaaDoor
namespace Rows

/-- THE TIED CARD OF 'laws.FnExactAskOk'. -/
def fnExactAskOkCard : Claim7 := { stood := { row := fnExactAskOkRow, standIns := [], harness := (true, "f6edbb8e345c8eee58e01d71b0c3047e702894b2595b74532e66ffbd7e951ce3"), looks := true }, kinds := [], alts := [], laidByText := true, laidKinds := [.data], laidTests := true, laidLooks := .later }
def FnExactAskOkCardSaid : Prop := Claim7.holds Tryd.pinned (.plain (OpenSpec.ofChange fnExactAskOkSpec)) fnExactAskOkCard

/-- THE TIED CARD OF 'laws.FnExactAskText'. -/
def fnExactAskTextCard : Claim7 := { stood := { row := fnExactAskTextRow, standIns := [], harness := (true, "f6edbb8e345c8eee58e01d71b0c3047e702894b2595b74532e66ffbd7e951ce3"), looks := true }, kinds := [], alts := [], laidByText := true, laidKinds := [.data, .data, .data, .data], laidTests := true, laidLooks := .later }
def FnExactAskTextCardSaid : Prop := Claim7.holds Tryd.pinned (.plain (OpenSpec.ofChange fnExactAskTextSpec)) fnExactAskTextCard

/-- THE TIED CARD OF 'laws.FnAskText'. -/
def fnAskTextCard : Claim7 := { stood := { row := fnAskTextRow, standIns := [], harness := (true, "f6edbb8e345c8eee58e01d71b0c3047e702894b2595b74532e66ffbd7e951ce3"), looks := true }, kinds := [], alts := [], laidByText := true, laidKinds := [.data, .data, .data, .data, .sentinel, .sentinel, .data, .pinned], laidTests := true, laidLooks := .later }
def FnAskTextCardSaid : Prop := Claim7.holds Tryd.pinned (.plain (OpenSpec.ofChange fnAskTextSpec)) fnAskTextCard

/-- THE TIED CARD OF 'laws.FnExactAskRead'. -/
def fnExactAskReadCard : Claim7 := { stood := { row := fnExactAskReadRow, standIns := [], harness := (true, "f6edbb8e345c8eee58e01d71b0c3047e702894b2595b74532e66ffbd7e951ce3"), looks := true }, kinds := [], alts := [], laidByText := true, laidKinds := [.data, .data, .data, .data, .sentinel, .sentinel, .data, .pinned], laidTests := true, laidLooks := .later }
def FnExactAskReadCardSaid : Prop := Claim7.holds Tryd.pinned (.plain (OpenSpec.ofChange fnExactAskReadSpec)) fnExactAskReadCard

/-- THE SECOND FORM's CARD OF 'laws.FnExactAskOk'. -/
def fnExactAskOkUptoCard : Claim7 := { stood := { row := fnExactAskOkUptoRow, standIns := [], harness := (true, "f6edbb8e345c8eee58e01d71b0c3047e702894b2595b74532e66ffbd7e951ce3"), looks := true }, kinds := [], alts := [], laidByText := true, laidKinds := [.data], laidTests := true, laidLooks := .later }
def FnExactAskOkUptoCardSaid : Prop := Claim7.holds Tryd.pinned (.plain (OpenSpec.upto fnExactAskOkSpec)) fnExactAskOkUptoCard

/-- THE SECOND FORM's CARD OF 'laws.FnExactAskText'. -/
def fnExactAskTextUptoCard : Claim7 := { stood := { row := fnExactAskTextUptoRow, standIns := [], harness := (true, "f6edbb8e345c8eee58e01d71b0c3047e702894b2595b74532e66ffbd7e951ce3"), looks := true }, kinds := [], alts := [], laidByText := true, laidKinds := [.data, .data, .data, .data], laidTests := true, laidLooks := .later }
def FnExactAskTextUptoCardSaid : Prop := Claim7.holds Tryd.pinned (.plain (OpenSpec.upto fnExactAskTextSpec)) fnExactAskTextUptoCard

/-- THE SECOND FORM's CARD OF 'laws.FnAskText'. -/
def fnAskTextUptoCard : Claim7 := { stood := { row := fnAskTextUptoRow, standIns := [], harness := (true, "f6edbb8e345c8eee58e01d71b0c3047e702894b2595b74532e66ffbd7e951ce3"), looks := true }, kinds := [], alts := [], laidByText := true, laidKinds := [.data, .data, .data, .data, .sentinel, .sentinel, .data, .pinned], laidTests := true, laidLooks := .later }
def FnAskTextUptoCardSaid : Prop := Claim7.holds Tryd.pinned (.plain (OpenSpec.upto fnAskTextSpec)) fnAskTextUptoCard

/-- THE SECOND FORM's CARD OF 'laws.FnExactAskRead'. -/
def fnExactAskReadUptoCard : Claim7 := { stood := { row := fnExactAskReadUptoRow, standIns := [], harness := (true, "f6edbb8e345c8eee58e01d71b0c3047e702894b2595b74532e66ffbd7e951ce3"), looks := true }, kinds := [], alts := [], laidByText := true, laidKinds := [.data, .data, .data, .data, .sentinel, .sentinel, .data, .pinned], laidTests := true, laidLooks := .later }
def FnExactAskReadUptoCardSaid : Prop := Claim7.holds Tryd.pinned (.plain (OpenSpec.upto fnExactAskReadSpec)) fnExactAskReadUptoCard
end Rows
end Go.Proofs.YtpmeaikiaoojkaaDoor
