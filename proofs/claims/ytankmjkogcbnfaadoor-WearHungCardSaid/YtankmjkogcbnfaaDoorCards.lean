/-
  DERIVED. GIVEN WITH THE SEED: THE CARDS: each row of YtankmjkogcbnfaaDoorRows.lean that lists a variable, with what it lists TIED to the program's text (the seventh form; the later family's looks); each row that meets fmt, with fmt's text TOLD by the authors' own Lean function (tested against real Go, not proved from fmt's source: count such statements apart). THE CARD IS WHAT COUNTS. Prove the row's statement (the work); the ties are given (YtankmjkogcbnfaaDoorTie.lean); close each card by the builder's one call (the guide's Derived/Test/ToyasCard.lean, 'card_holds'). Laid BY PROGRAM, IN A SANDBOX (cutbox-door.mjs). By AI agents, Wed Nov 11 2026. No macro, syntax, notation, axiom, sorry.
-/
import Derived.Test.YtankmjkogcbnfaaDoorRows
import GoSem.ClaimSeven
namespace Go.Proofs.YtankmjkogcbnfaaDoor
namespace Rows

/-- THE TIED CARD OF 'thatchlaw07.WearHung'. -/
def wearHungCard : Claim7 := { stood := { row := wearHungRow, standIns := [], harness := (true, "be29c413b8d309735d74ec2703ef84450bdfcc400dda172b36c93fa9728f571c"), looks := true }, kinds := [], alts := [], goes := true, laidByText := true, laidKinds := [.data, .data], laidTests := true, laidLooks := .later }
def WearHungCardSaid : Prop := Claim7.holds Tryd.pinned (.plain (OpenSpec.ofChange wearHungSpec)) wearHungCard

/-- THE TIED CARD OF 'thatchlaw06.RidgeHeld'. -/
def ridgeHeldCard : Claim7 := { stood := { row := ridgeHeldRow, standIns := [], harness := (true, "be29c413b8d309735d74ec2703ef84450bdfcc400dda172b36c93fa9728f571c"), looks := true }, kinds := [], alts := [], goes := true, laidByText := true, laidKinds := [.data, .data], laidTests := true, laidLooks := .later }
def RidgeHeldCardSaid : Prop := Claim7.holds Tryd.pinned (.plain (OpenSpec.ofChange ridgeHeldSpec)) ridgeHeldCard

/-- THE TIED CARD OF 'thatchlaw04.FixRafters'. -/
def fixRaftersCard : Claim7 := { stood := { row := fixRaftersRow, standIns := [], harness := (true, "be29c413b8d309735d74ec2703ef84450bdfcc400dda172b36c93fa9728f571c"), looks := true }, kinds := [], alts := [], goes := true, laidByText := true, laidKinds := [.data, .data], laidTests := true, laidLooks := .later }
def FixRaftersCardSaid : Prop := Claim7.holds Tryd.pinned (.plain (OpenSpec.ofChange fixRaftersSpec)) fixRaftersCard

/-- THE TIED CARD OF 'thatchlaw04.FixBarn'. -/
def fixBarnCard : Claim7 := { stood := { row := fixBarnRow, standIns := [], harness := (true, "be29c413b8d309735d74ec2703ef84450bdfcc400dda172b36c93fa9728f571c"), looks := true }, kinds := [], alts := [], goes := true, laidByText := true, laidKinds := [.data, .data], laidTests := true, laidLooks := .later }
def FixBarnCardSaid : Prop := Claim7.holds Tryd.pinned (.plain (OpenSpec.ofChange fixBarnSpec)) fixBarnCard

/-- THE SECOND FORM's CARD OF 'thatchlaw07.WearHung'. -/
def wearHungUptoCard : Claim7 := { stood := { row := wearHungUptoRow, standIns := [], harness := (true, "be29c413b8d309735d74ec2703ef84450bdfcc400dda172b36c93fa9728f571c"), looks := true }, kinds := [], alts := [], goes := true, laidByText := true, laidKinds := [.data, .data], laidTests := true, laidLooks := .later }
def WearHungUptoCardSaid : Prop := Claim7.holds Tryd.pinned (.plain (OpenSpec.upto wearHungSpec)) wearHungUptoCard

/-- THE SECOND FORM's CARD OF 'thatchlaw06.RidgeHeld'. -/
def ridgeHeldUptoCard : Claim7 := { stood := { row := ridgeHeldUptoRow, standIns := [], harness := (true, "be29c413b8d309735d74ec2703ef84450bdfcc400dda172b36c93fa9728f571c"), looks := true }, kinds := [], alts := [], goes := true, laidByText := true, laidKinds := [.data, .data], laidTests := true, laidLooks := .later }
def RidgeHeldUptoCardSaid : Prop := Claim7.holds Tryd.pinned (.plain (OpenSpec.upto ridgeHeldSpec)) ridgeHeldUptoCard

/-- THE SECOND FORM's CARD OF 'thatchlaw04.FixRafters'. -/
def fixRaftersUptoCard : Claim7 := { stood := { row := fixRaftersUptoRow, standIns := [], harness := (true, "be29c413b8d309735d74ec2703ef84450bdfcc400dda172b36c93fa9728f571c"), looks := true }, kinds := [], alts := [], goes := true, laidByText := true, laidKinds := [.data, .data], laidTests := true, laidLooks := .later }
def FixRaftersUptoCardSaid : Prop := Claim7.holds Tryd.pinned (.plain (OpenSpec.upto fixRaftersSpec)) fixRaftersUptoCard

/-- THE SECOND FORM's CARD OF 'thatchlaw04.FixBarn'. -/
def fixBarnUptoCard : Claim7 := { stood := { row := fixBarnUptoRow, standIns := [], harness := (true, "be29c413b8d309735d74ec2703ef84450bdfcc400dda172b36c93fa9728f571c"), looks := true }, kinds := [], alts := [], goes := true, laidByText := true, laidKinds := [.data, .data], laidTests := true, laidLooks := .later }
def FixBarnUptoCardSaid : Prop := Claim7.holds Tryd.pinned (.plain (OpenSpec.upto fixBarnSpec)) fixBarnUptoCard
end Rows
end Go.Proofs.YtankmjkogcbnfaaDoor
