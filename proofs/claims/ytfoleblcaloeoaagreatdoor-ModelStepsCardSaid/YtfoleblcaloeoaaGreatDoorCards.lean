/-
  DERIVED. GIVEN WITH THE SEED: THE CARDS: each row of YtfoleblcaloeoaaGreatDoorRows.lean that lists a variable, with what it lists TIED to the program's text (the seventh form; the later family's looks); each row that meets fmt, with fmt's text TOLD by the authors' own Lean function (tested against real Go, not proved from fmt's source: count such statements apart). THE CARD IS WHAT COUNTS. Prove the row's statement (the work); the ties are given (YtfoleblcaloeoaaGreatDoorTie.lean); close each card by the builder's one call (the guide's Derived/Test/ToyasCard.lean, 'card_holds'). Laid BY PROGRAM, IN A SANDBOX (cutbox-door.mjs). By AI agents, Wed Nov 11 2026. No macro, syntax, notation, axiom, sorry.
-/
import Derived.Test.YtfoleblcaloeoaaGreatDoorRows
import GoSem.ClaimSeven
namespace Go.Proofs.YtfoleblcaloeoaaGreatDoor
namespace Rows

/-- THE TIED CARD OF 'byrelaw20.ModelSteps'. -/
def modelStepsCard : Claim7 := { stood := { row := modelStepsRow, standIns := [], harness := (true, "1e135efc890123c9d5acff8710f2f683522a6945be8825fb4bbb2d78ef429e87"), looks := true }, kinds := [], alts := [], laidByText := true, laidKinds := [.data, .data, .pinned], laidTests := true, laidLooks := .later }
def ModelStepsCardSaid : Prop := Claim7.holds Tryz.pinned (.plain (OpenSpec.ofChange modelStepsSpec)) modelStepsCard

/-- THE TIED CARD OF 'byrelaw20.ModelRefuses'. -/
def modelRefusesCard : Claim7 := { stood := { row := modelRefusesRow, standIns := [], harness := (true, "1e135efc890123c9d5acff8710f2f683522a6945be8825fb4bbb2d78ef429e87"), looks := true }, kinds := [], alts := [], laidByText := true, laidKinds := [.data, .data, .pinned], laidTests := true, laidLooks := .later }
def ModelRefusesCardSaid : Prop := Claim7.holds Tryz.pinned (.plain (OpenSpec.ofChange modelRefusesSpec)) modelRefusesCard

/-- THE TIED CARD OF 'byrelaw20.ModelNone'. -/
def modelNoneCard : Claim7 := { stood := { row := modelNoneRow, standIns := [], harness := (true, "1e135efc890123c9d5acff8710f2f683522a6945be8825fb4bbb2d78ef429e87"), looks := true }, kinds := [], alts := [], laidByText := true, laidKinds := [.data, .data, .pinned], laidTests := true, laidLooks := .later }
def ModelNoneCardSaid : Prop := Claim7.holds Tryz.pinned (.plain (OpenSpec.ofChange modelNoneSpec)) modelNoneCard

/-- THE SECOND FORM's CARD OF 'byrelaw20.ModelSteps'. -/
def modelStepsUptoCard : Claim7 := { stood := { row := modelStepsUptoRow, standIns := [], harness := (true, "1e135efc890123c9d5acff8710f2f683522a6945be8825fb4bbb2d78ef429e87"), looks := true }, kinds := [], alts := [], laidByText := true, laidKinds := [.data, .data, .pinned], laidTests := true, laidLooks := .later }
def ModelStepsUptoCardSaid : Prop := Claim7.holds Tryz.pinned (.plain (OpenSpec.upto modelStepsSpec)) modelStepsUptoCard

/-- THE SECOND FORM's CARD OF 'byrelaw20.ModelRefuses'. -/
def modelRefusesUptoCard : Claim7 := { stood := { row := modelRefusesUptoRow, standIns := [], harness := (true, "1e135efc890123c9d5acff8710f2f683522a6945be8825fb4bbb2d78ef429e87"), looks := true }, kinds := [], alts := [], laidByText := true, laidKinds := [.data, .data, .pinned], laidTests := true, laidLooks := .later }
def ModelRefusesUptoCardSaid : Prop := Claim7.holds Tryz.pinned (.plain (OpenSpec.upto modelRefusesSpec)) modelRefusesUptoCard

/-- THE SECOND FORM's CARD OF 'byrelaw20.ModelNone'. -/
def modelNoneUptoCard : Claim7 := { stood := { row := modelNoneUptoRow, standIns := [], harness := (true, "1e135efc890123c9d5acff8710f2f683522a6945be8825fb4bbb2d78ef429e87"), looks := true }, kinds := [], alts := [], laidByText := true, laidKinds := [.data, .data, .pinned], laidTests := true, laidLooks := .later }
def ModelNoneUptoCardSaid : Prop := Claim7.holds Tryz.pinned (.plain (OpenSpec.upto modelNoneSpec)) modelNoneUptoCard
end Rows
end Go.Proofs.YtfoleblcaloeoaaGreatDoor
