/-
  DERIVED. GIVEN WITH THE SEED: THE CARDS: each row of YtfoleblcaloeoaaDoorRows.lean that lists a variable, with what it lists TIED to the program's text (the seventh form; the later family's looks); each row that meets fmt, with fmt's text TOLD by the authors' own Lean function (tested against real Go, not proved from fmt's source: count such statements apart). THE CARD IS WHAT COUNTS. Prove the row's statement (the work); the ties are given (YtfoleblcaloeoaaDoorTie.lean); close each card by the builder's one call (the guide's Derived/Test/ToyasCard.lean, 'card_holds'). Laid BY PROGRAM, IN A SANDBOX (cutbox-door.mjs). By AI agents, Wed Nov 11 2026. No macro, syntax, notation, axiom, sorry.
-/
import Derived.Test.YtfoleblcaloeoaaDoorRows
import GoSem.ClaimSeven
namespace Go.Proofs.YtfoleblcaloeoaaDoor
namespace Rows

/-- THE TIED CARD OF 'byrelaw20.ModelKeeps'. -/
def modelKeepsCard : Claim7 := { stood := { row := modelKeepsRow, standIns := [], harness := (true, "c4f5e9e096577c55a3f12610e5b3ac6fc51eab168b372cc1f763bf6a982ab7c0"), looks := true }, kinds := [], alts := [], laidByText := true, laidKinds := [.data, .data, .pinned], laidTests := true, laidLooks := .later }
def ModelKeepsCardSaid : Prop := Claim7.holds Tryd.pinned (.plain (OpenSpec.ofChange modelKeepsSpec)) modelKeepsCard

/-- THE TIED CARD OF 'byrelaw20.ModelHandles'. -/
def modelHandlesCard : Claim7 := { stood := { row := modelHandlesRow, standIns := [], harness := (true, "c4f5e9e096577c55a3f12610e5b3ac6fc51eab168b372cc1f763bf6a982ab7c0"), looks := true }, kinds := [], alts := [], laidByText := true, laidKinds := [.data, .data, .pinned], laidTests := true, laidLooks := .later }
def ModelHandlesCardSaid : Prop := Claim7.holds Tryd.pinned (.plain (OpenSpec.ofChange modelHandlesSpec)) modelHandlesCard

/-- THE TIED CARD OF 'byrelaw20.ModelApart'. -/
def modelApartCard : Claim7 := { stood := { row := modelApartRow, standIns := [], harness := (true, "c4f5e9e096577c55a3f12610e5b3ac6fc51eab168b372cc1f763bf6a982ab7c0"), looks := true }, kinds := [], alts := [], laidByText := true, laidKinds := [.data, .data, .pinned], laidTests := true, laidLooks := .later }
def ModelApartCardSaid : Prop := Claim7.holds Tryd.pinned (.plain (OpenSpec.ofChange modelApartSpec)) modelApartCard

/-- THE TIED CARD OF 'byrelaw20.ModelRights'. -/
def modelRightsCard : Claim7 := { stood := { row := modelRightsRow, standIns := [], harness := (true, "c4f5e9e096577c55a3f12610e5b3ac6fc51eab168b372cc1f763bf6a982ab7c0"), looks := true }, kinds := [], alts := [], laidByText := true, laidKinds := [.data, .data, .pinned], laidTests := true, laidLooks := .later }
def ModelRightsCardSaid : Prop := Claim7.holds Tryd.pinned (.plain (OpenSpec.ofChange modelRightsSpec)) modelRightsCard

/-- THE TIED CARD OF 'byrelaw20.ModelSpawns'. -/
def modelSpawnsCard : Claim7 := { stood := { row := modelSpawnsRow, standIns := [], harness := (true, "c4f5e9e096577c55a3f12610e5b3ac6fc51eab168b372cc1f763bf6a982ab7c0"), looks := true }, kinds := [], alts := [], laidByText := true, laidKinds := [.data, .data, .pinned], laidTests := true, laidLooks := .later }
def ModelSpawnsCardSaid : Prop := Claim7.holds Tryd.pinned (.plain (OpenSpec.ofChange modelSpawnsSpec)) modelSpawnsCard

/-- THE SECOND FORM's CARD OF 'byrelaw20.ModelKeeps'. -/
def modelKeepsUptoCard : Claim7 := { stood := { row := modelKeepsUptoRow, standIns := [], harness := (true, "c4f5e9e096577c55a3f12610e5b3ac6fc51eab168b372cc1f763bf6a982ab7c0"), looks := true }, kinds := [], alts := [], laidByText := true, laidKinds := [.data, .data, .pinned], laidTests := true, laidLooks := .later }
def ModelKeepsUptoCardSaid : Prop := Claim7.holds Tryd.pinned (.plain (OpenSpec.upto modelKeepsSpec)) modelKeepsUptoCard

/-- THE SECOND FORM's CARD OF 'byrelaw20.ModelHandles'. -/
def modelHandlesUptoCard : Claim7 := { stood := { row := modelHandlesUptoRow, standIns := [], harness := (true, "c4f5e9e096577c55a3f12610e5b3ac6fc51eab168b372cc1f763bf6a982ab7c0"), looks := true }, kinds := [], alts := [], laidByText := true, laidKinds := [.data, .data, .pinned], laidTests := true, laidLooks := .later }
def ModelHandlesUptoCardSaid : Prop := Claim7.holds Tryd.pinned (.plain (OpenSpec.upto modelHandlesSpec)) modelHandlesUptoCard

/-- THE SECOND FORM's CARD OF 'byrelaw20.ModelApart'. -/
def modelApartUptoCard : Claim7 := { stood := { row := modelApartUptoRow, standIns := [], harness := (true, "c4f5e9e096577c55a3f12610e5b3ac6fc51eab168b372cc1f763bf6a982ab7c0"), looks := true }, kinds := [], alts := [], laidByText := true, laidKinds := [.data, .data, .pinned], laidTests := true, laidLooks := .later }
def ModelApartUptoCardSaid : Prop := Claim7.holds Tryd.pinned (.plain (OpenSpec.upto modelApartSpec)) modelApartUptoCard

/-- THE SECOND FORM's CARD OF 'byrelaw20.ModelRights'. -/
def modelRightsUptoCard : Claim7 := { stood := { row := modelRightsUptoRow, standIns := [], harness := (true, "c4f5e9e096577c55a3f12610e5b3ac6fc51eab168b372cc1f763bf6a982ab7c0"), looks := true }, kinds := [], alts := [], laidByText := true, laidKinds := [.data, .data, .pinned], laidTests := true, laidLooks := .later }
def ModelRightsUptoCardSaid : Prop := Claim7.holds Tryd.pinned (.plain (OpenSpec.upto modelRightsSpec)) modelRightsUptoCard

/-- THE SECOND FORM's CARD OF 'byrelaw20.ModelSpawns'. -/
def modelSpawnsUptoCard : Claim7 := { stood := { row := modelSpawnsUptoRow, standIns := [], harness := (true, "c4f5e9e096577c55a3f12610e5b3ac6fc51eab168b372cc1f763bf6a982ab7c0"), looks := true }, kinds := [], alts := [], laidByText := true, laidKinds := [.data, .data, .pinned], laidTests := true, laidLooks := .later }
def ModelSpawnsUptoCardSaid : Prop := Claim7.holds Tryd.pinned (.plain (OpenSpec.upto modelSpawnsSpec)) modelSpawnsUptoCard
end Rows
end Go.Proofs.YtfoleblcaloeoaaDoor
