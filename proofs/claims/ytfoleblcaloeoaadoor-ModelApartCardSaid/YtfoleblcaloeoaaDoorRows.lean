/-
  NARROWER THAN 'FOR EVERY INPUT', by the rows' own cells (each row's printed sentence says how): ModelKeeps: laid · ModelHandles: laid · ModelApart: laid · ModelRights: laid · ModelSpawns: laid.
  DERIVED. THE GIVEN ROWS OF THIS SEAT. 5 by the template 'for every input the law returns true; each argument reads behind the call as it read before'; 0 by the template 'total and deterministic' (their statements: YtfoleblcaloeoaaDoorTotals.lean).
  GIVEN WITH THE SEED: the statements are not yours to turn. If you find one false, say at which input.
  Laid BY PROGRAM, IN A SANDBOX (cutbox-rows.mjs): the forced cells as the released guide's own fill.sh prints them over the translation 65f365a39cb7ee6b… (all of the seat's roots in one cut). By AI agents, Wed Nov 11 2026. No macro, syntax, notation, axiom, sorry.
-/
import Derived.Test.YtfoleblcaloeoaaDoorChecked
import GoSem.PinnedTables
import GoSem.Claim
import GoSem.ClaimJoined
import GoSem.ClaimMapViews
import Derived.JoinedTies
import Derived.KernelRfl
namespace Go.Proofs.YtfoleblcaloeoaaDoor
/- THE CELL 'sum', in the pinned program and in every row, IS THE sha256 OF THE DUMP (.gsa) THAT YtfoleblcaloeoaaDoorProg.lean LOADS. Nothing in Lean hashes anything: it is a label: what it is worth is what the hold of that sum in a sandbox is worth. -/
noncomputable def Tryd.pinned : Pinned := { name := "ytfoleblcaloeoaadoor", sum := "65f365a39cb7ee6be744da5a742ad75b734b39384c1c56a38a7caf1c5b33e726", checked := Tryd.checked }
namespace Rows
def none {H : Type} : Left H := { results := [], args := [] }

/- WHAT THE LISTED PACKAGE-LEVEL VARIABLES READ AS WHEN THE CALL BEGINS. Each datum BY PROGRAM (the guide's laid-datum.mjs) off the statement by which the dump's own 'gosem.cut.vars' lays the variable. In a bare row this is a premise. The card (YtfoleblcaloeoaaDoorCards.lean) ties it to the program's text. -/
def laid_unicode_utf8_acceptRanges {H : Type} : DataW H := .agg [.agg [.lit (.int .u8 128), .lit (.int .u8 191)], .agg [.lit (.int .u8 160), .lit (.int .u8 191)], .agg [.lit (.int .u8 128), .lit (.int .u8 159)], .agg [.lit (.int .u8 144), .lit (.int .u8 191)], .agg [.lit (.int .u8 128), .lit (.int .u8 143)], .agg [.lit (.int .u8 0), .lit (.int .u8 0)], .agg [.lit (.int .u8 0), .lit (.int .u8 0)], .agg [.lit (.int .u8 0), .lit (.int .u8 0)], .agg [.lit (.int .u8 0), .lit (.int .u8 0)], .agg [.lit (.int .u8 0), .lit (.int .u8 0)], .agg [.lit (.int .u8 0), .lit (.int .u8 0)], .agg [.lit (.int .u8 0), .lit (.int .u8 0)], .agg [.lit (.int .u8 0), .lit (.int .u8 0)], .agg [.lit (.int .u8 0), .lit (.int .u8 0)], .agg [.lit (.int .u8 0), .lit (.int .u8 0)], .agg [.lit (.int .u8 0), .lit (.int .u8 0)]]
def laid_byre_calls_fields {H : Type} : DataW H := .agg [.lit (.string []), .lit (.string [46]), .lit (.string [112]), .lit (.string [112, 103, 99, 114]), .lit (.string [112, 103, 99]), .lit (.string [112, 103, 99, 114]), .lit (.string [112, 103, 99]), .lit (.string [112, 103, 99]), .lit (.string [112, 97, 115]), .lit (.string [112, 97, 98]), .lit (.string [115]), .lit (.string [104]), .lit (.string [104, 97, 115]), .lit (.string [104, 97, 98]), .lit (.string [112, 111]), .lit (.string [112, 103, 99, 111]), .lit (.string [112, 103]), .lit (.string [112, 103]), .lit (.string [112, 103, 99, 110]), .lit (.string [110]), .lit (.string [110]), .lit (.string [46])]
/-- One of Go's own tables, pinned by name: the form's constant. -/
def laid_unicode_utf8_first : DataW Unit := Go.Pinned.utf8First

/-- 'byrelaw20.ModelKeeps': WHATEVER THE INPUT: true; the input reads as it did. -/
def modelKeepsSpec : ChangeSpec := { name := "modelKeeps", fn := fun _ => fun
  | [d1, d2, d3] => { results := [.lit (.bool true)], args := [d1, d2, d3] }
  | _ => none }
def modelKeepsRow : OpenClaim := { program := "ytfoleblcaloeoaadoor", sum := "65f365a39cb7ee6be744da5a742ad75b734b39384c1c56a38a7caf1c5b33e726", func := "byre/byrelaw20.ModelKeeps", spec := "modelKeeps", inPlace := ["internal/bytealg.IndexByte", "internal/bytealg.Index", "maps.clone"], unfollowed := true, recurses := true, named := ["byre/calls.fields", "unicode/utf8.first", "unicode/utf8.acceptRanges", "internal/bytealg.MaxLen"], apart := false, laid := [("unicode/utf8.acceptRanges", laid_unicode_utf8_acceptRanges), ("byre/calls.fields", laid_byre_calls_fields), ("unicode/utf8.first", laid_unicode_utf8_first)] }
def ModelKeepsSaid : Prop := modelKeepsRow.holds Tryd.pinned (OpenSpec.ofChange modelKeepsSpec)

/-- ITS FALSE NEIGHBOUR: 'it returns false'. Refute it at one input. -/
def modelKeepsWrong : ChangeSpec := { name := "modelKeeps", fn := fun _ => fun
  | [d1, d2, d3] => { results := [.lit (.bool false)], args := [d1, d2, d3] }
  | _ => none }
def ModelKeepsWrongFalsely : Prop := modelKeepsRow.holds Tryd.pinned (OpenSpec.ofChange modelKeepsWrong)

/-- 'byrelaw20.ModelHandles': WHATEVER THE INPUT: true; the input reads as it did. -/
def modelHandlesSpec : ChangeSpec := { name := "modelHandles", fn := fun _ => fun
  | [d1, d2, d3, d4] => { results := [.lit (.bool true)], args := [d1, d2, d3, d4] }
  | _ => none }
def modelHandlesRow : OpenClaim := { program := "ytfoleblcaloeoaadoor", sum := "65f365a39cb7ee6be744da5a742ad75b734b39384c1c56a38a7caf1c5b33e726", func := "byre/byrelaw20.ModelHandles", spec := "modelHandles", inPlace := ["internal/bytealg.IndexByte", "internal/bytealg.Index"], unfollowed := true, recurses := true, named := ["byre/calls.fields", "unicode/utf8.first", "unicode/utf8.acceptRanges", "internal/bytealg.MaxLen"], apart := false, laid := [("unicode/utf8.acceptRanges", laid_unicode_utf8_acceptRanges), ("byre/calls.fields", laid_byre_calls_fields), ("unicode/utf8.first", laid_unicode_utf8_first)] }
def ModelHandlesSaid : Prop := modelHandlesRow.holds Tryd.pinned (OpenSpec.ofChange modelHandlesSpec)

/-- ITS FALSE NEIGHBOUR: 'it returns false'. Refute it at one input. -/
def modelHandlesWrong : ChangeSpec := { name := "modelHandles", fn := fun _ => fun
  | [d1, d2, d3, d4] => { results := [.lit (.bool false)], args := [d1, d2, d3, d4] }
  | _ => none }
def ModelHandlesWrongFalsely : Prop := modelHandlesRow.holds Tryd.pinned (OpenSpec.ofChange modelHandlesWrong)

/-- 'byrelaw20.ModelApart': WHATEVER THE INPUT: true; the input reads as it did. -/
def modelApartSpec : ChangeSpec := { name := "modelApart", fn := fun _ => fun
  | [d1, d2, d3, d4] => { results := [.lit (.bool true)], args := [d1, d2, d3, d4] }
  | _ => none }
def modelApartRow : OpenClaim := { program := "ytfoleblcaloeoaadoor", sum := "65f365a39cb7ee6be744da5a742ad75b734b39384c1c56a38a7caf1c5b33e726", func := "byre/byrelaw20.ModelApart", spec := "modelApart", inPlace := ["internal/bytealg.IndexByte", "internal/bytealg.Index", "maps.clone"], unfollowed := true, recurses := true, named := ["byre/calls.fields", "unicode/utf8.first", "unicode/utf8.acceptRanges", "internal/bytealg.MaxLen"], apart := false, laid := [("unicode/utf8.acceptRanges", laid_unicode_utf8_acceptRanges), ("byre/calls.fields", laid_byre_calls_fields), ("unicode/utf8.first", laid_unicode_utf8_first)] }
def ModelApartSaid : Prop := modelApartRow.holds Tryd.pinned (OpenSpec.ofChange modelApartSpec)

/-- ITS FALSE NEIGHBOUR: 'it returns false'. Refute it at one input. -/
def modelApartWrong : ChangeSpec := { name := "modelApart", fn := fun _ => fun
  | [d1, d2, d3, d4] => { results := [.lit (.bool false)], args := [d1, d2, d3, d4] }
  | _ => none }
def ModelApartWrongFalsely : Prop := modelApartRow.holds Tryd.pinned (OpenSpec.ofChange modelApartWrong)

/-- 'byrelaw20.ModelRights': WHATEVER THE INPUT: true; the input reads as it did. -/
def modelRightsSpec : ChangeSpec := { name := "modelRights", fn := fun _ => fun
  | [d1, d2, d3, d4, d5] => { results := [.lit (.bool true)], args := [d1, d2, d3, d4, d5] }
  | _ => none }
def modelRightsRow : OpenClaim := { program := "ytfoleblcaloeoaadoor", sum := "65f365a39cb7ee6be744da5a742ad75b734b39384c1c56a38a7caf1c5b33e726", func := "byre/byrelaw20.ModelRights", spec := "modelRights", inPlace := ["internal/bytealg.IndexByte", "internal/bytealg.Index", "maps.clone"], unfollowed := true, recurses := true, named := ["byre/calls.fields", "unicode/utf8.first", "unicode/utf8.acceptRanges", "internal/bytealg.MaxLen"], apart := false, laid := [("unicode/utf8.acceptRanges", laid_unicode_utf8_acceptRanges), ("byre/calls.fields", laid_byre_calls_fields), ("unicode/utf8.first", laid_unicode_utf8_first)] }
def ModelRightsSaid : Prop := modelRightsRow.holds Tryd.pinned (OpenSpec.ofChange modelRightsSpec)

/-- ITS FALSE NEIGHBOUR: 'it returns false'. Refute it at one input. -/
def modelRightsWrong : ChangeSpec := { name := "modelRights", fn := fun _ => fun
  | [d1, d2, d3, d4, d5] => { results := [.lit (.bool false)], args := [d1, d2, d3, d4, d5] }
  | _ => none }
def ModelRightsWrongFalsely : Prop := modelRightsRow.holds Tryd.pinned (OpenSpec.ofChange modelRightsWrong)

/-- 'byrelaw20.ModelSpawns': WHATEVER THE INPUT: true; the input reads as it did. -/
def modelSpawnsSpec : ChangeSpec := { name := "modelSpawns", fn := fun _ => fun
  | [d1, d2] => { results := [.lit (.bool true)], args := [d1, d2] }
  | _ => none }
def modelSpawnsRow : OpenClaim := { program := "ytfoleblcaloeoaadoor", sum := "65f365a39cb7ee6be744da5a742ad75b734b39384c1c56a38a7caf1c5b33e726", func := "byre/byrelaw20.ModelSpawns", spec := "modelSpawns", inPlace := ["internal/bytealg.IndexByte", "internal/bytealg.Index"], unfollowed := true, recurses := true, named := ["byre/calls.fields", "unicode/utf8.first", "unicode/utf8.acceptRanges", "internal/bytealg.MaxLen"], apart := false, laid := [("unicode/utf8.acceptRanges", laid_unicode_utf8_acceptRanges), ("byre/calls.fields", laid_byre_calls_fields), ("unicode/utf8.first", laid_unicode_utf8_first)] }
def ModelSpawnsSaid : Prop := modelSpawnsRow.holds Tryd.pinned (OpenSpec.ofChange modelSpawnsSpec)

/-- ITS FALSE NEIGHBOUR: 'it returns false'. Refute it at one input. -/
def modelSpawnsWrong : ChangeSpec := { name := "modelSpawns", fn := fun _ => fun
  | [d1, d2] => { results := [.lit (.bool false)], args := [d1, d2] }
  | _ => none }
def ModelSpawnsWrongFalsely : Prop := modelSpawnsRow.holds Tryd.pinned (OpenSpec.ofChange modelSpawnsWrong)

/- THE SECOND FORM. 'bulk': how many values and letters a reading holds, each counted each time it is reached (what is shared counts as often as it is met; a slice's spare places count too). A statement '..UptoSaid' is the law's where the arguments, and the package variables that the reading takes, are together of bulk at most 1048576: NARROWER than '..Said'. Prove '..Said' where nothing that the law and all that it calls make is longer than what came in: it says more and counts as full. Else prove '..UptoSaid'. A law counts once. -/
mutual
def uptoBulk {H : Type} : DataW H → Nat
  | .lit (.string bytes) => bytes.length + 1
  | .lit _ => 1
  | .nil => 1
  | .ptr d => uptoBulk d + 1
  | .slice elems spare => uptoBulkAll elems + uptoBulkAll spare + 1
  | .agg parts => uptoBulkAll parts + 1
  | .iface _ d => uptoBulk d + 1
  | .map entries => uptoBulkEntries entries + 1
  | .held _ => 1
def uptoBulkAll {H : Type} : List (DataW H) → Nat
  | [] => 0
  | d :: r => uptoBulk d + uptoBulkAll r
def uptoBulkEntries {H : Type} : List (Lit × DataW H) → Nat
  | [] => 0
  | x :: r => uptoBulkEntry x + uptoBulkEntries r
def uptoBulkEntry {H : Type} : Lit × DataW H → Nat
  | (.string bytes, d) => bytes.length + uptoBulk d + 1
  | (_, d) => uptoBulk d + 1
 end
def uptoSmall : (H : Type) → List (DataW H) → Bool := fun _ ds => decide (uptoBulkAll ds ≤ 1048576)
def OpenSpec.upto (s : _root_.Go.ChangeSpec) : _root_.Go.OpenSpec := { _root_.Go.OpenSpec.ofChange s with cond := some uptoSmall }

/-- 'byrelaw20.ModelKeeps', WHERE WHAT IT READS IS OF BULK AT MOST 1048576: true; the input reads as it did. -/
def modelKeepsUptoRow : OpenClaim := { program := "ytfoleblcaloeoaadoor", sum := "65f365a39cb7ee6be744da5a742ad75b734b39384c1c56a38a7caf1c5b33e726", func := "byre/byrelaw20.ModelKeeps", spec := "modelKeeps", inPlace := ["internal/bytealg.IndexByte", "internal/bytealg.Index", "maps.clone"], unfollowed := true, recurses := true, named := ["byre/calls.fields", "unicode/utf8.first", "unicode/utf8.acceptRanges", "internal/bytealg.MaxLen"], apart := false, laid := [("unicode/utf8.acceptRanges", laid_unicode_utf8_acceptRanges), ("byre/calls.fields", laid_byre_calls_fields), ("unicode/utf8.first", laid_unicode_utf8_first)], narrowed := true }
def ModelKeepsUptoSaid : Prop := modelKeepsUptoRow.holds Tryd.pinned (OpenSpec.upto modelKeepsSpec)

/-- 'byrelaw20.ModelHandles', WHERE WHAT IT READS IS OF BULK AT MOST 1048576: true; the input reads as it did. -/
def modelHandlesUptoRow : OpenClaim := { program := "ytfoleblcaloeoaadoor", sum := "65f365a39cb7ee6be744da5a742ad75b734b39384c1c56a38a7caf1c5b33e726", func := "byre/byrelaw20.ModelHandles", spec := "modelHandles", inPlace := ["internal/bytealg.IndexByte", "internal/bytealg.Index"], unfollowed := true, recurses := true, named := ["byre/calls.fields", "unicode/utf8.first", "unicode/utf8.acceptRanges", "internal/bytealg.MaxLen"], apart := false, laid := [("unicode/utf8.acceptRanges", laid_unicode_utf8_acceptRanges), ("byre/calls.fields", laid_byre_calls_fields), ("unicode/utf8.first", laid_unicode_utf8_first)], narrowed := true }
def ModelHandlesUptoSaid : Prop := modelHandlesUptoRow.holds Tryd.pinned (OpenSpec.upto modelHandlesSpec)

/-- 'byrelaw20.ModelApart', WHERE WHAT IT READS IS OF BULK AT MOST 1048576: true; the input reads as it did. -/
def modelApartUptoRow : OpenClaim := { program := "ytfoleblcaloeoaadoor", sum := "65f365a39cb7ee6be744da5a742ad75b734b39384c1c56a38a7caf1c5b33e726", func := "byre/byrelaw20.ModelApart", spec := "modelApart", inPlace := ["internal/bytealg.IndexByte", "internal/bytealg.Index", "maps.clone"], unfollowed := true, recurses := true, named := ["byre/calls.fields", "unicode/utf8.first", "unicode/utf8.acceptRanges", "internal/bytealg.MaxLen"], apart := false, laid := [("unicode/utf8.acceptRanges", laid_unicode_utf8_acceptRanges), ("byre/calls.fields", laid_byre_calls_fields), ("unicode/utf8.first", laid_unicode_utf8_first)], narrowed := true }
def ModelApartUptoSaid : Prop := modelApartUptoRow.holds Tryd.pinned (OpenSpec.upto modelApartSpec)

/-- 'byrelaw20.ModelRights', WHERE WHAT IT READS IS OF BULK AT MOST 1048576: true; the input reads as it did. -/
def modelRightsUptoRow : OpenClaim := { program := "ytfoleblcaloeoaadoor", sum := "65f365a39cb7ee6be744da5a742ad75b734b39384c1c56a38a7caf1c5b33e726", func := "byre/byrelaw20.ModelRights", spec := "modelRights", inPlace := ["internal/bytealg.IndexByte", "internal/bytealg.Index", "maps.clone"], unfollowed := true, recurses := true, named := ["byre/calls.fields", "unicode/utf8.first", "unicode/utf8.acceptRanges", "internal/bytealg.MaxLen"], apart := false, laid := [("unicode/utf8.acceptRanges", laid_unicode_utf8_acceptRanges), ("byre/calls.fields", laid_byre_calls_fields), ("unicode/utf8.first", laid_unicode_utf8_first)], narrowed := true }
def ModelRightsUptoSaid : Prop := modelRightsUptoRow.holds Tryd.pinned (OpenSpec.upto modelRightsSpec)

/-- 'byrelaw20.ModelSpawns', WHERE WHAT IT READS IS OF BULK AT MOST 1048576: true; the input reads as it did. -/
def modelSpawnsUptoRow : OpenClaim := { program := "ytfoleblcaloeoaadoor", sum := "65f365a39cb7ee6be744da5a742ad75b734b39384c1c56a38a7caf1c5b33e726", func := "byre/byrelaw20.ModelSpawns", spec := "modelSpawns", inPlace := ["internal/bytealg.IndexByte", "internal/bytealg.Index"], unfollowed := true, recurses := true, named := ["byre/calls.fields", "unicode/utf8.first", "unicode/utf8.acceptRanges", "internal/bytealg.MaxLen"], apart := false, laid := [("unicode/utf8.acceptRanges", laid_unicode_utf8_acceptRanges), ("byre/calls.fields", laid_byre_calls_fields), ("unicode/utf8.first", laid_unicode_utf8_first)], narrowed := true }
def ModelSpawnsUptoSaid : Prop := modelSpawnsUptoRow.holds Tryd.pinned (OpenSpec.upto modelSpawnsSpec)

end Rows
end Go.Proofs.YtfoleblcaloeoaaDoor
