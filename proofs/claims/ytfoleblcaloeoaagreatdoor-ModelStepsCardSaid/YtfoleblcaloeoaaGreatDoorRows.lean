/-
  NARROWER THAN 'FOR EVERY INPUT', by the rows' own cells (each row's printed sentence says how): ModelSteps: laid · ModelRefuses: laid · ModelNone: laid.
  DERIVED. THE GIVEN ROWS OF THIS SEAT. 3 by the template 'for every input the law returns true; each argument reads behind the call as it read before'; 0 by the template 'total and deterministic' (their statements: YtfoleblcaloeoaaGreatDoorTotals.lean).
  GIVEN WITH THE SEED: the statements are not yours to turn. If you find one false, say at which input.
  Laid BY PROGRAM, IN A SANDBOX (cutbox-rows.mjs): the forced cells as the released guide's own fill.sh prints them over the translation 95a4b2deaf3c8e36… (all of the seat's roots in one cut). By AI agents, Wed Nov 11 2026. No macro, syntax, notation, axiom, sorry.
-/
import Derived.Test.YtfoleblcaloeoaaGreatDoorChecked
import GoSem.PinnedTables
import GoSem.Claim
import GoSem.ClaimJoined
import GoSem.ClaimMapViews
import Derived.JoinedTies
import Derived.KernelRfl
namespace Go.Proofs.YtfoleblcaloeoaaGreatDoor
/- THE CELL 'sum', in the pinned program and in every row, IS THE sha256 OF THE DUMP (.gsa) THAT YtfoleblcaloeoaaGreatDoorProg.lean LOADS. Nothing in Lean hashes anything: it is a label: what it is worth is what the hold of that sum in a sandbox is worth. -/
noncomputable def Tryz.pinned : Pinned := { name := "ytfoleblcaloeoaagreatdoor", sum := "95a4b2deaf3c8e369bd198c49607f8648eef7cb20dae4b5783d1f04de4c9b14f", checked := Tryz.checked }
namespace Rows
def none {H : Type} : Left H := { results := [], args := [] }

/- WHAT THE LISTED PACKAGE-LEVEL VARIABLES READ AS WHEN THE CALL BEGINS. Each datum BY PROGRAM (the guide's laid-datum.mjs) off the statement by which the dump's own 'gosem.cut.vars' lays the variable. In a bare row this is a premise. The card (YtfoleblcaloeoaaGreatDoorCards.lean) ties it to the program's text. -/
def laid_unicode_utf8_acceptRanges {H : Type} : DataW H := .agg [.agg [.lit (.int .u8 128), .lit (.int .u8 191)], .agg [.lit (.int .u8 160), .lit (.int .u8 191)], .agg [.lit (.int .u8 128), .lit (.int .u8 159)], .agg [.lit (.int .u8 144), .lit (.int .u8 191)], .agg [.lit (.int .u8 128), .lit (.int .u8 143)], .agg [.lit (.int .u8 0), .lit (.int .u8 0)], .agg [.lit (.int .u8 0), .lit (.int .u8 0)], .agg [.lit (.int .u8 0), .lit (.int .u8 0)], .agg [.lit (.int .u8 0), .lit (.int .u8 0)], .agg [.lit (.int .u8 0), .lit (.int .u8 0)], .agg [.lit (.int .u8 0), .lit (.int .u8 0)], .agg [.lit (.int .u8 0), .lit (.int .u8 0)], .agg [.lit (.int .u8 0), .lit (.int .u8 0)], .agg [.lit (.int .u8 0), .lit (.int .u8 0)], .agg [.lit (.int .u8 0), .lit (.int .u8 0)], .agg [.lit (.int .u8 0), .lit (.int .u8 0)]]
def laid_byre_calls_fields {H : Type} : DataW H := .agg [.lit (.string []), .lit (.string [46]), .lit (.string [112]), .lit (.string [112, 103, 99, 114]), .lit (.string [112, 103, 99]), .lit (.string [112, 103, 99, 114]), .lit (.string [112, 103, 99]), .lit (.string [112, 103, 99]), .lit (.string [112, 97, 115]), .lit (.string [112, 97, 98]), .lit (.string [115]), .lit (.string [104]), .lit (.string [104, 97, 115]), .lit (.string [104, 97, 98]), .lit (.string [112, 111]), .lit (.string [112, 103, 99, 111]), .lit (.string [112, 103]), .lit (.string [112, 103]), .lit (.string [112, 103, 99, 110]), .lit (.string [110]), .lit (.string [110]), .lit (.string [46])]
/-- One of Go's own tables, pinned by name: the form's constant. -/
def laid_unicode_utf8_first : DataW Unit := Go.Pinned.utf8First

/-- 'byrelaw20.ModelSteps': WHATEVER THE INPUT: true; the input reads as it did. -/
def modelStepsSpec : ChangeSpec := { name := "modelSteps", fn := fun _ => fun
  | [d1, d2] => { results := [.lit (.bool true)], args := [d1, d2] }
  | _ => none }
def modelStepsRow : OpenClaim := { program := "ytfoleblcaloeoaagreatdoor", sum := "95a4b2deaf3c8e369bd198c49607f8648eef7cb20dae4b5783d1f04de4c9b14f", func := "byre/byrelaw20.ModelSteps", spec := "modelSteps", inPlace := ["internal/bytealg.IndexByte", "internal/bytealg.Index"], unfollowed := true, recurses := true, named := ["byre/calls.fields", "unicode/utf8.first", "unicode/utf8.acceptRanges", "internal/bytealg.MaxLen"], apart := false, laid := [("unicode/utf8.acceptRanges", laid_unicode_utf8_acceptRanges), ("byre/calls.fields", laid_byre_calls_fields), ("unicode/utf8.first", laid_unicode_utf8_first)] }
def ModelStepsSaid : Prop := modelStepsRow.holds Tryz.pinned (OpenSpec.ofChange modelStepsSpec)

/-- ITS FALSE NEIGHBOUR: 'it returns false'. Refute it at one input. -/
def modelStepsWrong : ChangeSpec := { name := "modelSteps", fn := fun _ => fun
  | [d1, d2] => { results := [.lit (.bool false)], args := [d1, d2] }
  | _ => none }
def ModelStepsWrongFalsely : Prop := modelStepsRow.holds Tryz.pinned (OpenSpec.ofChange modelStepsWrong)

/-- 'byrelaw20.ModelRefuses': WHATEVER THE INPUT: true; the input reads as it did. -/
def modelRefusesSpec : ChangeSpec := { name := "modelRefuses", fn := fun _ => fun
  | [d1, d2] => { results := [.lit (.bool true)], args := [d1, d2] }
  | _ => none }
def modelRefusesRow : OpenClaim := { program := "ytfoleblcaloeoaagreatdoor", sum := "95a4b2deaf3c8e369bd198c49607f8648eef7cb20dae4b5783d1f04de4c9b14f", func := "byre/byrelaw20.ModelRefuses", spec := "modelRefuses", inPlace := ["internal/bytealg.IndexByte", "internal/bytealg.Index", "maps.clone"], unfollowed := true, recurses := true, named := ["byre/calls.fields", "unicode/utf8.first", "unicode/utf8.acceptRanges", "internal/bytealg.MaxLen"], apart := false, laid := [("unicode/utf8.acceptRanges", laid_unicode_utf8_acceptRanges), ("byre/calls.fields", laid_byre_calls_fields), ("unicode/utf8.first", laid_unicode_utf8_first)] }
def ModelRefusesSaid : Prop := modelRefusesRow.holds Tryz.pinned (OpenSpec.ofChange modelRefusesSpec)

/-- ITS FALSE NEIGHBOUR: 'it returns false'. Refute it at one input. -/
def modelRefusesWrong : ChangeSpec := { name := "modelRefuses", fn := fun _ => fun
  | [d1, d2] => { results := [.lit (.bool false)], args := [d1, d2] }
  | _ => none }
def ModelRefusesWrongFalsely : Prop := modelRefusesRow.holds Tryz.pinned (OpenSpec.ofChange modelRefusesWrong)

/-- 'byrelaw20.ModelNone': WHATEVER THE INPUT: true; the input reads as it did. -/
def modelNoneSpec : ChangeSpec := { name := "modelNone", fn := fun _ => fun
  | [d] => { results := [.lit (.bool true)], args := [d] }
  | _ => none }
def modelNoneRow : OpenClaim := { program := "ytfoleblcaloeoaagreatdoor", sum := "95a4b2deaf3c8e369bd198c49607f8648eef7cb20dae4b5783d1f04de4c9b14f", func := "byre/byrelaw20.ModelNone", spec := "modelNone", inPlace := ["internal/bytealg.IndexByte", "internal/bytealg.Index", "maps.clone"], unfollowed := true, recurses := true, named := ["byre/calls.fields", "unicode/utf8.first", "unicode/utf8.acceptRanges", "internal/bytealg.MaxLen"], apart := false, laid := [("unicode/utf8.acceptRanges", laid_unicode_utf8_acceptRanges), ("byre/calls.fields", laid_byre_calls_fields), ("unicode/utf8.first", laid_unicode_utf8_first)] }
def ModelNoneSaid : Prop := modelNoneRow.holds Tryz.pinned (OpenSpec.ofChange modelNoneSpec)

/-- ITS FALSE NEIGHBOUR: 'it returns false'. Refute it at one input. -/
def modelNoneWrong : ChangeSpec := { name := "modelNone", fn := fun _ => fun
  | [d] => { results := [.lit (.bool false)], args := [d] }
  | _ => none }
def ModelNoneWrongFalsely : Prop := modelNoneRow.holds Tryz.pinned (OpenSpec.ofChange modelNoneWrong)

/- THE SECOND FORM. 'bulk': how many values and letters a reading holds, each counted each time it is reached (what is shared counts as often as it is met; a slice's spare places count too). A statement '..UptoSaid' is the law's where the arguments, and the package variables that the reading takes, are together of bulk at most 1048576: NARROWER than '..Said'. Prove '..Said' where nothing that the law and all that it calls make is longer than what came in: it says more and counts as full. Else prove '..UptoSaid'. A law counts once. -/
mutual
def uptoBulk {H : Type} : DataW H → Nat
  | .lit (.string bytes) => bytes.length + 1
  | .lit _ => 1
  | .nil => 1
  | .ptr d => uptoBulk d + 1
  | .slice elems spare => uptoBulkAll elems + uptoBulkAll spare + 1
  | .agg parts => uptoBulkAll parts + 1
  | .iface _ d => uptoBulk d + 1
  | .map entries => uptoBulkEntries entries + 1
  | .held _ => 1
def uptoBulkAll {H : Type} : List (DataW H) → Nat
  | [] => 0
  | d :: r => uptoBulk d + uptoBulkAll r
def uptoBulkEntries {H : Type} : List (Lit × DataW H) → Nat
  | [] => 0
  | x :: r => uptoBulkEntry x + uptoBulkEntries r
def uptoBulkEntry {H : Type} : Lit × DataW H → Nat
  | (.string bytes, d) => bytes.length + uptoBulk d + 1
  | (_, d) => uptoBulk d + 1
 end
def uptoSmall : (H : Type) → List (DataW H) → Bool := fun _ ds => decide (uptoBulkAll ds ≤ 1048576)
def OpenSpec.upto (s : _root_.Go.ChangeSpec) : _root_.Go.OpenSpec := { _root_.Go.OpenSpec.ofChange s with cond := some uptoSmall }

/-- 'byrelaw20.ModelSteps', WHERE WHAT IT READS IS OF BULK AT MOST 1048576: true; the input reads as it did. -/
def modelStepsUptoRow : OpenClaim := { program := "ytfoleblcaloeoaagreatdoor", sum := "95a4b2deaf3c8e369bd198c49607f8648eef7cb20dae4b5783d1f04de4c9b14f", func := "byre/byrelaw20.ModelSteps", spec := "modelSteps", inPlace := ["internal/bytealg.IndexByte", "internal/bytealg.Index"], unfollowed := true, recurses := true, named := ["byre/calls.fields", "unicode/utf8.first", "unicode/utf8.acceptRanges", "internal/bytealg.MaxLen"], apart := false, laid := [("unicode/utf8.acceptRanges", laid_unicode_utf8_acceptRanges), ("byre/calls.fields", laid_byre_calls_fields), ("unicode/utf8.first", laid_unicode_utf8_first)], narrowed := true }
def ModelStepsUptoSaid : Prop := modelStepsUptoRow.holds Tryz.pinned (OpenSpec.upto modelStepsSpec)

/-- 'byrelaw20.ModelRefuses', WHERE WHAT IT READS IS OF BULK AT MOST 1048576: true; the input reads as it did. -/
def modelRefusesUptoRow : OpenClaim := { program := "ytfoleblcaloeoaagreatdoor", sum := "95a4b2deaf3c8e369bd198c49607f8648eef7cb20dae4b5783d1f04de4c9b14f", func := "byre/byrelaw20.ModelRefuses", spec := "modelRefuses", inPlace := ["internal/bytealg.IndexByte", "internal/bytealg.Index", "maps.clone"], unfollowed := true, recurses := true, named := ["byre/calls.fields", "unicode/utf8.first", "unicode/utf8.acceptRanges", "internal/bytealg.MaxLen"], apart := false, laid := [("unicode/utf8.acceptRanges", laid_unicode_utf8_acceptRanges), ("byre/calls.fields", laid_byre_calls_fields), ("unicode/utf8.first", laid_unicode_utf8_first)], narrowed := true }
def ModelRefusesUptoSaid : Prop := modelRefusesUptoRow.holds Tryz.pinned (OpenSpec.upto modelRefusesSpec)

/-- 'byrelaw20.ModelNone', WHERE WHAT IT READS IS OF BULK AT MOST 1048576: true; the input reads as it did. -/
def modelNoneUptoRow : OpenClaim := { program := "ytfoleblcaloeoaagreatdoor", sum := "95a4b2deaf3c8e369bd198c49607f8648eef7cb20dae4b5783d1f04de4c9b14f", func := "byre/byrelaw20.ModelNone", spec := "modelNone", inPlace := ["internal/bytealg.IndexByte", "internal/bytealg.Index", "maps.clone"], unfollowed := true, recurses := true, named := ["byre/calls.fields", "unicode/utf8.first", "unicode/utf8.acceptRanges", "internal/bytealg.MaxLen"], apart := false, laid := [("unicode/utf8.acceptRanges", laid_unicode_utf8_acceptRanges), ("byre/calls.fields", laid_byre_calls_fields), ("unicode/utf8.first", laid_unicode_utf8_first)], narrowed := true }
def ModelNoneUptoSaid : Prop := modelNoneUptoRow.holds Tryz.pinned (OpenSpec.upto modelNoneSpec)

end Rows
end Go.Proofs.YtfoleblcaloeoaaGreatDoor
