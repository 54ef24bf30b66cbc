/-
  No cell of these rows narrows 'for every input' (looked for: loops, veiled, ifaces, maps, wideKeys, modest, calm, conditions, laid).
  DERIVED. THE GIVEN ROWS OF THIS SEAT. 8 by the template 'for every input the law returns true; each argument reads behind the call as it read before'; 0 by the template 'total and deterministic' (their statements: YtblkfikcfgocgaaTotals.lean).
  GIVEN WITH THE SEED: the statements are not yours to turn. If you find one false, say at which input.
  Laid BY PROGRAM, IN A SANDBOX (cutbox-rows.mjs): the forced cells as the released guide's own fill.sh prints them over the translation 876bc078716dd28a… (all of the seat's roots in one cut). By AI agents, Wed Nov 11 2026. No macro, syntax, notation, axiom, sorry.
-/
import Derived.Test.YtblkfikcfgocgaaChecked
import GoSem.Claim
import GoSem.ClaimJoined
import GoSem.ClaimMapViews
import Derived.JoinedTies
import Derived.KernelRfl
namespace Go.Proofs.Ytblkfikcfgocgaa
/- THE CELL 'sum', in the pinned program and in every row, IS THE sha256 OF THE DUMP (.gsa) THAT YtblkfikcfgocgaaProg.lean LOADS. Nothing in Lean hashes anything: it is a label: what it is worth is what the hold of that sum in a sandbox is worth. -/
noncomputable def Try.pinned : Pinned := { name := "ytblkfikcfgocgaa", sum := "876bc078716dd28a592ac4f373d389b275a76ae9d384c74f34c78c0ddb716715", checked := Try.checked }
namespace Rows
def none {H : Type} : Left H := { results := [], args := [] }

/-- 'byrelaw03.FramesMoves': WHATEVER THE INPUT: true; the input reads as it did. -/
def framesMovesSpec : ChangeSpec := { name := "framesMoves", fn := fun _ => fun
  | [d1, d2, d3, d4, d5] => { results := [.lit (.bool true)], args := [d1, d2, d3, d4, d5] }
  | _ => none }
def framesMovesRow : OpenClaim := { program := "ytblkfikcfgocgaa", sum := "876bc078716dd28a592ac4f373d389b275a76ae9d384c74f34c78c0ddb716715", func := "byre/byrelaw03.FramesMoves", spec := "framesMoves", apart := false }
def FramesMovesSaid : Prop := framesMovesRow.holds Try.pinned (OpenSpec.ofChange framesMovesSpec)

/-- ITS FALSE NEIGHBOUR: 'it returns false'. Refute it at one input. -/
def framesMovesWrong : ChangeSpec := { name := "framesMoves", fn := fun _ => fun
  | [d1, d2, d3, d4, d5] => { results := [.lit (.bool false)], args := [d1, d2, d3, d4, d5] }
  | _ => none }
def FramesMovesWrongFalsely : Prop := framesMovesRow.holds Try.pinned (OpenSpec.ofChange framesMovesWrong)

/-- 'byrelaw03.FramesRoles': WHATEVER THE INPUT: true; the input reads as it did. -/
def framesRolesSpec : ChangeSpec := { name := "framesRoles", fn := fun _ => fun
  | [d1, d2] => { results := [.lit (.bool true)], args := [d1, d2] }
  | _ => none }
def framesRolesRow : OpenClaim := { program := "ytblkfikcfgocgaa", sum := "876bc078716dd28a592ac4f373d389b275a76ae9d384c74f34c78c0ddb716715", func := "byre/byrelaw03.FramesRoles", spec := "framesRoles", unfollowed := true, recurses := true, apart := false }
def FramesRolesSaid : Prop := framesRolesRow.holds Try.pinned (OpenSpec.ofChange framesRolesSpec)

/-- ITS FALSE NEIGHBOUR: 'it returns false'. Refute it at one input. -/
def framesRolesWrong : ChangeSpec := { name := "framesRoles", fn := fun _ => fun
  | [d1, d2] => { results := [.lit (.bool false)], args := [d1, d2] }
  | _ => none }
def FramesRolesWrongFalsely : Prop := framesRolesRow.holds Try.pinned (OpenSpec.ofChange framesRolesWrong)

/-- 'byrelaw03.FramesWords': WHATEVER THE INPUT: true; the input reads as it did. -/
def framesWordsSpec : ChangeSpec := { name := "framesWords", fn := fun _ => fun
  | [d1, d2, d3, d4] => { results := [.lit (.bool true)], args := [d1, d2, d3, d4] }
  | _ => none }
def framesWordsRow : OpenClaim := { program := "ytblkfikcfgocgaa", sum := "876bc078716dd28a592ac4f373d389b275a76ae9d384c74f34c78c0ddb716715", func := "byre/byrelaw03.FramesWords", spec := "framesWords", apart := false }
def FramesWordsSaid : Prop := framesWordsRow.holds Try.pinned (OpenSpec.ofChange framesWordsSpec)

/-- ITS FALSE NEIGHBOUR: 'it returns false'. Refute it at one input. -/
def framesWordsWrong : ChangeSpec := { name := "framesWords", fn := fun _ => fun
  | [d1, d2, d3, d4] => { results := [.lit (.bool false)], args := [d1, d2, d3, d4] }
  | _ => none }
def FramesWordsWrongFalsely : Prop := framesWordsRow.holds Try.pinned (OpenSpec.ofChange framesWordsWrong)

/-- 'byrelaw03.FramesCopies': WHATEVER THE INPUT: true; the input reads as it did. -/
def framesCopiesSpec : ChangeSpec := { name := "framesCopies", fn := fun _ => fun
  | [d1, d2, d3, d4] => { results := [.lit (.bool true)], args := [d1, d2, d3, d4] }
  | _ => none }
def framesCopiesRow : OpenClaim := { program := "ytblkfikcfgocgaa", sum := "876bc078716dd28a592ac4f373d389b275a76ae9d384c74f34c78c0ddb716715", func := "byre/byrelaw03.FramesCopies", spec := "framesCopies", unfollowed := true, recurses := true, apart := false }
def FramesCopiesSaid : Prop := framesCopiesRow.holds Try.pinned (OpenSpec.ofChange framesCopiesSpec)

/-- ITS FALSE NEIGHBOUR: 'it returns false'. Refute it at one input. -/
def framesCopiesWrong : ChangeSpec := { name := "framesCopies", fn := fun _ => fun
  | [d1, d2, d3, d4] => { results := [.lit (.bool false)], args := [d1, d2, d3, d4] }
  | _ => none }
def FramesCopiesWrongFalsely : Prop := framesCopiesRow.holds Try.pinned (OpenSpec.ofChange framesCopiesWrong)

/-- 'byrelaw14.TableWords': WHATEVER THE INPUT: true; the input reads as it did. -/
def tableWordsSpec : ChangeSpec := { name := "tableWords", fn := fun _ => fun
  | [d1, d2] => { results := [.lit (.bool true)], args := [d1, d2] }
  | _ => none }
def tableWordsRow : OpenClaim := { program := "ytblkfikcfgocgaa", sum := "876bc078716dd28a592ac4f373d389b275a76ae9d384c74f34c78c0ddb716715", func := "byre/byrelaw14.TableWords", spec := "tableWords", apart := false }
def TableWordsSaid : Prop := tableWordsRow.holds Try.pinned (OpenSpec.ofChange tableWordsSpec)

/-- ITS FALSE NEIGHBOUR: 'it returns false'. Refute it at one input. -/
def tableWordsWrong : ChangeSpec := { name := "tableWords", fn := fun _ => fun
  | [d1, d2] => { results := [.lit (.bool false)], args := [d1, d2] }
  | _ => none }
def TableWordsWrongFalsely : Prop := tableWordsRow.holds Try.pinned (OpenSpec.ofChange tableWordsWrong)

/-- 'byrelaw14.TableApart': WHATEVER THE INPUT: true; the input reads as it did. -/
def tableApartSpec : ChangeSpec := { name := "tableApart", fn := fun _ => fun
  | [d1, d2] => { results := [.lit (.bool true)], args := [d1, d2] }
  | _ => none }
def tableApartRow : OpenClaim := { program := "ytblkfikcfgocgaa", sum := "876bc078716dd28a592ac4f373d389b275a76ae9d384c74f34c78c0ddb716715", func := "byre/byrelaw14.TableApart", spec := "tableApart", apart := false }
def TableApartSaid : Prop := tableApartRow.holds Try.pinned (OpenSpec.ofChange tableApartSpec)

/-- ITS FALSE NEIGHBOUR: 'it returns false'. Refute it at one input. -/
def tableApartWrong : ChangeSpec := { name := "tableApart", fn := fun _ => fun
  | [d1, d2] => { results := [.lit (.bool false)], args := [d1, d2] }
  | _ => none }
def TableApartWrongFalsely : Prop := tableApartRow.holds Try.pinned (OpenSpec.ofChange tableApartWrong)

/-- 'byrelaw14.TableLeaves': WHATEVER THE INPUT: true; the input reads as it did. -/
def tableLeavesSpec : ChangeSpec := { name := "tableLeaves", fn := fun _ => fun
  | [d1, d2] => { results := [.lit (.bool true)], args := [d1, d2] }
  | _ => none }
def tableLeavesRow : OpenClaim := { program := "ytblkfikcfgocgaa", sum := "876bc078716dd28a592ac4f373d389b275a76ae9d384c74f34c78c0ddb716715", func := "byre/byrelaw14.TableLeaves", spec := "tableLeaves", unfollowed := true, recurses := true, apart := false }
def TableLeavesSaid : Prop := tableLeavesRow.holds Try.pinned (OpenSpec.ofChange tableLeavesSpec)

/-- ITS FALSE NEIGHBOUR: 'it returns false'. Refute it at one input. -/
def tableLeavesWrong : ChangeSpec := { name := "tableLeaves", fn := fun _ => fun
  | [d1, d2] => { results := [.lit (.bool false)], args := [d1, d2] }
  | _ => none }
def TableLeavesWrongFalsely : Prop := tableLeavesRow.holds Try.pinned (OpenSpec.ofChange tableLeavesWrong)

/-- 'byrelaw03.FramesNone': WHATEVER THE INPUT: true; the input reads as it did. -/
def framesNoneSpec : ChangeSpec := { name := "framesNone", fn := fun _ => fun
  | [d] => { results := [.lit (.bool true)], args := [d] }
  | _ => none }
def framesNoneRow : OpenClaim := { program := "ytblkfikcfgocgaa", sum := "876bc078716dd28a592ac4f373d389b275a76ae9d384c74f34c78c0ddb716715", func := "byre/byrelaw03.FramesNone", spec := "framesNone", unfollowed := true, recurses := true, apart := false }
def FramesNoneSaid : Prop := framesNoneRow.holds Try.pinned (OpenSpec.ofChange framesNoneSpec)

/-- ITS FALSE NEIGHBOUR: 'it returns false'. Refute it at one input. -/
def framesNoneWrong : ChangeSpec := { name := "framesNone", fn := fun _ => fun
  | [d] => { results := [.lit (.bool false)], args := [d] }
  | _ => none }
def FramesNoneWrongFalsely : Prop := framesNoneRow.holds Try.pinned (OpenSpec.ofChange framesNoneWrong)

/- THE SECOND FORM. 'bulk': how many values and letters a reading holds, each counted each time it is reached (what is shared counts as often as it is met; a slice's spare places count too). A statement '..UptoSaid' is the law's where the arguments, and the package variables that the reading takes, are together of bulk at most 1048576: NARROWER than '..Said'. Prove '..Said' where nothing that the law and all that it calls make is longer than what came in: it says more and counts as full. Else prove '..UptoSaid'. A law counts once. -/
mutual
def uptoBulk {H : Type} : DataW H → Nat
  | .lit (.string bytes) => bytes.length + 1
  | .lit _ => 1
  | .nil => 1
  | .ptr d => uptoBulk d + 1
  | .slice elems spare => uptoBulkAll elems + uptoBulkAll spare + 1
  | .agg parts => uptoBulkAll parts + 1
  | .iface _ d => uptoBulk d + 1
  | .map entries => uptoBulkEntries entries + 1
  | .held _ => 1
def uptoBulkAll {H : Type} : List (DataW H) → Nat
  | [] => 0
  | d :: r => uptoBulk d + uptoBulkAll r
def uptoBulkEntries {H : Type} : List (Lit × DataW H) → Nat
  | [] => 0
  | x :: r => uptoBulkEntry x + uptoBulkEntries r
def uptoBulkEntry {H : Type} : Lit × DataW H → Nat
  | (.string bytes, d) => bytes.length + uptoBulk d + 1
  | (_, d) => uptoBulk d + 1
 end
def uptoSmall : (H : Type) → List (DataW H) → Bool := fun _ ds => decide (uptoBulkAll ds ≤ 1048576)
def OpenSpec.upto (s : _root_.Go.ChangeSpec) : _root_.Go.OpenSpec := { _root_.Go.OpenSpec.ofChange s with cond := some uptoSmall }

/-- 'byrelaw03.FramesMoves', WHERE WHAT IT READS IS OF BULK AT MOST 1048576: true; the input reads as it did. -/
def framesMovesUptoRow : OpenClaim := { program := "ytblkfikcfgocgaa", sum := "876bc078716dd28a592ac4f373d389b275a76ae9d384c74f34c78c0ddb716715", func := "byre/byrelaw03.FramesMoves", spec := "framesMoves", apart := false, narrowed := true }
def FramesMovesUptoSaid : Prop := framesMovesUptoRow.holds Try.pinned (OpenSpec.upto framesMovesSpec)

/-- 'byrelaw03.FramesRoles', WHERE WHAT IT READS IS OF BULK AT MOST 1048576: true; the input reads as it did. -/
def framesRolesUptoRow : OpenClaim := { program := "ytblkfikcfgocgaa", sum := "876bc078716dd28a592ac4f373d389b275a76ae9d384c74f34c78c0ddb716715", func := "byre/byrelaw03.FramesRoles", spec := "framesRoles", unfollowed := true, recurses := true, apart := false, narrowed := true }
def FramesRolesUptoSaid : Prop := framesRolesUptoRow.holds Try.pinned (OpenSpec.upto framesRolesSpec)

/-- 'byrelaw03.FramesWords', WHERE WHAT IT READS IS OF BULK AT MOST 1048576: true; the input reads as it did. -/
def framesWordsUptoRow : OpenClaim := { program := "ytblkfikcfgocgaa", sum := "876bc078716dd28a592ac4f373d389b275a76ae9d384c74f34c78c0ddb716715", func := "byre/byrelaw03.FramesWords", spec := "framesWords", apart := false, narrowed := true }
def FramesWordsUptoSaid : Prop := framesWordsUptoRow.holds Try.pinned (OpenSpec.upto framesWordsSpec)

/-- 'byrelaw03.FramesCopies', WHERE WHAT IT READS IS OF BULK AT MOST 1048576: true; the input reads as it did. -/
def framesCopiesUptoRow : OpenClaim := { program := "ytblkfikcfgocgaa", sum := "876bc078716dd28a592ac4f373d389b275a76ae9d384c74f34c78c0ddb716715", func := "byre/byrelaw03.FramesCopies", spec := "framesCopies", unfollowed := true, recurses := true, apart := false, narrowed := true }
def FramesCopiesUptoSaid : Prop := framesCopiesUptoRow.holds Try.pinned (OpenSpec.upto framesCopiesSpec)

/-- 'byrelaw14.TableWords', WHERE WHAT IT READS IS OF BULK AT MOST 1048576: true; the input reads as it did. -/
def tableWordsUptoRow : OpenClaim := { program := "ytblkfikcfgocgaa", sum := "876bc078716dd28a592ac4f373d389b275a76ae9d384c74f34c78c0ddb716715", func := "byre/byrelaw14.TableWords", spec := "tableWords", apart := false, narrowed := true }
def TableWordsUptoSaid : Prop := tableWordsUptoRow.holds Try.pinned (OpenSpec.upto tableWordsSpec)

/-- 'byrelaw14.TableApart', WHERE WHAT IT READS IS OF BULK AT MOST 1048576: true; the input reads as it did. -/
def tableApartUptoRow : OpenClaim := { program := "ytblkfikcfgocgaa", sum := "876bc078716dd28a592ac4f373d389b275a76ae9d384c74f34c78c0ddb716715", func := "byre/byrelaw14.TableApart", spec := "tableApart", apart := false, narrowed := true }
def TableApartUptoSaid : Prop := tableApartUptoRow.holds Try.pinned (OpenSpec.upto tableApartSpec)

/-- 'byrelaw14.TableLeaves', WHERE WHAT IT READS IS OF BULK AT MOST 1048576: true; the input reads as it did. -/
def tableLeavesUptoRow : OpenClaim := { program := "ytblkfikcfgocgaa", sum := "876bc078716dd28a592ac4f373d389b275a76ae9d384c74f34c78c0ddb716715", func := "byre/byrelaw14.TableLeaves", spec := "tableLeaves", unfollowed := true, recurses := true, apart := false, narrowed := true }
def TableLeavesUptoSaid : Prop := tableLeavesUptoRow.holds Try.pinned (OpenSpec.upto tableLeavesSpec)

/-- 'byrelaw03.FramesNone', WHERE WHAT IT READS IS OF BULK AT MOST 1048576: true; the input reads as it did. -/
def framesNoneUptoRow : OpenClaim := { program := "ytblkfikcfgocgaa", sum := "876bc078716dd28a592ac4f373d389b275a76ae9d384c74f34c78c0ddb716715", func := "byre/byrelaw03.FramesNone", spec := "framesNone", unfollowed := true, recurses := true, apart := false, narrowed := true }
def FramesNoneUptoSaid : Prop := framesNoneUptoRow.holds Try.pinned (OpenSpec.upto framesNoneSpec)

end Rows
end Go.Proofs.Ytblkfikcfgocgaa
