/-
  No cell of these rows narrows 'for every input' (looked for: loops, veiled, ifaces, maps, wideKeys, modest, calm, conditions, laid).
  DERIVED. THE GIVEN ROWS OF THIS SEAT. 10 by the template 'for every input the law returns true; each argument reads behind the call as it read before'; 0 by the template 'total and deterministic' (their statements: YtbmdcfeiecmlpaaTotals.lean).
  GIVEN WITH THE SEED: the statements are not yours to turn. If you find one false, say at which input.
  Laid BY PROGRAM, IN A SANDBOX (cutbox-rows.mjs): the forced cells as the released guide's own fill.sh prints them over the translation d71eb18e0a238868… (all of the seat's roots in one cut). By AI agents, Wed Nov 11 2026. No macro, syntax, notation, axiom, sorry.
-/
import Derived.Test.YtbmdcfeiecmlpaaChecked
import GoSem.Claim
import GoSem.ClaimJoined
import GoSem.ClaimMapViews
import Derived.JoinedTies
import Derived.KernelRfl
namespace Go.Proofs.Ytbmdcfeiecmlpaa
/- THE CELL 'sum', in the pinned program and in every row, IS THE sha256 OF THE DUMP (.gsa) THAT YtbmdcfeiecmlpaaProg.lean LOADS. Nothing in Lean hashes anything: it is a label: what it is worth is what the hold of that sum in a sandbox is worth. -/
noncomputable def Try.pinned : Pinned := { name := "ytbmdcfeiecmlpaa", sum := "d71eb18e0a23886803ddd48b194d4192b6c49ec04ce6d3790f5f2f3031d86760", checked := Try.checked }
namespace Rows
def none {H : Type} : Left H := { results := [], args := [] }

/-- 'byrelaw11.DepotTurns': WHATEVER THE INPUT: true; the input reads as it did. -/
def depotTurnsSpec : ChangeSpec := { name := "depotTurns", fn := fun _ => fun
  | [d1, d2, d3, d4] => { results := [.lit (.bool true)], args := [d1, d2, d3, d4] }
  | _ => none }
def depotTurnsRow : OpenClaim := { program := "ytbmdcfeiecmlpaa", sum := "d71eb18e0a23886803ddd48b194d4192b6c49ec04ce6d3790f5f2f3031d86760", func := "byre/byrelaw11.DepotTurns", spec := "depotTurns", apart := false }
def DepotTurnsSaid : Prop := depotTurnsRow.holds Try.pinned (OpenSpec.ofChange depotTurnsSpec)

/-- ITS FALSE NEIGHBOUR: 'it returns false'. Refute it at one input. -/
def depotTurnsWrong : ChangeSpec := { name := "depotTurns", fn := fun _ => fun
  | [d1, d2, d3, d4] => { results := [.lit (.bool false)], args := [d1, d2, d3, d4] }
  | _ => none }
def DepotTurnsWrongFalsely : Prop := depotTurnsRow.holds Try.pinned (OpenSpec.ofChange depotTurnsWrong)

/-- 'byrelaw10.MagazineTurns': WHATEVER THE INPUT: true; the input reads as it did. -/
def magazineTurnsSpec : ChangeSpec := { name := "magazineTurns", fn := fun _ => fun
  | [d1, d2, d3] => { results := [.lit (.bool true)], args := [d1, d2, d3] }
  | _ => none }
def magazineTurnsRow : OpenClaim := { program := "ytbmdcfeiecmlpaa", sum := "d71eb18e0a23886803ddd48b194d4192b6c49ec04ce6d3790f5f2f3031d86760", func := "byre/byrelaw10.MagazineTurns", spec := "magazineTurns", unfollowed := true, recurses := true, apart := false }
def MagazineTurnsSaid : Prop := magazineTurnsRow.holds Try.pinned (OpenSpec.ofChange magazineTurnsSpec)

/-- ITS FALSE NEIGHBOUR: 'it returns false'. Refute it at one input. -/
def magazineTurnsWrong : ChangeSpec := { name := "magazineTurns", fn := fun _ => fun
  | [d1, d2, d3] => { results := [.lit (.bool false)], args := [d1, d2, d3] }
  | _ => none }
def MagazineTurnsWrongFalsely : Prop := magazineTurnsRow.holds Try.pinned (OpenSpec.ofChange magazineTurnsWrong)

/-- 'byrelaw10.MagazineLast': WHATEVER THE INPUT: true; the input reads as it did. -/
def magazineLastSpec : ChangeSpec := { name := "magazineLast", fn := fun _ => fun
  | [d1, d2] => { results := [.lit (.bool true)], args := [d1, d2] }
  | _ => none }
def magazineLastRow : OpenClaim := { program := "ytbmdcfeiecmlpaa", sum := "d71eb18e0a23886803ddd48b194d4192b6c49ec04ce6d3790f5f2f3031d86760", func := "byre/byrelaw10.MagazineLast", spec := "magazineLast", unfollowed := true, recurses := true, apart := false }
def MagazineLastSaid : Prop := magazineLastRow.holds Try.pinned (OpenSpec.ofChange magazineLastSpec)

/-- ITS FALSE NEIGHBOUR: 'it returns false'. Refute it at one input. -/
def magazineLastWrong : ChangeSpec := { name := "magazineLast", fn := fun _ => fun
  | [d1, d2] => { results := [.lit (.bool false)], args := [d1, d2] }
  | _ => none }
def MagazineLastWrongFalsely : Prop := magazineLastRow.holds Try.pinned (OpenSpec.ofChange magazineLastWrong)

/-- 'byrelaw10.MagazinePlays': WHATEVER THE INPUT: true; the input reads as it did. -/
def magazinePlaysSpec : ChangeSpec := { name := "magazinePlays", fn := fun _ => fun
  | [d1, d2] => { results := [.lit (.bool true)], args := [d1, d2] }
  | _ => none }
def magazinePlaysRow : OpenClaim := { program := "ytbmdcfeiecmlpaa", sum := "d71eb18e0a23886803ddd48b194d4192b6c49ec04ce6d3790f5f2f3031d86760", func := "byre/byrelaw10.MagazinePlays", spec := "magazinePlays", unfollowed := true, recurses := true, apart := false }
def MagazinePlaysSaid : Prop := magazinePlaysRow.holds Try.pinned (OpenSpec.ofChange magazinePlaysSpec)

/-- ITS FALSE NEIGHBOUR: 'it returns false'. Refute it at one input. -/
def magazinePlaysWrong : ChangeSpec := { name := "magazinePlays", fn := fun _ => fun
  | [d1, d2] => { results := [.lit (.bool false)], args := [d1, d2] }
  | _ => none }
def MagazinePlaysWrongFalsely : Prop := magazinePlaysRow.holds Try.pinned (OpenSpec.ofChange magazinePlaysWrong)

/-- 'byrelaw10.MagazineKeeps': WHATEVER THE INPUT: true; the input reads as it did. -/
def magazineKeepsSpec : ChangeSpec := { name := "magazineKeeps", fn := fun _ => fun
  | [d1, d2] => { results := [.lit (.bool true)], args := [d1, d2] }
  | _ => none }
def magazineKeepsRow : OpenClaim := { program := "ytbmdcfeiecmlpaa", sum := "d71eb18e0a23886803ddd48b194d4192b6c49ec04ce6d3790f5f2f3031d86760", func := "byre/byrelaw10.MagazineKeeps", spec := "magazineKeeps", unfollowed := true, recurses := true, apart := false }
def MagazineKeepsSaid : Prop := magazineKeepsRow.holds Try.pinned (OpenSpec.ofChange magazineKeepsSpec)

/-- ITS FALSE NEIGHBOUR: 'it returns false'. Refute it at one input. -/
def magazineKeepsWrong : ChangeSpec := { name := "magazineKeeps", fn := fun _ => fun
  | [d1, d2] => { results := [.lit (.bool false)], args := [d1, d2] }
  | _ => none }
def MagazineKeepsWrongFalsely : Prop := magazineKeepsRow.holds Try.pinned (OpenSpec.ofChange magazineKeepsWrong)

/-- 'byrelaw10.MagazineNone': WHATEVER THE INPUT: true; the input reads as it did. -/
def magazineNoneSpec : ChangeSpec := { name := "magazineNone", fn := fun _ => fun
  | [d] => { results := [.lit (.bool true)], args := [d] }
  | _ => none }
def magazineNoneRow : OpenClaim := { program := "ytbmdcfeiecmlpaa", sum := "d71eb18e0a23886803ddd48b194d4192b6c49ec04ce6d3790f5f2f3031d86760", func := "byre/byrelaw10.MagazineNone", spec := "magazineNone", unfollowed := true, recurses := true, apart := false }
def MagazineNoneSaid : Prop := magazineNoneRow.holds Try.pinned (OpenSpec.ofChange magazineNoneSpec)

/-- ITS FALSE NEIGHBOUR: 'it returns false'. Refute it at one input. -/
def magazineNoneWrong : ChangeSpec := { name := "magazineNone", fn := fun _ => fun
  | [d] => { results := [.lit (.bool false)], args := [d] }
  | _ => none }
def MagazineNoneWrongFalsely : Prop := magazineNoneRow.holds Try.pinned (OpenSpec.ofChange magazineNoneWrong)

/-- 'byrelaw11.DepotFull': WHATEVER THE INPUT: true; the input reads as it did. -/
def depotFullSpec : ChangeSpec := { name := "depotFull", fn := fun _ => fun
  | [d] => { results := [.lit (.bool true)], args := [d] }
  | _ => none }
def depotFullRow : OpenClaim := { program := "ytbmdcfeiecmlpaa", sum := "d71eb18e0a23886803ddd48b194d4192b6c49ec04ce6d3790f5f2f3031d86760", func := "byre/byrelaw11.DepotFull", spec := "depotFull", apart := false }
def DepotFullSaid : Prop := depotFullRow.holds Try.pinned (OpenSpec.ofChange depotFullSpec)

/-- ITS FALSE NEIGHBOUR: 'it returns false'. Refute it at one input. -/
def depotFullWrong : ChangeSpec := { name := "depotFull", fn := fun _ => fun
  | [d] => { results := [.lit (.bool false)], args := [d] }
  | _ => none }
def DepotFullWrongFalsely : Prop := depotFullRow.holds Try.pinned (OpenSpec.ofChange depotFullWrong)

/-- 'byrelaw11.DepotPlays': WHATEVER THE INPUT: true; the input reads as it did. -/
def depotPlaysSpec : ChangeSpec := { name := "depotPlays", fn := fun _ => fun
  | [d1, d2] => { results := [.lit (.bool true)], args := [d1, d2] }
  | _ => none }
def depotPlaysRow : OpenClaim := { program := "ytbmdcfeiecmlpaa", sum := "d71eb18e0a23886803ddd48b194d4192b6c49ec04ce6d3790f5f2f3031d86760", func := "byre/byrelaw11.DepotPlays", spec := "depotPlays", apart := false }
def DepotPlaysSaid : Prop := depotPlaysRow.holds Try.pinned (OpenSpec.ofChange depotPlaysSpec)

/-- ITS FALSE NEIGHBOUR: 'it returns false'. Refute it at one input. -/
def depotPlaysWrong : ChangeSpec := { name := "depotPlays", fn := fun _ => fun
  | [d1, d2] => { results := [.lit (.bool false)], args := [d1, d2] }
  | _ => none }
def DepotPlaysWrongFalsely : Prop := depotPlaysRow.holds Try.pinned (OpenSpec.ofChange depotPlaysWrong)

/-- 'byrelaw11.DepotKeeps': WHATEVER THE INPUT: true; the input reads as it did. -/
def depotKeepsSpec : ChangeSpec := { name := "depotKeeps", fn := fun _ => fun
  | [d1, d2] => { results := [.lit (.bool true)], args := [d1, d2] }
  | _ => none }
def depotKeepsRow : OpenClaim := { program := "ytbmdcfeiecmlpaa", sum := "d71eb18e0a23886803ddd48b194d4192b6c49ec04ce6d3790f5f2f3031d86760", func := "byre/byrelaw11.DepotKeeps", spec := "depotKeeps", unfollowed := true, recurses := true, apart := false }
def DepotKeepsSaid : Prop := depotKeepsRow.holds Try.pinned (OpenSpec.ofChange depotKeepsSpec)

/-- ITS FALSE NEIGHBOUR: 'it returns false'. Refute it at one input. -/
def depotKeepsWrong : ChangeSpec := { name := "depotKeeps", fn := fun _ => fun
  | [d1, d2] => { results := [.lit (.bool false)], args := [d1, d2] }
  | _ => none }
def DepotKeepsWrongFalsely : Prop := depotKeepsRow.holds Try.pinned (OpenSpec.ofChange depotKeepsWrong)

/-- 'byrelaw11.DepotNone': WHATEVER THE INPUT: true; the input reads as it did. -/
def depotNoneSpec : ChangeSpec := { name := "depotNone", fn := fun _ => fun
  | [d1, d2] => { results := [.lit (.bool true)], args := [d1, d2] }
  | _ => none }
def depotNoneRow : OpenClaim := { program := "ytbmdcfeiecmlpaa", sum := "d71eb18e0a23886803ddd48b194d4192b6c49ec04ce6d3790f5f2f3031d86760", func := "byre/byrelaw11.DepotNone", spec := "depotNone", apart := false }
def DepotNoneSaid : Prop := depotNoneRow.holds Try.pinned (OpenSpec.ofChange depotNoneSpec)

/-- ITS FALSE NEIGHBOUR: 'it returns false'. Refute it at one input. -/
def depotNoneWrong : ChangeSpec := { name := "depotNone", fn := fun _ => fun
  | [d1, d2] => { results := [.lit (.bool false)], args := [d1, d2] }
  | _ => none }
def DepotNoneWrongFalsely : Prop := depotNoneRow.holds Try.pinned (OpenSpec.ofChange depotNoneWrong)

/- THE SECOND FORM. 'bulk': how many values and letters a reading holds, each counted each time it is reached (what is shared counts as often as it is met; a slice's spare places count too). A statement '..UptoSaid' is the law's where the arguments, and the package variables that the reading takes, are together of bulk at most 1048576: NARROWER than '..Said'. Prove '..Said' where nothing that the law and all that it calls make is longer than what came in: it says more and counts as full. Else prove '..UptoSaid'. A law counts once. -/
mutual
def uptoBulk {H : Type} : DataW H → Nat
  | .lit (.string bytes) => bytes.length + 1
  | .lit _ => 1
  | .nil => 1
  | .ptr d => uptoBulk d + 1
  | .slice elems spare => uptoBulkAll elems + uptoBulkAll spare + 1
  | .agg parts => uptoBulkAll parts + 1
  | .iface _ d => uptoBulk d + 1
  | .map entries => uptoBulkEntries entries + 1
  | .held _ => 1
def uptoBulkAll {H : Type} : List (DataW H) → Nat
  | [] => 0
  | d :: r => uptoBulk d + uptoBulkAll r
def uptoBulkEntries {H : Type} : List (Lit × DataW H) → Nat
  | [] => 0
  | x :: r => uptoBulkEntry x + uptoBulkEntries r
def uptoBulkEntry {H : Type} : Lit × DataW H → Nat
  | (.string bytes, d) => bytes.length + uptoBulk d + 1
  | (_, d) => uptoBulk d + 1
 end
def uptoSmall : (H : Type) → List (DataW H) → Bool := fun _ ds => decide (uptoBulkAll ds ≤ 1048576)
def OpenSpec.upto (s : _root_.Go.ChangeSpec) : _root_.Go.OpenSpec := { _root_.Go.OpenSpec.ofChange s with cond := some uptoSmall }

/-- 'byrelaw11.DepotTurns', WHERE WHAT IT READS IS OF BULK AT MOST 1048576: true; the input reads as it did. -/
def depotTurnsUptoRow : OpenClaim := { program := "ytbmdcfeiecmlpaa", sum := "d71eb18e0a23886803ddd48b194d4192b6c49ec04ce6d3790f5f2f3031d86760", func := "byre/byrelaw11.DepotTurns", spec := "depotTurns", apart := false, narrowed := true }
def DepotTurnsUptoSaid : Prop := depotTurnsUptoRow.holds Try.pinned (OpenSpec.upto depotTurnsSpec)

/-- 'byrelaw10.MagazineTurns', WHERE WHAT IT READS IS OF BULK AT MOST 1048576: true; the input reads as it did. -/
def magazineTurnsUptoRow : OpenClaim := { program := "ytbmdcfeiecmlpaa", sum := "d71eb18e0a23886803ddd48b194d4192b6c49ec04ce6d3790f5f2f3031d86760", func := "byre/byrelaw10.MagazineTurns", spec := "magazineTurns", unfollowed := true, recurses := true, apart := false, narrowed := true }
def MagazineTurnsUptoSaid : Prop := magazineTurnsUptoRow.holds Try.pinned (OpenSpec.upto magazineTurnsSpec)

/-- 'byrelaw10.MagazineLast', WHERE WHAT IT READS IS OF BULK AT MOST 1048576: true; the input reads as it did. -/
def magazineLastUptoRow : OpenClaim := { program := "ytbmdcfeiecmlpaa", sum := "d71eb18e0a23886803ddd48b194d4192b6c49ec04ce6d3790f5f2f3031d86760", func := "byre/byrelaw10.MagazineLast", spec := "magazineLast", unfollowed := true, recurses := true, apart := false, narrowed := true }
def MagazineLastUptoSaid : Prop := magazineLastUptoRow.holds Try.pinned (OpenSpec.upto magazineLastSpec)

/-- 'byrelaw10.MagazinePlays', WHERE WHAT IT READS IS OF BULK AT MOST 1048576: true; the input reads as it did. -/
def magazinePlaysUptoRow : OpenClaim := { program := "ytbmdcfeiecmlpaa", sum := "d71eb18e0a23886803ddd48b194d4192b6c49ec04ce6d3790f5f2f3031d86760", func := "byre/byrelaw10.MagazinePlays", spec := "magazinePlays", unfollowed := true, recurses := true, apart := false, narrowed := true }
def MagazinePlaysUptoSaid : Prop := magazinePlaysUptoRow.holds Try.pinned (OpenSpec.upto magazinePlaysSpec)

/-- 'byrelaw10.MagazineKeeps', WHERE WHAT IT READS IS OF BULK AT MOST 1048576: true; the input reads as it did. -/
def magazineKeepsUptoRow : OpenClaim := { program := "ytbmdcfeiecmlpaa", sum := "d71eb18e0a23886803ddd48b194d4192b6c49ec04ce6d3790f5f2f3031d86760", func := "byre/byrelaw10.MagazineKeeps", spec := "magazineKeeps", unfollowed := true, recurses := true, apart := false, narrowed := true }
def MagazineKeepsUptoSaid : Prop := magazineKeepsUptoRow.holds Try.pinned (OpenSpec.upto magazineKeepsSpec)

/-- 'byrelaw10.MagazineNone', WHERE WHAT IT READS IS OF BULK AT MOST 1048576: true; the input reads as it did. -/
def magazineNoneUptoRow : OpenClaim := { program := "ytbmdcfeiecmlpaa", sum := "d71eb18e0a23886803ddd48b194d4192b6c49ec04ce6d3790f5f2f3031d86760", func := "byre/byrelaw10.MagazineNone", spec := "magazineNone", unfollowed := true, recurses := true, apart := false, narrowed := true }
def MagazineNoneUptoSaid : Prop := magazineNoneUptoRow.holds Try.pinned (OpenSpec.upto magazineNoneSpec)

/-- 'byrelaw11.DepotFull', WHERE WHAT IT READS IS OF BULK AT MOST 1048576: true; the input reads as it did. -/
def depotFullUptoRow : OpenClaim := { program := "ytbmdcfeiecmlpaa", sum := "d71eb18e0a23886803ddd48b194d4192b6c49ec04ce6d3790f5f2f3031d86760", func := "byre/byrelaw11.DepotFull", spec := "depotFull", apart := false, narrowed := true }
def DepotFullUptoSaid : Prop := depotFullUptoRow.holds Try.pinned (OpenSpec.upto depotFullSpec)

/-- 'byrelaw11.DepotPlays', WHERE WHAT IT READS IS OF BULK AT MOST 1048576: true; the input reads as it did. -/
def depotPlaysUptoRow : OpenClaim := { program := "ytbmdcfeiecmlpaa", sum := "d71eb18e0a23886803ddd48b194d4192b6c49ec04ce6d3790f5f2f3031d86760", func := "byre/byrelaw11.DepotPlays", spec := "depotPlays", apart := false, narrowed := true }
def DepotPlaysUptoSaid : Prop := depotPlaysUptoRow.holds Try.pinned (OpenSpec.upto depotPlaysSpec)

/-- 'byrelaw11.DepotKeeps', WHERE WHAT IT READS IS OF BULK AT MOST 1048576: true; the input reads as it did. -/
def depotKeepsUptoRow : OpenClaim := { program := "ytbmdcfeiecmlpaa", sum := "d71eb18e0a23886803ddd48b194d4192b6c49ec04ce6d3790f5f2f3031d86760", func := "byre/byrelaw11.DepotKeeps", spec := "depotKeeps", unfollowed := true, recurses := true, apart := false, narrowed := true }
def DepotKeepsUptoSaid : Prop := depotKeepsUptoRow.holds Try.pinned (OpenSpec.upto depotKeepsSpec)

/-- 'byrelaw11.DepotNone', WHERE WHAT IT READS IS OF BULK AT MOST 1048576: true; the input reads as it did. -/
def depotNoneUptoRow : OpenClaim := { program := "ytbmdcfeiecmlpaa", sum := "d71eb18e0a23886803ddd48b194d4192b6c49ec04ce6d3790f5f2f3031d86760", func := "byre/byrelaw11.DepotNone", spec := "depotNone", apart := false, narrowed := true }
def DepotNoneUptoSaid : Prop := depotNoneUptoRow.holds Try.pinned (OpenSpec.upto depotNoneSpec)

end Rows
end Go.Proofs.Ytbmdcfeiecmlpaa
