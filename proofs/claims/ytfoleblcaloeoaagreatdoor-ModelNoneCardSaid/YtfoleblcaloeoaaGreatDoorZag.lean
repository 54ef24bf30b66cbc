/- Texts merged for the claim: CfH. -/
import Derived.Test.YtfoleblcaloeoaaGreatDoorZab
import Derived.Test.YtfoleblcaloeoaaGreatDoorZaf
/- The law's least machine; loads and stores of configs; the document's May. -/
namespace Go.Proofs.YtfoleblcaloeoaaGreatDoor
open Go Go.RowKit

structure BT (l : List (Nat × Value)) (d : Cf) : Prop where
  h : Tryz.prog.built 26 l = some (cg d)
theorem wpList_build26 {ops : Array Oper} {rest : List Oper} {o : Oper} {a : Act} {w : World} {Q : Exit → Act → World → Prop} {d : Cf} (hg : o.guard = none) (parts : Array (Nat × Operand)) (ho : o.op = .build 26 parts)
    {l : List (Nat × Value)} (hb : BT l d) (hl : (parts.map fun (i, x) => (i, a.eval x)).toList = l) (h : wpList Tryz.prog ops Q rest (a.put o.dst (.agg (cg d))) w) : wpList Tryz.prog ops Q (o :: rest) a w :=
  wpList_build hg 26 parts ho (by rw [hl, hb.h]; rfl) (by rw [hl, hb.h]; exact h)
theorem wpList_load26L {ops : Array Oper} {rest : List Oper} {o : Oper} {a : Act} {w : World} {Q : Exit → Act → World → Prop} {b : Nat} {c : Cf} (hg : o.guard = none) (x : Operand) (ho : o.op = .load 26 x)
    (hx : a.eval x = .pointer (some ⟨b, 0, none⟩)) (h0 : CB w b c) (h : wpList Tryz.prog ops Q rest (a.put o.dst (.agg (cg c))) w) : wpList Tryz.prog ops Q (o :: rest) a w := wpList_load26 h0 hg x ho hx h
theorem wpList_store26L {ops : Array Oper} {rest : List Oper} {o : Oper} {a : Act} {w : World} {Q : Exit → Act → World → Prop} {b : Nat} {c d : Cf} (hg : o.guard = none) (x y : Operand) (ho : o.op = .store 26 x y)
    (hx : a.eval x = .pointer (some ⟨b, 0, none⟩)) (hy : a.eval y = .agg (cg d)) (h0 : CB w b c) (h : ∀ w', CB w' b d → Chg [b] w w' → wpList Tryz.prog ops Q rest (a.put o.dst undef) w') : wpList Tryz.prog ops Q (o :: rest) a w := wpList_store26 h0 hg x y ho hx hy h
end Go.Proofs.YtfoleblcaloeoaaGreatDoor
