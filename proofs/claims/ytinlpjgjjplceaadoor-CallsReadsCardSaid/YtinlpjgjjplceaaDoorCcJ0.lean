/- A policy stored into a call. -/
import Derived.Test.YtinlpjgjjplceaaDoorCbB
namespace Go.Proofs.YtinlpjgjjplceaaDoor
open Go Go.RowKit

theorem info30 : (Tryd.prog.info? 30).map (·.size) = some 2 := by kernel_rfl
theorem run_store30 {w : World} {b : Nat} {x : Cl} {v : Value} (h0 : KB w b x v) (p m : Int) : (storeVar 30 ⟨b, 8, none⟩ (.agg #[.int .u8 p, .int .u8 m])).run Tryd.prog w = .ok () ((w.setCell ⟨b, 8, none⟩ (.int .u8 p)).setCell ⟨b, 9, none⟩ (.int .u8 m)) := by
  obtain ⟨c0, c1, c2, c3, c4, c5, c6, c7, c8, c9, c10, c11, cl, cf⟩ := KB.cells h0
  have hso : (sizeOf 30).run Tryd.prog w = .ok 2 w := by
    simp [sizeOf]
    kernel_rfl
  simp [storeVar, storeCells, Value.cells, hso, go_sem, c8, c9, cf, cl]
theorem wp_store30 {o : Oper} {a : Act} {w : World} {K : Act → World → Prop} {Q : Exit → Act → World → Prop} {b : Nat} {x : Cl} {v : Value} {p m : Int} (z t : Operand) (ho : o.op = .store 30 z t) (hx : a.eval z = .pointer (some ⟨b, 8, none⟩)) (hy : a.eval t = .agg #[.int .u8 p, .int .u8 m]) (h0 : KB w b x v)
    (h : K (a.put o.dst undef) ((w.setCell ⟨b, 8, none⟩ (.int .u8 p)).setCell ⟨b, 9, none⟩ (.int .u8 m))) : o.wp Tryd.prog a w K Q := by
  unfold Oper.wp execOp
  simp only [ho, hx, hy, Instr.storeAt, Instr.sureAddr, Sem.run_bind, Sem.run_pure, Result.andThen_ok, run_store30 h0 p m]
  exact h
end Go.Proofs.YtinlpjgjjplceaaDoor
