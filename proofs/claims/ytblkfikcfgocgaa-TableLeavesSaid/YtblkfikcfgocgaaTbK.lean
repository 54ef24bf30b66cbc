/- What is wanted of a table: an array of entries. -/
import Derived.Test.YtblkfikcfgocgaaTbJ
namespace Go.Proofs.Ytblkfikcfgocgaa
open Go Go.RowKit

def ecl (x : Nat × Int) : List Value := [.int .u8 x.1, .int .i64 x.2]
theorem ecl_len (x : Nat × Int) : (ecl x).length = 2 := rfl
theorem ecl_one (l : List (Nat × Int)) : ∀ u ∈ fc ecl l, u.oneCell' = true := by
  intro u hu
  unfold fc at hu
  obtain ⟨x, _, hx⟩ := List.mem_flatMap.1 hu
  simp [ecl] at hx
  rcases hx with rfl | rfl <;> rfl
/-- the array of entries -/
def WB (w : World) (b : Nat) (L : List (Nat × Int)) : Prop := Blk w b 68 (fc ecl L).toArray
def tof (L : List (Nat × Int)) : Nat → Nat × Int := fun p => L.getD p (0, 0)
theorem tof_set (L : List (Nat × Int)) {p : Nat} (hp : p < L.length) (k : Nat) (m : Int) : tof (L.set p (k, m)) = putT (tof L) p k m := by
  funext q
  unfold tof putT
  by_cases h : q = p
  · subst h; rw [if_pos rfl]; simp [List.getD, hp]
  · rw [if_neg h]; simp [List.getD, List.getElem?_set_ne (Ne.symm h)]
section
variable {w w' : World} {b : Nat} {L : List (Nat × Int)}
theorem WB.stay (h : WB w b L) (hc : Chg [] w w') : WB w' b L := Blk.chg h hc List.not_mem_nil
theorem WB.cells (h : WB w b L) {p : Nat} (hp : p < L.length) : w.cell? ⟨b, p * 2, none⟩ = some (.int .u8 (tof L p).1) ∧ w.cell? ⟨b, p * 2 + 1, none⟩ = some (.int .i64 (tof L p).2) ∧ b < w.heap.size := by
  have e : tof L p = L[p] := by unfold tof; simp [List.getD, hp]
  have h0 := fc_get ecl_len L p 0 hp (by omega)
  have h1 := fc_get ecl_len L p 1 hp (by omega)
  rw [e]
  refine ⟨?_, ?_, Blk.lt h⟩
  · rw [Blk.cell h, List.getElem?_toArray]
    exact h0
  · rw [Blk.cell h, List.getElem?_toArray]
    exact h1
theorem info59s : (Try.prog.info? 59).map (·.size) = some 2 := by kernel_rfl
theorem WB.set (h : WB w b L) {p : Nat} (hp : p < L.length) (k : Nat) (m : Int) :
    ∃ w', (storeVar 59 ⟨b, p * 2, none⟩ (.agg #[.int .u8 k, .int .i64 m])).run Try.prog w = .ok () w' ∧ WB w' b (L.set p (k, m)) ∧ Chg [b] w w' := by
  have hl := fc_length ecl_len L
  have hst := run_storeCells_at (P := Try.prog) b (p * 2) 68 (fc ecl [(k, m)]) 0 (fc ecl L).toArray w h (by rw [fc_length ecl_len, List.size_toArray, hl]; simp; omega) (ecl_one _)
  rw [Nat.add_zero] at hst
  have e : (List.take (p * 2) (fc ecl L).toArray.toList ++ fc ecl [(k, m)] ++ List.drop (p * 2 + (fc ecl [(k, m)]).length) (fc ecl L).toArray.toList) = fc ecl (L.set p (k, m)) := by
    rw [← splice_one hp, fc_splice_e ecl_len]
    unfold splice
    rw [List.append_assoc]
  rw [e] at hst
  refine ⟨w.setRow b (fc ecl (L.set p (k, m))).toArray, ?_, setRow_heap w b _ _ _ _ h, (Chg.refl [b] w).setRow (.inl (by simp)) _⟩
  · cases hq : Try.prog.info? 59 with
    | none => have := info59s; rw [hq] at this; cases this
    | some i =>
      have hi : i.size = 2 := by have := info59s; rw [hq] at this; simpa using this
      rw [fc_one] at hst
      simp only [storeVar, sizeOf, typeInfo, Sem.run_bind]
      simp [program, Sem.run, hq, hi, Value.cells]
      exact hst
end
theorem wp_store59 {o : Oper} {a : Act} {w w' : World} {K : Act → World → Prop} {Q : Exit → Act → World → Prop} (x y : Operand) (ho : o.op = .store 59 x y) {p : Addr} {v : Value} (hx : a.eval x = .pointer (some p)) (hy : a.eval y = v)
    (hst : (storeVar 59 p v).run Try.prog w = .ok () w') (h : K (a.put o.dst undef) w') : o.wp Try.prog a w K Q := by
  unfold Oper.wp execOp
  simp only [ho, hx, hy, Instr.storeAt, Instr.sureAddr, Sem.run_bind, Sem.run_pure, Result.andThen_ok, hst]
  exact h
theorem zero68 : ∀ w, (zeroValue 68).run Try.prog w = .ok (.agg (fc ecl (List.replicate 96 (0, 0))).toArray) w := by
  have h : (Try.prog.info? 68).map (fun i => (i.zero, i.size)) = some (some (.agg (fc ecl (List.replicate 96 (0, 0))).toArray), 192) := by kernel_rfl
  exact (zero_of_info h).1
theorem run_alloc68 (w : World) : (Instr.alloc 68 true (.tuple #[])).run Try.prog w = .ok (.pointer (some ⟨w.heap.size, 0, none⟩)) (w.alloc (.cells (fc ecl (List.replicate 96 (0, 0))).toArray 68)) := by
  simp [Instr.alloc, Sem.run_bind, zero68, newVar, newRow, run_newObj_alloc, Value.cells]
theorem wpList_alloc68 {ops : Array Oper} {rest : List Oper} {o : Oper} {a : Act} {w : World} {Q : Exit → Act → World → Prop} (hg : o.guard = none) (ho : o.op = .alloc 68)
    (h : ∀ w', WB w' w.heap.size (List.replicate 96 (0, 0)) → Chg [] w w' → wpList Try.prog ops Q rest (a.put o.dst (.pointer (some ⟨w.heap.size, 0, none⟩))) w') : wpList Try.prog ops Q (o :: rest) a w :=
  Great.wpList_runTo hg _ rfl _ _ (by unfold execOp; simp only [ho, Sem.run_bind, run_alloc68, Sem.run_pure, Result.andThen_ok]) (h _ (Blk.new w 68 _) ((Chg.refl [] w).alloc _))
end Go.Proofs.Ytblkfikcfgocgaa
