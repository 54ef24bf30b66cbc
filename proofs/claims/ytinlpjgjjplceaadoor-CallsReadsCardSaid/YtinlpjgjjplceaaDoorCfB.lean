/- A config in memory: its 94 cells. -/
import Derived.Test.YtinlpjgjjplceaaDoorCfA
import Derived.Test.YtinlpjgjjplceaaDoorMem
import Derived.Test.YtinlpjgjjplceaaDoorOpen
import Derived.Test.YtinlpjgjjplceaaDoorOwn
import Derived.Test.YtinlpjgjjplceaaDoorTextG
import Derived.WalkKit
import Derived.Laws.Rows
import Derived.Laws.Tables
import Derived.Laws.IdiomCopy
import Derived.Deep.MidRow
import Derived.Deep.WholeRow
import Derived.Great.Walk
import Derived.ChangeKeysEq
namespace Go.Proofs.YtinlpjgjjplceaaDoor
open Go Go.RowKit

/-- the config's cells -/
@[irreducible] def cg (c : Cf) : Array Value := Array.ofFn (n := 94) fun i => .int .i64 (c i)
theorem cg_size (c : Cf) : (cg c).size = 94 := by unfold cg; simp
theorem cg_get (c : Cf) {i : Nat} (h : i < 94) : (cg c)[i]? = some (.int .i64 (c i)) := by unfold cg; simp [h]
theorem cg_ext {c d : Cf} (h : ∀ i, i < 94 → c i = d i) : cg c = cg d := by
  unfold cg
  congr 1
  funext i
  rw [h i i.2]
theorem cg_set (c : Cf) (i : Nat) (v : Int) : (cg c).setIfInBounds i (.int .i64 v) = cg (fun q => if q = i then v else c q) := by
  apply Array.ext_getElem?
  intro j
  rw [Array.getElem?_setIfInBounds]
  by_cases hj : j < 94
  · rw [cg_get _ hj, cg_get _ hj]
    by_cases e : i = j
    · subst e; simp [cg_size, hj]
    · rw [if_neg e, if_neg (fun h => e h.symm)]
  · have h1 : (cg c)[j]? = none := Array.getElem?_eq_none (by rw [cg_size]; omega)
    have h2 : (cg (fun q => if q = i then v else c q))[j]? = none := Array.getElem?_eq_none (by rw [cg_size]; omega)
    rw [h1, h2, cg_size]
    split
    · rename_i e; rw [if_neg (by omega)]
    · rfl
theorem cg_one (c : Cf) : (cg c).all (·.oneCell') = true := by
  unfold cg
  rw [Array.all_eq_true]
  intro i hi
  simp [Value.oneCell']
theorem cg_of {xs : Array Value} {c : Cf} (hs : xs.size = 94) (h : ∀ i, i < 94 → xs[i]? = some (.int .i64 (c i))) : xs = cg c := by
  apply Array.ext_getElem?
  intro j
  by_cases hj : j < 94
  · rw [h j hj, cg_get c hj]
  · rw [Array.getElem?_eq_none (by omega), Array.getElem?_eq_none (by rw [cg_size]; omega)]
/-- a config lies at b -/
abbrev CB (w : World) (b : Nat) (c : Cf) : Prop := Blk w b 26 (cg c)
theorem CB.get {w : World} {b : Nat} {c : Cf} (h : CB w b c) {i : Nat} (hi : i < 94) : w.cell? ⟨b, i, none⟩ = some (.int .i64 (c i)) := (h.cell i).trans (cg_get c hi)
theorem info26 : (Tryd.prog.info? 26).map (·.size) = some 94 := by kernel_rfl
theorem info26' {c : Cf} : (Tryd.prog.info? 26).map (·.size) = some (cg c).size := by rw [cg_size]; exact info26
/-- other cells there -/
theorem CB.set {w : World} {b : Nat} {c : Cf} (h : CB w b c) (i : Nat) (v : Int) : CB (w.setCell ⟨b, i, none⟩ (.int .i64 v)) b (fun q => if q = i then v else c q) := by
  have := h.set_ i (.int .i64 v)
  rwa [cg_set] at this
theorem CB.ext {w : World} {b : Nat} {c d : Cf} (h : CB w b c) (he : ∀ i, i < 94 → c i = d i) : CB w b d := by rw [CB, ← cg_ext he]; exact h
/-- noughts from o on -/
def zeroed (c : Cf) (o n : Nat) : Cf := fun i => if o ≤ i ∧ i < o + n then 0 else c i
theorem zero_cells {b : Nat} : ∀ (n o : Nat) (w : World) (c : Cf), CB w b c → CB (w.setCells b o (List.replicate n (.int .i64 0))) b (zeroed c o n) ∧ Chg [b] w (w.setCells b o (List.replicate n (.int .i64 0)))
  | 0, o, w, c, h => ⟨h.ext fun i _ => by unfold zeroed; rw [if_neg (by omega)], Chg.refl _ _⟩
  | n + 1, o, w, c, h => by
    obtain ⟨h1, h2⟩ := zero_cells n (o + 1) _ _ (h.set o 0)
    refine ⟨h1.ext fun i _ => ?_, ((Chg.refl [b] w).setCell (p := ⟨b, o, none⟩) (.inl (by simp)) _).trans h2 (fun x hx => .inl hx)⟩
    unfold zeroed
    by_cases e : i = o
    · subst e; rw [if_neg (by omega)]; simp only [if_pos]; rw [if_pos (by omega)]
    · by_cases e2 : o + 1 ≤ i ∧ i < o + 1 + n
      · rw [if_pos e2, if_pos (by omega)]
      · rw [if_neg e2]; simp only [if_neg e]; rw [if_neg (by omega)]
theorem run_zero {w : World} {b : Nat} {c : Cf} (h : CB w b c) {o n : Nat} (ho : o + n ≤ 94) : (storeCells ⟨b, o, none⟩ (List.replicate n (.int .i64 0))).run Tryd.prog w = .ok () (w.setCells b o (List.replicate n (.int .i64 0))) := by
  have := run_storeCells_cells (P := Tryd.prog) b o (List.replicate n (.int .i64 0)) 0 w (fun j hj => by rw [List.length_replicate] at hj; rw [h.get (by omega)]; rfl) (fun j _ => h.frozen _) (fun v hv => by obtain ⟨_, rfl⟩ := List.mem_replicate.1 hv; rfl)
  exact this
theorem zeros8 (n : Nat) : (Builtin.zeroCells #[.int .i64 0, .int .i64 0, .int .i64 0, .int .i64 0, .int .i64 0, .int .i64 0, .int .i64 0, .int .i64 0] n).toList = List.replicate (n * 8) (.int .i64 0) := by
  apply List.ext_getElem
  · simp [Builtin.zeroCells]
  · intro i h1 h2
    simp only [List.getElem_replicate]
    have h3 : i % 8 < 8 := Nat.mod_lt _ (by omega)
    simp [Builtin.zeroCells]
    generalize i % 8 = m at h3
    match m, h3 with
    | 0, _ => rfl
    | 1, _ => rfl
    | 2, _ => rfl
    | 3, _ => rfl
    | 4, _ => rfl
    | 5, _ => rfl
    | 6, _ => rfl
    | 7, _ => rfl
theorem zeros1 (n : Nat) : (Builtin.zeroCells #[.int .i64 0] n).toList = List.replicate n (.int .i64 0) := by
  apply List.ext_getElem
  · simp [Builtin.zeroCells]
  · intro i h1 h2
    simp only [List.getElem_replicate]
    have h3 : i % 1 = 0 := Nat.mod_one _
    simp [Builtin.zeroCells, h3]
theorem zero23 : ∀ w, (zeroValue 23).run Tryd.prog w = .ok (.agg #[.int .i64 0, .int .i64 0, .int .i64 0, .int .i64 0, .int .i64 0, .int .i64 0, .int .i64 0, .int .i64 0]) w := by
  have h : (Tryd.prog.info? 23).map (fun i => (i.zero, i.size)) = some (some (.agg #[.int .i64 0, .int .i64 0, .int .i64 0, .int .i64 0, .int .i64 0, .int .i64 0, .int .i64 0, .int .i64 0]), 8) := by kernel_rfl
  exact (zero_of_info h).1
theorem zero3 : ∀ w, (zeroValue 3).run Tryd.prog w = .ok (.int .i64 0) w := by
  have h : (Tryd.prog.info? 3).map (fun i => (i.zero, i.size)) = some (some (.int .i64 0), 1) := by kernel_rfl
  exact (zero_of_info h).1
theorem run_clear30 {w : World} {b : Nat} {c : Cf} (h : CB w b c) {o n k : Nat} (ho : o + n ≤ 94) (ty : TypeId) :
    (Builtin.clear_ #[84] ty #[.slice (some ⟨b, o, none⟩) n k]).run Tryd.prog w = .ok (.tuple #[]) (w.setCells b o (List.replicate n (.int .i64 0))) := by
  cases n with
  | zero => simp [Builtin.clear_, run_underlying Tryd.underlying84, World.setCells]
  | succ n => simp [Builtin.clear_, run_underlying Tryd.underlying84, zero3, Value.cells, zeros1, run_zero h ho]
theorem run_clear62 {w : World} {b : Nat} {c : Cf} (h : CB w b c) {o n k : Nat} (ho : o + n * 8 ≤ 94) (ty : TypeId) :
    (Builtin.clear_ #[90] ty #[.slice (some ⟨b, o, none⟩) n k]).run Tryd.prog w = .ok (.tuple #[]) (w.setCells b o (List.replicate (n * 8) (.int .i64 0))) := by
  cases n with
  | zero => simp [Builtin.clear_, run_underlying Tryd.underlying90, World.setCells]
  | succ n => simp [Builtin.clear_, run_underlying Tryd.underlying90, zero23, Value.cells, zeros8, run_zero h ho]
section
variable {ops : Array Oper} {rest : List Oper} {o : Oper} {a : Act} {w : World} {Q : Exit → Act → World → Prop} {b : Nat} {c d : Cf}
theorem wpList_clear30 (h0 : CB w b c) (hg : o.guard = none) (x : Operand) (ho : o.op = .call { callee := .builtin .clear, args := #[x], argTypes := #[84] }) {off n k : Nat}
    (hx : a.eval x = .slice (some ⟨b, off, none⟩) n k) (hn : off + n ≤ 94) (h : ∀ w', CB w' b (zeroed c off n) → Chg [b] w w' → wpList Tryd.prog ops Q rest (a.put o.dst (.tuple #[])) w') : wpList Tryd.prog ops Q (o :: rest) a w :=
  Great.wpList_runTo hg _ rfl _ _ (by unfold execOp; simp only [ho, resolve, invoke, builtin, Sem.run_bind, Sem.run_pure, Result.andThen_ok, List.map_toArray, List.map_cons, List.map_nil, hx, run_clear30 h0 hn]) (h _ (zero_cells n off w c h0).1 (zero_cells n off w c h0).2)
theorem wpList_clear62 (h0 : CB w b c) (hg : o.guard = none) (x : Operand) (ho : o.op = .call { callee := .builtin .clear, args := #[x], argTypes := #[90] }) {off n k : Nat}
    (hx : a.eval x = .slice (some ⟨b, off, none⟩) n k) (hn : off + n * 8 ≤ 94) (h : ∀ w', CB w' b (zeroed c off (n * 8)) → Chg [b] w w' → wpList Tryd.prog ops Q rest (a.put o.dst (.tuple #[])) w') : wpList Tryd.prog ops Q (o :: rest) a w :=
  Great.wpList_runTo hg _ rfl _ _ (by unfold execOp; simp only [ho, resolve, invoke, builtin, Sem.run_bind, Sem.run_pure, Result.andThen_ok, List.map_toArray, List.map_cons, List.map_nil, hx, run_clear62 h0 hn]) (h _ (zero_cells (n * 8) off w c h0).1 (zero_cells (n * 8) off w c h0).2)
theorem wpList_load26 (h0 : CB w b c) (hg : o.guard = none) (x : Operand) (ho : o.op = .load 26 x)
    (hx : a.eval x = .pointer (some ⟨b, 0, none⟩)) (h : wpList Tryd.prog ops Q rest (a.put o.dst (.agg (cg c))) w) : wpList Tryd.prog ops Q (o :: rest) a w :=
  wpList_load_row hg 26 x ho b hx 26 (cg c) (0, 0) _ h0 Tryd.underlying26 rfl info26' h
theorem wpList_store26 (h0 : CB w b c) (hg : o.guard = none) (x y : Operand) (ho : o.op = .store 26 x y)
    (hx : a.eval x = .pointer (some ⟨b, 0, none⟩)) (hy : a.eval y = .agg (cg d)) (h : ∀ w', CB w' b d → Chg [b] w w' → wpList Tryd.prog ops Q rest (a.put o.dst undef) w') : wpList Tryd.prog ops Q (o :: rest) a w :=
  wpList_store_row hg 26 x y ho b (cg d) hx hy 26 (cg c) h0 info26' (by rw [cg_size, cg_size]) (cg_one d) (h _ (setRow_heap w b _ _ _ _ h0) ((Chg.refl [b] w).setRow (.inl (by simp)) _))
theorem zeroCg : cg (fun _ => 0) = Array.replicate 94 (.int .i64 0) := by
  apply Array.ext_getElem?
  intro j
  by_cases hj : j < 94
  · rw [cg_get _ hj]; simp [hj]
  · rw [Array.getElem?_eq_none (by rw [cg_size]; omega), Array.getElem?_eq_none (by simp; omega)]
theorem zero26 : ∀ w, (zeroValue 26).run Tryd.prog w = .ok (.agg (cg (fun _ => 0))) w := by
  have h : (Tryd.prog.info? 26).map (fun i => (i.zero, i.size)) = some (some (.agg (Array.replicate 94 (.int .i64 0))), 94) := by kernel_rfl
  rw [zeroCg]
  exact (zero_of_info h).1
theorem run_alloc26 (w : World) : (Instr.alloc 26 true (.tuple #[])).run Tryd.prog w = .ok (.pointer (some ⟨w.heap.size, 0, none⟩)) (w.alloc (.cells (cg (fun _ => 0)) 26)) := by
  simp [Instr.alloc, Sem.run_bind, zero26, newVar, newRow, run_newObj_alloc, Value.cells]
  rw [zeroCg]
  congr 2
theorem wpList_alloc26 (hg : o.guard = none) (ho : o.op = .alloc 26)
    (h : wpList Tryd.prog ops Q rest (a.put o.dst (.pointer (some ⟨w.heap.size, 0, none⟩))) (w.alloc (.cells (cg (fun _ => 0)) 26))) : wpList Tryd.prog ops Q (o :: rest) a w :=
  Great.wpList_runTo hg _ rfl _ _ (by unfold execOp; simp only [ho, Sem.run_bind, run_alloc26, Sem.run_pure, Result.andThen_ok]) h
end
end Go.Proofs.YtinlpjgjjplceaaDoor
