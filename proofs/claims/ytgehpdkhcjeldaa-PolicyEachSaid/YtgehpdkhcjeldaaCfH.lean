/- config: Least; the law's two nodes. -/
import Derived.Test.YtgehpdkhcjeldaaCfG
namespace Go.Proofs.Ytgehpdkhcjeldaa
open Go Go.RowKit

structure BT (l : List (Nat × Value)) (d : Cf) : Prop where
  h : Try.prog.built 26 l = some (cg d)
def leastC (m : Int) : Cf := fun i => if i = 0 then 1 else if i = 1 then 1 else if i = 18 then m else if i = 90 then m else 0
theorem built_least (m : Int) : BT [(0, .int .i64 1), (1, .int .i64 1), (3, .agg #[.int .i64 m, .int .i64 0, .int .i64 0, .int .i64 0, .int .i64 0, .int .i64 0, .int .i64 0, .int .i64 0]), (5, .int .i64 m)] (leastC m) := ⟨by kernel_rfl⟩
def twoC0 : Cf := fun i => if i = 0 then 2 else if i = 1 then 2 else if i = 90 then 3 else if i = 91 then 1 else if i = 92 then 1 else if i = 93 then 2 else 0
theorem built_two : BT [(0, .int .i64 2), (1, .int .i64 2), (5, .int .i64 3), (6, .int .i64 1), (7, .int .i64 1), (8, .int .i64 2)] twoC0 := ⟨by kernel_rfl⟩
theorem run_min (ts : Array TypeId) (ty : TypeId) (k k' : IntKind) (x y : Int) (w : World) : (Builtin.min_ ts ty #[.int k x, .int k' y]).run Try.prog w = .ok (.int k (min x y)) w := by
  have e : min x y = if y < x then y else x := by split <;> omega
  rw [e]
  simp [Builtin.min_, Builtin.min2]
theorem run_max (ts : Array TypeId) (ty : TypeId) (k k' : IntKind) (x y : Int) (w : World) : (Builtin.max_ ts ty #[.int k x, .int k' y]).run Try.prog w = .ok (.int k (max x y)) w := by
  have e : max x y = if x < y then y else x := by split <;> omega
  rw [e]
  simp [Builtin.max_, Builtin.max2]
theorem wpList_build26 {ops : Array Oper} {rest : List Oper} {o : Oper} {a : Act} {w : World} {Q : Exit → Act → World → Prop} {d : Cf} (hg : o.guard = none) (parts : Array (Nat × Operand)) (ho : o.op = .build 26 parts)
    {l : List (Nat × Value)} (hb : BT l d) (hl : (parts.map fun (i, x) => (i, a.eval x)).toList = l) (h : wpList Try.prog ops Q rest (a.put o.dst (.agg (cg d))) w) : wpList Try.prog ops Q (o :: rest) a w :=
  wpList_build hg 26 parts ho (by rw [hl, hb.h]; rfl) (by rw [hl, hb.h]; exact h)
theorem Least_any (f : Int) (w : World) : Calls Try.prog 20 #[.int .i64 f] w fun e w' => e = .returned (.agg (cg (leastC (min (max f 4) 128)))) ∧ Chg [] w w' := by
  obtain ⟨m1, h1⟩ : ∃ m, m = max f 4 := ⟨_, rfl⟩
  obtain ⟨m2, h2⟩ : ∃ m, m = min m1 128 := ⟨_, rfl⟩
  have u1 := fun ts ty w => run_max ts ty .i64 .i64 f 4 w
  have u2 := fun ts ty w => run_min ts ty .i64 .i64 m1 128 w
  rw [← h1] at u1
  rw [← h2] at u2
  rw [← h1, ← h2]
  clear h1 h2
  have HB := hide (Blk.new w 26 (cg (fun _ => 0)))
  have HC := hide (show Chg [] w (w.alloc (.cells (cg (fun _ => 0)) 26)) from (Chg.refl [] w).alloc _)
  go_enter Try.func20, Try.ntmps20
  go_wp2_with (first | (refine wpList_alloc26 rfl rfl ?_) | (refine wpList_build26 rfl _ rfl (built_least m2) ?_ ?_; (focus (simp [Act.eval]; done))) | (refine wpList_store26 HB.out rfl _ _ rfl rfl rfl ?_; intro W5 h5 hc5))
  refine bodyPost_ret (v := .agg (cg (leastC m2))) (results_cell_row (p := 2) (ty := 26) rfl _ _ w.heap.size 26 _ (0, 0) _ rfl h5 Try.underlying26 rfl info26') rfl ⟨rfl, ?_⟩
  exact HC.out.trans hc5 (fun x hx => .inr (by obtain rfl := List.mem_singleton.1 hx; exact Nat.le_refl _))
theorem wpList_load26L {ops : Array Oper} {rest : List Oper} {o : Oper} {a : Act} {w : World} {Q : Exit → Act → World → Prop} {b : Nat} {c : Cf} (hg : o.guard = none) (x : Operand) (ho : o.op = .load 26 x)
    (hx : a.eval x = .pointer (some ⟨b, 0, none⟩)) (h0 : CB w b c) (h : wpList Try.prog ops Q rest (a.put o.dst (.agg (cg c))) w) : wpList Try.prog ops Q (o :: rest) a w := wpList_load26 h0 hg x ho hx h
theorem wpList_store26L {ops : Array Oper} {rest : List Oper} {o : Oper} {a : Act} {w : World} {Q : Exit → Act → World → Prop} {b : Nat} {c d : Cf} (hg : o.guard = none) (x y : Operand) (ho : o.op = .store 26 x y)
    (hx : a.eval x = .pointer (some ⟨b, 0, none⟩)) (hy : a.eval y = .agg (cg d)) (h0 : CB w b c) (h : ∀ w', CB w' b d → Chg [b] w w' → wpList Try.prog ops Q rest (a.put o.dst undef) w') : wpList Try.prog ops Q (o :: rest) a w := wpList_store26 h0 hg x y ho hx hy h
def twoC : Cf := fun i => if i = 34 then 10 else if i = 27 then 10 else if i = 19 then 8 else if i = 18 then 4 else if i = 3 then 1 else twoC0 i
theorem two_cells {W : World} {b : Nat} (h : CB W b twoC0) : CB (((((W.setCell ⟨b, 3, none⟩ (.int .i64 1)).setCell ⟨b, 18, none⟩ (.int .i64 4)).setCell ⟨b, 19, none⟩ (.int .i64 8)).setCell ⟨b, 27, none⟩ (.int .i64 10)).setCell ⟨b, 34, none⟩ (.int .i64 10)) b twoC := ((((h.set 3 1).set 18 4).set 19 8).set 27 10).set 34 10
set_option maxHeartbeats 1000000 in
theorem two_any (w : World) : Calls Try.prog 32 #[] w fun e w' => e = .returned (.agg (cg twoC)) ∧ Chg [] w w' := by
  have hr : CB ((w.alloc (.cells (cg (fun _ => 0)) 26)).alloc (.cells (cg (fun _ => 0)) 26)) w.heap.size (fun _ => 0) := (Blk.new w 26 _).alloc _
  have hb : CB ((w.alloc (.cells (cg (fun _ => 0)) 26)).alloc (.cells (cg (fun _ => 0)) 26)) (w.heap.size + 1) (fun _ => 0) := by
    have := Blk.new (w.alloc (.cells (cg (fun _ => 0)) 26)) 26 (cg (fun _ => 0))
    rwa [World.size_alloc] at this
  have hc : Chg [] w ((w.alloc (.cells (cg (fun _ => 0)) 26)).alloc (.cells (cg (fun _ => 0)) 26)) := ((Chg.refl [] w).alloc _).alloc _
  have HR := hide hr
  have HB := hide hb
  have HC := hide hc
  clear hr hb hc
  obtain ⟨D0, hD0⟩ : ∃ D0, D0 = twoC0 := ⟨_, rfl⟩
  have HT := hide built_two
  rw [← hD0] at HT
  have HD0 := hide hD0
  obtain ⟨D, hD⟩ : ∃ D, D = twoC := ⟨_, rfl⟩
  rw [← hD]
  have HD := hide hD
  clear hD0 hD
  go_enter Try.func32, Try.ntmps32
  go_wp2_with (first | (refine wpList_alloc26 rfl rfl ?_; try simp only [World.size_alloc]) | (refine wpList_build26 rfl _ rfl HT.out ?_ ?_; (focus (simp [Act.eval]; done))) | (refine wpList_store26L (b := w.heap.size + 1) (c := fun _ => 0) rfl _ _ rfl rfl rfl ?_ ?_; (focus exact HB.out); intro W5 h5 hc5; have q3 := CB.get h5 (i := 3) (by omega); have q18 := CB.get h5 (i := 18) (by omega); have q19 := CB.get h5 (i := 19) (by omega); have q27 := CB.get h5 (i := 27) (by omega); have q34 := CB.get h5 (i := 34) (by omega); have f3 := Blk.frozen h5 3; have f18 := Blk.frozen h5 18; have f19 := Blk.frozen h5 19; have f27 := Blk.frozen h5 27; have f34 := Blk.frozen h5 34; have H9 := two_cells (HD0.out ▸ h5); rw [← HD.out] at H9; have H9 := hide H9; have HR9 := hide ((((((HR.out.chg hc5 (by simp)).far (p := ⟨w.heap.size + 1, 3, none⟩) (by simp) (.int .i64 1)).far (p := ⟨w.heap.size + 1, 18, none⟩) (by simp) (.int .i64 4)).far (p := ⟨w.heap.size + 1, 19, none⟩) (by simp) (.int .i64 8)).far (p := ⟨w.heap.size + 1, 27, none⟩) (by simp) (.int .i64 10)).far (p := ⟨w.heap.size + 1, 34, none⟩) (by simp) (.int .i64 10)); have HC5 := hide hc5; clear h5 hc5) | (refine wpList_load26L (c := D) rfl _ rfl rfl ?_ ?_; (focus exact H9.out)) | (refine wpList_store26L (b := w.heap.size) (c := fun _ => 0) rfl _ _ rfl rfl rfl ?_ ?_; (focus exact HR9.out); intro W6 h6 hc6))
  refine bodyPost_ret (v := .agg (cg D)) (results_cell_row (p := 0) (ty := 26) rfl _ _ w.heap.size 26 _ (0, 0) _ rfl h6 Try.underlying26 rfl info26') rfl ⟨rfl, ?_⟩
  have c9 : Chg [w.heap.size + 1] ((w.alloc (.cells (cg (fun _ => 0)) 26)).alloc (.cells (cg (fun _ => 0)) 26)) (((((W5.setCell ⟨w.heap.size + 1, 3, none⟩ (.int .i64 1)).setCell ⟨w.heap.size + 1, 18, none⟩ (.int .i64 4)).setCell ⟨w.heap.size + 1, 19, none⟩ (.int .i64 8)).setCell ⟨w.heap.size + 1, 27, none⟩ (.int .i64 10)).setCell ⟨w.heap.size + 1, 34, none⟩ (.int .i64 10)) :=
    ((((HC5.out.setCell (p := ⟨w.heap.size + 1, 3, none⟩) (.inl (by simp)) _).setCell (p := ⟨w.heap.size + 1, 18, none⟩) (.inl (by simp)) _).setCell (p := ⟨w.heap.size + 1, 19, none⟩) (.inl (by simp)) _).setCell (p := ⟨w.heap.size + 1, 27, none⟩) (.inl (by simp)) _).setCell (p := ⟨w.heap.size + 1, 34, none⟩) (.inl (by simp)) _
  exact (HC.out.trans c9 (fun x hx => .inr (by obtain rfl := List.mem_singleton.1 hx; omega))).trans hc6 (fun x hx => .inr (by obtain rfl := List.mem_singleton.1 hx; omega))
end Go.Proofs.Ytgehpdkhcjeldaa
