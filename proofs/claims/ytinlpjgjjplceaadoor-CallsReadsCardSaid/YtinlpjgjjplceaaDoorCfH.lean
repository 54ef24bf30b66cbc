/- The law's least machine; loads and stores of configs; the document's May. -/
import Derived.Test.YtinlpjgjjplceaaDoorCfF
import Derived.Test.YtinlpjgjjplceaaDoorCfQ
namespace Go.Proofs.YtinlpjgjjplceaaDoor
open Go Go.RowKit

structure BT (l : List (Nat × Value)) (d : Cf) : Prop where
  h : Tryd.prog.built 26 l = some (cg d)
theorem wpList_build26 {ops : Array Oper} {rest : List Oper} {o : Oper} {a : Act} {w : World} {Q : Exit → Act → World → Prop} {d : Cf} (hg : o.guard = none) (parts : Array (Nat × Operand)) (ho : o.op = .build 26 parts)
    {l : List (Nat × Value)} (hb : BT l d) (hl : (parts.map fun (i, x) => (i, a.eval x)).toList = l) (h : wpList Tryd.prog ops Q rest (a.put o.dst (.agg (cg d))) w) : wpList Tryd.prog ops Q (o :: rest) a w :=
  wpList_build hg 26 parts ho (by rw [hl, hb.h]; rfl) (by rw [hl, hb.h]; exact h)
theorem wpList_load26L {ops : Array Oper} {rest : List Oper} {o : Oper} {a : Act} {w : World} {Q : Exit → Act → World → Prop} {b : Nat} {c : Cf} (hg : o.guard = none) (x : Operand) (ho : o.op = .load 26 x)
    (hx : a.eval x = .pointer (some ⟨b, 0, none⟩)) (h0 : CB w b c) (h : wpList Tryd.prog ops Q rest (a.put o.dst (.agg (cg c))) w) : wpList Tryd.prog ops Q (o :: rest) a w := wpList_load26 h0 hg x ho hx h
theorem wpList_store26L {ops : Array Oper} {rest : List Oper} {o : Oper} {a : Act} {w : World} {Q : Exit → Act → World → Prop} {b : Nat} {c d : Cf} (hg : o.guard = none) (x y : Operand) (ho : o.op = .store 26 x y)
    (hx : a.eval x = .pointer (some ⟨b, 0, none⟩)) (hy : a.eval y = .agg (cg d)) (h0 : CB w b c) (h : ∀ w', CB w' b d → Chg [b] w w' → wpList Tryd.prog ops Q rest (a.put o.dst undef) w') : wpList Tryd.prog ops Q (o :: rest) a w := wpList_store26 h0 hg x y ho hx hy h
def leastC0 : Cf := fun i => if i = 0 then 1 else if i = 1 then 1 else 0
def leastC : Cf := fun i => if i = 18 then 4 else leastC0 i
theorem built_least : BT [(0, .int .i64 1), (1, .int .i64 1)] leastC0 := ⟨by kernel_rfl⟩
theorem least_may : MayP leastC where
  n1 := by decide
  n8 := by decide
  p1 := by decide
  p16 := by decide
  s0 := by decide
  s1 := by decide
  home := by decide
  home0 := by decide
  fr := by decide
  fr0 := by decide
  ds0 := fun i k hi hk => (by decide : ∀ i : Nat, i < 8 → ∀ k : Nat, k < 8 → leastC 0 ≤ (i : Int) ∨ leastC 0 ≤ (k : Int) ∨ i = k → leastC (26 + i * 8 + k) = 0) i hi k hk
  ds1 := fun i k hi hk => fun h1 h2 h3 => (by decide : ∀ i : Nat, i < 8 → ∀ k : Nat, k < 8 → ((i : Int) < leastC 0 ∧ (k : Int) < leastC 0 ∧ ¬ i = k) → (1 ≤ leastC (26 + i * 8 + k) ∧ leastC (26 + i * 8 + k) ≤ 255 ∧ leastC (26 + i * 8 + k) = leastC (26 + k * 8 + i))) i hi k hk ⟨h1, h2, h3⟩
  mi := by decide
  lo := by decide
  hi := by decide
set_option maxHeartbeats 1000000 in
theorem least_any (w : World) : Calls Tryd.prog 30 #[] w fun e w' => e = .returned (.agg (cg leastC)) ∧ Chg [] w w' := by
  have HR : Hid (CB ((w.alloc (.cells (cg (fun _ => 0)) 26)).alloc (.cells (cg (fun _ => 0)) 26)) w.heap.size (fun _ => 0)) := hide ((Blk.new w 26 _).alloc _)
  have HB : Hid (CB ((w.alloc (.cells (cg (fun _ => 0)) 26)).alloc (.cells (cg (fun _ => 0)) 26)) (w.heap.size + 1) (fun _ => 0)) := hide (by
    have := Blk.new (w.alloc (.cells (cg (fun _ => 0)) 26)) 26 (cg (fun _ => 0))
    rwa [World.size_alloc] at this)
  have HC : Hid (Chg [] w ((w.alloc (.cells (cg (fun _ => 0)) 26)).alloc (.cells (cg (fun _ => 0)) 26))) := hide (((Chg.refl [] w).alloc _).alloc _)
  obtain ⟨D0, hD0⟩ : ∃ D0, D0 = leastC0 := ⟨_, rfl⟩
  have HT := hide built_least
  rw [← hD0] at HT
  have HD0 := hide hD0
  obtain ⟨D, hD⟩ : ∃ D, D = leastC := ⟨_, rfl⟩
  rw [← hD]
  have HD := hide hD
  clear hD0 hD
  go_enter Tryd.func30, Tryd.ntmps30
  go_wp2_with (first | (refine wpList_alloc26 rfl rfl ?_; try simp only [World.size_alloc]) | (refine wpList_build26 rfl _ rfl HT.out ?_ ?_; (focus (simp [Act.eval]; done))) | (refine wpList_store26L (b := w.heap.size + 1) (c := fun _ => 0) rfl _ _ rfl rfl rfl ?_ ?_; (focus exact HB.out); intro W5 h5 hc5; have q18 := CB.get h5 (i := 18) (by omega); have f18 := Blk.frozen h5 18; have H5 := hide h5; have HC5 := hide hc5; have HR5 := hide (HR.out.chg hc5 (by simp)); have hl5 : w.heap.size + 1 < W5.heap.size := h5.lt; clear h5 hc5) | (refine wpList_load26L (b := w.heap.size + 1) (c := D) rfl _ rfl rfl ?_ ?_; (focus (rw [HD.out]; have := CB.set H5.out 18 4; rw [HD0.out] at this; exact this))) | (refine wpList_store26L (b := w.heap.size) (c := fun _ => 0) rfl _ _ rfl rfl rfl ?_ ?_; (focus exact (Blk.far HR5.out (by simp) _)); intro W6 h6 hc6))
  refine bodyPost_ret (v := .agg (cg D)) (results_cell_row (p := 0) (ty := 26) rfl _ _ w.heap.size 26 _ (0, 0) _ rfl h6 Tryd.underlying26 rfl info26') rfl ⟨rfl, ?_⟩
  have c9 := HC5.out.setCell (p := ⟨w.heap.size + 1, 18, none⟩) (.inl (by simp)) (.int .i64 4)
  exact (HC.out.trans c9 (fun x hx => .inr (by obtain rfl := List.mem_singleton.1 hx; omega))).trans hc6 (fun x hx => .inr (by obtain rfl := List.mem_singleton.1 hx; omega))
end Go.Proofs.YtinlpjgjjplceaaDoor
