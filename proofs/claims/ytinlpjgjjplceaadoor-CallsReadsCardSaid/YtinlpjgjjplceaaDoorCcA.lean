/- Results: their cells; whether one may be. -/
import Derived.Test.YtinlpjgjjplceaaDoorCaF
import Derived.Test.YtinlpjgjjplceaaDoorCaG
import Derived.Test.YtinlpjgjjplceaaDoorCfD
namespace Go.Proofs.YtinlpjgjjplceaaDoor
open Go Go.RowKit

/-- a result, its bytes as a list -/
structure Rs where
  e : Int
  v : Nat
  l : List Nat
structure Rs.Ok (r : Rs) : Prop where
  e : -9223372036854775808 ≤ r.e ∧ r.e ≤ 9223372036854775807
  v : r.v < 18446744073709551616
  l : ∀ b ∈ r.l, b < 256
def zRs : Rs := ⟨0, 0, []⟩
def mayRs (r : Rs) : Bool := decide (0 ≤ r.e ∧ r.e ≤ 999) && decide (r.l.length ≤ 8) && (decide (r.e = 0) || (decide (r.v = 0) && decide (r.l.length = 0)))
def rsc (r : Rs) (v : Value) : Array Value := #[.int .i64 r.e, .int .u64 r.v, v]
abbrev XB (w : World) (b : Nat) (r : Rs) (v : Value) : Prop := Blk w b 48 (rsc r v)
theorem infoRs {x : Rs} {v : Value} : (Tryd.prog.info? 48).map (·.size) = some (rsc x v).size := by
  have : (Tryd.prog.info? 48).map (·.size) = some 3 := by kernel_rfl
  exact this
theorem rsc_one (x : Rs) {v : Value} (hv : v.oneCell' = true) : ((rsc x v).all fun u => u.oneCell') = true := by
  simp [rsc, hv, show ∀ k z, (Value.int k z).oneCell' = true from fun _ _ => rfl]
section
variable {ops : Array Oper} {rest : List Oper} {o : Oper} {a : Act} {w : World} {Q : Exit → Act → World → Prop} {b : Nat} {x y : Rs} {v u : Value}
theorem XB.load (h : XB w b x v) : (loadVar 48 ⟨b, 0, none⟩).run Tryd.prog w = .ok (.agg (rsc x v)) w :=
  run_loadVar_row w b 48 48 _ (0, 0) _ h Tryd.underlying48 rfl infoRs
theorem XB.stay {w' : World} (h : XB w b x v) (hc : Chg [] w w') : XB w' b x v := Blk.chg h hc List.not_mem_nil
theorem wpList_loadRs (hg : o.guard = none) (z : Operand) (ho : o.op = .load 48 z) (hx : a.eval z = .pointer (some ⟨b, 0, none⟩)) (h0 : XB w b x v) (h : wpList Tryd.prog ops Q rest (a.put o.dst (.agg (rsc x v))) w) : wpList Tryd.prog ops Q (o :: rest) a w :=
  wpList_load_row hg 48 z ho b hx 48 _ (0, 0) _ h0 Tryd.underlying48 rfl infoRs h
theorem wpList_storeRs (hg : o.guard = none) (z t : Operand) (ho : o.op = .store 48 z t) (hx : a.eval z = .pointer (some ⟨b, 0, none⟩)) (hy : a.eval t = .agg (rsc y u)) (hu : u.oneCell' = true) (h0 : XB w b x v)
    (h : ∀ w', XB w' b y u → Chg [b] w w' → wpList Tryd.prog ops Q rest (a.put o.dst undef) w') : wpList Tryd.prog ops Q (o :: rest) a w :=
  wpList_store_row hg 48 z t ho b _ hx hy 48 _ h0 infoRs rfl (rsc_one y hu) (h _ (setRow_heap w b _ _ _ _ h0) ((Chg.refl [b] w).setRow (.inl (by simp)) _))
theorem wpList_boxRs (hg : o.guard = none) (z : Operand) (ho : o.op = .box 48 z) (hx : a.eval z = .agg (rsc x v))
    (h : wpList Tryd.prog ops Q rest (a.put o.dst (.pointer (some ⟨w.heap.size, 0, none⟩))) (w.alloc (.cells (rsc x v) 48))) : wpList Tryd.prog ops Q (o :: rest) a w :=
  Great.wpList_runTo hg _ rfl _ _ (by unfold execOp; simp only [ho, hx, Sem.run_bind, Instr.box, newVar, newRow, run_newObj_alloc, Sem.run_pure, Result.andThen_ok, Value.cells]) h
theorem zeroRs : ∀ w, (zeroValue 48).run Tryd.prog w = .ok (.agg (rsc zRs zV)) w := by
  have h : (Tryd.prog.info? 48).map (fun i => (i.zero, i.size)) = some (some (.agg (rsc zRs zV)), 3) := by kernel_rfl
  exact (zero_of_info h).1
theorem run_allocRs (w : World) : (Instr.alloc 48 true (.tuple #[])).run Tryd.prog w = .ok (.pointer (some ⟨w.heap.size, 0, none⟩)) (w.alloc (.cells (rsc zRs zV) 48)) := by
  simp [Instr.alloc, Sem.run_bind, zeroRs, newVar, newRow, run_newObj_alloc, Value.cells, rsc, zRs, zV]
theorem wpList_allocRs (hg : o.guard = none) (ho : o.op = .alloc 48)
    (h : wpList Tryd.prog ops Q rest (a.put o.dst (.pointer (some ⟨w.heap.size, 0, none⟩))) (w.alloc (.cells (rsc zRs zV) 48))) : wpList Tryd.prog ops Q (o :: rest) a w :=
  Great.wpList_runTo hg _ rfl _ _ (by unfold execOp; simp only [ho, Sem.run_bind, run_allocRs, Sem.run_pure, Result.andThen_ok]) h
theorem wpList_loadRsW (z : Operand) (ho : o.op = .load 48 z)
    (hx : a.eval z = .pointer (some ⟨b, 0, none⟩)) (hw : Region.wanted o (yielded ops a.tmps) = true) (h0 : XB w b x v) (h : wpList Tryd.prog ops Q rest (a.put o.dst (.agg (rsc x v))) w) : wpList Tryd.prog ops Q (o :: rest) a w :=
  wpList_step fun K hK => by
    rw [if_pos hw]
    exact wp_load_row 48 z ho b hx 48 _ (0, 0) _ h0 Tryd.underlying48 rfl infoRs (hK _ _ h)
end
theorem XB.cells {w : World} {b : Nat} {x : Rs} {v : Value} (h : XB w b x v) :
    w.cell? ⟨b, 0, none⟩ = some (.int .i64 x.e) ∧ w.cell? ⟨b, 1, none⟩ = some (.int .u64 x.v) ∧ w.cell? ⟨b, 2, none⟩ = some v ∧ b < w.heap.size ∧ ∀ i, w.frozen? ⟨b, i, none⟩ = false :=
  ⟨by simpa [rsc] using Blk.cell h 0, by simpa [rsc] using Blk.cell h 1, by simpa [rsc] using Blk.cell h 2, Blk.lt h, Blk.frozen h⟩
set_option maxRecDepth 20000 in
set_option maxHeartbeats 4000000 in
theorem withinR_any (n a b : Int) (w : World) : Calls Tryd.prog 35 #[.int .i64 n, .int .i64 a, .int .i64 b] w fun e w' => e = .returned (.bool (decide (a ≤ n ∧ n ≤ b))) ∧ w = w' := by
  by_cases h1 : a ≤ n
  · have d1 : decide (n ≥ a) = true := decide_eq_true h1
    have d1' : decide (a ≤ n) = true := decide_eq_true h1
    by_cases h2 : n ≤ b
    · have d2 : decide (n ≤ b) = true := decide_eq_true h2
      go_enter Tryd.func35, Tryd.ntmps35
      go_wp2_with fail
      go_ret
      exact ⟨by simp [h1, h2], rfl⟩
    · have d2 : decide (n ≤ b) = false := decide_eq_false h2
      go_enter Tryd.func35, Tryd.ntmps35
      go_wp2_with fail
      go_ret
      exact ⟨by simp [h2], rfl⟩
  · have d1 : decide (n ≥ a) = false := decide_eq_false h1
    have d1' : decide (a ≤ n) = false := decide_eq_false h1
    go_enter Tryd.func35, Tryd.ntmps35
    go_wp2_with fail
    go_ret
    exact ⟨by simp [h1], rfl⟩
set_option maxRecDepth 20000 in
set_option maxHeartbeats 4000000 in
theorem MayRs_any (r : Rs) (v : Value) (hv : ∃ A c, v = .slice A r.l.length c) (w : World) : Calls Tryd.prog 26 #[.agg (rsc r v)] w fun e w' => e = .returned (.bool (mayRs r)) ∧ Chg [] w w' := by
  obtain ⟨A, c, rfl⟩ := hv
  obtain ⟨W2, hW2⟩ : ∃ W2, W2 = w.alloc (.cells (rsc r (.slice A r.l.length c)) 48) := ⟨_, rfl⟩
  have hb : XB W2 w.heap.size r (.slice A r.l.length c) := by rw [hW2]; exact Blk.new w _ _
  have HC := hide (show Chg [] w W2 by rw [hW2]; exact (Chg.refl [] w).alloc _)
  obtain ⟨q0, q1, q2, ql, -⟩ := XB.cells hb
  have HW2 := hide hW2
  have HIN := hide (fun W => withinR_any r.e 0 999 W)
  clear hb hW2
  obtain ⟨R, hR⟩ : ∃ R, R = mayRs r := ⟨_, rfl⟩
  rw [← hR]
  obtain ⟨e, z, l⟩ := r
  simp only at q0 q1 q2 HIN HC HW2
  unfold mayRs at hR
  simp only at hR
  generalize l.length = n at *
  have HR := hide hR
  clear hR
  by_cases h1 : 0 ≤ e ∧ e ≤ 999
  · rw [decide_eq_true h1] at HIN HR
    clear h1
    by_cases h2 : n ≤ 8
    · have d2 : decide ((n : Int) ≤ 8) = true := decide_eq_true (by omega)
      have d2' : decide (n ≤ 8) = true := decide_eq_true h2
      by_cases h3 : e = 0
      · subst h3
        go_enter Tryd.func26, Tryd.ntmps26
        go_wp2_with (first | (refine wpList_boxRs rfl _ rfl rfl ?_; try rw [← HW2.out]))
        refine (HIN.out _).mono ?_
        rintro e' W3 ⟨rfl, rfl⟩
        go_wp2_with fail
        go_ret
        exact ⟨by rw [HR.out]; simp [h2], HC.out⟩
      · have d3 : (e == 0) = false := beq_false_of_ne h3
        have d3' : decide (e = 0) = false := decide_eq_false h3
        by_cases h4 : z = 0
        · subst h4
          by_cases h5 : n = 0
          · subst h5
            go_enter Tryd.func26, Tryd.ntmps26
            go_wp2_with (first | (refine wpList_boxRs rfl _ rfl rfl ?_; try rw [← HW2.out]))
            refine (HIN.out _).mono ?_
            rintro e' W3 ⟨rfl, rfl⟩
            go_wp2_with fail
            go_ret
            exact ⟨by rw [HR.out]; simp, HC.out⟩
          · have d5 : ((n : Int) == 0) = false := beq_false_of_ne (by omega)
            have d5' : decide (n = 0) = false := decide_eq_false h5
            go_enter Tryd.func26, Tryd.ntmps26
            go_wp2_with (first | (refine wpList_boxRs rfl _ rfl rfl ?_; try rw [← HW2.out]))
            refine (HIN.out _).mono ?_
            rintro e' W3 ⟨rfl, rfl⟩
            go_wp2_with fail
            go_ret
            exact ⟨by rw [HR.out]; simp [h3, h5], HC.out⟩
        · have d4 : ((z : Int) == 0) = false := beq_false_of_ne (by omega)
          have d4' : decide (z = 0) = false := decide_eq_false h4
          go_enter Tryd.func26, Tryd.ntmps26
          go_wp2_with (first | (refine wpList_boxRs rfl _ rfl rfl ?_; try rw [← HW2.out]))
          refine (HIN.out _).mono ?_
          rintro e' W3 ⟨rfl, rfl⟩
          go_wp2_with fail
          go_ret
          exact ⟨by rw [HR.out]; simp [h3, h4], HC.out⟩
    · have d2 : decide ((n : Int) ≤ 8) = false := decide_eq_false (by omega)
      have d2' : decide (n ≤ 8) = false := decide_eq_false h2
      go_enter Tryd.func26, Tryd.ntmps26
      go_wp2_with (first | (refine wpList_boxRs rfl _ rfl rfl ?_; try rw [← HW2.out]))
      refine (HIN.out _).mono ?_
      rintro e' W3 ⟨rfl, rfl⟩
      go_wp2_with fail
      go_ret
      exact ⟨by rw [HR.out]; simp [h2], HC.out⟩
  · rw [decide_eq_false h1] at HIN HR
    clear h1
    go_enter Tryd.func26, Tryd.ntmps26
    go_wp2_with (first | (refine wpList_boxRs rfl _ rfl rfl ?_; try rw [← HW2.out]))
    refine (HIN.out _).mono ?_
    rintro e' W3 ⟨rfl, rfl⟩
    go_wp2_with fail
    go_ret
    exact ⟨by rw [HR.out]; simp, HC.out⟩
end Go.Proofs.YtinlpjgjjplceaaDoor
