/- Results: whether two are alike. -/
import Derived.Test.YtinlpjgjjplceaaDoorCbD
import Derived.Test.YtinlpjgjjplceaaDoorCaD
namespace Go.Proofs.YtinlpjgjjplceaaDoor
open Go Go.RowKit

set_option maxRecDepth 20000 in
set_option maxHeartbeats 8000000 in
theorem SameRs_any {w : World} {x y : Rs} {v u : Value} (hv : RB w v x.l) (hu : RB w u y.l) (hl : ∀ b ∈ x.l, b < 256) (hm : ∀ b ∈ y.l, b < 256) :
    Calls Tryd.prog 28 #[.agg (rsc x v), .agg (rsc y u)] w fun e w' => e = .returned (.bool (sameRs x y)) ∧ Chg [] w w' := by
  obtain ⟨A0, c0, rfl⟩ := RE.form hv
  obtain ⟨A1, c1, rfl⟩ := RE.form hu
  obtain ⟨W2, hW2⟩ : ∃ W2, W2 = (w.alloc (.cells (rsc x (.slice A0 x.l.length c0)) 48)).alloc (.cells (rsc y (.slice A1 y.l.length c1)) 48) := ⟨_, rfl⟩
  have hc2 : Chg [] w W2 := by rw [hW2]; exact ((Chg.refl [] w).alloc _).alloc _
  have hb1 : XB W2 w.heap.size x (.slice A0 x.l.length c0) := by rw [hW2]; exact (Blk.new w _ _).alloc _
  have hb2 : XB W2 (w.heap.size + 1) y (.slice A1 y.l.length c1) := by
    have := Blk.new (w.alloc (.cells (rsc x (.slice A0 x.l.length c0)) 48)) 48 (rsc y (.slice A1 y.l.length c1))
    rw [World.size_alloc] at this
    rw [hW2]
    exact this
  have HEQ := hide (Equal_any (hv.stay hc2) (hu.stay hc2) hl hm)
  have HC := hide hc2
  have HW2 := hide hW2
  obtain ⟨p0, p1, p2, pl, -⟩ := XB.cells hb1
  obtain ⟨q0, q1, q2, ql, -⟩ := XB.cells hb2
  clear hv hu hl hm hW2 hc2 hb1 hb2
  obtain ⟨e, z, l⟩ := x
  obtain ⟨e', z', l'⟩ := y
  simp only at p0 p1 p2 q0 q1 q2 HEQ HW2
  by_cases h1 : e = e'
  · subst h1
    by_cases h2 : z = z'
    · subst h2
      have hR : sameRs ⟨e, z, l⟩ ⟨e, z, l'⟩ = decide (l = l') := by simp [sameRs]
      rw [hR]
      generalize decide (l = l') = r at HEQ
      clear hR
      go_enter Tryd.func28, Tryd.ntmps28
      go_wp2_with (first | (refine wpList_boxRs rfl _ rfl rfl ?_; try simp only [World.size_alloc]; try rw [← HW2.out]))
      refine HEQ.out.mono ?_
      rintro e' W3 ⟨rfl, rfl⟩
      go_wp2_with fail
      go_ret
      exact ⟨by simp, HC.out⟩
    · have d2 : ((z : Int) == (z' : Int)) = false := beq_false_of_ne (by omega)
      have d2' : decide (z = z') = false := decide_eq_false h2
      have hR : sameRs ⟨e, z, l⟩ ⟨e, z', l'⟩ = false := by simp [sameRs, h2]
      rw [hR]
      clear hR HEQ h2
      go_enter Tryd.func28, Tryd.ntmps28
      go_wp2_with (first | (refine wpList_boxRs rfl _ rfl rfl ?_; try simp only [World.size_alloc]; try rw [← HW2.out]))
      go_ret
      exact ⟨rfl, HC.out⟩
  · have d1 : (e == e') = false := beq_false_of_ne h1
    have hR : sameRs ⟨e, z, l⟩ ⟨e', z', l'⟩ = false := by simp [sameRs, h1]
    rw [hR]
    clear hR HEQ h1
    go_enter Tryd.func28, Tryd.ntmps28
    go_wp2_with (first | (refine wpList_boxRs rfl _ rfl rfl ?_; try simp only [World.size_alloc]; try rw [← HW2.out]))
    go_ret
    exact ⟨rfl, HC.out⟩
set_option maxRecDepth 20000 in
set_option maxHeartbeats 8000000 in
theorem rSameRs_any {w : World} {x y : Rs} {v u : Value} (hv : RB w v x.l) (hu : RB w u y.l) (hl : ∀ b ∈ x.l, b < 256) (hm : ∀ b ∈ y.l, b < 256) :
    Calls Tryd.prog 24 #[.agg (rsc x v), .agg (rsc y u)] w fun e w' => e = .returned (.bool (sameRs x y)) ∧ Chg [] w w' := by
  obtain ⟨A0, c0, rfl⟩ := RE.form hv
  obtain ⟨A1, c1, rfl⟩ := RE.form hu
  obtain ⟨W2, hW2⟩ : ∃ W2, W2 = (w.alloc (.cells (rsc x (.slice A0 x.l.length c0)) 48)).alloc (.cells (rsc y (.slice A1 y.l.length c1)) 48) := ⟨_, rfl⟩
  have hc2 : Chg [] w W2 := by rw [hW2]; exact ((Chg.refl [] w).alloc _).alloc _
  have hb1 : XB W2 w.heap.size x (.slice A0 x.l.length c0) := by rw [hW2]; exact (Blk.new w _ _).alloc _
  have hb2 : XB W2 (w.heap.size + 1) y (.slice A1 y.l.length c1) := by
    have := Blk.new (w.alloc (.cells (rsc x (.slice A0 x.l.length c0)) 48)) 48 (rsc y (.slice A1 y.l.length c1))
    rw [World.size_alloc] at this
    rw [hW2]
    exact this
  have hcv := run_str (hv.stay hc2) hl
  have hcu := run_str (hu.stay hc2) hm
  have hsl := strB_list hl hm
  have HC := hide hc2
  have HW2 := hide hW2
  obtain ⟨p0, p1, p2, pl, -⟩ := XB.cells hb1
  obtain ⟨q0, q1, q2, ql, -⟩ := XB.cells hb2
  clear hv hu hl hm hW2 hc2 hb1 hb2
  obtain ⟨e, z, l⟩ := x
  obtain ⟨e', z', l'⟩ := y
  simp only at p0 p1 p2 q0 q1 q2 HW2 hcv hcu hsl
  by_cases h1 : e = e'
  · subst h1
    by_cases h2 : z = z'
    · subst h2
      have hR : sameRs ⟨e, z, l⟩ ⟨e, z, l'⟩ = decide (l = l') := by simp [sameRs]
      rw [hR]
      generalize strB l = sx at hcv hsl
      generalize strB l' = sy at hcu hsl
      generalize decide (l = l') = r at hsl ⊢
      clear hR
      cases r with
      | true =>
        go_enter Tryd.func24, Tryd.ntmps24
        go_wp2_with (first | (refine wpList_boxRs rfl _ rfl rfl ?_; try simp only [World.size_alloc]; try rw [← HW2.out]))
        go_ret
        exact ⟨rfl, HC.out⟩
      | false =>
        go_enter Tryd.func24, Tryd.ntmps24
        go_wp2_with (first | (refine wpList_boxRs rfl _ rfl rfl ?_; try simp only [World.size_alloc]; try rw [← HW2.out]))
        go_ret
        exact ⟨rfl, HC.out⟩
    · have d2 : ((z : Int) == (z' : Int)) = false := beq_false_of_ne (by omega)
      have d2' : decide (z = z') = false := decide_eq_false h2
      have hR : sameRs ⟨e, z, l⟩ ⟨e, z', l'⟩ = false := by simp [sameRs, h2]
      rw [hR]
      clear hR h2 hcv hcu hsl
      go_enter Tryd.func24, Tryd.ntmps24
      go_wp2_with (first | (refine wpList_boxRs rfl _ rfl rfl ?_; try simp only [World.size_alloc]; try rw [← HW2.out]))
      go_ret
      exact ⟨rfl, HC.out⟩
  · have d1 : (e == e') = false := beq_false_of_ne h1
    have hR : sameRs ⟨e, z, l⟩ ⟨e', z', l'⟩ = false := by simp [sameRs, h1]
    rw [hR]
    clear hR h1 hcv hcu hsl
    go_enter Tryd.func24, Tryd.ntmps24
    go_wp2_with (first | (refine wpList_boxRs rfl _ rfl rfl ?_; try simp only [World.size_alloc]; try rw [← HW2.out]))
    go_ret
    exact ⟨rfl, HC.out⟩
end Go.Proofs.YtinlpjgjjplceaaDoor
