/- The document's: whether a result may be; a range of pages. -/
import Derived.Test.YtinlpjgjjplceaaDoorCcA
import Derived.Deep.CutRange
import Derived.Deep.CutBlock
namespace Go.Proofs.YtinlpjgjjplceaaDoor
open Go Go.RowKit

set_option maxRecDepth 20000 in
set_option maxHeartbeats 4000000 in
theorem rMayRs_any (r : Rs) (v : Value) (hv : ∃ A c, v = .slice A r.l.length c) (w : World) : Calls Tryd.prog 27 #[.agg (rsc r v)] w fun e w' => e = .returned (.bool (mayRs r)) ∧ Chg [] w w' := by
  obtain ⟨A, c, rfl⟩ := hv
  obtain ⟨W2, hW2⟩ : ∃ W2, W2 = w.alloc (.cells (rsc r (.slice A r.l.length c)) 48) := ⟨_, rfl⟩
  have hb : XB W2 w.heap.size r (.slice A r.l.length c) := by rw [hW2]; exact Blk.new w _ _
  have HC := hide (show Chg [] w W2 by rw [hW2]; exact (Chg.refl [] w).alloc _)
  obtain ⟨q0, q1, q2, ql, -⟩ := XB.cells hb
  have HW2 := hide hW2
  clear hb hW2
  obtain ⟨R, hR⟩ : ∃ R, R = mayRs r := ⟨_, rfl⟩
  rw [← hR]
  obtain ⟨e, z, l⟩ := r
  simp only at q0 q1 q2 HC HW2
  unfold mayRs at hR
  simp only at hR
  generalize l.length = n at *
  have HR := hide hR
  clear hR
  by_cases h0 : e < 0
  · have d0 : decide (e < 0) = true := decide_eq_true h0
    have HN := hide (show ¬ (0 ≤ e ∧ e ≤ 999) by omega)
    clear h0
    go_enter Tryd.func27, Tryd.ntmps27
    go_wp2_with (first | (refine wpList_boxRs rfl _ rfl rfl ?_; try rw [← HW2.out]))
    go_ret
    exact ⟨by rw [HR.out, decide_eq_false HN.out]; simp, HC.out⟩
  have d0 : decide (e < 0) = false := decide_eq_false h0
  by_cases h1 : 999 < e
  · have d1 : decide (999 < e) = true := decide_eq_true h1
    have HN := hide (show ¬ (0 ≤ e ∧ e ≤ 999) by omega)
    clear h0 h1
    go_enter Tryd.func27, Tryd.ntmps27
    go_wp2_with (first | (refine wpList_boxRs rfl _ rfl rfl ?_; try rw [← HW2.out]))
    go_ret
    exact ⟨by rw [HR.out, decide_eq_false HN.out]; simp, HC.out⟩
  have d1 : decide (999 < e) = false := decide_eq_false h1
  have HN := hide (show (0 ≤ e ∧ e ≤ 999) by omega)
  have h1' : ¬ (999 < e) := h1
  have h0' : ¬ (e < 0) := h0
  rw [decide_eq_true HN.out] at HR
  by_cases h2 : 8 < n
  · have d2 : decide ((8 : Int) < (n : Int)) = true := decide_eq_true (by omega)
    have d2' : decide (8 < n) = true := decide_eq_true h2
    have HL := hide (show decide (n ≤ 8) = false from decide_eq_false (by omega))
    clear h0 h1
    go_enter Tryd.func27, Tryd.ntmps27
    go_wp2_with (first | (refine wpList_boxRs rfl _ rfl rfl ?_; try rw [← HW2.out]))
    go_ret
    exact ⟨by rw [HR.out, HL.out]; simp, HC.out⟩
  have d2 : decide ((8 : Int) < (n : Int)) = false := decide_eq_false (by omega)
  have d2' : decide (8 < n) = false := decide_eq_false h2
  have HL := hide (show decide (n ≤ 8) = true from decide_eq_true (by omega))
  rw [HL.out] at HR
  clear h2 HL HN
  by_cases h3 : e = 0
  · have d3 : (e == 0) = true := by rw [h3]; rfl
    have HD3 := hide (show decide (e = 0) = true from decide_eq_true h3)
    rw [HD3.out] at HR
    clear h0 h1 h3
    go_enter Tryd.func27, Tryd.ntmps27
    go_upto_region 1 with (first | (refine wpList_boxRs rfl _ rfl rfl ?_; try rw [← HW2.out]))
    go_upto_region 3 with (fail)
    clear d0 d1 h1' h0' d2 d2'
    try clear HD3
    go_wp2_with fail
    go_ret
    exact ⟨by rw [HR.out]; simp, HC.out⟩
  have d3 : (e == 0) = false := beq_false_of_ne h3
  have HD3 := hide (show decide (e = 0) = false from decide_eq_false h3)
  rw [HD3.out] at HR
  by_cases h4 : z = 0
  · subst h4
    by_cases h5 : n = 0
    · subst h5
      clear h0 h1
      go_enter Tryd.func27, Tryd.ntmps27
      go_upto_region 1 with (first | (refine wpList_boxRs rfl _ rfl rfl ?_; try rw [← HW2.out]))
      go_upto_region 3 with (fail)
      clear d0 d1 h1' h0' d2 d2'
      try clear HD3
      go_wp2_with fail
      go_ret
      exact ⟨by rw [HR.out]; simp, HC.out⟩
    · have d5 : ((n : Int) == 0) = false := beq_false_of_ne (by omega)
      have d5' : decide (n = 0) = false := decide_eq_false h5
      clear h0 h1
      go_enter Tryd.func27, Tryd.ntmps27
      go_upto_region 1 with (first | (refine wpList_boxRs rfl _ rfl rfl ?_; try rw [← HW2.out]))
      go_upto_region 3 with (fail)
      clear d0 d1 h1' h0' d2 d2'
      try clear HD3
      go_wp2_with fail
      go_ret
      exact ⟨by rw [HR.out, d5']; simp, HC.out⟩
  · have d4 : ((z : Int) == 0) = false := beq_false_of_ne (by omega)
    have d4' : decide (z = 0) = false := decide_eq_false h4
    clear h0 h1
    go_enter Tryd.func27, Tryd.ntmps27
    go_upto_region 1 with (first | (refine wpList_boxRs rfl _ rfl rfl ?_; try rw [← HW2.out]))
    go_upto_region 3 with (fail)
    clear d0 d1 h1' h0' d2 d2'
    try clear HD3
    go_wp2_with fail
    go_ret
    exact ⟨by rw [HR.out, d4']; simp, HC.out⟩
/-- a range of pages, by the document -/
def pgs (g c : Int) : Bool := decide ((0 ≤ g ∧ g < 1024) ∧ (1 ≤ c ∧ c ≤ 1024) ∧ g + c ≤ 1024)
set_option maxRecDepth 20000 in
set_option maxHeartbeats 4000000 in
theorem rPages_any (g c : Int) (w : World) : Calls Tryd.prog 39 #[.int .i64 g, .int .i64 c] w fun e w' => e = .returned (.bool (pgs g c)) ∧ Chg [] w w' := by
  obtain ⟨R, hR⟩ : ∃ R, R = pgs g c := ⟨_, rfl⟩
  rw [← hR]
  unfold pgs at hR
  have HR := hide hR
  clear hR
  by_cases h0 : 0 ≤ g
  case neg =>
    have d0 : decide (0 ≤ g) = false := decide_eq_false h0
    go_enter Tryd.func39, Tryd.ntmps39
    go_wp2_with fail
    go_ret
    exact ⟨by rw [HR.out, decide_eq_false (by omega)]; rfl, Chg.refl _ _⟩
  have d0 : decide (0 ≤ g) = true := decide_eq_true h0
  by_cases h1 : g < 1024
  case neg =>
    have d1 : decide (g < 1024) = false := decide_eq_false h1
    go_enter Tryd.func39, Tryd.ntmps39
    go_wp2_with fail
    go_ret
    exact ⟨by rw [HR.out, decide_eq_false (by omega)]; rfl, Chg.refl _ _⟩
  have d1 : decide (g < 1024) = true := decide_eq_true h1
  by_cases h2 : 1 ≤ c
  case neg =>
    have d2 : decide (1 ≤ c) = false := decide_eq_false h2
    go_enter Tryd.func39, Tryd.ntmps39
    go_wp2_with fail
    go_ret
    exact ⟨by rw [HR.out, decide_eq_false (by omega)]; rfl, Chg.refl _ _⟩
  have d2 : decide (1 ≤ c) = true := decide_eq_true h2
  by_cases h3 : c ≤ 1024
  case neg =>
    have d3 : decide (c ≤ 1024) = false := decide_eq_false h3
    go_enter Tryd.func39, Tryd.ntmps39
    go_wp2_with fail
    go_ret
    exact ⟨by rw [HR.out, decide_eq_false (by omega)]; rfl, Chg.refl _ _⟩
  have d3 : decide (c ≤ 1024) = true := decide_eq_true h3
  have hw : IntKind.i64.wrap (g + c) = g + c := by rw [IntKind.wrap_i64]; omega
  by_cases h4 : g + c ≤ 1024
  · have d4 : decide (g + c ≤ 1024) = true := decide_eq_true h4
    go_enter Tryd.func39, Tryd.ntmps39
    go_wp2_with fail
    go_ret
    exact ⟨by rw [HR.out, decide_eq_true (by omega)]; rfl, Chg.refl _ _⟩
  · have d4 : decide (g + c ≤ 1024) = false := decide_eq_false h4
    go_enter Tryd.func39, Tryd.ntmps39
    go_wp2_with fail
    go_ret
    exact ⟨by rw [HR.out, decide_eq_false (by omega)]; rfl, Chg.refl _ _⟩
end Go.Proofs.YtinlpjgjjplceaaDoor
