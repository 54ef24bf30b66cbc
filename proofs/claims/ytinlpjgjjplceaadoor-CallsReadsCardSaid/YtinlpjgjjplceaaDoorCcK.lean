/- The document's May. -/
import Derived.Test.YtinlpjgjjplceaaDoorCcJ
namespace Go.Proofs.YtinlpjgjjplceaaDoor
open Go Go.RowKit

theorem ofK_l (k : Nat) (L l : List Nat) : (ofK k L l).l = l := by
  unfold ofK
  split <;> rfl
theorem RB_capW {w : World} {A : Option Addr} {n c : Nat} {l : List Nat} (h : RW w (.slice A n c) l) : n = l.length ∧ l.length ≤ c := by
  obtain ⟨_, A2, c2, e2, hle, _⟩ := h
  injection e2 with _ e4 e3
  subst e3
  exact ⟨e4, hle⟩
set_option maxRecDepth 20000 in
set_option maxHeartbeats 40000000 in
theorem rMayK_any {w : World} {x : Cl} {v : Value} (hx : x.Ok) (hv : RB w v x.l) :
    Calls Tryd.prog 16 #[.agg (clc x v)] w fun e w' => e = .returned (.bool (mayR x)) ∧ Chg [] w w' := by
  obtain ⟨A0, c0, rfl⟩ := RE.form hv
  obtain ⟨W2, hW2⟩ : ∃ W2, W2 = w.alloc (.cells (clc x (.slice A0 x.l.length c0)) 34) := ⟨_, rfl⟩
  have hb1 : KB W2 w.heap.size x (.slice A0 x.l.length c0) := by rw [hW2]; exact Blk.new w 34 _
  have hc1 : Chg [] w W2 := by rw [hW2]; exact (Chg.refl [] w).alloc _
  have HB := hide hb1
  have HC := hide hc1
  have HW2 := hide hW2
  have HV := hide hv
  have HX := hide hx
  clear hv hx hb1 hc1 hW2
  obtain ⟨R, hR⟩ : ∃ R, R = mayR x := ⟨_, rfl⟩
  rw [← hR]
  unfold mayR at hR
  have HR := hide hR
  clear hR
  go_enter Tryd.func16, Tryd.ntmps16
  go_wp2_with (first | (refine wpList_box34 rfl _ rfl rfl ?_; try rw [← HW2.out]) | (refine wpList_load34 rfl _ rfl rfl HB.out ?_))
  refine (List_any HX.out A0 x.l.length c0).mono ?_
  rintro e W3 ⟨⟨A3, n3, c3, rfl, hs3, -⟩, hc3⟩
  have HB3 := hide (KB.stay HB.out hc3)
  have HC3 := hide (HC.out.stay hc3)
  have n3l : n3 = (refL x).length := (RB_capW hs3.re).1
  subst n3l
  have HS3 := hide hs3
  clear hs3 hc3 HB HC HW2
  obtain ⟨b1, e1⟩ : ∃ b, b = w.heap.size := ⟨_, rfl⟩
  rw [← e1] at HB3 ⊢
  clear e1
  obtain ⟨c0', -, -, -, -, -, -, -, -, -, -, c11', cl', -⟩ := KB.cells HB3.out
  go_upto_region 2 with (fail)
  cases hk : isK x.k with
  | false =>
    rw [hk] at HR
    clear hk
    go_wp2_with fail
    go_ret
    exact ⟨by rw [HR.out]; rfl, HC3.out⟩
  | true =>
    rw [hk] at HR
    clear hk
    by_cases h8 : 8 < x.l.length
    · have d1 : decide ((8 : Int) < (x.l.length : Int)) = true := decide_eq_true (by omega)
      have d2 : decide (8 < x.l.length) = true := decide_eq_true h8
      have H8 := hide (show decide (x.l.length ≤ 8) = false from decide_eq_false (by omega))
      clear h8
      go_upto_region 3 with (fail)
      clear d1 d2
      go_wp2_with fail
      go_ret
      exact ⟨by rw [HR.out, H8.out]; rfl, HC3.out⟩
    have d1 : decide ((8 : Int) < (x.l.length : Int)) = false := decide_eq_false (by omega)
    have d2 : decide (8 < x.l.length) = false := decide_eq_false h8
    have H8 := hide (show decide (x.l.length ≤ 8) = true from decide_eq_true (by omega))
    rw [H8.out] at HR
    clear h8
    cases hh : hasBy x.k with
    | true =>
      rw [hh] at HR
      clear hh
      go_upto_region 4 with (fail)
      clear d1 d2 c0' c11' cl'
      have hS : Chg [] W3 W3.drew := (Chg.refl [] W3).drew
      refine wp_region_t [0,5,0,0,5,6,5,6,0] [none, none, none, none, none, none, none, none, none] (fun W => Chg [] W3 W) (by kernel_rfl) (by kernel_rfl) (by kernel_rfl) ?_
      go_wp2_with (first | (refine wpG_hload 27 _ rfl rfl (fun w' hw' => load_int Tryd.underlying27 (KB.cells (KB.stay HB3.out hw')).1) hS ?_; go_simp) | (refine wpG_hload 32 _ rfl rfl (fun w' hw' => load_slice Tryd.underlying32 (KB.cells (KB.stay HB3.out hw')).2.2.2.2.2.2.2.2.2.2.2.1) hS ?_; go_simp) | (refine wpG_calc rfl (fun K hK => ?_)) | (refine wpG_skip ?_ ?_; (focus (simp [wantG]; done)); go_simp) | (refine wpG_take ?_ ?_; (focus (simp [wantG]; done))) | (refine wpG_pure (fun K hK => ?_); go_simp; refine hK _ _ ?_; clear hK K) | (refine wpG_deed (by decide) (fun K hK => ?_); go_simp) | (refine wpG_nil ?_))
      (refine wpG_keeps hS (fun K hK => ?_))
      go_simp
      refine (Of_any (HS3.out.stay hS).re (refL_len x) (refL_lt HX.out) HX.out.k x.l A0 x.l.length c0).mono ?_
      rintro e W4 ⟨rfl, hc4⟩
      have hS4 : Chg [] W3 W4 := hS.stay hc4
      refine hK _ _ hS4 ?_
      clear hK K hc4 hS
      go_wp2_with (first | (refine wpG_hload 34 _ rfl rfl (fun w' hw' => KB.load (KB.stay HB3.out hw')) hS4 ?_) | (refine wpG_calc rfl (fun K hK => ?_)) | (refine wpG_skip ?_ ?_; (focus (simp [wantG]; done)); go_simp) | (refine wpG_take ?_ ?_; (focus (simp [wantG]; done))) | (refine wpG_pure (fun K hK => ?_); go_simp; refine hK _ _ ?_; clear hK K) | (refine wpG_deed (by decide) (fun K hK => ?_); go_simp) | (refine wpG_nil ?_))
      (refine wpG_keeps hS4 (fun K hK => ?_))
      go_simp
      refine (rSame_any (x := ofK x.k (refL x) x.l) (y := x) (by rw [ofK_l]; exact HV.out.stay (HC3.out.stay hS4)) (HV.out.stay (HC3.out.stay hS4)) (by rw [ofK_l]; exact HX.out.l) HX.out.l).mono ?_
      rintro e W5 ⟨rfl, hc5⟩
      have hS5 : Chg [] W3 W5 := hS4.stay hc5
      refine hK _ _ hS5 ?_
      clear hK K hc5 hS4
      go_wp2_with (first | fail | (refine wpG_calc rfl (fun K hK => ?_)) | (refine wpG_skip ?_ ?_; (focus (simp [wantG]; done)); go_simp) | (refine wpG_take ?_ ?_; (focus (simp [wantG]; done))) | (refine wpG_pure (fun K hK => ?_); go_simp; refine hK _ _ ?_; clear hK K) | (refine wpG_deed (by decide) (fun K hK => ?_); go_simp) | (refine wpG_nil ?_))
      go_ret
      exact ⟨by rw [HR.out]; simp, HC3.out.stay hS5⟩
    | false =>
      rw [hh] at HR
      clear hh
      by_cases h0 : 0 < x.l.length
      · have d3 : decide ((0 : Int) < (x.l.length : Int)) = true := decide_eq_true (by omega)
        have d4 : decide (0 < x.l.length) = true := decide_eq_true h0
        have H0 := hide (show decide (x.l.length = 0) = false from decide_eq_false (by omega))
        clear h0
        go_upto_region 3 with (fail)
        clear d1 d2 d3 d4
        go_wp2_with fail
        go_ret
        exact ⟨by rw [HR.out, H0.out]; rfl, HC3.out⟩
      have d3 : decide ((0 : Int) < (x.l.length : Int)) = false := decide_eq_false (by omega)
      have d4 : decide (0 < x.l.length) = false := decide_eq_false h0
      have H0 := hide (show decide (x.l.length = 0) = true from decide_eq_true (by omega))
      rw [H0.out] at HR
      clear h0
      go_upto_region 4 with (fail)
      clear d1 d2 d3 d4 c0' c11' cl'
      have hS : Chg [] W3 W3.drew := (Chg.refl [] W3).drew
      refine wp_region_t [0,5,0,0,5,6,5,6,0] [none, none, none, none, none, none, none, none, none] (fun W => Chg [] W3 W) (by kernel_rfl) (by kernel_rfl) (by kernel_rfl) ?_
      go_wp2_with (first | (refine wpG_hload 27 _ rfl rfl (fun w' hw' => load_int Tryd.underlying27 (KB.cells (KB.stay HB3.out hw')).1) hS ?_; go_simp) | (refine wpG_hload 32 _ rfl rfl (fun w' hw' => load_slice Tryd.underlying32 (KB.cells (KB.stay HB3.out hw')).2.2.2.2.2.2.2.2.2.2.2.1) hS ?_; go_simp) | (refine wpG_calc rfl (fun K hK => ?_)) | (refine wpG_skip ?_ ?_; (focus (simp [wantG]; done)); go_simp) | (refine wpG_take ?_ ?_; (focus (simp [wantG]; done))) | (refine wpG_pure (fun K hK => ?_); go_simp; refine hK _ _ ?_; clear hK K) | (refine wpG_deed (by decide) (fun K hK => ?_); go_simp) | (refine wpG_nil ?_))
      (refine wpG_keeps hS (fun K hK => ?_))
      go_simp
      refine (Of_any (HS3.out.stay hS).re (refL_len x) (refL_lt HX.out) HX.out.k x.l A0 x.l.length c0).mono ?_
      rintro e W4 ⟨rfl, hc4⟩
      have hS4 : Chg [] W3 W4 := hS.stay hc4
      refine hK _ _ hS4 ?_
      clear hK K hc4 hS
      go_wp2_with (first | (refine wpG_hload 34 _ rfl rfl (fun w' hw' => KB.load (KB.stay HB3.out hw')) hS4 ?_) | (refine wpG_calc rfl (fun K hK => ?_)) | (refine wpG_skip ?_ ?_; (focus (simp [wantG]; done)); go_simp) | (refine wpG_take ?_ ?_; (focus (simp [wantG]; done))) | (refine wpG_pure (fun K hK => ?_); go_simp; refine hK _ _ ?_; clear hK K) | (refine wpG_deed (by decide) (fun K hK => ?_); go_simp) | (refine wpG_nil ?_))
      (refine wpG_keeps hS4 (fun K hK => ?_))
      go_simp
      refine (rSame_any (x := ofK x.k (refL x) x.l) (y := x) (by rw [ofK_l]; exact HV.out.stay (HC3.out.stay hS4)) (HV.out.stay (HC3.out.stay hS4)) (by rw [ofK_l]; exact HX.out.l) HX.out.l).mono ?_
      rintro e W5 ⟨rfl, hc5⟩
      have hS5 : Chg [] W3 W5 := hS4.stay hc5
      refine hK _ _ hS5 ?_
      clear hK K hc5 hS4
      go_wp2_with (first | fail | (refine wpG_calc rfl (fun K hK => ?_)) | (refine wpG_skip ?_ ?_; (focus (simp [wantG]; done)); go_simp) | (refine wpG_take ?_ ?_; (focus (simp [wantG]; done))) | (refine wpG_pure (fun K hK => ?_); go_simp; refine hK _ _ ?_; clear hK K) | (refine wpG_deed (by decide) (fun K hK => ?_); go_simp) | (refine wpG_nil ?_))
      go_ret
      exact ⟨by rw [HR.out]; simp, HC3.out.stay hS5⟩
end Go.Proofs.YtinlpjgjjplceaaDoor
