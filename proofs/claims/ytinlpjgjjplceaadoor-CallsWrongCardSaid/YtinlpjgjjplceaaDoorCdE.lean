/- CallsWrong: its walk. -/
import Derived.Test.YtinlpjgjjplceaaDoorCaP
import Derived.Test.YtinlpjgjjplceaaDoorCcC
import Derived.Test.YtinlpjgjjplceaaDoorCcM
namespace Go.Proofs.YtinlpjgjjplceaaDoor
open Go Go.RowKit

set_option maxRecDepth 20000 in
set_option maxHeartbeats 40000000 in
theorem wrong_law {w : World} (hf : FW w) (c : Cf) {x : Cl} {v : Value} (hx : x.Ok) (hv : RB w v x.l) :
    Calls Tryd.prog 3 #[.agg (cg c), .agg (clc x v)] w fun e w' => e = .returned (.bool true) ∧ Chg [] w w' := by
  obtain ⟨A0, c0, rfl⟩ := RE.form hv
  obtain ⟨W2, hW2⟩ : ∃ W2, W2 = (w.alloc (.cells (cg c) 26)).alloc (.cells (clc x (.slice A0 x.l.length c0)) 34) := ⟨_, rfl⟩
  have hc2 : Chg [] w W2 := by rw [hW2]; exact ((Chg.refl [] w).alloc _).alloc _
  have hb1 : CB W2 w.heap.size c := by rw [hW2]; exact (Blk.new w 26 _).alloc _
  have hb2 : KB W2 (w.heap.size + 1) x (.slice A0 x.l.length c0) := by
    have := Blk.new (w.alloc (.cells (cg c) 26)) 34 (clc x (.slice A0 x.l.length c0))
    rw [World.size_alloc] at this
    rw [hW2]
    exact this
  have HB := hide (And.intro hb1 hb2)
  have HC := hide hc2
  have HW2 := hide hW2
  have HV := hide hv
  have HX := hide hx
  have HKN := hide (fun W (h : Chg [] w W) => knownK_any (hf.stay h))
  have HF := hide hf
  obtain ⟨-, -, -, -, -, -, -, -, -, -, -, q11, ql, -⟩ := KB.cells hb2
  clear hf hx hv hW2 hc2 hb1 hb2
  by_cases l1 : 1000 < x.l.length
  · have d1 : decide ((1000 : Int) < (x.l.length : Int)) = true := decide_eq_true (by omega)
    have d1' : decide (1000 < x.l.length) = true := decide_eq_true l1
    clear l1
    go_enter Tryd.func3, Tryd.ntmps3
    go_wp2_with (first | (refine wpList_box26 rfl _ rfl rfl ?_) | (refine wpList_box34 rfl _ rfl rfl ?_; try simp only [World.size_alloc]; try rw [← HW2.out]))
    refine (HKN.out _ HC.out).mono ?_
    rintro e W3 ⟨rfl, hc3⟩
    go_wp2_with fail
    go_ret
    exact ⟨rfl, HC.out.stay hc3⟩
  have d1 : decide ((1000 : Int) < (x.l.length : Int)) = false := decide_eq_false (by omega)
  have d1' : decide (1000 < x.l.length) = false := decide_eq_false l1
  have HLN := hide (show x.l.length ≤ 1000 by omega)
  clear l1
  go_enter Tryd.func3, Tryd.ntmps3
  go_upto_region 3 with (first | (refine wpList_box26 rfl _ rfl rfl ?_) | (refine wpList_box34 rfl _ rfl rfl ?_; try simp only [World.size_alloc]; try rw [← HW2.out]))
  clear d1 d1' q11 ql
  have HWR := hide (fun W (h : Chg [] w W) v' (hv' : RB W v' x.l) => WrongK_any (HF.out.stay h) c HX.out hv')
  have HRW := hide (fun W (h : Chg [] w W) => rWrongK_any c HX.out (HV.out.stay h))
  rw [wrong_eq c HX.out] at HWR
  generalize rWrongK c x = r at HWR HRW
  have hS : Chg [] W2 W2.drew := (Chg.refl [] W2).drew
  refine wp_region_t [5,5,6,6,5,5,6,0,0,6,0,0] [none, none, none, none, none, none, none, none, none, some (18, true), none, none] (fun W => Chg [] W2 W) (by kernel_rfl) (by kernel_rfl) (by kernel_rfl) ?_
  go_wp2_with (first | (refine wpG_hload 26 _ rfl rfl (fun w' hw' => load26 (Blk.chg HB.out.1 hw' List.not_mem_nil)) hS ?_) | (refine wpG_hload 34 _ rfl rfl (fun w' hw' => KB.load (KB.stay HB.out.2 hw')) hS ?_) | (refine wpG_calc rfl (fun K hK => ?_)) | (refine wpG_skip ?_ ?_; (focus (simp [wantG]; done)); go_simp) | (refine wpG_take ?_ ?_; (focus (simp [wantG]; done))) | (refine wpG_pure (fun K hK => ?_); go_simp; refine hK _ _ ?_; clear hK K) | (refine wpG_deed (by decide) (fun K hK => ?_); go_simp) | (refine wpG_nil ?_))
  (refine wpG_keeps hS (fun K hK => ?_))
  go_simp
  refine (copied_any (RE.stay HV.out (HC.out.stay hS)) HLN.out).mono ?_
  rintro e W3 ⟨⟨A3, n3, c3, rfl, hs3, -⟩, hc3⟩
  have hS3 : Chg [] W2 W3 := hS.stay hc3
  refine hK _ _ hS3 ?_
  clear hK K hc3 hS
  (refine wpG_keeps hS3 (fun K hK => ?_))
  go_simp
  refine (HWR.out W3 (HC.out.stay hS3) _ hs3.re).mono ?_
  rintro e W4 ⟨rfl, hc4⟩
  have hS4 : Chg [] W2 W4 := hS3.stay hc4
  refine hK _ _ hS4 ?_
  clear hK K hc4 hS3 hs3
  go_wp2_with (first | (refine wpG_hload 26 _ rfl rfl (fun w' hw' => load26 (Blk.chg HB.out.1 hw' List.not_mem_nil)) hS4 ?_) | (refine wpG_hload 34 _ rfl rfl (fun w' hw' => KB.load (KB.stay HB.out.2 hw')) hS4 ?_) | (refine wpG_calc rfl (fun K hK => ?_)) | (refine wpG_skip ?_ ?_; (focus (simp [wantG]; done)); go_simp) | (refine wpG_take ?_ ?_; (focus (simp [wantG]; done))) | (refine wpG_pure (fun K hK => ?_); go_simp; refine hK _ _ ?_; clear hK K) | (refine wpG_deed (by decide) (fun K hK => ?_); go_simp) | (refine wpG_nil ?_))
  (refine wpG_keeps hS4 (fun K hK => ?_))
  go_simp
  refine (HRW.out W4 (HC.out.stay hS4)).mono ?_
  rintro e W5 ⟨rfl, hc5⟩
  have hS5 : Chg [] W2 W5 := hS4.stay hc5
  refine hK _ _ hS5 ?_
  clear hK K hc5 hS4
  go_wp2_with (first | fail | (refine wpG_calc rfl (fun K hK => ?_)) | (refine wpG_skip ?_ ?_; (focus (simp [wantG]; done)); go_simp) | (refine wpG_take ?_ ?_; (focus (simp [wantG]; done))) | (refine wpG_pure (fun K hK => ?_); go_simp; refine hK _ _ ?_; clear hK K) | (refine wpG_deed (by decide) (fun K hK => ?_); go_simp) | (refine wpG_nil ?_))
  (refine wpG_keeps hS5 (fun K hK => ?_))
  go_simp
  refine (HKN.out W5 (HC.out.stay hS5)).mono ?_
  rintro e W6 ⟨rfl, hc6⟩
  have hS6 : Chg [] W2 W6 := hS5.stay hc6
  refine hK _ _ hS6 ?_
  clear hK K hc6
  go_wp2_with (first | fail | (refine wpG_calc rfl (fun K hK => ?_)) | (refine wpG_skip ?_ ?_; (focus (simp [wantG]; done)); go_simp) | (refine wpG_take ?_ ?_; (focus (simp [wantG]; done))) | (refine wpG_pure (fun K hK => ?_); go_simp; refine hK _ _ ?_; clear hK K) | (refine wpG_deed (by decide) (fun K hK => ?_); go_simp) | (refine wpG_nil ?_))
  go_ret
  exact ⟨rfl, HC.out.stay hS6⟩
end Go.Proofs.YtinlpjgjjplceaaDoor
