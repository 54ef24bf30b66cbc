/- May: may a call be? -/
import Derived.Test.YtinlpjgjjplceaaDoorCaD
namespace Go.Proofs.YtinlpjgjjplceaaDoor
open Go Go.RowKit

theorem setF_l (x y : Cl) (f : Nat) : (setF x y f).l = if f = 98 then x.l else y.l := by
  unfold setF
  by_cases h : f = 98
  · subst h; rfl
  · rw [if_neg h]
    repeat' split
    all_goals first | rfl | exact absurd (by assumption) h
theorem part_rb {w : World} {x : Cl} {v : Value} (hv : RB w v x.l) : ∀ (F : List Nat) (y : Cl) (u : Value), RB w u y.l → RB w (F.foldl (setU v) u) (F.foldl (setF x) y).l := by
  intro F
  induction F with
  | nil => intro y u h; exact h
  | cons f F ih =>
    intro y u h
    refine ih _ _ ?_
    rw [setF_l]
    unfold setU
    split
    · exact hv
    · exact h
theorem bare_rb {w : World} {x : Cl} {v : Value} (hv : RB w v x.l) : RB w (bareU x v) (bareK x).l := part_rb hv (fld x.k) { zCl with k := x.k } zV (RE.nil ucl 1 w none 0)
theorem part_b8 {x : Cl} (hx : ∀ b ∈ x.l, b < 256) : ∀ (F : List Nat) (y : Cl), (∀ b ∈ y.l, b < 256) → ∀ b ∈ (F.foldl (setF x) y).l, b < 256 := by
  intro F
  induction F with
  | nil => intro y h; exact h
  | cons f F ih =>
    intro y h
    refine ih _ ?_
    rw [setF_l]
    split
    · exact hx
    · exact h
theorem bare_b8 {x : Cl} (hx : ∀ b ∈ x.l, b < 256) : ∀ b ∈ (bareK x).l, b < 256 := part_b8 hx (fld x.k) { zCl with k := x.k } (by intro b hb; cases hb)
/-- may a call be? -/
def mayK (x : Cl) : Bool := (fld x.k != []) && sameB x (bareK x) && decide (x.l.length ≤ 8)
theorem str_ne (F : List Nat) : ((strB F).toList == []) = (F == []) := by
  rw [strB_toList]
  cases F <;> rfl
set_option maxRecDepth 20000 in
set_option maxHeartbeats 8000000 in
theorem MayK_any {w : World} (hf : FW w) {x : Cl} {v : Value} (hx : x.Ok) (hv : RB w v x.l) :
    Calls Tryd.prog 14 #[.agg (clc x v)] w fun e w' => e = .returned (.bool (mayK x)) ∧ Chg [] w w' := by
  obtain ⟨A0, c0, rfl⟩ := RE.form hv
  have hb1 := Blk.new w 34 (clc x (.slice A0 x.l.length c0))
  have hc1 : Chg [] w (w.alloc (.cells (clc x (.slice A0 x.l.length c0)) 34)) := (Chg.refl [] w).alloc _
  obtain ⟨W2, hW2⟩ : ∃ W2, W2 = w.alloc (.cells (clc x (.slice A0 x.l.length c0)) 34) := ⟨_, rfl⟩
  rw [← hW2] at hb1 hc1
  have HB := hide (show KB W2 w.heap.size x (.slice A0 x.l.length c0) from hb1)
  have HC := hide hc1
  obtain ⟨c1, c2, c3, c4, c5, c6, c7, c8, c9, c10, c11, c12, cl, cf⟩ := KB.cells hb1
  have HOF := hide (fun W (h : Chg [] w W) => of_any (hf.stay h) hx.k)
  have HBR := hide (fun W (h : Chg [] w W) => bareK_any (hf.stay h) (x := x) (v := .slice A0 x.l.length c0) hx.k ⟨_, _, _, rfl⟩)
  have HSM := hide (fun W (h : Chg [] w W) => SameK_any (x := x) (y := bareK x) (hv.stay h) (bare_rb (hv.stay h)) hx.l (bare_b8 hx.l))
  have HW2 := hide hW2
  clear hb1 hc1 hW2 hf hv hx c2 c3 c4 c5 c6 c7 c8 c9 c10 c11 cf
  have hs := str_ne (fld x.k)
  by_cases h0 : fld x.k = []
  · have hm : mayK x = false := by unfold mayK; rw [h0]; rfl
    rw [hm]
    rw [h0] at hs HOF
    have e1 : ((strB []).toList == []) = true := hs
    have e2 : ((strB []).toList != []) = false := by rw [bne, e1]; rfl
    have e3 : (strB []).toList = [] := by rw [strB_toList]; rfl
    generalize strB [] = s at e1 e2 e3 HOF
    clear hm h0 hs HBR HSM
    go_enter Tryd.func14, Tryd.ntmps14
    go_wp2_with (first | (refine wpList_box34 rfl _ rfl rfl ?_; try rw [← HW2.out]))
    refine wp_region_t [0,1,3,0,0,5,1,6,3,0,0,0,1,0,0,0,0] [none, none, none, none, none, some (7, true), some (7, true), some (7, true), some (7, true), none, none, some (13, true), some (13, true), some (13, true), some (13, true), none, none] (fun W => KB W w.heap.size x (.slice A0 x.l.length c0)) (by kernel_rfl) (by kernel_rfl) (by kernel_rfl) ?_
    go_wp2_with (first | fail | (refine wpG_calc rfl (fun K hK => ?_)) | (refine wpG_skip ?_ ?_; (focus (simp [wantG]; done)); go_simp) | (refine wpG_take ?_ ?_; (focus (simp [wantG]; done))) | (refine wpG_pure (fun K hK => ?_); go_simp; refine hK _ _ ?_; clear hK K) | (refine wpG_deed (by decide) (fun K hK => ?_); go_simp) | (refine wpG_nil ?_))
    refine (HOF.out W2.drew HC.out.drew).mono ?_
    rintro e W3 ⟨rfl, rfl⟩
    refine hK _ _ ?_
    clear hK K
    go_wp2_with (first | fail | (refine wpG_calc rfl (fun K hK => ?_)) | (refine wpG_skip ?_ ?_; (focus (simp [wantG]; done)); go_simp) | (refine wpG_take ?_ ?_; (focus (simp [wantG]; done))) | (refine wpG_pure (fun K hK => ?_); go_simp; refine hK _ _ ?_; clear hK K) | (refine wpG_deed (by decide) (fun K hK => ?_); go_simp) | (refine wpG_nil ?_))
    go_ret
    exact ⟨rfl, HC.out.drew⟩
  · have e1 : ((strB (fld x.k)).toList == []) = false := by rw [hs]; exact beq_false_of_ne h0
    have e2 : ((strB (fld x.k)).toList != []) = true := by rw [bne, e1]; rfl
    have e3 : ¬ (strB (fld x.k)).toList = [] := by simpa using e1
    have hm : mayK x = (sameB x (bareK x) && decide (x.l.length ≤ 8)) := by
      unfold mayK
      rw [show (fld x.k != []) = true from bne_iff_ne.2 h0, Bool.true_and]
    rw [hm]
    clear hm h0 hs
    generalize strB (fld x.k) = s at e1 e2 e3 HOF
    obtain ⟨y, hy⟩ : ∃ y, sameB x (bareK x) = y := ⟨_, rfl⟩
    rw [hy] at HSM ⊢
    clear hy
    generalize bareK x = z at HBR HSM
    generalize bareU x (.slice A0 x.l.length c0) = u at HBR HSM
    have d1 : ((x.l.length : Int) ≤ 8) = (x.l.length ≤ 8) := by simp; omega
    cases y with
    | false =>
      rw [Bool.false_and]
      go_enter Tryd.func14, Tryd.ntmps14
      go_wp2_with (first | (refine wpList_box34 rfl _ rfl rfl ?_; try rw [← HW2.out]))
      refine wp_region_t [0,1,3,0,0,5,5,6,3,0,0,0,1,0,0,0,0] [none, none, none, none, none, some (7, true), some (7, true), some (7, true), some (7, true), none, none, some (13, true), some (13, true), some (13, true), some (13, true), none, none] (fun W => KB W w.heap.size x (.slice A0 x.l.length c0)) (by kernel_rfl) (by kernel_rfl) (by kernel_rfl) ?_
      go_wp2_with (first | fail | (refine wpG_calc rfl (fun K hK => ?_)) | (refine wpG_skip ?_ ?_; (focus (simp [wantG]; done)); go_simp) | (refine wpG_take ?_ ?_; (focus (simp [wantG]; done))) | (refine wpG_pure (fun K hK => ?_); go_simp; refine hK _ _ ?_; clear hK K) | (refine wpG_deed (by decide) (fun K hK => ?_); go_simp) | (refine wpG_nil ?_))
      refine (HOF.out W2.drew HC.out.drew).mono ?_
      rintro e W3 ⟨rfl, rfl⟩
      refine hK _ _ ?_
      clear hK K
      have hS : KB W2.drew w.heap.size x (.slice A0 x.l.length c0) := HB.out.drew
      go_wp2_with (first | (refine wpG_hload 34 _ rfl rfl (fun w' hw' => KB.load hw') hS ?_) | (refine wpG_calc rfl (fun K hK => ?_)) | (refine wpG_skip ?_ ?_; (focus (simp [wantG]; done)); go_simp) | (refine wpG_take ?_ ?_; (focus (simp [wantG]; done))) | (refine wpG_pure (fun K hK => ?_); go_simp; refine hK _ _ ?_; clear hK K) | (refine wpG_deed (by decide) (fun K hK => ?_); go_simp) | (refine wpG_nil ?_))
      (refine wpG_keeps hS (fun K hK => ?_))
      go_simp
      refine (HBR.out W2.drew HC.out.drew).mono ?_
      rintro e W3 ⟨rfl, hc3⟩
      have HC3 := hide (HC.out.drew.stay hc3)
      have hS3 : KB W3 w.heap.size x (.slice A0 x.l.length c0) := KB.stay hS hc3
      refine hK _ _ hS3 ?_
      clear hK K hS
      have HS3 := hide hS3
      clear hS3
      go_wp2_with (first | fail | (refine wpG_calc rfl (fun K hK => ?_)) | (refine wpG_skip ?_ ?_; (focus (simp [wantG]; done)); go_simp) | (refine wpG_take ?_ ?_; (focus (simp [wantG]; done))) | (refine wpG_pure (fun K hK => ?_); go_simp; refine hK _ _ ?_; clear hK K) | (refine wpG_deed (by decide) (fun K hK => ?_); go_simp) | (refine wpG_nil ?_))
      refine (HSM.out _ HC3.out).mono ?_
      rintro e W4 ⟨rfl, hc4⟩
      refine hK _ _ ?_
      clear hK K
      obtain ⟨-, -, -, -, -, -, -, -, -, -, -, q12, ql, -⟩ := KB.cells (KB.stay HS3.out hc4)
      have HC4 := hide (HC3.out.stay hc4)
      clear hc3 hc4
      go_wp2_with (first | fail | (refine wpG_calc rfl (fun K hK => ?_)) | (refine wpG_skip ?_ ?_; (focus (simp [wantG]; done)); go_simp) | (refine wpG_take ?_ ?_; (focus (simp [wantG]; done))) | (refine wpG_pure (fun K hK => ?_); go_simp; refine hK _ _ ?_; clear hK K) | (refine wpG_deed (by decide) (fun K hK => ?_); go_simp) | (refine wpG_nil ?_))
      go_ret
      exact ⟨rfl, HC4.out⟩
    | true =>
      rw [Bool.true_and]
      go_enter Tryd.func14, Tryd.ntmps14
      go_wp2_with (first | (refine wpList_box34 rfl _ rfl rfl ?_; try rw [← HW2.out]))
      refine wp_region_t [0,1,3,0,0,5,5,6,3,0,0,0,1,0,0,0,0] [none, none, none, none, none, some (7, true), some (7, true), some (7, true), some (7, true), none, none, some (13, true), some (13, true), some (13, true), some (13, true), none, none] (fun W => KB W w.heap.size x (.slice A0 x.l.length c0)) (by kernel_rfl) (by kernel_rfl) (by kernel_rfl) ?_
      go_wp2_with (first | fail | (refine wpG_calc rfl (fun K hK => ?_)) | (refine wpG_skip ?_ ?_; (focus (simp [wantG]; done)); go_simp) | (refine wpG_take ?_ ?_; (focus (simp [wantG]; done))) | (refine wpG_pure (fun K hK => ?_); go_simp; refine hK _ _ ?_; clear hK K) | (refine wpG_deed (by decide) (fun K hK => ?_); go_simp) | (refine wpG_nil ?_))
      refine (HOF.out W2.drew HC.out.drew).mono ?_
      rintro e W3 ⟨rfl, rfl⟩
      refine hK _ _ ?_
      clear hK K
      have hS : KB W2.drew w.heap.size x (.slice A0 x.l.length c0) := HB.out.drew
      go_wp2_with (first | (refine wpG_hload 34 _ rfl rfl (fun w' hw' => KB.load hw') hS ?_) | (refine wpG_calc rfl (fun K hK => ?_)) | (refine wpG_skip ?_ ?_; (focus (simp [wantG]; done)); go_simp) | (refine wpG_take ?_ ?_; (focus (simp [wantG]; done))) | (refine wpG_pure (fun K hK => ?_); go_simp; refine hK _ _ ?_; clear hK K) | (refine wpG_deed (by decide) (fun K hK => ?_); go_simp) | (refine wpG_nil ?_))
      (refine wpG_keeps hS (fun K hK => ?_))
      go_simp
      refine (HBR.out W2.drew HC.out.drew).mono ?_
      rintro e W3 ⟨rfl, hc3⟩
      have HC3 := hide (HC.out.drew.stay hc3)
      have hS3 : KB W3 w.heap.size x (.slice A0 x.l.length c0) := KB.stay hS hc3
      refine hK _ _ hS3 ?_
      clear hK K hS
      have HS3 := hide hS3
      clear hS3
      go_wp2_with (first | fail | (refine wpG_calc rfl (fun K hK => ?_)) | (refine wpG_skip ?_ ?_; (focus (simp [wantG]; done)); go_simp) | (refine wpG_take ?_ ?_; (focus (simp [wantG]; done))) | (refine wpG_pure (fun K hK => ?_); go_simp; refine hK _ _ ?_; clear hK K) | (refine wpG_deed (by decide) (fun K hK => ?_); go_simp) | (refine wpG_nil ?_))
      refine (HSM.out _ HC3.out).mono ?_
      rintro e W4 ⟨rfl, hc4⟩
      refine hK _ _ ?_
      clear hK K
      obtain ⟨-, -, -, -, -, -, -, -, -, -, -, q12, ql, -⟩ := KB.cells (KB.stay HS3.out hc4)
      have HC4 := hide (HC3.out.stay hc4)
      clear hc3 hc4
      go_wp2_with (first | fail | (refine wpG_calc rfl (fun K hK => ?_)) | (refine wpG_skip ?_ ?_; (focus (simp [wantG]; done)); go_simp) | (refine wpG_take ?_ ?_; (focus (simp [wantG]; done))) | (refine wpG_pure (fun K hK => ?_); go_simp; refine hK _ _ ?_; clear hK K) | (refine wpG_deed (by decide) (fun K hK => ?_); go_simp) | (refine wpG_nil ?_))
      go_ret
      exact ⟨by simp, HC4.out⟩
end Go.Proofs.YtinlpjgjjplceaaDoor
