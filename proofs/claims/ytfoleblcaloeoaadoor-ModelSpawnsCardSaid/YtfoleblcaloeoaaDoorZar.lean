/- Texts merged for the claim: CcE, MpE, MqA, MqB, MqC, MqD, CfO, CcD. -/
import Derived.Test.YtfoleblcaloeoaaDoorZai
import Derived.Test.YtfoleblcaloeoaaDoorZad
import Derived.Test.YtfoleblcaloeoaaDoorZaq
import Derived.Test.YtfoleblcaloeoaaDoorZag
import Derived.Test.YtfoleblcaloeoaaDoorZab
import Derived.Deep.CutRange
import Derived.Deep.CutBlock
import Derived.Carry
import Derived.ProofKit
import Derived.OpenShut
import Derived.Test.YtfoleblcaloeoaaDoorTie
import Derived.LaidMore
import Derived.Lay
import Derived.MakeChecks
/- Results: whether two are alike. -/
namespace Go.Proofs.YtfoleblcaloeoaaDoor
open Go Go.RowKit

set_option maxRecDepth 20000 in
set_option maxHeartbeats 8000000 in
theorem SameRs_any {w : World} {x y : Rs} {v u : Value} (hv : RB w v x.l) (hu : RB w u y.l) (hl : ∀ b ∈ x.l, b < 256) (hm : ∀ b ∈ y.l, b < 256) :
    Calls Tryd.prog 21 #[.agg (rsc x v), .agg (rsc y u)] w fun e w' => e = .returned (.bool (sameRs x y)) ∧ Chg [] w w' := by
  obtain ⟨A0, c0, rfl⟩ := RE.form hv
  obtain ⟨A1, c1, rfl⟩ := RE.form hu
  obtain ⟨W2, hW2⟩ : ∃ W2, W2 = (w.alloc (.cells (rsc x (.slice A0 x.l.length c0)) 45)).alloc (.cells (rsc y (.slice A1 y.l.length c1)) 45) := ⟨_, rfl⟩
  have hc2 : Chg [] w W2 := by rw [hW2]; exact ((Chg.refl [] w).alloc _).alloc _
  have hb1 : XB W2 w.heap.size x (.slice A0 x.l.length c0) := by rw [hW2]; exact (Blk.new w _ _).alloc _
  have hb2 : XB W2 (w.heap.size + 1) y (.slice A1 y.l.length c1) := by
    have := Blk.new (w.alloc (.cells (rsc x (.slice A0 x.l.length c0)) 45)) 45 (rsc y (.slice A1 y.l.length c1))
    rw [World.size_alloc] at this
    rw [hW2]
    exact this
  have HEQ := hide (Equal_any (hv.stay hc2) (hu.stay hc2) hl hm)
  have HC := hide hc2
  have HW2 := hide hW2
  obtain ⟨p0, p1, p2, pl, -⟩ := XB.cells hb1
  obtain ⟨q0, q1, q2, ql, -⟩ := XB.cells hb2
  clear hv hu hl hm hW2 hc2 hb1 hb2
  obtain ⟨e, z, l⟩ := x
  obtain ⟨e', z', l'⟩ := y
  simp only at p0 p1 p2 q0 q1 q2 HEQ HW2
  by_cases h1 : e = e'
  · subst h1
    by_cases h2 : z = z'
    · subst h2
      have hR : sameRs ⟨e, z, l⟩ ⟨e, z, l'⟩ = decide (l = l') := by simp [sameRs]
      rw [hR]
      generalize decide (l = l') = r at HEQ
      clear hR
      go_enter Tryd.func21, Tryd.ntmps21
      go_wp2_with (first | (refine wpList_boxRs rfl _ rfl rfl ?_; try simp only [World.size_alloc]; try rw [← HW2.out]))
      refine HEQ.out.mono ?_
      rintro e' W3 ⟨rfl, rfl⟩
      go_wp2_with fail
      go_ret
      exact ⟨by simp, HC.out⟩
    · have d2 : ((z : Int) == (z' : Int)) = false := beq_false_of_ne (by omega)
      have d2' : decide (z = z') = false := decide_eq_false h2
      have hR : sameRs ⟨e, z, l⟩ ⟨e, z', l'⟩ = false := by simp [sameRs, h2]
      rw [hR]
      clear hR HEQ h2
      go_enter Tryd.func21, Tryd.ntmps21
      go_wp2_with (first | (refine wpList_boxRs rfl _ rfl rfl ?_; try simp only [World.size_alloc]; try rw [← HW2.out]))
      go_ret
      exact ⟨rfl, HC.out⟩
  · have d1 : (e == e') = false := beq_false_of_ne h1
    have hR : sameRs ⟨e, z, l⟩ ⟨e', z', l'⟩ = false := by simp [sameRs, h1]
    rw [hR]
    clear hR HEQ h1
    go_enter Tryd.func21, Tryd.ntmps21
    go_wp2_with (first | (refine wpList_boxRs rfl _ rfl rfl ?_; try simp only [World.size_alloc]; try rw [← HW2.out]))
    go_ret
    exact ⟨rfl, HC.out⟩
end Go.Proofs.YtfoleblcaloeoaaDoor

/- Step. -/
namespace Go.Proofs.YtfoleblcaloeoaaDoor
open Go Go.RowKit

theorem neqF1 (k : FuncId) (caps : Array Value) (w : World) : (binOp .neq 68 (.func (.func k) #[] caps) .nilFunc).run Tryd.prog w = .ok (.bool true) w := by kernel_rfl
theorem neqF0 (w : World) : (binOp .neq 68 .nilFunc .nilFunc).run Tryd.prog w = .ok (.bool false) w := by kernel_rfl
theorem answer_b8 {w : World} {m : Nat} {M : Mo} {bp bo be : Nat} {fp fo fe : Int → Option Value} {gb : Int → Nat} {GF : Int → Nat → Prop} {ov : Int → Value} (hI : MIn w m M bp bo be fp fo fe gb GF ov) (x : Cl) (v : Nat) :
    ∀ b ∈ (answerA M x v).1.l, b < 256 := by
  have nl : ∀ (R : Rs × Option Mo), R.1.l = [] → ∀ b ∈ R.1.l, b < 256 := fun R h b hb => by rw [h] at hb; cases hb
  have nl2 : ∀ (R : Rs), R.l = [] → ∀ b ∈ R.l, b < 256 := fun R h b hb => by rw [h] at hb; cases hb
  unfold answerA
  split
  · refine nl _ ?_
    unfold spawnA
    split <;> rfl
  split
  · refine nl _ ?_
    unfold mallocA
    split <;> rfl
  split
  · unfold objA
    cases hb : M.ob x.h with
    | none => first | exact nl _ rfl | exact nl2 _ rfl
    | some B =>
      simp only
      split
      · first | exact nl _ rfl | exact nl2 _ rfl
      split
      · first | exact nl _ rfl | exact nl2 _ rfl
      split
      · intro b h
        exact (hI.ob _ _ hb).2.1 b (List.mem_of_mem_drop (List.mem_of_mem_take h))
      · first | exact nl _ rfl | exact nl2 _ rfl
  split
  · first | exact nl _ rfl | exact nl2 _ rfl
  cases hp : M.pr x.p with
  | none => first | exact nl _ rfl | exact nl2 _ rfl
  | some p =>
    simp only
    unfold procA
    split
    · first | exact nl _ rfl | exact nl2 _ rfl
    split
    · first | exact nl _ rfl | exact nl2 _ rfl
    split
    · first | exact nl _ rfl | exact nl2 _ rfl
    split
    · first | exact nl _ rfl | exact nl2 _ rfl
    split
    · obtain ⟨d, FA, qp, qo, gp', go', gp, hP, -, -⟩ := hI.pr x.p p hp
      unfold accessA
      simp only
      split
      · first | exact nl _ rfl | exact nl2 _ rfl
      split
      · split
        · first | exact nl _ rfl | exact nl2 _ rfl
        · intro b h
          have h1 := List.mem_of_mem_drop (List.mem_of_mem_take h)
          cases hg : p.pg (x.a / 256) with
          | none =>
            rw [hg] at h1
            have h2 : b ∈ zeroPg := h1
            unfold zeroPg at h2
            rw [List.mem_replicate] at h2
            omega
          | some B =>
            rw [hg] at h1
            exact (hP.pg _ _ hg).b8 b h1
      · split <;> (first | exact nl _ rfl | exact nl2 _ rfl)
    split
    · first | exact nl _ rfl | exact nl2 _ rfl
    split
    · first | exact nl _ rfl | exact nl2 _ rfl
    split <;> (first | exact nl _ rfl | exact nl2 _ rfl)
set_option maxRecDepth 20000 in
set_option maxHeartbeats 40000000 in
theorem Step_any {w : World} {m : Nat} {M : Mo} {O : Nat → Prop} (h : MMem w m M O) (hf : FW w) {x : Cl} {v : Value} {r : Rs} {u : Value} (hx : x.Ok) (hv : RB w v x.l) (hvl : ∀ k ∈ own v, k < w.heap.size) (hr : r.Ok) (hu : RB w u r.l) :
    Calls Tryd.prog 12 #[.pointer (some ⟨m, 0, none⟩), .agg (clc x v), .agg (rsc r u)] w fun e w' => e = .returned (.bool (stepB M x r)) ∧ CP O w w' ∧ ∃ O', MMem w' m (stepM M x r) O' ∧ ∀ k, O' k → O k ∨ w.heap.size ≤ k := by
  obtain ⟨A0, c0, rfl⟩ := RE.form hv
  obtain ⟨A1, c1, rfl⟩ := RE.form hu
  have HM := hide h
  obtain ⟨bp, bo, be, fp, fo, fe, gb, GF, ov, hI, hO, hl⟩ := h
  obtain ⟨W2, hW2⟩ : ∃ W2, W2 = (w.alloc (.cells (clc x (.slice A0 x.l.length c0)) 42)).alloc (.cells (rsc r (.slice A1 r.l.length c1)) 45) := ⟨_, rfl⟩
  have hc2 : Chg [] w W2 := by rw [hW2]; exact ((Chg.refl [] w).alloc _).alloc _
  have hb4 : KB W2 w.heap.size x (.slice A0 x.l.length c0) := by rw [hW2]; exact (Blk.new w _ _).alloc _
  have hb5 : XB W2 (w.heap.size + 1) r (.slice A1 r.l.length c1) := by
    have := Blk.new (w.alloc (.cells (clc x (.slice A0 x.l.length c0)) 42)) 45 (rsc r (.slice A1 r.l.length c1))
    rw [World.size_alloc] at this
    rw [hW2]
    exact this
  obtain ⟨b4, e4⟩ : ∃ b, b = w.heap.size := ⟨_, rfl⟩
  obtain ⟨b5, e5⟩ : ∃ b, b = w.heap.size + 1 := ⟨_, rfl⟩
  rw [← e5] at hb5
  rw [← e4] at hb4
  have HE := hide (And.intro e4 e5)
  have HI := hide (fun W (h : Chg [] W2 W) => hI.stay (hc2.stay h))
  have HB4 := hide (fun W (h : Chg [] W2 W) => KB.stay hb4 h)
  have HB5 := hide (fun W (h : Chg [] W2 W) => XB.stay hb5 h)
  have HC2 := hide hc2
  have HW2 := hide hW2
  have HFW := hide (fun W (h : Chg [] W2 W) => hf.stay (hc2.stay h))
  have HV := hide (fun W (h : Chg [] W2 W) => RE.stay hv (hc2.stay h))
  have HU := hide (fun W (h : Chg [] W2 W) => RE.stay hu (hc2.stay h))
  have HX := hide hx
  have HRO := hide hr
  have HVL := hide hvl
  have HPL := hide (fun e W => plain_any e W)
  have HB8 := hide (answer_b8 hI x r.v)
  have HKEEP := hide (show ∀ W, Chg [] W2 W → CP O w W ∧ ∃ O', MMem W m M O' ∧ ∀ k, O' k → O k ∨ w.heap.size ≤ k from fun W hW => ⟨CP.of0 (hc2.stay hW), O, HM.out.stay (hc2.stay hW), fun k hk => .inl hk⟩)
  have HNN := hide (none_any (HI.out W2 (Chg.refl _ _)).blk)
  clear hI hO hl hv hu hx hr hvl hf hb4 hb5 hc2 hW2 e4 e5
  obtain ⟨SB, hSB⟩ : ∃ b, b = stepB M x r := ⟨_, rfl⟩
  obtain ⟨SM, hSM⟩ : ∃ N, N = stepM M x r := ⟨_, rfl⟩
  rw [← hSB, ← hSM]
  have HSB := hide hSB
  have HSM := hide hSM
  clear hSB hSM
  go_enter Tryd.func12, Tryd.ntmps12
  go_upto_region 1 with (first | (refine wpList_box34 rfl _ rfl rfl ?_; try simp only [World.size_alloc]) | (refine wpList_boxRs rfl _ rfl rfl ?_; try simp only [World.size_alloc]; try rw [← HW2.out]))
  rw [← HE.out.2, ← HE.out.1]
  go_wp2_with fail
  refine HNN.out.mono ?_
  rintro e W2' ⟨rfl, rfl⟩
  cases hw : wrongK M.c x with
  | true =>
    have e1 : SB = sameRs r (plainR 2) := by rw [HSB.out]; unfold stepB; rw [if_pos hw]
    have e2 : SM = M := by rw [HSM.out]; unfold stepM; rw [if_pos (.inl hw)]
    subst e1 e2
    have HWR := hide (fun W (h : Chg [] W2 W) => WrongK_any (HFW.out W h) SM.c HX.out (HV.out W h))
    rw [hw] at HWR
    clear hw
    go_upto_region 3 with (fail)
    refine wp_region_t [0,0,0,5,5,3,0] [none, none, none, none, none, none, none] (fun W => Chg [] W2 W) (by kernel_rfl) (by kernel_rfl) (by kernel_rfl) ?_
    have hS : Chg [] W2 W2.drew := (Chg.refl [] W2).drew
    have lm := (HI.out _ hS).blk.lt
    generalize W2.drew = W0 at hS lm ⊢
    go_wp2_with (first | (refine wpG_hload 26 _ rfl rfl (fun w' hw' => mo_load26 (HI.out w' hw').blk) hS ?_) | (refine wpG_hload 42 _ rfl rfl (fun w' hw' => KB.load (HB4.out w' hw')) hS ?_) | (refine wpG_deed (by decide) (fun K hK => ?_); go_simp; refine (HWR.out W0 hS).mono ?_; rintro e W3 ⟨rfl, hc3⟩; refine hK _ _ ?_; clear hK K; have HC3 := hide (hS.stay hc3); clear hc3 hS lm; obtain ⟨c0', -, -, -, -, -, -, -, -, -, -, -, l4, -⟩ := KB.cells (HB4.out W3 HC3.out); obtain ⟨p0, -, -, l5, -⟩ := XB.cells (HB5.out W3 HC3.out)) | (refine wpG_calc rfl (fun K hK => ?_)) | (refine wpG_skip ?_ ?_; (focus (simp [wantG]; done)); go_simp) | (refine wpG_take ?_ ?_; (focus (simp [wantG]; done))) | (refine wpG_pure (fun K hK => ?_); go_simp; refine hK _ _ ?_; clear hK K) | (refine wpG_deed (by decide) (fun K hK => ?_); go_simp) | (refine wpG_nil ?_))
    refine wp_region_t [5,6,3,0] [none, none, none, none] (fun W => Chg [] W2 W) (by kernel_rfl) (by kernel_rfl) (by kernel_rfl) ?_
    have hS := HC3.out.drew
    generalize W3.drew = W4 at hS ⊢
    go_wp2_with (first | (refine wpG_hload 45 _ rfl rfl (fun w' hw' => XB.load (HB5.out w' hw')) hS ?_) | (refine wpG_calc rfl (fun K hK => ?_)) | (refine wpG_skip ?_ ?_; (focus (simp [wantG]; done)); go_simp) | (refine wpG_take ?_ ?_; (focus (simp [wantG]; done))) | (refine wpG_pure (fun K hK => ?_); go_simp; refine hK _ _ ?_; clear hK K) | (refine wpG_deed (by decide) (fun K hK => ?_); go_simp) | (refine wpG_nil ?_))
    (refine wpG_keeps hS (fun K hK => ?_))
    go_simp
    refine (HPL.out 2 _).mono ?_
    rintro e W5 ⟨rfl, hc5⟩
    have hS5 := hS.stay hc5
    refine hK _ _ hS5 ?_
    clear hK K hc5
    go_wp2_with (first | (refine wpG_deed (by decide) (fun K hK => ?_); go_simp; refine (SameRs_any (y := plainR 2) (HU.out W5 hS5) (RE.nil ucl 1 _ none 0) HRO.out.l (fun _ h => by cases h)).mono ?_; rintro e W6 ⟨rfl, hc6⟩; refine hK _ _ ?_; clear hK K) | (refine wpG_calc rfl (fun K hK => ?_)) | (refine wpG_skip ?_ ?_; (focus (simp [wantG]; done)); go_simp) | (refine wpG_take ?_ ?_; (focus (simp [wantG]; done))) | (refine wpG_pure (fun K hK => ?_); go_simp; refine hK _ _ ?_; clear hK K) | (refine wpG_deed (by decide) (fun K hK => ?_); go_simp) | (refine wpG_nil ?_))
    go_ret
    exact ⟨rfl, HKEEP.out _ (hS5.stay hc6)⟩
  | false =>
    have HNW := hide hw
    have HWR := hide (fun W (h : Chg [] W2 W) => WrongK_any (HFW.out W h) M.c HX.out (HV.out W h))
    rw [hw] at HWR
    clear hw
    go_upto_region 3 with (fail)
    refine wp_region_t [0,0,0,5,5,3,0] [none, none, none, none, none, none, none] (fun W => Chg [] W2 W) (by kernel_rfl) (by kernel_rfl) (by kernel_rfl) ?_
    have hS : Chg [] W2 W2.drew := (Chg.refl [] W2).drew
    have lm := (HI.out _ hS).blk.lt
    generalize W2.drew = W0 at hS lm ⊢
    go_wp2_with (first | (refine wpG_hload 26 _ rfl rfl (fun w' hw' => mo_load26 (HI.out w' hw').blk) hS ?_) | (refine wpG_hload 42 _ rfl rfl (fun w' hw' => KB.load (HB4.out w' hw')) hS ?_) | (refine wpG_deed (by decide) (fun K hK => ?_); go_simp; refine (HWR.out W0 hS).mono ?_; rintro e W3 ⟨rfl, hc3⟩; refine hK _ _ ?_; clear hK K; have HC3 := hide (hS.stay hc3); clear hc3 hS lm; obtain ⟨c0', -, -, -, -, -, -, -, -, -, -, -, l4, -⟩ := KB.cells (HB4.out W3 HC3.out); obtain ⟨p0, -, -, l5, -⟩ := XB.cells (HB5.out W3 HC3.out)) | (refine wpG_calc rfl (fun K hK => ?_)) | (refine wpG_skip ?_ ?_; (focus (simp [wantG]; done)); go_simp) | (refine wpG_take ?_ ?_; (focus (simp [wantG]; done))) | (refine wpG_pure (fun K hK => ?_); go_simp; refine hK _ _ ?_; clear hK K) | (refine wpG_deed (by decide) (fun K hK => ?_); go_simp) | (refine wpG_nil ?_))
    refine (free_any x.k r.e W3).mono ?_
    rintro e W3' ⟨rfl, rfl⟩
    cases hfr : freeK x.k r.e with
    | true =>
      have e1 : SB = sameRs r (plainR r.e) := by rw [HSB.out]; unfold stepB; rw [if_neg (by rw [HNW.out]; decide), if_pos hfr]
      have e2 : SM = M := by rw [HSM.out]; unfold stepM; rw [if_pos (.inr (.inl hfr))]
      subst e1 e2
      clear hfr c0' l4 p0 l5
      go_upto_region 6 with (fail)
      refine wp_region_t [5,0,5,6,3,0] [none, none, none, none, none, none] (fun W => Chg [] W2 W) (by kernel_rfl) (by kernel_rfl) (by kernel_rfl) ?_
      have hS := HC3.out.drew
      generalize W3.drew = W4 at hS ⊢
      go_wp2_with (first | (refine wpG_hload 45 _ rfl rfl (fun w' hw' => XB.load (HB5.out w' hw')) hS ?_) | (refine wpG_hload 33 _ rfl rfl (fun w' hw' => load_int Tryd.underlying33 (XB.cells (HB5.out w' hw')).1) hS ?_) | (refine wpG_calc rfl (fun K hK => ?_)) | (refine wpG_skip ?_ ?_; (focus (simp [wantG]; done)); go_simp) | (refine wpG_take ?_ ?_; (focus (simp [wantG]; done))) | (refine wpG_pure (fun K hK => ?_); go_simp; refine hK _ _ ?_; clear hK K) | (refine wpG_deed (by decide) (fun K hK => ?_); go_simp) | (refine wpG_nil ?_))
      (refine wpG_keeps hS (fun K hK => ?_))
      go_simp
      refine (HPL.out r.e _).mono ?_
      rintro e W5 ⟨rfl, hc5⟩
      have hS5 := hS.stay hc5
      refine hK _ _ hS5 ?_
      clear hK K hc5
      go_wp2_with (first | (refine wpG_deed (by decide) (fun K hK => ?_); go_simp; refine (SameRs_any (y := plainR r.e) (HU.out W5 hS5) (RE.nil ucl 1 _ none 0) HRO.out.l (fun _ h => by cases h)).mono ?_; rintro e W6 ⟨rfl, hc6⟩; refine hK _ _ ?_; clear hK K) | (refine wpG_calc rfl (fun K hK => ?_)) | (refine wpG_skip ?_ ?_; (focus (simp [wantG]; done)); go_simp) | (refine wpG_take ?_ ?_; (focus (simp [wantG]; done))) | (refine wpG_pure (fun K hK => ?_); go_simp; refine hK _ _ ?_; clear hK K) | (refine wpG_deed (by decide) (fun K hK => ?_); go_simp) | (refine wpG_nil ?_))
      go_ret
      exact ⟨rfl, HKEEP.out _ (hS5.stay hc6)⟩
    | false =>
      have HFR := hide hfr
      clear hfr c0' l4 p0 l5
      go_wp2_with (first | (refine wpList_load34 rfl _ rfl rfl (HB4.out W3 HC3.out) ?_) | (refine wpList_loadRs rfl _ rfl rfl (HB5.out W3 HC3.out) ?_))
      refine (answer_any (X := own (.slice A0 x.l.length c0)) (HM.out.stay (HC2.out.stay HC3.out)) HX.out (HV.out W3 HC3.out) (fun k hk => hk) (fun k hk => Nat.lt_of_lt_of_le (HVL.out k hk) (HC2.out.stay HC3.out).size) HNW.out HRO.out.v).mono ?_
      rintro e W4 ⟨⟨A, n, c, f, rfl, hrb, -, heff⟩, hc4⟩
      have HC4 := hide (HC3.out.stay hc4)
      have HC34 := hide hc4
      have HRB := hide hrb
      have HEFF := hide heff
      clear hrb heff hc4
      obtain ⟨RR, hRR⟩ : ∃ R, R = answerA M x r.v := ⟨_, rfl⟩
      rw [← hRR] at HRB HEFF HB8
      rw [← hRR]
      have HRR := hide hRR
      clear hRR
      go_wp2_with (first | (refine wpList_allocRs rfl rfl ?_; try go_simp) | (refine wpList_storeRs (b := W4.heap.size) (y := RR.1) (u := .slice A n c) rfl _ _ rfl rfl rfl rfl (Blk.new W4 _ _) ?_; intro W6 h6 hc6; have H6 := hide h6; have HC46 := hide (made_rs hc6); clear h6 hc6) | (refine wpList_loadRs rfl _ rfl rfl (HB5.out W6 (HC4.out.stay HC46.out)) ?_) | (refine wpList_loadRs (b := W4.heap.size) rfl _ rfl rfl H6.out ?_))
      refine (SameRs_any (HU.out W6 (HC4.out.stay HC46.out)) (HRB.out.stay HC46.out) HRO.out.l HB8.out).mono ?_
      rintro e W7 ⟨rfl, hc7⟩
      have HC47 := hide (HC46.out.stay hc7)
      have HC7 := hide (HC4.out.stay (HC46.out.stay hc7))
      clear hc7
      have ebN := show SB = sameRs r RR.1 by rw [HSB.out]; unfold stepB; rw [if_neg (by rw [HNW.out]; decide), if_neg (by rw [HFR.out]; decide), HRR.out]
      cases hsm : sameRs r RR.1 with
      | false =>
        have e1 : SB = false := by rw [ebN, hsm]
        have e2 : SM = M := by rw [HSM.out]; unfold stepM; rw [← HRR.out, if_pos (.inr (.inr (.inl hsm)))]
        subst e1 e2
        clear hsm ebN
        go_wp2_with fail
        go_ret
        exact ⟨rfl, HKEEP.out _ HC7.out⟩
      | true =>
        have e1 : SB = true := by rw [ebN, hsm]
        have e2 : SM = if r.e = 0 then RR.2.getD M else M := by
          rw [HSM.out]
          unfold stepM
          rw [← HRR.out]
          by_cases h : r.e = 0
          · rw [if_pos h, if_neg]
            rintro (h1 | h1 | h1 | h1)
            · rw [HNW.out] at h1; cases h1
            · rw [HFR.out] at h1; cases h1
            · rw [hsm] at h1; cases h1
            · exact h1 h
          · rw [if_neg h, if_pos (.inr (.inr (.inr h)))]
        subst e1
        have HE2 := hide e2
        clear hsm ebN e2
        obtain ⟨R1, N⟩ := RR
        obtain ⟨p0, -, -, l5, -⟩ := XB.cells (HB5.out W7 HC7.out)
        cases N with
        | none =>
          obtain rfl : f = .nilFunc := HEFF.out
          have hq := fun w => neqF0 w
          have e2 : SM = M := by rw [HE2.out]; split <;> rfl
          subst e2
          go_wp2_with fail
          go_ret
          exact ⟨rfl, HKEEP.out _ HC7.out⟩
        | some M' =>
          obtain ⟨k, caps, rfl, hent, hdo⟩ := HEFF.out
          replace hent := hent caps
          have HDO := hide hdo
          clear hdo
          have hq := fun w => neqF1 k caps w
          by_cases hz : r.e = 0
          · have e2 : SM = M' := by rw [HE2.out, if_pos hz]; rfl
            subst e2
            rw [hz] at p0
            clear hz
            go_wp2_with fail
            refine (HDO.out [] W7 (Off.nil _ _ _) HC47.out).mono ?_
            rintro e W8 ⟨rfl, k1, O', k2, k3⟩
            go_wp2_with fail
            go_ret
            have hsz := (HC2.out.stay HC3.out).size
            obtain ⟨L, g1, g2⟩ := k1
            exact ⟨rfl, ⟨L, (((HC2.out.stay HC7.out).up L).and_ g1), fun k hk => (by
              rcases g2 k hk with (h | h) | h
              · exact .inl h
              · exact .inr (by omega)
              · exact .inr (Nat.le_trans (HC2.out.stay HC7.out).size h))⟩, O', k2, fun k hk => (k3 k hk).imp id (Nat.le_trans hsz)⟩
          · have e2 : SM = M := by rw [HE2.out, if_neg hz]
            subst e2
            have d0 : (r.e == 0) = false := beq_false_of_ne hz
            have d1 : decide (r.e = 0) = false := decide_eq_false hz
            clear hz
            go_wp2_with fail
            go_ret
            exact ⟨rfl, HKEEP.out _ HC7.out⟩
end Go.Proofs.YtfoleblcaloeoaaDoor

/- A law's machine: New, Step; what a step does, plain. -/
namespace Go.Proofs.YtfoleblcaloeoaaDoor
open Go Go.RowKit

/-! ## Plain -/
theorem stepB_ok {M : Mo} {x : Cl} (r : Rs) (hw : wrongK M.c x = false) : stepB M x r = if freeK x.k r.e = true then sameRs r (plainR r.e) else sameRs r (answerA M x r.v).1 := by
  unfold stepB
  rw [if_neg (by rw [hw]; decide)]
theorem stepM_ok {M : Mo} {x : Cl} {r : Rs} (hw : wrongK M.c x = false) (hf : freeK x.k r.e = false) (hs : sameRs r (answerA M x r.v).1 = true) (he : r.e = 0) : stepM M x r = ((answerA M x r.v).2).getD M := by
  unfold stepM
  rw [if_neg]
  rintro (h | h | h | h)
  · rw [hw] at h; cases h
  · rw [hf] at h; cases h
  · rw [hs] at h; cases h
  · exact h he
theorem stepM_err {M : Mo} {x : Cl} {r : Rs} (he : r.e ≠ 0) : stepM M x r = M := by
  unfold stepM
  rw [if_pos (.inr (.inr (.inr he)))]
theorem stepM_no {M : Mo} {x : Cl} {r : Rs} (h : stepB M x r = false) : stepM M x r = M := by
  unfold stepM
  by_cases hw : wrongK M.c x = true
  · rw [if_pos (.inl hw)]
  by_cases hf : freeK x.k r.e = true
  · rw [if_pos (.inr (.inl hf))]
  rw [stepB_ok r (by simpa using hw), if_neg hf] at h
  rw [if_pos (.inr (.inr (.inl h)))]
theorem answer_c {M : Mo} {x : Cl} {v : Nat} {M' : Mo} (h : (answerA M x v).2 = some M') : M'.c = M.c := by
  unfold answerA at h
  split at h
  · unfold spawnA at h
    split at h
    · obtain rfl := Option.some.inj h; rfl
    · cases h
  split at h
  · unfold mallocA at h
    split at h
    · cases h
    · obtain rfl := Option.some.inj h; rfl
  split at h
  · unfold objA at h
    split at h
    · cases h
    split at h
    · obtain rfl := Option.some.inj h; rfl
    split at h
    · cases h
    split at h
    · cases h
    · obtain rfl := Option.some.inj h; rfl
  split at h
  · cases h
  split at h
  · cases h
  unfold procA at h
  split at h
  · obtain rfl := Option.some.inj h; rfl
  split at h
  · obtain rfl := Option.some.inj h; rfl
  split at h
  · cases h
  split at h
  · obtain rfl := Option.some.inj h; rfl
  split at h
  · obtain ⟨q, _, rfl⟩ := Option.map_eq_some_iff.1 h; rfl
  split at h
  · cases h
  split at h
  · cases h
  split at h
  · obtain rfl := Option.some.inj h; rfl
  · cases h
theorem stepM_c (M : Mo) (x : Cl) (r : Rs) : (stepM M x r).c = M.c := by
  unfold stepM
  split
  · rfl
  cases h : (answerA M x r.v).2 with
  | none => rfl
  | some M' => exact answer_c h
/-! ## A law's machine in memory -/
structure MS (W0 : World) (L : List Nat) (w : World) (m : Nat) (M : Mo) : Prop where
  mem : ∃ O, MMem w m M O ∧ (∀ k, O k → W0.heap.size ≤ k) ∧ ∀ k ∈ L, ¬ O k
  lt : ∀ k ∈ L, k < w.heap.size
  chg : Chg [] W0 w
theorem MS.stay {W0 w w' : World} {L : List Nat} {m : Nat} {M : Mo} (h : MS W0 L w m M) (hc : Chg [] w w') : MS W0 L w' m M := by
  obtain ⟨⟨O, h1, h2, h3⟩, h4, h5⟩ := h
  exact ⟨⟨O, h1.stay hc, h2, h3⟩, fun k hk => Nat.lt_of_lt_of_le (h4 k hk) hc.size, h5.stay hc⟩
/-- new blocks are guarded too -/
theorem MS.guard {W0 w w' : World} {L : List Nat} {m : Nat} {M : Mo} (h : MS W0 L w m M) (hc : Chg [] w w') (K : List Nat) (hK : ∀ k ∈ K, w.heap.size ≤ k ∧ k < w'.heap.size) : MS W0 (K ++ L) w' m M := by
  obtain ⟨⟨O, h1, h2, h3⟩, h4, h5⟩ := h
  refine ⟨⟨O, h1.stay hc, h2, fun k hk ho => ?_⟩, fun k hk => ?_, h5.stay hc⟩
  · rcases List.mem_append.1 hk with hk | hk
    · have := h1.lt k ho; have := (hK k hk).1; omega
    · exact h3 k hk ho
  · rcases List.mem_append.1 hk with hk | hk
    · exact (hK k hk).2
    · exact Nat.lt_of_lt_of_le (h4 k hk) hc.size
/-- a law's own blocks may be written to -/
theorem MS.put {W0 w w' : World} {L F : List Nat} {m : Nat} {M : Mo} (h : MS W0 L w m M) (hc : Chg F w w') (hF : ∀ k ∈ F, k ∈ L ∧ W0.heap.size ≤ k) : MS W0 L w' m M := by
  obtain ⟨⟨O, h1, h2, h3⟩, h4, h5⟩ := h
  exact ⟨⟨O, h1.cp (CP.of (F := fun k => k ∈ F) hc (fun k hk => .inl hk)) (fun k ho hk => h3 k (hF k hk).1 ho), h2, h3⟩, fun k hk => Nat.lt_of_lt_of_le (h4 k hk) hc.size, h5.trans hc (fun k hk => .inr (hF k hk).2)⟩
theorem New_ms {W0 w : World} {L : List Nat} {c : Cf} (hc : mayB c = true) (h0 : Chg [] W0 w) (hL : ∀ k ∈ L, k < w.heap.size) :
    Calls Tryd.prog 11 #[.agg (cg c)] w fun e w' => (∃ m, e = .returned (.tuple #[.pointer (some ⟨m, 0, none⟩), .int .i64 0]) ∧ MS W0 L w' m (newMo c)) ∧ Chg [] w w' := by
  refine (New_any hc).mono ?_
  rintro e w' ⟨⟨m, rfl, O, h1, h2⟩, h3⟩
  exact ⟨⟨m, rfl, ⟨O, h1, fun k hk => Nat.le_trans h0.size (h2 k hk), fun k hk ho => by have := hL k hk; have := h2 k ho; omega⟩, fun k hk => Nat.lt_of_lt_of_le (hL k hk) h3.size, h0.stay h3⟩, h3⟩
/-- what a step leaves as it was -/
def Kept (L : List Nat) (W0 w w' : World) : Prop := ∃ F, Chg F w w' ∧ ∀ k ∈ F, k ∉ L ∧ W0.heap.size ≤ k
theorem Kept.blk {L : List Nat} {W0 w w' : World} (h : Kept L W0 w w') {b : Nat} {t : TypeId} {cs : Array Value} (hb : Blk w b t cs) (hm : b ∈ L) : Blk w' b t cs := by
  obtain ⟨F, h1, h2⟩ := h
  exact hb.chg h1 (fun hf => (h2 b hf).1 hm)
theorem Kept.rb {L : List Nat} {W0 w w' : World} (h : Kept L W0 w w') {v : Value} {l : List Nat} (hb : RB w v l) (hm : ∀ k ∈ own v, k ∈ L) : RB w' v l := by
  obtain ⟨F, h1, h2⟩ := h
  exact hb.chg h1 (fun k hk hf => (h2 k hf).1 (hm k hk))
theorem Step_ms {W0 w : World} {L : List Nat} {m : Nat} {M : Mo} (h : MS W0 L w m M) (hf : FW W0) {x : Cl} {v : Value} {r : Rs} {u : Value} (hx : x.Ok) (hv : RB w v x.l) (hvl : ∀ k ∈ own v, k < w.heap.size) (hr : r.Ok) (hu : RB w u r.l) :
    Calls Tryd.prog 12 #[.pointer (some ⟨m, 0, none⟩), .agg (clc x v), .agg (rsc r u)] w fun e w' => e = .returned (.bool (stepB M x r)) ∧ MS W0 L w' m (stepM M x r) ∧ Kept L W0 w w' := by
  obtain ⟨⟨O, h1, h2, h3⟩, h4, h5⟩ := h
  refine (Step_any h1 (hf.stay h5) hx hv hvl hr hu).mono ?_
  rintro e w' ⟨rfl, ⟨F, g1, g2⟩, O', k2, k3⟩
  have hsz := h5.size
  refine ⟨rfl, ⟨⟨O', k2, fun k hk => (k3 k hk).elim (h2 k) (fun h => by omega), fun k hk ho => (k3 k ho).elim (h3 k hk) (fun h => by have := h4 k hk; omega)⟩, fun k hk => Nat.lt_of_lt_of_le (h4 k hk) g1.size, h5.trans g1 (fun k hk => .inr ((g2 k hk).elim (h2 k) (fun h => by omega)))⟩, F, g1, fun k hk => ⟨fun hm => (g2 k hk).elim (h3 k hm) (fun h => by have := h4 k hm; omega), (g2 k hk).elim (h2 k) (fun h => by omega)⟩⟩
/-! ## Calls and answers that a law writes -/
structure BC (l : List (Nat × Value)) (x : Cl) (v : Value) : Prop where
  h : Tryd.prog.built 42 l = some (clc x v)
section
variable {ops : Array Oper} {rest : List Oper} {o : Oper} {a : Act} {w : World} {Q : Exit → Act → World → Prop} {x : Cl} {v : Value}
theorem wpList_build34 (hg : o.guard = none) (parts : Array (Nat × Operand)) (ho : o.op = .build 42 parts)
    {l : List (Nat × Value)} (hb : BC l x v) (hl : (parts.map fun (i, x) => (i, a.eval x)).toList = l) (h : wpList Tryd.prog ops Q rest (a.put o.dst (.agg (clc x v))) w) : wpList Tryd.prog ops Q (o :: rest) a w :=
  wpList_build hg 42 parts ho (by rw [hl, hb.h]; rfl) (by rw [hl, hb.h]; exact h)
theorem wpList_build34W (parts : Array (Nat × Operand)) (ho : o.op = .build 42 parts)
    {l : List (Nat × Value)} (hw : Region.wanted o (yielded ops a.tmps) = true) (hb : BC l x v) (hl : (parts.map fun (i, x) => (i, a.eval x)).toList = l) (h : wpList Tryd.prog ops Q rest (a.put o.dst (.agg (clc x v))) w) : wpList Tryd.prog ops Q (o :: rest) a w :=
  wpList_step fun K hK => by
    rw [if_pos hw]
    exact wp_build 42 parts ho (by rw [hl, hb.h]; rfl) (hK _ _ (by rw [hl, hb.h]; exact h))
end
theorem nw_of {c : Cf} {x : Cl} (hm : mayB c = true) (hk : mayK x = true) (h1 : t1K x = false) (h2 : t2K x = false) (h3 : t3K x = false) (h4 : hasB x 110 = false) (h5 : hasB x 111 = false) (h6 : t6K x = false) (h7 : t7K x = false) (h8 : t8K x = false) : wrongK c x = false := by
  have e4 : t4K c x = false := by unfold t4K; rw [h4]; rfl
  have e5 : t5K c x = false := by unfold t5K; rw [h5]; rfl
  unfold wrongK
  simp [hm, hk, h1, h2, h3, e4, e5, h6, h7, h8]
/-! ## A machine of one node -/
def oneC0 : Cf := fun i => if i = 0 then 1 else if i = 1 then 1 else if i = 90 then 4 else 0
def oneC : Cf := fun i => if i = 18 then 4 else oneC0 i
theorem built_one : BT [(0, .int .i64 1), (1, .int .i64 1), (5, .int .i64 4)] oneC0 := ⟨by kernel_rfl⟩
theorem one_may : MayP oneC where
  n1 := by decide
  n8 := by decide
  p1 := by decide
  p16 := by decide
  s0 := by decide
  s1 := by decide
  home := by decide
  home0 := by decide
  fr := by decide
  fr0 := by decide
  ds0 := fun i k hi hk => (by decide : ∀ i : Nat, i < 8 → ∀ k : Nat, k < 8 → oneC 0 ≤ (i : Int) ∨ oneC 0 ≤ (k : Int) ∨ i = k → oneC (26 + i * 8 + k) = 0) i hi k hk
  ds1 := fun i k hi hk => fun h1 h2 h3 => (by decide : ∀ i : Nat, i < 8 → ∀ k : Nat, k < 8 → ((i : Int) < oneC 0 ∧ (k : Int) < oneC 0 ∧ ¬ i = k) → (1 ≤ oneC (26 + i * 8 + k) ∧ oneC (26 + i * 8 + k) ≤ 255 ∧ oneC (26 + i * 8 + k) = oneC (26 + k * 8 + i))) i hi k hk ⟨h1, h2, h3⟩
  mi := by decide
  lo := by decide
  hi := by decide
theorem one_mayB : mayB oneC = true := mayB_iff.2 one_may
set_option maxHeartbeats 1000000 in
theorem one_any (w : World) : Calls Tryd.prog 17 #[] w fun e w' => e = .returned (.agg (cg oneC)) ∧ Chg [] w w' := by
  have HR : Hid (CB ((w.alloc (.cells (cg (fun _ => 0)) 26)).alloc (.cells (cg (fun _ => 0)) 26)) w.heap.size (fun _ => 0)) := hide ((Blk.new w 26 _).alloc _)
  have HB : Hid (CB ((w.alloc (.cells (cg (fun _ => 0)) 26)).alloc (.cells (cg (fun _ => 0)) 26)) (w.heap.size + 1) (fun _ => 0)) := hide (by
    have := Blk.new (w.alloc (.cells (cg (fun _ => 0)) 26)) 26 (cg (fun _ => 0))
    rwa [World.size_alloc] at this)
  have HC : Hid (Chg [] w ((w.alloc (.cells (cg (fun _ => 0)) 26)).alloc (.cells (cg (fun _ => 0)) 26))) := hide (((Chg.refl [] w).alloc _).alloc _)
  obtain ⟨D0, hD0⟩ : ∃ D0, D0 = oneC0 := ⟨_, rfl⟩
  have HT := hide built_one
  rw [← hD0] at HT
  have HD0 := hide hD0
  obtain ⟨D, hD⟩ : ∃ D, D = oneC := ⟨_, rfl⟩
  rw [← hD]
  have HD := hide hD
  clear hD0 hD
  go_enter Tryd.func17, Tryd.ntmps17
  go_wp2_with (first | (refine wpList_alloc26 rfl rfl ?_; try simp only [World.size_alloc]) | (refine wpList_build26 rfl _ rfl HT.out ?_ ?_; (focus (simp [Act.eval]; done))) | (refine wpList_store26L (b := w.heap.size + 1) (c := fun _ => 0) rfl _ _ rfl rfl rfl ?_ ?_; (focus exact HB.out); intro W5 h5 hc5; have q18 := CB.get h5 (i := 18) (by omega); have f18 := Blk.frozen h5 18; have H5 := hide h5; have HC5 := hide hc5; have HR5 := hide (HR.out.chg hc5 (by simp)); have hl5 : w.heap.size + 1 < W5.heap.size := h5.lt; clear h5 hc5) | (refine wpList_load26L (b := w.heap.size + 1) (c := D) rfl _ rfl rfl ?_ ?_; (focus (rw [HD.out]; have := CB.set H5.out 18 4; rw [HD0.out] at this; exact this))) | (refine wpList_store26L (b := w.heap.size) (c := fun _ => 0) rfl _ _ rfl rfl rfl ?_ ?_; (focus exact (Blk.far HR5.out (by simp) _)); intro W6 h6 hc6))
  refine bodyPost_ret (v := .agg (cg D)) (results_cell_row (p := 0) (ty := 26) rfl _ _ w.heap.size 26 _ (0, 0) _ rfl h6 Tryd.underlying26 rfl info26') rfl ⟨rfl, ?_⟩
  have c9 := HC5.out.setCell (p := ⟨w.heap.size + 1, 18, none⟩) (.inl (by simp)) (.int .i64 4)
  exact (HC.out.trans c9 (fun x hx => .inr (by obtain rfl := List.mem_singleton.1 hx; omega))).trans hc6 (fun x hx => .inr (by obtain rfl := List.mem_singleton.1 hx; omega))
end Go.Proofs.YtfoleblcaloeoaaDoor

/- known: a page is noughts, and a handle never comes again. -/
namespace Go.Proofs.YtfoleblcaloeoaaDoor
open Go Go.RowKit

def cSp : Cl := { zCl with k := 1 }
def cMm (g c : Int) (r : Nat) : Cl := { zCl with k := 3, p := 1, g := g, c := c, r := r }
def cLd (a s : Int) : Cl := { zCl with k := 8, p := 1, a := a, s := s }
def cKm : Cl := { zCl with k := 10, s := 8 }
theorem sp_built : BC [(0, .int .u8 1)] cSp zV := ⟨by kernel_rfl⟩
theorem km_built : BC [(0, .int .u8 10), (6, .int .i64 8)] cKm zV := ⟨by kernel_rfl⟩
theorem mm0_built : BC [(0, .int .u8 3), (1, .int .i64 1), (4, .int .i64 2), (7, .int .u8 3)] (cMm 0 2 3) zV := ⟨by kernel_rfl⟩
theorem ld0_built : BC [(0, .int .u8 8), (1, .int .i64 1), (5, .int .i64 5), (6, .int .i64 2)] (cLd 5 2) zV := ⟨by kernel_rfl⟩
theorem sp_ok : cSp.Ok := by constructor <;> simp [cSp, zCl]
theorem km_ok : cKm.Ok := by constructor <;> simp [cKm, zCl]
theorem mm0_ok : (cMm 0 2 3).Ok := by constructor <;> simp [cMm, zCl]
theorem ld0_ok : (cLd 5 2).Ok := by constructor <;> simp [cLd, zCl]
theorem sp_nw {c : Cf} (h : mayB c = true) : wrongK c cSp = false := nw_of h (by decide) (by decide) (by decide) (by decide) (by decide) (by decide) (by decide) (by decide) (by decide)
theorem km_nw {c : Cf} (h : mayB c = true) : wrongK c cKm = false := nw_of h (by decide) (by decide) (by decide) (by decide) (by decide) (by decide) (by decide) (by decide) (by decide)
theorem mm0_nw {c : Cf} (h : mayB c = true) : wrongK c (cMm 0 2 3) = false := nw_of h (by decide) (by decide) (by decide) (by decide) (by decide) (by decide) (by decide) (by decide) (by decide)
theorem ld0_nw {c : Cf} (h : mayB c = true) : wrongK c (cLd 5 2) = false := nw_of h (by decide) (by decide) (by decide) (by decide) (by decide) (by decide) (by decide) (by decide) (by decide)
theorem rs_ok {e : Int} {v : Nat} (h1 : 0 ≤ e ∧ e ≤ 1000) (h2 : v < 18446744073709551616) : (⟨e, v, []⟩ : Rs).Ok := ⟨⟨by show _ ≤ e; omega, by show e ≤ _; omega⟩, h2, fun _ h => by cases h⟩
def K1 : Mo := { newMo oneC with pr := upd (fun _ => none) 1 (some newPr) }
def K3 : Mo := { K1 with pr := upd K1.pr 1 (some (changeA newPr (cMm 0 2 3)).2) }
def K6 : Mo := { K3 with ob := upd K3.ob (7 : Nat) (some (List.replicate 8 0)), ev := upd K3.ev (7 : Nat) true }
theorem k1 : stepB (newMo oneC) cSp ⟨0, 1, []⟩ = true ∧ stepM (newMo oneC) cSp ⟨0, 1, []⟩ = K1 := by
  refine ⟨by rw [stepB_ok _ (sp_nw one_mayB)]; rfl, by rw [stepM_ok (sp_nw one_mayB) rfl rfl rfl]; rfl⟩
theorem k2 : stepB K1 cSp ⟨0, 3, []⟩ = false := by rw [stepB_ok _ (sp_nw one_mayB)]; rfl
theorem k3 : stepB K1 (cMm 0 2 3) ⟨0, 0, []⟩ = true ∧ stepM K1 (cMm 0 2 3) ⟨0, 0, []⟩ = K3 :=
  ⟨by rw [stepB_ok _ (mm0_nw one_mayB)]; rfl, by rw [stepM_ok (mm0_nw one_mayB) rfl rfl rfl]; rfl⟩
theorem k4 : stepB K3 (cLd 5 2) ⟨0, 0, [0, 0]⟩ = true ∧ stepM K3 (cLd 5 2) ⟨0, 0, [0, 0]⟩ = K3 :=
  ⟨by rw [stepB_ok _ (ld0_nw one_mayB)]; rfl, by rw [stepM_ok (ld0_nw one_mayB) rfl rfl rfl]; rfl⟩
theorem k5 : stepB K3 cKm ⟨0, 0, []⟩ = false := by rw [stepB_ok _ (km_nw one_mayB)]; rfl
theorem k6 : stepB K3 cKm ⟨0, 7, []⟩ = true ∧ stepM K3 cKm ⟨0, 7, []⟩ = K6 :=
  ⟨by rw [stepB_ok _ (km_nw one_mayB)]; rfl, by rw [stepM_ok (km_nw one_mayB) rfl rfl rfl]; rfl⟩
theorem k7 : stepB K6 cKm ⟨0, 7, []⟩ = false := by rw [stepB_ok _ (km_nw one_mayB)]; rfl
set_option maxRecDepth 20000 in
set_option maxHeartbeats 40000000 in
theorem known_any {w : World} (hf : FW w) : Calls Tryd.prog 10 #[] w fun e w' => e = .returned (.bool true) ∧ Chg [] w w' := by
  have HF := hide hf
  have D1 := hide sp_built
  have D3 := hide mm0_built
  have D4 := hide ld0_built
  have D5 := hide km_built
  have E0 := hide br_0
  have E1 := hide (br_v 1)
  have E3 := hide (br_v 3)
  have E7 := hide (br_v 7)
  have HO := hide (fun W => one_any W)
  clear hf
  go_enter Tryd.func10, Tryd.ntmps10
  go_wp2_with fail
  refine (HO.out _).mono ?_
  rintro e W0 ⟨rfl, hc0⟩
  have HC0 := hide hc0
  clear hc0
  go_wp2_with fail
  refine (New_ms (L := []) one_mayB HC0.out (fun k hk => by cases hk)).mono ?_
  rintro e W0' ⟨⟨m, rfl, hms⟩, -⟩
  have HM0 := hide hms
  clear hms
  go_wp2_with (first | (refine wpList_build34W _ rfl ?_ D1.out ?_ ?_; (focus (simp [Region.wanted, yielded, Act.put]; done)); (focus (simp [Act.eval, Act.put]; done))) | (refine wpList_build34W _ rfl ?_ D3.out ?_ ?_; (focus (simp [Region.wanted, yielded, Act.put]; done)); (focus (simp [Act.eval, Act.put]; done))) | (refine wpList_build34W _ rfl ?_ D5.out ?_ ?_; (focus (simp [Region.wanted, yielded, Act.put]; done)); (focus (simp [Act.eval, Act.put]; done))) | (refine wpList_build34W _ rfl ?_ D4.out ?_ ?_; (focus (simp [Region.wanted, yielded, Act.put]; done)); (focus (simp [Act.eval, Act.put]; done))) | (refine wpList_buildRsW _ rfl ?_ E1.out ?_ ?_; (focus (simp [Region.wanted, yielded, Act.put]; done)); (focus (simp [Act.eval, Act.put]; done))) | (refine wpList_buildRsW _ rfl ?_ E3.out ?_ ?_; (focus (simp [Region.wanted, yielded, Act.put]; done)); (focus (simp [Act.eval, Act.put]; done))) | (refine wpList_buildRsW _ rfl ?_ E7.out ?_ ?_; (focus (simp [Region.wanted, yielded, Act.put]; done)); (focus (simp [Act.eval, Act.put]; done))) | (refine wpList_buildRsW _ rfl ?_ E0.out ?_ ?_; (focus (simp [Region.wanted, yielded, Act.put]; done)); (focus (simp [Act.eval, Act.put]; done))))
  refine (Step_ms (r := ⟨0, 1, []⟩) HM0.out HF.out sp_ok (RE.nil ucl 1 _ none 0) (fun k hk => (own_nil hk).elim) (rs_ok (by omega) (by omega)) (RE.nil ucl 1 _ none 0)).mono ?_
  rintro e W1 ⟨rfl, hms, -⟩
  rw [k1.1]
  rw [k1.2] at hms
  have HM1 := hide hms
  clear hms
  go_wp2_with (first | (refine wpList_build34W _ rfl ?_ D1.out ?_ ?_; (focus (simp [Region.wanted, yielded, Act.put]; done)); (focus (simp [Act.eval, Act.put]; done))) | (refine wpList_build34W _ rfl ?_ D3.out ?_ ?_; (focus (simp [Region.wanted, yielded, Act.put]; done)); (focus (simp [Act.eval, Act.put]; done))) | (refine wpList_build34W _ rfl ?_ D5.out ?_ ?_; (focus (simp [Region.wanted, yielded, Act.put]; done)); (focus (simp [Act.eval, Act.put]; done))) | (refine wpList_build34W _ rfl ?_ D4.out ?_ ?_; (focus (simp [Region.wanted, yielded, Act.put]; done)); (focus (simp [Act.eval, Act.put]; done))) | (refine wpList_buildRsW _ rfl ?_ E1.out ?_ ?_; (focus (simp [Region.wanted, yielded, Act.put]; done)); (focus (simp [Act.eval, Act.put]; done))) | (refine wpList_buildRsW _ rfl ?_ E3.out ?_ ?_; (focus (simp [Region.wanted, yielded, Act.put]; done)); (focus (simp [Act.eval, Act.put]; done))) | (refine wpList_buildRsW _ rfl ?_ E7.out ?_ ?_; (focus (simp [Region.wanted, yielded, Act.put]; done)); (focus (simp [Act.eval, Act.put]; done))) | (refine wpList_buildRsW _ rfl ?_ E0.out ?_ ?_; (focus (simp [Region.wanted, yielded, Act.put]; done)); (focus (simp [Act.eval, Act.put]; done))))
  refine (Step_ms (r := ⟨0, 3, []⟩) HM1.out HF.out sp_ok (RE.nil ucl 1 _ none 0) (fun k hk => (own_nil hk).elim) (rs_ok (by omega) (by omega)) (RE.nil ucl 1 _ none 0)).mono ?_
  rintro e W2 ⟨rfl, hms, -⟩
  rw [k2]
  rw [stepM_no k2] at hms
  have HM2 := hide hms
  clear hms
  go_wp2_with (first | (refine wpList_build34W _ rfl ?_ D1.out ?_ ?_; (focus (simp [Region.wanted, yielded, Act.put]; done)); (focus (simp [Act.eval, Act.put]; done))) | (refine wpList_build34W _ rfl ?_ D3.out ?_ ?_; (focus (simp [Region.wanted, yielded, Act.put]; done)); (focus (simp [Act.eval, Act.put]; done))) | (refine wpList_build34W _ rfl ?_ D5.out ?_ ?_; (focus (simp [Region.wanted, yielded, Act.put]; done)); (focus (simp [Act.eval, Act.put]; done))) | (refine wpList_build34W _ rfl ?_ D4.out ?_ ?_; (focus (simp [Region.wanted, yielded, Act.put]; done)); (focus (simp [Act.eval, Act.put]; done))) | (refine wpList_buildRsW _ rfl ?_ E1.out ?_ ?_; (focus (simp [Region.wanted, yielded, Act.put]; done)); (focus (simp [Act.eval, Act.put]; done))) | (refine wpList_buildRsW _ rfl ?_ E3.out ?_ ?_; (focus (simp [Region.wanted, yielded, Act.put]; done)); (focus (simp [Act.eval, Act.put]; done))) | (refine wpList_buildRsW _ rfl ?_ E7.out ?_ ?_; (focus (simp [Region.wanted, yielded, Act.put]; done)); (focus (simp [Act.eval, Act.put]; done))) | (refine wpList_buildRsW _ rfl ?_ E0.out ?_ ?_; (focus (simp [Region.wanted, yielded, Act.put]; done)); (focus (simp [Act.eval, Act.put]; done))))
  refine (Step_ms (r := ⟨0, 0, []⟩) HM2.out HF.out mm0_ok (RE.nil ucl 1 _ none 0) (fun k hk => (own_nil hk).elim) (rs_ok (by omega) (by omega)) (RE.nil ucl 1 _ none 0)).mono ?_
  rintro e W3 ⟨rfl, hms, -⟩
  rw [k3.1]
  rw [k3.2] at hms
  have HM3 := hide hms
  clear hms
  go_wp2_with (first | (refine wpList_build34W _ rfl ?_ D1.out ?_ ?_; (focus (simp [Region.wanted, yielded, Act.put]; done)); (focus (simp [Act.eval, Act.put]; done))) | (refine wpList_build34W _ rfl ?_ D3.out ?_ ?_; (focus (simp [Region.wanted, yielded, Act.put]; done)); (focus (simp [Act.eval, Act.put]; done))) | (refine wpList_build34W _ rfl ?_ D5.out ?_ ?_; (focus (simp [Region.wanted, yielded, Act.put]; done)); (focus (simp [Act.eval, Act.put]; done))) | (refine wpList_build34W _ rfl ?_ D4.out ?_ ?_; (focus (simp [Region.wanted, yielded, Act.put]; done)); (focus (simp [Act.eval, Act.put]; done))) | (refine wpList_buildRsW _ rfl ?_ E1.out ?_ ?_; (focus (simp [Region.wanted, yielded, Act.put]; done)); (focus (simp [Act.eval, Act.put]; done))) | (refine wpList_buildRsW _ rfl ?_ E3.out ?_ ?_; (focus (simp [Region.wanted, yielded, Act.put]; done)); (focus (simp [Act.eval, Act.put]; done))) | (refine wpList_buildRsW _ rfl ?_ E7.out ?_ ?_; (focus (simp [Region.wanted, yielded, Act.put]; done)); (focus (simp [Act.eval, Act.put]; done))) | (refine wpList_buildRsW _ rfl ?_ E0.out ?_ ?_; (focus (simp [Region.wanted, yielded, Act.put]; done)); (focus (simp [Act.eval, Act.put]; done))) | (refine wpList_buildRsW _ rfl ?_ (br_l (some ⟨W3.heap.size, 0, none⟩) 2 2 [0, 0]) ?_ ?_; (focus (simp [Region.wanted, yielded, Act.put]; done)); (focus (simp [Act.eval, Act.put]; done))))
  refine (Step_ms (r := ⟨0, 0, [0, 0]⟩) (HM3.out.stay ((Chg.refl [] W3).alloc _)) HF.out ld0_ok (RE.nil ucl 1 _ none 0) (fun k hk => (own_nil hk).elim) ⟨by decide, by decide, by decide⟩ (Rd_new W3 5 1 2 (fc ucl [0, 0]) rfl)).mono ?_
  rintro e W4 ⟨rfl, hms, -⟩
  rw [k4.1]
  rw [k4.2] at hms
  have HM4 := hide hms
  clear hms
  go_wp2_with (first | (refine wpList_build34W _ rfl ?_ D1.out ?_ ?_; (focus (simp [Region.wanted, yielded, Act.put]; done)); (focus (simp [Act.eval, Act.put]; done))) | (refine wpList_build34W _ rfl ?_ D3.out ?_ ?_; (focus (simp [Region.wanted, yielded, Act.put]; done)); (focus (simp [Act.eval, Act.put]; done))) | (refine wpList_build34W _ rfl ?_ D5.out ?_ ?_; (focus (simp [Region.wanted, yielded, Act.put]; done)); (focus (simp [Act.eval, Act.put]; done))) | (refine wpList_build34W _ rfl ?_ D4.out ?_ ?_; (focus (simp [Region.wanted, yielded, Act.put]; done)); (focus (simp [Act.eval, Act.put]; done))) | (refine wpList_buildRsW _ rfl ?_ E1.out ?_ ?_; (focus (simp [Region.wanted, yielded, Act.put]; done)); (focus (simp [Act.eval, Act.put]; done))) | (refine wpList_buildRsW _ rfl ?_ E3.out ?_ ?_; (focus (simp [Region.wanted, yielded, Act.put]; done)); (focus (simp [Act.eval, Act.put]; done))) | (refine wpList_buildRsW _ rfl ?_ E7.out ?_ ?_; (focus (simp [Region.wanted, yielded, Act.put]; done)); (focus (simp [Act.eval, Act.put]; done))) | (refine wpList_buildRsW _ rfl ?_ E0.out ?_ ?_; (focus (simp [Region.wanted, yielded, Act.put]; done)); (focus (simp [Act.eval, Act.put]; done))))
  refine (Step_ms (r := ⟨0, 0, []⟩) HM4.out HF.out km_ok (RE.nil ucl 1 _ none 0) (fun k hk => (own_nil hk).elim) (rs_ok (by omega) (by omega)) (RE.nil ucl 1 _ none 0)).mono ?_
  rintro e W5 ⟨rfl, hms, -⟩
  rw [k5]
  rw [stepM_no k5] at hms
  have HM5 := hide hms
  clear hms
  go_wp2_with (first | (refine wpList_build34W _ rfl ?_ D1.out ?_ ?_; (focus (simp [Region.wanted, yielded, Act.put]; done)); (focus (simp [Act.eval, Act.put]; done))) | (refine wpList_build34W _ rfl ?_ D3.out ?_ ?_; (focus (simp [Region.wanted, yielded, Act.put]; done)); (focus (simp [Act.eval, Act.put]; done))) | (refine wpList_build34W _ rfl ?_ D5.out ?_ ?_; (focus (simp [Region.wanted, yielded, Act.put]; done)); (focus (simp [Act.eval, Act.put]; done))) | (refine wpList_build34W _ rfl ?_ D4.out ?_ ?_; (focus (simp [Region.wanted, yielded, Act.put]; done)); (focus (simp [Act.eval, Act.put]; done))) | (refine wpList_buildRsW _ rfl ?_ E1.out ?_ ?_; (focus (simp [Region.wanted, yielded, Act.put]; done)); (focus (simp [Act.eval, Act.put]; done))) | (refine wpList_buildRsW _ rfl ?_ E3.out ?_ ?_; (focus (simp [Region.wanted, yielded, Act.put]; done)); (focus (simp [Act.eval, Act.put]; done))) | (refine wpList_buildRsW _ rfl ?_ E7.out ?_ ?_; (focus (simp [Region.wanted, yielded, Act.put]; done)); (focus (simp [Act.eval, Act.put]; done))) | (refine wpList_buildRsW _ rfl ?_ E0.out ?_ ?_; (focus (simp [Region.wanted, yielded, Act.put]; done)); (focus (simp [Act.eval, Act.put]; done))))
  refine (Step_ms (r := ⟨0, 7, []⟩) HM5.out HF.out km_ok (RE.nil ucl 1 _ none 0) (fun k hk => (own_nil hk).elim) (rs_ok (by omega) (by omega)) (RE.nil ucl 1 _ none 0)).mono ?_
  rintro e W6 ⟨rfl, hms, -⟩
  rw [k6.1]
  rw [k6.2] at hms
  have HM6 := hide hms
  clear hms
  go_wp2_with (first | (refine wpList_build34W _ rfl ?_ D1.out ?_ ?_; (focus (simp [Region.wanted, yielded, Act.put]; done)); (focus (simp [Act.eval, Act.put]; done))) | (refine wpList_build34W _ rfl ?_ D3.out ?_ ?_; (focus (simp [Region.wanted, yielded, Act.put]; done)); (focus (simp [Act.eval, Act.put]; done))) | (refine wpList_build34W _ rfl ?_ D5.out ?_ ?_; (focus (simp [Region.wanted, yielded, Act.put]; done)); (focus (simp [Act.eval, Act.put]; done))) | (refine wpList_build34W _ rfl ?_ D4.out ?_ ?_; (focus (simp [Region.wanted, yielded, Act.put]; done)); (focus (simp [Act.eval, Act.put]; done))) | (refine wpList_buildRsW _ rfl ?_ E1.out ?_ ?_; (focus (simp [Region.wanted, yielded, Act.put]; done)); (focus (simp [Act.eval, Act.put]; done))) | (refine wpList_buildRsW _ rfl ?_ E3.out ?_ ?_; (focus (simp [Region.wanted, yielded, Act.put]; done)); (focus (simp [Act.eval, Act.put]; done))) | (refine wpList_buildRsW _ rfl ?_ E7.out ?_ ?_; (focus (simp [Region.wanted, yielded, Act.put]; done)); (focus (simp [Act.eval, Act.put]; done))) | (refine wpList_buildRsW _ rfl ?_ E0.out ?_ ?_; (focus (simp [Region.wanted, yielded, Act.put]; done)); (focus (simp [Act.eval, Act.put]; done))))
  refine (Step_ms (r := ⟨0, 7, []⟩) HM6.out HF.out km_ok (RE.nil ucl 1 _ none 0) (fun k hk => (own_nil hk).elim) (rs_ok (by omega) (by omega)) (RE.nil ucl 1 _ none 0)).mono ?_
  rintro e W7 ⟨rfl, hms, -⟩
  rw [k7]
  have HM7 := hide hms
  clear hms
  go_wp2_with fail
  go_ret
  exact ⟨rfl, HM7.out.chg⟩
end Go.Proofs.YtfoleblcaloeoaaDoor

/- Has; ModelSpawns: its walk. -/
namespace Go.Proofs.YtfoleblcaloeoaaDoor
open Go Go.RowKit

theorem eqP0 (t : TypeId) (ht : t = 72) (w : World) : (binOp .neq t (.pointer none) (.pointer none)).run Tryd.prog w = .ok (.bool false) w := by subst ht; kernel_rfl
set_option maxRecDepth 20000 in
set_option maxHeartbeats 4000000 in
theorem Has_any {w : World} {m : Nat} {M : Mo} {bp bo be : Nat} {fp fo fe : Int → Option Value} {gb : Int → Nat} {GF : Int → Nat → Prop} {ov : Int → Value} (hI : MIn w m M bp bo be fp fo fe gb GF ov) (pid : Int) :
    Calls Tryd.prog 16 #[.pointer (some ⟨m, 0, none⟩), .int .i64 pid] w fun e w' => e = .returned (.bool (M.pr pid).isSome) ∧ w = w' := by
  have HNN := hide (none_any hI.blk)
  have hlk := look_pr hI pid
  obtain ⟨qp, -, -, qm, -⟩ := mo_cells hI.blk
  clear hI
  cases hp : M.pr pid with
  | none =>
    rw [hp] at hlk
    clear hp
    go_enter Tryd.func16, Tryd.ntmps16
    go_wp2_with fail
    refine HNN.out.mono ?_
    rintro e W2 ⟨rfl, rfl⟩
    go_wp2_with fail
    go_ret
    exact ⟨rfl, rfl⟩
  | some p =>
    rw [hp] at hlk
    clear hp
    go_enter Tryd.func16, Tryd.ntmps16
    go_wp2_with fail
    refine HNN.out.mono ?_
    rintro e W2 ⟨rfl, rfl⟩
    go_wp2_with fail
    go_ret
    exact ⟨rfl, rfl⟩
theorem Has_ms {W0 w : World} {L : List Nat} {m : Nat} {M : Mo} (h : MS W0 L w m M) (pid : Int) :
    Calls Tryd.prog 16 #[.pointer (some ⟨m, 0, none⟩), .int .i64 pid] w fun e w' => e = .returned (.bool (M.pr pid).isSome) ∧ w = w' := by
  obtain ⟨⟨O, ⟨bp, bo, be, fp, fo, fe, gb, GF, ov, hI, _, _⟩, _, _⟩, _, _⟩ := h
  exact Has_any hI pid
/-! ## Plain -/
def bitAt (b : Nat) (q : Int) : Bool := b.testBit (q - 1).toNat
/-- the processes that are there -/
def thM (c : Cf) (f : Int → Bool) : Mo := ⟨c, fun q => if (decide (1 ≤ q ∧ q ≤ 8) && f q) = true then some newPr else none, fun _ => none, fun _ => false⟩
theorem mk_pr {c : Cf} {a b : Int → Option Pr} {ob : Int → Option (List Nat)} {ev : Int → Bool} (h : ∀ q, a q = b q) : Mo.mk c a ob ev = Mo.mk c b ob ev := by rw [funext h]
theorem thM_congr {c : Cf} {f g : Int → Bool} (h : ∀ q, 1 ≤ q → q ≤ 8 → f q = g q) : thM c f = thM c g := by
  refine mk_pr fun q => ?_
  by_cases h1 : 1 ≤ q ∧ q ≤ 8
  · rw [h q h1.1 h1.2]
  · simp [h1]
theorem thM_at {c : Cf} {f : Int → Bool} {q : Int} (h : 1 ≤ q ∧ q ≤ 8) : ((thM c f).pr q).isSome = f q := by
  show (if (decide (1 ≤ q ∧ q ≤ 8) && f q) = true then some newPr else none).isSome = f q
  rw [decide_eq_true h]
  cases f q <;> rfl
theorem thM_new (c : Cf) : newMo c = thM c (fun _ => false) := by
  refine mk_pr fun q => ?_
  simp
theorem th_spawn {c : Cf} {f : Int → Bool} {n : Nat} (h : 1 ≤ n ∧ n ≤ 8) (h1 : ∀ q : Int, 1 ≤ q → q < n → f q = true) (h2 : f n = false) (hc : mayB c = true) :
    stepB (thM c f) cSp ⟨0, n, []⟩ = true ∧ stepM (thM c f) cSp ⟨0, n, []⟩ = thM c (fun q => decide (q = n) || f q) := by
  have ha : answerA (thM c f) cSp n = (⟨0, n, []⟩, some { (thM c f) with pr := upd (thM c f).pr n (some newPr) }) := by
    unfold answerA
    rw [if_pos (show cSp.k = 1 from rfl)]
    refine find_pidN h (fun q hq hlt => ?_) ?_
    · have : 1 ≤ q ∧ q ≤ 8 := by simp [pids] at hq; omega
      have := thM_at (c := c) (f := f) this
      rw [h1 q (by omega) hlt] at this
      cases hq : (thM c f).pr q with
      | none => rw [hq] at this; cases this
      | some p => rfl
    · show (if (decide (1 ≤ (n : Int) ∧ (n : Int) ≤ 8) && f n) = true then some newPr else none) = none
      rw [h2]; simp
  refine ⟨by rw [stepB_ok _ (sp_nw hc), ha]; simp [freeK, sameRs], ?_⟩
  rw [stepM_ok (sp_nw hc) rfl (by rw [ha]; simp [sameRs]) rfl, ha]
  refine mk_pr fun q => ?_
  show upd (fun q => if (decide (1 ≤ q ∧ q ≤ 8) && f q) = true then some newPr else none) n (some newPr) q = _
  unfold upd
  by_cases hq : q = (n : Int)
  · have : 1 ≤ q ∧ q ≤ 8 := by omega
    rw [if_pos hq]
    simp [hq]
    omega
  · rw [if_neg hq]
    simp [hq]
theorem th_full {c : Cf} {f : Int → Bool} (h : ∀ q : Int, 1 ≤ q → q ≤ 8 → f q = true) (v : Nat) : answerA (thM c f) cSp v = (plainR 9, none) := by
  unfold answerA
  rw [if_pos (show cSp.k = 1 from rfl)]
  refine find_full (fun q hq _ => ?_)
  have h1 : 1 ≤ q ∧ q ≤ 8 := by simp [pids] at hq; omega
  have := thM_at (c := c) (f := f) h1
  rw [h q h1.1 h1.2] at this
  cases hq : (thM c f).pr q with
  | none => rw [hq] at this; cases this
  | some p => rfl
def cEx (p : Int) : Cl := { zCl with k := 2, p := p }
theorem ex_built (p : Int) : BC [(0, .int .u8 2), (1, .int .i64 p)] (cEx p) zV := ⟨by kernel_rfl⟩
theorem ex_ok {p : Int} (h : 0 ≤ p ∧ p ≤ 1000) : (cEx p).Ok := by constructor <;> simp [cEx, zCl]; omega
theorem ex_nw {c : Cf} (h : mayB c = true) (p : Int) : wrongK c (cEx p) = false := nw_of h (by
    unfold mayK
    have h1 : bareK (cEx p) = cEx p := rfl
    rw [h1]
    simp [sameB, cEx, zCl, fld]) rfl rfl rfl rfl rfl rfl rfl rfl
theorem th_exit {c : Cf} {f : Int → Bool} {n : Nat} (h : 1 ≤ n ∧ n ≤ 8) (h2 : f n = true) (hc : mayB c = true) :
    stepB (thM c f) (cEx n) ⟨0, 0, []⟩ = true ∧ stepM (thM c f) (cEx n) ⟨0, 0, []⟩ = thM c (fun q => decide (q ≠ n) && f q) := by
  have hp : (thM c f).pr n = some newPr := by
    show (if (decide (1 ≤ (n : Int) ∧ (n : Int) ≤ 8) && f n) = true then some newPr else none) = some newPr
    rw [h2, if_pos]
    simp
    omega
  have ha : answerA (thM c f) (cEx n) 0 = (plainR 0, some { (thM c f) with pr := upd (thM c f).pr n none }) := by
    rw [answer_pr 0 (by simp [cEx])]
    show (match (thM c f).pr n with | none => (plainR 7, none) | some p => procA (thM c f) (cEx n) 0 p) = _
    rw [hp]
    show procA (thM c f) (cEx n) 0 newPr = _
    unfold procA
    rw [if_pos (show (cEx n).k = 2 from rfl)]
    rfl
  refine ⟨by rw [stepB_ok _ (ex_nw hc _), ha]; simp [freeK, sameRs, plainR, cEx, zCl], ?_⟩
  rw [stepM_ok (ex_nw hc _) rfl (by rw [ha]; simp [sameRs, plainR]) rfl, ha]
  refine mk_pr fun q => ?_
  show upd (fun q => if (decide (1 ≤ q ∧ q ≤ 8) && f q) = true then some newPr else none) n none q = _
  unfold upd
  by_cases hq : q = (n : Int)
  · rw [if_pos hq]
    simp [hq]
  · rw [if_neg hq]
    simp [hq]
end Go.Proofs.YtfoleblcaloeoaaDoor

/- ModelSpawns: its walk (printed by genmqd.py). -/
namespace Go.Proofs.YtfoleblcaloeoaaDoor
open Go Go.RowKit

theorem bit_val {b k : Nat} (hb : b < 256) (hk : 1 ≤ k ∧ k ≤ 8) : ((b / 2 ^ (k - 1)) % 2 = 1) = (bitAt b k = true) := by
  unfold bitAt
  rw [Nat.testBit_eq_decide_div_mod_eq]
  rw [show ((k : Int) - 1).toNat = k - 1 by omega]
  simp
theorem run_shr {b k : Nat} (hk : 1 ≤ k ∧ k ≤ 8) (W : World) : (Op.shift .shr .u8 (b : Int) .i64 ((k : Int) - 1)).run Tryd.prog W = .ok (.int .u8 ((b / 2 ^ (k - 1) : Nat) : Int)) W := by
  rw [shift_shr .u8 .i64 (b : Int) ((k : Int) - 1) (by omega) (by show (k : Int) - 1 ≤ 8; omega)]
  rw [show ((k : Int) - 1).toNat = k - 1 by omega]
  simp
set_option maxRecDepth 20000 in
set_option maxHeartbeats 40000000 in
theorem spawns_law {w : World} (hf : FW w) (c : Cf) {b : Nat} (hb : b < 256) :
    Calls Tryd.prog 7 #[.agg (cg c), .int .u8 b] w fun e w' => e = .returned (.bool true) ∧ Chg [] w w' := by
  have HF := hide hf
  have HM := hide (fun W => rMay_any c W)
  have HK := hide (fun W (h : Chg [] w W) => known_any (hf.stay h))
  have E9 := hide (br_e 9)
  have E0 := hide br_0
  have EV9 := hide (br_v 9)
  have HB8 := hide hb
  obtain ⟨W1, hW1⟩ : ∃ W1, W1 = w.alloc (.cells (cg c) 26) := ⟨_, rfl⟩
  have hb2 : CB W1 w.heap.size c := by rw [hW1]; exact Blk.new w 26 _
  have hc1 : Chg [] w W1 := by rw [hW1]; exact (Chg.refl [] w).alloc _
  have HB2 := hide hb2
  have HC1 := hide hc1
  have HW1 := hide hW1
  clear hf hb2 hc1 hW1 hb
  obtain ⟨b0, hb0⟩ : ∃ z : Int, z = (b : Int) := ⟨_, rfl⟩
  rw [← hb0]
  have HB0 := hide hb0
  clear hb0
  go_enter Tryd.func7, Tryd.ntmps7
  go_wp2_with (first | (refine wpList_box26 rfl _ rfl rfl ?_; try rw [← HW1.out]) | (refine wpList_load26L (b := w.heap.size) (c := c) rfl _ rfl rfl ?_ ?_; (focus exact HB2.out)))
  refine (HM.out _).mono ?_
  rintro e W2 ⟨rfl, hc2⟩
  have HC2 := hide (HC1.out.stay hc2)
  have HB22 := hide (show CB W2 w.heap.size c from Blk.chg HB2.out hc2 List.not_mem_nil)
  clear hc2
  cases hm : mayB c with
  | false =>
    clear hm
    go_wp2_with fail
    refine (HK.out _ HC2.out).mono ?_
    rintro e W3 ⟨rfl, hc3⟩
    go_wp2_with fail
    go_ret
    exact ⟨rfl, HC2.out.stay hc3⟩
  | true =>
  have HMB := hide hm
  clear hm
  go_wp2_with (first | (refine wpList_load26L (b := w.heap.size) (c := c) rfl _ rfl rfl ?_ ?_; (focus exact HB22.out)))
  refine (New_ms (L := []) HMB.out HC2.out (fun k hk => by cases hk)).mono ?_
  rintro e W3 ⟨⟨m, rfl, hms⟩, hc3⟩
  have HMS := hide hms
  have D1 := hide sp_built
  clear hms hc3
  go_upto_region 8 with (first | (refine wpList_build34 rfl _ rfl D1.out ?_ ?_; (focus (simp [Act.eval]; done))) | (refine wpList_alloc34 rfl rfl ?_; try go_simp) | (refine wpList_store34 (b := W3.heap.size) (y := cSp) (u := zV) rfl _ _ rfl rfl rfl rfl (Blk.new W3 _ _) ?_; intro W4 h4 hc4; have H4 := hide h4; have HC4 := hide (show Chg [] W3 W4 from ((Chg.refl [] W3).alloc _).trans hc4 (fun y hy => .inr (by obtain rfl := List.mem_singleton.1 hy; exact Nat.le_refl _))); clear h4 hc4))
  obtain ⟨b7, hb7⟩ : ∃ b, b = W3.heap.size := ⟨_, rfl⟩
  rw [← hb7] at H4 ⊢
  have HMS4 := hide (show MS w [b7] W4 m (thM c fun q => decide (q < ((1 : Nat) : Int))) from by
    have h := HMS.out.guard HC4.out [b7] (fun k hk => by obtain rfl := List.mem_singleton.1 hk; have := H4.out.lt; omega)
    rw [thM_new] at h
    rw [thM_congr (g := fun _ => false) (fun q h1 _ => by simp; omega)]
    exact h)
  clear hb7
  go_loopw [8] (fun z wr => ∃ k : Nat, 1 ≤ k ∧ k ≤ 9 ∧ z = .int .i64 k ∧ Hid (MS w [b7] wr m (thM c fun q => decide (q < (k : Int)))) ∧ Hid (KB wr b7 cSp zV)) (fun z _ => (9 - intOf z).toNat)
  case atStart => exact ⟨1, by omega, by omega, rfl, HMS4, H4⟩
  case round =>
    obtain ⟨k, k1, k9, rfl, hms, h7⟩ := hrel
    by_cases k8 : k ≤ 8
    · have d8 : decide ((k : Int) ≤ 8) = true := decide_eq_true (by omega)
      have hwp : IntKind.u64.wrap (k : Int) = (k : Int) := by rw [IntKind.wrap_u64]; omega
      have hwi : IntKind.i64.wrap ((k : Int) + 1) = (k : Int) + 1 := by rw [IntKind.wrap_i64]; omega
      have H18 := hide (And.intro k1 k8)
      have HMSk := hide hms.out
      have H7 := hide h7.out
      have EVK := hide (br_v k)
      clear hms h7 k1 k9 k8
      go_wp2_with fail
      refine (Has_ms HMSk.out k).mono ?_
      rintro e W5 ⟨rfl, rfl⟩
      rw [thM_at (by have := H18.out; omega), decide_eq_false (by omega)]
      go_wp2_with (first | (refine wpList_load34W (b := b7) (x := cSp) (v := zV) _ rfl rfl ?_ H7.out ?_; (focus (simp [Region.wanted, yielded, Act.put]; done))) | (refine wpList_buildRsW _ rfl ?_ EVK.out ?_ ?_; (focus (simp [Region.wanted, yielded, Act.put]; done)); (focus (simp [Act.eval, Act.put]; done))))
      refine (Step_ms (r := ⟨0, k, []⟩) HMSk.out HF.out sp_ok (RE.nil ucl 1 _ none 0) (fun k hk => (own_nil hk).elim) (rs_ok (by omega) (by have := H18.out; omega)) (RE.nil ucl 1 _ none 0)).mono ?_
      rintro e W6 ⟨rfl, hms, hkp⟩
      have hs := th_spawn (c := c) (f := fun q => decide (q < (k : Int))) H18.out (fun q _ h => decide_eq_true h) (decide_eq_false (by omega)) HMB.out
      rw [hs.1]
      rw [hs.2] at hms
      have HMS6 := hide hms
      have H76 := hide (show KB W6 b7 cSp zV from hkp.blk H7.out (List.mem_singleton.2 rfl))
      clear hs hms hkp
      go_wp2_with fail
      refine (Has_ms HMS6.out k).mono ?_
      rintro e W7 ⟨rfl, rfl⟩
      rw [thM_at (by have := H18.out; omega), show (decide ((k : Int) = (k : Int)) || decide ((k : Int) < (k : Int))) = true by simp]
      go_wp2_with fail
      go_roundw
      case rel => exact ⟨k + 1, by omega, by have := H18.out; omega, by go_num, hide (by rw [thM_congr (g := fun q => decide (q = (k : Int)) || decide (q < (k : Int))) (fun q _ _ => by rw [Bool.eq_iff_iff]; simp; omega)]; exact HMS6.out), H76⟩
      case measure => have := H18.out; simp [intOf]; omega
    · obtain rfl : k = 9 := by omega
      have HMSk := hide (show MS w [b7] wr m (thM c fun _ => true) from by
        have h := hms.out
        rwa [thM_congr (g := fun _ => true) (fun q _ h => by simp; omega)] at h)
      have H7 := hide h7.out
      clear hms h7 k1 k9 k8
      go_wp2_with (first | (refine wpList_load34 rfl _ rfl rfl H7.out ?_) | (refine wpList_buildRs rfl _ rfl E9.out ?_ ?_; (focus (simp [Act.eval]; done))))
      refine (Step_ms (r := plainR 9) HMSk.out HF.out sp_ok (RE.nil ucl 1 _ none 0) (fun k hk => (own_nil hk).elim) (rs_ok (by omega) (by omega)) (RE.nil ucl 1 _ none 0)).mono ?_
      rintro e W6 ⟨rfl, hms, hkp⟩
      rw [show stepB (thM c fun _ => true) cSp (plainR 9) = true by rw [stepB_ok _ (sp_nw HMB.out), th_full (fun _ _ _ => rfl)]; rfl]
      rw [stepM_err (by decide)] at hms
      have HMS6 := hide hms
      have H76 := hide (show KB W6 b7 cSp zV from hkp.blk H7.out (List.mem_singleton.2 rfl))
      clear hms hkp HMSk H7
      go_upto_region 15 with (fail)
      go_loopw [9] (fun z wr => ∃ k : Nat, 1 ≤ k ∧ k ≤ 9 ∧ z = .int .i64 k ∧ Hid (MS w [b7] wr m (thM c fun q => !(decide (q < (k : Int)) && bitAt b q))) ∧ Hid (KB wr b7 cSp zV)) (fun z _ => (9 - intOf z).toNat)
      case atStart => exact ⟨1, by omega, by omega, rfl, hide (by rw [thM_congr (g := fun _ => true) (fun q h _ => by simp; omega)]; exact HMS6.out), H76⟩
      case round =>
        obtain ⟨k, k1, k9, rfl, hms, h7⟩ := hrel
        by_cases k8 : k ≤ 8
        · have d8 : decide ((k : Int) ≤ 8) = true := decide_eq_true (by omega)
          have hwp : IntKind.u64.wrap (k : Int) = (k : Int) := by rw [IntKind.wrap_u64]; omega
          have hwi : IntKind.i64.wrap ((k : Int) + 1) = (k : Int) + 1 := by rw [IntKind.wrap_i64]; omega
          have hwm : IntKind.i64.wrap ((k : Int) - 1) = (k : Int) - 1 := by rw [IntKind.wrap_i64]; omega
          have H18 := hide (And.intro k1 k8)
          have HMSk := hide hms.out
          have H7 := hide h7.out
          have EVK := hide (br_v k)
          clear hms h7 k1 k9 k8
          obtain ⟨sv, hsv⟩ : ∃ n : Nat, n = b / 2 ^ (k - 1) := ⟨_, rfl⟩
          have hsh := fun W => run_shr (b := b) H18.out W
          rw [← hsv, ← HB0.out] at hsh
          have HSV := hide hsv
          clear hsv
          by_cases hq : (sv : Int) % 2 = 1
          · have hbit : bitAt b (k : Int) = true := by rw [← bit_val HB8.out H18.out, ← HSV.out]; omega
            have HBIT := hide hbit
            have XB1 := hide (ex_built (k : Int))
            clear hbit
            go_wp2_with (first | (refine wpList_build34W _ rfl ?_ XB1.out ?_ ?_; (focus (simp [Region.wanted, yielded, Act.put]; done)); (focus (simp [Act.eval, Act.put]; done))) | (refine wpList_buildRsW _ rfl ?_ E0.out ?_ ?_; (focus (simp [Region.wanted, yielded, Act.put]; done)); (focus (simp [Act.eval, Act.put]; done))))
            refine (Step_ms (x := cEx (k : Int)) (r := ⟨0, 0, []⟩) HMSk.out HF.out (ex_ok (by have := H18.out; omega)) (RE.nil ucl 1 _ none 0) (fun k hk => (own_nil hk).elim) (rs_ok (by omega) (by omega)) (RE.nil ucl 1 _ none 0)).mono ?_
            rintro e W6 ⟨rfl, hms, hkp⟩
            have hs := th_exit (c := c) (f := fun q => !(decide (q < (k : Int)) && bitAt b q)) H18.out (by simp) HMB.out
            rw [hs.1]
            rw [hs.2] at hms
            have HMS6 := hide hms
            have H76 := hide (show KB W6 b7 cSp zV from hkp.blk H7.out (List.mem_singleton.2 rfl))
            clear hs hms hkp
            go_wp2_with fail
            go_roundw
            case rel => exact ⟨k + 1, by omega, by have := H18.out; omega, by go_num, hide (by
              rw [thM_congr (g := fun q => decide (q ≠ (k : Int)) && !(decide (q < (k : Int)) && bitAt b q)) (fun q _ _ => by
                by_cases h : q = (k : Int)
                · rw [h, HBIT.out]; simp; omega
                · have e : decide (q < ((k + 1 : Nat) : Int)) = decide (q < (k : Int)) := by rw [Bool.eq_iff_iff]; simp; omega
                  rw [e]; simp [h])]
              exact HMS6.out), H76⟩
            case measure => have := H18.out; simp [intOf]; omega
          · have hbit : bitAt b (k : Int) = false := by
              cases h : bitAt b (k : Int) with
              | false => rfl
              | true => rw [← bit_val HB8.out H18.out, ← HSV.out] at h; omega
            have HBIT := hide hbit
            clear hbit
            go_wp2_with fail
            go_roundw
            case rel => exact ⟨k + 1, by omega, by have := H18.out; omega, by go_num, hide (by
              rw [thM_congr (g := fun q => !(decide (q < (k : Int)) && bitAt b q)) (fun q _ _ => by
                by_cases h : q = (k : Int)
                · rw [h, HBIT.out]; simp
                · have e : decide (q < ((k + 1 : Nat) : Int)) = decide (q < (k : Int)) := by rw [Bool.eq_iff_iff]; simp; omega
                  rw [e])]
              exact HMSk.out), H7⟩
            case measure => have := H18.out; simp [intOf]; omega
        · obtain rfl : k = 9 := by omega
          have HMSk := hide hms.out
          have H7 := hide h7.out
          clear hms h7 k1 k9 k8
          go_upto_region 20 with (fail)
          go_loopw [10] (fun z wr => ∃ k : Nat, 1 ≤ k ∧ k ≤ 9 ∧ z = .int .i64 k ∧ Hid (MS w [b7] wr m (thM c fun q => decide (q < (k : Int)) || !(bitAt b q))) ∧ Hid (KB wr b7 cSp zV)) (fun z _ => (9 - intOf z).toNat)
          case atStart => exact ⟨1, by omega, by omega, rfl, hide (by rw [thM_congr (g := fun q => !(decide (q < ((9 : Nat) : Int)) && bitAt b q)) (fun q h1 h2 => by rw [show decide (q < ((1 : Nat) : Int)) = false from decide_eq_false (by omega), show decide (q < ((9 : Nat) : Int)) = true from decide_eq_true (by omega)]; rfl)]; exact HMSk.out), H7⟩
          case round =>
            obtain ⟨k, k1, k9, rfl, hms, h7⟩ := hrel
            by_cases k8 : k ≤ 8
            · have d8 : decide ((k : Int) ≤ 8) = true := decide_eq_true (by omega)
              have hwp : IntKind.u64.wrap (k : Int) = (k : Int) := by rw [IntKind.wrap_u64]; omega
              have hwi : IntKind.i64.wrap ((k : Int) + 1) = (k : Int) + 1 := by rw [IntKind.wrap_i64]; omega
              have hwm : IntKind.i64.wrap ((k : Int) - 1) = (k : Int) - 1 := by rw [IntKind.wrap_i64]; omega
              have H18 := hide (And.intro k1 k8)
              have HMSk := hide hms.out
              have H7 := hide h7.out
              have EVK := hide (br_v k)
              clear hms h7 k1 k9 k8
              obtain ⟨sv, hsv⟩ : ∃ n : Nat, n = b / 2 ^ (k - 1) := ⟨_, rfl⟩
              have hsh := fun W => run_shr (b := b) H18.out W
              rw [← hsv, ← HB0.out] at hsh
              have HSV := hide hsv
              clear hsv
              by_cases hq : (sv : Int) % 2 = 1
              · have hbit : bitAt b (k : Int) = true := by rw [← bit_val HB8.out H18.out, ← HSV.out]; omega
                have HBIT := hide hbit
                clear hbit
                go_wp2_with (first | (refine wpList_load34W (b := b7) (x := cSp) (v := zV) _ rfl rfl ?_ H7.out ?_; (focus (simp [Region.wanted, yielded, Act.put]; done))) | (refine wpList_buildRsW _ rfl ?_ EVK.out ?_ ?_; (focus (simp [Region.wanted, yielded, Act.put]; done)); (focus (simp [Act.eval, Act.put]; done))))
                refine (Step_ms (r := ⟨0, k, []⟩) HMSk.out HF.out sp_ok (RE.nil ucl 1 _ none 0) (fun k hk => (own_nil hk).elim) (rs_ok (by omega) (by have := H18.out; omega)) (RE.nil ucl 1 _ none 0)).mono ?_
                rintro e W6 ⟨rfl, hms, hkp⟩
                have hs := th_spawn (c := c) (f := fun q => decide (q < (k : Int)) || !(bitAt b q)) H18.out (fun q _ h => by simp [h]) (by rw [HBIT.out]; simp) HMB.out
                rw [hs.1]
                rw [hs.2] at hms
                have HMS6 := hide hms
                have H76 := hide (show KB W6 b7 cSp zV from hkp.blk H7.out (List.mem_singleton.2 rfl))
                clear hs hms hkp
                go_wp2_with fail
                go_roundw
                case rel =>
                  (repeat apply Exists.intro)
                  refine ⟨?_, rfl⟩
                  exact ⟨k + 1, by omega, by have := H18.out; omega, by go_num, hide (by
                  rw [thM_congr (g := fun q => decide (q = (k : Int)) || (decide (q < (k : Int)) || !(bitAt b q))) (fun q _ _ => by
                    by_cases h : q = (k : Int)
                    · rw [h, HBIT.out]; simp; omega
                    · have e : decide (q < ((k + 1 : Nat) : Int)) = decide (q < (k : Int)) := by rw [Bool.eq_iff_iff]; simp; omega
                      rw [e]; simp [h])]
                  exact HMS6.out), H76⟩
                case measure => have := H18.out; simp [intOf]; omega
              · have hbit : bitAt b (k : Int) = false := by
                  cases h : bitAt b (k : Int) with
                  | false => rfl
                  | true => rw [← bit_val HB8.out H18.out, ← HSV.out] at h; omega
                have HBIT := hide hbit
                clear hbit
                go_wp2_with fail
                go_roundw
                case rel =>
                  (repeat apply Exists.intro)
                  refine ⟨?_, rfl⟩
                  exact ⟨k + 1, by omega, by have := H18.out; omega, by go_num, hide (by
                  rw [thM_congr (g := fun q => decide (q < (k : Int)) || !(bitAt b q)) (fun q _ _ => by
                    by_cases h : q = (k : Int)
                    · rw [h, HBIT.out]; simp
                    · have e : decide (q < ((k + 1 : Nat) : Int)) = decide (q < (k : Int)) := by rw [Bool.eq_iff_iff]; simp; omega
                      rw [e])]
                  exact HMSk.out), H7⟩
                case measure => have := H18.out; simp [intOf]; omega
            · obtain rfl : k = 9 := by omega
              have HMSk := hide (show MS w [b7] wr m (thM c fun _ => true) from by
                have h := hms.out
                rwa [thM_congr (g := fun _ => true) (fun q _ h => by simp; omega)] at h)
              have H7 := hide h7.out
              clear hms h7 k1 k9 k8
              go_wp2_with (first | (refine wpList_load34 rfl _ rfl rfl H7.out ?_) | (refine wpList_buildRs rfl _ rfl E9.out ?_ ?_; (focus (simp [Act.eval]; done))))
              refine (Step_ms (r := plainR 9) HMSk.out HF.out sp_ok (RE.nil ucl 1 _ none 0) (fun k hk => (own_nil hk).elim) (rs_ok (by omega) (by omega)) (RE.nil ucl 1 _ none 0)).mono ?_
              rintro e W6 ⟨rfl, hms, hkp⟩
              rw [show stepB (thM c fun _ => true) cSp (plainR 9) = true by rw [stepB_ok _ (sp_nw HMB.out), th_full (fun _ _ _ => rfl)]; rfl]
              rw [stepM_err (by decide)] at hms
              have HMS6 := hide hms
              have H76 := hide (show KB W6 b7 cSp zV from hkp.blk H7.out (List.mem_singleton.2 rfl))
              clear hms hkp HMSk H7
              go_wp2_with (first | (refine wpList_load34W (b := b7) (x := cSp) (v := zV) _ rfl rfl ?_ H76.out ?_; (focus (simp [Region.wanted, yielded, Act.put]; done))) | (refine wpList_buildRsW _ rfl ?_ EV9.out ?_ ?_; (focus (simp [Region.wanted, yielded, Act.put]; done)); (focus (simp [Act.eval, Act.put]; done))))
              refine (Step_ms (r := ⟨0, 9, []⟩) HMS6.out HF.out sp_ok (RE.nil ucl 1 _ none 0) (fun k hk => (own_nil hk).elim) (rs_ok (by omega) (by omega)) (RE.nil ucl 1 _ none 0)).mono ?_
              rintro e W7 ⟨rfl, hms, -⟩
              rw [show stepB (thM c fun _ => true) cSp ⟨0, 9, []⟩ = false by rw [stepB_ok _ (sp_nw HMB.out), th_full (fun _ _ _ => rfl)]; rfl]
              have HC7 := hide hms.chg
              clear hms
              go_wp2_with fail
              refine (HK.out _ HC7.out).mono ?_
              rintro e W8 ⟨rfl, hc8⟩
              go_wp2_with fail
              go_ret
              exact ⟨rfl, HC7.out.stay hc8⟩
end Go.Proofs.YtfoleblcaloeoaaDoor

/- A config that a law is handed. -/
namespace Go.Proofs.YtfoleblcaloeoaaDoor
open Go Go.RowKit Go.ChangeShapes Go.WideShapes Go.ChangeAt Go.Deep

theorem Tryd.own : ownKnob Tryd.prog.godebug = none := by kernel_rfl
section
variable {H : Type} {enc : TypeId × Value → H} {w : World} {base : Nat} {spare : Nat → Bool} {held : Bool}
theorem one_of {L : List Value} {i : Nat} {v : Value} (h : (L.drop i).take 1 = [v]) : L[i]? = some v := by
  have : ((L.drop i).take 1)[0]? = some v := by rw [h]; rfl
  rw [List.getElem?_take_of_lt (by omega), List.getElem?_drop] at this
  simpa using this
theorem one_int {fuel : Nat} {L : List Value} {i : Nat} {x : DataW H × List MemPlace} (h : DataW.trod enc Tryd.prog w base spare held fuel 3 ((L.drop i).take 1) = some x) : ∃ z, L[i]? = some (.int .i64 z) := by
  obtain ⟨z, e, _⟩ := DataW.trod_int Tryd.underlying3 h
  exact ⟨z, one_of e⟩
theorem arr_int {fuel t n : Nat} {L : List Value} {x : DataW H × List MemPlace} (hu : Tryd.prog.underlying t = some (.array n 3)) (h : DataW.trod enc Tryd.prog w base spare held fuel t L = some x) : ∀ i, i < n → ∃ z, L[i]? = some (.int .i64 z) := by
  obtain ⟨xs, m, _, _, _, hl, hel⟩ := DataW.trod_array hu h
  intro i hi
  have h1 := hel i hi
  rw [cells3, Nat.mul_one, List.getElem?_eq_getElem (by rw [hl]; exact hi)] at h1
  exact one_int h1
theorem sub_at {L : List Value} {o n i : Nat} {v : Value} (h : ((L.drop o).take n)[i]? = some v) : L[o + i]? = some v := by
  have hi : i < n := by
    have := (List.getElem?_eq_some_iff.1 h).1
    rw [List.length_take] at this
    omega
  rw [List.getElem?_take_of_lt hi, List.getElem?_drop] at h
  exact h
theorem cells22 : Tryd.prog.cellsOf 22 = 16 := by kernel_rfl
theorem cells24 : Tryd.prog.cellsOf 24 = 64 := by kernel_rfl
theorem cells26 : Tryd.prog.cellsOf 26 = 94 := by kernel_rfl
theorem open_cfg {cs : Array Value} {d : DataW H} {p : List MemPlace} (hs : cs.size = 94) (h : DataW.Trod enc Tryd.prog w base spare held 26 (.agg cs) d p) : ∃ c : Cf, cs = cg c := by
  obtain ⟨fuel, hf⟩ := h
  have hcs : (Value.agg cs).cells.toList = cs.toList := rfl
  rw [hcs] at hf
  obtain ⟨n, hp⟩ := trod_parts Tryd.underlying26 hf
  have each : ∀ i, i < 94 → ∃ z, cs.toList[i]? = some (.int .i64 z) := by
    intro i hi
    by_cases i0 : i = 0
    · subst i0
      obtain ⟨y, hy⟩ := trod_part hp 0 rfl 3 0 1 rfl rfl cells3
      exact one_int hy
    by_cases i1 : i = 1
    · subst i1
      obtain ⟨y, hy⟩ := trod_part hp 1 rfl 3 1 1 rfl rfl cells3
      exact one_int hy
    by_cases i2 : i < 18
    · obtain ⟨y, hy⟩ := trod_part hp 2 rfl 22 2 16 rfl rfl cells22
      obtain ⟨z, hz⟩ := arr_int Tryd.underlying22 hy (i - 2) (by omega)
      have := sub_at hz
      rw [show 2 + (i - 2) = i by omega] at this
      exact ⟨z, this⟩
    by_cases i3 : i < 26
    · obtain ⟨y, hy⟩ := trod_part hp 3 rfl 23 18 8 rfl rfl cells23
      obtain ⟨z, hz⟩ := arr_int Tryd.underlying23 hy (i - 18) (by omega)
      have := sub_at hz
      rw [show 18 + (i - 18) = i by omega] at this
      exact ⟨z, this⟩
    by_cases i4 : i < 90
    · obtain ⟨y, hy⟩ := trod_part hp 4 rfl 24 26 64 rfl rfl cells24
      obtain ⟨xs, m, _, _, _, hl, hel⟩ := DataW.trod_array Tryd.underlying24 hy
      have h1 := hel ((i - 26) / 8) (by omega)
      rw [cells23, List.getElem?_eq_getElem (by rw [hl]; omega)] at h1
      obtain ⟨z, hz⟩ := arr_int Tryd.underlying23 h1 ((i - 26) % 8) (by omega)
      have := sub_at (sub_at hz)
      rw [show 26 + ((i - 26) / 8 * 8 + (i - 26) % 8) = i by omega] at this
      exact ⟨z, this⟩
    rcases (by omega : i = 90 ∨ i = 91 ∨ i = 92 ∨ i = 93) with rfl | rfl | rfl | rfl
    · obtain ⟨y, hy⟩ := trod_part hp 5 rfl 3 90 1 rfl rfl cells3
      exact one_int hy
    · obtain ⟨y, hy⟩ := trod_part hp 6 rfl 3 91 1 rfl rfl cells3
      exact one_int hy
    · obtain ⟨y, hy⟩ := trod_part hp 7 rfl 3 92 1 rfl rfl cells3
      exact one_int hy
    · obtain ⟨y, hy⟩ := trod_part hp 8 rfl 3 93 1 rfl rfl cells3
      exact one_int hy
  classical
  refine ⟨fun i => if h : i < 94 then (each i h).choose else 0, cg_of hs fun i hi => ?_⟩
  simp only [dif_pos hi]
  exact (Array.getElem?_toList (xs := cs)).symm.trans (each i hi).choose_spec
end
theorem trodAll_single {H : Type} {enc : TypeId × Value → H} {P : Program} {w : World} {base : Nat} {spare : Nat → Bool} {held : Bool} {t0 : TypeId} {args : Array Value} {ds : List (DataW H)} {ps : List MemPlace} (h : DataW.TrodAll enc P w base spare held [t0] args.toList ds ps) :
    ∃ v0 d0 p0, args = #[v0] ∧ ds = [d0] ∧ ps = p0 ∧ DataW.Trod enc P w base spare held t0 v0 d0 p0 := by
  obtain ⟨v0, vs0, d0, ds0, p0, q0, hargs, rfl, rfl, h0, k0⟩ := trodAll_cons h
  obtain ⟨rfl, rfl, rfl⟩ := trodAll_nil k0
  exact ⟨v0, d0, p0, by cases args; simp_all, rfl, by simp, h0⟩
theorem trodAll_two {H : Type} {enc : TypeId × Value → H} {P : Program} {w : World} {base : Nat} {spare : Nat → Bool} {held : Bool} {t0 t1 : TypeId} {args : Array Value} {ds : List (DataW H)} {ps : List MemPlace} (h : DataW.TrodAll enc P w base spare held [t0, t1] args.toList ds ps) :
    ∃ v0 v1 d0 d1 p0 p1, args = #[v0, v1] ∧ ds = [d0, d1] ∧ ps = p0 ++ p1 ∧ DataW.Trod enc P w base spare held t0 v0 d0 p0 ∧ DataW.Trod enc P w base spare held t1 v1 d1 p1 := by
  obtain ⟨v0, vs0, d0, ds0, p0, q0, hargs, rfl, rfl, h0, k0⟩ := trodAll_cons h
  obtain ⟨v1, vs1, d1, ds1, p1, q1, rfl, rfl, rfl, h1, k1⟩ := trodAll_cons k0
  obtain ⟨rfl, rfl, rfl⟩ := trodAll_nil k1
  exact ⟨v0, v1, d0, d1, p0, p1, by cases args; simp_all, rfl, by simp, h0, h1⟩
theorem trodAll_three {H : Type} {enc : TypeId × Value → H} {P : Program} {w : World} {base : Nat} {spare : Nat → Bool} {held : Bool} {t0 t1 t2 : TypeId} {args : Array Value} {ds : List (DataW H)} {ps : List MemPlace} (h : DataW.TrodAll enc P w base spare held [t0, t1, t2] args.toList ds ps) :
    ∃ v0 v1 v2 d0 d1 d2 p0 p1 p2, args = #[v0, v1, v2] ∧ ds = [d0, d1, d2] ∧ ps = p0 ++ p1 ++ p2 ∧ DataW.Trod enc P w base spare held t0 v0 d0 p0 ∧ DataW.Trod enc P w base spare held t1 v1 d1 p1 ∧ DataW.Trod enc P w base spare held t2 v2 d2 p2 := by
  obtain ⟨v0, vs0, d0, ds0, p0, q0, hargs, rfl, rfl, h0, k0⟩ := trodAll_cons h
  obtain ⟨v1, vs1, d1, ds1, p1, q1, rfl, rfl, rfl, h1, k1⟩ := trodAll_cons k0
  obtain ⟨v2, vs2, d2, ds2, p2, q2, rfl, rfl, rfl, h2, k2⟩ := trodAll_cons k1
  obtain ⟨rfl, rfl, rfl⟩ := trodAll_nil k2
  exact ⟨v0, v1, v2, d0, d1, d2, p0, p1, p2, by cases args; simp_all, rfl, by simp, h0, h1, h2⟩
end Go.Proofs.YtfoleblcaloeoaaDoor

/- What a law is handed: bytes, a call, a result; the listed variable. -/
namespace Go.Proofs.YtfoleblcaloeoaaDoor
open Go Go.RowKit Go.ChangeShapes Go.WideShapes Go.ChangeAt Go.Deep

theorem cells5 : Tryd.prog.cellsOf 5 = 1 := by kernel_rfl
theorem cells9 : Tryd.prog.cellsOf 9 = 1 := by kernel_rfl
theorem cells36 : Tryd.prog.cellsOf 36 = 1 := by kernel_rfl
theorem cells37 : Tryd.prog.cellsOf 37 = 1 := by kernel_rfl
theorem cells39 : Tryd.prog.cellsOf 39 = 2 := by kernel_rfl
theorem cells40 : Tryd.prog.cellsOf 40 = 1 := by kernel_rfl
theorem cells27 : Tryd.prog.cellsOf 27 = 1 := by kernel_rfl
theorem cells42 : Tryd.prog.cellsOf 42 = 12 := by kernel_rfl
theorem cells33 : Tryd.prog.cellsOf 33 = 1 := by kernel_rfl
theorem cells45 : Tryd.prog.cellsOf 45 = 3 := by kernel_rfl
section
variable {H : Type} {enc : TypeId × Value → H} {w : World} {base : Nat} {spare : Nat → Bool} {held : Bool}
theorem open_bytes {fuel : Nat} {v : Value} {x : DataW H × List MemPlace}
    (h : DataW.trod enc Tryd.prog w base spare held fuel 27 [v] = some x) : ∃ l : List Nat, RB w v l ∧ (∀ b ∈ l, b < 256) ∧ (l.length : Int) ≤ 9223372036854775807 := by
  rcases open_ints Tryd.underlying27 Tryd.underlying5 cells5 h with ⟨hcs, _⟩ | ⟨a, len, cap, zs, hcs, _, hlc, hcm, hlen, _, hcell, hwf⟩
  · injection hcs with e
    subst e
    exact ⟨[], Rd.nil w 1 0 none, by simp, by simp⟩
  · injection hcs with e
    subst e
    have hzl : len ≤ zs.length := by rw [hlen]; split <;> omega
    have hl : ((zs.take len).map Int.toNat).length = len := by simp; omega
    have hb : ∀ i, (hi : i < zs.length) → 0 ≤ zs[i] ∧ zs[i] ≤ 255 := fun i hi => bounds_u8 (hwf _ (List.getElem_mem hi))
    refine ⟨(zs.take len).map Int.toNat, ?_, fun b hbm => ?_, by rw [hl]; unfold maxLen at hcm; omega⟩
    · refine ⟨by rw [fc_length ucl_len], some a, cap, by rw [hl], by rw [hl]; exact hlc, fun hpos => ?_⟩
      rw [hl] at hpos
      obtain ⟨g, off, rfl⟩ := plain_addr (by have := hcell 0 (by omega); exact this)
      refine ⟨g, off, rfl, fun j u hu => ?_⟩
      have hj : j < len := by
        have := (List.getElem?_eq_some_iff.1 hu).1
        rw [fc_length ucl_len, hl] at this
        omega
      have hg := fc_get ucl_len ((zs.take len).map Int.toNat) j 0 (by rw [hl]; exact hj) (by omega)
      rw [Nat.mul_one, Nat.add_zero, hu] at hg
      have hc := hcell j (by omega)
      rw [Addr.add_lit] at hc
      rw [hc, hg]
      have hz := hb j (by omega)
      simp [ucl, List.getD, List.getElem?_eq_getElem (show j < zs.length by omega), Int.toNat_of_nonneg hz.1]
    · obtain ⟨z, hz, rfl⟩ := List.mem_map.1 hbm
      have := bounds_u8 (hwf z (List.mem_of_mem_take hz))
      omega
theorem one_u8 {fuel : Nat} {t : TypeId} (ht : Tryd.prog.underlying t = some (.int .u8)) {L : List Value} {i : Nat} {x : DataW H × List MemPlace} (h : DataW.trod enc Tryd.prog w base spare held fuel t ((L.drop i).take 1) = some x) : ∃ z : Nat, L[i]? = some (.int .u8 z) ∧ z < 256 := by
  obtain ⟨z, e, _, hw⟩ := DataW.trod_int ht h
  have := bounds_u8 hw
  exact ⟨z.toNat, by rw [one_of e, Int.toNat_of_nonneg this.1], by omega⟩
theorem one_u64 {fuel : Nat} {t : TypeId} (ht : Tryd.prog.underlying t = some (.int .u64)) {L : List Value} {i : Nat} {x : DataW H × List MemPlace} (h : DataW.trod enc Tryd.prog w base spare held fuel t ((L.drop i).take 1) = some x) : ∃ z : Nat, L[i]? = some (.int .u64 z) ∧ z < 18446744073709551616 := by
  obtain ⟨z, e, _, hw⟩ := DataW.trod_int ht h
  have := bounds_u64 hw
  exact ⟨z.toNat, by rw [one_of e, Int.toNat_of_nonneg this.1], by omega⟩
theorem one_i64 {fuel : Nat} {t : TypeId} (ht : Tryd.prog.underlying t = some (.int .i64)) {L : List Value} {i : Nat} {x : DataW H × List MemPlace} (h : DataW.trod enc Tryd.prog w base spare held fuel t ((L.drop i).take 1) = some x) : ∃ z : Int, L[i]? = some (.int .i64 z) ∧ -9223372036854775808 ≤ z ∧ z ≤ 9223372036854775807 := by
  obtain ⟨z, e, _, hw⟩ := DataW.trod_int ht h
  exact ⟨z, one_of e, bounds_i64 hw⟩
theorem one_bytes {fuel : Nat} {L : List Value} {i : Nat} {x : DataW H × List MemPlace} (hi : i < L.length) (h : DataW.trod enc Tryd.prog w base spare held fuel 27 ((L.drop i).take 1) = some x) : ∃ (v : Value) (l : List Nat), L[i]? = some v ∧ RB w v l ∧ (∀ b ∈ l, b < 256) ∧ (l.length : Int) ≤ 9223372036854775807 := by
  have e : (L.drop i).take 1 = [L[i]] := by rw [List.drop_eq_getElem_cons hi]; rfl
  rw [e] at h
  obtain ⟨l, h1, h2, h3⟩ := open_bytes h
  exact ⟨L[i], l, List.getElem?_eq_getElem hi, h1, h2, h3⟩
theorem open_call {cs : Array Value} {d : DataW H} {p : List MemPlace} (hs : cs.size = 12) (h : DataW.Trod enc Tryd.prog w base spare held 42 (.agg cs) d p) : ∃ (x : Cl) (v : Value), cs = clc x v ∧ x.Ok ∧ RB w v x.l ∧ (x.l.length : Int) ≤ 9223372036854775807 := by
  obtain ⟨fuel, hf⟩ := h
  have hcs : (Value.agg cs).cells.toList = cs.toList := rfl
  rw [hcs] at hf
  obtain ⟨n, hp⟩ := trod_parts Tryd.underlying42 hf
  obtain ⟨y0, hy0⟩ := trod_part hp 0 rfl 36 0 1 rfl rfl cells36
  obtain ⟨y1, hy1⟩ := trod_part hp 1 rfl 3 1 1 rfl rfl cells3
  obtain ⟨y2, hy2⟩ := trod_part hp 2 rfl 3 2 1 rfl rfl cells3
  obtain ⟨y3, hy3⟩ := trod_part hp 3 rfl 3 3 1 rfl rfl cells3
  obtain ⟨y4, hy4⟩ := trod_part hp 4 rfl 3 4 1 rfl rfl cells3
  obtain ⟨y5, hy5⟩ := trod_part hp 5 rfl 3 5 1 rfl rfl cells3
  obtain ⟨y6, hy6⟩ := trod_part hp 6 rfl 3 6 1 rfl rfl cells3
  obtain ⟨y7, hy7⟩ := trod_part hp 7 rfl 5 7 1 rfl rfl cells5
  obtain ⟨y8, hy8⟩ := trod_part hp 8 rfl 39 8 2 rfl rfl cells39
  obtain ⟨y9, hy9⟩ := trod_part hp 9 rfl 40 10 1 rfl rfl cells40
  obtain ⟨y10, hy10⟩ := trod_part hp 10 rfl 27 11 1 rfl rfl cells27
  obtain ⟨k, e0, hk⟩ := one_u8 Tryd.underlying36 hy0
  obtain ⟨p, e1, hp'⟩ := one_i64 Tryd.underlying3 hy1
  obtain ⟨nn, e2, hn⟩ := one_i64 Tryd.underlying3 hy2
  obtain ⟨g, e3, hg⟩ := one_i64 Tryd.underlying3 hy3
  obtain ⟨c, e4, hc⟩ := one_i64 Tryd.underlying3 hy4
  obtain ⟨a, e5, ha⟩ := one_i64 Tryd.underlying3 hy5
  obtain ⟨s, e6, hs'⟩ := one_i64 Tryd.underlying3 hy6
  obtain ⟨r, e7, hr⟩ := one_u8 Tryd.underlying5 hy7
  obtain ⟨n', hq⟩ := trod_parts Tryd.underlying39 hy8
  obtain ⟨z0, hz0⟩ := trod_part hq 0 rfl 37 0 1 rfl rfl cells37
  obtain ⟨z1, hz1⟩ := trod_part hq 1 rfl 5 1 1 rfl rfl cells5
  obtain ⟨ok, e8, hok⟩ := one_u8 Tryd.underlying37 hz0
  obtain ⟨om, e9, hom⟩ := one_u8 Tryd.underlying5 hz1
  obtain ⟨hh, e10, hhh⟩ := one_u64 Tryd.underlying40 hy9
  obtain ⟨v, l, e11, hv, hl, hlen⟩ := one_bytes (by simp [hs]) hy10
  refine ⟨⟨k, p, nn, g, c, a, s, r, ok, om, hh, l⟩, v, ?_, ⟨hk, hp', hn, hg, hc, ha, hs', hr, hok, hom, hhh, hl⟩, hv, hlen⟩
  apply Array.ext_getElem?
  intro i
  have ee : ∀ i, cs[i]? = cs.toList[i]? := fun i => (Array.getElem?_toList (xs := cs)).symm
  rw [ee]
  match i with
  | 0 => exact e0
  | 1 => exact e1
  | 2 => exact e2
  | 3 => exact e3
  | 4 => exact e4
  | 5 => exact e5
  | 6 => exact e6
  | 7 => exact e7
  | 8 => exact sub_at e8
  | 9 => exact sub_at e9
  | 10 => exact e10
  | 11 => exact e11
  | i + 12 => rw [List.getElem?_eq_none (by simp [hs])]; rfl
theorem open_res {cs : Array Value} {d : DataW H} {p : List MemPlace} (hs : cs.size = 3) (h : DataW.Trod enc Tryd.prog w base spare held 45 (.agg cs) d p) : ∃ (x : Rs) (v : Value), cs = rsc x v ∧ x.Ok ∧ RB w v x.l ∧ (x.l.length : Int) ≤ 9223372036854775807 := by
  obtain ⟨fuel, hf⟩ := h
  have hcs : (Value.agg cs).cells.toList = cs.toList := rfl
  rw [hcs] at hf
  obtain ⟨n, hp⟩ := trod_parts Tryd.underlying45 hf
  obtain ⟨y0, hy0⟩ := trod_part hp 0 rfl 33 0 1 rfl rfl cells33
  obtain ⟨y1, hy1⟩ := trod_part hp 1 rfl 40 1 1 rfl rfl cells40
  obtain ⟨y2, hy2⟩ := trod_part hp 2 rfl 27 2 1 rfl rfl cells27
  obtain ⟨e, e0, he⟩ := one_i64 Tryd.underlying33 hy0
  obtain ⟨z, e1, hz⟩ := one_u64 Tryd.underlying40 hy1
  obtain ⟨v, l, e2, hv, hl, hlen⟩ := one_bytes (by simp [hs]) hy2
  refine ⟨⟨e, z, l⟩, v, ?_, ⟨he, hz, hl⟩, hv, hlen⟩
  apply Array.ext_getElem?
  intro i
  have ee : ∀ i, cs[i]? = cs.toList[i]? := fun i => (Array.getElem?_toList (xs := cs)).symm
  rw [ee]
  match i with
  | 0 => exact e0
  | 1 => exact e1
  | 2 => exact e2
  | i + 3 => rw [List.getElem?_eq_none (by simp [hs])]; rfl
end
/-- what the rows list -/
abbrev LL : List (String × DataW Unit) := [("unicode/utf8.acceptRanges", Rows.laid_unicode_utf8_acceptRanges), ("byre/calls.fields", Rows.laid_byre_calls_fields), ("unicode/utf8.first", Rows.laid_unicode_utf8_first)]
def flds : List (List Nat) := (List.range 22).map fld
theorem laid_flds {H : Type} : (Rows.laid_byre_calls_fields : DataW H) = .agg (flds.map fun l => .lit (.string (l.map UInt8.ofNat))) := by kernel_rfl
theorem fields_of {W : World} (h : laidMetH Tryd.prog LL W) : FW W := by
  rw [MakeChecks.laidMetH_plain _ _ _ (by kernel_rfl)] at h
  obtain ⟨ps, ⟨_, _, _, _, _, _, _, _, _, _, ⟨g, t, cs, fuel, p, q, hg, ht, hv, hd, _, _⟩, _⟩, _, _⟩ := h
  obtain rfl := Option.some.inj ((show Tryd.prog.globalNamed "byre/calls.fields" = some 0 by kernel_rfl).symm.trans hg)
  obtain rfl := Option.some.inj ((show (Tryd.prog.globals[0]?).map (·.type) = some 107 by kernel_rfl).symm.trans ht)
  obtain ⟨xs, m, _, ex, _, hl, hel⟩ := DataW.trod_array Tryd.underlying107 hd
  intro r hr
  have hE := hel r hr
  rw [cells9, Nat.mul_one, List.getElem?_eq_getElem (by omega)] at hE
  obtain ⟨z, e1, e2, _⟩ := DataW.trod_string Tryd.underlying9 hE
  have e3 : (xs.map (·.1)) = flds.map fun l => (.lit (.string (l.map UInt8.ofNat)) : DataW Unit) := by
    have := (Prod.mk.inj ex).1
    rw [laid_flds] at this
    exact (DataW.agg.inj this).symm
  have e4 : (xs.map (·.1))[r]? = (flds.map fun l => (.lit (.string (l.map UInt8.ofNat)) : DataW Unit))[r]? := by rw [e3]
  have hfl : flds.length = 22 := by simp [flds]
  rw [List.getElem?_map, List.getElem?_map, List.getElem?_eq_getElem (by omega : r < xs.length), List.getElem?_eq_getElem (by omega : r < flds.length), e2] at e4
  have hz : z.data.toList = (fld r).map UInt8.ofNat := by
    simp only [Option.map_some, Option.some.injEq, DataW.lit.injEq, Lit.string.injEq] at e4
    rw [e4]
    simp [flds]
  have hz2 : z = strB (fld r) := by
    unfold strB
    cases z
    simp only at hz
    rw [← hz]
  rw [World.var?_cell hg hv r, ← hz2]
  have : cs.toList[r]? = some (.string z) := by
    have h0 : ((cs.toList.drop r).take 1)[0]? = some (.string z) := by rw [e1]; rfl
    simpa using h0
  simpa using this
end Go.Proofs.YtfoleblcaloeoaaDoor
