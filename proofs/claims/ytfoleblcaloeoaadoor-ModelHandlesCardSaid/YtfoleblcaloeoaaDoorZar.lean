/- Texts merged for the claim: CcE, MpE, MqA, MrA, MqB, MrB, MrC, CfO. -/
import Derived.Test.YtfoleblcaloeoaaDoorZai
import Derived.Test.YtfoleblcaloeoaaDoorZad
import Derived.Test.YtfoleblcaloeoaaDoorZaq
import Derived.Test.YtfoleblcaloeoaaDoorZag
import Derived.Test.YtfoleblcaloeoaaDoorZab
import Derived.Deep.CutRange
import Derived.Deep.CutBlock
import Derived.Carry
import Derived.ProofKit
import Derived.OpenShut
/- Results: whether two are alike. -/
namespace Go.Proofs.YtfoleblcaloeoaaDoor
open Go Go.RowKit

set_option maxRecDepth 20000 in
set_option maxHeartbeats 8000000 in
theorem SameRs_any {w : World} {x y : Rs} {v u : Value} (hv : RB w v x.l) (hu : RB w u y.l) (hl : ∀ b ∈ x.l, b < 256) (hm : ∀ b ∈ y.l, b < 256) :
    Calls Tryd.prog 21 #[.agg (rsc x v), .agg (rsc y u)] w fun e w' => e = .returned (.bool (sameRs x y)) ∧ Chg [] w w' := by
  obtain ⟨A0, c0, rfl⟩ := RE.form hv
  obtain ⟨A1, c1, rfl⟩ := RE.form hu
  obtain ⟨W2, hW2⟩ : ∃ W2, W2 = (w.alloc (.cells (rsc x (.slice A0 x.l.length c0)) 45)).alloc (.cells (rsc y (.slice A1 y.l.length c1)) 45) := ⟨_, rfl⟩
  have hc2 : Chg [] w W2 := by rw [hW2]; exact ((Chg.refl [] w).alloc _).alloc _
  have hb1 : XB W2 w.heap.size x (.slice A0 x.l.length c0) := by rw [hW2]; exact (Blk.new w _ _).alloc _
  have hb2 : XB W2 (w.heap.size + 1) y (.slice A1 y.l.length c1) := by
    have := Blk.new (w.alloc (.cells (rsc x (.slice A0 x.l.length c0)) 45)) 45 (rsc y (.slice A1 y.l.length c1))
    rw [World.size_alloc] at this
    rw [hW2]
    exact this
  have HEQ := hide (Equal_any (hv.stay hc2) (hu.stay hc2) hl hm)
  have HC := hide hc2
  have HW2 := hide hW2
  obtain ⟨p0, p1, p2, pl, -⟩ := XB.cells hb1
  obtain ⟨q0, q1, q2, ql, -⟩ := XB.cells hb2
  clear hv hu hl hm hW2 hc2 hb1 hb2
  obtain ⟨e, z, l⟩ := x
  obtain ⟨e', z', l'⟩ := y
  simp only at p0 p1 p2 q0 q1 q2 HEQ HW2
  by_cases h1 : e = e'
  · subst h1
    by_cases h2 : z = z'
    · subst h2
      have hR : sameRs ⟨e, z, l⟩ ⟨e, z, l'⟩ = decide (l = l') := by simp [sameRs]
      rw [hR]
      generalize decide (l = l') = r at HEQ
      clear hR
      go_enter Tryd.func21, Tryd.ntmps21
      go_wp2_with (first | (refine wpList_boxRs rfl _ rfl rfl ?_; try simp only [World.size_alloc]; try rw [← HW2.out]))
      refine HEQ.out.mono ?_
      rintro e' W3 ⟨rfl, rfl⟩
      go_wp2_with fail
      go_ret
      exact ⟨by simp, HC.out⟩
    · have d2 : ((z : Int) == (z' : Int)) = false := beq_false_of_ne (by omega)
      have d2' : decide (z = z') = false := decide_eq_false h2
      have hR : sameRs ⟨e, z, l⟩ ⟨e, z', l'⟩ = false := by simp [sameRs, h2]
      rw [hR]
      clear hR HEQ h2
      go_enter Tryd.func21, Tryd.ntmps21
      go_wp2_with (first | (refine wpList_boxRs rfl _ rfl rfl ?_; try simp only [World.size_alloc]; try rw [← HW2.out]))
      go_ret
      exact ⟨rfl, HC.out⟩
  · have d1 : (e == e') = false := beq_false_of_ne h1
    have hR : sameRs ⟨e, z, l⟩ ⟨e', z', l'⟩ = false := by simp [sameRs, h1]
    rw [hR]
    clear hR HEQ h1
    go_enter Tryd.func21, Tryd.ntmps21
    go_wp2_with (first | (refine wpList_boxRs rfl _ rfl rfl ?_; try simp only [World.size_alloc]; try rw [← HW2.out]))
    go_ret
    exact ⟨rfl, HC.out⟩
end Go.Proofs.YtfoleblcaloeoaaDoor

/- Step. -/
namespace Go.Proofs.YtfoleblcaloeoaaDoor
open Go Go.RowKit

theorem neqF1 (k : FuncId) (caps : Array Value) (w : World) : (binOp .neq 68 (.func (.func k) #[] caps) .nilFunc).run Tryd.prog w = .ok (.bool true) w := by kernel_rfl
theorem neqF0 (w : World) : (binOp .neq 68 .nilFunc .nilFunc).run Tryd.prog w = .ok (.bool false) w := by kernel_rfl
theorem RB.own_lt {w : World} {v : Value} {l : List Nat} (h : RB w v l) (hl : l ≠ []) : ∀ k ∈ own v, k < w.heap.size := fun k hk => by
  have hp : 0 < l.length := List.length_pos_iff.2 hl
  obtain ⟨A, c, rfl⟩ := RE.form h
  obtain ⟨g, off, rfl⟩ := RE.addr h hp
  rw [own_at] at hk
  obtain rfl := List.mem_singleton.1 hk
  exact World.block_lt_of_cell? w _ (RE.cell ucl_len h (k := 0) (j := 0) hp (by omega) rfl)
theorem answer_b8 {w : World} {m : Nat} {M : Mo} {bp bo be : Nat} {fp fo fe : Int → Option Value} {gb : Int → Nat} {GF : Int → Nat → Prop} {ov : Int → Value} (hI : MIn w m M bp bo be fp fo fe gb GF ov) (x : Cl) (v : Nat) :
    ∀ b ∈ (answerA M x v).1.l, b < 256 := by
  have nl : ∀ (R : Rs × Option Mo), R.1.l = [] → ∀ b ∈ R.1.l, b < 256 := fun R h b hb => by rw [h] at hb; cases hb
  have nl2 : ∀ (R : Rs), R.l = [] → ∀ b ∈ R.l, b < 256 := fun R h b hb => by rw [h] at hb; cases hb
  unfold answerA
  split
  · refine nl _ ?_
    unfold spawnA
    split <;> rfl
  split
  · refine nl _ ?_
    unfold mallocA
    split <;> rfl
  split
  · unfold objA
    cases hb : M.ob x.h with
    | none => first | exact nl _ rfl | exact nl2 _ rfl
    | some B =>
      simp only
      split
      · first | exact nl _ rfl | exact nl2 _ rfl
      split
      · first | exact nl _ rfl | exact nl2 _ rfl
      split
      · intro b h
        exact (hI.ob _ _ hb).2.1 b (List.mem_of_mem_drop (List.mem_of_mem_take h))
      · first | exact nl _ rfl | exact nl2 _ rfl
  split
  · first | exact nl _ rfl | exact nl2 _ rfl
  cases hp : M.pr x.p with
  | none => first | exact nl _ rfl | exact nl2 _ rfl
  | some p =>
    simp only
    unfold procA
    split
    · first | exact nl _ rfl | exact nl2 _ rfl
    split
    · first | exact nl _ rfl | exact nl2 _ rfl
    split
    · first | exact nl _ rfl | exact nl2 _ rfl
    split
    · first | exact nl _ rfl | exact nl2 _ rfl
    split
    · obtain ⟨d, FA, qp, qo, gp', go', gp, hP, -, -⟩ := hI.pr x.p p hp
      unfold accessA
      simp only
      split
      · first | exact nl _ rfl | exact nl2 _ rfl
      split
      · split
        · first | exact nl _ rfl | exact nl2 _ rfl
        · intro b h
          have h1 := List.mem_of_mem_drop (List.mem_of_mem_take h)
          cases hg : p.pg (x.a / 256) with
          | none =>
            rw [hg] at h1
            have h2 : b ∈ zeroPg := h1
            unfold zeroPg at h2
            rw [List.mem_replicate] at h2
            omega
          | some B =>
            rw [hg] at h1
            exact (hP.pg _ _ hg).b8 b h1
      · split <;> (first | exact nl _ rfl | exact nl2 _ rfl)
    split
    · first | exact nl _ rfl | exact nl2 _ rfl
    split
    · first | exact nl _ rfl | exact nl2 _ rfl
    split <;> (first | exact nl _ rfl | exact nl2 _ rfl)
set_option maxRecDepth 20000 in
set_option maxHeartbeats 40000000 in
theorem Step_any {w : World} {m : Nat} {M : Mo} {O : Nat → Prop} (h : MMem w m M O) (hf : FW w) {x : Cl} {v : Value} {r : Rs} {u : Value} (hx : x.Ok) (hv : RB w v x.l) (hr : r.Ok) (hu : RB w u r.l) :
    Calls Tryd.prog 12 #[.pointer (some ⟨m, 0, none⟩), .agg (clc x v), .agg (rsc r u)] w fun e w' => e = .returned (.bool (stepB M x r)) ∧ CP O w w' ∧ ∃ O', MMem w' m (stepM M x r) O' ∧ ∀ k, O' k → O k ∨ w.heap.size ≤ k := by
  obtain ⟨X, hX1, hX2⟩ : ∃ X : List Nat, (x.l ≠ [] → ∀ k ∈ own v, k ∈ X) ∧ ∀ k ∈ X, k < w.heap.size := by
    by_cases h : x.l = []
    · exact ⟨[], fun h2 => absurd h h2, fun k hk => by cases hk⟩
    · exact ⟨own v, fun _ k hk => hk, RB.own_lt hv h⟩
  obtain ⟨A0, c0, rfl⟩ := RE.form hv
  obtain ⟨A1, c1, rfl⟩ := RE.form hu
  have HM := hide h
  obtain ⟨bp, bo, be, fp, fo, fe, gb, GF, ov, hI, hO, hl⟩ := h
  obtain ⟨W2, hW2⟩ : ∃ W2, W2 = (w.alloc (.cells (clc x (.slice A0 x.l.length c0)) 42)).alloc (.cells (rsc r (.slice A1 r.l.length c1)) 45) := ⟨_, rfl⟩
  have hc2 : Chg [] w W2 := by rw [hW2]; exact ((Chg.refl [] w).alloc _).alloc _
  have hb4 : KB W2 w.heap.size x (.slice A0 x.l.length c0) := by rw [hW2]; exact (Blk.new w _ _).alloc _
  have hb5 : XB W2 (w.heap.size + 1) r (.slice A1 r.l.length c1) := by
    have := Blk.new (w.alloc (.cells (clc x (.slice A0 x.l.length c0)) 42)) 45 (rsc r (.slice A1 r.l.length c1))
    rw [World.size_alloc] at this
    rw [hW2]
    exact this
  obtain ⟨b4, e4⟩ : ∃ b, b = w.heap.size := ⟨_, rfl⟩
  obtain ⟨b5, e5⟩ : ∃ b, b = w.heap.size + 1 := ⟨_, rfl⟩
  rw [← e5] at hb5
  rw [← e4] at hb4
  have HE := hide (And.intro e4 e5)
  have HI := hide (fun W (h : Chg [] W2 W) => hI.stay (hc2.stay h))
  have HB4 := hide (fun W (h : Chg [] W2 W) => KB.stay hb4 h)
  have HB5 := hide (fun W (h : Chg [] W2 W) => XB.stay hb5 h)
  have HC2 := hide hc2
  have HW2 := hide hW2
  have HFW := hide (fun W (h : Chg [] W2 W) => hf.stay (hc2.stay h))
  have HV := hide (fun W (h : Chg [] W2 W) => RE.stay hv (hc2.stay h))
  have HU := hide (fun W (h : Chg [] W2 W) => RE.stay hu (hc2.stay h))
  have HX := hide hx
  have HRO := hide hr
  have HVL := hide (And.intro hX1 hX2)
  have HPL := hide (fun e W => plain_any e W)
  have HB8 := hide (answer_b8 hI x r.v)
  have HKEEP := hide (show ∀ W, Chg [] W2 W → CP O w W ∧ ∃ O', MMem W m M O' ∧ ∀ k, O' k → O k ∨ w.heap.size ≤ k from fun W hW => ⟨CP.of0 (hc2.stay hW), O, HM.out.stay (hc2.stay hW), fun k hk => .inl hk⟩)
  have HNN := hide (none_any (HI.out W2 (Chg.refl _ _)).blk)
  clear hI hO hl hv hu hx hr hX1 hX2 hf hb4 hb5 hc2 hW2 e4 e5
  obtain ⟨SB, hSB⟩ : ∃ b, b = stepB M x r := ⟨_, rfl⟩
  obtain ⟨SM, hSM⟩ : ∃ N, N = stepM M x r := ⟨_, rfl⟩
  rw [← hSB, ← hSM]
  have HSB := hide hSB
  have HSM := hide hSM
  clear hSB hSM
  go_enter Tryd.func12, Tryd.ntmps12
  go_upto_region 1 with (first | (refine wpList_box34 rfl _ rfl rfl ?_; try simp only [World.size_alloc]) | (refine wpList_boxRs rfl _ rfl rfl ?_; try simp only [World.size_alloc]; try rw [← HW2.out]))
  rw [← HE.out.2, ← HE.out.1]
  go_wp2_with fail
  refine HNN.out.mono ?_
  rintro e W2' ⟨rfl, rfl⟩
  cases hw : wrongK M.c x with
  | true =>
    have e1 : SB = sameRs r (plainR 2) := by rw [HSB.out]; unfold stepB; rw [if_pos hw]
    have e2 : SM = M := by rw [HSM.out]; unfold stepM; rw [if_pos (.inl hw)]
    subst e1 e2
    have HWR := hide (fun W (h : Chg [] W2 W) => WrongK_any (HFW.out W h) SM.c HX.out (HV.out W h))
    rw [hw] at HWR
    clear hw
    go_upto_region 3 with (fail)
    refine wp_region_t [0,0,0,5,5,3,0] [none, none, none, none, none, none, none] (fun W => Chg [] W2 W) (by kernel_rfl) (by kernel_rfl) (by kernel_rfl) ?_
    have hS : Chg [] W2 W2.drew := (Chg.refl [] W2).drew
    have lm := (HI.out _ hS).blk.lt
    generalize W2.drew = W0 at hS lm ⊢
    go_wp2_with (first | (refine wpG_hload 26 _ rfl rfl (fun w' hw' => mo_load26 (HI.out w' hw').blk) hS ?_) | (refine wpG_hload 42 _ rfl rfl (fun w' hw' => KB.load (HB4.out w' hw')) hS ?_) | (refine wpG_deed (by decide) (fun K hK => ?_); go_simp; refine (HWR.out W0 hS).mono ?_; rintro e W3 ⟨rfl, hc3⟩; refine hK _ _ ?_; clear hK K; have HC3 := hide (hS.stay hc3); clear hc3 hS lm; obtain ⟨c0', -, -, -, -, -, -, -, -, -, -, -, l4, -⟩ := KB.cells (HB4.out W3 HC3.out); obtain ⟨p0, -, -, l5, -⟩ := XB.cells (HB5.out W3 HC3.out)) | (refine wpG_calc rfl (fun K hK => ?_)) | (refine wpG_skip ?_ ?_; (focus (simp [wantG]; done)); go_simp) | (refine wpG_take ?_ ?_; (focus (simp [wantG]; done))) | (refine wpG_pure (fun K hK => ?_); go_simp; refine hK _ _ ?_; clear hK K) | (refine wpG_deed (by decide) (fun K hK => ?_); go_simp) | (refine wpG_nil ?_))
    refine wp_region_t [5,6,3,0] [none, none, none, none] (fun W => Chg [] W2 W) (by kernel_rfl) (by kernel_rfl) (by kernel_rfl) ?_
    have hS := HC3.out.drew
    generalize W3.drew = W4 at hS ⊢
    go_wp2_with (first | (refine wpG_hload 45 _ rfl rfl (fun w' hw' => XB.load (HB5.out w' hw')) hS ?_) | (refine wpG_calc rfl (fun K hK => ?_)) | (refine wpG_skip ?_ ?_; (focus (simp [wantG]; done)); go_simp) | (refine wpG_take ?_ ?_; (focus (simp [wantG]; done))) | (refine wpG_pure (fun K hK => ?_); go_simp; refine hK _ _ ?_; clear hK K) | (refine wpG_deed (by decide) (fun K hK => ?_); go_simp) | (refine wpG_nil ?_))
    (refine wpG_keeps hS (fun K hK => ?_))
    go_simp
    refine (HPL.out 2 _).mono ?_
    rintro e W5 ⟨rfl, hc5⟩
    have hS5 := hS.stay hc5
    refine hK _ _ hS5 ?_
    clear hK K hc5
    go_wp2_with (first | (refine wpG_deed (by decide) (fun K hK => ?_); go_simp; refine (SameRs_any (y := plainR 2) (HU.out W5 hS5) (RE.nil ucl 1 _ none 0) HRO.out.l (fun _ h => by cases h)).mono ?_; rintro e W6 ⟨rfl, hc6⟩; refine hK _ _ ?_; clear hK K) | (refine wpG_calc rfl (fun K hK => ?_)) | (refine wpG_skip ?_ ?_; (focus (simp [wantG]; done)); go_simp) | (refine wpG_take ?_ ?_; (focus (simp [wantG]; done))) | (refine wpG_pure (fun K hK => ?_); go_simp; refine hK _ _ ?_; clear hK K) | (refine wpG_deed (by decide) (fun K hK => ?_); go_simp) | (refine wpG_nil ?_))
    go_ret
    exact ⟨rfl, HKEEP.out _ (hS5.stay hc6)⟩
  | false =>
    have HNW := hide hw
    have HWR := hide (fun W (h : Chg [] W2 W) => WrongK_any (HFW.out W h) M.c HX.out (HV.out W h))
    rw [hw] at HWR
    clear hw
    go_upto_region 3 with (fail)
    refine wp_region_t [0,0,0,5,5,3,0] [none, none, none, none, none, none, none] (fun W => Chg [] W2 W) (by kernel_rfl) (by kernel_rfl) (by kernel_rfl) ?_
    have hS : Chg [] W2 W2.drew := (Chg.refl [] W2).drew
    have lm := (HI.out _ hS).blk.lt
    generalize W2.drew = W0 at hS lm ⊢
    go_wp2_with (first | (refine wpG_hload 26 _ rfl rfl (fun w' hw' => mo_load26 (HI.out w' hw').blk) hS ?_) | (refine wpG_hload 42 _ rfl rfl (fun w' hw' => KB.load (HB4.out w' hw')) hS ?_) | (refine wpG_deed (by decide) (fun K hK => ?_); go_simp; refine (HWR.out W0 hS).mono ?_; rintro e W3 ⟨rfl, hc3⟩; refine hK _ _ ?_; clear hK K; have HC3 := hide (hS.stay hc3); clear hc3 hS lm; obtain ⟨c0', -, -, -, -, -, -, -, -, -, -, -, l4, -⟩ := KB.cells (HB4.out W3 HC3.out); obtain ⟨p0, -, -, l5, -⟩ := XB.cells (HB5.out W3 HC3.out)) | (refine wpG_calc rfl (fun K hK => ?_)) | (refine wpG_skip ?_ ?_; (focus (simp [wantG]; done)); go_simp) | (refine wpG_take ?_ ?_; (focus (simp [wantG]; done))) | (refine wpG_pure (fun K hK => ?_); go_simp; refine hK _ _ ?_; clear hK K) | (refine wpG_deed (by decide) (fun K hK => ?_); go_simp) | (refine wpG_nil ?_))
    refine (free_any x.k r.e W3).mono ?_
    rintro e W3' ⟨rfl, rfl⟩
    cases hfr : freeK x.k r.e with
    | true =>
      have e1 : SB = sameRs r (plainR r.e) := by rw [HSB.out]; unfold stepB; rw [if_neg (by rw [HNW.out]; decide), if_pos hfr]
      have e2 : SM = M := by rw [HSM.out]; unfold stepM; rw [if_pos (.inr (.inl hfr))]
      subst e1 e2
      clear hfr c0' l4 p0 l5
      go_upto_region 6 with (fail)
      refine wp_region_t [5,0,5,6,3,0] [none, none, none, none, none, none] (fun W => Chg [] W2 W) (by kernel_rfl) (by kernel_rfl) (by kernel_rfl) ?_
      have hS := HC3.out.drew
      generalize W3.drew = W4 at hS ⊢
      go_wp2_with (first | (refine wpG_hload 45 _ rfl rfl (fun w' hw' => XB.load (HB5.out w' hw')) hS ?_) | (refine wpG_hload 33 _ rfl rfl (fun w' hw' => load_int Tryd.underlying33 (XB.cells (HB5.out w' hw')).1) hS ?_) | (refine wpG_calc rfl (fun K hK => ?_)) | (refine wpG_skip ?_ ?_; (focus (simp [wantG]; done)); go_simp) | (refine wpG_take ?_ ?_; (focus (simp [wantG]; done))) | (refine wpG_pure (fun K hK => ?_); go_simp; refine hK _ _ ?_; clear hK K) | (refine wpG_deed (by decide) (fun K hK => ?_); go_simp) | (refine wpG_nil ?_))
      (refine wpG_keeps hS (fun K hK => ?_))
      go_simp
      refine (HPL.out r.e _).mono ?_
      rintro e W5 ⟨rfl, hc5⟩
      have hS5 := hS.stay hc5
      refine hK _ _ hS5 ?_
      clear hK K hc5
      go_wp2_with (first | (refine wpG_deed (by decide) (fun K hK => ?_); go_simp; refine (SameRs_any (y := plainR r.e) (HU.out W5 hS5) (RE.nil ucl 1 _ none 0) HRO.out.l (fun _ h => by cases h)).mono ?_; rintro e W6 ⟨rfl, hc6⟩; refine hK _ _ ?_; clear hK K) | (refine wpG_calc rfl (fun K hK => ?_)) | (refine wpG_skip ?_ ?_; (focus (simp [wantG]; done)); go_simp) | (refine wpG_take ?_ ?_; (focus (simp [wantG]; done))) | (refine wpG_pure (fun K hK => ?_); go_simp; refine hK _ _ ?_; clear hK K) | (refine wpG_deed (by decide) (fun K hK => ?_); go_simp) | (refine wpG_nil ?_))
      go_ret
      exact ⟨rfl, HKEEP.out _ (hS5.stay hc6)⟩
    | false =>
      have HFR := hide hfr
      clear hfr c0' l4 p0 l5
      go_wp2_with (first | (refine wpList_load34 rfl _ rfl rfl (HB4.out W3 HC3.out) ?_) | (refine wpList_loadRs rfl _ rfl rfl (HB5.out W3 HC3.out) ?_))
      refine (answer_any (X := X) (HM.out.stay (HC2.out.stay HC3.out)) HX.out (HV.out W3 HC3.out) HVL.out.1 (fun k hk => Nat.lt_of_lt_of_le (HVL.out.2 k hk) (HC2.out.stay HC3.out).size) HNW.out HRO.out.v).mono ?_
      rintro e W4 ⟨⟨A, n, c, f, rfl, hrb, -, heff⟩, hc4⟩
      have HC4 := hide (HC3.out.stay hc4)
      have HC34 := hide hc4
      have HRB := hide hrb
      have HEFF := hide heff
      clear hrb heff hc4
      obtain ⟨RR, hRR⟩ : ∃ R, R = answerA M x r.v := ⟨_, rfl⟩
      rw [← hRR] at HRB HEFF HB8
      rw [← hRR]
      have HRR := hide hRR
      clear hRR
      go_wp2_with (first | (refine wpList_allocRs rfl rfl ?_; try go_simp) | (refine wpList_storeRs (b := W4.heap.size) (y := RR.1) (u := .slice A n c) rfl _ _ rfl rfl rfl rfl (Blk.new W4 _ _) ?_; intro W6 h6 hc6; have H6 := hide h6; have HC46 := hide (made_rs hc6); clear h6 hc6) | (refine wpList_loadRs rfl _ rfl rfl (HB5.out W6 (HC4.out.stay HC46.out)) ?_) | (refine wpList_loadRs (b := W4.heap.size) rfl _ rfl rfl H6.out ?_))
      refine (SameRs_any (HU.out W6 (HC4.out.stay HC46.out)) (HRB.out.stay HC46.out) HRO.out.l HB8.out).mono ?_
      rintro e W7 ⟨rfl, hc7⟩
      have HC47 := hide (HC46.out.stay hc7)
      have HC7 := hide (HC4.out.stay (HC46.out.stay hc7))
      clear hc7
      have ebN := show SB = sameRs r RR.1 by rw [HSB.out]; unfold stepB; rw [if_neg (by rw [HNW.out]; decide), if_neg (by rw [HFR.out]; decide), HRR.out]
      cases hsm : sameRs r RR.1 with
      | false =>
        have e1 : SB = false := by rw [ebN, hsm]
        have e2 : SM = M := by rw [HSM.out]; unfold stepM; rw [← HRR.out, if_pos (.inr (.inr (.inl hsm)))]
        subst e1 e2
        clear hsm ebN
        go_wp2_with fail
        go_ret
        exact ⟨rfl, HKEEP.out _ HC7.out⟩
      | true =>
        have e1 : SB = true := by rw [ebN, hsm]
        have e2 : SM = if r.e = 0 then RR.2.getD M else M := by
          rw [HSM.out]
          unfold stepM
          rw [← HRR.out]
          by_cases h : r.e = 0
          · rw [if_pos h, if_neg]
            rintro (h1 | h1 | h1 | h1)
            · rw [HNW.out] at h1; cases h1
            · rw [HFR.out] at h1; cases h1
            · rw [hsm] at h1; cases h1
            · exact h1 h
          · rw [if_neg h, if_pos (.inr (.inr (.inr h)))]
        subst e1
        have HE2 := hide e2
        clear hsm ebN e2
        obtain ⟨R1, N⟩ := RR
        obtain ⟨p0, -, -, l5, -⟩ := XB.cells (HB5.out W7 HC7.out)
        cases N with
        | none =>
          obtain rfl : f = .nilFunc := HEFF.out
          have hq := fun w => neqF0 w
          have e2 : SM = M := by rw [HE2.out]; split <;> rfl
          subst e2
          go_wp2_with fail
          go_ret
          exact ⟨rfl, HKEEP.out _ HC7.out⟩
        | some M' =>
          obtain ⟨k, caps, rfl, hent, hdo⟩ := HEFF.out
          replace hent := hent caps
          have HDO := hide hdo
          clear hdo
          have hq := fun w => neqF1 k caps w
          by_cases hz : r.e = 0
          · have e2 : SM = M' := by rw [HE2.out, if_pos hz]; rfl
            subst e2
            rw [hz] at p0
            clear hz
            go_wp2_with fail
            refine (HDO.out [] W7 (Off.nil _ _ _) HC47.out).mono ?_
            rintro e W8 ⟨rfl, k1, O', k2, k3⟩
            go_wp2_with fail
            go_ret
            have hsz := (HC2.out.stay HC3.out).size
            obtain ⟨L, g1, g2⟩ := k1
            exact ⟨rfl, ⟨L, (((HC2.out.stay HC7.out).up L).and_ g1), fun k hk => (by
              rcases g2 k hk with (h | h) | h
              · exact .inl h
              · exact .inr (by omega)
              · exact .inr (Nat.le_trans (HC2.out.stay HC7.out).size h))⟩, O', k2, fun k hk => (k3 k hk).imp id (Nat.le_trans hsz)⟩
          · have e2 : SM = M := by rw [HE2.out, if_neg hz]
            subst e2
            have d0 : (r.e == 0) = false := beq_false_of_ne hz
            have d1 : decide (r.e = 0) = false := decide_eq_false hz
            clear hz
            go_wp2_with fail
            go_ret
            exact ⟨rfl, HKEEP.out _ HC7.out⟩
end Go.Proofs.YtfoleblcaloeoaaDoor

/- A law's machine: New, Step; what a step does, plain. -/
namespace Go.Proofs.YtfoleblcaloeoaaDoor
open Go Go.RowKit

/-! ## Plain -/
theorem stepB_ok {M : Mo} {x : Cl} (r : Rs) (hw : wrongK M.c x = false) : stepB M x r = if freeK x.k r.e = true then sameRs r (plainR r.e) else sameRs r (answerA M x r.v).1 := by
  unfold stepB
  rw [if_neg (by rw [hw]; decide)]
theorem stepM_ok {M : Mo} {x : Cl} {r : Rs} (hw : wrongK M.c x = false) (hf : freeK x.k r.e = false) (hs : sameRs r (answerA M x r.v).1 = true) (he : r.e = 0) : stepM M x r = ((answerA M x r.v).2).getD M := by
  unfold stepM
  rw [if_neg]
  rintro (h | h | h | h)
  · rw [hw] at h; cases h
  · rw [hf] at h; cases h
  · rw [hs] at h; cases h
  · exact h he
theorem stepM_err {M : Mo} {x : Cl} {r : Rs} (he : r.e ≠ 0) : stepM M x r = M := by
  unfold stepM
  rw [if_pos (.inr (.inr (.inr he)))]
theorem stepM_no {M : Mo} {x : Cl} {r : Rs} (h : stepB M x r = false) : stepM M x r = M := by
  unfold stepM
  by_cases hw : wrongK M.c x = true
  · rw [if_pos (.inl hw)]
  by_cases hf : freeK x.k r.e = true
  · rw [if_pos (.inr (.inl hf))]
  rw [stepB_ok r (by simpa using hw), if_neg hf] at h
  rw [if_pos (.inr (.inr (.inl h)))]
theorem answer_c {M : Mo} {x : Cl} {v : Nat} {M' : Mo} (h : (answerA M x v).2 = some M') : M'.c = M.c := by
  unfold answerA at h
  split at h
  · unfold spawnA at h
    split at h
    · obtain rfl := Option.some.inj h; rfl
    · cases h
  split at h
  · unfold mallocA at h
    split at h
    · cases h
    · obtain rfl := Option.some.inj h; rfl
  split at h
  · unfold objA at h
    split at h
    · cases h
    split at h
    · obtain rfl := Option.some.inj h; rfl
    split at h
    · cases h
    split at h
    · cases h
    · obtain rfl := Option.some.inj h; rfl
  split at h
  · cases h
  split at h
  · cases h
  unfold procA at h
  split at h
  · obtain rfl := Option.some.inj h; rfl
  split at h
  · obtain rfl := Option.some.inj h; rfl
  split at h
  · cases h
  split at h
  · obtain rfl := Option.some.inj h; rfl
  split at h
  · obtain ⟨q, _, rfl⟩ := Option.map_eq_some_iff.1 h; rfl
  split at h
  · cases h
  split at h
  · cases h
  split at h
  · obtain rfl := Option.some.inj h; rfl
  · cases h
theorem stepM_c (M : Mo) (x : Cl) (r : Rs) : (stepM M x r).c = M.c := by
  unfold stepM
  split
  · rfl
  cases h : (answerA M x r.v).2 with
  | none => rfl
  | some M' => exact answer_c h
/-! ## A law's machine in memory -/
structure MS (W0 : World) (L : List Nat) (w : World) (m : Nat) (M : Mo) : Prop where
  mem : ∃ O, MMem w m M O ∧ (∀ k, O k → W0.heap.size ≤ k) ∧ ∀ k ∈ L, ¬ O k
  lt : ∀ k ∈ L, k < w.heap.size
  chg : Chg [] W0 w
theorem MS.stay {W0 w w' : World} {L : List Nat} {m : Nat} {M : Mo} (h : MS W0 L w m M) (hc : Chg [] w w') : MS W0 L w' m M := by
  obtain ⟨⟨O, h1, h2, h3⟩, h4, h5⟩ := h
  exact ⟨⟨O, h1.stay hc, h2, h3⟩, fun k hk => Nat.lt_of_lt_of_le (h4 k hk) hc.size, h5.stay hc⟩
/-- new blocks are guarded too -/
theorem MS.guard {W0 w w' : World} {L : List Nat} {m : Nat} {M : Mo} (h : MS W0 L w m M) (hc : Chg [] w w') (K : List Nat) (hK : ∀ k ∈ K, w.heap.size ≤ k ∧ k < w'.heap.size) : MS W0 (K ++ L) w' m M := by
  obtain ⟨⟨O, h1, h2, h3⟩, h4, h5⟩ := h
  refine ⟨⟨O, h1.stay hc, h2, fun k hk ho => ?_⟩, fun k hk => ?_, h5.stay hc⟩
  · rcases List.mem_append.1 hk with hk | hk
    · have := h1.lt k ho; have := (hK k hk).1; omega
    · exact h3 k hk ho
  · rcases List.mem_append.1 hk with hk | hk
    · exact (hK k hk).2
    · exact Nat.lt_of_lt_of_le (h4 k hk) hc.size
/-- a law's own blocks may be written to -/
theorem MS.put {W0 w w' : World} {L F : List Nat} {m : Nat} {M : Mo} (h : MS W0 L w m M) (hc : Chg F w w') (hF : ∀ k ∈ F, k ∈ L ∧ W0.heap.size ≤ k) : MS W0 L w' m M := by
  obtain ⟨⟨O, h1, h2, h3⟩, h4, h5⟩ := h
  exact ⟨⟨O, h1.cp (CP.of (F := fun k => k ∈ F) hc (fun k hk => .inl hk)) (fun k ho hk => h3 k (hF k hk).1 ho), h2, h3⟩, fun k hk => Nat.lt_of_lt_of_le (h4 k hk) hc.size, h5.trans hc (fun k hk => .inr (hF k hk).2)⟩
theorem New_ms {W0 w : World} {L : List Nat} {c : Cf} (hc : mayB c = true) (h0 : Chg [] W0 w) (hL : ∀ k ∈ L, k < w.heap.size) :
    Calls Tryd.prog 11 #[.agg (cg c)] w fun e w' => (∃ m, e = .returned (.tuple #[.pointer (some ⟨m, 0, none⟩), .int .i64 0]) ∧ MS W0 L w' m (newMo c)) ∧ Chg [] w w' := by
  refine (New_any hc).mono ?_
  rintro e w' ⟨⟨m, rfl, O, h1, h2⟩, h3⟩
  exact ⟨⟨m, rfl, ⟨O, h1, fun k hk => Nat.le_trans h0.size (h2 k hk), fun k hk ho => by have := hL k hk; have := h2 k ho; omega⟩, fun k hk => Nat.lt_of_lt_of_le (hL k hk) h3.size, h0.stay h3⟩, h3⟩
/-- what a step leaves as it was -/
def Kept (L : List Nat) (W0 w w' : World) : Prop := ∃ F, Chg F w w' ∧ ∀ k ∈ F, k ∉ L ∧ W0.heap.size ≤ k
theorem Kept.blk {L : List Nat} {W0 w w' : World} (h : Kept L W0 w w') {b : Nat} {t : TypeId} {cs : Array Value} (hb : Blk w b t cs) (hm : b ∈ L) : Blk w' b t cs := by
  obtain ⟨F, h1, h2⟩ := h
  exact hb.chg h1 (fun hf => (h2 b hf).1 hm)
theorem Kept.rb {L : List Nat} {W0 w w' : World} (h : Kept L W0 w w') {v : Value} {l : List Nat} (hb : RB w v l) (hm : ∀ k ∈ own v, k ∈ L) : RB w' v l := by
  obtain ⟨F, h1, h2⟩ := h
  exact hb.chg h1 (fun k hk hf => (h2 k hf).1 (hm k hk))
theorem Step_ms {W0 w : World} {L : List Nat} {m : Nat} {M : Mo} (h : MS W0 L w m M) (hf : FW W0) {x : Cl} {v : Value} {r : Rs} {u : Value} (hx : x.Ok) (hv : RB w v x.l) (hr : r.Ok) (hu : RB w u r.l) :
    Calls Tryd.prog 12 #[.pointer (some ⟨m, 0, none⟩), .agg (clc x v), .agg (rsc r u)] w fun e w' => e = .returned (.bool (stepB M x r)) ∧ MS W0 L w' m (stepM M x r) ∧ Kept L W0 w w' := by
  obtain ⟨⟨O, h1, h2, h3⟩, h4, h5⟩ := h
  refine (Step_any h1 (hf.stay h5) hx hv hr hu).mono ?_
  rintro e w' ⟨rfl, ⟨F, g1, g2⟩, O', k2, k3⟩
  have hsz := h5.size
  refine ⟨rfl, ⟨⟨O', k2, fun k hk => (k3 k hk).elim (h2 k) (fun h => by omega), fun k hk ho => (k3 k ho).elim (h3 k hk) (fun h => by have := h4 k hk; omega)⟩, fun k hk => Nat.lt_of_lt_of_le (h4 k hk) g1.size, h5.trans g1 (fun k hk => .inr ((g2 k hk).elim (h2 k) (fun h => by omega)))⟩, F, g1, fun k hk => ⟨fun hm => (g2 k hk).elim (h3 k hm) (fun h => by have := h4 k hm; omega), (g2 k hk).elim (h2 k) (fun h => by omega)⟩⟩
/-! ## Calls and answers that a law writes -/
structure BC (l : List (Nat × Value)) (x : Cl) (v : Value) : Prop where
  h : Tryd.prog.built 42 l = some (clc x v)
section
variable {ops : Array Oper} {rest : List Oper} {o : Oper} {a : Act} {w : World} {Q : Exit → Act → World → Prop} {x : Cl} {v : Value}
theorem wpList_build34 (hg : o.guard = none) (parts : Array (Nat × Operand)) (ho : o.op = .build 42 parts)
    {l : List (Nat × Value)} (hb : BC l x v) (hl : (parts.map fun (i, x) => (i, a.eval x)).toList = l) (h : wpList Tryd.prog ops Q rest (a.put o.dst (.agg (clc x v))) w) : wpList Tryd.prog ops Q (o :: rest) a w :=
  wpList_build hg 42 parts ho (by rw [hl, hb.h]; rfl) (by rw [hl, hb.h]; exact h)
theorem wpList_build34W (parts : Array (Nat × Operand)) (ho : o.op = .build 42 parts)
    {l : List (Nat × Value)} (hw : Region.wanted o (yielded ops a.tmps) = true) (hb : BC l x v) (hl : (parts.map fun (i, x) => (i, a.eval x)).toList = l) (h : wpList Tryd.prog ops Q rest (a.put o.dst (.agg (clc x v))) w) : wpList Tryd.prog ops Q (o :: rest) a w :=
  wpList_step fun K hK => by
    rw [if_pos hw]
    exact wp_build 42 parts ho (by rw [hl, hb.h]; rfl) (hK _ _ (by rw [hl, hb.h]; exact h))
end
theorem nw_of {c : Cf} {x : Cl} (hm : mayB c = true) (hk : mayK x = true) (h1 : t1K x = false) (h2 : t2K x = false) (h3 : t3K x = false) (h4 : hasB x 110 = false) (h5 : hasB x 111 = false) (h6 : t6K x = false) (h7 : t7K x = false) (h8 : t8K x = false) : wrongK c x = false := by
  have e4 : t4K c x = false := by unfold t4K; rw [h4]; rfl
  have e5 : t5K c x = false := by unfold t5K; rw [h5]; rfl
  unfold wrongK
  simp [hm, hk, h1, h2, h3, e4, e5, h6, h7, h8]
/-! ## A machine of one node -/
def oneC0 : Cf := fun i => if i = 0 then 1 else if i = 1 then 1 else if i = 90 then 4 else 0
def oneC : Cf := fun i => if i = 18 then 4 else oneC0 i
theorem built_one : BT [(0, .int .i64 1), (1, .int .i64 1), (5, .int .i64 4)] oneC0 := ⟨by kernel_rfl⟩
theorem one_may : MayP oneC where
  n1 := by decide
  n8 := by decide
  p1 := by decide
  p16 := by decide
  s0 := by decide
  s1 := by decide
  home := by decide
  home0 := by decide
  fr := by decide
  fr0 := by decide
  ds0 := fun i k hi hk => (by decide : ∀ i : Nat, i < 8 → ∀ k : Nat, k < 8 → oneC 0 ≤ (i : Int) ∨ oneC 0 ≤ (k : Int) ∨ i = k → oneC (26 + i * 8 + k) = 0) i hi k hk
  ds1 := fun i k hi hk => fun h1 h2 h3 => (by decide : ∀ i : Nat, i < 8 → ∀ k : Nat, k < 8 → ((i : Int) < oneC 0 ∧ (k : Int) < oneC 0 ∧ ¬ i = k) → (1 ≤ oneC (26 + i * 8 + k) ∧ oneC (26 + i * 8 + k) ≤ 255 ∧ oneC (26 + i * 8 + k) = oneC (26 + k * 8 + i))) i hi k hk ⟨h1, h2, h3⟩
  mi := by decide
  lo := by decide
  hi := by decide
theorem one_mayB : mayB oneC = true := mayB_iff.2 one_may
set_option maxHeartbeats 1000000 in
theorem one_any (w : World) : Calls Tryd.prog 17 #[] w fun e w' => e = .returned (.agg (cg oneC)) ∧ Chg [] w w' := by
  have HR : Hid (CB ((w.alloc (.cells (cg (fun _ => 0)) 26)).alloc (.cells (cg (fun _ => 0)) 26)) w.heap.size (fun _ => 0)) := hide ((Blk.new w 26 _).alloc _)
  have HB : Hid (CB ((w.alloc (.cells (cg (fun _ => 0)) 26)).alloc (.cells (cg (fun _ => 0)) 26)) (w.heap.size + 1) (fun _ => 0)) := hide (by
    have := Blk.new (w.alloc (.cells (cg (fun _ => 0)) 26)) 26 (cg (fun _ => 0))
    rwa [World.size_alloc] at this)
  have HC : Hid (Chg [] w ((w.alloc (.cells (cg (fun _ => 0)) 26)).alloc (.cells (cg (fun _ => 0)) 26))) := hide (((Chg.refl [] w).alloc _).alloc _)
  obtain ⟨D0, hD0⟩ : ∃ D0, D0 = oneC0 := ⟨_, rfl⟩
  have HT := hide built_one
  rw [← hD0] at HT
  have HD0 := hide hD0
  obtain ⟨D, hD⟩ : ∃ D, D = oneC := ⟨_, rfl⟩
  rw [← hD]
  have HD := hide hD
  clear hD0 hD
  go_enter Tryd.func17, Tryd.ntmps17
  go_wp2_with (first | (refine wpList_alloc26 rfl rfl ?_; try simp only [World.size_alloc]) | (refine wpList_build26 rfl _ rfl HT.out ?_ ?_; (focus (simp [Act.eval]; done))) | (refine wpList_store26L (b := w.heap.size + 1) (c := fun _ => 0) rfl _ _ rfl rfl rfl ?_ ?_; (focus exact HB.out); intro W5 h5 hc5; have q18 := CB.get h5 (i := 18) (by omega); have f18 := Blk.frozen h5 18; have H5 := hide h5; have HC5 := hide hc5; have HR5 := hide (HR.out.chg hc5 (by simp)); have hl5 : w.heap.size + 1 < W5.heap.size := h5.lt; clear h5 hc5) | (refine wpList_load26L (b := w.heap.size + 1) (c := D) rfl _ rfl rfl ?_ ?_; (focus (rw [HD.out]; have := CB.set H5.out 18 4; rw [HD0.out] at this; exact this))) | (refine wpList_store26L (b := w.heap.size) (c := fun _ => 0) rfl _ _ rfl rfl rfl ?_ ?_; (focus exact (Blk.far HR5.out (by simp) _)); intro W6 h6 hc6))
  refine bodyPost_ret (v := .agg (cg D)) (results_cell_row (p := 0) (ty := 26) rfl _ _ w.heap.size 26 _ (0, 0) _ rfl h6 Tryd.underlying26 rfl info26') rfl ⟨rfl, ?_⟩
  have c9 := HC5.out.setCell (p := ⟨w.heap.size + 1, 18, none⟩) (.inl (by simp)) (.int .i64 4)
  exact (HC.out.trans c9 (fun x hx => .inr (by obtain rfl := List.mem_singleton.1 hx; omega))).trans hc6 (fun x hx => .inr (by obtain rfl := List.mem_singleton.1 hx; omega))
end Go.Proofs.YtfoleblcaloeoaaDoor

/- Pairs of a call and an answer; tame. -/
namespace Go.Proofs.YtfoleblcaloeoaaDoor
open Go Go.RowKit

structure Tw where
  x : Cl
  v : Value
  r : Rs
  u : Value
  rt : Bool
  h : Nat
def twl (t : Tw) : List Value := (clc t.x t.v).toList ++ ((rsc t.r t.u).toList ++ [.bool t.rt, .int .u64 t.h])
theorem twl_len (t : Tw) : (twl t).length = 17 := rfl
structure TwOk (w : World) (t : Tw) : Prop where
  x : t.x.Ok
  r : t.r.Ok
  v : RB w t.v t.x.l
  u : RB w t.u t.r.l
  h : t.h < 18446744073709551616
theorem TwOk.stay {w w' : World} {t : Tw} (h : TwOk w t) (hc : Chg [] w w') : TwOk w' t := ⟨h.x, h.r, h.v.stay hc, h.u.stay hc, h.h⟩
def tameT (t : Tw) : Bool := decide (t.x.l.length ≤ 300) && decide (t.r.l.length ≤ 300)
def tameB (l : List Tw) (n : Nat) : Bool := decide (l.length ≤ n) && l.all tameT
theorem tw_cell {w : World} {g off n c : Nat} {l : List Tw} (h : RE twl 17 w (.slice (some ⟨g, off, none⟩) n c) l) {k : Nat} (hk : k < l.length) {j : Nat} {u : Value} (hj : j < 17) (hu : (twl l[k])[j]? = some u) : w.cell? ⟨g, off + k * 17 + j, none⟩ = some u :=
  RE.cell twl_len h hk hj hu
set_option maxRecDepth 20000 in
set_option maxHeartbeats 4000000 in
theorem tame_any {w : World} {l : List Tw} {V : Value} (hV : RE twl 17 w V l) (hO : ∀ t ∈ l, TwOk w t) {n : Nat} (hn : n ≤ 100) :
    Calls Tryd.prog 8 #[V, .int .i64 n] w fun e w' => e = .returned (.bool (tameB l n)) ∧ w = w' := by
  obtain ⟨A, c, rfl⟩ := RE.form hV
  obtain ⟨R, hR⟩ : ∃ R, R = tameB l n := ⟨_, rfl⟩
  rw [← hR]
  have HR := hide hR
  have HV := hide hV
  have HO := hide hO
  clear hR hV hO
  by_cases hl : n < l.length
  · have d1 : decide ((n : Int) < (l.length : Int)) = true := decide_eq_true (by omega)
    have d1' : decide (n < l.length) = true := decide_eq_true hl
    have e : R = false := by rw [HR.out]; unfold tameB; rw [decide_eq_false (by omega)]; rfl
    subst e
    clear hl
    go_enter Tryd.func8, Tryd.ntmps8
    go_wp2_with fail
    go_ret
    (first | exact ⟨rfl, rfl⟩ | exact ⟨rfl, trivial⟩)
  have d1 : decide ((n : Int) < (l.length : Int)) = false := decide_eq_false (by omega)
  have d1' : decide (n < l.length) = false := decide_eq_false hl
  have HL := hide hl
  have hl1 : l.length ≤ 100 := by omega
  clear hl
  go_enter Tryd.func8, Tryd.ntmps8
  go_upto_region 4 with (fail)
  clear d1 d1'
  go_loopw [12] (fun i wr => wr = w ∧ ∃ k : Nat, k ≤ l.length ∧ i = .int .i64 k ∧ Hid ((l.take k).all tameT = true)) (fun i _ => l.length - (intOf i).toNat)
  case atStart => exact ⟨rfl, 0, by omega, rfl, hide rfl⟩
  case round =>
    obtain ⟨rfl, k, hk, rfl, hall⟩ := hrel
    by_cases hkl : k < l.length
    · obtain ⟨g, off, rfl⟩ := RE.addr HV.out (show 0 < l.length by omega)
      have ht := HO.out _ (List.getElem_mem hkl)
      obtain ⟨A1, c1, e1⟩ := RE.form ht.v
      obtain ⟨A2, c2, e2⟩ := RE.form ht.u
      have q1 : wr.cell? ⟨g, off + k * 17 + 11, none⟩ = some (.slice A1 l[k].x.l.length c1) := by
        have := tw_cell HV.out hkl (j := 11) (u := l[k].v) (by omega) rfl
        rw [this, e1]
      have q2 : wr.cell? ⟨g, off + k * 17 + 14, none⟩ = some (.slice A2 l[k].r.l.length c2) := by
        have := tw_cell HV.out hkl (j := 14) (u := l[k].u) (by omega) rfl
        rw [this, e2]
      obtain ⟨n1, hn1⟩ : ∃ n, n = l[k].x.l.length := ⟨_, rfl⟩
      obtain ⟨n2, hn2⟩ : ∃ n, n = l[k].r.l.length := ⟨_, rfl⟩
      rw [← hn1] at q1
      rw [← hn2] at q2
      have htk : (l.take (k + 1)).all tameT = (decide (n1 ≤ 300) && decide (n2 ≤ 300)) := by
        rw [List.take_succ_eq_append_getElem hkl, List.all_append, hall.out, Bool.true_and]
        show (tameT l[k] && true) = _
        rw [Bool.and_true]
        unfold tameT
        rw [hn1, hn2]
      have hno : (l.take (k + 1)).all tameT = false → R = false := fun h => by
        rw [HR.out]
        unfold tameB
        cases h2 : l.all tameT with
        | false => simp
        | true =>
          have : (l.take (k + 1)).all tameT = true := List.all_eq_true.2 fun x hx => List.all_eq_true.1 h2 x (List.mem_of_mem_take hx)
          rw [h] at this; cases this
      have HTK := hide htk
      have HNO := hide hno
      have d2 : decide ((k : Int) < (l.length : Int)) = true := decide_eq_true (by omega)
      have d2' : decide (k < l.length) = true := decide_eq_true hkl
      have i0 : (0 : Int) ≤ (k : Int) := by omega
      have i1 : (k : Int) < (l.length : Int) := by omega
      have hwi : IntKind.i64.wrap ((k : Int) + 1) = (k : Int) + 1 := by rw [IntKind.wrap_i64]; omega
      have HKL := hide hkl
      clear ht e1 e2 hn1 hn2 htk hno hall hk
      by_cases h1 : n1 ≤ 300
      · have d3 : decide ((300 : Int) < (n1 : Int)) = false := decide_eq_false (by omega)
        have d3' : decide (300 < n1) = false := decide_eq_false (by omega)
        have H1 := hide h1
        clear h1
        by_cases h2 : n2 ≤ 300
        · have d4 : decide ((300 : Int) < (n2 : Int)) = false := decide_eq_false (by omega)
          have d4' : decide (300 < n2) = false := decide_eq_false (by omega)
          have H2 := hide h2
          clear h2 hkl
          go_wp2_with fail
          go_roundw
          case rel => exact ⟨trivial, k + 1, by have := HKL.out; omega, by go_num, hide (by rw [HTK.out, decide_eq_true H1.out, decide_eq_true H2.out]; rfl)⟩
          case measure => have := HKL.out; simp [intOf]; omega
        · have d4 : decide ((300 : Int) < (n2 : Int)) = true := decide_eq_true (by omega)
          have d4' : decide (300 < n2) = true := decide_eq_true (by omega)
          have e := HNO.out (by rw [HTK.out, decide_eq_false h2]; simp)
          clear h2 hkl
          subst e
          go_wp2_with fail
          go_ret
          (first | exact ⟨rfl, rfl⟩ | exact ⟨rfl, trivial⟩)
      · have d3 : decide ((300 : Int) < (n1 : Int)) = true := decide_eq_true (by omega)
        have d3' : decide (300 < n1) = true := decide_eq_true (by omega)
        have e := HNO.out (by rw [HTK.out, decide_eq_false h1]; rfl)
        clear h1 hkl
        subst e
        go_wp2_with fail
        go_ret
        (first | exact ⟨rfl, rfl⟩ | exact ⟨rfl, trivial⟩)
    · obtain rfl : k = l.length := by omega
      have e : R = true := by
        rw [HR.out]
        unfold tameB
        have h := hall.out
        rw [List.take_length] at h
        have := HL.out
        rw [h, decide_eq_true (by omega)]
        rfl
      subst e
      clear hall
      go_wp2_with fail
      go_ret
      (first | exact ⟨rfl, rfl⟩ | exact ⟨rfl, trivial⟩)
end Go.Proofs.YtfoleblcaloeoaaDoor

/- known: a page is noughts, and a handle never comes again. -/
namespace Go.Proofs.YtfoleblcaloeoaaDoor
open Go Go.RowKit

def cSp : Cl := { zCl with k := 1 }
def cMm (g c : Int) (r : Nat) : Cl := { zCl with k := 3, p := 1, g := g, c := c, r := r }
def cLd (a s : Int) : Cl := { zCl with k := 8, p := 1, a := a, s := s }
def cKm : Cl := { zCl with k := 10, s := 8 }
theorem sp_built : BC [(0, .int .u8 1)] cSp zV := ⟨by kernel_rfl⟩
theorem km_built : BC [(0, .int .u8 10), (6, .int .i64 8)] cKm zV := ⟨by kernel_rfl⟩
theorem mm0_built : BC [(0, .int .u8 3), (1, .int .i64 1), (4, .int .i64 2), (7, .int .u8 3)] (cMm 0 2 3) zV := ⟨by kernel_rfl⟩
theorem ld0_built : BC [(0, .int .u8 8), (1, .int .i64 1), (5, .int .i64 5), (6, .int .i64 2)] (cLd 5 2) zV := ⟨by kernel_rfl⟩
theorem sp_ok : cSp.Ok := by constructor <;> simp [cSp, zCl]
theorem km_ok : cKm.Ok := by constructor <;> simp [cKm, zCl]
theorem mm0_ok : (cMm 0 2 3).Ok := by constructor <;> simp [cMm, zCl]
theorem ld0_ok : (cLd 5 2).Ok := by constructor <;> simp [cLd, zCl]
theorem sp_nw {c : Cf} (h : mayB c = true) : wrongK c cSp = false := nw_of h (by decide) (by decide) (by decide) (by decide) (by decide) (by decide) (by decide) (by decide) (by decide)
theorem km_nw {c : Cf} (h : mayB c = true) : wrongK c cKm = false := nw_of h (by decide) (by decide) (by decide) (by decide) (by decide) (by decide) (by decide) (by decide) (by decide)
theorem mm0_nw {c : Cf} (h : mayB c = true) : wrongK c (cMm 0 2 3) = false := nw_of h (by decide) (by decide) (by decide) (by decide) (by decide) (by decide) (by decide) (by decide) (by decide)
theorem ld0_nw {c : Cf} (h : mayB c = true) : wrongK c (cLd 5 2) = false := nw_of h (by decide) (by decide) (by decide) (by decide) (by decide) (by decide) (by decide) (by decide) (by decide)
theorem rs_ok {e : Int} {v : Nat} (h1 : 0 ≤ e ∧ e ≤ 1000) (h2 : v < 18446744073709551616) : (⟨e, v, []⟩ : Rs).Ok := ⟨⟨by show _ ≤ e; omega, by show e ≤ _; omega⟩, h2, fun _ h => by cases h⟩
def K1 : Mo := { newMo oneC with pr := upd (fun _ => none) 1 (some newPr) }
def K3 : Mo := { K1 with pr := upd K1.pr 1 (some (changeA newPr (cMm 0 2 3)).2) }
def K6 : Mo := { K3 with ob := upd K3.ob (7 : Nat) (some (List.replicate 8 0)), ev := upd K3.ev (7 : Nat) true }
theorem k1 : stepB (newMo oneC) cSp ⟨0, 1, []⟩ = true ∧ stepM (newMo oneC) cSp ⟨0, 1, []⟩ = K1 := by
  refine ⟨by rw [stepB_ok _ (sp_nw one_mayB)]; rfl, by rw [stepM_ok (sp_nw one_mayB) rfl rfl rfl]; rfl⟩
theorem k2 : stepB K1 cSp ⟨0, 3, []⟩ = false := by rw [stepB_ok _ (sp_nw one_mayB)]; rfl
theorem k3 : stepB K1 (cMm 0 2 3) ⟨0, 0, []⟩ = true ∧ stepM K1 (cMm 0 2 3) ⟨0, 0, []⟩ = K3 :=
  ⟨by rw [stepB_ok _ (mm0_nw one_mayB)]; rfl, by rw [stepM_ok (mm0_nw one_mayB) rfl rfl rfl]; rfl⟩
theorem k4 : stepB K3 (cLd 5 2) ⟨0, 0, [0, 0]⟩ = true ∧ stepM K3 (cLd 5 2) ⟨0, 0, [0, 0]⟩ = K3 :=
  ⟨by rw [stepB_ok _ (ld0_nw one_mayB)]; rfl, by rw [stepM_ok (ld0_nw one_mayB) rfl rfl rfl]; rfl⟩
theorem k5 : stepB K3 cKm ⟨0, 0, []⟩ = false := by rw [stepB_ok _ (km_nw one_mayB)]; rfl
theorem k6 : stepB K3 cKm ⟨0, 7, []⟩ = true ∧ stepM K3 cKm ⟨0, 7, []⟩ = K6 :=
  ⟨by rw [stepB_ok _ (km_nw one_mayB)]; rfl, by rw [stepM_ok (km_nw one_mayB) rfl rfl rfl]; rfl⟩
theorem k7 : stepB K6 cKm ⟨0, 7, []⟩ = false := by rw [stepB_ok _ (km_nw one_mayB)]; rfl
set_option maxRecDepth 20000 in
set_option maxHeartbeats 40000000 in
theorem known_any {w : World} (hf : FW w) : Calls Tryd.prog 10 #[] w fun e w' => e = .returned (.bool true) ∧ Chg [] w w' := by
  have HF := hide hf
  have D1 := hide sp_built
  have D3 := hide mm0_built
  have D4 := hide ld0_built
  have D5 := hide km_built
  have E0 := hide br_0
  have E1 := hide (br_v 1)
  have E3 := hide (br_v 3)
  have E7 := hide (br_v 7)
  have HO := hide (fun W => one_any W)
  clear hf
  go_enter Tryd.func10, Tryd.ntmps10
  go_wp2_with fail
  refine (HO.out _).mono ?_
  rintro e W0 ⟨rfl, hc0⟩
  have HC0 := hide hc0
  clear hc0
  go_wp2_with fail
  refine (New_ms (L := []) one_mayB HC0.out (fun k hk => by cases hk)).mono ?_
  rintro e W0' ⟨⟨m, rfl, hms⟩, -⟩
  have HM0 := hide hms
  clear hms
  go_wp2_with (first | (refine wpList_build34W _ rfl ?_ D1.out ?_ ?_; (focus (simp [Region.wanted, yielded, Act.put]; done)); (focus (simp [Act.eval, Act.put]; done))) | (refine wpList_build34W _ rfl ?_ D3.out ?_ ?_; (focus (simp [Region.wanted, yielded, Act.put]; done)); (focus (simp [Act.eval, Act.put]; done))) | (refine wpList_build34W _ rfl ?_ D5.out ?_ ?_; (focus (simp [Region.wanted, yielded, Act.put]; done)); (focus (simp [Act.eval, Act.put]; done))) | (refine wpList_build34W _ rfl ?_ D4.out ?_ ?_; (focus (simp [Region.wanted, yielded, Act.put]; done)); (focus (simp [Act.eval, Act.put]; done))) | (refine wpList_buildRsW _ rfl ?_ E1.out ?_ ?_; (focus (simp [Region.wanted, yielded, Act.put]; done)); (focus (simp [Act.eval, Act.put]; done))) | (refine wpList_buildRsW _ rfl ?_ E3.out ?_ ?_; (focus (simp [Region.wanted, yielded, Act.put]; done)); (focus (simp [Act.eval, Act.put]; done))) | (refine wpList_buildRsW _ rfl ?_ E7.out ?_ ?_; (focus (simp [Region.wanted, yielded, Act.put]; done)); (focus (simp [Act.eval, Act.put]; done))) | (refine wpList_buildRsW _ rfl ?_ E0.out ?_ ?_; (focus (simp [Region.wanted, yielded, Act.put]; done)); (focus (simp [Act.eval, Act.put]; done))))
  refine (Step_ms (r := ⟨0, 1, []⟩) HM0.out HF.out sp_ok (RE.nil ucl 1 _ none 0) (rs_ok (by omega) (by omega)) (RE.nil ucl 1 _ none 0)).mono ?_
  rintro e W1 ⟨rfl, hms, -⟩
  rw [k1.1]
  rw [k1.2] at hms
  have HM1 := hide hms
  clear hms
  go_wp2_with (first | (refine wpList_build34W _ rfl ?_ D1.out ?_ ?_; (focus (simp [Region.wanted, yielded, Act.put]; done)); (focus (simp [Act.eval, Act.put]; done))) | (refine wpList_build34W _ rfl ?_ D3.out ?_ ?_; (focus (simp [Region.wanted, yielded, Act.put]; done)); (focus (simp [Act.eval, Act.put]; done))) | (refine wpList_build34W _ rfl ?_ D5.out ?_ ?_; (focus (simp [Region.wanted, yielded, Act.put]; done)); (focus (simp [Act.eval, Act.put]; done))) | (refine wpList_build34W _ rfl ?_ D4.out ?_ ?_; (focus (simp [Region.wanted, yielded, Act.put]; done)); (focus (simp [Act.eval, Act.put]; done))) | (refine wpList_buildRsW _ rfl ?_ E1.out ?_ ?_; (focus (simp [Region.wanted, yielded, Act.put]; done)); (focus (simp [Act.eval, Act.put]; done))) | (refine wpList_buildRsW _ rfl ?_ E3.out ?_ ?_; (focus (simp [Region.wanted, yielded, Act.put]; done)); (focus (simp [Act.eval, Act.put]; done))) | (refine wpList_buildRsW _ rfl ?_ E7.out ?_ ?_; (focus (simp [Region.wanted, yielded, Act.put]; done)); (focus (simp [Act.eval, Act.put]; done))) | (refine wpList_buildRsW _ rfl ?_ E0.out ?_ ?_; (focus (simp [Region.wanted, yielded, Act.put]; done)); (focus (simp [Act.eval, Act.put]; done))))
  refine (Step_ms (r := ⟨0, 3, []⟩) HM1.out HF.out sp_ok (RE.nil ucl 1 _ none 0) (rs_ok (by omega) (by omega)) (RE.nil ucl 1 _ none 0)).mono ?_
  rintro e W2 ⟨rfl, hms, -⟩
  rw [k2]
  rw [stepM_no k2] at hms
  have HM2 := hide hms
  clear hms
  go_wp2_with (first | (refine wpList_build34W _ rfl ?_ D1.out ?_ ?_; (focus (simp [Region.wanted, yielded, Act.put]; done)); (focus (simp [Act.eval, Act.put]; done))) | (refine wpList_build34W _ rfl ?_ D3.out ?_ ?_; (focus (simp [Region.wanted, yielded, Act.put]; done)); (focus (simp [Act.eval, Act.put]; done))) | (refine wpList_build34W _ rfl ?_ D5.out ?_ ?_; (focus (simp [Region.wanted, yielded, Act.put]; done)); (focus (simp [Act.eval, Act.put]; done))) | (refine wpList_build34W _ rfl ?_ D4.out ?_ ?_; (focus (simp [Region.wanted, yielded, Act.put]; done)); (focus (simp [Act.eval, Act.put]; done))) | (refine wpList_buildRsW _ rfl ?_ E1.out ?_ ?_; (focus (simp [Region.wanted, yielded, Act.put]; done)); (focus (simp [Act.eval, Act.put]; done))) | (refine wpList_buildRsW _ rfl ?_ E3.out ?_ ?_; (focus (simp [Region.wanted, yielded, Act.put]; done)); (focus (simp [Act.eval, Act.put]; done))) | (refine wpList_buildRsW _ rfl ?_ E7.out ?_ ?_; (focus (simp [Region.wanted, yielded, Act.put]; done)); (focus (simp [Act.eval, Act.put]; done))) | (refine wpList_buildRsW _ rfl ?_ E0.out ?_ ?_; (focus (simp [Region.wanted, yielded, Act.put]; done)); (focus (simp [Act.eval, Act.put]; done))))
  refine (Step_ms (r := ⟨0, 0, []⟩) HM2.out HF.out mm0_ok (RE.nil ucl 1 _ none 0) (rs_ok (by omega) (by omega)) (RE.nil ucl 1 _ none 0)).mono ?_
  rintro e W3 ⟨rfl, hms, -⟩
  rw [k3.1]
  rw [k3.2] at hms
  have HM3 := hide hms
  clear hms
  go_wp2_with (first | (refine wpList_build34W _ rfl ?_ D1.out ?_ ?_; (focus (simp [Region.wanted, yielded, Act.put]; done)); (focus (simp [Act.eval, Act.put]; done))) | (refine wpList_build34W _ rfl ?_ D3.out ?_ ?_; (focus (simp [Region.wanted, yielded, Act.put]; done)); (focus (simp [Act.eval, Act.put]; done))) | (refine wpList_build34W _ rfl ?_ D5.out ?_ ?_; (focus (simp [Region.wanted, yielded, Act.put]; done)); (focus (simp [Act.eval, Act.put]; done))) | (refine wpList_build34W _ rfl ?_ D4.out ?_ ?_; (focus (simp [Region.wanted, yielded, Act.put]; done)); (focus (simp [Act.eval, Act.put]; done))) | (refine wpList_buildRsW _ rfl ?_ E1.out ?_ ?_; (focus (simp [Region.wanted, yielded, Act.put]; done)); (focus (simp [Act.eval, Act.put]; done))) | (refine wpList_buildRsW _ rfl ?_ E3.out ?_ ?_; (focus (simp [Region.wanted, yielded, Act.put]; done)); (focus (simp [Act.eval, Act.put]; done))) | (refine wpList_buildRsW _ rfl ?_ E7.out ?_ ?_; (focus (simp [Region.wanted, yielded, Act.put]; done)); (focus (simp [Act.eval, Act.put]; done))) | (refine wpList_buildRsW _ rfl ?_ E0.out ?_ ?_; (focus (simp [Region.wanted, yielded, Act.put]; done)); (focus (simp [Act.eval, Act.put]; done))) | (refine wpList_buildRsW _ rfl ?_ (br_l (some ⟨W3.heap.size, 0, none⟩) 2 2 [0, 0]) ?_ ?_; (focus (simp [Region.wanted, yielded, Act.put]; done)); (focus (simp [Act.eval, Act.put]; done))))
  refine (Step_ms (r := ⟨0, 0, [0, 0]⟩) (HM3.out.stay ((Chg.refl [] W3).alloc _)) HF.out ld0_ok (RE.nil ucl 1 _ none 0) ⟨by decide, by decide, by decide⟩ (Rd_new W3 5 1 2 (fc ucl [0, 0]) rfl)).mono ?_
  rintro e W4 ⟨rfl, hms, -⟩
  rw [k4.1]
  rw [k4.2] at hms
  have HM4 := hide hms
  clear hms
  go_wp2_with (first | (refine wpList_build34W _ rfl ?_ D1.out ?_ ?_; (focus (simp [Region.wanted, yielded, Act.put]; done)); (focus (simp [Act.eval, Act.put]; done))) | (refine wpList_build34W _ rfl ?_ D3.out ?_ ?_; (focus (simp [Region.wanted, yielded, Act.put]; done)); (focus (simp [Act.eval, Act.put]; done))) | (refine wpList_build34W _ rfl ?_ D5.out ?_ ?_; (focus (simp [Region.wanted, yielded, Act.put]; done)); (focus (simp [Act.eval, Act.put]; done))) | (refine wpList_build34W _ rfl ?_ D4.out ?_ ?_; (focus (simp [Region.wanted, yielded, Act.put]; done)); (focus (simp [Act.eval, Act.put]; done))) | (refine wpList_buildRsW _ rfl ?_ E1.out ?_ ?_; (focus (simp [Region.wanted, yielded, Act.put]; done)); (focus (simp [Act.eval, Act.put]; done))) | (refine wpList_buildRsW _ rfl ?_ E3.out ?_ ?_; (focus (simp [Region.wanted, yielded, Act.put]; done)); (focus (simp [Act.eval, Act.put]; done))) | (refine wpList_buildRsW _ rfl ?_ E7.out ?_ ?_; (focus (simp [Region.wanted, yielded, Act.put]; done)); (focus (simp [Act.eval, Act.put]; done))) | (refine wpList_buildRsW _ rfl ?_ E0.out ?_ ?_; (focus (simp [Region.wanted, yielded, Act.put]; done)); (focus (simp [Act.eval, Act.put]; done))))
  refine (Step_ms (r := ⟨0, 0, []⟩) HM4.out HF.out km_ok (RE.nil ucl 1 _ none 0) (rs_ok (by omega) (by omega)) (RE.nil ucl 1 _ none 0)).mono ?_
  rintro e W5 ⟨rfl, hms, -⟩
  rw [k5]
  rw [stepM_no k5] at hms
  have HM5 := hide hms
  clear hms
  go_wp2_with (first | (refine wpList_build34W _ rfl ?_ D1.out ?_ ?_; (focus (simp [Region.wanted, yielded, Act.put]; done)); (focus (simp [Act.eval, Act.put]; done))) | (refine wpList_build34W _ rfl ?_ D3.out ?_ ?_; (focus (simp [Region.wanted, yielded, Act.put]; done)); (focus (simp [Act.eval, Act.put]; done))) | (refine wpList_build34W _ rfl ?_ D5.out ?_ ?_; (focus (simp [Region.wanted, yielded, Act.put]; done)); (focus (simp [Act.eval, Act.put]; done))) | (refine wpList_build34W _ rfl ?_ D4.out ?_ ?_; (focus (simp [Region.wanted, yielded, Act.put]; done)); (focus (simp [Act.eval, Act.put]; done))) | (refine wpList_buildRsW _ rfl ?_ E1.out ?_ ?_; (focus (simp [Region.wanted, yielded, Act.put]; done)); (focus (simp [Act.eval, Act.put]; done))) | (refine wpList_buildRsW _ rfl ?_ E3.out ?_ ?_; (focus (simp [Region.wanted, yielded, Act.put]; done)); (focus (simp [Act.eval, Act.put]; done))) | (refine wpList_buildRsW _ rfl ?_ E7.out ?_ ?_; (focus (simp [Region.wanted, yielded, Act.put]; done)); (focus (simp [Act.eval, Act.put]; done))) | (refine wpList_buildRsW _ rfl ?_ E0.out ?_ ?_; (focus (simp [Region.wanted, yielded, Act.put]; done)); (focus (simp [Act.eval, Act.put]; done))))
  refine (Step_ms (r := ⟨0, 7, []⟩) HM5.out HF.out km_ok (RE.nil ucl 1 _ none 0) (rs_ok (by omega) (by omega)) (RE.nil ucl 1 _ none 0)).mono ?_
  rintro e W6 ⟨rfl, hms, -⟩
  rw [k6.1]
  rw [k6.2] at hms
  have HM6 := hide hms
  clear hms
  go_wp2_with (first | (refine wpList_build34W _ rfl ?_ D1.out ?_ ?_; (focus (simp [Region.wanted, yielded, Act.put]; done)); (focus (simp [Act.eval, Act.put]; done))) | (refine wpList_build34W _ rfl ?_ D3.out ?_ ?_; (focus (simp [Region.wanted, yielded, Act.put]; done)); (focus (simp [Act.eval, Act.put]; done))) | (refine wpList_build34W _ rfl ?_ D5.out ?_ ?_; (focus (simp [Region.wanted, yielded, Act.put]; done)); (focus (simp [Act.eval, Act.put]; done))) | (refine wpList_build34W _ rfl ?_ D4.out ?_ ?_; (focus (simp [Region.wanted, yielded, Act.put]; done)); (focus (simp [Act.eval, Act.put]; done))) | (refine wpList_buildRsW _ rfl ?_ E1.out ?_ ?_; (focus (simp [Region.wanted, yielded, Act.put]; done)); (focus (simp [Act.eval, Act.put]; done))) | (refine wpList_buildRsW _ rfl ?_ E3.out ?_ ?_; (focus (simp [Region.wanted, yielded, Act.put]; done)); (focus (simp [Act.eval, Act.put]; done))) | (refine wpList_buildRsW _ rfl ?_ E7.out ?_ ?_; (focus (simp [Region.wanted, yielded, Act.put]; done)); (focus (simp [Act.eval, Act.put]; done))) | (refine wpList_buildRsW _ rfl ?_ E0.out ?_ ?_; (focus (simp [Region.wanted, yielded, Act.put]; done)); (focus (simp [Act.eval, Act.put]; done))))
  refine (Step_ms (r := ⟨0, 7, []⟩) HM6.out HF.out km_ok (RE.nil ucl 1 _ none 0) (rs_ok (by omega) (by omega)) (RE.nil ucl 1 _ none 0)).mono ?_
  rintro e W7 ⟨rfl, hms, -⟩
  rw [k7]
  have HM7 := hide hms
  clear hms
  go_wp2_with fail
  go_ret
  exact ⟨rfl, HM7.out.chg⟩
end Go.Proofs.YtfoleblcaloeoaaDoor

/- Handles, plain. -/
namespace Go.Proofs.YtfoleblcaloeoaaDoor
open Go Go.RowKit

theorem answer_h {M : Mo} {x : Cl} {v h : Nat} {M' : Mo} (hx : ¬ (x.h = h ∧ (x.k = 11 ∨ x.k = 13))) (he : M.ev h = true) (ha : (answerA M x v).2 = some M') : M'.ob h = M.ob h ∧ M'.ev h = true := by
  unfold answerA at ha
  split at ha
  · unfold spawnA at ha
    split at ha
    · obtain rfl := Option.some.inj ha; exact ⟨rfl, he⟩
    · cases ha
  split at ha
  · unfold mallocA at ha
    split at ha
    · cases ha
    · rename_i hv
      obtain rfl := Option.some.inj ha
      have hne : (h : Int) ≠ (v : Int) := fun e => hv (.inr (by rw [← e]; exact he))
      exact ⟨upd_ne _ _ hne, by show upd M.ev v true h = true; rw [upd_ne _ _ hne]; exact he⟩
  split at ha
  · rename_i hk
    unfold objA at ha
    split at ha
    · cases ha
    split at ha
    · rename_i h11
      obtain rfl := Option.some.inj ha
      have hne : (h : Int) ≠ (x.h : Int) := fun e => hx ⟨by omega, .inl h11⟩
      exact ⟨upd_ne _ _ hne, he⟩
    split at ha
    · cases ha
    split at ha
    · cases ha
    · obtain rfl := Option.some.inj ha
      have hne : (h : Int) ≠ (x.h : Int) := fun e => hx ⟨by omega, by omega⟩
      exact ⟨upd_ne _ _ hne, he⟩
  split at ha
  · cases ha
  split at ha
  · cases ha
  unfold procA at ha
  split at ha
  · obtain rfl := Option.some.inj ha; exact ⟨rfl, he⟩
  split at ha
  · obtain rfl := Option.some.inj ha; exact ⟨rfl, he⟩
  split at ha
  · cases ha
  split at ha
  · obtain rfl := Option.some.inj ha; exact ⟨rfl, he⟩
  split at ha
  · obtain ⟨q, _, rfl⟩ := Option.map_eq_some_iff.1 ha; exact ⟨rfl, he⟩
  split at ha
  · cases ha
  split at ha
  · cases ha
  split at ha
  · obtain rfl := Option.some.inj ha; exact ⟨rfl, he⟩
  · cases ha
theorem step_h {M : Mo} {x : Cl} (r : Rs) {h : Nat} (hx : ¬ (x.h = h ∧ (x.k = 11 ∨ x.k = 13))) (he : M.ev h = true) : (stepM M x r).ob h = M.ob h ∧ (stepM M x r).ev h = true := by
  unfold stepM
  split
  · exact ⟨rfl, he⟩
  cases ha : (answerA M x r.v).2 with
  | none => exact ⟨rfl, he⟩
  | some M' => exact answer_h hx he ha
/-- the handle h is an object's whose bytes begin with b -/
structure HInv (M : Mo) (h : Nat) (b : List Nat) : Prop where
  c : mayB M.c = true
  ev : M.ev h = true
  ob : ∃ B, M.ob h = some B ∧ B.length = 8 ∧ B.take b.length = b
theorem HInv.step {M : Mo} {h : Nat} {b : List Nat} (hI : HInv M h b) {x : Cl} (r : Rs) (hx : ¬ (x.h = h ∧ (x.k = 11 ∨ x.k = 13))) : HInv (stepM M x r) h b := by
  obtain ⟨h1, h2⟩ := step_h r hx hI.ev
  exact ⟨by rw [stepM_c]; exact hI.c, h2, by rw [h1]; exact hI.ob⟩
def cPoke (h : Nat) (b : List Nat) : Cl := { zCl with k := 13, h := h, l := b }
def cPeek (h : Nat) (n : Int) : Cl := { zCl with k := 12, h := h, s := n }
def cFr (h : Nat) : Cl := { zCl with k := 11, h := h }
theorem poke_built (h : Nat) (b : List Nat) (A : Option Addr) (n c : Nat) : BC [(0, .int .u8 13), (9, .int .u64 h), (10, .slice A n c)] (cPoke h b) (.slice A n c) := ⟨by kernel_rfl⟩
theorem peek_built (h : Nat) (n : Int) : BC [(0, .int .u8 12), (9, .int .u64 h), (6, .int .i64 n)] (cPeek h n) zV := ⟨by kernel_rfl⟩
theorem fr_built (h : Nat) : BC [(0, .int .u8 11), (9, .int .u64 h)] (cFr h) zV := ⟨by kernel_rfl⟩
theorem poke_ok {h : Nat} {b : List Nat} (hh : h < 18446744073709551616) (hb : ∀ y ∈ b, y < 256) : (cPoke h b).Ok := by constructor <;> simp [cPoke, zCl] <;> first | exact hh | exact hb
theorem peek_ok {h : Nat} {n : Int} (hh : h < 18446744073709551616) (hn : 0 ≤ n ∧ n ≤ 1000) : (cPeek h n).Ok := by constructor <;> simp [cPeek, zCl] <;> first | exact hh | omega
theorem fr_ok {h : Nat} (hh : h < 18446744073709551616) : (cFr h).Ok := by constructor <;> simp [cFr, zCl] <;> exact hh
theorem poke_nw {c : Cf} (hc : mayB c = true) (h : Nat) {b : List Nat} (hb : 1 ≤ b.length ∧ b.length ≤ 8) : wrongK c (cPoke h b) = false := by
  refine nw_of hc ?_ rfl rfl rfl rfl rfl ?_ rfl rfl
  · unfold mayK
    rw [show bareK (cPoke h b) = cPoke h b from rfl]
    simp [sameB, cPoke, zCl, fld, hb.2]
  · have e : sizeK (cPoke h b) = b.length := rfl
    unfold t6K accB
    rw [e, decide_eq_true (show (1 ≤ (b.length : Int) ∧ (b.length : Int) ≤ 8) ∧ 0 ≤ (cPoke h b).a ∧ (cPoke h b).a ≤ 128 - (b.length : Int) from ⟨by omega, by show (0 : Int) ≤ 0; omega, by show (0 : Int) ≤ _; omega⟩)]
    simp
theorem peek_nw {c : Cf} (hc : mayB c = true) (h : Nat) {n : Int} (hn : 1 ≤ n ∧ n ≤ 8) : wrongK c (cPeek h n) = false := by
  refine nw_of hc ?_ rfl rfl rfl rfl rfl ?_ rfl rfl
  · unfold mayK
    rw [show bareK (cPeek h n) = cPeek h n from rfl]
    simp [sameB, cPeek, zCl, fld]
  · have e : sizeK (cPeek h n) = n := rfl
    unfold t6K accB
    rw [e, decide_eq_true (show (1 ≤ n ∧ n ≤ 8) ∧ 0 ≤ (cPeek h n).a ∧ (cPeek h n).a ≤ 128 - n from ⟨by omega, by show (0 : Int) ≤ 0; omega, by show (0 : Int) ≤ _; omega⟩)]
    simp
theorem fr_nw {c : Cf} (hc : mayB c = true) (h : Nat) : wrongK c (cFr h) = false := by
  refine nw_of hc ?_ rfl rfl rfl rfl rfl rfl rfl rfl
  unfold mayK
  rw [show bareK (cFr h) = cFr h from rfl]
  simp [sameB, cFr, zCl, fld]
theorem h_make {c : Cf} (hc : mayB c = true) {h : Nat} (h0 : h ≠ 0) : stepB (newMo c) cKm ⟨0, h, []⟩ = true ∧ (stepM (newMo c) cKm ⟨0, h, []⟩).ob h = some (List.replicate 8 0) ∧ (stepM (newMo c) cKm ⟨0, h, []⟩).ev h = true := by
  have ha : answerA (newMo c) cKm h = (⟨0, h, []⟩, some { (newMo c) with ob := upd (newMo c).ob h (some (List.replicate 8 0)), ev := upd (newMo c).ev h true }) := by
    show mallocA (newMo c) 8 h = _
    unfold mallocA
    rw [if_neg (by rintro (e | e); exact h0 e; cases e)]
    rfl
  refine ⟨by rw [stepB_ok _ (km_nw hc), ha]; simp [freeK, sameRs], ?_⟩
  rw [stepM_ok (km_nw hc) rfl (by rw [ha]; simp [sameRs]) rfl, ha]
  exact ⟨upd_at _ _ _, upd_at _ _ _⟩
theorem h_poke {M : Mo} {h : Nat} {b : List Nat} (hc : mayB M.c = true) (ho : M.ob h = some (List.replicate 8 0)) (he : M.ev h = true) (hb : 1 ≤ b.length ∧ b.length ≤ 8) :
    stepB M (cPoke h b) ⟨0, 0, []⟩ = true ∧ HInv (stepM M (cPoke h b) ⟨0, 0, []⟩) h b := by
  have ha : answerA M (cPoke h b) 0 = (plainR 0, some { M with ob := upd M.ob h (some (splice (List.replicate 8 0) 0 b)) }) := by
    show objA M (cPoke h b) = _
    unfold objA
    show (match M.ob h with | none => _ | some b_1 => _) = _
    rw [ho]
    show (if (13 : Nat) = 11 then _ else if ((List.replicate 8 0).length : Int) < (0 : Int) + max 0 (b.length : Int) then _ else if (13 : Nat) = 12 then _ else _) = _
    rw [if_neg (by decide), if_neg (by simp; omega), if_neg (by decide)]
    rfl
  refine ⟨by rw [stepB_ok _ (poke_nw hc h hb), ha]; simp [freeK, sameRs, plainR, cPoke, zCl], ?_⟩
  rw [stepM_ok (poke_nw hc h hb) rfl (by rw [ha]; simp [sameRs, plainR]) rfl, ha]
  refine ⟨hc, he, splice (List.replicate 8 0) 0 b, upd_at _ _ _, by unfold splice; simp; omega, ?_⟩
  unfold splice
  simp
theorem h_peek {M : Mo} {h : Nat} {b : List Nat} (hI : HInv M h b) (hb : 1 ≤ b.length ∧ b.length ≤ 8) : stepB M (cPeek h b.length) ⟨0, 0, b⟩ = true ∧ stepM M (cPeek h b.length) ⟨0, 0, b⟩ = M := by
  obtain ⟨B, ho, hB, hbB⟩ := hI.ob
  have ha : answerA M (cPeek h b.length) 0 = (⟨0, 0, b⟩, none) := by
    show objA M (cPeek h b.length) = _
    unfold objA
    show (match M.ob h with | none => _ | some b_1 => _) = _
    rw [ho]
    show (if (12 : Nat) = 11 then _ else if (B.length : Int) < (0 : Int) + max (b.length : Int) ((0 : Nat) : Int) then _ else if (12 : Nat) = 12 then ((⟨0, 0, (B.drop 0).take ((b.length : Int).toNat)⟩, none) : Rs × Option Mo) else _) = _
    rw [if_neg (by decide), if_neg (by rw [hB]; simp; omega), if_pos rfl, Int.toNat_natCast, List.drop_zero, hbB]
  refine ⟨by rw [stepB_ok _ (peek_nw hI.c h (by omega)), ha]; simp [freeK, sameRs, cPeek, zCl], ?_⟩
  rw [stepM_ok (peek_nw hI.c h (by omega)) rfl (by rw [ha]; simp [sameRs]) rfl, ha]
  rfl
theorem h_again {M : Mo} {h : Nat} (hc : mayB M.c = true) (he : M.ev h = true) (hh : h < 18446744073709551616) : stepB M cKm ⟨0, h, []⟩ = false := by
  have ha : answerA M cKm h = (⟨0, 18446744073709551615 - h, []⟩, none) := by
    show mallocA M 8 h = _
    unfold mallocA
    rw [if_pos (.inr he)]
  rw [stepB_ok _ (km_nw hc), ha]
  simp [freeK, sameRs, cKm, zCl]
  omega
theorem h_free {M : Mo} {h : Nat} {b : List Nat} (hI : HInv M h b) : stepB M (cFr h) ⟨0, 0, []⟩ = true ∧ mayB (stepM M (cFr h) ⟨0, 0, []⟩).c = true ∧ (stepM M (cFr h) ⟨0, 0, []⟩).ob h = none ∧ (stepM M (cFr h) ⟨0, 0, []⟩).ev h = true := by
  obtain ⟨B, ho, hB, hbB⟩ := hI.ob
  have ha : answerA M (cFr h) 0 = (plainR 0, some { M with ob := upd M.ob h none }) := by
    show objA M (cFr h) = _
    unfold objA
    show (match M.ob h with | none => _ | some b_1 => _) = _
    rw [ho]
    show (if (11 : Nat) = 11 then _ else _) = _
    rw [if_pos rfl]
    rfl
  refine ⟨by rw [stepB_ok _ (fr_nw hI.c h), ha]; simp [freeK, sameRs, plainR, cFr, zCl], by rw [stepM_c]; exact hI.c, ?_⟩
  rw [stepM_ok (fr_nw hI.c h) rfl (by rw [ha]; simp [sameRs, plainR]) rfl, ha]
  exact ⟨upd_at _ _ _, hI.ev⟩
theorem h_gone {M : Mo} {h : Nat} {n : Int} (hc : mayB M.c = true) (ho : M.ob h = none) (hn : 1 ≤ n ∧ n ≤ 8) : stepB M (cPeek h n) ⟨120, 0, []⟩ = true ∧ stepB M (cFr h) ⟨0, 0, []⟩ = false := by
  have ha : answerA M (cPeek h n) 0 = (plainR 120, none) := by
    show objA M (cPeek h n) = _
    unfold objA
    show (match M.ob h with | none => _ | some b_1 => _) = _
    rw [ho]
  have hb : answerA M (cFr h) 0 = (plainR 120, none) := by
    show objA M (cFr h) = _
    unfold objA
    show (match M.ob h with | none => _ | some b_1 => _) = _
    rw [ho]
  exact ⟨by rw [stepB_ok _ (peek_nw hc h hn), ha]; simp [freeK, sameRs, plainR, cPeek, zCl], by rw [stepB_ok _ (fr_nw hc h), hb]; simp [freeK, sameRs, plainR, cFr, zCl]⟩
end Go.Proofs.YtfoleblcaloeoaaDoor

/- ModelHandles: its walk (printed by genmrc.py). -/
namespace Go.Proofs.YtfoleblcaloeoaaDoor
open Go Go.RowKit

theorem tw_loadX {w : World} {g off n c : Nat} {l : List Tw} (h : RE twl 17 w (.slice (some ⟨g, off, none⟩) n c) l) {k : Nat} (hk : k < l.length) : (loadVar 42 ⟨g, off + k * 17, none⟩).run Tryd.prog w = .ok (.agg (clc l[k].x l[k].v)) w := by
  have := run_loadVar_mid (P := Tryd.prog) w g (off + k * 17) 42 (clc l[k].x l[k].v).toList _ (fun j v hv => by
    have hj : j < 12 := (List.getElem?_eq_some_iff.1 hv).1
    exact tw_cell h hk (j := j) (u := v) (by omega) (by unfold twl; rw [List.getElem?_append_left hj]; exact hv)) Tryd.underlying42 rfl (by rw [Array.length_toList]; exact info34)
  simpa using this
theorem tw_loadR {w : World} {g off n c : Nat} {l : List Tw} (h : RE twl 17 w (.slice (some ⟨g, off, none⟩) n c) l) {k : Nat} (hk : k < l.length) : (loadVar 45 ⟨g, off + k * 17 + 12, none⟩).run Tryd.prog w = .ok (.agg (rsc l[k].r l[k].u)) w := by
  have := run_loadVar_mid (P := Tryd.prog) w g (off + k * 17 + 12) 45 (rsc l[k].r l[k].u).toList _ (fun j v hv => by
    have hj : j < 3 := (List.getElem?_eq_some_iff.1 hv).1
    have := tw_cell h hk (j := 12 + j) (u := v) (by omega) (by
      unfold twl
      rw [List.getElem?_append_right (show (clc l[k].x l[k].v).toList.length ≤ 12 + j by show 12 ≤ 12 + j; omega)]
      rw [show 12 + j - (clc l[k].x l[k].v).toList.length = j by show 12 + j - 12 = j; omega]
      rw [List.getElem?_append_left hj]; exact hv)
    rwa [← Nat.add_assoc] at this) Tryd.underlying45 rfl (by rw [Array.length_toList]; exact infoRs)
  simpa using this
set_option maxRecDepth 20000 in
set_option maxHeartbeats 40000000 in
theorem handles_law {w : World} (hf : FW w) (c : Cf) {h : Nat} (hh : h < 18446744073709551616) {b : List Nat} {vb : Value} (hvb : RB w vb b) (hb8 : ∀ y ∈ b, y < 256) {l : List Tw} {vl : Value} (hvl : RE twl 17 w vl l) (hlo : ∀ t ∈ l, TwOk w t) :
    Calls Tryd.prog 4 #[.agg (cg c), .int .u64 h, vb, vl] w fun e w' => e = .returned (.bool true) ∧ Chg [] w w' := by
  obtain ⟨A0, c0, rfl⟩ := RE.form hvb
  obtain ⟨A1, c1, rfl⟩ := RE.form hvl
  obtain ⟨bl, hbl⟩ : ∃ n, n = b.length := ⟨_, rfl⟩
  rw [← hbl] at hvb ⊢
  have HBLN := hide hbl
  have HF := hide hf
  have HM := hide (fun W => rMay_any c W)
  have HK := hide (fun W (h : Chg [] w W) => known_any (hf.stay h))
  have HT := hide (fun W (h : Chg [] w W) => tame_any (hvl.stay h) (fun t ht => (hlo t ht).stay h) (n := 40) (by omega))
  have HVB := hide (fun W (h : Chg [] w W) => RE.stay hvb h)
  have HVL := hide (fun W (h : Chg [] w W) => RE.stay hvl h)
  have HLO := hide (fun W (h : Chg [] w W) t ht => (hlo t ht).stay h)
  have HB8 := hide hb8
  have HH := hide hh
  have E0 := hide br_0
  have E120 := hide (br_e 120)
  have EH := hide (br_v h)
  have EB := hide (br_l A0 bl c0 b)
  have DP := hide (poke_built h b A0 bl c0)
  have DK := hide (peek_built h (bl : Nat))
  have DF := hide (fr_built h)
  have D1 := hide km_built
  obtain ⟨W1, hW1⟩ : ∃ W1, W1 = w.alloc (.cells (cg c) 26) := ⟨_, rfl⟩
  have hb2 : CB W1 w.heap.size c := by rw [hW1]; exact Blk.new w 26 _
  have hc1 : Chg [] w W1 := by rw [hW1]; exact (Chg.refl [] w).alloc _
  have HB2 := hide hb2
  have HC1 := hide hc1
  have HW1 := hide hW1
  clear hf hb2 hc1 hW1 hh hvb hb8 hvl hlo hbl
  go_enter Tryd.func4, Tryd.ntmps4
  go_upto_region 1 with (first | (refine wpList_box26 rfl _ rfl rfl ?_; try rw [← HW1.out]))
  go_wp2_with fail
  refine (HT.out _ HC1.out).mono ?_
  rintro e W1' ⟨rfl, rfl⟩
  cases htm : tameB l 40 with
  | false =>
    clear htm
    go_wp2_with fail
    refine (HK.out _ HC1.out).mono ?_
    rintro e W9 ⟨rfl, hc9⟩
    go_wp2_with fail
    go_ret
    exact ⟨rfl, HC1.out.stay hc9⟩
  | true =>
  have HTM := hide htm
  clear htm
  go_wp2_with (first | (refine wpList_load26W (b := w.heap.size) (c := c) _ rfl rfl ?_ HB2.out ?_; (focus (simp [Region.wanted, yielded, Act.put]; done))))
  refine (HM.out _).mono ?_
  rintro e W2 ⟨rfl, hc2⟩
  have HC2 := hide (HC1.out.stay hc2)
  have HB22 := hide (show CB W2 w.heap.size c from Blk.chg HB2.out hc2 List.not_mem_nil)
  clear hc2
  cases hm : mayB c with
  | false =>
    clear hm
    go_wp2_with fail
    refine (HK.out _ HC2.out).mono ?_
    rintro e W9 ⟨rfl, hc9⟩
    go_wp2_with fail
    go_ret
    exact ⟨rfl, HC2.out.stay hc9⟩
  | true =>
  have HMB := hide hm
  clear hm
  by_cases hb : 1 ≤ bl ∧ bl ≤ 8 ∧ h ≠ 0
  case neg =>
    by_cases h1 : bl < 1
    · have d1 : decide ((bl : Int) < 1) = true := decide_eq_true (by omega)
      have d1' : decide (bl < 1) = true := decide_eq_true h1
      obtain rfl : bl = 0 := by omega
      clear h1 hb
      go_wp2_with fail
      refine (HK.out _ HC2.out).mono ?_
      rintro e W9 ⟨rfl, hc9⟩
      go_wp2_with fail
      go_ret
      exact ⟨rfl, HC2.out.stay hc9⟩
    by_cases h8 : 8 < bl
    · have d1 : decide ((bl : Int) < 1) = false := decide_eq_false (by omega)
      have d1' : bl ≠ 0 := by omega
      have d2 : decide (8 < (bl : Int)) = true := decide_eq_true (by omega)
      have d2' : decide (8 < bl) = true := decide_eq_true h8
      clear h1 hb h8
      go_wp2_with fail
      refine (HK.out _ HC2.out).mono ?_
      rintro e W9 ⟨rfl, hc9⟩
      go_wp2_with fail
      go_ret
      exact ⟨rfl, HC2.out.stay hc9⟩
    · have hz : h = 0 := by omega
      have d1 : decide ((bl : Int) < 1) = false := decide_eq_false (by omega)
      have d1' : bl ≠ 0 := by omega
      have d2 : decide (8 < (bl : Int)) = false := decide_eq_false (by omega)
      have d2' : decide (8 < bl) = false := decide_eq_false (by omega)
      clear h1 hb h8
      subst hz
      go_wp2_with fail
      refine (HK.out _ HC2.out).mono ?_
      rintro e W9 ⟨rfl, hc9⟩
      go_wp2_with fail
      go_ret
      exact ⟨rfl, HC2.out.stay hc9⟩
  have HBL := hide hb
  have d1 : decide ((bl : Int) < 1) = false := decide_eq_false (by omega)
  have d2 : decide (8 < (bl : Int)) = false := decide_eq_false (by omega)
  have d2' : decide (8 < bl) = false := decide_eq_false (by omega)
  have d3 : ((h : Int) == 0) = false := beq_false_of_ne (by omega)
  have d3' : h ≠ 0 := hb.2.2
  clear hb
  go_wp2_with (first | (refine wpList_load26L (b := w.heap.size) (c := c) rfl _ rfl rfl ?_ ?_; (focus exact HB22.out)))
  refine (New_ms (L := []) HMB.out HC2.out (fun k hk => by cases hk)).mono ?_
  rintro e W3 ⟨⟨m, rfl, hms⟩, hc3⟩
  have HMS := hide hms
  clear hms hc3 d1 d2 d2' d3 d3'
  go_upto_region 5 with (first | (refine wpList_build34 rfl _ rfl D1.out ?_ ?_; (focus (simp [Act.eval, Act.put]; done))) | (refine wpList_alloc34 rfl rfl ?_; try go_simp) | (refine wpList_store34 (b := W3.heap.size) (y := cKm) (u := zV) rfl _ _ rfl rfl rfl rfl (Blk.new W3 _ _) ?_; intro W4 h4 hc4; have H4 := hide h4; have HC4 := hide (show Chg [] W3 W4 from ((Chg.refl [] W3).alloc _).trans hc4 (fun y hy => .inr (by obtain rfl := List.mem_singleton.1 hy; exact Nat.le_refl _))); clear h4 hc4))
  obtain ⟨b11, hb11⟩ : ∃ b, b = W3.heap.size := ⟨_, rfl⟩
  rw [← hb11] at H4 ⊢
  have HMS4 := hide (show MS w [b11] W4 m (newMo c) from HMS.out.guard HC4.out [b11] (fun k hk => by obtain rfl := List.mem_singleton.1 hk; have := H4.out.lt; omega))
  clear hb11
  go_wp2_with (first | (refine wpList_load34W (b := b11) (x := cKm) (v := zV) _ rfl rfl ?_ H4.out ?_; (focus (simp [Region.wanted, yielded, Act.put]; done))) | (refine wpList_buildRsW _ rfl ?_ EH.out ?_ ?_; (focus (simp [Region.wanted, yielded, Act.put]; done)); (focus (simp [Act.eval, Act.put]; done))))
  refine (Step_ms (r := ⟨0, h, []⟩) HMS4.out HF.out km_ok (RE.nil ucl 1 _ none 0) (rs_ok (by omega) HH.out) (RE.nil ucl 1 _ none 0)).mono ?_
  rintro e W5 ⟨rfl, hms, hkp⟩
  have hs := h_make (c := c) HMB.out HBL.out.2.2
  rw [hs.1]
  obtain ⟨M1, hM1⟩ : ∃ N, N = stepM (newMo c) cKm ⟨0, h, []⟩ := ⟨_, rfl⟩
  have hc1 : mayB M1.c = true := by rw [hM1, stepM_c]; exact HMB.out
  rw [← hM1] at hms hs
  have HS1 := hide (And.intro hc1 hs.2)
  have HMS5 := hide hms
  have H5 := hide (show KB W5 b11 cKm zV from hkp.blk H4.out (List.mem_singleton.2 rfl))
  clear hs hM1 hc1 hms hkp H4
  go_wp2_with (first | (refine wpList_build34W _ rfl ?_ DP.out ?_ ?_; (focus (simp [Region.wanted, yielded, Act.put]; done)); (focus (simp [Act.eval, Act.put]; done))) | (refine wpList_buildRsW _ rfl ?_ E0.out ?_ ?_; (focus (simp [Region.wanted, yielded, Act.put]; done)); (focus (simp [Act.eval, Act.put]; done))))
  refine (Step_ms (r := ⟨0, 0, []⟩) HMS5.out HF.out (poke_ok HH.out HB8.out) (HVB.out W5 HMS5.out.chg) (rs_ok (by omega) (by omega)) (RE.nil ucl 1 _ none 0)).mono ?_
  rintro e W6 ⟨rfl, hms, hkp⟩
  have hs := h_poke (b := b) HS1.out.1 HS1.out.2.1 HS1.out.2.2 (by have := HBL.out; have := HBLN.out; omega)
  rw [hs.1]
  obtain ⟨M2, hM2⟩ : ∃ N, N = stepM M1 (cPoke h b) ⟨0, 0, []⟩ := ⟨_, rfl⟩
  rw [← hM2] at hms hs
  have HI2 := hide hs.2
  have HMS6 := hide hms
  have H6 := hide (show KB W6 b11 cKm zV from hkp.blk H5.out (List.mem_singleton.2 rfl))
  clear hs hM2 hms hkp H5
  go_upto_region 8 with (fail)
  go_loopw [64] (fun i wr => ∃ k : Nat, k ≤ l.length ∧ i = .int .i64 k ∧ ∃ M, Hid (MS w [b11] wr m M) ∧ Hid (HInv M h b) ∧ Hid (KB wr b11 cKm zV)) (fun i _ => l.length - (intOf i).toNat)
  case atStart => exact ⟨0, by omega, rfl, M2, HMS6, HI2, H6⟩
  case round =>
    obtain ⟨k, hk, rfl, M, hms, hinv, h11⟩ := hrel
    have HMSr := hide hms.out
    have HINV := hide hinv.out
    have H11 := hide h11.out
    clear hms hinv h11
    have hll : l.length ≤ 40 := by have h := HTM.out; unfold tameB at h; simp at h; exact h.1
    by_cases hkl : k < l.length
    · have HVR := hide (fun W (h : Chg [] wr W) => HVL.out W (HMSr.out.chg.stay h))
      have HTX := hide (fun W (h : Chg [] wr W) => HLO.out W (HMSr.out.chg.stay h) _ (List.getElem_mem hkl))
      obtain ⟨g, off, rfl⟩ := RE.addr (HVR.out wr (Chg.refl _ _)) (show 0 < l.length by omega)
      have q10 : wr.cell? ⟨g, off + k * 17 + 10, none⟩ = some (.int .u64 l[k].x.h) := tw_cell (HVR.out wr (Chg.refl _ _)) hkl (by omega) rfl
      have q0 : wr.cell? ⟨g, off + k * 17, none⟩ = some (.int .u8 l[k].x.k) := by simpa using tw_cell (HVR.out wr (Chg.refl _ _)) hkl (j := 0) (u := .int .u8 l[k].x.k) (by omega) rfl
      have HLX := hide (fun W (h : Chg [] wr W) => tw_loadX (HVR.out W h) hkl)
      have HLR := hide (fun W (h : Chg [] wr W) => tw_loadR (HVR.out W h) hkl)
      obtain ⟨t, ht⟩ : ∃ t, t = l[k] := ⟨_, rfl⟩
      rw [← ht] at HTX HLX HLR q10 q0
      clear ht
      obtain ⟨xh, hxh⟩ : ∃ z : Int, z = (t.x.h : Int) := ⟨_, rfl⟩
      obtain ⟨xk, hxk⟩ : ∃ z : Int, z = (t.x.k : Int) := ⟨_, rfl⟩
      rw [← hxh] at q10
      rw [← hxk] at q0
      have HXK := hide (And.intro hxh hxk)
      have dl : decide ((k : Int) < (l.length : Int)) = true := decide_eq_true (by omega)
      have dl' : decide (k < l.length) = true := decide_eq_true hkl
      have i0 : (0 : Int) ≤ (k : Int) := by omega
      have i1 : (k : Int) < (l.length : Int) := by omega
      have hwi : IntKind.i64.wrap ((k : Int) + 1) = (k : Int) + 1 := by rw [IntKind.wrap_i64]; omega
      have HKL := hide hkl
      clear hxh hxk hk hkl hll
      obtain ⟨hz, hhz⟩ : ∃ z : Int, z = (h : Int) := ⟨_, rfl⟩
      have HHZ := hide hhz
      by_cases e1 : xh = (h : Int)
      · have dh : (xh != (h : Int)) = false := by rw [e1]; simp
        have dh' : (xh == (h : Int)) = true := by rw [e1]; simp
        have E1 := hide e1
        clear e1 hhz
        by_cases e2 : xk = 11
        · subst e2
          go_wp2_with fail
          go_roundw
          case rel => exact ⟨k + 1, by have := HKL.out; omega, by go_num, M, HMSr, HINV, H11⟩
          case measure => have := HKL.out; simp [intOf]; omega
        by_cases e3 : xk = 13
        · subst e3
          go_wp2_with fail
          go_roundw
          case rel => exact ⟨k + 1, by have := HKL.out; omega, by go_num, M, HMSr, HINV, H11⟩
          case measure => have := HKL.out; simp [intOf]; omega
        have dk : (xk != 11) = true := by simp [e2]
        have dk' : (xk == 11) = false := beq_false_of_ne e2
        have dj : (xk != 13) = true := by simp [e3]
        have dj' : (xk == 13) = false := beq_false_of_ne e3
        have HNX := hide (show ¬ (t.x.h = h ∧ (t.x.k = 11 ∨ t.x.k = 13)) from fun hn => by have := HXK.out; omega)
        clear e2 e3
        go_upto_region 11 with (fail)
        refine wp_region_t [0,0,0,0,0,5,0,0,0,0,5,3] [none, none, none, none, none, none, none, none, none, none, none, none] (fun W => Chg [] wr W) (by kernel_rfl) (by kernel_rfl) (by kernel_rfl) ?_
        have hS : Chg [] wr wr.drew := (Chg.refl [] wr).drew
        generalize wr.drew = W0 at hS ⊢
        go_wp2_with (first | (refine wpG_hload 42 _ rfl rfl (fun w' hw' => HLX.out w' hw') hS ?_) | (refine wpG_hload 45 _ rfl rfl (fun w' hw' => HLR.out w' hw') hS ?_) | (refine wpG_deed (by decide) (fun K hK => ?_); go_simp; refine (Step_ms (HMSr.out.stay hS) HF.out (HTX.out W0 hS).x (HTX.out W0 hS).v (HTX.out W0 hS).r (HTX.out W0 hS).u).mono ?_; rintro e W5 ⟨rfl, hms, hkp⟩; refine hK _ _ ?_; clear hK K) | (refine wpG_calc rfl (fun K hK => ?_)) | (refine wpG_skip ?_ ?_; (focus (simp [wantG]; done)); go_simp) | (refine wpG_take ?_ ?_; (focus (simp [wantG]; done))) | (refine wpG_pure (fun K hK => ?_); go_simp; refine hK _ _ ?_; clear hK K) | (refine wpG_deed (by decide) (fun K hK => ?_); go_simp) | (refine wpG_nil ?_))
        have HMS7 := hide hms
        have H7 := hide (show KB W5 b11 cKm zV from hkp.blk (show Blk W0 b11 _ _ from H11.out.chg hS List.not_mem_nil) (List.mem_singleton.2 rfl))
        clear hms hkp
        go_roundw
        case rel => exact ⟨k + 1, by have := HKL.out; omega, by go_num, _, HMS7, hide (HINV.out.step _ HNX.out), H7⟩
        case measure => have := HKL.out; simp [intOf]; omega
      · have dh : (xh != (h : Int)) = true := by simp [e1]
        have dh' : (xh == (h : Int)) = false := beq_false_of_ne e1
        have HNX := hide (show ¬ (t.x.h = h ∧ (t.x.k = 11 ∨ t.x.k = 13)) from fun hn => by have := HXK.out; omega)
        clear e1 hhz
        go_upto_region 11 with (fail)
        refine wp_region_t [0,0,0,0,0,5,0,0,0,0,5,3] [none, none, none, none, none, none, none, none, none, none, none, none] (fun W => Chg [] wr W) (by kernel_rfl) (by kernel_rfl) (by kernel_rfl) ?_
        have hS : Chg [] wr wr.drew := (Chg.refl [] wr).drew
        generalize wr.drew = W0 at hS ⊢
        go_wp2_with (first | (refine wpG_hload 42 _ rfl rfl (fun w' hw' => HLX.out w' hw') hS ?_) | (refine wpG_hload 45 _ rfl rfl (fun w' hw' => HLR.out w' hw') hS ?_) | (refine wpG_deed (by decide) (fun K hK => ?_); go_simp; refine (Step_ms (HMSr.out.stay hS) HF.out (HTX.out W0 hS).x (HTX.out W0 hS).v (HTX.out W0 hS).r (HTX.out W0 hS).u).mono ?_; rintro e W5 ⟨rfl, hms, hkp⟩; refine hK _ _ ?_; clear hK K) | (refine wpG_calc rfl (fun K hK => ?_)) | (refine wpG_skip ?_ ?_; (focus (simp [wantG]; done)); go_simp) | (refine wpG_take ?_ ?_; (focus (simp [wantG]; done))) | (refine wpG_pure (fun K hK => ?_); go_simp; refine hK _ _ ?_; clear hK K) | (refine wpG_deed (by decide) (fun K hK => ?_); go_simp) | (refine wpG_nil ?_))
        have HMS7 := hide hms
        have H7 := hide (show KB W5 b11 cKm zV from hkp.blk (show Blk W0 b11 _ _ from H11.out.chg hS List.not_mem_nil) (List.mem_singleton.2 rfl))
        clear hms hkp
        go_roundw
        case rel => exact ⟨k + 1, by have := HKL.out; omega, by go_num, _, HMS7, hide (HINV.out.step _ HNX.out), H7⟩
        case measure => have := HKL.out; simp [intOf]; omega
    · obtain rfl : k = l.length := by omega
      clear hk hkl hll
      go_upto_region 14 with (first | (refine wpList_build34 rfl _ rfl DK.out ?_ ?_; (focus (simp [Act.eval, Act.put]; done))) | (refine wpList_alloc34 rfl rfl ?_; try go_simp) | (refine wpList_store34 (b := wr.heap.size) (y := cPeek h (bl : Nat)) (u := zV) rfl _ _ rfl rfl rfl rfl (Blk.new wr _ _) ?_; intro V4 h4 hc4; have H4 := hide h4; have HC4 := hide (show Chg [] wr V4 from ((Chg.refl [] wr).alloc _).trans hc4 (fun y hy => .inr (by obtain rfl := List.mem_singleton.1 hy; exact Nat.le_refl _))); clear h4 hc4))
      obtain ⟨b13, hb13⟩ : ∃ b, b = wr.heap.size := ⟨_, rfl⟩
      rw [← hb13] at H4 ⊢
      have HN0 := hide (show MS w ([b13] ++ [b11]) V4 m M from HMSr.out.guard HC4.out [b13] (fun k hk => by obtain rfl := List.mem_singleton.1 hk; have := H4.out.lt; omega))
      have H411 := hide (show KB V4 b11 cKm zV from H11.out.chg HC4.out List.not_mem_nil)
      have HBB := hide (show 1 ≤ b.length ∧ b.length ≤ 8 by have := HBL.out; have := HBLN.out; omega)
      clear hb13 H11
      go_wp2_with (first | (refine wpList_load34 rfl _ rfl rfl H4.out ?_) | (refine wpList_buildRs rfl _ rfl EB.out ?_ ?_; (focus (simp [Act.eval, Act.put]; done))))
      refine (Step_ms (r := ⟨0, 0, b⟩) HN0.out HF.out (peek_ok HH.out (by have := HBL.out; omega)) (RE.nil ucl 1 _ none 0) ⟨by (show (-9223372036854775808 : Int) ≤ 0 ∧ (0 : Int) ≤ _); omega, by (show (0 : Nat) < _); omega, HB8.out⟩ (HVB.out V4 HN0.out.chg)).mono ?_
      rintro e V5 ⟨rfl, hms, hkp⟩
      have hs := h_peek HINV.out HBB.out
      rw [← HBLN.out] at hs
      rw [hs.1]
      rw [hs.2] at hms
      have HN1 := hide hms
      have H5 := hide (show KB V5 b13 (cPeek h (bl : Nat)) zV from hkp.blk H4.out (by simp))
      have H511 := hide (show KB V5 b11 cKm zV from hkp.blk H411.out (by simp))
      clear hs hms hkp H4 H411
      go_wp2_with (first | (refine wpList_load34W (b := b11) (x := cKm) (v := zV) _ rfl rfl ?_ H511.out ?_; (focus (simp [Region.wanted, yielded, Act.put]; done))) | (refine wpList_buildRsW _ rfl ?_ EH.out ?_ ?_; (focus (simp [Region.wanted, yielded, Act.put]; done)); (focus (simp [Act.eval, Act.put]; done))))
      refine (Step_ms (r := ⟨0, h, []⟩) HN1.out HF.out km_ok (RE.nil ucl 1 _ none 0) (rs_ok (by omega) HH.out) (RE.nil ucl 1 _ none 0)).mono ?_
      rintro e V6 ⟨rfl, hms, hkp⟩
      have hs := h_again HINV.out.c HINV.out.ev HH.out
      rw [hs]
      rw [stepM_no hs] at hms
      have HN2 := hide hms
      have H6' := hide (show KB V6 b13 (cPeek h (bl : Nat)) zV from hkp.blk H5.out (by simp))
      have H611 := hide (show KB V6 b11 cKm zV from hkp.blk H511.out (by simp))
      clear hs hms hkp H5 H511
      go_wp2_with (first | (refine wpList_build34W _ rfl ?_ DF.out ?_ ?_; (focus (simp [Region.wanted, yielded, Act.put]; done)); (focus (simp [Act.eval, Act.put]; done))) | (refine wpList_buildRsW _ rfl ?_ E0.out ?_ ?_; (focus (simp [Region.wanted, yielded, Act.put]; done)); (focus (simp [Act.eval, Act.put]; done))))
      refine (Step_ms (r := ⟨0, 0, []⟩) HN2.out HF.out (fr_ok HH.out) (RE.nil ucl 1 _ none 0) (rs_ok (by omega) (by omega)) (RE.nil ucl 1 _ none 0)).mono ?_
      rintro e V7 ⟨rfl, hms, hkp⟩
      have hs := h_free HINV.out
      rw [hs.1]
      obtain ⟨M5, hM5⟩ : ∃ N, N = stepM M (cFr h) ⟨0, 0, []⟩ := ⟨_, rfl⟩
      rw [← hM5] at hms hs
      have HS5 := hide hs.2
      have HN3 := hide hms
      have H7' := hide (show KB V7 b13 (cPeek h (bl : Nat)) zV from hkp.blk H6'.out (by simp))
      have H711 := hide (show KB V7 b11 cKm zV from hkp.blk H611.out (by simp))
      clear hs hM5 hms hkp H6' H611
      go_wp2_with (first | (refine wpList_load34 rfl _ rfl rfl H7'.out ?_) | (refine wpList_buildRs rfl _ rfl E120.out ?_ ?_; (focus (simp [Act.eval, Act.put]; done))))
      refine (Step_ms (r := plainR 120) HN3.out HF.out (peek_ok HH.out (by have := HBL.out; omega)) (RE.nil ucl 1 _ none 0) (rs_ok (by omega) (by omega)) (RE.nil ucl 1 _ none 0)).mono ?_
      rintro e V8 ⟨rfl, hms, hkp⟩
      have hs := h_gone (n := (bl : Nat)) HS5.out.1 HS5.out.2.1 (by have := HBL.out; omega)
      rw [show stepB M5 (cPeek h (bl : Nat)) (plainR 120) = true from hs.1]
      rw [stepM_err (by decide)] at hms
      have HS6 := hide hs.2
      have HN4 := hide hms
      have H811 := hide (show KB V8 b11 cKm zV from hkp.blk H711.out (by simp))
      clear hs hms hkp H7' H711
      go_wp2_with (first | (refine wpList_load34W (b := b11) (x := cKm) (v := zV) _ rfl rfl ?_ H811.out ?_; (focus (simp [Region.wanted, yielded, Act.put]; done))) | (refine wpList_buildRsW _ rfl ?_ EH.out ?_ ?_; (focus (simp [Region.wanted, yielded, Act.put]; done)); (focus (simp [Act.eval, Act.put]; done))))
      refine (Step_ms (r := ⟨0, h, []⟩) HN4.out HF.out km_ok (RE.nil ucl 1 _ none 0) (rs_ok (by omega) HH.out) (RE.nil ucl 1 _ none 0)).mono ?_
      rintro e V9 ⟨rfl, hms, hkp⟩
      have hs := h_again HS5.out.1 HS5.out.2.2 HH.out
      rw [hs]
      rw [stepM_no hs] at hms
      have HN5 := hide hms
      clear hs hms hkp H811
      go_wp2_with (first | (refine wpList_build34W _ rfl ?_ DF.out ?_ ?_; (focus (simp [Region.wanted, yielded, Act.put]; done)); (focus (simp [Act.eval, Act.put]; done))) | (refine wpList_buildRsW _ rfl ?_ E0.out ?_ ?_; (focus (simp [Region.wanted, yielded, Act.put]; done)); (focus (simp [Act.eval, Act.put]; done))))
      refine (Step_ms (r := ⟨0, 0, []⟩) HN5.out HF.out (fr_ok HH.out) (RE.nil ucl 1 _ none 0) (rs_ok (by omega) (by omega)) (RE.nil ucl 1 _ none 0)).mono ?_
      rintro e V10 ⟨rfl, hms, hkp⟩
      rw [HS6.out]
      have HC10 := hide hms.chg
      clear hms hkp
      go_wp2_with fail
      refine (HK.out _ HC10.out).mono ?_
      rintro e W9 ⟨rfl, hc9⟩
      go_wp2_with fail
      go_ret
      exact ⟨rfl, HC10.out.stay hc9⟩
end Go.Proofs.YtfoleblcaloeoaaDoor

/- A config that a law is handed. -/
namespace Go.Proofs.YtfoleblcaloeoaaDoor
open Go Go.RowKit Go.ChangeShapes Go.WideShapes Go.ChangeAt Go.Deep

theorem Tryd.own : ownKnob Tryd.prog.godebug = none := by kernel_rfl
section
variable {H : Type} {enc : TypeId × Value → H} {w : World} {base : Nat} {spare : Nat → Bool} {held : Bool}
theorem one_of {L : List Value} {i : Nat} {v : Value} (h : (L.drop i).take 1 = [v]) : L[i]? = some v := by
  have : ((L.drop i).take 1)[0]? = some v := by rw [h]; rfl
  rw [List.getElem?_take_of_lt (by omega), List.getElem?_drop] at this
  simpa using this
theorem one_int {fuel : Nat} {L : List Value} {i : Nat} {x : DataW H × List MemPlace} (h : DataW.trod enc Tryd.prog w base spare held fuel 3 ((L.drop i).take 1) = some x) : ∃ z, L[i]? = some (.int .i64 z) := by
  obtain ⟨z, e, _⟩ := DataW.trod_int Tryd.underlying3 h
  exact ⟨z, one_of e⟩
theorem arr_int {fuel t n : Nat} {L : List Value} {x : DataW H × List MemPlace} (hu : Tryd.prog.underlying t = some (.array n 3)) (h : DataW.trod enc Tryd.prog w base spare held fuel t L = some x) : ∀ i, i < n → ∃ z, L[i]? = some (.int .i64 z) := by
  obtain ⟨xs, m, _, _, _, hl, hel⟩ := DataW.trod_array hu h
  intro i hi
  have h1 := hel i hi
  rw [cells3, Nat.mul_one, List.getElem?_eq_getElem (by rw [hl]; exact hi)] at h1
  exact one_int h1
theorem sub_at {L : List Value} {o n i : Nat} {v : Value} (h : ((L.drop o).take n)[i]? = some v) : L[o + i]? = some v := by
  have hi : i < n := by
    have := (List.getElem?_eq_some_iff.1 h).1
    rw [List.length_take] at this
    omega
  rw [List.getElem?_take_of_lt hi, List.getElem?_drop] at h
  exact h
theorem cells22 : Tryd.prog.cellsOf 22 = 16 := by kernel_rfl
theorem cells24 : Tryd.prog.cellsOf 24 = 64 := by kernel_rfl
theorem cells26 : Tryd.prog.cellsOf 26 = 94 := by kernel_rfl
theorem open_cfg {cs : Array Value} {d : DataW H} {p : List MemPlace} (hs : cs.size = 94) (h : DataW.Trod enc Tryd.prog w base spare held 26 (.agg cs) d p) : ∃ c : Cf, cs = cg c := by
  obtain ⟨fuel, hf⟩ := h
  have hcs : (Value.agg cs).cells.toList = cs.toList := rfl
  rw [hcs] at hf
  obtain ⟨n, hp⟩ := trod_parts Tryd.underlying26 hf
  have each : ∀ i, i < 94 → ∃ z, cs.toList[i]? = some (.int .i64 z) := by
    intro i hi
    by_cases i0 : i = 0
    · subst i0
      obtain ⟨y, hy⟩ := trod_part hp 0 rfl 3 0 1 rfl rfl cells3
      exact one_int hy
    by_cases i1 : i = 1
    · subst i1
      obtain ⟨y, hy⟩ := trod_part hp 1 rfl 3 1 1 rfl rfl cells3
      exact one_int hy
    by_cases i2 : i < 18
    · obtain ⟨y, hy⟩ := trod_part hp 2 rfl 22 2 16 rfl rfl cells22
      obtain ⟨z, hz⟩ := arr_int Tryd.underlying22 hy (i - 2) (by omega)
      have := sub_at hz
      rw [show 2 + (i - 2) = i by omega] at this
      exact ⟨z, this⟩
    by_cases i3 : i < 26
    · obtain ⟨y, hy⟩ := trod_part hp 3 rfl 23 18 8 rfl rfl cells23
      obtain ⟨z, hz⟩ := arr_int Tryd.underlying23 hy (i - 18) (by omega)
      have := sub_at hz
      rw [show 18 + (i - 18) = i by omega] at this
      exact ⟨z, this⟩
    by_cases i4 : i < 90
    · obtain ⟨y, hy⟩ := trod_part hp 4 rfl 24 26 64 rfl rfl cells24
      obtain ⟨xs, m, _, _, _, hl, hel⟩ := DataW.trod_array Tryd.underlying24 hy
      have h1 := hel ((i - 26) / 8) (by omega)
      rw [cells23, List.getElem?_eq_getElem (by rw [hl]; omega)] at h1
      obtain ⟨z, hz⟩ := arr_int Tryd.underlying23 h1 ((i - 26) % 8) (by omega)
      have := sub_at (sub_at hz)
      rw [show 26 + ((i - 26) / 8 * 8 + (i - 26) % 8) = i by omega] at this
      exact ⟨z, this⟩
    rcases (by omega : i = 90 ∨ i = 91 ∨ i = 92 ∨ i = 93) with rfl | rfl | rfl | rfl
    · obtain ⟨y, hy⟩ := trod_part hp 5 rfl 3 90 1 rfl rfl cells3
      exact one_int hy
    · obtain ⟨y, hy⟩ := trod_part hp 6 rfl 3 91 1 rfl rfl cells3
      exact one_int hy
    · obtain ⟨y, hy⟩ := trod_part hp 7 rfl 3 92 1 rfl rfl cells3
      exact one_int hy
    · obtain ⟨y, hy⟩ := trod_part hp 8 rfl 3 93 1 rfl rfl cells3
      exact one_int hy
  classical
  refine ⟨fun i => if h : i < 94 then (each i h).choose else 0, cg_of hs fun i hi => ?_⟩
  simp only [dif_pos hi]
  exact (Array.getElem?_toList (xs := cs)).symm.trans (each i hi).choose_spec
end
theorem trodAll_single {H : Type} {enc : TypeId × Value → H} {P : Program} {w : World} {base : Nat} {spare : Nat → Bool} {held : Bool} {t0 : TypeId} {args : Array Value} {ds : List (DataW H)} {ps : List MemPlace} (h : DataW.TrodAll enc P w base spare held [t0] args.toList ds ps) :
    ∃ v0 d0 p0, args = #[v0] ∧ ds = [d0] ∧ ps = p0 ∧ DataW.Trod enc P w base spare held t0 v0 d0 p0 := by
  obtain ⟨v0, vs0, d0, ds0, p0, q0, hargs, rfl, rfl, h0, k0⟩ := trodAll_cons h
  obtain ⟨rfl, rfl, rfl⟩ := trodAll_nil k0
  exact ⟨v0, d0, p0, by cases args; simp_all, rfl, by simp, h0⟩
theorem trodAll_two {H : Type} {enc : TypeId × Value → H} {P : Program} {w : World} {base : Nat} {spare : Nat → Bool} {held : Bool} {t0 t1 : TypeId} {args : Array Value} {ds : List (DataW H)} {ps : List MemPlace} (h : DataW.TrodAll enc P w base spare held [t0, t1] args.toList ds ps) :
    ∃ v0 v1 d0 d1 p0 p1, args = #[v0, v1] ∧ ds = [d0, d1] ∧ ps = p0 ++ p1 ∧ DataW.Trod enc P w base spare held t0 v0 d0 p0 ∧ DataW.Trod enc P w base spare held t1 v1 d1 p1 := by
  obtain ⟨v0, vs0, d0, ds0, p0, q0, hargs, rfl, rfl, h0, k0⟩ := trodAll_cons h
  obtain ⟨v1, vs1, d1, ds1, p1, q1, rfl, rfl, rfl, h1, k1⟩ := trodAll_cons k0
  obtain ⟨rfl, rfl, rfl⟩ := trodAll_nil k1
  exact ⟨v0, v1, d0, d1, p0, p1, by cases args; simp_all, rfl, by simp, h0, h1⟩
theorem trodAll_three {H : Type} {enc : TypeId × Value → H} {P : Program} {w : World} {base : Nat} {spare : Nat → Bool} {held : Bool} {t0 t1 t2 : TypeId} {args : Array Value} {ds : List (DataW H)} {ps : List MemPlace} (h : DataW.TrodAll enc P w base spare held [t0, t1, t2] args.toList ds ps) :
    ∃ v0 v1 v2 d0 d1 d2 p0 p1 p2, args = #[v0, v1, v2] ∧ ds = [d0, d1, d2] ∧ ps = p0 ++ p1 ++ p2 ∧ DataW.Trod enc P w base spare held t0 v0 d0 p0 ∧ DataW.Trod enc P w base spare held t1 v1 d1 p1 ∧ DataW.Trod enc P w base spare held t2 v2 d2 p2 := by
  obtain ⟨v0, vs0, d0, ds0, p0, q0, hargs, rfl, rfl, h0, k0⟩ := trodAll_cons h
  obtain ⟨v1, vs1, d1, ds1, p1, q1, rfl, rfl, rfl, h1, k1⟩ := trodAll_cons k0
  obtain ⟨v2, vs2, d2, ds2, p2, q2, rfl, rfl, rfl, h2, k2⟩ := trodAll_cons k1
  obtain ⟨rfl, rfl, rfl⟩ := trodAll_nil k2
  exact ⟨v0, v1, v2, d0, d1, d2, p0, p1, p2, by cases args; simp_all, rfl, by simp, h0, h1, h2⟩
end Go.Proofs.YtfoleblcaloeoaaDoor
