/- Texts merged for the claim: CcE, MpE, MqA, MrA, TwL, TwB, MqB, MqC. -/
import Derived.Test.YtfoleblcaloeoaaGreatDoorZai
import Derived.Test.YtfoleblcaloeoaaGreatDoorZad
import Derived.Test.YtfoleblcaloeoaaGreatDoorZaq
import Derived.Test.YtfoleblcaloeoaaGreatDoorZag
import Derived.Deep.CutRange
import Derived.Deep.CutBlock
/- Results: whether two are alike. -/
namespace Go.Proofs.YtfoleblcaloeoaaGreatDoor
open Go Go.RowKit

set_option maxRecDepth 20000 in
set_option maxHeartbeats 8000000 in
theorem SameRs_any {w : World} {x y : Rs} {v u : Value} (hv : RB w v x.l) (hu : RB w u y.l) (hl : ∀ b ∈ x.l, b < 256) (hm : ∀ b ∈ y.l, b < 256) :
    Calls Tryz.prog 29 #[.agg (rsc x v), .agg (rsc y u)] w fun e w' => e = .returned (.bool (sameRs x y)) ∧ Chg [] w w' := by
  obtain ⟨A0, c0, rfl⟩ := RE.form hv
  obtain ⟨A1, c1, rfl⟩ := RE.form hu
  obtain ⟨W2, hW2⟩ : ∃ W2, W2 = (w.alloc (.cells (rsc x (.slice A0 x.l.length c0)) 40)).alloc (.cells (rsc y (.slice A1 y.l.length c1)) 40) := ⟨_, rfl⟩
  have hc2 : Chg [] w W2 := by rw [hW2]; exact ((Chg.refl [] w).alloc _).alloc _
  have hb1 : XB W2 w.heap.size x (.slice A0 x.l.length c0) := by rw [hW2]; exact (Blk.new w _ _).alloc _
  have hb2 : XB W2 (w.heap.size + 1) y (.slice A1 y.l.length c1) := by
    have := Blk.new (w.alloc (.cells (rsc x (.slice A0 x.l.length c0)) 40)) 40 (rsc y (.slice A1 y.l.length c1))
    rw [World.size_alloc] at this
    rw [hW2]
    exact this
  have HEQ := hide (Equal_any (hv.stay hc2) (hu.stay hc2) hl hm)
  have HC := hide hc2
  have HW2 := hide hW2
  obtain ⟨p0, p1, p2, pl, -⟩ := XB.cells hb1
  obtain ⟨q0, q1, q2, ql, -⟩ := XB.cells hb2
  clear hv hu hl hm hW2 hc2 hb1 hb2
  obtain ⟨e, z, l⟩ := x
  obtain ⟨e', z', l'⟩ := y
  simp only at p0 p1 p2 q0 q1 q2 HEQ HW2
  by_cases h1 : e = e'
  · subst h1
    by_cases h2 : z = z'
    · subst h2
      have hR : sameRs ⟨e, z, l⟩ ⟨e, z, l'⟩ = decide (l = l') := by simp [sameRs]
      rw [hR]
      generalize decide (l = l') = r at HEQ
      clear hR
      go_enter Tryz.func29, Tryz.ntmps29
      go_wp2_with (first | (refine wpList_boxRs rfl _ rfl rfl ?_; try simp only [World.size_alloc]; try rw [← HW2.out]))
      refine HEQ.out.mono ?_
      rintro e' W3 ⟨rfl, rfl⟩
      go_wp2_with fail
      go_ret
      exact ⟨by simp, HC.out⟩
    · have d2 : ((z : Int) == (z' : Int)) = false := beq_false_of_ne (by omega)
      have d2' : decide (z = z') = false := decide_eq_false h2
      have hR : sameRs ⟨e, z, l⟩ ⟨e, z', l'⟩ = false := by simp [sameRs, h2]
      rw [hR]
      clear hR HEQ h2
      go_enter Tryz.func29, Tryz.ntmps29
      go_wp2_with (first | (refine wpList_boxRs rfl _ rfl rfl ?_; try simp only [World.size_alloc]; try rw [← HW2.out]))
      go_ret
      exact ⟨rfl, HC.out⟩
  · have d1 : (e == e') = false := beq_false_of_ne h1
    have hR : sameRs ⟨e, z, l⟩ ⟨e', z', l'⟩ = false := by simp [sameRs, h1]
    rw [hR]
    clear hR HEQ h1
    go_enter Tryz.func29, Tryz.ntmps29
    go_wp2_with (first | (refine wpList_boxRs rfl _ rfl rfl ?_; try simp only [World.size_alloc]; try rw [← HW2.out]))
    go_ret
    exact ⟨rfl, HC.out⟩
end Go.Proofs.YtfoleblcaloeoaaGreatDoor

/- Step. -/
namespace Go.Proofs.YtfoleblcaloeoaaGreatDoor
open Go Go.RowKit

theorem neqF1 (k : FuncId) (caps : Array Value) (w : World) : (binOp .neq 84 (.func (.func k) #[] caps) .nilFunc).run Tryz.prog w = .ok (.bool true) w := by kernel_rfl
theorem neqF0 (w : World) : (binOp .neq 84 .nilFunc .nilFunc).run Tryz.prog w = .ok (.bool false) w := by kernel_rfl
theorem RB.own_lt {w : World} {v : Value} {l : List Nat} (h : RB w v l) (hl : l ≠ []) : ∀ k ∈ own v, k < w.heap.size := fun k hk => by
  have hp : 0 < l.length := List.length_pos_iff.2 hl
  obtain ⟨A, c, rfl⟩ := RE.form h
  obtain ⟨g, off, rfl⟩ := RE.addr h hp
  rw [own_at] at hk
  obtain rfl := List.mem_singleton.1 hk
  exact World.block_lt_of_cell? w _ (RE.cell ucl_len h (k := 0) (j := 0) hp (by omega) rfl)
theorem answer_b8 {w : World} {m : Nat} {M : Mo} {bp bo be : Nat} {fp fo fe : Int → Option Value} {gb : Int → Nat} {GF : Int → Nat → Prop} {ov : Int → Value} (hI : MIn w m M bp bo be fp fo fe gb GF ov) (x : Cl) (v : Nat) :
    ∀ b ∈ (answerA M x v).1.l, b < 256 := by
  have nl : ∀ (R : Rs × Option Mo), R.1.l = [] → ∀ b ∈ R.1.l, b < 256 := fun R h b hb => by rw [h] at hb; cases hb
  have nl2 : ∀ (R : Rs), R.l = [] → ∀ b ∈ R.l, b < 256 := fun R h b hb => by rw [h] at hb; cases hb
  unfold answerA
  split
  · refine nl _ ?_
    unfold spawnA
    split <;> rfl
  split
  · refine nl _ ?_
    unfold mallocA
    split <;> rfl
  split
  · unfold objA
    cases hb : M.ob x.h with
    | none => first | exact nl _ rfl | exact nl2 _ rfl
    | some B =>
      simp only
      split
      · first | exact nl _ rfl | exact nl2 _ rfl
      split
      · first | exact nl _ rfl | exact nl2 _ rfl
      split
      · intro b h
        exact (hI.ob _ _ hb).2.1 b (List.mem_of_mem_drop (List.mem_of_mem_take h))
      · first | exact nl _ rfl | exact nl2 _ rfl
  split
  · first | exact nl _ rfl | exact nl2 _ rfl
  cases hp : M.pr x.p with
  | none => first | exact nl _ rfl | exact nl2 _ rfl
  | some p =>
    simp only
    unfold procA
    split
    · first | exact nl _ rfl | exact nl2 _ rfl
    split
    · first | exact nl _ rfl | exact nl2 _ rfl
    split
    · first | exact nl _ rfl | exact nl2 _ rfl
    split
    · first | exact nl _ rfl | exact nl2 _ rfl
    split
    · obtain ⟨d, FA, qp, qo, gp', go', gp, hP, -, -⟩ := hI.pr x.p p hp
      unfold accessA
      simp only
      split
      · first | exact nl _ rfl | exact nl2 _ rfl
      split
      · split
        · first | exact nl _ rfl | exact nl2 _ rfl
        · intro b h
          have h1 := List.mem_of_mem_drop (List.mem_of_mem_take h)
          cases hg : p.pg (x.a / 256) with
          | none =>
            rw [hg] at h1
            have h2 : b ∈ zeroPg := h1
            unfold zeroPg at h2
            rw [List.mem_replicate] at h2
            omega
          | some B =>
            rw [hg] at h1
            exact (hP.pg _ _ hg).b8 b h1
      · split <;> (first | exact nl _ rfl | exact nl2 _ rfl)
    split
    · first | exact nl _ rfl | exact nl2 _ rfl
    split
    · first | exact nl _ rfl | exact nl2 _ rfl
    split <;> (first | exact nl _ rfl | exact nl2 _ rfl)
set_option maxRecDepth 20000 in
set_option maxHeartbeats 40000000 in
theorem Step_any {w : World} {m : Nat} {M : Mo} {O : Nat → Prop} (h : MMem w m M O) (hf : FW w) {x : Cl} {v : Value} {r : Rs} {u : Value} (hx : x.Ok) (hv : RB w v x.l) (hr : r.Ok) (hu : RB w u r.l) :
    Calls Tryz.prog 11 #[.pointer (some ⟨m, 0, none⟩), .agg (clc x v), .agg (rsc r u)] w fun e w' => e = .returned (.bool (stepB M x r)) ∧ CP O w w' ∧ ∃ O', MMem w' m (stepM M x r) O' ∧ ∀ k, O' k → O k ∨ w.heap.size ≤ k := by
  obtain ⟨X, hX1, hX2⟩ : ∃ X : List Nat, (x.l ≠ [] → ∀ k ∈ own v, k ∈ X) ∧ ∀ k ∈ X, k < w.heap.size := by
    by_cases h : x.l = []
    · exact ⟨[], fun h2 => absurd h h2, fun k hk => by cases hk⟩
    · exact ⟨own v, fun _ k hk => hk, RB.own_lt hv h⟩
  obtain ⟨A0, c0, rfl⟩ := RE.form hv
  obtain ⟨A1, c1, rfl⟩ := RE.form hu
  have HM := hide h
  obtain ⟨bp, bo, be, fp, fo, fe, gb, GF, ov, hI, hO, hl⟩ := h
  obtain ⟨W2, hW2⟩ : ∃ W2, W2 = (w.alloc (.cells (clc x (.slice A0 x.l.length c0)) 47)).alloc (.cells (rsc r (.slice A1 r.l.length c1)) 40) := ⟨_, rfl⟩
  have hc2 : Chg [] w W2 := by rw [hW2]; exact ((Chg.refl [] w).alloc _).alloc _
  have hb4 : KB W2 w.heap.size x (.slice A0 x.l.length c0) := by rw [hW2]; exact (Blk.new w _ _).alloc _
  have hb5 : XB W2 (w.heap.size + 1) r (.slice A1 r.l.length c1) := by
    have := Blk.new (w.alloc (.cells (clc x (.slice A0 x.l.length c0)) 47)) 40 (rsc r (.slice A1 r.l.length c1))
    rw [World.size_alloc] at this
    rw [hW2]
    exact this
  obtain ⟨b4, e4⟩ : ∃ b, b = w.heap.size := ⟨_, rfl⟩
  obtain ⟨b5, e5⟩ : ∃ b, b = w.heap.size + 1 := ⟨_, rfl⟩
  rw [← e5] at hb5
  rw [← e4] at hb4
  have HE := hide (And.intro e4 e5)
  have HI := hide (fun W (h : Chg [] W2 W) => hI.stay (hc2.stay h))
  have HB4 := hide (fun W (h : Chg [] W2 W) => KB.stay hb4 h)
  have HB5 := hide (fun W (h : Chg [] W2 W) => XB.stay hb5 h)
  have HC2 := hide hc2
  have HW2 := hide hW2
  have HFW := hide (fun W (h : Chg [] W2 W) => hf.stay (hc2.stay h))
  have HV := hide (fun W (h : Chg [] W2 W) => RE.stay hv (hc2.stay h))
  have HU := hide (fun W (h : Chg [] W2 W) => RE.stay hu (hc2.stay h))
  have HX := hide hx
  have HRO := hide hr
  have HVL := hide (And.intro hX1 hX2)
  have HPL := hide (fun e W => plain_any e W)
  have HB8 := hide (answer_b8 hI x r.v)
  have HKEEP := hide (show ∀ W, Chg [] W2 W → CP O w W ∧ ∃ O', MMem W m M O' ∧ ∀ k, O' k → O k ∨ w.heap.size ≤ k from fun W hW => ⟨CP.of0 (hc2.stay hW), O, HM.out.stay (hc2.stay hW), fun k hk => .inl hk⟩)
  have HNN := hide (none_any (HI.out W2 (Chg.refl _ _)).blk)
  clear hI hO hl hv hu hx hr hX1 hX2 hf hb4 hb5 hc2 hW2 e4 e5
  obtain ⟨SB, hSB⟩ : ∃ b, b = stepB M x r := ⟨_, rfl⟩
  obtain ⟨SM, hSM⟩ : ∃ N, N = stepM M x r := ⟨_, rfl⟩
  rw [← hSB, ← hSM]
  have HSB := hide hSB
  have HSM := hide hSM
  clear hSB hSM
  go_enter Tryz.func11, Tryz.ntmps11
  go_upto_region 1 with (first | (refine wpList_box34 rfl _ rfl rfl ?_; try simp only [World.size_alloc]) | (refine wpList_boxRs rfl _ rfl rfl ?_; try simp only [World.size_alloc]; try rw [← HW2.out]))
  rw [← HE.out.2, ← HE.out.1]
  go_wp2_with fail
  refine HNN.out.mono ?_
  rintro e W2' ⟨rfl, rfl⟩
  cases hw : wrongK M.c x with
  | true =>
    have e1 : SB = sameRs r (plainR 2) := by rw [HSB.out]; unfold stepB; rw [if_pos hw]
    have e2 : SM = M := by rw [HSM.out]; unfold stepM; rw [if_pos (.inl hw)]
    subst e1 e2
    have HWR := hide (fun W (h : Chg [] W2 W) => WrongK_any (HFW.out W h) SM.c HX.out (HV.out W h))
    rw [hw] at HWR
    clear hw
    go_upto_region 3 with (fail)
    refine wp_region_t [0,0,0,5,5,3,0] [none, none, none, none, none, none, none] (fun W => Chg [] W2 W) (by kernel_rfl) (by kernel_rfl) (by kernel_rfl) ?_
    have hS : Chg [] W2 W2.drew := (Chg.refl [] W2).drew
    have lm := (HI.out _ hS).blk.lt
    generalize W2.drew = W0 at hS lm ⊢
    go_wp2_with (first | (refine wpG_hload 26 _ rfl rfl (fun w' hw' => mo_load26 (HI.out w' hw').blk) hS ?_) | (refine wpG_hload 47 _ rfl rfl (fun w' hw' => KB.load (HB4.out w' hw')) hS ?_) | (refine wpG_deed (by decide) (fun K hK => ?_); go_simp; refine (HWR.out W0 hS).mono ?_; rintro e W3 ⟨rfl, hc3⟩; refine hK _ _ ?_; clear hK K; have HC3 := hide (hS.stay hc3); clear hc3 hS lm; obtain ⟨c0', -, -, -, -, -, -, -, -, -, -, -, l4, -⟩ := KB.cells (HB4.out W3 HC3.out); obtain ⟨p0, -, -, l5, -⟩ := XB.cells (HB5.out W3 HC3.out)) | (refine wpG_calc rfl (fun K hK => ?_)) | (refine wpG_skip ?_ ?_; (focus (simp [wantG]; done)); go_simp) | (refine wpG_take ?_ ?_; (focus (simp [wantG]; done))) | (refine wpG_pure (fun K hK => ?_); go_simp; refine hK _ _ ?_; clear hK K) | (refine wpG_deed (by decide) (fun K hK => ?_); go_simp) | (refine wpG_nil ?_))
    refine wp_region_t [5,6,3,0] [none, none, none, none] (fun W => Chg [] W2 W) (by kernel_rfl) (by kernel_rfl) (by kernel_rfl) ?_
    have hS := HC3.out.drew
    generalize W3.drew = W4 at hS ⊢
    go_wp2_with (first | (refine wpG_hload 40 _ rfl rfl (fun w' hw' => XB.load (HB5.out w' hw')) hS ?_) | (refine wpG_calc rfl (fun K hK => ?_)) | (refine wpG_skip ?_ ?_; (focus (simp [wantG]; done)); go_simp) | (refine wpG_take ?_ ?_; (focus (simp [wantG]; done))) | (refine wpG_pure (fun K hK => ?_); go_simp; refine hK _ _ ?_; clear hK K) | (refine wpG_deed (by decide) (fun K hK => ?_); go_simp) | (refine wpG_nil ?_))
    (refine wpG_keeps hS (fun K hK => ?_))
    go_simp
    refine (HPL.out 2 _).mono ?_
    rintro e W5 ⟨rfl, hc5⟩
    have hS5 := hS.stay hc5
    refine hK _ _ hS5 ?_
    clear hK K hc5
    go_wp2_with (first | (refine wpG_deed (by decide) (fun K hK => ?_); go_simp; refine (SameRs_any (y := plainR 2) (HU.out W5 hS5) (RE.nil ucl 1 _ none 0) HRO.out.l (fun _ h => by cases h)).mono ?_; rintro e W6 ⟨rfl, hc6⟩; refine hK _ _ ?_; clear hK K) | (refine wpG_calc rfl (fun K hK => ?_)) | (refine wpG_skip ?_ ?_; (focus (simp [wantG]; done)); go_simp) | (refine wpG_take ?_ ?_; (focus (simp [wantG]; done))) | (refine wpG_pure (fun K hK => ?_); go_simp; refine hK _ _ ?_; clear hK K) | (refine wpG_deed (by decide) (fun K hK => ?_); go_simp) | (refine wpG_nil ?_))
    go_ret
    exact ⟨rfl, HKEEP.out _ (hS5.stay hc6)⟩
  | false =>
    have HNW := hide hw
    have HWR := hide (fun W (h : Chg [] W2 W) => WrongK_any (HFW.out W h) M.c HX.out (HV.out W h))
    rw [hw] at HWR
    clear hw
    go_upto_region 3 with (fail)
    refine wp_region_t [0,0,0,5,5,3,0] [none, none, none, none, none, none, none] (fun W => Chg [] W2 W) (by kernel_rfl) (by kernel_rfl) (by kernel_rfl) ?_
    have hS : Chg [] W2 W2.drew := (Chg.refl [] W2).drew
    have lm := (HI.out _ hS).blk.lt
    generalize W2.drew = W0 at hS lm ⊢
    go_wp2_with (first | (refine wpG_hload 26 _ rfl rfl (fun w' hw' => mo_load26 (HI.out w' hw').blk) hS ?_) | (refine wpG_hload 47 _ rfl rfl (fun w' hw' => KB.load (HB4.out w' hw')) hS ?_) | (refine wpG_deed (by decide) (fun K hK => ?_); go_simp; refine (HWR.out W0 hS).mono ?_; rintro e W3 ⟨rfl, hc3⟩; refine hK _ _ ?_; clear hK K; have HC3 := hide (hS.stay hc3); clear hc3 hS lm; obtain ⟨c0', -, -, -, -, -, -, -, -, -, -, -, l4, -⟩ := KB.cells (HB4.out W3 HC3.out); obtain ⟨p0, -, -, l5, -⟩ := XB.cells (HB5.out W3 HC3.out)) | (refine wpG_calc rfl (fun K hK => ?_)) | (refine wpG_skip ?_ ?_; (focus (simp [wantG]; done)); go_simp) | (refine wpG_take ?_ ?_; (focus (simp [wantG]; done))) | (refine wpG_pure (fun K hK => ?_); go_simp; refine hK _ _ ?_; clear hK K) | (refine wpG_deed (by decide) (fun K hK => ?_); go_simp) | (refine wpG_nil ?_))
    refine (free_any x.k r.e W3).mono ?_
    rintro e W3' ⟨rfl, rfl⟩
    cases hfr : freeK x.k r.e with
    | true =>
      have e1 : SB = sameRs r (plainR r.e) := by rw [HSB.out]; unfold stepB; rw [if_neg (by rw [HNW.out]; decide), if_pos hfr]
      have e2 : SM = M := by rw [HSM.out]; unfold stepM; rw [if_pos (.inr (.inl hfr))]
      subst e1 e2
      clear hfr c0' l4 p0 l5
      go_upto_region 6 with (fail)
      refine wp_region_t [5,0,5,6,3,0] [none, none, none, none, none, none] (fun W => Chg [] W2 W) (by kernel_rfl) (by kernel_rfl) (by kernel_rfl) ?_
      have hS := HC3.out.drew
      generalize W3.drew = W4 at hS ⊢
      go_wp2_with (first | (refine wpG_hload 40 _ rfl rfl (fun w' hw' => XB.load (HB5.out w' hw')) hS ?_) | (refine wpG_hload 31 _ rfl rfl (fun w' hw' => load_int Tryz.underlying31 (XB.cells (HB5.out w' hw')).1) hS ?_) | (refine wpG_calc rfl (fun K hK => ?_)) | (refine wpG_skip ?_ ?_; (focus (simp [wantG]; done)); go_simp) | (refine wpG_take ?_ ?_; (focus (simp [wantG]; done))) | (refine wpG_pure (fun K hK => ?_); go_simp; refine hK _ _ ?_; clear hK K) | (refine wpG_deed (by decide) (fun K hK => ?_); go_simp) | (refine wpG_nil ?_))
      (refine wpG_keeps hS (fun K hK => ?_))
      go_simp
      refine (HPL.out r.e _).mono ?_
      rintro e W5 ⟨rfl, hc5⟩
      have hS5 := hS.stay hc5
      refine hK _ _ hS5 ?_
      clear hK K hc5
      go_wp2_with (first | (refine wpG_deed (by decide) (fun K hK => ?_); go_simp; refine (SameRs_any (y := plainR r.e) (HU.out W5 hS5) (RE.nil ucl 1 _ none 0) HRO.out.l (fun _ h => by cases h)).mono ?_; rintro e W6 ⟨rfl, hc6⟩; refine hK _ _ ?_; clear hK K) | (refine wpG_calc rfl (fun K hK => ?_)) | (refine wpG_skip ?_ ?_; (focus (simp [wantG]; done)); go_simp) | (refine wpG_take ?_ ?_; (focus (simp [wantG]; done))) | (refine wpG_pure (fun K hK => ?_); go_simp; refine hK _ _ ?_; clear hK K) | (refine wpG_deed (by decide) (fun K hK => ?_); go_simp) | (refine wpG_nil ?_))
      go_ret
      exact ⟨rfl, HKEEP.out _ (hS5.stay hc6)⟩
    | false =>
      have HFR := hide hfr
      clear hfr c0' l4 p0 l5
      go_wp2_with (first | (refine wpList_load34 rfl _ rfl rfl (HB4.out W3 HC3.out) ?_) | (refine wpList_loadRs rfl _ rfl rfl (HB5.out W3 HC3.out) ?_))
      refine (answer_any (X := X) (HM.out.stay (HC2.out.stay HC3.out)) HX.out (HV.out W3 HC3.out) HVL.out.1 (fun k hk => Nat.lt_of_lt_of_le (HVL.out.2 k hk) (HC2.out.stay HC3.out).size) HNW.out HRO.out.v).mono ?_
      rintro e W4 ⟨⟨A, n, c, f, rfl, hrb, -, heff⟩, hc4⟩
      have HC4 := hide (HC3.out.stay hc4)
      have HC34 := hide hc4
      have HRB := hide hrb
      have HEFF := hide heff
      clear hrb heff hc4
      obtain ⟨RR, hRR⟩ : ∃ R, R = answerA M x r.v := ⟨_, rfl⟩
      rw [← hRR] at HRB HEFF HB8
      rw [← hRR]
      have HRR := hide hRR
      clear hRR
      go_wp2_with (first | (refine wpList_allocRs rfl rfl ?_; try go_simp) | (refine wpList_storeRs (b := W4.heap.size) (y := RR.1) (u := .slice A n c) rfl _ _ rfl rfl rfl rfl (Blk.new W4 _ _) ?_; intro W6 h6 hc6; have H6 := hide h6; have HC46 := hide (made_rs hc6); clear h6 hc6) | (refine wpList_loadRs rfl _ rfl rfl (HB5.out W6 (HC4.out.stay HC46.out)) ?_) | (refine wpList_loadRs (b := W4.heap.size) rfl _ rfl rfl H6.out ?_))
      refine (SameRs_any (HU.out W6 (HC4.out.stay HC46.out)) (HRB.out.stay HC46.out) HRO.out.l HB8.out).mono ?_
      rintro e W7 ⟨rfl, hc7⟩
      have HC47 := hide (HC46.out.stay hc7)
      have HC7 := hide (HC4.out.stay (HC46.out.stay hc7))
      clear hc7
      have ebN := show SB = sameRs r RR.1 by rw [HSB.out]; unfold stepB; rw [if_neg (by rw [HNW.out]; decide), if_neg (by rw [HFR.out]; decide), HRR.out]
      cases hsm : sameRs r RR.1 with
      | false =>
        have e1 : SB = false := by rw [ebN, hsm]
        have e2 : SM = M := by rw [HSM.out]; unfold stepM; rw [← HRR.out, if_pos (.inr (.inr (.inl hsm)))]
        subst e1 e2
        clear hsm ebN
        go_wp2_with fail
        go_ret
        exact ⟨rfl, HKEEP.out _ HC7.out⟩
      | true =>
        have e1 : SB = true := by rw [ebN, hsm]
        have e2 : SM = if r.e = 0 then RR.2.getD M else M := by
          rw [HSM.out]
          unfold stepM
          rw [← HRR.out]
          by_cases h : r.e = 0
          · rw [if_pos h, if_neg]
            rintro (h1 | h1 | h1 | h1)
            · rw [HNW.out] at h1; cases h1
            · rw [HFR.out] at h1; cases h1
            · rw [hsm] at h1; cases h1
            · exact h1 h
          · rw [if_neg h, if_pos (.inr (.inr (.inr h)))]
        subst e1
        have HE2 := hide e2
        clear hsm ebN e2
        obtain ⟨R1, N⟩ := RR
        obtain ⟨p0, -, -, l5, -⟩ := XB.cells (HB5.out W7 HC7.out)
        cases N with
        | none =>
          obtain rfl : f = .nilFunc := HEFF.out
          have hq := fun w => neqF0 w
          have e2 : SM = M := by rw [HE2.out]; split <;> rfl
          subst e2
          go_wp2_with fail
          go_ret
          exact ⟨rfl, HKEEP.out _ HC7.out⟩
        | some M' =>
          obtain ⟨k, caps, rfl, hent, hdo⟩ := HEFF.out
          replace hent := hent caps
          have HDO := hide hdo
          clear hdo
          have hq := fun w => neqF1 k caps w
          by_cases hz : r.e = 0
          · have e2 : SM = M' := by rw [HE2.out, if_pos hz]; rfl
            subst e2
            rw [hz] at p0
            clear hz
            go_wp2_with fail
            refine (HDO.out [] W7 (Off.nil _ _ _) HC47.out).mono ?_
            rintro e W8 ⟨rfl, k1, O', k2, k3⟩
            go_wp2_with fail
            go_ret
            have hsz := (HC2.out.stay HC3.out).size
            obtain ⟨L, g1, g2⟩ := k1
            exact ⟨rfl, ⟨L, (((HC2.out.stay HC7.out).up L).and_ g1), fun k hk => (by
              rcases g2 k hk with (h | h) | h
              · exact .inl h
              · exact .inr (by omega)
              · exact .inr (Nat.le_trans (HC2.out.stay HC7.out).size h))⟩, O', k2, fun k hk => (k3 k hk).imp id (Nat.le_trans hsz)⟩
          · have e2 : SM = M := by rw [HE2.out, if_neg hz]
            subst e2
            have d0 : (r.e == 0) = false := beq_false_of_ne hz
            have d1 : decide (r.e = 0) = false := decide_eq_false hz
            clear hz
            go_wp2_with fail
            go_ret
            exact ⟨rfl, HKEEP.out _ HC7.out⟩
end Go.Proofs.YtfoleblcaloeoaaGreatDoor

/- A law's machine: New, Step; what a step does, plain. -/
namespace Go.Proofs.YtfoleblcaloeoaaGreatDoor
open Go Go.RowKit

/-! ## Plain -/
theorem stepB_ok {M : Mo} {x : Cl} (r : Rs) (hw : wrongK M.c x = false) : stepB M x r = if freeK x.k r.e = true then sameRs r (plainR r.e) else sameRs r (answerA M x r.v).1 := by
  unfold stepB
  rw [if_neg (by rw [hw]; decide)]
theorem stepM_ok {M : Mo} {x : Cl} {r : Rs} (hw : wrongK M.c x = false) (hf : freeK x.k r.e = false) (hs : sameRs r (answerA M x r.v).1 = true) (he : r.e = 0) : stepM M x r = ((answerA M x r.v).2).getD M := by
  unfold stepM
  rw [if_neg]
  rintro (h | h | h | h)
  · rw [hw] at h; cases h
  · rw [hf] at h; cases h
  · rw [hs] at h; cases h
  · exact h he
theorem stepM_err {M : Mo} {x : Cl} {r : Rs} (he : r.e ≠ 0) : stepM M x r = M := by
  unfold stepM
  rw [if_pos (.inr (.inr (.inr he)))]
theorem stepM_no {M : Mo} {x : Cl} {r : Rs} (h : stepB M x r = false) : stepM M x r = M := by
  unfold stepM
  by_cases hw : wrongK M.c x = true
  · rw [if_pos (.inl hw)]
  by_cases hf : freeK x.k r.e = true
  · rw [if_pos (.inr (.inl hf))]
  rw [stepB_ok r (by simpa using hw), if_neg hf] at h
  rw [if_pos (.inr (.inr (.inl h)))]
theorem answer_c {M : Mo} {x : Cl} {v : Nat} {M' : Mo} (h : (answerA M x v).2 = some M') : M'.c = M.c := by
  unfold answerA at h
  split at h
  · unfold spawnA at h
    split at h
    · obtain rfl := Option.some.inj h; rfl
    · cases h
  split at h
  · unfold mallocA at h
    split at h
    · cases h
    · obtain rfl := Option.some.inj h; rfl
  split at h
  · unfold objA at h
    split at h
    · cases h
    split at h
    · obtain rfl := Option.some.inj h; rfl
    split at h
    · cases h
    split at h
    · cases h
    · obtain rfl := Option.some.inj h; rfl
  split at h
  · cases h
  split at h
  · cases h
  unfold procA at h
  split at h
  · obtain rfl := Option.some.inj h; rfl
  split at h
  · obtain rfl := Option.some.inj h; rfl
  split at h
  · cases h
  split at h
  · obtain rfl := Option.some.inj h; rfl
  split at h
  · obtain ⟨q, _, rfl⟩ := Option.map_eq_some_iff.1 h; rfl
  split at h
  · cases h
  split at h
  · cases h
  split at h
  · obtain rfl := Option.some.inj h; rfl
  · cases h
theorem stepM_c (M : Mo) (x : Cl) (r : Rs) : (stepM M x r).c = M.c := by
  unfold stepM
  split
  · rfl
  cases h : (answerA M x r.v).2 with
  | none => rfl
  | some M' => exact answer_c h
/-! ## A law's machine in memory -/
structure MS (W0 : World) (L : List Nat) (w : World) (m : Nat) (M : Mo) : Prop where
  mem : ∃ O, MMem w m M O ∧ (∀ k, O k → W0.heap.size ≤ k) ∧ ∀ k ∈ L, ¬ O k
  lt : ∀ k ∈ L, k < w.heap.size
  chg : Chg [] W0 w
theorem MS.stay {W0 w w' : World} {L : List Nat} {m : Nat} {M : Mo} (h : MS W0 L w m M) (hc : Chg [] w w') : MS W0 L w' m M := by
  obtain ⟨⟨O, h1, h2, h3⟩, h4, h5⟩ := h
  exact ⟨⟨O, h1.stay hc, h2, h3⟩, fun k hk => Nat.lt_of_lt_of_le (h4 k hk) hc.size, h5.stay hc⟩
/-- new blocks are guarded too -/
theorem MS.guard {W0 w w' : World} {L : List Nat} {m : Nat} {M : Mo} (h : MS W0 L w m M) (hc : Chg [] w w') (K : List Nat) (hK : ∀ k ∈ K, w.heap.size ≤ k ∧ k < w'.heap.size) : MS W0 (K ++ L) w' m M := by
  obtain ⟨⟨O, h1, h2, h3⟩, h4, h5⟩ := h
  refine ⟨⟨O, h1.stay hc, h2, fun k hk ho => ?_⟩, fun k hk => ?_, h5.stay hc⟩
  · rcases List.mem_append.1 hk with hk | hk
    · have := h1.lt k ho; have := (hK k hk).1; omega
    · exact h3 k hk ho
  · rcases List.mem_append.1 hk with hk | hk
    · exact (hK k hk).2
    · exact Nat.lt_of_lt_of_le (h4 k hk) hc.size
/-- a law's own blocks may be written to -/
theorem MS.put {W0 w w' : World} {L F : List Nat} {m : Nat} {M : Mo} (h : MS W0 L w m M) (hc : Chg F w w') (hF : ∀ k ∈ F, k ∈ L ∧ W0.heap.size ≤ k) : MS W0 L w' m M := by
  obtain ⟨⟨O, h1, h2, h3⟩, h4, h5⟩ := h
  exact ⟨⟨O, h1.cp (CP.of (F := fun k => k ∈ F) hc (fun k hk => .inl hk)) (fun k ho hk => h3 k (hF k hk).1 ho), h2, h3⟩, fun k hk => Nat.lt_of_lt_of_le (h4 k hk) hc.size, h5.trans hc (fun k hk => .inr (hF k hk).2)⟩
theorem New_ms {W0 w : World} {L : List Nat} {c : Cf} (hc : mayB c = true) (h0 : Chg [] W0 w) (hL : ∀ k ∈ L, k < w.heap.size) :
    Calls Tryz.prog 8 #[.agg (cg c)] w fun e w' => (∃ m, e = .returned (.tuple #[.pointer (some ⟨m, 0, none⟩), .int .i64 0]) ∧ MS W0 L w' m (newMo c)) ∧ Chg [] w w' := by
  refine (New_any hc).mono ?_
  rintro e w' ⟨⟨m, rfl, O, h1, h2⟩, h3⟩
  exact ⟨⟨m, rfl, ⟨O, h1, fun k hk => Nat.le_trans h0.size (h2 k hk), fun k hk ho => by have := hL k hk; have := h2 k ho; omega⟩, fun k hk => Nat.lt_of_lt_of_le (hL k hk) h3.size, h0.stay h3⟩, h3⟩
/-- what a step leaves as it was -/
def Kept (L : List Nat) (W0 w w' : World) : Prop := ∃ F, Chg F w w' ∧ ∀ k ∈ F, k ∉ L ∧ W0.heap.size ≤ k
theorem Kept.blk {L : List Nat} {W0 w w' : World} (h : Kept L W0 w w') {b : Nat} {t : TypeId} {cs : Array Value} (hb : Blk w b t cs) (hm : b ∈ L) : Blk w' b t cs := by
  obtain ⟨F, h1, h2⟩ := h
  exact hb.chg h1 (fun hf => (h2 b hf).1 hm)
theorem Kept.rb {L : List Nat} {W0 w w' : World} (h : Kept L W0 w w') {v : Value} {l : List Nat} (hb : RB w v l) (hm : ∀ k ∈ own v, k ∈ L) : RB w' v l := by
  obtain ⟨F, h1, h2⟩ := h
  exact hb.chg h1 (fun k hk hf => (h2 k hf).1 (hm k hk))
theorem Step_ms {W0 w : World} {L : List Nat} {m : Nat} {M : Mo} (h : MS W0 L w m M) (hf : FW W0) {x : Cl} {v : Value} {r : Rs} {u : Value} (hx : x.Ok) (hv : RB w v x.l) (hr : r.Ok) (hu : RB w u r.l) :
    Calls Tryz.prog 11 #[.pointer (some ⟨m, 0, none⟩), .agg (clc x v), .agg (rsc r u)] w fun e w' => e = .returned (.bool (stepB M x r)) ∧ MS W0 L w' m (stepM M x r) ∧ Kept L W0 w w' := by
  obtain ⟨⟨O, h1, h2, h3⟩, h4, h5⟩ := h
  refine (Step_any h1 (hf.stay h5) hx hv hr hu).mono ?_
  rintro e w' ⟨rfl, ⟨F, g1, g2⟩, O', k2, k3⟩
  have hsz := h5.size
  refine ⟨rfl, ⟨⟨O', k2, fun k hk => (k3 k hk).elim (h2 k) (fun h => by omega), fun k hk ho => (k3 k ho).elim (h3 k hk) (fun h => by have := h4 k hk; omega)⟩, fun k hk => Nat.lt_of_lt_of_le (h4 k hk) g1.size, h5.trans g1 (fun k hk => .inr ((g2 k hk).elim (h2 k) (fun h => by omega)))⟩, F, g1, fun k hk => ⟨fun hm => (g2 k hk).elim (h3 k hm) (fun h => by have := h4 k hm; omega), (g2 k hk).elim (h2 k) (fun h => by omega)⟩⟩
/-! ## Calls and answers that a law writes -/
structure BC (l : List (Nat × Value)) (x : Cl) (v : Value) : Prop where
  h : Tryz.prog.built 47 l = some (clc x v)
section
variable {ops : Array Oper} {rest : List Oper} {o : Oper} {a : Act} {w : World} {Q : Exit → Act → World → Prop} {x : Cl} {v : Value}
theorem wpList_build34 (hg : o.guard = none) (parts : Array (Nat × Operand)) (ho : o.op = .build 47 parts)
    {l : List (Nat × Value)} (hb : BC l x v) (hl : (parts.map fun (i, x) => (i, a.eval x)).toList = l) (h : wpList Tryz.prog ops Q rest (a.put o.dst (.agg (clc x v))) w) : wpList Tryz.prog ops Q (o :: rest) a w :=
  wpList_build hg 47 parts ho (by rw [hl, hb.h]; rfl) (by rw [hl, hb.h]; exact h)
theorem wpList_build34W (parts : Array (Nat × Operand)) (ho : o.op = .build 47 parts)
    {l : List (Nat × Value)} (hw : Region.wanted o (yielded ops a.tmps) = true) (hb : BC l x v) (hl : (parts.map fun (i, x) => (i, a.eval x)).toList = l) (h : wpList Tryz.prog ops Q rest (a.put o.dst (.agg (clc x v))) w) : wpList Tryz.prog ops Q (o :: rest) a w :=
  wpList_step fun K hK => by
    rw [if_pos hw]
    exact wp_build 47 parts ho (by rw [hl, hb.h]; rfl) (hK _ _ (by rw [hl, hb.h]; exact h))
end
theorem nw_of {c : Cf} {x : Cl} (hm : mayB c = true) (hk : mayK x = true) (h1 : t1K x = false) (h2 : t2K x = false) (h3 : t3K x = false) (h4 : hasB x 110 = false) (h5 : hasB x 111 = false) (h6 : t6K x = false) (h7 : t7K x = false) (h8 : t8K x = false) : wrongK c x = false := by
  have e4 : t4K c x = false := by unfold t4K; rw [h4]; rfl
  have e5 : t5K c x = false := by unfold t5K; rw [h5]; rfl
  unfold wrongK
  simp [hm, hk, h1, h2, h3, e4, e5, h6, h7, h8]
/-! ## A machine of one node -/
def oneC0 : Cf := fun i => if i = 0 then 1 else if i = 1 then 1 else if i = 90 then 4 else 0
def oneC : Cf := fun i => if i = 18 then 4 else oneC0 i
theorem built_one : BT [(0, .int .i64 1), (1, .int .i64 1), (5, .int .i64 4)] oneC0 := ⟨by kernel_rfl⟩
theorem one_may : MayP oneC where
  n1 := by decide
  n8 := by decide
  p1 := by decide
  p16 := by decide
  s0 := by decide
  s1 := by decide
  home := by decide
  home0 := by decide
  fr := by decide
  fr0 := by decide
  ds0 := fun i k hi hk => (by decide : ∀ i : Nat, i < 8 → ∀ k : Nat, k < 8 → oneC 0 ≤ (i : Int) ∨ oneC 0 ≤ (k : Int) ∨ i = k → oneC (26 + i * 8 + k) = 0) i hi k hk
  ds1 := fun i k hi hk => fun h1 h2 h3 => (by decide : ∀ i : Nat, i < 8 → ∀ k : Nat, k < 8 → ((i : Int) < oneC 0 ∧ (k : Int) < oneC 0 ∧ ¬ i = k) → (1 ≤ oneC (26 + i * 8 + k) ∧ oneC (26 + i * 8 + k) ≤ 255 ∧ oneC (26 + i * 8 + k) = oneC (26 + k * 8 + i))) i hi k hk ⟨h1, h2, h3⟩
  mi := by decide
  lo := by decide
  hi := by decide
theorem one_mayB : mayB oneC = true := mayB_iff.2 one_may
set_option maxHeartbeats 1000000 in
theorem one_any (w : World) : Calls Tryz.prog 25 #[] w fun e w' => e = .returned (.agg (cg oneC)) ∧ Chg [] w w' := by
  have HR : Hid (CB ((w.alloc (.cells (cg (fun _ => 0)) 26)).alloc (.cells (cg (fun _ => 0)) 26)) w.heap.size (fun _ => 0)) := hide ((Blk.new w 26 _).alloc _)
  have HB : Hid (CB ((w.alloc (.cells (cg (fun _ => 0)) 26)).alloc (.cells (cg (fun _ => 0)) 26)) (w.heap.size + 1) (fun _ => 0)) := hide (by
    have := Blk.new (w.alloc (.cells (cg (fun _ => 0)) 26)) 26 (cg (fun _ => 0))
    rwa [World.size_alloc] at this)
  have HC : Hid (Chg [] w ((w.alloc (.cells (cg (fun _ => 0)) 26)).alloc (.cells (cg (fun _ => 0)) 26))) := hide (((Chg.refl [] w).alloc _).alloc _)
  obtain ⟨D0, hD0⟩ : ∃ D0, D0 = oneC0 := ⟨_, rfl⟩
  have HT := hide built_one
  rw [← hD0] at HT
  have HD0 := hide hD0
  obtain ⟨D, hD⟩ : ∃ D, D = oneC := ⟨_, rfl⟩
  rw [← hD]
  have HD := hide hD
  clear hD0 hD
  go_enter Tryz.func25, Tryz.ntmps25
  go_wp2_with (first | (refine wpList_alloc26 rfl rfl ?_; try simp only [World.size_alloc]) | (refine wpList_build26 rfl _ rfl HT.out ?_ ?_; (focus (simp [Act.eval]; done))) | (refine wpList_store26L (b := w.heap.size + 1) (c := fun _ => 0) rfl _ _ rfl rfl rfl ?_ ?_; (focus exact HB.out); intro W5 h5 hc5; have q18 := CB.get h5 (i := 18) (by omega); have f18 := Blk.frozen h5 18; have H5 := hide h5; have HC5 := hide hc5; have HR5 := hide (HR.out.chg hc5 (by simp)); have hl5 : w.heap.size + 1 < W5.heap.size := h5.lt; clear h5 hc5) | (refine wpList_load26L (b := w.heap.size + 1) (c := D) rfl _ rfl rfl ?_ ?_; (focus (rw [HD.out]; have := CB.set H5.out 18 4; rw [HD0.out] at this; exact this))) | (refine wpList_store26L (b := w.heap.size) (c := fun _ => 0) rfl _ _ rfl rfl rfl ?_ ?_; (focus exact (Blk.far HR5.out (by simp) _)); intro W6 h6 hc6))
  refine bodyPost_ret (v := .agg (cg D)) (results_cell_row (p := 0) (ty := 26) rfl _ _ w.heap.size 26 _ (0, 0) _ rfl h6 Tryz.underlying26 rfl info26') rfl ⟨rfl, ?_⟩
  have c9 := HC5.out.setCell (p := ⟨w.heap.size + 1, 18, none⟩) (.inl (by simp)) (.int .i64 4)
  exact (HC.out.trans c9 (fun x hx => .inr (by obtain rfl := List.mem_singleton.1 hx; omega))).trans hc6 (fun x hx => .inr (by obtain rfl := List.mem_singleton.1 hx; omega))
end Go.Proofs.YtfoleblcaloeoaaGreatDoor

/- Pairs of a call and an answer; tame. -/
namespace Go.Proofs.YtfoleblcaloeoaaGreatDoor
open Go Go.RowKit

structure Tw where
  x : Cl
  v : Value
  r : Rs
  u : Value
  rt : Bool
  h : Nat
def twl (t : Tw) : List Value := (clc t.x t.v).toList ++ ((rsc t.r t.u).toList ++ [.bool t.rt, .int .u64 t.h])
theorem twl_len (t : Tw) : (twl t).length = 17 := rfl
structure TwOk (w : World) (t : Tw) : Prop where
  x : t.x.Ok
  r : t.r.Ok
  v : RB w t.v t.x.l
  u : RB w t.u t.r.l
  h : t.h < 18446744073709551616
theorem TwOk.stay {w w' : World} {t : Tw} (h : TwOk w t) (hc : Chg [] w w') : TwOk w' t := ⟨h.x, h.r, h.v.stay hc, h.u.stay hc, h.h⟩
def tameT (t : Tw) : Bool := decide (t.x.l.length ≤ 300) && decide (t.r.l.length ≤ 300)
def tameB (l : List Tw) (n : Nat) : Bool := decide (l.length ≤ n) && l.all tameT
theorem tw_cell {w : World} {g off n c : Nat} {l : List Tw} (h : RE twl 17 w (.slice (some ⟨g, off, none⟩) n c) l) {k : Nat} (hk : k < l.length) {j : Nat} {u : Value} (hj : j < 17) (hu : (twl l[k])[j]? = some u) : w.cell? ⟨g, off + k * 17 + j, none⟩ = some u :=
  RE.cell twl_len h hk hj hu
set_option maxRecDepth 20000 in
set_option maxHeartbeats 4000000 in
theorem tame_any {w : World} {l : List Tw} {V : Value} (hV : RE twl 17 w V l) (hO : ∀ t ∈ l, TwOk w t) {n : Nat} (hn : n ≤ 100) :
    Calls Tryz.prog 6 #[V, .int .i64 n] w fun e w' => e = .returned (.bool (tameB l n)) ∧ w = w' := by
  obtain ⟨A, c, rfl⟩ := RE.form hV
  obtain ⟨R, hR⟩ : ∃ R, R = tameB l n := ⟨_, rfl⟩
  rw [← hR]
  have HR := hide hR
  have HV := hide hV
  have HO := hide hO
  clear hR hV hO
  by_cases hl : n < l.length
  · have d1 : decide ((n : Int) < (l.length : Int)) = true := decide_eq_true (by omega)
    have d1' : decide (n < l.length) = true := decide_eq_true hl
    have e : R = false := by rw [HR.out]; unfold tameB; rw [decide_eq_false (by omega)]; rfl
    subst e
    clear hl
    go_enter Tryz.func6, Tryz.ntmps6
    go_wp2_with fail
    go_ret
    (first | exact ⟨rfl, rfl⟩ | exact ⟨rfl, trivial⟩)
  have d1 : decide ((n : Int) < (l.length : Int)) = false := decide_eq_false (by omega)
  have d1' : decide (n < l.length) = false := decide_eq_false hl
  have HL := hide hl
  have hl1 : l.length ≤ 100 := by omega
  clear hl
  go_enter Tryz.func6, Tryz.ntmps6
  go_upto_region 4 with (fail)
  clear d1 d1'
  go_loopw [12] (fun i wr => wr = w ∧ ∃ k : Nat, k ≤ l.length ∧ i = .int .i64 k ∧ Hid ((l.take k).all tameT = true)) (fun i _ => l.length - (intOf i).toNat)
  case atStart => exact ⟨rfl, 0, by omega, rfl, hide rfl⟩
  case round =>
    obtain ⟨rfl, k, hk, rfl, hall⟩ := hrel
    by_cases hkl : k < l.length
    · obtain ⟨g, off, rfl⟩ := RE.addr HV.out (show 0 < l.length by omega)
      have ht := HO.out _ (List.getElem_mem hkl)
      obtain ⟨A1, c1, e1⟩ := RE.form ht.v
      obtain ⟨A2, c2, e2⟩ := RE.form ht.u
      have q1 : wr.cell? ⟨g, off + k * 17 + 11, none⟩ = some (.slice A1 l[k].x.l.length c1) := by
        have := tw_cell HV.out hkl (j := 11) (u := l[k].v) (by omega) rfl
        rw [this, e1]
      have q2 : wr.cell? ⟨g, off + k * 17 + 14, none⟩ = some (.slice A2 l[k].r.l.length c2) := by
        have := tw_cell HV.out hkl (j := 14) (u := l[k].u) (by omega) rfl
        rw [this, e2]
      obtain ⟨n1, hn1⟩ : ∃ n, n = l[k].x.l.length := ⟨_, rfl⟩
      obtain ⟨n2, hn2⟩ : ∃ n, n = l[k].r.l.length := ⟨_, rfl⟩
      rw [← hn1] at q1
      rw [← hn2] at q2
      have htk : (l.take (k + 1)).all tameT = (decide (n1 ≤ 300) && decide (n2 ≤ 300)) := by
        rw [List.take_succ_eq_append_getElem hkl, List.all_append, hall.out, Bool.true_and]
        show (tameT l[k] && true) = _
        rw [Bool.and_true]
        unfold tameT
        rw [hn1, hn2]
      have hno : (l.take (k + 1)).all tameT = false → R = false := fun h => by
        rw [HR.out]
        unfold tameB
        cases h2 : l.all tameT with
        | false => simp
        | true =>
          have : (l.take (k + 1)).all tameT = true := List.all_eq_true.2 fun x hx => List.all_eq_true.1 h2 x (List.mem_of_mem_take hx)
          rw [h] at this; cases this
      have HTK := hide htk
      have HNO := hide hno
      have d2 : decide ((k : Int) < (l.length : Int)) = true := decide_eq_true (by omega)
      have d2' : decide (k < l.length) = true := decide_eq_true hkl
      have i0 : (0 : Int) ≤ (k : Int) := by omega
      have i1 : (k : Int) < (l.length : Int) := by omega
      have hwi : IntKind.i64.wrap ((k : Int) + 1) = (k : Int) + 1 := by rw [IntKind.wrap_i64]; omega
      have HKL := hide hkl
      clear ht e1 e2 hn1 hn2 htk hno hall hk
      by_cases h1 : n1 ≤ 300
      · have d3 : decide ((300 : Int) < (n1 : Int)) = false := decide_eq_false (by omega)
        have d3' : decide (300 < n1) = false := decide_eq_false (by omega)
        have H1 := hide h1
        clear h1
        by_cases h2 : n2 ≤ 300
        · have d4 : decide ((300 : Int) < (n2 : Int)) = false := decide_eq_false (by omega)
          have d4' : decide (300 < n2) = false := decide_eq_false (by omega)
          have H2 := hide h2
          clear h2 hkl
          go_wp2_with fail
          go_roundw
          case rel => exact ⟨trivial, k + 1, by have := HKL.out; omega, by go_num, hide (by rw [HTK.out, decide_eq_true H1.out, decide_eq_true H2.out]; rfl)⟩
          case measure => have := HKL.out; simp [intOf]; omega
        · have d4 : decide ((300 : Int) < (n2 : Int)) = true := decide_eq_true (by omega)
          have d4' : decide (300 < n2) = true := decide_eq_true (by omega)
          have e := HNO.out (by rw [HTK.out, decide_eq_false h2]; simp)
          clear h2 hkl
          subst e
          go_wp2_with fail
          go_ret
          (first | exact ⟨rfl, rfl⟩ | exact ⟨rfl, trivial⟩)
      · have d3 : decide ((300 : Int) < (n1 : Int)) = true := decide_eq_true (by omega)
        have d3' : decide (300 < n1) = true := decide_eq_true (by omega)
        have e := HNO.out (by rw [HTK.out, decide_eq_false h1]; rfl)
        clear h1 hkl
        subst e
        go_wp2_with fail
        go_ret
        (first | exact ⟨rfl, rfl⟩ | exact ⟨rfl, trivial⟩)
    · obtain rfl : k = l.length := by omega
      have e : R = true := by
        rw [HR.out]
        unfold tameB
        have h := hall.out
        rw [List.take_length] at h
        have := HL.out
        rw [h, decide_eq_true (by omega)]
        rfl
      subst e
      clear hall
      go_wp2_with fail
      go_ret
      (first | exact ⟨rfl, rfl⟩ | exact ⟨rfl, trivial⟩)
end Go.Proofs.YtfoleblcaloeoaaGreatDoor

/- A pair out of a list. -/
namespace Go.Proofs.YtfoleblcaloeoaaGreatDoor
open Go Go.RowKit

theorem tw_ldX {w : World} {g off n c : Nat} {l : List Tw} (h : RE twl 17 w (.slice (some ⟨g, off, none⟩) n c) l) {k : Nat} (hk : k < l.length) : (loadVar 47 ⟨g, off + k * 17, none⟩).run Tryz.prog w = .ok (.agg (clc l[k].x l[k].v)) w := by
  have := run_loadVar_mid (P := Tryz.prog) w g (off + k * 17) 47 (clc l[k].x l[k].v).toList _ (fun j v hv => by
    have hj : j < 12 := (List.getElem?_eq_some_iff.1 hv).1
    exact tw_cell h hk (j := j) (u := v) (by omega) (by unfold twl; rw [List.getElem?_append_left hj]; exact hv)) Tryz.underlying47 rfl (by rw [Array.length_toList]; exact info34)
  simpa using this
theorem tw_ldR {w : World} {g off n c : Nat} {l : List Tw} (h : RE twl 17 w (.slice (some ⟨g, off, none⟩) n c) l) {k : Nat} (hk : k < l.length) : (loadVar 40 ⟨g, off + k * 17 + 12, none⟩).run Tryz.prog w = .ok (.agg (rsc l[k].r l[k].u)) w := by
  have := run_loadVar_mid (P := Tryz.prog) w g (off + k * 17 + 12) 40 (rsc l[k].r l[k].u).toList _ (fun j v hv => by
    have hj : j < 3 := (List.getElem?_eq_some_iff.1 hv).1
    have := tw_cell h hk (j := 12 + j) (u := v) (by omega) (by
      unfold twl
      rw [List.getElem?_append_right (show (clc l[k].x l[k].v).toList.length ≤ 12 + j by show 12 ≤ 12 + j; omega)]
      rw [show 12 + j - (clc l[k].x l[k].v).toList.length = j by show 12 + j - 12 = j; omega]
      rw [List.getElem?_append_left hj]; exact hv)
    rwa [← Nat.add_assoc] at this) Tryz.underlying40 rfl (by rw [Array.length_toList]; exact infoRs)
  simpa using this
section
variable {ops : Array Oper} {rest : List Oper} {o : Oper} {a : Act} {w : World} {Q : Exit → Act → World → Prop}
theorem wp_loadAt {K : Act → World → Prop} {ty : TypeId} (z : Operand) (ho : o.op = .load ty z) {ad : Addr} (hx : a.eval z = .pointer (some ad)) {v : Value} (hl : (loadVar ty ad).run Tryz.prog w = .ok v w) (h : K (a.put o.dst v) w) : o.wp Tryz.prog a w K Q := by
  unfold Oper.wp execOp
  simp only [ho, hx, Sem.run_bind, Instr.loadAt, Instr.sureAddr, Sem.run_pure, Result.andThen_ok, hl]
  exact h
theorem wpList_loadAtW {ty : TypeId} (z : Operand) (ho : o.op = .load ty z) {ad : Addr} (hx : a.eval z = .pointer (some ad)) (hw : Region.wanted o (yielded ops a.tmps) = true) {v : Value} (hl : (loadVar ty ad).run Tryz.prog w = .ok v w) (h : wpList Tryz.prog ops Q rest (a.put o.dst v) w) : wpList Tryz.prog ops Q (o :: rest) a w :=
  wpList_step fun K hK => by
    rw [if_pos hw]
    exact wp_loadAt z ho hx hl (hK _ _ h)
theorem wpList_loadAt {ty : TypeId} (hg : o.guard = none) (z : Operand) (ho : o.op = .load ty z) {ad : Addr} (hx : a.eval z = .pointer (some ad)) {v : Value} (hl : (loadVar ty ad).run Tryz.prog w = .ok v w) (h : wpList Tryz.prog ops Q rest (a.put o.dst v) w) : wpList Tryz.prog ops Q (o :: rest) a w :=
  wpList_plain hg fun _ hk => wp_loadAt z ho hx hl (hk _ _ h)
end
end Go.Proofs.YtfoleblcaloeoaaGreatDoor

/- A pair in a block; slices of one and of two pairs. -/
namespace Go.Proofs.YtfoleblcaloeoaaGreatDoor
open Go Go.RowKit

/-! ## A pair in a block -/
abbrev TB (w : World) (b : Nat) (t : Tw) : Prop := Blk w b 49 (twl t).toArray
theorem twl_size (t : Tw) : (twl t).toArray.size = 17 := by simp [twl_len]
theorem info47 : (Tryz.prog.info? 49).map (·.size) = some 17 := by kernel_rfl
theorem info47' (t : Tw) : (Tryz.prog.info? 49).map (·.size) = some (twl t).toArray.size := by rw [twl_size]; exact info47
theorem TB.cellX {w : World} {b : Nat} {t : Tw} (h : TB w b t) {j : Nat} {u : Value} (hj : j < 12) (hu : (clc t.x t.v)[j]? = some u) : w.cell? ⟨b, j, none⟩ = some u := by
  refine (h.cell j).trans ?_
  rw [List.getElem?_toArray]
  unfold twl
  rw [List.getElem?_append_left (show j < (clc t.x t.v).toList.length from hj)]
  simpa using hu
theorem TB.loadX {w : World} {b : Nat} {t : Tw} (h : TB w b t) : (loadVar 47 ⟨b, 0, none⟩).run Tryz.prog w = .ok (.agg (clc t.x t.v)) w := by
  have := run_loadVar_mid (P := Tryz.prog) w b 0 47 (clc t.x t.v).toList _ (fun j v hv => by
    have hj : j < 12 := (List.getElem?_eq_some_iff.1 hv).1
    rw [Nat.zero_add]
    exact h.cellX hj (by simpa using hv)) Tryz.underlying47 rfl (by rw [Array.length_toList]; exact info34)
  simpa using this
theorem TB.loadR {w : World} {b : Nat} {t : Tw} (h : TB w b t) : (loadVar 40 ⟨b, 12, none⟩).run Tryz.prog w = .ok (.agg (rsc t.r t.u)) w := by
  have := run_loadVar_mid (P := Tryz.prog) w b 12 40 (rsc t.r t.u).toList _ (fun j v hv => by
    have hj : j < 3 := (List.getElem?_eq_some_iff.1 hv).1
    refine (h.cell (12 + j)).trans ?_
    rw [List.getElem?_toArray]
    unfold twl
    rw [List.getElem?_append_right (show (clc t.x t.v).toList.length ≤ 12 + j by show 12 ≤ 12 + j; omega)]
    rw [show 12 + j - (clc t.x t.v).toList.length = j by show 12 + j - 12 = j; omega]
    rw [List.getElem?_append_left hj]; exact hv) Tryz.underlying40 rfl (by rw [Array.length_toList]; exact infoRs)
  simpa using this
section
variable {ops : Array Oper} {rest : List Oper} {o : Oper} {a : Act} {w : World} {Q : Exit → Act → World → Prop} {b : Nat} {t : Tw}
theorem wpList_box47 (hg : o.guard = none) (z : Operand) (ho : o.op = .box 49 z) (hx : a.eval z = .agg (twl t).toArray)
    (h : wpList Tryz.prog ops Q rest (a.put o.dst (.pointer (some ⟨w.heap.size, 0, none⟩))) (w.alloc (.cells (twl t).toArray 49))) : wpList Tryz.prog ops Q (o :: rest) a w :=
  Great.wpList_runTo hg _ rfl _ _ (by unfold execOp; simp only [ho, hx, Sem.run_bind, Instr.box, newVar, newRow, run_newObj_alloc, Sem.run_pure, Result.andThen_ok, Value.cells]) h
theorem wpList_load47W (z : Operand) (ho : o.op = .load 49 z) (hx : a.eval z = .pointer (some ⟨b, 0, none⟩)) (hw : Region.wanted o (yielded ops a.tmps) = true) (h0 : TB w b t) (h : wpList Tryz.prog ops Q rest (a.put o.dst (.agg (twl t).toArray)) w) : wpList Tryz.prog ops Q (o :: rest) a w :=
  wpList_step fun K hK => by
    rw [if_pos hw]
    exact wp_load_row 49 z ho b hx 49 _ (0, 0) _ h0 Tryz.underlying49 rfl (info47' t) (hK _ _ h)
end
/-! ## A slice of two pairs -/
theorem size47 : ∀ w, (sizeOf 49).run Tryz.prog w = .ok 17 w := fun w => by
  cases hq : Tryz.prog.info? 49 with
  | none => have h := info47; rw [hq] at h; cases h
  | some i =>
    have h := info47
    rw [hq] at h
    have hs : i.size = 17 := Option.some.inj h
    simp [sizeOf, typeInfo, hq, hs]
theorem RE.two {a b : Tw} (w : World) : RE twl 17 (w.alloc (.cells ((twl a).toArray ++ (twl b).toArray) 49)) (.slice (some ⟨w.heap.size, 0, none⟩) 2 2) [a, b] := by
  refine ⟨by rw [fc_length twl_len], some ⟨w.heap.size, 0, none⟩, 2, rfl, Nat.le_refl _, fun _ => ⟨w.heap.size, 0, rfl, fun j u hu => ?_⟩⟩
  have hb : Blk (w.alloc (.cells ((twl a).toArray ++ (twl b).toArray) 49)) w.heap.size 49 ((twl a).toArray ++ (twl b).toArray) := Blk.new w _ _
  refine (hb.cell (0 + j)).trans ?_
  rw [Nat.zero_add, ← hu]
  simp [fc]
def zTw : Array Value := (clc zCl zV) ++ (#[.int .i64 0, .int .u64 0, zV] ++ #[.bool false, .int .u64 0])
theorem zeroTw : ∀ w, (zeroValue 49).run Tryz.prog w = .ok (.agg zTw) w := by
  have h : (Tryz.prog.info? 49).map (fun i => (i.zero, i.size)) = some (some (.agg zTw), 17) := by kernel_rfl
  exact (zero_of_info h).1
theorem fill_two (a b : Tw) : Instr.fill (fun i => some (i * 17, 17)) ((Array.range (2 * 17)).map (zTw[· % zTw.size]!)) [(0, .agg (twl a).toArray), (1, .agg (twl b).toArray)] = some ((twl a).toArray ++ (twl b).toArray) := by
  obtain ⟨⟨_, _, _, _, _, _, _, _, _, _, _, _⟩, _, ⟨_, _, _⟩, _, _, _⟩ := a
  obtain ⟨⟨_, _, _, _, _, _, _, _, _, _, _, _⟩, _, ⟨_, _, _⟩, _, _, _⟩ := b
  kernel_rfl
set_option maxRecDepth 20000 in
theorem run_two (w : World) (a b : Tw) : (Instr.buildSlice 27 2 #[(0, .agg (twl a).toArray), (1, .agg (twl b).toArray)]).run Tryz.prog w = .ok (.slice (some ⟨w.heap.size, 0, none⟩) 2 2) (w.alloc (.cells ((twl a).toArray ++ (twl b).toArray) 49)) := by
  unfold Instr.buildSlice
  simp only [Sem.run_bind, run_underlying Tryz.underlying27, Result.andThen_ok, size47]
  rw [if_neg (by decide), if_neg (by decide)]
  simp only [Sem.run_bind, Sem.run_pure, zeroTw, Result.andThen_ok, Value.cells]
  rw [fill_two]
  simp [newRow, run_newObj_alloc, Sem.run_bind]
section
variable {ops : Array Oper} {rest : List Oper} {o : Oper} {act : Act} {w : World} {Q : Exit → Act → World → Prop}
theorem wpList_twoW (a b : Tw) (parts : Array (Nat × Operand)) (ho : o.op = .buildSlice 27 2 parts) (hw : Region.wanted o (yielded ops act.tmps) = true)
    (hl : (parts.map fun (i, x) => (i, act.eval x)) = #[(0, .agg (twl a).toArray), (1, .agg (twl b).toArray)])
    (h : ∀ w', RE twl 17 w' (.slice (some ⟨w.heap.size, 0, none⟩) 2 2) [a, b] → Chg [] w w' → wpList Tryz.prog ops Q rest (act.put o.dst (.slice (some ⟨w.heap.size, 0, none⟩) 2 2)) w') : wpList Tryz.prog ops Q (o :: rest) act w :=
  wpList_step fun K hK => by
    rw [if_pos hw]
    unfold Oper.wp execOp
    simp only [ho, Sem.run_bind, hl, run_two, Sem.run_pure, Result.andThen_ok]
    exact hK _ _ (h _ (RE.two w) ((Chg.refl [] w).alloc _))
end
theorem RE.one {a : Tw} (w : World) : RE twl 17 (w.alloc (.cells (twl a).toArray 49)) (.slice (some ⟨w.heap.size, 0, none⟩) 1 1) [a] := by
  refine ⟨by rw [fc_length twl_len], some ⟨w.heap.size, 0, none⟩, 1, rfl, Nat.le_refl _, fun _ => ⟨w.heap.size, 0, rfl, fun j u hu => ?_⟩⟩
  have hb : Blk (w.alloc (.cells (twl a).toArray 49)) w.heap.size 49 (twl a).toArray := Blk.new w _ _
  refine (hb.cell (0 + j)).trans ?_
  rw [Nat.zero_add, ← hu]
  simp [fc]
theorem fill_one (a : Tw) : Instr.fill (fun i => some (i * 17, 17)) ((Array.range (1 * 17)).map (zTw[· % zTw.size]!)) [(0, .agg (twl a).toArray)] = some ((twl a).toArray) := by
  obtain ⟨⟨_, _, _, _, _, _, _, _, _, _, _, _⟩, _, ⟨_, _, _⟩, _, _, _⟩ := a
  kernel_rfl
set_option maxRecDepth 20000 in
theorem run_one (w : World) (a : Tw) : (Instr.buildSlice 27 1 #[(0, .agg (twl a).toArray)]).run Tryz.prog w = .ok (.slice (some ⟨w.heap.size, 0, none⟩) 1 1) (w.alloc (.cells (twl a).toArray 49)) := by
  unfold Instr.buildSlice
  simp only [Sem.run_bind, run_underlying Tryz.underlying27, Result.andThen_ok, size47]
  rw [if_neg (by decide), if_neg (by decide)]
  simp only [Sem.run_bind, Sem.run_pure, zeroTw, Result.andThen_ok, Value.cells]
  rw [fill_one]
  simp [newRow, run_newObj_alloc, Sem.run_bind]
section
variable {ops : Array Oper} {rest : List Oper} {o : Oper} {act : Act} {w : World} {Q : Exit → Act → World → Prop}
theorem wpList_one (a : Tw) (hg : o.guard = none) (parts : Array (Nat × Operand)) (ho : o.op = .buildSlice 27 1 parts)
    (hl : (parts.map fun (i, x) => (i, act.eval x)) = #[(0, .agg (twl a).toArray)])
    (h : ∀ w', RE twl 17 w' (.slice (some ⟨w.heap.size, 0, none⟩) 1 1) [a] → Chg [] w w' → wpList Tryz.prog ops Q rest (act.put o.dst (.slice (some ⟨w.heap.size, 0, none⟩) 1 1)) w') : wpList Tryz.prog ops Q (o :: rest) act w :=
  Great.wpList_runTo hg _ rfl _ _ (by unfold execOp; simp only [ho, Sem.run_bind, hl, run_one, Sem.run_pure, Result.andThen_ok]) (h _ (RE.one w) ((Chg.refl [] w).alloc _))
theorem wpList_load47 {b : Nat} {t : Tw} (hg : o.guard = none) (z : Operand) (ho : o.op = .load 49 z) (hx : act.eval z = .pointer (some ⟨b, 0, none⟩)) (h0 : TB w b t) (h : wpList Tryz.prog ops Q rest (act.put o.dst (.agg (twl t).toArray)) w) : wpList Tryz.prog ops Q (o :: rest) act w :=
  wpList_load_row hg 49 z ho b hx 49 _ (0, 0) _ h0 Tryz.underlying49 rfl (info47' t) h
end
end Go.Proofs.YtfoleblcaloeoaaGreatDoor

/- known: a page is noughts, and a handle never comes again. -/
namespace Go.Proofs.YtfoleblcaloeoaaGreatDoor
open Go Go.RowKit

def cSp : Cl := { zCl with k := 1 }
def cMm (g c : Int) (r : Nat) : Cl := { zCl with k := 3, p := 1, g := g, c := c, r := r }
def cLd (a s : Int) : Cl := { zCl with k := 8, p := 1, a := a, s := s }
def cKm : Cl := { zCl with k := 10, s := 8 }
theorem sp_built : BC [(0, .int .u8 1)] cSp zV := ⟨by kernel_rfl⟩
theorem km_built : BC [(0, .int .u8 10), (6, .int .i64 8)] cKm zV := ⟨by kernel_rfl⟩
theorem mm0_built : BC [(0, .int .u8 3), (1, .int .i64 1), (4, .int .i64 2), (7, .int .u8 3)] (cMm 0 2 3) zV := ⟨by kernel_rfl⟩
theorem ld0_built : BC [(0, .int .u8 8), (1, .int .i64 1), (5, .int .i64 5), (6, .int .i64 2)] (cLd 5 2) zV := ⟨by kernel_rfl⟩
theorem sp_ok : cSp.Ok := by constructor <;> simp [cSp, zCl]
theorem km_ok : cKm.Ok := by constructor <;> simp [cKm, zCl]
theorem mm0_ok : (cMm 0 2 3).Ok := by constructor <;> simp [cMm, zCl]
theorem ld0_ok : (cLd 5 2).Ok := by constructor <;> simp [cLd, zCl]
theorem sp_nw {c : Cf} (h : mayB c = true) : wrongK c cSp = false := nw_of h (by decide) (by decide) (by decide) (by decide) (by decide) (by decide) (by decide) (by decide) (by decide)
theorem km_nw {c : Cf} (h : mayB c = true) : wrongK c cKm = false := nw_of h (by decide) (by decide) (by decide) (by decide) (by decide) (by decide) (by decide) (by decide) (by decide)
theorem mm0_nw {c : Cf} (h : mayB c = true) : wrongK c (cMm 0 2 3) = false := nw_of h (by decide) (by decide) (by decide) (by decide) (by decide) (by decide) (by decide) (by decide) (by decide)
theorem ld0_nw {c : Cf} (h : mayB c = true) : wrongK c (cLd 5 2) = false := nw_of h (by decide) (by decide) (by decide) (by decide) (by decide) (by decide) (by decide) (by decide) (by decide)
theorem rs_ok {e : Int} {v : Nat} (h1 : 0 ≤ e ∧ e ≤ 1000) (h2 : v < 18446744073709551616) : (⟨e, v, []⟩ : Rs).Ok := ⟨⟨by show _ ≤ e; omega, by show e ≤ _; omega⟩, h2, fun _ h => by cases h⟩
def K1 : Mo := { newMo oneC with pr := upd (fun _ => none) 1 (some newPr) }
def K3 : Mo := { K1 with pr := upd K1.pr 1 (some (changeA newPr (cMm 0 2 3)).2) }
def K6 : Mo := { K3 with ob := upd K3.ob (7 : Nat) (some (List.replicate 8 0)), ev := upd K3.ev (7 : Nat) true }
theorem k1 : stepB (newMo oneC) cSp ⟨0, 1, []⟩ = true ∧ stepM (newMo oneC) cSp ⟨0, 1, []⟩ = K1 := by
  refine ⟨by rw [stepB_ok _ (sp_nw one_mayB)]; rfl, by rw [stepM_ok (sp_nw one_mayB) rfl rfl rfl]; rfl⟩
theorem k2 : stepB K1 cSp ⟨0, 3, []⟩ = false := by rw [stepB_ok _ (sp_nw one_mayB)]; rfl
theorem k3 : stepB K1 (cMm 0 2 3) ⟨0, 0, []⟩ = true ∧ stepM K1 (cMm 0 2 3) ⟨0, 0, []⟩ = K3 :=
  ⟨by rw [stepB_ok _ (mm0_nw one_mayB)]; rfl, by rw [stepM_ok (mm0_nw one_mayB) rfl rfl rfl]; rfl⟩
theorem k4 : stepB K3 (cLd 5 2) ⟨0, 0, [0, 0]⟩ = true ∧ stepM K3 (cLd 5 2) ⟨0, 0, [0, 0]⟩ = K3 :=
  ⟨by rw [stepB_ok _ (ld0_nw one_mayB)]; rfl, by rw [stepM_ok (ld0_nw one_mayB) rfl rfl rfl]; rfl⟩
theorem k5 : stepB K3 cKm ⟨0, 0, []⟩ = false := by rw [stepB_ok _ (km_nw one_mayB)]; rfl
theorem k6 : stepB K3 cKm ⟨0, 7, []⟩ = true ∧ stepM K3 cKm ⟨0, 7, []⟩ = K6 :=
  ⟨by rw [stepB_ok _ (km_nw one_mayB)]; rfl, by rw [stepM_ok (km_nw one_mayB) rfl rfl rfl]; rfl⟩
theorem k7 : stepB K6 cKm ⟨0, 7, []⟩ = false := by rw [stepB_ok _ (km_nw one_mayB)]; rfl
set_option maxRecDepth 20000 in
set_option maxHeartbeats 40000000 in
theorem known_any {w : World} (hf : FW w) : Calls Tryz.prog 7 #[] w fun e w' => e = .returned (.bool true) ∧ Chg [] w w' := by
  have HF := hide hf
  have D1 := hide sp_built
  have D3 := hide mm0_built
  have D4 := hide ld0_built
  have D5 := hide km_built
  have E0 := hide br_0
  have E1 := hide (br_v 1)
  have E3 := hide (br_v 3)
  have E7 := hide (br_v 7)
  have HO := hide (fun W => one_any W)
  clear hf
  go_enter Tryz.func7, Tryz.ntmps7
  go_wp2_with fail
  refine (HO.out _).mono ?_
  rintro e W0 ⟨rfl, hc0⟩
  have HC0 := hide hc0
  clear hc0
  go_wp2_with fail
  refine (New_ms (L := []) one_mayB HC0.out (fun k hk => by cases hk)).mono ?_
  rintro e W0' ⟨⟨m, rfl, hms⟩, -⟩
  have HM0 := hide hms
  clear hms
  go_wp2_with (first | (refine wpList_build34W _ rfl ?_ D1.out ?_ ?_; (focus (simp [Region.wanted, yielded, Act.put]; done)); (focus (simp [Act.eval, Act.put]; done))) | (refine wpList_build34W _ rfl ?_ D3.out ?_ ?_; (focus (simp [Region.wanted, yielded, Act.put]; done)); (focus (simp [Act.eval, Act.put]; done))) | (refine wpList_build34W _ rfl ?_ D5.out ?_ ?_; (focus (simp [Region.wanted, yielded, Act.put]; done)); (focus (simp [Act.eval, Act.put]; done))) | (refine wpList_build34W _ rfl ?_ D4.out ?_ ?_; (focus (simp [Region.wanted, yielded, Act.put]; done)); (focus (simp [Act.eval, Act.put]; done))) | (refine wpList_buildRsW _ rfl ?_ E1.out ?_ ?_; (focus (simp [Region.wanted, yielded, Act.put]; done)); (focus (simp [Act.eval, Act.put]; done))) | (refine wpList_buildRsW _ rfl ?_ E3.out ?_ ?_; (focus (simp [Region.wanted, yielded, Act.put]; done)); (focus (simp [Act.eval, Act.put]; done))) | (refine wpList_buildRsW _ rfl ?_ E7.out ?_ ?_; (focus (simp [Region.wanted, yielded, Act.put]; done)); (focus (simp [Act.eval, Act.put]; done))) | (refine wpList_buildRsW _ rfl ?_ E0.out ?_ ?_; (focus (simp [Region.wanted, yielded, Act.put]; done)); (focus (simp [Act.eval, Act.put]; done))))
  refine (Step_ms (r := ⟨0, 1, []⟩) HM0.out HF.out sp_ok (RE.nil ucl 1 _ none 0) (rs_ok (by omega) (by omega)) (RE.nil ucl 1 _ none 0)).mono ?_
  rintro e W1 ⟨rfl, hms, -⟩
  rw [k1.1]
  rw [k1.2] at hms
  have HM1 := hide hms
  clear hms
  go_wp2_with (first | (refine wpList_build34W _ rfl ?_ D1.out ?_ ?_; (focus (simp [Region.wanted, yielded, Act.put]; done)); (focus (simp [Act.eval, Act.put]; done))) | (refine wpList_build34W _ rfl ?_ D3.out ?_ ?_; (focus (simp [Region.wanted, yielded, Act.put]; done)); (focus (simp [Act.eval, Act.put]; done))) | (refine wpList_build34W _ rfl ?_ D5.out ?_ ?_; (focus (simp [Region.wanted, yielded, Act.put]; done)); (focus (simp [Act.eval, Act.put]; done))) | (refine wpList_build34W _ rfl ?_ D4.out ?_ ?_; (focus (simp [Region.wanted, yielded, Act.put]; done)); (focus (simp [Act.eval, Act.put]; done))) | (refine wpList_buildRsW _ rfl ?_ E1.out ?_ ?_; (focus (simp [Region.wanted, yielded, Act.put]; done)); (focus (simp [Act.eval, Act.put]; done))) | (refine wpList_buildRsW _ rfl ?_ E3.out ?_ ?_; (focus (simp [Region.wanted, yielded, Act.put]; done)); (focus (simp [Act.eval, Act.put]; done))) | (refine wpList_buildRsW _ rfl ?_ E7.out ?_ ?_; (focus (simp [Region.wanted, yielded, Act.put]; done)); (focus (simp [Act.eval, Act.put]; done))) | (refine wpList_buildRsW _ rfl ?_ E0.out ?_ ?_; (focus (simp [Region.wanted, yielded, Act.put]; done)); (focus (simp [Act.eval, Act.put]; done))))
  refine (Step_ms (r := ⟨0, 3, []⟩) HM1.out HF.out sp_ok (RE.nil ucl 1 _ none 0) (rs_ok (by omega) (by omega)) (RE.nil ucl 1 _ none 0)).mono ?_
  rintro e W2 ⟨rfl, hms, -⟩
  rw [k2]
  rw [stepM_no k2] at hms
  have HM2 := hide hms
  clear hms
  go_wp2_with (first | (refine wpList_build34W _ rfl ?_ D1.out ?_ ?_; (focus (simp [Region.wanted, yielded, Act.put]; done)); (focus (simp [Act.eval, Act.put]; done))) | (refine wpList_build34W _ rfl ?_ D3.out ?_ ?_; (focus (simp [Region.wanted, yielded, Act.put]; done)); (focus (simp [Act.eval, Act.put]; done))) | (refine wpList_build34W _ rfl ?_ D5.out ?_ ?_; (focus (simp [Region.wanted, yielded, Act.put]; done)); (focus (simp [Act.eval, Act.put]; done))) | (refine wpList_build34W _ rfl ?_ D4.out ?_ ?_; (focus (simp [Region.wanted, yielded, Act.put]; done)); (focus (simp [Act.eval, Act.put]; done))) | (refine wpList_buildRsW _ rfl ?_ E1.out ?_ ?_; (focus (simp [Region.wanted, yielded, Act.put]; done)); (focus (simp [Act.eval, Act.put]; done))) | (refine wpList_buildRsW _ rfl ?_ E3.out ?_ ?_; (focus (simp [Region.wanted, yielded, Act.put]; done)); (focus (simp [Act.eval, Act.put]; done))) | (refine wpList_buildRsW _ rfl ?_ E7.out ?_ ?_; (focus (simp [Region.wanted, yielded, Act.put]; done)); (focus (simp [Act.eval, Act.put]; done))) | (refine wpList_buildRsW _ rfl ?_ E0.out ?_ ?_; (focus (simp [Region.wanted, yielded, Act.put]; done)); (focus (simp [Act.eval, Act.put]; done))))
  refine (Step_ms (r := ⟨0, 0, []⟩) HM2.out HF.out mm0_ok (RE.nil ucl 1 _ none 0) (rs_ok (by omega) (by omega)) (RE.nil ucl 1 _ none 0)).mono ?_
  rintro e W3 ⟨rfl, hms, -⟩
  rw [k3.1]
  rw [k3.2] at hms
  have HM3 := hide hms
  clear hms
  go_wp2_with (first | (refine wpList_build34W _ rfl ?_ D1.out ?_ ?_; (focus (simp [Region.wanted, yielded, Act.put]; done)); (focus (simp [Act.eval, Act.put]; done))) | (refine wpList_build34W _ rfl ?_ D3.out ?_ ?_; (focus (simp [Region.wanted, yielded, Act.put]; done)); (focus (simp [Act.eval, Act.put]; done))) | (refine wpList_build34W _ rfl ?_ D5.out ?_ ?_; (focus (simp [Region.wanted, yielded, Act.put]; done)); (focus (simp [Act.eval, Act.put]; done))) | (refine wpList_build34W _ rfl ?_ D4.out ?_ ?_; (focus (simp [Region.wanted, yielded, Act.put]; done)); (focus (simp [Act.eval, Act.put]; done))) | (refine wpList_buildRsW _ rfl ?_ E1.out ?_ ?_; (focus (simp [Region.wanted, yielded, Act.put]; done)); (focus (simp [Act.eval, Act.put]; done))) | (refine wpList_buildRsW _ rfl ?_ E3.out ?_ ?_; (focus (simp [Region.wanted, yielded, Act.put]; done)); (focus (simp [Act.eval, Act.put]; done))) | (refine wpList_buildRsW _ rfl ?_ E7.out ?_ ?_; (focus (simp [Region.wanted, yielded, Act.put]; done)); (focus (simp [Act.eval, Act.put]; done))) | (refine wpList_buildRsW _ rfl ?_ E0.out ?_ ?_; (focus (simp [Region.wanted, yielded, Act.put]; done)); (focus (simp [Act.eval, Act.put]; done))) | (refine wpList_buildRsW _ rfl ?_ (br_l (some ⟨W3.heap.size, 0, none⟩) 2 2 [0, 0]) ?_ ?_; (focus (simp [Region.wanted, yielded, Act.put]; done)); (focus (simp [Act.eval, Act.put]; done))))
  refine (Step_ms (r := ⟨0, 0, [0, 0]⟩) (HM3.out.stay ((Chg.refl [] W3).alloc _)) HF.out ld0_ok (RE.nil ucl 1 _ none 0) ⟨by decide, by decide, by decide⟩ (Rd_new W3 5 1 2 (fc ucl [0, 0]) rfl)).mono ?_
  rintro e W4 ⟨rfl, hms, -⟩
  rw [k4.1]
  rw [k4.2] at hms
  have HM4 := hide hms
  clear hms
  go_wp2_with (first | (refine wpList_build34W _ rfl ?_ D1.out ?_ ?_; (focus (simp [Region.wanted, yielded, Act.put]; done)); (focus (simp [Act.eval, Act.put]; done))) | (refine wpList_build34W _ rfl ?_ D3.out ?_ ?_; (focus (simp [Region.wanted, yielded, Act.put]; done)); (focus (simp [Act.eval, Act.put]; done))) | (refine wpList_build34W _ rfl ?_ D5.out ?_ ?_; (focus (simp [Region.wanted, yielded, Act.put]; done)); (focus (simp [Act.eval, Act.put]; done))) | (refine wpList_build34W _ rfl ?_ D4.out ?_ ?_; (focus (simp [Region.wanted, yielded, Act.put]; done)); (focus (simp [Act.eval, Act.put]; done))) | (refine wpList_buildRsW _ rfl ?_ E1.out ?_ ?_; (focus (simp [Region.wanted, yielded, Act.put]; done)); (focus (simp [Act.eval, Act.put]; done))) | (refine wpList_buildRsW _ rfl ?_ E3.out ?_ ?_; (focus (simp [Region.wanted, yielded, Act.put]; done)); (focus (simp [Act.eval, Act.put]; done))) | (refine wpList_buildRsW _ rfl ?_ E7.out ?_ ?_; (focus (simp [Region.wanted, yielded, Act.put]; done)); (focus (simp [Act.eval, Act.put]; done))) | (refine wpList_buildRsW _ rfl ?_ E0.out ?_ ?_; (focus (simp [Region.wanted, yielded, Act.put]; done)); (focus (simp [Act.eval, Act.put]; done))))
  refine (Step_ms (r := ⟨0, 0, []⟩) HM4.out HF.out km_ok (RE.nil ucl 1 _ none 0) (rs_ok (by omega) (by omega)) (RE.nil ucl 1 _ none 0)).mono ?_
  rintro e W5 ⟨rfl, hms, -⟩
  rw [k5]
  rw [stepM_no k5] at hms
  have HM5 := hide hms
  clear hms
  go_wp2_with (first | (refine wpList_build34W _ rfl ?_ D1.out ?_ ?_; (focus (simp [Region.wanted, yielded, Act.put]; done)); (focus (simp [Act.eval, Act.put]; done))) | (refine wpList_build34W _ rfl ?_ D3.out ?_ ?_; (focus (simp [Region.wanted, yielded, Act.put]; done)); (focus (simp [Act.eval, Act.put]; done))) | (refine wpList_build34W _ rfl ?_ D5.out ?_ ?_; (focus (simp [Region.wanted, yielded, Act.put]; done)); (focus (simp [Act.eval, Act.put]; done))) | (refine wpList_build34W _ rfl ?_ D4.out ?_ ?_; (focus (simp [Region.wanted, yielded, Act.put]; done)); (focus (simp [Act.eval, Act.put]; done))) | (refine wpList_buildRsW _ rfl ?_ E1.out ?_ ?_; (focus (simp [Region.wanted, yielded, Act.put]; done)); (focus (simp [Act.eval, Act.put]; done))) | (refine wpList_buildRsW _ rfl ?_ E3.out ?_ ?_; (focus (simp [Region.wanted, yielded, Act.put]; done)); (focus (simp [Act.eval, Act.put]; done))) | (refine wpList_buildRsW _ rfl ?_ E7.out ?_ ?_; (focus (simp [Region.wanted, yielded, Act.put]; done)); (focus (simp [Act.eval, Act.put]; done))) | (refine wpList_buildRsW _ rfl ?_ E0.out ?_ ?_; (focus (simp [Region.wanted, yielded, Act.put]; done)); (focus (simp [Act.eval, Act.put]; done))))
  refine (Step_ms (r := ⟨0, 7, []⟩) HM5.out HF.out km_ok (RE.nil ucl 1 _ none 0) (rs_ok (by omega) (by omega)) (RE.nil ucl 1 _ none 0)).mono ?_
  rintro e W6 ⟨rfl, hms, -⟩
  rw [k6.1]
  rw [k6.2] at hms
  have HM6 := hide hms
  clear hms
  go_wp2_with (first | (refine wpList_build34W _ rfl ?_ D1.out ?_ ?_; (focus (simp [Region.wanted, yielded, Act.put]; done)); (focus (simp [Act.eval, Act.put]; done))) | (refine wpList_build34W _ rfl ?_ D3.out ?_ ?_; (focus (simp [Region.wanted, yielded, Act.put]; done)); (focus (simp [Act.eval, Act.put]; done))) | (refine wpList_build34W _ rfl ?_ D5.out ?_ ?_; (focus (simp [Region.wanted, yielded, Act.put]; done)); (focus (simp [Act.eval, Act.put]; done))) | (refine wpList_build34W _ rfl ?_ D4.out ?_ ?_; (focus (simp [Region.wanted, yielded, Act.put]; done)); (focus (simp [Act.eval, Act.put]; done))) | (refine wpList_buildRsW _ rfl ?_ E1.out ?_ ?_; (focus (simp [Region.wanted, yielded, Act.put]; done)); (focus (simp [Act.eval, Act.put]; done))) | (refine wpList_buildRsW _ rfl ?_ E3.out ?_ ?_; (focus (simp [Region.wanted, yielded, Act.put]; done)); (focus (simp [Act.eval, Act.put]; done))) | (refine wpList_buildRsW _ rfl ?_ E7.out ?_ ?_; (focus (simp [Region.wanted, yielded, Act.put]; done)); (focus (simp [Act.eval, Act.put]; done))) | (refine wpList_buildRsW _ rfl ?_ E0.out ?_ ?_; (focus (simp [Region.wanted, yielded, Act.put]; done)); (focus (simp [Act.eval, Act.put]; done))))
  refine (Step_ms (r := ⟨0, 7, []⟩) HM6.out HF.out km_ok (RE.nil ucl 1 _ none 0) (rs_ok (by omega) (by omega)) (RE.nil ucl 1 _ none 0)).mono ?_
  rintro e W7 ⟨rfl, hms, -⟩
  rw [k7]
  have HM7 := hide hms
  clear hms
  go_wp2_with fail
  go_ret
  exact ⟨rfl, HM7.out.chg⟩
end Go.Proofs.YtfoleblcaloeoaaGreatDoor

/- Has; ModelSpawns: its walk. -/
namespace Go.Proofs.YtfoleblcaloeoaaGreatDoor
open Go Go.RowKit

theorem eqP0 (t : TypeId) (ht : t = 103) (w : World) : (binOp .neq t (.pointer none) (.pointer none)).run Tryz.prog w = .ok (.bool false) w := by subst ht; kernel_rfl
set_option maxRecDepth 20000 in
set_option maxHeartbeats 4000000 in
theorem Has_any {w : World} {m : Nat} {M : Mo} {bp bo be : Nat} {fp fo fe : Int → Option Value} {gb : Int → Nat} {GF : Int → Nat → Prop} {ov : Int → Value} (hI : MIn w m M bp bo be fp fo fe gb GF ov) (pid : Int) :
    Calls Tryz.prog 23 #[.pointer (some ⟨m, 0, none⟩), .int .i64 pid] w fun e w' => e = .returned (.bool (M.pr pid).isSome) ∧ w = w' := by
  have HNN := hide (none_any hI.blk)
  have hlk := look_pr hI pid
  obtain ⟨qp, -, -, qm, -⟩ := mo_cells hI.blk
  clear hI
  cases hp : M.pr pid with
  | none =>
    rw [hp] at hlk
    clear hp
    go_enter Tryz.func23, Tryz.ntmps23
    go_wp2_with fail
    refine HNN.out.mono ?_
    rintro e W2 ⟨rfl, rfl⟩
    go_wp2_with fail
    go_ret
    exact ⟨rfl, rfl⟩
  | some p =>
    rw [hp] at hlk
    clear hp
    go_enter Tryz.func23, Tryz.ntmps23
    go_wp2_with fail
    refine HNN.out.mono ?_
    rintro e W2 ⟨rfl, rfl⟩
    go_wp2_with fail
    go_ret
    exact ⟨rfl, rfl⟩
theorem Has_ms {W0 w : World} {L : List Nat} {m : Nat} {M : Mo} (h : MS W0 L w m M) (pid : Int) :
    Calls Tryz.prog 23 #[.pointer (some ⟨m, 0, none⟩), .int .i64 pid] w fun e w' => e = .returned (.bool (M.pr pid).isSome) ∧ w = w' := by
  obtain ⟨⟨O, ⟨bp, bo, be, fp, fo, fe, gb, GF, ov, hI, _, _⟩, _, _⟩, _, _⟩ := h
  exact Has_any hI pid
/-! ## Plain -/
def bitAt (b : Nat) (q : Int) : Bool := b.testBit (q - 1).toNat
/-- the processes that are there -/
def thM (c : Cf) (f : Int → Bool) : Mo := ⟨c, fun q => if (decide (1 ≤ q ∧ q ≤ 8) && f q) = true then some newPr else none, fun _ => none, fun _ => false⟩
theorem mk_pr {c : Cf} {a b : Int → Option Pr} {ob : Int → Option (List Nat)} {ev : Int → Bool} (h : ∀ q, a q = b q) : Mo.mk c a ob ev = Mo.mk c b ob ev := by rw [funext h]
theorem thM_congr {c : Cf} {f g : Int → Bool} (h : ∀ q, 1 ≤ q → q ≤ 8 → f q = g q) : thM c f = thM c g := by
  refine mk_pr fun q => ?_
  by_cases h1 : 1 ≤ q ∧ q ≤ 8
  · rw [h q h1.1 h1.2]
  · simp [h1]
theorem thM_at {c : Cf} {f : Int → Bool} {q : Int} (h : 1 ≤ q ∧ q ≤ 8) : ((thM c f).pr q).isSome = f q := by
  show (if (decide (1 ≤ q ∧ q ≤ 8) && f q) = true then some newPr else none).isSome = f q
  rw [decide_eq_true h]
  cases f q <;> rfl
theorem thM_new (c : Cf) : newMo c = thM c (fun _ => false) := by
  refine mk_pr fun q => ?_
  simp
theorem th_spawn {c : Cf} {f : Int → Bool} {n : Nat} (h : 1 ≤ n ∧ n ≤ 8) (h1 : ∀ q : Int, 1 ≤ q → q < n → f q = true) (h2 : f n = false) (hc : mayB c = true) :
    stepB (thM c f) cSp ⟨0, n, []⟩ = true ∧ stepM (thM c f) cSp ⟨0, n, []⟩ = thM c (fun q => decide (q = n) || f q) := by
  have ha : answerA (thM c f) cSp n = (⟨0, n, []⟩, some { (thM c f) with pr := upd (thM c f).pr n (some newPr) }) := by
    unfold answerA
    rw [if_pos (show cSp.k = 1 from rfl)]
    refine find_pidN h (fun q hq hlt => ?_) ?_
    · have : 1 ≤ q ∧ q ≤ 8 := by simp [pids] at hq; omega
      have := thM_at (c := c) (f := f) this
      rw [h1 q (by omega) hlt] at this
      cases hq : (thM c f).pr q with
      | none => rw [hq] at this; cases this
      | some p => rfl
    · show (if (decide (1 ≤ (n : Int) ∧ (n : Int) ≤ 8) && f n) = true then some newPr else none) = none
      rw [h2]; simp
  refine ⟨by rw [stepB_ok _ (sp_nw hc), ha]; simp [freeK, sameRs], ?_⟩
  rw [stepM_ok (sp_nw hc) rfl (by rw [ha]; simp [sameRs]) rfl, ha]
  refine mk_pr fun q => ?_
  show upd (fun q => if (decide (1 ≤ q ∧ q ≤ 8) && f q) = true then some newPr else none) n (some newPr) q = _
  unfold upd
  by_cases hq : q = (n : Int)
  · have : 1 ≤ q ∧ q ≤ 8 := by omega
    rw [if_pos hq]
    simp [hq]
    omega
  · rw [if_neg hq]
    simp [hq]
theorem th_full {c : Cf} {f : Int → Bool} (h : ∀ q : Int, 1 ≤ q → q ≤ 8 → f q = true) (v : Nat) : answerA (thM c f) cSp v = (plainR 9, none) := by
  unfold answerA
  rw [if_pos (show cSp.k = 1 from rfl)]
  refine find_full (fun q hq _ => ?_)
  have h1 : 1 ≤ q ∧ q ≤ 8 := by simp [pids] at hq; omega
  have := thM_at (c := c) (f := f) h1
  rw [h q h1.1 h1.2] at this
  cases hq : (thM c f).pr q with
  | none => rw [hq] at this; cases this
  | some p => rfl
def cEx (p : Int) : Cl := { zCl with k := 2, p := p }
theorem ex_built (p : Int) : BC [(0, .int .u8 2), (1, .int .i64 p)] (cEx p) zV := ⟨by kernel_rfl⟩
theorem ex_ok {p : Int} (h : 0 ≤ p ∧ p ≤ 1000) : (cEx p).Ok := by constructor <;> simp [cEx, zCl]; omega
theorem ex_nw {c : Cf} (h : mayB c = true) (p : Int) : wrongK c (cEx p) = false := nw_of h (by
    unfold mayK
    have h1 : bareK (cEx p) = cEx p := rfl
    rw [h1]
    simp [sameB, cEx, zCl, fld]) rfl rfl rfl rfl rfl rfl rfl rfl
theorem th_exit {c : Cf} {f : Int → Bool} {n : Nat} (h : 1 ≤ n ∧ n ≤ 8) (h2 : f n = true) (hc : mayB c = true) :
    stepB (thM c f) (cEx n) ⟨0, 0, []⟩ = true ∧ stepM (thM c f) (cEx n) ⟨0, 0, []⟩ = thM c (fun q => decide (q ≠ n) && f q) := by
  have hp : (thM c f).pr n = some newPr := by
    show (if (decide (1 ≤ (n : Int) ∧ (n : Int) ≤ 8) && f n) = true then some newPr else none) = some newPr
    rw [h2, if_pos]
    simp
    omega
  have ha : answerA (thM c f) (cEx n) 0 = (plainR 0, some { (thM c f) with pr := upd (thM c f).pr n none }) := by
    rw [answer_pr 0 (by simp [cEx])]
    show (match (thM c f).pr n with | none => (plainR 7, none) | some p => procA (thM c f) (cEx n) 0 p) = _
    rw [hp]
    show procA (thM c f) (cEx n) 0 newPr = _
    unfold procA
    rw [if_pos (show (cEx n).k = 2 from rfl)]
    rfl
  refine ⟨by rw [stepB_ok _ (ex_nw hc _), ha]; simp [freeK, sameRs, plainR, cEx, zCl], ?_⟩
  rw [stepM_ok (ex_nw hc _) rfl (by rw [ha]; simp [sameRs, plainR]) rfl, ha]
  refine mk_pr fun q => ?_
  show upd (fun q => if (decide (1 ≤ q ∧ q ≤ 8) && f q) = true then some newPr else none) n none q = _
  unfold upd
  by_cases hq : q = (n : Int)
  · rw [if_pos hq]
    simp [hq]
  · rw [if_neg hq]
    simp [hq]
end Go.Proofs.YtfoleblcaloeoaaGreatDoor
