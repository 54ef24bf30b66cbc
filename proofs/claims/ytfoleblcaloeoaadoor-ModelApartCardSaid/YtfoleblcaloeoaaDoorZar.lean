/- Texts merged for the claim: CcE, MpE, MqA, MrA, TwL, MapsR, MsA, MsB. -/
import Derived.Test.YtfoleblcaloeoaaDoorZai
import Derived.Test.YtfoleblcaloeoaaDoorZad
import Derived.Test.YtfoleblcaloeoaaDoorZaq
import Derived.Test.YtfoleblcaloeoaaDoorZag
import Derived.Test.YtfoleblcaloeoaaDoorZaj
import Derived.Test.YtfoleblcaloeoaaDoorZap
import Derived.Deep.CutRange
import Derived.Deep.CutBlock
import Derived.Maps.RangeRun
import Derived.Shelf.SlMaps.Clone
/- Results: whether two are alike. -/
namespace Go.Proofs.YtfoleblcaloeoaaDoor
open Go Go.RowKit

set_option maxRecDepth 20000 in
set_option maxHeartbeats 8000000 in
theorem SameRs_any {w : World} {x y : Rs} {v u : Value} (hv : RB w v x.l) (hu : RB w u y.l) (hl : ∀ b ∈ x.l, b < 256) (hm : ∀ b ∈ y.l, b < 256) :
    Calls Tryd.prog 21 #[.agg (rsc x v), .agg (rsc y u)] w fun e w' => e = .returned (.bool (sameRs x y)) ∧ Chg [] w w' := by
  obtain ⟨A0, c0, rfl⟩ := RE.form hv
  obtain ⟨A1, c1, rfl⟩ := RE.form hu
  obtain ⟨W2, hW2⟩ : ∃ W2, W2 = (w.alloc (.cells (rsc x (.slice A0 x.l.length c0)) 45)).alloc (.cells (rsc y (.slice A1 y.l.length c1)) 45) := ⟨_, rfl⟩
  have hc2 : Chg [] w W2 := by rw [hW2]; exact ((Chg.refl [] w).alloc _).alloc _
  have hb1 : XB W2 w.heap.size x (.slice A0 x.l.length c0) := by rw [hW2]; exact (Blk.new w _ _).alloc _
  have hb2 : XB W2 (w.heap.size + 1) y (.slice A1 y.l.length c1) := by
    have := Blk.new (w.alloc (.cells (rsc x (.slice A0 x.l.length c0)) 45)) 45 (rsc y (.slice A1 y.l.length c1))
    rw [World.size_alloc] at this
    rw [hW2]
    exact this
  have HEQ := hide (Equal_any (hv.stay hc2) (hu.stay hc2) hl hm)
  have HC := hide hc2
  have HW2 := hide hW2
  obtain ⟨p0, p1, p2, pl, -⟩ := XB.cells hb1
  obtain ⟨q0, q1, q2, ql, -⟩ := XB.cells hb2
  clear hv hu hl hm hW2 hc2 hb1 hb2
  obtain ⟨e, z, l⟩ := x
  obtain ⟨e', z', l'⟩ := y
  simp only at p0 p1 p2 q0 q1 q2 HEQ HW2
  by_cases h1 : e = e'
  · subst h1
    by_cases h2 : z = z'
    · subst h2
      have hR : sameRs ⟨e, z, l⟩ ⟨e, z, l'⟩ = decide (l = l') := by simp [sameRs]
      rw [hR]
      generalize decide (l = l') = r at HEQ
      clear hR
      go_enter Tryd.func21, Tryd.ntmps21
      go_wp2_with (first | (refine wpList_boxRs rfl _ rfl rfl ?_; try simp only [World.size_alloc]; try rw [← HW2.out]))
      refine HEQ.out.mono ?_
      rintro e' W3 ⟨rfl, rfl⟩
      go_wp2_with fail
      go_ret
      exact ⟨by simp, HC.out⟩
    · have d2 : ((z : Int) == (z' : Int)) = false := beq_false_of_ne (by omega)
      have d2' : decide (z = z') = false := decide_eq_false h2
      have hR : sameRs ⟨e, z, l⟩ ⟨e, z', l'⟩ = false := by simp [sameRs, h2]
      rw [hR]
      clear hR HEQ h2
      go_enter Tryd.func21, Tryd.ntmps21
      go_wp2_with (first | (refine wpList_boxRs rfl _ rfl rfl ?_; try simp only [World.size_alloc]; try rw [← HW2.out]))
      go_ret
      exact ⟨rfl, HC.out⟩
  · have d1 : (e == e') = false := beq_false_of_ne h1
    have hR : sameRs ⟨e, z, l⟩ ⟨e', z', l'⟩ = false := by simp [sameRs, h1]
    rw [hR]
    clear hR HEQ h1
    go_enter Tryd.func21, Tryd.ntmps21
    go_wp2_with (first | (refine wpList_boxRs rfl _ rfl rfl ?_; try simp only [World.size_alloc]; try rw [← HW2.out]))
    go_ret
    exact ⟨rfl, HC.out⟩
end Go.Proofs.YtfoleblcaloeoaaDoor

/- Step. -/
namespace Go.Proofs.YtfoleblcaloeoaaDoor
open Go Go.RowKit

theorem neqF1 (k : FuncId) (caps : Array Value) (w : World) : (binOp .neq 68 (.func (.func k) #[] caps) .nilFunc).run Tryd.prog w = .ok (.bool true) w := by kernel_rfl
theorem neqF0 (w : World) : (binOp .neq 68 .nilFunc .nilFunc).run Tryd.prog w = .ok (.bool false) w := by kernel_rfl
theorem RB.own_lt {w : World} {v : Value} {l : List Nat} (h : RB w v l) (hl : l ≠ []) : ∀ k ∈ own v, k < w.heap.size := fun k hk => by
  have hp : 0 < l.length := List.length_pos_iff.2 hl
  obtain ⟨A, c, rfl⟩ := RE.form h
  obtain ⟨g, off, rfl⟩ := RE.addr h hp
  rw [own_at] at hk
  obtain rfl := List.mem_singleton.1 hk
  exact World.block_lt_of_cell? w _ (RE.cell ucl_len h (k := 0) (j := 0) hp (by omega) rfl)
theorem answer_b8 {w : World} {m : Nat} {M : Mo} {bp bo be : Nat} {fp fo fe : Int → Option Value} {gb : Int → Nat} {GF : Int → Nat → Prop} {ov : Int → Value} (hI : MIn w m M bp bo be fp fo fe gb GF ov) (x : Cl) (v : Nat) :
    ∀ b ∈ (answerA M x v).1.l, b < 256 := by
  have nl : ∀ (R : Rs × Option Mo), R.1.l = [] → ∀ b ∈ R.1.l, b < 256 := fun R h b hb => by rw [h] at hb; cases hb
  have nl2 : ∀ (R : Rs), R.l = [] → ∀ b ∈ R.l, b < 256 := fun R h b hb => by rw [h] at hb; cases hb
  unfold answerA
  split
  · refine nl _ ?_
    unfold spawnA
    split <;> rfl
  split
  · refine nl _ ?_
    unfold mallocA
    split <;> rfl
  split
  · unfold objA
    cases hb : M.ob x.h with
    | none => first | exact nl _ rfl | exact nl2 _ rfl
    | some B =>
      simp only
      split
      · first | exact nl _ rfl | exact nl2 _ rfl
      split
      · first | exact nl _ rfl | exact nl2 _ rfl
      split
      · intro b h
        exact (hI.ob _ _ hb).2.1 b (List.mem_of_mem_drop (List.mem_of_mem_take h))
      · first | exact nl _ rfl | exact nl2 _ rfl
  split
  · first | exact nl _ rfl | exact nl2 _ rfl
  cases hp : M.pr x.p with
  | none => first | exact nl _ rfl | exact nl2 _ rfl
  | some p =>
    simp only
    unfold procA
    split
    · first | exact nl _ rfl | exact nl2 _ rfl
    split
    · first | exact nl _ rfl | exact nl2 _ rfl
    split
    · first | exact nl _ rfl | exact nl2 _ rfl
    split
    · first | exact nl _ rfl | exact nl2 _ rfl
    split
    · obtain ⟨d, FA, qp, qo, gp', go', gp, hP, -, -⟩ := hI.pr x.p p hp
      unfold accessA
      simp only
      split
      · first | exact nl _ rfl | exact nl2 _ rfl
      split
      · split
        · first | exact nl _ rfl | exact nl2 _ rfl
        · intro b h
          have h1 := List.mem_of_mem_drop (List.mem_of_mem_take h)
          cases hg : p.pg (x.a / 256) with
          | none =>
            rw [hg] at h1
            have h2 : b ∈ zeroPg := h1
            unfold zeroPg at h2
            rw [List.mem_replicate] at h2
            omega
          | some B =>
            rw [hg] at h1
            exact (hP.pg _ _ hg).b8 b h1
      · split <;> (first | exact nl _ rfl | exact nl2 _ rfl)
    split
    · first | exact nl _ rfl | exact nl2 _ rfl
    split
    · first | exact nl _ rfl | exact nl2 _ rfl
    split <;> (first | exact nl _ rfl | exact nl2 _ rfl)
set_option maxRecDepth 20000 in
set_option maxHeartbeats 40000000 in
theorem Step_any {w : World} {m : Nat} {M : Mo} {O : Nat → Prop} (h : MMem w m M O) (hf : FW w) {x : Cl} {v : Value} {r : Rs} {u : Value} (hx : x.Ok) (hv : RB w v x.l) (hr : r.Ok) (hu : RB w u r.l) :
    Calls Tryd.prog 12 #[.pointer (some ⟨m, 0, none⟩), .agg (clc x v), .agg (rsc r u)] w fun e w' => e = .returned (.bool (stepB M x r)) ∧ CP O w w' ∧ ∃ O', MMem w' m (stepM M x r) O' ∧ ∀ k, O' k → O k ∨ w.heap.size ≤ k := by
  obtain ⟨X, hX1, hX2⟩ : ∃ X : List Nat, (x.l ≠ [] → ∀ k ∈ own v, k ∈ X) ∧ ∀ k ∈ X, k < w.heap.size := by
    by_cases h : x.l = []
    · exact ⟨[], fun h2 => absurd h h2, fun k hk => by cases hk⟩
    · exact ⟨own v, fun _ k hk => hk, RB.own_lt hv h⟩
  obtain ⟨A0, c0, rfl⟩ := RE.form hv
  obtain ⟨A1, c1, rfl⟩ := RE.form hu
  have HM := hide h
  obtain ⟨bp, bo, be, fp, fo, fe, gb, GF, ov, hI, hO, hl⟩ := h
  obtain ⟨W2, hW2⟩ : ∃ W2, W2 = (w.alloc (.cells (clc x (.slice A0 x.l.length c0)) 42)).alloc (.cells (rsc r (.slice A1 r.l.length c1)) 45) := ⟨_, rfl⟩
  have hc2 : Chg [] w W2 := by rw [hW2]; exact ((Chg.refl [] w).alloc _).alloc _
  have hb4 : KB W2 w.heap.size x (.slice A0 x.l.length c0) := by rw [hW2]; exact (Blk.new w _ _).alloc _
  have hb5 : XB W2 (w.heap.size + 1) r (.slice A1 r.l.length c1) := by
    have := Blk.new (w.alloc (.cells (clc x (.slice A0 x.l.length c0)) 42)) 45 (rsc r (.slice A1 r.l.length c1))
    rw [World.size_alloc] at this
    rw [hW2]
    exact this
  obtain ⟨b4, e4⟩ : ∃ b, b = w.heap.size := ⟨_, rfl⟩
  obtain ⟨b5, e5⟩ : ∃ b, b = w.heap.size + 1 := ⟨_, rfl⟩
  rw [← e5] at hb5
  rw [← e4] at hb4
  have HE := hide (And.intro e4 e5)
  have HI := hide (fun W (h : Chg [] W2 W) => hI.stay (hc2.stay h))
  have HB4 := hide (fun W (h : Chg [] W2 W) => KB.stay hb4 h)
  have HB5 := hide (fun W (h : Chg [] W2 W) => XB.stay hb5 h)
  have HC2 := hide hc2
  have HW2 := hide hW2
  have HFW := hide (fun W (h : Chg [] W2 W) => hf.stay (hc2.stay h))
  have HV := hide (fun W (h : Chg [] W2 W) => RE.stay hv (hc2.stay h))
  have HU := hide (fun W (h : Chg [] W2 W) => RE.stay hu (hc2.stay h))
  have HX := hide hx
  have HRO := hide hr
  have HVL := hide (And.intro hX1 hX2)
  have HPL := hide (fun e W => plain_any e W)
  have HB8 := hide (answer_b8 hI x r.v)
  have HKEEP := hide (show ∀ W, Chg [] W2 W → CP O w W ∧ ∃ O', MMem W m M O' ∧ ∀ k, O' k → O k ∨ w.heap.size ≤ k from fun W hW => ⟨CP.of0 (hc2.stay hW), O, HM.out.stay (hc2.stay hW), fun k hk => .inl hk⟩)
  have HNN := hide (none_any (HI.out W2 (Chg.refl _ _)).blk)
  clear hI hO hl hv hu hx hr hX1 hX2 hf hb4 hb5 hc2 hW2 e4 e5
  obtain ⟨SB, hSB⟩ : ∃ b, b = stepB M x r := ⟨_, rfl⟩
  obtain ⟨SM, hSM⟩ : ∃ N, N = stepM M x r := ⟨_, rfl⟩
  rw [← hSB, ← hSM]
  have HSB := hide hSB
  have HSM := hide hSM
  clear hSB hSM
  go_enter Tryd.func12, Tryd.ntmps12
  go_upto_region 1 with (first | (refine wpList_box34 rfl _ rfl rfl ?_; try simp only [World.size_alloc]) | (refine wpList_boxRs rfl _ rfl rfl ?_; try simp only [World.size_alloc]; try rw [← HW2.out]))
  rw [← HE.out.2, ← HE.out.1]
  go_wp2_with fail
  refine HNN.out.mono ?_
  rintro e W2' ⟨rfl, rfl⟩
  cases hw : wrongK M.c x with
  | true =>
    have e1 : SB = sameRs r (plainR 2) := by rw [HSB.out]; unfold stepB; rw [if_pos hw]
    have e2 : SM = M := by rw [HSM.out]; unfold stepM; rw [if_pos (.inl hw)]
    subst e1 e2
    have HWR := hide (fun W (h : Chg [] W2 W) => WrongK_any (HFW.out W h) SM.c HX.out (HV.out W h))
    rw [hw] at HWR
    clear hw
    go_upto_region 3 with (fail)
    refine wp_region_t [0,0,0,5,5,3,0] [none, none, none, none, none, none, none] (fun W => Chg [] W2 W) (by kernel_rfl) (by kernel_rfl) (by kernel_rfl) ?_
    have hS : Chg [] W2 W2.drew := (Chg.refl [] W2).drew
    have lm := (HI.out _ hS).blk.lt
    generalize W2.drew = W0 at hS lm ⊢
    go_wp2_with (first | (refine wpG_hload 26 _ rfl rfl (fun w' hw' => mo_load26 (HI.out w' hw').blk) hS ?_) | (refine wpG_hload 42 _ rfl rfl (fun w' hw' => KB.load (HB4.out w' hw')) hS ?_) | (refine wpG_deed (by decide) (fun K hK => ?_); go_simp; refine (HWR.out W0 hS).mono ?_; rintro e W3 ⟨rfl, hc3⟩; refine hK _ _ ?_; clear hK K; have HC3 := hide (hS.stay hc3); clear hc3 hS lm; obtain ⟨c0', -, -, -, -, -, -, -, -, -, -, -, l4, -⟩ := KB.cells (HB4.out W3 HC3.out); obtain ⟨p0, -, -, l5, -⟩ := XB.cells (HB5.out W3 HC3.out)) | (refine wpG_calc rfl (fun K hK => ?_)) | (refine wpG_skip ?_ ?_; (focus (simp [wantG]; done)); go_simp) | (refine wpG_take ?_ ?_; (focus (simp [wantG]; done))) | (refine wpG_pure (fun K hK => ?_); go_simp; refine hK _ _ ?_; clear hK K) | (refine wpG_deed (by decide) (fun K hK => ?_); go_simp) | (refine wpG_nil ?_))
    refine wp_region_t [5,6,3,0] [none, none, none, none] (fun W => Chg [] W2 W) (by kernel_rfl) (by kernel_rfl) (by kernel_rfl) ?_
    have hS := HC3.out.drew
    generalize W3.drew = W4 at hS ⊢
    go_wp2_with (first | (refine wpG_hload 45 _ rfl rfl (fun w' hw' => XB.load (HB5.out w' hw')) hS ?_) | (refine wpG_calc rfl (fun K hK => ?_)) | (refine wpG_skip ?_ ?_; (focus (simp [wantG]; done)); go_simp) | (refine wpG_take ?_ ?_; (focus (simp [wantG]; done))) | (refine wpG_pure (fun K hK => ?_); go_simp; refine hK _ _ ?_; clear hK K) | (refine wpG_deed (by decide) (fun K hK => ?_); go_simp) | (refine wpG_nil ?_))
    (refine wpG_keeps hS (fun K hK => ?_))
    go_simp
    refine (HPL.out 2 _).mono ?_
    rintro e W5 ⟨rfl, hc5⟩
    have hS5 := hS.stay hc5
    refine hK _ _ hS5 ?_
    clear hK K hc5
    go_wp2_with (first | (refine wpG_deed (by decide) (fun K hK => ?_); go_simp; refine (SameRs_any (y := plainR 2) (HU.out W5 hS5) (RE.nil ucl 1 _ none 0) HRO.out.l (fun _ h => by cases h)).mono ?_; rintro e W6 ⟨rfl, hc6⟩; refine hK _ _ ?_; clear hK K) | (refine wpG_calc rfl (fun K hK => ?_)) | (refine wpG_skip ?_ ?_; (focus (simp [wantG]; done)); go_simp) | (refine wpG_take ?_ ?_; (focus (simp [wantG]; done))) | (refine wpG_pure (fun K hK => ?_); go_simp; refine hK _ _ ?_; clear hK K) | (refine wpG_deed (by decide) (fun K hK => ?_); go_simp) | (refine wpG_nil ?_))
    go_ret
    exact ⟨rfl, HKEEP.out _ (hS5.stay hc6)⟩
  | false =>
    have HNW := hide hw
    have HWR := hide (fun W (h : Chg [] W2 W) => WrongK_any (HFW.out W h) M.c HX.out (HV.out W h))
    rw [hw] at HWR
    clear hw
    go_upto_region 3 with (fail)
    refine wp_region_t [0,0,0,5,5,3,0] [none, none, none, none, none, none, none] (fun W => Chg [] W2 W) (by kernel_rfl) (by kernel_rfl) (by kernel_rfl) ?_
    have hS : Chg [] W2 W2.drew := (Chg.refl [] W2).drew
    have lm := (HI.out _ hS).blk.lt
    generalize W2.drew = W0 at hS lm ⊢
    go_wp2_with (first | (refine wpG_hload 26 _ rfl rfl (fun w' hw' => mo_load26 (HI.out w' hw').blk) hS ?_) | (refine wpG_hload 42 _ rfl rfl (fun w' hw' => KB.load (HB4.out w' hw')) hS ?_) | (refine wpG_deed (by decide) (fun K hK => ?_); go_simp; refine (HWR.out W0 hS).mono ?_; rintro e W3 ⟨rfl, hc3⟩; refine hK _ _ ?_; clear hK K; have HC3 := hide (hS.stay hc3); clear hc3 hS lm; obtain ⟨c0', -, -, -, -, -, -, -, -, -, -, -, l4, -⟩ := KB.cells (HB4.out W3 HC3.out); obtain ⟨p0, -, -, l5, -⟩ := XB.cells (HB5.out W3 HC3.out)) | (refine wpG_calc rfl (fun K hK => ?_)) | (refine wpG_skip ?_ ?_; (focus (simp [wantG]; done)); go_simp) | (refine wpG_take ?_ ?_; (focus (simp [wantG]; done))) | (refine wpG_pure (fun K hK => ?_); go_simp; refine hK _ _ ?_; clear hK K) | (refine wpG_deed (by decide) (fun K hK => ?_); go_simp) | (refine wpG_nil ?_))
    refine (free_any x.k r.e W3).mono ?_
    rintro e W3' ⟨rfl, rfl⟩
    cases hfr : freeK x.k r.e with
    | true =>
      have e1 : SB = sameRs r (plainR r.e) := by rw [HSB.out]; unfold stepB; rw [if_neg (by rw [HNW.out]; decide), if_pos hfr]
      have e2 : SM = M := by rw [HSM.out]; unfold stepM; rw [if_pos (.inr (.inl hfr))]
      subst e1 e2
      clear hfr c0' l4 p0 l5
      go_upto_region 6 with (fail)
      refine wp_region_t [5,0,5,6,3,0] [none, none, none, none, none, none] (fun W => Chg [] W2 W) (by kernel_rfl) (by kernel_rfl) (by kernel_rfl) ?_
      have hS := HC3.out.drew
      generalize W3.drew = W4 at hS ⊢
      go_wp2_with (first | (refine wpG_hload 45 _ rfl rfl (fun w' hw' => XB.load (HB5.out w' hw')) hS ?_) | (refine wpG_hload 33 _ rfl rfl (fun w' hw' => load_int Tryd.underlying33 (XB.cells (HB5.out w' hw')).1) hS ?_) | (refine wpG_calc rfl (fun K hK => ?_)) | (refine wpG_skip ?_ ?_; (focus (simp [wantG]; done)); go_simp) | (refine wpG_take ?_ ?_; (focus (simp [wantG]; done))) | (refine wpG_pure (fun K hK => ?_); go_simp; refine hK _ _ ?_; clear hK K) | (refine wpG_deed (by decide) (fun K hK => ?_); go_simp) | (refine wpG_nil ?_))
      (refine wpG_keeps hS (fun K hK => ?_))
      go_simp
      refine (HPL.out r.e _).mono ?_
      rintro e W5 ⟨rfl, hc5⟩
      have hS5 := hS.stay hc5
      refine hK _ _ hS5 ?_
      clear hK K hc5
      go_wp2_with (first | (refine wpG_deed (by decide) (fun K hK => ?_); go_simp; refine (SameRs_any (y := plainR r.e) (HU.out W5 hS5) (RE.nil ucl 1 _ none 0) HRO.out.l (fun _ h => by cases h)).mono ?_; rintro e W6 ⟨rfl, hc6⟩; refine hK _ _ ?_; clear hK K) | (refine wpG_calc rfl (fun K hK => ?_)) | (refine wpG_skip ?_ ?_; (focus (simp [wantG]; done)); go_simp) | (refine wpG_take ?_ ?_; (focus (simp [wantG]; done))) | (refine wpG_pure (fun K hK => ?_); go_simp; refine hK _ _ ?_; clear hK K) | (refine wpG_deed (by decide) (fun K hK => ?_); go_simp) | (refine wpG_nil ?_))
      go_ret
      exact ⟨rfl, HKEEP.out _ (hS5.stay hc6)⟩
    | false =>
      have HFR := hide hfr
      clear hfr c0' l4 p0 l5
      go_wp2_with (first | (refine wpList_load34 rfl _ rfl rfl (HB4.out W3 HC3.out) ?_) | (refine wpList_loadRs rfl _ rfl rfl (HB5.out W3 HC3.out) ?_))
      refine (answer_any (X := X) (HM.out.stay (HC2.out.stay HC3.out)) HX.out (HV.out W3 HC3.out) HVL.out.1 (fun k hk => Nat.lt_of_lt_of_le (HVL.out.2 k hk) (HC2.out.stay HC3.out).size) HNW.out HRO.out.v).mono ?_
      rintro e W4 ⟨⟨A, n, c, f, rfl, hrb, -, heff⟩, hc4⟩
      have HC4 := hide (HC3.out.stay hc4)
      have HC34 := hide hc4
      have HRB := hide hrb
      have HEFF := hide heff
      clear hrb heff hc4
      obtain ⟨RR, hRR⟩ : ∃ R, R = answerA M x r.v := ⟨_, rfl⟩
      rw [← hRR] at HRB HEFF HB8
      rw [← hRR]
      have HRR := hide hRR
      clear hRR
      go_wp2_with (first | (refine wpList_allocRs rfl rfl ?_; try go_simp) | (refine wpList_storeRs (b := W4.heap.size) (y := RR.1) (u := .slice A n c) rfl _ _ rfl rfl rfl rfl (Blk.new W4 _ _) ?_; intro W6 h6 hc6; have H6 := hide h6; have HC46 := hide (made_rs hc6); clear h6 hc6) | (refine wpList_loadRs rfl _ rfl rfl (HB5.out W6 (HC4.out.stay HC46.out)) ?_) | (refine wpList_loadRs (b := W4.heap.size) rfl _ rfl rfl H6.out ?_))
      refine (SameRs_any (HU.out W6 (HC4.out.stay HC46.out)) (HRB.out.stay HC46.out) HRO.out.l HB8.out).mono ?_
      rintro e W7 ⟨rfl, hc7⟩
      have HC47 := hide (HC46.out.stay hc7)
      have HC7 := hide (HC4.out.stay (HC46.out.stay hc7))
      clear hc7
      have ebN := show SB = sameRs r RR.1 by rw [HSB.out]; unfold stepB; rw [if_neg (by rw [HNW.out]; decide), if_neg (by rw [HFR.out]; decide), HRR.out]
      cases hsm : sameRs r RR.1 with
      | false =>
        have e1 : SB = false := by rw [ebN, hsm]
        have e2 : SM = M := by rw [HSM.out]; unfold stepM; rw [← HRR.out, if_pos (.inr (.inr (.inl hsm)))]
        subst e1 e2
        clear hsm ebN
        go_wp2_with fail
        go_ret
        exact ⟨rfl, HKEEP.out _ HC7.out⟩
      | true =>
        have e1 : SB = true := by rw [ebN, hsm]
        have e2 : SM = if r.e = 0 then RR.2.getD M else M := by
          rw [HSM.out]
          unfold stepM
          rw [← HRR.out]
          by_cases h : r.e = 0
          · rw [if_pos h, if_neg]
            rintro (h1 | h1 | h1 | h1)
            · rw [HNW.out] at h1; cases h1
            · rw [HFR.out] at h1; cases h1
            · rw [hsm] at h1; cases h1
            · exact h1 h
          · rw [if_neg h, if_pos (.inr (.inr (.inr h)))]
        subst e1
        have HE2 := hide e2
        clear hsm ebN e2
        obtain ⟨R1, N⟩ := RR
        obtain ⟨p0, -, -, l5, -⟩ := XB.cells (HB5.out W7 HC7.out)
        cases N with
        | none =>
          obtain rfl : f = .nilFunc := HEFF.out
          have hq := fun w => neqF0 w
          have e2 : SM = M := by rw [HE2.out]; split <;> rfl
          subst e2
          go_wp2_with fail
          go_ret
          exact ⟨rfl, HKEEP.out _ HC7.out⟩
        | some M' =>
          obtain ⟨k, caps, rfl, hent, hdo⟩ := HEFF.out
          replace hent := hent caps
          have HDO := hide hdo
          clear hdo
          have hq := fun w => neqF1 k caps w
          by_cases hz : r.e = 0
          · have e2 : SM = M' := by rw [HE2.out, if_pos hz]; rfl
            subst e2
            rw [hz] at p0
            clear hz
            go_wp2_with fail
            refine (HDO.out [] W7 (Off.nil _ _ _) HC47.out).mono ?_
            rintro e W8 ⟨rfl, k1, O', k2, k3⟩
            go_wp2_with fail
            go_ret
            have hsz := (HC2.out.stay HC3.out).size
            obtain ⟨L, g1, g2⟩ := k1
            exact ⟨rfl, ⟨L, (((HC2.out.stay HC7.out).up L).and_ g1), fun k hk => (by
              rcases g2 k hk with (h | h) | h
              · exact .inl h
              · exact .inr (by omega)
              · exact .inr (Nat.le_trans (HC2.out.stay HC7.out).size h))⟩, O', k2, fun k hk => (k3 k hk).imp id (Nat.le_trans hsz)⟩
          · have e2 : SM = M := by rw [HE2.out, if_neg hz]
            subst e2
            have d0 : (r.e == 0) = false := beq_false_of_ne hz
            have d1 : decide (r.e = 0) = false := decide_eq_false hz
            clear hz
            go_wp2_with fail
            go_ret
            exact ⟨rfl, HKEEP.out _ HC7.out⟩
end Go.Proofs.YtfoleblcaloeoaaDoor

/- A law's machine: New, Step; what a step does, plain. -/
namespace Go.Proofs.YtfoleblcaloeoaaDoor
open Go Go.RowKit

/-! ## Plain -/
theorem stepB_ok {M : Mo} {x : Cl} (r : Rs) (hw : wrongK M.c x = false) : stepB M x r = if freeK x.k r.e = true then sameRs r (plainR r.e) else sameRs r (answerA M x r.v).1 := by
  unfold stepB
  rw [if_neg (by rw [hw]; decide)]
theorem stepM_ok {M : Mo} {x : Cl} {r : Rs} (hw : wrongK M.c x = false) (hf : freeK x.k r.e = false) (hs : sameRs r (answerA M x r.v).1 = true) (he : r.e = 0) : stepM M x r = ((answerA M x r.v).2).getD M := by
  unfold stepM
  rw [if_neg]
  rintro (h | h | h | h)
  · rw [hw] at h; cases h
  · rw [hf] at h; cases h
  · rw [hs] at h; cases h
  · exact h he
theorem stepM_err {M : Mo} {x : Cl} {r : Rs} (he : r.e ≠ 0) : stepM M x r = M := by
  unfold stepM
  rw [if_pos (.inr (.inr (.inr he)))]
theorem stepM_no {M : Mo} {x : Cl} {r : Rs} (h : stepB M x r = false) : stepM M x r = M := by
  unfold stepM
  by_cases hw : wrongK M.c x = true
  · rw [if_pos (.inl hw)]
  by_cases hf : freeK x.k r.e = true
  · rw [if_pos (.inr (.inl hf))]
  rw [stepB_ok r (by simpa using hw), if_neg hf] at h
  rw [if_pos (.inr (.inr (.inl h)))]
theorem answer_c {M : Mo} {x : Cl} {v : Nat} {M' : Mo} (h : (answerA M x v).2 = some M') : M'.c = M.c := by
  unfold answerA at h
  split at h
  · unfold spawnA at h
    split at h
    · obtain rfl := Option.some.inj h; rfl
    · cases h
  split at h
  · unfold mallocA at h
    split at h
    · cases h
    · obtain rfl := Option.some.inj h; rfl
  split at h
  · unfold objA at h
    split at h
    · cases h
    split at h
    · obtain rfl := Option.some.inj h; rfl
    split at h
    · cases h
    split at h
    · cases h
    · obtain rfl := Option.some.inj h; rfl
  split at h
  · cases h
  split at h
  · cases h
  unfold procA at h
  split at h
  · obtain rfl := Option.some.inj h; rfl
  split at h
  · obtain rfl := Option.some.inj h; rfl
  split at h
  · cases h
  split at h
  · obtain rfl := Option.some.inj h; rfl
  split at h
  · obtain ⟨q, _, rfl⟩ := Option.map_eq_some_iff.1 h; rfl
  split at h
  · cases h
  split at h
  · cases h
  split at h
  · obtain rfl := Option.some.inj h; rfl
  · cases h
theorem stepM_c (M : Mo) (x : Cl) (r : Rs) : (stepM M x r).c = M.c := by
  unfold stepM
  split
  · rfl
  cases h : (answerA M x r.v).2 with
  | none => rfl
  | some M' => exact answer_c h
/-! ## A law's machine in memory -/
structure MS (W0 : World) (L : List Nat) (w : World) (m : Nat) (M : Mo) : Prop where
  mem : ∃ O, MMem w m M O ∧ (∀ k, O k → W0.heap.size ≤ k) ∧ ∀ k ∈ L, ¬ O k
  lt : ∀ k ∈ L, k < w.heap.size
  chg : Chg [] W0 w
theorem MS.stay {W0 w w' : World} {L : List Nat} {m : Nat} {M : Mo} (h : MS W0 L w m M) (hc : Chg [] w w') : MS W0 L w' m M := by
  obtain ⟨⟨O, h1, h2, h3⟩, h4, h5⟩ := h
  exact ⟨⟨O, h1.stay hc, h2, h3⟩, fun k hk => Nat.lt_of_lt_of_le (h4 k hk) hc.size, h5.stay hc⟩
/-- new blocks are guarded too -/
theorem MS.guard {W0 w w' : World} {L : List Nat} {m : Nat} {M : Mo} (h : MS W0 L w m M) (hc : Chg [] w w') (K : List Nat) (hK : ∀ k ∈ K, w.heap.size ≤ k ∧ k < w'.heap.size) : MS W0 (K ++ L) w' m M := by
  obtain ⟨⟨O, h1, h2, h3⟩, h4, h5⟩ := h
  refine ⟨⟨O, h1.stay hc, h2, fun k hk ho => ?_⟩, fun k hk => ?_, h5.stay hc⟩
  · rcases List.mem_append.1 hk with hk | hk
    · have := h1.lt k ho; have := (hK k hk).1; omega
    · exact h3 k hk ho
  · rcases List.mem_append.1 hk with hk | hk
    · exact (hK k hk).2
    · exact Nat.lt_of_lt_of_le (h4 k hk) hc.size
/-- a law's own blocks may be written to -/
theorem MS.put {W0 w w' : World} {L F : List Nat} {m : Nat} {M : Mo} (h : MS W0 L w m M) (hc : Chg F w w') (hF : ∀ k ∈ F, k ∈ L ∧ W0.heap.size ≤ k) : MS W0 L w' m M := by
  obtain ⟨⟨O, h1, h2, h3⟩, h4, h5⟩ := h
  exact ⟨⟨O, h1.cp (CP.of (F := fun k => k ∈ F) hc (fun k hk => .inl hk)) (fun k ho hk => h3 k (hF k hk).1 ho), h2, h3⟩, fun k hk => Nat.lt_of_lt_of_le (h4 k hk) hc.size, h5.trans hc (fun k hk => .inr (hF k hk).2)⟩
theorem New_ms {W0 w : World} {L : List Nat} {c : Cf} (hc : mayB c = true) (h0 : Chg [] W0 w) (hL : ∀ k ∈ L, k < w.heap.size) :
    Calls Tryd.prog 11 #[.agg (cg c)] w fun e w' => (∃ m, e = .returned (.tuple #[.pointer (some ⟨m, 0, none⟩), .int .i64 0]) ∧ MS W0 L w' m (newMo c)) ∧ Chg [] w w' := by
  refine (New_any hc).mono ?_
  rintro e w' ⟨⟨m, rfl, O, h1, h2⟩, h3⟩
  exact ⟨⟨m, rfl, ⟨O, h1, fun k hk => Nat.le_trans h0.size (h2 k hk), fun k hk ho => by have := hL k hk; have := h2 k ho; omega⟩, fun k hk => Nat.lt_of_lt_of_le (hL k hk) h3.size, h0.stay h3⟩, h3⟩
/-- what a step leaves as it was -/
def Kept (L : List Nat) (W0 w w' : World) : Prop := ∃ F, Chg F w w' ∧ ∀ k ∈ F, k ∉ L ∧ W0.heap.size ≤ k
theorem Kept.blk {L : List Nat} {W0 w w' : World} (h : Kept L W0 w w') {b : Nat} {t : TypeId} {cs : Array Value} (hb : Blk w b t cs) (hm : b ∈ L) : Blk w' b t cs := by
  obtain ⟨F, h1, h2⟩ := h
  exact hb.chg h1 (fun hf => (h2 b hf).1 hm)
theorem Kept.rb {L : List Nat} {W0 w w' : World} (h : Kept L W0 w w') {v : Value} {l : List Nat} (hb : RB w v l) (hm : ∀ k ∈ own v, k ∈ L) : RB w' v l := by
  obtain ⟨F, h1, h2⟩ := h
  exact hb.chg h1 (fun k hk hf => (h2 k hf).1 (hm k hk))
theorem Step_ms {W0 w : World} {L : List Nat} {m : Nat} {M : Mo} (h : MS W0 L w m M) (hf : FW W0) {x : Cl} {v : Value} {r : Rs} {u : Value} (hx : x.Ok) (hv : RB w v x.l) (hr : r.Ok) (hu : RB w u r.l) :
    Calls Tryd.prog 12 #[.pointer (some ⟨m, 0, none⟩), .agg (clc x v), .agg (rsc r u)] w fun e w' => e = .returned (.bool (stepB M x r)) ∧ MS W0 L w' m (stepM M x r) ∧ Kept L W0 w w' := by
  obtain ⟨⟨O, h1, h2, h3⟩, h4, h5⟩ := h
  refine (Step_any h1 (hf.stay h5) hx hv hr hu).mono ?_
  rintro e w' ⟨rfl, ⟨F, g1, g2⟩, O', k2, k3⟩
  have hsz := h5.size
  refine ⟨rfl, ⟨⟨O', k2, fun k hk => (k3 k hk).elim (h2 k) (fun h => by omega), fun k hk ho => (k3 k ho).elim (h3 k hk) (fun h => by have := h4 k hk; omega)⟩, fun k hk => Nat.lt_of_lt_of_le (h4 k hk) g1.size, h5.trans g1 (fun k hk => .inr ((g2 k hk).elim (h2 k) (fun h => by omega)))⟩, F, g1, fun k hk => ⟨fun hm => (g2 k hk).elim (h3 k hm) (fun h => by have := h4 k hm; omega), (g2 k hk).elim (h2 k) (fun h => by omega)⟩⟩
/-! ## Calls and answers that a law writes -/
structure BC (l : List (Nat × Value)) (x : Cl) (v : Value) : Prop where
  h : Tryd.prog.built 42 l = some (clc x v)
section
variable {ops : Array Oper} {rest : List Oper} {o : Oper} {a : Act} {w : World} {Q : Exit → Act → World → Prop} {x : Cl} {v : Value}
theorem wpList_build34 (hg : o.guard = none) (parts : Array (Nat × Operand)) (ho : o.op = .build 42 parts)
    {l : List (Nat × Value)} (hb : BC l x v) (hl : (parts.map fun (i, x) => (i, a.eval x)).toList = l) (h : wpList Tryd.prog ops Q rest (a.put o.dst (.agg (clc x v))) w) : wpList Tryd.prog ops Q (o :: rest) a w :=
  wpList_build hg 42 parts ho (by rw [hl, hb.h]; rfl) (by rw [hl, hb.h]; exact h)
theorem wpList_build34W (parts : Array (Nat × Operand)) (ho : o.op = .build 42 parts)
    {l : List (Nat × Value)} (hw : Region.wanted o (yielded ops a.tmps) = true) (hb : BC l x v) (hl : (parts.map fun (i, x) => (i, a.eval x)).toList = l) (h : wpList Tryd.prog ops Q rest (a.put o.dst (.agg (clc x v))) w) : wpList Tryd.prog ops Q (o :: rest) a w :=
  wpList_step fun K hK => by
    rw [if_pos hw]
    exact wp_build 42 parts ho (by rw [hl, hb.h]; rfl) (hK _ _ (by rw [hl, hb.h]; exact h))
end
theorem nw_of {c : Cf} {x : Cl} (hm : mayB c = true) (hk : mayK x = true) (h1 : t1K x = false) (h2 : t2K x = false) (h3 : t3K x = false) (h4 : hasB x 110 = false) (h5 : hasB x 111 = false) (h6 : t6K x = false) (h7 : t7K x = false) (h8 : t8K x = false) : wrongK c x = false := by
  have e4 : t4K c x = false := by unfold t4K; rw [h4]; rfl
  have e5 : t5K c x = false := by unfold t5K; rw [h5]; rfl
  unfold wrongK
  simp [hm, hk, h1, h2, h3, e4, e5, h6, h7, h8]
/-! ## A machine of one node -/
def oneC0 : Cf := fun i => if i = 0 then 1 else if i = 1 then 1 else if i = 90 then 4 else 0
def oneC : Cf := fun i => if i = 18 then 4 else oneC0 i
theorem built_one : BT [(0, .int .i64 1), (1, .int .i64 1), (5, .int .i64 4)] oneC0 := ⟨by kernel_rfl⟩
theorem one_may : MayP oneC where
  n1 := by decide
  n8 := by decide
  p1 := by decide
  p16 := by decide
  s0 := by decide
  s1 := by decide
  home := by decide
  home0 := by decide
  fr := by decide
  fr0 := by decide
  ds0 := fun i k hi hk => (by decide : ∀ i : Nat, i < 8 → ∀ k : Nat, k < 8 → oneC 0 ≤ (i : Int) ∨ oneC 0 ≤ (k : Int) ∨ i = k → oneC (26 + i * 8 + k) = 0) i hi k hk
  ds1 := fun i k hi hk => fun h1 h2 h3 => (by decide : ∀ i : Nat, i < 8 → ∀ k : Nat, k < 8 → ((i : Int) < oneC 0 ∧ (k : Int) < oneC 0 ∧ ¬ i = k) → (1 ≤ oneC (26 + i * 8 + k) ∧ oneC (26 + i * 8 + k) ≤ 255 ∧ oneC (26 + i * 8 + k) = oneC (26 + k * 8 + i))) i hi k hk ⟨h1, h2, h3⟩
  mi := by decide
  lo := by decide
  hi := by decide
theorem one_mayB : mayB oneC = true := mayB_iff.2 one_may
set_option maxHeartbeats 1000000 in
theorem one_any (w : World) : Calls Tryd.prog 17 #[] w fun e w' => e = .returned (.agg (cg oneC)) ∧ Chg [] w w' := by
  have HR : Hid (CB ((w.alloc (.cells (cg (fun _ => 0)) 26)).alloc (.cells (cg (fun _ => 0)) 26)) w.heap.size (fun _ => 0)) := hide ((Blk.new w 26 _).alloc _)
  have HB : Hid (CB ((w.alloc (.cells (cg (fun _ => 0)) 26)).alloc (.cells (cg (fun _ => 0)) 26)) (w.heap.size + 1) (fun _ => 0)) := hide (by
    have := Blk.new (w.alloc (.cells (cg (fun _ => 0)) 26)) 26 (cg (fun _ => 0))
    rwa [World.size_alloc] at this)
  have HC : Hid (Chg [] w ((w.alloc (.cells (cg (fun _ => 0)) 26)).alloc (.cells (cg (fun _ => 0)) 26))) := hide (((Chg.refl [] w).alloc _).alloc _)
  obtain ⟨D0, hD0⟩ : ∃ D0, D0 = oneC0 := ⟨_, rfl⟩
  have HT := hide built_one
  rw [← hD0] at HT
  have HD0 := hide hD0
  obtain ⟨D, hD⟩ : ∃ D, D = oneC := ⟨_, rfl⟩
  rw [← hD]
  have HD := hide hD
  clear hD0 hD
  go_enter Tryd.func17, Tryd.ntmps17
  go_wp2_with (first | (refine wpList_alloc26 rfl rfl ?_; try simp only [World.size_alloc]) | (refine wpList_build26 rfl _ rfl HT.out ?_ ?_; (focus (simp [Act.eval]; done))) | (refine wpList_store26L (b := w.heap.size + 1) (c := fun _ => 0) rfl _ _ rfl rfl rfl ?_ ?_; (focus exact HB.out); intro W5 h5 hc5; have q18 := CB.get h5 (i := 18) (by omega); have f18 := Blk.frozen h5 18; have H5 := hide h5; have HC5 := hide hc5; have HR5 := hide (HR.out.chg hc5 (by simp)); have hl5 : w.heap.size + 1 < W5.heap.size := h5.lt; clear h5 hc5) | (refine wpList_load26L (b := w.heap.size + 1) (c := D) rfl _ rfl rfl ?_ ?_; (focus (rw [HD.out]; have := CB.set H5.out 18 4; rw [HD0.out] at this; exact this))) | (refine wpList_store26L (b := w.heap.size) (c := fun _ => 0) rfl _ _ rfl rfl rfl ?_ ?_; (focus exact (Blk.far HR5.out (by simp) _)); intro W6 h6 hc6))
  refine bodyPost_ret (v := .agg (cg D)) (results_cell_row (p := 0) (ty := 26) rfl _ _ w.heap.size 26 _ (0, 0) _ rfl h6 Tryd.underlying26 rfl info26') rfl ⟨rfl, ?_⟩
  have c9 := HC5.out.setCell (p := ⟨w.heap.size + 1, 18, none⟩) (.inl (by simp)) (.int .i64 4)
  exact (HC.out.trans c9 (fun x hx => .inr (by obtain rfl := List.mem_singleton.1 hx; omega))).trans hc6 (fun x hx => .inr (by obtain rfl := List.mem_singleton.1 hx; omega))
end Go.Proofs.YtfoleblcaloeoaaDoor

/- Pairs of a call and an answer; tame. -/
namespace Go.Proofs.YtfoleblcaloeoaaDoor
open Go Go.RowKit

structure Tw where
  x : Cl
  v : Value
  r : Rs
  u : Value
  rt : Bool
  h : Nat
def twl (t : Tw) : List Value := (clc t.x t.v).toList ++ ((rsc t.r t.u).toList ++ [.bool t.rt, .int .u64 t.h])
theorem twl_len (t : Tw) : (twl t).length = 17 := rfl
structure TwOk (w : World) (t : Tw) : Prop where
  x : t.x.Ok
  r : t.r.Ok
  v : RB w t.v t.x.l
  u : RB w t.u t.r.l
  h : t.h < 18446744073709551616
theorem TwOk.stay {w w' : World} {t : Tw} (h : TwOk w t) (hc : Chg [] w w') : TwOk w' t := ⟨h.x, h.r, h.v.stay hc, h.u.stay hc, h.h⟩
def tameT (t : Tw) : Bool := decide (t.x.l.length ≤ 300) && decide (t.r.l.length ≤ 300)
def tameB (l : List Tw) (n : Nat) : Bool := decide (l.length ≤ n) && l.all tameT
theorem tw_cell {w : World} {g off n c : Nat} {l : List Tw} (h : RE twl 17 w (.slice (some ⟨g, off, none⟩) n c) l) {k : Nat} (hk : k < l.length) {j : Nat} {u : Value} (hj : j < 17) (hu : (twl l[k])[j]? = some u) : w.cell? ⟨g, off + k * 17 + j, none⟩ = some u :=
  RE.cell twl_len h hk hj hu
set_option maxRecDepth 20000 in
set_option maxHeartbeats 4000000 in
theorem tame_any {w : World} {l : List Tw} {V : Value} (hV : RE twl 17 w V l) (hO : ∀ t ∈ l, TwOk w t) {n : Nat} (hn : n ≤ 100) :
    Calls Tryd.prog 8 #[V, .int .i64 n] w fun e w' => e = .returned (.bool (tameB l n)) ∧ w = w' := by
  obtain ⟨A, c, rfl⟩ := RE.form hV
  obtain ⟨R, hR⟩ : ∃ R, R = tameB l n := ⟨_, rfl⟩
  rw [← hR]
  have HR := hide hR
  have HV := hide hV
  have HO := hide hO
  clear hR hV hO
  by_cases hl : n < l.length
  · have d1 : decide ((n : Int) < (l.length : Int)) = true := decide_eq_true (by omega)
    have d1' : decide (n < l.length) = true := decide_eq_true hl
    have e : R = false := by rw [HR.out]; unfold tameB; rw [decide_eq_false (by omega)]; rfl
    subst e
    clear hl
    go_enter Tryd.func8, Tryd.ntmps8
    go_wp2_with fail
    go_ret
    (first | exact ⟨rfl, rfl⟩ | exact ⟨rfl, trivial⟩)
  have d1 : decide ((n : Int) < (l.length : Int)) = false := decide_eq_false (by omega)
  have d1' : decide (n < l.length) = false := decide_eq_false hl
  have HL := hide hl
  have hl1 : l.length ≤ 100 := by omega
  clear hl
  go_enter Tryd.func8, Tryd.ntmps8
  go_upto_region 4 with (fail)
  clear d1 d1'
  go_loopw [12] (fun i wr => wr = w ∧ ∃ k : Nat, k ≤ l.length ∧ i = .int .i64 k ∧ Hid ((l.take k).all tameT = true)) (fun i _ => l.length - (intOf i).toNat)
  case atStart => exact ⟨rfl, 0, by omega, rfl, hide rfl⟩
  case round =>
    obtain ⟨rfl, k, hk, rfl, hall⟩ := hrel
    by_cases hkl : k < l.length
    · obtain ⟨g, off, rfl⟩ := RE.addr HV.out (show 0 < l.length by omega)
      have ht := HO.out _ (List.getElem_mem hkl)
      obtain ⟨A1, c1, e1⟩ := RE.form ht.v
      obtain ⟨A2, c2, e2⟩ := RE.form ht.u
      have q1 : wr.cell? ⟨g, off + k * 17 + 11, none⟩ = some (.slice A1 l[k].x.l.length c1) := by
        have := tw_cell HV.out hkl (j := 11) (u := l[k].v) (by omega) rfl
        rw [this, e1]
      have q2 : wr.cell? ⟨g, off + k * 17 + 14, none⟩ = some (.slice A2 l[k].r.l.length c2) := by
        have := tw_cell HV.out hkl (j := 14) (u := l[k].u) (by omega) rfl
        rw [this, e2]
      obtain ⟨n1, hn1⟩ : ∃ n, n = l[k].x.l.length := ⟨_, rfl⟩
      obtain ⟨n2, hn2⟩ : ∃ n, n = l[k].r.l.length := ⟨_, rfl⟩
      rw [← hn1] at q1
      rw [← hn2] at q2
      have htk : (l.take (k + 1)).all tameT = (decide (n1 ≤ 300) && decide (n2 ≤ 300)) := by
        rw [List.take_succ_eq_append_getElem hkl, List.all_append, hall.out, Bool.true_and]
        show (tameT l[k] && true) = _
        rw [Bool.and_true]
        unfold tameT
        rw [hn1, hn2]
      have hno : (l.take (k + 1)).all tameT = false → R = false := fun h => by
        rw [HR.out]
        unfold tameB
        cases h2 : l.all tameT with
        | false => simp
        | true =>
          have : (l.take (k + 1)).all tameT = true := List.all_eq_true.2 fun x hx => List.all_eq_true.1 h2 x (List.mem_of_mem_take hx)
          rw [h] at this; cases this
      have HTK := hide htk
      have HNO := hide hno
      have d2 : decide ((k : Int) < (l.length : Int)) = true := decide_eq_true (by omega)
      have d2' : decide (k < l.length) = true := decide_eq_true hkl
      have i0 : (0 : Int) ≤ (k : Int) := by omega
      have i1 : (k : Int) < (l.length : Int) := by omega
      have hwi : IntKind.i64.wrap ((k : Int) + 1) = (k : Int) + 1 := by rw [IntKind.wrap_i64]; omega
      have HKL := hide hkl
      clear ht e1 e2 hn1 hn2 htk hno hall hk
      by_cases h1 : n1 ≤ 300
      · have d3 : decide ((300 : Int) < (n1 : Int)) = false := decide_eq_false (by omega)
        have d3' : decide (300 < n1) = false := decide_eq_false (by omega)
        have H1 := hide h1
        clear h1
        by_cases h2 : n2 ≤ 300
        · have d4 : decide ((300 : Int) < (n2 : Int)) = false := decide_eq_false (by omega)
          have d4' : decide (300 < n2) = false := decide_eq_false (by omega)
          have H2 := hide h2
          clear h2 hkl
          go_wp2_with fail
          go_roundw
          case rel => exact ⟨trivial, k + 1, by have := HKL.out; omega, by go_num, hide (by rw [HTK.out, decide_eq_true H1.out, decide_eq_true H2.out]; rfl)⟩
          case measure => have := HKL.out; simp [intOf]; omega
        · have d4 : decide ((300 : Int) < (n2 : Int)) = true := decide_eq_true (by omega)
          have d4' : decide (300 < n2) = true := decide_eq_true (by omega)
          have e := HNO.out (by rw [HTK.out, decide_eq_false h2]; simp)
          clear h2 hkl
          subst e
          go_wp2_with fail
          go_ret
          (first | exact ⟨rfl, rfl⟩ | exact ⟨rfl, trivial⟩)
      · have d3 : decide ((300 : Int) < (n1 : Int)) = true := decide_eq_true (by omega)
        have d3' : decide (300 < n1) = true := decide_eq_true (by omega)
        have e := HNO.out (by rw [HTK.out, decide_eq_false h1]; rfl)
        clear h1 hkl
        subst e
        go_wp2_with fail
        go_ret
        (first | exact ⟨rfl, rfl⟩ | exact ⟨rfl, trivial⟩)
    · obtain rfl : k = l.length := by omega
      have e : R = true := by
        rw [HR.out]
        unfold tameB
        have h := hall.out
        rw [List.take_length] at h
        have := HL.out
        rw [h, decide_eq_true (by omega)]
        rfl
      subst e
      clear hall
      go_wp2_with fail
      go_ret
      (first | exact ⟨rfl, rfl⟩ | exact ⟨rfl, trivial⟩)
end Go.Proofs.YtfoleblcaloeoaaDoor

/- A pair out of a list. -/
namespace Go.Proofs.YtfoleblcaloeoaaDoor
open Go Go.RowKit

theorem tw_ldX {w : World} {g off n c : Nat} {l : List Tw} (h : RE twl 17 w (.slice (some ⟨g, off, none⟩) n c) l) {k : Nat} (hk : k < l.length) : (loadVar 42 ⟨g, off + k * 17, none⟩).run Tryd.prog w = .ok (.agg (clc l[k].x l[k].v)) w := by
  have := run_loadVar_mid (P := Tryd.prog) w g (off + k * 17) 42 (clc l[k].x l[k].v).toList _ (fun j v hv => by
    have hj : j < 12 := (List.getElem?_eq_some_iff.1 hv).1
    exact tw_cell h hk (j := j) (u := v) (by omega) (by unfold twl; rw [List.getElem?_append_left hj]; exact hv)) Tryd.underlying42 rfl (by rw [Array.length_toList]; exact info34)
  simpa using this
theorem tw_ldR {w : World} {g off n c : Nat} {l : List Tw} (h : RE twl 17 w (.slice (some ⟨g, off, none⟩) n c) l) {k : Nat} (hk : k < l.length) : (loadVar 45 ⟨g, off + k * 17 + 12, none⟩).run Tryd.prog w = .ok (.agg (rsc l[k].r l[k].u)) w := by
  have := run_loadVar_mid (P := Tryd.prog) w g (off + k * 17 + 12) 45 (rsc l[k].r l[k].u).toList _ (fun j v hv => by
    have hj : j < 3 := (List.getElem?_eq_some_iff.1 hv).1
    have := tw_cell h hk (j := 12 + j) (u := v) (by omega) (by
      unfold twl
      rw [List.getElem?_append_right (show (clc l[k].x l[k].v).toList.length ≤ 12 + j by show 12 ≤ 12 + j; omega)]
      rw [show 12 + j - (clc l[k].x l[k].v).toList.length = j by show 12 + j - 12 = j; omega]
      rw [List.getElem?_append_left hj]; exact hv)
    rwa [← Nat.add_assoc] at this) Tryd.underlying45 rfl (by rw [Array.length_toList]; exact infoRs)
  simpa using this
section
variable {ops : Array Oper} {rest : List Oper} {o : Oper} {a : Act} {w : World} {Q : Exit → Act → World → Prop}
theorem wp_loadAt {K : Act → World → Prop} {ty : TypeId} (z : Operand) (ho : o.op = .load ty z) {ad : Addr} (hx : a.eval z = .pointer (some ad)) {v : Value} (hl : (loadVar ty ad).run Tryd.prog w = .ok v w) (h : K (a.put o.dst v) w) : o.wp Tryd.prog a w K Q := by
  unfold Oper.wp execOp
  simp only [ho, hx, Sem.run_bind, Instr.loadAt, Instr.sureAddr, Sem.run_pure, Result.andThen_ok, hl]
  exact h
theorem wpList_loadAtW {ty : TypeId} (z : Operand) (ho : o.op = .load ty z) {ad : Addr} (hx : a.eval z = .pointer (some ad)) (hw : Region.wanted o (yielded ops a.tmps) = true) {v : Value} (hl : (loadVar ty ad).run Tryd.prog w = .ok v w) (h : wpList Tryd.prog ops Q rest (a.put o.dst v) w) : wpList Tryd.prog ops Q (o :: rest) a w :=
  wpList_step fun K hK => by
    rw [if_pos hw]
    exact wp_loadAt z ho hx hl (hK _ _ h)
theorem wpList_loadAt {ty : TypeId} (hg : o.guard = none) (z : Operand) (ho : o.op = .load ty z) {ad : Addr} (hx : a.eval z = .pointer (some ad)) {v : Value} (hl : (loadVar ty ad).run Tryd.prog w = .ok v w) (h : wpList Tryd.prog ops Q rest (a.put o.dst v) w) : wpList Tryd.prog ops Q (o :: rest) a w :=
  wpList_plain hg fun _ hk => wp_loadAt z ho hx hl (hk _ _ h)
end
end Go.Proofs.YtfoleblcaloeoaaDoor

/- Ranging over a map keyed by integers. -/
namespace Go.Proofs.YtfoleblcaloeoaaDoor
open Go Go.RowKit

/-- block r ranges over the map at b; 'left': which keys are still to come; n: how many -/
def MapIt (w : World) (b r : Nat) (k : IntKind) (f : Int → Option Value) (left : Int → Bool) (n : Nat) : Prop :=
  ∃ es clock since seen c0, w.heap[b]? = some (.map es clock) ∧ KeysI k es.toList ∧ Dist es.toList ∧ Born es.toList clock ∧ (∀ z, (mlook k z es.toList 0).map (·.2) = f z) ∧
    w.heap[r]? = some (.mapIter (some b) since seen c0) ∧ (∀ x ∈ es.toList, x.born < since) ∧ since ≤ c0 ∧ since ≤ clock ∧ (leftOf es seen).size = n ∧
    ∀ z, left z = true ↔ ∃ e ∈ es.toList, e.key = .int k z ∧ seen.contains e.born = false
section
variable {P : Program} {w w' : World} {t kt e : TypeId} {q k : IntKind} {b r n : Nat} {f : Int → Option Value} {left : Int → Bool}
theorem MapIt.map (h : MapIt w b r k f left n) : MapB w b k f := by
  obtain ⟨es, c, _, _, _, h1, h2, h3, h4, h5, _⟩ := h
  exact ⟨es, c, h1, h2, h3, h4, h5⟩
theorem MapIt.lt (h : MapIt w b r k f left n) : b < w.heap.size ∧ r < w.heap.size := by
  obtain ⟨es, c, _, _, _, h1, h2, h3, h4, h5, h6, _⟩ := h
  exact ⟨(Array.getElem?_eq_some_iff.1 h1).1, (Array.getElem?_eq_some_iff.1 h6).1⟩
theorem MapIt.chg (h : MapIt w b r k f left n) {F : List Nat} (hc : Chg F w w') (hb : b ∉ F) (hr : r ∉ F) : MapIt w' b r k f left n := by
  obtain ⟨l1, l2⟩ := h.lt
  obtain ⟨es, c, s, sn, c0, h1, h2, h3, h4, h5, h6, h7⟩ := h
  exact ⟨es, c, s, sn, c0, (hc.block b l1 hb).trans h1, h2, h3, h4, h5, (hc.block r l2 hr).trans h6, h7⟩
theorem MapIt.stay (h : MapIt w b r k f left n) (hc : Chg [] w w') : MapIt w' b r k f left n := h.chg hc List.not_mem_nil List.not_mem_nil
/-- how many are still to come, read off the world: a loop's measure -/
def itLeft (w : World) (b r : Nat) : Nat :=
  match w.heap[b]?, w.heap[r]? with
  | some (.map es _), some (.mapIter _ _ seen _) => (leftOf es seen).size
  | _, _ => 0
theorem MapIt.left_eq (h : MapIt w b r k f left n) : itLeft w b r = n := by
  obtain ⟨es, c, s, sn, c0, h1, h2, h3, h4, h5, h6, h7, h8, h9, h10, h11⟩ := h
  unfold itLeft
  rw [h1, h6]
  exact h10
theorem mlook_at {l : List MapEntry} (hd : Dist l) {z : Int} {e : MapEntry} (he : e ∈ l) (hk : e.key = .int k z) : (mlook k z l 0).map (·.2) = some e.val := by
  cases h : mlook k z l 0 with
  | none => exact absurd hk ((mlook_none _ _).1 h e he)
  | some p =>
    obtain ⟨i, v⟩ := p
    obtain ⟨j, _, hj, h1, h2⟩ := mlook_some _ _ h
    have : l[j] = e := by
      obtain ⟨a, ha, rfl⟩ := List.getElem_of_mem he
      refine Classical.byContradiction fun hne => ?_
      have hja : j ≠ a := fun e1 => hne (by subst e1; rfl)
      unfold Dist at hd
      rw [List.pairwise_iff_getElem] at hd
      rcases Nat.lt_or_gt_of_ne hja with hlt | hgt
      · exact hd j a hj ha hlt (h1.trans hk.symm)
      · exact hd a j ha hj hgt (hk.trans h1.symm)
    rw [← this, h2]; rfl
theorem run_range_int (ht : P.underlying t = some (.map kt e)) (h : MapB w b k f) :
    ∃ w' n, (Instr.range t (.map (some b))).run P w = .ok (.pointer (some ⟨w.heap.size, 0, none⟩)) w' ∧ MapIt w' b w.heap.size k f (fun z => (f z).isSome) n ∧ Chg [] w w' ∧ w'.heap.size = w.heap.size + 1 := by
  have hlt := h.lt
  obtain ⟨es, c, h1, h2, h3, h4, h5⟩ := h
  have hc := (Chg.refl [] w).alloc (.mapIter (some b) c #[] c)
  refine ⟨_, _, run_range_map w t kt e b es c ht h1, ⟨es, c, c, #[], c, (hc.block b hlt List.not_mem_nil).trans h1, h2, h3, h4, h5, heap_alloc_new w _, h4.2, Nat.le_refl _, Nat.le_refl _, rfl, fun z => ?_⟩, hc, World.size_alloc w _⟩
  constructor
  · intro hz
    replace hz : (f z).isSome = true := hz
    cases h6 : mlook k z es.toList 0 with
    | none => rw [← h5 z, h6] at hz; cases hz
    | some p =>
      obtain ⟨i, v⟩ := p
      obtain ⟨j, _, hj, h7, h8⟩ := mlook_some _ _ h6
      exact ⟨_, List.getElem_mem hj, h7, by simp⟩
  · rintro ⟨x, hx, hk, _⟩
    show (f z).isSome = true
    rw [← h5 z, mlook_at h3 hx hk]
    rfl
theorem run_next_int (h : MapIt w b r k f left n) (ty : TypeId) :
    (n = 0 ∧ (∀ z, left z = false) ∧ (Instr.next (.pointer (some ⟨r, 0, none⟩)) false ty).run P w = .ok (.tuple #[.bool false]) w) ∨
    ∃ z v w' n', left z = true ∧ f z = some v ∧ (Instr.next (.pointer (some ⟨r, 0, none⟩)) false ty).run P w = .ok (.tuple #[.bool true, .int k z, v]) w' ∧
      MapIt w' b r k f (fun y => left y && !(y == z)) n' ∧ n' < n ∧ Chg [r] w w' ∧ w'.heap.size = w.heap.size ∧ (Instr.entry (.pointer (some ⟨r, 0, none⟩))).run P w' = .ok (.tuple #[.int k z, v]) w' := by
  obtain ⟨hbl, hrl⟩ := h.lt
  obtain ⟨es, c, s, sn, c0, h1, h2, h3, h4, h5, h6, h7, h8, h9, rfl, h11⟩ := h
  have hne : r ≠ b := fun e => by rw [e, h1] at h6; cases h6
  rcases run_next_at (P := P) w ty r b s c0 sn es c h6 h1 h7 h8 with ⟨h0, hrun⟩ | ⟨x, hx, w1, hal, hrun⟩
  · refine .inl ⟨h0, fun z => ?_, hrun⟩
    cases hz : left z with
    | false => rfl
    | true =>
      obtain ⟨e, he, _, hs⟩ := (h11 z).1 hz
      rw [all_seen es sn h0 e he] at hs
      cases hs
  · obtain ⟨hxm, hxs⟩ := mem_left hx
    obtain ⟨z, hz⟩ := h2 x hxm
    have hc1 : Chg [] w w1 := by rcases hal with rfl | rfl; exact Chg.refl _ _; exact (Chg.refl [] w).drew
    have hs1 : w1.heap.size = w.heap.size := by rcases hal with rfl | rfl <;> rfl
    have hc2 : Chg [r] w (ChangeMaps.setBlock w1 r (.mapIter (some b) s (sn.push x.born) c)) := (hc1.up [r]).and_ (setBlock_chg _ _ _)
    have hbr : r < w1.heap.size := by omega
    have hb' := (hc2.block b hbl (by simp; exact fun e => hne e.symm)).trans h1
    refine .inr ⟨z, x.val, _, _, (h11 z).2 ⟨x, hxm, hz, hxs⟩, ?_, by rw [hrun, hz], ⟨es, c, s, sn.push x.born, c, hb', h2, h3, h4, h5, setBlock_heap _ _ hbr, h7, h9, h9, rfl, fun y => ?_⟩, left_shrinks es sn x hx, hc2, by simp [ChangeMaps.setBlock, hs1], ?_⟩
    · rw [← h5 z]; exact mlook_at h3 hxm hz
    · have hbn : ∀ e ∈ es.toList, e.born = x.born → e = x := fun e he heq => by
        obtain ⟨i, hi, rfl⟩ := List.getElem_of_mem he
        obtain ⟨j, hj, rfl⟩ := List.getElem_of_mem hxm
        refine Classical.byContradiction fun hne => ?_
        have hij : i ≠ j := fun e1 => hne (by subst e1; rfl)
        have hp := h4.1
        rw [List.pairwise_iff_getElem] at hp
        rcases Nat.lt_or_gt_of_ne hij with hlt | hgt
        · exact hp i j hi hj hlt heq
        · exact hp j i hj hi hgt heq.symm
      have hkn : ∀ e ∈ es.toList, e.key = .int k z → e = x := fun e he hk => by
        have e1 := mlook_at h3 he hk
        obtain ⟨i, hi, rfl⟩ := List.getElem_of_mem he
        obtain ⟨j, hj, rfl⟩ := List.getElem_of_mem hxm
        refine Classical.byContradiction fun hne => ?_
        have hij : i ≠ j := fun e1 => hne (by subst e1; rfl)
        have hp := h3
        unfold Dist at hp
        rw [List.pairwise_iff_getElem] at hp
        rcases Nat.lt_or_gt_of_ne hij with hlt | hgt
        · exact hp i j hi hj hlt (hk.trans hz.symm)
        · exact hp j i hj hi hgt (hz.trans hk.symm)
      constructor
      · intro hy
        simp only [Bool.and_eq_true, Bool.not_eq_true', beq_eq_false_iff_ne, ne_eq] at hy
        obtain ⟨e, he, hk, hs⟩ := (h11 y).1 hy.1
        refine ⟨e, he, hk, ?_⟩
        rw [contains_push, hs]
        simp only [Bool.false_or, beq_eq_false_iff_ne, ne_eq]
        intro heq
        have := hbn e he heq
        subst this
        rw [hz] at hk
        injection hk with _ hk
        exact hy.2 hk.symm
      · rintro ⟨e, he, hk, hs⟩
        rw [contains_push, Bool.or_eq_false_iff] at hs
        have h12 := (h11 y).2 ⟨e, he, hk, hs.1⟩
        show (left y && !(y == z)) = true
        rw [h12]
        simp only [Bool.true_and, Bool.not_eq_true', beq_eq_false_iff_ne, ne_eq]
        rintro rfl
        have := hkn e he hk
        subst this
        simp at hs
    · rw [← hz]
      refine run_entry_at _ r b s sn es c x (setBlock_heap _ _ hbr) hb' hxm ?_
      unfold List.Nodup
      rw [List.pairwise_map]
      exact h4.1
theorem wp_range_int {o : Oper} {a : Act} {K : Act → World → Prop} {Q : Exit → Act → World → Prop} (x : Operand) (ho : o.op = .range t x) (ht : P.underlying t = some (.map kt e)) (hx : a.eval x = .map (some b)) (h : MapB w b k f)
    (hK : ∀ w' n, MapIt w' b w.heap.size k f (fun z => (f z).isSome) n → Chg [] w w' → w'.heap.size = w.heap.size + 1 → K (a.put o.dst (.pointer (some ⟨w.heap.size, 0, none⟩))) w') : o.wp P a w K Q := by
  obtain ⟨w', n, h1, h2, h3, h4⟩ := run_range_int ht h
  unfold Oper.wp execOp
  simp only [ho, hx, Sem.run_bind, h1, Sem.run_pure, Result.andThen_ok]
  exact hK w' n h2 h3 h4
theorem wp_next_int {o : Oper} {a : Act} {K : Act → World → Prop} {Q : Exit → Act → World → Prop} (x : Operand) (ho : o.op = .next x false) (hx : a.eval x = .pointer (some ⟨r, 0, none⟩)) (h : MapIt w b r k f left n)
    (hD : n = 0 → (∀ z, left z = false) → K (a.put o.dst (.tuple #[.bool false])) w)
    (hM : ∀ z v w' n', left z = true → f z = some v → MapIt w' b r k f (fun y => left y && !(y == z)) n' → n' < n → Chg [r] w w' → w'.heap.size = w.heap.size → (Instr.entry (.pointer (some ⟨r, 0, none⟩))).run P w' = .ok (.tuple #[.int k z, v]) w' → K (a.put o.dst (.tuple #[.bool true, .int k z, v])) w') : o.wp P a w K Q := by
  unfold Oper.wp execOp
  simp only [ho, hx, Sem.run_bind]
  rcases run_next_int (P := P) h o.type with ⟨h0, h1, h2⟩ | ⟨z, v, w', n', h1, h2, h3, h4, h5, h6, h7, h8⟩
  · simp only [h2, Sem.run_pure, Result.andThen_ok]
    exact hD h0 h1
  · simp only [h3, Sem.run_pure, Result.andThen_ok]
    exact hM z v w' n' h1 h2 h4 h5 h6 h7 h8
end
end Go.Proofs.YtfoleblcaloeoaaDoor

/- Copies: of maps, of bytes. -/
namespace Go.Proofs.YtfoleblcaloeoaaDoor
open Go Go.RowKit

theorem MapB.clone {w : World} {b : Nat} {k : IntKind} {f : Int → Option Value} (h : MapB w b k f) : ∃ es clock, w.heap[b]? = some (.map es clock) ∧ MapB (w.alloc (.map es clock)) w.heap.size k f ∧ Chg [] w (w.alloc (.map es clock)) := by
  obtain ⟨es, c, h1, h2⟩ := h
  exact ⟨es, c, h1, ⟨es, c, heap_alloc_new w _, h2⟩, (Chg.refl [] w).alloc _⟩
set_option maxRecDepth 20000 in
set_option maxHeartbeats 4000000 in
theorem clone_rights {w : World} {b : Nat} {k : IntKind} {f : Int → Option Value} (h : MapB w b k f) :
    Calls Tryd.prog 25 #[.map (some b)] w fun e w' => ∃ b', e = .returned (.map (some b')) ∧ MapB w' b' k f ∧ Chg [] w w' ∧ w.heap.size ≤ b' := by
  obtain ⟨es, c, h1, h2, h3⟩ := h.clone
  have hq : ∀ W : World, (binOp .eql 61 (.map (some b)) (.map none)).run Tryd.prog W = .ok (.bool false) W := fun W => run_eql_map_nil_sl (P := Tryd.prog) W 61 _ _ (some b) Tryd.underlying61
  have hr : (callFunc 51 #[.iface 61 (.map (some b))]).run Tryd.prog w = .ok (.value (.iface 61 (.map (some w.heap.size)))) (w.alloc (.map es c)) := by
    rw [run_callFunc_extern Tryd.func51 (by kernel_rfl) (by kernel_rfl) (by kernel_rfl) (e := Extern.MapsClone.clone) (by kernel_rfl), run_maps_clone_sl w 61 h1]
    rfl
  have ha : ∀ W : World, (Instr.typeAssert (.iface 61 (.map (some w.heap.size))) 20 61 false).run Tryd.prog W = .ok (.map (some w.heap.size)) W := fun W => run_typeAssert_map_sl W 61 20 _ _ _ Tryd.underlying61
  have H := hide (And.intro h2 h3)
  clear h h1 h2 h3
  go_enter Tryd.func25, Tryd.ntmps25
  go_wp2_with fail
  go_ret
  exact ⟨_, rfl, H.out.1, H.out.2, Nat.le_refl _⟩
set_option maxRecDepth 20000 in
set_option maxHeartbeats 4000000 in
theorem clone_pol {w : World} {b : Nat} {k : IntKind} {f : Int → Option Value} (h : MapB w b k f) :
    Calls Tryd.prog 53 #[.map (some b)] w fun e w' => ∃ b', e = .returned (.map (some b')) ∧ MapB w' b' k f ∧ Chg [] w w' ∧ w.heap.size ≤ b' := by
  obtain ⟨es, c, h1, h2, h3⟩ := h.clone
  have hq : ∀ W : World, (binOp .eql 89 (.map (some b)) (.map none)).run Tryd.prog W = .ok (.bool false) W := fun W => run_eql_map_nil_sl (P := Tryd.prog) W 89 _ _ (some b) Tryd.underlying89
  have hr : (callFunc 51 #[.iface 89 (.map (some b))]).run Tryd.prog w = .ok (.value (.iface 89 (.map (some w.heap.size)))) (w.alloc (.map es c)) := by
    rw [run_callFunc_extern Tryd.func51 (by kernel_rfl) (by kernel_rfl) (by kernel_rfl) (e := Extern.MapsClone.clone) (by kernel_rfl), run_maps_clone_sl w 89 h1]
    rfl
  have ha : ∀ W : World, (Instr.typeAssert (.iface 89 (.map (some w.heap.size))) 20 89 false).run Tryd.prog W = .ok (.map (some w.heap.size)) W := fun W => run_typeAssert_map_sl W 89 20 _ _ _ Tryd.underlying89
  have H := hide (And.intro h2 h3)
  clear h h1 h2 h3
  go_enter Tryd.func53, Tryd.ntmps53
  go_wp2_with fail
  go_ret
  exact ⟨_, rfl, H.out.1, H.out.2, Nat.le_refl _⟩
theorem SB_none (w : World) : SB (w.alloc (.cells #[] 5)) (.slice (some ⟨w.heap.size, 0, none⟩) 0 0) [] := Sl_nil_new w 5 1
def NewB (w w' : World) (l : List Nat) (e : Ending) : Prop := ∃ A n c, e = .returned (.slice A n c) ∧ SB w' (.slice A n c) l ∧ ∀ k ∈ own (.slice A n c), w.heap.size ≤ k
set_option maxRecDepth 20000 in
set_option maxHeartbeats 4000000 in
theorem clone_b {w : World} {v : Value} {l : List Nat} (hv : RB w v l) (hlen : l.length ≤ 100000) :
    Calls Tryd.prog 27 #[v] w fun e w' => NewB w w' l e ∧ Chg [] w w' := by
  obtain ⟨A, c, rfl⟩ := RE.form hv
  cases A with
  | none =>
    have h0 : l = [] := by
      cases l with
      | nil => rfl
      | cons a l =>
        obtain ⟨g, off, e⟩ := RE.addr hv (by simp)
        cases e
    subst h0
    have hne : ∀ W : World, (binOp .eql 27 (.slice none 0 c) (.slice none 0 0)).run Tryd.prog W = .ok (.bool true) W := fun W => Lib.run_eql_slice_nil W 27 5 _ _ _ 0 0 Tryd.underlying27
    clear hv
    go_enter Tryd.func27, Tryd.ntmps27
    go_wp2_with fail
    go_ret
    exact ⟨⟨_, _, _, rfl, SE.nil _ _ _ _, fun _ h => (own_nil h).elim⟩, Chg.refl _ _⟩
  | some a =>
    have hne : ∀ W : World, (binOp .eql 27 (.slice (some a) l.length c) (.slice none 0 0)).run Tryd.prog W = .ok (.bool false) W := fun W => Lib.run_eql_slice_nil W 27 5 _ _ _ 0 0 Tryd.underlying27
    have HS := hide (SB_none w)
    have hca : Chg [] w (w.alloc (.cells #[] 5)) := (Chg.refl [] w).alloc _
    have HR := hide (hv.stay hca)
    have HCA := hide hca
    have HLN := hide (show ([] : List Nat).length + l.length ≤ 1000000 by simp; omega)
    clear hv hca
    go_enter Tryd.func27, Tryd.ntmps27
    go_wp2_with (at_builtin; refine wpList_append_b rfl _ _ rfl (.slice (some ⟨w.heap.size, 0, none⟩) 0 0) _ rfl rfl (l := []) (m := l) HS.out HR.out HLN.out ?_; intro A9 n9 c9 W9 hn9 hs9 hc9 hg9)
    go_ret
    refine ⟨⟨_, _, _, rfl, by simpa using hs9, fun k hk => (hg9 k hk).elim (fun h => by simp [own, Value.ownBlock] at h; omega) (fun h => by simp at h; omega)⟩, HCA.out.trans hc9 (fun k hk => .inr (by simp [own, Value.ownBlock] at hk; omega))⟩
end Go.Proofs.YtfoleblcaloeoaaDoor

/- copied (printed by genmsb.py). -/
namespace Go.Proofs.YtfoleblcaloeoaaDoor
open Go Go.RowKit

theorem bp_of (d bp bo : Nat) (p : Pr) : BP [(0, .pointer (some ⟨d, 0, none⟩)), (1, .map (some bp)), (2, .map (some bo)), (3, .agg #[.int .u8 p.pk, .int .u8 p.pm])] d bp bo p := ⟨by kernel_rfl⟩
theorem pr_load39 {w : World} {b d bp bo : Nat} {p : Pr} (h : Blk w b 91 (prc d bp bo p)) : (loadVar 39 ⟨b, 3, none⟩).run Tryd.prog w = .ok (.agg #[.int .u8 p.pk, .int .u8 p.pm]) w := by
  have hr : w.rangeAt b 3 [.int .u8 p.pk, .int .u8 p.pm] := by
    have := World.rangeAt_of_block (C := prc d bp bo p) h 3 2
    simpa [prc] using this
  exact run_loadVar_mid (P := Tryd.prog) w b 3 39 _ _ hr Tryd.underlying39 rfl info39
theorem info99 (l : List Nat) (h : l.length = 256) : (Tryd.prog.info? 99).map (·.size) = some (pgc l).size := by
  have e : (Tryd.prog.info? 99).map (·.size) = some 256 := by kernel_rfl
  rw [e]
  unfold pgc
  simp [h]
section
variable {ops : Array Oper} {rest : List Oper} {o : Oper} {a : Act} {w : World} {Q : Exit → Act → World → Prop}
theorem wpList_load99 {b : Nat} {l : List Nat} (hg : o.guard = none) (z : Operand) (ho : o.op = .load 99 z) (hx : a.eval z = .pointer (some ⟨b, 0, none⟩)) (h0 : PgB w b l) (h : wpList Tryd.prog ops Q rest (a.put o.dst (.agg (pgc l))) w) : wpList Tryd.prog ops Q (o :: rest) a w :=
  wpList_load_row hg 99 z ho b hx 99 _ (0, 0) _ h0.blk Tryd.underlying99 rfl (info99 l h0.len) h
theorem pgc_one (l : List Nat) : (pgc l).all (·.oneCell') = true := by
  unfold pgc
  simp [show ∀ k z, (Value.int k z).oneCell' = true from fun _ _ => rfl]
theorem wpList_store99 {b : Nat} {l l' : List Nat} (hg : o.guard = none) (z t : Operand) (ho : o.op = .store 99 z t) (hx : a.eval z = .pointer (some ⟨b, 0, none⟩)) (hy : a.eval t = .agg (pgc l')) (hl : l'.length = 256) (h8 : ∀ x ∈ l', x < 256) (h0 : PgB w b l)
    (h : ∀ w', PgB w' b l' → Chg [b] w w' → wpList Tryd.prog ops Q rest (a.put o.dst undef) w') : wpList Tryd.prog ops Q (o :: rest) a w :=
  wpList_store_row hg 99 z t ho b _ hx hy 99 _ h0.blk (info99 l' hl) (by unfold pgc; simp [hl, h0.len]) (pgc_one l') (h _ ⟨setRow_heap w b _ _ _ _ h0.blk, hl, h8⟩ ((Chg.refl [b] w).setRow (.inl (by simp)) _))
theorem wpList_range_int {t kt e : TypeId} {k : IntKind} {b : Nat} {f : Int → Option Value} (hg : o.guard = none) (x : Operand) (ho : o.op = .range t x) (ht : Tryd.prog.underlying t = some (.map kt e)) (hx : a.eval x = .map (some b)) (h : MapB w b k f)
    (hK : ∀ w' n, MapIt w' b w.heap.size k f (fun z => (f z).isSome) n → Chg [] w w' → w'.heap.size = w.heap.size + 1 → wpList Tryd.prog ops Q rest (a.put o.dst (.pointer (some ⟨w.heap.size, 0, none⟩))) w') : wpList Tryd.prog ops Q (o :: rest) a w :=
  wpList_plain hg fun _ hk => wp_range_int x ho ht hx h fun w' n h1 h2 h3 => hk _ _ (hK w' n h1 h2 h3)
theorem wpList_next_int {k : IntKind} {b r n : Nat} {f : Int → Option Value} {left : Int → Bool} (hg : o.guard = none) (x : Operand) (ho : o.op = .next x false) (hx : a.eval x = .pointer (some ⟨r, 0, none⟩)) (h : MapIt w b r k f left n)
    (hD : n = 0 → (∀ z, left z = false) → wpList Tryd.prog ops Q rest (a.put o.dst (.tuple #[.bool false])) w)
    (hM : ∀ z v w' n', left z = true → f z = some v → MapIt w' b r k f (fun y => left y && !(y == z)) n' → n' < n → Chg [r] w w' → w'.heap.size = w.heap.size → (Instr.entry (.pointer (some ⟨r, 0, none⟩))).run Tryd.prog w' = .ok (.tuple #[.int k z, v]) w' → wpList Tryd.prog ops Q rest (a.put o.dst (.tuple #[.bool true, .int k z, v])) w') : wpList Tryd.prog ops Q (o :: rest) a w :=
  wpList_plain hg fun _ hk => wp_next_int x ho hx h (fun h1 h2 => hk _ _ (hD h1 h2)) fun z v w' n' h1 h2 h3 h4 h5 h6 h7 => hk _ _ (hM z v w' n' h1 h2 h3 h4 h5 h6 h7)
theorem wpList_update {t kt et : TypeId} {q k : IntKind} {b : Nat} {f : Int → Option Value} (hg : o.guard = none) (x y z : Operand) (ho : o.op = .mapUpdate t x y z)
    (ht : Tryd.prog.underlying t = some (.map kt et)) (hk : Tryd.prog.underlying kt = some (.int q)) {key : Int} {val : Value} (hx : a.eval x = .map (some b)) (hy : a.eval y = .int k key) (hz : a.eval z = val) (h : MapB w b k f)
    (hK : ∀ w', MapB w' b k (fun y => if y = key then some val else f y) → Chg [b] w w' → wpList Tryd.prog ops Q rest (a.put o.dst undef) w') : wpList Tryd.prog ops Q (o :: rest) a w :=
  wpList_plain hg fun _ hkk => wp_update x y z ho ht hk hx hy hz h fun w' h1 h2 => hkk _ _ (hK w' h1 h2)
end
/-- the copy is begun: no page yet -/
structure Cp0 (w W : World) (b d bp bo : Nat) (FA : List Nat) (p : Pr) (fo : Int → Option Value) : Prop where
  chg : Chg [] w W
  blk : Blk W b 91 (prc d bp bo p)
  ar : Ar.AMem W d p.rl FA
  mp : MapB W bp .i64 fun _ => none
  mo : MapB W bo .i64 fo
  ga : ∀ k ∈ FA, w.heap.size ≤ k
  gb : w.heap.size ≤ b
  gp : w.heap.size ≤ bp
  go : w.heap.size ≤ bo
  ne : bp ≠ bo
  na : ∀ k ∈ FA, k ≠ b ∧ k ≠ bp ∧ k ≠ bo
/-- the pages that are no longer to come are copied -/
structure CpI (w W : World) (S b d bp bo r : Nat) (FA : List Nat) (p : Pr) (fo : Int → Option Value) (left : Int → Bool) (gq : Int → Nat) : Prop where
  chg : Chg [] w W
  blk : Blk W b 91 (prc d bp bo p)
  ar : Ar.AMem W d p.rl FA
  mp : MapB W bp .i64 fun z => if left z then none else (p.pg z).map fun _ => .pointer (some ⟨gq z, 0, none⟩)
  mo : MapB W bo .i64 fo
  pg : ∀ z B, left z = false → p.pg z = some B → PgB W (gq z) B ∧ S ≤ gq z
  inj : ∀ z z' B B', left z = false → left z' = false → p.pg z = some B → p.pg z' = some B' → gq z = gq z' → z = z'
  ga : ∀ k ∈ FA, w.heap.size ≤ k
  gb : w.heap.size ≤ b
  gp : w.heap.size ≤ bp
  go : w.heap.size ≤ bo
  gr : w.heap.size ≤ r
  ne : bp ≠ bo
  na : ∀ k ∈ FA, k ≠ b ∧ k ≠ bp ∧ k ≠ bo ∧ k ≠ r ∧ k < S
  nr : r ≠ b ∧ r ≠ bp ∧ r ≠ bo
  ls : b < S ∧ bp < S ∧ bo < S ∧ r < S ∧ w.heap.size ≤ S ∧ S ≤ W.heap.size
theorem Cp0.begin {w W W1 : World} {b d bp bo : Nat} {FA : List Nat} {p : Pr} {fo : Int → Option Value} (h : Cp0 w W b d bp bo FA p fo) (hc : Chg [] W W1) (hs : W1.heap.size = W.heap.size + 1) {left : Int → Bool} (hl : ∀ z, left z = (p.pg z).isSome) :
    CpI w W1 (W.heap.size + 1) b d bp bo W.heap.size FA p fo left (fun _ => 0) := by
  have l1 := h.blk.lt
  have l2 := h.mp.lt
  have l3 := h.mo.lt
  have l4 := h.ar.lt
  have l5 := h.chg.size
  refine ⟨h.chg.stay hc, h.blk.chg hc List.not_mem_nil, h.ar.stay hc, ?_, h.mo.stay hc, ?_, ?_, h.ga, h.gb, h.gp, h.go, l5, h.ne, fun k hk => ?_, ?_, ?_⟩
  · have e : (fun z => if left z then none else (p.pg z).map fun _ => Value.pointer (some ⟨0, 0, none⟩)) = fun _ => none := by
      funext z
      rw [hl z]
      cases p.pg z <;> rfl
    rw [e]
    exact h.mp.stay hc
  · intro z B h1 h2
    rw [hl z, h2] at h1
    cases h1
  · intro z z' B B' h1 h2 h3
    rw [hl z, h3] at h1
    cases h1
  · have := l4 k hk
    have := h.na k hk
    omega
  · omega
  · omega
theorem CpI.next {w W W1 : World} {S b d bp bo r : Nat} {FA : List Nat} {p : Pr} {fo : Int → Option Value} {left : Int → Bool} {gq : Int → Nat} (h : CpI w W S b d bp bo r FA p fo left gq) (hc : Chg [r] W W1) : CpI w W1 S b d bp bo r FA p fo left gq := by
  have hs := hc.size
  have hls := h.ls
  have hnr := h.nr
  have hsg : ∀ x, x ≠ r → x ∉ [r] := fun x hx hm => hx (List.mem_singleton.1 hm)
  refine { h with chg := h.chg.trans hc (fun x hx => .inr (by obtain rfl := List.mem_singleton.1 hx; exact h.gr)), blk := h.blk.chg hc (hsg _ (by omega)), ar := h.ar.chg hc (fun k hk => hsg _ (h.na k hk).2.2.2.1), mp := h.mp.chg hc (hsg _ (by omega)), mo := h.mo.chg hc (hsg _ (by omega)), pg := fun z B h1 h2 => ⟨⟨(h.pg z B h1 h2).1.blk.chg hc (hsg _ (by have := (h.pg z B h1 h2).2; omega)), (h.pg z B h1 h2).1.len, (h.pg z B h1 h2).1.b8⟩, (h.pg z B h1 h2).2⟩, ls := by omega }
theorem CpI.step {w W W1 : World} {S b d bp bo r g : Nat} {FA : List Nat} {p : Pr} {fo : Int → Option Value} {left : Int → Bool} {gq : Int → Nat} (h : CpI w W S b d bp bo r FA p fo left gq) {z : Int} {B : List Nat} (hz : left z = true) (hB : p.pg z = some B)
    (hc : Chg [bp] W W1) (hg : W.heap.size ≤ g) (hp : PgB W1 g B) (hm : MapB W1 bp .i64 fun y => if y = z then some (.pointer (some ⟨g, 0, none⟩)) else if left y then none else (p.pg y).map fun _ => .pointer (some ⟨gq y, 0, none⟩)) :
    CpI w W1 S b d bp bo r FA p fo (fun y => left y && !(y == z)) (upd gq z g) := by
  have hs := hc.size
  have hls := h.ls
  have hnr := h.nr
  have hne := h.ne
  have hbm := Blk.ne_map h.blk h.mp
  have hsg : ∀ x, x ≠ bp → x ∉ [bp] := fun x hx hm => hx (List.mem_singleton.1 hm)
  have hold : ∀ y, (left y && !(y == z)) = false → y ≠ z → left y = false := fun y h1 h2 => by
    cases hl : left y with
    | false => rfl
    | true => rw [hl, beq_false_of_ne h2] at h1; cases h1
  have hlt : ∀ y C, left y = false → p.pg y = some C → gq y < W.heap.size := fun y C h1 h2 => (h.pg y C h1 h2).1.blk.lt
  refine { h with chg := h.chg.trans hc (fun x hx => .inr (by obtain rfl := List.mem_singleton.1 hx; exact h.gp)), blk := h.blk.chg hc (hsg _ hbm), ar := h.ar.chg hc (fun k hk => hsg _ (h.na k hk).2.1), mp := ?_, mo := h.mo.chg hc (hsg _ (by omega)), pg := fun y C h1 h2 => ?_, inj := fun y y' C C' h1 h2 h3 h4 h5 => ?_, ls := by omega }
  · have e : (fun y => if y = z then some (Value.pointer (some ⟨g, 0, none⟩)) else if left y then none else (p.pg y).map fun _ => .pointer (some ⟨gq y, 0, none⟩)) = fun y => if (left y && !(y == z)) = true then none else (p.pg y).map fun _ => .pointer (some ⟨upd gq z g y, 0, none⟩) := by
      funext y
      by_cases h1 : y = z
      · subst h1
        simp [upd, hB]
      · simp [upd, h1]
    rw [← e]
    exact hm
  · by_cases h3 : y = z
    · subst h3
      obtain rfl := Option.some.inj (hB.symm.trans h2)
      rw [upd_at]
      exact ⟨hp, by omega⟩
    · rw [upd_ne _ _ h3]
      obtain ⟨k1, k2⟩ := h.pg y C (hold y h1 h3) h2
      exact ⟨⟨k1.blk.chg hc (hsg _ (by omega)), k1.len, k1.b8⟩, k2⟩
  · by_cases e1 : y = z
    · by_cases e2 : y' = z
      · rw [e1, e2]
      · rw [e1, upd_at, upd_ne _ _ e2] at h5
        have := hlt y' C' (hold y' h2 e2) h4
        omega
    · by_cases e2 : y' = z
      · rw [e2, upd_at, upd_ne _ _ e1] at h5
        have := hlt y C (hold y h1 e1) h3
        omega
      · rw [upd_ne _ _ e1, upd_ne _ _ e2] at h5
        exact h.inj y y' C C' (hold y h1 e1) (hold y' h2 e2) h3 h4 h5
theorem CpI.end_ {w W w0 : World} {S b d bp bo r b0 d0 bp0 bo0 : Nat} {FA FA0 : List Nat} {p : Pr} {fp fo : Int → Option Value} {left : Int → Bool} {gq gp : Int → Nat} (h : CpI w W S b d bp bo r FA p fo left gq) (hP : PIn w0 b0 p d0 FA0 bp0 bo0 fp fo gp) (hl : ∀ z, left z = false) :
    ∃ F, PMem W b p F ∧ ∀ k, F k → w.heap.size ≤ k := by
  have hls := h.ls
  have hmp : MapB W bp .i64 fun z => (p.pg z).map fun _ => .pointer (some ⟨gq z, 0, none⟩) := by
    have := h.mp
    simpa only [hl, Bool.false_eq_true, if_false] using this
  refine ⟨FPr p b FA bp bo gq, ⟨d, FA, bp, bo, _, fo, gq, ⟨h.blk, h.ar, hP.sp, hmp, h.mo, fun _ => rfl, hP.ho, fun n B hB => (h.pg n B (hl n) hB).1, fun n n' B B' h1 h2 => h.inj n n' B B' (hl n) (hl n') h1 h2, h.ne, hP.pk, hP.pm, hP.ow⟩, fun k hk => hk, ?_⟩, ?_⟩
  · rintro k (rfl | hk | rfl | rfl | ⟨n, B, hB, rfl⟩)
    · exact h.blk.lt
    · exact h.ar.lt k hk
    · exact h.mp.lt
    · exact h.mo.lt
    · exact (h.pg n B (hl n) hB).1.blk.lt
  · rintro k (rfl | hk | rfl | rfl | ⟨n, B, hB, rfl⟩)
    · exact h.gb
    · exact h.ga k hk
    · exact h.gp
    · exact h.go
    · have := (h.pg n B (hl n) hB).2; omega
set_option maxRecDepth 20000 in
set_option maxHeartbeats 40000000 in
theorem copied_any {w : World} {b0 : Nat} {p : Pr} {F0 : Nat → Prop} (h : PMem w b0 p F0) :
    Calls Tryd.prog 26 #[.pointer (some ⟨b0, 0, none⟩)] w fun e W' => (∃ b F, e = .returned (.pointer (some ⟨b, 0, none⟩)) ∧ PMem W' b p F ∧ ∀ k, F k → w.heap.size ≤ k) ∧ Chg [] w W' := by
  obtain ⟨d0, FA0, bp0, bo0, fp, fo, gp, hI, -, -⟩ := h
  have HI := hide (fun W (hc : Chg [] w W) => hI.cp (CP.of0 (F := fun _ => False) hc) (fun _ _ h => h))
  have l0 := hI.blk.lt
  have hmk : ∀ (t : TypeId) (W : World), (Instr.makeMap t none).run Tryd.prog W = .ok (.map (some W.heap.size)) (W.alloc (.map #[] 0)) := fun t W => run_makeMap t W
  clear hI
  go_enter Tryd.func26, Tryd.ntmps26
  go_upto_region 1 with (fail)
  go_cut [3] from 7 to 23 (fun z3 W => ∃ b d bp bo FA, z3 = .pointer (some ⟨b, 0, none⟩) ∧ Hid (Cp0 w W b d bp bo FA p fo))
  case first =>
    refine wp_region_h [0,0,0,5,6,6,0,0,0,5,6,0,0,0,5,0,6,0] [none, none, none, none, none, none, none, none, none, none, none, none, none, none, none, none, none, none] [[0,1,2,3,4,5,6,7,8,9,10,11,12,13,14,15,16,17], [0,1,2,5,3,4,6,7,8,9,10,11,12,13,14,15,16,17], [0,1,2,3,4,6,7,8,9,10,5,11,12,13,14,15,16,17]] (fun W => Chg [] w W) (by kernel_rfl) (by kernel_rfl) (by kernel_rfl) (by kernel_rfl) (fun L9 hL9 => ?_)
    have hS : Chg [] w w.drew := (Chg.refl [] w).drew
    generalize w.drew = W0 at hS ⊢
    simp only [List.mem_cons, List.mem_nil_iff, or_false] at hL9
    rcases hL9 with rfl | rfl | rfl
    · have z0 := hS.size
      simp only [picks, List.filterMap_cons, List.filterMap_nil, List.getElem?_cons_succ, List.getElem?_cons_zero]
      go_wp2_with (first | (refine wpG_hload 87 _ rfl rfl (fun w' hw' => load_ptr Tryd.underlying87 (by simpa [prc] using (HI.out w' hw').blk.cell 0)) hS ?_) | (refine wpG_hload 89 _ rfl rfl (fun w' hw' => load_map Tryd.underlying89 (by simpa [prc] using (HI.out w' hw').blk.cell 2)) hS ?_) | (refine wpG_hload 39 _ rfl rfl (fun w' hw' => pr_load39 (HI.out w' hw').blk) hS ?_) | (refine wpG_calc rfl (fun K hK => ?_)) | (refine wpG_skip ?_ ?_; (focus (simp [wantG]; done)); go_simp) | (refine wpG_take ?_ ?_; (focus (simp [wantG]; done))) | (refine wpG_pure (fun K hK => ?_); go_simp; refine hK _ _ ?_; clear hK K) | (refine wpG_deed (by decide) (fun K hK => ?_); go_simp) | (refine wpG_nil ?_))
      (refine wpG_keeps hS (fun K hK => ?_))
      go_simp
      have hal := (HI.out W0 hS).ar
      have hsl := (HI.out W0 hS).sp.len
      refine (Ar.copy_at hal (by omega)).mono ?_
      rintro e W1 ⟨dA, FA, rfl, hA, gA, hc1⟩
      have lA := hA.lt
      clear hal hsl
      have z1 := hc1.size
      replace hS : Chg [] w W1 := hS.stay hc1
      refine hK _ _ hS ?_
      clear hK K
      clear hc1
      go_wp2_with (first | (refine wpG_hload 87 _ rfl rfl (fun w' hw' => load_ptr Tryd.underlying87 (by simpa [prc] using (HI.out w' hw').blk.cell 0)) hS ?_) | (refine wpG_hload 89 _ rfl rfl (fun w' hw' => load_map Tryd.underlying89 (by simpa [prc] using (HI.out w' hw').blk.cell 2)) hS ?_) | (refine wpG_hload 39 _ rfl rfl (fun w' hw' => pr_load39 (HI.out w' hw').blk) hS ?_) | (refine wpG_calc rfl (fun K hK => ?_)) | (refine wpG_skip ?_ ?_; (focus (simp [wantG]; done)); go_simp) | (refine wpG_take ?_ ?_; (focus (simp [wantG]; done))) | (refine wpG_pure (fun K hK => ?_); go_simp; refine hK _ _ ?_; clear hK K) | (refine wpG_deed (by decide) (fun K hK => ?_); go_simp) | (refine wpG_nil ?_))
      (refine wpG_keeps hS (fun K hK => ?_))
      go_simp
      obtain ⟨W2, hW2⟩ : ∃ W, W = W1.alloc (.map #[] 0) := ⟨_, rfl⟩
      have hc2 : Chg [] W1 W2 := by rw [hW2]; exact (Chg.refl [] _).alloc _
      have hP : MapB W2 W1.heap.size .i64 (fun _ => none) := by rw [hW2]; exact MapB.new _ _
      obtain ⟨bP, hbP⟩ : ∃ b, b = W1.heap.size := ⟨_, rfl⟩
      have gP : W1.heap.size ≤ bP := Nat.le_of_eq hbP.symm
      try rw [← hW2]
      rw [← hbP] at hP ⊢
      have lP := hP.lt
      clear hW2 hbP
      have z2 := hc2.size
      replace hS : Chg [] w W2 := hS.stay hc2
      refine hK _ _ hS ?_
      clear hK K
      replace hA := hA.stay hc2
      clear hc2
      go_wp2_with (first | (refine wpG_hload 87 _ rfl rfl (fun w' hw' => load_ptr Tryd.underlying87 (by simpa [prc] using (HI.out w' hw').blk.cell 0)) hS ?_) | (refine wpG_hload 89 _ rfl rfl (fun w' hw' => load_map Tryd.underlying89 (by simpa [prc] using (HI.out w' hw').blk.cell 2)) hS ?_) | (refine wpG_hload 39 _ rfl rfl (fun w' hw' => pr_load39 (HI.out w' hw').blk) hS ?_) | (refine wpG_calc rfl (fun K hK => ?_)) | (refine wpG_skip ?_ ?_; (focus (simp [wantG]; done)); go_simp) | (refine wpG_take ?_ ?_; (focus (simp [wantG]; done))) | (refine wpG_pure (fun K hK => ?_); go_simp; refine hK _ _ ?_; clear hK K) | (refine wpG_deed (by decide) (fun K hK => ?_); go_simp) | (refine wpG_nil ?_))
      (refine wpG_keeps hS (fun K hK => ?_))
      go_simp
      refine (clone_pol (HI.out W2 hS).mo).mono ?_
      rintro e W3 ⟨bO, rfl, hQ, hc3, gQ⟩
      have lQ := hQ.lt
      have z3 := hc3.size
      replace hS : Chg [] w W3 := hS.stay hc3
      refine hK _ _ hS ?_
      clear hK K
      replace hA := hA.stay hc3
      replace hP := hP.stay hc3
      clear hc3
      have HBP := hide (bp_of dA bP bO p)
      go_wp2_with (first | (refine wpG_hload 87 _ rfl rfl (fun w' hw' => load_ptr Tryd.underlying87 (by simpa [prc] using (HI.out w' hw').blk.cell 0)) hS ?_) | (refine wpG_hload 89 _ rfl rfl (fun w' hw' => load_map Tryd.underlying89 (by simpa [prc] using (HI.out w' hw').blk.cell 2)) hS ?_) | (refine wpG_hload 39 _ rfl rfl (fun w' hw' => pr_load39 (HI.out w' hw').blk) hS ?_) | (refine wpG_keeps hS (fun K hK => ?_); refine wp_boxPr _ rfl rfl ?_; refine hK _ _ (hS.alloc _) ?_; clear hK K) | (refine wpG_calc rfl (fun K hK => ?_); refine wp_buildPr _ rfl HBP.out ?_ ?_; (focus (simp [Act.eval]; done)); refine hK _ _ ?_; clear hK K) | (refine wpG_calc rfl (fun K hK => ?_)) | (refine wpG_skip ?_ ?_; (focus (simp [wantG]; done)); go_simp) | (refine wpG_take ?_ ?_; (focus (simp [wantG]; done))) | (refine wpG_pure (fun K hK => ?_); go_simp; refine hK _ _ ?_; clear hK K) | (refine wpG_deed (by decide) (fun K hK => ?_); go_simp) | (refine wpG_nil ?_))
      go_meet
      case rel =>
        have hn : Chg [] W3 (W3.alloc (.cells (prc dA bP bO p) 91)) := (Chg.refl [] _).alloc _
        refine ⟨_, dA, bP, bO, FA, rfl, hide (Cp0.mk (hS.stay hn) (Blk.new W3 _ _) (hA.stay hn) (hP.stay hn) (hQ.stay hn) (fun k hk => ?_) ?_ ?_ ?_ ?_ (fun k hk => ?_))⟩
        · have := gA k hk; omega
        · omega
        · omega
        · omega
        · omega
        · have := gA k hk; have := lA k hk; omega
    · have z0 := hS.size
      simp only [picks, List.filterMap_cons, List.filterMap_nil, List.getElem?_cons_succ, List.getElem?_cons_zero]
      go_wp2_with (first | (refine wpG_hload 87 _ rfl rfl (fun w' hw' => load_ptr Tryd.underlying87 (by simpa [prc] using (HI.out w' hw').blk.cell 0)) hS ?_) | (refine wpG_hload 89 _ rfl rfl (fun w' hw' => load_map Tryd.underlying89 (by simpa [prc] using (HI.out w' hw').blk.cell 2)) hS ?_) | (refine wpG_hload 39 _ rfl rfl (fun w' hw' => pr_load39 (HI.out w' hw').blk) hS ?_) | (refine wpG_calc rfl (fun K hK => ?_)) | (refine wpG_skip ?_ ?_; (focus (simp [wantG]; done)); go_simp) | (refine wpG_take ?_ ?_; (focus (simp [wantG]; done))) | (refine wpG_pure (fun K hK => ?_); go_simp; refine hK _ _ ?_; clear hK K) | (refine wpG_deed (by decide) (fun K hK => ?_); go_simp) | (refine wpG_nil ?_))
      (refine wpG_keeps hS (fun K hK => ?_))
      go_simp
      obtain ⟨W1, hW1⟩ : ∃ W, W = W0.alloc (.map #[] 0) := ⟨_, rfl⟩
      have hc1 : Chg [] W0 W1 := by rw [hW1]; exact (Chg.refl [] _).alloc _
      have hP : MapB W1 W0.heap.size .i64 (fun _ => none) := by rw [hW1]; exact MapB.new _ _
      obtain ⟨bP, hbP⟩ : ∃ b, b = W0.heap.size := ⟨_, rfl⟩
      have gP : W0.heap.size ≤ bP := Nat.le_of_eq hbP.symm
      try rw [← hW1]
      rw [← hbP] at hP ⊢
      have lP := hP.lt
      clear hW1 hbP
      have z1 := hc1.size
      replace hS : Chg [] w W1 := hS.stay hc1
      refine hK _ _ hS ?_
      clear hK K
      clear hc1
      go_wp2_with (first | (refine wpG_hload 87 _ rfl rfl (fun w' hw' => load_ptr Tryd.underlying87 (by simpa [prc] using (HI.out w' hw').blk.cell 0)) hS ?_) | (refine wpG_hload 89 _ rfl rfl (fun w' hw' => load_map Tryd.underlying89 (by simpa [prc] using (HI.out w' hw').blk.cell 2)) hS ?_) | (refine wpG_hload 39 _ rfl rfl (fun w' hw' => pr_load39 (HI.out w' hw').blk) hS ?_) | (refine wpG_calc rfl (fun K hK => ?_)) | (refine wpG_skip ?_ ?_; (focus (simp [wantG]; done)); go_simp) | (refine wpG_take ?_ ?_; (focus (simp [wantG]; done))) | (refine wpG_pure (fun K hK => ?_); go_simp; refine hK _ _ ?_; clear hK K) | (refine wpG_deed (by decide) (fun K hK => ?_); go_simp) | (refine wpG_nil ?_))
      (refine wpG_keeps hS (fun K hK => ?_))
      go_simp
      have hal := (HI.out W1 hS).ar
      have hsl := (HI.out W1 hS).sp.len
      refine (Ar.copy_at hal (by omega)).mono ?_
      rintro e W2 ⟨dA, FA, rfl, hA, gA, hc2⟩
      have lA := hA.lt
      clear hal hsl
      have z2 := hc2.size
      replace hS : Chg [] w W2 := hS.stay hc2
      refine hK _ _ hS ?_
      clear hK K
      replace hP := hP.stay hc2
      clear hc2
      go_wp2_with (first | (refine wpG_hload 87 _ rfl rfl (fun w' hw' => load_ptr Tryd.underlying87 (by simpa [prc] using (HI.out w' hw').blk.cell 0)) hS ?_) | (refine wpG_hload 89 _ rfl rfl (fun w' hw' => load_map Tryd.underlying89 (by simpa [prc] using (HI.out w' hw').blk.cell 2)) hS ?_) | (refine wpG_hload 39 _ rfl rfl (fun w' hw' => pr_load39 (HI.out w' hw').blk) hS ?_) | (refine wpG_calc rfl (fun K hK => ?_)) | (refine wpG_skip ?_ ?_; (focus (simp [wantG]; done)); go_simp) | (refine wpG_take ?_ ?_; (focus (simp [wantG]; done))) | (refine wpG_pure (fun K hK => ?_); go_simp; refine hK _ _ ?_; clear hK K) | (refine wpG_deed (by decide) (fun K hK => ?_); go_simp) | (refine wpG_nil ?_))
      (refine wpG_keeps hS (fun K hK => ?_))
      go_simp
      refine (clone_pol (HI.out W2 hS).mo).mono ?_
      rintro e W3 ⟨bO, rfl, hQ, hc3, gQ⟩
      have lQ := hQ.lt
      have z3 := hc3.size
      replace hS : Chg [] w W3 := hS.stay hc3
      refine hK _ _ hS ?_
      clear hK K
      replace hP := hP.stay hc3
      replace hA := hA.stay hc3
      clear hc3
      have HBP := hide (bp_of dA bP bO p)
      go_wp2_with (first | (refine wpG_hload 87 _ rfl rfl (fun w' hw' => load_ptr Tryd.underlying87 (by simpa [prc] using (HI.out w' hw').blk.cell 0)) hS ?_) | (refine wpG_hload 89 _ rfl rfl (fun w' hw' => load_map Tryd.underlying89 (by simpa [prc] using (HI.out w' hw').blk.cell 2)) hS ?_) | (refine wpG_hload 39 _ rfl rfl (fun w' hw' => pr_load39 (HI.out w' hw').blk) hS ?_) | (refine wpG_keeps hS (fun K hK => ?_); refine wp_boxPr _ rfl rfl ?_; refine hK _ _ (hS.alloc _) ?_; clear hK K) | (refine wpG_calc rfl (fun K hK => ?_); refine wp_buildPr _ rfl HBP.out ?_ ?_; (focus (simp [Act.eval]; done)); refine hK _ _ ?_; clear hK K) | (refine wpG_calc rfl (fun K hK => ?_)) | (refine wpG_skip ?_ ?_; (focus (simp [wantG]; done)); go_simp) | (refine wpG_take ?_ ?_; (focus (simp [wantG]; done))) | (refine wpG_pure (fun K hK => ?_); go_simp; refine hK _ _ ?_; clear hK K) | (refine wpG_deed (by decide) (fun K hK => ?_); go_simp) | (refine wpG_nil ?_))
      go_meet
      case rel =>
        have hn : Chg [] W3 (W3.alloc (.cells (prc dA bP bO p) 91)) := (Chg.refl [] _).alloc _
        refine ⟨_, dA, bP, bO, FA, rfl, hide (Cp0.mk (hS.stay hn) (Blk.new W3 _ _) (hA.stay hn) (hP.stay hn) (hQ.stay hn) (fun k hk => ?_) ?_ ?_ ?_ ?_ (fun k hk => ?_))⟩
        · have := gA k hk; omega
        · omega
        · omega
        · omega
        · omega
        · have := gA k hk; have := lA k hk; omega
    · have z0 := hS.size
      simp only [picks, List.filterMap_cons, List.filterMap_nil, List.getElem?_cons_succ, List.getElem?_cons_zero]
      go_wp2_with (first | (refine wpG_hload 87 _ rfl rfl (fun w' hw' => load_ptr Tryd.underlying87 (by simpa [prc] using (HI.out w' hw').blk.cell 0)) hS ?_) | (refine wpG_hload 89 _ rfl rfl (fun w' hw' => load_map Tryd.underlying89 (by simpa [prc] using (HI.out w' hw').blk.cell 2)) hS ?_) | (refine wpG_hload 39 _ rfl rfl (fun w' hw' => pr_load39 (HI.out w' hw').blk) hS ?_) | (refine wpG_calc rfl (fun K hK => ?_)) | (refine wpG_skip ?_ ?_; (focus (simp [wantG]; done)); go_simp) | (refine wpG_take ?_ ?_; (focus (simp [wantG]; done))) | (refine wpG_pure (fun K hK => ?_); go_simp; refine hK _ _ ?_; clear hK K) | (refine wpG_deed (by decide) (fun K hK => ?_); go_simp) | (refine wpG_nil ?_))
      (refine wpG_keeps hS (fun K hK => ?_))
      go_simp
      have hal := (HI.out W0 hS).ar
      have hsl := (HI.out W0 hS).sp.len
      refine (Ar.copy_at hal (by omega)).mono ?_
      rintro e W1 ⟨dA, FA, rfl, hA, gA, hc1⟩
      have lA := hA.lt
      clear hal hsl
      have z1 := hc1.size
      replace hS : Chg [] w W1 := hS.stay hc1
      refine hK _ _ hS ?_
      clear hK K
      clear hc1
      go_wp2_with (first | (refine wpG_hload 87 _ rfl rfl (fun w' hw' => load_ptr Tryd.underlying87 (by simpa [prc] using (HI.out w' hw').blk.cell 0)) hS ?_) | (refine wpG_hload 89 _ rfl rfl (fun w' hw' => load_map Tryd.underlying89 (by simpa [prc] using (HI.out w' hw').blk.cell 2)) hS ?_) | (refine wpG_hload 39 _ rfl rfl (fun w' hw' => pr_load39 (HI.out w' hw').blk) hS ?_) | (refine wpG_calc rfl (fun K hK => ?_)) | (refine wpG_skip ?_ ?_; (focus (simp [wantG]; done)); go_simp) | (refine wpG_take ?_ ?_; (focus (simp [wantG]; done))) | (refine wpG_pure (fun K hK => ?_); go_simp; refine hK _ _ ?_; clear hK K) | (refine wpG_deed (by decide) (fun K hK => ?_); go_simp) | (refine wpG_nil ?_))
      (refine wpG_keeps hS (fun K hK => ?_))
      go_simp
      refine (clone_pol (HI.out W1 hS).mo).mono ?_
      rintro e W2 ⟨bO, rfl, hQ, hc2, gQ⟩
      have lQ := hQ.lt
      have z2 := hc2.size
      replace hS : Chg [] w W2 := hS.stay hc2
      refine hK _ _ hS ?_
      clear hK K
      replace hA := hA.stay hc2
      clear hc2
      go_wp2_with (first | (refine wpG_hload 87 _ rfl rfl (fun w' hw' => load_ptr Tryd.underlying87 (by simpa [prc] using (HI.out w' hw').blk.cell 0)) hS ?_) | (refine wpG_hload 89 _ rfl rfl (fun w' hw' => load_map Tryd.underlying89 (by simpa [prc] using (HI.out w' hw').blk.cell 2)) hS ?_) | (refine wpG_hload 39 _ rfl rfl (fun w' hw' => pr_load39 (HI.out w' hw').blk) hS ?_) | (refine wpG_calc rfl (fun K hK => ?_)) | (refine wpG_skip ?_ ?_; (focus (simp [wantG]; done)); go_simp) | (refine wpG_take ?_ ?_; (focus (simp [wantG]; done))) | (refine wpG_pure (fun K hK => ?_); go_simp; refine hK _ _ ?_; clear hK K) | (refine wpG_deed (by decide) (fun K hK => ?_); go_simp) | (refine wpG_nil ?_))
      (refine wpG_keeps hS (fun K hK => ?_))
      go_simp
      obtain ⟨W3, hW3⟩ : ∃ W, W = W2.alloc (.map #[] 0) := ⟨_, rfl⟩
      have hc3 : Chg [] W2 W3 := by rw [hW3]; exact (Chg.refl [] _).alloc _
      have hP : MapB W3 W2.heap.size .i64 (fun _ => none) := by rw [hW3]; exact MapB.new _ _
      obtain ⟨bP, hbP⟩ : ∃ b, b = W2.heap.size := ⟨_, rfl⟩
      have gP : W2.heap.size ≤ bP := Nat.le_of_eq hbP.symm
      try rw [← hW3]
      rw [← hbP] at hP ⊢
      have lP := hP.lt
      clear hW3 hbP
      have z3 := hc3.size
      replace hS : Chg [] w W3 := hS.stay hc3
      refine hK _ _ hS ?_
      clear hK K
      replace hA := hA.stay hc3
      replace hQ := hQ.stay hc3
      clear hc3
      have HBP := hide (bp_of dA bP bO p)
      go_wp2_with (first | (refine wpG_hload 87 _ rfl rfl (fun w' hw' => load_ptr Tryd.underlying87 (by simpa [prc] using (HI.out w' hw').blk.cell 0)) hS ?_) | (refine wpG_hload 89 _ rfl rfl (fun w' hw' => load_map Tryd.underlying89 (by simpa [prc] using (HI.out w' hw').blk.cell 2)) hS ?_) | (refine wpG_hload 39 _ rfl rfl (fun w' hw' => pr_load39 (HI.out w' hw').blk) hS ?_) | (refine wpG_keeps hS (fun K hK => ?_); refine wp_boxPr _ rfl rfl ?_; refine hK _ _ (hS.alloc _) ?_; clear hK K) | (refine wpG_calc rfl (fun K hK => ?_); refine wp_buildPr _ rfl HBP.out ?_ ?_; (focus (simp [Act.eval]; done)); refine hK _ _ ?_; clear hK K) | (refine wpG_calc rfl (fun K hK => ?_)) | (refine wpG_skip ?_ ?_; (focus (simp [wantG]; done)); go_simp) | (refine wpG_take ?_ ?_; (focus (simp [wantG]; done))) | (refine wpG_pure (fun K hK => ?_); go_simp; refine hK _ _ ?_; clear hK K) | (refine wpG_deed (by decide) (fun K hK => ?_); go_simp) | (refine wpG_nil ?_))
      go_meet
      case rel =>
        have hn : Chg [] W3 (W3.alloc (.cells (prc dA bP bO p) 91)) := (Chg.refl [] _).alloc _
        refine ⟨_, dA, bP, bO, FA, rfl, hide (Cp0.mk (hS.stay hn) (Blk.new W3 _ _) (hA.stay hn) (hP.stay hn) (hQ.stay hn) (fun k hk => ?_) ?_ ?_ ?_ ?_ (fun k hk => ?_))⟩
        · have := gA k hk; omega
        · omega
        · omega
        · omega
        · omega
        · have := gA k hk; have := lA k hk; omega
  obtain ⟨b, d, bp, bo, FA, rfl, h0⟩ := hcut
  have HP0 := hide (HI.out wc h0.out.chg)
  have q1 : wc.cell? ⟨b0, 1, none⟩ = some (.map (some bp0)) := by simpa [prc] using HP0.out.blk.cell 1
  have l1 := h0.out.blk.lt
  go_wp2_with (refine wpList_range_int rfl _ rfl Tryd.underlying88 rfl HP0.out.mp ?_; intro W1 n1 hit hc1 hs1; go_simp)
  have HC := hide (Cp0.begin h0.out hc1 hs1 (left := fun z => (fp z).isSome) (fun z => by show (fp z).isSome = _; rw [HP0.out.hp]; cases p.pg z <;> rfl))
  have HIT := hide hit
  obtain ⟨r, hr⟩ : ∃ r, r = wc.heap.size := ⟨_, rfl⟩
  rw [← hr] at HC HIT ⊢
  obtain ⟨S, hS⟩ : ∃ S, S = r + 1 := ⟨_, rfl⟩
  rw [← hS] at HC
  clear hit hc1 hs1 q1 l1 l0 h0 hr hS HP0
  go_loopw [] (fun wr => ∃ left gq n, Hid (CpI w wr S b d bp bo r FA p fo left gq) ∧ Hid (MapIt wr bp0 r .i64 fp left n)) (fun wr => itLeft wr bp0 r)
  case atStart => exact ⟨_, _, _, HC, HIT⟩
  case round =>
    obtain ⟨left, gq, n, hcp, hit⟩ := hrel
    have hm0 := hit.out.left_eq
    have HP := hide (HI.out wr hcp.out.chg)
    go_wp2_with (refine wpList_next_int rfl _ rfl rfl hit.out ?_ ?_)
    · intro h1 h2
      have HE := hide (hcp.out.end_ HP.out h2)
      have HCC := hide hcp.out.chg
      have lb := hcp.out.blk.lt
      clear hcp hit hm0 HP
      go_wp2_with fail
      go_ret
      obtain ⟨F, k1, k2⟩ := HE.out
      exact ⟨⟨_, F, rfl, k1, k2⟩, HCC.out⟩
    · intro z v w' n' h1 h2 h3 h4 h5 h6 h7
      obtain ⟨B, hB, rfl⟩ : ∃ B, p.pg z = some B ∧ v = .pointer (some ⟨gp z, 0, none⟩) := by
        rw [HP.out.hp] at h2
        cases hB : p.pg z with
        | none => rw [hB] at h2; cases h2
        | some B => rw [hB] at h2; exact ⟨B, rfl, (Option.some.inj h2).symm⟩
      have HC1 := hide (hcp.out.next h5)
      have HPG := hide ((HI.out w' HC1.out.chg).pg z B hB)
      have HB := hide hB
      have HZ := hide h1
      have HIT1 := hide h3
      have q1 : w'.cell? ⟨b, 1, none⟩ = some (.map (some bp)) := by simpa [prc] using HC1.out.blk.cell 1
      have l1 := HC1.out.blk.lt
      have lg := HPG.out.blk.lt
      have hlt := h4
      clear hcp hit HP hB h1 h2 h3 h4 h5 h6
      go_wp2_with (first | (refine wpList_load99 rfl _ rfl rfl HPG.out ?_) | (refine wpList_alloc99 rfl rfl ?_; go_simp) | (refine wpList_store99 rfl _ _ rfl rfl rfl HPG.out.len HPG.out.b8 (PgB.new w') ?_; intro W2 hp2 hc2; have q2 : W2.cell? ⟨b, 1, none⟩ = some (.map (some bp)) := (Blk.chg ((HC1.out.blk).alloc _) hc2 (by simp; omega)).cell 1) | (refine wpList_update rfl _ _ _ rfl Tryd.underlying88 Tryd.underlying3 rfl rfl rfl (MapB.chg (HC1.out.mp.stay ((Chg.refl [] w').alloc _)) hc2 (by have := HC1.out.mp.lt; simp; omega)) ?_; intro W3 hm3 hc3))
      have lbp := HC1.out.mp.lt
      have lb0 := (HI.out w (Chg.refl _ _)).mp.lt
      have gbp := HC1.out.gp
      have hcA : Chg [] w' W2 := ((Chg.refl [] w').alloc _).trans hc2 (fun x hx => .inr (by obtain rfl := List.mem_singleton.1 hx; exact Nat.le_refl _))
      have hcB : Chg [bp] w' W3 := (hcA.up [bp]).trans hc3 (fun x hx => .inl hx)
      have HST := hide (HC1.out.step (W1 := W3) (g := w'.heap.size) HZ.out HB.out hcB (Nat.le_refl _) ⟨hp2.blk.chg hc3 (by simp; omega), hp2.len, hp2.b8⟩ hm3)
      have HI2 := hide (HIT1.out.chg hcB (by simp; omega) (by simpa using HC1.out.nr.2.1))
      go_roundw
      case rel =>
        (repeat apply Exists.intro)
        refine ⟨⟨_, _, _, HST, HI2⟩, rfl⟩
      case measure => rw [hm0, HI2.out.left_eq]; exact hlt
end Go.Proofs.YtfoleblcaloeoaaDoor
