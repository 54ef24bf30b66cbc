/- The document's Wrong (printed by genw.py). -/
import Derived.Test.YtinlpjgjjplceaaDoorCcK
import Derived.Test.YtinlpjgjjplceaaDoorCbC
import Derived.Test.YtinlpjgjjplceaaDoorCcB
import Derived.Test.YtinlpjgjjplceaaDoorPoC
import Derived.Deep.CutRange
import Derived.Deep.CutBlock
namespace Go.Proofs.YtinlpjgjjplceaaDoor
open Go Go.RowKit

/-- the world of a walk -/
structure WR (w W : World) (c : Cf) (x : Cl) (v : Value) : Prop where
  cfg : CB W w.heap.size c
  kb : KB W (w.heap.size + 1) x v
  chg : Chg [] w W
theorem WR.stay {w W W' : World} {c : Cf} {x : Cl} {v : Value} (h : WR w W c x v) (hc : Chg [] W W') : WR w W' c x v :=
  ⟨Blk.chg h.cfg hc List.not_mem_nil, KB.stay h.kb hc, h.chg.stay hc⟩
set_option maxRecDepth 20000 in
set_option maxHeartbeats 40000000 in
theorem rWrongK_any {w : World} (c : Cf) {x : Cl} {v : Value} (hx : x.Ok) (hv : RB w v x.l) :
    Calls Tryd.prog 13 #[.agg (cg c), .agg (clc x v)] w fun e w' => e = .returned (.bool (rWrongK c x)) ∧ Chg [] w w' := by
  obtain ⟨A0, c0, rfl⟩ := RE.form hv
  obtain ⟨W2, hW2⟩ : ∃ W2, W2 = (w.alloc (.cells (cg c) 26)).alloc (.cells (clc x (.slice A0 x.l.length c0)) 34) := ⟨_, rfl⟩
  have hc1 : Chg [] w W2 := by rw [hW2]; exact ((Chg.refl [] w).alloc _).alloc _
  have hb1 : CB W2 w.heap.size c := by rw [hW2]; exact (Blk.new w 26 _).alloc _
  have hb2 : KB W2 (w.heap.size + 1) x (.slice A0 x.l.length c0) := by
    have := Blk.new (w.alloc (.cells (cg c) 26)) 34 (clc x (.slice A0 x.l.length c0))
    rw [World.size_alloc] at this
    rw [hW2]
    exact this
  have HM := hide (fun W (h : Chg [] w W) => rMayK_any hx (hv.stay h))
  have HCM := hide (fun W => rMay_any c W)
  have HB := hide (And.intro hb1 hb2)
  have HC := hide hc1
  have HW2 := hide hW2
  have HX := hide hx
  clear hx hv hb1 hb2 hc1 hW2
  by_cases hmc : mayB c = true
  case neg =>
    have hr : rWrongK c x = true := by unfold rWrongK; simp [hmc]
    rw [hr]
    have hm0 : mayB c = false := by simpa using hmc
    rw [hm0] at HCM
    clear hr hmc hm0
    go_enter Tryd.func13, Tryd.ntmps13
    go_wp2_with (first | (refine wpList_box26 rfl _ rfl rfl ?_) | (refine wpList_box34 rfl _ rfl rfl ?_; try simp only [World.size_alloc]; try rw [← HW2.out]) | (refine wpList_load26L (b := w.heap.size) (c := c) rfl _ rfl rfl ?_ ?_; (focus exact HB.out.1)))
    refine (HCM.out _).mono ?_
    rintro e W3 ⟨rfl, hc3⟩
    have HC3 := hide hc3
    clear hc3
    go_wp2_with fail
    go_ret
    exact ⟨rfl, HC.out.stay HC3.out⟩
  rw [hmc] at HCM
  have HMC := hide hmc
  clear hmc
  by_cases hmk : mayR x = true
  case neg =>
    have hr : rWrongK c x = true := by unfold rWrongK; simp [hmk]
    rw [hr]
    have hm0 : mayR x = false := by simpa using hmk
    rw [hm0] at HM
    clear hr hmk hm0
    go_enter Tryd.func13, Tryd.ntmps13
    go_wp2_with (first | (refine wpList_box26 rfl _ rfl rfl ?_) | (refine wpList_box34 rfl _ rfl rfl ?_; try simp only [World.size_alloc]; try rw [← HW2.out]) | (refine wpList_load26L (b := w.heap.size) (c := c) rfl _ rfl rfl ?_ ?_; (focus exact HB.out.1)))
    refine (HCM.out _).mono ?_
    rintro e W3 ⟨rfl, hc3⟩
    have HC3 := hide hc3
    clear hc3
    go_wp2_with (first | (refine wpList_load34W (b := w.heap.size + 1) _ rfl rfl ?_ (KB.stay HB.out.2 HC3.out) ?_; (focus (simp [Region.wanted, yielded]; done))))
    refine (HM.out _ (HC.out.stay HC3.out)).mono ?_
    rintro e W4 ⟨rfl, hc4⟩
    have HC4 := hide hc4
    clear hc4
    go_wp2_with fail
    go_ret
    exact ⟨rfl, (HC.out.stay HC3.out).stay HC4.out⟩
  rw [hmk] at HM
  have HR0 := hide (show rWrongK c x = rwK c x by unfold rWrongK; rw [HMC.out, hmk]; rfl)
  have HKL := hide (isK_lt (mayK_isK (show mayK x = true by rw [← mayR_eq HX.out]; exact hmk)))
  clear hmk
  go_enter Tryd.func13, Tryd.ntmps13
  go_wp2_with (first | (refine wpList_box26 rfl _ rfl rfl ?_) | (refine wpList_box34 rfl _ rfl rfl ?_; try simp only [World.size_alloc]; try rw [← HW2.out]) | (refine wpList_load26L (b := w.heap.size) (c := c) rfl _ rfl rfl ?_ ?_; (focus exact HB.out.1)))
  refine (HCM.out _).mono ?_
  rintro e W3 ⟨rfl, hc3⟩
  have HC3 := hide hc3
  clear hc3
  go_wp2_with (first | (refine wpList_load34W (b := w.heap.size + 1) _ rfl rfl ?_ (KB.stay HB.out.2 HC3.out) ?_; (focus (simp [Region.wanted, yielded]; done))))
  refine (HM.out _ (HC.out.stay HC3.out)).mono ?_
  rintro e W4 ⟨rfl, hc4⟩
  have HS : Hid (WR w W4 c x (.slice A0 x.l.length c0)) := hide ⟨Blk.chg (Blk.chg HB.out.1 HC3.out List.not_mem_nil) hc4 List.not_mem_nil, KB.stay (KB.stay HB.out.2 HC3.out) hc4, (HC.out.stay HC3.out).stay hc4⟩
  clear hc4 HC3 HB HM HCM HC HW2
  go_upto_region 3 with (fail)
  obtain ⟨nd, hnd⟩ : ∃ z, z = ndB c x := ⟨_, rfl⟩
  have HND := hide hnd
  clear hnd
  go_cut [5] from 17 to 26 (fun z wc => z = .bool nd ∧ WR w wc c x (.slice A0 x.l.length c0))
  case first =>
    obtain ⟨-, -, q2, -, -, -, -, -, -, -, -, -, ql, -⟩ := KB.cells HS.out.kb
    have qc := CB.get HS.out.cfg (i := 0) (by omega)
    by_cases h : x.n < 0
    · have d : decide (x.n < 0) = true := decide_eq_true h
      have hr : nd = true := by rw [HND.out]; unfold ndB; exact decide_eq_true (.inl h)
      have HRR := hide hr
      clear h hr
      go_wp2_with fail
      go_meet
      case rel => exact ⟨congrArg Value.bool HRR.out.symm, HS.out⟩
    · have d : decide (x.n < 0) = false := decide_eq_false h
      have hr : nd = decide (c 0 ≤ x.n) := by rw [HND.out]; unfold ndB; simp [h]
      have HRR := hide hr
      clear h hr
      go_wp2_with fail
      go_meet
      case rel => exact ⟨congrArg Value.bool HRR.out.symm, HS.out⟩
  obtain ⟨rfl, h5⟩ := hcut
  clear HS
  have HS := hide h5
  clear h5
  obtain ⟨-, -, -, q3, q4, -, -, -, -, -, -, -, ql, -⟩ := KB.cells HS.out.kb
  go_wp2_with fail
  refine (rPages_any x.g x.c _).mono ?_
  rintro e W5 ⟨rfl, hc5⟩
  have HS5 := hide (HS.out.stay hc5)
  clear HS hc5 q3 q4 ql
  obtain ⟨pg, hpg⟩ : ∃ z, z = pgs x.g x.c := ⟨_, rfl⟩
  rw [← hpg]
  have HPG := hide (show pg = pgB x from hpg)
  clear hpg
  have HS := hide HS5.out
  clear HS5
  obtain ⟨q0, -, -, q3, -, q5, q6, q7, -, -, -, q11, ql, -⟩ := KB.cells HS.out.kb
  go_upto_region 6 with (fail)
  obtain ⟨sz0, hsz0⟩ : ∃ z : Int, z = x.s := ⟨_, rfl⟩
  rw [← hsz0]
  have HSZ0 := hide hsz0
  clear hsz0
  have HRL := hide HX.out.r
  by_cases hk9 : x.k = 9
  · have HSZ1 := hide (show rSize x = (x.l.length : Int) by unfold rSize; rw [if_pos (.inl hk9)])
    have hk := hk9
    rw [hk] at q0
    go_upto_region 8 with (fail)
    clear q0 q3 q5 q6 q7 q11 ql HSZ0
    generalize (x.l.length : Int) = sz1 at HSZ1 ⊢
    obtain ⟨sz2, hsz⟩ : ∃ z : Int, z = sz1 := ⟨_, rfl⟩
    rw [← hsz]
    have HSZ := hide (show sz2 = rSize x from hsz.trans HSZ1.out.symm)
    clear hsz HSZ1
    obtain ⟨fw, hfw⟩ : ∃ z, z = fewB x := ⟨_, rfl⟩
    have HFW := hide (show fw = decide (sz2 < 1 ∨ 8 < sz2) by rw [hfw]; unfold fewB; rw [HSZ.out])
    have HFX := hide hfw
    clear hfw
    go_cut [8] from 46 to 51 (fun z wc => z = .bool fw ∧ WR w wc c x (.slice A0 x.l.length c0))
    case first =>
      by_cases h : sz2 < 1
      · have d : decide (sz2 < 1) = true := decide_eq_true h
        have HRR := hide (show fw = true by rw [HFW.out]; exact decide_eq_true (.inl h))
        clear h
        go_wp2_with fail
        go_meet
        case rel => exact ⟨congrArg Value.bool HRR.out.symm, HS.out⟩
      · have d : decide (sz2 < 1) = false := decide_eq_false h
        have HRR := hide (show fw = decide (8 < sz2) by rw [HFW.out]; simp [h])
        clear h
        go_wp2_with fail
        go_meet
        case rel => exact ⟨congrArg Value.bool HRR.out.symm, HS.out⟩
    obtain ⟨rfl, h5⟩ := hcut
    clear HS
    have HS := hide h5
    clear h5
    obtain ⟨q0, -, -, q3, -, q5, q6, q7, -, -, -, q11, ql, -⟩ := KB.cells HS.out.kb
    rw [hk] at q0
    have HRR := hide (show rWrongK c x = (fw || decide (x.a < 0 ∨ 262144 ≤ x.a ∨ x.a / 256 ≠ (x.a + sz2 - 1) / 256)) by rw [HR0.out]; unfold rwK; simp only [hk]; unfold r8B; rw [HFX.out, HSZ.out])
    clear hk
    cases fw with
    | true =>
      go_wp2_with fail
      go_ret
      exact ⟨congrArg (fun b => Ending.returned (.bool b)) (by first | (rw [HRR.out]; done) | (rw [HRR.out]; simp; done)), HS.out.chg⟩
    | false =>
      by_cases h1 : x.a < 0
      · have dh1 : decide (x.a < 0) = true := decide_eq_true h1
        have H1 := hide h1
        clear h1
        go_wp2_with fail
        go_ret
        exact ⟨congrArg (fun b => Ending.returned (.bool b)) (by first | (rw [HRR.out]; done) | (rw [HRR.out]; simp; done) | (have gH1 := H1.out; rw [HRR.out, Bool.eq_iff_iff]; simp; omega)), HS.out.chg⟩
      · have dh1 : decide (x.a < 0) = false := decide_eq_false h1
        have H1 := hide h1
        by_cases h2 : 262144 ≤ x.a
        · have dh2 : decide (262144 ≤ x.a) = true := decide_eq_true h2
          have H2 := hide h2
          clear h2
          clear h1
          go_wp2_with fail
          go_ret
          exact ⟨congrArg (fun b => Ending.returned (.bool b)) (by first | (rw [HRR.out]; done) | (rw [HRR.out]; simp; done) | (have gH1 := H1.out; have gH2 := H2.out; rw [HRR.out, Bool.eq_iff_iff]; simp; omega)), HS.out.chg⟩
        · have dh2 : decide (262144 ≤ x.a) = false := decide_eq_false h2
          have H2 := hide h2
          have hz : 1 ≤ sz2 ∧ sz2 ≤ 8 := by have := of_decide_eq_false HFW.out.symm; omega
          have e1 : wrap64 (x.a.tdiv 256) = x.a / 256 := by rw [Int.tdiv_eq_ediv_of_nonneg (by omega)]; unfold wrap64; omega
          have e2 : wrap64 (x.a + sz2) = x.a + sz2 := by unfold wrap64; omega
          have e3 : wrap64 (x.a + sz2 - 1) = x.a + sz2 - 1 := by unfold wrap64; omega
          have e4 : wrap64 ((x.a + sz2 - 1).tdiv 256) = (x.a + sz2 - 1) / 256 := by rw [Int.tdiv_eq_ediv_of_nonneg (by omega)]; unfold wrap64; omega
          clear h1 h2 hz
          go_wp2_with fail
          go_ret
          exact ⟨congrArg (fun b => Ending.returned (.bool b)) (by first | (rw [HRR.out]; done) | (rw [HRR.out]; simp; done) | (have gH1 := H1.out; have gH2 := H2.out; rw [HRR.out, Bool.eq_iff_iff]; simp; omega)), HS.out.chg⟩
  by_cases hk13 : x.k = 13
  · have HSZ1 := hide (show rSize x = (x.l.length : Int) by unfold rSize; rw [if_pos (.inr hk13)])
    have hk := hk13
    rw [hk] at q0
    go_upto_region 8 with (fail)
    clear q0 q3 q5 q6 q7 q11 ql HSZ0
    generalize (x.l.length : Int) = sz1 at HSZ1 ⊢
    obtain ⟨sz2, hsz⟩ : ∃ z : Int, z = sz1 := ⟨_, rfl⟩
    rw [← hsz]
    have HSZ := hide (show sz2 = rSize x from hsz.trans HSZ1.out.symm)
    clear hsz HSZ1
    obtain ⟨fw, hfw⟩ : ∃ z, z = fewB x := ⟨_, rfl⟩
    have HFW := hide (show fw = decide (sz2 < 1 ∨ 8 < sz2) by rw [hfw]; unfold fewB; rw [HSZ.out])
    have HFX := hide hfw
    clear hfw
    go_cut [8] from 46 to 51 (fun z wc => z = .bool fw ∧ WR w wc c x (.slice A0 x.l.length c0))
    case first =>
      by_cases h : sz2 < 1
      · have d : decide (sz2 < 1) = true := decide_eq_true h
        have HRR := hide (show fw = true by rw [HFW.out]; exact decide_eq_true (.inl h))
        clear h
        go_wp2_with fail
        go_meet
        case rel => exact ⟨congrArg Value.bool HRR.out.symm, HS.out⟩
      · have d : decide (sz2 < 1) = false := decide_eq_false h
        have HRR := hide (show fw = decide (8 < sz2) by rw [HFW.out]; simp [h])
        clear h
        go_wp2_with fail
        go_meet
        case rel => exact ⟨congrArg Value.bool HRR.out.symm, HS.out⟩
    obtain ⟨rfl, h5⟩ := hcut
    clear HS
    have HS := hide h5
    clear h5
    obtain ⟨q0, -, -, q3, -, q5, q6, q7, -, -, -, q11, ql, -⟩ := KB.cells HS.out.kb
    rw [hk] at q0
    have HRR := hide (show rWrongK c x = (fw || decide (x.a < 0 ∨ 128 < x.a ∨ 128 < x.a + sz2)) by rw [HR0.out]; unfold rwK; simp only [hk]; unfold r12B; rw [HFX.out, HSZ.out])
    clear hk
    cases fw with
    | true =>
      go_wp2_with fail
      go_ret
      exact ⟨congrArg (fun b => Ending.returned (.bool b)) (by first | (rw [HRR.out]; done) | (rw [HRR.out]; simp; done)), HS.out.chg⟩
    | false =>
      by_cases h1 : x.a < 0
      · have dh1 : decide (x.a < 0) = true := decide_eq_true h1
        have H1 := hide h1
        clear h1
        go_wp2_with fail
        go_ret
        exact ⟨congrArg (fun b => Ending.returned (.bool b)) (by first | (rw [HRR.out]; done) | (rw [HRR.out]; simp; done) | (have gH1 := H1.out; rw [HRR.out, Bool.eq_iff_iff]; simp; omega)), HS.out.chg⟩
      · have dh1 : decide (x.a < 0) = false := decide_eq_false h1
        have H1 := hide h1
        by_cases h2 : 128 < x.a
        · have dh2 : decide (128 < x.a) = true := decide_eq_true h2
          have H2 := hide h2
          clear h2
          clear h1
          go_wp2_with fail
          go_ret
          exact ⟨congrArg (fun b => Ending.returned (.bool b)) (by first | (rw [HRR.out]; done) | (rw [HRR.out]; simp; done) | (have gH1 := H1.out; have gH2 := H2.out; rw [HRR.out, Bool.eq_iff_iff]; simp; omega)), HS.out.chg⟩
        · have dh2 : decide (128 < x.a) = false := decide_eq_false h2
          have H2 := hide h2
          have hz : 1 ≤ sz2 ∧ sz2 ≤ 8 := by have := of_decide_eq_false HFW.out.symm; omega
          have e2 : wrap64 (x.a + sz2) = x.a + sz2 := by unfold wrap64; omega
          clear h1 h2 hz
          go_wp2_with fail
          go_ret
          exact ⟨congrArg (fun b => Ending.returned (.bool b)) (by first | (rw [HRR.out]; done) | (rw [HRR.out]; simp; done) | (have gH1 := H1.out; have gH2 := H2.out; rw [HRR.out, Bool.eq_iff_iff]; simp; omega)), HS.out.chg⟩
  have HSZ := hide (show sz0 = rSize x by unfold rSize; rw [if_neg (by omega), HSZ0.out])
  have HK9 := hide (And.intro hk9 hk13)
  obtain ⟨k0, hk0⟩ : ∃ z : Int, z = (x.k : Int) := ⟨_, rfl⟩
  have e9 : (k0 == 9) = false := beq_false_of_ne (by omega)
  have e13 : (k0 == 13) = false := beq_false_of_ne (by omega)
  have e9' : ¬ k0 = 9 := by omega
  have e13' : ¬ k0 = 13 := by omega
  rw [← hk0] at q0
  have HK0 := hide hk0
  clear hk9 hk13 hk0
  go_upto_region 8 with (fail)
  clear e9 e13 e9' e13' q0 q3 q5 q6 q7 q11 ql
  rw [HK0.out]
  clear HK0 k0
  obtain ⟨fw, hfw⟩ : ∃ z, z = fewB x := ⟨_, rfl⟩
  have HFW := hide (show fw = decide (sz0 < 1 ∨ 8 < sz0) by rw [hfw]; unfold fewB; rw [HSZ.out])
  have HFX := hide hfw
  clear hfw
  go_cut [8] from 46 to 51 (fun z wc => z = .bool fw ∧ WR w wc c x (.slice A0 x.l.length c0))
  case first =>
    by_cases h : sz0 < 1
    · have d : decide (sz0 < 1) = true := decide_eq_true h
      have HRR := hide (show fw = true by rw [HFW.out]; exact decide_eq_true (.inl h))
      clear h
      go_wp2_with fail
      go_meet
      case rel => exact ⟨congrArg Value.bool HRR.out.symm, HS.out⟩
    · have d : decide (sz0 < 1) = false := decide_eq_false h
      have HRR := hide (show fw = decide (8 < sz0) by rw [HFW.out]; simp [h])
      clear h
      go_wp2_with fail
      go_meet
      case rel => exact ⟨congrArg Value.bool HRR.out.symm, HS.out⟩
  obtain ⟨rfl, h5⟩ := hcut
  clear HS
  have HS := hide h5
  clear h5
  obtain ⟨q0, -, -, q3, -, q5, q6, q7, -, -, -, q11, ql, -⟩ := KB.cells HS.out.kb
  rcases (by have := HKL.out; have := HK9.out; omega : x.k = 1 ∨ x.k = 2 ∨ x.k = 3 ∨ x.k = 4 ∨ x.k = 5 ∨ x.k = 6 ∨ x.k = 7 ∨ x.k = 8 ∨ x.k = 10 ∨ x.k = 11 ∨ x.k = 12 ∨ x.k = 14 ∨ x.k = 15 ∨ x.k = 16 ∨ x.k = 17 ∨ x.k = 18 ∨ x.k = 19 ∨ x.k = 20 ∨ x.k = 21) with hk | hk | hk | hk | hk | hk | hk | hk | hk | hk | hk | hk | hk | hk | hk | hk | hk | hk | hk
  · rw [hk] at q0
    have HRR := hide (show rWrongK c x = (false) by rw [HR0.out]; unfold rwK; simp only [hk])
    clear hk
    go_wp2_with fail
    go_ret
    exact ⟨congrArg (fun b => Ending.returned (.bool b)) HRR.out.symm, HS.out.chg⟩
  · rw [hk] at q0
    have HRR := hide (show rWrongK c x = (false) by rw [HR0.out]; unfold rwK; simp only [hk])
    clear hk
    go_wp2_with fail
    go_ret
    exact ⟨congrArg (fun b => Ending.returned (.bool b)) HRR.out.symm, HS.out.chg⟩
  · rw [hk] at q0
    have HRR := hide (show rWrongK c x = (!pg || decide (x.r < 1 ∨ 3 < x.r)) by rw [HR0.out]; unfold rwK; simp only [hk]; rw [HPG.out])
    clear hk
    obtain ⟨r0, hr0⟩ : ∃ z : Int, z = (x.r : Int) := ⟨_, rfl⟩
    rw [← hr0] at q7
    have HRD := hide (show decide (x.r < 1 ∨ 3 < x.r) = decide (r0 < 1 ∨ 3 < r0) by rw [hr0, decide_eq_decide]; omega)
    rw [HRD.out] at HRR
    clear hr0 HRD
    cases pg with
    | false =>
      go_wp2_with fail
      go_ret
      exact ⟨congrArg (fun b => Ending.returned (.bool b)) (by first | (rw [HRR.out]; done) | (rw [HRR.out]; simp; done)), HS.out.chg⟩
    | true =>
      by_cases h1 : r0 < 1
      · have dh1 : decide (r0 < 1) = true := decide_eq_true h1
        have H1 := hide h1
        clear h1
        go_wp2_with fail
        go_ret
        exact ⟨congrArg (fun b => Ending.returned (.bool b)) (by first | (rw [HRR.out]; done) | (rw [HRR.out]; simp; done) | (have gH1 := H1.out; rw [HRR.out, Bool.eq_iff_iff]; simp; omega)), HS.out.chg⟩
      · have dh1 : decide (r0 < 1) = false := decide_eq_false h1
        have H1 := hide h1
        clear h1
        by_cases h2 : 3 < r0
        · have dh2 : decide (3 < r0) = true := decide_eq_true h2
          have H2 := hide h2
          clear h2
          go_wp2_with fail
          go_ret
          exact ⟨congrArg (fun b => Ending.returned (.bool b)) (by first | (rw [HRR.out]; done) | (rw [HRR.out]; simp; done) | (have gH1 := H1.out; have gH2 := H2.out; rw [HRR.out, Bool.eq_iff_iff]; simp; omega)), HS.out.chg⟩
        · have dh2 : decide (3 < r0) = false := decide_eq_false h2
          have H2 := hide h2
          clear h2
          go_wp2_with fail
          go_ret
          exact ⟨congrArg (fun b => Ending.returned (.bool b)) (by first | (rw [HRR.out]; done) | (rw [HRR.out]; simp; done) | (have gH1 := H1.out; have gH2 := H2.out; rw [HRR.out, Bool.eq_iff_iff]; simp; omega)), HS.out.chg⟩
  · rw [hk] at q0
    have HRR := hide (show rWrongK c x = (!pg) by rw [HR0.out]; unfold rwK; simp only [hk]; rw [HPG.out])
    clear hk
    go_wp2_with fail
    go_ret
    exact ⟨congrArg (fun b => Ending.returned (.bool b)) (by first | (rw [HRR.out]; done) | (rw [HRR.out]; simp; done)), HS.out.chg⟩
  · rw [hk] at q0
    have HRR := hide (show rWrongK c x = (!pg || decide (x.r < 1 ∨ 3 < x.r)) by rw [HR0.out]; unfold rwK; simp only [hk]; rw [HPG.out])
    clear hk
    obtain ⟨r0, hr0⟩ : ∃ z : Int, z = (x.r : Int) := ⟨_, rfl⟩
    rw [← hr0] at q7
    have HRD := hide (show decide (x.r < 1 ∨ 3 < x.r) = decide (r0 < 1 ∨ 3 < r0) by rw [hr0, decide_eq_decide]; omega)
    rw [HRD.out] at HRR
    clear hr0 HRD
    cases pg with
    | false =>
      go_wp2_with fail
      go_ret
      exact ⟨congrArg (fun b => Ending.returned (.bool b)) (by first | (rw [HRR.out]; done) | (rw [HRR.out]; simp; done)), HS.out.chg⟩
    | true =>
      by_cases h1 : r0 < 1
      · have dh1 : decide (r0 < 1) = true := decide_eq_true h1
        have H1 := hide h1
        clear h1
        go_wp2_with fail
        go_ret
        exact ⟨congrArg (fun b => Ending.returned (.bool b)) (by first | (rw [HRR.out]; done) | (rw [HRR.out]; simp; done) | (have gH1 := H1.out; rw [HRR.out, Bool.eq_iff_iff]; simp; omega)), HS.out.chg⟩
      · have dh1 : decide (r0 < 1) = false := decide_eq_false h1
        have H1 := hide h1
        clear h1
        by_cases h2 : 3 < r0
        · have dh2 : decide (3 < r0) = true := decide_eq_true h2
          have H2 := hide h2
          clear h2
          go_wp2_with fail
          go_ret
          exact ⟨congrArg (fun b => Ending.returned (.bool b)) (by first | (rw [HRR.out]; done) | (rw [HRR.out]; simp; done) | (have gH1 := H1.out; have gH2 := H2.out; rw [HRR.out, Bool.eq_iff_iff]; simp; omega)), HS.out.chg⟩
        · have dh2 : decide (3 < r0) = false := decide_eq_false h2
          have H2 := hide h2
          clear h2
          go_wp2_with fail
          go_ret
          exact ⟨congrArg (fun b => Ending.returned (.bool b)) (by first | (rw [HRR.out]; done) | (rw [HRR.out]; simp; done) | (have gH1 := H1.out; have gH2 := H2.out; rw [HRR.out, Bool.eq_iff_iff]; simp; omega)), HS.out.chg⟩
  · rw [hk] at q0
    have HRR := hide (show rWrongK c x = (!pg) by rw [HR0.out]; unfold rwK; simp only [hk]; rw [HPG.out])
    clear hk
    go_wp2_with fail
    go_ret
    exact ⟨congrArg (fun b => Ending.returned (.bool b)) (by first | (rw [HRR.out]; done) | (rw [HRR.out]; simp; done)), HS.out.chg⟩
  · rw [hk] at q0
    have HRR := hide (show rWrongK c x = (!pg) by rw [HR0.out]; unfold rwK; simp only [hk]; rw [HPG.out])
    clear hk
    go_wp2_with fail
    go_ret
    exact ⟨congrArg (fun b => Ending.returned (.bool b)) (by first | (rw [HRR.out]; done) | (rw [HRR.out]; simp; done)), HS.out.chg⟩
  · rw [hk] at q0
    have HRR := hide (show rWrongK c x = (fw || decide (x.a < 0 ∨ 262144 ≤ x.a ∨ x.a / 256 ≠ (x.a + sz0 - 1) / 256)) by rw [HR0.out]; unfold rwK; simp only [hk]; unfold r8B; rw [HFX.out, HSZ.out])
    clear hk
    cases fw with
    | true =>
      go_wp2_with fail
      go_ret
      exact ⟨congrArg (fun b => Ending.returned (.bool b)) (by first | (rw [HRR.out]; done) | (rw [HRR.out]; simp; done)), HS.out.chg⟩
    | false =>
      by_cases h1 : x.a < 0
      · have dh1 : decide (x.a < 0) = true := decide_eq_true h1
        have H1 := hide h1
        clear h1
        go_wp2_with fail
        go_ret
        exact ⟨congrArg (fun b => Ending.returned (.bool b)) (by first | (rw [HRR.out]; done) | (rw [HRR.out]; simp; done) | (have gH1 := H1.out; rw [HRR.out, Bool.eq_iff_iff]; simp; omega)), HS.out.chg⟩
      · have dh1 : decide (x.a < 0) = false := decide_eq_false h1
        have H1 := hide h1
        by_cases h2 : 262144 ≤ x.a
        · have dh2 : decide (262144 ≤ x.a) = true := decide_eq_true h2
          have H2 := hide h2
          clear h2
          clear h1
          go_wp2_with fail
          go_ret
          exact ⟨congrArg (fun b => Ending.returned (.bool b)) (by first | (rw [HRR.out]; done) | (rw [HRR.out]; simp; done) | (have gH1 := H1.out; have gH2 := H2.out; rw [HRR.out, Bool.eq_iff_iff]; simp; omega)), HS.out.chg⟩
        · have dh2 : decide (262144 ≤ x.a) = false := decide_eq_false h2
          have H2 := hide h2
          have hz : 1 ≤ sz0 ∧ sz0 ≤ 8 := by have := of_decide_eq_false HFW.out.symm; omega
          have e1 : wrap64 (x.a.tdiv 256) = x.a / 256 := by rw [Int.tdiv_eq_ediv_of_nonneg (by omega)]; unfold wrap64; omega
          have e2 : wrap64 (x.a + sz0) = x.a + sz0 := by unfold wrap64; omega
          have e3 : wrap64 (x.a + sz0 - 1) = x.a + sz0 - 1 := by unfold wrap64; omega
          have e4 : wrap64 ((x.a + sz0 - 1).tdiv 256) = (x.a + sz0 - 1) / 256 := by rw [Int.tdiv_eq_ediv_of_nonneg (by omega)]; unfold wrap64; omega
          clear h1 h2 hz
          go_wp2_with fail
          go_ret
          exact ⟨congrArg (fun b => Ending.returned (.bool b)) (by first | (rw [HRR.out]; done) | (rw [HRR.out]; simp; done) | (have gH1 := H1.out; have gH2 := H2.out; rw [HRR.out, Bool.eq_iff_iff]; simp; omega)), HS.out.chg⟩
  · rw [hk] at q0
    have HRR := hide (show rWrongK c x = (decide (sz0 < 1 ∨ 128 < sz0)) by rw [HR0.out]; unfold rwK; simp only [hk]; rw [HSZ0.out])
    clear hk
    by_cases h1 : sz0 < 1
    · have dh1 : decide (sz0 < 1) = true := decide_eq_true h1
      have H1 := hide h1
      clear h1
      go_wp2_with fail
      go_ret
      exact ⟨congrArg (fun b => Ending.returned (.bool b)) (by first | (rw [HRR.out]; done) | (rw [HRR.out]; simp; done) | (have gH1 := H1.out; rw [HRR.out, Bool.eq_iff_iff]; simp; omega)), HS.out.chg⟩
    · have dh1 : decide (sz0 < 1) = false := decide_eq_false h1
      have H1 := hide h1
      clear h1
      go_wp2_with fail
      go_ret
      exact ⟨congrArg (fun b => Ending.returned (.bool b)) (by first | (rw [HRR.out]; done) | (rw [HRR.out]; simp; done) | (have gH1 := H1.out; rw [HRR.out, Bool.eq_iff_iff]; simp; omega)), HS.out.chg⟩
  · rw [hk] at q0
    have HRR := hide (show rWrongK c x = (false) by rw [HR0.out]; unfold rwK; simp only [hk])
    clear hk
    go_wp2_with fail
    go_ret
    exact ⟨congrArg (fun b => Ending.returned (.bool b)) HRR.out.symm, HS.out.chg⟩
  · rw [hk] at q0
    have HRR := hide (show rWrongK c x = (fw || decide (x.a < 0 ∨ 128 < x.a ∨ 128 < x.a + sz0)) by rw [HR0.out]; unfold rwK; simp only [hk]; unfold r12B; rw [HFX.out, HSZ.out])
    clear hk
    cases fw with
    | true =>
      go_wp2_with fail
      go_ret
      exact ⟨congrArg (fun b => Ending.returned (.bool b)) (by first | (rw [HRR.out]; done) | (rw [HRR.out]; simp; done)), HS.out.chg⟩
    | false =>
      by_cases h1 : x.a < 0
      · have dh1 : decide (x.a < 0) = true := decide_eq_true h1
        have H1 := hide h1
        clear h1
        go_wp2_with fail
        go_ret
        exact ⟨congrArg (fun b => Ending.returned (.bool b)) (by first | (rw [HRR.out]; done) | (rw [HRR.out]; simp; done) | (have gH1 := H1.out; rw [HRR.out, Bool.eq_iff_iff]; simp; omega)), HS.out.chg⟩
      · have dh1 : decide (x.a < 0) = false := decide_eq_false h1
        have H1 := hide h1
        by_cases h2 : 128 < x.a
        · have dh2 : decide (128 < x.a) = true := decide_eq_true h2
          have H2 := hide h2
          clear h2
          clear h1
          go_wp2_with fail
          go_ret
          exact ⟨congrArg (fun b => Ending.returned (.bool b)) (by first | (rw [HRR.out]; done) | (rw [HRR.out]; simp; done) | (have gH1 := H1.out; have gH2 := H2.out; rw [HRR.out, Bool.eq_iff_iff]; simp; omega)), HS.out.chg⟩
        · have dh2 : decide (128 < x.a) = false := decide_eq_false h2
          have H2 := hide h2
          have hz : 1 ≤ sz0 ∧ sz0 ≤ 8 := by have := of_decide_eq_false HFW.out.symm; omega
          have e2 : wrap64 (x.a + sz0) = x.a + sz0 := by unfold wrap64; omega
          clear h1 h2 hz
          go_wp2_with fail
          go_ret
          exact ⟨congrArg (fun b => Ending.returned (.bool b)) (by first | (rw [HRR.out]; done) | (rw [HRR.out]; simp; done) | (have gH1 := H1.out; have gH2 := H2.out; rw [HRR.out, Bool.eq_iff_iff]; simp; omega)), HS.out.chg⟩
  · rw [hk] at q0
    have HRR := hide (show rWrongK c x = (!polB c x.ok x.om) by rw [HR0.out]; unfold rwK; simp only [hk])
    clear hk
    have HP := hide (fun W => rpmay_any c HX.out.ok HX.out.om W)
    obtain ⟨-, -, -, -, -, -, -, -, q8, q9, -, -, -, -⟩ := KB.cells HS.out.kb
    go_wp2_with (first | (refine wpList_load26L (b := w.heap.size) (c := c) rfl _ rfl rfl ?_ ?_; (focus exact HS.out.cfg)))
    refine (HP.out _).mono ?_
    rintro e W6 ⟨rfl, hc6⟩
    have HS6 := hide (HS.out.stay hc6)
    clear hc6
    go_wp2_with fail
    go_ret
    exact ⟨congrArg (fun b => Ending.returned (.bool b)) (by first | (rw [HRR.out]; done) | (rw [HRR.out]; simp; done)), HS6.out.chg⟩
  · rw [hk] at q0
    have HRR := hide (show rWrongK c x = (!pg || !polB c x.ok x.om) by rw [HR0.out]; unfold rwK; simp only [hk]; rw [HPG.out])
    clear hk
    have HP := hide (fun W => rpmay_any c HX.out.ok HX.out.om W)
    obtain ⟨-, -, -, -, -, -, -, -, q8, q9, -, -, -, -⟩ := KB.cells HS.out.kb
    cases pg with
    | false =>
      go_wp2_with fail
      go_ret
      exact ⟨congrArg (fun b => Ending.returned (.bool b)) (by first | (rw [HRR.out]; done) | (rw [HRR.out]; simp; done)), HS.out.chg⟩
    | true =>
      go_wp2_with (first | (refine wpList_load26W (b := w.heap.size) (c := c) _ rfl rfl ?_ HS.out.cfg ?_; (focus (simp [Region.wanted, yielded]; done))))
      refine (HP.out _).mono ?_
      rintro e W6 ⟨rfl, hc6⟩
      have HS6 := hide (HS.out.stay hc6)
      clear hc6
      go_wp2_with fail
      go_ret
      exact ⟨congrArg (fun b => Ending.returned (.bool b)) (by first | (rw [HRR.out]; done) | (rw [HRR.out]; simp; done)), HS6.out.chg⟩
  · rw [hk] at q0
    have HRR := hide (show rWrongK c x = (decide (x.g < 0 ∨ 1023 < x.g)) by rw [HR0.out]; unfold rwK; simp only [hk])
    clear hk
    by_cases h1 : x.g < 0
    · have dh1 : decide (x.g < 0) = true := decide_eq_true h1
      have H1 := hide h1
      clear h1
      go_wp2_with fail
      go_ret
      exact ⟨congrArg (fun b => Ending.returned (.bool b)) (by first | (rw [HRR.out]; done) | (rw [HRR.out]; simp; done) | (have gH1 := H1.out; rw [HRR.out, Bool.eq_iff_iff]; simp; omega)), HS.out.chg⟩
    · have dh1 : decide (x.g < 0) = false := decide_eq_false h1
      have H1 := hide h1
      clear h1
      go_wp2_with fail
      go_ret
      exact ⟨congrArg (fun b => Ending.returned (.bool b)) (by first | (rw [HRR.out]; done) | (rw [HRR.out]; simp; done) | (have gH1 := H1.out; rw [HRR.out, Bool.eq_iff_iff]; simp; omega)), HS.out.chg⟩
  · rw [hk] at q0
    have HRR := hide (show rWrongK c x = (decide (x.g < 0 ∨ 1023 < x.g)) by rw [HR0.out]; unfold rwK; simp only [hk])
    clear hk
    by_cases h1 : x.g < 0
    · have dh1 : decide (x.g < 0) = true := decide_eq_true h1
      have H1 := hide h1
      clear h1
      go_wp2_with fail
      go_ret
      exact ⟨congrArg (fun b => Ending.returned (.bool b)) (by first | (rw [HRR.out]; done) | (rw [HRR.out]; simp; done) | (have gH1 := H1.out; rw [HRR.out, Bool.eq_iff_iff]; simp; omega)), HS.out.chg⟩
    · have dh1 : decide (x.g < 0) = false := decide_eq_false h1
      have H1 := hide h1
      clear h1
      go_wp2_with fail
      go_ret
      exact ⟨congrArg (fun b => Ending.returned (.bool b)) (by first | (rw [HRR.out]; done) | (rw [HRR.out]; simp; done) | (have gH1 := H1.out; rw [HRR.out, Bool.eq_iff_iff]; simp; omega)), HS.out.chg⟩
  · rw [hk] at q0
    have HRR := hide (show rWrongK c x = (!pg || nd) by rw [HR0.out]; unfold rwK; simp only [hk]; rw [HPG.out, HND.out])
    clear hk
    cases pg with
    | false =>
      go_wp2_with fail
      go_ret
      exact ⟨congrArg (fun b => Ending.returned (.bool b)) (by first | (rw [HRR.out]; done) | (rw [HRR.out]; simp; done)), HS.out.chg⟩
    | true =>
      go_wp2_with fail
      go_ret
      exact ⟨congrArg (fun b => Ending.returned (.bool b)) (by first | (rw [HRR.out]; done) | (rw [HRR.out]; simp; done)), HS.out.chg⟩
  · rw [hk] at q0
    have HRR := hide (show rWrongK c x = (nd) by rw [HR0.out]; unfold rwK; simp only [hk]; rw [HND.out])
    clear hk
    go_wp2_with fail
    go_ret
    exact ⟨congrArg (fun b => Ending.returned (.bool b)) (by first | (rw [HRR.out]; done) | (rw [HRR.out]; simp; done)), HS.out.chg⟩
  · rw [hk] at q0
    have HRR := hide (show rWrongK c x = (nd) by rw [HR0.out]; unfold rwK; simp only [hk]; rw [HND.out])
    clear hk
    go_wp2_with fail
    go_ret
    exact ⟨congrArg (fun b => Ending.returned (.bool b)) (by first | (rw [HRR.out]; done) | (rw [HRR.out]; simp; done)), HS.out.chg⟩
  · rw [hk] at q0
    have HRR := hide (show rWrongK c x = (false) by rw [HR0.out]; unfold rwK; simp only [hk])
    clear hk
    go_wp2_with fail
    go_ret
    exact ⟨congrArg (fun b => Ending.returned (.bool b)) HRR.out.symm, HS.out.chg⟩
end Go.Proofs.YtinlpjgjjplceaaDoor
