/- Texts merged for the claim: CaO. -/
import Derived.Test.YtfoleblcaloeoaaGreatDoorZae
import Derived.Test.YtfoleblcaloeoaaGreatDoorZag
import Derived.Deep.CutRange
import Derived.Deep.CutBlock
/- Wrong: whether a call is malformed. -/
namespace Go.Proofs.YtfoleblcaloeoaaGreatDoor
open Go Go.RowKit

theorem wpList_load34W {ops : Array Oper} {rest : List Oper} {o : Oper} {a : Act} {w : World} {Q : Exit → Act → World → Prop} {b : Nat} {x : Cl} {v : Value} (z : Operand) (ho : o.op = .load 47 z)
    (hx : a.eval z = .pointer (some ⟨b, 0, none⟩)) (hw : Region.wanted o (yielded ops a.tmps) = true) (h0 : KB w b x v) (h : wpList Tryz.prog ops Q rest (a.put o.dst (.agg (clc x v))) w) : wpList Tryz.prog ops Q (o :: rest) a w :=
  wpList_step fun K hK => by
    rw [if_pos hw]
    exact wp_load_row 47 z ho b hx 47 _ (0, 0) _ h0 Tryz.underlying47 rfl info34 (hK _ _ h)
/-- a call's tests, each by itself -/
def hasB (x : Cl) (f : Nat) : Bool := (fld x.k).contains f
def sizeK (x : Cl) : Int := if hasB x 98 then (x.l.length : Int) else x.s
def accB (addr size of : Int) : Bool := decide ((1 ≤ size ∧ size ≤ 8) ∧ 0 ≤ addr ∧ addr ≤ of - size)
def t1K (x : Cl) : Bool := hasB x 99 && !(decide (1 ≤ x.c ∧ x.c ≤ 1024) && decide (0 ≤ x.g ∧ x.g ≤ 1024 - x.c))
def t2K (x : Cl) : Bool := hasB x 103 && !decide (0 ≤ x.g ∧ x.g ≤ 1023)
def t3K (x : Cl) : Bool := hasB x 114 && !decide (1 ≤ (x.r : Int) ∧ (x.r : Int) ≤ 3)
def t4K (c : Cf) (x : Cl) : Bool := hasB x 110 && !decide (0 ≤ x.n ∧ x.n ≤ c 0 - 1)
noncomputable def t5K (c : Cf) (x : Cl) : Bool := hasB x 111 && !polB c x.ok x.om
def t6K (x : Cl) : Bool := (hasB x 97 && hasB x 104) && !accB x.a (sizeK x) 128
def t7K (x : Cl) : Bool := (hasB x 97 && hasB x 112) && !(accB x.a (sizeK x) 262144 && decide (x.a.tmod 256 ≤ 256 - sizeK x))
def t8K (x : Cl) : Bool := (x.k == 10) && !decide (1 ≤ x.s ∧ x.s ≤ 128)
noncomputable def wrongK (c : Cf) (x : Cl) : Bool := !mayB c || !mayK x || (t1K x || (t2K x || (t3K x || (t4K c x || (t5K c x || (t6K x || (t7K x || t8K x)))))))
theorem wpList_load26W {ops : Array Oper} {rest : List Oper} {o : Oper} {a : Act} {w : World} {Q : Exit → Act → World → Prop} {b : Nat} {c : Cf} (x : Operand) (ho : o.op = .load 26 x)
    (hx : a.eval x = .pointer (some ⟨b, 0, none⟩)) (hw : Region.wanted o (yielded ops a.tmps) = true) (h0 : CB w b c) (h : wpList Tryz.prog ops Q rest (a.put o.dst (.agg (cg c))) w) : wpList Tryz.prog ops Q (o :: rest) a w :=
  wpList_step fun K hK => by
    rw [if_pos hw]
    exact wp_load_row 26 x ho b hx 26 (cg c) (0, 0) _ h0 Tryz.underlying26 rfl info26' (hK _ _ h)
/-- the world of a walk -/
structure WS (w W : World) (c : Cf) (x : Cl) (v : Value) (b : Nat) : Prop where
  cfg : CB W w.heap.size c
  kb : KB W (w.heap.size + 1) x v
  str : Blk W b 9 #[.string (strB (fld x.k))]
  chg : Chg [] w W
theorem WS.stay {w W W' : World} {c : Cf} {x : Cl} {v : Value} {b : Nat} (h : WS w W c x v b) (hc : Chg [] W W') : WS w W' c x v b :=
  ⟨Blk.chg h.cfg hc List.not_mem_nil, KB.stay h.kb hc, Blk.chg h.str hc List.not_mem_nil, h.chg.stay hc⟩
theorem WS.drew {w W : World} {c : Cf} {x : Cl} {v : Value} {b : Nat} (h : WS w W c x v b) : WS w W.drew c x v b := h.stay (Chg.refl [] W).drew
theorem WS.has {w W : World} {c : Cf} {x : Cl} {v : Value} {b : Nat} (h : WS w W c x v b) (h0 : 0 < (fld x.k).length) {f : Nat} (hf : f < 128) :
    Calls Tryz.prog 58 #[.int .i32 f, .pointer (some ⟨b, 0, none⟩)] W fun e w' => e = .returned (.bool (hasB x f)) ∧ WS w w' c x v b := by
  refine (hasK_any h.str h0 (fun b hb => fld_lt hb) hf).mono ?_
  rintro e w' ⟨rfl, hc⟩
  exact ⟨rfl, h.stay hc⟩
set_option maxRecDepth 20000 in
set_option maxHeartbeats 40000000 in
theorem WrongK_any {w : World} (hf : FW w) (c : Cf) {x : Cl} {v : Value} (hx : x.Ok) (hv : RB w v x.l) :
    Calls Tryz.prog 28 #[.agg (cg c), .agg (clc x v)] w fun e w' => e = .returned (.bool (wrongK c x)) ∧ Chg [] w w' := by
  obtain ⟨A0, c0, rfl⟩ := RE.form hv
  obtain ⟨W2, hW2⟩ : ∃ W2, W2 = (w.alloc (.cells (cg c) 26)).alloc (.cells (clc x (.slice A0 x.l.length c0)) 47) := ⟨_, rfl⟩
  have hc1 : Chg [] w W2 := by rw [hW2]; exact ((Chg.refl [] w).alloc _).alloc _
  have hb1 : CB W2 w.heap.size c := by rw [hW2]; exact (Blk.new w 26 _).alloc _
  have hb2 : KB W2 (w.heap.size + 1) x (.slice A0 x.l.length c0) := by
    have := Blk.new (w.alloc (.cells (cg c) 26)) 47 (clc x (.slice A0 x.l.length c0))
    rw [World.size_alloc] at this
    rw [hW2]
    exact this
  have HM := hide (fun W (h : Chg [] w W) => MayK_any (hf.stay h) hx (hv.stay h))
  have HOF := hide (fun W (h : Chg [] w W) => of_any (hf.stay h) hx.k)
  have HCM := hide (fun W => May_any c W)
  have HB := hide (And.intro hb1 hb2)
  have HC := hide hc1
  have HW2 := hide hW2
  have HX := hide hx
  clear hf hx hv hb1 hb2 hc1 hW2
  by_cases hmc : mayB c = true
  case neg =>
    have hr : wrongK c x = true := by unfold wrongK; simp [hmc]
    rw [hr]
    have hm0 : mayB c = false := by simpa using hmc
    rw [hm0] at HCM
    clear hr hmc hm0
    go_enter Tryz.func28, Tryz.ntmps28
    go_wp2_with (first | (refine wpList_box26 rfl _ rfl rfl ?_) | (refine wpList_box34 rfl _ rfl rfl ?_; try simp only [World.size_alloc]; try rw [← HW2.out]) | (refine wpList_load26L (b := w.heap.size) (c := c) rfl _ rfl rfl ?_ ?_; (focus exact HB.out.1)))
    refine (HCM.out _).mono ?_
    rintro e W3 ⟨rfl, hc3⟩
    have HC3 := hide hc3
    clear hc3
    go_wp2_with fail
    go_ret
    exact ⟨rfl, HC.out.stay HC3.out⟩
  rw [hmc] at HCM
  have HMC := hide hmc
  clear hmc
  by_cases hmk : mayK x = true
  case neg =>
    have hr : wrongK c x = true := by unfold wrongK; simp [hmk]
    rw [hr]
    have hm0 : mayK x = false := by simpa using hmk
    rw [hm0] at HM
    clear hr hmk hm0
    go_enter Tryz.func28, Tryz.ntmps28
    go_wp2_with (first | (refine wpList_box26 rfl _ rfl rfl ?_) | (refine wpList_box34 rfl _ rfl rfl ?_; try simp only [World.size_alloc]; try rw [← HW2.out]) | (refine wpList_load26L (b := w.heap.size) (c := c) rfl _ rfl rfl ?_ ?_; (focus exact HB.out.1)))
    refine (HCM.out _).mono ?_
    rintro e W3 ⟨rfl, hc3⟩
    have HC3 := hide hc3
    clear hc3
    go_wp2_with (first | (refine wpList_load34W (b := w.heap.size + 1) _ rfl rfl ?_ (KB.stay HB.out.2 HC3.out) ?_; (focus (simp [Region.wanted, yielded]; done))))
    refine (HM.out _ (HC.out.stay HC3.out)).mono ?_
    rintro e W4 ⟨rfl, hc4⟩
    have HC4 := hide hc4
    clear hc4
    go_wp2_with fail
    go_ret
    exact ⟨rfl, (HC.out.stay HC3.out).stay HC4.out⟩
  rw [hmk] at HM
  have HMK := hide hmk
  have hlen : 0 < (fld x.k).length := by
    cases h : fld x.k with
    | nil => rw [mayK, h] at hmk; simp at hmk
    | cons a l => simp
  have HLEN := hide hlen
  clear hmk hlen
  go_enter Tryz.func28, Tryz.ntmps28
  go_wp2_with (first | (refine wpList_box26 rfl _ rfl rfl ?_) | (refine wpList_box34 rfl _ rfl rfl ?_; try simp only [World.size_alloc]; try rw [← HW2.out]) | (refine wpList_load26L (b := w.heap.size) (c := c) rfl _ rfl rfl ?_ ?_; (focus exact HB.out.1)))
  refine (HCM.out _).mono ?_
  rintro e W3 ⟨rfl, hc3⟩
  have HC3 := hide hc3
  clear hc3
  go_wp2_with (first | (refine wpList_load34W (b := w.heap.size + 1) _ rfl rfl ?_ (KB.stay HB.out.2 HC3.out) ?_; (focus (simp [Region.wanted, yielded]; done))))
  refine (HM.out _ (HC.out.stay HC3.out)).mono ?_
  rintro e W4 ⟨rfl, hc4⟩
  have HC4 := hide ((HC.out.stay HC3.out).stay hc4)
  have HB4 : Hid (CB W4 w.heap.size c ∧ KB W4 (w.heap.size + 1) x (.slice A0 x.l.length c0)) := hide ⟨Blk.chg (Blk.chg HB.out.1 HC3.out List.not_mem_nil) hc4 List.not_mem_nil, KB.stay (KB.stay HB.out.2 HC3.out) hc4⟩
  clear hc4 HC3 HB
  obtain ⟨q0, -, -, -, -, -, -, -, -, -, -, -, ql, qf⟩ := KB.cells HB4.out.2
  go_upto_region 4 with (fail)
  refine (HOF.out _ HC4.out).mono ?_
  rintro e W ⟨rfl, rfl⟩
  go_upto_region 4 with (fail)
  -- TESTS
  have HS : Hid (WS w (W4.alloc (Obj.cells #[Value.string (strB (fld x.k))] 9)) c x (.slice A0 x.l.length c0) W4.heap.size) := hide ⟨Blk.alloc HB4.out.1 _, Blk.alloc HB4.out.2 _, Blk.new _ _ _, HC4.out.alloc _⟩
  clear q0 ql qf HC4 HB4 HOF HM HCM HC HW2
  generalize W4.alloc (Obj.cells #[Value.string (strB (fld x.k))] 9) = W5 at HS ⊢
  generalize W4.heap.size = b5 at HS ⊢
  clear W4 W3 W2
  obtain ⟨q0, q1, q2, q3, q4, q5, q6, q7, q8, q9, q10, q11, ql, -⟩ := KB.cells HS.out.kb
  go_upto_region 6 with (fail)
  clear q0 q1 q2 q3 q4 q5 q6 q7 q8 q9 q10 q11 ql
  go_upto_if 23 with (fail)
  refine (HS.out.has HLEN.out (f := 98) (by decide)).mono ?_
  rintro e W ⟨rfl, h'⟩
  have HT := hide h'
  obtain ⟨q0, q1, q2, q3, q4, q5, q6, q7, q8, q9, q10, q11, ql, -⟩ := KB.cells h'.kb
  clear h' HS
  go_upto_if 23 with (fail)
  go_cut [7] from 23 to 26 (fun z wc => z = .int .i64 (sizeK x) ∧ WS w wc c x (.slice A0 x.l.length c0) b5)
  case first =>
    cases hb : hasB x 98 with
    | true =>
      have hz : sizeK x = (x.l.length : Int) := by unfold sizeK; rw [hb]; rfl
      have HZ := hide hz
      clear hz hb
      go_wp2_with fail
      go_meet
      case rel => exact ⟨by rw [HZ.out], HT.out⟩
    | false =>
      have hz : sizeK x = x.s := by unfold sizeK; rw [hb]; rfl
      have HZ := hide hz
      clear hz hb
      go_wp2_with fail
      go_meet
      case rel => exact ⟨by rw [HZ.out], HT.out⟩
  obtain ⟨rfl, h5⟩ := hcut
  have HS := hide h5
  clear h5 HT q0 q1 q2 q3 q4 q5 q6 q7 q8 q9 q10 q11 ql
  go_upto_region 8 with (fail)
  go_cut [27] from 28 to 43 (fun z wc => z = .bool (t1K x) ∧ WS w wc c x (.slice A0 x.l.length c0) b5)
  case first =>
    by_cases hb99 : hasB x 99 = true
    case neg =>
      have hn : hasB x 99 = false := by simpa using hb99
      clear hb99
      have hh := HS.out.has HLEN.out (f := 99) (by decide)
      rw [hn] at hh
      have HH99 := hide hh
      have HV99 := hide hn
      clear hh hn
      go_wp2_with fail
      refine HH99.out.mono ?_
      rintro e W ⟨rfl, h'⟩
      have HA := hide h'
      obtain ⟨q0, q1, q2, q3, q4, q5, q6, q7, q8, q9, q10, q11, ql, -⟩ := KB.cells h'.kb
      have qc := CB.get h'.cfg (i := 0) (by omega)
      clear h' HH99
      go_wp2_with fail
      go_meet
      case rel => exact ⟨congrArg Value.bool (by simp [t1K, HV99.out]), HA.out⟩
    case pos =>
      have hh := HS.out.has HLEN.out (f := 99) (by decide)
      rw [hb99] at hh
      have HH99 := hide hh
      have HV99 := hide hb99
      clear hh hb99
      go_wp2_with fail
      refine HH99.out.mono ?_
      rintro e W ⟨rfl, h'⟩
      have HA := hide h'
      obtain ⟨q0, q1, q2, q3, q4, q5, q6, q7, q8, q9, q10, q11, ql, -⟩ := KB.cells h'.kb
      have qc := CB.get h'.cfg (i := 0) (by omega)
      clear h' HH99
      by_cases hq : 1 ≤ x.c ∧ x.c ≤ 1024
      case neg =>
        have hw := fun W => withinK_any x.c 1 1024 W
        rw [decide_eq_false hq] at hw
        have HW := hide hw
        have HQ := hide hq
        clear hw hq
        go_wp2_with fail
        refine (HW.out _).mono ?_
        rintro e W ⟨rfl, rfl⟩
        go_wp2_with fail
        go_meet
        case rel => exact ⟨congrArg Value.bool (by simp [t1K, HV99.out, HQ.out]), HA.out⟩
      case pos =>
        have hw := fun W => withinK_any x.c 1 1024 W
        rw [decide_eq_true hq] at hw
        have hsub : wrap64 (1024 - x.c) = 1024 - x.c := by unfold wrap64; omega
        have HW := hide hw
        have HQ := hide hq
        have HW2 := hide (fun W => withinK_any x.g 0 (1024 - x.c) W)
        clear hw hq
        go_wp2_with fail
        refine (HW.out _).mono ?_
        rintro e W ⟨rfl, rfl⟩
        go_wp2_with fail
        refine (HW2.out _).mono ?_
        rintro e W ⟨rfl, rfl⟩
        go_wp2_with fail
        go_meet
        case rel => exact ⟨congrArg Value.bool (by simp [t1K, HV99.out, HQ.out]), HA.out⟩
  obtain ⟨rfl, h5⟩ := hcut
  clear HS
  have HS := hide h5
  clear h5
  by_cases hb : t1K x = true
  case pos =>
    have HR1 := hide hb
    rw [hb]
    have hr : wrongK c x = true := by unfold wrongK; simp [hb]
    have HRR := hide hr
    clear hb hr
    go_wp2_with fail
    go_ret
    exact ⟨congrArg (fun b => Ending.returned (.bool b)) HRR.out.symm, HS.out.chg⟩
  have hb' : t1K x = false := by simpa using hb
  rw [hb']
  have HR1 := hide hb'
  clear hb hb'
  go_upto_region 10 with (fail)
  go_cut [44] from 45 to 52 (fun z wc => z = .bool (t2K x) ∧ WS w wc c x (.slice A0 x.l.length c0) b5)
  case first =>
    by_cases hb103 : hasB x 103 = true
    case neg =>
      have hn : hasB x 103 = false := by simpa using hb103
      clear hb103
      have hh := HS.out.has HLEN.out (f := 103) (by decide)
      rw [hn] at hh
      have HH103 := hide hh
      have HV103 := hide hn
      clear hh hn
      go_wp2_with fail
      refine HH103.out.mono ?_
      rintro e W ⟨rfl, h'⟩
      have HA := hide h'
      obtain ⟨q0, q1, q2, q3, q4, q5, q6, q7, q8, q9, q10, q11, ql, -⟩ := KB.cells h'.kb
      have qc := CB.get h'.cfg (i := 0) (by omega)
      clear h' HH103
      go_wp2_with fail
      go_meet
      case rel => exact ⟨congrArg Value.bool (by simp [t2K, HV103.out]), HA.out⟩
    case pos =>
      have hh := HS.out.has HLEN.out (f := 103) (by decide)
      rw [hb103] at hh
      have HH103 := hide hh
      have HV103 := hide hb103
      clear hh hb103
      go_wp2_with fail
      refine HH103.out.mono ?_
      rintro e W ⟨rfl, h'⟩
      have HA := hide h'
      obtain ⟨q0, q1, q2, q3, q4, q5, q6, q7, q8, q9, q10, q11, ql, -⟩ := KB.cells h'.kb
      have qc := CB.get h'.cfg (i := 0) (by omega)
      clear h' HH103
      have HW := hide (fun W => withinK_any x.g 0 1023 W)
      go_wp2_with fail
      refine (HW.out _).mono ?_
      rintro e W ⟨rfl, rfl⟩
      go_wp2_with fail
      go_meet
      case rel => exact ⟨congrArg Value.bool (by simp [t2K, HV103.out]), HA.out⟩
  obtain ⟨rfl, h5⟩ := hcut
  clear HS
  have HS := hide h5
  clear h5
  by_cases hb : t2K x = true
  case pos =>
    have HR2 := hide hb
    rw [hb]
    have hr : wrongK c x = true := by unfold wrongK; simp [hb]
    have HRR := hide hr
    clear hb hr
    go_wp2_with fail
    go_ret
    exact ⟨congrArg (fun b => Ending.returned (.bool b)) HRR.out.symm, HS.out.chg⟩
  have hb' : t2K x = false := by simpa using hb
  rw [hb']
  have HR2 := hide hb'
  clear hb hb'
  go_upto_region 12 with (fail)
  go_cut [53] from 54 to 62 (fun z wc => z = .bool (t3K x) ∧ WS w wc c x (.slice A0 x.l.length c0) b5)
  case first =>
    by_cases hb114 : hasB x 114 = true
    case neg =>
      have hn : hasB x 114 = false := by simpa using hb114
      clear hb114
      have hh := HS.out.has HLEN.out (f := 114) (by decide)
      rw [hn] at hh
      have HH114 := hide hh
      have HV114 := hide hn
      clear hh hn
      go_wp2_with fail
      refine HH114.out.mono ?_
      rintro e W ⟨rfl, h'⟩
      have HA := hide h'
      obtain ⟨q0, q1, q2, q3, q4, q5, q6, q7, q8, q9, q10, q11, ql, -⟩ := KB.cells h'.kb
      have qc := CB.get h'.cfg (i := 0) (by omega)
      clear h' HH114
      go_wp2_with fail
      go_meet
      case rel => exact ⟨congrArg Value.bool (by simp [t3K, HV114.out]), HA.out⟩
    case pos =>
      have hh := HS.out.has HLEN.out (f := 114) (by decide)
      rw [hb114] at hh
      have HH114 := hide hh
      have HV114 := hide hb114
      clear hh hb114
      go_wp2_with fail
      refine HH114.out.mono ?_
      rintro e W ⟨rfl, h'⟩
      have HA := hide h'
      obtain ⟨q0, q1, q2, q3, q4, q5, q6, q7, q8, q9, q10, q11, ql, -⟩ := KB.cells h'.kb
      have qc := CB.get h'.cfg (i := 0) (by omega)
      clear h' HH114
      have hwr : IntKind.i64.wrap (x.r : Int) = (x.r : Int) := by have := HX.out.r; rw [IntKind.wrap_i64]; omega
      have HW := hide (fun W => withinK_any (x.r : Int) 1 3 W)
      go_wp2_with fail
      refine (HW.out _).mono ?_
      rintro e W ⟨rfl, rfl⟩
      go_wp2_with fail
      go_meet
      case rel => exact ⟨congrArg Value.bool (by simp [t3K, HV114.out]), HA.out⟩
  obtain ⟨rfl, h5⟩ := hcut
  clear HS
  have HS := hide h5
  clear h5
  by_cases hb : t3K x = true
  case pos =>
    have HR3 := hide hb
    rw [hb]
    have hr : wrongK c x = true := by unfold wrongK; simp [hb]
    have HRR := hide hr
    clear hb hr
    go_wp2_with fail
    go_ret
    exact ⟨congrArg (fun b => Ending.returned (.bool b)) HRR.out.symm, HS.out.chg⟩
  have hb' : t3K x = false := by simpa using hb
  rw [hb']
  have HR3 := hide hb'
  clear hb hb'
  go_upto_region 14 with (fail)
  go_cut [63] from 64 to 74 (fun z wc => z = .bool (t4K c x) ∧ WS w wc c x (.slice A0 x.l.length c0) b5)
  case first =>
    by_cases hb110 : hasB x 110 = true
    case neg =>
      have hn : hasB x 110 = false := by simpa using hb110
      clear hb110
      have hh := HS.out.has HLEN.out (f := 110) (by decide)
      rw [hn] at hh
      have HH110 := hide hh
      have HV110 := hide hn
      clear hh hn
      go_wp2_with fail
      refine HH110.out.mono ?_
      rintro e W ⟨rfl, h'⟩
      have HA := hide h'
      obtain ⟨q0, q1, q2, q3, q4, q5, q6, q7, q8, q9, q10, q11, ql, -⟩ := KB.cells h'.kb
      have qc := CB.get h'.cfg (i := 0) (by omega)
      clear h' HH110
      go_wp2_with fail
      go_meet
      case rel => exact ⟨congrArg Value.bool (by simp [t4K, HV110.out]), HA.out⟩
    case pos =>
      have hh := HS.out.has HLEN.out (f := 110) (by decide)
      rw [hb110] at hh
      have HH110 := hide hh
      have HV110 := hide hb110
      clear hh hb110
      go_wp2_with fail
      refine HH110.out.mono ?_
      rintro e W ⟨rfl, h'⟩
      have HA := hide h'
      obtain ⟨q0, q1, q2, q3, q4, q5, q6, q7, q8, q9, q10, q11, ql, -⟩ := KB.cells h'.kb
      have qc := CB.get h'.cfg (i := 0) (by omega)
      clear h' HH110
      have hsub : wrap64 (c 0 - 1) = c 0 - 1 := by have := (mayB_iff.1 HMC.out).n1; have := (mayB_iff.1 HMC.out).n8; unfold wrap64; omega
      have HW := hide (fun W => withinK_any x.n 0 (c 0 - 1) W)
      go_wp2_with fail
      refine (HW.out _).mono ?_
      rintro e W ⟨rfl, rfl⟩
      go_wp2_with fail
      go_meet
      case rel => exact ⟨congrArg Value.bool (by simp [t4K, HV110.out]), HA.out⟩
  obtain ⟨rfl, h5⟩ := hcut
  clear HS
  have HS := hide h5
  clear h5
  by_cases hb : t4K c x = true
  case pos =>
    have HR4 := hide hb
    rw [hb]
    have hr : wrongK c x = true := by unfold wrongK; simp [hb]
    have HRR := hide hr
    clear hb hr
    go_wp2_with fail
    go_ret
    exact ⟨congrArg (fun b => Ending.returned (.bool b)) HRR.out.symm, HS.out.chg⟩
  have hb' : t4K c x = false := by simpa using hb
  rw [hb']
  have HR4 := hide hb'
  clear hb hb'
  go_upto_region 16 with (fail)
  go_cut [75] from 76 to 84 (fun z wc => z = .bool (t5K c x) ∧ WS w wc c x (.slice A0 x.l.length c0) b5)
  case first =>
    by_cases hb111 : hasB x 111 = true
    case neg =>
      have hn : hasB x 111 = false := by simpa using hb111
      clear hb111
      have hh := HS.out.has HLEN.out (f := 111) (by decide)
      rw [hn] at hh
      have HH111 := hide hh
      have HV111 := hide hn
      clear hh hn
      go_wp2_with fail
      refine HH111.out.mono ?_
      rintro e W ⟨rfl, h'⟩
      have HA := hide h'
      obtain ⟨q0, q1, q2, q3, q4, q5, q6, q7, q8, q9, q10, q11, ql, -⟩ := KB.cells h'.kb
      have qc := CB.get h'.cfg (i := 0) (by omega)
      clear h' HH111
      go_wp2_with fail
      go_meet
      case rel => exact ⟨congrArg Value.bool (by simp [t5K, HV111.out]), HA.out⟩
    case pos =>
      have hh := HS.out.has HLEN.out (f := 111) (by decide)
      rw [hb111] at hh
      have HH111 := hide hh
      have HV111 := hide hb111
      clear hh hb111
      go_wp2_with fail
      refine HH111.out.mono ?_
      rintro e W ⟨rfl, h'⟩
      have HA := hide h'
      obtain ⟨q0, q1, q2, q3, q4, q5, q6, q7, q8, q9, q10, q11, ql, -⟩ := KB.cells h'.kb
      have qc := CB.get h'.cfg (i := 0) (by omega)
      clear h' HH111
      have HP := hide (fun W => pmay_any c HX.out.ok HX.out.om W)
      go_wp2_with (first | (refine wpList_load26W (b := w.heap.size) (c := c) _ rfl rfl ?_ HA.out.cfg ?_; (focus (simp [Region.wanted, yielded]; done))))
      refine (HP.out _).mono ?_
      rintro e W ⟨rfl, hc'⟩
      have HA2 := hide (HA.out.stay hc')
      clear hc'
      go_wp2_with fail
      go_meet
      case rel => exact ⟨congrArg Value.bool (by simp [t5K, HV111.out]), HA2.out⟩
  obtain ⟨rfl, h5⟩ := hcut
  clear HS
  have HS := hide h5
  clear h5
  by_cases hb : t5K c x = true
  case pos =>
    have HR5 := hide hb
    rw [hb]
    have hr : wrongK c x = true := by unfold wrongK; simp [hb]
    have HRR := hide hr
    clear hb hr
    go_wp2_with fail
    go_ret
    exact ⟨congrArg (fun b => Ending.returned (.bool b)) HRR.out.symm, HS.out.chg⟩
  have hb' : t5K c x = false := by simpa using hb
  rw [hb']
  have HR5 := hide hb'
  clear hb hb'
  go_upto_region 18 with (fail)
  go_cut [85] from 86 to 98 (fun z wc => z = .bool (t6K x) ∧ WS w wc c x (.slice A0 x.l.length c0) b5)
  case first =>
    by_cases hb97 : hasB x 97 = true
    case neg =>
      have hn : hasB x 97 = false := by simpa using hb97
      clear hb97
      have hh := HS.out.has HLEN.out (f := 97) (by decide)
      rw [hn] at hh
      have HH97 := hide hh
      have HV97 := hide hn
      clear hh hn
      go_wp2_with fail
      refine HH97.out.mono ?_
      rintro e W ⟨rfl, h'⟩
      have HA := hide h'
      obtain ⟨q0, q1, q2, q3, q4, q5, q6, q7, q8, q9, q10, q11, ql, -⟩ := KB.cells h'.kb
      have qc := CB.get h'.cfg (i := 0) (by omega)
      clear h' HH97
      go_wp2_with fail
      go_meet
      case rel => exact ⟨congrArg Value.bool (by simp [t6K, HV97.out]), HA.out⟩
    case pos =>
      have hh := HS.out.has HLEN.out (f := 97) (by decide)
      rw [hb97] at hh
      have HH97 := hide hh
      have HV97 := hide hb97
      clear hh hb97
      go_wp2_with fail
      refine HH97.out.mono ?_
      rintro e W ⟨rfl, h'⟩
      have HA := hide h'
      obtain ⟨q0, q1, q2, q3, q4, q5, q6, q7, q8, q9, q10, q11, ql, -⟩ := KB.cells h'.kb
      have qc := CB.get h'.cfg (i := 0) (by omega)
      clear h' HH97
      clear q0 q1 q2 q3 q4 q5 q6 q7 q8 q9 q10 q11 ql qc
      by_cases hb104 : hasB x 104 = true
      case neg =>
        have hn : hasB x 104 = false := by simpa using hb104
        clear hb104
        have hh := HA.out.has HLEN.out (f := 104) (by decide)
        rw [hn] at hh
        have HH104 := hide hh
        have HV104 := hide hn
        clear hh hn
        go_wp2_with fail
        refine HH104.out.mono ?_
        rintro e W ⟨rfl, h'⟩
        have HA2 := hide h'
        obtain ⟨q0, q1, q2, q3, q4, q5, q6, q7, q8, q9, q10, q11, ql, -⟩ := KB.cells h'.kb
        have qc := CB.get h'.cfg (i := 0) (by omega)
        clear h' HH104
        go_wp2_with fail
        go_meet
        case rel => exact ⟨congrArg Value.bool (by simp [t6K, HV97.out, HV104.out]), HA2.out⟩
      case pos =>
        have hh := HA.out.has HLEN.out (f := 104) (by decide)
        rw [hb104] at hh
        have HH104 := hide hh
        have HV104 := hide hb104
        clear hh hb104
        go_wp2_with fail
        refine HH104.out.mono ?_
        rintro e W ⟨rfl, h'⟩
        have HA2 := hide h'
        obtain ⟨q0, q1, q2, q3, q4, q5, q6, q7, q8, q9, q10, q11, ql, -⟩ := KB.cells h'.kb
        have qc := CB.get h'.cfg (i := 0) (by omega)
        clear h' HH104
        have HW := hide (fun W => accessK_any x.a (sizeK x) 128 (by omega) (by omega) W)
        go_wp2_with fail
        refine (HW.out _).mono ?_
        rintro e W ⟨rfl, rfl⟩
        go_wp2_with fail
        go_meet
        case rel => exact ⟨congrArg Value.bool (by simp [t6K, HV97.out, HV104.out, accB]), HA2.out⟩
  obtain ⟨rfl, h5⟩ := hcut
  clear HS
  have HS := hide h5
  clear h5
  by_cases hb : t6K x = true
  case pos =>
    have HR6 := hide hb
    rw [hb]
    have hr : wrongK c x = true := by unfold wrongK; simp [hb]
    have HRR := hide hr
    clear hb hr
    go_wp2_with fail
    go_ret
    exact ⟨congrArg (fun b => Ending.returned (.bool b)) HRR.out.symm, HS.out.chg⟩
  have hb' : t6K x = false := by simpa using hb
  rw [hb']
  have HR6 := hide hb'
  clear hb hb'
  go_upto_region 20 with (fail)
  go_cut [99] from 100 to 120 (fun z wc => z = .bool (t7K x) ∧ WS w wc c x (.slice A0 x.l.length c0) b5)
  case first =>
    by_cases hb97 : hasB x 97 = true
    case neg =>
      have hn : hasB x 97 = false := by simpa using hb97
      clear hb97
      have hh := HS.out.has HLEN.out (f := 97) (by decide)
      rw [hn] at hh
      have HH97 := hide hh
      have HV97 := hide hn
      clear hh hn
      go_wp2_with fail
      refine HH97.out.mono ?_
      rintro e W ⟨rfl, h'⟩
      have HA := hide h'
      obtain ⟨q0, q1, q2, q3, q4, q5, q6, q7, q8, q9, q10, q11, ql, -⟩ := KB.cells h'.kb
      have qc := CB.get h'.cfg (i := 0) (by omega)
      clear h' HH97
      go_wp2_with fail
      go_meet
      case rel => exact ⟨congrArg Value.bool (by simp [t7K, HV97.out]), HA.out⟩
    case pos =>
      have hh := HS.out.has HLEN.out (f := 97) (by decide)
      rw [hb97] at hh
      have HH97 := hide hh
      have HV97 := hide hb97
      clear hh hb97
      go_wp2_with fail
      refine HH97.out.mono ?_
      rintro e W ⟨rfl, h'⟩
      have HA := hide h'
      obtain ⟨q0, q1, q2, q3, q4, q5, q6, q7, q8, q9, q10, q11, ql, -⟩ := KB.cells h'.kb
      have qc := CB.get h'.cfg (i := 0) (by omega)
      clear h' HH97
      clear q0 q1 q2 q3 q4 q5 q6 q7 q8 q9 q10 q11 ql qc
      by_cases hb112 : hasB x 112 = true
      case neg =>
        have hn : hasB x 112 = false := by simpa using hb112
        clear hb112
        have hh := HA.out.has HLEN.out (f := 112) (by decide)
        rw [hn] at hh
        have HH112 := hide hh
        have HV112 := hide hn
        clear hh hn
        go_wp2_with fail
        refine HH112.out.mono ?_
        rintro e W ⟨rfl, h'⟩
        have HA2 := hide h'
        obtain ⟨q0, q1, q2, q3, q4, q5, q6, q7, q8, q9, q10, q11, ql, -⟩ := KB.cells h'.kb
        have qc := CB.get h'.cfg (i := 0) (by omega)
        clear h' HH112
        go_wp2_with fail
        go_meet
        case rel => exact ⟨congrArg Value.bool (by simp [t7K, HV97.out, HV112.out]), HA2.out⟩
      case pos =>
        have hh := HA.out.has HLEN.out (f := 112) (by decide)
        rw [hb112] at hh
        have HH112 := hide hh
        have HV112 := hide hb112
        clear hh hb112
        go_wp2_with fail
        refine HH112.out.mono ?_
        rintro e W ⟨rfl, h'⟩
        have HA2 := hide h'
        obtain ⟨q0, q1, q2, q3, q4, q5, q6, q7, q8, q9, q10, q11, ql, -⟩ := KB.cells h'.kb
        have qc := CB.get h'.cfg (i := 0) (by omega)
        clear h' HH112
        by_cases hq : (1 ≤ sizeK x ∧ sizeK x ≤ 8) ∧ 0 ≤ x.a ∧ x.a ≤ 262144 - sizeK x
        case neg =>
          have hw := fun W => accessK_any x.a (sizeK x) 262144 (by omega) (by omega) W
          rw [decide_eq_false hq] at hw
          have HW := hide hw
          have HQ := hide hq
          clear hw hq
          go_wp2_with fail
          refine (HW.out _).mono ?_
          rintro e W ⟨rfl, rfl⟩
          go_wp2_with fail
          go_meet
          case rel => exact ⟨congrArg Value.bool (by simp [t7K, HV97.out, HV112.out, accB, HQ.out]), HA2.out⟩
        case pos =>
          have hw := fun W => accessK_any x.a (sizeK x) 262144 (by omega) (by omega) W
          rw [decide_eq_true hq] at hw
          have hsub : wrap64 (256 - sizeK x) = 256 - sizeK x := by unfold wrap64; omega
          have hrem : wrap64 (x.a.tmod 256) = x.a.tmod 256 := by rw [Int.tmod_eq_emod_of_nonneg hq.2.1]; unfold wrap64; omega
          have HW := hide hw
          have HQ := hide hq
          clear hw hq
          go_wp2_with fail
          refine (HW.out _).mono ?_
          rintro e W ⟨rfl, rfl⟩
          go_wp2_with fail
          go_meet
          case rel => exact ⟨congrArg Value.bool (by simp [t7K, HV97.out, HV112.out, accB, HQ.out]), HA2.out⟩
  obtain ⟨rfl, h5⟩ := hcut
  clear HS
  have HS := hide h5
  clear h5
  by_cases hb : t7K x = true
  case pos =>
    have HR7 := hide hb
    rw [hb]
    have hr : wrongK c x = true := by unfold wrongK; simp [hb]
    have HRR := hide hr
    clear hb hr
    go_wp2_with fail
    go_ret
    exact ⟨congrArg (fun b => Ending.returned (.bool b)) HRR.out.symm, HS.out.chg⟩
  have hb' : t7K x = false := by simpa using hb
  rw [hb']
  have HR7 := hide hb'
  clear hb hb'
  have hr : wrongK c x = t8K x := by unfold wrongK; simp [HMC.out, HMK.out, HR1.out, HR2.out, HR3.out, HR4.out, HR5.out, HR6.out, HR7.out]
  have HW8 := hide hr
  clear hr HR1 HR2 HR3 HR4 HR5 HR6 HR7
  obtain ⟨q0, q1, q2, q3, q4, q5, q6, q7, q8, q9, q10, q11, ql, -⟩ := KB.cells HS.out.kb
  by_cases hk : x.k = 10
  case neg =>
    have hr : t8K x = false := by unfold t8K; simp [hk]
    have hk0 : ((x.k : Int) == 10) = false := by simp; omega
    have hk1 : ¬ ((x.k : Int) = 10) := by omega
    have HRR := hide (HW8.out.trans hr)
    clear hr hk
    go_wp2_with fail
    go_ret
    exact ⟨congrArg (fun b => Ending.returned (.bool b)) HRR.out.symm, HS.out.chg⟩
  have hr : t8K x = !decide (1 ≤ x.s ∧ x.s ≤ 128) := by unfold t8K; simp [hk]
  have HRR := hide (HW8.out.trans hr)
  rw [hk] at q0
  clear hr hk
  have HW := hide (fun W => withinK_any x.s 1 128 W)
  go_wp2_with fail
  refine (HW.out _).mono ?_
  rintro e W ⟨rfl, rfl⟩
  go_wp2_with fail
  go_ret
  exact ⟨by rw [HRR.out]; simp, HS.out.chg⟩
end Go.Proofs.YtfoleblcaloeoaaGreatDoor
