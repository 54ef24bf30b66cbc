/- CallsRight: its walk. -/
import Derived.Test.YtinlpjgjjplceaaDoorCdA
import Derived.Test.YtinlpjgjjplceaaDoorCbC
namespace Go.Proofs.YtinlpjgjjplceaaDoor
open Go Go.RowKit

def spC : Cl := { zCl with k := 1 }
theorem spC_built : BC [(0, .int .u8 1)] spC := ⟨by kernel_rfl⟩
theorem spC_ok : spC.Ok := by constructor <;> simp [spC, zCl]
theorem spC_may : mayK spC = true := by decide
theorem wrong_sp (m : Cf) : wrongK m spC = !mayB m := by
  have h1 : t1K spC = false := by decide
  have h2 : t2K spC = false := by decide
  have h3 : t3K spC = false := by decide
  have h4 : t4K m spC = false := by unfold t4K; rw [show hasB spC 110 = false by decide]; rfl
  have h5 : t5K m spC = false := by unfold t5K; rw [show hasB spC 111 = false by decide]; rfl
  have h6 : t6K spC = false := by decide
  have h7 : t7K spC = false := by decide
  have h8 : t8K spC = false := by decide
  unfold wrongK
  simp [h1, h2, h3, h4, h5, h6, h7, h8, spC_may]
theorem wrong_may {c : Cf} {x : Cl} (h : wrongK c x = false) : mayK x = true := by
  unfold wrongK at h
  simp only [Bool.or_eq_false_iff, Bool.not_eq_false'] at h
  exact h.1.2
set_option maxRecDepth 20000 in
set_option maxHeartbeats 40000000 in
theorem right_law {w : World} (hf : FW w) (c m : Cf) {x : Cl} {v : Value} (hx : x.Ok) (hv : RB w v x.l) :
    Calls Tryd.prog 4 #[.agg (cg c), .agg (cg m), .agg (clc x v)] w fun e w' => e = .returned (.bool true) ∧ Chg [] w w' := by
  obtain ⟨A0, c0, rfl⟩ := RE.form hv
  obtain ⟨W2, hW2⟩ : ∃ W2, W2 = ((w.alloc (.cells (cg c) 26)).alloc (.cells (cg m) 26)).alloc (.cells (clc x (.slice A0 x.l.length c0)) 34) := ⟨_, rfl⟩
  have hc2 : Chg [] w W2 := by rw [hW2]; exact (((Chg.refl [] w).alloc _).alloc _).alloc _
  have hb1 : CB W2 w.heap.size c := by rw [hW2]; exact ((Blk.new w 26 _).alloc _).alloc _
  have hb2 : CB W2 (w.heap.size + 1) m := by
    have := Blk.new (w.alloc (.cells (cg c) 26)) 26 (cg m)
    rw [World.size_alloc] at this
    rw [hW2]
    exact this.alloc _
  have hb3 : KB W2 (w.heap.size + 1 + 1) x (.slice A0 x.l.length c0) := by
    have := Blk.new ((w.alloc (.cells (cg c) 26)).alloc (.cells (cg m) 26)) 34 (clc x (.slice A0 x.l.length c0))
    rw [World.size_alloc, World.size_alloc] at this
    rw [hW2]
    exact this
  obtain ⟨b1, e1⟩ : ∃ b, b = w.heap.size := ⟨_, rfl⟩
  obtain ⟨b2, e2⟩ : ∃ b, b = w.heap.size + 1 := ⟨_, rfl⟩
  obtain ⟨b3, e3⟩ : ∃ b, b = w.heap.size + 1 + 1 := ⟨_, rfl⟩
  rw [← e1] at hb1
  rw [← e2] at hb2
  rw [← e3] at hb3
  have HE := hide (And.intro e1 (And.intro e2 e3))
  have HB := hide (And.intro hb1 (And.intro hb2 hb3))
  have HC := hide hc2
  have HW2 := hide hW2
  have HV := hide hv
  have HX := hide hx
  have HKN := hide (fun W (h : Chg [] w W) => knownK_any (hf.stay h))
  have HF := hide hf
  have HWR := hide (fun W (h : Chg [] w W) => WrongK_any (hf.stay h) c hx (hv.stay h))
  have HWM := hide (fun W (h : Chg [] w W) => WrongK_any (hf.stay h) m hx (hv.stay h))
  have HWS := hide (fun W (h : Chg [] w W) => WrongK_any (hf.stay h) m spC_ok (v := zV) (RE.nil ucl 1 W none 0))
  obtain ⟨-, -, -, -, -, -, -, -, -, -, -, q11, ql, -⟩ := KB.cells hb3
  clear hf hx hv hW2 hc2 hb1 hb2 hb3 e1 e2 e3
  by_cases l1 : 1000 < x.l.length
  · have d1 : decide ((1000 : Int) < (x.l.length : Int)) = true := decide_eq_true (by omega)
    have d1' : decide (1000 < x.l.length) = true := decide_eq_true l1
    clear l1
    go_enter Tryd.func4, Tryd.ntmps4
    go_upto_region 1 with (first | (refine wpList_box26 rfl _ rfl rfl ?_; try simp only [World.size_alloc]) | (refine wpList_box34 rfl _ rfl rfl ?_; try simp only [World.size_alloc]; try rw [← HW2.out]))
    rw [← HE.out.2.2, ← HE.out.2.1, ← HE.out.1]
    go_wp2_with fail
    refine (HKN.out _ HC.out).mono ?_
    rintro e W3 ⟨rfl, hc3⟩
    go_wp2_with fail
    go_ret
    exact ⟨rfl, HC.out.stay hc3⟩
  have d1 : decide ((1000 : Int) < (x.l.length : Int)) = false := decide_eq_false (by omega)
  have d1' : decide (1000 < x.l.length) = false := decide_eq_false l1
  clear l1
  go_enter Tryd.func4, Tryd.ntmps4
  go_upto_region 1 with (first | (refine wpList_box26 rfl _ rfl rfl ?_; try simp only [World.size_alloc]) | (refine wpList_box34 rfl _ rfl rfl ?_; try simp only [World.size_alloc]; try rw [← HW2.out]))
  rw [← HE.out.2.2, ← HE.out.2.1, ← HE.out.1]
  go_wp2_with (first | (refine wpList_load26W (b := b1) (c := c) _ rfl rfl ?_ HB.out.1 ?_; (focus (simp [Region.wanted, yielded, Act.put]; done))) | (refine wpList_load34W (b := b3) _ rfl rfl ?_ HB.out.2.2 ?_; (focus (simp [Region.wanted, yielded, Act.put]; done))))
  refine (HWR.out _ HC.out).mono ?_
  rintro e W3 ⟨rfl, hc3⟩
  have HC3 := hide (HC.out.stay hc3)
  have HB3 := hide (show CB W3 b1 c ∧ CB W3 b2 m ∧ KB W3 b3 x (.slice A0 x.l.length c0) from ⟨Blk.chg HB.out.1 hc3 List.not_mem_nil, Blk.chg HB.out.2.1 hc3 List.not_mem_nil, KB.stay HB.out.2.2 hc3⟩)
  clear hc3 HB HC HWR q11 ql d1 d1' HW2
  cases hw : wrongK c x with
  | true =>
    clear hw
    go_wp2_with fail
    refine (HKN.out _ HC3.out).mono ?_
    rintro e W4 ⟨rfl, hc4⟩
    go_wp2_with fail
    go_ret
    exact ⟨rfl, HC3.out.stay hc4⟩
  | false =>
    have HWF := hide hw
    have HM := hide (wrong_may hw)
    clear hw
    go_wp2_with (refine wpList_load34 rfl _ rfl rfl HB3.out.2.2 ?_)
    refine (MayK_any (HF.out.stay HC3.out) HX.out (RE.stay HV.out HC3.out)).mono ?_
    rintro e W4 ⟨rfl, hc4⟩
    rw [HM.out]
    have HC4 := hide (HC3.out.stay hc4)
    have HB4 := hide (show CB W4 b1 c ∧ CB W4 b2 m ∧ KB W4 b3 x (.slice A0 x.l.length c0) from ⟨Blk.chg HB3.out.1 hc4 List.not_mem_nil, Blk.chg HB3.out.2.1 hc4 List.not_mem_nil, KB.stay HB3.out.2.2 hc4⟩)
    clear hc4 HB3 HC3
    go_wp2_with (refine wpList_load34 rfl _ rfl rfl HB4.out.2.2 ?_)
    refine (Bytes_any (HF.out.stay HC4.out) HX.out (RE.stay HV.out HC4.out)).mono ?_
    rintro e W5 ⟨hb5, hc5⟩
    have HC5 := hide (HC4.out.stay hc5)
    have HB5 := hide (show CB W5 b1 c ∧ CB W5 b2 m ∧ KB W5 b3 x (.slice A0 x.l.length c0) from ⟨Blk.chg HB4.out.1 hc5 List.not_mem_nil, Blk.chg HB4.out.2.1 hc5 List.not_mem_nil, KB.stay HB4.out.2.2 hc5⟩)
    obtain ⟨h, -⟩ | ⟨-, A, n, k, rfl, -, -⟩ := hb5
    · rw [HM.out] at h; cases h
    clear hc5 HB4 HC4
    go_upto_region 8 with (fail)
    have q0 := CB.get HB5.out.1 (i := 0) (by omega)
    have q1 := CB.get HB5.out.2.1 (i := 0) (by omega)
    obtain ⟨q2, -, -, -, -, -, -, -, -, -, -, -, ql, -⟩ := KB.cells HB5.out.2.2
    by_cases hn : m 0 < c 0
    · have d0 : decide (m 0 < c 0) = true := decide_eq_true hn
      clear hn
      go_wp2_with fail
      refine (HKN.out _ HC5.out).mono ?_
      rintro e W6 ⟨rfl, hc6⟩
      go_wp2_with fail
      go_ret
      exact ⟨rfl, HC5.out.stay hc6⟩
    have d0 : decide (m 0 < c 0) = false := decide_eq_false hn
    have HN := hide hn
    clear hn
    go_wp2_with (first | (refine wpList_load26W (b := b2) (c := m) _ rfl rfl ?_ HB5.out.2.1 ?_; (focus (simp [Region.wanted, yielded, Act.put]; done))) | (refine wpList_build34W _ rfl ?_ spC_built ?_ ?_; (focus (simp [Region.wanted, yielded, Act.put]; done)); (focus (simp [Act.eval, Act.put]; done))))
    refine (HWS.out _ HC5.out).mono ?_
    rintro e W6 ⟨rfl, hc6⟩
    have HC6 := hide (HC5.out.stay hc6)
    have HB6 := hide (show CB W6 b1 c ∧ CB W6 b2 m ∧ KB W6 b3 x (.slice A0 x.l.length c0) from ⟨Blk.chg HB5.out.1 hc6 List.not_mem_nil, Blk.chg HB5.out.2.1 hc6 List.not_mem_nil, KB.stay HB5.out.2.2 hc6⟩)
    clear hc6 HB5 HC5 q0 q1 q2 ql
    obtain ⟨q2, -, -, -, -, -, -, -, -, -, -, -, ql, -⟩ := KB.cells HB6.out.2.2
    rw [wrong_sp]
    cases hmm : mayB m with
    | false =>
      clear hmm
      go_wp2_with fail
      refine (HKN.out _ HC6.out).mono ?_
      rintro e W7 ⟨rfl, hc7⟩
      go_wp2_with fail
      go_ret
      exact ⟨rfl, HC6.out.stay hc7⟩
    | true =>
      by_cases h14 : x.k = 14
      · have d14 : ((x.k : Int) == 14) = true := by rw [h14]; rfl
        have d14' : decide (x.k = 14) = true := decide_eq_true h14
        clear h14 hmm
        go_wp2_with fail
        refine (HKN.out _ HC6.out).mono ?_
        rintro e W7 ⟨rfl, hc7⟩
        go_wp2_with fail
        go_ret
        exact ⟨rfl, HC6.out.stay hc7⟩
      have d14 : ((x.k : Int) == 14) = false := beq_false_of_ne (by omega)
      have d14' : decide (x.k = 14) = false := decide_eq_false h14
      by_cases h15 : x.k = 15
      · have d15 : ((x.k : Int) == 15) = true := by rw [h15]; rfl
        have d15' : decide (x.k = 15) = true := decide_eq_true h15
        clear h14 h15 hmm
        go_wp2_with fail
        refine (HKN.out _ HC6.out).mono ?_
        rintro e W7 ⟨rfl, hc7⟩
        go_wp2_with fail
        go_ret
        exact ⟨rfl, HC6.out.stay hc7⟩
      have d15 : ((x.k : Int) == 15) = false := beq_false_of_ne (by omega)
      have d15' : decide (x.k = 15) = false := decide_eq_false h15
      have hwf := more_nodes HWF.out hmm (by have := HN.out; omega) h14 h15
      rw [hwf] at HWM
      clear h14 h15 hmm hwf
      go_wp2_with (first | (refine wpList_load26L (b := b2) (c := m) rfl _ rfl rfl ?_ ?_; (focus exact HB6.out.2.1)) | (refine wpList_load34 rfl _ rfl rfl HB6.out.2.2 ?_))
      refine (HWM.out _ HC6.out).mono ?_
      rintro e W7 ⟨rfl, hc7⟩
      have HC7 := hide (HC6.out.stay hc7)
      clear hc7
      go_wp2_with fail
      refine (HKN.out _ HC7.out).mono ?_
      rintro e W8 ⟨rfl, hc8⟩
      go_wp2_with fail
      go_ret
      exact ⟨rfl, HC7.out.stay hc8⟩
end Go.Proofs.YtinlpjgjjplceaaDoor
