/- CallsForms: its walk. -/
import Derived.Test.YtinlpjgjjplceaaDoorCaP
import Derived.Test.YtinlpjgjjplceaaDoorCcC
import Derived.Test.YtinlpjgjjplceaaDoorCcN
namespace Go.Proofs.YtinlpjgjjplceaaDoor
open Go Go.RowKit

theorem encC_b8 {x : Cl} (hx : x.Ok) : ∀ b ∈ encC x, b < 256 := by rw [← encR_eq]; exact encR_b8 hx
theorem encC_short {x : Cl} (hm : mayK x = true) : (encC x).length ≤ 1000 := by
  have h8 := (mayK_parts hm).2.2
  have h1 := enc_len x (fld x.k)
  have h2 := fld_len x.k
  unfold encC
  rw [List.length_append, le8_length]
  have h3 : (fld x.k).length * (16 + x.l.length) ≤ 4 * 24 := Nat.mul_le_mul h2 (by omega)
  omega
set_option maxRecDepth 20000 in
set_option maxHeartbeats 40000000 in
theorem forms_law {w : World} (hf : FW w) {x y : Cl} {v u : Value} (hx : x.Ok) (hy : y.Ok) (hv : RB w v x.l) (hu : RB w u y.l) :
    Calls Tryd.prog 5 #[.agg (clc x v), .agg (clc y u)] w fun e w' => e = .returned (.bool true) ∧ Chg [] w w' := by
  obtain ⟨A0, c0, rfl⟩ := RE.form hv
  obtain ⟨A1, c1, rfl⟩ := RE.form hu
  obtain ⟨W2, hW2⟩ : ∃ W2, W2 = (w.alloc (.cells (clc x (.slice A0 x.l.length c0)) 34)).alloc (.cells (clc y (.slice A1 y.l.length c1)) 34) := ⟨_, rfl⟩
  have hc2 : Chg [] w W2 := by rw [hW2]; exact ((Chg.refl [] w).alloc _).alloc _
  have hb1 : KB W2 w.heap.size x (.slice A0 x.l.length c0) := by rw [hW2]; exact (Blk.new w 34 _).alloc _
  have hb2 : KB W2 (w.heap.size + 1) y (.slice A1 y.l.length c1) := by
    have := Blk.new (w.alloc (.cells (clc x (.slice A0 x.l.length c0)) 34)) 34 (clc y (.slice A1 y.l.length c1))
    rw [World.size_alloc] at this
    rw [hW2]
    exact this
  have HB := hide (And.intro hb1 hb2)
  have HC := hide hc2
  have HW2 := hide hW2
  have HV := hide (And.intro hv hu)
  have HX := hide (And.intro hx hy)
  have HKN := hide (fun W (h : Chg [] w W) => knownK_any (hf.stay h))
  have HF := hide hf
  obtain ⟨-, -, -, -, -, -, -, -, -, -, -, q11, ql, -⟩ := KB.cells hb1
  obtain ⟨-, -, -, -, -, -, -, -, -, -, -, r11, rl, -⟩ := KB.cells hb2
  clear hf hx hy hv hu hW2 hc2 hb1 hb2
  by_cases l1 : 1000 < x.l.length
  · have d1 : decide ((1000 : Int) < (x.l.length : Int)) = true := decide_eq_true (by omega)
    have d1' : decide (1000 < x.l.length) = true := decide_eq_true l1
    clear l1
    go_enter Tryd.func5, Tryd.ntmps5
    go_wp2_with (first | (refine wpList_box34 rfl _ rfl rfl ?_; try simp only [World.size_alloc]; try rw [← HW2.out]))
    refine (HKN.out _ HC.out).mono ?_
    rintro e W3 ⟨rfl, hc3⟩
    go_wp2_with fail
    go_ret
    exact ⟨rfl, HC.out.stay hc3⟩
  have d1 : decide ((1000 : Int) < (x.l.length : Int)) = false := decide_eq_false (by omega)
  have d1' : decide (1000 < x.l.length) = false := decide_eq_false l1
  have HLX := hide (show x.l.length ≤ 1000 by omega)
  clear l1
  by_cases l2 : 1000 < y.l.length
  · have d2 : decide ((1000 : Int) < (y.l.length : Int)) = true := decide_eq_true (by omega)
    have d2' : decide (1000 < y.l.length) = true := decide_eq_true l2
    clear l2
    go_enter Tryd.func5, Tryd.ntmps5
    go_wp2_with (first | (refine wpList_box34 rfl _ rfl rfl ?_; try simp only [World.size_alloc]; try rw [← HW2.out]))
    refine (HKN.out _ HC.out).mono ?_
    rintro e W3 ⟨rfl, hc3⟩
    go_wp2_with fail
    go_ret
    exact ⟨rfl, HC.out.stay hc3⟩
  have d2 : decide ((1000 : Int) < (y.l.length : Int)) = false := decide_eq_false (by omega)
  have d2' : decide (1000 < y.l.length) = false := decide_eq_false l2
  clear l2
  go_enter Tryd.func5, Tryd.ntmps5
  go_upto_region 3 with (first | (refine wpList_box34 rfl _ rfl rfl ?_; try simp only [World.size_alloc]; try rw [← HW2.out]))
  clear d1 d1' d2 d2' q11 ql r11 rl
  go_wp2_with (first | (refine wpList_load34 rfl _ rfl rfl HB.out.1 ?_))
  refine (copied_any (RE.stay HV.out.1 HC.out) HLX.out).mono ?_
  rintro e W3 ⟨⟨A3, n3, c3, rfl, hs3, -⟩, hc3⟩
  have HB3 := hide (show KB W3 w.heap.size x (.slice A0 x.l.length c0) ∧ KB W3 (w.heap.size + 1) y (.slice A1 y.l.length c1) from ⟨KB.stay HB.out.1 hc3, KB.stay HB.out.2 hc3⟩)
  have HC3 := hide (HC.out.stay hc3)
  have HS3 := hide hs3
  clear hs3 hc3 HB HC
  go_upto_region 4 with (first | (refine wpList_alloc34 rfl rfl ?_; try go_simp) | (refine wpList_store34 (b := W3.heap.size) (y := x) (u := .slice A3 n3 c3) rfl _ _ rfl rfl rfl rfl (Blk.new W3 _ _) ?_; intro W4 h4 hc4))
  have HI4 := hide h4
  have HB4 := hide (show KB W4 w.heap.size x (.slice A0 x.l.length c0) ∧ KB W4 (w.heap.size + 1) y (.slice A1 y.l.length c1) from ⟨KB.stay HB3.out.1 (made_kb hc4), KB.stay HB3.out.2 (made_kb hc4)⟩)
  have HC4 := hide (HC3.out.stay (made_kb hc4))
  have HS4 := hide (HS3.out.stay (made_kb hc4))
  clear h4 hc4 HB3 HC3 HS3
  generalize W3.heap.size = b3 at HI4 ⊢
  go_wp2_with (first | (refine wpList_load34 rfl _ rfl rfl HI4.out ?_))
  refine (Bytes_any (HF.out.stay HC4.out) HX.out.1 HS4.out.re).mono ?_
  rintro e W5 ⟨hb5, hc5⟩
  have HI5 := hide (KB.stay HI4.out hc5)
  have HB5 := hide (show KB W5 w.heap.size x (.slice A0 x.l.length c0) ∧ KB W5 (w.heap.size + 1) y (.slice A1 y.l.length c1) from ⟨KB.stay HB4.out.1 hc5, KB.stay HB4.out.2 hc5⟩)
  have HC5 := hide (HC4.out.stay hc5)
  have HS5 := hide (HS4.out.stay hc5)
  clear hc5 HB4 HC4 HS4 HI4
  have HP := hide hb5
  have hbe : ∃ A n c i, e = .returned (.tuple #[.slice A n c, .int .i64 i]) := by
    obtain ⟨-, rfl⟩ | ⟨-, A, n, c, rfl, -, -⟩ := hb5
    · exact ⟨_, _, _, _, rfl⟩
    · exact ⟨_, _, _, _, rfl⟩
  obtain ⟨A, n, c, i, rfl⟩ := hbe
  clear hb5
  go_upto_region 5 with (fail)
  have HM1 := hide (fun W (h : Chg [] W5 W) => MayK_any (HF.out.stay (HC5.out.stay h)) HX.out.1 (HS5.out.re.stay h))
  have HM2 := hide (fun W (h : Chg [] W5 W) => rMayK_any HX.out.1 (HV.out.1.stay (HC5.out.stay h)))
  have HS1 := hide (fun W (h : Chg [] W5 W) => rSame_any (x := x) (y := x) (HS5.out.re.stay h) (HV.out.1.stay (HC5.out.stay h)) HX.out.1.l HX.out.1.l)
  have HS2 := hide (fun W (h : Chg [] W5 W) => SameK_any (x := x) (y := y) (HS5.out.re.stay h) (HV.out.2.stay (HC5.out.stay h)) HX.out.1.l HX.out.2.l)
  have HS3 := hide (fun W (h : Chg [] W5 W) => rSame_any (x := x) (y := y) (HV.out.1.stay (HC5.out.stay h)) (HV.out.2.stay (HC5.out.stay h)) HX.out.1.l HX.out.2.l)
  have HS4 := hide (fun W (h : Chg [] W5 W) => SameK_any (x := x) (y := x) (HS5.out.re.stay h) (HV.out.1.stay (HC5.out.stay h)) HX.out.1.l HX.out.1.l)
  rw [sameB_self] at HS1 HS4
  rw [mayR_eq HX.out.1] at HM2
  generalize sameB x y = sm at HS2 HS3
  have hmm : ∃ m, m = mayK x := ⟨_, rfl⟩
  obtain ⟨m, hmm⟩ := hmm
  rw [← hmm] at HM1 HM2
  have HMM := hide hmm
  clear hmm
  have hS : Chg [] W5 W5.drew := (Chg.refl [] W5).drew
  refine wp_region_t [5,6,5,6,0,0,5,5,6,0,0,0,5,5,6,5,5,6,0,0,0,5,5,6,0,0] [none, none, none, none, none, none, some (33, false), some (33, false), some (33, false), some (33, false), none, none, some (39, false), some (39, false), some (39, false), some (39, false), some (39, false), some (39, false), some (39, false), none, none, some (48, false), some (48, false), some (48, false), some (48, false), none] (fun W => Chg [] W5 W) (by kernel_rfl) (by kernel_rfl) (by kernel_rfl) ?_
  go_wp2_with (first | (refine wpG_hload 34 _ rfl rfl (fun w' hw' => KB.load (KB.stay HI5.out hw')) hS ?_) | (refine wpG_calc rfl (fun K hK => ?_)) | (refine wpG_skip ?_ ?_; (focus (simp [wantG]; done)); go_simp) | (refine wpG_take ?_ ?_; (focus (simp [wantG]; done))) | (refine wpG_pure (fun K hK => ?_); go_simp; refine hK _ _ ?_; clear hK K) | (refine wpG_deed (by decide) (fun K hK => ?_); go_simp) | (refine wpG_nil ?_))
  (refine wpG_keeps hS (fun K hK => ?_))
  go_simp
  refine (HM1.out _ hS).mono ?_
  rintro e W6 ⟨rfl, hc6⟩
  have hS6 : Chg [] W5 W6 := hS.stay hc6
  refine hK _ _ hS6 ?_
  clear hK K hc6 hS
  go_wp2_with (first | (refine wpG_hload 34 _ rfl rfl (fun w' hw' => KB.load (KB.stay HB5.out.1 hw')) hS6 ?_) | (refine wpG_calc rfl (fun K hK => ?_)) | (refine wpG_skip ?_ ?_; (focus (simp [wantG]; done)); go_simp) | (refine wpG_take ?_ ?_; (focus (simp [wantG]; done))) | (refine wpG_pure (fun K hK => ?_); go_simp; refine hK _ _ ?_; clear hK K) | (refine wpG_deed (by decide) (fun K hK => ?_); go_simp) | (refine wpG_nil ?_))
  (refine wpG_keeps hS6 (fun K hK => ?_))
  go_simp
  refine (HM2.out _ hS6).mono ?_
  rintro e W7 ⟨rfl, hc7⟩
  have hS7 : Chg [] W5 W7 := hS6.stay hc7
  refine hK _ _ hS7 ?_
  clear hK K hc7 hS6
  go_wp2_with (first | (refine wpG_hload 34 _ rfl rfl (fun w' hw' => KB.load (KB.stay HI5.out hw')) hS7 ?_) | (refine wpG_hload 34 _ rfl rfl (fun w' hw' => KB.load (KB.stay HB5.out.1 hw')) hS7 ?_) | (refine wpG_calc rfl (fun K hK => ?_)) | (refine wpG_skip ?_ ?_; (focus (simp [wantG]; done)); go_simp) | (refine wpG_take ?_ ?_; (focus (simp [wantG]; done))) | (refine wpG_pure (fun K hK => ?_); go_simp; refine hK _ _ ?_; clear hK K) | (refine wpG_deed (by decide) (fun K hK => ?_); go_simp) | (refine wpG_nil ?_))
  (refine wpG_keeps hS7 (fun K hK => ?_))
  go_simp
  refine (HS1.out _ hS7).mono ?_
  rintro e W8 ⟨rfl, hc8⟩
  have hS8 : Chg [] W5 W8 := hS7.stay hc8
  refine hK _ _ hS8 ?_
  clear hK K hc8 hS7
  go_wp2_with (first | (refine wpG_hload 34 _ rfl rfl (fun w' hw' => KB.load (KB.stay HI5.out hw')) hS8 ?_) | (refine wpG_hload 34 _ rfl rfl (fun w' hw' => KB.load (KB.stay HB5.out.2 hw')) hS8 ?_) | (refine wpG_calc rfl (fun K hK => ?_)) | (refine wpG_skip ?_ ?_; (focus (simp [wantG]; done)); go_simp) | (refine wpG_take ?_ ?_; (focus (simp [wantG]; done))) | (refine wpG_pure (fun K hK => ?_); go_simp; refine hK _ _ ?_; clear hK K) | (refine wpG_deed (by decide) (fun K hK => ?_); go_simp) | (refine wpG_nil ?_))
  (refine wpG_keeps hS8 (fun K hK => ?_))
  go_simp
  refine (HS2.out _ hS8).mono ?_
  rintro e W9 ⟨rfl, hc9⟩
  have hS9 : Chg [] W5 W9 := hS8.stay hc9
  refine hK _ _ hS9 ?_
  clear hK K hc9 hS8
  go_wp2_with (first | (refine wpG_hload 34 _ rfl rfl (fun w' hw' => KB.load (KB.stay HB5.out.1 hw')) hS9 ?_) | (refine wpG_hload 34 _ rfl rfl (fun w' hw' => KB.load (KB.stay HB5.out.2 hw')) hS9 ?_) | (refine wpG_calc rfl (fun K hK => ?_)) | (refine wpG_skip ?_ ?_; (focus (simp [wantG]; done)); go_simp) | (refine wpG_take ?_ ?_; (focus (simp [wantG]; done))) | (refine wpG_pure (fun K hK => ?_); go_simp; refine hK _ _ ?_; clear hK K) | (refine wpG_deed (by decide) (fun K hK => ?_); go_simp) | (refine wpG_nil ?_))
  (refine wpG_keeps hS9 (fun K hK => ?_))
  go_simp
  refine (HS3.out _ hS9).mono ?_
  rintro e W10 ⟨rfl, hc10⟩
  have hS10 : Chg [] W5 W10 := hS9.stay hc10
  refine hK _ _ hS10 ?_
  clear hK K hc10 hS9
  go_wp2_with (first | (refine wpG_hload 34 _ rfl rfl (fun w' hw' => KB.load (KB.stay HI5.out hw')) hS10 ?_) | (refine wpG_hload 34 _ rfl rfl (fun w' hw' => KB.load (KB.stay HB5.out.1 hw')) hS10 ?_) | (refine wpG_calc rfl (fun K hK => ?_)) | (refine wpG_skip ?_ ?_; (focus (simp [wantG]; done)); go_simp) | (refine wpG_take ?_ ?_; (focus (simp [wantG]; done))) | (refine wpG_pure (fun K hK => ?_); go_simp; refine hK _ _ ?_; clear hK K) | (refine wpG_deed (by decide) (fun K hK => ?_); go_simp) | (refine wpG_nil ?_))
  (refine wpG_keeps hS10 (fun K hK => ?_))
  go_simp
  refine (HS4.out _ hS10).mono ?_
  rintro e W11 ⟨rfl, hc11⟩
  have hS11 : Chg [] W5 W11 := hS10.stay hc11
  refine hK _ _ hS11 ?_
  clear hK K hc11 hS10 HS1 HS2 HS3 HS4 HM1
  have HB11 := hide (KB.stay HB5.out.1 hS11)
  have HC11 := hide (HC5.out.stay hS11)
  have HM3 := hide (HM2.out _ hS11)
  have hp := HP.out
  unfold BytesR at hp
  cases m with
  | false =>
    obtain ⟨-, he⟩ | ⟨h, -⟩ := hp
    case inr => rw [← HMM.out] at h; cases h
    simp at he
    obtain ⟨⟨rfl, rfl, rfl⟩, rfl⟩ := he
    go_wp2_with (first | (refine wpList_load34 rfl _ rfl rfl HB11.out ?_) | (refine wpG_calc rfl (fun K hK => ?_)) | (refine wpG_skip ?_ ?_; (focus (simp [wantG]; done)); go_simp) | (refine wpG_take ?_ ?_; (focus (simp [wantG]; done))) | (refine wpG_pure (fun K hK => ?_); go_simp; refine hK _ _ ?_; clear hK K) | (refine wpG_deed (by decide) (fun K hK => ?_); go_simp) | (refine wpG_nil ?_))
    refine HM3.out.mono ?_
    rintro e W12 ⟨rfl, hc12⟩
    have HC12 := hide (HC11.out.stay hc12)
    clear hc12
    go_wp2_with fail
    refine (HKN.out _ HC12.out).mono ?_
    rintro e W13 ⟨rfl, hc13⟩
    go_wp2_with fail
    go_ret
    exact ⟨rfl, HC12.out.stay hc13⟩
  | true =>
    obtain ⟨h, -⟩ | ⟨-, A', n', c', he, hs, -⟩ := hp
    · rw [← HMM.out] at h; cases h
    simp at he
    obtain ⟨⟨rfl, rfl, rfl⟩, rfl⟩ := he
    have HS8 := hide (hs.stay hS11)
    clear hs HP
    go_wp2_with (first | (refine wpList_load34 rfl _ rfl rfl HB11.out ?_) | (refine wpG_calc rfl (fun K hK => ?_)) | (refine wpG_skip ?_ ?_; (focus (simp [wantG]; done)); go_simp) | (refine wpG_take ?_ ?_; (focus (simp [wantG]; done))) | (refine wpG_pure (fun K hK => ?_); go_simp; refine hK _ _ ?_; clear hK K) | (refine wpG_deed (by decide) (fun K hK => ?_); go_simp) | (refine wpG_nil ?_))
    refine HM3.out.mono ?_
    rintro e W12 ⟨rfl, hc12⟩
    have HC12 := hide (HC11.out.stay hc12)
    have HB12 := hide (KB.stay HB11.out hc12)
    have HS12 := hide (HS8.out.stay hc12)
    clear hc12 HC11 HB11 HS8
    go_wp2_with fail
    have HEL := hide (show (encC x).length ≤ 100000 by have := encC_short HMM.out.symm; omega)
    refine (Read_any (HF.out.stay HC12.out) HS12.out.re (encC_b8 HX.out.1) HEL.out).mono ?_
    rintro e W13 ⟨⟨A5, n5, k5, rfl, hs5, -⟩, hc13⟩
    rw [(readC_enc HX.out.1 HMM.out.symm).1, (readC_enc HX.out.1 HMM.out.symm).2]
    rw [(readC_enc HX.out.1 HMM.out.symm).1] at hs5
    have HC13 := hide (HC12.out.stay hc13)
    have HB13 := hide (KB.stay HB12.out hc13)
    have HS13 := hide (HS12.out.stay hc13)
    have HT13 := hide hs5
    clear hc13 HC12 HB12 HS12 hs5
    go_upto_region 10 with (first | (refine wpList_alloc34 rfl rfl ?_; try go_simp) | (refine wpList_store34 (b := W13.heap.size) (y := x) (u := .slice A5 n5 k5) rfl _ _ rfl rfl rfl rfl (Blk.new W13 _ _) ?_; intro W14 h14 hc14))
    have HX14 := hide h14
    have HC14 := hide (HC13.out.stay (made_kb hc14))
    have HB14 := hide (KB.stay HB13.out (made_kb hc14))
    have HS14 := hide (HS13.out.stay (made_kb hc14))
    have HT14 := hide (HT13.out.stay (made_kb hc14))
    clear h14 hc14 HC13 HB13 HS13 HT13 HM2 HM3
    have hS : Chg [] W14 W14.drew := (Chg.refl [] W14).drew
    have HCB := hide (fun W (h : Chg [] W14 W) => run_str (HS14.out.re.stay h) (encC_b8 HX.out.1))
    have HSM := hide (fun W (h : Chg [] W14 W) => rSame_any (x := x) (y := x) (HT14.out.re.stay h) (HV.out.1.stay (HC14.out.stay h)) HX.out.1.l HX.out.1.l)
    rw [sameB_self] at HSM
    generalize hsx : strB (encC x) = sx at HCB
    have HSX := hide hsx
    clear hsx
    refine wp_region_t [0,0,0,0,0,0,0,0,5,5,6,6,0,0,0,5,5,6,0,0,6,0,0] [none, none, none, some (74, true), some (74, true), none, none, some (78, true), some (78, true), some (78, true), some (78, true), some (78, true), some (78, true), none, none, some (86, true), some (86, true), some (86, true), none, none, some (91, true), none, none] (fun W => Chg [] W14 W) (by kernel_rfl) (by kernel_rfl) (by kernel_rfl) ?_
    go_wp2_with (first | (refine wpG_hconv 32 9 _ rfl rfl HCB.out hS ?_) | (refine wpG_hload 34 _ rfl rfl (fun w' hw' => KB.load (KB.stay HB14.out hw')) hS ?_) | (refine wpG_calc rfl (fun K hK => ?_)) | (refine wpG_skip ?_ ?_; (focus (simp [wantG]; done)); go_simp) | (refine wpG_take ?_ ?_; (focus (simp [wantG]; done))) | (refine wpG_pure (fun K hK => ?_); go_simp; refine hK _ _ ?_; clear hK K) | (refine wpG_deed (by decide) (fun K hK => ?_); go_simp) | (refine wpG_nil ?_))
    (refine wpG_keeps hS (fun K hK => ?_))
    go_simp
    refine (rBytes_any HX.out.1 (by have := HLX.out; omega) (HV.out.1.stay (HC14.out.stay hS))).mono ?_
    rintro e W15 ⟨⟨A8, n8, k8, rfl, hs8, -⟩, hc15⟩
    have hS15 : Chg [] W14 W15 := hS.stay hc15
    refine hK _ _ hS15 ?_
    clear hK K hc15 hS
    rw [encR_eq] at hs8
    have hcx := run_str hs8.re (encC_b8 HX.out.1)
    rw [HSX.out] at hcx
    clear hs8
    go_wp2_with (first | fail | (refine wpG_calc rfl (fun K hK => ?_)) | (refine wpG_skip ?_ ?_; (focus (simp [wantG]; done)); go_simp) | (refine wpG_take ?_ ?_; (focus (simp [wantG]; done))) | (refine wpG_pure (fun K hK => ?_); go_simp; refine hK _ _ ?_; clear hK K) | (refine wpG_deed (by decide) (fun K hK => ?_); go_simp) | (refine wpG_nil ?_))
    (refine wpG_keeps hS15 (fun K hK => ?_))
    go_simp
    refine hK _ _ hS15 ?_
    clear hK K hcx
    go_wp2_with (first | (refine wpG_hload 34 _ rfl rfl (fun w' hw' => KB.load (KB.stay HX14.out hw')) hS15 ?_) | (refine wpG_hload 34 _ rfl rfl (fun w' hw' => KB.load (KB.stay HB14.out hw')) hS15 ?_) | (refine wpG_calc rfl (fun K hK => ?_)) | (refine wpG_skip ?_ ?_; (focus (simp [wantG]; done)); go_simp) | (refine wpG_take ?_ ?_; (focus (simp [wantG]; done))) | (refine wpG_pure (fun K hK => ?_); go_simp; refine hK _ _ ?_; clear hK K) | (refine wpG_deed (by decide) (fun K hK => ?_); go_simp) | (refine wpG_nil ?_))
    (refine wpG_keeps hS15 (fun K hK => ?_))
    go_simp
    refine (HSM.out _ hS15).mono ?_
    rintro e W16 ⟨rfl, hc16⟩
    have hS16 : Chg [] W14 W16 := hS15.stay hc16
    refine hK _ _ hS16 ?_
    clear hK K hc16 hS15
    go_wp2_with (first | fail | (refine wpG_calc rfl (fun K hK => ?_)) | (refine wpG_skip ?_ ?_; (focus (simp [wantG]; done)); go_simp) | (refine wpG_take ?_ ?_; (focus (simp [wantG]; done))) | (refine wpG_pure (fun K hK => ?_); go_simp; refine hK _ _ ?_; clear hK K) | (refine wpG_deed (by decide) (fun K hK => ?_); go_simp) | (refine wpG_nil ?_))
    (refine wpG_keeps hS16 (fun K hK => ?_))
    go_simp
    refine (HKN.out _ (HC14.out.stay hS16)).mono ?_
    rintro e W17 ⟨rfl, hc17⟩
    have hS17 : Chg [] W14 W17 := hS16.stay hc17
    refine hK _ _ hS17 ?_
    clear hK K hc17 hS16
    go_wp2_with (first | fail | (refine wpG_calc rfl (fun K hK => ?_)) | (refine wpG_skip ?_ ?_; (focus (simp [wantG]; done)); go_simp) | (refine wpG_take ?_ ?_; (focus (simp [wantG]; done))) | (refine wpG_pure (fun K hK => ?_); go_simp; refine hK _ _ ?_; clear hK K) | (refine wpG_deed (by decide) (fun K hK => ?_); go_simp) | (refine wpG_nil ?_))
    go_ret
    exact ⟨rfl, HC14.out.stay hS17⟩
end Go.Proofs.YtinlpjgjjplceaaDoor
