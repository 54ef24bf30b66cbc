/- CallsResults: its walk. -/
import Derived.Test.YtinlpjgjjplceaaDoorCaP
import Derived.Test.YtinlpjgjjplceaaDoorCcE
import Derived.Test.YtinlpjgjjplceaaDoorCcI
namespace Go.Proofs.YtinlpjgjjplceaaDoor
open Go Go.RowKit

theorem made_rs {W w' : World} {o : Obj} (hc : Chg [W.heap.size] (W.alloc o) w') : Chg [] W w' :=
  ((Chg.refl [] W).alloc _).trans hc (fun y hy => .inr (by obtain rfl := List.mem_singleton.1 hy; exact Nat.le_refl _))
theorem sameRs_self (r : Rs) : sameRs r r = true := (sameRs_iff r r).2 rfl
set_option maxRecDepth 20000 in
set_option maxHeartbeats 40000000 in
theorem results_law {w : World} (hf : FW w) {x y : Rs} {v u : Value} (hx : x.Ok) (hy : y.Ok) (hv : RB w v x.l) (hu : RB w u y.l) :
    Calls Tryd.prog 9 #[.agg (rsc x v), .agg (rsc y u)] w fun e w' => e = .returned (.bool true) ∧ Chg [] w w' := by
  obtain ⟨A0, c0, rfl⟩ := RE.form hv
  obtain ⟨A1, c1, rfl⟩ := RE.form hu
  obtain ⟨W2, hW2⟩ : ∃ W2, W2 = (w.alloc (.cells (rsc x (.slice A0 x.l.length c0)) 48)).alloc (.cells (rsc y (.slice A1 y.l.length c1)) 48) := ⟨_, rfl⟩
  have hc2 : Chg [] w W2 := by rw [hW2]; exact ((Chg.refl [] w).alloc _).alloc _
  have hb1 : XB W2 w.heap.size x (.slice A0 x.l.length c0) := by rw [hW2]; exact (Blk.new w 48 _).alloc _
  have hb2 : XB W2 (w.heap.size + 1) y (.slice A1 y.l.length c1) := by
    have := Blk.new (w.alloc (.cells (rsc x (.slice A0 x.l.length c0)) 48)) 48 (rsc y (.slice A1 y.l.length c1))
    rw [World.size_alloc] at this
    rw [hW2]
    exact this
  have HB := hide (And.intro hb1 hb2)
  have HC := hide hc2
  have HW2 := hide hW2
  have HV := hide (And.intro hv hu)
  have HX := hide (And.intro hx hy)
  have HKN := hide (fun W (h : Chg [] w W) => knownK_any (hf.stay h))
  obtain ⟨-, -, q11, ql, -⟩ := XB.cells hb1
  obtain ⟨-, -, r11, rl, -⟩ := XB.cells hb2
  clear hf hx hy hv hu hW2 hc2 hb1 hb2
  by_cases l1 : 1000 < x.l.length
  · have d1 : decide ((1000 : Int) < (x.l.length : Int)) = true := decide_eq_true (by omega)
    have d1' : decide (1000 < x.l.length) = true := decide_eq_true l1
    clear l1
    go_enter Tryd.func9, Tryd.ntmps9
    go_wp2_with (first | (refine wpList_boxRs rfl _ rfl rfl ?_; try simp only [World.size_alloc]; try rw [← HW2.out]))
    refine (HKN.out _ HC.out).mono ?_
    rintro e W3 ⟨rfl, hc3⟩
    go_wp2_with fail
    go_ret
    exact ⟨rfl, HC.out.stay hc3⟩
  have d1 : decide ((1000 : Int) < (x.l.length : Int)) = false := decide_eq_false (by omega)
  have d1' : decide (1000 < x.l.length) = false := decide_eq_false l1
  have HLX := hide (show x.l.length ≤ 100000 by omega)
  clear l1
  by_cases l2 : 1000 < y.l.length
  · have d2 : decide ((1000 : Int) < (y.l.length : Int)) = true := decide_eq_true (by omega)
    have d2' : decide (1000 < y.l.length) = true := decide_eq_true l2
    clear l2
    go_enter Tryd.func9, Tryd.ntmps9
    go_wp2_with (first | (refine wpList_boxRs rfl _ rfl rfl ?_; try simp only [World.size_alloc]; try rw [← HW2.out]))
    refine (HKN.out _ HC.out).mono ?_
    rintro e W3 ⟨rfl, hc3⟩
    go_wp2_with fail
    go_ret
    exact ⟨rfl, HC.out.stay hc3⟩
  have d2 : decide ((1000 : Int) < (y.l.length : Int)) = false := decide_eq_false (by omega)
  have d2' : decide (1000 < y.l.length) = false := decide_eq_false l2
  clear l2
  go_enter Tryd.func9, Tryd.ntmps9
  go_upto_region 3 with (first | (refine wpList_boxRs rfl _ rfl rfl ?_; try simp only [World.size_alloc]; try rw [← HW2.out]))
  clear d1 d1' d2 d2' q11 ql r11 rl
  go_wp2_with (first | (refine wpList_loadRs rfl _ rfl rfl HB.out.1 ?_))
  refine (RsBytes_any HX.out.1 (RE.stay HV.out.1 HC.out)).mono ?_
  rintro e W3 ⟨hb3, hc3⟩
  have HB3 := hide (show XB W3 w.heap.size x (.slice A0 x.l.length c0) ∧ XB W3 (w.heap.size + 1) y (.slice A1 y.l.length c1) from ⟨XB.stay HB.out.1 hc3, XB.stay HB.out.2 hc3⟩)
  have HC3 := hide (HC.out.stay hc3)
  clear hc3 HB HC
  have HP := hide hb3
  have hbe : ∃ A n c i, e = .returned (.tuple #[.slice A n c, .int .i64 i]) := by
    obtain ⟨-, rfl⟩ | ⟨-, A, n, c, rfl, -, -⟩ := hb3
    · exact ⟨_, _, _, _, rfl⟩
    · exact ⟨_, _, _, _, rfl⟩
  obtain ⟨A, n, c, i, rfl⟩ := hbe
  clear hb3
  go_wp2_with fail
  have HM1 := hide (fun W => MayRs_any x (.slice A0 x.l.length c0) ⟨_, _, rfl⟩ W)
  have HM2 := hide (fun W => rMayRs_any x (.slice A0 x.l.length c0) ⟨_, _, rfl⟩ W)
  have HS1 := hide (fun W (h : Chg [] w W) => SameRs_any (x := x) (y := y) (HV.out.1.stay h) (HV.out.2.stay h) HX.out.1.l HX.out.2.l)
  have HS2 := hide (fun W (h : Chg [] w W) => rSameRs_any (x := x) (y := y) (HV.out.1.stay h) (HV.out.2.stay h) HX.out.1.l HX.out.2.l)
  have HS3 := hide (fun W (h : Chg [] w W) => SameRs_any (x := x) (y := x) (HV.out.1.stay h) (HV.out.1.stay h) HX.out.1.l HX.out.1.l)
  rw [sameRs_self] at HS3
  generalize sameRs x y = sm at HS1 HS2
  have hmm : ∃ m, m = mayRs x := ⟨_, rfl⟩
  obtain ⟨m, hmm⟩ := hmm
  rw [← hmm] at HM1 HM2
  have HMM := hide hmm
  clear hmm
  have hS : Chg [] W3 W3.drew := (Chg.refl [] W3).drew
  refine wp_region_t [5,6,5,6,0,0,5,5,6,5,5,6,0,0,0,5,5,6,0,0] [none, none, none, none, none, none, some (30, false), some (30, false), some (30, false), some (30, false), some (30, false), some (30, false), some (30, false), none, none, some (39, false), some (39, false), some (39, false), some (39, false), none] (fun W => Chg [] W3 W) (by kernel_rfl) (by kernel_rfl) (by kernel_rfl) ?_
  go_wp2_with (first | (refine wpG_hload 48 _ rfl rfl (fun w' hw' => XB.load (XB.stay HB3.out.1 hw')) hS ?_) | (refine wpG_calc rfl (fun K hK => ?_)) | (refine wpG_skip ?_ ?_; (focus (simp [wantG]; done)); go_simp) | (refine wpG_take ?_ ?_; (focus (simp [wantG]; done))) | (refine wpG_pure (fun K hK => ?_); go_simp; refine hK _ _ ?_; clear hK K) | (refine wpG_deed (by decide) (fun K hK => ?_); go_simp) | (refine wpG_nil ?_))
  (refine wpG_keeps hS (fun K hK => ?_))
  go_simp
  refine (HM1.out _).mono ?_
  rintro e W4 ⟨rfl, hc4⟩
  have hS4 : Chg [] W3 W4 := hS.stay hc4
  refine hK _ _ hS4 ?_
  clear hK K hc4 hS
  go_wp2_with (first | (refine wpG_hload 48 _ rfl rfl (fun w' hw' => XB.load (XB.stay HB3.out.1 hw')) hS4 ?_) | (refine wpG_calc rfl (fun K hK => ?_)) | (refine wpG_skip ?_ ?_; (focus (simp [wantG]; done)); go_simp) | (refine wpG_take ?_ ?_; (focus (simp [wantG]; done))) | (refine wpG_pure (fun K hK => ?_); go_simp; refine hK _ _ ?_; clear hK K) | (refine wpG_deed (by decide) (fun K hK => ?_); go_simp) | (refine wpG_nil ?_))
  (refine wpG_keeps hS4 (fun K hK => ?_))
  go_simp
  refine (HM2.out _).mono ?_
  rintro e W5 ⟨rfl, hc5⟩
  have hS5 : Chg [] W3 W5 := hS4.stay hc5
  refine hK _ _ hS5 ?_
  clear hK K hc5 hS4
  go_wp2_with (first | (refine wpG_hload 48 _ rfl rfl (fun w' hw' => XB.load (XB.stay HB3.out.1 hw')) hS5 ?_) | (refine wpG_hload 48 _ rfl rfl (fun w' hw' => XB.load (XB.stay HB3.out.2 hw')) hS5 ?_) | (refine wpG_calc rfl (fun K hK => ?_)) | (refine wpG_skip ?_ ?_; (focus (simp [wantG]; done)); go_simp) | (refine wpG_take ?_ ?_; (focus (simp [wantG]; done))) | (refine wpG_pure (fun K hK => ?_); go_simp; refine hK _ _ ?_; clear hK K) | (refine wpG_deed (by decide) (fun K hK => ?_); go_simp) | (refine wpG_nil ?_))
  (refine wpG_keeps hS5 (fun K hK => ?_))
  go_simp
  refine (HS1.out _ (HC3.out.stay hS5)).mono ?_
  rintro e W6 ⟨rfl, hc6⟩
  have hS6 : Chg [] W3 W6 := hS5.stay hc6
  refine hK _ _ hS6 ?_
  clear hK K hc6 hS5
  go_wp2_with (first | (refine wpG_hload 48 _ rfl rfl (fun w' hw' => XB.load (XB.stay HB3.out.1 hw')) hS6 ?_) | (refine wpG_hload 48 _ rfl rfl (fun w' hw' => XB.load (XB.stay HB3.out.2 hw')) hS6 ?_) | (refine wpG_calc rfl (fun K hK => ?_)) | (refine wpG_skip ?_ ?_; (focus (simp [wantG]; done)); go_simp) | (refine wpG_take ?_ ?_; (focus (simp [wantG]; done))) | (refine wpG_pure (fun K hK => ?_); go_simp; refine hK _ _ ?_; clear hK K) | (refine wpG_deed (by decide) (fun K hK => ?_); go_simp) | (refine wpG_nil ?_))
  (refine wpG_keeps hS6 (fun K hK => ?_))
  go_simp
  refine (HS2.out _ (HC3.out.stay hS6)).mono ?_
  rintro e W7 ⟨rfl, hc7⟩
  have hS7 : Chg [] W3 W7 := hS6.stay hc7
  refine hK _ _ hS7 ?_
  clear hK K hc7 hS6
  go_wp2_with (first | (refine wpG_hload 48 _ rfl rfl (fun w' hw' => XB.load (XB.stay HB3.out.1 hw')) hS7 ?_) | (refine wpG_hload 48 _ rfl rfl (fun w' hw' => XB.load (XB.stay HB3.out.2 hw')) hS7 ?_) | (refine wpG_calc rfl (fun K hK => ?_)) | (refine wpG_skip ?_ ?_; (focus (simp [wantG]; done)); go_simp) | (refine wpG_take ?_ ?_; (focus (simp [wantG]; done))) | (refine wpG_pure (fun K hK => ?_); go_simp; refine hK _ _ ?_; clear hK K) | (refine wpG_deed (by decide) (fun K hK => ?_); go_simp) | (refine wpG_nil ?_))
  (refine wpG_keeps hS7 (fun K hK => ?_))
  go_simp
  refine (HS3.out _ (HC3.out.stay hS7)).mono ?_
  rintro e W8 ⟨rfl, hc8⟩
  have hS8 : Chg [] W3 W8 := hS7.stay hc8
  refine hK _ _ hS8 ?_
  clear hK K hc8 hS7 HS1 HS2 HS3
  have HB8 := hide (XB.stay HB3.out.1 hS8)
  have HC8 := hide (HC3.out.stay hS8)
  have hp := HP.out
  unfold RsBytesR at hp
  cases m with
  | false =>
    obtain ⟨-, he⟩ | ⟨h, -⟩ := hp
    case inr => rw [← HMM.out] at h; cases h
    simp at he
    obtain ⟨⟨rfl, rfl, rfl⟩, rfl⟩ := he
    go_wp2_with (first | (refine wpList_loadRs rfl _ rfl rfl HB8.out ?_) | (refine wpG_calc rfl (fun K hK => ?_)) | (refine wpG_skip ?_ ?_; (focus (simp [wantG]; done)); go_simp) | (refine wpG_take ?_ ?_; (focus (simp [wantG]; done))) | (refine wpG_pure (fun K hK => ?_); go_simp; refine hK _ _ ?_; clear hK K) | (refine wpG_deed (by decide) (fun K hK => ?_); go_simp) | (refine wpG_nil ?_))
    refine (HM2.out _).mono ?_
    rintro e W9 ⟨rfl, hc9⟩
    have HC9 := hide (HC8.out.stay hc9)
    clear hc9
    go_wp2_with fail
    refine (HKN.out _ HC9.out).mono ?_
    rintro e W10 ⟨rfl, hc10⟩
    go_wp2_with fail
    go_ret
    exact ⟨rfl, HC9.out.stay hc10⟩
  | true =>
    obtain ⟨h, -⟩ | ⟨-, A', n', c', he, hs, -⟩ := hp
    · rw [← HMM.out] at h; cases h
    simp at he
    obtain ⟨⟨rfl, rfl, rfl⟩, rfl⟩ := he
    have HS8 := hide (hs.stay hS8)
    clear hs hS8 HP
    go_wp2_with (first | (refine wpList_loadRs rfl _ rfl rfl HB8.out ?_) | (refine wpG_calc rfl (fun K hK => ?_)) | (refine wpG_skip ?_ ?_; (focus (simp [wantG]; done)); go_simp) | (refine wpG_take ?_ ?_; (focus (simp [wantG]; done))) | (refine wpG_pure (fun K hK => ?_); go_simp; refine hK _ _ ?_; clear hK K) | (refine wpG_deed (by decide) (fun K hK => ?_); go_simp) | (refine wpG_nil ?_))
    refine (HM2.out _).mono ?_
    rintro e W9 ⟨rfl, hc9⟩
    have HC9 := hide (HC8.out.stay hc9)
    have HB9 := hide (XB.stay HB8.out hc9)
    have HS9 := hide (HS8.out.stay hc9)
    clear hc9 HC8 HB8 HS8
    go_wp2_with fail
    have HEL := hide (show (encRs x).length ≤ 100000 by have := (mayRs_parts HMM.out.symm).2; unfold encRs; simp only [List.length_append, le8_length]; omega)
    refine (ReadRs_any HS9.out.re (encRs_b8 HX.out.1) HEL.out).mono ?_
    rintro e W10 ⟨⟨A5, n5, k5, rfl, hs5, -⟩, hc10⟩
    rw [(readRs_enc HX.out.1 HMM.out.symm).1, (readRs_enc HX.out.1 HMM.out.symm).2]
    rw [(readRs_enc HX.out.1 HMM.out.symm).1] at hs5
    have HC10 := hide (HC9.out.stay hc10)
    have HB10 := hide (XB.stay HB9.out hc10)
    have HS10 := hide (HS9.out.stay hc10)
    have HT10 := hide hs5
    clear hc10 HC9 HB9 HS9 hs5
    go_upto_region 9 with (first | (refine wpList_allocRs rfl rfl ?_; try go_simp) | (refine wpList_storeRs (b := W10.heap.size) (y := x) (u := .slice A5 n5 k5) rfl _ _ rfl rfl rfl rfl (Blk.new W10 _ _) ?_; intro W11 h11 hc11))
    have HX11 := hide h11
    have HC11 := hide (HC10.out.stay (made_rs hc11))
    have HB11 := hide (XB.stay HB10.out (made_rs hc11))
    have HS11 := hide (HS10.out.stay (made_rs hc11))
    have HT11 := hide (HT10.out.stay (made_rs hc11))
    clear h11 hc11 HC10 HB10 HS10 HT10 HM1 HM2
    have hS : Chg [] W11 W11.drew := (Chg.refl [] W11).drew
    have HCB := hide (fun W (h : Chg [] W11 W) => run_str (HS11.out.re.stay h) (encRs_b8 HX.out.1))
    have HSM := hide (fun W (h : Chg [] W11 W) => rSameRs_any (x := x) (y := x) (HT11.out.re.stay h) (HV.out.1.stay (HC11.out.stay h)) HX.out.1.l HX.out.1.l)
    rw [sameRs_self] at HSM
    generalize hsx : strB (encRs x) = sx at HCB
    have HSX := hide hsx
    clear hsx
    refine wp_region_t [0,0,0,0,0,0,0,0,5,5,6,6,0,0,0,5,5,6,0,0,6,0,0] [none, none, none, some (65, true), some (65, true), none, none, some (69, true), some (69, true), some (69, true), some (69, true), some (69, true), some (69, true), none, none, some (77, true), some (77, true), some (77, true), none, none, some (82, true), none, none] (fun W => Chg [] W11 W) (by kernel_rfl) (by kernel_rfl) (by kernel_rfl) ?_
    go_wp2_with (first | (refine wpG_hconv 32 9 _ rfl rfl HCB.out hS ?_) | (refine wpG_hload 48 _ rfl rfl (fun w' hw' => XB.load (XB.stay HB11.out hw')) hS ?_) | (refine wpG_calc rfl (fun K hK => ?_)) | (refine wpG_skip ?_ ?_; (focus (simp [wantG]; done)); go_simp) | (refine wpG_take ?_ ?_; (focus (simp [wantG]; done))) | (refine wpG_pure (fun K hK => ?_); go_simp; refine hK _ _ ?_; clear hK K) | (refine wpG_deed (by decide) (fun K hK => ?_); go_simp) | (refine wpG_nil ?_))
    (refine wpG_keeps hS (fun K hK => ?_))
    go_simp
    refine (rRsBytes_any HX.out.1 HLX.out (HV.out.1.stay (HC11.out.stay hS))).mono ?_
    rintro e W12 ⟨⟨A8, n8, k8, rfl, hs8, -⟩, hc12⟩
    have hS12 : Chg [] W11 W12 := hS.stay hc12
    refine hK _ _ hS12 ?_
    clear hK K hc12 hS
    have hcx := run_str hs8.re (encRs_b8 HX.out.1)
    rw [HSX.out] at hcx
    clear hs8
    go_wp2_with (first | fail | (refine wpG_calc rfl (fun K hK => ?_)) | (refine wpG_skip ?_ ?_; (focus (simp [wantG]; done)); go_simp) | (refine wpG_take ?_ ?_; (focus (simp [wantG]; done))) | (refine wpG_pure (fun K hK => ?_); go_simp; refine hK _ _ ?_; clear hK K) | (refine wpG_deed (by decide) (fun K hK => ?_); go_simp) | (refine wpG_nil ?_))
    (refine wpG_keeps hS12 (fun K hK => ?_))
    go_simp
    refine hK _ _ hS12 ?_
    clear hK K hcx
    go_wp2_with (first | (refine wpG_hload 48 _ rfl rfl (fun w' hw' => XB.load (XB.stay HX11.out hw')) hS12 ?_) | (refine wpG_hload 48 _ rfl rfl (fun w' hw' => XB.load (XB.stay HB11.out hw')) hS12 ?_) | (refine wpG_calc rfl (fun K hK => ?_)) | (refine wpG_skip ?_ ?_; (focus (simp [wantG]; done)); go_simp) | (refine wpG_take ?_ ?_; (focus (simp [wantG]; done))) | (refine wpG_pure (fun K hK => ?_); go_simp; refine hK _ _ ?_; clear hK K) | (refine wpG_deed (by decide) (fun K hK => ?_); go_simp) | (refine wpG_nil ?_))
    (refine wpG_keeps hS12 (fun K hK => ?_))
    go_simp
    refine (HSM.out _ hS12).mono ?_
    rintro e W13 ⟨rfl, hc13⟩
    have hS13 : Chg [] W11 W13 := hS12.stay hc13
    refine hK _ _ hS13 ?_
    clear hK K hc13 hS12
    go_wp2_with (first | fail | (refine wpG_calc rfl (fun K hK => ?_)) | (refine wpG_skip ?_ ?_; (focus (simp [wantG]; done)); go_simp) | (refine wpG_take ?_ ?_; (focus (simp [wantG]; done))) | (refine wpG_pure (fun K hK => ?_); go_simp; refine hK _ _ ?_; clear hK K) | (refine wpG_deed (by decide) (fun K hK => ?_); go_simp) | (refine wpG_nil ?_))
    (refine wpG_keeps hS13 (fun K hK => ?_))
    go_simp
    refine (HKN.out _ (HC11.out.stay hS13)).mono ?_
    rintro e W14 ⟨rfl, hc14⟩
    have hS14 : Chg [] W11 W14 := hS13.stay hc14
    refine hK _ _ hS14 ?_
    clear hK K hc14 hS13
    go_wp2_with (first | fail | (refine wpG_calc rfl (fun K hK => ?_)) | (refine wpG_skip ?_ ?_; (focus (simp [wantG]; done)); go_simp) | (refine wpG_take ?_ ?_; (focus (simp [wantG]; done))) | (refine wpG_pure (fun K hK => ?_); go_simp; refine hK _ _ ?_; clear hK K) | (refine wpG_deed (by decide) (fun K hK => ?_); go_simp) | (refine wpG_nil ?_))
    go_ret
    exact ⟨rfl, HC11.out.stay hS14⟩
end Go.Proofs.YtinlpjgjjplceaaDoor
