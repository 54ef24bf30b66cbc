/- CallsTwo: its walk. -/
import Derived.Test.YtinlpjgjjplceaaDoorCaP
import Derived.Test.YtinlpjgjjplceaaDoorCbB
import Derived.Test.YtinlpjgjjplceaaDoorCcC
namespace Go.Proofs.YtinlpjgjjplceaaDoor
open Go Go.RowKit

section
variable {ops : Array Oper} {P : Program} {S : World → Prop} {Q : Exit → Act → World → Prop} {o : Oper} {rest : List Oper} {ks : List Nat} {gs : List (Option (Nat × Bool))} {a : Act} {w : World}
theorem wpG_hconv (f t : TypeId) (x : Operand) (ho : o.op = .convert f t x) {u v : Value} (hx : a.eval x = u) (hv : ∀ w', S w' → (convert f t u).run P w' = .ok v w') (hS : S w) (h : wpG P S Q rest ks gs (a.put o.dst v) w) :
    wpG P S Q (o :: rest) (5 :: ks) (none :: gs) a w := by
  refine wpG_held hS v (fun w' hw' => ?_) h
  unfold StillAt execOp
  simp [ho, hx, hv w' hw', Sem.run_bind]
end
theorem enc_b8 {x : Cl} (hx : x.Ok) : ∀ b ∈ encC x, b < 256 := by
  intro b hb
  rw [← encR_eq] at hb
  unfold encR at hb
  rcases List.mem_append.1 hb with hb | hb
  · rcases List.mem_append.1 hb with hb | hb
    · exact le8_b _ b hb
    · obtain ⟨n, _, hn⟩ := List.mem_flatMap.1 hb
      exact le8_b _ b hn
  · split at hb
    · rcases List.mem_append.1 hb with hb | hb
      · exact le8_b _ b hb
      · exact hx.l b hb
    · cases hb
theorem enc_same {x y : Cl} (hx : x.Ok) (hy : y.Ok) (hm : mayK x = true) (hn : mayK y = true) : decide (encC x = encC y) = sameB x y := by
  cases h : sameB x y with
  | true =>
    obtain rfl := (sameB_iff _ _).1 h
    exact decide_eq_true rfl
  | false =>
    refine decide_eq_false fun e => ?_
    rw [(sameB_iff x y).2 (enc_inj hx hy hm hn e)] at h
    cases h
set_option maxRecDepth 20000 in
set_option maxHeartbeats 40000000 in
theorem two_law {w : World} (hf : FW w) {x y : Cl} {v u : Value} (hx : x.Ok) (hy : y.Ok) (hv : RB w v x.l) (hu : RB w u y.l) :
    Calls Tryd.prog 6 #[.agg (clc x v), .agg (clc y u)] w fun e w' => e = .returned (.bool true) ∧ Chg [] w w' := by
  obtain ⟨A0, c0, rfl⟩ := RE.form hv
  obtain ⟨A1, c1, rfl⟩ := RE.form hu
  obtain ⟨W2, hW2⟩ : ∃ W2, W2 = (w.alloc (.cells (clc x (.slice A0 x.l.length c0)) 34)).alloc (.cells (clc y (.slice A1 y.l.length c1)) 34) := ⟨_, rfl⟩
  have hc2 : Chg [] w W2 := by rw [hW2]; exact ((Chg.refl [] w).alloc _).alloc _
  have hb1 : KB W2 w.heap.size x (.slice A0 x.l.length c0) := by rw [hW2]; exact (Blk.new w 34 _).alloc _
  have hb2 : KB W2 (w.heap.size + 1) y (.slice A1 y.l.length c1) := by
    have := Blk.new (w.alloc (.cells (clc x (.slice A0 x.l.length c0)) 34)) 34 (clc y (.slice A1 y.l.length c1))
    rw [World.size_alloc] at this
    rw [hW2]
    exact this
  have HB := hide (And.intro hb1 hb2)
  have HC := hide hc2
  have HW2 := hide hW2
  have HV := hide (And.intro hv hu)
  have HX := hide (And.intro hx hy)
  have HKN := hide (fun W (h : Chg [] w W) => knownK_any (hf.stay h))
  have HF := hide hf
  obtain ⟨-, -, -, -, -, -, -, -, -, -, -, q11, ql, -⟩ := KB.cells hb1
  obtain ⟨-, -, -, -, -, -, -, -, -, -, -, r11, rl, -⟩ := KB.cells hb2
  clear hf hx hy hv hu hW2 hc2 hb1 hb2
  by_cases l1 : 1000 < x.l.length
  · have d1 : decide ((1000 : Int) < (x.l.length : Int)) = true := decide_eq_true (by omega)
    have d1' : decide (1000 < x.l.length) = true := decide_eq_true l1
    clear l1
    go_enter Tryd.func6, Tryd.ntmps6
    go_wp2_with (first | (refine wpList_box34 rfl _ rfl rfl ?_; try simp only [World.size_alloc]; try rw [← HW2.out]))
    refine (HKN.out _ HC.out).mono ?_
    rintro e W3 ⟨rfl, hc3⟩
    go_wp2_with fail
    go_ret
    exact ⟨rfl, HC.out.stay hc3⟩
  have d1 : decide ((1000 : Int) < (x.l.length : Int)) = false := decide_eq_false (by omega)
  have d1' : decide (1000 < x.l.length) = false := decide_eq_false l1
  clear l1
  by_cases l2 : 1000 < y.l.length
  · have d2 : decide ((1000 : Int) < (y.l.length : Int)) = true := decide_eq_true (by omega)
    have d2' : decide (1000 < y.l.length) = true := decide_eq_true l2
    clear l2
    go_enter Tryd.func6, Tryd.ntmps6
    go_wp2_with (first | (refine wpList_box34 rfl _ rfl rfl ?_; try simp only [World.size_alloc]; try rw [← HW2.out]))
    refine (HKN.out _ HC.out).mono ?_
    rintro e W3 ⟨rfl, hc3⟩
    go_wp2_with fail
    go_ret
    exact ⟨rfl, HC.out.stay hc3⟩
  have d2 : decide ((1000 : Int) < (y.l.length : Int)) = false := decide_eq_false (by omega)
  have d2' : decide (1000 < y.l.length) = false := decide_eq_false l2
  clear l2
  go_enter Tryd.func6, Tryd.ntmps6
  go_upto_region 3 with (first | (refine wpList_box34 rfl _ rfl rfl ?_; try simp only [World.size_alloc]; try rw [← HW2.out]))
  clear d1 d1' d2 d2' q11 ql r11 rl
  go_upto_region 4 with (first | (refine wpList_load34 rfl _ rfl rfl HB.out.1 ?_))
  refine (Bytes_any (HF.out.stay HC.out) HX.out.1 (RE.stay HV.out.1 HC.out)).mono ?_
  rintro e W3 ⟨hb3, hc3⟩
  have HB3 := hide (show KB W3 w.heap.size x (.slice A0 x.l.length c0) ∧ KB W3 (w.heap.size + 1) y (.slice A1 y.l.length c1) from ⟨KB.stay HB.out.1 hc3, KB.stay HB.out.2 hc3⟩)
  have HC3 := hide (HC.out.stay hc3)
  clear hc3 HB HC
  obtain ⟨hm1, rfl⟩ | ⟨hm1, A, n, c, rfl, hs, hfr⟩ := hb3
  · go_upto_region 5 with (first | (refine wpList_load34 rfl _ rfl rfl HB3.out.2 ?_))
    refine (Bytes_any (HF.out.stay HC3.out) HX.out.2 (RE.stay HV.out.2 HC3.out)).mono ?_
    rintro e W4 ⟨hb4, hc4⟩
    have HC4 := hide (HC3.out.stay hc4)
    clear hc4
    obtain ⟨hm2, rfl⟩ | ⟨hm2, A', n', c', rfl, hs', hfr'⟩ := hb4
    · go_wp2_with fail
      refine (HKN.out _ HC4.out).mono ?_
      rintro e W5 ⟨rfl, hc5⟩
      go_wp2_with fail
      go_ret
      exact ⟨rfl, HC4.out.stay hc5⟩
    · clear hs' hfr'
      go_wp2_with fail
      refine (HKN.out _ HC4.out).mono ?_
      rintro e W5 ⟨rfl, hc5⟩
      go_wp2_with fail
      go_ret
      exact ⟨rfl, HC4.out.stay hc5⟩
  · have HS := hide hs
    clear hs hfr
    go_upto_region 5 with (first | (refine wpList_load34 rfl _ rfl rfl HB3.out.2 ?_))
    refine (Bytes_any (HF.out.stay HC3.out) HX.out.2 (RE.stay HV.out.2 HC3.out)).mono ?_
    rintro e W4 ⟨hb4, hc4⟩
    have HB4 := hide (show KB W4 w.heap.size x (.slice A0 x.l.length c0) ∧ KB W4 (w.heap.size + 1) y (.slice A1 y.l.length c1) from ⟨KB.stay HB3.out.1 hc4, KB.stay HB3.out.2 hc4⟩)
    have HS4 := hide (HS.out.stay hc4)
    have HC4 := hide (HC3.out.stay hc4)
    clear hc4
    obtain ⟨hm2, rfl⟩ | ⟨hm2, A', n', c', rfl, hs', hfr'⟩ := hb4
    · go_wp2_with fail
      refine (HKN.out _ HC4.out).mono ?_
      rintro e W5 ⟨rfl, hc5⟩
      go_wp2_with fail
      go_ret
      exact ⟨rfl, HC4.out.stay hc5⟩
    · have HS5 := hide hs'
      clear hs' hfr'
      go_upto_region 7 with (fail)
      have hsl := strB_list (enc_b8 HX.out.1) (enc_b8 HX.out.2)
      rw [enc_same HX.out.1 HX.out.2 hm1 hm2] at hsl
      have hcx := fun W (h : Chg [] W4 W) => run_str (SE.re (HS4.out.stay h)) (enc_b8 HX.out.1)
      have hcy := fun W (h : Chg [] W4 W) => run_str (SE.re (HS5.out.stay h)) (enc_b8 HX.out.2)
      generalize strB (encC x) = sx at hcx hsl
      generalize strB (encC y) = sy at hcy hsl
      have HCX := hide hcx
      have HCY := hide hcy
      have HSM := hide (fun W (h : Chg [] W4 W) => SameK_any (x := x) (y := y) (RE.stay (RE.stay HV.out.1 HC4.out) h) (RE.stay (RE.stay HV.out.2 HC4.out) h) HX.out.1.l HX.out.2.l)
      clear hcx hcy hm1 hm2
      cases hsm : sameB x y with
      | true =>
        rw [hsm] at hsl HSM
        clear hsm
        refine wp_region_t [0,5,0,5,0,5,5,6,0,0,6,0,0] [none, none, none, none, none, none, none, none, none, none, some (46, true), none, none] (fun W => Chg [] W4 W) (by kernel_rfl) (by kernel_rfl) (by kernel_rfl) ?_
        have hS : Chg [] W4 W4.drew := (Chg.refl [] W4).drew
        go_wp2_with (first | (refine wpG_hconv 32 9 _ rfl rfl HCX.out hS ?_) | (refine wpG_hconv 32 9 _ rfl rfl HCY.out hS ?_) | (refine wpG_hload 34 _ rfl rfl (fun w' hw' => KB.load (KB.stay HB4.out.1 hw')) hS ?_) | (refine wpG_hload 34 _ rfl rfl (fun w' hw' => KB.load (KB.stay HB4.out.2 hw')) hS ?_) | (refine wpG_calc rfl (fun K hK => ?_)) | (refine wpG_skip ?_ ?_; (focus (simp [wantG]; done)); go_simp) | (refine wpG_take ?_ ?_; (focus (simp [wantG]; done))) | (refine wpG_pure (fun K hK => ?_); go_simp; refine hK _ _ ?_; clear hK K) | (refine wpG_deed (by decide) (fun K hK => ?_); go_simp) | (refine wpG_nil ?_))
        (refine wpG_keeps hS (fun K hK => ?_))
        go_simp
        refine (HSM.out W4.drew hS).mono ?_
        rintro e W5 ⟨rfl, hc5⟩
        have hS5 : Chg [] W4 W5 := hS.stay hc5
        refine hK _ _ hS5 ?_
        clear hK K hc5
        go_wp2_with (first | fail | (refine wpG_calc rfl (fun K hK => ?_)) | (refine wpG_skip ?_ ?_; (focus (simp [wantG]; done)); go_simp) | (refine wpG_take ?_ ?_; (focus (simp [wantG]; done))) | (refine wpG_pure (fun K hK => ?_); go_simp; refine hK _ _ ?_; clear hK K) | (refine wpG_deed (by decide) (fun K hK => ?_); go_simp) | (refine wpG_nil ?_))
        (refine wpG_keeps hS5 (fun K hK => ?_))
        go_simp
        refine (HKN.out W5 (HC4.out.stay hS5)).mono ?_
        rintro e W6 ⟨rfl, hc6⟩
        have hS6 : Chg [] W4 W6 := hS5.stay hc6
        refine hK _ _ hS6 ?_
        clear hK K hc6
        go_wp2_with (first | fail | (refine wpG_calc rfl (fun K hK => ?_)) | (refine wpG_skip ?_ ?_; (focus (simp [wantG]; done)); go_simp) | (refine wpG_take ?_ ?_; (focus (simp [wantG]; done))) | (refine wpG_pure (fun K hK => ?_); go_simp; refine hK _ _ ?_; clear hK K) | (refine wpG_deed (by decide) (fun K hK => ?_); go_simp) | (refine wpG_nil ?_))
        go_ret
        exact ⟨rfl, HC4.out.stay hS6⟩
      | false =>
        rw [hsm] at hsl HSM
        clear hsm
        refine wp_region_t [0,5,0,5,0,5,5,6,0,0,6,0,0] [none, none, none, none, none, none, none, none, none, none, some (46, true), none, none] (fun W => Chg [] W4 W) (by kernel_rfl) (by kernel_rfl) (by kernel_rfl) ?_
        have hS : Chg [] W4 W4.drew := (Chg.refl [] W4).drew
        go_wp2_with (first | (refine wpG_hconv 32 9 _ rfl rfl HCX.out hS ?_) | (refine wpG_hconv 32 9 _ rfl rfl HCY.out hS ?_) | (refine wpG_hload 34 _ rfl rfl (fun w' hw' => KB.load (KB.stay HB4.out.1 hw')) hS ?_) | (refine wpG_hload 34 _ rfl rfl (fun w' hw' => KB.load (KB.stay HB4.out.2 hw')) hS ?_) | (refine wpG_calc rfl (fun K hK => ?_)) | (refine wpG_skip ?_ ?_; (focus (simp [wantG]; done)); go_simp) | (refine wpG_take ?_ ?_; (focus (simp [wantG]; done))) | (refine wpG_pure (fun K hK => ?_); go_simp; refine hK _ _ ?_; clear hK K) | (refine wpG_deed (by decide) (fun K hK => ?_); go_simp) | (refine wpG_nil ?_))
        (refine wpG_keeps hS (fun K hK => ?_))
        go_simp
        refine (HSM.out W4.drew hS).mono ?_
        rintro e W5 ⟨rfl, hc5⟩
        have hS5 : Chg [] W4 W5 := hS.stay hc5
        refine hK _ _ hS5 ?_
        clear hK K hc5
        go_wp2_with (first | fail | (refine wpG_calc rfl (fun K hK => ?_)) | (refine wpG_skip ?_ ?_; (focus (simp [wantG]; done)); go_simp) | (refine wpG_take ?_ ?_; (focus (simp [wantG]; done))) | (refine wpG_pure (fun K hK => ?_); go_simp; refine hK _ _ ?_; clear hK K) | (refine wpG_deed (by decide) (fun K hK => ?_); go_simp) | (refine wpG_nil ?_))
        (refine wpG_keeps hS5 (fun K hK => ?_))
        go_simp
        refine (HKN.out W5 (HC4.out.stay hS5)).mono ?_
        rintro e W6 ⟨rfl, hc6⟩
        have hS6 : Chg [] W4 W6 := hS5.stay hc6
        refine hK _ _ hS6 ?_
        clear hK K hc6
        go_wp2_with (first | fail | (refine wpG_calc rfl (fun K hK => ?_)) | (refine wpG_skip ?_ ?_; (focus (simp [wantG]; done)); go_simp) | (refine wpG_take ?_ ?_; (focus (simp [wantG]; done))) | (refine wpG_pure (fun K hK => ?_); go_simp; refine hK _ _ ?_; clear hK K) | (refine wpG_deed (by decide) (fun K hK => ?_); go_simp) | (refine wpG_nil ?_))
        go_ret
        exact ⟨rfl, HC4.out.stay hS6⟩
end Go.Proofs.YtinlpjgjjplceaaDoor
