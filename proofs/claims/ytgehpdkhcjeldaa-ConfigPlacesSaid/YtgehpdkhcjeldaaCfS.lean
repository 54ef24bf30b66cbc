/- ConfigMay: the walk. -/
import Derived.Test.YtgehpdkhcjeldaaCfR
import Derived.Test.YtgehpdkhcjeldaaCfM
namespace Go.Proofs.Ytgehpdkhcjeldaa
open Go Go.RowKit

def wantC (m : Int) : Cf := fun i => if i = 0 then 1 else if i = 1 then 1 else if i = 90 then m else 0
theorem built_want (m : Int) : BT [(0, .int .i64 1), (1, .int .i64 1), (5, .int .i64 m)] (wantC m) := ⟨by kernel_rfl⟩
def wantD (m : Int) : Cf := fun i => if i = 18 then m else wantC m i
theorem wantD_eq (m : Int) : ∀ i, i < 94 → leastC m i = wantD m i := fun i _ => by
  unfold leastC wantD wantC
  repeat' split <;> first | rfl | omega
theorem eql_cg (c d : Cf) (h : ∀ i, i < 94 → c i = d i) : ∀ w, (binOp .eql 26 (.agg (cg c)) (.agg (cg d))).run Try.prog w = .ok (.bool true) w := fun w => by
  obtain ⟨r, h1, h2⟩ := run_eq_cg w c d
  obtain rfl : r = true := h2.2 h
  rw [run_eql_struct, h1]
  rfl
theorem wpG_eql26 {S : World → Prop} {Q : Exit → Act → World → Prop} {o : Oper} {rest : List Oper} {ks : List Nat} {gs : List (Option (Nat × Bool))} {A : Act} {w : World} (x y : Operand) (t : TypeId) (ho : o.op = .binOp .eql 26 x y t) {c d : Cf}
    (hx : A.eval x = .agg (cg c)) (hy : A.eval y = .agg (cg d)) (hr : ∀ w, (binOp .eql 26 (.agg (cg c)) (.agg (cg d))).run Try.prog w = .ok (.bool true) w) (hk : wpG Try.prog S Q rest ks gs (A.put o.dst (.bool true)) w) :
    wpG Try.prog S Q (o :: rest) (0 :: ks) (none :: gs) A w := by
  refine wpG_pure (fun K hK => ⟨_, fun w' => ?_, hK _ _ hk⟩)
  unfold execOp
  simp only [ho, hx, hy, Sem.run_bind, run_eqGuard_agg w' .eql 26 x y _ _ (show Try.prog.eqGuardType Try.prog.depth 26 = false by kernel_rfl), Result.andThen_ok, hr, Sem.run_pure]
theorem FrR.len {c : Cf} {w : World} {e : Ending} {w' : World} (h : FrR c w e w') : ∃ A m cap, e = .returned (.slice A m cap) ∧ (m : Int) = totV c ∧ Chg [] w w' := by
  obtain ⟨A, m, cap, L, rfl, hs, _, h0, h1, hc⟩ := h
  refine ⟨A, m, cap, rfl, ?_, hc⟩
  obtain ⟨A', c', e'⟩ := hs.form
  have em : m = L.length := by injection e'
  rw [em]
  cases hm : mayB c with
  | false => rw [h0 hm]; unfold totV; rw [if_neg (by rw [hm]; simp)]; rfl
  | true => rw [(h1 hm).1, (mayB_iff.1 hm).tot]
set_option maxRecDepth 20000 in
set_option maxHeartbeats 4000000 in
theorem may_law (c : Cf) (f : Int) (w : World) : Calls Try.prog 6 #[.agg (cg c), .int .i64 f] w fun e w' => e = .returned (.bool true) ∧ Chg [] w w' := by
  obtain ⟨m, hm⟩ : ∃ m, m = min (max f 4) 128 := ⟨_, rfl⟩
  have HL := hide (Least_any f)
  rw [← hm] at HL
  have HT := hide (built_want m)
  have HEQ := hide (eql_cg _ _ (wantD_eq m))
  obtain ⟨E, hE⟩ : ∃ E, E = leastC m := ⟨_, rfl⟩
  rw [← hE] at HL HEQ
  obtain ⟨D, hD⟩ : ∃ D, D = wantD m := ⟨_, rfl⟩
  have hDD := hide (show ∀ W b, CB W b (wantC m) → CB (W.setCell ⟨b, 18, none⟩ (.int .i64 m)) b D from fun W b h => by rw [hD]; exact h.set 18 m)
  rw [← hD] at HEQ
  obtain ⟨D0, hD0⟩ : ∃ D0, D0 = wantC m := ⟨_, rfl⟩
  rw [← hD0] at HT hDD
  clear hE hD hD0
  obtain ⟨x, hx⟩ : ∃ x, mayB c = x := ⟨_, rfl⟩
  have H18 := hide (fun W => May_any c W)
  have H14 := hide (fun W => rMay_any c W)
  rw [hx] at H18 H14
  clear hx
  obtain ⟨t, ht⟩ : ∃ t, totV c = t := ⟨_, rfl⟩
  have H19 := hide (fun W => Total_any c W)
  rw [ht] at H19
  have H16 := hide (fun W => Frames_any c W)
  have HFL := hide (show ∀ W e W', FrR c W e W' → ∃ A m cap, e = .returned (.slice A m cap) ∧ (m : Int) = t ∧ Chg [] W W' from fun W e W' h => by rw [← ht]; exact h.len)
  clear ht
  have HBc : Hid (CB ((w.alloc (.cells (cg c) 26)).alloc (.cells (cg (fun _ => 0)) 26)) w.heap.size c) := hide ((Blk.new w 26 (cg c)).alloc _)
  have HB6 : Hid (CB ((w.alloc (.cells (cg c) 26)).alloc (.cells (cg (fun _ => 0)) 26)) (w.heap.size + 1) (fun _ => 0)) := hide (by
    have := Blk.new (w.alloc (.cells (cg c) 26)) 26 (cg (fun _ => 0))
    rwa [World.size_alloc] at this)
  have HC0 : Hid (Chg [] w ((w.alloc (.cells (cg c) 26)).alloc (.cells (cg (fun _ => 0)) 26))) := hide (((Chg.refl [] w).alloc _).alloc _)
  by_cases f1 : f < 4
  · obtain rfl : m = 4 := by omega
    have d1 : decide (f < 4) = true := decide_eq_true f1
    clear hm
    go_enter Try.func6, Try.ntmps6
    go_wp2_with (first | (refine wpList_box26 rfl _ rfl rfl ?_) | (refine wpList_alloc26 rfl rfl ?_; try simp only [World.size_alloc]) | (refine wpList_build26 rfl _ rfl HT.out ?_ ?_; (focus (simp [Act.eval]; done))) | (refine wpList_store26L (b := w.heap.size + 1) (c := fun _ => 0) rfl _ _ rfl rfl rfl ?_ ?_; (focus exact HB6.out); intro W5 h5 hc5; have q18 := CB.get h5 (i := 18) (by omega); have f18 := Blk.frozen h5 18; have H5 := hide h5; have HC5 := hide hc5; clear h5 hc5))
    have hb5 : CB W5 w.heap.size c := HBc.out.chg HC5.out (by simp)
    have hb6 : CB (W5.setCell ⟨w.heap.size + 1, 18, none⟩ (.int .i64 4)) w.heap.size c := hb5.far (p := ⟨w.heap.size + 1, 18, none⟩) (by simp) _
    have hd6 := hDD.out _ _ H5.out
    have HC6 := hide (show Chg [] w (W5.setCell ⟨w.heap.size + 1, 18, none⟩ (.int .i64 4)) from (HC0.out.trans HC5.out (fun x hx => .inr (by obtain rfl := List.mem_singleton.1 hx; omega))).setCell (.inr (by simp)) _)
    clear hb5 H5 HC5 q18 f18 HBc HB6 HC0 hDD HT
    generalize W5.setCell ⟨w.heap.size + 1, 18, none⟩ (.int .i64 4) = W6 at hb6 hd6 HC6 ⊢
    generalize w.heap.size + 1 = b6 at hd6 ⊢
    generalize w.heap.size = b at hb6 ⊢
    refine wp_region_t [5, 6, 5, 6, 0, 0, 5, 6, 5, 6, 0, 0, 0, 0, 0, 6, 5, 0, 0, 0, 6, 0, 0] [none, none, none, none, none, none, some (22, true), some (22, true), some (22, true), some (22, true), some (22, true), some (22, true), none, none, some (30, true), some (30, true), some (30, true), some (30, true), none, none, some (36, true), none, none] (fun W => CB W b c ∧ CB W b6 D) (by kernel_rfl) (by kernel_rfl) (by kernel_rfl) ?_
    have hS : CB W6.drew b c ∧ CB W6.drew b6 D := ⟨hb6, hd6⟩
    have HCd := hide HC6.out.drew
    clear hb6 hd6 HC6
    go_wp2_with (first | (refine wpG_hload 26 _ rfl rfl (fun w' hw' => load26 hw'.1) hS ?_) | (refine wpG_calc rfl (fun K hK => ?_)) | (refine wpG_skip ?_ ?_; (focus (simp [wantG]; done)); go_simp) | (refine wpG_take ?_ ?_; (focus (simp [wantG]; done))) | (refine wpG_pure (fun K hK => ?_); go_simp; refine hK _ _ ?_; clear hK K) | (refine wpG_deed (by decide) (fun K hK => ?_); go_simp) | (refine wpG_nil ?_))
    (refine wpG_keeps hS (fun K hK => ?_))
    go_simp
    refine (H18.out _).mono ?_
    rintro e W7 ⟨rfl, hcc⟩
    have hS7 : CB W7 b c ∧ CB W7 b6 D := ⟨hS.1.chg hcc List.not_mem_nil, hS.2.chg hcc List.not_mem_nil⟩
    refine hK _ _ hS7 ?_
    clear hK K
    have HCd := hide (HCd.out.stay hcc)
    clear hS hcc
    go_wp2_with (first | (refine wpG_hload 26 _ rfl rfl (fun w' hw' => load26 hw'.1) hS7 ?_) | (refine wpG_calc rfl (fun K hK => ?_)) | (refine wpG_skip ?_ ?_; (focus (simp [wantG]; done)); go_simp) | (refine wpG_take ?_ ?_; (focus (simp [wantG]; done))) | (refine wpG_pure (fun K hK => ?_); go_simp; refine hK _ _ ?_; clear hK K) | (refine wpG_deed (by decide) (fun K hK => ?_); go_simp) | (refine wpG_nil ?_))
    (refine wpG_keeps hS7 (fun K hK => ?_))
    go_simp
    refine (H14.out _).mono ?_
    rintro e W8 ⟨rfl, hcc⟩
    have hS8 : CB W8 b c ∧ CB W8 b6 D := ⟨hS7.1.chg hcc List.not_mem_nil, hS7.2.chg hcc List.not_mem_nil⟩
    refine hK _ _ hS8 ?_
    clear hK K
    have HCd := hide (HCd.out.stay hcc)
    clear hS7 hcc
    go_wp2_with (first | (refine wpG_hload 26 _ rfl rfl (fun w' hw' => load26 hw'.1) hS8 ?_) | (refine wpG_calc rfl (fun K hK => ?_)) | (refine wpG_skip ?_ ?_; (focus (simp [wantG]; done)); go_simp) | (refine wpG_take ?_ ?_; (focus (simp [wantG]; done))) | (refine wpG_pure (fun K hK => ?_); go_simp; refine hK _ _ ?_; clear hK K) | (refine wpG_deed (by decide) (fun K hK => ?_); go_simp) | (refine wpG_nil ?_))
    (refine wpG_keeps hS8 (fun K hK => ?_))
    go_simp
    refine (H19.out _).mono ?_
    rintro e W9 ⟨rfl, hcc⟩
    have hS9 : CB W9 b c ∧ CB W9 b6 D := ⟨hS8.1.chg hcc List.not_mem_nil, hS8.2.chg hcc List.not_mem_nil⟩
    refine hK _ _ hS9 ?_
    clear hK K
    have HCd := hide (HCd.out.stay hcc)
    clear hS8 hcc
    go_wp2_with (first | (refine wpG_hload 26 _ rfl rfl (fun w' hw' => load26 hw'.1) hS9 ?_) | (refine wpG_calc rfl (fun K hK => ?_)) | (refine wpG_skip ?_ ?_; (focus (simp [wantG]; done)); go_simp) | (refine wpG_take ?_ ?_; (focus (simp [wantG]; done))) | (refine wpG_pure (fun K hK => ?_); go_simp; refine hK _ _ ?_; clear hK K) | (refine wpG_deed (by decide) (fun K hK => ?_); go_simp) | (refine wpG_nil ?_))
    (refine wpG_keeps hS9 (fun K hK => ?_))
    go_simp
    refine (H16.out _).mono ?_
    rintro e W10 hfr
    obtain ⟨A, ml, cap, rfl, hml, hcc⟩ := HFL.out _ _ _ hfr
    subst hml
    clear hfr
    have hS10 : CB W10 b c ∧ CB W10 b6 D := ⟨hS9.1.chg hcc List.not_mem_nil, hS9.2.chg hcc List.not_mem_nil⟩
    refine hK _ _ hS10 ?_
    clear hK K
    have HCd := hide (HCd.out.stay hcc)
    clear hS9 hcc
    go_wp2_with (first | fail | (refine wpG_calc rfl (fun K hK => ?_)) | (refine wpG_skip ?_ ?_; (focus (simp [wantG]; done)); go_simp) | (refine wpG_take ?_ ?_; (focus (simp [wantG]; done))) | (refine wpG_pure (fun K hK => ?_); go_simp; refine hK _ _ ?_; clear hK K) | (refine wpG_deed (by decide) (fun K hK => ?_); go_simp) | (refine wpG_nil ?_))
    (refine wpG_keeps hS10 (fun K hK => ?_))
    go_simp
    refine (HL.out _).mono ?_
    rintro e W11 ⟨rfl, hcc⟩
    have hS11 : CB W11 b c ∧ CB W11 b6 D := ⟨hS10.1.chg hcc List.not_mem_nil, hS10.2.chg hcc List.not_mem_nil⟩
    refine hK _ _ hS11 ?_
    clear hK K
    have HCd := hide (HCd.out.stay hcc)
    clear hS10 hcc
    go_wp2_with (first | (refine wpG_hload 26 _ rfl rfl (fun w' hw' => load26 hw'.2) hS11 ?_) | (refine wpG_calc rfl (fun K hK => ?_)) | (refine wpG_skip ?_ ?_; (focus (simp [wantG]; done)); go_simp) | (refine wpG_take ?_ ?_; (focus (simp [wantG]; done))) | (refine wpG_pure (fun K hK => ?_); go_simp; refine hK _ _ ?_; clear hK K) | (refine wpG_deed (by decide) (fun K hK => ?_); go_simp) | (refine wpG_nil ?_))
    go_wp2_with (first | (refine wpG_eql26 _ _ _ rfl rfl rfl HEQ.out ?_) | (refine wpG_calc rfl (fun K hK => ?_)) | (refine wpG_skip ?_ ?_; (focus (simp [wantG]; done)); go_simp) | (refine wpG_take ?_ ?_; (focus (simp [wantG]; done))) | (refine wpG_pure (fun K hK => ?_); go_simp; refine hK _ _ ?_; clear hK K) | (refine wpG_deed (by decide) (fun K hK => ?_); go_simp) | (refine wpG_nil ?_))
    (refine wpG_keeps hS11 (fun K hK => ?_))
    go_simp
    refine (known_any _).mono ?_
    rintro e W12 ⟨rfl, hcc⟩
    have hS12 : CB W12 b c ∧ CB W12 b6 D := ⟨hS11.1.chg hcc List.not_mem_nil, hS11.2.chg hcc List.not_mem_nil⟩
    refine hK _ _ hS12 ?_
    clear hK K
    have HCd := hide (HCd.out.stay hcc)
    clear hS11 hcc
    go_wp2_with (first | fail | (refine wpG_calc rfl (fun K hK => ?_)) | (refine wpG_skip ?_ ?_; (focus (simp [wantG]; done)); go_simp) | (refine wpG_take ?_ ?_; (focus (simp [wantG]; done))) | (refine wpG_pure (fun K hK => ?_); go_simp; refine hK _ _ ?_; clear hK K) | (refine wpG_deed (by decide) (fun K hK => ?_); go_simp) | (refine wpG_nil ?_))
    go_ret
    exact ⟨rfl, HCd.out⟩
  · have d1 : decide (f < 4) = false := decide_eq_false f1
    by_cases f2 : 128 < f
    · obtain rfl : m = 128 := by omega
      have d2 : decide (128 < f) = true := decide_eq_true f2
      clear hm
      go_enter Try.func6, Try.ntmps6
      go_wp2_with (first | (refine wpList_box26 rfl _ rfl rfl ?_) | (refine wpList_alloc26 rfl rfl ?_; try simp only [World.size_alloc]) | (refine wpList_build26 rfl _ rfl HT.out ?_ ?_; (focus (simp [Act.eval]; done))) | (refine wpList_store26L (b := w.heap.size + 1) (c := fun _ => 0) rfl _ _ rfl rfl rfl ?_ ?_; (focus exact HB6.out); intro W5 h5 hc5; have q18 := CB.get h5 (i := 18) (by omega); have f18 := Blk.frozen h5 18; have H5 := hide h5; have HC5 := hide hc5; clear h5 hc5))
      have hb5 : CB W5 w.heap.size c := HBc.out.chg HC5.out (by simp)
      have hb6 : CB (W5.setCell ⟨w.heap.size + 1, 18, none⟩ (.int .i64 128)) w.heap.size c := hb5.far (p := ⟨w.heap.size + 1, 18, none⟩) (by simp) _
      have hd6 := hDD.out _ _ H5.out
      have HC6 := hide (show Chg [] w (W5.setCell ⟨w.heap.size + 1, 18, none⟩ (.int .i64 128)) from (HC0.out.trans HC5.out (fun x hx => .inr (by obtain rfl := List.mem_singleton.1 hx; omega))).setCell (.inr (by simp)) _)
      clear hb5 H5 HC5 q18 f18 HBc HB6 HC0 hDD HT
      generalize W5.setCell ⟨w.heap.size + 1, 18, none⟩ (.int .i64 128) = W6 at hb6 hd6 HC6 ⊢
      generalize w.heap.size + 1 = b6 at hd6 ⊢
      generalize w.heap.size = b at hb6 ⊢
      refine wp_region_t [5, 6, 5, 6, 0, 0, 5, 6, 5, 6, 0, 0, 0, 0, 0, 6, 5, 0, 0, 0, 6, 0, 0] [none, none, none, none, none, none, some (22, true), some (22, true), some (22, true), some (22, true), some (22, true), some (22, true), none, none, some (30, true), some (30, true), some (30, true), some (30, true), none, none, some (36, true), none, none] (fun W => CB W b c ∧ CB W b6 D) (by kernel_rfl) (by kernel_rfl) (by kernel_rfl) ?_
      have hS : CB W6.drew b c ∧ CB W6.drew b6 D := ⟨hb6, hd6⟩
      have HCd := hide HC6.out.drew
      clear hb6 hd6 HC6
      go_wp2_with (first | (refine wpG_hload 26 _ rfl rfl (fun w' hw' => load26 hw'.1) hS ?_) | (refine wpG_calc rfl (fun K hK => ?_)) | (refine wpG_skip ?_ ?_; (focus (simp [wantG]; done)); go_simp) | (refine wpG_take ?_ ?_; (focus (simp [wantG]; done))) | (refine wpG_pure (fun K hK => ?_); go_simp; refine hK _ _ ?_; clear hK K) | (refine wpG_deed (by decide) (fun K hK => ?_); go_simp) | (refine wpG_nil ?_))
      (refine wpG_keeps hS (fun K hK => ?_))
      go_simp
      refine (H18.out _).mono ?_
      rintro e W7 ⟨rfl, hcc⟩
      have hS7 : CB W7 b c ∧ CB W7 b6 D := ⟨hS.1.chg hcc List.not_mem_nil, hS.2.chg hcc List.not_mem_nil⟩
      refine hK _ _ hS7 ?_
      clear hK K
      have HCd := hide (HCd.out.stay hcc)
      clear hS hcc
      go_wp2_with (first | (refine wpG_hload 26 _ rfl rfl (fun w' hw' => load26 hw'.1) hS7 ?_) | (refine wpG_calc rfl (fun K hK => ?_)) | (refine wpG_skip ?_ ?_; (focus (simp [wantG]; done)); go_simp) | (refine wpG_take ?_ ?_; (focus (simp [wantG]; done))) | (refine wpG_pure (fun K hK => ?_); go_simp; refine hK _ _ ?_; clear hK K) | (refine wpG_deed (by decide) (fun K hK => ?_); go_simp) | (refine wpG_nil ?_))
      (refine wpG_keeps hS7 (fun K hK => ?_))
      go_simp
      refine (H14.out _).mono ?_
      rintro e W8 ⟨rfl, hcc⟩
      have hS8 : CB W8 b c ∧ CB W8 b6 D := ⟨hS7.1.chg hcc List.not_mem_nil, hS7.2.chg hcc List.not_mem_nil⟩
      refine hK _ _ hS8 ?_
      clear hK K
      have HCd := hide (HCd.out.stay hcc)
      clear hS7 hcc
      go_wp2_with (first | (refine wpG_hload 26 _ rfl rfl (fun w' hw' => load26 hw'.1) hS8 ?_) | (refine wpG_calc rfl (fun K hK => ?_)) | (refine wpG_skip ?_ ?_; (focus (simp [wantG]; done)); go_simp) | (refine wpG_take ?_ ?_; (focus (simp [wantG]; done))) | (refine wpG_pure (fun K hK => ?_); go_simp; refine hK _ _ ?_; clear hK K) | (refine wpG_deed (by decide) (fun K hK => ?_); go_simp) | (refine wpG_nil ?_))
      (refine wpG_keeps hS8 (fun K hK => ?_))
      go_simp
      refine (H19.out _).mono ?_
      rintro e W9 ⟨rfl, hcc⟩
      have hS9 : CB W9 b c ∧ CB W9 b6 D := ⟨hS8.1.chg hcc List.not_mem_nil, hS8.2.chg hcc List.not_mem_nil⟩
      refine hK _ _ hS9 ?_
      clear hK K
      have HCd := hide (HCd.out.stay hcc)
      clear hS8 hcc
      go_wp2_with (first | (refine wpG_hload 26 _ rfl rfl (fun w' hw' => load26 hw'.1) hS9 ?_) | (refine wpG_calc rfl (fun K hK => ?_)) | (refine wpG_skip ?_ ?_; (focus (simp [wantG]; done)); go_simp) | (refine wpG_take ?_ ?_; (focus (simp [wantG]; done))) | (refine wpG_pure (fun K hK => ?_); go_simp; refine hK _ _ ?_; clear hK K) | (refine wpG_deed (by decide) (fun K hK => ?_); go_simp) | (refine wpG_nil ?_))
      (refine wpG_keeps hS9 (fun K hK => ?_))
      go_simp
      refine (H16.out _).mono ?_
      rintro e W10 hfr
      obtain ⟨A, ml, cap, rfl, hml, hcc⟩ := HFL.out _ _ _ hfr
      subst hml
      clear hfr
      have hS10 : CB W10 b c ∧ CB W10 b6 D := ⟨hS9.1.chg hcc List.not_mem_nil, hS9.2.chg hcc List.not_mem_nil⟩
      refine hK _ _ hS10 ?_
      clear hK K
      have HCd := hide (HCd.out.stay hcc)
      clear hS9 hcc
      go_wp2_with (first | fail | (refine wpG_calc rfl (fun K hK => ?_)) | (refine wpG_skip ?_ ?_; (focus (simp [wantG]; done)); go_simp) | (refine wpG_take ?_ ?_; (focus (simp [wantG]; done))) | (refine wpG_pure (fun K hK => ?_); go_simp; refine hK _ _ ?_; clear hK K) | (refine wpG_deed (by decide) (fun K hK => ?_); go_simp) | (refine wpG_nil ?_))
      (refine wpG_keeps hS10 (fun K hK => ?_))
      go_simp
      refine (HL.out _).mono ?_
      rintro e W11 ⟨rfl, hcc⟩
      have hS11 : CB W11 b c ∧ CB W11 b6 D := ⟨hS10.1.chg hcc List.not_mem_nil, hS10.2.chg hcc List.not_mem_nil⟩
      refine hK _ _ hS11 ?_
      clear hK K
      have HCd := hide (HCd.out.stay hcc)
      clear hS10 hcc
      go_wp2_with (first | (refine wpG_hload 26 _ rfl rfl (fun w' hw' => load26 hw'.2) hS11 ?_) | (refine wpG_calc rfl (fun K hK => ?_)) | (refine wpG_skip ?_ ?_; (focus (simp [wantG]; done)); go_simp) | (refine wpG_take ?_ ?_; (focus (simp [wantG]; done))) | (refine wpG_pure (fun K hK => ?_); go_simp; refine hK _ _ ?_; clear hK K) | (refine wpG_deed (by decide) (fun K hK => ?_); go_simp) | (refine wpG_nil ?_))
      go_wp2_with (first | (refine wpG_eql26 _ _ _ rfl rfl rfl HEQ.out ?_) | (refine wpG_calc rfl (fun K hK => ?_)) | (refine wpG_skip ?_ ?_; (focus (simp [wantG]; done)); go_simp) | (refine wpG_take ?_ ?_; (focus (simp [wantG]; done))) | (refine wpG_pure (fun K hK => ?_); go_simp; refine hK _ _ ?_; clear hK K) | (refine wpG_deed (by decide) (fun K hK => ?_); go_simp) | (refine wpG_nil ?_))
      (refine wpG_keeps hS11 (fun K hK => ?_))
      go_simp
      refine (known_any _).mono ?_
      rintro e W12 ⟨rfl, hcc⟩
      have hS12 : CB W12 b c ∧ CB W12 b6 D := ⟨hS11.1.chg hcc List.not_mem_nil, hS11.2.chg hcc List.not_mem_nil⟩
      refine hK _ _ hS12 ?_
      clear hK K
      have HCd := hide (HCd.out.stay hcc)
      clear hS11 hcc
      go_wp2_with (first | fail | (refine wpG_calc rfl (fun K hK => ?_)) | (refine wpG_skip ?_ ?_; (focus (simp [wantG]; done)); go_simp) | (refine wpG_take ?_ ?_; (focus (simp [wantG]; done))) | (refine wpG_pure (fun K hK => ?_); go_simp; refine hK _ _ ?_; clear hK K) | (refine wpG_deed (by decide) (fun K hK => ?_); go_simp) | (refine wpG_nil ?_))
      go_ret
      exact ⟨rfl, HCd.out⟩
    · obtain rfl : m = f := by omega
      have d2 : decide (128 < m) = false := decide_eq_false f2
      clear hm
      go_enter Try.func6, Try.ntmps6
      go_wp2_with (first | (refine wpList_box26 rfl _ rfl rfl ?_) | (refine wpList_alloc26 rfl rfl ?_; try simp only [World.size_alloc]) | (refine wpList_build26 rfl _ rfl HT.out ?_ ?_; (focus (simp [Act.eval]; done))) | (refine wpList_store26L (b := w.heap.size + 1) (c := fun _ => 0) rfl _ _ rfl rfl rfl ?_ ?_; (focus exact HB6.out); intro W5 h5 hc5; have q18 := CB.get h5 (i := 18) (by omega); have f18 := Blk.frozen h5 18; have H5 := hide h5; have HC5 := hide hc5; clear h5 hc5))
      have hb5 : CB W5 w.heap.size c := HBc.out.chg HC5.out (by simp)
      have hb6 : CB (W5.setCell ⟨w.heap.size + 1, 18, none⟩ (.int .i64 m)) w.heap.size c := hb5.far (p := ⟨w.heap.size + 1, 18, none⟩) (by simp) _
      have hd6 := hDD.out _ _ H5.out
      have HC6 := hide (show Chg [] w (W5.setCell ⟨w.heap.size + 1, 18, none⟩ (.int .i64 m)) from (HC0.out.trans HC5.out (fun x hx => .inr (by obtain rfl := List.mem_singleton.1 hx; omega))).setCell (.inr (by simp)) _)
      clear hb5 H5 HC5 q18 f18 HBc HB6 HC0 hDD HT
      generalize W5.setCell ⟨w.heap.size + 1, 18, none⟩ (.int .i64 m) = W6 at hb6 hd6 HC6 ⊢
      generalize w.heap.size + 1 = b6 at hd6 ⊢
      generalize w.heap.size = b at hb6 ⊢
      refine wp_region_t [5, 6, 5, 6, 0, 0, 5, 6, 5, 6, 0, 0, 0, 0, 0, 6, 5, 0, 0, 0, 6, 0, 0] [none, none, none, none, none, none, some (22, true), some (22, true), some (22, true), some (22, true), some (22, true), some (22, true), none, none, some (30, true), some (30, true), some (30, true), some (30, true), none, none, some (36, true), none, none] (fun W => CB W b c ∧ CB W b6 D) (by kernel_rfl) (by kernel_rfl) (by kernel_rfl) ?_
      have hS : CB W6.drew b c ∧ CB W6.drew b6 D := ⟨hb6, hd6⟩
      have HCd := hide HC6.out.drew
      clear hb6 hd6 HC6
      go_wp2_with (first | (refine wpG_hload 26 _ rfl rfl (fun w' hw' => load26 hw'.1) hS ?_) | (refine wpG_calc rfl (fun K hK => ?_)) | (refine wpG_skip ?_ ?_; (focus (simp [wantG]; done)); go_simp) | (refine wpG_take ?_ ?_; (focus (simp [wantG]; done))) | (refine wpG_pure (fun K hK => ?_); go_simp; refine hK _ _ ?_; clear hK K) | (refine wpG_deed (by decide) (fun K hK => ?_); go_simp) | (refine wpG_nil ?_))
      (refine wpG_keeps hS (fun K hK => ?_))
      go_simp
      refine (H18.out _).mono ?_
      rintro e W7 ⟨rfl, hcc⟩
      have hS7 : CB W7 b c ∧ CB W7 b6 D := ⟨hS.1.chg hcc List.not_mem_nil, hS.2.chg hcc List.not_mem_nil⟩
      refine hK _ _ hS7 ?_
      clear hK K
      have HCd := hide (HCd.out.stay hcc)
      clear hS hcc
      go_wp2_with (first | (refine wpG_hload 26 _ rfl rfl (fun w' hw' => load26 hw'.1) hS7 ?_) | (refine wpG_calc rfl (fun K hK => ?_)) | (refine wpG_skip ?_ ?_; (focus (simp [wantG]; done)); go_simp) | (refine wpG_take ?_ ?_; (focus (simp [wantG]; done))) | (refine wpG_pure (fun K hK => ?_); go_simp; refine hK _ _ ?_; clear hK K) | (refine wpG_deed (by decide) (fun K hK => ?_); go_simp) | (refine wpG_nil ?_))
      (refine wpG_keeps hS7 (fun K hK => ?_))
      go_simp
      refine (H14.out _).mono ?_
      rintro e W8 ⟨rfl, hcc⟩
      have hS8 : CB W8 b c ∧ CB W8 b6 D := ⟨hS7.1.chg hcc List.not_mem_nil, hS7.2.chg hcc List.not_mem_nil⟩
      refine hK _ _ hS8 ?_
      clear hK K
      have HCd := hide (HCd.out.stay hcc)
      clear hS7 hcc
      go_wp2_with (first | (refine wpG_hload 26 _ rfl rfl (fun w' hw' => load26 hw'.1) hS8 ?_) | (refine wpG_calc rfl (fun K hK => ?_)) | (refine wpG_skip ?_ ?_; (focus (simp [wantG]; done)); go_simp) | (refine wpG_take ?_ ?_; (focus (simp [wantG]; done))) | (refine wpG_pure (fun K hK => ?_); go_simp; refine hK _ _ ?_; clear hK K) | (refine wpG_deed (by decide) (fun K hK => ?_); go_simp) | (refine wpG_nil ?_))
      (refine wpG_keeps hS8 (fun K hK => ?_))
      go_simp
      refine (H19.out _).mono ?_
      rintro e W9 ⟨rfl, hcc⟩
      have hS9 : CB W9 b c ∧ CB W9 b6 D := ⟨hS8.1.chg hcc List.not_mem_nil, hS8.2.chg hcc List.not_mem_nil⟩
      refine hK _ _ hS9 ?_
      clear hK K
      have HCd := hide (HCd.out.stay hcc)
      clear hS8 hcc
      go_wp2_with (first | (refine wpG_hload 26 _ rfl rfl (fun w' hw' => load26 hw'.1) hS9 ?_) | (refine wpG_calc rfl (fun K hK => ?_)) | (refine wpG_skip ?_ ?_; (focus (simp [wantG]; done)); go_simp) | (refine wpG_take ?_ ?_; (focus (simp [wantG]; done))) | (refine wpG_pure (fun K hK => ?_); go_simp; refine hK _ _ ?_; clear hK K) | (refine wpG_deed (by decide) (fun K hK => ?_); go_simp) | (refine wpG_nil ?_))
      (refine wpG_keeps hS9 (fun K hK => ?_))
      go_simp
      refine (H16.out _).mono ?_
      rintro e W10 hfr
      obtain ⟨A, ml, cap, rfl, hml, hcc⟩ := HFL.out _ _ _ hfr
      subst hml
      clear hfr
      have hS10 : CB W10 b c ∧ CB W10 b6 D := ⟨hS9.1.chg hcc List.not_mem_nil, hS9.2.chg hcc List.not_mem_nil⟩
      refine hK _ _ hS10 ?_
      clear hK K
      have HCd := hide (HCd.out.stay hcc)
      clear hS9 hcc
      go_wp2_with (first | fail | (refine wpG_calc rfl (fun K hK => ?_)) | (refine wpG_skip ?_ ?_; (focus (simp [wantG]; done)); go_simp) | (refine wpG_take ?_ ?_; (focus (simp [wantG]; done))) | (refine wpG_pure (fun K hK => ?_); go_simp; refine hK _ _ ?_; clear hK K) | (refine wpG_deed (by decide) (fun K hK => ?_); go_simp) | (refine wpG_nil ?_))
      (refine wpG_keeps hS10 (fun K hK => ?_))
      go_simp
      refine (HL.out _).mono ?_
      rintro e W11 ⟨rfl, hcc⟩
      have hS11 : CB W11 b c ∧ CB W11 b6 D := ⟨hS10.1.chg hcc List.not_mem_nil, hS10.2.chg hcc List.not_mem_nil⟩
      refine hK _ _ hS11 ?_
      clear hK K
      have HCd := hide (HCd.out.stay hcc)
      clear hS10 hcc
      go_wp2_with (first | (refine wpG_hload 26 _ rfl rfl (fun w' hw' => load26 hw'.2) hS11 ?_) | (refine wpG_calc rfl (fun K hK => ?_)) | (refine wpG_skip ?_ ?_; (focus (simp [wantG]; done)); go_simp) | (refine wpG_take ?_ ?_; (focus (simp [wantG]; done))) | (refine wpG_pure (fun K hK => ?_); go_simp; refine hK _ _ ?_; clear hK K) | (refine wpG_deed (by decide) (fun K hK => ?_); go_simp) | (refine wpG_nil ?_))
      go_wp2_with (first | (refine wpG_eql26 _ _ _ rfl rfl rfl HEQ.out ?_) | (refine wpG_calc rfl (fun K hK => ?_)) | (refine wpG_skip ?_ ?_; (focus (simp [wantG]; done)); go_simp) | (refine wpG_take ?_ ?_; (focus (simp [wantG]; done))) | (refine wpG_pure (fun K hK => ?_); go_simp; refine hK _ _ ?_; clear hK K) | (refine wpG_deed (by decide) (fun K hK => ?_); go_simp) | (refine wpG_nil ?_))
      (refine wpG_keeps hS11 (fun K hK => ?_))
      go_simp
      refine (known_any _).mono ?_
      rintro e W12 ⟨rfl, hcc⟩
      have hS12 : CB W12 b c ∧ CB W12 b6 D := ⟨hS11.1.chg hcc List.not_mem_nil, hS11.2.chg hcc List.not_mem_nil⟩
      refine hK _ _ hS12 ?_
      clear hK K
      have HCd := hide (HCd.out.stay hcc)
      clear hS11 hcc
      go_wp2_with (first | fail | (refine wpG_calc rfl (fun K hK => ?_)) | (refine wpG_skip ?_ ?_; (focus (simp [wantG]; done)); go_simp) | (refine wpG_take ?_ ?_; (focus (simp [wantG]; done))) | (refine wpG_pure (fun K hK => ?_); go_simp; refine hK _ _ ?_; clear hK K) | (refine wpG_deed (by decide) (fun K hK => ?_); go_simp) | (refine wpG_nil ?_))
      go_ret
      exact ⟨rfl, HCd.out⟩
end Go.Proofs.Ytgehpdkhcjeldaa
