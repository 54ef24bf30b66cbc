/- config's May. -/
import Derived.Test.YtinlpjgjjplceaaDoorCfE
namespace Go.Proofs.YtinlpjgjjplceaaDoor
open Go Go.RowKit

theorem mayP_iff {c : Cf} (hn : 1 ≤ c 0 ∧ c 0 ≤ 8) (hp : 1 ≤ c 1 ∧ c 1 ≤ 16) (hs : 0 ≤ c 90 ∧ c 90 ≤ 1024) (hb : ∀ i, i < 94 → c i = bareC c i) :
    MayP c ↔ (∀ i : Nat, (i : Int) < c 1 → 0 ≤ c (2 + i) ∧ c (2 + i) ≤ c 0 - 1) ∧ (∀ i : Nat, (i : Int) < c 0 → (4 ≤ c (18 + i) ∧ c (18 + i) ≤ 128) ∧ c 93 ≤ c (18 + i)) ∧ NearP c ∧ 0 ≤ c 91 ∧ c 91 ≤ c 92 ∧ c 92 ≤ c 93 := by
  obtain ⟨b1, b2, b3⟩ := (bareC_iff hn hp).1 hb
  constructor
  · intro h
    refine ⟨fun i hi => by have := h.home i (by omega) hi; omega, fun i hi => by have := h.fr i (by omega) hi; omega, fun i k hi hk => ?_, h.mi, h.lo, h.hi⟩
    by_cases e : i = k
    · subst e
      have := h.ds0 i i (by omega) (by omega) (.inr (.inr rfl))
      unfold PairP
      simp [this]
    · have := h.ds1 i k (by omega) (by omega) hi hk e
      unfold PairP
      refine ⟨⟨fun h => by omega, fun h => absurd h e⟩, by omega, by omega⟩
  · rintro ⟨h1, h2, h3, h4, h5, h6⟩
    refine ⟨hn.1, hn.2, hp.1, hp.2, hs.1, hs.2, fun i _ hi => by have := h1 i hi; omega, fun i hi hc => b1 i hi hc, fun i _ hi => by have := h2 i hi; omega, fun i hi hc => b2 i hi hc, fun i k hi hk hc => ?_, fun i k _ _ hi hk hne => ?_, h4, h5, h6⟩
    · by_cases e : c 0 ≤ (i : Int) ∨ c 0 ≤ (k : Int)
      · exact b3 i k hi hk e
      · exact (h3 i k (by omega) (by omega)).1.2 (by rcases hc with h | h | h; exact absurd (.inl h) e; exact absurd (.inr h) e; exact h)
    · obtain ⟨p1, p2, p3⟩ := h3 i k hi hk
      have : c (26 + i * 8 + k) ≠ 0 := fun h => hne (p1.1 h)
      omega
theorem mayP_pre {c : Cf} (h : MayP c) : (1 ≤ c 0 ∧ c 0 ≤ 8) ∧ (1 ≤ c 1 ∧ c 1 ≤ 16) ∧ (0 ≤ c 90 ∧ c 90 ≤ 1024) ∧ ∀ i, i < 94 → c i = bareC c i := by
  refine ⟨⟨h.n1, h.n8⟩, ⟨h.p1, h.p16⟩, ⟨h.s0, h.s1⟩, (bareC_iff ⟨h.n1, h.n8⟩ ⟨h.p1, h.p16⟩).2 ⟨fun i hi hc => h.home0 i hi hc, fun i hi hc => h.fr0 i hi hc, fun i k hi hk hc => h.ds0 i k hi hk (by omega)⟩⟩
theorem neq_cg (w : World) (c d : Cf) : ∃ r : Bool, (∀ w, (binOp .neq 26 (.agg (cg c)) (.agg (cg d))).run Tryd.prog w = .ok (.bool (!r)) w) ∧ (r = true ↔ ∀ i, i < 94 → c i = d i) := by
  obtain ⟨r, h1, h2⟩ := run_eq_cg w c d
  refine ⟨r, fun w' => ?_, h2⟩
  obtain ⟨r', h3, h4⟩ := run_eq_cg w' c d
  have : r' = r := by rw [Bool.eq_iff_iff, h4, h2]
  rw [run_neq_struct, h3, this]
  rfl
theorem wpG_neq26 {S : World → Prop} {Q : Exit → Act → World → Prop} {o : Oper} {rest : List Oper} {ks : List Nat} {gs : List (Option (Nat × Bool))} {A : Act} {w : World} (x y : Operand) (t : TypeId) (ho : o.op = .binOp .neq 26 x y t) {c d : Cf}
    (hx : A.eval x = .agg (cg c)) (hy : A.eval y = .agg (cg d)) {r : Bool} (hr : ∀ w, (binOp .neq 26 (.agg (cg c)) (.agg (cg d))).run Tryd.prog w = .ok (.bool (!r)) w) (hk : wpG Tryd.prog S Q rest ks gs (A.put o.dst (.bool (!r))) w) :
    wpG Tryd.prog S Q (o :: rest) (0 :: ks) (none :: gs) A w := by
  refine wpG_pure (fun K hK => ⟨_, fun w' => ?_, hK _ _ hk⟩)
  unfold execOp
  simp only [ho, hx, hy, Sem.run_bind, run_eqGuard_agg w' .neq 26 x y _ _ (show Tryd.prog.eqGuardType Tryd.prog.depth 26 = false by kernel_rfl), Result.andThen_ok, hr, Sem.run_pure]
theorem load26 {w : World} {b : Nat} {c : Cf} (h : CB w b c) : (loadVar 26 ⟨b, 0, none⟩).run Tryd.prog w = .ok (.agg (cg c)) w := run_loadVar_row w b 26 26 (cg c) (0, 0) _ h Tryd.underlying26 rfl info26'
set_option maxHeartbeats 4000000 in
theorem may_any (c : Cf) (w : World) : Calls Tryd.prog 31 #[.agg (cg c)] w fun e w' => ∃ r : Bool, e = .returned (.bool r) ∧ (r = true ↔ MayP c) ∧ Chg [] w w' := by
  have hb := Blk.new w 26 (cg c)
  have q0 := CB.get hb (i := 0) (by omega)
  have q1 := CB.get hb (i := 1) (by omega)
  have q90 := CB.get hb (i := 90) (by omega)
  have HB := hide hb
  have hbl : w.heap.size < (w.alloc (.cells (cg c) 26)).heap.size := by simp
  have g0 := cg_get c (i := 0) (by omega)
  have g1 := cg_get c (i := 1) (by omega)
  have g90 := cg_get c (i := 90) (by omega)
  have HC := hide (show Chg [] w (w.alloc (.cells (cg c) 26)) from (Chg.refl [] w).alloc _)
  clear hb
  by_cases hn : 1 ≤ c 0 ∧ c 0 ≤ 8
  rotate_left
  · have HF := hide (fun h : MayP c => hn (mayP_pre h).1)
    have d0 : decide (1 ≤ c 0 ∧ c 0 ≤ 8) = false := decide_eq_false hn
    clear hn
    go_enter Tryd.func31, Tryd.ntmps31
    go_wp2_with (first | (refine wpList_box26 rfl _ rfl rfl ?_))
    have HBD := HB.out.drew
    refine wp_region_t [0, 1, 3, 0, 0, 0, 1, 3, 0, 0, 0, 0, 1, 3, 0, 0, 0, 5, 5, 6, 0, 0] [none, none, none, none, none, some (11, false), some (11, false), some (11, false), some (11, false), none, none, some (17, false), some (17, false), some (17, false), some (17, false), none, none, some (23, false), some (23, false), some (23, false), some (23, false), none] (fun W => CB W w.heap.size c) (by kernel_rfl) (by kernel_rfl) (by kernel_rfl) ?_
    go_wp2_with (first | ((refine wpG_deed (by decide) (fun K hK => ?_); go_simp; refine (within_any _ _ _ _).mono ?_; rintro e W7 ⟨rfl, rfl⟩; refine hK _ _ ?_; clear hK K)) | (refine wpG_calc rfl (fun K hK => ?_)) | (refine wpG_skip ?_ ?_; (focus (simp [wantG]; done)); go_simp) | (refine wpG_take ?_ ?_; (focus (simp [wantG]; done))) | (refine wpG_pure (fun K hK => ?_); go_simp; refine hK _ _ ?_; clear hK K) | (refine wpG_deed (by decide) (fun K hK => ?_); go_simp) | (refine wpG_nil ?_))
    go_ret
    exact ⟨false, rfl, ⟨fun h => (by cases h), fun h => (HF.out h).elim⟩, HC.out.drew⟩
  have d0 : decide (1 ≤ c 0 ∧ c 0 ≤ 8) = true := decide_eq_true hn
  have Hn := hide hn
  clear hn
  by_cases hp : 1 ≤ c 1 ∧ c 1 ≤ 16
  rotate_left
  · have HF := hide (fun h : MayP c => hp (mayP_pre h).2.1)
    have d1 : decide (1 ≤ c 1 ∧ c 1 ≤ 16) = false := decide_eq_false hp
    clear hp
    go_enter Tryd.func31, Tryd.ntmps31
    go_wp2_with (first | (refine wpList_box26 rfl _ rfl rfl ?_))
    have HBD := HB.out.drew
    refine wp_region_t [0, 1, 3, 0, 0, 0, 1, 3, 0, 0, 0, 0, 1, 3, 0, 0, 0, 5, 5, 6, 0, 0] [none, none, none, none, none, some (11, false), some (11, false), some (11, false), some (11, false), none, none, some (17, false), some (17, false), some (17, false), some (17, false), none, none, some (23, false), some (23, false), some (23, false), some (23, false), none] (fun W => CB W w.heap.size c) (by kernel_rfl) (by kernel_rfl) (by kernel_rfl) ?_
    go_wp2_with (first | ((refine wpG_deed (by decide) (fun K hK => ?_); go_simp; refine (within_any _ _ _ _).mono ?_; rintro e W7 ⟨rfl, rfl⟩; refine hK _ _ ?_; clear hK K)) | (refine wpG_calc rfl (fun K hK => ?_)) | (refine wpG_skip ?_ ?_; (focus (simp [wantG]; done)); go_simp) | (refine wpG_take ?_ ?_; (focus (simp [wantG]; done))) | (refine wpG_pure (fun K hK => ?_); go_simp; refine hK _ _ ?_; clear hK K) | (refine wpG_deed (by decide) (fun K hK => ?_); go_simp) | (refine wpG_nil ?_))
    go_ret
    exact ⟨false, rfl, ⟨fun h => (by cases h), fun h => (HF.out h).elim⟩, HC.out.drew⟩
  have d1 : decide (1 ≤ c 1 ∧ c 1 ≤ 16) = true := decide_eq_true hp
  have Hp := hide hp
  clear hp
  by_cases hs : 0 ≤ c 90 ∧ c 90 ≤ 1024
  rotate_left
  · have HF := hide (fun h : MayP c => hs (mayP_pre h).2.2.1)
    have d2 : decide (0 ≤ c 90 ∧ c 90 ≤ 1024) = false := decide_eq_false hs
    clear hs
    go_enter Tryd.func31, Tryd.ntmps31
    go_wp2_with (first | (refine wpList_box26 rfl _ rfl rfl ?_))
    have HBD := HB.out.drew
    refine wp_region_t [0, 1, 3, 0, 0, 0, 1, 3, 0, 0, 0, 0, 1, 3, 0, 0, 0, 5, 5, 6, 0, 0] [none, none, none, none, none, some (11, false), some (11, false), some (11, false), some (11, false), none, none, some (17, false), some (17, false), some (17, false), some (17, false), none, none, some (23, false), some (23, false), some (23, false), some (23, false), none] (fun W => CB W w.heap.size c) (by kernel_rfl) (by kernel_rfl) (by kernel_rfl) ?_
    go_wp2_with (first | ((refine wpG_deed (by decide) (fun K hK => ?_); go_simp; refine (within_any _ _ _ _).mono ?_; rintro e W7 ⟨rfl, rfl⟩; refine hK _ _ ?_; clear hK K)) | (refine wpG_calc rfl (fun K hK => ?_)) | (refine wpG_skip ?_ ?_; (focus (simp [wantG]; done)); go_simp) | (refine wpG_take ?_ ?_; (focus (simp [wantG]; done))) | (refine wpG_pure (fun K hK => ?_); go_simp; refine hK _ _ ?_; clear hK K) | (refine wpG_deed (by decide) (fun K hK => ?_); go_simp) | (refine wpG_nil ?_))
    go_ret
    exact ⟨false, rfl, ⟨fun h => (by cases h), fun h => (HF.out h).elim⟩, HC.out.drew⟩
  have d2 : decide (0 ≤ c 90 ∧ c 90 ≤ 1024) = true := decide_eq_true hs
  have Hs := hide hs
  clear hs
  obtain ⟨r, hr, hri⟩ := neq_cg w c (bareC c)
  have HR := hide hr
  have HBA := hide (fun W : World => bare_any (c := c) W Hn.out Hp.out)
  obtain ⟨D, hD⟩ : ∃ D, D = bareC c := ⟨_, rfl⟩
  rw [← hD] at HR HBA
  have HRI := hide hri
  clear hr hri hD
  cases r with
  | false =>
    have HF := hide (fun h : MayP c => Bool.false_ne_true (HRI.out.2 (mayP_pre h).2.2.2))
    go_enter Tryd.func31, Tryd.ntmps31
    go_wp2_with (first | (refine wpList_box26 rfl _ rfl rfl ?_))
    have HBD := HB.out.drew
    refine wp_region_t [0, 1, 3, 0, 0, 0, 1, 3, 0, 0, 0, 0, 1, 3, 0, 0, 0, 5, 5, 6, 0, 0] [none, none, none, none, none, some (11, false), some (11, false), some (11, false), some (11, false), none, none, some (17, false), some (17, false), some (17, false), some (17, false), none, none, some (23, false), some (23, false), some (23, false), some (23, false), none] (fun W => CB W w.heap.size c) (by kernel_rfl) (by kernel_rfl) (by kernel_rfl) ?_
    go_wp2_with (first | ((refine wpG_deed (by decide) (fun K hK => ?_); go_simp; refine (within_any _ _ _ _).mono ?_; rintro e W7 ⟨rfl, rfl⟩; refine hK _ _ ?_; clear hK K)) | (refine wpG_hload 26 _ rfl rfl (fun w' hw' => load26 hw') HBD ?_) | (refine wpG_calc rfl (fun K hK => ?_)) | (refine wpG_skip ?_ ?_; (focus (simp [wantG]; done)); go_simp) | (refine wpG_take ?_ ?_; (focus (simp [wantG]; done))) | (refine wpG_pure (fun K hK => ?_); go_simp; refine hK _ _ ?_; clear hK K) | (refine wpG_deed (by decide) (fun K hK => ?_); go_simp) | (refine wpG_nil ?_))
    (refine wpG_keeps HBD (fun K hK => ?_))
    go_simp
    refine (HBA.out _).mono ?_
    rintro e W2 ⟨rfl, hc2⟩
    have hb2 : CB W2 w.heap.size c := HBD.chg hc2 List.not_mem_nil
    refine hK _ _ hb2 ?_
    clear hK K
    go_wp2_with (first | (refine wpG_neq26 _ _ _ rfl rfl rfl HR.out ?_) | (refine wpG_calc rfl (fun K hK => ?_)) | (refine wpG_skip ?_ ?_; (focus (simp [wantG]; done)); go_simp) | (refine wpG_take ?_ ?_; (focus (simp [wantG]; done))) | (refine wpG_pure (fun K hK => ?_); go_simp; refine hK _ _ ?_; clear hK K) | (refine wpG_deed (by decide) (fun K hK => ?_); go_simp) | (refine wpG_nil ?_))
    go_ret
    exact ⟨false, rfl, ⟨fun h => (by cases h), fun h => (HF.out h).elim⟩, HC.out.drew.stay hc2⟩
  | true =>
    have hI := mayP_iff Hn.out Hp.out Hs.out (HRI.out.1 rfl)
    obtain ⟨n, hn'⟩ : ∃ n : Nat, c 0 = n := ⟨(c 0).toNat, by have := Hn.out.1; omega⟩
    obtain ⟨p, hp'⟩ : ∃ p : Nat, c 1 = p := ⟨(c 1).toNat, by have := Hp.out.1; omega⟩
    have hn8 : n ≤ 8 := by have := Hn.out.2; omega
    have hp16 : p ≤ 16 := by have := Hp.out.2; omega
    have pp1 : (0 : Int) ≤ (p : Int) := by omega
    have pp2 : (p : Int) ≤ 16 := by omega
    have nn1 : (0 : Int) ≤ (n : Int) := by omega
    have nn3 : (1 : Int) ≤ (n : Int) := by have := Hn.out.1; omega
    have pp3 : (1 : Int) ≤ (p : Int) := by have := Hp.out.1; omega
    have nn2 : (n : Int) ≤ 8 := by omega
    have HNA := hide (fun W : World => near_any (c := c) W Hn.out)
    have HI := hide hI
    have HN' := hide hn'
    have HP' := hide hp'
    rw [hn'] at d0 g0 q0
    rw [hp'] at d1 g1 q1
    clear hn' hp' hI
    go_enter Tryd.func31, Tryd.ntmps31
    go_wp2_with (first | (refine wpList_box26 rfl _ rfl rfl ?_))
    have HBD := HB.out.drew
    refine wp_region_t [0, 1, 3, 0, 0, 0, 1, 3, 0, 0, 0, 0, 1, 3, 0, 0, 0, 5, 5, 6, 0, 0] [none, none, none, none, none, some (11, false), some (11, false), some (11, false), some (11, false), none, none, some (17, false), some (17, false), some (17, false), some (17, false), none, none, some (23, false), some (23, false), some (23, false), some (23, false), none] (fun W => CB W w.heap.size c) (by kernel_rfl) (by kernel_rfl) (by kernel_rfl) ?_
    go_wp2_with (first | ((refine wpG_deed (by decide) (fun K hK => ?_); go_simp; refine (within_any _ _ _ _).mono ?_; rintro e W7 ⟨rfl, rfl⟩; refine hK _ _ ?_; clear hK K)) | (refine wpG_hload 26 _ rfl rfl (fun w' hw' => load26 hw') HBD ?_) | (refine wpG_calc rfl (fun K hK => ?_)) | (refine wpG_skip ?_ ?_; (focus (simp [wantG]; done)); go_simp) | (refine wpG_take ?_ ?_; (focus (simp [wantG]; done))) | (refine wpG_pure (fun K hK => ?_); go_simp; refine hK _ _ ?_; clear hK K) | (refine wpG_deed (by decide) (fun K hK => ?_); go_simp) | (refine wpG_nil ?_))
    (refine wpG_keeps HBD (fun K hK => ?_))
    go_simp
    refine (HBA.out _).mono ?_
    rintro e W2 ⟨rfl, hc2⟩
    have hb2 : CB W2 w.heap.size c := HBD.chg hc2 List.not_mem_nil
    refine hK _ _ hb2 ?_
    clear hK K
    have HC2 := hide (HC.out.drew.stay hc2)
    have r0 := CB.get hb2 (i := 0) (by omega)
    have r1 := CB.get hb2 (i := 1) (by omega)
    rw [HN'.out] at r0
    rw [HP'.out] at r1
    have HB2 := hide hb2
    have hbl2 := hb2.lt
    clear hb2 hc2 HBD HB HC q0 q1 q90 hbl
    go_wp2_with (first | (refine wpG_neq26 _ _ _ rfl rfl rfl HR.out ?_) | (refine wpG_calc rfl (fun K hK => ?_)) | (refine wpG_skip ?_ ?_; (focus (simp [wantG]; done)); go_simp) | (refine wpG_take ?_ ?_; (focus (simp [wantG]; done))) | (refine wpG_pure (fun K hK => ?_); go_simp; refine hK _ _ ?_; clear hK K) | (refine wpG_deed (by decide) (fun K hK => ?_); go_simp) | (refine wpG_nil ?_))
    generalize w.heap.size = b at r0 r1 HB2 hbl2 ⊢
    go_loopw [34] (fun i wr => wr = W2 ∧ ∃ k : Nat, k ≤ p ∧ i = .int .i64 k ∧ Hid (∀ i : Nat, i < k → 0 ≤ c (2 + i) ∧ c (2 + i) ≤ c 0 - 1)) (fun i _ => p - (intOf i).toNat)
    case atStart => exact ⟨rfl, 0, by omega, rfl, hide (fun i hi => by omega)⟩
    case round =>
      obtain ⟨rfl, k, hk, rfl, HH⟩ := hrel
      by_cases hkt : k < p
      · have kk1 : (0 : Int) ≤ (k : Int) := by omega
        have kk2 : (k : Int) < (p : Int) := by omega
        have t1 := CB.get HB2.out (i := 2 + k) (by omega)
        by_cases hw : 0 ≤ c (2 + k) ∧ c (2 + k) ≤ c 0 - 1
        · have hW := hide hw
          rw [HN'.out] at hw
          have dw : decide (0 ≤ c (2 + k) ∧ c (2 + k) ≤ (n : Int) - 1) = true := decide_eq_true hw
          clear hw
          go_wp2_with (first | ((go_at_call 52; refine (within_any _ _ _ _).mono ?_; rintro e W7 ⟨rfl, rfl⟩)))
          go_roundw
          case rel => exact ⟨trivial, k + 1, by omega, by go_num, hide (fun i hi => by
            by_cases e : i = k
            · subst e; exact hW.out
            · exact HH.out i (by omega))⟩
          case measure => simp [intOf]; omega
        · have HF := hide (fun h : MayP c => hw ((HI.out.1 h).1 k (by rw [HP'.out]; exact kk2)))
          rw [HN'.out] at hw
          have dw : decide (0 ≤ c (2 + k) ∧ c (2 + k) ≤ (n : Int) - 1) = false := decide_eq_false hw
          clear hw
          go_wp2_with (first | ((go_at_call 52; refine (within_any _ _ _ _).mono ?_; rintro e W7 ⟨rfl, rfl⟩)))
          go_ret
          exact ⟨false, rfl, ⟨fun h => (by cases h), fun h => (HF.out h).elim⟩, HC2.out⟩
      · obtain rfl : k = p := by omega
        have HH2 := hide (show ∀ i : Nat, (i : Int) < c 1 → 0 ≤ c (2 + i) ∧ c (2 + i) ≤ c 0 - 1 from fun i hi => HH.out i (by rw [HP'.out] at hi; omega))
        clear HH
        go_wp2_with fail
        go_loopw [50] (fun i wr' => wr' = wr ∧ ∃ k : Nat, k ≤ n ∧ i = .int .i64 k ∧ Hid (∀ i : Nat, i < k → (4 ≤ c (18 + i) ∧ c (18 + i) ≤ 128) ∧ c 93 ≤ c (18 + i))) (fun i _ => n - (intOf i).toNat)
        case atStart => exact ⟨rfl, 0, by omega, rfl, hide (fun i hi => by omega)⟩
        case round =>
          obtain ⟨rfl, j, hj, rfl, HJ⟩ := hrel
          by_cases hjt : j < n
          · have jj1 : (0 : Int) ≤ (j : Int) := by omega
            have jj2 : (j : Int) < (n : Int) := by omega
            have t1 := CB.get HB2.out (i := 18 + j) (by omega)
            have t93 := CB.get HB2.out (i := 93) (by omega)
            by_cases hw : 4 ≤ c (18 + j) ∧ c (18 + j) ≤ 128
            · have dw : decide (4 ≤ c (18 + j) ∧ c (18 + j) ≤ 128) = true := decide_eq_true hw
              have hW := hide hw
              clear hw
              by_cases hh : c 93 ≤ c (18 + j)
              · have dh : decide (c (18 + j) < c 93) = false := decide_eq_false (by omega)
                have hH := hide hh
                clear hh
                go_wp2_with (first | ((go_at_call 52; refine (within_any _ _ _ _).mono ?_; rintro e W7 ⟨rfl, rfl⟩)))
                go_roundw
                case rel => exact ⟨trivial, j + 1, by omega, by go_num, hide (fun i hi => by
                  by_cases e : i = j
                  · subst e; exact ⟨hW.out, hH.out⟩
                  · exact HJ.out i (by omega))⟩
                case measure => simp [intOf]; omega
              · have HF := hide (fun h : MayP c => hh ((HI.out.1 h).2.1 j (by rw [HN'.out]; exact jj2)).2)
                have dh : decide (c (18 + j) < c 93) = true := decide_eq_true (by omega)
                clear hh
                go_wp2_with (first | ((go_at_call 52; refine (within_any _ _ _ _).mono ?_; rintro e W7 ⟨rfl, rfl⟩)))
                go_ret
                exact ⟨false, rfl, ⟨fun h => (by cases h), fun h => (HF.out h).elim⟩, HC2.out⟩
            · have HF := hide (fun h : MayP c => hw ((HI.out.1 h).2.1 j (by rw [HN'.out]; exact jj2)).1)
              have dw : decide (4 ≤ c (18 + j) ∧ c (18 + j) ≤ 128) = false := decide_eq_false hw
              clear hw
              go_wp2_with (first | ((go_at_call 52; refine (within_any _ _ _ _).mono ?_; rintro e W7 ⟨rfl, rfl⟩)))
              go_ret
              exact ⟨false, rfl, ⟨fun h => (by cases h), fun h => (HF.out h).elim⟩, HC2.out⟩
          · obtain rfl : j = n := by omega
            have HJ2 := hide (show ∀ i : Nat, (i : Int) < c 0 → (4 ≤ c (18 + i) ∧ c (18 + i) ≤ 128) ∧ c 93 ≤ c (18 + i) from fun i hi => HJ.out i (by rw [HN'.out] at hi; omega))
            clear HJ
            go_wp2_with (first | (refine wpList_load26 HB2.out rfl _ rfl rfl ?_))
            refine (HNA.out _).mono ?_
            rintro e W5 ⟨r5, rfl, hr5, hc5⟩
            have hb5 : CB W5 b c := HB2.out.chg hc5 List.not_mem_nil
            have u91 := CB.get hb5 (i := 91) (by omega)
            have u92 := CB.get hb5 (i := 92) (by omega)
            have u93 := CB.get hb5 (i := 93) (by omega)
            have HC5 := hide (HC2.out.stay hc5)
            have hbl5 := hb5.lt
            have HR5 := hide hr5
            clear hb5 hc5 hr5
            cases r5 with
            | false =>
              have HF := hide (fun h : MayP c => Bool.false_ne_true (HR5.out.2 (HI.out.1 h).2.2.1))
              go_wp2_with fail
              go_ret
              exact ⟨false, rfl, ⟨fun h => (by cases h), fun h => (HF.out h).elim⟩, HC5.out⟩
            | true =>
              by_cases m1 : 0 ≤ c 91
              · by_cases m2 : c 91 ≤ c 92
                · by_cases m3 : c 92 ≤ c 93
                  · have HT := hide (HI.out.2 ⟨HH2.out, HJ2.out, HR5.out.1 rfl, m1, m2, m3⟩)
                    go_wp2_with fail
                    go_ret
                    exact ⟨true, rfl, ⟨fun _ => HT.out, fun _ => rfl⟩, HC5.out⟩
                  · have HF := hide (fun h : MayP c => m3 h.hi)
                    have d3 : decide (c 92 ≤ c 93) = false := decide_eq_false m3
                    go_wp2_with fail
                    go_ret
                    exact ⟨false, rfl, ⟨fun h => (by cases h), fun h => (HF.out h).elim⟩, HC5.out⟩
                · have HF := hide (fun h : MayP c => m2 h.lo)
                  have d3 : decide (c 91 ≤ c 92) = false := decide_eq_false m2
                  go_wp2_with fail
                  go_ret
                  exact ⟨false, rfl, ⟨fun h => (by cases h), fun h => (HF.out h).elim⟩, HC5.out⟩
              · have HF := hide (fun h : MayP c => m1 h.mi)
                have d3 : decide (0 ≤ c 91) = false := decide_eq_false m1
                go_wp2_with fail
                go_ret
                exact ⟨false, rfl, ⟨fun h => (by cases h), fun h => (HF.out h).elim⟩, HC5.out⟩
theorem mayB_of {c : Cf} {r : Bool} (h : r = true ↔ MayP c) : r = mayB c := by rw [Bool.eq_iff_iff, h, mayB_iff]
/-- THE CONTRACT of May -/
theorem May_any (c : Cf) (w : World) : Calls Tryd.prog 31 #[.agg (cg c)] w fun e w' => e = .returned (.bool (mayB c)) ∧ Chg [] w w' := by
  refine (may_any c w).mono ?_
  rintro e w' ⟨r, rfl, hr, hc⟩
  rw [mayB_of hr]
  exact ⟨rfl, hc⟩
end Go.Proofs.YtinlpjgjjplceaaDoor
