/- The document's Same. -/
import Derived.Test.YtinlpjgjjplceaaDoorCaM
namespace Go.Proofs.YtinlpjgjjplceaaDoor
open Go Go.RowKit

theorem wp_alloc34 {o : Oper} {a : Act} {w : World} {K : Act → World → Prop} {Q : Exit → Act → World → Prop} (ho : o.op = .alloc 34) (h : K (a.put o.dst (.pointer (some ⟨w.heap.size, 0, none⟩))) (w.alloc (.cells (clc zCl zV) 34))) : o.wp Tryd.prog a w K Q := by
  unfold Oper.wp execOp
  simp only [ho, Sem.run_bind, run_alloc34, Sem.run_pure, Result.andThen_ok]
  exact h
theorem wp_store34 {o : Oper} {a : Act} {w : World} {K : Act → World → Prop} {Q : Exit → Act → World → Prop} {b : Nat} {x y : Cl} {v u : Value} (z t : Operand) (ho : o.op = .store 34 z t) (hx : a.eval z = .pointer (some ⟨b, 0, none⟩)) (hy : a.eval t = .agg (clc y u)) (hu : u.oneCell' = true) (h0 : KB w b x v)
    (h : ∀ w', KB w' b y u → Chg [b] w w' → K (a.put o.dst undef) w') : o.wp Tryd.prog a w K Q :=
  wp_store_row 34 z t ho b _ hx hy 34 _ h0 info34 rfl (clc_one y hu) (h _ (setRow_heap w b _ _ _ _ h0) ((Chg.refl [b] w).setRow (.inl (by simp)) _))
set_option maxRecDepth 20000 in
set_option maxHeartbeats 40000000 in
theorem rSame_any {w : World} {x y : Cl} {v u : Value} (hv : RB w v x.l) (hu : RB w u y.l) (hl : ∀ b ∈ x.l, b < 256) (hm : ∀ b ∈ y.l, b < 256) :
    Calls Tryd.prog 17 #[.agg (clc x v), .agg (clc y u)] w fun e w' => e = .returned (.bool (sameB x y)) ∧ Chg [] w w' := by
  obtain ⟨A0, c0, rfl⟩ := RE.form hv
  obtain ⟨A1, c1, rfl⟩ := RE.form hu
  obtain ⟨VX, hVX⟩ : ∃ V : Array Value, V = clc x (.slice A0 x.l.length c0) := ⟨_, rfl⟩
  obtain ⟨VY, hVY⟩ : ∃ V : Array Value, V = clc y (.slice A1 y.l.length c1) := ⟨_, rfl⟩
  obtain ⟨W2, hW2⟩ : ∃ W2, W2 = (w.alloc (.cells (clc x (.slice A0 x.l.length c0)) 34)).alloc (.cells (clc y (.slice A1 y.l.length c1)) 34) := ⟨_, rfl⟩
  have hc2 : Chg [] w W2 := by rw [hW2]; exact ((Chg.refl [] w).alloc _).alloc _
  have hb1 : KB W2 w.heap.size x (.slice A0 x.l.length c0) := by rw [hW2]; exact (Blk.new w 34 _).alloc _
  have hb2 : KB W2 (w.heap.size + 1) y (.slice A1 y.l.length c1) := by
    have := Blk.new (w.alloc (.cells (clc x (.slice A0 x.l.length c0)) 34)) 34 (clc y (.slice A1 y.l.length c1))
    rw [World.size_alloc] at this
    rw [hW2]
    exact this
  have HB := hide (And.intro hb1 hb2)
  have HC := hide hc2
  have HW2 := hide hW2
  have HV := hide (And.intro hv hu)
  have HL := hide (And.intro hl hm)
  clear hv hu hl hm hc2 hb1 hb2 hW2 hVX hVY VX VY
  go_enter Tryd.func17, Tryd.ntmps17
  go_wp2_with (first | (refine wpList_box34 rfl _ rfl rfl ?_; try simp only [World.size_alloc]; try rw [← HW2.out]))
  rename_i K0 hK0
  have key : ∀ (b5 b6 : Nat) (W : World), KB W b5 x (.slice A0 x.l.length c0) → KB W b6 y (.slice A1 y.l.length c1) → Chg [] w W →
      K0 { tmps := #[.agg (clc x (.slice A0 x.l.length c0)), .agg (clc y (.slice A1 y.l.length c1)), .pointer (some ⟨w.heap.size, 0, none⟩), .pointer (some ⟨w.heap.size + 1, 0, none⟩), .bool false, .pointer (some ⟨b5, 0, none⟩), .pointer (some ⟨b6, 0, none⟩), .agg (clc x (.slice A0 x.l.length c0)), .agg (clc y (.slice A1 y.l.length c1)), undef, undef, undef, undef, undef, undef, undef, undef, undef, undef, undef, undef, undef, undef, undef, undef, undef, undef, undef, undef, undef, undef, undef, undef, undef, undef, undef, undef, undef, undef, undef, undef, undef, undef, undef, undef, undef, undef, undef, undef, undef, undef, undef, undef, undef, undef, undef, undef, undef, undef, undef, undef, undef, undef, undef, undef, undef, undef, undef, undef, undef, undef, undef, undef, undef, undef, undef, undef, undef, undef, undef, undef, undef, undef, undef, undef, undef], defers := [] } W := by
    intro b5 b6 W hx hy hc
    have hcv := run_str (HV.out.1.stay hc) HL.out.1
    have hcu := run_str (HV.out.2.stay hc) HL.out.2
    have hsl := strB_list HL.out.1 HL.out.2
    have HCC := hide hc
    obtain ⟨c1', c2', c3', c4', c5', c6', c7', c8', c9', c10', c11', c12', cl', cf'⟩ := KB.cells hx
    obtain ⟨d1', d2', d3', d4', d5', d6', d7', d8', d9', d10', d11', d12', dl', df'⟩ := KB.cells hy
    clear hx hy hc cf' df' HV HL HB HC HW2
    obtain ⟨k, p, n, g, c, a, s, r, ok, om, h, l⟩ := x
    obtain ⟨k', p', n', g', c', a', s', r', ok', om', h', l'⟩ := y
    simp only at c1' c2' c3' c4' c5' c6' c7' c8' c9' c10' c11' c12' d1' d2' d3' d4' d5' d6' d7' d8' d9' d10' d11' d12' hcv hcu hsl
    by_cases hll : l = l'
    · subst hll
      rw [decide_eq_true rfl] at hsl
      generalize strB l = sx at hcv hcu hsl
      by_cases z : ¬ (k = k')
      · have j1 : (k == k') = false := beq_false_of_ne z
        have j2 : decide (k = k') = false := decide_eq_false z
        have j3 : ((k : Int) == (k' : Int)) = false := beq_false_of_ne (by omega)
        have j4 : decide ((k : Int) = (k' : Int)) = false := decide_eq_false (by omega)
        have hs : sameB ⟨k, p, n, g, c, a, s, r, ok, om, h, l⟩ ⟨k', p', n', g', c', a', s', r', ok', om', h', l⟩ = false := by simp [sameB, j1]
        have hs' := hide hs
        clear hs

        refine hK0 _ _ ?_
        go_wp2_with fail

        all_goals (go_ret; exact ⟨by rw [hs'.out]; rfl, HCC.out⟩)
      replace z := Classical.not_not.1 z
      subst z
      by_cases z : ¬ (p = p')
      · have j1 : (p == p') = false := beq_false_of_ne z
        have j2 : decide (p = p') = false := decide_eq_false z
        have hs : sameB ⟨k, p, n, g, c, a, s, r, ok, om, h, l⟩ ⟨k, p', n', g', c', a', s', r', ok', om', h', l⟩ = false := by simp [sameB, j1]
        have hs' := hide hs
        clear hs

        refine hK0 _ _ ?_
        go_wp2_with fail

        all_goals (go_ret; exact ⟨by rw [hs'.out]; rfl, HCC.out⟩)
      replace z := Classical.not_not.1 z
      subst z
      by_cases z : ¬ (n = n')
      · have j1 : (n == n') = false := beq_false_of_ne z
        have j2 : decide (n = n') = false := decide_eq_false z
        have hs : sameB ⟨k, p, n, g, c, a, s, r, ok, om, h, l⟩ ⟨k, p, n', g', c', a', s', r', ok', om', h', l⟩ = false := by simp [sameB, j1]
        have hs' := hide hs
        clear hs

        refine hK0 _ _ ?_
        go_wp2_with fail

        all_goals (go_ret; exact ⟨by rw [hs'.out]; rfl, HCC.out⟩)
      replace z := Classical.not_not.1 z
      subst z
      by_cases z : ¬ (g = g')
      · have j1 : (g == g') = false := beq_false_of_ne z
        have j2 : decide (g = g') = false := decide_eq_false z
        have hs : sameB ⟨k, p, n, g, c, a, s, r, ok, om, h, l⟩ ⟨k, p, n, g', c', a', s', r', ok', om', h', l⟩ = false := by simp [sameB, j1]
        have hs' := hide hs
        clear hs

        refine hK0 _ _ ?_
        go_wp2_with fail

        all_goals (go_ret; exact ⟨by rw [hs'.out]; rfl, HCC.out⟩)
      replace z := Classical.not_not.1 z
      subst z
      by_cases z : ¬ (c = c')
      · have j1 : (c == c') = false := beq_false_of_ne z
        have j2 : decide (c = c') = false := decide_eq_false z
        have hs : sameB ⟨k, p, n, g, c, a, s, r, ok, om, h, l⟩ ⟨k, p, n, g, c', a', s', r', ok', om', h', l⟩ = false := by simp [sameB, j1]
        have hs' := hide hs
        clear hs

        refine hK0 _ _ ?_
        go_wp2_with fail

        all_goals (go_ret; exact ⟨by rw [hs'.out]; rfl, HCC.out⟩)
      replace z := Classical.not_not.1 z
      subst z
      by_cases z : ¬ (a = a')
      · have j1 : (a == a') = false := beq_false_of_ne z
        have j2 : decide (a = a') = false := decide_eq_false z
        have hs : sameB ⟨k, p, n, g, c, a, s, r, ok, om, h, l⟩ ⟨k, p, n, g, c, a', s', r', ok', om', h', l⟩ = false := by simp [sameB, j1]
        have hs' := hide hs
        clear hs

        refine hK0 _ _ ?_
        go_wp2_with fail

        all_goals (go_ret; exact ⟨by rw [hs'.out]; rfl, HCC.out⟩)
      replace z := Classical.not_not.1 z
      subst z
      by_cases z : ¬ (s = s')
      · have j1 : (s == s') = false := beq_false_of_ne z
        have j2 : decide (s = s') = false := decide_eq_false z
        have hs : sameB ⟨k, p, n, g, c, a, s, r, ok, om, h, l⟩ ⟨k, p, n, g, c, a, s', r', ok', om', h', l⟩ = false := by simp [sameB, j1]
        have hs' := hide hs
        clear hs

        refine hK0 _ _ ?_
        go_wp2_with fail

        all_goals (go_ret; exact ⟨by rw [hs'.out]; rfl, HCC.out⟩)
      replace z := Classical.not_not.1 z
      subst z
      by_cases z : ¬ (r = r')
      · have j1 : (r == r') = false := beq_false_of_ne z
        have j2 : decide (r = r') = false := decide_eq_false z
        have j3 : ((r : Int) == (r' : Int)) = false := beq_false_of_ne (by omega)
        have j4 : decide ((r : Int) = (r' : Int)) = false := decide_eq_false (by omega)
        have hs : sameB ⟨k, p, n, g, c, a, s, r, ok, om, h, l⟩ ⟨k, p, n, g, c, a, s, r', ok', om', h', l⟩ = false := by simp [sameB, j1]
        have hs' := hide hs
        clear hs

        refine hK0 _ _ ?_
        go_wp2_with fail

        all_goals (go_ret; exact ⟨by rw [hs'.out]; rfl, HCC.out⟩)
      replace z := Classical.not_not.1 z
      subst z
      by_cases z : ¬ (ok = ok' ∧ om = om')
      · have hz : ((ok : Int) == (ok' : Int) && (om : Int) == (om' : Int)) = false := by
          cases hq : ((ok : Int) == (ok' : Int) && (om : Int) == (om' : Int)) with
          | false => rfl
          | true =>
            rw [Bool.and_eq_true, beq_iff_eq, beq_iff_eq] at hq
            exact absurd ⟨by omega, by omega⟩ z
        have heqp : ∀ W, (Op.equalIn 10000 30 (.agg #[.int .u8 ok, .int .u8 om]) (.agg #[.int .u8 ok', .int .u8 om'])).run Tryd.prog W = .ok false W := fun W => by rw [← hz]; exact eq_polI W _ _ _ _
        clear hz

        have hs : sameB ⟨k, p, n, g, c, a, s, r, ok, om, h, l⟩ ⟨k, p, n, g, c, a, s, r, ok', om', h', l⟩ = false := by simp [sameB]; intro q1 q2; exact absurd ⟨q1, q2⟩ z
        have hs' := hide hs
        clear hs

        refine hK0 _ _ ?_
        go_wp2_with fail

        all_goals (go_ret; exact ⟨by rw [hs'.out]; rfl, HCC.out⟩)
      obtain ⟨rfl, rfl⟩ := Classical.not_not.1 z
      by_cases z : ¬ (h = h')
      · have heqp : ∀ W, (Op.equalIn 10000 30 (.agg #[.int .u8 ok, .int .u8 om]) (.agg #[.int .u8 ok, .int .u8 om])).run Tryd.prog W = .ok true W := fun W => by rw [show true = ((ok : Int) == (ok : Int) && (om : Int) == (om : Int)) by simp]; exact eq_polI W _ _ _ _
        have j1 : (h == h') = false := beq_false_of_ne z
        have j2 : decide (h = h') = false := decide_eq_false z
        have j3 : ((h : Int) == (h' : Int)) = false := beq_false_of_ne (by omega)
        have j4 : decide ((h : Int) = (h' : Int)) = false := decide_eq_false (by omega)
        have hs : sameB ⟨k, p, n, g, c, a, s, r, ok, om, h, l⟩ ⟨k, p, n, g, c, a, s, r, ok, om, h', l⟩ = false := by simp [sameB, j1]
        have hs' := hide hs
        clear hs

        refine hK0 _ _ ?_
        go_wp2_with fail

        all_goals (go_ret; exact ⟨by rw [hs'.out]; rfl, HCC.out⟩)
      replace z := Classical.not_not.1 z
      subst z

      have hs' := hide (sameB_self ⟨k, p, n, g, c, a, s, r, ok, om, h, l⟩)
      have heqp : ∀ W, (Op.equalIn 10000 30 (.agg #[.int .u8 ok, .int .u8 om]) (.agg #[.int .u8 ok, .int .u8 om])).run Tryd.prog W = .ok true W := fun W => by rw [show true = ((ok : Int) == (ok : Int) && (om : Int) == (om : Int)) by simp]; exact eq_polI W _ _ _ _

      refine hK0 _ _ ?_
      go_wp2_with fail

      go_ret
      exact ⟨by rw [hs'.out]; rfl, HCC.out⟩
    · rw [decide_eq_false hll] at hsl
      generalize strB l = sx at hcv hsl
      generalize strB l' = sy at hcu hsl
      have hs : sameB ⟨k, p, n, g, c, a, s, r, ok, om, h, l⟩ ⟨k', p', n', g', c', a', s', r', ok', om', h', l'⟩ = false := by simp [sameB, hll]
      have hs' := hide hs
      clear hs hll

      refine hK0 _ _ ?_
      go_wp2_with fail

      all_goals (go_ret; exact ⟨by rw [hs'.out]; rfl, HCC.out⟩)
  have hS : KB W2.drew w.heap.size x (.slice A0 x.l.length c0) ∧ KB W2.drew (w.heap.size + 1) y (.slice A1 y.l.length c1) := ⟨HB.out.1.drew, HB.out.2.drew⟩
  refine wp_region_g [5, 5, 6, 6, 6, 6] [none, none, none, none, none, none] [[0, 1, 2, 3, 4, 5], [0, 1, 3, 2, 4, 5]] (fun W => KB W w.heap.size x (.slice A0 x.l.length c0) ∧ KB W (w.heap.size + 1) y (.slice A1 y.l.length c1)) (by kernel_rfl) (by kernel_rfl) (by kernel_rfl) (by kernel_rfl) (fun L hL => ?_)
  have HCD := hide (show Chg [] w W2.drew from HC.out.drew)
  have hSD := hide (show KB W2.drew w.heap.size x (.slice A0 x.l.length c0) ∧ KB W2.drew (w.heap.size + 1) y (.slice A1 y.l.length c1) from hS)
  clear hS
  generalize W2.drew = WD at HCD hSD ⊢
  have hS := hSD.out
  have hwd : w.heap.size + 1 < WD.heap.size := hS.2.lt
  simp only [List.mem_cons, List.mem_nil_iff, or_false] at hL
  rcases hL with rfl | rfl
  · simp only [picks, List.filterMap_cons, List.filterMap_nil, List.getElem?_cons_succ, List.getElem?_cons_zero]
    go_wp2_with (first | (refine wpG_hload 34 _ rfl rfl (fun w' hw' => KB.load hw'.1) hS ?_) | (refine wpG_hload 34 _ rfl rfl (fun w' hw' => KB.load hw'.2) hS ?_) | (refine wpG_calc rfl (fun K hK => ?_)) | (refine wpG_skip ?_ ?_; (focus (simp [wantG]; done)); go_simp) | (refine wpG_take ?_ ?_; (focus (simp [wantG]; done))) | (refine wpG_pure (fun K hK => ?_); go_simp; refine hK _ _ ?_; clear hK K) | (refine wpG_deed (by decide) (fun K hK => ?_); go_simp) | (refine wpG_nil ?_))
    (refine wpG_keeps hS (fun K hK => ?_))
    refine wp_alloc34 rfl ?_
    have hS1 : KB (WD.alloc (.cells (clc zCl zV) 34)) w.heap.size x (.slice A0 x.l.length c0) ∧ KB (WD.alloc (.cells (clc zCl zV) 34)) (w.heap.size + 1) y (.slice A1 y.l.length c1) := ⟨Blk.alloc hS.1 _, Blk.alloc hS.2 _⟩
    refine hK _ _ hS1 ?_
    clear hK K
    (refine wpG_keeps hS1 (fun K hK => ?_))
    refine wp_alloc34 rfl ?_
    rw [World.size_alloc]
    have hS2 : KB ((WD.alloc (.cells (clc zCl zV) 34)).alloc (.cells (clc zCl zV) 34)) w.heap.size x (.slice A0 x.l.length c0) ∧ KB ((WD.alloc (.cells (clc zCl zV) 34)).alloc (.cells (clc zCl zV) 34)) (w.heap.size + 1) y (.slice A1 y.l.length c1) := ⟨Blk.alloc hS1.1 _, Blk.alloc hS1.2 _⟩
    have hn1 : KB ((WD.alloc (.cells (clc zCl zV) 34)).alloc (.cells (clc zCl zV) 34)) WD.heap.size zCl zV := (Blk.new WD 34 _).alloc _
    have hn2 : KB ((WD.alloc (.cells (clc zCl zV) 34)).alloc (.cells (clc zCl zV) 34)) (WD.heap.size + 1) zCl zV := by
      have := Blk.new (WD.alloc (.cells (clc zCl zV) 34)) 34 (clc zCl zV)
      rwa [World.size_alloc] at this
    have hcN : Chg [] w ((WD.alloc (.cells (clc zCl zV) 34)).alloc (.cells (clc zCl zV) 34)) := (HCD.out.alloc _).alloc _
    refine hK _ _ hS2 ?_
    clear hK K hS1
    generalize (WD.alloc (.cells (clc zCl zV) 34)).alloc (.cells (clc zCl zV) 34) = WN at hS2 hn1 hn2 hcN ⊢
    go_simp
    (refine wpG_keeps hS2 (fun K hK => ?_))
    refine wp_store34 (b := WD.heap.size) (y := x) (u := .slice A0 x.l.length c0) _ _ rfl rfl rfl rfl hn1 ?_
    intro W5 h5 hc5
    have hS5 : KB W5 w.heap.size x (.slice A0 x.l.length c0) ∧ KB W5 (w.heap.size + 1) y (.slice A1 y.l.length c1) := ⟨Blk.chg hS2.1 hc5 (by simp only [List.mem_singleton]; omega), Blk.chg hS2.2 hc5 (by simp only [List.mem_singleton]; omega)⟩
    have h6 : KB W5 (WD.heap.size + 1) zCl zV := Blk.chg hn2 hc5 (by simp only [List.mem_singleton]; omega)
    have hc05 : Chg [] w W5 := hcN.trans hc5 (fun z hz => .inr (by obtain rfl := List.mem_singleton.1 hz; omega))
    refine hK _ _ hS5 ?_
    clear hK K hS2 hc5
    go_simp
    (refine wpG_keeps hS5 (fun K hK => ?_))
    refine wp_store34 (b := WD.heap.size + 1) (y := y) (u := .slice A1 y.l.length c1) _ _ rfl rfl rfl rfl h6 ?_
    intro W6 h7 hc6
    have hS6 : KB W6 w.heap.size x (.slice A0 x.l.length c0) ∧ KB W6 (w.heap.size + 1) y (.slice A1 y.l.length c1) := ⟨Blk.chg hS5.1 hc6 (by simp only [List.mem_singleton]; omega), Blk.chg hS5.2 hc6 (by simp only [List.mem_singleton]; omega)⟩
    have h5' : KB W6 (WD.heap.size) x (.slice A0 x.l.length c0) := Blk.chg h5 hc6 (by simp only [List.mem_singleton]; omega)
    have hc06 : Chg [] w W6 := hc05.trans hc6 (fun z hz => .inr (by obtain rfl := List.mem_singleton.1 hz; omega))
    refine hK _ _ hS6 ?_
    clear hK K
    go_simp
    refine wpG_nil ?_
    exact key _ _ _ h5' h7 hc06
  · simp only [picks, List.filterMap_cons, List.filterMap_nil, List.getElem?_cons_succ, List.getElem?_cons_zero]
    go_wp2_with (first | (refine wpG_hload 34 _ rfl rfl (fun w' hw' => KB.load hw'.1) hS ?_) | (refine wpG_hload 34 _ rfl rfl (fun w' hw' => KB.load hw'.2) hS ?_) | (refine wpG_calc rfl (fun K hK => ?_)) | (refine wpG_skip ?_ ?_; (focus (simp [wantG]; done)); go_simp) | (refine wpG_take ?_ ?_; (focus (simp [wantG]; done))) | (refine wpG_pure (fun K hK => ?_); go_simp; refine hK _ _ ?_; clear hK K) | (refine wpG_deed (by decide) (fun K hK => ?_); go_simp) | (refine wpG_nil ?_))
    (refine wpG_keeps hS (fun K hK => ?_))
    refine wp_alloc34 rfl ?_
    have hS1 : KB (WD.alloc (.cells (clc zCl zV) 34)) w.heap.size x (.slice A0 x.l.length c0) ∧ KB (WD.alloc (.cells (clc zCl zV) 34)) (w.heap.size + 1) y (.slice A1 y.l.length c1) := ⟨Blk.alloc hS.1 _, Blk.alloc hS.2 _⟩
    refine hK _ _ hS1 ?_
    clear hK K
    (refine wpG_keeps hS1 (fun K hK => ?_))
    refine wp_alloc34 rfl ?_
    rw [World.size_alloc]
    have hS2 : KB ((WD.alloc (.cells (clc zCl zV) 34)).alloc (.cells (clc zCl zV) 34)) w.heap.size x (.slice A0 x.l.length c0) ∧ KB ((WD.alloc (.cells (clc zCl zV) 34)).alloc (.cells (clc zCl zV) 34)) (w.heap.size + 1) y (.slice A1 y.l.length c1) := ⟨Blk.alloc hS1.1 _, Blk.alloc hS1.2 _⟩
    have hn1 : KB ((WD.alloc (.cells (clc zCl zV) 34)).alloc (.cells (clc zCl zV) 34)) WD.heap.size zCl zV := (Blk.new WD 34 _).alloc _
    have hn2 : KB ((WD.alloc (.cells (clc zCl zV) 34)).alloc (.cells (clc zCl zV) 34)) (WD.heap.size + 1) zCl zV := by
      have := Blk.new (WD.alloc (.cells (clc zCl zV) 34)) 34 (clc zCl zV)
      rwa [World.size_alloc] at this
    have hcN : Chg [] w ((WD.alloc (.cells (clc zCl zV) 34)).alloc (.cells (clc zCl zV) 34)) := (HCD.out.alloc _).alloc _
    refine hK _ _ hS2 ?_
    clear hK K hS1
    generalize (WD.alloc (.cells (clc zCl zV) 34)).alloc (.cells (clc zCl zV) 34) = WN at hS2 hn1 hn2 hcN ⊢
    go_simp
    (refine wpG_keeps hS2 (fun K hK => ?_))
    refine wp_store34 (b := WD.heap.size + 1) (y := x) (u := .slice A0 x.l.length c0) _ _ rfl rfl rfl rfl hn2 ?_
    intro W5 h5 hc5
    have hS5 : KB W5 w.heap.size x (.slice A0 x.l.length c0) ∧ KB W5 (w.heap.size + 1) y (.slice A1 y.l.length c1) := ⟨Blk.chg hS2.1 hc5 (by simp only [List.mem_singleton]; omega), Blk.chg hS2.2 hc5 (by simp only [List.mem_singleton]; omega)⟩
    have h6 : KB W5 (WD.heap.size) zCl zV := Blk.chg hn1 hc5 (by simp only [List.mem_singleton]; omega)
    have hc05 : Chg [] w W5 := hcN.trans hc5 (fun z hz => .inr (by obtain rfl := List.mem_singleton.1 hz; omega))
    refine hK _ _ hS5 ?_
    clear hK K hS2 hc5
    go_simp
    (refine wpG_keeps hS5 (fun K hK => ?_))
    refine wp_store34 (b := WD.heap.size) (y := y) (u := .slice A1 y.l.length c1) _ _ rfl rfl rfl rfl h6 ?_
    intro W6 h7 hc6
    have hS6 : KB W6 w.heap.size x (.slice A0 x.l.length c0) ∧ KB W6 (w.heap.size + 1) y (.slice A1 y.l.length c1) := ⟨Blk.chg hS5.1 hc6 (by simp only [List.mem_singleton]; omega), Blk.chg hS5.2 hc6 (by simp only [List.mem_singleton]; omega)⟩
    have h5' : KB W6 (WD.heap.size + 1) x (.slice A0 x.l.length c0) := Blk.chg h5 hc6 (by simp only [List.mem_singleton]; omega)
    have hc06 : Chg [] w W6 := hc05.trans hc6 (fun z hz => .inr (by obtain rfl := List.mem_singleton.1 hz; omega))
    refine hK _ _ hS6 ?_
    clear hK K
    go_simp
    refine wpG_nil ?_
    exact key _ _ _ h5' h7 hc06
end Go.Proofs.YtinlpjgjjplceaaDoor
