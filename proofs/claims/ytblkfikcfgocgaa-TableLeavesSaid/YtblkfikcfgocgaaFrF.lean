/- New. -/
import Derived.Test.YtblkfikcfgocgaaFrE
namespace Go.Proofs.Ytblkfikcfgocgaa
open Go Go.RowKit

def fMk : Mk := ⟨1, 0, 0, 0, 0⟩
theorem run_make5 (w : World) {n : Nat} (hn : n ≤ 1000000) : ∃ cs, (Instr.makeSlice 27 (.int .i64 n) (.int .i64 n)).run Try.prog w = .ok (.slice (some ⟨w.heap.size, 0, none⟩) n n) (w.alloc (.cells cs 5)) ∧ SB (w.alloc (.cells cs 5)) (.slice (some ⟨w.heap.size, 0, none⟩) n n) (List.replicate n 0) := by
  obtain ⟨i, hi, hz, hi1, hi2⟩ := info_parts info5b
  have hr := run_makeSlice (P := Try.prog) w 27 5 i _ Try.underlying27 hi hz .i64 .i64 n n (by omega) (Int.le_refl _) (by rw [hi1]; omega) (by rw [hi2]; omega) (by omega)
  rw [hi1, Int.toNat_natCast] at hr
  refine ⟨_, hr, ?_⟩
  have hm := made_fc ucl_len (zc := #[.int .u8 0]) (z := 0) rfl n
  have := Sl.made w 5 1 (madeCells #[.int .u8 0] (n * 1)) n n (Nat.le_refl _) (by unfold maxLen; omega) (by rw [size_madeCells]; exact Nat.le_refl _)
  have e0 : (Value.int IntKind.u8 0).cells = #[.int .u8 0] := rfl
  rw [hm, List.take_of_length_le (by rw [fc_length ucl_len]; simp)] at this
  unfold SB SE
  rw [List.length_replicate]
  exact this
theorem wp_make {o : Oper} {a : Act} {w w' : World} {K : Act → World → Prop} {Q : Exit → Act → World → Prop} (t : TypeId) (x y : Operand) (ho : o.op = .makeSlice t x y) {u v r : Value} (hx : a.eval x = u) (hy : a.eval y = v)
    (hrun : (Instr.makeSlice t u v).run Try.prog w = .ok r w') (h : K (a.put o.dst r) w') : o.wp Try.prog a w K Q := by
  unfold Oper.wp execOp
  simp only [ho, hx, hy, Sem.run_bind, hrun, Sem.run_pure, Result.andThen_ok]
  exact h
/-- the memory's box, built -/
structure BM (c : Cf) (vb vm : Value) : Prop where
  h : Try.prog.built 79 [(0, .agg (cg c)), (1, vb), (2, vm)] = some (mg c vb vm)
theorem built_mem (c : Cf) (A : Option Addr) (x y : Nat) (A' : Option Addr) (x' y' : Nat) : BM c (.slice A x y) (.slice A' x' y') := ⟨by kernel_rfl⟩
theorem wpG_build79 {S : World → Prop} {Q : Exit → Act → World → Prop} {o : Oper} {rest : List Oper} {ks : List Nat} {gs : List (Option (Nat × Bool))} {a : Act} {w : World} (parts : Array (Nat × Operand)) (ho : o.op = .build 79 parts) {l : List (Nat × Value)} {cs : Array Value}
    (hl : (parts.map fun (i, x) => (i, a.eval x)).toList = l) (hb : Try.prog.built 79 l = some cs) (h : wpG Try.prog S Q rest ks gs (a.put o.dst (.agg cs)) w) : wpG Try.prog S Q (o :: rest) (0 :: ks) (none :: gs) a w := by
  subst hl
  refine wpG_pure (fun K hK => ⟨.agg cs, fun w' => ?_, hK _ _ h⟩)
  unfold execOp
  simp only [ho, Sem.run_bind, run_build w' 79 _ cs hb, Result.andThen_ok, Sem.run_pure]
/-- what New answers -/
def NewR (w : World) (c : Cf) (e : Ending) (w' : World) : Prop :=
  (mayB c = false ∧ e = .returned (.tuple #[.pointer none, .int .i64 2])) ∨
  (mayB c = true ∧ ∃ (a gb gm n : Nat), e = .returned (.tuple #[.pointer (some ⟨a, 0, none⟩), .int .i64 0]) ∧ (n : Int) = totV c ∧ FM w' a gb gm c n (List.replicate (n * 256) 0) (List.replicate n fMk) ∧ w.heap.size ≤ a ∧ w.heap.size ≤ gb ∧ w.heap.size ≤ gm)
theorem tot_le {c : Cf} (hM : MayP c) : 4 ≤ totV c ∧ totV c ≤ 1024 := by
  unfold totV
  rw [if_pos (mayB_true hM)]
  have h1 := hM.sum_le 8 (by omega)
  have h2 := hM.sum_mono (i := 1) 8 (by omega) (by omega)
  have h3 := hM.fr 0 (by omega) (by have := hM.n1; omega)
  rw [Nat.add_zero] at h3
  have h4 : sumF c 1 = c 18 := by simp [sumF]
  omega
set_option maxRecDepth 20000 in
set_option maxHeartbeats 8000000 in
theorem New_any (c : Cf) (w : World) : Calls Try.prog 11 #[.agg (cg c)] w fun e w' => NewR w c e w' ∧ Chg [] w w' := by
  have HB := hide (Blk.new w 26 (cg c))
  have HC := hide (show Chg [] w (w.alloc (.cells (cg c) 26)) from (Chg.refl [] w).alloc _)
  obtain ⟨x, hx⟩ : ∃ x, mayB c = x := ⟨_, rfl⟩
  have HMAY := hide (fun W => May_any c W)
  rw [hx] at HMAY
  have HX := hide hx
  clear hx
  cases x with
  | false =>
    go_enter Try.func11, Try.ntmps11
    go_wp2_with (first | (refine wpList_box26 rfl _ rfl rfl ?_) | (refine wpList_load26 HB.out rfl _ rfl rfl ?_))
    refine (HMAY.out _).mono ?_
    rintro e W2 ⟨rfl, hc2⟩
    go_wp2_with fail
    go_ret2
    exact ⟨.inl ⟨HX.out, rfl⟩, HC.out.stay hc2⟩
  | true =>
    have hM := mayB_iff.1 HX.out
    have HTOT := hide (fun W => Total_any c W)
    have ht := tot_le hM
    obtain ⟨n, hn⟩ : ∃ n : Nat, totV c = n := ⟨(totV c).toNat, by omega⟩
    rw [hn] at ht HTOT
    obtain ⟨t1, t2⟩ := ht
    have HN := hide hn
    have n1 : 1 ≤ n := by omega
    have n2 : n ≤ 1024 := by omega
    have HNM := hide (show ((n * 256 : Nat) : Int) = (n : Int) * 256 by push_cast; rfl)
    have HREP := hide (fun (b : Nat) W (h : RE mcl 5 W (.slice (some ⟨b, 0, none⟩) 1 1) [fMk]) => repeat_any h n1 n2)
    clear hM hn
    go_enter Try.func11, Try.ntmps11
    go_wp2_with (first | (refine wpList_box26 rfl _ rfl rfl ?_) | (refine wpList_load26 HB.out rfl _ rfl rfl ?_))
    refine (HMAY.out _).mono ?_
    rintro e W2 ⟨rfl, hc2⟩
    have HB2 := hide (show CB W2 w.heap.size c from HB.out.chg hc2 List.not_mem_nil)
    have HC2 := hide (HC.out.stay hc2)
    clear hc2 HB HC
    go_wp2_with (first | (refine wpList_load26 HB2.out rfl _ rfl rfl ?_))
    refine (HTOT.out _).mono ?_
    rintro e W3 ⟨rfl, hc3⟩
    have HB3 := hide (show CB W3 w.heap.size c from HB2.out.chg hc3 List.not_mem_nil)
    have HC3 := hide (HC2.out.stay hc3)
    clear hc3 HB2 HC2
    generalize w.heap.size = b at HB3 ⊢
    go_wp2_with fail
    refine wp_region_g [5, 0, 0, 6, 0, 6, 0, 6, 0, 6, 0, 0] (List.replicate 12 none) [[0, 1, 2, 3, 4, 5, 6, 7, 8, 9, 10, 11], [0, 1, 2, 4, 5, 3, 6, 7, 8, 9, 10, 11], [0, 1, 2, 4, 5, 6, 7, 3, 8, 9, 10, 11]] (fun W => Chg [] W3.drew W) (by kernel_rfl) (by kernel_rfl) (by kernel_rfl) (by kernel_rfl) (fun L hL => ?_)
    have hS0 : Chg [] W3.drew W3.drew := Chg.refl _ _
    have HBD := hide (show CB W3.drew b c from HB3.out)
    have HCD := hide (show Chg [] w W3.drew from HC3.out.drew)
    clear HB3 HC3
    generalize W3.drew = WD at hS0 HBD HCD ⊢
    simp only [List.mem_cons, List.mem_nil_iff, or_false] at hL
    rcases hL with rfl | rfl | rfl
    · simp only [picks, List.replicate, List.filterMap_cons, List.filterMap_nil, List.getElem?_cons_succ, List.getElem?_cons_zero]
      go_wp2_with (first | (refine wpG_hload 26 _ rfl rfl (fun w' hw' => load26 (show CB w' b c from Blk.chg HBD.out hw' List.not_mem_nil)) hS0 ?_) | (refine wpG_calc rfl (fun K hK => ?_)) | (refine wpG_skip ?_ ?_; (focus (simp [wantG]; done)); go_simp) | (refine wpG_take ?_ ?_; (focus (simp [wantG]; done))) | (refine wpG_pure (fun K hK => ?_); go_simp; refine hK _ _ ?_; clear hK K) | (refine wpG_deed (by decide) (fun K hK => ?_); go_simp) | (refine wpG_nil ?_))
      (refine wpG_keeps hS0 (fun K hK => ?_))
      obtain ⟨cs, hr, hsb⟩ := run_make5 WD (n := n * 256) (by omega)
      rw [HNM.out] at hr
      refine wp_make _ _ _ rfl rfl rfl hr ?_
      have hS4 : Chg [] WD (WD.alloc (.cells cs 5)) := hS0.alloc _
      refine hK _ _ hS4 ?_
      clear hK K hr
      have HSB := hide hsb
      clear hsb
      obtain ⟨gb, hgb⟩ : ∃ gb, gb = WD.heap.size := ⟨_, rfl⟩
      have HGB := hide (show w.heap.size ≤ gb from by rw [hgb]; exact Nat.le_trans HCD.out.size hS0.size)
      rw [← hgb] at HSB ⊢
      clear hgb
      generalize WD.alloc (.cells cs 5) = W4 at HSB hS4 ⊢
      go_wp2_with (first | (refine wpG_hload 26 _ rfl rfl (fun w' hw' => load26 (show CB w' b c from Blk.chg HBD.out hw' List.not_mem_nil)) hS0 ?_) | (refine wpG_calc rfl (fun K hK => ?_)) | (refine wpG_skip ?_ ?_; (focus (simp [wantG]; done)); go_simp) | (refine wpG_take ?_ ?_; (focus (simp [wantG]; done))) | (refine wpG_pure (fun K hK => ?_); go_simp; refine hK _ _ ?_; clear hK K) | (refine wpG_deed (by decide) (fun K hK => ?_); go_simp) | (refine wpG_nil ?_))
      (refine wpG_keeps hS4 (fun K hK => ?_))
      go_simp
      have hS5 : Chg [] WD (W4.alloc (.cells #[.int .u8 1, .int .i64 0, .int .i64 0, .int .i64 0, .int .i64 0] 43)) := hS4.alloc _
      refine hK _ _ hS5 ?_
      clear hK K
      have HONE := hide (show RE mcl 5 (W4.alloc (.cells #[.int .u8 1, .int .i64 0, .int .i64 0, .int .i64 0, .int .i64 0] 43)) (.slice (some ⟨W4.heap.size, 0, none⟩) 1 1) [fMk] from Rd_new W4 43 5 1 (mcl fMk) rfl)
      have HSB := hide (HSB.out.stay ((Chg.refl [] W4).alloc (.cells #[.int .u8 1, .int .i64 0, .int .i64 0, .int .i64 0, .int .i64 0] 43)))
      generalize W4.heap.size = b1 at HONE ⊢
      generalize W4.alloc (.cells #[.int .u8 1, .int .i64 0, .int .i64 0, .int .i64 0, .int .i64 0] 43) = W5 at HONE hS5 HSB ⊢
      go_wp2_with (first | fail | (refine wpG_calc rfl (fun K hK => ?_)) | (refine wpG_skip ?_ ?_; (focus (simp [wantG]; done)); go_simp) | (refine wpG_take ?_ ?_; (focus (simp [wantG]; done))) | (refine wpG_pure (fun K hK => ?_); go_simp; refine hK _ _ ?_; clear hK K) | (refine wpG_deed (by decide) (fun K hK => ?_); go_simp) | (refine wpG_nil ?_))
      (refine wpG_keeps hS5 (fun K hK => ?_))
      go_simp
      refine (HREP.out _ _ HONE.out).mono ?_
      rintro e W6 ⟨⟨gm, rfl, hgm, hsm⟩, hc6⟩
      have hS6 : Chg [] WD W6 := hS5.stay hc6
      refine hK _ _ hS6 ?_
      clear hK K
      have HGM := hide (show w.heap.size ≤ gm from Nat.le_trans (Nat.le_trans HCD.out.size hS5.size) hgm)
      have HSM := hide hsm
      have HSB := hide (HSB.out.stay hc6)
      clear hsm hgm hc6 HONE
      go_wp2_with (first | (refine wpG_build79 _ rfl ?_ (built_mem c (some ⟨gb, 0, none⟩) (n * 256) (n * 256) (some ⟨gm, 0, none⟩) n n).h ?_; (focus (simp [Act.eval]; done))) | (refine wpG_calc rfl (fun K hK => ?_)) | (refine wpG_skip ?_ ?_; (focus (simp [wantG]; done)); go_simp) | (refine wpG_take ?_ ?_; (focus (simp [wantG]; done))) | (refine wpG_pure (fun K hK => ?_); go_simp; refine hK _ _ ?_; clear hK K) | (refine wpG_deed (by decide) (fun K hK => ?_); go_simp) | (refine wpG_nil ?_))
      (refine wpG_keeps hS6 (fun K hK => ?_))
      go_simp
      refine hK _ _ (hS6.alloc _) ?_
      clear hK K
      have HF := hide (show FM (W6.alloc (.cells (mg c (.slice (some ⟨gb, 0, none⟩) (n * 256) (n * 256)) (.slice (some ⟨gm, 0, none⟩) n n)) 79)) W6.heap.size gb gm c n (List.replicate (n * 256) 0) (List.replicate n fMk) from
        ⟨⟨n * 256, n, Blk.new _ _ _, HSB.out.stay ((Chg.refl [] _).alloc _), HSM.out.stay ((Chg.refl [] _).alloc _)⟩, n1, n2, fun x hx => by obtain ⟨_, rfl⟩ := List.mem_replicate.1 hx; omega, mayB_iff.1 HX.out, HN.out⟩)
      have HZ := hide (show w.heap.size ≤ W6.heap.size from Nat.le_trans HCD.out.size hS6.size)
      have HCZ := hide ((HCD.out.stay hS6).alloc (.cells (mg c (.slice (some ⟨gb, 0, none⟩) (n * 256) (n * 256)) (.slice (some ⟨gm, 0, none⟩) n n)) 79))
      clear hS6
      go_wp2_with (first | fail | (refine wpG_calc rfl (fun K hK => ?_)) | (refine wpG_skip ?_ ?_; (focus (simp [wantG]; done)); go_simp) | (refine wpG_take ?_ ?_; (focus (simp [wantG]; done))) | (refine wpG_pure (fun K hK => ?_); go_simp; refine hK _ _ ?_; clear hK K) | (refine wpG_deed (by decide) (fun K hK => ?_); go_simp) | (refine wpG_nil ?_))
      go_ret2
      exact ⟨.inr ⟨HX.out, _, gb, gm, n, rfl, HN.out.symm, HF.out, HZ.out, HGB.out, HGM.out⟩, HCZ.out⟩
    · simp only [picks, List.replicate, List.filterMap_cons, List.filterMap_nil, List.getElem?_cons_succ, List.getElem?_cons_zero]
      go_wp2_with (first | (refine wpG_hload 26 _ rfl rfl (fun w' hw' => load26 (show CB w' b c from Blk.chg HBD.out hw' List.not_mem_nil)) hS0 ?_) | (refine wpG_calc rfl (fun K hK => ?_)) | (refine wpG_skip ?_ ?_; (focus (simp [wantG]; done)); go_simp) | (refine wpG_take ?_ ?_; (focus (simp [wantG]; done))) | (refine wpG_pure (fun K hK => ?_); go_simp; refine hK _ _ ?_; clear hK K) | (refine wpG_deed (by decide) (fun K hK => ?_); go_simp) | (refine wpG_nil ?_))
      (refine wpG_keeps hS0 (fun K hK => ?_))
      go_simp
      have hS4 : Chg [] WD (WD.alloc (.cells #[.int .u8 1, .int .i64 0, .int .i64 0, .int .i64 0, .int .i64 0] 43)) := hS0.alloc _
      refine hK _ _ hS4 ?_
      clear hK K
      have HONE := hide (show RE mcl 5 (WD.alloc (.cells #[.int .u8 1, .int .i64 0, .int .i64 0, .int .i64 0, .int .i64 0] 43)) (.slice (some ⟨WD.heap.size, 0, none⟩) 1 1) [fMk] from Rd_new WD 43 5 1 (mcl fMk) rfl)
      generalize WD.heap.size = b1 at HONE ⊢
      generalize WD.alloc (.cells #[.int .u8 1, .int .i64 0, .int .i64 0, .int .i64 0, .int .i64 0] 43) = W4 at HONE hS4 ⊢
      go_wp2_with (first | (refine wpG_hload 26 _ rfl rfl (fun w' hw' => load26 (show CB w' b c from Blk.chg HBD.out hw' List.not_mem_nil)) hS0 ?_) | (refine wpG_calc rfl (fun K hK => ?_)) | (refine wpG_skip ?_ ?_; (focus (simp [wantG]; done)); go_simp) | (refine wpG_take ?_ ?_; (focus (simp [wantG]; done))) | (refine wpG_pure (fun K hK => ?_); go_simp; refine hK _ _ ?_; clear hK K) | (refine wpG_deed (by decide) (fun K hK => ?_); go_simp) | (refine wpG_nil ?_))
      (refine wpG_keeps hS4 (fun K hK => ?_))
      obtain ⟨cs, hr, hsb⟩ := run_make5 W4 (n := n * 256) (by omega)
      rw [HNM.out] at hr
      refine wp_make _ _ _ rfl rfl rfl hr ?_
      have hS5 : Chg [] WD (W4.alloc (.cells cs 5)) := hS4.alloc _
      refine hK _ _ hS5 ?_
      clear hK K hr
      have HSB := hide hsb
      clear hsb
      obtain ⟨gb, hgb⟩ : ∃ gb, gb = W4.heap.size := ⟨_, rfl⟩
      have HGB := hide (show w.heap.size ≤ gb from by rw [hgb]; exact Nat.le_trans HCD.out.size hS4.size)
      rw [← hgb] at HSB ⊢
      clear hgb
      have HONE := hide (HONE.out.stay ((Chg.refl [] W4).alloc (.cells cs 5)))
      generalize W4.alloc (.cells cs 5) = W5 at HSB hS5 HONE ⊢
      go_wp2_with (first | fail | (refine wpG_calc rfl (fun K hK => ?_)) | (refine wpG_skip ?_ ?_; (focus (simp [wantG]; done)); go_simp) | (refine wpG_take ?_ ?_; (focus (simp [wantG]; done))) | (refine wpG_pure (fun K hK => ?_); go_simp; refine hK _ _ ?_; clear hK K) | (refine wpG_deed (by decide) (fun K hK => ?_); go_simp) | (refine wpG_nil ?_))
      (refine wpG_keeps hS5 (fun K hK => ?_))
      go_simp
      refine (HREP.out _ _ HONE.out).mono ?_
      rintro e W6 ⟨⟨gm, rfl, hgm, hsm⟩, hc6⟩
      have hS6 : Chg [] WD W6 := hS5.stay hc6
      refine hK _ _ hS6 ?_
      clear hK K
      have HGM := hide (show w.heap.size ≤ gm from Nat.le_trans (Nat.le_trans HCD.out.size hS5.size) hgm)
      have HSM := hide hsm
      have HSB := hide (HSB.out.stay hc6)
      clear hsm hgm hc6 HONE
      go_wp2_with (first | (refine wpG_build79 _ rfl ?_ (built_mem c (some ⟨gb, 0, none⟩) (n * 256) (n * 256) (some ⟨gm, 0, none⟩) n n).h ?_; (focus (simp [Act.eval]; done))) | (refine wpG_calc rfl (fun K hK => ?_)) | (refine wpG_skip ?_ ?_; (focus (simp [wantG]; done)); go_simp) | (refine wpG_take ?_ ?_; (focus (simp [wantG]; done))) | (refine wpG_pure (fun K hK => ?_); go_simp; refine hK _ _ ?_; clear hK K) | (refine wpG_deed (by decide) (fun K hK => ?_); go_simp) | (refine wpG_nil ?_))
      (refine wpG_keeps hS6 (fun K hK => ?_))
      go_simp
      refine hK _ _ (hS6.alloc _) ?_
      clear hK K
      have HF := hide (show FM (W6.alloc (.cells (mg c (.slice (some ⟨gb, 0, none⟩) (n * 256) (n * 256)) (.slice (some ⟨gm, 0, none⟩) n n)) 79)) W6.heap.size gb gm c n (List.replicate (n * 256) 0) (List.replicate n fMk) from
        ⟨⟨n * 256, n, Blk.new _ _ _, HSB.out.stay ((Chg.refl [] _).alloc _), HSM.out.stay ((Chg.refl [] _).alloc _)⟩, n1, n2, fun x hx => by obtain ⟨_, rfl⟩ := List.mem_replicate.1 hx; omega, mayB_iff.1 HX.out, HN.out⟩)
      have HZ := hide (show w.heap.size ≤ W6.heap.size from Nat.le_trans HCD.out.size hS6.size)
      have HCZ := hide ((HCD.out.stay hS6).alloc (.cells (mg c (.slice (some ⟨gb, 0, none⟩) (n * 256) (n * 256)) (.slice (some ⟨gm, 0, none⟩) n n)) 79))
      clear hS6
      go_wp2_with (first | fail | (refine wpG_calc rfl (fun K hK => ?_)) | (refine wpG_skip ?_ ?_; (focus (simp [wantG]; done)); go_simp) | (refine wpG_take ?_ ?_; (focus (simp [wantG]; done))) | (refine wpG_pure (fun K hK => ?_); go_simp; refine hK _ _ ?_; clear hK K) | (refine wpG_deed (by decide) (fun K hK => ?_); go_simp) | (refine wpG_nil ?_))
      go_ret2
      exact ⟨.inr ⟨HX.out, _, gb, gm, n, rfl, HN.out.symm, HF.out, HZ.out, HGB.out, HGM.out⟩, HCZ.out⟩
    · simp only [picks, List.replicate, List.filterMap_cons, List.filterMap_nil, List.getElem?_cons_succ, List.getElem?_cons_zero]
      go_wp2_with (first | (refine wpG_hload 26 _ rfl rfl (fun w' hw' => load26 (show CB w' b c from Blk.chg HBD.out hw' List.not_mem_nil)) hS0 ?_) | (refine wpG_calc rfl (fun K hK => ?_)) | (refine wpG_skip ?_ ?_; (focus (simp [wantG]; done)); go_simp) | (refine wpG_take ?_ ?_; (focus (simp [wantG]; done))) | (refine wpG_pure (fun K hK => ?_); go_simp; refine hK _ _ ?_; clear hK K) | (refine wpG_deed (by decide) (fun K hK => ?_); go_simp) | (refine wpG_nil ?_))
      (refine wpG_keeps hS0 (fun K hK => ?_))
      go_simp
      have hS4 : Chg [] WD (WD.alloc (.cells #[.int .u8 1, .int .i64 0, .int .i64 0, .int .i64 0, .int .i64 0] 43)) := hS0.alloc _
      refine hK _ _ hS4 ?_
      clear hK K
      have HONE := hide (show RE mcl 5 (WD.alloc (.cells #[.int .u8 1, .int .i64 0, .int .i64 0, .int .i64 0, .int .i64 0] 43)) (.slice (some ⟨WD.heap.size, 0, none⟩) 1 1) [fMk] from Rd_new WD 43 5 1 (mcl fMk) rfl)
      generalize WD.heap.size = b1 at HONE ⊢
      generalize WD.alloc (.cells #[.int .u8 1, .int .i64 0, .int .i64 0, .int .i64 0, .int .i64 0] 43) = W4 at HONE hS4 ⊢
      go_wp2_with (first | fail | (refine wpG_calc rfl (fun K hK => ?_)) | (refine wpG_skip ?_ ?_; (focus (simp [wantG]; done)); go_simp) | (refine wpG_take ?_ ?_; (focus (simp [wantG]; done))) | (refine wpG_pure (fun K hK => ?_); go_simp; refine hK _ _ ?_; clear hK K) | (refine wpG_deed (by decide) (fun K hK => ?_); go_simp) | (refine wpG_nil ?_))
      (refine wpG_keeps hS4 (fun K hK => ?_))
      go_simp
      refine (HREP.out _ _ HONE.out).mono ?_
      rintro e W5 ⟨⟨gm, rfl, hgm, hsm⟩, hc6⟩
      have hS5 : Chg [] WD W5 := hS4.stay hc6
      refine hK _ _ hS5 ?_
      clear hK K
      have HGM := hide (show w.heap.size ≤ gm from Nat.le_trans (Nat.le_trans HCD.out.size hS4.size) hgm)
      have HSM := hide hsm
      clear hsm hgm hc6 HONE
      go_wp2_with (first | (refine wpG_hload 26 _ rfl rfl (fun w' hw' => load26 (show CB w' b c from Blk.chg HBD.out hw' List.not_mem_nil)) hS0 ?_) | (refine wpG_calc rfl (fun K hK => ?_)) | (refine wpG_skip ?_ ?_; (focus (simp [wantG]; done)); go_simp) | (refine wpG_take ?_ ?_; (focus (simp [wantG]; done))) | (refine wpG_pure (fun K hK => ?_); go_simp; refine hK _ _ ?_; clear hK K) | (refine wpG_deed (by decide) (fun K hK => ?_); go_simp) | (refine wpG_nil ?_))
      (refine wpG_keeps hS5 (fun K hK => ?_))
      obtain ⟨cs, hr, hsb⟩ := run_make5 W5 (n := n * 256) (by omega)
      rw [HNM.out] at hr
      refine wp_make _ _ _ rfl rfl rfl hr ?_
      have hS6 : Chg [] WD (W5.alloc (.cells cs 5)) := hS5.alloc _
      refine hK _ _ hS6 ?_
      clear hK K hr
      have HSB := hide hsb
      clear hsb
      obtain ⟨gb, hgb⟩ : ∃ gb, gb = W5.heap.size := ⟨_, rfl⟩
      have HGB := hide (show w.heap.size ≤ gb from by rw [hgb]; exact Nat.le_trans HCD.out.size hS5.size)
      rw [← hgb] at HSB ⊢
      clear hgb
      have HSM := hide (HSM.out.stay ((Chg.refl [] W5).alloc (.cells cs 5)))
      generalize W5.alloc (.cells cs 5) = W6 at HSB hS6 HSM ⊢
      go_wp2_with (first | (refine wpG_build79 _ rfl ?_ (built_mem c (some ⟨gb, 0, none⟩) (n * 256) (n * 256) (some ⟨gm, 0, none⟩) n n).h ?_; (focus (simp [Act.eval]; done))) | (refine wpG_calc rfl (fun K hK => ?_)) | (refine wpG_skip ?_ ?_; (focus (simp [wantG]; done)); go_simp) | (refine wpG_take ?_ ?_; (focus (simp [wantG]; done))) | (refine wpG_pure (fun K hK => ?_); go_simp; refine hK _ _ ?_; clear hK K) | (refine wpG_deed (by decide) (fun K hK => ?_); go_simp) | (refine wpG_nil ?_))
      (refine wpG_keeps hS6 (fun K hK => ?_))
      go_simp
      refine hK _ _ (hS6.alloc _) ?_
      clear hK K
      have HF := hide (show FM (W6.alloc (.cells (mg c (.slice (some ⟨gb, 0, none⟩) (n * 256) (n * 256)) (.slice (some ⟨gm, 0, none⟩) n n)) 79)) W6.heap.size gb gm c n (List.replicate (n * 256) 0) (List.replicate n fMk) from
        ⟨⟨n * 256, n, Blk.new _ _ _, HSB.out.stay ((Chg.refl [] _).alloc _), HSM.out.stay ((Chg.refl [] _).alloc _)⟩, n1, n2, fun x hx => by obtain ⟨_, rfl⟩ := List.mem_replicate.1 hx; omega, mayB_iff.1 HX.out, HN.out⟩)
      have HZ := hide (show w.heap.size ≤ W6.heap.size from Nat.le_trans HCD.out.size hS6.size)
      have HCZ := hide ((HCD.out.stay hS6).alloc (.cells (mg c (.slice (some ⟨gb, 0, none⟩) (n * 256) (n * 256)) (.slice (some ⟨gm, 0, none⟩) n n)) 79))
      clear hS6
      go_wp2_with (first | fail | (refine wpG_calc rfl (fun K hK => ?_)) | (refine wpG_skip ?_ ?_; (focus (simp [wantG]; done)); go_simp) | (refine wpG_take ?_ ?_; (focus (simp [wantG]; done))) | (refine wpG_pure (fun K hK => ?_); go_simp; refine hK _ _ ?_; clear hK K) | (refine wpG_deed (by decide) (fun K hK => ?_); go_simp) | (refine wpG_nil ?_))
      go_ret2
      exact ⟨.inr ⟨HX.out, _, gb, gm, n, rfl, HN.out.symm, HF.out, HZ.out, HGB.out, HGM.out⟩, HCZ.out⟩
end Go.Proofs.Ytblkfikcfgocgaa
