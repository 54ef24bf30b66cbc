/- Policies: which may be. -/
import Derived.Test.YtinlpjgjjplceaaDoorPoA
namespace Go.Proofs.YtinlpjgjjplceaaDoor
open Go Go.RowKit

def onesTo (m : Nat) : Nat → Nat
  | 0 => 0
  | k + 1 => onesTo m k + if hasZ m k then 1 else 0
set_option maxRecDepth 100000 in
theorem onesTo_all : ∀ m : Fin 256, onesTo m.1 8 = ones m.1 := by decide +kernel
set_option maxRecDepth 100000 in
theorem len8_all : ∀ m : Fin 256, ∀ n : Fin 9, (∀ k : Fin 8, hasZ m.1 (k.1 : Nat) = true → k.1 < n.1) ↔ len8 m.1 ≤ n.1 := by decide +kernel
theorem len8_iff {m n : Nat} (hm : m < 256) (hn : n ≤ 8) : len8 m ≤ n ↔ ∀ k : Nat, k < 8 → hasZ m k = true → k < n := by
  rw [← len8_all ⟨m, hm⟩ ⟨n, by omega⟩]
  exact ⟨fun h k hk => h ⟨k, hk⟩, fun h k => h k.1 k.2⟩
theorem onesTo_le (m : Nat) : ∀ k, onesTo m k ≤ k
  | 0 => Nat.le_refl _
  | k + 1 => by have := onesTo_le m k; unfold onesTo; split <;> omega
/-- a kind, and how many nodes its mask may have -/
def kindZ (kind o : Nat) : Bool := decide (kind = 0 ∧ o = 0 ∨ kind = 1 ∧ o = 1 ∨ (kind = 2 ∨ kind = 3) ∧ 0 < o)
noncomputable def polB (c : Cf) (kind m : Nat) : Bool := mayB c && (decide ((len8 m : Int) ≤ c 0) && kindZ kind (ones m))
theorem CB.stay_ {w w' : World} {b : Nat} {c : Cf} (h : CB w b c) (hc : Chg [] w w') : CB w' b c := Blk.chg h hc List.not_mem_nil
theorem load_u8 {w : World} {a : Addr} {x : Int} (h : w.cell? a = some (.int .u8 x)) : (loadVar 5 a).run Tryd.prog w = .ok (.int .u8 x) w := load_int Tryd.underlying5 h
set_option maxRecDepth 20000 in
set_option maxHeartbeats 4000000 in
theorem pmay_any (c : Cf) {kind m : Nat} (hk : kind < 256) (hm : m < 256) (w : World) : Calls Tryd.prog 36 #[.agg (cg c), .agg #[.int .u8 kind, .int .u8 m]] w fun e w' => e = .returned (.bool (polB c kind m)) ∧ Chg [] w w' := by
  have HB : Hid (CB ((w.alloc (.cells (cg c) 26)).alloc (.cells #[.int .u8 kind, .int .u8 m] 30)) w.heap.size c) := hide ((Blk.new w 26 (cg c)).alloc _)
  have HP : Hid (Blk ((w.alloc (.cells (cg c) 26)).alloc (.cells #[.int .u8 kind, .int .u8 m] 30)) (w.heap.size + 1) 30 #[.int .u8 kind, .int .u8 m]) := hide (by
    have := Blk.new (w.alloc (.cells (cg c) 26)) 30 #[.int .u8 kind, .int .u8 m]
    rwa [World.size_alloc] at this)
  have HC : Hid (Chg [] w ((w.alloc (.cells (cg c) 26)).alloc (.cells #[.int .u8 kind, .int .u8 m] 30))) := hide (((Chg.refl [] w).alloc _).alloc _)
  obtain ⟨r, hr⟩ : ∃ r, r = polB c kind m := ⟨_, rfl⟩
  rw [← hr]
  have HR := hide hr
  clear hr
  obtain ⟨x, hx⟩ : ∃ x, mayB c = x := ⟨_, rfl⟩
  have H18 := hide (fun W => May_any c W)
  rw [hx] at H18
  have HX := hide hx
  clear hx
  have H35 := hide (fun W => len8_any hm W)
  have H36 := hide (fun W => ones_any hm W)
  cases x with
  | false =>
    obtain rfl : r = false := by rw [HR.out, polB, HX.out]; rfl
    go_enter Tryd.func36, Tryd.ntmps36
    go_wp2_with (first | (refine wpList_box26 rfl _ rfl rfl ?_))
    have hS : CB ((w.alloc (.cells (cg c) 26)).alloc (.cells #[.int .u8 kind, .int .u8 m] 30)).drew w.heap.size c ∧ Blk ((w.alloc (.cells (cg c) 26)).alloc (.cells #[.int .u8 kind, .int .u8 m] 30)).drew (w.heap.size + 1) 30 #[.int .u8 kind, .int .u8 m] := ⟨HB.out, HP.out⟩
    have HCd := hide HC.out.drew
    refine wp_region_t [5, 6, 0, 0, 0, 5, 6, 0, 5, 0, 0] [none, none, none, none, some (9, false), some (9, false), some (9, false), some (9, false), some (9, false), some (9, false), none] (fun W => CB W w.heap.size c ∧ Blk W (w.heap.size + 1) 30 #[.int .u8 kind, .int .u8 m]) (by kernel_rfl) (by kernel_rfl) (by kernel_rfl) ?_
    go_wp2_with (first | (refine wpG_hload 26 _ rfl rfl (fun w' hw' => load26 hw'.1) hS ?_) | (refine wpG_calc rfl (fun K hK => ?_)) | (refine wpG_skip ?_ ?_; (focus (simp [wantG]; done)); go_simp) | (refine wpG_take ?_ ?_; (focus (simp [wantG]; done))) | (refine wpG_pure (fun K hK => ?_); go_simp; refine hK _ _ ?_; clear hK K) | (refine wpG_deed (by decide) (fun K hK => ?_); go_simp) | (refine wpG_nil ?_))
    (refine wpG_keeps hS (fun K hK => ?_))
    go_simp
    refine (H18.out _).mono ?_
    rintro e W2 ⟨rfl, hc2⟩
    have hS2 : CB W2 w.heap.size c ∧ Blk W2 (w.heap.size + 1) 30 #[.int .u8 kind, .int .u8 m] := ⟨CB.stay_ hS.1 hc2, hS.2.chg hc2 List.not_mem_nil⟩
    refine hK _ _ hS2 ?_
    clear hK K
    have HC2 := hide (HCd.out.stay hc2)
    clear hS hc2 HCd
    go_wp2_with (first | fail | (refine wpG_calc rfl (fun K hK => ?_)) | (refine wpG_skip ?_ ?_; (focus (simp [wantG]; done)); go_simp) | (refine wpG_take ?_ ?_; (focus (simp [wantG]; done))) | (refine wpG_pure (fun K hK => ?_); go_simp; refine hK _ _ ?_; clear hK K) | (refine wpG_deed (by decide) (fun K hK => ?_); go_simp) | (refine wpG_nil ?_))
    go_ret
    exact ⟨rfl, HC2.out⟩
  | true =>
    have hM := mayB_iff.1 HX.out
    obtain ⟨n, hn⟩ : ∃ n : Nat, c 0 = n := ⟨(c 0).toNat, by have := hM.n1; omega⟩
    have hn8 : n ≤ 8 := by have := hM.n8; omega
    have hl8 : len8 m ≤ 8 := by unfold len8; ((repeat' split) <;> omega)
    have HN := hide hn
    have hrr : r = (decide (len8 m ≤ n) && kindZ kind (ones m)) := by
      rw [HR.out, polB, HX.out, hn, Bool.true_and]
      congr 1
      simp
    have HRR := hide hrr
    clear hrr HR hM hn
    have ho8 : ones m ≤ 8 := by unfold ones; omega
    generalize len8 m = y at H35 HRR hl8
    generalize ones m = o at H36 HRR ho8
    have hk' : (kind : Int) < 256 := by omega
    go_enter Tryd.func36, Tryd.ntmps36
    go_wp2_with (first | (refine wpList_box26 rfl _ rfl rfl ?_))
    have hS : CB ((w.alloc (.cells (cg c) 26)).alloc (.cells #[.int .u8 kind, .int .u8 m] 30)).drew w.heap.size c ∧ Blk ((w.alloc (.cells (cg c) 26)).alloc (.cells #[.int .u8 kind, .int .u8 m] 30)).drew (w.heap.size + 1) 30 #[.int .u8 kind, .int .u8 m] := ⟨HB.out, HP.out⟩
    have HCd := hide HC.out.drew
    refine wp_region_t [5, 6, 0, 0, 0, 5, 6, 0, 5, 0, 0] [none, none, none, none, some (9, false), some (9, false), some (9, false), some (9, false), some (9, false), some (9, false), none] (fun W => CB W w.heap.size c ∧ Blk W (w.heap.size + 1) 30 #[.int .u8 kind, .int .u8 m]) (by kernel_rfl) (by kernel_rfl) (by kernel_rfl) ?_
    go_wp2_with (first | (refine wpG_hload 26 _ rfl rfl (fun w' hw' => load26 hw'.1) hS ?_) | (refine wpG_calc rfl (fun K hK => ?_)) | (refine wpG_skip ?_ ?_; (focus (simp [wantG]; done)); go_simp) | (refine wpG_take ?_ ?_; (focus (simp [wantG]; done))) | (refine wpG_pure (fun K hK => ?_); go_simp; refine hK _ _ ?_; clear hK K) | (refine wpG_deed (by decide) (fun K hK => ?_); go_simp) | (refine wpG_nil ?_))
    (refine wpG_keeps hS (fun K hK => ?_))
    go_simp
    refine (H18.out _).mono ?_
    rintro e W2 ⟨rfl, hc2⟩
    have hS2 : CB W2 w.heap.size c ∧ Blk W2 (w.heap.size + 1) 30 #[.int .u8 kind, .int .u8 m] := ⟨CB.stay_ hS.1 hc2, hS.2.chg hc2 List.not_mem_nil⟩
    refine hK _ _ hS2 ?_
    clear hK K
    have HC2 := hide (HCd.out.stay hc2)
    clear hS hc2 HCd
    go_wp2_with (first | (refine wpG_hload 5 _ rfl rfl (fun w' hw' => load_u8 (by simpa using Blk.cell hw'.2 1)) hS2 ?_; go_simp) | (refine wpG_calc rfl (fun K hK => ?_)) | (refine wpG_skip ?_ ?_; (focus (simp [wantG]; done)); go_simp) | (refine wpG_take ?_ ?_; (focus (simp [wantG]; done))) | (refine wpG_pure (fun K hK => ?_); go_simp; refine hK _ _ ?_; clear hK K) | (refine wpG_deed (by decide) (fun K hK => ?_); go_simp) | (refine wpG_nil ?_))
    (refine wpG_keeps hS2 (fun K hK => ?_))
    go_simp
    refine (H35.out _).mono ?_
    rintro e W3 ⟨rfl, rfl⟩
    refine hK _ _ hS2 ?_
    clear hK K
    have hld : ∀ w', (CB w' w.heap.size c ∧ Blk w' (w.heap.size + 1) 30 #[.int .u8 kind, .int .u8 m]) → (loadVar 3 ⟨w.heap.size, 0, none⟩).run Tryd.prog w' = .ok (.int .i64 n) w' := fun w' h => load_int Tryd.underlying3 (by rw [CB.get h.1 (by omega), HN.out])
    have p0 := hS2.2.cell 0
    have p1 := hS2.2.cell 1
    simp at p0 p1
    by_cases hy : y ≤ n
    · have y1 : decide ((n : Int) < (y : Int)) = false := decide_eq_false (by omega)
      have y2 : decide (n < y) = false := decide_eq_false (by omega)
      go_wp2_with (first | (refine wpG_hload 3 _ rfl rfl hld hS2 ?_; go_simp) | (refine wpG_calc rfl (fun K hK => ?_)) | (refine wpG_skip ?_ ?_; (focus (simp [wantG]; done)); go_simp) | (refine wpG_take ?_ ?_; (focus (simp [wantG]; done))) | (refine wpG_pure (fun K hK => ?_); go_simp; refine hK _ _ ?_; clear hK K) | (refine wpG_deed (by decide) (fun K hK => ?_); go_simp) | (refine wpG_nil ?_))
      refine (H36.out _).mono ?_
      rintro e W4 ⟨rfl, rfl⟩
      by_cases k0 : kind = 0
      · subst k0
        have hr : r = ((o : Int) == 0) := by rw [HRR.out, Bool.eq_iff_iff]; simp [kindZ]; omega
        subst hr
        clear HRR
        go_wp2_with fail
        go_ret
        exact ⟨rfl, HC2.out⟩
      have j0 : ((kind : Int) == 0) = false := by simp; omega
      have i0 : (kind == 0) = false := by simpa using k0
      by_cases k1 : kind = 1
      · subst k1
        have hr : r = ((o : Int) == 1) := by rw [HRR.out, Bool.eq_iff_iff]; simp [kindZ]; omega
        subst hr
        clear HRR
        go_wp2_with fail
        go_ret
        exact ⟨rfl, HC2.out⟩
      have j1 : ((kind : Int) == 1) = false := by simp; omega
      have i1 : (kind == 1) = false := by simpa using k1
      by_cases k2 : kind = 2
      · subst k2
        have hr : r = decide (0 < o) := by rw [HRR.out, Bool.eq_iff_iff]; simp [kindZ]; omega
        subst hr
        clear HRR
        go_wp2_with fail
        go_ret
        exact ⟨rfl, HC2.out⟩
      have j2 : ((kind : Int) == 2) = false := by simp; omega
      have i2 : (kind == 2) = false := by simpa using k2
      by_cases k3 : kind = 3
      · subst k3
        have hr : r = decide (0 < o) := by rw [HRR.out, Bool.eq_iff_iff]; simp [kindZ]; omega
        subst hr
        clear HRR
        go_wp2_with fail
        go_ret
        exact ⟨rfl, HC2.out⟩
      have j3 : ((kind : Int) == 3) = false := by simp; omega
      have i3 : (kind == 3) = false := by simpa using k3
      have hr : r = false := by rw [HRR.out, Bool.eq_false_iff]; simp [kindZ]; omega
      subst hr
      clear HRR
      go_wp2_with fail
      go_ret
      exact ⟨rfl, HC2.out⟩
    · have y1 : decide ((n : Int) < (y : Int)) = true := decide_eq_true (by omega)
      have y2 : decide (n < y) = true := decide_eq_true (by omega)
      obtain rfl : r = false := by rw [HRR.out, decide_eq_false hy]; rfl
      go_wp2_with (first | (refine wpG_hload 3 _ rfl rfl hld hS2 ?_; go_simp) | (refine wpG_calc rfl (fun K hK => ?_)) | (refine wpG_skip ?_ ?_; (focus (simp [wantG]; done)); go_simp) | (refine wpG_take ?_ ?_; (focus (simp [wantG]; done))) | (refine wpG_pure (fun K hK => ?_); go_simp; refine hK _ _ ?_; clear hK K) | (refine wpG_deed (by decide) (fun K hK => ?_); go_simp) | (refine wpG_nil ?_))
      go_ret
      exact ⟨rfl, HC2.out⟩
end Go.Proofs.YtinlpjgjjplceaaDoor
