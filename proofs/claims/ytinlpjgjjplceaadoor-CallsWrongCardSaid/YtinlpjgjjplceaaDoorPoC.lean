/- Policies: the document's May. -/
import Derived.Test.YtinlpjgjjplceaaDoorPoB
import Derived.Test.YtinlpjgjjplceaaDoorCfH
namespace Go.Proofs.YtinlpjgjjplceaaDoor
open Go Go.RowKit

set_option maxRecDepth 20000 in
set_option maxHeartbeats 4000000 in
theorem rpmay_any (c : Cf) {kind m : Nat} (hk : kind < 256) (hm : m < 256) (w : World) : Calls Tryd.prog 40 #[.agg (cg c), .agg #[.int .u8 kind, .int .u8 m]] w fun e w' => e = .returned (.bool (polB c kind m)) ∧ Chg [] w w' := by
  have HB : Hid (CB ((w.alloc (.cells (cg c) 26)).alloc (.cells #[.int .u8 kind, .int .u8 m] 30)) w.heap.size c) := hide ((Blk.new w 26 (cg c)).alloc _)
  have HP : Hid (Blk ((w.alloc (.cells (cg c) 26)).alloc (.cells #[.int .u8 kind, .int .u8 m] 30)) (w.heap.size + 1) 30 #[.int .u8 kind, .int .u8 m]) := hide (by
    have := Blk.new (w.alloc (.cells (cg c) 26)) 30 #[.int .u8 kind, .int .u8 m]
    rwa [World.size_alloc] at this)
  have HC : Hid (Chg [] w ((w.alloc (.cells (cg c) 26)).alloc (.cells #[.int .u8 kind, .int .u8 m] 30))) := hide (((Chg.refl [] w).alloc _).alloc _)
  obtain ⟨r, hr⟩ : ∃ r, r = polB c kind m := ⟨_, rfl⟩
  rw [← hr]
  have HR := hide hr
  clear hr
  obtain ⟨x, hx⟩ : ∃ x, mayB c = x := ⟨_, rfl⟩
  have H14 := hide (fun W => rMay_any c W)
  rw [hx] at H14
  have HX := hide hx
  clear hx
  cases x with
  | false =>
    obtain rfl : r = false := by rw [HR.out, polB, HX.out]; rfl
    go_enter Tryd.func40, Tryd.ntmps40
    go_wp2_with (first | (refine wpList_box26 rfl _ rfl rfl ?_) | (refine wpList_load26L (b := w.heap.size) (c := c) rfl _ rfl rfl ?_ ?_; (focus exact HB.out)))
    refine (H14.out _).mono ?_
    rintro e W2 ⟨rfl, hc2⟩
    go_wp2_with fail
    go_ret
    exact ⟨rfl, HC.out.stay hc2⟩
  | true =>
    have hM := mayB_iff.1 HX.out
    obtain ⟨n, hn⟩ : ∃ n : Nat, c 0 = n := ⟨(c 0).toNat, by have := hM.n1; omega⟩
    have hn8 : n ≤ 8 := by have := hM.n8; omega
    have HN := hide hn
    have hrr : r = (decide (len8 m ≤ n) && kindZ kind (ones m)) := by
      rw [HR.out, polB, HX.out, hn, Bool.true_and]
      congr 1
      simp
    have HRR := hide hrr
    have HLI := hide (len8_iff hm hn8)
    have HON := hide (show onesTo m 8 = ones m from onesTo_all ⟨m, hm⟩)
    have HHAS := hide (fun W (k : Nat) => rhas_any hm (k : Int) W)
    clear hrr HR hM hn
    have hk' : (kind : Int) < 256 := by omega
    go_enter Tryd.func40, Tryd.ntmps40
    go_wp2_with (first | (refine wpList_box26 rfl _ rfl rfl ?_) | (refine wpList_load26L (b := w.heap.size) (c := c) rfl _ rfl rfl ?_ ?_; (focus exact HB.out)))
    refine (H14.out _).mono ?_
    rintro e W2 ⟨rfl, hc2⟩
    have hb2 : CB W2 w.heap.size c := CB.stay_ HB.out hc2
    have HP2 := HP.out.chg hc2 List.not_mem_nil
    have HCr := hide (HC.out.stay hc2)
    have g0 := CB.get hb2 (i := 0) (by omega)
    rw [HN.out] at g0
    have p0 := HP2.cell 0
    have p1 := HP2.cell 1
    simp at p0 p1
    have hbl := hb2.lt
    have hpl := HP2.lt
    clear hb2 HP2 hc2 HB HP HC
    go_wp2_with fail
    go_loopw [5, 6] (fun s i wr => wr = W2 ∧ ∃ k : Nat, k ≤ 8 ∧ s = .int .i64 (onesTo m k : Nat) ∧ i = .int .i64 k ∧ Hid (∀ j : Nat, j < k → hasZ m j = true → j < n)) (fun _ i _ => 8 - (intOf i).toNat)
    case atStart => exact ⟨rfl, 0, by omega, rfl, rfl, hide (fun j hj => by omega)⟩
    case round =>
      obtain ⟨rfl, k, hk8, rfl, rfl, HJ⟩ := hrel
      by_cases hkt : k < 8
      · have k1 : (0 : Int) ≤ (k : Int) := by omega
        have k2 : (k : Int) < 8 := by omega
        have ol := onesTo_le m k
        have ol2 : (onesTo m k : Int) ≤ 8 := by omega
        have hstep : onesTo m (k + 1) = onesTo m k + if hasZ m k then 1 else 0 := rfl
        have HST := hide hstep
        clear hstep
        go_wp2_with fail
        refine (HHAS.out _ k).mono ?_
        rintro e W3 ⟨rfl, rfl⟩
        cases hh : hasZ m k with
        | false =>
          have HH := hide hh
          clear hh
          go_wp2_with fail
          go_roundw
          case rel => exact ⟨trivial, k + 1, by omega, by rw [HST.out, HH.out]; simp, by go_num, hide (fun j hj hz => by
            by_cases e : j = k
            · subst e; rw [HH.out] at hz; cases hz
            · exact HJ.out j (by omega) hz)⟩
          case measure => simp [intOf]; omega
        | true =>
          have HH := hide hh
          clear hh
          by_cases hkn : k < n
          · have d1 : decide ((n : Int) ≤ (k : Int)) = false := decide_eq_false (by omega)
            have d2 : decide (n ≤ k) = false := decide_eq_false (by omega)
            go_wp2_with fail
            go_roundw
            case rel => exact ⟨trivial, k + 1, by omega, by rw [HST.out, HH.out]; simp, by go_num, hide (fun j hj hz => by
              by_cases e : j = k
              · subst e; exact hkn
              · exact HJ.out j (by omega) hz)⟩
            case measure => simp [intOf]; omega
          · have d1 : decide ((n : Int) ≤ (k : Int)) = true := decide_eq_true (by omega)
            have d2 : decide (n ≤ k) = true := decide_eq_true (by omega)
            obtain rfl : r = false := by rw [HRR.out, decide_eq_false (fun h => hkn (HLI.out.1 h k hkt HH.out))]; rfl
            go_wp2_with fail
            go_ret
            exact ⟨rfl, HCr.out⟩
      · obtain rfl : k = 8 := by omega
        have hle : len8 m ≤ n := HLI.out.2 HJ.out
        have hrr : r = (true && kindZ kind (ones m)) := by rw [HRR.out, decide_eq_true hle]
        clear HRR
        rw [← HON.out] at hrr
        have ho8 := onesTo_le m 8
        generalize onesTo m 8 = o at hrr ho8 ⊢
        have HRR := hide hrr
        clear hrr hle
        by_cases k0 : kind = 0
        · subst k0
          have hr : r = ((o : Int) == 0) := by rw [HRR.out, Bool.eq_iff_iff]; simp [kindZ] <;> omega
          subst hr
          clear HRR
          go_wp2_with fail
          go_ret
          exact ⟨rfl, HCr.out⟩
        have j0 : ((kind : Int) == 0) = false := by simp; omega
        have i0 : (kind == 0) = false := by simpa using k0
        by_cases k1 : kind = 1
        · subst k1
          have hr : r = ((o : Int) == 1) := by rw [HRR.out, Bool.eq_iff_iff]; simp [kindZ] <;> omega
          subst hr
          clear HRR
          go_wp2_with fail
          go_ret
          exact ⟨rfl, HCr.out⟩
        have j1 : ((kind : Int) == 1) = false := by simp; omega
        have i1 : (kind == 1) = false := by simpa using k1
        by_cases k2 : kind = 2
        · subst k2
          have hr : r = decide (0 < o) := by rw [HRR.out, Bool.eq_iff_iff]; simp [kindZ] <;> omega
          subst hr
          clear HRR
          go_wp2_with fail
          go_ret
          exact ⟨rfl, HCr.out⟩
        have j2 : ((kind : Int) == 2) = false := by simp; omega
        have i2 : (kind == 2) = false := by simpa using k2
        by_cases k3 : kind = 3
        · subst k3
          have hr : r = decide (0 < o) := by rw [HRR.out, Bool.eq_iff_iff]; simp [kindZ] <;> omega
          subst hr
          clear HRR
          go_wp2_with fail
          go_ret
          exact ⟨rfl, HCr.out⟩
        have j3 : ((kind : Int) == 3) = false := by simp; omega
        have i3 : (kind == 3) = false := by simpa using k3
        have hr : r = false := by rw [HRR.out, Bool.eq_false_iff]; simp [kindZ] <;> omega
        subst hr
        clear HRR
        go_wp2_with fail
        go_ret
        exact ⟨rfl, HCr.out⟩
end Go.Proofs.YtinlpjgjjplceaaDoor
