/- Policies: alike; a known one. -/
import Derived.Test.YtgehpdkhcjeldaaPoI
namespace Go.Proofs.Ytgehpdkhcjeldaa
open Go Go.RowKit

set_option maxHeartbeats 1000000 in
/-- the same numbers? -/
theorem alike18_any {w : World} {v u : Value} {l k : List Nat} (hl : RI w v l) (hk : RI w u k) (h1 : l.length ≤ 1000) (h2 : k.length ≤ 1000) :
    Calls Try.prog 27 #[v, u] w fun e w' => e = .returned (.bool (decide (l = k))) ∧ Chg [] w w' := by
  obtain ⟨A, c, rfl⟩ := RE.form hl
  obtain ⟨B, d, rfl⟩ := RE.form hk
  have HL := hide hl
  have HK := hide hk
  clear hl hk
  have l2 : (l.length : Int) ≤ 1000 := by omega
  have k2 : (k.length : Int) ≤ 1000 := by omega
  by_cases hlen : l.length = k.length
  · obtain ⟨r, hr⟩ : ∃ r, r = decide (l = k) := ⟨_, rfl⟩
    rw [← hr]
    have HR := hide hr
    clear hr
    have HLEN := hide hlen
    rw [← hlen] at HK k2 ⊢
    have HK' : Hid (RI w (.slice B l.length d) k) := HK
    clear hlen HK
    go_enter Try.func27, Try.ntmps27
    go_wp2_with fail
    go_loopw [13] (fun i wr => ∃ j : Nat, j ≤ l.length ∧ i = .int .i64 j ∧ Hid (l.take j = k.take j) ∧ Chg [] w wr) (fun i _ => l.length - (intOf i).toNat)
    case atStart => exact ⟨0, by omega, rfl, hide (by simp), Chg.refl _ _⟩
    case round =>
      obtain ⟨j, hj, rfl, HT, hch⟩ := hrel
      by_cases hjt : j < l.length
      · have hjk : j < k.length := by rw [← HLEN.out]; exact hjt
        obtain ⟨g, off, rfl⟩ := RE.addr HL.out (by omega)
        obtain ⟨g2, off2, rfl⟩ := RE.addr HK'.out (by omega)
        have q1 := SI.cell (RE.stay HL.out hch) hjt
        have q2 := SI.cell (RE.stay HK'.out hch) hjk
        have HT1 := hide (show l.take (j + 1) = l.take j ++ [l[j]] from List.take_succ_eq_append_getElem hjt)
        have HT2 := hide (show k.take (j + 1) = k.take j ++ [k[j]] from List.take_succ_eq_append_getElem hjk)
        have HNE := hide (show l[j] ≠ k[j] → r = false from fun hne => by
          rw [HR.out]
          exact decide_eq_false (fun e => hne (by subst e; rfl)))
        generalize l[j] = x at q1 HT1 HNE
        generalize k[j] = y at q2 HT2 HNE
        have j1 : (0 : Int) ≤ (j : Int) := by omega
        have j2 : (j : Int) < (l.length : Int) := by omega
        clear hjk
        by_cases hxy : x = y
        · subst hxy
          go_wp2_with fail
          refine wp_region_t [0, 0, 0, 1, 0, 0, 0, 1, 0] [none, none, none, none, none, none, none, none, none] (fun _ => True) (by kernel_rfl) (by kernel_rfl) (by kernel_rfl) ?_
          go_wp2_with (first | fail | (refine wpG_calc rfl (fun K hK => ?_)) | (refine wpG_skip ?_ ?_; (focus (simp [wantG]; done)); go_simp) | (refine wpG_take ?_ ?_; (focus (simp [wantG]; done))) | (refine wpG_pure (fun K hK => ?_); go_simp; refine hK _ _ ?_; clear hK K) | (refine wpG_deed (by decide) (fun K hK => ?_); go_simp) | (refine wpG_nil ?_))
          go_roundw
          case rel => exact ⟨j + 1, by omega, by go_num, hide (by rw [HT1.out, HT2.out, HT.out]), hch.drew⟩
          case measure => simp [intOf]; omega
        · obtain rfl : r = false := HNE.out hxy
          have d1 : (x == y) = false := beq_eq_false_iff_ne.2 hxy
          have d2 : (x != y) = true := by simp [bne, d1]
          have d3 : ((x : Int) != (y : Int)) = true := by simp; omega
          have d4 : ((x : Int) == (y : Int)) = false := by simp; omega
          clear HNE hxy
          go_wp2_with fail
          refine wp_region_t [0, 0, 0, 1, 0, 0, 0, 1, 0] [none, none, none, none, none, none, none, none, none] (fun _ => True) (by kernel_rfl) (by kernel_rfl) (by kernel_rfl) ?_
          go_wp2_with (first | fail | (refine wpG_calc rfl (fun K hK => ?_)) | (refine wpG_skip ?_ ?_; (focus (simp [wantG]; done)); go_simp) | (refine wpG_take ?_ ?_; (focus (simp [wantG]; done))) | (refine wpG_pure (fun K hK => ?_); go_simp; refine hK _ _ ?_; clear hK K) | (refine wpG_deed (by decide) (fun K hK => ?_); go_simp) | (refine wpG_nil ?_))
          go_ret
          exact ⟨rfl, hch.drew⟩
      · obtain rfl : j = l.length := by omega
        obtain rfl : r = true := by
          have := HT.out
          rw [List.take_length, List.take_of_length_le (by rw [HLEN.out]; exact Nat.le_refl _)] at this
          rw [HR.out, this]
          simp
        go_wp2_with fail
        go_ret
        exact ⟨rfl, hch⟩
  · have hr : decide (l = k) = false := decide_eq_false (fun e => hlen (by rw [e]))
    rw [hr]
    have d1 : (l.length == k.length) = false := beq_eq_false_iff_ne.2 hlen
    have d2 : (l.length != k.length) = true := by simp [bne, d1]
    have d3 : ((l.length : Int) != (k.length : Int)) = true := by simp; omega
    have d4 : ((l.length : Int) == (k.length : Int)) = false := by simp; omega
    clear hr hlen
    go_enter Try.func27, Try.ntmps27
    go_wp2_with fail
    go_ret
    exact ⟨rfl, Chg.refl _ _⟩
end Go.Proofs.Ytgehpdkhcjeldaa
