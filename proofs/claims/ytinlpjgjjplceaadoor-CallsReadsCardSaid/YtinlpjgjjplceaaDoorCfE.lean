/- config's May: near. -/
import Derived.Test.YtinlpjgjjplceaaDoorCfD
namespace Go.Proofs.YtinlpjgjjplceaaDoor
open Go Go.RowKit

def PairP (c : Cf) (i k : Nat) : Prop := (c (26 + i * 8 + k) = 0 ↔ i = k) ∧ (0 ≤ c (26 + i * 8 + k) ∧ c (26 + i * 8 + k) ≤ 255) ∧ c (26 + i * 8 + k) = c (26 + k * 8 + i)
def NearP (c : Cf) : Prop := ∀ i k : Nat, (i : Int) < c 0 → (k : Int) < c 0 → PairP c i k
set_option maxHeartbeats 4000000 in
theorem near_any {c : Cf} (w : World) (hn : 1 ≤ c 0 ∧ c 0 ≤ 8) : Calls Tryd.prog 54 #[.agg (cg c)] w fun e w' => ∃ r : Bool, e = .returned (.bool r) ∧ (r = true ↔ NearP c) ∧ Chg [] w w' := by
  obtain ⟨n1, n2⟩ := hn
  obtain ⟨n, hn⟩ : ∃ n : Nat, c 0 = n := ⟨(c 0).toNat, by omega⟩
  have hb := Blk.new w 26 (cg c)
  have q0 := CB.get hb (i := 0) (by omega)
  rw [hn] at q0 n1 n2
  have h00 := cg_get c (i := 0) (by omega)
  rw [hn] at h00
  have HB := hide hb
  have HN := hide hn
  have n2' : n ≤ 8 := by omega
  clear hb hn
  go_enter Tryd.func54, Tryd.ntmps54
  go_wp2_with (first | (refine wpList_box26 rfl _ rfl rfl ?_))
  have hbl : w.heap.size < (w.alloc (.cells (cg c) 26)).heap.size := by simp
  have HC := hide (show Chg [] w (w.alloc (.cells (cg c) 26)) from (Chg.refl [] w).alloc _)
  generalize w.alloc (.cells (cg c) 26) = W at q0 HB hbl HC ⊢
  generalize w.heap.size = b at q0 HB hbl ⊢
  go_loopw [8] (fun i wr => wr = W ∧ ∃ k : Nat, k ≤ n ∧ i = .int .i64 k ∧ Hid (∀ i j : Nat, i < k → j < n → PairP c i j)) (fun i _ => n - (intOf i).toNat)
  case atStart => exact ⟨rfl, 0, by omega, rfl, hide (fun i j hi => by omega)⟩
  case round =>
    obtain ⟨rfl, k, hk, rfl, HI⟩ := hrel
    by_cases hkt : k < n
    · have kk1 : (0 : Int) ≤ (k : Int) := by omega
      have kk2 : (k : Int) < 8 := by omega
      have kk3 : (k : Int) < (n : Int) := by omega
      go_wp2_with fail
      go_loopw [13] (fun i wr' => wr' = wr ∧ ∃ j : Nat, j ≤ n ∧ i = .int .i64 j ∧ Hid (∀ i : Nat, i < j → PairP c k i)) (fun i _ => n - (intOf i).toNat)
      case atStart => exact ⟨rfl, 0, by omega, rfl, hide (fun i hi => by omega)⟩
      case round =>
        obtain ⟨rfl, j, hj, rfl, HJ⟩ := hrel
        by_cases hjt : j < n
        · have jj1 : (0 : Int) ≤ (j : Int) := by omega
          have jj2 : (j : Int) < 8 := by omega
          have jj3 : (j : Int) < (n : Int) := by omega
          have d1 := CB.get HB.out (i := 26 + k * 8 + j) (by omega)
          have d2 := CB.get HB.out (i := 26 + j * 8 + k) (by omega)
          obtain ⟨x, hx⟩ : ∃ x, c (26 + k * 8 + j) = x := ⟨_, rfl⟩
          obtain ⟨y, hy⟩ : ∃ y, c (26 + j * 8 + k) = y := ⟨_, rfl⟩
          rw [hx] at d1
          rw [hy] at d2
          have hP : Hid (PairP c k j ↔ ((x = 0 ↔ k = j) ∧ (0 ≤ x ∧ x ≤ 255) ∧ x = y)) := hide (by unfold PairP; rw [hx, hy])
          have Hjn := hide hjt
          have Hkn := hide hkt
          have hno : ¬ ((x = 0 ↔ k = j) ∧ (0 ≤ x ∧ x ≤ 255) ∧ x = y) → (false = true ↔ NearP c) := fun h => by
            refine ⟨fun h => (by cases h), fun hN => absurd (hP.out.1 (hN k j ?_ ?_)) h⟩
            · rw [HN.out]; exact Int.ofNat_lt.2 Hkn.out
            · rw [HN.out]; exact Int.ofNat_lt.2 Hjn.out
          have HNO := hide hno
          clear hx hy hno
          obtain ⟨u, hu⟩ : ∃ u, (x == 0) = u := ⟨_, rfl⟩
          obtain ⟨v, hv⟩ : ∃ v, ((k : Int) == (j : Int)) = v := ⟨_, rfl⟩
          have hv' : (k == j) = v := by rw [← hv, Bool.eq_iff_iff]; simp; omega
          have HU : Hid (x = 0 ↔ u = true) := hide (by rw [← hu]; simp)
          have HV : Hid (k = j ↔ v = true) := hide (by rw [← hv']; simp)
          by_cases huv : u = v
          · subst huv
            by_cases hw : 0 ≤ x ∧ x ≤ 255
            · have hw1 : decide (0 ≤ x ∧ x ≤ 255) = true := decide_eq_true hw
              have HW := hide hw
              clear hw
              by_cases hxy : x = y
              · have hxy' : (x != y) = false := by simpa using hxy
                have HXY := hide hxy
                clear hxy
                go_wp2_with (first | ((go_at_call 52; refine (within_any _ _ _ _).mono ?_; rintro e W7 ⟨rfl, rfl⟩)))
                go_roundw
                case rel => exact ⟨trivial, j + 1, by omega, by go_num, hide (fun i hi => by
                  by_cases e : i = j
                  · subst e; exact hP.out.2 ⟨by rw [HU.out, HV.out], HW.out, HXY.out⟩
                  · exact HJ.out i (by omega))⟩
                case measure => simp [intOf]; omega
              · have hxy' : (x != y) = true := by simpa using hxy
                have HF := hide (HNO.out (fun h => hxy h.2.2))
                clear hxy
                go_wp2_with (first | ((go_at_call 52; refine (within_any _ _ _ _).mono ?_; rintro e W7 ⟨rfl, rfl⟩)))
                go_ret
                exact ⟨false, rfl, HF.out, HC.out⟩
            · have hw1 : decide (0 ≤ x ∧ x ≤ 255) = false := decide_eq_false hw
              have HF := hide (HNO.out (fun h => hw h.2.1))
              clear hw
              go_wp2_with (first | ((go_at_call 52; refine (within_any _ _ _ _).mono ?_; rintro e W7 ⟨rfl, rfl⟩)))
              go_ret
              exact ⟨false, rfl, HF.out, HC.out⟩
          · have huv' : v = !u := by cases u <;> cases v <;> simp_all
            subst huv'
            have HF := hide (HNO.out (fun h => by have := HU.out; have := HV.out; have := h.1; cases u <;> simp_all))
            clear huv
            go_wp2_with (first | ((go_at_call 52; refine (within_any _ _ _ _).mono ?_; rintro e W7 ⟨rfl, rfl⟩)))
            go_ret
            exact ⟨false, rfl, HF.out, HC.out⟩
        · obtain rfl : j = n := by omega
          go_wp2_with fail
          go_roundw
          case rel => exact ⟨trivial, k + 1, by omega, by go_num, hide (fun a b ha hb => by
            by_cases e : a = k
            · subst e; exact HJ.out b hb
            · exact HI.out a b (by omega) hb)⟩
          case measure => simp [intOf]; omega
    · obtain rfl : k = n := by omega
      go_wp2_with fail
      go_ret
      exact ⟨true, rfl, by
        simp only [true_iff]
        intro a b ha hb
        rw [HN.out] at ha hb
        exact HI.out a b (by omega) (by omega), HC.out⟩
end Go.Proofs.YtinlpjgjjplceaaDoor
