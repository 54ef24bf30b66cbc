/- Policies: the law's three nodes. -/
import Derived.Test.YtgehpdkhcjeldaaPoA
namespace Go.Proofs.Ytgehpdkhcjeldaa
open Go Go.RowKit

def three0 : Cf := fun i => if i = 0 then 3 else if i = 1 then 1 else if i = 90 then 1 else 0
/-- behind i rounds, and k of the next one -/
def threeG (i k : Nat) : Cf := fun q => if 18 ≤ q ∧ q < 18 + i then 4 else if 26 ≤ q ∧ q < 50 ∧ (q - 26) % 8 < 3 ∧ ((q - 26) / 8 + 1 < i ∨ (q - 26) / 8 + 1 = i ∧ (q - 26) % 8 < k) ∧ (q - 26) / 8 ≠ (q - 26) % 8 then 9 else three0 q
theorem built_three : BT [(0, .int .i64 3), (1, .int .i64 1), (5, .int .i64 1)] three0 := ⟨by kernel_rfl⟩
theorem threeG_zero : ∀ q, q < 94 → three0 q = threeG 0 3 q := by decide +kernel
theorem threeG_frame : ∀ i, i < 3 → ∀ q, q < 94 → (if q = 18 + i then 4 else threeG i 3 q) = threeG (i + 1) 0 q := by decide +kernel
theorem threeG_dist : ∀ i, i < 3 → ∀ k, k < 3 → i ≠ k → ∀ q, q < 94 → (if q = 26 + i * 8 + k then 9 else threeG (i + 1) k q) = threeG (i + 1) (k + 1) q := by decide +kernel
theorem threeG_same : ∀ i, i < 3 → ∀ q, q < 94 → threeG (i + 1) i q = threeG (i + 1) (i + 1) q := by decide +kernel
def threeC : Cf := threeG 3 3
theorem three_may : MayP threeC where
  n1 := by decide
  n8 := by decide
  p1 := by decide
  p16 := by decide
  s0 := by decide
  s1 := by decide
  home := by decide
  home0 := by decide
  fr := by decide
  fr0 := by decide
  ds0 := fun i k hi hk => (by decide : ∀ i : Nat, i < 8 → ∀ k : Nat, k < 8 → threeC 0 ≤ (i : Int) ∨ threeC 0 ≤ (k : Int) ∨ i = k → threeC (26 + i * 8 + k) = 0) i hi k hk
  ds1 := fun i k hi hk => fun h1 h2 h3 => (by decide : ∀ i : Nat, i < 8 → ∀ k : Nat, k < 8 → ((i : Int) < threeC 0 ∧ (k : Int) < threeC 0 ∧ ¬ i = k) → (1 ≤ threeC (26 + i * 8 + k) ∧ threeC (26 + i * 8 + k) ≤ 255 ∧ threeC (26 + i * 8 + k) = threeC (26 + k * 8 + i))) i hi k hk ⟨h1, h2, h3⟩
  mi := by decide
  lo := by decide
  hi := by decide
set_option maxHeartbeats 1000000 in
theorem three_any (w : World) : Calls Try.prog 44 #[] w fun e w' => e = .returned (.agg (cg threeC)) ∧ Chg [] w w' := by
  have hr : CB ((w.alloc (.cells (cg (fun _ => 0)) 26)).alloc (.cells (cg (fun _ => 0)) 26)) w.heap.size (fun _ => 0) := (Blk.new w 26 _).alloc _
  have hb : CB ((w.alloc (.cells (cg (fun _ => 0)) 26)).alloc (.cells (cg (fun _ => 0)) 26)) (w.heap.size + 1) (fun _ => 0) := by
    have := Blk.new (w.alloc (.cells (cg (fun _ => 0)) 26)) 26 (cg (fun _ => 0))
    rwa [World.size_alloc] at this
  have hc : Chg [] w ((w.alloc (.cells (cg (fun _ => 0)) 26)).alloc (.cells (cg (fun _ => 0)) 26)) := ((Chg.refl [] w).alloc _).alloc _
  have HR := hide hr
  have HB := hide hb
  have HC := hide hc
  clear hr hb hc
  obtain ⟨D0, hD0⟩ : ∃ D0, D0 = three0 := ⟨_, rfl⟩
  have HT := hide built_three
  rw [← hD0] at HT
  have HD0 := hide hD0
  obtain ⟨D, hD⟩ : ∃ D, D = threeC := ⟨_, rfl⟩
  rw [← hD]
  have HD := hide hD
  clear hD0 hD
  go_enter Try.func44, Try.ntmps44
  go_wp2_with (first | (refine wpList_alloc26 rfl rfl ?_; try simp only [World.size_alloc]) | (refine wpList_build26 rfl _ rfl HT.out ?_ ?_; (focus (simp [Act.eval]; done))) | (refine wpList_store26L (b := w.heap.size + 1) (c := fun _ => 0) rfl _ _ rfl rfl rfl ?_ ?_; (focus exact HB.out); intro W5 h5 hc5; have H5 := hide h5; have HC5 := hide (HC.out.trans hc5 (fun x hx => .inr (by obtain rfl := List.mem_singleton.1 hx; omega))); have HR5 := hide (HR.out.chg hc5 (by simp)); clear h5 hc5))
  have hbl : w.heap.size + 1 < W5.heap.size := H5.out.lt
  obtain ⟨b, hb⟩ : ∃ b, b = w.heap.size + 1 := ⟨_, rfl⟩
  have HBE := hide hb
  rw [← hb] at H5 hbl ⊢
  clear hb HB HR HC
  go_loopw [5] (fun i wr => ∃ k : Nat, k ≤ 3 ∧ i = .int .i64 k ∧ Hid (CB wr b (threeG k 3)) ∧ Chg [b] W5 wr) (fun i _ => 3 - (intOf i).toNat)
  case atStart => exact ⟨0, by omega, rfl, hide (by have := H5.out; rw [HD0.out] at this; exact this.ext threeG_zero), Chg.refl _ _⟩
  case round =>
    obtain ⟨i, hi, rfl, hcb, hch⟩ := hrel
    by_cases hit : i < 3
    · have i1 : (0 : Int) ≤ (i : Int) := by omega
      have i2 : (i : Int) < 3 := by omega
      have i3 : (i : Int) < 8 := by omega
      have qf := CB.get hcb.out (i := 18 + i) (by omega)
      generalize threeG i 3 (18 + i) = z at qf
      have ff := (show Blk _ b 26 _ from hcb.out).frozen (18 + i)
      have HF := hide ((hcb.out.set (18 + i) 4).ext (threeG_frame i hit))
      have HCF := hide (hch.setCell (p := ⟨b, 18 + i, none⟩) (.inl (by simp)) (.int .i64 4))
      clear hcb hch
      go_wp2_with fail
      go_loopw [11] (fun j wr' => ∃ k : Nat, k ≤ 3 ∧ j = .int .i64 k ∧ Hid (CB wr' b (threeG (i + 1) k)) ∧ Chg [b] W5 wr') (fun j _ => 3 - (intOf j).toNat)
      case atStart => exact ⟨0, by omega, rfl, HF, HCF.out⟩
      case round =>
        obtain ⟨k, hk, rfl, hcb, hch⟩ := hrel
        by_cases hkt : k < 3
        · have k1 : (0 : Int) ≤ (k : Int) := by omega
          have k2 : (k : Int) < 3 := by omega
          have k3 : (k : Int) < 8 := by omega
          have qd := CB.get hcb.out (i := 26 + i * 8 + k) (by omega)
          generalize threeG (i + 1) k (26 + i * 8 + k) = z2 at qd
          have fd := (show Blk _ b 26 _ from hcb.out).frozen (26 + i * 8 + k)
          by_cases hne : i = k
          · subst hne
            go_wp2_with fail
            go_roundw
            case rel => exact ⟨i + 1, by omega, by go_num, hide (hcb.out.ext (threeG_same i hit)), hch⟩
            case measure => simp [intOf]; omega
          · have d1 : ((i : Int) == (k : Int)) = false := by simp; omega
            have d2 : ((i : Int) != (k : Int)) = true := by simp; omega
            have d3 : (i == k) = false := by simp; omega
            have d4 : (i != k) = true := by simp; omega
            go_wp2_with fail
            go_roundw
            case rel => exact ⟨k + 1, by omega, by go_num, hide ((hcb.out.set (26 + i * 8 + k) 9).ext (threeG_dist i hit k hkt hne)), hch.setCell (p := ⟨b, 26 + i * 8 + k, none⟩) (.inl (by simp)) _⟩
            case measure => simp [intOf]; omega
        · obtain rfl : k = 3 := by omega
          go_wp2_with fail
          go_roundw
          case rel => exact ⟨i + 1, by omega, by go_num, hcb, hch⟩
          case measure => simp [intOf]; omega
    · obtain rfl : i = 3 := by omega
      have HR6 := hide (HR5.out.chg hch (by rw [HBE.out]; simp))
      have hcb2 := hide (show CB _ b D by rw [HD.out]; exact hcb.out)
      have HC6 := hide (HC5.out.trans hch (fun x hx => .inr (by obtain rfl := List.mem_singleton.1 hx; rw [HBE.out]; omega)))
      clear hcb hch
      go_wp2_with (first | (refine wpList_load26L (b := b) (c := D) rfl _ rfl rfl ?_ ?_; (focus exact hcb2.out)) | (refine wpList_store26L (b := w.heap.size) (c := fun _ => 0) rfl _ _ rfl rfl rfl ?_ ?_; (focus exact HR6.out); intro W6 h6 hc6))
      refine bodyPost_ret (v := .agg (cg D)) (results_cell_row (p := 0) (ty := 26) rfl _ _ w.heap.size 26 _ (0, 0) _ rfl h6 Try.underlying26 rfl info26') rfl ⟨rfl, ?_⟩
      exact HC6.out.trans hc6 (fun x hx => .inr (by obtain rfl := List.mem_singleton.1 hx; omega))
end Go.Proofs.Ytgehpdkhcjeldaa
