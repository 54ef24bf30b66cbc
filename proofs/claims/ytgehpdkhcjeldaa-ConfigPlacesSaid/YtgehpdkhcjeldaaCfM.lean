/- ConfigLeast: the walk. -/
import Derived.Test.YtgehpdkhcjeldaaCfL
namespace Go.Proofs.Ytgehpdkhcjeldaa
open Go Go.RowKit

theorem least_may {m : Int} (h1 : 4 ≤ m) (h2 : m ≤ 128) : MayP (leastC m) where
  n1 := Int.le_refl 1
  n8 := (by decide : (1 : Int) ≤ 8)
  p1 := Int.le_refl 1
  p16 := (by decide : (1 : Int) ≤ 16)
  s0 := by show 0 ≤ m; omega
  s1 := by show m ≤ 1024; omega
  home := fun i _ hi => by
    have : leastC m 1 = 1 := rfl
    rw [this] at hi
    obtain rfl : i = 0 := by omega
    exact ⟨Int.le_refl 0, (by decide : (0 : Int) < 1)⟩
  home0 := fun i _ _ => by unfold leastC; repeat' split <;> first | omega | rfl
  fr := fun i _ hi => by
    have : leastC m 0 = 1 := rfl
    rw [this] at hi
    obtain rfl : i = 0 := by omega
    show 4 ≤ m ∧ m ≤ 128 ∧ (0 : Int) ≤ m
    omega
  fr0 := fun i _ hi => by
    have : leastC m 0 = 1 := rfl
    rw [this] at hi
    unfold leastC
    repeat' split <;> first | omega | rfl
  ds0 := fun i k _ _ _ => by unfold leastC; repeat' split <;> first | omega | rfl
  ds1 := fun i k _ _ hi hk hne => by
    have : leastC m 0 = 1 := rfl
    rw [this] at hi hk
    omega
  mi := Int.le_refl 0
  lo := Int.le_refl 0
  hi := Int.le_refl 0
theorem least_first (m : Int) (hM : MayP (leastC m)) : firstN (leastC m) 0 = 0 ∧ firstE (leastC m) 0 = 0 ∧ totV (leastC m) = m := by
  refine ⟨?_, ?_, ?_⟩
  · unfold firstN
    rw [if_pos ⟨mayB_true hM, by decide, (by decide : (0 : Int) ≤ 1 - 1)⟩]
    rfl
  · unfold firstE
    rw [if_neg (by rw [mayB_true hM]; simp), if_pos ⟨by decide, (by decide : (0 : Int) ≤ 1 - 1)⟩]
  · unfold totV
    rw [if_pos (mayB_true hM)]
    show 0 + m + 0 + 0 + 0 + 0 + 0 + 0 + 0 = m
    omega
set_option maxHeartbeats 1000000 in
theorem least_law (f : Int) (w : World) : Calls Try.prog 7 #[.int .i64 f] w fun e w' => e = .returned (.bool true) ∧ Chg [] w w' := by
  have HT := hide (Least_any f)
  obtain ⟨m1, h1⟩ : ∃ m, m = max f 4 := ⟨_, rfl⟩
  obtain ⟨m, h2⟩ : ∃ m, m = min m1 128 := ⟨_, rfl⟩
  have u1 := fun ts ty w => run_max ts ty .i64 .i64 f 4 w
  have u2 := fun ts ty w => run_min ts ty .i64 .i64 m1 128 w
  rw [← h1] at u1
  rw [← h2] at u2
  rw [← h1, ← h2] at HT
  have hM := least_may (m := m) (by omega) (by omega)
  obtain ⟨e1, e2, e3⟩ := least_first m hM
  have e4 := mayB_true hM
  have H1 := hide (fun W => First_any (leastC m) 0 W)
  have H3 := hide (fun W => Order_any (leastC m) 0 W)
  have H4 := hide (fun W => May_any (leastC m) W)
  have H5 := hide (fun W => Total_any (leastC m) W)
  rw [e1, e2] at H1
  rw [e4] at H4
  rw [e3] at H5
  have HO := hide (show ∀ W W' e, OrdR W (leastC m) 0 e W' → ∃ A cap, e = .returned (.tuple #[.slice A 1 cap, .int .i64 0]) ∧ Chg [] W W' from fun W W' e ⟨A, n, cap, x, l, he, hx, hs, _, h0, _, hc⟩ => by
    have hx0 : x = 0 := hx.trans e2
    subst hx0
    have hl := h0 rfl
    have hlen : l.length = 1 := hl.length
    obtain ⟨A', c', e'⟩ := hs.form
    injection e' with _ e3 _
    exact ⟨A, cap, by rw [he, e3, hlen], hc⟩)
  clear e1 e2 e3 e4 hM h1 h2
  have hg0 : leastC m 0 = 1 := rfl
  obtain ⟨D, hD⟩ : ∃ D, D = leastC m := ⟨_, rfl⟩
  rw [← hD] at HT H1 H3 H4 H5 HO hg0
  have HG := hide hg0
  clear hD hg0
  go_enter Try.func7, Try.ntmps7
  go_wp2_with fail
  refine (HT.out _).mono ?_
  rintro e W1 ⟨rfl, hc1⟩
  have HB1 := hide (Blk.new W1 26 (cg (fun _ => 0)))
  go_wp2_with (first | (refine wpList_alloc26 rfl rfl ?_) | (refine wpList_store26L (b := W1.heap.size) (c := fun _ => 0) rfl _ _ rfl rfl rfl ?_ ?_; (focus exact HB1.out); intro W2 h2 hc2; have HB2 := hide h2; clear h2) | (refine wpList_load26L (b := W1.heap.size) (c := D) rfl _ rfl rfl ?_ ?_; (focus exact HB2.out)))
  have hc02 : Chg [] w W2 := (hc1.alloc _).trans hc2 (fun x hx => .inr (by obtain rfl := List.mem_singleton.1 hx; exact hc1.size))
  generalize W1.heap.size = b at HB2 ⊢
  clear hc1 hc2 HT
  refine (H1.out _).mono ?_
  rintro e W3 ⟨rfl, hc3⟩
  have HB3 := hide (HB2.out.chg hc3 List.not_mem_nil)
  have hc03 := hc02.stay hc3
  clear HB2 hc02 hc3 H1
  go_wp2_with (first | (refine wpList_load26L (b := b) (c := D) rfl _ rfl rfl ?_ ?_; (focus exact HB3.out)))
  refine (H3.out _).mono ?_
  rintro e W5 hO
  obtain ⟨A, cap, rfl, hc5⟩ := HO.out _ _ _ hO
  have HB5 := hide (HB3.out.chg hc5 List.not_mem_nil)
  have hc05 := hc03.stay hc5
  clear HB3 hc03 hc5 H3 hO
  go_wp2_with (first | (refine wpList_load26L (b := b) (c := D) rfl _ rfl rfl ?_ ?_; (focus exact HB5.out)))
  refine (H4.out _).mono ?_
  rintro e W6 ⟨rfl, hc6⟩
  have HB6 := hide (HB5.out.chg hc6 List.not_mem_nil)
  have hc06 := hc05.stay hc6
  clear HB5 hc05 hc6 H4
  go_wp2_with (first | (refine wpList_load26W (b := b) (c := D) _ rfl rfl ?_ ?_ ?_; (focus (simp [Region.wanted, yielded]; done)); (focus exact HB6.out)))
  refine (H5.out _).mono ?_
  rintro e W7 ⟨rfl, hc7⟩
  have HB7 := HB6.out.chg hc7 List.not_mem_nil
  have g0 := CB.get HB7 (i := 0) (by omega)
  rw [HG.out] at g0
  have hbl := HB7.lt
  have hc07 := hc06.stay hc7
  clear HB6 hc06 hc7 H5 HB7
  go_wp2_with fail
  refine (known_any _).mono ?_
  rintro e W8 ⟨rfl, hc8⟩
  have hc08 := hc07.stay hc8
  clear hc07 hc8
  go_wp2_with fail
  go_ret
  exact ⟨rfl, hc08⟩
end Go.Proofs.Ytgehpdkhcjeldaa
