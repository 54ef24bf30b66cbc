/- ConfigAll: the walk. -/
import Derived.Test.YtgehpdkhcjeldaaCfL
namespace Go.Proofs.Ytgehpdkhcjeldaa
open Go Go.RowKit

theorem NodeP.at_ {c : Cf} (hM : MayP c) {k : Nat} (hk : (k : Int) < c 0) {f i e : Int} (h1 : sumF c k ≤ f) (h2 : f < sumF c (k + 1)) (h : NodeP c f i e) : i = k ∧ e = 0 := by
  have h8 := hM.n8
  rcases h with ⟨h, _⟩ | ⟨_, ⟨rfl, j, rfl, hj, h3, h4⟩ | ⟨rfl, rfl, h⟩⟩
  · rw [mayB_true hM] at h; cases h
  · refine ⟨?_, rfl⟩
    rcases Nat.lt_trichotomy j k with hlt | rfl | hlt
    · have := hM.sum_mono (i := j + 1) k (by omega) (by omega)
      omega
    · rfl
    · have := hM.sum_mono (i := k + 1) j (by omega) (by omega)
      omega
  · exfalso
    have h0 := hM.sum_le k (by omega)
    have := hM.sum_mono (i := k + 1) (c 0).toNat (by omega) (by omega)
    omega
theorem NodeP.end_ {c : Cf} (hM : MayP c) {f i e : Int} (h1 : f = sumF c (c 0).toNat) (h : NodeP c f i e) : i = 0 ∧ e = 7 := by
  have h8 := hM.n8
  rcases h with ⟨h, _⟩ | ⟨_, ⟨rfl, j, rfl, hj, h3, h4⟩ | ⟨rfl, rfl, h⟩⟩
  · rw [mayB_true hM] at h; cases h
  · exfalso
    have := hM.sum_mono (i := j + 1) (c 0).toNat (by omega) (by omega)
    omega
  · exact ⟨rfl, rfl⟩
theorem MayP.first {c : Cf} (hM : MayP c) {k : Nat} (hk : (k : Int) < c 0) : firstN c k = sumF c k ∧ firstE c k = 0 := by
  constructor
  · unfold firstN
    rw [if_pos ⟨mayB_true hM, by omega, by omega⟩, Int.toNat_natCast]
  · unfold firstE
    rw [if_neg (by rw [mayB_true hM]; simp), if_pos ⟨by omega, by omega⟩]
theorem MayP.tot {c : Cf} (hM : MayP c) : totV c = sumF c (c 0).toNat := by
  unfold totV
  rw [if_pos (mayB_true hM), hM.sum_tail 8 (by omega) (by have := hM.n8; omega)]
set_option maxHeartbeats 4000000 in
theorem all_law (c : Cf) (w : World) : Calls Try.prog 4 #[.agg (cg c)] w fun e w' => e = .returned (.bool true) ∧ Chg [] w w' := by
  have HB := hide (Blk.new w 26 (cg c))
  have HC := hide (show Chg [] w (w.alloc (.cells (cg c) 26)) from (Chg.refl [] w).alloc _)
  obtain ⟨m, hm⟩ : ∃ m, mayB c = m := ⟨_, rfl⟩
  have HM := hide (fun W => May_any c W)
  rw [hm] at HM
  have Hm := hide hm
  clear hm
  cases m with
  | false =>
    go_enter Try.func4, Try.ntmps4
    go_wp2_with (first | (refine wpList_box26 rfl _ rfl rfl ?_) | (refine wpList_load26L (b := w.heap.size) (c := c) rfl _ rfl rfl ?_ ?_; (focus exact HB.out)))
    refine (HM.out _).mono ?_
    rintro e W2 ⟨rfl, hc2⟩
    have hc := HC.out.stay hc2
    go_wp2_with fail
    refine (known_any _).mono ?_
    rintro e W3 ⟨rfl, hc3⟩
    go_wp2_with fail
    go_ret
    exact ⟨rfl, hc.stay hc3⟩
  | true =>
    have hMay := mayB_iff.1 Hm.out
    obtain ⟨n, hn⟩ : ∃ n : Nat, c 0 = n := ⟨(c 0).toNat, by have := hMay.n1; omega⟩
    have hn8 : n ≤ 8 := by have := hMay.n8; omega
    have HN := hide hn
    have HMay := hide hMay
    clear hMay hn
    have nn1 : (n : Int) ≤ 8 := by omega
    go_enter Try.func4, Try.ntmps4
    go_wp2_with (first | (refine wpList_box26 rfl _ rfl rfl ?_) | (refine wpList_load26L (b := w.heap.size) (c := c) rfl _ rfl rfl ?_ ?_; (focus exact HB.out)))
    refine (HM.out _).mono ?_
    rintro e W2 ⟨rfl, hc2⟩
    have hb2 := HB.out.chg hc2 List.not_mem_nil
    have hc02 := HC.out.stay hc2
    have g0 := CB.get hb2 (i := 0) (by omega)
    rw [HN.out] at g0
    have HB2 := hide hb2
    have hbl := hb2.lt
    clear hb2 hc2 HB HC HM
    generalize w.heap.size = b at HB2 g0 hbl ⊢
    go_wp2_with fail
    go_loopw [3, 18] (fun s i wr => ∃ (k : Nat) (x : Int), k ≤ n ∧ s = .int .i64 x ∧ i = .int .i64 k ∧ Hid (x = sumF c k) ∧ Chg [] W2 wr) (fun _ i _ => n - (intOf i).toNat)
    case atStart => exact ⟨0, 0, by omega, rfl, rfl, hide rfl, Chg.refl _ _⟩
    case round =>
      obtain ⟨k, x, hk, rfl, rfl, hx, hch⟩ := hrel
      have hxb := HMay.out.sum_le k (by omega)
      rw [← hx.out] at hxb
      obtain ⟨x1, x2'⟩ := hxb
      have x2 : x ≤ 1024 := by omega
      have HBr := hide (HB2.out.chg hch List.not_mem_nil)
      have gr := CB.get HBr.out (i := 0) (by omega)
      rw [HN.out] at gr
      clear x2' g0
      by_cases hkt : k < n
      · have k1 : (0 : Int) ≤ (k : Int) := by omega
        have k2 : (k : Int) < 8 := by omega
        have hkn : (k : Int) < c 0 := by rw [HN.out]; omega
        obtain ⟨e1, e2⟩ := HMay.out.first hkn
        have HF := hide (fun W => First_any c k W)
        rw [e1, e2, ← hx.out] at HF
        have HK := hide hkn
        clear e1 e2 hkn
        obtain ⟨y, hy⟩ : ∃ y, c (18 + k) = y := ⟨_, rfl⟩
        have hyb := HMay.out.fr_le k (by omega)
        have hxs := hide (show x + y = sumF c (k + 1) by rw [sumF_succ, hx.out, hy])
        rw [hy] at hyb
        obtain ⟨y1, y2⟩ := hyb
        have HY := hide hy
        clear hy
        go_wp2_with (first | (refine wpList_load26L (b := b) (c := c) rfl _ rfl rfl ?_ ?_; (focus exact HBr.out)))
        refine (HF.out _).mono ?_
        rintro e W3 ⟨rfl, hc3⟩
        have hch3 := hch.stay hc3
        have HB3 := hide (HB2.out.chg hch3 List.not_mem_nil)
        have gy := CB.get HB3.out (i := 18 + k) (by omega)
        rw [HY.out] at gy
        clear hc3 HF hch HBr gr
        go_wp2_with fail
        go_loopw [38] (fun i wr' => ∃ (j : Nat), (j : Int) ≤ y ∧ i = .int .i64 j ∧ Chg [] W2 wr') (fun i _ => y.toNat - (intOf i).toNat)
        case atStart => exact ⟨0, by omega, rfl, hch3⟩
        case round =>
          obtain ⟨j, hj, rfl, hch4⟩ := hrel
          have HB4 := hide (HB2.out.chg hch4 List.not_mem_nil)
          have gy4 := CB.get HB4.out (i := 18 + k) (by omega)
          rw [HY.out] at gy4
          clear gy hch3 HB3
          by_cases hjt : (j : Int) < y
          · have HNd := hide (fun W => Node_any c (x + j) (by omega) W)
            have HAt := hide (fun i e (h : NodeP c (x + j) i e) => h.at_ HMay.out HK.out (by rw [← hx.out]; omega) (by rw [← hxs.out]; omega))
            have b1 : x + (j : Int) ≤ 2000 := by omega
            have b2 : 0 ≤ x + (j : Int) := by omega
            go_wp2_with (first | (refine wpList_load26L (b := b) (c := c) rfl _ rfl rfl ?_ ?_; (focus exact HB4.out)))
            refine (HNd.out _).mono ?_
            rintro e W5 ⟨i5, e5, rfl, hn5, hc5⟩
            obtain ⟨rfl, rfl⟩ := HAt.out _ _ hn5
            clear hn5
            go_wp2_with fail
            go_roundw
            case rel => exact ⟨j + 1, by omega, by go_num, hch4.stay hc5⟩
            case measure => simp [intOf]; omega
          · have ey : (j : Int) = y := by omega
            have b3 : x + y ≤ 2000 := by omega
            go_wp2_with fail
            go_roundw
            case rel => exact ⟨k + 1, x + y, by omega, rfl, by go_num, hxs, hch4⟩
            case measure => simp [intOf]; omega
      · obtain rfl : k = n := by omega
        have ex : x = sumF c (c 0).toNat := by rw [hx.out, HN.out, Int.toNat_natCast]
        have HNd := hide (fun W => Node_any c x (by omega) W)
        have HAt := hide (fun i e (h : NodeP c x i e) => h.end_ HMay.out ex)
        have HT := hide (fun W => Total_any c W)
        rw [HMay.out.tot, ← ex] at HT
        clear ex
        go_wp2_with (first | (refine wpList_load26L (b := b) (c := c) rfl _ rfl rfl ?_ ?_; (focus exact HBr.out)))
        refine (HNd.out _).mono ?_
        rintro e W5 ⟨i5, e5, rfl, hn5, hc5⟩
        obtain ⟨rfl, rfl⟩ := HAt.out _ _ hn5
        have hch5 := hch.stay hc5
        have HB5 := hide (HB2.out.chg hch5 List.not_mem_nil)
        clear hn5 HNd HAt hc5 hch
        go_wp2_with (first | (refine wpList_load26L (b := b) (c := c) rfl _ rfl rfl ?_ ?_; (focus exact HB5.out)))
        refine (HT.out _).mono ?_
        rintro e W6 ⟨rfl, hc6⟩
        have hch6 := hch5.stay hc6
        clear hch5 hc6 HT
        go_wp2_with fail
        refine (known_any _).mono ?_
        rintro e W7 ⟨rfl, hc7⟩
        have hch7 := hc02.stay (hch6.stay hc7)
        clear hch6 hc7
        go_wp2_with fail
        go_ret
        exact ⟨rfl, hch7⟩
end Go.Proofs.Ytgehpdkhcjeldaa
