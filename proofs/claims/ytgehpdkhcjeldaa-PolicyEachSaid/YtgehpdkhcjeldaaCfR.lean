/- The document's Frames. -/
import Derived.Test.YtgehpdkhcjeldaaCfQ
import Derived.Test.YtgehpdkhcjeldaaCfN
namespace Go.Proofs.Ytgehpdkhcjeldaa
open Go Go.RowKit

/-- the nodes of the frames of the first i nodes -/
def FI (c : Cf) (i : Nat) (L : List Nat) : Prop := (L.length : Int) = sumF c i ∧ ∀ (j : Nat) (h : j < L.length), ∃ k, k < i ∧ sumF c k ≤ (j : Int) ∧ (j : Int) < sumF c (k + 1) ∧ L[j] = k
theorem FI.zero (c : Cf) : FI c 0 [] := ⟨rfl, fun j h => absurd h (by simp)⟩
theorem FI.step {c : Cf} {i : Nat} {L : List Nat} (h : FI c i L) (h0 : 0 ≤ c (18 + i)) : FI c (i + 1) (L ++ List.replicate (c (18 + i)).toNat i) := by
  obtain ⟨h1, h2⟩ := h
  refine ⟨by rw [List.length_append, List.length_replicate, sumF_succ]; omega, fun j hj => ?_⟩
  by_cases hl : j < L.length
  · obtain ⟨k, a, b, d, e⟩ := h2 j hl
    exact ⟨k, by omega, b, d, by rw [List.getElem_append_left hl]; exact e⟩
  · rw [List.length_append, List.length_replicate] at hj
    exact ⟨i, by omega, by omega, by rw [sumF_succ]; omega, by rw [List.getElem_append_right (by omega)]; simp⟩
/-- what Frames answers -/
def FrR (c : Cf) (w : World) (e : Ending) (w' : World) : Prop := ∃ A m cap L, e = .returned (.slice A m cap) ∧ SI w' (.slice A m cap) L ∧ (∀ j ∈ own (.slice A m cap), w.heap.size ≤ j) ∧ (mayB c = false → L = []) ∧ (mayB c = true → FI c (c 0).toNat L) ∧ Chg [] w w'
set_option maxHeartbeats 4000000 in
theorem Frames_any (c : Cf) (w : World) : Calls Try.prog 16 #[.agg (cg c)] w (FrR c w) := by
  have HB := hide (Blk.new w 26 (cg c))
  have HC := hide (show Chg [] w (w.alloc (.cells (cg c) 26)) from (Chg.refl [] w).alloc _)
  obtain ⟨m, hm⟩ : ∃ m, mayB c = m := ⟨_, rfl⟩
  have HM := hide (fun W => rMay_any c W)
  rw [hm] at HM
  have Hm := hide hm
  clear hm
  have hbl : w.heap.size < (w.alloc (.cells (cg c) 26)).heap.size := by simp
  cases m with
  | false =>
    go_enter Try.func16, Try.ntmps16
    go_wp2_with (first | (refine wpList_box26 rfl _ rfl rfl ?_))
    go_loopw [3, 4] (fun s i wr => s = .slice none 0 0 ∧ i = .int .i64 0 ∧ wr = w.alloc (.cells (cg c) 26)) (fun _ _ _ => 0)
    case atStart => exact ⟨rfl, rfl, rfl⟩
    case round =>
      obtain ⟨rfl, rfl, rfl⟩ := hrel
      go_wp2_with (first | (refine wpList_load26L (b := w.heap.size) (c := c) rfl _ rfl rfl ?_ ?_; (focus exact HB.out)))
      refine (HM.out _).mono ?_
      rintro e W2 ⟨rfl, hc2⟩
      go_wp2_with fail
      go_ret
      exact ⟨none, 0, 0, [], rfl, SE.nil _ _ _ _, fun _ h => (own_nil h).elim, fun _ => rfl, fun h => (by rw [Hm.out] at h; cases h), HC.out.stay hc2⟩
  | true =>
    have hMay := mayB_iff.1 Hm.out
    obtain ⟨n, hn⟩ : ∃ n : Nat, c 0 = n := ⟨(c 0).toNat, by have := hMay.n1; omega⟩
    have hn8 : n ≤ 8 := by have := hMay.n8; omega
    have HN := hide hn
    have HMay := hide hMay
    clear hMay hn
    have nn1 : (n : Int) ≤ 8 := by omega
    go_enter Try.func16, Try.ntmps16
    go_wp2_with (first | (refine wpList_box26 rfl _ rfl rfl ?_))
    generalize w.alloc (.cells (cg c) 26) = W at HB HC hbl ⊢
    obtain ⟨b, hbe⟩ : ∃ b, b = w.heap.size := ⟨_, rfl⟩
    have hwb : w.heap.size ≤ b := by omega
    rw [← hbe] at HB hbl ⊢
    clear hbe
    go_loopw [3, 4] (fun s i wr => ∃ (k : Nat) (A : Option Addr) (m cap : Nat) (L : List Nat), k ≤ n ∧ s = .slice A m cap ∧ i = .int .i64 k ∧ Hid (SI wr (.slice A m cap) L) ∧ Hid (∀ j ∈ own (.slice A m cap), W.heap.size ≤ j) ∧ Hid (FI c k L) ∧ Chg [] W wr) (fun _ i _ => n - (intOf i).toNat)
    case atStart => exact ⟨0, none, 0, 0, [], by omega, rfl, rfl, hide (SE.nil _ _ _ _), hide (fun _ h => (own_nil h).elim), hide (FI.zero c), Chg.refl _ _⟩
    case round =>
      obtain ⟨k, A, m, cap, L, hk, rfl, rfl, hs, hown, hfi, hch⟩ := hrel
      have HBr := hide (HB.out.chg hch List.not_mem_nil)
      go_wp2_with (first | (refine wpList_load26L (b := b) (c := c) rfl _ rfl rfl ?_ ?_; (focus exact HBr.out)))
      refine (HM.out _).mono ?_
      rintro e W2 ⟨rfl, hc2⟩
      have hch2 := hch.stay hc2
      have hs2 := hide (hs.out.stay hc2)
      have HB2 := hide (HB.out.chg hch2 List.not_mem_nil)
      have g0 := CB.get HB2.out (i := 0) (by omega)
      rw [HN.out] at g0
      clear hch hc2 hs HBr
      by_cases hkt : k < n
      · have k1 : (0 : Int) ≤ (k : Int) := by omega
        have k2 : (k : Int) < 8 := by omega
        obtain ⟨y, hy⟩ : ∃ y, c (18 + k) = y := ⟨_, rfl⟩
        have hyb := HMay.out.fr_le k (by omega)
        have hfs := hfi.out.step hyb.1
        have hll : (L.length : Int) ≤ 1024 := by
          have := HMay.out.sum_le k (by omega)
          have := hfi.out.1
          omega
        rw [hy] at hyb hfs
        obtain ⟨y1, y2⟩ := hyb
        have HY := hide hy
        have HFS := hide hfs
        have hll2 : L.length ≤ 1024 := by omega
        clear hy hfs hll
        go_wp2_with fail
        go_loopw [3, 5] (fun s i wr' => ∃ (t : Nat) (A : Option Addr) (m cap : Nat), (t : Int) ≤ y ∧ s = .slice A m cap ∧ i = .int .i64 t ∧ Hid (SI wr' (.slice A m cap) (L ++ List.replicate t k)) ∧ Hid (∀ j ∈ own (.slice A m cap), W.heap.size ≤ j) ∧ Chg [] W wr') (fun _ i _ => y.toNat - (intOf i).toNat)
        case atStart => exact ⟨0, A, m, cap, by omega, rfl, rfl, hide (by simpa using hs2.out), hown, hch2⟩
        case round =>
          obtain ⟨t, A3, m3, cap3, ht, rfl, rfl, hs3, hown3, hch3⟩ := hrel
          have HB3 := hide (HB.out.chg hch3 List.not_mem_nil)
          have gy := CB.get HB3.out (i := 18 + k) (by omega)
          rw [HY.out] at gy
          clear g0 hs2 hown hch2 HB2
          by_cases htt : (t : Int) < y
          · have HL : Hid ((L ++ List.replicate t k).length + [k].length ≤ 1000000) := hide (by simp; omega)
            go_wp2_with (at_builtin; refine wpList_append_i rfl _ _ rfl (.slice A3 m3 cap3) _ rfl rfl (l := L ++ List.replicate t k) (m := [k]) (hs3.out.stay ((Chg.refl [] wr).alloc _)) (RI_one wr k) HL.out ?_; intro A9 n9 c9 W9 hn9 hs9 hc9 hg9)
            go_roundw
            case rel => exact ⟨t + 1, A9, n9, c9, by omega, rfl, by go_num, hide (by rw [List.replicate_succ', ← List.append_assoc]; exact hs9), hide (fun j hj => (hg9 j hj).elim (hown3.out j) (fun h => by have := hch3.size; simp at h; omega)), (hch3.alloc _).trans hc9 (fun j hj => .inr (hown3.out j hj))⟩
            case measure => simp [intOf]; omega
          · have ey : y.toNat = t := by omega
            rw [ey] at HFS
            go_wp2_with fail
            go_roundw
            case rel => exact ⟨k + 1, A3, m3, cap3, _, by omega, rfl, by go_num, hs3, hown3, HFS, hch3⟩
            case measure => simp [intOf]; omega
      · obtain rfl : k = n := by omega
        go_wp2_with fail
        go_ret
        exact ⟨A, m, cap, L, rfl, hs2.out, fun j hj => Nat.le_trans (by omega) (hown.out j hj), fun h => (by rw [Hm.out] at h; cases h), fun _ => by rw [HN.out]; exact hfi.out, HC.out.stay hch2⟩
end Go.Proofs.Ytgehpdkhcjeldaa
