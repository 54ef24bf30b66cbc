/- config's Order. -/
import Derived.Test.YtgehpdkhcjeldaaCfJ
namespace Go.Proofs.Ytgehpdkhcjeldaa
open Go Go.RowKit

/-- what Order answers -/
def OrdR (w : World) (c : Cf) (node : Int) (e : Ending) (w' : World) : Prop :=
  ∃ A n cap x l, e = .returned (.tuple #[.slice A n cap, .int .i64 x]) ∧ x = firstE c node ∧ SI w' (.slice A n cap) l ∧ (∀ k ∈ own (.slice A n cap), w.heap.size ≤ k) ∧ (x = 0 → IsOrd c node.toNat (c 0).toNat l) ∧ (x ≠ 0 → l = []) ∧ Chg [] w w'
theorem firstE_zero {c : Cf} {node : Int} (h : firstE c node = 0) : MayP c ∧ 0 ≤ node ∧ node < c 0 := by
  unfold firstE at h
  by_cases hm : mayB c = false
  · rw [if_pos hm] at h; omega
  · rw [if_neg hm] at h
    by_cases hn : 0 ≤ node ∧ node ≤ c 0 - 1
    · exact ⟨mayB_iff.1 (by simpa using hm), hn.1, by omega⟩
    · rw [if_neg hn] at h; omega
theorem MayP.ds_le {c : Cf} (h : MayP c) {node : Nat} (hn : node < 8) : ∀ i, i < 8 → 0 ≤ ds c node i ∧ ds c node i ≤ 255 := fun i hi => by
  unfold ds
  by_cases e : c 0 ≤ (node : Int) ∨ c 0 ≤ (i : Int) ∨ node = i
  · rw [h.ds0 node i hn hi e]; omega
  · have := h.ds1 node i hn hi (by omega) (by omega) (fun h => e (.inr (.inr h)))
    omega
set_option maxHeartbeats 4000000 in
theorem Order_any (c : Cf) (node : Int) (w : World) : Calls Try.prog 13 #[.agg (cg c), .int .i64 node] w (OrdR w c node) := by
  have hb : CB ((w.alloc (.cells (cg c) 26)).alloc (.cells #[.int .i64 node] 3)) w.heap.size c := (Blk.new w 26 (cg c)).alloc _
  have hn : Blk ((w.alloc (.cells (cg c) 26)).alloc (.cells #[.int .i64 node] 3)) (w.heap.size + 1) 3 #[.int .i64 node] := by
    have := Blk.new (w.alloc (.cells (cg c) 26)) 3 #[.int .i64 node]
    rwa [World.size_alloc] at this
  have hc : Chg [] w ((w.alloc (.cells (cg c) 26)).alloc (.cells #[.int .i64 node] 3)) := ((Chg.refl [] w).alloc _).alloc _
  have HB := hide hb
  have HN := hide hn
  have HC := hide hc
  clear hb hn hc
  obtain ⟨x, hx⟩ : ∃ x, x = firstE c node := ⟨_, rfl⟩
  have HF := hide (fun W => First_any c node W)
  rw [← hx] at HF
  have HX := hide hx
  clear hx
  by_cases hx0 : x = 0
  · subst hx0
    obtain ⟨hM, n0, nn⟩ := firstE_zero HX.out.symm
    obtain ⟨v, rfl⟩ : ∃ v : Nat, node = v := ⟨node.toNat, by omega⟩
    obtain ⟨n, hn⟩ : ∃ n : Nat, c 0 = n := ⟨(c 0).toNat, by omega⟩
    have hn8 : n ≤ 8 := by have := hM.n8; omega
    have hv8 : v < 8 := by omega
    have hn1 : 1 ≤ n := by have := hM.n1; omega
    have HD := hide (hM.ds_le hv8)
    have HN0 := hide hn
    clear hM n0 nn hn
    have nn1 : (n : Int) ≤ 8 := by omega
    go_enter Try.func13, Try.ntmps13
    go_wp2_with (first | (refine wpList_box26 rfl _ rfl rfl ?_) | (refine wpList_load26L (b := w.heap.size) (c := c) rfl _ rfl rfl ?_ ?_; (focus exact HB.out)))
    refine (HF.out _).mono ?_
    rintro e W2 ⟨rfl, hc2⟩
    have hb2 : CB W2 w.heap.size c := HB.out.chg hc2 List.not_mem_nil
    have hn2 := HN.out.chg hc2 List.not_mem_nil
    have hc02 := HC.out.stay hc2
    have g0 := CB.get hb2 (i := 0) (by omega)
    rw [HN0.out] at g0
    have HB2 := hide hb2
    have HN2 := hide hn2
    have hbc : w.heap.size < W2.heap.size := hb2.lt
    have hbn : w.heap.size + 1 < W2.heap.size := hn2.lt
    clear hb2 hn2 hc2 HB HN HC HF
    generalize w.heap.size + 1 = bn at HN2 hbn ⊢
    obtain ⟨bc, hbce⟩ : ∃ bc, bc = w.heap.size := ⟨_, rfl⟩
    have hwb : w.heap.size ≤ bc := by omega
    rw [← hbce] at HB2 hbc g0 ⊢
    clear hbce
    go_wp2_with fail
    go_loopw [8, 21] (fun t i wr => ∃ (k : Nat) (A : Option Addr) (m cap : Nat), k ≤ n ∧ t = .slice A m cap ∧ i = .int .i64 k ∧ Hid (SI wr (.slice A m cap) (List.range k)) ∧ Hid (∀ j ∈ own (.slice A m cap), W2.heap.size ≤ j) ∧ Chg [] W2 wr) (fun _ i _ => n - (intOf i).toNat)
    case atStart => exact ⟨0, none, 0, 0, by omega, rfl, rfl, hide (SE.nil _ _ _ _), hide (fun _ h => (own_nil h).elim), Chg.refl _ _⟩
    case round =>
      obtain ⟨k, A, m, cap, hk, rfl, rfl, hs, hown, hch⟩ := hrel
      by_cases hkt : k < n
      · have HL : Hid ((List.range k).length + [k].length ≤ 1000000) := hide (by simp; omega)
        go_wp2_with (at_builtin; refine wpList_append_i rfl _ _ rfl (.slice A m cap) _ rfl rfl (l := List.range k) (m := [k]) (hs.out.stay ((Chg.refl [] wr).alloc _)) (RI_one wr k) HL.out ?_; intro A9 n9 c9 W9 hn9 hs9 hc9 hg9)
        go_roundw
        case rel => exact ⟨k + 1, A9, n9, c9, by omega, rfl, by go_num, hide (by rw [List.range_succ]; exact hs9), hide (fun j hj => (hg9 j hj).elim (hown.out j) (fun h => by have := hch.size; simp at h; omega)), (hch.alloc _).trans hc9 (fun j hj => .inr (hown.out j hj))⟩
        case measure => simp [intOf]; omega
      · obtain rfl : k = n := by omega
        have hm : m = k := by
          obtain ⟨A', c', e'⟩ := hs.out.form
          injection e' with _ e2 _
          simpa using e2
        subst hm
        obtain ⟨g1, off, rfl⟩ := SE.addr hs.out (by omega)
        have hg1 : W2.heap.size ≤ g1 := hown.out g1 (by simp [own, Value.ownBlock])
        have HS := hide (sort_any (HB2.out.chg hch List.not_mem_nil) (HN2.out.chg hch List.not_mem_nil) hv8 HD.out hs.out hn8 hn1 (by omega) (by omega))
        go_wp2_with fail
        refine HS.out.mono ?_
        rintro e W3 ⟨rfl, L, hL, hs3, hc3⟩
        go_wp2_with fail
        go_ret2
        exact ⟨_, _, _, _, L, rfl, HX.out, hs3, fun j hj => Nat.le_trans (by omega) (hown.out j hj), fun _ => by rw [HN0.out]; exact hL, fun h => absurd rfl h, (hc02.stay hch).trans hc3 (fun j hj => .inr (by obtain rfl := List.mem_singleton.1 hj; omega))⟩
  · have h2 : (x == 0) = false := by simpa using hx0
    have h4 : (x != 0) = true := by simpa using hx0
    go_enter Try.func13, Try.ntmps13
    go_wp2_with (first | (refine wpList_box26 rfl _ rfl rfl ?_) | (refine wpList_load26L (b := w.heap.size) (c := c) rfl _ rfl rfl ?_ ?_; (focus exact HB.out)))
    refine (HF.out _).mono ?_
    rintro e W2 ⟨rfl, hc2⟩
    go_wp2_with fail
    go_ret2
    exact ⟨none, 0, 0, x, [], rfl, HX.out, SE.nil _ _ _ _, fun _ h => (own_nil h).elim, fun h => absurd h hx0, fun _ => rfl, HC.out.stay hc2⟩
end Go.Proofs.Ytgehpdkhcjeldaa
