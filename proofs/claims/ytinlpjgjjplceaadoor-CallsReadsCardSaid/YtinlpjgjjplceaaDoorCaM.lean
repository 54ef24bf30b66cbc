/- The document's List: a call's fields as whole numbers. -/
import Derived.Test.YtinlpjgjjplceaaDoorCaK
namespace Go.Proofs.YtinlpjgjjplceaaDoor
open Go Go.RowKit

abbrev SW (w : World) (v : Value) (L : List Nat) : Prop := SE wcl 1 31 w v L
def refL (x : Cl) : List Nat := (fld x.k).flatMap (numsF x)
def hasBy (k : Nat) : Bool := (fld k).contains 98
def isK (k : Nat) : Bool := fld k != []
theorem SW_new (w : World) (L : List Nat) (hl : L.length ≤ 100) : SW (w.alloc (.cells (fc wcl L).toArray 31)) (.slice (some ⟨w.heap.size, 0, none⟩) L.length L.length) L := by
  have h := Sl.made w 31 1 (fc wcl L).toArray L.length L.length (Nat.le_refl _) (by unfold maxLen; omega) (by rw [List.size_toArray, fc_length wcl_len]; exact Nat.le_refl _)
  unfold SW SE
  rw [Nat.mul_one, List.take_of_length_le (by rw [fc_length wcl_len]; omega)] at h
  exact h
def ListR (w w' : World) (x : Cl) (e : Ending) : Prop := ∃ A n c, e = .returned (.tuple #[.slice A n c, .bool (hasBy x.k), .bool (isK x.k)]) ∧ SW w' (.slice A n c) (refL x) ∧ ∀ k ∈ own (.slice A n c), w.heap.size ≤ k
set_option maxRecDepth 20000 in
set_option maxHeartbeats 40000000 in
theorem List_any {w : World} {x : Cl} (hx : x.Ok) (A0 : Option Addr) (n0 c0 : Nat) :
    Calls Tryd.prog 44 #[.agg (clc x (.slice A0 n0 c0))] w fun e w' => ListR w w' x e ∧ Chg [] w w' := by
  obtain ⟨W2, hW2⟩ : ∃ W2, W2 = w.alloc (.cells (clc x (.slice A0 n0 c0)) 34) := ⟨_, rfl⟩
  have hb1 : KB W2 w.heap.size x (.slice A0 n0 c0) := by rw [hW2]; exact Blk.new w 34 _
  have hc1 : Chg [] w W2 := by rw [hW2]; exact (Chg.refl [] w).alloc _
  have hs2 : W2.heap.size = w.heap.size + 1 := by rw [hW2]; simp
  obtain ⟨c1, c2, c3, c4, c5, c6, c7, c8, c9, c10, c11, c12, cl, cf⟩ := KB.cells hb1
  have HC := hide hc1
  have HW2 := hide hW2
  have HS2 := hide hs2
  have w1 := wrap_u64_of x.p
  have w2 := wrap_u64_of x.g
  have w3 := wrap_u64_of x.c
  have w4 := wrap_u64_of x.n
  have w5 := wrap_u64_of x.a
  have w6 := wrap_u64_of x.s
  have w7 : IntKind.u64.wrap (x.r : Int) = (x.r : Int) := by rw [IntKind.wrap_u64]; have := hx.r; omega
  have w8 : IntKind.u64.wrap (x.ok : Int) = (x.ok : Int) := by rw [IntKind.wrap_u64]; have := hx.ok; omega
  have w9 : IntKind.u64.wrap (x.om : Int) = (x.om : Int) := by rw [IntKind.wrap_u64]; have := hx.om; omega
  clear hb1 hc1 hW2 hs2 hx cf
  obtain ⟨k, p, n, g, c, a, s, r, ok, om, h, l⟩ := x
  simp only at c1 c2 c3 c4 c5 c6 c7 c8 c9 c10 c11 c12 w1 w2 w3 w4 w5 w6 w7 w8 w9 HW2
  unfold ListR
  rcases (by omega : k = 0 ∨ k = 1 ∨ k = 2 ∨ k = 3 ∨ k = 4 ∨ k = 5 ∨ k = 6 ∨ k = 7 ∨ k = 8 ∨ k = 9 ∨ k = 10 ∨ k = 11 ∨ k = 12 ∨ k = 13 ∨ k = 14 ∨ k = 15 ∨ k = 16 ∨ k = 17 ∨ k = 18 ∨ k = 19 ∨ k = 20 ∨ k = 21 ∨ 22 ≤ k) with rfl | rfl | rfl | rfl | rfl | rfl | rfl | rfl | rfl | rfl | rfl | rfl | rfl | rfl | rfl | rfl | rfl | rfl | rfl | rfl | rfl | rfl | hk
  · go_enter Tryd.func44, Tryd.ntmps44
    go_wp2_with (first | (refine wpList_box34 rfl _ rfl rfl ?_; try rw [← HW2.out]))
    refine wp_region_t [0, 1, 0, 0, 1, 0, 0, 1, 0, 0, 0, 0] [none, none, none, none, none, none, none, none, none, none, none, none] (fun _ => True) (by kernel_rfl) (by kernel_rfl) (by kernel_rfl) ?_
    go_wp2_with (first | fail | (refine wpG_calc rfl (fun K hK => ?_)) | (refine wpG_skip ?_ ?_; (focus (simp [wantG]; done)); go_simp) | (refine wpG_take ?_ ?_; (focus (simp [wantG]; done))) | (refine wpG_pure (fun K hK => ?_); go_simp; refine hK _ _ ?_; clear hK K) | (refine wpG_deed (by decide) (fun K hK => ?_); go_simp) | (refine wpG_nil ?_))
    refine wp_region_t [0, 1, 0, 0, 1, 0, 0, 1, 0, 0, 0, 0] [none, none, none, none, none, none, none, none, none, none, none, none] (fun _ => True) (by kernel_rfl) (by kernel_rfl) (by kernel_rfl) ?_
    go_wp2_with (first | fail | (refine wpG_calc rfl (fun K hK => ?_)) | (refine wpG_skip ?_ ?_; (focus (simp [wantG]; done)); go_simp) | (refine wpG_take ?_ ?_; (focus (simp [wantG]; done))) | (refine wpG_pure (fun K hK => ?_); go_simp; refine hK _ _ ?_; clear hK K) | (refine wpG_deed (by decide) (fun K hK => ?_); go_simp) | (refine wpG_nil ?_))
    refine wp_region_t [0, 0, 1, 0, 0, 0, 1, 0, 0, 0] [none, none, none, none, none, none, none, none, none, none] (fun _ => True) (by kernel_rfl) (by kernel_rfl) (by kernel_rfl) ?_
    go_wp2_with (first | fail | (refine wpG_calc rfl (fun K hK => ?_)) | (refine wpG_skip ?_ ?_; (focus (simp [wantG]; done)); go_simp) | (refine wpG_take ?_ ?_; (focus (simp [wantG]; done))) | (refine wpG_pure (fun K hK => ?_); go_simp; refine hK _ _ ?_; clear hK K) | (refine wpG_deed (by decide) (fun K hK => ?_); go_simp) | (refine wpG_nil ?_))

    refine bodyPost_ret (v := .tuple #[.slice none 0 0, .bool false, .bool false]) (by simp [results, Tryd.results44]) rfl ⟨⟨_, _, _, rfl, SE.nil _ _ _ _, fun _ h => (own_nil h).elim⟩, HC.out.drew.drew.drew⟩
  · go_enter Tryd.func44, Tryd.ntmps44
    go_wp2_with (first | (refine wpList_box34 rfl _ rfl rfl ?_; try rw [← HW2.out]))
    refine wp_region_t [0, 1, 0, 0, 1, 0, 0, 1, 0, 0, 0, 0] [none, none, none, none, none, none, none, none, none, none, none, none] (fun _ => True) (by kernel_rfl) (by kernel_rfl) (by kernel_rfl) ?_
    go_wp2_with (first | fail | (refine wpG_calc rfl (fun K hK => ?_)) | (refine wpG_skip ?_ ?_; (focus (simp [wantG]; done)); go_simp) | (refine wpG_take ?_ ?_; (focus (simp [wantG]; done))) | (refine wpG_pure (fun K hK => ?_); go_simp; refine hK _ _ ?_; clear hK K) | (refine wpG_deed (by decide) (fun K hK => ?_); go_simp) | (refine wpG_nil ?_))
    refine wp_region_t [0, 1, 0, 0, 1, 0, 0, 1, 0, 0, 0, 0] [none, none, none, none, none, none, none, none, none, none, none, none] (fun _ => True) (by kernel_rfl) (by kernel_rfl) (by kernel_rfl) ?_
    go_wp2_with (first | fail | (refine wpG_calc rfl (fun K hK => ?_)) | (refine wpG_skip ?_ ?_; (focus (simp [wantG]; done)); go_simp) | (refine wpG_take ?_ ?_; (focus (simp [wantG]; done))) | (refine wpG_pure (fun K hK => ?_); go_simp; refine hK _ _ ?_; clear hK K) | (refine wpG_deed (by decide) (fun K hK => ?_); go_simp) | (refine wpG_nil ?_))
    refine wp_region_t [0, 0, 1, 0, 0, 0, 1, 0, 0, 0] [none, none, none, none, none, none, none, none, none, none] (fun _ => True) (by kernel_rfl) (by kernel_rfl) (by kernel_rfl) ?_
    go_wp2_with (first | fail | (refine wpG_calc rfl (fun K hK => ?_)) | (refine wpG_skip ?_ ?_; (focus (simp [wantG]; done)); go_simp) | (refine wpG_take ?_ ?_; (focus (simp [wantG]; done))) | (refine wpG_pure (fun K hK => ?_); go_simp; refine hK _ _ ?_; clear hK K) | (refine wpG_deed (by decide) (fun K hK => ?_); go_simp) | (refine wpG_nil ?_))

    refine bodyPost_ret (v := .tuple #[.slice none 0 0, .bool false, .bool true]) (by simp [results, Tryd.results44]) rfl ⟨⟨_, _, _, rfl, SE.nil _ _ _ _, fun _ h => (own_nil h).elim⟩, HC.out.drew.drew.drew⟩
  · go_enter Tryd.func44, Tryd.ntmps44
    go_wp2_with (first | (refine wpList_box34 rfl _ rfl rfl ?_; try rw [← HW2.out]))
    refine wp_region_t [0, 1, 0, 0, 1, 0, 0, 1, 0, 0, 0, 0] [none, none, none, none, none, none, none, none, none, none, none, none] (fun _ => True) (by kernel_rfl) (by kernel_rfl) (by kernel_rfl) ?_
    go_wp2_with (first | fail | (refine wpG_calc rfl (fun K hK => ?_)) | (refine wpG_skip ?_ ?_; (focus (simp [wantG]; done)); go_simp) | (refine wpG_take ?_ ?_; (focus (simp [wantG]; done))) | (refine wpG_pure (fun K hK => ?_); go_simp; refine hK _ _ ?_; clear hK K) | (refine wpG_deed (by decide) (fun K hK => ?_); go_simp) | (refine wpG_nil ?_))
    refine wp_region_t [0, 1, 0, 0, 1, 0, 0, 1, 0, 0, 0, 0] [none, none, none, none, none, none, none, none, none, none, none, none] (fun _ => True) (by kernel_rfl) (by kernel_rfl) (by kernel_rfl) ?_
    go_wp2_with (first | fail | (refine wpG_calc rfl (fun K hK => ?_)) | (refine wpG_skip ?_ ?_; (focus (simp [wantG]; done)); go_simp) | (refine wpG_take ?_ ?_; (focus (simp [wantG]; done))) | (refine wpG_pure (fun K hK => ?_); go_simp; refine hK _ _ ?_; clear hK K) | (refine wpG_deed (by decide) (fun K hK => ?_); go_simp) | (refine wpG_nil ?_))
    refine wp_region_t [0, 0, 1, 0, 0, 0, 1, 0, 0, 0] [none, none, none, none, none, none, none, none, none, none] (fun _ => True) (by kernel_rfl) (by kernel_rfl) (by kernel_rfl) ?_
    go_wp2_with (first | fail | (refine wpG_calc rfl (fun K hK => ?_)) | (refine wpG_skip ?_ ?_; (focus (simp [wantG]; done)); go_simp) | (refine wpG_take ?_ ?_; (focus (simp [wantG]; done))) | (refine wpG_pure (fun K hK => ?_); go_simp; refine hK _ _ ?_; clear hK K) | (refine wpG_deed (by decide) (fun K hK => ?_); go_simp) | (refine wpG_nil ?_))

    refine bodyPost_ret (v := .tuple #[.slice (some ⟨W2.heap.size, 0, none⟩) 1 1, .bool false, .bool true]) (by simp [results, Tryd.results44]) rfl ⟨⟨_, _, _, rfl, SW_new W2.drew.drew.drew [wd64 p] (by simp), fun k hk => ?_⟩, HC.out.drew.drew.drew.alloc _⟩
    simp [own, Value.ownBlock] at hk
    have := HS2.out
    omega
  · go_enter Tryd.func44, Tryd.ntmps44
    go_wp2_with (first | (refine wpList_box34 rfl _ rfl rfl ?_; try rw [← HW2.out]))
    refine wp_region_t [0, 1, 0, 0, 1, 0, 0, 1, 0, 0, 0, 0] [none, none, none, none, none, none, none, none, none, none, none, none] (fun _ => True) (by kernel_rfl) (by kernel_rfl) (by kernel_rfl) ?_
    go_wp2_with (first | fail | (refine wpG_calc rfl (fun K hK => ?_)) | (refine wpG_skip ?_ ?_; (focus (simp [wantG]; done)); go_simp) | (refine wpG_take ?_ ?_; (focus (simp [wantG]; done))) | (refine wpG_pure (fun K hK => ?_); go_simp; refine hK _ _ ?_; clear hK K) | (refine wpG_deed (by decide) (fun K hK => ?_); go_simp) | (refine wpG_nil ?_))
    refine wp_region_t [0, 1, 0, 0, 1, 0, 0, 1, 0, 0, 0, 0] [none, none, none, none, none, none, none, none, none, none, none, none] (fun _ => True) (by kernel_rfl) (by kernel_rfl) (by kernel_rfl) ?_
    go_wp2_with (first | fail | (refine wpG_calc rfl (fun K hK => ?_)) | (refine wpG_skip ?_ ?_; (focus (simp [wantG]; done)); go_simp) | (refine wpG_take ?_ ?_; (focus (simp [wantG]; done))) | (refine wpG_pure (fun K hK => ?_); go_simp; refine hK _ _ ?_; clear hK K) | (refine wpG_deed (by decide) (fun K hK => ?_); go_simp) | (refine wpG_nil ?_))
    refine wp_region_t [0, 0, 1, 0, 0, 0, 1, 0, 0, 0] [none, none, none, none, none, none, none, none, none, none] (fun _ => True) (by kernel_rfl) (by kernel_rfl) (by kernel_rfl) ?_
    go_wp2_with (first | fail | (refine wpG_calc rfl (fun K hK => ?_)) | (refine wpG_skip ?_ ?_; (focus (simp [wantG]; done)); go_simp) | (refine wpG_take ?_ ?_; (focus (simp [wantG]; done))) | (refine wpG_pure (fun K hK => ?_); go_simp; refine hK _ _ ?_; clear hK K) | (refine wpG_deed (by decide) (fun K hK => ?_); go_simp) | (refine wpG_nil ?_))

    refine bodyPost_ret (v := .tuple #[.slice (some ⟨W2.heap.size, 0, none⟩) 4 4, .bool false, .bool true]) (by simp [results, Tryd.results44]) rfl ⟨⟨_, _, _, rfl, SW_new W2.drew.drew.drew [wd64 p, wd64 g, wd64 c, r] (by simp), fun k hk => ?_⟩, HC.out.drew.drew.drew.alloc _⟩
    simp [own, Value.ownBlock] at hk
    have := HS2.out
    omega
  · go_enter Tryd.func44, Tryd.ntmps44
    go_wp2_with (first | (refine wpList_box34 rfl _ rfl rfl ?_; try rw [← HW2.out]))
    refine wp_region_t [0, 1, 0, 0, 1, 0, 0, 1, 0, 0, 0, 0] [none, none, none, none, none, none, none, none, none, none, none, none] (fun _ => True) (by kernel_rfl) (by kernel_rfl) (by kernel_rfl) ?_
    go_wp2_with (first | fail | (refine wpG_calc rfl (fun K hK => ?_)) | (refine wpG_skip ?_ ?_; (focus (simp [wantG]; done)); go_simp) | (refine wpG_take ?_ ?_; (focus (simp [wantG]; done))) | (refine wpG_pure (fun K hK => ?_); go_simp; refine hK _ _ ?_; clear hK K) | (refine wpG_deed (by decide) (fun K hK => ?_); go_simp) | (refine wpG_nil ?_))
    refine wp_region_t [0, 1, 0, 0, 1, 0, 0, 1, 0, 0, 0, 0] [none, none, none, none, none, none, none, none, none, none, none, none] (fun _ => True) (by kernel_rfl) (by kernel_rfl) (by kernel_rfl) ?_
    go_wp2_with (first | fail | (refine wpG_calc rfl (fun K hK => ?_)) | (refine wpG_skip ?_ ?_; (focus (simp [wantG]; done)); go_simp) | (refine wpG_take ?_ ?_; (focus (simp [wantG]; done))) | (refine wpG_pure (fun K hK => ?_); go_simp; refine hK _ _ ?_; clear hK K) | (refine wpG_deed (by decide) (fun K hK => ?_); go_simp) | (refine wpG_nil ?_))
    refine wp_region_t [0, 0, 1, 0, 0, 0, 1, 0, 0, 0] [none, none, none, none, none, none, none, none, none, none] (fun _ => True) (by kernel_rfl) (by kernel_rfl) (by kernel_rfl) ?_
    go_wp2_with (first | fail | (refine wpG_calc rfl (fun K hK => ?_)) | (refine wpG_skip ?_ ?_; (focus (simp [wantG]; done)); go_simp) | (refine wpG_take ?_ ?_; (focus (simp [wantG]; done))) | (refine wpG_pure (fun K hK => ?_); go_simp; refine hK _ _ ?_; clear hK K) | (refine wpG_deed (by decide) (fun K hK => ?_); go_simp) | (refine wpG_nil ?_))

    refine bodyPost_ret (v := .tuple #[.slice (some ⟨W2.heap.size, 0, none⟩) 3 3, .bool false, .bool true]) (by simp [results, Tryd.results44]) rfl ⟨⟨_, _, _, rfl, SW_new W2.drew.drew.drew [wd64 p, wd64 g, wd64 c] (by simp), fun k hk => ?_⟩, HC.out.drew.drew.drew.alloc _⟩
    simp [own, Value.ownBlock] at hk
    have := HS2.out
    omega
  · go_enter Tryd.func44, Tryd.ntmps44
    go_wp2_with (first | (refine wpList_box34 rfl _ rfl rfl ?_; try rw [← HW2.out]))
    refine wp_region_t [0, 1, 0, 0, 1, 0, 0, 1, 0, 0, 0, 0] [none, none, none, none, none, none, none, none, none, none, none, none] (fun _ => True) (by kernel_rfl) (by kernel_rfl) (by kernel_rfl) ?_
    go_wp2_with (first | fail | (refine wpG_calc rfl (fun K hK => ?_)) | (refine wpG_skip ?_ ?_; (focus (simp [wantG]; done)); go_simp) | (refine wpG_take ?_ ?_; (focus (simp [wantG]; done))) | (refine wpG_pure (fun K hK => ?_); go_simp; refine hK _ _ ?_; clear hK K) | (refine wpG_deed (by decide) (fun K hK => ?_); go_simp) | (refine wpG_nil ?_))
    refine wp_region_t [0, 1, 0, 0, 1, 0, 0, 1, 0, 0, 0, 0] [none, none, none, none, none, none, none, none, none, none, none, none] (fun _ => True) (by kernel_rfl) (by kernel_rfl) (by kernel_rfl) ?_
    go_wp2_with (first | fail | (refine wpG_calc rfl (fun K hK => ?_)) | (refine wpG_skip ?_ ?_; (focus (simp [wantG]; done)); go_simp) | (refine wpG_take ?_ ?_; (focus (simp [wantG]; done))) | (refine wpG_pure (fun K hK => ?_); go_simp; refine hK _ _ ?_; clear hK K) | (refine wpG_deed (by decide) (fun K hK => ?_); go_simp) | (refine wpG_nil ?_))
    refine wp_region_t [0, 0, 1, 0, 0, 0, 1, 0, 0, 0] [none, none, none, none, none, none, none, none, none, none] (fun _ => True) (by kernel_rfl) (by kernel_rfl) (by kernel_rfl) ?_
    go_wp2_with (first | fail | (refine wpG_calc rfl (fun K hK => ?_)) | (refine wpG_skip ?_ ?_; (focus (simp [wantG]; done)); go_simp) | (refine wpG_take ?_ ?_; (focus (simp [wantG]; done))) | (refine wpG_pure (fun K hK => ?_); go_simp; refine hK _ _ ?_; clear hK K) | (refine wpG_deed (by decide) (fun K hK => ?_); go_simp) | (refine wpG_nil ?_))

    refine bodyPost_ret (v := .tuple #[.slice (some ⟨W2.heap.size, 0, none⟩) 4 4, .bool false, .bool true]) (by simp [results, Tryd.results44]) rfl ⟨⟨_, _, _, rfl, SW_new W2.drew.drew.drew [wd64 p, wd64 g, wd64 c, r] (by simp), fun k hk => ?_⟩, HC.out.drew.drew.drew.alloc _⟩
    simp [own, Value.ownBlock] at hk
    have := HS2.out
    omega
  · go_enter Tryd.func44, Tryd.ntmps44
    go_wp2_with (first | (refine wpList_box34 rfl _ rfl rfl ?_; try rw [← HW2.out]))
    refine wp_region_t [0, 1, 0, 0, 1, 0, 0, 1, 0, 0, 0, 0] [none, none, none, none, none, none, none, none, none, none, none, none] (fun _ => True) (by kernel_rfl) (by kernel_rfl) (by kernel_rfl) ?_
    go_wp2_with (first | fail | (refine wpG_calc rfl (fun K hK => ?_)) | (refine wpG_skip ?_ ?_; (focus (simp [wantG]; done)); go_simp) | (refine wpG_take ?_ ?_; (focus (simp [wantG]; done))) | (refine wpG_pure (fun K hK => ?_); go_simp; refine hK _ _ ?_; clear hK K) | (refine wpG_deed (by decide) (fun K hK => ?_); go_simp) | (refine wpG_nil ?_))
    refine wp_region_t [0, 1, 0, 0, 1, 0, 0, 1, 0, 0, 0, 0] [none, none, none, none, none, none, none, none, none, none, none, none] (fun _ => True) (by kernel_rfl) (by kernel_rfl) (by kernel_rfl) ?_
    go_wp2_with (first | fail | (refine wpG_calc rfl (fun K hK => ?_)) | (refine wpG_skip ?_ ?_; (focus (simp [wantG]; done)); go_simp) | (refine wpG_take ?_ ?_; (focus (simp [wantG]; done))) | (refine wpG_pure (fun K hK => ?_); go_simp; refine hK _ _ ?_; clear hK K) | (refine wpG_deed (by decide) (fun K hK => ?_); go_simp) | (refine wpG_nil ?_))
    refine wp_region_t [0, 0, 1, 0, 0, 0, 1, 0, 0, 0] [none, none, none, none, none, none, none, none, none, none] (fun _ => True) (by kernel_rfl) (by kernel_rfl) (by kernel_rfl) ?_
    go_wp2_with (first | fail | (refine wpG_calc rfl (fun K hK => ?_)) | (refine wpG_skip ?_ ?_; (focus (simp [wantG]; done)); go_simp) | (refine wpG_take ?_ ?_; (focus (simp [wantG]; done))) | (refine wpG_pure (fun K hK => ?_); go_simp; refine hK _ _ ?_; clear hK K) | (refine wpG_deed (by decide) (fun K hK => ?_); go_simp) | (refine wpG_nil ?_))

    refine bodyPost_ret (v := .tuple #[.slice (some ⟨W2.heap.size, 0, none⟩) 3 3, .bool false, .bool true]) (by simp [results, Tryd.results44]) rfl ⟨⟨_, _, _, rfl, SW_new W2.drew.drew.drew [wd64 p, wd64 g, wd64 c] (by simp), fun k hk => ?_⟩, HC.out.drew.drew.drew.alloc _⟩
    simp [own, Value.ownBlock] at hk
    have := HS2.out
    omega
  · go_enter Tryd.func44, Tryd.ntmps44
    go_wp2_with (first | (refine wpList_box34 rfl _ rfl rfl ?_; try rw [← HW2.out]))
    refine wp_region_t [0, 1, 0, 0, 1, 0, 0, 1, 0, 0, 0, 0] [none, none, none, none, none, none, none, none, none, none, none, none] (fun _ => True) (by kernel_rfl) (by kernel_rfl) (by kernel_rfl) ?_
    go_wp2_with (first | fail | (refine wpG_calc rfl (fun K hK => ?_)) | (refine wpG_skip ?_ ?_; (focus (simp [wantG]; done)); go_simp) | (refine wpG_take ?_ ?_; (focus (simp [wantG]; done))) | (refine wpG_pure (fun K hK => ?_); go_simp; refine hK _ _ ?_; clear hK K) | (refine wpG_deed (by decide) (fun K hK => ?_); go_simp) | (refine wpG_nil ?_))
    refine wp_region_t [0, 1, 0, 0, 1, 0, 0, 1, 0, 0, 0, 0] [none, none, none, none, none, none, none, none, none, none, none, none] (fun _ => True) (by kernel_rfl) (by kernel_rfl) (by kernel_rfl) ?_
    go_wp2_with (first | fail | (refine wpG_calc rfl (fun K hK => ?_)) | (refine wpG_skip ?_ ?_; (focus (simp [wantG]; done)); go_simp) | (refine wpG_take ?_ ?_; (focus (simp [wantG]; done))) | (refine wpG_pure (fun K hK => ?_); go_simp; refine hK _ _ ?_; clear hK K) | (refine wpG_deed (by decide) (fun K hK => ?_); go_simp) | (refine wpG_nil ?_))
    refine wp_region_t [0, 0, 1, 0, 0, 0, 1, 0, 0, 0] [none, none, none, none, none, none, none, none, none, none] (fun _ => True) (by kernel_rfl) (by kernel_rfl) (by kernel_rfl) ?_
    go_wp2_with (first | fail | (refine wpG_calc rfl (fun K hK => ?_)) | (refine wpG_skip ?_ ?_; (focus (simp [wantG]; done)); go_simp) | (refine wpG_take ?_ ?_; (focus (simp [wantG]; done))) | (refine wpG_pure (fun K hK => ?_); go_simp; refine hK _ _ ?_; clear hK K) | (refine wpG_deed (by decide) (fun K hK => ?_); go_simp) | (refine wpG_nil ?_))

    refine bodyPost_ret (v := .tuple #[.slice (some ⟨W2.heap.size, 0, none⟩) 3 3, .bool false, .bool true]) (by simp [results, Tryd.results44]) rfl ⟨⟨_, _, _, rfl, SW_new W2.drew.drew.drew [wd64 p, wd64 g, wd64 c] (by simp), fun k hk => ?_⟩, HC.out.drew.drew.drew.alloc _⟩
    simp [own, Value.ownBlock] at hk
    have := HS2.out
    omega
  · go_enter Tryd.func44, Tryd.ntmps44
    go_wp2_with (first | (refine wpList_box34 rfl _ rfl rfl ?_; try rw [← HW2.out]))
    refine wp_region_t [0, 1, 0, 0, 1, 0, 0, 1, 0, 0, 0, 0] [none, none, none, none, none, none, none, none, none, none, none, none] (fun _ => True) (by kernel_rfl) (by kernel_rfl) (by kernel_rfl) ?_
    go_wp2_with (first | fail | (refine wpG_calc rfl (fun K hK => ?_)) | (refine wpG_skip ?_ ?_; (focus (simp [wantG]; done)); go_simp) | (refine wpG_take ?_ ?_; (focus (simp [wantG]; done))) | (refine wpG_pure (fun K hK => ?_); go_simp; refine hK _ _ ?_; clear hK K) | (refine wpG_deed (by decide) (fun K hK => ?_); go_simp) | (refine wpG_nil ?_))
    refine wp_region_t [0, 1, 0, 0, 1, 0, 0, 1, 0, 0, 0, 0] [none, none, none, none, none, none, none, none, none, none, none, none] (fun _ => True) (by kernel_rfl) (by kernel_rfl) (by kernel_rfl) ?_
    go_wp2_with (first | fail | (refine wpG_calc rfl (fun K hK => ?_)) | (refine wpG_skip ?_ ?_; (focus (simp [wantG]; done)); go_simp) | (refine wpG_take ?_ ?_; (focus (simp [wantG]; done))) | (refine wpG_pure (fun K hK => ?_); go_simp; refine hK _ _ ?_; clear hK K) | (refine wpG_deed (by decide) (fun K hK => ?_); go_simp) | (refine wpG_nil ?_))
    refine wp_region_t [0, 0, 1, 0, 0, 0, 1, 0, 0, 0] [none, none, none, none, none, none, none, none, none, none] (fun _ => True) (by kernel_rfl) (by kernel_rfl) (by kernel_rfl) ?_
    go_wp2_with (first | fail | (refine wpG_calc rfl (fun K hK => ?_)) | (refine wpG_skip ?_ ?_; (focus (simp [wantG]; done)); go_simp) | (refine wpG_take ?_ ?_; (focus (simp [wantG]; done))) | (refine wpG_pure (fun K hK => ?_); go_simp; refine hK _ _ ?_; clear hK K) | (refine wpG_deed (by decide) (fun K hK => ?_); go_simp) | (refine wpG_nil ?_))

    refine bodyPost_ret (v := .tuple #[.slice (some ⟨W2.heap.size, 0, none⟩) 3 3, .bool false, .bool true]) (by simp [results, Tryd.results44]) rfl ⟨⟨_, _, _, rfl, SW_new W2.drew.drew.drew [wd64 p, wd64 a, wd64 s] (by simp), fun k hk => ?_⟩, HC.out.drew.drew.drew.alloc _⟩
    simp [own, Value.ownBlock] at hk
    have := HS2.out
    omega
  · go_enter Tryd.func44, Tryd.ntmps44
    go_wp2_with (first | (refine wpList_box34 rfl _ rfl rfl ?_; try rw [← HW2.out]))
    refine wp_region_t [0, 1, 0, 0, 1, 0, 0, 1, 0, 0, 0, 0] [none, none, none, none, none, none, none, none, none, none, none, none] (fun _ => True) (by kernel_rfl) (by kernel_rfl) (by kernel_rfl) ?_
    go_wp2_with (first | fail | (refine wpG_calc rfl (fun K hK => ?_)) | (refine wpG_skip ?_ ?_; (focus (simp [wantG]; done)); go_simp) | (refine wpG_take ?_ ?_; (focus (simp [wantG]; done))) | (refine wpG_pure (fun K hK => ?_); go_simp; refine hK _ _ ?_; clear hK K) | (refine wpG_deed (by decide) (fun K hK => ?_); go_simp) | (refine wpG_nil ?_))
    refine wp_region_t [0, 1, 0, 0, 1, 0, 0, 1, 0, 0, 0, 0] [none, none, none, none, none, none, none, none, none, none, none, none] (fun _ => True) (by kernel_rfl) (by kernel_rfl) (by kernel_rfl) ?_
    go_wp2_with (first | fail | (refine wpG_calc rfl (fun K hK => ?_)) | (refine wpG_skip ?_ ?_; (focus (simp [wantG]; done)); go_simp) | (refine wpG_take ?_ ?_; (focus (simp [wantG]; done))) | (refine wpG_pure (fun K hK => ?_); go_simp; refine hK _ _ ?_; clear hK K) | (refine wpG_deed (by decide) (fun K hK => ?_); go_simp) | (refine wpG_nil ?_))
    refine wp_region_t [0, 0, 1, 0, 0, 0, 1, 0, 0, 0] [none, none, none, none, none, none, none, none, none, none] (fun _ => True) (by kernel_rfl) (by kernel_rfl) (by kernel_rfl) ?_
    go_wp2_with (first | fail | (refine wpG_calc rfl (fun K hK => ?_)) | (refine wpG_skip ?_ ?_; (focus (simp [wantG]; done)); go_simp) | (refine wpG_take ?_ ?_; (focus (simp [wantG]; done))) | (refine wpG_pure (fun K hK => ?_); go_simp; refine hK _ _ ?_; clear hK K) | (refine wpG_deed (by decide) (fun K hK => ?_); go_simp) | (refine wpG_nil ?_))

    refine bodyPost_ret (v := .tuple #[.slice (some ⟨W2.heap.size, 0, none⟩) 2 2, .bool true, .bool true]) (by simp [results, Tryd.results44]) rfl ⟨⟨_, _, _, rfl, SW_new W2.drew.drew.drew [wd64 p, wd64 a] (by simp), fun k hk => ?_⟩, HC.out.drew.drew.drew.alloc _⟩
    simp [own, Value.ownBlock] at hk
    have := HS2.out
    omega
  · go_enter Tryd.func44, Tryd.ntmps44
    go_wp2_with (first | (refine wpList_box34 rfl _ rfl rfl ?_; try rw [← HW2.out]))
    refine wp_region_t [0, 1, 0, 0, 1, 0, 0, 1, 0, 0, 0, 0] [none, none, none, none, none, none, none, none, none, none, none, none] (fun _ => True) (by kernel_rfl) (by kernel_rfl) (by kernel_rfl) ?_
    go_wp2_with (first | fail | (refine wpG_calc rfl (fun K hK => ?_)) | (refine wpG_skip ?_ ?_; (focus (simp [wantG]; done)); go_simp) | (refine wpG_take ?_ ?_; (focus (simp [wantG]; done))) | (refine wpG_pure (fun K hK => ?_); go_simp; refine hK _ _ ?_; clear hK K) | (refine wpG_deed (by decide) (fun K hK => ?_); go_simp) | (refine wpG_nil ?_))
    refine wp_region_t [0, 1, 0, 0, 1, 0, 0, 1, 0, 0, 0, 0] [none, none, none, none, none, none, none, none, none, none, none, none] (fun _ => True) (by kernel_rfl) (by kernel_rfl) (by kernel_rfl) ?_
    go_wp2_with (first | fail | (refine wpG_calc rfl (fun K hK => ?_)) | (refine wpG_skip ?_ ?_; (focus (simp [wantG]; done)); go_simp) | (refine wpG_take ?_ ?_; (focus (simp [wantG]; done))) | (refine wpG_pure (fun K hK => ?_); go_simp; refine hK _ _ ?_; clear hK K) | (refine wpG_deed (by decide) (fun K hK => ?_); go_simp) | (refine wpG_nil ?_))
    refine wp_region_t [0, 0, 1, 0, 0, 0, 1, 0, 0, 0] [none, none, none, none, none, none, none, none, none, none] (fun _ => True) (by kernel_rfl) (by kernel_rfl) (by kernel_rfl) ?_
    go_wp2_with (first | fail | (refine wpG_calc rfl (fun K hK => ?_)) | (refine wpG_skip ?_ ?_; (focus (simp [wantG]; done)); go_simp) | (refine wpG_take ?_ ?_; (focus (simp [wantG]; done))) | (refine wpG_pure (fun K hK => ?_); go_simp; refine hK _ _ ?_; clear hK K) | (refine wpG_deed (by decide) (fun K hK => ?_); go_simp) | (refine wpG_nil ?_))

    refine bodyPost_ret (v := .tuple #[.slice (some ⟨W2.heap.size, 0, none⟩) 1 1, .bool false, .bool true]) (by simp [results, Tryd.results44]) rfl ⟨⟨_, _, _, rfl, SW_new W2.drew.drew.drew [wd64 s] (by simp), fun k hk => ?_⟩, HC.out.drew.drew.drew.alloc _⟩
    simp [own, Value.ownBlock] at hk
    have := HS2.out
    omega
  · go_enter Tryd.func44, Tryd.ntmps44
    go_wp2_with (first | (refine wpList_box34 rfl _ rfl rfl ?_; try rw [← HW2.out]))
    refine wp_region_t [0, 1, 0, 0, 1, 0, 0, 1, 0, 0, 0, 0] [none, none, none, none, none, none, none, none, none, none, none, none] (fun _ => True) (by kernel_rfl) (by kernel_rfl) (by kernel_rfl) ?_
    go_wp2_with (first | fail | (refine wpG_calc rfl (fun K hK => ?_)) | (refine wpG_skip ?_ ?_; (focus (simp [wantG]; done)); go_simp) | (refine wpG_take ?_ ?_; (focus (simp [wantG]; done))) | (refine wpG_pure (fun K hK => ?_); go_simp; refine hK _ _ ?_; clear hK K) | (refine wpG_deed (by decide) (fun K hK => ?_); go_simp) | (refine wpG_nil ?_))
    refine wp_region_t [0, 1, 0, 0, 1, 0, 0, 1, 0, 0, 0, 0] [none, none, none, none, none, none, none, none, none, none, none, none] (fun _ => True) (by kernel_rfl) (by kernel_rfl) (by kernel_rfl) ?_
    go_wp2_with (first | fail | (refine wpG_calc rfl (fun K hK => ?_)) | (refine wpG_skip ?_ ?_; (focus (simp [wantG]; done)); go_simp) | (refine wpG_take ?_ ?_; (focus (simp [wantG]; done))) | (refine wpG_pure (fun K hK => ?_); go_simp; refine hK _ _ ?_; clear hK K) | (refine wpG_deed (by decide) (fun K hK => ?_); go_simp) | (refine wpG_nil ?_))
    refine wp_region_t [0, 0, 1, 0, 0, 0, 1, 0, 0, 0] [none, none, none, none, none, none, none, none, none, none] (fun _ => True) (by kernel_rfl) (by kernel_rfl) (by kernel_rfl) ?_
    go_wp2_with (first | fail | (refine wpG_calc rfl (fun K hK => ?_)) | (refine wpG_skip ?_ ?_; (focus (simp [wantG]; done)); go_simp) | (refine wpG_take ?_ ?_; (focus (simp [wantG]; done))) | (refine wpG_pure (fun K hK => ?_); go_simp; refine hK _ _ ?_; clear hK K) | (refine wpG_deed (by decide) (fun K hK => ?_); go_simp) | (refine wpG_nil ?_))

    refine bodyPost_ret (v := .tuple #[.slice (some ⟨W2.heap.size, 0, none⟩) 1 1, .bool false, .bool true]) (by simp [results, Tryd.results44]) rfl ⟨⟨_, _, _, rfl, SW_new W2.drew.drew.drew [h] (by simp), fun k hk => ?_⟩, HC.out.drew.drew.drew.alloc _⟩
    simp [own, Value.ownBlock] at hk
    have := HS2.out
    omega
  · go_enter Tryd.func44, Tryd.ntmps44
    go_wp2_with (first | (refine wpList_box34 rfl _ rfl rfl ?_; try rw [← HW2.out]))
    refine wp_region_t [0, 1, 0, 0, 1, 0, 0, 1, 0, 0, 0, 0] [none, none, none, none, none, none, none, none, none, none, none, none] (fun _ => True) (by kernel_rfl) (by kernel_rfl) (by kernel_rfl) ?_
    go_wp2_with (first | fail | (refine wpG_calc rfl (fun K hK => ?_)) | (refine wpG_skip ?_ ?_; (focus (simp [wantG]; done)); go_simp) | (refine wpG_take ?_ ?_; (focus (simp [wantG]; done))) | (refine wpG_pure (fun K hK => ?_); go_simp; refine hK _ _ ?_; clear hK K) | (refine wpG_deed (by decide) (fun K hK => ?_); go_simp) | (refine wpG_nil ?_))
    refine wp_region_t [0, 1, 0, 0, 1, 0, 0, 1, 0, 0, 0, 0] [none, none, none, none, none, none, none, none, none, none, none, none] (fun _ => True) (by kernel_rfl) (by kernel_rfl) (by kernel_rfl) ?_
    go_wp2_with (first | fail | (refine wpG_calc rfl (fun K hK => ?_)) | (refine wpG_skip ?_ ?_; (focus (simp [wantG]; done)); go_simp) | (refine wpG_take ?_ ?_; (focus (simp [wantG]; done))) | (refine wpG_pure (fun K hK => ?_); go_simp; refine hK _ _ ?_; clear hK K) | (refine wpG_deed (by decide) (fun K hK => ?_); go_simp) | (refine wpG_nil ?_))
    refine wp_region_t [0, 0, 1, 0, 0, 0, 1, 0, 0, 0] [none, none, none, none, none, none, none, none, none, none] (fun _ => True) (by kernel_rfl) (by kernel_rfl) (by kernel_rfl) ?_
    go_wp2_with (first | fail | (refine wpG_calc rfl (fun K hK => ?_)) | (refine wpG_skip ?_ ?_; (focus (simp [wantG]; done)); go_simp) | (refine wpG_take ?_ ?_; (focus (simp [wantG]; done))) | (refine wpG_pure (fun K hK => ?_); go_simp; refine hK _ _ ?_; clear hK K) | (refine wpG_deed (by decide) (fun K hK => ?_); go_simp) | (refine wpG_nil ?_))

    refine bodyPost_ret (v := .tuple #[.slice (some ⟨W2.heap.size, 0, none⟩) 3 3, .bool false, .bool true]) (by simp [results, Tryd.results44]) rfl ⟨⟨_, _, _, rfl, SW_new W2.drew.drew.drew [h, wd64 a, wd64 s] (by simp), fun k hk => ?_⟩, HC.out.drew.drew.drew.alloc _⟩
    simp [own, Value.ownBlock] at hk
    have := HS2.out
    omega
  · go_enter Tryd.func44, Tryd.ntmps44
    go_wp2_with (first | (refine wpList_box34 rfl _ rfl rfl ?_; try rw [← HW2.out]))
    refine wp_region_t [0, 1, 0, 0, 1, 0, 0, 1, 0, 0, 0, 0] [none, none, none, none, none, none, none, none, none, none, none, none] (fun _ => True) (by kernel_rfl) (by kernel_rfl) (by kernel_rfl) ?_
    go_wp2_with (first | fail | (refine wpG_calc rfl (fun K hK => ?_)) | (refine wpG_skip ?_ ?_; (focus (simp [wantG]; done)); go_simp) | (refine wpG_take ?_ ?_; (focus (simp [wantG]; done))) | (refine wpG_pure (fun K hK => ?_); go_simp; refine hK _ _ ?_; clear hK K) | (refine wpG_deed (by decide) (fun K hK => ?_); go_simp) | (refine wpG_nil ?_))
    refine wp_region_t [0, 1, 0, 0, 1, 0, 0, 1, 0, 0, 0, 0] [none, none, none, none, none, none, none, none, none, none, none, none] (fun _ => True) (by kernel_rfl) (by kernel_rfl) (by kernel_rfl) ?_
    go_wp2_with (first | fail | (refine wpG_calc rfl (fun K hK => ?_)) | (refine wpG_skip ?_ ?_; (focus (simp [wantG]; done)); go_simp) | (refine wpG_take ?_ ?_; (focus (simp [wantG]; done))) | (refine wpG_pure (fun K hK => ?_); go_simp; refine hK _ _ ?_; clear hK K) | (refine wpG_deed (by decide) (fun K hK => ?_); go_simp) | (refine wpG_nil ?_))
    refine wp_region_t [0, 0, 1, 0, 0, 0, 1, 0, 0, 0] [none, none, none, none, none, none, none, none, none, none] (fun _ => True) (by kernel_rfl) (by kernel_rfl) (by kernel_rfl) ?_
    go_wp2_with (first | fail | (refine wpG_calc rfl (fun K hK => ?_)) | (refine wpG_skip ?_ ?_; (focus (simp [wantG]; done)); go_simp) | (refine wpG_take ?_ ?_; (focus (simp [wantG]; done))) | (refine wpG_pure (fun K hK => ?_); go_simp; refine hK _ _ ?_; clear hK K) | (refine wpG_deed (by decide) (fun K hK => ?_); go_simp) | (refine wpG_nil ?_))

    refine bodyPost_ret (v := .tuple #[.slice (some ⟨W2.heap.size, 0, none⟩) 2 2, .bool true, .bool true]) (by simp [results, Tryd.results44]) rfl ⟨⟨_, _, _, rfl, SW_new W2.drew.drew.drew [h, wd64 a] (by simp), fun k hk => ?_⟩, HC.out.drew.drew.drew.alloc _⟩
    simp [own, Value.ownBlock] at hk
    have := HS2.out
    omega
  · go_enter Tryd.func44, Tryd.ntmps44
    go_wp2_with (first | (refine wpList_box34 rfl _ rfl rfl ?_; try rw [← HW2.out]))
    refine wp_region_t [0, 1, 0, 0, 1, 0, 0, 1, 0, 0, 0, 0] [none, none, none, none, none, none, none, none, none, none, none, none] (fun _ => True) (by kernel_rfl) (by kernel_rfl) (by kernel_rfl) ?_
    go_wp2_with (first | fail | (refine wpG_calc rfl (fun K hK => ?_)) | (refine wpG_skip ?_ ?_; (focus (simp [wantG]; done)); go_simp) | (refine wpG_take ?_ ?_; (focus (simp [wantG]; done))) | (refine wpG_pure (fun K hK => ?_); go_simp; refine hK _ _ ?_; clear hK K) | (refine wpG_deed (by decide) (fun K hK => ?_); go_simp) | (refine wpG_nil ?_))
    refine wp_region_t [0, 1, 0, 0, 1, 0, 0, 1, 0, 0, 0, 0] [none, none, none, none, none, none, none, none, none, none, none, none] (fun _ => True) (by kernel_rfl) (by kernel_rfl) (by kernel_rfl) ?_
    go_wp2_with (first | fail | (refine wpG_calc rfl (fun K hK => ?_)) | (refine wpG_skip ?_ ?_; (focus (simp [wantG]; done)); go_simp) | (refine wpG_take ?_ ?_; (focus (simp [wantG]; done))) | (refine wpG_pure (fun K hK => ?_); go_simp; refine hK _ _ ?_; clear hK K) | (refine wpG_deed (by decide) (fun K hK => ?_); go_simp) | (refine wpG_nil ?_))
    refine wp_region_t [0, 0, 1, 0, 0, 0, 1, 0, 0, 0] [none, none, none, none, none, none, none, none, none, none] (fun _ => True) (by kernel_rfl) (by kernel_rfl) (by kernel_rfl) ?_
    go_wp2_with (first | fail | (refine wpG_calc rfl (fun K hK => ?_)) | (refine wpG_skip ?_ ?_; (focus (simp [wantG]; done)); go_simp) | (refine wpG_take ?_ ?_; (focus (simp [wantG]; done))) | (refine wpG_pure (fun K hK => ?_); go_simp; refine hK _ _ ?_; clear hK K) | (refine wpG_deed (by decide) (fun K hK => ?_); go_simp) | (refine wpG_nil ?_))

    refine bodyPost_ret (v := .tuple #[.slice (some ⟨W2.heap.size, 0, none⟩) 3 3, .bool false, .bool true]) (by simp [results, Tryd.results44]) rfl ⟨⟨_, _, _, rfl, SW_new W2.drew.drew.drew [wd64 p, ok, om] (by simp), fun k hk => ?_⟩, HC.out.drew.drew.drew.alloc _⟩
    simp [own, Value.ownBlock] at hk
    have := HS2.out
    omega
  · go_enter Tryd.func44, Tryd.ntmps44
    go_wp2_with (first | (refine wpList_box34 rfl _ rfl rfl ?_; try rw [← HW2.out]))
    refine wp_region_t [0, 1, 0, 0, 1, 0, 0, 1, 0, 0, 0, 0] [none, none, none, none, none, none, none, none, none, none, none, none] (fun _ => True) (by kernel_rfl) (by kernel_rfl) (by kernel_rfl) ?_
    go_wp2_with (first | fail | (refine wpG_calc rfl (fun K hK => ?_)) | (refine wpG_skip ?_ ?_; (focus (simp [wantG]; done)); go_simp) | (refine wpG_take ?_ ?_; (focus (simp [wantG]; done))) | (refine wpG_pure (fun K hK => ?_); go_simp; refine hK _ _ ?_; clear hK K) | (refine wpG_deed (by decide) (fun K hK => ?_); go_simp) | (refine wpG_nil ?_))
    refine wp_region_t [0, 1, 0, 0, 1, 0, 0, 1, 0, 0, 0, 0] [none, none, none, none, none, none, none, none, none, none, none, none] (fun _ => True) (by kernel_rfl) (by kernel_rfl) (by kernel_rfl) ?_
    go_wp2_with (first | fail | (refine wpG_calc rfl (fun K hK => ?_)) | (refine wpG_skip ?_ ?_; (focus (simp [wantG]; done)); go_simp) | (refine wpG_take ?_ ?_; (focus (simp [wantG]; done))) | (refine wpG_pure (fun K hK => ?_); go_simp; refine hK _ _ ?_; clear hK K) | (refine wpG_deed (by decide) (fun K hK => ?_); go_simp) | (refine wpG_nil ?_))
    refine wp_region_t [0, 0, 1, 0, 0, 0, 1, 0, 0, 0] [none, none, none, none, none, none, none, none, none, none] (fun _ => True) (by kernel_rfl) (by kernel_rfl) (by kernel_rfl) ?_
    go_wp2_with (first | fail | (refine wpG_calc rfl (fun K hK => ?_)) | (refine wpG_skip ?_ ?_; (focus (simp [wantG]; done)); go_simp) | (refine wpG_take ?_ ?_; (focus (simp [wantG]; done))) | (refine wpG_pure (fun K hK => ?_); go_simp; refine hK _ _ ?_; clear hK K) | (refine wpG_deed (by decide) (fun K hK => ?_); go_simp) | (refine wpG_nil ?_))

    refine bodyPost_ret (v := .tuple #[.slice (some ⟨W2.heap.size, 0, none⟩) 5 5, .bool false, .bool true]) (by simp [results, Tryd.results44]) rfl ⟨⟨_, _, _, rfl, SW_new W2.drew.drew.drew [wd64 p, wd64 g, wd64 c, ok, om] (by simp), fun k hk => ?_⟩, HC.out.drew.drew.drew.alloc _⟩
    simp [own, Value.ownBlock] at hk
    have := HS2.out
    omega
  · go_enter Tryd.func44, Tryd.ntmps44
    go_wp2_with (first | (refine wpList_box34 rfl _ rfl rfl ?_; try rw [← HW2.out]))
    refine wp_region_t [0, 1, 0, 0, 1, 0, 0, 1, 0, 0, 0, 0] [none, none, none, none, none, none, none, none, none, none, none, none] (fun _ => True) (by kernel_rfl) (by kernel_rfl) (by kernel_rfl) ?_
    go_wp2_with (first | fail | (refine wpG_calc rfl (fun K hK => ?_)) | (refine wpG_skip ?_ ?_; (focus (simp [wantG]; done)); go_simp) | (refine wpG_take ?_ ?_; (focus (simp [wantG]; done))) | (refine wpG_pure (fun K hK => ?_); go_simp; refine hK _ _ ?_; clear hK K) | (refine wpG_deed (by decide) (fun K hK => ?_); go_simp) | (refine wpG_nil ?_))
    refine wp_region_t [0, 1, 0, 0, 1, 0, 0, 1, 0, 0, 0, 0] [none, none, none, none, none, none, none, none, none, none, none, none] (fun _ => True) (by kernel_rfl) (by kernel_rfl) (by kernel_rfl) ?_
    go_wp2_with (first | fail | (refine wpG_calc rfl (fun K hK => ?_)) | (refine wpG_skip ?_ ?_; (focus (simp [wantG]; done)); go_simp) | (refine wpG_take ?_ ?_; (focus (simp [wantG]; done))) | (refine wpG_pure (fun K hK => ?_); go_simp; refine hK _ _ ?_; clear hK K) | (refine wpG_deed (by decide) (fun K hK => ?_); go_simp) | (refine wpG_nil ?_))
    refine wp_region_t [0, 0, 1, 0, 0, 0, 1, 0, 0, 0] [none, none, none, none, none, none, none, none, none, none] (fun _ => True) (by kernel_rfl) (by kernel_rfl) (by kernel_rfl) ?_
    go_wp2_with (first | fail | (refine wpG_calc rfl (fun K hK => ?_)) | (refine wpG_skip ?_ ?_; (focus (simp [wantG]; done)); go_simp) | (refine wpG_take ?_ ?_; (focus (simp [wantG]; done))) | (refine wpG_pure (fun K hK => ?_); go_simp; refine hK _ _ ?_; clear hK K) | (refine wpG_deed (by decide) (fun K hK => ?_); go_simp) | (refine wpG_nil ?_))

    refine bodyPost_ret (v := .tuple #[.slice (some ⟨W2.heap.size, 0, none⟩) 2 2, .bool false, .bool true]) (by simp [results, Tryd.results44]) rfl ⟨⟨_, _, _, rfl, SW_new W2.drew.drew.drew [wd64 p, wd64 g] (by simp), fun k hk => ?_⟩, HC.out.drew.drew.drew.alloc _⟩
    simp [own, Value.ownBlock] at hk
    have := HS2.out
    omega
  · go_enter Tryd.func44, Tryd.ntmps44
    go_wp2_with (first | (refine wpList_box34 rfl _ rfl rfl ?_; try rw [← HW2.out]))
    refine wp_region_t [0, 1, 0, 0, 1, 0, 0, 1, 0, 0, 0, 0] [none, none, none, none, none, none, none, none, none, none, none, none] (fun _ => True) (by kernel_rfl) (by kernel_rfl) (by kernel_rfl) ?_
    go_wp2_with (first | fail | (refine wpG_calc rfl (fun K hK => ?_)) | (refine wpG_skip ?_ ?_; (focus (simp [wantG]; done)); go_simp) | (refine wpG_take ?_ ?_; (focus (simp [wantG]; done))) | (refine wpG_pure (fun K hK => ?_); go_simp; refine hK _ _ ?_; clear hK K) | (refine wpG_deed (by decide) (fun K hK => ?_); go_simp) | (refine wpG_nil ?_))
    refine wp_region_t [0, 1, 0, 0, 1, 0, 0, 1, 0, 0, 0, 0] [none, none, none, none, none, none, none, none, none, none, none, none] (fun _ => True) (by kernel_rfl) (by kernel_rfl) (by kernel_rfl) ?_
    go_wp2_with (first | fail | (refine wpG_calc rfl (fun K hK => ?_)) | (refine wpG_skip ?_ ?_; (focus (simp [wantG]; done)); go_simp) | (refine wpG_take ?_ ?_; (focus (simp [wantG]; done))) | (refine wpG_pure (fun K hK => ?_); go_simp; refine hK _ _ ?_; clear hK K) | (refine wpG_deed (by decide) (fun K hK => ?_); go_simp) | (refine wpG_nil ?_))
    refine wp_region_t [0, 0, 1, 0, 0, 0, 1, 0, 0, 0] [none, none, none, none, none, none, none, none, none, none] (fun _ => True) (by kernel_rfl) (by kernel_rfl) (by kernel_rfl) ?_
    go_wp2_with (first | fail | (refine wpG_calc rfl (fun K hK => ?_)) | (refine wpG_skip ?_ ?_; (focus (simp [wantG]; done)); go_simp) | (refine wpG_take ?_ ?_; (focus (simp [wantG]; done))) | (refine wpG_pure (fun K hK => ?_); go_simp; refine hK _ _ ?_; clear hK K) | (refine wpG_deed (by decide) (fun K hK => ?_); go_simp) | (refine wpG_nil ?_))

    refine bodyPost_ret (v := .tuple #[.slice (some ⟨W2.heap.size, 0, none⟩) 2 2, .bool false, .bool true]) (by simp [results, Tryd.results44]) rfl ⟨⟨_, _, _, rfl, SW_new W2.drew.drew.drew [wd64 p, wd64 g] (by simp), fun k hk => ?_⟩, HC.out.drew.drew.drew.alloc _⟩
    simp [own, Value.ownBlock] at hk
    have := HS2.out
    omega
  · go_enter Tryd.func44, Tryd.ntmps44
    go_wp2_with (first | (refine wpList_box34 rfl _ rfl rfl ?_; try rw [← HW2.out]))
    refine wp_region_t [0, 1, 0, 0, 1, 0, 0, 1, 0, 0, 0, 0] [none, none, none, none, none, none, none, none, none, none, none, none] (fun _ => True) (by kernel_rfl) (by kernel_rfl) (by kernel_rfl) ?_
    go_wp2_with (first | fail | (refine wpG_calc rfl (fun K hK => ?_)) | (refine wpG_skip ?_ ?_; (focus (simp [wantG]; done)); go_simp) | (refine wpG_take ?_ ?_; (focus (simp [wantG]; done))) | (refine wpG_pure (fun K hK => ?_); go_simp; refine hK _ _ ?_; clear hK K) | (refine wpG_deed (by decide) (fun K hK => ?_); go_simp) | (refine wpG_nil ?_))
    refine wp_region_t [0, 1, 0, 0, 1, 0, 0, 1, 0, 0, 0, 0] [none, none, none, none, none, none, none, none, none, none, none, none] (fun _ => True) (by kernel_rfl) (by kernel_rfl) (by kernel_rfl) ?_
    go_wp2_with (first | fail | (refine wpG_calc rfl (fun K hK => ?_)) | (refine wpG_skip ?_ ?_; (focus (simp [wantG]; done)); go_simp) | (refine wpG_take ?_ ?_; (focus (simp [wantG]; done))) | (refine wpG_pure (fun K hK => ?_); go_simp; refine hK _ _ ?_; clear hK K) | (refine wpG_deed (by decide) (fun K hK => ?_); go_simp) | (refine wpG_nil ?_))
    refine wp_region_t [0, 0, 1, 0, 0, 0, 1, 0, 0, 0] [none, none, none, none, none, none, none, none, none, none] (fun _ => True) (by kernel_rfl) (by kernel_rfl) (by kernel_rfl) ?_
    go_wp2_with (first | fail | (refine wpG_calc rfl (fun K hK => ?_)) | (refine wpG_skip ?_ ?_; (focus (simp [wantG]; done)); go_simp) | (refine wpG_take ?_ ?_; (focus (simp [wantG]; done))) | (refine wpG_pure (fun K hK => ?_); go_simp; refine hK _ _ ?_; clear hK K) | (refine wpG_deed (by decide) (fun K hK => ?_); go_simp) | (refine wpG_nil ?_))

    refine bodyPost_ret (v := .tuple #[.slice (some ⟨W2.heap.size, 0, none⟩) 4 4, .bool false, .bool true]) (by simp [results, Tryd.results44]) rfl ⟨⟨_, _, _, rfl, SW_new W2.drew.drew.drew [wd64 p, wd64 g, wd64 c, wd64 n] (by simp), fun k hk => ?_⟩, HC.out.drew.drew.drew.alloc _⟩
    simp [own, Value.ownBlock] at hk
    have := HS2.out
    omega
  · go_enter Tryd.func44, Tryd.ntmps44
    go_wp2_with (first | (refine wpList_box34 rfl _ rfl rfl ?_; try rw [← HW2.out]))
    refine wp_region_t [0, 1, 0, 0, 1, 0, 0, 1, 0, 0, 0, 0] [none, none, none, none, none, none, none, none, none, none, none, none] (fun _ => True) (by kernel_rfl) (by kernel_rfl) (by kernel_rfl) ?_
    go_wp2_with (first | fail | (refine wpG_calc rfl (fun K hK => ?_)) | (refine wpG_skip ?_ ?_; (focus (simp [wantG]; done)); go_simp) | (refine wpG_take ?_ ?_; (focus (simp [wantG]; done))) | (refine wpG_pure (fun K hK => ?_); go_simp; refine hK _ _ ?_; clear hK K) | (refine wpG_deed (by decide) (fun K hK => ?_); go_simp) | (refine wpG_nil ?_))
    refine wp_region_t [0, 1, 0, 0, 1, 0, 0, 1, 0, 0, 0, 0] [none, none, none, none, none, none, none, none, none, none, none, none] (fun _ => True) (by kernel_rfl) (by kernel_rfl) (by kernel_rfl) ?_
    go_wp2_with (first | fail | (refine wpG_calc rfl (fun K hK => ?_)) | (refine wpG_skip ?_ ?_; (focus (simp [wantG]; done)); go_simp) | (refine wpG_take ?_ ?_; (focus (simp [wantG]; done))) | (refine wpG_pure (fun K hK => ?_); go_simp; refine hK _ _ ?_; clear hK K) | (refine wpG_deed (by decide) (fun K hK => ?_); go_simp) | (refine wpG_nil ?_))
    refine wp_region_t [0, 0, 1, 0, 0, 0, 1, 0, 0, 0] [none, none, none, none, none, none, none, none, none, none] (fun _ => True) (by kernel_rfl) (by kernel_rfl) (by kernel_rfl) ?_
    go_wp2_with (first | fail | (refine wpG_calc rfl (fun K hK => ?_)) | (refine wpG_skip ?_ ?_; (focus (simp [wantG]; done)); go_simp) | (refine wpG_take ?_ ?_; (focus (simp [wantG]; done))) | (refine wpG_pure (fun K hK => ?_); go_simp; refine hK _ _ ?_; clear hK K) | (refine wpG_deed (by decide) (fun K hK => ?_); go_simp) | (refine wpG_nil ?_))

    refine bodyPost_ret (v := .tuple #[.slice (some ⟨W2.heap.size, 0, none⟩) 1 1, .bool false, .bool true]) (by simp [results, Tryd.results44]) rfl ⟨⟨_, _, _, rfl, SW_new W2.drew.drew.drew [wd64 n] (by simp), fun k hk => ?_⟩, HC.out.drew.drew.drew.alloc _⟩
    simp [own, Value.ownBlock] at hk
    have := HS2.out
    omega
  · go_enter Tryd.func44, Tryd.ntmps44
    go_wp2_with (first | (refine wpList_box34 rfl _ rfl rfl ?_; try rw [← HW2.out]))
    refine wp_region_t [0, 1, 0, 0, 1, 0, 0, 1, 0, 0, 0, 0] [none, none, none, none, none, none, none, none, none, none, none, none] (fun _ => True) (by kernel_rfl) (by kernel_rfl) (by kernel_rfl) ?_
    go_wp2_with (first | fail | (refine wpG_calc rfl (fun K hK => ?_)) | (refine wpG_skip ?_ ?_; (focus (simp [wantG]; done)); go_simp) | (refine wpG_take ?_ ?_; (focus (simp [wantG]; done))) | (refine wpG_pure (fun K hK => ?_); go_simp; refine hK _ _ ?_; clear hK K) | (refine wpG_deed (by decide) (fun K hK => ?_); go_simp) | (refine wpG_nil ?_))
    refine wp_region_t [0, 1, 0, 0, 1, 0, 0, 1, 0, 0, 0, 0] [none, none, none, none, none, none, none, none, none, none, none, none] (fun _ => True) (by kernel_rfl) (by kernel_rfl) (by kernel_rfl) ?_
    go_wp2_with (first | fail | (refine wpG_calc rfl (fun K hK => ?_)) | (refine wpG_skip ?_ ?_; (focus (simp [wantG]; done)); go_simp) | (refine wpG_take ?_ ?_; (focus (simp [wantG]; done))) | (refine wpG_pure (fun K hK => ?_); go_simp; refine hK _ _ ?_; clear hK K) | (refine wpG_deed (by decide) (fun K hK => ?_); go_simp) | (refine wpG_nil ?_))
    refine wp_region_t [0, 0, 1, 0, 0, 0, 1, 0, 0, 0] [none, none, none, none, none, none, none, none, none, none] (fun _ => True) (by kernel_rfl) (by kernel_rfl) (by kernel_rfl) ?_
    go_wp2_with (first | fail | (refine wpG_calc rfl (fun K hK => ?_)) | (refine wpG_skip ?_ ?_; (focus (simp [wantG]; done)); go_simp) | (refine wpG_take ?_ ?_; (focus (simp [wantG]; done))) | (refine wpG_pure (fun K hK => ?_); go_simp; refine hK _ _ ?_; clear hK K) | (refine wpG_deed (by decide) (fun K hK => ?_); go_simp) | (refine wpG_nil ?_))

    refine bodyPost_ret (v := .tuple #[.slice (some ⟨W2.heap.size, 0, none⟩) 1 1, .bool false, .bool true]) (by simp [results, Tryd.results44]) rfl ⟨⟨_, _, _, rfl, SW_new W2.drew.drew.drew [wd64 n] (by simp), fun k hk => ?_⟩, HC.out.drew.drew.drew.alloc _⟩
    simp [own, Value.ownBlock] at hk
    have := HS2.out
    omega
  · go_enter Tryd.func44, Tryd.ntmps44
    go_wp2_with (first | (refine wpList_box34 rfl _ rfl rfl ?_; try rw [← HW2.out]))
    refine wp_region_t [0, 1, 0, 0, 1, 0, 0, 1, 0, 0, 0, 0] [none, none, none, none, none, none, none, none, none, none, none, none] (fun _ => True) (by kernel_rfl) (by kernel_rfl) (by kernel_rfl) ?_
    go_wp2_with (first | fail | (refine wpG_calc rfl (fun K hK => ?_)) | (refine wpG_skip ?_ ?_; (focus (simp [wantG]; done)); go_simp) | (refine wpG_take ?_ ?_; (focus (simp [wantG]; done))) | (refine wpG_pure (fun K hK => ?_); go_simp; refine hK _ _ ?_; clear hK K) | (refine wpG_deed (by decide) (fun K hK => ?_); go_simp) | (refine wpG_nil ?_))
    refine wp_region_t [0, 1, 0, 0, 1, 0, 0, 1, 0, 0, 0, 0] [none, none, none, none, none, none, none, none, none, none, none, none] (fun _ => True) (by kernel_rfl) (by kernel_rfl) (by kernel_rfl) ?_
    go_wp2_with (first | fail | (refine wpG_calc rfl (fun K hK => ?_)) | (refine wpG_skip ?_ ?_; (focus (simp [wantG]; done)); go_simp) | (refine wpG_take ?_ ?_; (focus (simp [wantG]; done))) | (refine wpG_pure (fun K hK => ?_); go_simp; refine hK _ _ ?_; clear hK K) | (refine wpG_deed (by decide) (fun K hK => ?_); go_simp) | (refine wpG_nil ?_))
    refine wp_region_t [0, 0, 1, 0, 0, 0, 1, 0, 0, 0] [none, none, none, none, none, none, none, none, none, none] (fun _ => True) (by kernel_rfl) (by kernel_rfl) (by kernel_rfl) ?_
    go_wp2_with (first | fail | (refine wpG_calc rfl (fun K hK => ?_)) | (refine wpG_skip ?_ ?_; (focus (simp [wantG]; done)); go_simp) | (refine wpG_take ?_ ?_; (focus (simp [wantG]; done))) | (refine wpG_pure (fun K hK => ?_); go_simp; refine hK _ _ ?_; clear hK K) | (refine wpG_deed (by decide) (fun K hK => ?_); go_simp) | (refine wpG_nil ?_))

    refine bodyPost_ret (v := .tuple #[.slice none 0 0, .bool false, .bool true]) (by simp [results, Tryd.results44]) rfl ⟨⟨_, _, _, rfl, SE.nil _ _ _ _, fun _ h => (own_nil h).elim⟩, HC.out.drew.drew.drew⟩
  · have e1 : fld k = [] := fld_big hk
    have e2 : hasBy k = false := by unfold hasBy; rw [e1]; rfl
    have e3 : isK k = false := by unfold isK; rw [e1]; rfl
    have e4 : refL ⟨k, p, n, g, c, a, s, r, ok, om, h, l⟩ = [] := by unfold refL; simp only; rw [e1]; rfl
    simp only
    rw [e2, e3, e4]
    have q1 : ((k : Int) == 1) = false := beq_false_of_ne (by omega)
    have r1 : decide (k = 1) = false := decide_eq_false (by omega)
    have q2 : ((k : Int) == 2) = false := beq_false_of_ne (by omega)
    have r2 : decide (k = 2) = false := decide_eq_false (by omega)
    have q3 : ((k : Int) == 3) = false := beq_false_of_ne (by omega)
    have r3 : decide (k = 3) = false := decide_eq_false (by omega)
    have q4 : ((k : Int) == 4) = false := beq_false_of_ne (by omega)
    have r4 : decide (k = 4) = false := decide_eq_false (by omega)
    have q5 : ((k : Int) == 5) = false := beq_false_of_ne (by omega)
    have r5 : decide (k = 5) = false := decide_eq_false (by omega)
    have q6 : ((k : Int) == 6) = false := beq_false_of_ne (by omega)
    have r6 : decide (k = 6) = false := decide_eq_false (by omega)
    have q7 : ((k : Int) == 7) = false := beq_false_of_ne (by omega)
    have r7 : decide (k = 7) = false := decide_eq_false (by omega)
    have q8 : ((k : Int) == 8) = false := beq_false_of_ne (by omega)
    have r8 : decide (k = 8) = false := decide_eq_false (by omega)
    have q9 : ((k : Int) == 9) = false := beq_false_of_ne (by omega)
    have r9 : decide (k = 9) = false := decide_eq_false (by omega)
    have q10 : ((k : Int) == 10) = false := beq_false_of_ne (by omega)
    have r10 : decide (k = 10) = false := decide_eq_false (by omega)
    have q11 : ((k : Int) == 11) = false := beq_false_of_ne (by omega)
    have r11 : decide (k = 11) = false := decide_eq_false (by omega)
    have q12 : ((k : Int) == 12) = false := beq_false_of_ne (by omega)
    have r12 : decide (k = 12) = false := decide_eq_false (by omega)
    have q13 : ((k : Int) == 13) = false := beq_false_of_ne (by omega)
    have r13 : decide (k = 13) = false := decide_eq_false (by omega)
    have q14 : ((k : Int) == 14) = false := beq_false_of_ne (by omega)
    have r14 : decide (k = 14) = false := decide_eq_false (by omega)
    have q15 : ((k : Int) == 15) = false := beq_false_of_ne (by omega)
    have r15 : decide (k = 15) = false := decide_eq_false (by omega)
    have q16 : ((k : Int) == 16) = false := beq_false_of_ne (by omega)
    have r16 : decide (k = 16) = false := decide_eq_false (by omega)
    have q17 : ((k : Int) == 17) = false := beq_false_of_ne (by omega)
    have r17 : decide (k = 17) = false := decide_eq_false (by omega)
    have q18 : ((k : Int) == 18) = false := beq_false_of_ne (by omega)
    have r18 : decide (k = 18) = false := decide_eq_false (by omega)
    have q19 : ((k : Int) == 19) = false := beq_false_of_ne (by omega)
    have r19 : decide (k = 19) = false := decide_eq_false (by omega)
    have q20 : ((k : Int) == 20) = false := beq_false_of_ne (by omega)
    have r20 : decide (k = 20) = false := decide_eq_false (by omega)
    have q21 : ((k : Int) == 21) = false := beq_false_of_ne (by omega)
    have r21 : decide (k = 21) = false := decide_eq_false (by omega)
    clear e1 e2 e3 e4

    go_enter Tryd.func44, Tryd.ntmps44
    go_wp2_with (first | (refine wpList_box34 rfl _ rfl rfl ?_; try rw [← HW2.out]))
    refine wp_region_t [0, 1, 0, 0, 1, 0, 0, 1, 0, 0, 0, 0] [none, none, none, none, none, none, none, none, none, none, none, none] (fun _ => True) (by kernel_rfl) (by kernel_rfl) (by kernel_rfl) ?_
    go_wp2_with (first | fail | (refine wpG_calc rfl (fun K hK => ?_)) | (refine wpG_skip ?_ ?_; (focus (simp [wantG]; done)); go_simp) | (refine wpG_take ?_ ?_; (focus (simp [wantG]; done))) | (refine wpG_pure (fun K hK => ?_); go_simp; refine hK _ _ ?_; clear hK K) | (refine wpG_deed (by decide) (fun K hK => ?_); go_simp) | (refine wpG_nil ?_))
    refine wp_region_t [0, 1, 0, 0, 1, 0, 0, 1, 0, 0, 0, 0] [none, none, none, none, none, none, none, none, none, none, none, none] (fun _ => True) (by kernel_rfl) (by kernel_rfl) (by kernel_rfl) ?_
    go_wp2_with (first | fail | (refine wpG_calc rfl (fun K hK => ?_)) | (refine wpG_skip ?_ ?_; (focus (simp [wantG]; done)); go_simp) | (refine wpG_take ?_ ?_; (focus (simp [wantG]; done))) | (refine wpG_pure (fun K hK => ?_); go_simp; refine hK _ _ ?_; clear hK K) | (refine wpG_deed (by decide) (fun K hK => ?_); go_simp) | (refine wpG_nil ?_))
    refine wp_region_t [0, 0, 1, 0, 0, 0, 1, 0, 0, 0] [none, none, none, none, none, none, none, none, none, none] (fun _ => True) (by kernel_rfl) (by kernel_rfl) (by kernel_rfl) ?_
    go_wp2_with (first | fail | (refine wpG_calc rfl (fun K hK => ?_)) | (refine wpG_skip ?_ ?_; (focus (simp [wantG]; done)); go_simp) | (refine wpG_take ?_ ?_; (focus (simp [wantG]; done))) | (refine wpG_pure (fun K hK => ?_); go_simp; refine hK _ _ ?_; clear hK K) | (refine wpG_deed (by decide) (fun K hK => ?_); go_simp) | (refine wpG_nil ?_))

    refine bodyPost_ret (v := .tuple #[.slice none 0 0, .bool false, .bool false]) (by simp [results, Tryd.results44]) rfl ⟨⟨_, _, _, rfl, SE.nil _ _ _ _, fun _ h => (own_nil h).elim⟩, HC.out.drew.drew.drew⟩
end Go.Proofs.YtinlpjgjjplceaaDoor
