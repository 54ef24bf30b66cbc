import Derived.Test.YtbmdcfeiecmlpaaDepE
namespace Go.Proofs.Ytbmdcfeiecmlpaa
open Go Go.RowKit

theorem clamp2 : clamp 2 = 2 := by decide
theorem RO_two (w : World) (x y z u : Int) : RO (w.alloc (.cells #[.int .i64 x, .int .i64 y, .int .i64 z, .int .i64 u] 28)) (.slice (some ⟨w.heap.size, 0, none⟩) 2 2) [(x, y), (z, u)] := Rd_new w 28 2 2 _ rfl
set_option maxHeartbeats 2000000 in
theorem dknown_any (w : World) : Calls Try.prog 13 #[] w fun e w' => e = .returned (.bool true) ∧ Chg [] w w' := by
  go_enter Try.func13, Try.ntmps13
  go_wp2_with fail
  obtain ⟨B, hBd⟩ : ∃ B, B = (w.alloc (.cells #[.int .i64 1, .int .i64 0] 28)).alloc (.cells #[.int .i64 2, .int .i64 0] 28) := ⟨_, rfl⟩
  have hwB : Chg [] w B := by rw [hBd]; exact ((Chg.refl _ _).alloc _).alloc _
  have ba : Blk B w.heap.size 28 #[.int .i64 1, .int .i64 0] := by rw [hBd]; exact (Blk.new w 28 _).alloc _
  have bb : Blk B (w.heap.size + 1) 28 #[.int .i64 2, .int .i64 0] := by
    have h := Blk.new (w.alloc (.cells #[.int .i64 1, .int .i64 0] 28)) 28 #[.int .i64 2, .int .i64 0]
    rw [hBd]; simpa using h
  rw [← hBd]
  clear hBd
  generalize w.heap.size + 1 = b at bb ⊢
  generalize w.heap.size = a at ba ⊢
  refine (dst_new 2 (Chg.refl [] B)).mono ?_
  rintro e W1 ⟨⟨d, rfl, h1, _⟩, _⟩
  rw [clamp2] at h1
  have a0 := (ba.chg h1.below List.not_mem_nil).cell 0; have a1 := (ba.chg h1.below List.not_mem_nil).cell 1; have b0 := (bb.chg h1.below List.not_mem_nil).cell 0; have b1 := (bb.chg h1.below List.not_mem_nil).cell 1; simp at a0 a1 b0 b1
  go_wp2_with fail
  refine (dst_put (h1.chg ((Chg.refl [] W1).alloc _)) (by decide) (by decide) (RO_two W1 1 0 2 0) rfl (by decide)).mono ?_
  rintro e W2 ⟨rfl, h2⟩
  clear a0 a1 b0 b1
  have a0 := (ba.chg h2.below List.not_mem_nil).cell 0; have a1 := (ba.chg h2.below List.not_mem_nil).cell 1; have b0 := (bb.chg h2.below List.not_mem_nil).cell 0; have b1 := (bb.chg h2.below List.not_mem_nil).cell 1; simp at a0 a1 b0 b1
  go_wp2_with fail
  refine (dst_put_no (h2.chg ((Chg.refl [] W2).alloc _)) (by decide) (RO_one W2 1 0) (by decide) (by decide) (.inl (by decide))).mono ?_
  rintro e W3 ⟨rfl, rfl⟩
  have h3 := h2.chg ((Chg.refl [] W2).alloc (.cells #[.int .i64 1, .int .i64 0] 28))
  generalize W2.alloc (.cells #[.int .i64 1, .int .i64 0] 28) = W3 at h3 ⊢
  clear a0 a1 b0 b1
  have a0 := (ba.chg h3.below List.not_mem_nil).cell 0; have a1 := (ba.chg h3.below List.not_mem_nil).cell 1; have b0 := (bb.chg h3.below List.not_mem_nil).cell 0; have b1 := (bb.chg h3.below List.not_mem_nil).cell 1; simp at a0 a1 b0 b1
  go_wp2_with fail
  refine (dst_queue h3 (by decide) 2 0 (by decide)).mono ?_
  rintro e W4 ⟨rfl, h4⟩
  clear a0 a1 b0 b1
  have a0 := (ba.chg h4.below List.not_mem_nil).cell 0; have a1 := (ba.chg h4.below List.not_mem_nil).cell 1; have b0 := (bb.chg h4.below List.not_mem_nil).cell 0; have b1 := (bb.chg h4.below List.not_mem_nil).cell 1; simp at a0 a1 b0 b1
  go_wp2_with fail
  refine (dst_queue h4 (by decide) 1 0 (by decide)).mono ?_
  rintro e W5 ⟨rfl, h5⟩
  clear a0 a1 b0 b1
  have a0 := (ba.chg h5.below List.not_mem_nil).cell 0; have a1 := (ba.chg h5.below List.not_mem_nil).cell 1; have b0 := (bb.chg h5.below List.not_mem_nil).cell 0; have b1 := (bb.chg h5.below List.not_mem_nil).cell 1; simp at a0 a1 b0 b1
  go_wp2_with fail
  refine (dst_get (fs := []) h5 (by decide)).mono ?_
  rintro e W6 ⟨⟨A, c, rfl, hr6, h6⟩, _⟩
  clear a0 a1 b0 b1
  have a0 := (ba.chg h6.below List.not_mem_nil).cell 0; have a1 := (ba.chg h6.below List.not_mem_nil).cell 1; have b0 := (bb.chg h6.below List.not_mem_nil).cell 0; have b1 := (bb.chg h6.below List.not_mem_nil).cell 1; simp at a0 a1 b0 b1
  have hS6 := h6.below
  go_wp2_with fail
  refine wp_region_g [0, 0, 0, 1, 1, 2, 3, 0, 0, 0, 6, 5, 6, 3, 0, 0, 0, 3, 0, 0, 0, 0, 3, 0, 0, 0] [none, none, some (34, true), some (34, true), some (34, true), some (34, true), some (34, true), none, none, some (41, true), some (41, true), some (41, true), some (41, true), some (41, true), none, none, some (48, true), some (48, true), some (48, true), none, none, some (53, true), some (53, true), some (53, true), none, none] [[0, 1, 2, 3, 4, 5, 6, 7, 8, 9, 10, 11, 12, 13, 14, 15, 16, 17, 18, 19, 20, 21, 22, 23, 24, 25], [0, 1, 2, 3, 4, 5, 6, 7, 8, 9, 11, 12, 10, 13, 14, 15, 16, 17, 18, 19, 20, 21, 22, 23, 24, 25]] (fun W => Chg [] B W) (by kernel_rfl) (by kernel_rfl) (by kernel_rfl) (by kernel_rfl) (fun L hL => ?_)
  simp only [List.mem_cons, List.mem_nil_iff, or_false] at hL
  rcases hL with rfl | rfl
  · simp only [picks, List.filterMap_cons, List.filterMap_nil, List.getElem?_cons_succ, List.getElem?_cons_zero]
    go_wp2_with (first | (go_at_call 18; refine (rsame_any (m := [(1, 0), (2, 0)]) (Rd.alloc hr6 _).drew (RO_two W6 1 0 2 0).drew (by decide)).mono ?_; rintro e W7 ⟨rfl, hc7⟩) | (refine wpG_calc rfl (fun K hK => ?_)) | (refine wpG_skip ?_ ?_; (focus (simp [wantG]; done)); go_simp) | (refine wpG_take ?_ ?_; (focus (simp [wantG]; done))) | (refine wpG_pure (fun K hK => ?_); go_simp; refine hK _ _ ?_; clear hK K) | (refine wpG_deed (by decide) (fun K hK => ?_); go_simp) | (refine wpG_nil ?_))
    have h7 := (h6.chg (((Chg.refl [] W6).alloc (.cells #[.int .i64 1, .int .i64 0, .int .i64 2, .int .i64 0] 28)).drew)).chg hc7
    refine wpG_keeps h7.below (fun K hK => ?_)
    go_simp
    refine (dst_drain_to (q1 := [(2, 0)]) (q2 := [(1, 0)]) h7 1 (by decide) (by decide) (by decide)).mono ?_
    rintro e W8 ⟨⟨A8, c8, rfl, hr8, h8⟩, _⟩
    refine hK _ _ h8.below ?_
    clear hK K
    clear a0 a1 b0 b1
    have a0 := (ba.chg h8.below List.not_mem_nil).cell 0; have a1 := (ba.chg h8.below List.not_mem_nil).cell 1; have b0 := (bb.chg h8.below List.not_mem_nil).cell 0; have b1 := (bb.chg h8.below List.not_mem_nil).cell 1; simp at a0 a1 b0 b1
    go_wp2_with (first | (refine wpG_hload 28 _ rfl rfl (fun w' hw' => load_ob (bb.chg hw' List.not_mem_nil)) h8.below ?_; go_simp) | (refine wpG_calc rfl (fun K hK => ?_)) | (refine wpG_skip ?_ ?_; (focus (simp [wantG]; done)); go_simp) | (refine wpG_take ?_ ?_; (focus (simp [wantG]; done))) | (refine wpG_pure (fun K hK => ?_); go_simp; refine hK _ _ ?_; clear hK K) | (refine wpG_deed (by decide) (fun K hK => ?_); go_simp) | (refine wpG_nil ?_))
    refine wpG_keeps h8.below (fun K hK => ?_)
    go_simp
    refine hK _ _ (h8.below.alloc _) ?_
    clear hK K
    have h8' := h8.chg ((Chg.refl [] W8).alloc (.cells #[.int .i64 2, .int .i64 0] 28))
    go_wp2_with (first | (go_at_call 18; refine (rsame_any (m := [(2, 0)]) (Rd.alloc hr8 _) (RO_one W8 2 0) (by decide)).mono ?_; rintro e W9 ⟨rfl, hc9⟩; have h9 := h8'.chg hc9) | (go_at_call 21; refine (dst_queued h9).mono ?_; rintro e w' ⟨rfl, rfl⟩) | (go_at_call 37; refine (dst_fulls h9).mono ?_; rintro e w' ⟨rfl, rfl⟩) | (refine wpG_calc rfl (fun K hK => ?_)) | (refine wpG_skip ?_ ?_; (focus (simp [wantG]; done)); go_simp) | (refine wpG_take ?_ ?_; (focus (simp [wantG]; done))) | (refine wpG_pure (fun K hK => ?_); go_simp; refine hK _ _ ?_; clear hK K) | (refine wpG_deed (by decide) (fun K hK => ?_); go_simp) | (refine wpG_nil ?_))
    go_ret
    exact ⟨rfl, hwB.trans h9.below (fun _ h => by cases h)⟩
  · simp only [picks, List.filterMap_cons, List.filterMap_nil, List.getElem?_cons_succ, List.getElem?_cons_zero]
    go_wp2_with (first | (go_at_call 18; refine (rsame_any (m := [(1, 0), (2, 0)]) (Rd.alloc hr6 _).drew (RO_two W6 1 0 2 0).drew (by decide)).mono ?_; rintro e W7 ⟨rfl, hc7⟩) | (refine wpG_calc rfl (fun K hK => ?_)) | (refine wpG_skip ?_ ?_; (focus (simp [wantG]; done)); go_simp) | (refine wpG_take ?_ ?_; (focus (simp [wantG]; done))) | (refine wpG_pure (fun K hK => ?_); go_simp; refine hK _ _ ?_; clear hK K) | (refine wpG_deed (by decide) (fun K hK => ?_); go_simp) | (refine wpG_nil ?_))
    have h7 := (h6.chg (((Chg.refl [] W6).alloc (.cells #[.int .i64 1, .int .i64 0, .int .i64 2, .int .i64 0] 28)).drew)).chg hc7
    clear a0 a1 b0 b1
    have a0 := (ba.chg h7.below List.not_mem_nil).cell 0; have a1 := (ba.chg h7.below List.not_mem_nil).cell 1; have b0 := (bb.chg h7.below List.not_mem_nil).cell 0; have b1 := (bb.chg h7.below List.not_mem_nil).cell 1; simp at a0 a1 b0 b1
    go_wp2_with (first | (refine wpG_hload 28 _ rfl rfl (fun w' hw' => load_ob (bb.chg hw' List.not_mem_nil)) h7.below ?_; go_simp) | (refine wpG_calc rfl (fun K hK => ?_)) | (refine wpG_skip ?_ ?_; (focus (simp [wantG]; done)); go_simp) | (refine wpG_take ?_ ?_; (focus (simp [wantG]; done))) | (refine wpG_pure (fun K hK => ?_); go_simp; refine hK _ _ ?_; clear hK K) | (refine wpG_deed (by decide) (fun K hK => ?_); go_simp) | (refine wpG_nil ?_))
    refine wpG_keeps h7.below (fun K hK => ?_)
    go_simp
    refine hK _ _ (h7.below.alloc _) ?_
    clear hK K
    have h7' := h7.with_ ((Chg.refl [] W7).alloc (.cells #[.int .i64 2, .int .i64 0] 28)) (v' := .slice (some ⟨W7.heap.size, 0, none⟩) 1 1) (l' := [(2, 0)]) (Sl.made W7 28 2 #[.int .i64 2, .int .i64 0] 1 1 (Nat.le_refl _) (by decide) (Nat.le_refl _)) (fun k hk => by rw [own_mem] at hk; simp [Value.ownBlock] at hk; omega)
    go_wp2_with (first | fail | (refine wpG_calc rfl (fun K hK => ?_)) | (refine wpG_skip ?_ ?_; (focus (simp [wantG]; done)); go_simp) | (refine wpG_take ?_ ?_; (focus (simp [wantG]; done))) | (refine wpG_pure (fun K hK => ?_); go_simp; refine hK _ _ ?_; clear hK K) | (refine wpG_deed (by decide) (fun K hK => ?_); go_simp) | (refine wpG_nil ?_))
    refine wpG_keeps h7'.below (fun K hK => ?_)
    go_simp
    refine (dst_drain_to (q1 := [(2, 0)]) (q2 := [(1, 0)]) h7' 1 (by decide) (by decide) (by decide)).mono ?_
    rintro e W8 ⟨⟨A8, c8, rfl, hr8, h8⟩, hx8⟩
    refine hK _ _ h8.below ?_
    clear hK K
    go_wp2_with (first | (go_at_call 18; refine (rsame_any (m := [(2, 0)]) (hr8) (hx8.ro) (by decide)).mono ?_; rintro e W9 ⟨rfl, hc9⟩; have h9 := h8.chg hc9) | (go_at_call 21; refine (dst_queued h9).mono ?_; rintro e w' ⟨rfl, rfl⟩) | (go_at_call 37; refine (dst_fulls h9).mono ?_; rintro e w' ⟨rfl, rfl⟩) | (refine wpG_calc rfl (fun K hK => ?_)) | (refine wpG_skip ?_ ?_; (focus (simp [wantG]; done)); go_simp) | (refine wpG_take ?_ ?_; (focus (simp [wantG]; done))) | (refine wpG_pure (fun K hK => ?_); go_simp; refine hK _ _ ?_; clear hK K) | (refine wpG_deed (by decide) (fun K hK => ?_); go_simp) | (refine wpG_nil ?_))
    go_ret
    exact ⟨rfl, hwB.trans h9.below (fun _ h => by cases h)⟩
end Go.Proofs.Ytbmdcfeiecmlpaa
