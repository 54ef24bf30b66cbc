/- AreasNone: the walk. -/
import Derived.Test.YtmgjknlpcnakiaaRfG
namespace Go.Proofs.Ytmgjknlpcnakiaa
open Go Go.RowKit Go.Shelf
attribute [local go_sem] Oper.semAt_some

theorem ast_zero {w W : World} {N : List Nat} (hc : Chg [] w W) (hN : ∀ k ∈ N, k < W.heap.size) : ASt w (W.alloc (.cells #[.slice none 0 0] 51)) W.heap.size [] N :=
  ⟨[W.heap.size], ⟨_, Blk.new W 51 _, SE.nil _ _ _ _, fun k hk => by
    rcases List.mem_cons.1 hk with rfl | hk
    · simp
    · exact (own_nil hk).elim, by simp⟩, Sp.nil, fun k hk => by obtain rfl := List.mem_singleton.1 hk; exact ⟨hc.size, fun h => by have := hN _ h; omega⟩, hc.alloc _, fun k hk => by have := hN k hk; simp; omega⟩
set_option maxRecDepth 20000 in
set_option maxHeartbeats 4000000 in
theorem none_any (w : World) (ok op oc og : Int) : Calls Try.prog 8 #[.agg #[.int .i64 ok, .int .i64 op, .int .i64 oc, .int .u8 og]] w fun e w' => e = .returned (.bool true) ∧ Chg [] w w' := by
  obtain ⟨W0, hW0⟩ : ∃ W0, (w.alloc (.cells #[.int .i64 ok, .int .i64 op, .int .i64 oc, .int .u8 og] 28)).alloc (.cells #[.bool false] 4) = W0 := ⟨_, rfl⟩
  have hbx : Blk W0 w.heap.size 28 #[.int .i64 ok, .int .i64 op, .int .i64 oc, .int .u8 og] := by rw [← hW0]; exact (Blk.new w 28 _).alloc _
  have hbr : Blk W0 (w.heap.size + 1) 4 #[.bool false] := by
    rw [← hW0]
    have := Blk.new (w.alloc (.cells #[.int .i64 ok, .int .i64 op, .int .i64 oc, .int .u8 og] 28)) 4 #[.bool false]
    rwa [World.size_alloc] at this
  have hc0 : Chg [] w W0 := by rw [← hW0]; exact ((Chg.refl [] w).alloc _).alloc _
  have hs0 : W0.heap.size = w.heap.size + 1 + 1 := by rw [← hW0]; simp
  have hz := ast_zero (N := [w.heap.size, w.heap.size + 1]) hc0 (by simp; omega)
  have hbx1 := hbx.alloc (.cells #[.slice none 0 0] 51)
  have hbr1 := hbr.alloc (.cells #[.slice none 0 0] 51)
  have fnil := fn_nil
  rw [hs0] at hz
  have HW := hide hW0
  clear hW0 hbx hbr hc0 hs0
  refine calls_marks Try.func8 rfl ?_
  simp only [Try.ntmps8, List.size_toArray, List.length_cons, List.length_nil, Nat.reduceAdd, Nat.reduceSub, Array.replicate_succ, Array.replicate_zero, List.push_toArray, List.append_toArray, List.nil_append, List.cons_append]
  have t1 := hbx1.cell 1
  simp at t1
  rw [← HW.out] at t1 hz hbx1 hbr1
  go_wp2_with fail
  generalize ((w.alloc (.cells #[.int .i64 ok, .int .i64 op, .int .i64 oc, .int .u8 og] 28)).alloc (.cells #[.bool false] 4)).alloc (.cells #[.slice none 0 0] 51) = W1 at t1 hz hbx1 hbr1 ⊢
  have hbr0 : w.heap.size ≤ w.heap.size + 1 := by omega
  have hbx0 : w.heap.size ≤ w.heap.size := Nat.le_refl _
  have hxr : w.heap.size ≠ w.heap.size + 1 := by omega
  clear HW
  generalize w.heap.size + 1 + 1 = bz at hz ⊢
  obtain ⟨bx, hbxe⟩ : ∃ bx, bx = w.heap.size := ⟨_, rfl⟩
  obtain ⟨br, hbre⟩ : ∃ br, br = w.heap.size + 1 := ⟨_, rfl⟩
  have hbx0 : w.heap.size ≤ bx := by omega
  have hbr0 : w.heap.size ≤ br := by omega
  have hxr : bx ≠ br := by omega
  rw [← hbre, ← hbxe] at hz
  rw [← hbxe] at t1 hbx1
  rw [← hbre] at hbr1
  rw [← hbre, ← hbxe]
  clear hbxe hbre
  refine (rights_nil _ _).mono ?_
  rintro e W2 ⟨rfl, rfl⟩
  go_wp2_with fail
  refine (runs_any _ W1).mono ?_
  rintro e W3 ⟨rfl, -, hc3⟩
  go_wp2_with fail
  refine (runs_any _ W3).mono ?_
  rintro e W4 ⟨rfl, hbn, hc4⟩
  have hcc := hc3.stay hc4
  have hz4 := hz.stay hcc
  have hbx4 := hbx1.chg hcc List.not_mem_nil
  have hbr4 := hbr1.chg hcc List.not_mem_nil
  clear hz hbx1 hbr1 t1 hc3 hc4 hcc
  go_wp2_with fail
  refine wp_range_nil rfl hbn fun D W5 hD hdf hc5 => ?_
  have hDlt := (Array.getElem?_eq_some_iff.1 hdf).1
  have hz5 : ASt w W5 bz [] ([D] ++ [bx, br]) := hz4.more (M := [D]) hc5 (by simp; omega)
  have hbx5 := hbx4.chg hc5 List.not_mem_nil
  have hbr5 := hbr4.chg hc5 List.not_mem_nil
  have hD0 : w.heap.size ≤ D := by have := hz4.chg.size; omega
  clear hz4 hbx4 hbr4 hc5 hbn
  have hbW : ∀ k ∈ [D] ++ [bx, br], w.heap.size ≤ k ∧ k < W5.heap.size := by
    have := hbx5.lt
    have := hbr5.lt
    simp
    omega
  have h6 : PSt w (W5.alloc (.cells (pg (fun _ => 0)) 48)) bz [] W5.heap.size [] ([D] ++ [bx, br]) :=
    { st := hz5.more (M := [W5.heap.size]) ((Chg.refl [] W5).alloc _) (by simp), pa := Blk.new W5 48 _, sp := Sp.nil, hb := hz5.chg.size, hN := fun k hk => ⟨(hbW k hk).1, by have := (hbW k hk).2; omega⟩ }
  have hbx6 := hbx5.alloc (.cells (pg (fun _ => 0)) 48)
  have hbr6 := hbr5.alloc (.cells (pg (fun _ => 0)) 48)
  have hd6 : (W5.alloc (.cells (pg (fun _ => 0)) 48)).heap[D]? = some (.deferred (some [])) := (((Chg.refl [] W5).alloc _).block D hDlt List.not_mem_nil).trans hdf
  clear hz5 hbx5 hbr5 hdf hbW hDlt
  go_wp2_with (first | (refine wpList_alloc48 rfl rfl ?_))
  generalize W5.alloc (.cells (pg (fun _ => 0)) 48) = W6 at h6 hbx6 hbr6 hd6 ⊢
  generalize W5.heap.size = b at h6 ⊢
  obtain ⟨y, hy⟩ : ∃ y, mapE [] op oc og = y := ⟨_, rfl⟩
  have hxD := hbx6.drew
  have h6D := hide (h6.stay (Chg.refl [] W6).drew)
  have HR6 := hide hbr6.drew
  have HD6 := hide hd6
  clear h6 hbx6 hbr6 hd6
  refine wp_region_t [0, 0, 0, 0, 0, 5, 0, 5, 0, 5, 6, 0, 0, 0, 0, 0, 5, 0, 5, 6, 0, 0, 0, 0, 0, 5, 0, 5, 0, 5, 6, 0, 0, 0, 0, 0, 5, 0, 5, 6, 0, 0, 0, 0, 6, 0, 0, 0, 0, 6, 0, 0, 0, 0, 5, 0, 5, 0, 5, 6, 0, 5, 0, 5, 0, 5, 6, 0, 0, 0, 6, 0, 0, 6, 0, 3] [none, none, none, some (23, true), some (23, true), some (23, true), some (23, true), some (23, true), some (23, true), some (23, true), some (23, true), some (23, true), none, none, some (34, true), some (34, true), some (34, true), some (34, true), some (34, true), some (34, true), some (34, true), none, none, some (43, true), some (43, true), some (43, true), some (43, true), some (43, true), some (43, true), some (43, true), some (43, true), some (43, true), none, none, some (54, true), some (54, true), some (54, true), some (54, true), some (54, true), some (54, true), some (54, true), none, none, some (63, true), some (63, true), some (63, true), none, none, some (68, true), some (68, true), some (68, true), none, none, some (73, true), some (73, true), some (73, true), some (73, true), some (73, true), some (73, true), some (73, true), some (73, true), some (73, true), some (73, true), some (73, true), some (73, true), some (73, true), some (73, true), some (73, true), none, none, some (90, true), none, none, some (93, true), none, none] (fun W => Blk W bx 28 #[.int .i64 ok, .int .i64 op, .int .i64 oc, .int .u8 og]) (by kernel_rfl) (by kernel_rfl) (by kernel_rfl) ?_
  go_wp2_with (first | (refine wpG_hload 3 _ rfl rfl (fun w' hw' => load_int Try.underlying3 (by simpa using Blk.cell hw' 1)) hxD ?_; go_simp) | (refine wpG_hload 3 _ rfl rfl (fun w' hw' => load_int Try.underlying3 (by simpa using Blk.cell hw' 2)) hxD ?_; go_simp) | (refine wpG_hload 5 _ rfl rfl (fun w' hw' => load_int Try.underlying5 (by simpa using Blk.cell hw' 3)) hxD ?_; go_simp) | (refine wpG_calc rfl (fun K hK => ?_)) | (refine wpG_skip ?_ ?_; (focus (simp [wantG]; done)); go_simp) | (refine wpG_take ?_ ?_; (focus (simp [wantG]; done))) | (refine wpG_pure (fun K hK => ?_); go_simp; refine hK _ _ ?_; clear hK K) | (refine wpG_deed (by decide) (fun K hK => ?_); go_simp) | (refine wpG_nil ?_))
  (refine wpG_keeps hxD (fun K hK => ?_); go_simp; refine (map_nil _ _ _ _).mono ?_; rintro e W5 ⟨rfl, rfl⟩; refine hK _ _ hxD ?_; clear hK K)
  go_wp2_with (first | (refine wpG_hload 3 _ rfl rfl (fun w' hw' => load_int Try.underlying3 (by simpa using Blk.cell hw' 1)) hxD ?_; go_simp) | (refine wpG_hload 3 _ rfl rfl (fun w' hw' => load_int Try.underlying3 (by simpa using Blk.cell hw' 2)) hxD ?_; go_simp) | (refine wpG_hload 5 _ rfl rfl (fun w' hw' => load_int Try.underlying5 (by simpa using Blk.cell hw' 3)) hxD ?_; go_simp) | (refine wpG_calc rfl (fun K hK => ?_)) | (refine wpG_skip ?_ ?_; (focus (simp [wantG]; done)); go_simp) | (refine wpG_take ?_ ?_; (focus (simp [wantG]; done))) | (refine wpG_pure (fun K hK => ?_); go_simp; refine hK _ _ ?_; clear hK K) | (refine wpG_deed (by decide) (fun K hK => ?_); go_simp) | (refine wpG_nil ?_))
  (refine wpG_keeps hxD (fun K hK => ?_); go_simp; refine (un_nil _ _ _).mono ?_; rintro e W5 ⟨rfl, rfl⟩; refine hK _ _ hxD ?_; clear hK K)
  go_wp2_with (first | (refine wpG_hload 3 _ rfl rfl (fun w' hw' => load_int Try.underlying3 (by simpa using Blk.cell hw' 1)) hxD ?_; go_simp) | (refine wpG_hload 3 _ rfl rfl (fun w' hw' => load_int Try.underlying3 (by simpa using Blk.cell hw' 2)) hxD ?_; go_simp) | (refine wpG_hload 5 _ rfl rfl (fun w' hw' => load_int Try.underlying5 (by simpa using Blk.cell hw' 3)) hxD ?_; go_simp) | (refine wpG_calc rfl (fun K hK => ?_)) | (refine wpG_skip ?_ ?_; (focus (simp [wantG]; done)); go_simp) | (refine wpG_take ?_ ?_; (focus (simp [wantG]; done))) | (refine wpG_pure (fun K hK => ?_); go_simp; refine hK _ _ ?_; clear hK K) | (refine wpG_deed (by decide) (fun K hK => ?_); go_simp) | (refine wpG_nil ?_))
  (refine wpG_keeps hxD (fun K hK => ?_); go_simp; refine (pr_nil _ _ _ _).mono ?_; rintro e W5 ⟨rfl, rfl⟩; refine hK _ _ hxD ?_; clear hK K)
  go_wp2_with (first | (refine wpG_hload 3 _ rfl rfl (fun w' hw' => load_int Try.underlying3 (by simpa using Blk.cell hw' 1)) hxD ?_; go_simp) | (refine wpG_hload 3 _ rfl rfl (fun w' hw' => load_int Try.underlying3 (by simpa using Blk.cell hw' 2)) hxD ?_; go_simp) | (refine wpG_hload 5 _ rfl rfl (fun w' hw' => load_int Try.underlying5 (by simpa using Blk.cell hw' 3)) hxD ?_; go_simp) | (refine wpG_calc rfl (fun K hK => ?_)) | (refine wpG_skip ?_ ?_; (focus (simp [wantG]; done)); go_simp) | (refine wpG_take ?_ ?_; (focus (simp [wantG]; done))) | (refine wpG_pure (fun K hK => ?_); go_simp; refine hK _ _ ?_; clear hK K) | (refine wpG_deed (by decide) (fun K hK => ?_); go_simp) | (refine wpG_nil ?_))
  (refine wpG_keeps hxD (fun K hK => ?_); go_simp; refine (md_nil _ _ _).mono ?_; rintro e W5 ⟨rfl, rfl⟩; refine hK _ _ hxD ?_; clear hK K)
  go_wp2_with (first | fail | (refine wpG_calc rfl (fun K hK => ?_)) | (refine wpG_skip ?_ ?_; (focus (simp [wantG]; done)); go_simp) | (refine wpG_take ?_ ?_; (focus (simp [wantG]; done))) | (refine wpG_pure (fun K hK => ?_); go_simp; refine hK _ _ ?_; clear hK K) | (refine wpG_deed (by decide) (fun K hK => ?_); go_simp) | (refine wpG_nil ?_))
  (refine wpG_keeps hxD (fun K hK => ?_); go_simp; refine (len_nil _).mono ?_; rintro e W5 ⟨rfl, rfl⟩; refine hK _ _ hxD ?_; clear hK K)
  go_wp2_with (first | fail | (refine wpG_calc rfl (fun K hK => ?_)) | (refine wpG_skip ?_ ?_; (focus (simp [wantG]; done)); go_simp) | (refine wpG_take ?_ ?_; (focus (simp [wantG]; done))) | (refine wpG_pure (fun K hK => ?_); go_simp; refine hK _ _ ?_; clear hK K) | (refine wpG_deed (by decide) (fun K hK => ?_); go_simp) | (refine wpG_nil ?_))
  (refine wpG_keeps hxD (fun K hK => ?_); go_simp; refine (copy_nil _).mono ?_; rintro e W5 ⟨rfl, rfl⟩; refine hK _ _ hxD ?_; clear hK K)
  go_wp2_with (first | (refine wpG_hload 3 _ rfl rfl (fun w' hw' => load_int Try.underlying3 (by simpa using Blk.cell hw' 1)) hxD ?_; go_simp) | (refine wpG_hload 3 _ rfl rfl (fun w' hw' => load_int Try.underlying3 (by simpa using Blk.cell hw' 2)) hxD ?_; go_simp) | (refine wpG_hload 5 _ rfl rfl (fun w' hw' => load_int Try.underlying5 (by simpa using Blk.cell hw' 3)) hxD ?_; go_simp) | (refine wpG_calc rfl (fun K hK => ?_)) | (refine wpG_skip ?_ ?_; (focus (simp [wantG]; done)); go_simp) | (refine wpG_take ?_ ?_; (focus (simp [wantG]; done))) | (refine wpG_pure (fun K hK => ?_); go_simp; refine hK _ _ ?_; clear hK K) | (refine wpG_deed (by decide) (fun K hK => ?_); go_simp) | (refine wpG_nil ?_))
  (refine wpG_keeps hxD (fun K hK => ?_))
  go_simp
  refine (ps_map h6D.out op oc og).mono ?_
  rw [hy]
  rintro e W7 ⟨rfl, h7, hk7⟩
  have hx7 := hk7.blk hxD (by simp)
  refine hK _ _ hx7 ?_
  clear hK K
  have h7D := hide h7
  have HR7 := hide (hk7.blk HR6.out (by simp))
  have HD7 := hide ((hk7 D (by simp)).trans HD6.out)
  clear h7 hk7 h6D HR6 HD6 hxD
  go_wp2_with (first | (refine wpG_hload 3 _ rfl rfl (fun w' hw' => load_int Try.underlying3 (by simpa using Blk.cell hw' 1)) hx7 ?_; go_simp) | (refine wpG_hload 3 _ rfl rfl (fun w' hw' => load_int Try.underlying3 (by simpa using Blk.cell hw' 2)) hx7 ?_; go_simp) | (refine wpG_hload 5 _ rfl rfl (fun w' hw' => load_int Try.underlying5 (by simpa using Blk.cell hw' 3)) hx7 ?_; go_simp) | (refine wpG_calc rfl (fun K hK => ?_)) | (refine wpG_skip ?_ ?_; (focus (simp [wantG]; done)); go_simp) | (refine wpG_take ?_ ?_; (focus (simp [wantG]; done))) | (refine wpG_pure (fun K hK => ?_); go_simp; refine hK _ _ ?_; clear hK K) | (refine wpG_deed (by decide) (fun K hK => ?_); go_simp) | (refine wpG_nil ?_))
  (refine wpG_keeps hx7 (fun K hK => ?_))
  go_simp
  refine (ps_rmap h7D.out op oc og).mono ?_
  rw [hy]
  rintro e W8 ⟨rfl, h8, hk8⟩
  have hx8 := hk8.blk hx7 (by simp)
  refine hK _ _ hx8 ?_
  clear hK K
  have h8D := hide h8
  have HR8 := hide (hk8.blk HR7.out (by simp))
  have HD8 := hide ((hk8 D (by simp)).trans HD7.out)
  clear h8 hk8 h7D HR7 HD7 hx7
  go_wp2_with (first | fail | (refine wpG_calc rfl (fun K hK => ?_)) | (refine wpG_skip ?_ ?_; (focus (simp [wantG]; done)); go_simp) | (refine wpG_take ?_ ?_; (focus (simp [wantG]; done))) | (refine wpG_pure (fun K hK => ?_); go_simp; refine hK _ _ ?_; clear hK K) | (refine wpG_deed (by decide) (fun K hK => ?_); go_simp) | (refine wpG_nil ?_))
  (refine wpG_keeps hx8 (fun K hK => ?_))
  go_simp
  refine (ps_same h8D.out).mono ?_
  rintro e W9 ⟨rfl, h9, hc9⟩
  have hx9 := hx8.chg hc9 List.not_mem_nil
  refine hK _ _ hx9 ?_
  clear hK K
  have hch9 := h9.chg
  have HR9 := hide (HR8.out.chg hc9 List.not_mem_nil)
  have HD9 := hide ((hc9.block D (Array.getElem?_eq_some_iff.1 HD8.out).1 List.not_mem_nil).trans HD8.out)
  clear h9 hc9 h8D HR8 HD8 hx8
  go_wp2_with (first | fail | (refine wpG_calc rfl (fun K hK => ?_)) | (refine wpG_skip ?_ ?_; (focus (simp [wantG]; done)); go_simp) | (refine wpG_take ?_ ?_; (focus (simp [wantG]; done))) | (refine wpG_pure (fun K hK => ?_); go_simp; refine hK _ _ ?_; clear hK K) | (refine wpG_deed (by decide) (fun K hK => ?_); go_simp) | (refine wpG_nil ?_))
  (refine wpG_keeps hx9 (fun K hK => ?_))
  go_simp
  refine (known_any W9).mono ?_
  rintro e W10 ⟨rfl, hc10⟩
  refine hK _ _ (hx9.chg hc10 List.not_mem_nil) ?_
  clear hK K
  have hr10 := HR9.out.chg hc10 List.not_mem_nil
  obtain ⟨z1, z2, z3⟩ := blk_res hr10
  have hd10 : W10.heap[D]? = some (.deferred (some [])) := (hc10.block D (Array.getElem?_eq_some_iff.1 HD9.out).1 List.not_mem_nil).trans HD9.out
  have HDD := hide hd10
  have hch10 := hch9.stay hc10
  clear hc10 HR9 HD9 hx9 hch9 hd10
  go_wp2_with (first | fail | (refine wpG_calc rfl (fun K hK => ?_)) | (refine wpG_skip ?_ ?_; (focus (simp [wantG]; done)); go_simp) | (refine wpG_take ?_ ?_; (focus (simp [wantG]; done))) | (refine wpG_pure (fun K hK => ?_); go_simp; refine hK _ _ ?_; clear hK K) | (refine wpG_deed (by decide) (fun K hK => ?_); go_simp) | (refine wpG_nil ?_))
  have hDbr : D ≠ br := fun e => by
    have h1 := HDD.out
    rw [e] at h1
    have h2 : W10.heap[br]? = some (.cells #[.bool false] 4 (0, 0)) := hr10
    rw [h1] at h2
    cases h2
  exact post_marks (Ds := [D]) ⟨by simp, fun E hE => by obtain rfl := List.mem_singleton.1 hE; exact (Below.heap_setCell _ ⟨br, 0, none⟩ _ E hDbr).trans HDD.out⟩ fun W' hc => ⟨res_box rfl rfl (z3.chg hc (by simp; exact fun e => hDbr e.symm)), rfl, (hch10.setCell (.inr hbr0) _).trans hc (fun x hx => .inr (by obtain rfl := List.mem_singleton.1 hx; exact hD0))⟩
end Go.Proofs.Ytmgjknlpcnakiaa
