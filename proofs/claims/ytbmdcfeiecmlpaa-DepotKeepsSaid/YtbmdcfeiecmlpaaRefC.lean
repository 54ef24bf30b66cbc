import Derived.Test.YtbmdcfeiecmlpaaRefB
import Derived.Test.YtbmdcfeiecmlpaaTextG
namespace Go.Proofs.Ytbmdcfeiecmlpaa
open Go Go.RowKit


theorem load_ob {w : World} {g : Nat} {x y : Int} (h : Blk w g 28 #[.int .i64 x, .int .i64 y]) : (loadVar 28 ⟨g, 0, none⟩).run Try.prog w = .ok (.agg #[.int .i64 x, .int .i64 y]) w := by
  obtain ⟨i28, hi, hz, hi1, hi2⟩ := info_parts info28
  have c0 := h.cell 0
  have c1 := h.cell 1
  simp at c0 c1
  simp [loadVar, isAgg, run_underlying Try.underlying28, sizeOf, typeInfo, hi, hi1, loadCells, loadCellsFrom, load, Sem.run, Addr.add, c0, c1]

theorem rput_fin {w W0 W5 : World} {p r : Nat} {a b l : List Ob} {F : List Nat} {V : Value} (hm : RMem W0 p r a b F) (hw : Chg F w W0) (hc : Chg [] W0 W5) (hs : SO W5 V l) (hV : ∀ k, V.ownBlock = some k → W0.heap.size ≤ k) :
    (∃ F', RMem (W5.setCell ⟨p, 1, none⟩ V) p r l b F' ∧ Step F F' w) ∧ Chg F w (W5.setCell ⟨p, 1, none⟩ V) := by
  obtain ⟨_, _, _, _, _, _, _, hp, _, _, _, hF⟩ := hm.open_
  refine ⟨⟨_, (hm.chg hc (by simp)).put0 hs hF hV, fun k hk => ?_⟩, (hw.trans hc (by simp)).setCell (.inl hp) _⟩
  rcases List.mem_append.1 hk with hk | hk
  · exact .inr (Nat.le_trans hw.size (hV k (by simpa using hk)))
  · exact .inl hk

set_option maxHeartbeats 1000000 in
theorem rput_walk {w : World} {p r : Nat} {a b : List Ob} {F : List Nat} (hr : 1 ≤ r) (hr2 : r ≤ 32) (hm : RMem w p r a b F) (x y : Int) (hl : a.length < r) :
    Calls Try.prog 29 #[.pointer (some ⟨p, 0, none⟩), .agg #[.int .i64 x, .int .i64 y]] w fun e w' => e = .returned (.bool true) ∧ (∃ F', RMem w' p r (a ++ [(x, y)]) b F' ∧ Step F F' w) ∧ Chg F w w' := by
  obtain ⟨A0, k0, A1, k1, hb, h0, h1, hp, f0, f1, hne, hF⟩ := hm.open_
  have hp1 := hF p hp
  have hp2 : p < w.heap.size + 1 := by omega
  have hb1 := hb.alloc (.cells #[.int .i64 x, .int .i64 y] 28)
  have c0 := hb.cell 0
  have c1 := hb.cell 1
  simp at c0 c1
  have d0 : ((a.length : Int) == (r : Int)) = false := beq_eq_false_iff_ne.2 (by omega)
  go_enter Try.func29, Try.ntmps29
  go_wp2_with (first | fail | (refine wpT_calc0 rfl rfl (fun K hK => ?_)) | (refine wpT_skipG rfl ?_ ?_; focus (simp [yielded]; done); go_simp) | (refine wpT_calcG rfl rfl ?_ (fun K hK => ?_); focus (simp [yielded]; done)) | (refine wpT_pure (fun K hK => ?_); go_simp; refine hK _ _ ?_; clear hK K) | (refine wpT_plain (by decide) rfl (fun K hK => ?_)) | (refine wpT_deed (by decide) (fun K hK => ?_); go_simp) | (refine wpT_nil ?_))
  refine wp_region_t [0, 0, 0, 1, 0, 0, 0, 0, 1, 0, 0, 0, 0, 0, 1, 0, 0, 0, 0, 1, 0, 0] [none, none, none, none, none, none, none, none, none, none, none, some (15, true), some (15, true), some (15, true), some (15, true), some (15, true), some (15, true), some (15, true), some (15, true), some (15, true), some (15, true), none] (fun _ => True) (by kernel_rfl) (by kernel_rfl) (by kernel_rfl) ?_
  go_wp2_with (first | fail | (refine wpG_calc rfl (fun K hK => ?_)) | (refine wpG_skip ?_ ?_; (focus (simp [wantG]; done)); go_simp) | (refine wpG_take ?_ ?_; (focus (simp [wantG]; done))) | (refine wpG_pure (fun K hK => ?_); go_simp; refine hK _ _ ?_; clear hK K) | (refine wpG_deed (by decide) (fun K hK => ?_); go_simp) | (refine wpG_nil ?_))
  refine wp_region_t [0, 0, 0, 1, 0, 0, 0, 0, 1, 0] [none, none, none, none, none, none, none, none, none, none] (fun _ => True) (by kernel_rfl) (by kernel_rfl) (by kernel_rfl) ?_
  go_wp2_with (first | fail | (refine wpG_calc rfl (fun K hK => ?_)) | (refine wpG_skip ?_ ?_; (focus (simp [wantG]; done)); go_simp) | (refine wpG_take ?_ ?_; (focus (simp [wantG]; done))) | (refine wpG_pure (fun K hK => ?_); go_simp; refine hK _ _ ?_; clear hK K) | (refine wpG_deed (by decide) (fun K hK => ?_); go_simp) | (refine wpG_nil ?_))
  have hcW : Chg F w (w.alloc (.cells #[.int .i64 x, .int .i64 y] 28)).drew.drew := ((Chg.refl F w).alloc _).drew.drew
  have hmW := hm.chg (((Chg.refl [] w).alloc (.cells #[.int .i64 x, .int .i64 y] 28)).drew.drew) (by simp)
  have hz : Blk (w.alloc (.cells #[.int .i64 x, .int .i64 y] 28)).drew.drew w.heap.size 28 #[.int .i64 x, .int .i64 y] := (Blk.new w 28 _).drew.drew
  have hzne : p ≠ w.heap.size := by omega
  generalize w.heap.size = z at hz hzne
  clear hb h0 h1 hp f0 f1 hne hF hp1 hp2 hb1 c0 c1
  generalize (w.alloc (.cells #[.int .i64 x, .int .i64 y] 28)).drew.drew = W0 at hcW hmW hz
  -- here: hmW : RMem W0 p r a b F, hz : Blk W0 z 28 _, hcW : Chg F w W0
  obtain ⟨A0, k0, A1, k1, hb, h0, h1, hp, f0, f1, hne, hF⟩ := hmW.open_
  have c1 := hb.cell 1
  simp at c1
  have hz1 := hz.lt
  have hp1 := hF p hp
  refine wp_region_g [0,6,0,0,0,5,6,5,6,3,0,0,3] (List.replicate 13 none) [[0,1,2,3,4,5,6,7,8,9,10,11,12], [0,1,2,3,4,5,7,8,6,9,10,11,12], [7,8,0,1,2,3,4,5,6,9,10,11,12]] (fun W => Chg [] W0 W) (by kernel_rfl) (by kernel_rfl) (by kernel_rfl) (by kernel_rfl) (fun L hL => ?_)
  have hS0 : Chg [] W0 W0.drew := (Chg.refl _ _).drew
  have e2 : ([] : List Ob).length + a.length = a.length := by simp
  have e3 : a.length + [(x, y)].length = a.length + 1 := rfl
  simp only [List.mem_cons, List.mem_nil_iff, or_false] at hL
  rcases hL with rfl | rfl | rfl
  · simp only [picks, List.replicate, List.filterMap_cons, List.filterMap_nil, List.getElem?_cons_succ, List.getElem?_cons_zero]
    go_wp2_with (first | fail | (refine wpG_calc rfl (fun K hK => ?_)) | (refine wpG_skip ?_ ?_; (focus (simp [wantG]; done)); go_simp) | (refine wpG_take ?_ ?_; (focus (simp [wantG]; done))) | (refine wpG_pure (fun K hK => ?_); go_simp; refine hK _ _ ?_; clear hK K) | (refine wpG_deed (by decide) (fun K hK => ?_); go_simp) | (refine wpG_nil ?_))
    refine wpG_keeps hS0 (fun K hK => ?_)
    go_simp
    have hS1 : Chg [] W0 (W0.alloc (.cells #[] 28)).drew := ((Chg.refl _ _).alloc _).drew
    refine hK _ _ hS1 ?_
    clear hK K
    go_wp2_with (first | (refine wpG_hload 22 _ rfl rfl (fun w' hw' => load_slice Try.underlying22 (hw'.cell c1 List.not_mem_nil)) hS1 ?_; go_simp) | (refine wpG_calc rfl (fun K hK => ?_)) | (refine wpG_skip ?_ ?_; (focus (simp [wantG]; done)); go_simp) | (refine wpG_take ?_ ?_; (focus (simp [wantG]; done))) | (refine wpG_pure (fun K hK => ?_); go_simp; refine hK _ _ ?_; clear hK K) | (refine wpG_deed (by decide) (fun K hK => ?_); go_simp) | (refine wpG_nil ?_))
    refine wpG_keeps hS1 (fun K hK => ?_)
    refine wp_append_ob _ _ rfl (.slice (some ⟨W0.heap.size, 0, none⟩) 0 0) (.slice A0 a.length k0) rfl rfl (SO_nil_new W0).drew (Rd.chg h0.ro hS1 (fun _ _ h => by cases h)) (by simp; omega) ?_
    intro A2 k2 w2 hs2 hc2 ho2
    rw [e2, List.nil_append] at hs2
    rw [e2] at ho2
    rw [e2]
    have hS2 : Chg [] W0 w2 := hS1.trans hc2 (fun k hk => .inr (by have : k = W0.heap.size := (by simpa [Value.ownBlock, eq_comm] using hk); omega))
    have hV2 : ∀ k, (Value.slice A2 a.length k2).ownBlock = some k → W0.heap.size ≤ k := fun k hk => by
      rcases ho2 with e | e
      · rw [hk] at e; simp [Value.ownBlock] at e; omega
      · rw [hk] at e; simp at e; omega
    refine hK _ _ hS2 ?_
    clear hK K
    go_wp2_with (first | (refine wpG_hload 28 _ rfl rfl (fun w' hw' => load_ob (hz.chg hw' List.not_mem_nil)) hS2 ?_; go_simp) | (refine wpG_calc rfl (fun K hK => ?_)) | (refine wpG_skip ?_ ?_; (focus (simp [wantG]; done)); go_simp) | (refine wpG_take ?_ ?_; (focus (simp [wantG]; done))) | (refine wpG_pure (fun K hK => ?_); go_simp; refine hK _ _ ?_; clear hK K) | (refine wpG_deed (by decide) (fun K hK => ?_); go_simp) | (refine wpG_nil ?_))
    refine wpG_keeps hS2 (fun K hK => ?_)
    go_simp
    have hS3 : Chg [] W0 (w2.alloc (.cells #[.int .i64 x, .int .i64 y] 28)) := hS2.alloc _
    refine hK _ _ hS3 ?_
    clear hK K
    refine wpG_deed (by decide) (fun K hK => ?_)
    refine wp_append_ob _ _ rfl (.slice A2 a.length k2) (.slice (some ⟨w2.heap.size, 0, none⟩) 1 1) rfl rfl (Sl.alloc hs2 _) (RO_one w2 x y) (by simp; omega) ?_
    intro A3 k3 w3 hs3 hc3 ho3
    rw [e3] at hs3 ho3
    rw [e3]
    have hS4 : Chg [] W0 w3 := hS3.trans hc3 (fun k hk => .inr (hV2 k (by simpa using hk)))
    have hV3 : ∀ k, (Value.slice A3 (a.length + 1) k3).ownBlock = some k → W0.heap.size ≤ k := fun k hk => by
      rcases ho3 with e | e
      · exact hV2 k (by rw [← e]; exact hk)
      · rw [hk] at e; have := hS3.size; simp at e this; omega
    refine hK _ _ ?_
    clear hK K
    have hb3 := hb.chg hS4 List.not_mem_nil
    have x3 := hb3.cell 1
    have y3 := hb3.frozen 1
    simp at x3
    go_wp2_with (first | fail | (refine wpG_calc rfl (fun K hK => ?_)) | (refine wpG_skip ?_ ?_; (focus (simp [wantG]; done)); go_simp) | (refine wpG_take ?_ ?_; (focus (simp [wantG]; done))) | (refine wpG_pure (fun K hK => ?_); go_simp; refine hK _ _ ?_; clear hK K) | (refine wpG_deed (by decide) (fun K hK => ?_); go_simp) | (refine wpG_nil ?_))
    go_ret
    have e4 : (a ++ [(x, y)]).length = a.length + 1 := by simp
    exact ⟨rfl, rput_fin hmW hcW hS4 hs3 hV3⟩
  · simp only [picks, List.replicate, List.filterMap_cons, List.filterMap_nil, List.getElem?_cons_succ, List.getElem?_cons_zero]
    go_wp2_with (first | fail | (refine wpG_calc rfl (fun K hK => ?_)) | (refine wpG_skip ?_ ?_; (focus (simp [wantG]; done)); go_simp) | (refine wpG_take ?_ ?_; (focus (simp [wantG]; done))) | (refine wpG_pure (fun K hK => ?_); go_simp; refine hK _ _ ?_; clear hK K) | (refine wpG_deed (by decide) (fun K hK => ?_); go_simp) | (refine wpG_nil ?_))
    refine wpG_keeps hS0 (fun K hK => ?_)
    go_simp
    have hS1 : Chg [] W0 (W0.alloc (.cells #[] 28)).drew := ((Chg.refl _ _).alloc _).drew
    refine hK _ _ hS1 ?_
    clear hK K
    go_wp2_with (first | (refine wpG_hload 22 _ rfl rfl (fun w' hw' => load_slice Try.underlying22 (hw'.cell c1 List.not_mem_nil)) hS1 ?_; go_simp) | (refine wpG_hload 28 _ rfl rfl (fun w' hw' => load_ob (hz.chg hw' List.not_mem_nil)) hS1 ?_; go_simp) | (refine wpG_calc rfl (fun K hK => ?_)) | (refine wpG_skip ?_ ?_; (focus (simp [wantG]; done)); go_simp) | (refine wpG_take ?_ ?_; (focus (simp [wantG]; done))) | (refine wpG_pure (fun K hK => ?_); go_simp; refine hK _ _ ?_; clear hK K) | (refine wpG_deed (by decide) (fun K hK => ?_); go_simp) | (refine wpG_nil ?_))
    refine wpG_keeps hS1 (fun K hK => ?_)
    go_simp
    have hS2 : Chg [] W0 ((W0.alloc (.cells #[] 28)).alloc (.cells #[.int .i64 x, .int .i64 y] 28)).drew := (((Chg.refl _ _).alloc _).alloc _).drew
    have hn2 : SO ((W0.alloc (.cells #[] 28)).alloc (.cells #[.int .i64 x, .int .i64 y] 28)).drew (.slice (some ⟨W0.heap.size, 0, none⟩) 0 0) [] := ((SO_nil_new W0).alloc _).drew
    have hr2 : RO ((W0.alloc (.cells #[] 28)).alloc (.cells #[.int .i64 x, .int .i64 y] 28)).drew (.slice (some ⟨W0.heap.size + 1, 0, none⟩) 1 1) [(x, y)] := by have h := (RO_one (W0.alloc (.cells #[] 28)) x y).drew; rw [show (W0.alloc (.cells #[] 28)).heap.size = W0.heap.size + 1 by simp] at h; exact h
    refine hK _ _ hS2 ?_
    clear hK K
    refine wpG_keeps hS2 (fun K hK => ?_)
    refine wp_append_ob _ _ rfl (.slice (some ⟨W0.heap.size, 0, none⟩) 0 0) (.slice A0 a.length k0) rfl rfl hn2 (Rd.chg h0.ro hS2 (fun _ _ h => by cases h)) (by simp; omega) ?_
    intro A2 k2 w2 hs2 hc2 ho2
    rw [e2, List.nil_append] at hs2
    rw [e2] at ho2
    rw [e2]
    have hS3 : Chg [] W0 w2 := hS2.trans hc2 (fun k hk => .inr (by have : k = W0.heap.size := (by simpa [Value.ownBlock, eq_comm] using hk); omega))
    have hV2 : ∀ k, (Value.slice A2 a.length k2).ownBlock = some k → W0.heap.size ≤ k := fun k hk => by
      rcases ho2 with e | e
      · rw [hk] at e; simp [Value.ownBlock] at e; omega
      · rw [hk] at e; simp at e; omega
    refine hK _ _ hS3 ?_
    clear hK K
    refine wpG_deed (by decide) (fun K hK => ?_)
    refine wp_append_ob _ _ rfl (.slice A2 a.length k2) (.slice (some ⟨W0.heap.size + 1, 0, none⟩) 1 1) rfl rfl hs2 (Rd.chg hr2 hc2 (fun k hk => by simp [Value.ownBlock] at hk ⊢; omega)) (by simp; omega) ?_
    intro A3 k3 w3 hs3 hc3 ho3
    rw [e3] at hs3 ho3
    rw [e3]
    have hS4 : Chg [] W0 w3 := hS3.trans hc3 (fun k hk => .inr (hV2 k (by simpa using hk)))
    have hV3 : ∀ k, (Value.slice A3 (a.length + 1) k3).ownBlock = some k → W0.heap.size ≤ k := fun k hk => by
      rcases ho3 with e | e
      · exact hV2 k (by rw [← e]; exact hk)
      · rw [hk] at e; have := hS3.size; simp at e this; omega
    refine hK _ _ ?_
    clear hK K
    have hb3 := hb.chg hS4 List.not_mem_nil
    have x3 := hb3.cell 1
    have y3 := hb3.frozen 1
    simp at x3
    go_wp2_with (first | fail | (refine wpG_calc rfl (fun K hK => ?_)) | (refine wpG_skip ?_ ?_; (focus (simp [wantG]; done)); go_simp) | (refine wpG_take ?_ ?_; (focus (simp [wantG]; done))) | (refine wpG_pure (fun K hK => ?_); go_simp; refine hK _ _ ?_; clear hK K) | (refine wpG_deed (by decide) (fun K hK => ?_); go_simp) | (refine wpG_nil ?_))
    go_ret
    have e4 : (a ++ [(x, y)]).length = a.length + 1 := by simp
    exact ⟨rfl, rput_fin hmW hcW hS4 hs3 hV3⟩
  · simp only [picks, List.replicate, List.filterMap_cons, List.filterMap_nil, List.getElem?_cons_succ, List.getElem?_cons_zero]
    go_wp2_with (first | (refine wpG_hload 28 _ rfl rfl (fun w' hw' => load_ob (hz.chg hw' List.not_mem_nil)) hS0 ?_; go_simp) | (refine wpG_calc rfl (fun K hK => ?_)) | (refine wpG_skip ?_ ?_; (focus (simp [wantG]; done)); go_simp) | (refine wpG_take ?_ ?_; (focus (simp [wantG]; done))) | (refine wpG_pure (fun K hK => ?_); go_simp; refine hK _ _ ?_; clear hK K) | (refine wpG_deed (by decide) (fun K hK => ?_); go_simp) | (refine wpG_nil ?_))
    refine wpG_keeps hS0 (fun K hK => ?_)
    go_simp
    have hS1 : Chg [] W0 (W0.alloc (.cells #[.int .i64 x, .int .i64 y] 28)).drew := ((Chg.refl _ _).alloc _).drew
    refine hK _ _ hS1 ?_
    clear hK K
    go_wp2_with (first | fail | (refine wpG_calc rfl (fun K hK => ?_)) | (refine wpG_skip ?_ ?_; (focus (simp [wantG]; done)); go_simp) | (refine wpG_take ?_ ?_; (focus (simp [wantG]; done))) | (refine wpG_pure (fun K hK => ?_); go_simp; refine hK _ _ ?_; clear hK K) | (refine wpG_deed (by decide) (fun K hK => ?_); go_simp) | (refine wpG_nil ?_))
    refine wpG_keeps hS1 (fun K hK => ?_)
    go_simp
    have hS2 : Chg [] W0 ((W0.alloc (.cells #[.int .i64 x, .int .i64 y] 28)).alloc (.cells #[] 28)).drew := (((Chg.refl _ _).alloc _).alloc _).drew
    have hn2 : SO ((W0.alloc (.cells #[.int .i64 x, .int .i64 y] 28)).alloc (.cells #[] 28)).drew (.slice (some ⟨W0.heap.size + 1, 0, none⟩) 0 0) [] := by have h := (SO_nil_new (W0.alloc (.cells #[.int .i64 x, .int .i64 y] 28))).drew; rw [show (W0.alloc (.cells #[.int .i64 x, .int .i64 y] 28)).heap.size = W0.heap.size + 1 by simp] at h; exact h
    have hr2 : RO ((W0.alloc (.cells #[.int .i64 x, .int .i64 y] 28)).alloc (.cells #[] 28)).drew (.slice (some ⟨W0.heap.size, 0, none⟩) 1 1) [(x, y)] := ((RO_one W0 x y).alloc _).drew
    refine hK _ _ hS2 ?_
    clear hK K
    go_wp2_with (first | (refine wpG_hload 22 _ rfl rfl (fun w' hw' => load_slice Try.underlying22 (hw'.cell c1 List.not_mem_nil)) hS2 ?_; go_simp) | (refine wpG_calc rfl (fun K hK => ?_)) | (refine wpG_skip ?_ ?_; (focus (simp [wantG]; done)); go_simp) | (refine wpG_take ?_ ?_; (focus (simp [wantG]; done))) | (refine wpG_pure (fun K hK => ?_); go_simp; refine hK _ _ ?_; clear hK K) | (refine wpG_deed (by decide) (fun K hK => ?_); go_simp) | (refine wpG_nil ?_))
    refine wpG_keeps hS2 (fun K hK => ?_)
    refine wp_append_ob _ _ rfl (.slice (some ⟨W0.heap.size + 1, 0, none⟩) 0 0) (.slice A0 a.length k0) rfl rfl hn2 (Rd.chg h0.ro hS2 (fun _ _ h => by cases h)) (by simp; omega) ?_
    intro A2 k2 w2 hs2 hc2 ho2
    rw [e2, List.nil_append] at hs2
    rw [e2] at ho2
    rw [e2]
    have hS3 : Chg [] W0 w2 := hS2.trans hc2 (fun k hk => .inr (by have : k = W0.heap.size + 1 := (by simpa [Value.ownBlock, eq_comm] using hk); omega))
    have hV2 : ∀ k, (Value.slice A2 a.length k2).ownBlock = some k → W0.heap.size ≤ k := fun k hk => by
      rcases ho2 with e | e
      · rw [hk] at e; simp [Value.ownBlock] at e; omega
      · rw [hk] at e; simp at e; omega
    refine hK _ _ hS3 ?_
    clear hK K
    refine wpG_deed (by decide) (fun K hK => ?_)
    refine wp_append_ob _ _ rfl (.slice A2 a.length k2) (.slice (some ⟨W0.heap.size, 0, none⟩) 1 1) rfl rfl hs2 (Rd.chg hr2 hc2 (fun k hk => by simp [Value.ownBlock] at hk ⊢; omega)) (by simp; omega) ?_
    intro A3 k3 w3 hs3 hc3 ho3
    rw [e3] at hs3 ho3
    rw [e3]
    have hS4 : Chg [] W0 w3 := hS3.trans hc3 (fun k hk => .inr (hV2 k (by simpa using hk)))
    have hV3 : ∀ k, (Value.slice A3 (a.length + 1) k3).ownBlock = some k → W0.heap.size ≤ k := fun k hk => by
      rcases ho3 with e | e
      · exact hV2 k (by rw [← e]; exact hk)
      · rw [hk] at e; have := hS3.size; simp at e this; omega
    refine hK _ _ ?_
    clear hK K
    have hb3 := hb.chg hS4 List.not_mem_nil
    have x3 := hb3.cell 1
    have y3 := hb3.frozen 1
    simp at x3
    go_wp2_with (first | fail | (refine wpG_calc rfl (fun K hK => ?_)) | (refine wpG_skip ?_ ?_; (focus (simp [wantG]; done)); go_simp) | (refine wpG_take ?_ ?_; (focus (simp [wantG]; done))) | (refine wpG_pure (fun K hK => ?_); go_simp; refine hK _ _ ?_; clear hK K) | (refine wpG_deed (by decide) (fun K hK => ?_); go_simp) | (refine wpG_nil ?_))
    go_ret
    have e4 : (a ++ [(x, y)]).length = a.length + 1 := by simp
    exact ⟨rfl, rput_fin hmW hcW hS4 hs3 hV3⟩

set_option maxHeartbeats 2000000 in
theorem rput_swap {w : World} {p r : Nat} {a b : List Ob} {F : List Nat} (hr : 1 ≤ r) (hr2 : r ≤ 32) (hm : RMem w p r b a F) (x y : Int) (hl : a.length < r) (hlb : b.length = r) :
    Calls Try.prog 29 #[.pointer (some ⟨p, 0, none⟩), .agg #[.int .i64 x, .int .i64 y]] w fun e w' => e = .returned (.bool true) ∧ (∃ F', RMem w' p r (a ++ [(x, y)]) b F' ∧ Step F F' w) ∧ Chg F w w' := by
  obtain ⟨A0, k0, A1, k1, hb, h0, h1, hp, f0, f1, hne, hF⟩ := hm.open_
  have hp1 := hF p hp
  have hp2 : p < w.heap.size + 1 := by omega
  have hb1 := hb.alloc (.cells #[.int .i64 x, .int .i64 y] 28)
  have c0 := hb.cell 0
  have c1 := hb.cell 1
  have c2 := hb.cell 2
  simp at c0 c1 c2
  have d0 : ((b.length : Int) == (r : Int)) = true := by rw [hlb]; simp
  have d1 : decide (a.length < r) = true := decide_eq_true (by omega)
  clear hlb
  go_enter Try.func29, Try.ntmps29
  go_wp2_with (first | fail | (refine wpT_calc0 rfl rfl (fun K hK => ?_)) | (refine wpT_skipG rfl ?_ ?_; focus (simp [yielded]; done); go_simp) | (refine wpT_calcG rfl rfl ?_ (fun K hK => ?_); focus (simp [yielded]; done)) | (refine wpT_pure (fun K hK => ?_); go_simp; refine hK _ _ ?_; clear hK K) | (refine wpT_plain (by decide) rfl (fun K hK => ?_)) | (refine wpT_deed (by decide) (fun K hK => ?_); go_simp) | (refine wpT_nil ?_))
  refine wp_region_t [0, 0, 0, 1, 0, 0, 0, 0, 1, 0, 0, 0, 0, 0, 1, 0, 0, 0, 0, 1, 0, 0] [none, none, none, none, none, none, none, none, none, none, none, some (15, true), some (15, true), some (15, true), some (15, true), some (15, true), some (15, true), some (15, true), some (15, true), some (15, true), some (15, true), none] (fun _ => True) (by kernel_rfl) (by kernel_rfl) (by kernel_rfl) ?_
  go_wp2_with (first | fail | (refine wpG_calc rfl (fun K hK => ?_)) | (refine wpG_skip ?_ ?_; (focus (simp [wantG]; done)); go_simp) | (refine wpG_take ?_ ?_; (focus (simp [wantG]; done))) | (refine wpG_pure (fun K hK => ?_); go_simp; refine hK _ _ ?_; clear hK K) | (refine wpG_deed (by decide) (fun K hK => ?_); go_simp) | (refine wpG_nil ?_))
  refine (rchange (hm.chg (((Chg.refl [] w).alloc (.cells #[.int .i64 x, .int .i64 y] 28)).drew) (by simp))).mono ?_
  rintro e w1 ⟨rfl, hm1, hc1⟩
  have hz : Blk w1 w.heap.size 28 #[.int .i64 x, .int .i64 y] := (Blk.new w 28 #[.int .i64 x, .int .i64 y]).drew.chg hc1 (fun h => by have := hF _ h; omega)
  clear hb h0 h1 f0 f1 hne hb1 c0 c1 c2 d0
  obtain ⟨A0, k0, A1, k1, hb, h0, h1, _, f0, f1, hne, hF1⟩ := hm1.open_
  have c0 := hb.cell 0
  have c1 := hb.cell 1
  simp at c0 c1
  have d0 : ((a.length : Int) == (r : Int)) = false := beq_eq_false_iff_ne.2 (by omega)
  have hcW0 : Chg F w w1 := ((Chg.refl F w).alloc _).drew.trans hc1 (fun k hk => .inl hk)
  have hzne : p ≠ w.heap.size := by omega
  go_wp2_with (first | fail | (refine wpT_calc0 rfl rfl (fun K hK => ?_)) | (refine wpT_skipG rfl ?_ ?_; focus (simp [yielded]; done); go_simp) | (refine wpT_calcG rfl rfl ?_ (fun K hK => ?_); focus (simp [yielded]; done)) | (refine wpT_pure (fun K hK => ?_); go_simp; refine hK _ _ ?_; clear hK K) | (refine wpT_plain (by decide) rfl (fun K hK => ?_)) | (refine wpT_deed (by decide) (fun K hK => ?_); go_simp) | (refine wpT_nil ?_))
  refine wp_region_t [0, 0, 0, 1, 0, 0, 0, 0, 1, 0] [none, none, none, none, none, none, none, none, none, none] (fun _ => True) (by kernel_rfl) (by kernel_rfl) (by kernel_rfl) ?_
  go_wp2_with (first | fail | (refine wpG_calc rfl (fun K hK => ?_)) | (refine wpG_skip ?_ ?_; (focus (simp [wantG]; done)); go_simp) | (refine wpG_take ?_ ?_; (focus (simp [wantG]; done))) | (refine wpG_pure (fun K hK => ?_); go_simp; refine hK _ _ ?_; clear hK K) | (refine wpG_deed (by decide) (fun K hK => ?_); go_simp) | (refine wpG_nil ?_))
  have hcW : Chg F w w1.drew := hcW0.drew
  have hmW : RMem w1.drew p r a b F := hm1.chg (Chg.refl [] w1).drew (by simp)
  have hz : Blk w1.drew w.heap.size 28 #[.int .i64 x, .int .i64 y] := hz.drew
  generalize w.heap.size = z at hz hzne
  clear hb h0 h1 hp f0 f1 hne hF hF1 hp1 hp2 c0 c1 hcW0 hm1 hc1
  generalize w1.drew = W0 at hcW hmW hz
  -- here: hmW : RMem W0 p r a b F, hz : Blk W0 z 28 _, hcW : Chg F w W0
  obtain ⟨A0, k0, A1, k1, hb, h0, h1, hp, f0, f1, hne, hF⟩ := hmW.open_
  have c1 := hb.cell 1
  simp at c1
  have hz1 := hz.lt
  have hp1 := hF p hp
  refine wp_region_g [0,6,0,0,0,5,6,5,6,3,0,0,3] (List.replicate 13 none) [[0,1,2,3,4,5,6,7,8,9,10,11,12], [0,1,2,3,4,5,7,8,6,9,10,11,12], [7,8,0,1,2,3,4,5,6,9,10,11,12]] (fun W => Chg [] W0 W) (by kernel_rfl) (by kernel_rfl) (by kernel_rfl) (by kernel_rfl) (fun L hL => ?_)
  have hS0 : Chg [] W0 W0.drew := (Chg.refl _ _).drew
  have e2 : ([] : List Ob).length + a.length = a.length := by simp
  have e3 : a.length + [(x, y)].length = a.length + 1 := rfl
  simp only [List.mem_cons, List.mem_nil_iff, or_false] at hL
  rcases hL with rfl | rfl | rfl
  · simp only [picks, List.replicate, List.filterMap_cons, List.filterMap_nil, List.getElem?_cons_succ, List.getElem?_cons_zero]
    go_wp2_with (first | fail | (refine wpG_calc rfl (fun K hK => ?_)) | (refine wpG_skip ?_ ?_; (focus (simp [wantG]; done)); go_simp) | (refine wpG_take ?_ ?_; (focus (simp [wantG]; done))) | (refine wpG_pure (fun K hK => ?_); go_simp; refine hK _ _ ?_; clear hK K) | (refine wpG_deed (by decide) (fun K hK => ?_); go_simp) | (refine wpG_nil ?_))
    refine wpG_keeps hS0 (fun K hK => ?_)
    go_simp
    have hS1 : Chg [] W0 (W0.alloc (.cells #[] 28)).drew := ((Chg.refl _ _).alloc _).drew
    refine hK _ _ hS1 ?_
    clear hK K
    go_wp2_with (first | (refine wpG_hload 22 _ rfl rfl (fun w' hw' => load_slice Try.underlying22 (hw'.cell c1 List.not_mem_nil)) hS1 ?_; go_simp) | (refine wpG_calc rfl (fun K hK => ?_)) | (refine wpG_skip ?_ ?_; (focus (simp [wantG]; done)); go_simp) | (refine wpG_take ?_ ?_; (focus (simp [wantG]; done))) | (refine wpG_pure (fun K hK => ?_); go_simp; refine hK _ _ ?_; clear hK K) | (refine wpG_deed (by decide) (fun K hK => ?_); go_simp) | (refine wpG_nil ?_))
    refine wpG_keeps hS1 (fun K hK => ?_)
    refine wp_append_ob _ _ rfl (.slice (some ⟨W0.heap.size, 0, none⟩) 0 0) (.slice A0 a.length k0) rfl rfl (SO_nil_new W0).drew (Rd.chg h0.ro hS1 (fun _ _ h => by cases h)) (by simp; omega) ?_
    intro A2 k2 w2 hs2 hc2 ho2
    rw [e2, List.nil_append] at hs2
    rw [e2] at ho2
    rw [e2]
    have hS2 : Chg [] W0 w2 := hS1.trans hc2 (fun k hk => .inr (by have : k = W0.heap.size := (by simpa [Value.ownBlock, eq_comm] using hk); omega))
    have hV2 : ∀ k, (Value.slice A2 a.length k2).ownBlock = some k → W0.heap.size ≤ k := fun k hk => by
      rcases ho2 with e | e
      · rw [hk] at e; simp [Value.ownBlock] at e; omega
      · rw [hk] at e; simp at e; omega
    refine hK _ _ hS2 ?_
    clear hK K
    go_wp2_with (first | (refine wpG_hload 28 _ rfl rfl (fun w' hw' => load_ob (hz.chg hw' List.not_mem_nil)) hS2 ?_; go_simp) | (refine wpG_calc rfl (fun K hK => ?_)) | (refine wpG_skip ?_ ?_; (focus (simp [wantG]; done)); go_simp) | (refine wpG_take ?_ ?_; (focus (simp [wantG]; done))) | (refine wpG_pure (fun K hK => ?_); go_simp; refine hK _ _ ?_; clear hK K) | (refine wpG_deed (by decide) (fun K hK => ?_); go_simp) | (refine wpG_nil ?_))
    refine wpG_keeps hS2 (fun K hK => ?_)
    go_simp
    have hS3 : Chg [] W0 (w2.alloc (.cells #[.int .i64 x, .int .i64 y] 28)) := hS2.alloc _
    refine hK _ _ hS3 ?_
    clear hK K
    refine wpG_deed (by decide) (fun K hK => ?_)
    refine wp_append_ob _ _ rfl (.slice A2 a.length k2) (.slice (some ⟨w2.heap.size, 0, none⟩) 1 1) rfl rfl (Sl.alloc hs2 _) (RO_one w2 x y) (by simp; omega) ?_
    intro A3 k3 w3 hs3 hc3 ho3
    rw [e3] at hs3 ho3
    rw [e3]
    have hS4 : Chg [] W0 w3 := hS3.trans hc3 (fun k hk => .inr (hV2 k (by simpa using hk)))
    have hV3 : ∀ k, (Value.slice A3 (a.length + 1) k3).ownBlock = some k → W0.heap.size ≤ k := fun k hk => by
      rcases ho3 with e | e
      · exact hV2 k (by rw [← e]; exact hk)
      · rw [hk] at e; have := hS3.size; simp at e this; omega
    refine hK _ _ ?_
    clear hK K
    have hb3 := hb.chg hS4 List.not_mem_nil
    have x3 := hb3.cell 1
    have y3 := hb3.frozen 1
    simp at x3
    go_wp2_with (first | fail | (refine wpG_calc rfl (fun K hK => ?_)) | (refine wpG_skip ?_ ?_; (focus (simp [wantG]; done)); go_simp) | (refine wpG_take ?_ ?_; (focus (simp [wantG]; done))) | (refine wpG_pure (fun K hK => ?_); go_simp; refine hK _ _ ?_; clear hK K) | (refine wpG_deed (by decide) (fun K hK => ?_); go_simp) | (refine wpG_nil ?_))
    go_ret
    have e4 : (a ++ [(x, y)]).length = a.length + 1 := by simp
    exact ⟨rfl, rput_fin hmW hcW hS4 hs3 hV3⟩
  · simp only [picks, List.replicate, List.filterMap_cons, List.filterMap_nil, List.getElem?_cons_succ, List.getElem?_cons_zero]
    go_wp2_with (first | fail | (refine wpG_calc rfl (fun K hK => ?_)) | (refine wpG_skip ?_ ?_; (focus (simp [wantG]; done)); go_simp) | (refine wpG_take ?_ ?_; (focus (simp [wantG]; done))) | (refine wpG_pure (fun K hK => ?_); go_simp; refine hK _ _ ?_; clear hK K) | (refine wpG_deed (by decide) (fun K hK => ?_); go_simp) | (refine wpG_nil ?_))
    refine wpG_keeps hS0 (fun K hK => ?_)
    go_simp
    have hS1 : Chg [] W0 (W0.alloc (.cells #[] 28)).drew := ((Chg.refl _ _).alloc _).drew
    refine hK _ _ hS1 ?_
    clear hK K
    go_wp2_with (first | (refine wpG_hload 22 _ rfl rfl (fun w' hw' => load_slice Try.underlying22 (hw'.cell c1 List.not_mem_nil)) hS1 ?_; go_simp) | (refine wpG_hload 28 _ rfl rfl (fun w' hw' => load_ob (hz.chg hw' List.not_mem_nil)) hS1 ?_; go_simp) | (refine wpG_calc rfl (fun K hK => ?_)) | (refine wpG_skip ?_ ?_; (focus (simp [wantG]; done)); go_simp) | (refine wpG_take ?_ ?_; (focus (simp [wantG]; done))) | (refine wpG_pure (fun K hK => ?_); go_simp; refine hK _ _ ?_; clear hK K) | (refine wpG_deed (by decide) (fun K hK => ?_); go_simp) | (refine wpG_nil ?_))
    refine wpG_keeps hS1 (fun K hK => ?_)
    go_simp
    have hS2 : Chg [] W0 ((W0.alloc (.cells #[] 28)).alloc (.cells #[.int .i64 x, .int .i64 y] 28)).drew := (((Chg.refl _ _).alloc _).alloc _).drew
    have hn2 : SO ((W0.alloc (.cells #[] 28)).alloc (.cells #[.int .i64 x, .int .i64 y] 28)).drew (.slice (some ⟨W0.heap.size, 0, none⟩) 0 0) [] := ((SO_nil_new W0).alloc _).drew
    have hr2 : RO ((W0.alloc (.cells #[] 28)).alloc (.cells #[.int .i64 x, .int .i64 y] 28)).drew (.slice (some ⟨W0.heap.size + 1, 0, none⟩) 1 1) [(x, y)] := by have h := (RO_one (W0.alloc (.cells #[] 28)) x y).drew; rw [show (W0.alloc (.cells #[] 28)).heap.size = W0.heap.size + 1 by simp] at h; exact h
    refine hK _ _ hS2 ?_
    clear hK K
    refine wpG_keeps hS2 (fun K hK => ?_)
    refine wp_append_ob _ _ rfl (.slice (some ⟨W0.heap.size, 0, none⟩) 0 0) (.slice A0 a.length k0) rfl rfl hn2 (Rd.chg h0.ro hS2 (fun _ _ h => by cases h)) (by simp; omega) ?_
    intro A2 k2 w2 hs2 hc2 ho2
    rw [e2, List.nil_append] at hs2
    rw [e2] at ho2
    rw [e2]
    have hS3 : Chg [] W0 w2 := hS2.trans hc2 (fun k hk => .inr (by have : k = W0.heap.size := (by simpa [Value.ownBlock, eq_comm] using hk); omega))
    have hV2 : ∀ k, (Value.slice A2 a.length k2).ownBlock = some k → W0.heap.size ≤ k := fun k hk => by
      rcases ho2 with e | e
      · rw [hk] at e; simp [Value.ownBlock] at e; omega
      · rw [hk] at e; simp at e; omega
    refine hK _ _ hS3 ?_
    clear hK K
    refine wpG_deed (by decide) (fun K hK => ?_)
    refine wp_append_ob _ _ rfl (.slice A2 a.length k2) (.slice (some ⟨W0.heap.size + 1, 0, none⟩) 1 1) rfl rfl hs2 (Rd.chg hr2 hc2 (fun k hk => by simp [Value.ownBlock] at hk ⊢; omega)) (by simp; omega) ?_
    intro A3 k3 w3 hs3 hc3 ho3
    rw [e3] at hs3 ho3
    rw [e3]
    have hS4 : Chg [] W0 w3 := hS3.trans hc3 (fun k hk => .inr (hV2 k (by simpa using hk)))
    have hV3 : ∀ k, (Value.slice A3 (a.length + 1) k3).ownBlock = some k → W0.heap.size ≤ k := fun k hk => by
      rcases ho3 with e | e
      · exact hV2 k (by rw [← e]; exact hk)
      · rw [hk] at e; have := hS3.size; simp at e this; omega
    refine hK _ _ ?_
    clear hK K
    have hb3 := hb.chg hS4 List.not_mem_nil
    have x3 := hb3.cell 1
    have y3 := hb3.frozen 1
    simp at x3
    go_wp2_with (first | fail | (refine wpG_calc rfl (fun K hK => ?_)) | (refine wpG_skip ?_ ?_; (focus (simp [wantG]; done)); go_simp) | (refine wpG_take ?_ ?_; (focus (simp [wantG]; done))) | (refine wpG_pure (fun K hK => ?_); go_simp; refine hK _ _ ?_; clear hK K) | (refine wpG_deed (by decide) (fun K hK => ?_); go_simp) | (refine wpG_nil ?_))
    go_ret
    have e4 : (a ++ [(x, y)]).length = a.length + 1 := by simp
    exact ⟨rfl, rput_fin hmW hcW hS4 hs3 hV3⟩
  · simp only [picks, List.replicate, List.filterMap_cons, List.filterMap_nil, List.getElem?_cons_succ, List.getElem?_cons_zero]
    go_wp2_with (first | (refine wpG_hload 28 _ rfl rfl (fun w' hw' => load_ob (hz.chg hw' List.not_mem_nil)) hS0 ?_; go_simp) | (refine wpG_calc rfl (fun K hK => ?_)) | (refine wpG_skip ?_ ?_; (focus (simp [wantG]; done)); go_simp) | (refine wpG_take ?_ ?_; (focus (simp [wantG]; done))) | (refine wpG_pure (fun K hK => ?_); go_simp; refine hK _ _ ?_; clear hK K) | (refine wpG_deed (by decide) (fun K hK => ?_); go_simp) | (refine wpG_nil ?_))
    refine wpG_keeps hS0 (fun K hK => ?_)
    go_simp
    have hS1 : Chg [] W0 (W0.alloc (.cells #[.int .i64 x, .int .i64 y] 28)).drew := ((Chg.refl _ _).alloc _).drew
    refine hK _ _ hS1 ?_
    clear hK K
    go_wp2_with (first | fail | (refine wpG_calc rfl (fun K hK => ?_)) | (refine wpG_skip ?_ ?_; (focus (simp [wantG]; done)); go_simp) | (refine wpG_take ?_ ?_; (focus (simp [wantG]; done))) | (refine wpG_pure (fun K hK => ?_); go_simp; refine hK _ _ ?_; clear hK K) | (refine wpG_deed (by decide) (fun K hK => ?_); go_simp) | (refine wpG_nil ?_))
    refine wpG_keeps hS1 (fun K hK => ?_)
    go_simp
    have hS2 : Chg [] W0 ((W0.alloc (.cells #[.int .i64 x, .int .i64 y] 28)).alloc (.cells #[] 28)).drew := (((Chg.refl _ _).alloc _).alloc _).drew
    have hn2 : SO ((W0.alloc (.cells #[.int .i64 x, .int .i64 y] 28)).alloc (.cells #[] 28)).drew (.slice (some ⟨W0.heap.size + 1, 0, none⟩) 0 0) [] := by have h := (SO_nil_new (W0.alloc (.cells #[.int .i64 x, .int .i64 y] 28))).drew; rw [show (W0.alloc (.cells #[.int .i64 x, .int .i64 y] 28)).heap.size = W0.heap.size + 1 by simp] at h; exact h
    have hr2 : RO ((W0.alloc (.cells #[.int .i64 x, .int .i64 y] 28)).alloc (.cells #[] 28)).drew (.slice (some ⟨W0.heap.size, 0, none⟩) 1 1) [(x, y)] := ((RO_one W0 x y).alloc _).drew
    refine hK _ _ hS2 ?_
    clear hK K
    go_wp2_with (first | (refine wpG_hload 22 _ rfl rfl (fun w' hw' => load_slice Try.underlying22 (hw'.cell c1 List.not_mem_nil)) hS2 ?_; go_simp) | (refine wpG_calc rfl (fun K hK => ?_)) | (refine wpG_skip ?_ ?_; (focus (simp [wantG]; done)); go_simp) | (refine wpG_take ?_ ?_; (focus (simp [wantG]; done))) | (refine wpG_pure (fun K hK => ?_); go_simp; refine hK _ _ ?_; clear hK K) | (refine wpG_deed (by decide) (fun K hK => ?_); go_simp) | (refine wpG_nil ?_))
    refine wpG_keeps hS2 (fun K hK => ?_)
    refine wp_append_ob _ _ rfl (.slice (some ⟨W0.heap.size + 1, 0, none⟩) 0 0) (.slice A0 a.length k0) rfl rfl hn2 (Rd.chg h0.ro hS2 (fun _ _ h => by cases h)) (by simp; omega) ?_
    intro A2 k2 w2 hs2 hc2 ho2
    rw [e2, List.nil_append] at hs2
    rw [e2] at ho2
    rw [e2]
    have hS3 : Chg [] W0 w2 := hS2.trans hc2 (fun k hk => .inr (by have : k = W0.heap.size + 1 := (by simpa [Value.ownBlock, eq_comm] using hk); omega))
    have hV2 : ∀ k, (Value.slice A2 a.length k2).ownBlock = some k → W0.heap.size ≤ k := fun k hk => by
      rcases ho2 with e | e
      · rw [hk] at e; simp [Value.ownBlock] at e; omega
      · rw [hk] at e; simp at e; omega
    refine hK _ _ hS3 ?_
    clear hK K
    refine wpG_deed (by decide) (fun K hK => ?_)
    refine wp_append_ob _ _ rfl (.slice A2 a.length k2) (.slice (some ⟨W0.heap.size, 0, none⟩) 1 1) rfl rfl hs2 (Rd.chg hr2 hc2 (fun k hk => by simp [Value.ownBlock] at hk ⊢; omega)) (by simp; omega) ?_
    intro A3 k3 w3 hs3 hc3 ho3
    rw [e3] at hs3 ho3
    rw [e3]
    have hS4 : Chg [] W0 w3 := hS3.trans hc3 (fun k hk => .inr (hV2 k (by simpa using hk)))
    have hV3 : ∀ k, (Value.slice A3 (a.length + 1) k3).ownBlock = some k → W0.heap.size ≤ k := fun k hk => by
      rcases ho3 with e | e
      · exact hV2 k (by rw [← e]; exact hk)
      · rw [hk] at e; have := hS3.size; simp at e this; omega
    refine hK _ _ ?_
    clear hK K
    have hb3 := hb.chg hS4 List.not_mem_nil
    have x3 := hb3.cell 1
    have y3 := hb3.frozen 1
    simp at x3
    go_wp2_with (first | fail | (refine wpG_calc rfl (fun K hK => ?_)) | (refine wpG_skip ?_ ?_; (focus (simp [wantG]; done)); go_simp) | (refine wpG_take ?_ ?_; (focus (simp [wantG]; done))) | (refine wpG_pure (fun K hK => ?_); go_simp; refine hK _ _ ?_; clear hK K) | (refine wpG_deed (by decide) (fun K hK => ?_); go_simp) | (refine wpG_nil ?_))
    go_ret
    have e4 : (a ++ [(x, y)]).length = a.length + 1 := by simp
    exact ⟨rfl, rput_fin hmW hcW hS4 hs3 hV3⟩

set_option maxHeartbeats 2000000 in
theorem rput_full {w : World} {p r : Nat} {a b : List Ob} {F : List Nat} (_hr : 1 ≤ r) (_hr2 : r ≤ 32) (hm : RMem w p r a b F) (x y : Int) (hla : a.length = r) (hlb : b.length = r) :
    Calls Try.prog 29 #[.pointer (some ⟨p, 0, none⟩), .agg #[.int .i64 x, .int .i64 y]] w fun e w' => e = .returned (.bool false) ∧ RMem w' p r a b F ∧ Chg F w w' := by
  obtain ⟨A0, k0, A1, k1, hb, h0, h1, hp, f0, f1, hne, hF⟩ := hm.open_
  have hp1 := hF p hp
  have hp2 : p < w.heap.size + 1 := by omega
  have hb1 := hb.alloc (.cells #[.int .i64 x, .int .i64 y] 28)
  have c0 := hb.cell 0
  have c1 := hb.cell 1
  have c2 := hb.cell 2
  simp at c0 c1 c2
  have d0 : ((a.length : Int) == (r : Int)) = true := by rw [hla]; simp
  have d1 : decide (b.length < r) = false := decide_eq_false (by omega)
  clear hla hlb
  go_enter Try.func29, Try.ntmps29
  go_wp2_with (first | fail | (refine wpT_calc0 rfl rfl (fun K hK => ?_)) | (refine wpT_skipG rfl ?_ ?_; focus (simp [yielded]; done); go_simp) | (refine wpT_calcG rfl rfl ?_ (fun K hK => ?_); focus (simp [yielded]; done)) | (refine wpT_pure (fun K hK => ?_); go_simp; refine hK _ _ ?_; clear hK K) | (refine wpT_plain (by decide) rfl (fun K hK => ?_)) | (refine wpT_deed (by decide) (fun K hK => ?_); go_simp) | (refine wpT_nil ?_))
  refine wp_region_t [0, 0, 0, 1, 0, 0, 0, 0, 1, 0, 0, 0, 0, 0, 1, 0, 0, 0, 0, 1, 0, 0] [none, none, none, none, none, none, none, none, none, none, none, some (15, true), some (15, true), some (15, true), some (15, true), some (15, true), some (15, true), some (15, true), some (15, true), some (15, true), some (15, true), none] (fun _ => True) (by kernel_rfl) (by kernel_rfl) (by kernel_rfl) ?_
  go_wp2_with (first | fail | (refine wpG_calc rfl (fun K hK => ?_)) | (refine wpG_skip ?_ ?_; (focus (simp [wantG]; done)); go_simp) | (refine wpG_take ?_ ?_; (focus (simp [wantG]; done))) | (refine wpG_pure (fun K hK => ?_); go_simp; refine hK _ _ ?_; clear hK K) | (refine wpG_deed (by decide) (fun K hK => ?_); go_simp) | (refine wpG_nil ?_))
  refine wp_region_t [0, 0, 0, 1, 0, 0, 0, 0, 1, 0] [none, none, none, none, none, none, none, none, none, none] (fun _ => True) (by kernel_rfl) (by kernel_rfl) (by kernel_rfl) ?_
  go_wp2_with (first | fail | (refine wpG_calc rfl (fun K hK => ?_)) | (refine wpG_skip ?_ ?_; (focus (simp [wantG]; done)); go_simp) | (refine wpG_take ?_ ?_; (focus (simp [wantG]; done))) | (refine wpG_pure (fun K hK => ?_); go_simp; refine hK _ _ ?_; clear hK K) | (refine wpG_deed (by decide) (fun K hK => ?_); go_simp) | (refine wpG_nil ?_))
  go_ret
  exact ⟨rfl, hm.chg ((Chg.refl [] _).alloc _).drew.drew (by simp), ((Chg.refl _ _).alloc _).drew.drew⟩

theorem rstk_put {w : World} {p r : Nat} {s : List Ob} {F : List Nat} (h : RStk w p r s F) (x y : Int) (hl : s.length < 2 * r) :
    Calls Try.prog 29 #[.pointer (some ⟨p, 0, none⟩), .agg #[.int .i64 x, .int .i64 y]] w fun e w' => e = .returned (.bool true) ∧ (∃ F', RStk w' p r (s ++ [(x, y)]) F' ∧ Step F F' w) ∧ Chg F w w' := by
  obtain ⟨a, b, hm, rfl, h1, h2, h3, h4⟩ := h
  by_cases ha : a.length < r
  · refine (rput_walk h3 h4 hm x y ha).mono ?_
    rintro e w' ⟨he, ⟨F', hm', hF'⟩, hc⟩
    exact ⟨he, ⟨F', ⟨_, _, hm', by simp, by simp; omega, h2, h3, h4⟩, hF'⟩, hc⟩
  · have hla : a.length = r := by omega
    rcases h2 with rfl | h2
    · refine (rput_swap h3 h4 hm x y (by simp; omega) hla).mono ?_
      rintro e w' ⟨he, ⟨F', hm', hF'⟩, hc⟩
      exact ⟨he, ⟨F', ⟨_, _, hm', by simp, by simp; omega, .inr hla, h3, h4⟩, hF'⟩, hc⟩
    · rw [List.length_append] at hl; omega
theorem rstk_put_no {w : World} {p r : Nat} {s : List Ob} {F : List Nat} (h : RStk w p r s F) (x y : Int) (hl : 2 * r ≤ s.length) :
    Calls Try.prog 29 #[.pointer (some ⟨p, 0, none⟩), .agg #[.int .i64 x, .int .i64 y]] w fun e w' => e = .returned (.bool false) ∧ RStk w' p r s F ∧ Chg F w w' := by
  obtain ⟨a, b, hm, rfl, h1, h2, h3, h4⟩ := h
  rw [List.length_append] at hl
  have hlb : b.length = r := by
    rcases h2 with rfl | h2
    · rw [List.length_nil] at hl; omega
    · exact h2
  refine (rput_full h3 h4 hm x y (by omega) hlb).mono ?_
  rintro e w' ⟨he, hm', hc⟩
  exact ⟨he, ⟨_, _, hm', rfl, h1, h2, h3, h4⟩, hc⟩
end Go.Proofs.Ytbmdcfeiecmlpaa
