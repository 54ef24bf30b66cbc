import Derived.Test.YtbmdcfeiecmlpaaRefD
namespace Go.Proofs.Ytbmdcfeiecmlpaa
open Go Go.RowKit

set_option maxHeartbeats 400000 in
theorem rload_arg {w : World} {p r : Nat} {a b : List Ob} {F : List Nat} (hm : RMem w p r a b F) {v : Value} {l : List Ob} (hl : RO w v l) (h1 : l = [] ∨ r < l.length) :
    Calls Try.prog 32 #[.pointer (some ⟨p, 0, none⟩), v] w fun e w' => e = .returned (.int .i64 2) ∧ w = w' := by
  obtain ⟨A, c, rfl⟩ := hl.form
  obtain ⟨A0, k0, A1, k1, hb, _, _, hp, _, _, _, hF⟩ := hm.open_
  have c0 := hb.cell 0
  simp at c0
  by_cases h0 : l.length = 0
  · rw [h0]
    clear h1 hb h0 hm hl
    go_enter Try.func32, Try.ntmps32
    go_wp2_with (first | fail | (refine wpT_calc0 rfl rfl (fun K hK => ?_)) | (refine wpT_skipG rfl ?_ ?_; focus (simp [yielded]; done); go_simp) | (refine wpT_calcG rfl rfl ?_ (fun K hK => ?_); focus (simp [yielded]; done)) | (refine wpT_pure (fun K hK => ?_); go_simp; refine hK _ _ ?_; clear hK K) | (refine wpT_plain (by decide) rfl (fun K hK => ?_)) | (refine wpT_deed (by decide) (fun K hK => ?_); go_simp) | (refine wpT_nil ?_))
    go_ret
    exact ⟨rfl, rfl⟩
  · have hl0 : ((l.length : Int) == 0) = false := beq_eq_false_iff_ne.2 (by omega)
    have h2 : r < l.length := h1.resolve_left (fun e => h0 (by rw [e]; rfl))
    clear h1 hb h0 hm
    go_enter Try.func32, Try.ntmps32
    go_wp2_with (first | fail | (refine wpT_calc0 rfl rfl (fun K hK => ?_)) | (refine wpT_skipG rfl ?_ ?_; focus (simp [yielded]; done); go_simp) | (refine wpT_calcG rfl rfl ?_ (fun K hK => ?_); focus (simp [yielded]; done)) | (refine wpT_pure (fun K hK => ?_); go_simp; refine hK _ _ ?_; clear hK K) | (refine wpT_plain (by decide) rfl (fun K hK => ?_)) | (refine wpT_deed (by decide) (fun K hK => ?_); go_simp) | (refine wpT_nil ?_))
    go_ret
    exact ⟨rfl, rfl⟩

set_option maxHeartbeats 400000 in
theorem rload_busy {w : World} {p r : Nat} {a b : List Ob} {F : List Nat} (_hr2 : r ≤ 32) (hm : RMem w p r a b F) {v : Value} {l : List Ob} (hl : RO w v l) (ha : a.length ≤ 32) (hb : b.length ≤ 32)
    (h1 : l ≠ []) (h2 : l.length ≤ r) (h3 : b ++ a ≠ []) :
    Calls Try.prog 32 #[.pointer (some ⟨p, 0, none⟩), v] w fun e w' => e = .returned (.int .i64 80) ∧ Chg [] w w' := by
  have hl0 : ((l.length : Int) == 0) = false := beq_eq_false_iff_ne.2 (fun e => h1 (List.eq_nil_of_length_eq_zero (by omega)))
  obtain ⟨A, c, rfl⟩ := hl.form
  obtain ⟨A0, k0, A1, k1, hbk, _, _, hp, _, _, _, hF⟩ := hm.open_
  have c0 := hbk.cell 0
  have c1 := hbk.cell 1
  have c2 := hbk.cell 2
  simp at c0 c1 c2
  have h4 : 0 < a.length + b.length := by have := List.length_pos_iff.2 h3; rw [List.length_append] at this; omega
  clear h1 h3
  go_enter Try.func32, Try.ntmps32
  go_wp2_with (first | fail | (refine wpT_calc0 rfl rfl (fun K hK => ?_)) | (refine wpT_skipG rfl ?_ ?_; focus (simp [yielded]; done); go_simp) | (refine wpT_calcG rfl rfl ?_ (fun K hK => ?_); focus (simp [yielded]; done)) | (refine wpT_pure (fun K hK => ?_); go_simp; refine hK _ _ ?_; clear hK K) | (refine wpT_plain (by decide) rfl (fun K hK => ?_)) | (refine wpT_deed (by decide) (fun K hK => ?_); go_simp) | (refine wpT_nil ?_))
  refine wp_region_t [0, 0, 0, 1, 0, 0, 0, 0, 1, 0, 0, 0, 0] [none, none, none, none, none, none, none, none, none, none, none, none, none] (fun _ => True) (by kernel_rfl) (by kernel_rfl) (by kernel_rfl) ?_
  go_wp2_with (first | fail | (refine wpG_calc rfl (fun K hK => ?_)) | (refine wpG_skip ?_ ?_; (focus (simp [wantG]; done)); go_simp) | (refine wpG_take ?_ ?_; (focus (simp [wantG]; done))) | (refine wpG_pure (fun K hK => ?_); go_simp; refine hK _ _ ?_; clear hK K) | (refine wpG_deed (by decide) (fun K hK => ?_); go_simp) | (refine wpG_nil ?_))
  go_ret
  exact ⟨rfl, (Chg.refl _ _).drew⟩

set_option maxHeartbeats 400000 in
theorem rload_walk {w : World} {p r : Nat} {F : List Nat} (hr2 : r ≤ 32) (hm : RMem w p r [] [] F) {v : Value} {l : List Ob} (hl : RO w v l) (h1 : l ≠ []) (h2 : l.length ≤ r) :
    Calls Try.prog 32 #[.pointer (some ⟨p, 0, none⟩), v] w fun e w' => e = .returned (.int .i64 0) ∧ (∃ F', RMem w' p r l [] F' ∧ Step F F' w) ∧ Chg F w w' := by
  have hl0 : ((l.length : Int) == 0) = false := beq_eq_false_iff_ne.2 (fun e => h1 (List.eq_nil_of_length_eq_zero (by omega)))
  obtain ⟨A, c, rfl⟩ := hl.form
  obtain ⟨A0, k0, A1, k1, hb, _, _, hp, _, _, _, hF⟩ := hm.open_
  have c0 := hb.cell 0
  have c1 := hb.cell 1
  have c2 := hb.cell 2
  simp at c0 c1 c2
  have hp1 := hF p hp
  have e2 : ([] : List Ob).length + l.length = l.length := by simp
  clear h1
  go_enter Try.func32, Try.ntmps32
  go_wp2_with (first | fail | (refine wpT_calc0 rfl rfl (fun K hK => ?_)) | (refine wpT_skipG rfl ?_ ?_; focus (simp [yielded]; done); go_simp) | (refine wpT_calcG rfl rfl ?_ (fun K hK => ?_); focus (simp [yielded]; done)) | (refine wpT_pure (fun K hK => ?_); go_simp; refine hK _ _ ?_; clear hK K) | (refine wpT_plain (by decide) rfl (fun K hK => ?_)) | (refine wpT_deed (by decide) (fun K hK => ?_); go_simp) | (refine wpT_nil ?_))
  refine wp_region_t [0, 0, 0, 1, 0, 0, 0, 0, 1, 0, 0, 0, 0] [none, none, none, none, none, none, none, none, none, none, none, none, none] (fun _ => True) (by kernel_rfl) (by kernel_rfl) (by kernel_rfl) ?_
  go_wp2_with (first | (at_builtin; refine wpList_append_ob rfl _ _ rfl (.slice (some ⟨w.heap.size, 0, none⟩) 0 0) (.slice A l.length c) rfl rfl (SO_nil_new w).drew (Rd.alloc hl _).drew (by simp; omega) ?_; intro A2 k2 w2 hs2 hc2 ho2; rw [e2, List.nil_append] at hs2; rw [e2] at ho2; rw [e2]; have hcA : Chg [] w w2 := ((Chg.refl _ _).alloc _).drew.trans hc2 (fun k hk => .inr (by have : k = w.heap.size := (by simpa [Value.ownBlock, eq_comm] using hk); omega)); have hb2 := hb.chg hcA List.not_mem_nil; have x2 := hb2.cell 1; have y2 := hb2.frozen 1; simp at x2) | (refine wpG_calc rfl (fun K hK => ?_)) | (refine wpG_skip ?_ ?_; (focus (simp [wantG]; done)); go_simp) | (refine wpG_take ?_ ?_; (focus (simp [wantG]; done))) | (refine wpG_pure (fun K hK => ?_); go_simp; refine hK _ _ ?_; clear hK K) | (refine wpG_deed (by decide) (fun K hK => ?_); go_simp) | (refine wpG_nil ?_))
  go_ret
  have hV2 : ∀ k, (Value.slice A2 l.length k2).ownBlock = some k → w.heap.size ≤ k := fun k hk => by
    rcases ho2 with e | e
    · rw [hk] at e; simp [Value.ownBlock] at e; omega
    · rw [hk] at e; simp at e; omega
  exact ⟨rfl, rput_fin hm (Chg.refl F w) hcA hs2 hV2⟩

set_option maxHeartbeats 400000 in
theorem runload_busy {w : World} {p r : Nat} {a b : List Ob} {F : List Nat} (hr2 : r ≤ 32) (hm : RMem w p r a b F) (h : a.length + b.length < 2 * r) :
    Calls Try.prog 34 #[.pointer (some ⟨p, 0, none⟩)] w fun e w' => e = .returned (.tuple #[.slice none 0 0, .int .i64 80]) ∧ Chg [] w w' := by
  obtain ⟨A0, k0, A1, k1, hb, _, _, hp, _, _, _, hF⟩ := hm.open_
  have c0 := hb.cell 0
  have c1 := hb.cell 1
  have c2 := hb.cell 2
  simp at c0 c1 c2
  clear hb hm
  go_enter Try.func34, Try.ntmps34
  go_wp2_with (first | fail | (refine wpT_calc0 rfl rfl (fun K hK => ?_)) | (refine wpT_skipG rfl ?_ ?_; focus (simp [yielded]; done); go_simp) | (refine wpT_calcG rfl rfl ?_ (fun K hK => ?_); focus (simp [yielded]; done)) | (refine wpT_pure (fun K hK => ?_); go_simp; refine hK _ _ ?_; clear hK K) | (refine wpT_plain (by decide) rfl (fun K hK => ?_)) | (refine wpT_deed (by decide) (fun K hK => ?_); go_simp) | (refine wpT_nil ?_))
  refine wp_region_t [0, 0, 0, 1, 0, 0, 0, 0, 1, 0, 0, 0, 0, 0, 1, 0, 0] [none, none, none, none, none, none, none, none, none, none, none, none, none, none, none, none, none] (fun _ => True) (by kernel_rfl) (by kernel_rfl) (by kernel_rfl) ?_
  go_wp2_with (first | fail | (refine wpG_calc rfl (fun K hK => ?_)) | (refine wpG_skip ?_ ?_; (focus (simp [wantG]; done)); go_simp) | (refine wpG_take ?_ ?_; (focus (simp [wantG]; done))) | (refine wpG_pure (fun K hK => ?_); go_simp; refine hK _ _ ?_; clear hK K) | (refine wpG_deed (by decide) (fun K hK => ?_); go_simp) | (refine wpG_nil ?_))
  go_ret2
  exact ⟨rfl, (Chg.refl _ _).drew⟩

set_option maxHeartbeats 400000 in
theorem runload_full {w : World} {p r : Nat} {a b : List Ob} {F : List Nat} (hr2 : r ≤ 32) (hm : RMem w p r a b F) (h : 2 * r ≤ a.length + b.length) (ha : a.length ≤ 32) (hb' : b.length ≤ 32) :
    Calls Try.prog 34 #[.pointer (some ⟨p, 0, none⟩)] w fun e w' => (∃ A c, e = .returned (.tuple #[.slice A b.length c, .int .i64 0]) ∧ SO w' (.slice A b.length c) b ∧ (∀ k, (Value.slice A b.length c).ownBlock = some k → k ∈ F ∧ k ≠ p) ∧
      RMem w' p r a [] (F.filter fun k => (Value.slice A b.length c).ownBlock != some k)) ∧ Chg F w w' := by
  obtain ⟨A0, k0, A1, k1, hb, hs0, hs1, hp, f0, f1, hne, hF⟩ := hm.open_
  have c0 := hb.cell 0
  have c1 := hb.cell 1
  have c2 := hb.cell 2
  have y2 := hb.frozen 2
  simp at c0 c1 c2
  go_enter Try.func34, Try.ntmps34
  go_wp2_with (first | fail | (refine wpT_calc0 rfl rfl (fun K hK => ?_)) | (refine wpT_skipG rfl ?_ ?_; focus (simp [yielded]; done); go_simp) | (refine wpT_calcG rfl rfl ?_ (fun K hK => ?_); focus (simp [yielded]; done)) | (refine wpT_pure (fun K hK => ?_); go_simp; refine hK _ _ ?_; clear hK K) | (refine wpT_plain (by decide) rfl (fun K hK => ?_)) | (refine wpT_deed (by decide) (fun K hK => ?_); go_simp) | (refine wpT_nil ?_))
  refine wp_region_t [0, 0, 0, 1, 0, 0, 0, 0, 1, 0, 0, 0, 0, 0, 1, 0, 0] [none, none, none, none, none, none, none, none, none, none, none, none, none, none, none, none, none] (fun _ => True) (by kernel_rfl) (by kernel_rfl) (by kernel_rfl) ?_
  go_wp2_with (first | fail | (refine wpG_calc rfl (fun K hK => ?_)) | (refine wpG_skip ?_ ?_; (focus (simp [wantG]; done)); go_simp) | (refine wpG_take ?_ ?_; (focus (simp [wantG]; done))) | (refine wpG_pure (fun K hK => ?_); go_simp; refine hK _ _ ?_; clear hK K) | (refine wpG_deed (by decide) (fun K hK => ?_); go_simp) | (refine wpG_nil ?_))
  go_ret2
  have n1 := hs1.ne hb (by decide)
  have hS := (hs1.far (p := ⟨p, 2, none⟩) n1 (.slice none 0 0)).drew
  have hmem : ∀ k, k ∈ F → (Value.slice A1 b.length k1).ownBlock ≠ some k → k ∈ F.filter fun k => (Value.slice A1 b.length k1).ownBlock != some k := fun k hk hn => List.mem_filter.2 ⟨hk, by simpa [bne_iff_ne] using hn⟩
  refine ⟨⟨A1, k1, rfl, hS, fun k hk => ⟨f1 k hk, fun e => n1 (by rw [hk, e])⟩, ?_⟩, ((Chg.refl F w).setCell (.inl hp) _).drew⟩
  exact ⟨_, _, (by simpa using hb.set_ 2 (.slice none 0 0) : Blk _ _ _ _).drew, (hs0.far (p := ⟨p, 2, none⟩) (hs0.ne hb (by decide)) _).drew, Sl.nil _ _ _, hmem p hp n1, fun k hk => hmem k (f0 k hk) (hne k hk), fun k hk => by simp [Value.ownBlock] at hk, fun k hk => by simp [Value.ownBlock],
    fun k hk => by simpa [World.setCell] using hF k ((List.mem_filter.1 hk).1)⟩
end Go.Proofs.Ytbmdcfeiecmlpaa
