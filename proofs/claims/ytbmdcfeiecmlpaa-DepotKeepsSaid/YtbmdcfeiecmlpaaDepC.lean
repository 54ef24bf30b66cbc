import Derived.Test.YtbmdcfeiecmlpaaDepB
namespace Go.Proofs.Ytbmdcfeiecmlpaa
open Go Go.RowKit

/-! ## Get -/
set_option maxHeartbeats 1000000 in
theorem dget_no {w : World} {d r : Nat} {q : List Ob} {F : List Nat} (hm : DMem 73 w d r [] q F) :
    Calls Try.prog 20 #[.pointer (some ⟨d, 0, none⟩)] w fun e w' => e = .returned (.tuple #[.slice none 0 0, .bool false]) ∧ w = w' := by
  obtain ⟨A0, c0, A1, c1, vs, hb, h0, h1, hs, hd, n0, n1, n2, hnd, hlt⟩ := hm.parts
  have x1 := hb.cell 1
  simp at x1
  go_enter Try.func20, Try.ntmps20
  go_wp2_with (first | (go_at_call 37; refine (dfulls_at d A0 0 c0 _ (by go_simp)).mono ?_; rintro e w' ⟨rfl, rfl⟩) | (refine wpT_calc0 rfl rfl (fun K hK => ?_)) | (refine wpT_skipG rfl ?_ ?_; focus (simp [yielded]; done); go_simp) | (refine wpT_calcG rfl rfl ?_ (fun K hK => ?_); focus (simp [yielded]; done)) | (refine wpT_pure (fun K hK => ?_); go_simp; refine hK _ _ ?_; clear hK K) | (refine wpT_plain (by decide) rfl (fun K hK => ?_)) | (refine wpT_deed (by decide) (fun K hK => ?_); go_simp) | (refine wpT_nil ?_))
  go_ret2
  exact ⟨rfl, rfl⟩

set_option maxHeartbeats 1000000 in
theorem dget_yes {w : World} {d r : Nat} {fs : List (List Ob)} {l q : List Ob} {F : List Nat} (hm : DMem 73 w d r (fs ++ [l]) q F) (hf : fs.length ≤ 1000000) :
    Calls Try.prog 20 #[.pointer (some ⟨d, 0, none⟩)] w fun e w' => (∃ A c, e = .returned (.tuple #[.slice A l.length c, .bool true]) ∧ SO w' (.slice A l.length c) l ∧ (∀ k ∈ own (Value.slice A l.length c), k ∈ F ∧ k ≠ d) ∧
      DMem 73 w' d r fs q (F.filter fun k => (Value.slice A l.length c).ownBlock != some k)) ∧ Chg F w w' := by
  obtain ⟨A0, c0, A1, c1, vs, hb, h0, h1, hs, hd, n0, n1, n2, hnd, hlt⟩ := hm.parts
  obtain ⟨us, u, rfl, hus, hu⟩ := hs.last
  obtain ⟨A, c, rfl⟩ := hu.form
  have el : (fs ++ [l]).length = fs.length + 1 := by simp
  rw [el] at hb h0 n0
  obtain ⟨g, off, cc, eA, hcc, hat⟩ := h0.rd.at_ (k := fs.length) (by omega)
  injection eA with eA _ ec
  subst eA; subst ec
  obtain ⟨x, hx, hcell⟩ := hat 0 (by omega)
  have hul : us.length = fs.length := hus.1
  rw [Nat.mul_one, Nat.add_zero, ← hul] at hx
  simp at hx
  subst hx
  simp at hcell
  have x1 := hb.cell 1
  have y1 := hb.frozen 1
  simp at x1
  have e0 : ((fs.length : Int) + 1 == 0) = false := beq_eq_false_iff_ne.2 (by omega)
  have Hul := hide hul
  have Hel := hide el
  clear hul el hat
  go_enter Try.func20, Try.ntmps20
  go_wp2_with (first | (go_at_call 37; refine (dfulls_at d (some ⟨g, off, none⟩) (fs.length + 1) c0 _ (by go_simp)).mono ?_; rintro e w' ⟨rfl, rfl⟩) | (refine wpT_calc0 rfl rfl (fun K hK => ?_)) | (refine wpT_skipG rfl ?_ ?_; focus (simp [yielded]; done); go_simp) | (refine wpT_calcG rfl rfl ?_ (fun K hK => ?_); focus (simp [yielded]; done)) | (refine wpT_pure (fun K hK => ?_); go_simp; refine hK _ _ ?_; clear hK K) | (refine wpT_plain (by decide) rfl (fun K hK => ?_)) | (refine wpT_deed (by decide) (fun K hK => ?_); go_simp) | (refine wpT_nil ?_))
  go_ret2
  have hnd1 : (List.flatMap own us ++ own (Value.slice A l.length c)).Nodup := by
    have := (List.nodup_append.1 hnd).2.1
    simpa [List.flatMap_append] using this
  have hA : ∀ k, k ∈ own (Value.slice A l.length c) → k ∈ List.flatMap own (us ++ [Value.slice A l.length c]) := fun k hk => by
    rw [List.flatMap_append]; exact List.mem_append_right _ (by simpa using hk)
  have hU : ∀ k, k ∈ List.flatMap own us → k ∈ List.flatMap own (us ++ [Value.slice A l.length c]) := fun k hk => by
    rw [List.flatMap_append]; exact List.mem_append_left _ hk
  have nu : ∀ {k : Nat}, k ∈ own (Value.slice A l.length c) → ∃ cur, Blk w k 28 cur := fun hk => Sl.blk hu hk
  have hne : ∀ k ∈ own (Value.slice A l.length c), k ∈ F ∧ k ≠ d := fun k hk => ⟨n2 k (hA k hk), fun e => by
    obtain ⟨cur, hk'⟩ := nu hk
    subst e
    exact hk'.ne_ hb (by decide) rfl⟩
  have fil : ∀ k, k ∈ F → k ∉ own (Value.slice A l.length c) → k ∈ F.filter fun k => (Value.slice A l.length c).ownBlock != some k := fun k hk hn => List.mem_filter.2 ⟨hk, by
    have : (Value.slice A l.length c).ownBlock ≠ some k := fun e => hn (own_mem.2 e)
    simpa [bne_iff_ne] using this⟩
  have h0' : Sl w 22 1 (.slice (some ⟨g, off, none⟩) fs.length c0) fs.length us := by
    have := h0.take (k := fs.length) (by omega) rfl
    rw [Nat.mul_one, List.take_left' Hul.out] at this
    exact this
  have hu2 := Sl.far hu (p := ⟨d, 1, none⟩) (blk_other hu hb (by decide)) (.slice (some ⟨g, off, none⟩) fs.length c0)
  refine ⟨⟨A, c, rfl, hu2, hne, DMem.set1 (by decide) hb h0' h1 hus (fil d hd fun h => (hne d h).2 rfl) (fun k hk => fil k (n0 k hk) fun h => ?_) (fun k hk => fil k (n1 k hk) fun h => ?_) (fun k hk => fil k (n2 k (hU k hk)) fun h => ?_) ?_ (fun k hk => hlt k (List.mem_filter.1 hk).1)⟩, (Chg.refl F w).setCell (.inl hd) _⟩
  · exact no28 h0' k (nu h) hk
  · exact (List.nodup_append.1 hnd).2.2 k hk k (hA k h) rfl
  · exact (List.nodup_append.1 hnd1).2.2 k hk k h rfl
  · rw [List.flatMap_append, ← List.append_assoc] at hnd
    exact (List.nodup_append.1 hnd).1

/-! ## Queue -/
theorem DMem.enq {T : TypeId} (hT : T ≠ 22 ∧ T ≠ 28) {w W1 w3 : World} {d r : Nat} {fs : List (List Ob)} {q l : List Ob} {F : List Nat} {v0 v1 V : Value} {vs : List Value} (hb : Blk w d T #[.int .i64 r, v0, v1]) (h0 : Sl w 22 1 v0 fs.length vs) (h1 : SO w v1 q) (hs : SS w vs fs)
    (hd : d ∈ F) (n0 : ∀ k ∈ own v0, k ∈ F) (n1 : ∀ k ∈ own v1, k ∈ F) (n2 : ∀ k ∈ vs.flatMap own, k ∈ F) (hnd : (own v1 ++ vs.flatMap own).Nodup) (hlt : ∀ k ∈ F, k < w.heap.size)
    (hS : Chg [] w W1) (hs3 : SO w3 V (q ++ l)) (hc3 : Chg (own v1) W1 w3) (ho3 : V.ownBlock = v1.ownBlock ∨ V.ownBlock = some W1.heap.size) :
    (∃ F', DMem T (w3.setCell ⟨d, 2, none⟩ V) d r fs (q ++ l) F' ∧ Step F F' w) ∧ Chg F w (w3.setCell ⟨d, 2, none⟩ V) := by
  have hz0 := hS.size
  have hz3 := hc3.size
  have hV : ∀ k ∈ own V, k ∈ own v1 ∨ k = W1.heap.size := fun k hk => by
    rw [own_mem] at hk
    rcases ho3 with e | e
    · exact .inl (own_mem.2 (by rw [← e]; exact hk))
    · rw [hk] at e; exact .inr (by simpa using e)
  have hx : ∀ k ∈ own v1, k ∉ own v0 := fun k hk h => by
    obtain ⟨cur, hk'⟩ := Sl.blk h1 hk
    obtain ⟨cur', hk2⟩ := Sl.blk h0 h
    exact hk'.ne_ hk2 (by decide) rfl
  have hcA : Chg F w w3 := (hS.mono (fun _ h => by cases h)).trans hc3 fun k hk => .inl (n1 k hk)
  refine ⟨⟨own V ++ F, DMem.set2 hT ((hb.chg hS List.not_mem_nil).chg hc3 fun h => blk_other h1 hb hT.2 (own_mem.1 h)) ((h0.chg hS (fun _ _ h => by cases h)).chg hc3 fun k hk h => hx k h (own_mem.2 hk)) hs3
    ((hs.chg hS (fun _ _ h => by cases h)).chg hc3 fun k hk h => (List.nodup_append.1 hnd).2.2 k h k hk rfl) (List.mem_append_right _ hd) (fun k hk => List.mem_append_right _ (n0 k hk)) (fun k hk => List.mem_append_left _ hk) (fun k hk => List.mem_append_right _ (n2 k hk)) ?_ ?_, ?_⟩, hcA.setCell (.inl hd) _⟩
  · refine List.nodup_append.2 ⟨?_, (List.nodup_append.1 hnd).2.1, fun a ha b hb e => ?_⟩
    · unfold own; cases V.ownBlock <;> simp
    · subst e
      rcases hV a ha with h | h
      · exact (List.nodup_append.1 hnd).2.2 a h a hb rfl
      · have := hlt a (n2 a hb); omega
  · intro k hk
    rcases List.mem_append.1 hk with hk | hk
    · exact hs3.own_lt k hk
    · have := hlt k hk; omega
  · intro k hk
    rcases List.mem_append.1 hk with hk | hk
    · rcases hV k hk with h | h
      · exact .inl (n1 k h)
      · exact .inr (by omega)
    · exact .inl hk

set_option maxHeartbeats 1000000 in
theorem dqueue_at {w : World} {d r : Nat} {fs : List (List Ob)} {q : List Ob} {F : List Nat} (hr : 1 ≤ r) (hm : DMem 73 w d r fs q F) (x y : Int) (hq : q.length ≤ 100000) :
    Calls Try.prog 17 #[.pointer (some ⟨d, 0, none⟩), .agg #[.int .i64 x, .int .i64 y]] w fun e w' => e = .returned (.tuple #[]) ∧ (∃ F', DMem 73 w' d r fs (q ++ [(x, y)]) F' ∧ Step F F' w) ∧ Chg F w w' := by
  obtain ⟨A0, c0, A1, c1, vs, hb, h0, h1, hs, hd, n0, n1, n2, hnd, hlt⟩ := hm.parts
  have x0 := hb.cell 0
  have x2 := hb.cell 2
  have y2 := hb.frozen 2
  simp at x0 x2
  have hdl := hlt d hd
  have hr0 : decide ((0 : Int) < (r : Int)) = true := by simp; omega
  have Hnd := hide hnd
  clear hnd
  go_enter Try.func17, Try.ntmps17
  go_wp2_with (first | (go_at_call 15; refine (drounds_at _ (r : Int) _ (by go_simp)).mono ?_; rintro e w' ⟨rfl, rfl⟩) | (refine wpT_calc0 rfl rfl (fun K hK => ?_)) | (refine wpT_skipG rfl ?_ ?_; focus (simp [yielded]; done); go_simp) | (refine wpT_calcG rfl rfl ?_ (fun K hK => ?_); focus (simp [yielded]; done)) | (refine wpT_pure (fun K hK => ?_); go_simp; refine hK _ _ ?_; clear hK K) | (refine wpT_plain (by decide) rfl (fun K hK => ?_)) | (refine wpT_deed (by decide) (fun K hK => ?_); go_simp) | (refine wpT_nil ?_))
  refine wp_region_t [0, 0, 0, 0, 1, 1, 2, 3, 0, 0, 3] [none, none, none, none, none, none, none, none, none, none, none] (fun _ => True) (by kernel_rfl) (by kernel_rfl) (by kernel_rfl) ?_
  have hS : Chg [] w (((w.alloc (.cells #[.int .i64 x, .int .i64 y] 28)).alloc (.cells #[.int .i64 x, .int .i64 y] 28)).drew) := (((Chg.refl [] w).alloc _).alloc _).drew
  have hR1 : RO (((w.alloc (.cells #[.int .i64 x, .int .i64 y] 28)).alloc (.cells #[.int .i64 x, .int .i64 y] 28)).drew) (.slice (some ⟨w.heap.size + 1, 0, none⟩) 1 1) [(x, y)] := by
    have h := (RO_one (w.alloc (.cells #[.int .i64 x, .int .i64 y] 28)) x y).drew
    unfold RO at h ⊢
    simpa using h
  go_wp2_with (first | (refine wpG_deed (by decide) (fun K hK => ?_); refine wp_append_ob _ _ rfl (.slice A1 q.length c1) (.slice (some ⟨w.heap.size + 1, 0, none⟩) 1 1) rfl rfl (Sl.chg h1 hS (fun _ _ h => by cases h)) hR1 (by simp; omega) ?_; intro A3 k3 w3 hs3 hc3 ho3; have hb3 := (hb.chg hS List.not_mem_nil).chg hc3 (not_own (blk_other h1 hb (by decide))); have z2 := hb3.cell 2; have v2 := hb3.frozen 2; simp at z2; refine hK _ _ ?_; clear hK K) | (refine wpG_calc rfl (fun K hK => ?_)) | (refine wpG_skip ?_ ?_; (focus (simp [wantG]; done)); go_simp) | (refine wpG_take ?_ ?_; (focus (simp [wantG]; done))) | (refine wpG_pure (fun K hK => ?_); go_simp; refine hK _ _ ?_; clear hK K) | (refine wpG_deed (by decide) (fun K hK => ?_); go_simp) | (refine wpG_nil ?_))
  refine bodyPost_end (by simp [results, Try.results17, go_sem]) rfl ⟨rfl, DMem.enq (by decide) hb h0 h1 hs hd n0 n1 n2 Hnd.out hlt hS hs3 hc3 ho3⟩
end Go.Proofs.Ytbmdcfeiecmlpaa
