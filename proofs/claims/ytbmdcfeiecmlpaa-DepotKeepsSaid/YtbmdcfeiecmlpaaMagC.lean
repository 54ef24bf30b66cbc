import Derived.Test.YtbmdcfeiecmlpaaMagB
namespace Go.Proofs.Ytbmdcfeiecmlpaa
open Go Go.RowKit

set_option maxHeartbeats 1000000 in
theorem put_walk {w : World} {p r : Nat} {a b a' b' : List Ob} {F : List Nat} (hr : 1 ≤ r) (hr2 : r ≤ 32) (hm : PMem w p r a b F) (x y : Int) (hl : a'.length < 32)
    (h : ∀ W, PMem W p r a b F → Calls Try.prog 47 #[.pointer (some ⟨p, 0, none⟩), .func (.func 48) #[.pointer (some ⟨p, 0, none⟩)] #[]] W fun e w' => e = .returned (.bool true) ∧ PMem w' p r a' b' F ∧ Chg F W w') :
    Calls Try.prog 24 #[.pointer (some ⟨p, 0, none⟩), .agg #[.int .i64 x, .int .i64 y]] w fun e w' => e = .returned (.bool true) ∧ (∃ F', PMem w' p r (a' ++ [(x, y)]) b' F' ∧ ∀ k ∈ F', k ∈ F ∨ w.heap.size ≤ k) ∧ Chg F w w' := by
  have H := hide h
  have hr0 : ((r : Int) == 0) = false := beq_eq_false_iff_ne.2 (by omega)
  obtain ⟨_, _, _, _, hb, _, _, hp, _, _, _, hF⟩ := hm.open_
  have c0 := hb.cell 0
  simp at c0
  have hpl := hF p hp
  clear h hb
  go_enter Try.func24, Try.ntmps24
  go_wp2_with (first | (go_at_call 27; refine (rounds_at p r _ (by go_simp)).mono ?_; rintro e w' ⟨rfl, rfl⟩) | (refine wpT_calc0 rfl rfl (fun K hK => ?_)) | (refine wpT_skipG rfl ?_ ?_; focus (simp [yielded]; done); go_simp) | (refine wpT_calcG rfl rfl ?_ (fun K hK => ?_); focus (simp [yielded]; done)) | (refine wpT_pure (fun K hK => ?_); go_simp; refine hK _ _ ?_; clear hK K) | (refine wpT_plain (by decide) rfl (fun K hK => ?_)) | (refine wpT_deed (by decide) (fun K hK => ?_); go_simp) | (refine wpT_nil ?_))
  refine (H.out _ (hm.chg ((Chg.refl [] w).alloc _) (by simp))).mono ?_
  rintro e w1 ⟨rfl, hm1, hc1⟩
  obtain ⟨A0, k0, A1, k1, hb, h0, h1, hp, f0, f1, hne, hF1⟩ := hm1.open_
  have x1 := hb.cell 1
  simp at x1
  have hs := hc1.size
  simp at hs
  have hs2 : w.heap.size < w1.heap.size := by omega
  have hbz := (Blk.new w 28 #[.int .i64 x, .int .i64 y]).chg hc1 (fun h => by have := hF _ h; omega)
  have z0 := hbz.cell 0
  have z1 := hbz.cell 1
  simp at z0 z1
  clear hbz
  go_wp2_with (first | fail | (refine wpT_calc0 rfl rfl (fun K hK => ?_)) | (refine wpT_skipG rfl ?_ ?_; focus (simp [yielded]; done); go_simp) | (refine wpT_calcG rfl rfl ?_ (fun K hK => ?_); focus (simp [yielded]; done)) | (refine wpT_pure (fun K hK => ?_); go_simp; refine hK _ _ ?_; clear hK K) | (refine wpT_plain (by decide) rfl (fun K hK => ?_)) | (refine wpT_deed (by decide) (fun K hK => ?_); go_simp) | (refine wpT_nil ?_))
  refine wp_region_by (by kernel_rfl) (by kernel_rfl) ?_
  go_wp2_with (first | (refine wpT_plain (by decide) rfl (fun K hK => ?_); refine wp_append_ob _ _ rfl (.slice A0 a'.length k0) _ rfl rfl (h0.alloc _).drew (RO_one w1 x y).drew (by simp; omega) ?_; intro A2 k2 w2 hv2 hc2 ho2; have hb2 := ((hb.alloc _).drew).chg hc2 (not_own (h0.ne hb (by decide))); have x2 := hb2.cell 1; have y2 := hb2.frozen 1; simp at x2; refine hK _ _ ?_; clear hK K) | (refine wpT_calc0 rfl rfl (fun K hK => ?_)) | (refine wpT_skipG rfl ?_ ?_; focus (simp [yielded]; done); go_simp) | (refine wpT_calcG rfl rfl ?_ (fun K hK => ?_); focus (simp [yielded]; done)) | (refine wpT_pure (fun K hK => ?_); go_simp; refine hK _ _ ?_; clear hK K) | (refine wpT_plain (by decide) rfl (fun K hK => ?_)) | (refine wpT_deed (by decide) (fun K hK => ?_); go_simp) | (refine wpT_nil ?_))
  go_ret
  have hlen : a'.length + [(x, y)].length = a'.length + 1 := rfl
  rw [hlen] at hv2 ho2
  have hz2 : w1.heap.size + 1 ≤ w2.heap.size := by have := hc2.size; simpa using this
  have hA : ∀ k, (Value.slice A2 (a'.length + 1) k2).ownBlock = some k → k ∈ F ∨ k = w1.heap.size + 1 := fun k hk => by
    rcases ho2 with e | e
    · exact .inl (f0 k (by rw [← e]; exact hk))
    · rw [hk] at e
      exact .inr (by simpa using e)
  have h1' := ((h1.alloc (.cells #[.int .i64 x, .int .i64 y] 28)).drew.chg hc2 (fun k hk hk2 => hne k (by simpa using hk2) hk)).far (p := ⟨p, 1, none⟩) (h1.ne hb (by decide)) (.slice A2 (a'.length + 1) k2)
  refine ⟨rfl, ⟨(Value.slice A2 (a'.length + 1) k2).ownBlock.toList ++ F, ⟨_, _, by simpa using hb2.set_ 1 (.slice A2 (a'.length + 1) k2), hv2.far (p := ⟨p, 1, none⟩) (hv2.ne hb2 (by decide)) _, h1', List.mem_append_right _ hp, fun k hk => List.mem_append_left _ (by rw [hk]; simp), fun k hk => List.mem_append_right _ (f1 k hk), fun k hk hk2 => ?_, fun k hk => ?_⟩, fun k hk => ?_⟩, ?_⟩
  · rcases ho2 with e | e
    · exact hne k (by rw [← e]; exact hk) hk2
    · rw [hk] at e
      have := hF1 k (f1 k hk2)
      have : k = w1.heap.size + 1 := by simpa using e
      omega
  · have hsz : (w2.setCell ⟨p, 1, none⟩ (.slice A2 (a'.length + 1) k2)).heap.size = w2.heap.size := by simp [World.setCell]
    rw [hsz]
    rcases List.mem_append.1 hk with hk | hk
    · exact Sl.lt hv2 k (by simpa using hk)
    · have := hF1 k hk; omega
  · rcases List.mem_append.1 hk with hk | hk
    · rcases hA k (by simpa using hk) with h | h
      · exact .inl h
      · exact .inr (by omega)
    · exact .inl hk
  · refine Chg.setCell ?_ (.inl hp) _
    refine (((Chg.refl F w).alloc _).trans hc1 (fun x hx => .inl hx)).trans ((((Chg.refl [] w1).alloc _).drew.mono (fun _ h => by cases h)).trans (hc2.mono (fun k hk => .inl (f0 k (by simpa using hk)))) (fun k hk => .inl hk)) (fun k hk => .inl hk)
end Go.Proofs.Ytbmdcfeiecmlpaa
