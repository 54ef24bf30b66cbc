import Derived.Test.YtbmdcfeiecmlpaaMagD
namespace Go.Proofs.Ytbmdcfeiecmlpaa
open Go Go.RowKit

set_option maxHeartbeats 1000000 in
theorem all_nil (w : World) : Calls Try.prog 35 #[.pointer none] w fun e w' => e = .returned (.slice none 0 0) ∧ w = w' := by
  go_enter Try.func35, Try.ntmps35
  go_wp2_with (first | fail | (refine wpT_calc0 rfl rfl (fun K hK => ?_)) | (refine wpT_skipG rfl ?_ ?_; focus (simp [yielded]; done); go_simp) | (refine wpT_calcG rfl rfl ?_ (fun K hK => ?_); focus (simp [yielded]; done)) | (refine wpT_pure (fun K hK => ?_); go_simp; refine hK _ _ ?_; clear hK K) | (refine wpT_plain (by decide) rfl (fun K hK => ?_)) | (refine wpT_deed (by decide) (fun K hK => ?_); go_simp) | (refine wpT_nil ?_))
  go_ret
  exact ⟨rfl, rfl⟩

/-- a slice of two slices that was just made -/
theorem RL_two {w : World} {v0 v1 : Value} {l0 l1 : List Ob} (h0 : RO w v0 l0) (h1 : RO w v1 l1) (t : TypeId) :
    RL (w.alloc (.cells #[v0, v1] t)) (.slice (some ⟨w.heap.size, 0, none⟩) 2 2) [l0, l1] := by
  refine ⟨[v0, v1], Rd_new w t 1 2 [v0, v1] rfl, fun i hi => ?_⟩
  match i, hi with
  | 0, _ => exact ⟨v0, rfl, Rd.alloc h0 _⟩
  | 1, _ => exact ⟨v1, rfl, Rd.alloc h1 _⟩

theorem RL.drew {w : World} {v : Value} {ls : List (List Ob)} (h : RL w v ls) : RL w.drew v ls := h

set_option maxHeartbeats 1000000 in
theorem all_at {w : World} {p r : Nat} {a b : List Ob} {F : List Nat} (hm : PMem w p r a b F) (ha : a.length ≤ 1000) (hb : b.length ≤ 1000) :
    Calls Try.prog 35 #[.pointer (some ⟨p, 0, none⟩)] w fun e w' => NewO w w' (b ++ a) e ∧ Chg [] w w' := by
  obtain ⟨A0, k0, A1, k1, hbk, h0, h1, _⟩ := hm.open_
  have c1 := hbk.cell 1
  have c2 := hbk.cell 2
  simp at c1 c2
  go_enter Try.func35, Try.ntmps35
  go_wp2_with (first | fail | (refine wpT_calc0 rfl rfl (fun K hK => ?_)) | (refine wpT_skipG rfl ?_ ?_; focus (simp [yielded]; done); go_simp) | (refine wpT_calcG rfl rfl ?_ (fun K hK => ?_); focus (simp [yielded]; done)) | (refine wpT_pure (fun K hK => ?_); go_simp; refine hK _ _ ?_; clear hK K) | (refine wpT_plain (by decide) rfl (fun K hK => ?_)) | (refine wpT_deed (by decide) (fun K hK => ?_); go_simp) | (refine wpT_nil ?_))
  refine wp_region_by (by kernel_rfl) (by kernel_rfl) ?_
  go_wp2_with (first | (go_at_call 51; refine (concat_any (RL_two (w := w) h1.ro h0.ro 22).drew (by simp) (by simp; omega)).mono ?_; rintro e w1 ⟨⟨A, c, rfl, hs, hn⟩, hc⟩) | (refine wpT_calc0 rfl rfl (fun K hK => ?_)) | (refine wpT_skipG rfl ?_ ?_; focus (simp [yielded]; done); go_simp) | (refine wpT_calcG rfl rfl ?_ (fun K hK => ?_); focus (simp [yielded]; done)) | (refine wpT_pure (fun K hK => ?_); go_simp; refine hK _ _ ?_; clear hK K) | (refine wpT_plain (by decide) rfl (fun K hK => ?_)) | (refine wpT_deed (by decide) (fun K hK => ?_); go_simp) | (refine wpT_nil ?_))
  go_ret
  have e0 : [b, a].flatten = b ++ a := by simp
  rw [e0] at hs hn
  exact ⟨⟨A, c, by simp, hs, fun k hk => by have := hn k hk; simp at this; omega⟩, ((Chg.refl [] w).alloc _).drew.trans hc (fun k hk => by cases hk)⟩

set_option maxHeartbeats 1000000 in
theorem len_nil (w : World) : Calls Try.prog 26 #[.pointer none] w fun e w' => e = .returned (.int .i64 0) ∧ w = w' := by
  go_enter Try.func26, Try.ntmps26
  go_wp2_with (first | (go_at_call 35; refine (all_nil _).mono ?_; rintro e w' ⟨rfl, rfl⟩) | (refine wpT_calc0 rfl rfl (fun K hK => ?_)) | (refine wpT_skipG rfl ?_ ?_; focus (simp [yielded]; done); go_simp) | (refine wpT_calcG rfl rfl ?_ (fun K hK => ?_); focus (simp [yielded]; done)) | (refine wpT_pure (fun K hK => ?_); go_simp; refine hK _ _ ?_; clear hK K) | (refine wpT_plain (by decide) rfl (fun K hK => ?_)) | (refine wpT_deed (by decide) (fun K hK => ?_); go_simp) | (refine wpT_nil ?_))
  go_ret
  exact ⟨rfl, rfl⟩

set_option maxHeartbeats 1000000 in
theorem len_at {w : World} {p r : Nat} {a b : List Ob} {F : List Nat} (hm : PMem w p r a b F) (ha : a.length ≤ 1000) (hb : b.length ≤ 1000) :
    Calls Try.prog 26 #[.pointer (some ⟨p, 0, none⟩)] w fun e w' => e = .returned (.int .i64 (b ++ a).length) ∧ Chg [] w w' := by
  go_enter Try.func26, Try.ntmps26
  go_wp2_with (first | (go_at_call 35; refine (all_at hm ha hb).mono ?_; rintro e w' ⟨⟨A, c, rfl, hs, hn⟩, hc⟩) | (refine wpT_calc0 rfl rfl (fun K hK => ?_)) | (refine wpT_skipG rfl ?_ ?_; focus (simp [yielded]; done); go_simp) | (refine wpT_calcG rfl rfl ?_ (fun K hK => ?_); focus (simp [yielded]; done)) | (refine wpT_pure (fun K hK => ?_); go_simp; refine hK _ _ ?_; clear hK K) | (refine wpT_plain (by decide) rfl (fun K hK => ?_)) | (refine wpT_deed (by decide) (fun K hK => ?_); go_simp) | (refine wpT_nil ?_))
  go_ret
  exact ⟨by simp, hc⟩

/-- how many rounds a pair made for x has -/
def clamp (x : Int) : Nat := if x < 1 then 1 else if 32 < x then 32 else x.toNat
theorem clamp_le (x : Int) : 1 ≤ clamp x ∧ clamp x ≤ 32 := by unfold clamp; split <;> (try split) <;> omega
theorem PMem.made (w : World) (r : Nat) : PMem (w.alloc (.cells #[.int .i64 r, .slice none 0 0, .slice none 0 0] 59)) w.heap.size r [] [] [w.heap.size] :=
  ⟨_, _, Blk.new w 59 _, Sl.nil _ _ _, Sl.nil _ _ _, by simp, fun k hk => by simp [Value.ownBlock] at hk, fun k hk => by simp [Value.ownBlock] at hk, fun k hk => by simp [Value.ownBlock] at hk, fun k hk => by
    obtain rfl := List.mem_singleton.1 hk; simp⟩

set_option maxHeartbeats 1000000 in
theorem new_any (x : Int) (w : World) : Calls Try.prog 23 #[.int .i64 x] w fun e w' => e = .returned (.pointer (some ⟨w.heap.size, 0, none⟩)) ∧ PMem w' w.heap.size (clamp x) [] [] [w.heap.size] ∧ Chg [] w w' := by
  by_cases h1 : x < 1
  · rw [show clamp x = 1 by simp [clamp, h1]]
    go_enter Try.func23, Try.ntmps23
    go_wp2_with (first | fail | (refine wpT_calc0 rfl rfl (fun K hK => ?_)) | (refine wpT_skipG rfl ?_ ?_; focus (simp [yielded]; done); go_simp) | (refine wpT_calcG rfl rfl ?_ (fun K hK => ?_); focus (simp [yielded]; done)) | (refine wpT_pure (fun K hK => ?_); go_simp; refine hK _ _ ?_; clear hK K) | (refine wpT_plain (by decide) rfl (fun K hK => ?_)) | (refine wpT_deed (by decide) (fun K hK => ?_); go_simp) | (refine wpT_nil ?_))
    go_ret
    exact ⟨rfl, PMem.made w 1, (Chg.refl [] w).alloc _⟩
  · by_cases h2 : 32 < x
    · rw [show clamp x = 32 by simp [clamp, h1, h2]]
      go_enter Try.func23, Try.ntmps23
      go_wp2_with (first | fail | (refine wpT_calc0 rfl rfl (fun K hK => ?_)) | (refine wpT_skipG rfl ?_ ?_; focus (simp [yielded]; done); go_simp) | (refine wpT_calcG rfl rfl ?_ (fun K hK => ?_); focus (simp [yielded]; done)) | (refine wpT_pure (fun K hK => ?_); go_simp; refine hK _ _ ?_; clear hK K) | (refine wpT_plain (by decide) rfl (fun K hK => ?_)) | (refine wpT_deed (by decide) (fun K hK => ?_); go_simp) | (refine wpT_nil ?_))
      go_ret
      exact ⟨rfl, PMem.made w 32, (Chg.refl [] w).alloc _⟩
    · rw [show clamp x = x.toNat by simp [clamp, h1, h2]]
      go_enter Try.func23, Try.ntmps23
      go_wp2_with (first | fail | (refine wpT_calc0 rfl rfl (fun K hK => ?_)) | (refine wpT_skipG rfl ?_ ?_; focus (simp [yielded]; done); go_simp) | (refine wpT_calcG rfl rfl ?_ (fun K hK => ?_); focus (simp [yielded]; done)) | (refine wpT_pure (fun K hK => ?_); go_simp; refine hK _ _ ?_; clear hK K) | (refine wpT_plain (by decide) rfl (fun K hK => ?_)) | (refine wpT_deed (by decide) (fun K hK => ?_); go_simp) | (refine wpT_nil ?_))
      go_ret
      have e : ((x.toNat : Nat) : Int) = x := by omega
      have := PMem.made w x.toNat
      rw [e] at this
      exact ⟨rfl, this, (Chg.refl [] w).alloc _⟩

theorem PMem.put0 {w : World} {p r : Nat} {a b l : List Ob} {F : List Nat} {V : Value} {B : Nat} (hm : PMem w p r a b F) (hs : SO w V l) (hB : ∀ k ∈ F, k < B) (hV : ∀ k, V.ownBlock = some k → B ≤ k) :
    PMem (w.setCell ⟨p, 1, none⟩ V) p r l b (V.ownBlock.toList ++ F) := by
  obtain ⟨v0, v1, hb, h0, h1, hp, f0, f1, hne, hlt⟩ := hm
  refine ⟨V, v1, by simpa using hb.set_ 1 V, hs.far (p := ⟨p, 1, none⟩) (hs.ne hb (by decide)) _, h1.far (p := ⟨p, 1, none⟩) (h1.ne hb (by decide)) _, List.mem_append_right _ hp, fun k hk => List.mem_append_left _ (by rw [hk]; simp), fun k hk => List.mem_append_right _ (f1 k hk), fun k hk hk2 => ?_, fun k hk => ?_⟩
  · have := hV k hk
    have := hB k (f1 k hk2)
    omega
  · have hsz : (w.setCell ⟨p, 1, none⟩ V).heap.size = w.heap.size := by simp [World.setCell]
    rw [hsz]
    rcases List.mem_append.1 hk with hk | hk
    · exact Sl.lt hs k (by simpa using hk)
    · exact hlt k hk
theorem PMem.put1nil {w : World} {p r : Nat} {a b : List Ob} {F : List Nat} (hm : PMem w p r a b F) : PMem (w.setCell ⟨p, 2, none⟩ (.slice none 0 0)) p r a [] F := by
  obtain ⟨v0, v1, hb, h0, h1, hp, f0, f1, hne, hlt⟩ := hm
  refine ⟨v0, .slice none 0 0, by simpa using hb.set_ 2 (.slice none 0 0), h0.far (p := ⟨p, 2, none⟩) (h0.ne hb (by decide)) _, Sl.nil _ _ _, hp, f0, fun k hk => by simp [Value.ownBlock] at hk, fun k hk => by simp [Value.ownBlock], fun k hk => by simpa [World.setCell] using hlt k hk⟩

set_option maxHeartbeats 1000000 in
theorem load_walk {w : World} {p r : Nat} {a b : List Ob} {F : List Nat} (hr : 1 ≤ r) (hr2 : r ≤ 32) (hm : PMem w p r a b F) {v : Value} {l : List Ob} (hl : RO w v l) (hlen : l.length ≤ 1000) (ha : a.length ≤ 32) (hb : b.length ≤ 32)
    (h1 : l ≠ []) (h2 : l.length ≤ r) (h3 : b ++ a = []) :
    Calls Try.prog 31 #[.pointer (some ⟨p, 0, none⟩), v] w fun e w' => e = .returned (.int .i64 0) ∧ (∃ F', PMem w' p r l [] F' ∧ ∀ k ∈ F', k ∈ F ∨ w.heap.size ≤ k) ∧ Chg F w w' := by
  have ha0 : a = [] := (List.append_eq_nil_iff.1 h3).2
  have hb0 : b = [] := (List.append_eq_nil_iff.1 h3).1
  subst ha0; subst hb0
  have hr0 : ((r : Int) == 0) = false := beq_eq_false_iff_ne.2 (by omega)
  have hl0 : ((l.length : Int) == 0) = false := beq_eq_false_iff_ne.2 (fun e => h1 (List.eq_nil_of_length_eq_zero (by omega)))
  obtain ⟨A, c, rfl⟩ := hl.form
  obtain ⟨A0, k0, A1, k1, hb, _, _, hp, _, _, _, hF⟩ := hm.open_
  have c0 := hb.cell 0
  simp at c0
  have H1 := hide h1
  clear h1
  go_enter Try.func31, Try.ntmps31
  go_wp2_with (first | (go_at_call 27; refine (rounds_at p r _ (by go_simp)).mono ?_; rintro e w' ⟨rfl, rfl⟩) | (go_at_call 26; refine (len_at hm (by simp) (by simp)).mono ?_; rintro e w1 ⟨rfl, hc1⟩) | (refine wpT_calc0 rfl rfl (fun K hK => ?_)) | (refine wpT_skipG rfl ?_ ?_; focus (simp [yielded]; done); go_simp) | (refine wpT_calcG rfl rfl ?_ (fun K hK => ?_); focus (simp [yielded]; done)) | (refine wpT_pure (fun K hK => ?_); go_simp; refine hK _ _ ?_; clear hK K) | (refine wpT_plain (by decide) rfl (fun K hK => ?_)) | (refine wpT_deed (by decide) (fun K hK => ?_); go_simp) | (refine wpT_nil ?_))
  refine wp_region_by (by kernel_rfl) (by kernel_rfl) ?_
  go_wp2_with (first | (go_at_call 46; refine (clone_any (Rd.chg hl hc1 (by simp)).drew (by omega)).mono ?_; rintro e w2 ⟨⟨A2, c2, rfl, hs2, hn2⟩, hc2⟩; have hb2 := (hb.chg hc1 (by simp)).drew.chg hc2 (by simp); have x1 := hb2.cell 1; have y1 := hb2.frozen 1; simp at x1) | (refine wpT_calc0 rfl rfl (fun K hK => ?_)) | (refine wpT_skipG rfl ?_ ?_; focus (simp [yielded]; done); go_simp) | (refine wpT_calcG rfl rfl ?_ (fun K hK => ?_); focus (simp [yielded]; done)) | (refine wpT_pure (fun K hK => ?_); go_simp; refine hK _ _ ?_; clear hK K) | (refine wpT_plain (by decide) rfl (fun K hK => ?_)) | (refine wpT_deed (by decide) (fun K hK => ?_); go_simp) | (refine wpT_nil ?_))
  go_ret
  have hz1 := hc1.size
  have hcA : Chg [] w w2 := hc1.drew.trans hc2 (fun k hk => by cases hk)
  have hn2' : ∀ k, (Value.slice A2 l.length c2).ownBlock = some k → w.heap.size ≤ k := fun k hk => by have := hn2 k hk; simp at this; omega
  refine ⟨rfl, ⟨_, (hm.chg hcA (by simp)).put0 hs2 hF hn2', fun k hk => ?_⟩, (hcA.mono (fun _ h => by cases h)).setCell (.inl hp) _⟩
  rcases List.mem_append.1 hk with hk | hk
  · exact .inr (hn2' k (by simpa using hk))
  · exact .inl hk

set_option maxHeartbeats 1000000 in
theorem load_arg {w : World} {p r : Nat} {a b : List Ob} {F : List Nat} (hr : 1 ≤ r) (hr2 : r ≤ 32) (hm : PMem w p r a b F) {v : Value} {l : List Ob} (hl : RO w v l) (_hlen : l.length ≤ 1000) (h1 : l = [] ∨ r < l.length) :
    Calls Try.prog 31 #[.pointer (some ⟨p, 0, none⟩), v] w fun e w' => e = .returned (.int .i64 2) ∧ w = w' := by
  have hr0 : ((r : Int) == 0) = false := beq_eq_false_iff_ne.2 (by omega)
  obtain ⟨A, c, rfl⟩ := hl.form
  obtain ⟨A0, k0, A1, k1, hb, _, _, hp, _, _, _, hF⟩ := hm.open_
  have c0 := hb.cell 0
  simp at c0
  by_cases h0 : l.length = 0
  · rw [h0]
    clear h1 hb h0 hm hl
    go_enter Try.func31, Try.ntmps31
    go_wp2_with (first | (go_at_call 27; refine (rounds_at p r _ (by go_simp)).mono ?_; rintro e w' ⟨rfl, rfl⟩) | (refine wpT_calc0 rfl rfl (fun K hK => ?_)) | (refine wpT_skipG rfl ?_ ?_; focus (simp [yielded]; done); go_simp) | (refine wpT_calcG rfl rfl ?_ (fun K hK => ?_); focus (simp [yielded]; done)) | (refine wpT_pure (fun K hK => ?_); go_simp; refine hK _ _ ?_; clear hK K) | (refine wpT_plain (by decide) rfl (fun K hK => ?_)) | (refine wpT_deed (by decide) (fun K hK => ?_); go_simp) | (refine wpT_nil ?_))
    go_ret
    exact ⟨rfl, rfl⟩
  · have hl0 : ((l.length : Int) == 0) = false := beq_eq_false_iff_ne.2 (by omega)
    have h2 : r < l.length := h1.resolve_left (fun e => h0 (by rw [e]; rfl))
    clear h1 hb h0 hm
    go_enter Try.func31, Try.ntmps31
    go_wp2_with (first | (go_at_call 27; refine (rounds_at p r _ (by go_simp)).mono ?_; rintro e w' ⟨rfl, rfl⟩) | (refine wpT_calc0 rfl rfl (fun K hK => ?_)) | (refine wpT_skipG rfl ?_ ?_; focus (simp [yielded]; done); go_simp) | (refine wpT_calcG rfl rfl ?_ (fun K hK => ?_); focus (simp [yielded]; done)) | (refine wpT_pure (fun K hK => ?_); go_simp; refine hK _ _ ?_; clear hK K) | (refine wpT_plain (by decide) rfl (fun K hK => ?_)) | (refine wpT_deed (by decide) (fun K hK => ?_); go_simp) | (refine wpT_nil ?_))
    go_ret
    exact ⟨rfl, rfl⟩

set_option maxHeartbeats 1000000 in
theorem load_busy {w : World} {p r : Nat} {a b : List Ob} {F : List Nat} (hr : 1 ≤ r) (hr2 : r ≤ 32) (hm : PMem w p r a b F) {v : Value} {l : List Ob} (hl : RO w v l) (_hlen : l.length ≤ 1000) (ha : a.length ≤ 32) (hb : b.length ≤ 32)
    (h1 : l ≠ []) (h2 : l.length ≤ r) (h3 : b ++ a ≠ []) :
    Calls Try.prog 31 #[.pointer (some ⟨p, 0, none⟩), v] w fun e w' => e = .returned (.int .i64 80) ∧ Chg [] w w' := by
  have hr0 : ((r : Int) == 0) = false := beq_eq_false_iff_ne.2 (by omega)
  have hl0 : ((l.length : Int) == 0) = false := beq_eq_false_iff_ne.2 (fun e => h1 (List.eq_nil_of_length_eq_zero (by omega)))
  obtain ⟨A, c, rfl⟩ := hl.form
  obtain ⟨A0, k0, A1, k1, hbk, _, _, hp, _, _, _, hF⟩ := hm.open_
  have c0 := hbk.cell 0
  simp at c0
  have h4 : 0 < (b ++ a).length := List.length_pos_iff.2 h3
  obtain ⟨q, hq⟩ : ∃ q : Nat, (b ++ a).length = q := ⟨_, rfl⟩
  have hlen2 := len_at hm (by omega) (by omega)
  rw [hq] at hlen2 h4
  have HL := hide hlen2
  clear h1 h3 hlen2 hbk hq
  go_enter Try.func31, Try.ntmps31
  go_wp2_with (first | (go_at_call 27; refine (rounds_at p r _ (by go_simp)).mono ?_; rintro e w' ⟨rfl, rfl⟩) | (go_at_call 26; refine (HL.out).mono ?_; rintro e w1 ⟨rfl, hc1⟩) | (refine wpT_calc0 rfl rfl (fun K hK => ?_)) | (refine wpT_skipG rfl ?_ ?_; focus (simp [yielded]; done); go_simp) | (refine wpT_calcG rfl rfl ?_ (fun K hK => ?_); focus (simp [yielded]; done)) | (refine wpT_pure (fun K hK => ?_); go_simp; refine hK _ _ ?_; clear hK K) | (refine wpT_plain (by decide) rfl (fun K hK => ?_)) | (refine wpT_deed (by decide) (fun K hK => ?_); go_simp) | (refine wpT_nil ?_))
  go_ret
  exact ⟨rfl, hc1⟩

set_option maxHeartbeats 1000000 in
theorem unload_busy {w : World} {p r : Nat} {a b : List Ob} {F : List Nat} (hr : 1 ≤ r) (hr2 : r ≤ 32) (hm : PMem w p r a b F) (h : a.length < r ∨ b.length < r) :
    Calls Try.prog 33 #[.pointer (some ⟨p, 0, none⟩)] w fun e w' => e = .returned (.tuple #[.slice none 0 0, .int .i64 80]) ∧ w = w' := by
  have hr0 : ((r : Int) == 0) = false := beq_eq_false_iff_ne.2 (by omega)
  obtain ⟨A0, k0, A1, k1, hb, _, _, hp, _, _, _, hF⟩ := hm.open_
  have c0 := hb.cell 0
  have c1 := hb.cell 1
  have c2 := hb.cell 2
  simp at c0 c1 c2
  by_cases h0 : a.length < r
  · have d0 : decide (r ≤ a.length) = false := by simp; omega
    clear h hb hm
    go_enter Try.func33, Try.ntmps33
    go_wp2_with (first | (go_at_call 27; refine (rounds_at p r _ (by go_simp)).mono ?_; rintro e w' ⟨rfl, rfl⟩) | (go_at_call 48; refine (full_any _ r _ _ _ _ (by go_simp)).mono ?_; rintro e w' ⟨rfl, rfl⟩) | (refine wpT_calc0 rfl rfl (fun K hK => ?_)) | (refine wpT_skipG rfl ?_ ?_; focus (simp [yielded]; done); go_simp) | (refine wpT_calcG rfl rfl ?_ (fun K hK => ?_); focus (simp [yielded]; done)) | (refine wpT_pure (fun K hK => ?_); go_simp; refine hK _ _ ?_; clear hK K) | (refine wpT_plain (by decide) rfl (fun K hK => ?_)) | (refine wpT_deed (by decide) (fun K hK => ?_); go_simp) | (refine wpT_nil ?_))
    go_ret2
    exact ⟨rfl, rfl⟩
  · have h2 : b.length < r := h.resolve_left h0
    have d0 : decide (r ≤ a.length) = true := by simp; omega
    have d1 : decide (r ≤ b.length) = false := by simp; omega
    clear h hb hm
    go_enter Try.func33, Try.ntmps33
    go_wp2_with (first | (go_at_call 27; refine (rounds_at p r _ (by go_simp)).mono ?_; rintro e w' ⟨rfl, rfl⟩) | (go_at_call 48; refine (full_any _ r _ _ _ _ (by go_simp)).mono ?_; rintro e w' ⟨rfl, rfl⟩) | (refine wpT_calc0 rfl rfl (fun K hK => ?_)) | (refine wpT_skipG rfl ?_ ?_; focus (simp [yielded]; done); go_simp) | (refine wpT_calcG rfl rfl ?_ (fun K hK => ?_); focus (simp [yielded]; done)) | (refine wpT_pure (fun K hK => ?_); go_simp; refine hK _ _ ?_; clear hK K) | (refine wpT_plain (by decide) rfl (fun K hK => ?_)) | (refine wpT_deed (by decide) (fun K hK => ?_); go_simp) | (refine wpT_nil ?_))
    go_ret2
    exact ⟨rfl, rfl⟩

set_option maxHeartbeats 1000000 in
theorem unload_full {w : World} {p r : Nat} {a b : List Ob} {F : List Nat} (hr : 1 ≤ r) (hr2 : r ≤ 32) (hm : PMem w p r a b F) (h0 : r ≤ a.length) (h1 : r ≤ b.length) :
    Calls Try.prog 33 #[.pointer (some ⟨p, 0, none⟩)] w fun e w' => (∃ A c, e = .returned (.tuple #[.slice A b.length c, .int .i64 0]) ∧ SO w' (.slice A b.length c) b ∧ (∀ k, (Value.slice A b.length c).ownBlock = some k → k ∈ F ∧ k ≠ p) ∧
      PMem w' p r a [] (F.filter fun k => (Value.slice A b.length c).ownBlock != some k)) ∧ Chg F w w' := by
  have hr0 : ((r : Int) == 0) = false := beq_eq_false_iff_ne.2 (by omega)
  obtain ⟨A0, k0, A1, k1, hb, hs0, hs1, hp, f0, f1, hne, hF⟩ := hm.open_
  have c0 := hb.cell 0
  have c1 := hb.cell 1
  have c2 := hb.cell 2
  have y2 := hb.frozen 2
  simp at c0 c1 c2
  have d0 : decide (r ≤ a.length) = true := by simp; omega
  have d1 : decide (r ≤ b.length) = true := by simp; omega
  go_enter Try.func33, Try.ntmps33
  go_wp2_with (first | (go_at_call 27; refine (rounds_at p r _ (by go_simp)).mono ?_; rintro e w' ⟨rfl, rfl⟩) | (go_at_call 48; refine (full_any _ r _ _ _ _ (by go_simp)).mono ?_; rintro e w' ⟨rfl, rfl⟩) | (refine wpT_calc0 rfl rfl (fun K hK => ?_)) | (refine wpT_skipG rfl ?_ ?_; focus (simp [yielded]; done); go_simp) | (refine wpT_calcG rfl rfl ?_ (fun K hK => ?_); focus (simp [yielded]; done)) | (refine wpT_pure (fun K hK => ?_); go_simp; refine hK _ _ ?_; clear hK K) | (refine wpT_plain (by decide) rfl (fun K hK => ?_)) | (refine wpT_deed (by decide) (fun K hK => ?_); go_simp) | (refine wpT_nil ?_))
  go_ret2
  have n1 := hs1.ne hb (by decide)
  have hS := hs1.far (p := ⟨p, 2, none⟩) n1 (.slice none 0 0)
  have hmem : ∀ k, k ∈ F → (Value.slice A1 b.length k1).ownBlock ≠ some k → k ∈ F.filter fun k => (Value.slice A1 b.length k1).ownBlock != some k := fun k hk hn => List.mem_filter.2 ⟨hk, by simpa [bne_iff_ne] using hn⟩
  refine ⟨⟨A1, k1, rfl, hS, fun k hk => ⟨f1 k hk, fun e => n1 (by rw [hk, e])⟩, ?_⟩, (Chg.refl F w).setCell (.inl hp) _⟩
  exact ⟨_, _, by simpa using hb.set_ 2 (.slice none 0 0), hs0.far (p := ⟨p, 2, none⟩) (hs0.ne hb (by decide)) _, Sl.nil _ _ _, hmem p hp n1, fun k hk => hmem k (f0 k hk) (hne k hk), fun k hk => by simp [Value.ownBlock] at hk, fun k hk => by simp [Value.ownBlock],
    fun k hk => by simpa [World.setCell] using hF k ((List.mem_filter.1 hk).1)⟩
end Go.Proofs.Ytbmdcfeiecmlpaa
