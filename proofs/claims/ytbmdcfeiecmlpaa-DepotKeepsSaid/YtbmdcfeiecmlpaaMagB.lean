import Derived.Test.YtbmdcfeiecmlpaaMag
namespace Go.Proofs.Ytbmdcfeiecmlpaa
open Go Go.RowKit

theorem Rd_new (w : World) (e : TypeId) (size n : Nat) (cs : List Value) (h : cs.length = n * size) : Rd (w.alloc (.cells cs.toArray e)) size (.slice (some ⟨w.heap.size, 0, none⟩) n n) n cs :=
  ⟨h, _, _, rfl, Nat.le_refl _, fun _ => ⟨_, 0, rfl, fun j u hu => by rw [(Blk.new w e cs.toArray).cell]; simpa using hu⟩⟩
theorem RO_one (w : World) (x y : Int) : RO (w.alloc (.cells #[.int .i64 x, .int .i64 y] 28)) (.slice (some ⟨w.heap.size, 0, none⟩) 1 1) [(x, y)] := Rd_new w 28 2 1 _ rfl
theorem not_own {v : Value} {p : Nat} (h : v.ownBlock ≠ some p) : p ∉ v.ownBlock.toList := fun hm => h (by simpa using hm)

/-- append, of objects -/
theorem run_append_ob {w : World} {v y : Value} {l m : List Ob} (hv : SO w v l) (hy : RO w y m) (hlen : l.length + m.length ≤ 1000000) (ty : TypeId) :
    ∃ A c w', (Builtin.append_ #[22, 22] ty #[v, y]).run Try.prog w = .ok (.slice A (l.length + m.length) c) w' ∧ SO w' (.slice A (l.length + m.length) c) (l ++ m) ∧ Chg v.ownBlock.toList w w' ∧
      ((Value.slice A (l.length + m.length) c).ownBlock = v.ownBlock ∨ (Value.slice A (l.length + m.length) c).ownBlock = some w.heap.size) := by
  obtain ⟨i28, hi, hz, hi1, hi2⟩ := info_parts info28
  obtain ⟨v', w', h1, h2, h3, h4⟩ := run_append_sl (ty := ty) Try.underlying22 hi hz hi1 hi2 rfl hv hy (oc_one m) (by unfold maxLen; omega) (by omega)
  obtain ⟨A, c, rfl⟩ := Sl.form h2
  refine ⟨A, c, w', h1, ?_, h3, h4⟩
  unfold SO
  rw [oc_append, List.length_append]
  exact h2
theorem wp_append_ob {w : World} {o : Oper} {a : Act} {K : Act → World → Prop} {Q : Exit → Act → World → Prop} (s x : Operand)
    (ho : o.op = .call { callee := .builtin .append, args := #[s, x], argTypes := #[22, 22] }) (v y : Value) (hs : a.eval s = v) (hx : a.eval x = y) {l m : List Ob} (hv : SO w v l) (hy : RO w y m) (hlen : l.length + m.length ≤ 1000000)
    (h : ∀ A c w', SO w' (.slice A (l.length + m.length) c) (l ++ m) → Chg v.ownBlock.toList w w' →
      ((Value.slice A (l.length + m.length) c).ownBlock = v.ownBlock ∨ (Value.slice A (l.length + m.length) c).ownBlock = some w.heap.size) → K (a.put o.dst (.slice A (l.length + m.length) c)) w') : o.wp Try.prog a w K Q := by
  obtain ⟨A, c, w', hrun, h2, h3, h4⟩ := run_append_ob hv hy hlen o.type
  unfold Oper.wp execOp
  simp only [ho, resolve, invoke, builtin, Sem.run_bind, Sem.run_pure, Result.andThen_ok, List.map_toArray, List.map_cons, List.map_nil, hs, hx, hrun]
  exact h A c w' h2 h3 h4

theorem rounds_nil (w : World) : Calls Try.prog 27 #[.pointer none] w fun e w' => e = .returned (.int .i64 0) ∧ w = w' := by
  go_enter Try.func27, Try.ntmps27
  go_wp2
  go_ret
  exact ⟨rfl, rfl⟩
theorem rounds_at (p : Nat) (r : Int) (w : World) (h : w.cell? ⟨p, 0, none⟩ = some (.int .i64 r)) : Calls Try.prog 27 #[.pointer (some ⟨p, 0, none⟩)] w fun e w' => e = .returned (.int .i64 r) ∧ w = w' := by
  go_enter Try.func27, Try.ntmps27
  go_wp2
  go_ret
  exact ⟨rfl, rfl⟩

theorem PMem.mk_ {w w' : World} {p r : Nat} {a b : List Ob} {F G : List Nat} {v0 v1 : Value} {cs : Array Value} (hbw : Blk w p 59 cs) (hb : Blk w' p 59 #[.int .i64 r, v0, v1]) (hc : Chg G w w') (hG : ∀ k ∈ G, k = p ∨ k ∉ F)
    (h0 : SO w v0 a) (h1 : SO w v1 b) (hp : p ∈ F) (f0 : ∀ k, v0.ownBlock = some k → k ∈ F) (f1 : ∀ k, v1.ownBlock = some k → k ∈ F) (hne : ∀ k, v0.ownBlock = some k → v1.ownBlock ≠ some k) (hlt : ∀ k ∈ F, k < w.heap.size) :
    PMem w' p r a b F :=
  ⟨v0, v1, hb, h0.chg hc (fun k hk hg => (hG k hg).elim (fun e => h0.ne hbw (by decide) (by rw [hk, e])) (fun n => n (f0 k hk))),
    h1.chg hc (fun k hk hg => (hG k hg).elim (fun e => h1.ne hbw (by decide) (by rw [hk, e])) (fun n => n (f1 k hk))), hp, f0, f1, hne, fun k hk => Nat.lt_of_lt_of_le (hlt k hk) hc.size⟩

set_option maxHeartbeats 1000000 in
theorem get_walk {w : World} {p r : Nat} {a b a' b' : List Ob} {F : List Nat} (hr : 1 ≤ r) (hr2 : r ≤ 32) (hm : PMem w p r a b F) (n : Nat) (hn32 : n < 32) (hn : a'.length = n + 1) (o : Ob) (ho : a'[n]? = some o)
    (h : ∀ W, PMem W p r a b F → Calls Try.prog 47 #[.pointer (some ⟨p, 0, none⟩), .func (.func 49) #[] #[]] W fun e w' => e = .returned (.bool true) ∧ PMem w' p r a' b' F ∧ Chg F W w') :
    Calls Try.prog 25 #[.pointer (some ⟨p, 0, none⟩)] w fun e w' => e = .returned (.tuple #[.agg #[.int .i64 o.1, .int .i64 o.2], .bool true]) ∧ PMem w' p r (a'.take n) b' F ∧ Chg F w w' := by
  have H := hide h
  have Hn := hide hn
  have Ho := hide ho
  have hr0 : ((r : Int) == 0) = false := beq_eq_false_iff_ne.2 (by omega)
  obtain ⟨_, _, _, _, hb, _, _, _, _, _, _, hF⟩ := hm.open_
  have c0 := hb.cell 0
  simp at c0
  clear h hn ho hb
  go_enter Try.func25, Try.ntmps25
  go_wp2_with (first | (go_at_call 27; refine (rounds_at p r _ (((Chg.refl [] w).alloc _).cell c0 (by simp))).mono ?_; rintro e w' ⟨rfl, rfl⟩) | (refine wpT_calc0 rfl rfl (fun K hK => ?_)) | (refine wpT_skipG rfl ?_ ?_; focus (simp [yielded]; done); go_simp) | (refine wpT_calcG rfl rfl ?_ (fun K hK => ?_); focus (simp [yielded]; done)) | (refine wpT_pure (fun K hK => ?_); go_simp; refine hK _ _ ?_; clear hK K) | (refine wpT_plain (by decide) rfl (fun K hK => ?_)) | (refine wpT_deed (by decide) (fun K hK => ?_); go_simp) | (refine wpT_nil ?_))
  refine (H.out _ (hm.chg ((Chg.refl [] w).alloc _) (by simp))).mono ?_
  rintro e w1 ⟨rfl, hm1, hc1⟩
  obtain ⟨A0, k0, A1, k1, hb, h0, h1, hp, f0, f1, hne, hF1⟩ := hm1.open_
  rw [Hn.out] at hb h0 f0 hne
  have hlt : n < a'.length := by rw [Hn.out]; omega
  obtain ⟨g, off, c, hA, hc, q1, q2⟩ := h0.ro.at_ hlt
  rw [Hn.out] at hA hc
  injection hA with hA1 _ hA2
  subst hA1; subst hA2
  have x1 := hb.cell 1
  simp at x1
  have y1 := hb.frozen 1
  have e1 : a'[n] = o := by have := Ho.out; rw [List.getElem?_eq_getElem hlt] at this; exact Option.some.inj this
  rw [e1] at q1 q2
  clear e1
  have hs := hc1.size
  have hp1 := hF1 p hp
  have hpn : w.heap.size ≠ p := fun e => by have := hF p hp; omega
  have hp2 : p < w1.heap.size + 1 := by omega
  have hbz := (Blk.new w 28 #[.int .i64 0, .int .i64 0]).chg hc1 (fun h => by have := hF _ h; omega)
  have z0 := hbz.cell 0
  have z1 := hbz.cell 1
  have z2 := hbz.frozen 0
  have z3 := hbz.frozen 1
  simp at z0 z1
  simp at hs
  have hs2 : w.heap.size < w1.heap.size := by omega
  have hs3 : w.heap.size < w1.heap.size + 1 := by omega
  go_wp2_with (first | fail | (refine wpT_calc0 rfl rfl (fun K hK => ?_)) | (refine wpT_skipG rfl ?_ ?_; focus (simp [yielded]; done); go_simp) | (refine wpT_calcG rfl rfl ?_ (fun K hK => ?_); focus (simp [yielded]; done)) | (refine wpT_pure (fun K hK => ?_); go_simp; refine hK _ _ ?_; clear hK K) | (refine wpT_plain (by decide) rfl (fun K hK => ?_)) | (refine wpT_deed (by decide) (fun K hK => ?_); go_simp) | (refine wpT_nil ?_))
  refine wp_region_by (by kernel_rfl) (by kernel_rfl) ?_
  go_wp2_with (first | fail | (refine wpT_calc0 rfl rfl (fun K hK => ?_)) | (refine wpT_skipG rfl ?_ ?_; focus (simp [yielded]; done); go_simp) | (refine wpT_calcG rfl rfl ?_ (fun K hK => ?_); focus (simp [yielded]; done)) | (refine wpT_pure (fun K hK => ?_); go_simp; refine hK _ _ ?_; clear hK K) | (refine wpT_plain (by decide) rfl (fun K hK => ?_)) | (refine wpT_deed (by decide) (fun K hK => ?_); go_simp) | (refine wpT_nil ?_))
  have hcf : Chg [p, w.heap.size] w1 ((((w1.setCell ⟨p, 1, none⟩ (.slice (some ⟨g, off, none⟩) n k0)).setCell ⟨w.heap.size, 0, none⟩ (.int .i64 o.1)).setCell ⟨w.heap.size, 1, none⟩ (.int .i64 o.2)).alloc (.cells #[.int .i64 o.1, .int .i64 o.2] 28)).drew :=
    ((((((Chg.refl _ _).setCell (.inl (by simp)) _).setCell (.inl (by simp)) _).setCell (.inl (by simp)) _).alloc _).drew)
  have hbf := ((((hb.set_ 1 (.slice (some ⟨g, off, none⟩) n k0)).far (p := ⟨w.heap.size, 0, none⟩) (Ne.symm hpn) (.int .i64 o.1)).far (p := ⟨w.heap.size, 1, none⟩) (Ne.symm hpn) (.int .i64 o.2)).alloc (.cells #[.int .i64 o.1, .int .i64 o.2] 28)).drew
  simp at hbf
  refine bodyPost_ret (v := .tuple #[.agg #[.int .i64 o.1, .int .i64 o.2], .bool true]) (by simp [results, Try.results25, go_sem, hs2, z0, z1]) rfl ⟨rfl, ?_, ?_⟩
  · refine PMem.mk_ hb hbf hcf (fun k hk => ?_) ?_ h1 hp f0 f1 hne hF1
    · rcases List.mem_cons.1 hk with rfl | hk
      · exact .inl rfl
      · obtain rfl := List.mem_singleton.1 hk
        exact .inr fun hm => by have := hF _ hm; omega
    · have := h0
      unfold SO at this ⊢
      rw [Hn.out] at this
      have h2 := this.take (k := n) (by omega) rfl
      rw [oc_take] at h2
      rw [List.length_take, Nat.min_eq_left (by omega)]
      exact h2
  · refine (((Chg.refl F w).alloc _).trans hc1 (fun x hx => .inl hx)).trans hcf (fun x hx => ?_)
    rcases List.mem_cons.1 hx with rfl | hx
    · exact .inl hp
    · obtain rfl := List.mem_singleton.1 hx
      exact .inr (Nat.le_refl _)

theorem change_empty {w : World} {p r : Nat} {a b : List Ob} {F : List Nat} (hm : PMem w p r a b F) (hne : a ≠ [] ∨ b ≠ []) :
    Calls Try.prog 47 #[.pointer (some ⟨p, 0, none⟩), .func (.func 49) #[] #[]] w fun e w' => e = .returned (.bool true) ∧ PMem w' p r (if a = [] then b else a) (if a = [] then [] else b) F ∧ Chg F w w' := by
  obtain ⟨A0, c0, A1, c1, hb, h0, h1, hp, f0, f1, hn, hlt⟩ := hm.open_
  by_cases ha : a = []
  · subst ha
    have hb2 : b ≠ [] := hne.resolve_left (fun h => h rfl)
    have hl : b.length ≠ 0 := fun e => hb2 (List.eq_nil_of_length_eq_zero e)
    refine (ce_swap p r A0 A1 _ c0 _ c1 w hb (by simp) (beq_eq_false_iff_ne.2 (by omega))).mono ?_
    rintro e w' ⟨rfl, rfl⟩
    obtain ⟨h2, h3⟩ := PMem.swap hb h0 h1 hp f0 f1 hn hlt rfl
    exact ⟨rfl, by simpa using h2, h3⟩
  · have hl : a.length ≠ 0 := fun e => ha (List.eq_nil_of_length_eq_zero e)
    refine (ce_some p r A0 A1 _ c0 _ c1 w hb (beq_eq_false_iff_ne.2 (by omega))).mono ?_
    rintro e w' ⟨rfl, rfl⟩
    exact ⟨rfl, by simpa [ha] using hm, Chg.refl F w⟩

theorem change_full {w : World} {p r : Nat} {a b : List Ob} {F : List Nat} (hm : PMem w p r a b F) (hne : a.length < r ∨ b.length < r) :
    Calls Try.prog 47 #[.pointer (some ⟨p, 0, none⟩), .func (.func 48) #[.pointer (some ⟨p, 0, none⟩)] #[]] w fun e w' => e = .returned (.bool true) ∧ PMem w' p r (if a.length < r then a else b) (if a.length < r then b else a) F ∧ Chg F w w' := by
  obtain ⟨A0, c0, A1, c1, hb, h0, h1, hp, f0, f1, hn, hlt⟩ := hm.open_
  by_cases ha : a.length < r
  · refine (cf_some p r A0 A1 _ c0 _ c1 w hb (by simp; omega)).mono ?_
    rintro e w' ⟨rfl, rfl⟩
    exact ⟨rfl, by simpa [ha] using hm, Chg.refl F w⟩
  · have hb2 : b.length < r := hne.resolve_left ha
    refine (cf_swap p r A0 A1 _ c0 _ c1 w hb (by simp; omega) (by simp; omega)).mono ?_
    rintro e w' ⟨rfl, rfl⟩
    obtain ⟨h2, h3⟩ := PMem.swap hb h0 h1 hp f0 f1 hn hlt rfl
    exact ⟨rfl, by simpa [ha] using h2, h3⟩

set_option maxHeartbeats 1000000 in
theorem get_none {w : World} {p r : Nat} {F : List Nat} (hr : 1 ≤ r) (hr2 : r ≤ 32) (hm : PMem w p r [] [] F) :
    Calls Try.prog 25 #[.pointer (some ⟨p, 0, none⟩)] w fun e w' => e = .returned (.tuple #[.agg #[.int .i64 0, .int .i64 0], .bool false]) ∧ PMem w' p r [] [] F ∧ Chg F w w' := by
  have hr0 : ((r : Int) == 0) = false := beq_eq_false_iff_ne.2 (by omega)
  obtain ⟨A0, k0, A1, k1, hb, _, _, hp, _, _, _, hF⟩ := hm.open_
  have c0 := hb.cell 0
  simp at c0
  have hp1 := hF p hp
  have hs2 : w.heap.size < w.heap.size + 1 := by omega
  have hb1 := hb.alloc (.cells #[.int .i64 0, .int .i64 0] 28)
  go_enter Try.func25, Try.ntmps25
  go_wp2_with (first | (go_at_call 27; refine (rounds_at p r _ (by go_simp)).mono ?_; rintro e w' ⟨rfl, rfl⟩) | (go_at_call 47; refine (ce_none p r A0 A1 _ k0 _ k1 _ hb1 (by simp) (by simp)).mono ?_; rintro e w' ⟨rfl, rfl⟩) | (refine wpT_calc0 rfl rfl (fun K hK => ?_)) | (refine wpT_skipG rfl ?_ ?_; focus (simp [yielded]; done); go_simp) | (refine wpT_calcG rfl rfl ?_ (fun K hK => ?_); focus (simp [yielded]; done)) | (refine wpT_pure (fun K hK => ?_); go_simp; refine hK _ _ ?_; clear hK K) | (refine wpT_plain (by decide) rfl (fun K hK => ?_)) | (refine wpT_deed (by decide) (fun K hK => ?_); go_simp) | (refine wpT_nil ?_))
  refine bodyPost_ret (v := .tuple #[.agg #[.int .i64 0, .int .i64 0], .bool false]) (by simp [results, Try.results25, go_sem]) rfl ⟨rfl, ?_, ?_⟩
  · refine hm.chg (G := [w.heap.size]) ?_ (fun k hk hk2 => ?_)
    · first | exact (Chg.refl _ _).alloc _ | exact (((Chg.refl _ _).alloc _).setCell (.inl (by simp)) _).setCell (.inl (by simp)) _
    · obtain rfl := List.mem_singleton.1 hk2
      exact absurd (hF _ hk) (by omega)
  · first | exact (Chg.refl _ _).alloc _ | exact (((Chg.refl _ _).alloc _).setCell (.inr (Nat.le_refl _)) _).setCell (.inr (Nat.le_refl _)) _
end Go.Proofs.Ytbmdcfeiecmlpaa
