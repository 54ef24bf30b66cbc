import Derived.Test.YtbmdcfeiecmlpaaDepA
import Derived.Test.YtbmdcfeiecmlpaaTextG
namespace Go.Proofs.Ytbmdcfeiecmlpaa
open Go Go.RowKit

theorem drounds_nil (w : World) : Calls Try.prog 15 #[.pointer none] w fun e w' => e = .returned (.int .i64 0) ∧ w = w' := by
  go_enter Try.func15, Try.ntmps15
  go_wp2
  go_ret
  exact ⟨rfl, rfl⟩
theorem drounds_at (d : Nat) (r : Int) (w : World) (h : w.cell? ⟨d, 0, none⟩ = some (.int .i64 r)) : Calls Try.prog 15 #[.pointer (some ⟨d, 0, none⟩)] w fun e w' => e = .returned (.int .i64 r) ∧ w = w' := by
  go_enter Try.func15, Try.ntmps15
  go_wp2
  go_ret
  exact ⟨rfl, rfl⟩
theorem dfulls_nil (w : World) : Calls Try.prog 37 #[.pointer none] w fun e w' => e = .returned (.int .i64 0) ∧ w = w' := by
  go_enter Try.func37, Try.ntmps37
  go_wp2
  go_ret
  exact ⟨rfl, rfl⟩
theorem dfulls_at (d : Nat) (A : Option Addr) (n c : Nat) (w : World) (h : w.cell? ⟨d, 1, none⟩ = some (.slice A n c)) : Calls Try.prog 37 #[.pointer (some ⟨d, 0, none⟩)] w fun e w' => e = .returned (.int .i64 n) ∧ w = w' := by
  go_enter Try.func37, Try.ntmps37
  go_wp2
  go_ret
  exact ⟨rfl, rfl⟩
theorem dqueued_nil (w : World) : Calls Try.prog 21 #[.pointer none] w fun e w' => e = .returned (.int .i64 0) ∧ w = w' := by
  go_enter Try.func21, Try.ntmps21
  go_wp2
  go_ret
  exact ⟨rfl, rfl⟩
theorem dqueued_at (d : Nat) (A : Option Addr) (n c : Nat) (w : World) (h : w.cell? ⟨d, 2, none⟩ = some (.slice A n c)) : Calls Try.prog 21 #[.pointer (some ⟨d, 0, none⟩)] w fun e w' => e = .returned (.int .i64 n) ∧ w = w' := by
  go_enter Try.func21, Try.ntmps21
  go_wp2
  go_ret
  exact ⟨rfl, rfl⟩

set_option maxHeartbeats 1000000 in
theorem dnew_any (x : Int) (w : World) : Calls Try.prog 14 #[.int .i64 x] w fun e w' => e = .returned (.pointer (some ⟨w.heap.size, 0, none⟩)) ∧ DMem 73 w' w.heap.size (clamp x) [] [] [w.heap.size] ∧ Chg [] w w' := by
  by_cases h1 : x < 1
  · rw [show clamp x = 1 by simp [clamp, h1]]
    go_enter Try.func14, Try.ntmps14
    go_wp2_with (first | fail | (refine wpT_calc0 rfl rfl (fun K hK => ?_)) | (refine wpT_skipG rfl ?_ ?_; focus (simp [yielded]; done); go_simp) | (refine wpT_calcG rfl rfl ?_ (fun K hK => ?_); focus (simp [yielded]; done)) | (refine wpT_pure (fun K hK => ?_); go_simp; refine hK _ _ ?_; clear hK K) | (refine wpT_plain (by decide) rfl (fun K hK => ?_)) | (refine wpT_deed (by decide) (fun K hK => ?_); go_simp) | (refine wpT_nil ?_))
    go_ret
    exact ⟨rfl, DMem.made w 1, (Chg.refl [] w).alloc _⟩
  · by_cases h2 : 32 < x
    · rw [show clamp x = 32 by simp [clamp, h1, h2]]
      go_enter Try.func14, Try.ntmps14
      go_wp2_with (first | fail | (refine wpT_calc0 rfl rfl (fun K hK => ?_)) | (refine wpT_skipG rfl ?_ ?_; focus (simp [yielded]; done); go_simp) | (refine wpT_calcG rfl rfl ?_ (fun K hK => ?_); focus (simp [yielded]; done)) | (refine wpT_pure (fun K hK => ?_); go_simp; refine hK _ _ ?_; clear hK K) | (refine wpT_plain (by decide) rfl (fun K hK => ?_)) | (refine wpT_deed (by decide) (fun K hK => ?_); go_simp) | (refine wpT_nil ?_))
      go_ret
      exact ⟨rfl, DMem.made w 32, (Chg.refl [] w).alloc _⟩
    · rw [show clamp x = x.toNat by simp [clamp, h1, h2]]
      go_enter Try.func14, Try.ntmps14
      go_wp2_with (first | fail | (refine wpT_calc0 rfl rfl (fun K hK => ?_)) | (refine wpT_skipG rfl ?_ ?_; focus (simp [yielded]; done); go_simp) | (refine wpT_calcG rfl rfl ?_ (fun K hK => ?_); focus (simp [yielded]; done)) | (refine wpT_pure (fun K hK => ?_); go_simp; refine hK _ _ ?_; clear hK K) | (refine wpT_plain (by decide) rfl (fun K hK => ?_)) | (refine wpT_deed (by decide) (fun K hK => ?_); go_simp) | (refine wpT_nil ?_))
      go_ret
      have e : ((x.toNat : Nat) : Int) = x := by omega
      have := DMem.made (T := 73) w x.toNat
      rw [e] at this
      exact ⟨rfl, this, (Chg.refl [] w).alloc _⟩

/-! ## Put -/

/-- what Put answers -/
def dputE (r n : Nat) (l : List Ob) : Int := if l.length ≠ r then 2 else if 64 ≤ n then 9 else 0

theorem wp_append_ss {w : World} {o : Oper} {a : Act} {K : Act → World → Prop} {Q : Exit → Act → World → Prop} (s x : Operand)
    (ho : o.op = .call { callee := .builtin .append, args := #[s, x], argTypes := #[65, 65] }) (v y : Value) (hs : a.eval s = v) (hx : a.eval x = y) {n m : Nat} {vs us : List Value} (hv : Sl w 22 1 v n vs) (hy : Rd w 1 y m us)
    (h1 : ∀ u ∈ us, u.oneCell' = true) (hlen : n + m ≤ 1000000)
    (h : ∀ A c w', Sl w' 22 1 (.slice A (n + m) c) (n + m) (vs ++ us) → Chg (own v) w w' →
      ((Value.slice A (n + m) c).ownBlock = v.ownBlock ∨ (Value.slice A (n + m) c).ownBlock = some w.heap.size) → K (a.put o.dst (.slice A (n + m) c)) w') : o.wp Try.prog a w K Q := by
  obtain ⟨A, c, w', hrun, h2, h3, h4⟩ := run_append_ss hv hy h1 hlen o.type
  unfold Oper.wp execOp
  simp only [ho, resolve, invoke, builtin, Sem.run_bind, Sem.run_pure, Result.andThen_ok, List.map_toArray, List.map_cons, List.map_nil, hs, hx, hrun]
  exact h A c w' h2 h3 h4

set_option maxHeartbeats 1000000 in
theorem dput_no {w : World} {d r : Nat} {fs : List (List Ob)} {q : List Ob} {F : List Nat} (hr : 1 ≤ r) (hm : DMem 73 w d r fs q F) (A : Option Addr) (n c : Nat) (hn : n ≤ 1000000) (hf : fs.length ≤ 1000000) (h : n ≠ r ∨ 64 ≤ fs.length) :
    Calls Try.prog 16 #[.pointer (some ⟨d, 0, none⟩), .slice A n c] w fun e w' => e = .returned (.int .i64 (if n ≠ r then 2 else 9)) ∧ w = w' := by
  obtain ⟨A0, c0, A1, c1, vs, hb, h0, h1, hs, hF, hd, hlt⟩ := hm.open_
  have x0 := hb.cell 0
  have x1 := hb.cell 1
  simp at x0 x1
  have hr0 : ((r : Int) == 0) = false := beq_eq_false_iff_ne.2 (by omega)
  clear hb h0 h1 hs hF hd hlt hm
  by_cases e : n = r
  · have h2 : 64 ≤ fs.length := h.resolve_left (fun h => h e)
    have hd : decide ((64 : Int) ≤ (fs.length : Int)) = true := by simp; omega
    rw [if_neg (by simp [e])]
    have he : ((n : Int) != (r : Int)) = false := by simp [e]
    clear h e
    go_enter Try.func16, Try.ntmps16
    go_wp2_with (first | (go_at_call 15; refine (drounds_at _ (r : Int) _ (by go_simp)).mono ?_; rintro e w' ⟨rfl, rfl⟩) | (refine wpT_calc0 rfl rfl (fun K hK => ?_)) | (refine wpT_skipG rfl ?_ ?_; focus (simp [yielded]; done); go_simp) | (refine wpT_calcG rfl rfl ?_ (fun K hK => ?_); focus (simp [yielded]; done)) | (refine wpT_pure (fun K hK => ?_); go_simp; refine hK _ _ ?_; clear hK K) | (refine wpT_plain (by decide) rfl (fun K hK => ?_)) | (refine wpT_deed (by decide) (fun K hK => ?_); go_simp) | (refine wpT_nil ?_))
    go_ret
    exact ⟨rfl, rfl⟩
  · rw [if_pos e]
    have he : ((n : Int) != (r : Int)) = true := by simp; omega
    clear h e
    go_enter Try.func16, Try.ntmps16
    go_wp2_with (first | (go_at_call 15; refine (drounds_at _ (r : Int) _ (by go_simp)).mono ?_; rintro e w' ⟨rfl, rfl⟩) | (refine wpT_calc0 rfl rfl (fun K hK => ?_)) | (refine wpT_skipG rfl ?_ ?_; focus (simp [yielded]; done); go_simp) | (refine wpT_calcG rfl rfl ?_ (fun K hK => ?_); focus (simp [yielded]; done)) | (refine wpT_pure (fun K hK => ?_); go_simp; refine hK _ _ ?_; clear hK K) | (refine wpT_plain (by decide) rfl (fun K hK => ?_)) | (refine wpT_deed (by decide) (fun K hK => ?_); go_simp) | (refine wpT_nil ?_))
    go_ret
    exact ⟨rfl, rfl⟩

set_option maxHeartbeats 2000000 in
theorem dput_yes {w : World} {d r : Nat} {fs : List (List Ob)} {q : List Ob} {F : List Nat} (hr : 1 ≤ r) (hm : DMem 73 w d r fs q F) {v : Value} {l : List Ob} (hl : RO w v l) (hn : l.length = r) (hr2 : r ≤ 1000) (hf : fs.length < 64) :
    Calls Try.prog 16 #[.pointer (some ⟨d, 0, none⟩), v] w fun e w' => e = .returned (.int .i64 0) ∧ (∃ F', DMem 73 w' d r (fs ++ [l]) q F' ∧ Step F F' w) ∧ Chg F w w' := by
  obtain ⟨A, c, rfl⟩ := hl.form
  obtain ⟨A0, c0, A1, c1, vs, hb, h0, h1, hs, hF, hd, hlt⟩ := hm.open_
  have x0 := hb.cell 0
  have x1 := hb.cell 1
  simp at x0 x1
  have hr0 : ((r : Int) == 0) = false := beq_eq_false_iff_ne.2 (by omega)
  have he : ((l.length : Int) != (r : Int)) = false := by simp [hn]
  have hd2 : decide ((64 : Int) ≤ (fs.length : Int)) = false := by simp; omega
  have hll : l.length ≤ 1000000 := by omega
  have Hn := hide hn
  have Hd := hide hd
  clear hn hd
  go_enter Try.func16, Try.ntmps16
  go_wp2_with (first | (go_at_call 15; refine (drounds_at _ (r : Int) _ (by go_simp)).mono ?_; rintro e w' ⟨rfl, rfl⟩) | (refine wpT_calc0 rfl rfl (fun K hK => ?_)) | (refine wpT_skipG rfl ?_ ?_; focus (simp [yielded]; done); go_simp) | (refine wpT_calcG rfl rfl ?_ (fun K hK => ?_); focus (simp [yielded]; done)) | (refine wpT_pure (fun K hK => ?_); go_simp; refine hK _ _ ?_; clear hK K) | (refine wpT_plain (by decide) rfl (fun K hK => ?_)) | (refine wpT_deed (by decide) (fun K hK => ?_); go_simp) | (refine wpT_nil ?_))
  refine wp_region_t [0,0,0,0,5,0,6,6,3,0,0,3] (List.replicate 12 none) (fun W => Chg [] w W) (by kernel_rfl) (by kernel_rfl) (by kernel_rfl) ?_
  have hS0 : Chg [] w w.drew := (Chg.refl _ _).drew
  go_wp2_with (first | (refine wpG_hload 65 _ rfl rfl (fun w' hw' => load_slice Try.underlying65 (hw'.cell x1 List.not_mem_nil)) hS0 ?_; go_simp) | (refine wpG_calc rfl (fun K hK => ?_)) | (refine wpG_skip ?_ ?_; (focus (simp [wantG]; done)); go_simp) | (refine wpG_take ?_ ?_; (focus (simp [wantG]; done))) | (refine wpG_pure (fun K hK => ?_); go_simp; refine hK _ _ ?_; clear hK K) | (refine wpG_deed (by decide) (fun K hK => ?_); go_simp) | (refine wpG_nil ?_))
  refine wpG_keeps hS0 (fun K hK => ?_)
  go_simp
  refine (clone_any (w := w.drew) hl hll).mono ?_
  rintro e w2 ⟨⟨A2, c2, rfl, hs2, hn2⟩, hc2⟩
  go_simp
  have hS2 : Chg [] w w2 := hS0.trans hc2 (fun _ h => by cases h)
  refine hK _ _ hS2 ?_
  clear hK K
  refine wpG_keeps hS2 (fun K hK => ?_)
  go_simp
  have hS3 := hS2.alloc (.cells #[.slice A2 l.length c2] 22)
  refine hK _ _ hS3 ?_
  clear hK K
  refine wpG_deed (by decide) (fun K hK => ?_)
  refine wp_append_ss _ _ rfl (.slice A0 fs.length c0) (.slice (some ⟨w2.heap.size, 0, none⟩) 1 1) rfl rfl (h0.chg hS3 (fun _ _ h => by cases h)) (Rd_new w2 22 1 1 [.slice A2 l.length c2] rfl) (by simp [Value.oneCell']) (by omega) ?_
  intro A3 c3 w3 hs3 hc3 ho3
  refine hK _ _ ?_
  clear hK K
  have hb3 : Blk w3 d 73 #[Value.int IntKind.i64 ↑r, Value.slice A0 fs.length c0, Value.slice A1 q.length c1] := (hb.chg hS3 List.not_mem_nil).chg hc3 (fun h => blk_other h0 hb (by decide) (own_mem.1 h))
  have z1 := hb3.cell 1
  have y1 := hb3.frozen 1
  simp at z1
  go_wp2_with (first | fail | (refine wpG_calc rfl (fun K hK => ?_)) | (refine wpG_skip ?_ ?_; (focus (simp [wantG]; done)); go_simp) | (refine wpG_take ?_ ?_; (focus (simp [wantG]; done))) | (refine wpG_pure (fun K hK => ?_); go_simp; refine hK _ _ ?_; clear hK K) | (refine wpG_deed (by decide) (fun K hK => ?_); go_simp) | (refine wpG_nil ?_))
  go_ret
  have hz0 := hS2.size
  have hz3 := hc3.size
  simp at hz3
  have hA3 : ∀ k ∈ own (Value.slice A3 (fs.length + 1) c3), k ∈ own (Value.slice A0 fs.length c0) ∨ w2.heap.size ≤ k := fun k hk => by
    rw [own_mem] at hk
    rcases ho3 with e | e
    · exact .inl (own_mem.2 (by rw [← e]; exact hk))
    · rw [hk] at e; simp at e; exact .inr (by omega)
  have hA2 : ∀ k ∈ own (Value.slice A2 l.length c2), w.heap.size ≤ k ∧ k < w2.heap.size := fun k hk => ⟨by have := hn2 k (own_mem.1 hk); simpa using this, hs2.own_lt k hk⟩
  have n0 : ∀ k ∈ own (Value.slice A0 fs.length c0), k ∈ F := fun k hk => hF _ (by simp only [List.mem_cons, List.mem_append]; exact .inr (.inl hk))
  have n1 : ∀ k ∈ own (Value.slice A1 q.length c1), k ∈ F := fun k hk => hF _ (by simp only [List.mem_cons, List.mem_append]; exact .inr (.inr (.inl hk)))
  have n2 : ∀ k ∈ vs.flatMap own, k ∈ F := fun k hk => hF _ (by simp only [List.mem_cons, List.mem_append]; exact .inr (.inr (.inr hk)))
  have d28 : ∀ k, (∃ cur, Blk w k 28 cur) → k ∉ own (Value.slice A0 fs.length c0) := fun k ⟨cur, hk⟩ h => by
    obtain ⟨cur', hk'⟩ := Sl.blk h0 h
    exact hk.ne_ hk' (by decide) rfl
  have hs3' : SS w3 (vs ++ [Value.slice A2 l.length c2]) (fs ++ [l]) := by
    refine SS.snoc ((hs.chg hS3 (fun _ _ h => by cases h)).chg hc3 fun k hk => d28 k (hs.blk hk)) ?_
    refine Sl.chg (Sl.alloc hs2 _) hc3 fun k hk h => ?_
    have := (hA2 k (own_mem.2 hk)).1
    have := hlt k (n0 k h)
    omega
  refine ⟨rfl, ⟨(own (Value.slice A3 (fs.length + 1) c3) ++ own (Value.slice A2 l.length c2)) ++ F, DMem.set1 (by decide) hb3 (by simpa using hs3) ?_ hs3' ?_ ?_ ?_ ?_ ?_ ?_, ?_⟩, Chg.setCell ?_ (.inl (hF _ (by simp))) _⟩
  · exact Sl.chg (Sl.chg h1 hS3 (fun _ _ h => by cases h)) hc3 fun k hk => d28 k (Sl.blk h1 (own_mem.2 hk))
  · exact List.mem_append_right _ (hF _ (by simp))
  · exact fun k hk => List.mem_append_left _ (List.mem_append_left _ hk)
  · exact fun k hk => List.mem_append_right _ (n1 k hk)
  · intro k hk
    rw [List.flatMap_append] at hk
    rcases List.mem_append.1 hk with hk | hk
    · exact List.mem_append_right _ (n2 k hk)
    · exact List.mem_append_left _ (List.mem_append_right _ (by simpa using hk))
  · rw [List.flatMap_append, ← List.append_assoc]
    refine List.nodup_append.2 ⟨Hd.out, ?_, fun a ha b hb e => ?_⟩
    · simp only [List.flatMap_cons, List.flatMap_nil, List.append_nil]
      unfold own
      cases (Value.slice A2 l.length c2).ownBlock <;> simp
    · subst e
      have h1 := (hA2 a (by simpa using hb)).1
      have h2 : a ∈ F := by
        rcases List.mem_append.1 ha with h | h
        · exact n1 a h
        · exact n2 a h
      have := hlt a h2
      omega
  · intro k hk
    rcases List.mem_append.1 hk with hk | hk
    · rcases List.mem_append.1 hk with hk | hk
      · exact Sl.lt hs3 k (own_mem.1 hk)
      · have := (hA2 k hk).2; omega
    · have := hlt k hk; omega
  · intro k hk
    rcases List.mem_append.1 hk with hk | hk
    · rcases List.mem_append.1 hk with hk | hk
      · rcases hA3 k hk with h | h
        · exact .inl (n0 k h)
        · exact .inr (by omega)
      · exact .inr (hA2 k hk).1
    · exact .inl hk
  · exact (hS3.mono (fun _ h => by cases h)).trans hc3 fun k hk => .inl (n0 k hk)
end Go.Proofs.Ytbmdcfeiecmlpaa
