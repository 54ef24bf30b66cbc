import Derived.Test.YtbmdcfeiecmlpaaDepC
import Derived.Test.YtbmdcfeiecmlpaaMemB
namespace Go.Proofs.Ytbmdcfeiecmlpaa
open Go Go.RowKit

/-! ## Clone of full magazines, All -/
/-- a slice of slices that is new -/
def NewS (w w' : World) (n : Nat) (vs : List Value) (e : Ending) : Prop := ∃ A c, e = .returned (.slice A n c) ∧ Sl w' 22 1 (.slice A n c) n vs ∧ ∀ k, (Value.slice A n c).ownBlock = some k → w.heap.size ≤ k
theorem SS_nil_new (w : World) : Sl (w.alloc (.cells #[] 22)) 22 1 (.slice (some ⟨w.heap.size, 0, none⟩) 0 0) 0 [] := Sl.made w 22 1 #[] 0 0 (Nat.le_refl _) (Nat.zero_le _) (Nat.le_refl _)
theorem wpList_append_ss {ops : Array Oper} {rest : List Oper} {o : Oper} {a : Act} {w : World} {Q : Exit → Act → World → Prop} (hg : o.guard = none) (s x : Operand)
    (ho : o.op = .call { callee := .builtin .append, args := #[s, x], argTypes := #[65, 65] }) (v y : Value) (hs : a.eval s = v) (hx : a.eval x = y) {n m : Nat} {vs us : List Value} (hv : Sl w 22 1 v n vs) (hy : Rd w 1 y m us)
    (h1 : ∀ u ∈ us, u.oneCell' = true) (hlen : n + m ≤ 1000000)
    (h : ∀ A c w', Sl w' 22 1 (.slice A (n + m) c) (n + m) (vs ++ us) → Chg (own v) w w' →
      ((Value.slice A (n + m) c).ownBlock = v.ownBlock ∨ (Value.slice A (n + m) c).ownBlock = some w.heap.size) → wpList Try.prog ops Q rest (a.put o.dst (.slice A (n + m) c)) w') : wpList Try.prog ops Q (o :: rest) a w := by
  obtain ⟨A, c, w', hrun, h2, h3, h4⟩ := run_append_ss hv hy h1 hlen o.type
  exact wpList_append_runs hg s x _ ho hs hx hrun (h A c w' h2 h3 h4)

set_option maxHeartbeats 1000000 in
theorem clone2_some {w : World} {a0 : Addr} {n c : Nat} {vs : List Value} (hl : Rd w 1 (.slice (some a0) n c) n vs) (h1 : ∀ u ∈ vs, u.oneCell' = true) (hlen : n ≤ 1000000) : Calls Try.prog 52 #[.slice (some a0) n c] w fun e w' => NewS w w' n vs e ∧ Chg [] w w' := by
  have hne : ∀ W : World, (binOp .eql 65 (.slice (some a0) n c) (.slice none 0 0)).run Try.prog W = .ok (.bool false) W := fun W => Lib.run_eql_slice_nil W 65 22 _ _ _ 0 0 Try.underlying65
  have h0 := SS_nil_new w
  have H1 := hide h1
  clear h1
  go_enter Try.func52, Try.ntmps52
  go_wp2_with (first | (at_builtin; refine wpList_append_ss rfl _ _ rfl _ _ rfl rfl h0 (Rd.alloc hl _) H1.out (by omega) ?_; intro A2 k2 w2 hv2 hc2 ho2) | (refine wpT_calc0 rfl rfl (fun K hK => ?_)) | (refine wpT_skipG rfl ?_ ?_; focus (simp [yielded]; done); go_simp) | (refine wpT_calcG rfl rfl ?_ (fun K hK => ?_); focus (simp [yielded]; done)) | (refine wpT_pure (fun K hK => ?_); go_simp; refine hK _ _ ?_; clear hK K) | (refine wpT_plain (by decide) rfl (fun K hK => ?_)) | (refine wpT_deed (by decide) (fun K hK => ?_); go_simp) | (refine wpT_nil ?_))
  go_ret
  have e0 : 0 + n = n := by simp
  rw [e0] at hv2 ho2
  refine ⟨⟨A2, k2, by simp, by simpa using hv2, fun k hk => ?_⟩, ?_⟩
  · rcases ho2 with e | e
    · rw [hk] at e; simp [Value.ownBlock, Act.eval] at e; omega
    · rw [hk] at e; simp at e; omega
  · refine ((Chg.refl [] w).alloc _).trans hc2 (fun k hk => .inr ?_)
    have : k = w.heap.size := by simpa [own, Value.ownBlock, Act.eval, eq_comm] using hk
    omega
set_option maxHeartbeats 1000000 in
theorem clone2_none {w : World} {n c : Nat} : Calls Try.prog 52 #[.slice none n c] w fun e w' => e = .returned (.slice none 0 0) ∧ w = w' := by
  have hne : ∀ W : World, (binOp .eql 65 (.slice none n c) (.slice none 0 0)).run Try.prog W = .ok (.bool true) W := fun W => Lib.run_eql_slice_nil W 65 22 _ _ _ 0 0 Try.underlying65
  go_enter Try.func52, Try.ntmps52
  go_wp2_with (first | fail | (refine wpT_calc0 rfl rfl (fun K hK => ?_)) | (refine wpT_skipG rfl ?_ ?_; focus (simp [yielded]; done); go_simp) | (refine wpT_calcG rfl rfl ?_ (fun K hK => ?_); focus (simp [yielded]; done)) | (refine wpT_pure (fun K hK => ?_); go_simp; refine hK _ _ ?_; clear hK K) | (refine wpT_plain (by decide) rfl (fun K hK => ?_)) | (refine wpT_deed (by decide) (fun K hK => ?_); go_simp) | (refine wpT_nil ?_))
  go_ret
  exact ⟨rfl, rfl⟩
theorem clone2_any {w : World} {v : Value} {n : Nat} {vs : List Value} (hl : Rd w 1 v n vs) (h1 : ∀ u ∈ vs, u.oneCell' = true) (hlen : n ≤ 1000000) : Calls Try.prog 52 #[v] w fun e w' => NewS w w' n vs e ∧ Chg [] w w' := by
  obtain ⟨A, c, rfl⟩ := hl.form
  cases A with
  | some a0 => exact clone2_some hl h1 hlen
  | none =>
    refine clone2_none.mono ?_
    rintro e w' ⟨rfl, rfl⟩
    obtain ⟨hlen', A, c', e, _, hat⟩ := hl
    injection e with e1 _ _
    have h0 : n = 0 := by
      rcases Nat.eq_zero_or_pos n with h | h
      · exact h
      · obtain ⟨g, off, e2, _⟩ := hat h
        rw [e2] at e1; cases e1
    subst h0
    have : vs = [] := List.eq_nil_of_length_eq_zero (by simpa using hlen')
    subst this
    exact ⟨⟨none, 0, rfl, Sl.nil _ _ _, fun k hk => by simp [Value.ownBlock] at hk⟩, Chg.refl _ _⟩

/-- all objects -/
def dall (fs : List (List Ob)) (q : List Ob) : List Ob := fs.flatten ++ q
theorem dall_nil (w : World) : Calls Try.prog 38 #[.pointer none] w fun e w' => e = .returned (.slice none 0 0) ∧ w = w' := by
  go_enter Try.func38, Try.ntmps38
  go_wp2_with (first | fail | (refine wpT_calc0 rfl rfl (fun K hK => ?_)) | (refine wpT_skipG rfl ?_ ?_; focus (simp [yielded]; done); go_simp) | (refine wpT_calcG rfl rfl ?_ (fun K hK => ?_); focus (simp [yielded]; done)) | (refine wpT_pure (fun K hK => ?_); go_simp; refine hK _ _ ?_; clear hK K) | (refine wpT_plain (by decide) rfl (fun K hK => ?_)) | (refine wpT_deed (by decide) (fun K hK => ?_); go_simp) | (refine wpT_nil ?_))
  go_ret
  exact ⟨rfl, rfl⟩
theorem RL_snoc {w : World} {A : Option Addr} {n c : Nat} {vs : List Value} {u : Value} {fs : List (List Ob)} {q : List Ob} (hv : Rd w 1 (.slice A n c) n (vs ++ [u])) (hs : SS w vs fs) (hq : RO w u q) (hn : n = fs.length + 1) : RL w (.slice A n c) (fs ++ [q]) := by
  subst hn
  refine ⟨vs ++ [u], by simpa using hv, fun i hi => ?_⟩
  by_cases hlt : i < fs.length
  · obtain ⟨x, hx, hx2⟩ := hs.2 i hlt
    refine ⟨x, by rw [List.getElem?_append_left (by rw [hs.1]; exact hlt)]; exact hx, ?_⟩
    rw [List.getElem_append_left hlt]; exact hx2.ro
  · have e : i = fs.length := by simp at hi; omega
    subst e
    exact ⟨u, by rw [← hs.1]; simp, by simpa using hq⟩
theorem RL.chgF {w w' : World} {v : Value} {ls : List (List Ob)} (h : RL w v ls) (hc : Chg [] w w') : RL w' v ls := h.chg hc
set_option maxHeartbeats 2000000 in
theorem dall_at {w : World} {d r : Nat} {fs : List (List Ob)} {q : List Ob} {F : List Nat} (hm : DMem 73 w d r fs q F) (hf : fs.length ≤ 1000) (hq : (dall fs q).length ≤ 1000000) :
    Calls Try.prog 38 #[.pointer (some ⟨d, 0, none⟩)] w fun e w' => NewO w w' (dall fs q) e ∧ Chg [] w w' := by
  obtain ⟨A0, c0, A1, c1, vs, hb, h0, h1, hs, hd, n0, n1, n2, hnd, hlt⟩ := hm.parts
  have x1 := hb.cell 1
  have x2 := hb.cell 2
  simp at x1 x2
  have hone := hide hs.one'
  have hq' := hide hq
  clear hq
  go_enter Try.func38, Try.ntmps38
  go_wp2_with (first | fail | (refine wpT_calc0 rfl rfl (fun K hK => ?_)) | (refine wpT_skipG rfl ?_ ?_; focus (simp [yielded]; done); go_simp) | (refine wpT_calcG rfl rfl ?_ (fun K hK => ?_); focus (simp [yielded]; done)) | (refine wpT_pure (fun K hK => ?_); go_simp; refine hK _ _ ?_; clear hK K) | (refine wpT_plain (by decide) rfl (fun K hK => ?_)) | (refine wpT_deed (by decide) (fun K hK => ?_); go_simp) | (refine wpT_nil ?_))
  refine wp_region_g [0,0,0,5,6,0,0,0,5,6,6,6,0] (List.replicate 13 none) [[0,1,2,3,4,5,6,7,8,9,10,11,12], [0,1,2,3,5,6,7,8,9,4,10,11,12]] (fun W => Chg [] w W) (by kernel_rfl) (by kernel_rfl) (by kernel_rfl) (by kernel_rfl) (fun L hL => ?_)
  have hS0 : Chg [] w w.drew := (Chg.refl _ _).drew
  simp only [List.mem_cons, List.mem_nil_iff, or_false] at hL
  rcases hL with rfl | rfl
  · simp only [picks, List.replicate, List.filterMap_cons, List.filterMap_nil, List.getElem?_cons_succ, List.getElem?_cons_zero]
    go_wp2_with (first | (refine wpG_hload 65 _ rfl rfl (fun w' hw' => load_slice Try.underlying65 (hw'.cell x1 List.not_mem_nil)) hS0 ?_; go_simp) | (refine wpG_calc rfl (fun K hK => ?_)) | (refine wpG_skip ?_ ?_; (focus (simp [wantG]; done)); go_simp) | (refine wpG_take ?_ ?_; (focus (simp [wantG]; done))) | (refine wpG_pure (fun K hK => ?_); go_simp; refine hK _ _ ?_; clear hK K) | (refine wpG_deed (by decide) (fun K hK => ?_); go_simp) | (refine wpG_nil ?_))
    refine wpG_keeps hS0 (fun K hK => ?_)
    go_simp
    refine (clone2_any (w := w.drew) h0.rd hone.out (by omega)).mono ?_
    rintro e w2 ⟨⟨A2, k2, rfl, hs2, hn2⟩, hc2⟩
    have hS2 : Chg [] w w2 := hS0.trans hc2 (fun _ h => by cases h)
    refine hK _ _ hS2 ?_
    clear hK K
    go_wp2_with (first | (refine wpG_hload 22 _ rfl rfl (fun w' hw' => load_slice Try.underlying22 (hw'.cell x2 List.not_mem_nil)) hS2 ?_; go_simp) | (refine wpG_calc rfl (fun K hK => ?_)) | (refine wpG_skip ?_ ?_; (focus (simp [wantG]; done)); go_simp) | (refine wpG_take ?_ ?_; (focus (simp [wantG]; done))) | (refine wpG_pure (fun K hK => ?_); go_simp; refine hK _ _ ?_; clear hK K) | (refine wpG_deed (by decide) (fun K hK => ?_); go_simp) | (refine wpG_nil ?_))
    refine wpG_keeps hS2 (fun K hK => ?_)
    go_simp
    have hS3 : Chg [] w (w2.alloc (.cells #[.slice A1 q.length c1] 22)) := hS2.alloc _
    refine hK _ _ hS3 ?_
    clear hK K
    refine wpG_keeps hS3 (fun K hK => ?_)
    refine wp_append_ss _ _ rfl (.slice A2 fs.length k2) (.slice (some ⟨w2.heap.size, 0, none⟩) 1 1) rfl rfl (hs2.alloc _) (Rd_new w2 22 1 1 [.slice A1 q.length c1] rfl) (by simp [Value.oneCell']) (by omega) ?_
    intro A3 k3 w3 hs3 hc3 ho3
    have hS4 : Chg [] w w3 := hS3.trans hc3 (fun k hk => .inr (by have := hn2 k (own_mem.1 hk); simpa using this))
    refine hK _ _ hS4 ?_
    clear hK K
    refine wpG_keeps hS4 (fun K hK => ?_)
    go_simp
    refine (concat_any (RL_snoc hs3.rd (hs.chg hS4 (fun _ _ h => by cases h)) (Rd.chg h1.ro hS4 (fun _ _ h => by cases h)) rfl) (by simp; omega) (by simpa [dall] using hq'.out)).mono ?_
    rintro e w4 ⟨⟨A4, k4, rfl, hs5, hn5⟩, hc5⟩
    have hS5 : Chg [] w w4 := hS4.trans hc5 (fun _ h => by cases h)
    refine hK _ _ hS5 ?_
    clear hK K
    go_wp2_with (first | fail | (refine wpG_calc rfl (fun K hK => ?_)) | (refine wpG_skip ?_ ?_; (focus (simp [wantG]; done)); go_simp) | (refine wpG_take ?_ ?_; (focus (simp [wantG]; done))) | (refine wpG_pure (fun K hK => ?_); go_simp; refine hK _ _ ?_; clear hK K) | (refine wpG_deed (by decide) (fun K hK => ?_); go_simp) | (refine wpG_nil ?_))
    go_ret
    have ed : (fs ++ [q]).flatten = dall fs q := by simp [dall]
    rw [ed] at hs5 hn5
    exact ⟨⟨A4, k4, by simp [dall], hs5, fun k hk => Nat.le_trans hS4.size (hn5 k hk)⟩, hS5⟩
  · simp only [picks, List.replicate, List.filterMap_cons, List.filterMap_nil, List.getElem?_cons_succ, List.getElem?_cons_zero]
    go_wp2_with (first | (refine wpG_hload 65 _ rfl rfl (fun w' hw' => load_slice Try.underlying65 (hw'.cell x1 List.not_mem_nil)) hS0 ?_; go_simp) | (refine wpG_hload 22 _ rfl rfl (fun w' hw' => load_slice Try.underlying22 (hw'.cell x2 List.not_mem_nil)) hS0 ?_; go_simp) | (refine wpG_calc rfl (fun K hK => ?_)) | (refine wpG_skip ?_ ?_; (focus (simp [wantG]; done)); go_simp) | (refine wpG_take ?_ ?_; (focus (simp [wantG]; done))) | (refine wpG_pure (fun K hK => ?_); go_simp; refine hK _ _ ?_; clear hK K) | (refine wpG_deed (by decide) (fun K hK => ?_); go_simp) | (refine wpG_nil ?_))
    refine wpG_keeps hS0 (fun K hK => ?_)
    go_simp
    have hS1 : Chg [] w (w.alloc (.cells #[.slice A1 q.length c1] 22)).drew := ((Chg.refl _ _).alloc _).drew
    have hR1 : Rd (w.alloc (.cells #[.slice A1 q.length c1] 22)).drew 1 (.slice (some ⟨w.heap.size, 0, none⟩) 1 1) 1 [.slice A1 q.length c1] := (Rd_new w 22 1 1 [.slice A1 q.length c1] rfl).drew
    refine hK _ _ hS1 ?_
    clear hK K
    refine wpG_keeps hS1 (fun K hK => ?_)
    go_simp
    refine (clone2_any (Rd.chg h0.rd hS1 (fun _ _ h => by cases h)) hone.out (by omega)).mono ?_
    rintro e w2 ⟨⟨A2, k2, rfl, hs2, hn2⟩, hc2⟩
    have hS2 : Chg [] w w2 := hS1.trans hc2 (fun _ h => by cases h)
    refine hK _ _ hS2 ?_
    clear hK K
    refine wpG_keeps hS2 (fun K hK => ?_)
    refine wp_append_ss _ _ rfl (.slice A2 fs.length k2) (.slice (some ⟨w.heap.size, 0, none⟩) 1 1) rfl rfl hs2 (hR1.chg hc2 (fun _ _ h => by cases h)) (by simp [Value.oneCell']) (by omega) ?_
    intro A3 k3 w3 hs3 hc3 ho3
    have hS4 : Chg [] w w3 := hS2.trans hc3 (fun k hk => .inr (by have := hn2 k (own_mem.1 hk); have := hS1.size; omega))
    refine hK _ _ hS4 ?_
    clear hK K
    refine wpG_keeps hS4 (fun K hK => ?_)
    go_simp
    refine (concat_any (RL_snoc hs3.rd (hs.chg hS4 (fun _ _ h => by cases h)) (Rd.chg h1.ro hS4 (fun _ _ h => by cases h)) rfl) (by simp; omega) (by simpa [dall] using hq'.out)).mono ?_
    rintro e w4 ⟨⟨A4, k4, rfl, hs5, hn5⟩, hc5⟩
    have hS5 : Chg [] w w4 := hS4.trans hc5 (fun _ h => by cases h)
    refine hK _ _ hS5 ?_
    clear hK K
    go_wp2_with (first | fail | (refine wpG_calc rfl (fun K hK => ?_)) | (refine wpG_skip ?_ ?_; (focus (simp [wantG]; done)); go_simp) | (refine wpG_take ?_ ?_; (focus (simp [wantG]; done))) | (refine wpG_pure (fun K hK => ?_); go_simp; refine hK _ _ ?_; clear hK K) | (refine wpG_deed (by decide) (fun K hK => ?_); go_simp) | (refine wpG_nil ?_))
    go_ret
    have ed : (fs ++ [q]).flatten = dall fs q := by simp [dall]
    rw [ed] at hs5 hn5
    exact ⟨⟨A4, k4, by simp [dall], hs5, fun k hk => Nat.le_trans hS4.size (hn5 k hk)⟩, hS5⟩

/-! ## Flush, Drain -/
set_option maxHeartbeats 1000000 in
theorem flush_nil (w : World) : Calls Try.prog 43 #[.pointer none] w fun e w' => e = .returned (.slice none 0 0) ∧ w = w' := by
  go_enter Try.func43, Try.ntmps43
  go_wp2_with (first | (go_at_call 38; refine (dall_nil _).mono ?_; rintro e w1 ⟨rfl, rfl⟩) | (refine wpT_calc0 rfl rfl (fun K hK => ?_)) | (refine wpT_skipG rfl ?_ ?_; focus (simp [yielded]; done); go_simp) | (refine wpT_calcG rfl rfl ?_ (fun K hK => ?_); focus (simp [yielded]; done)) | (refine wpT_pure (fun K hK => ?_); go_simp; refine hK _ _ ?_; clear hK K) | (refine wpT_plain (by decide) rfl (fun K hK => ?_)) | (refine wpT_deed (by decide) (fun K hK => ?_); go_simp) | (refine wpT_nil ?_))
  go_ret
  exact ⟨rfl, rfl⟩
set_option maxHeartbeats 1000000 in
theorem flush_at {w : World} {d r : Nat} {fs : List (List Ob)} {q : List Ob} {F : List Nat} (hm : DMem 73 w d r fs q F) (hf : fs.length ≤ 1000) (hq : (dall fs q).length ≤ 1000000) :
    Calls Try.prog 43 #[.pointer (some ⟨d, 0, none⟩)] w fun e w' => NewO w w' (dall fs q) e ∧ DMem 73 w' d r [] [] F ∧ Chg F w w' := by
  obtain ⟨A0, c0, A1, c1, vs, hb, h0, h1, hs, hd, n0, n1, n2, hnd, hlt⟩ := hm.parts
  have Hq := hide hq
  clear hq
  have hdl := hlt d hd
  go_enter Try.func43, Try.ntmps43
  go_wp2_with (first | (go_at_call 38; refine (dall_at hm hf Hq.out).mono ?_; rintro e w1 ⟨⟨A, c, rfl, hs1, hn1⟩, hc1⟩; have hb1 := hb.chg hc1 List.not_mem_nil; have x1 := hb1.cell 1; have x2 := hb1.cell 2; have y1 := hb1.frozen 1; have y2 := hb1.frozen 2; simp at x1 x2) | (refine wpT_calc0 rfl rfl (fun K hK => ?_)) | (refine wpT_skipG rfl ?_ ?_; focus (simp [yielded]; done); go_simp) | (refine wpT_calcG rfl rfl ?_ (fun K hK => ?_); focus (simp [yielded]; done)) | (refine wpT_pure (fun K hK => ?_); go_simp; refine hK _ _ ?_; clear hK K) | (refine wpT_plain (by decide) rfl (fun K hK => ?_)) | (refine wpT_deed (by decide) (fun K hK => ?_); go_simp) | (refine wpT_nil ?_))
  go_ret
  have hne1 := blk_other hs1 hb1 (by decide)
  refine ⟨⟨A, c, rfl, (hs1.far (p := ⟨d, 1, none⟩) hne1 _).far (p := ⟨d, 2, none⟩) hne1 _, hn1⟩, ?_, ((hc1.mono (fun _ h => by cases h)).setCell (.inl hd) _).setCell (.inl hd) _⟩
  have hb2 := (hb1.set_ 1 (.slice none 0 0)).set_ 2 (.slice none 0 0)
  refine DMem.mk (v0 := .slice none 0 0) (v1 := .slice none 0 0) (vs := []) (by simpa using hb2) (Sl.nil _ _ _) (Sl.nil _ _ _) (SS.nil _) hd (fun k hk => by simp [own, Value.ownBlock] at hk) (fun k hk => by simp [own, Value.ownBlock] at hk) (fun k hk => by simp at hk) (by simp [own, Value.ownBlock]) (fun k hk => ?_)
  rw [size_set, size_set]
  exact Nat.lt_of_lt_of_le (hlt k hk) hc1.size
/-- how many Drain gives out -/
def drainN (x : Int) (n : Nat) : Nat := if x ≤ 0 then 0 else min x.toNat n
set_option maxHeartbeats 1000000 in
theorem drain_zero {w : World} {d r : Nat} {fs : List (List Ob)} {q : List Ob} {F : List Nat} (hm : DMem 73 w d r fs q F) (x : Int) (hz : drainN x q.length = 0) :
    Calls Try.prog 19 #[.pointer (some ⟨d, 0, none⟩), .int .i64 x] w fun e w' => e = .returned (.slice none 0 0) ∧ w = w' := by
  obtain ⟨A0, c0, A1, c1, vs, hb, h0, h1, hs, hd, n0, n1, n2, hnd, hlt⟩ := hm.parts
  have x2 := hb.cell 2
  simp at x2
  unfold drainN at hz
  by_cases hx : x ≤ 0
  · clear hz
    have hx1 : x < 0 ∨ x = 0 := by omega
    rcases hx1 with hx1 | hx1
    · go_enter Try.func19, Try.ntmps19
      go_wp2_with (first | (go_at_call 21; refine (dqueued_at d A1 q.length _ _ x2).mono ?_; rintro e w1 ⟨rfl, rfl⟩) | (refine wpT_calc0 rfl rfl (fun K hK => ?_)) | (refine wpT_skipG rfl ?_ ?_; focus (simp [yielded]; done); go_simp) | (refine wpT_calcG rfl rfl ?_ (fun K hK => ?_); focus (simp [yielded]; done)) | (refine wpT_pure (fun K hK => ?_); go_simp; refine hK _ _ ?_; clear hK K) | (refine wpT_plain (by decide) rfl (fun K hK => ?_)) | (refine wpT_deed (by decide) (fun K hK => ?_); go_simp) | (refine wpT_nil ?_))
      go_ret
      exact ⟨rfl, rfl⟩
    · subst hx1
      go_enter Try.func19, Try.ntmps19
      go_wp2_with (first | (go_at_call 21; refine (dqueued_at d A1 q.length _ _ x2).mono ?_; rintro e w1 ⟨rfl, rfl⟩) | (refine wpT_calc0 rfl rfl (fun K hK => ?_)) | (refine wpT_skipG rfl ?_ ?_; focus (simp [yielded]; done); go_simp) | (refine wpT_calcG rfl rfl ?_ (fun K hK => ?_); focus (simp [yielded]; done)) | (refine wpT_pure (fun K hK => ?_); go_simp; refine hK _ _ ?_; clear hK K) | (refine wpT_plain (by decide) rfl (fun K hK => ?_)) | (refine wpT_deed (by decide) (fun K hK => ?_); go_simp) | (refine wpT_nil ?_))
      go_ret
      exact ⟨rfl, rfl⟩
  · rw [if_neg hx] at hz
    have h00 : q.length = 0 := by omega
    rw [h00] at x2
    clear hz h00 hb h1
    go_enter Try.func19, Try.ntmps19
    go_wp2_with (first | (go_at_call 21; refine (dqueued_at d A1 0 c1 _ (by go_simp)).mono ?_; rintro e w1 ⟨rfl, rfl⟩) | (refine wpT_calc0 rfl rfl (fun K hK => ?_)) | (refine wpT_skipG rfl ?_ ?_; focus (simp [yielded]; done); go_simp) | (refine wpT_calcG rfl rfl ?_ (fun K hK => ?_); focus (simp [yielded]; done)) | (refine wpT_pure (fun K hK => ?_); go_simp; refine hK _ _ ?_; clear hK K) | (refine wpT_plain (by decide) rfl (fun K hK => ?_)) | (refine wpT_deed (by decide) (fun K hK => ?_); go_simp) | (refine wpT_nil ?_))
    go_ret
    exact ⟨rfl, rfl⟩

theorem zeroO (k : Nat) : (madeCells (Value.agg #[.int .i64 0, .int .i64 0]).cells (k * 2)).toList.length = k * 2 := by simp [size_madeCells]
set_option maxHeartbeats 1000000 in
theorem drain_yes_walk {w : World} {d r k : Nat} {fs : List (List Ob)} {q : List Ob} {F : List Nat} (hm : DMem 73 w d r fs q F) (x : Int) (hk : 0 < k) (hkq : k ≤ q.length) (hq : q.length ≤ 100000) (hx : x = k ∨ (k = q.length ∧ (k : Int) < x)) :
    Calls Try.prog 19 #[.pointer (some ⟨d, 0, none⟩), .int .i64 x] w fun e w' => NewO w w' (q.take k) e ∧ DMem 73 w' d r fs (q.drop k) F ∧ Chg F w w' := by
  obtain ⟨A0, c0, A1, c1, vs, hb, h0, h1, hs, hd, n0, n1, n2, hnd, hlt⟩ := hm.parts
  have x2 := hb.cell 2
  have y2 := hb.frozen 2
  simp at x2
  obtain ⟨i28, hi, hz, hi1, hi2⟩ := info_parts info28
  obtain ⟨hrun, hmk⟩ := run_make_sl (size := 2) Try.underlying22 hi hz hi1 rfl w k (by rw [hi2]; omega) (by unfold maxLen; omega)
  have hk0 : ((k : Int) == 0) = false := beq_eq_false_iff_ne.2 (by omega)
  have hsz : w.heap.size ∉ F := fun h => by have := hlt _ h; omega
  have hcW : Chg [] w (w.alloc (.cells (madeCells (Value.agg #[.int .i64 0, .int .i64 0]).cells (k * 2)) 28)) := (Chg.refl _ _).alloc _
  generalize w.alloc (.cells (madeCells (Value.agg #[.int .i64 0, .int .i64 0]).cells (k * 2)) 28) = W at hrun hmk hcW
  obtain ⟨w2, hcopy, hs2, hc2⟩ := run_copy_full (P := Try.prog) (t := 22) (t2 := 22) (ty := 3) Try.underlying22 hi hi1 hmk (Rd.chg h1.ro hcW (fun _ _ h => by cases h)) hkq (oc_one q)
  have hS2 : Chg [] w w2 := hcW.trans hc2 (fun k hk => .inr (by simp [Value.ownBlock] at hk; omega))
  have zW := (hb.chg hcW List.not_mem_nil).cell 2
  simp at zW
  have hb2 := hb.chg hS2 List.not_mem_nil
  have z2 := hb2.cell 2
  have v2 := hb2.frozen 2
  simp at z2
  rw [oc_take] at hs2
  have hdr := Sl.drop h1 hkq rfl
  have Hdr := hide hdr
  have Hs2 := hide hs2
  have Hkq := hide hkq
  have fin : ∀ V : Value, V = .slice (if c1 = k then A1 else A1.map (·.add (k * 2))) (q.length - k) (c1 - k) → NewO w (w2.setCell ⟨d, 2, none⟩ V) (q.take k) (.returned (.slice (some ⟨w.heap.size, 0, none⟩) k k)) ∧ DMem 73 (w2.setCell ⟨d, 2, none⟩ V) d r fs (q.drop k) F ∧ Chg F w (w2.setCell ⟨d, 2, none⟩ V) := by
    intro V hV
    subst hV
    have elt : (q.take k).length = k := by rw [List.length_take]; omega
    have hn2 : SO w2 (.slice (some ⟨w.heap.size, 0, none⟩) k k) (q.take k) := by unfold SO; rw [elt]; exact hs2
    have hdr2 : SO w2 (.slice (if c1 = k then A1 else A1.map (·.add (k * 2))) (q.length - k) (c1 - k)) (q.drop k) := by
      have := Sl.chg hdr hS2 (fun _ _ h => by cases h)
      rw [oc_drop] at this
      unfold SO
      rw [List.length_drop]
      exact this
    have hown : ∀ j ∈ own (.slice (if c1 = k then A1 else A1.map (·.add (k * 2))) (q.length - k) (c1 - k)), j ∈ own (.slice A1 q.length c1) := by
      intro j hj
      rw [own_mem] at hj ⊢
      by_cases hck : c1 = k
      · rw [if_pos hck] at hj; cases A1 <;> exact hj
      · rw [if_neg hck] at hj
        cases A1 with
        | none => simp [Value.ownBlock] at hj
        | some a =>
          have ea : (a.add (k * 2)).block = a.block := by unfold Addr.add; split <;> rfl
          simp only [Option.map_some, Value.ownBlock, ea] at hj
          exact hj
    refine ⟨⟨some ⟨w.heap.size, 0, none⟩, k, by rw [elt], ?_, fun j hj => by simp [Value.ownBlock] at hj; omega⟩, ?_, (hS2.mono (fun _ h => by cases h)).setCell (.inl hd) _⟩
    · rw [elt]
      exact Sl.far hn2 (p := ⟨d, 2, none⟩) (fun e => hsz (by simp [Value.ownBlock] at e; rw [e]; exact hd)) _
    · refine DMem.set2 (by decide) hb2 (h0.chg hS2 (fun _ _ h => by cases h)) hdr2 (hs.chg hS2 (fun _ _ h => by cases h)) hd n0 (fun j hj => n1 j (hown j hj)) n2 ?_ (fun j hj => Nat.lt_of_lt_of_le (hlt j hj) hS2.size)
      refine List.nodup_append.2 ⟨by unfold own; cases Value.ownBlock _ <;> simp, (List.nodup_append.1 hnd).2.1, fun a ha b hb e => (List.nodup_append.1 hnd).2.2 a (hown a ha) b hb e⟩
  have Fin := hide fin
  have hnl : ¬ q.length < k := by omega
  have hnc : k ≤ c1 := by
    obtain ⟨A', c', e, hc, _⟩ := Sl.cap_le h1
    injection e with _ _ e
    omega
  clear fin hdr hs2
  rcases hx with rfl | ⟨hkl, hx⟩
  · by_cases hck : c1 = k
    · subst hck
      go_enter Try.func19, Try.ntmps19
      go_wp2_with (first | (go_at_call 21; refine (dqueued_at d A1 q.length _ _ x2).mono ?_; rintro e w1 ⟨rfl, rfl⟩) | (refine wpList_copy rfl _ _ _ rfl rfl rfl hcopy ?_) | (refine wpT_calc0 rfl rfl (fun K hK => ?_)) | (refine wpT_skipG rfl ?_ ?_; focus (simp [yielded]; done); go_simp) | (refine wpT_calcG rfl rfl ?_ (fun K hK => ?_); focus (simp [yielded]; done)) | (refine wpT_pure (fun K hK => ?_); go_simp; refine hK _ _ ?_; clear hK K) | (refine wpT_plain (by decide) rfl (fun K hK => ?_)) | (refine wpT_deed (by decide) (fun K hK => ?_); go_simp) | (refine wpT_nil ?_))
      go_ret
      exact Fin.out _ (by simp)
    · go_enter Try.func19, Try.ntmps19
      go_wp2_with (first | (go_at_call 21; refine (dqueued_at d A1 q.length _ _ x2).mono ?_; rintro e w1 ⟨rfl, rfl⟩) | (refine wpList_copy rfl _ _ _ rfl rfl rfl hcopy ?_) | (refine wpT_calc0 rfl rfl (fun K hK => ?_)) | (refine wpT_skipG rfl ?_ ?_; focus (simp [yielded]; done); go_simp) | (refine wpT_calcG rfl rfl ?_ (fun K hK => ?_); focus (simp [yielded]; done)) | (refine wpT_pure (fun K hK => ?_); go_simp; refine hK _ _ ?_; clear hK K) | (refine wpT_plain (by decide) rfl (fun K hK => ?_)) | (refine wpT_deed (by decide) (fun K hK => ?_); go_simp) | (refine wpT_nil ?_))
      go_ret
      exact Fin.out _ (by rw [if_neg hck])
  · have hnx : ¬ x < 0 := by omega
    subst hkl
    by_cases hck : c1 = q.length
    · subst hck
      go_enter Try.func19, Try.ntmps19
      go_wp2_with (first | (go_at_call 21; refine (dqueued_at d A1 q.length _ _ x2).mono ?_; rintro e w1 ⟨rfl, rfl⟩) | (refine wpList_copy rfl _ _ _ rfl rfl rfl hcopy ?_) | (refine wpT_calc0 rfl rfl (fun K hK => ?_)) | (refine wpT_skipG rfl ?_ ?_; focus (simp [yielded]; done); go_simp) | (refine wpT_calcG rfl rfl ?_ (fun K hK => ?_); focus (simp [yielded]; done)) | (refine wpT_pure (fun K hK => ?_); go_simp; refine hK _ _ ?_; clear hK K) | (refine wpT_plain (by decide) rfl (fun K hK => ?_)) | (refine wpT_deed (by decide) (fun K hK => ?_); go_simp) | (refine wpT_nil ?_))
      go_ret
      exact Fin.out _ (by simp)
    · go_enter Try.func19, Try.ntmps19
      go_wp2_with (first | (go_at_call 21; refine (dqueued_at d A1 q.length _ _ x2).mono ?_; rintro e w1 ⟨rfl, rfl⟩) | (refine wpList_copy rfl _ _ _ rfl rfl rfl hcopy ?_) | (refine wpT_calc0 rfl rfl (fun K hK => ?_)) | (refine wpT_skipG rfl ?_ ?_; focus (simp [yielded]; done); go_simp) | (refine wpT_calcG rfl rfl ?_ (fun K hK => ?_); focus (simp [yielded]; done)) | (refine wpT_pure (fun K hK => ?_); go_simp; refine hK _ _ ?_; clear hK K) | (refine wpT_plain (by decide) rfl (fun K hK => ?_)) | (refine wpT_deed (by decide) (fun K hK => ?_); go_simp) | (refine wpT_nil ?_))
      go_ret
      exact Fin.out _ (by simp [hck])

/-- Drain -/
theorem drain_at {w : World} {d r : Nat} {fs : List (List Ob)} {q : List Ob} {F : List Nat} (hm : DMem 73 w d r fs q F) (x : Int) (hq : q.length ≤ 100000) :
    Calls Try.prog 19 #[.pointer (some ⟨d, 0, none⟩), .int .i64 x] w fun e w' => NewO w w' (q.take (drainN x q.length)) e ∧ DMem 73 w' d r fs (q.drop (drainN x q.length)) F ∧ Chg F w w' := by
  rcases Nat.eq_zero_or_pos (drainN x q.length) with h | h
  · refine (drain_zero hm x h).mono ?_
    rintro e w' ⟨rfl, rfl⟩
    rw [h]
    exact ⟨⟨none, 0, by simp, Sl.nil _ _ _, fun k hk => by simp [Value.ownBlock] at hk⟩, hm, Chg.refl _ _⟩
  · have hx : ¬ x ≤ 0 := fun e => by unfold drainN at h; rw [if_pos e] at h; omega
    have hd : drainN x q.length = min x.toNat q.length := by unfold drainN; rw [if_neg hx]
    refine drain_yes_walk hm x h (by omega) hq ?_
    omega
end Go.Proofs.Ytbmdcfeiecmlpaa
