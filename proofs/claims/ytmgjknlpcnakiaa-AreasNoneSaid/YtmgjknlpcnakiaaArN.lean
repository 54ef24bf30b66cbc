import Derived.Test.YtmgjknlpcnakiaaArM
namespace Go.Proofs.Ytmgjknlpcnakiaa
open Go Go.RowKit Go.Shelf

/-! ## An area that a law has made -/
def ASt (w W : World) (d : Nat) (l : List Rn) (N : List Nat) : Prop := ∃ F, AMem W d l F ∧ Sp l ∧ (∀ k ∈ F, w.heap.size ≤ k ∧ k ∉ N) ∧ Chg [] w W ∧ ∀ k ∈ N, k < W.heap.size
section
variable {w W W' : World} {d : Nat} {l m : List Rn} {N : List Nat} {x : Int} {f : FuncId} {args : Array Value}
theorem ASt.chg (h : ASt w W d l N) : Chg [] w W := h.choose_spec.2.2.2.1
theorem ASt.sp (h : ASt w W d l N) : Sp l := h.choose_spec.2.1
theorem ASt.stay (h : ASt w W d l N) (hc : Chg [] W W') : ASt w W' d l N := by
  obtain ⟨F, hm, hs, hF, h0, hN⟩ := h
  exact ⟨F, hm.stay hc, hs, hF, h0.stay hc, fun k hk => Nat.lt_of_lt_of_le (hN k hk) hc.size⟩
theorem ASt.over (h : ASt w W d l N) (hc : Chg N W W') (hN0 : ∀ k ∈ N, w.heap.size ≤ k) : ASt w W' d l N := by
  obtain ⟨F, hm, hs, hF, h0, hN⟩ := h
  exact ⟨F, hm.chg hc (fun k hk => (hF k hk).2), hs, hF, h0.trans hc (fun k hk => .inr (hN0 k hk)), fun k hk => Nat.lt_of_lt_of_le (hN k hk) hc.size⟩
theorem ASt.less {M : List Nat} (h : ASt w W d l N) (hs : ∀ k ∈ M, k ∈ N) : ASt w W d l M := by
  obtain ⟨F, hm, hsp, hF, h0, hN⟩ := h
  exact ⟨F, hm, hsp, fun k hk => ⟨(hF k hk).1, fun h => (hF k hk).2 (hs k h)⟩, h0, fun k hk => hN k (hs k hk)⟩
theorem ASt.more {M : List Nat} (h : ASt w W d l N) (hc : Chg [] W W') (hM : ∀ k ∈ M, W.heap.size ≤ k ∧ k < W'.heap.size) : ASt w W' d l (M ++ N) := by
  obtain ⟨F, hm, hs, hF, h0, hN⟩ := h
  refine ⟨F, hm.stay hc, hs, fun k hk => ⟨(hF k hk).1, fun h => ?_⟩, h0.stay hc, fun k hk => ?_⟩
  · rcases List.mem_append.1 h with h | h
    · have := hm.lt k hk; have := (hM k h).1; omega
    · exact (hF k hk).2 h
  · rcases List.mem_append.1 hk with h | h
    · exact (hM k h).2
    · exact Nat.lt_of_lt_of_le (hN k h) hc.size
theorem ASt.grow {M : List Nat} (h : ASt w W d l N) (hc : Chg N W W') (hN0 : ∀ k ∈ N, w.heap.size ≤ k) (hM : ∀ k ∈ M, W.heap.size ≤ k ∧ k < W'.heap.size) : ASt w W' d l (M ++ N) := by
  have h' := h.over hc hN0
  obtain ⟨F, hm, hs, hF, h0, hN⟩ := h
  refine ⟨F, hm.chg hc (fun k hk => (hF k hk).2), hs, fun k hk => ⟨(hF k hk).1, fun h => ?_⟩, h'.chg, fun k hk => ?_⟩
  · rcases List.mem_append.1 h with h | h
    · have := hm.lt k hk; have := (hM k h).1; omega
    · exact (hF k hk).2 h
  · rcases List.mem_append.1 hk with h | h
    · exact (hM k h).2
    · exact Nat.lt_of_lt_of_le (hN k h) hc.size
theorem ASt.op (h : ASt w W d l N) (hm : Sp m) (hop : ∀ F, AMem W d l F → Calls Try.prog f args W (AOp W d F m x)) : Calls Try.prog f args W fun e w' => e = .returned (.int .i64 x) ∧ ASt w w' d m N ∧ Keep N W w' := by
  obtain ⟨F, hd, hs, hF, h0, hN⟩ := h
  refine (hop F hd).mono ?_
  rintro e w' ⟨rfl, ⟨F', hd', hS⟩, hc⟩
  refine ⟨rfl, ⟨F', hd', hm, fun k hk => ?_, h0.trans hc (fun k hk => .inr (hF k hk).1), fun k hk => Nat.lt_of_lt_of_le (hN k hk) hc.size⟩, keep_chg hc fun k hk => ⟨hN k hk, fun h => (hF k h).2 hk⟩⟩
  rcases hS k hk with h | h
  · exact hF k h
  · exact ⟨Nat.le_trans h0.size h, fun h' => by have := hN k h'; omega⟩
theorem ast_map (h : ASt w W d l N) (page count g : Int) {y : Int} (hy : mapE l page count g = y) {m : List Rn} (hm : mapR l page count g = m) : Calls Try.prog 15 #[.pointer (some ⟨d, 0, none⟩), .int .i64 page, .int .i64 count, .int .u8 g] W fun e w' => e = .returned (.int .i64 y) ∧ ASt w w' d m N ∧ Keep N W w' := by
  subst hy; subst hm
  exact h.op (h.sp.map _ _ _) fun F hF => map_at hF h.sp page count g
theorem ast_un (h : ASt w W d l N) (page count : Int) {y : Int} (hy : unE l page count = y) {m : List Rn} (hm : unR l page count = m) : Calls Try.prog 17 #[.pointer (some ⟨d, 0, none⟩), .int .i64 page, .int .i64 count] W fun e w' => e = .returned (.int .i64 y) ∧ ASt w w' d m N ∧ Keep N W w' := by
  subst hy; subst hm
  exact h.op (h.sp.un _ _) fun F hF => un_at hF h.sp page count
theorem ast_pr (h : ASt w W d l N) (page count g : Int) {y : Int} (hy : prE l page count g = y) {m : List Rn} (hm : prR l page count g = m) : Calls Try.prog 18 #[.pointer (some ⟨d, 0, none⟩), .int .i64 page, .int .i64 count, .int .u8 g] W fun e w' => e = .returned (.int .i64 y) ∧ ASt w w' d m N ∧ Keep N W w' := by
  subst hy; subst hm
  exact h.op (h.sp.pr _ _ _) fun F hF => pr_at hF h.sp page count g
theorem ast_md (h : ASt w W d l N) (page count : Int) {y : Int} (hy : mdE l page count = y) : Calls Try.prog 16 #[.pointer (some ⟨d, 0, none⟩), .int .i64 page, .int .i64 count] W fun e w' => e = .returned (.int .i64 y) ∧ Chg [] W w' := by
  subst hy
  exact md_at h.choose_spec.1 h.sp page count
theorem ast_rights (h : ASt w W d l N) (q : Int) {y : Int} (hy : rt l q = y) {b : Bool} (hb : hasB l q = b) : Calls Try.prog 13 #[.pointer (some ⟨d, 0, none⟩), .int .i64 q] W fun e w' => e = .returned (.tuple #[.int .u8 y, .bool b]) ∧ Chg [] W w' := by
  subst hy; subst hb
  exact rights_at h.choose_spec.1 h.sp q
theorem ast_len (h : ASt w W d l N) : Calls Try.prog 14 #[.pointer (some ⟨d, 0, none⟩)] W fun e w' => e = .returned (.int .i64 l.length) ∧ W = w' := len_at h.choose_spec.1
theorem ast_new (hc : Chg [] w W) (hN : ∀ k ∈ N, k < W.heap.size) : Calls Try.prog 9 #[] W fun e w' => ∃ d, e = .returned (.pointer (some ⟨d, 0, none⟩)) ∧ ASt w w' d [] N ∧ W.heap.size ≤ d ∧ Chg [] W w' := by
  refine (new_any W).mono ?_
  rintro e w' ⟨rfl, hm, hc'⟩
  exact ⟨_, rfl, ⟨_, hm, Sp.nil, fun k hk => by obtain rfl := List.mem_singleton.1 hk; exact ⟨hc.size, fun h => by have := hN _ h; omega⟩, hc.stay hc', fun k hk => Nat.lt_of_lt_of_le (hN k hk) hc'.size⟩, Nat.le_refl _, hc'⟩
end
set_option maxHeartbeats 1000000 in
theorem known_any (w : World) : Calls Try.prog 10 #[] w fun e w' => e = .returned (.bool true) ∧ Chg [] w w' := by
  have HN := hide (ast_new (N := []) (Chg.refl [] w) (by simp))
  have H1 := hide (fun W d (h : ASt w W d [] []) => ast_map h 0 4 3 (y := 0) (by decide) (m := [⟨0, 4, 3⟩]) (by decide))
  have H2 := hide (fun W d (h : ASt w W d [⟨0, 4, 3⟩] []) => ast_map h 4 2 3 (y := 0) (by decide) (m := [⟨0, 6, 3⟩]) (by decide))
  have H3 := hide (fun W d (h : ASt w W d [⟨0, 6, 3⟩] []) => ast_pr h 1 2 1 (y := 0) (by decide) (m := [⟨0, 1, 3⟩, ⟨1, 2, 1⟩, ⟨3, 3, 3⟩]) (by decide))
  have H4 := hide (fun W d (h : ASt w W d [⟨0, 1, 3⟩, ⟨1, 2, 1⟩, ⟨3, 3, 3⟩] []) => ast_rights h 2 (y := 1) (by decide) (b := true) (by decide))
  have H5 := hide (fun W d (h : ASt w W d [⟨0, 1, 3⟩, ⟨1, 2, 1⟩, ⟨3, 3, 3⟩] []) => ast_rights h 6 (y := 0) (by decide) (b := false) (by decide))
  have H6 := hide (fun W d (h : ASt w W d [⟨0, 1, 3⟩, ⟨1, 2, 1⟩, ⟨3, 3, 3⟩] []) => ast_map h 0 1 1 (y := 8) (by decide) (m := [⟨0, 1, 3⟩, ⟨1, 2, 1⟩, ⟨3, 3, 3⟩]) (by decide))
  have L1 := hide (fun W d (h : ASt w W d [⟨0, 6, 3⟩] []) => ast_len h)
  have L2 := hide (fun W d (h : ASt w W d [⟨0, 1, 3⟩, ⟨1, 2, 1⟩, ⟨3, 3, 3⟩] []) => ast_len h)
  go_enter Try.func10, Try.ntmps10
  go_wp2_with fail
  refine HN.out.mono ?_
  rintro e W1 ⟨d, rfl, h1, -, -⟩
  go_wp2_with fail
  refine (H1.out _ _ h1).mono ?_
  rintro e W2 ⟨rfl, h2, -⟩
  clear h1 H1 HN
  go_wp2_with fail
  refine (H2.out _ _ h2).mono ?_
  rintro e W3 ⟨rfl, h3, -⟩
  clear h2 H2
  go_wp2_with fail
  refine (L1.out _ _ h3).mono ?_
  rintro e W4 ⟨rfl, rfl⟩
  clear L1
  go_wp2_with fail
  refine (H3.out _ _ h3).mono ?_
  rintro e W5 ⟨rfl, h5, -⟩
  clear h3 H3
  go_wp2_with fail
  refine (H4.out _ _ h5).mono ?_
  rintro e W6 ⟨rfl, hc6⟩
  have h6 := h5.stay hc6
  clear h5 hc6 H4
  go_wp2_with fail
  refine (H5.out _ _ h6).mono ?_
  rintro e W7 ⟨rfl, hc7⟩
  have h7 := h6.stay hc7
  clear h6 hc7 H5
  go_wp2_with fail
  refine (L2.out _ _ h7).mono ?_
  rintro e W8 ⟨rfl, rfl⟩
  clear L2
  go_wp2_with fail
  refine (H6.out _ _ h7).mono ?_
  rintro e W9 ⟨rfl, h9, -⟩
  go_wp2_with fail
  go_ret
  exact ⟨rfl, h9.chg⟩

/-! ## The calls of a law -/
structure AO where
  k : Int
  p : Int
  c : Int
  g : Int
def ao (o : AO) : List Value := [.int .i64 o.k, .int .i64 o.p, .int .i64 o.c, .int .u8 o.g]
theorem ao_len : ∀ x, (ao x).length = 4 := fun _ => rfl
abbrev RA := RE ao 4
theorem RA.cells {w : World} {g off n c : Nat} {l : List AO} (h : RA w (.slice (some ⟨g, off, none⟩) n c) l) {k : Nat} (hk : k < l.length) :
    w.cell? ⟨g, off + k * 4, none⟩ = some (.int .i64 l[k].k) ∧ w.cell? ⟨g, off + k * 4 + 1, none⟩ = some (.int .i64 l[k].p) ∧ w.cell? ⟨g, off + k * 4 + 2, none⟩ = some (.int .i64 l[k].c) ∧ w.cell? ⟨g, off + k * 4 + 3, none⟩ = some (.int .u8 l[k].g) ∧ g < w.heap.size := by
  have h0 := RE.cell ao_len h hk (j := 0) (by omega) rfl
  exact ⟨by simpa using h0, RE.cell ao_len h hk (j := 1) (by omega) rfl, RE.cell ao_len h hk (j := 2) (by omega) rfl, RE.cell ao_len h hk (j := 3) (by omega) rfl, World.block_lt_of_cell? w _ h0⟩
def playL (l : List Rn) (o : AO) : List Rn := if o.k = 1 then mapR l o.p o.c o.g else if o.k = 2 then unR l o.p o.c else if o.k = 3 then prR l o.p o.c o.g else l
theorem Sp.play {l : List Rn} (h : Sp l) (o : AO) : Sp (playL l o) := by
  unfold playL
  split
  · exact h.map _ _ _
  · split
    · exact h.un _ _
    · split
      · exact h.pr _ _ _
      · exact h
set_option maxHeartbeats 1000000 in
theorem play_any {w W : World} {d : Nat} {l : List Rn} {N : List Nat} (h : ASt w W d l N) (o : AO) : Calls Try.prog 11 #[.pointer (some ⟨d, 0, none⟩), .agg #[.int .i64 o.k, .int .i64 o.p, .int .i64 o.c, .int .u8 o.g]] W fun e w' => e = .returned (.tuple #[]) ∧ ASt w w' d (playL l o) N ∧ Keep N W w' := by
  obtain ⟨k, p, c, g⟩ := o
  simp only
  have h1 := h.stay ((Chg.refl [] W).alloc (.cells #[.int .i64 k, .int .i64 p, .int .i64 c, .int .u8 g] 28))
  have hkp : Keep N W (W.alloc (.cells #[.int .i64 k, .int .i64 p, .int .i64 c, .int .u8 g] 28)) := by
    obtain ⟨F, hm, hs, hF, h0, hN⟩ := h
    exact keep_chg ((Chg.refl [] W).alloc _) (fun k hk => ⟨hN k hk, List.not_mem_nil⟩)
  by_cases k1 : k = 1
  · subst k1
    have HC := hide (ast_map h1 p c g rfl rfl)
    clear h h1
    go_enter Try.func11, Try.ntmps11
    go_wp2_with fail
    refine HC.out.mono ?_
    rintro e W2 ⟨rfl, h2, hk2⟩
    go_wp2_with fail
    go_end0
    exact ⟨rfl, h2, hkp.trans hk2⟩
  by_cases k2 : k = 2
  · subst k2
    have HC := hide (ast_un h1 p c rfl rfl)
    clear h h1
    go_enter Try.func11, Try.ntmps11
    go_wp2_with fail
    refine HC.out.mono ?_
    rintro e W2 ⟨rfl, h2, hk2⟩
    go_wp2_with fail
    go_end0
    exact ⟨rfl, h2, hkp.trans hk2⟩
  by_cases k3 : k = 3
  · subst k3
    have HC := hide (ast_pr h1 p c g rfl rfl)
    clear h h1
    go_enter Try.func11, Try.ntmps11
    go_wp2_with fail
    refine HC.out.mono ?_
    rintro e W2 ⟨rfl, h2, hk2⟩
    go_wp2_with fail
    go_end0
    exact ⟨rfl, h2, hkp.trans hk2⟩
  have ep : playL l ⟨k, p, c, g⟩ = l := by unfold playL; rw [if_neg k1, if_neg k2, if_neg k3]
  rw [ep]
  have H1 := hide h1
  clear h h1 ep
  have j1 : (k == 1) = false := beq_eq_false_iff_ne.2 k1
  have j2 : (k == 2) = false := beq_eq_false_iff_ne.2 k2
  have j3 : (k == 3) = false := beq_eq_false_iff_ne.2 k3
  go_enter Try.func11, Try.ntmps11
  go_wp2_with fail
  go_end0
  exact ⟨rfl, H1.out, hkp⟩

/-! ## A function whose body ranges over a function -/
theorem calls_marks {f : FuncId} {fn : Func} {c : Code} {args : Array Value} {w : World} {R : Ending → World → Prop} (hf : Try.prog.funcs[f]? = some fn) (hb : fn.body = some c)
    (h : c.wp Try.prog (bodyPostM Fence.wide 6 Try.prog fn R) { tmps := args ++ Array.replicate (fn.ntmps - args.size) undef, defers := [] } w) : Calls Try.prog f args w R :=
  callsIn_wide.1 (callsIn_of_wp_marks (n := 6) hf hb trivial (wpIn_wide.2 h))
def Marks (Ds : List Nat) (W : World) : Prop := Ds.Nodup ∧ ∀ D ∈ Ds, W.heap[D]? = some (.deferred (some []))
theorem leaves_marks {fn : Func} {tmps : Array Value} {R : Ending → World → Prop} {v : Value} : ∀ {Ds : List Nat} {W : World}, Marks Ds W → (∀ W', Chg Ds W W' → (results fn tmps).run Try.prog W' = .ok v W' ∧ R (.returned v) W') →
    LeavesInM Fence.wide 6 Try.prog fn tmps R (Ds.map mark) .returning W
  | [], W, _, h => by
    obtain ⟨h1, h2⟩ := h W (Chg.refl _ _)
    exact ⟨v, h1, h2⟩
  | D :: Ds, W, ⟨hnd, hm⟩, h => by
    have h1 := hm D (List.mem_cons_self ..)
    obtain ⟨hn1, hn2⟩ := List.nodup_cons.1 hnd
    refine ⟨by simp, .inl ⟨D, _, rfl, run_takeDeferred h1, leaves_marks ⟨hn2, fun E hE => (World.putObj_heap_other (show E ≠ D from fun e => hn1 (e ▸ hE))).trans (hm E (List.mem_cons_of_mem _ hE))⟩ fun W' hc => h W' ?_⟩⟩
    exact (chg_put W D _ (List.mem_cons_self ..)).trans hc (fun x hx => .inl (List.mem_cons_of_mem _ hx))
theorem post_marks {fn : Func} {R : Ending → World → Prop} {v : Value} {tmps : Array Value} {Ds : List Nat} {W : World} (hM : Marks Ds W) (h : ∀ W', Chg Ds W W' → (results fn tmps).run Try.prog W' = .ok v W' ∧ R (.returned v) W') :
    bodyPostM Fence.wide 6 Try.prog fn R .ret { tmps := tmps, defers := Ds.map mark } W := leaves_marks hM h
end Go.Proofs.Ytmgjknlpcnakiaa
