import Derived.Test.YtmgjknlpcnakiaaArR
namespace Go.Proofs.Ytmgjknlpcnakiaa
open Go Go.RowKit Go.Shelf

/-! ## Two areas that a law has made -/
def A2 (w W : World) (d : Nat) (l : List Rn) (e : Nat) (m : List Rn) (N : List Nat) : Prop :=
  ∃ F G, AMem W d l F ∧ AMem W e m G ∧ Sp l ∧ Sp m ∧ (∀ k ∈ F, w.heap.size ≤ k ∧ k ∉ N ∧ k ∉ G) ∧ (∀ k ∈ G, w.heap.size ≤ k ∧ k ∉ N) ∧ Chg [] w W ∧ ∀ k ∈ N, k < W.heap.size
section
variable {w W W' : World} {d e : Nat} {l m l' : List Rn} {N : List Nat} {x : Int} {f : FuncId} {args : Array Value}
theorem A2.symm (h : A2 w W d l e m N) : A2 w W e m d l N := by
  obtain ⟨F, G, h1, h2, h3, h4, h5, h6, h7, h8⟩ := h
  exact ⟨G, F, h2, h1, h4, h3, fun k hk => ⟨(h6 k hk).1, (h6 k hk).2, fun h => (h5 k h).2.2 hk⟩, fun k hk => ⟨(h5 k hk).1, (h5 k hk).2.1⟩, h7, h8⟩
theorem A2.fst (h : A2 w W d l e m N) : ASt w W d l N := by
  obtain ⟨F, G, h1, h2, h3, h4, h5, h6, h7, h8⟩ := h
  exact ⟨F, h1, h3, fun k hk => ⟨(h5 k hk).1, (h5 k hk).2.1⟩, h7, h8⟩
theorem A2.chg (h : A2 w W d l e m N) : Chg [] w W := h.fst.chg
theorem A2.over (h : A2 w W d l e m N) (hc : Chg N W W') (hN0 : ∀ k ∈ N, w.heap.size ≤ k) : A2 w W' d l e m N := by
  obtain ⟨F, G, h1, h2, h3, h4, h5, h6, h7, h8⟩ := h
  exact ⟨F, G, h1.chg hc (fun k hk => (h5 k hk).2.1), h2.chg hc (fun k hk => (h6 k hk).2), h3, h4, h5, h6, h7.trans hc (fun k hk => .inr (hN0 k hk)), fun k hk => Nat.lt_of_lt_of_le (h8 k hk) hc.size⟩
theorem A2.stay (h : A2 w W d l e m N) (hc : Chg [] W W') : A2 w W' d l e m N := by
  obtain ⟨F, G, h1, h2, h3, h4, h5, h6, h7, h8⟩ := h
  exact ⟨F, G, h1.stay hc, h2.stay hc, h3, h4, h5, h6, h7.stay hc, fun k hk => Nat.lt_of_lt_of_le (h8 k hk) hc.size⟩
theorem A2.grow {M : List Nat} (h : A2 w W d l e m N) (hc : Chg N W W') (hN0 : ∀ k ∈ N, w.heap.size ≤ k) (hM : ∀ k ∈ M, W.heap.size ≤ k ∧ k < W'.heap.size) : A2 w W' d l e m (M ++ N) := by
  have h' := h.over hc hN0
  obtain ⟨F, G, h1, h2, h3, h4, h5, h6, h7, h8⟩ := h
  refine ⟨F, G, h1.chg hc (fun k hk => (h5 k hk).2.1), h2.chg hc (fun k hk => (h6 k hk).2), h3, h4, fun k hk => ⟨(h5 k hk).1, fun h => ?_, (h5 k hk).2.2⟩, fun k hk => ⟨(h6 k hk).1, fun h => ?_⟩, h'.chg, fun k hk => ?_⟩
  · rcases List.mem_append.1 h with h | h
    · have := h1.lt k hk; have := (hM k h).1; omega
    · exact (h5 k hk).2.1 h
  · rcases List.mem_append.1 h with h | h
    · have := h2.lt k hk; have := (hM k h).1; omega
    · exact (h6 k hk).2 h
  · rcases List.mem_append.1 hk with h | h
    · exact (hM k h).2
    · exact Nat.lt_of_lt_of_le (h8 k h) hc.size
theorem A2.op (h : A2 w W d l e m N) (hl' : Sp l') (hop : ∀ F, AMem W d l F → Calls Try.prog f args W (AOp W d F l' x)) : Calls Try.prog f args W fun en w' => en = .returned (.int .i64 x) ∧ A2 w w' d l' e m N ∧ Keep N W w' := by
  obtain ⟨F, G, h1, h2, h3, h4, h5, h6, h7, h8⟩ := h
  refine (hop F h1).mono ?_
  rintro en w' ⟨rfl, ⟨F', hd', hS⟩, hc⟩
  refine ⟨rfl, ⟨F', G, hd', h2.chg hc (fun k hk h => (h5 k h).2.2 hk), hl', h4, fun k hk => ?_, h6, h7.trans hc (fun k hk => .inr (h5 k hk).1), fun k hk => Nat.lt_of_lt_of_le (h8 k hk) hc.size⟩, keep_chg hc fun k hk => ⟨h8 k hk, fun h => (h5 k h).2.1 hk⟩⟩
  rcases hS k hk with h | h
  · exact h5 k h
  · exact ⟨Nat.le_trans h7.size h, fun h' => by have := h8 k h'; omega, fun h' => by have := h2.lt k h'; omega⟩
theorem A2.sp (h : A2 w W d l e m N) : Sp l := h.fst.sp
theorem a2_map (h : A2 w W d l e m N) (page count g : Int) {y : Int} (hy : mapE l page count g = y) (hl' : mapR l page count g = l') : Calls Try.prog 15 #[.pointer (some ⟨d, 0, none⟩), .int .i64 page, .int .i64 count, .int .u8 g] W fun en w' => en = .returned (.int .i64 y) ∧ A2 w w' d l' e m N ∧ Keep N W w' := by
  subst hy; subst hl'
  exact h.op (h.sp.map _ _ _) fun F hF => map_at hF h.sp page count g
theorem a2_un (h : A2 w W d l e m N) (page count : Int) {y : Int} (hy : unE l page count = y) (hl' : unR l page count = l') : Calls Try.prog 17 #[.pointer (some ⟨d, 0, none⟩), .int .i64 page, .int .i64 count] W fun en w' => en = .returned (.int .i64 y) ∧ A2 w w' d l' e m N ∧ Keep N W w' := by
  subst hy; subst hl'
  exact h.op (h.sp.un _ _) fun F hF => un_at hF h.sp page count
theorem a2_pr (h : A2 w W d l e m N) (page count g : Int) {y : Int} (hy : prE l page count g = y) (hl' : prR l page count g = l') : Calls Try.prog 18 #[.pointer (some ⟨d, 0, none⟩), .int .i64 page, .int .i64 count, .int .u8 g] W fun en w' => en = .returned (.int .i64 y) ∧ A2 w w' d l' e m N ∧ Keep N W w' := by
  subst hy; subst hl'
  exact h.op (h.sp.pr _ _ _) fun F hF => pr_at hF h.sp page count g
theorem a2_new (h : ASt w W d l N) : Calls Try.prog 9 #[] W fun en w' => ∃ e, en = .returned (.pointer (some ⟨e, 0, none⟩)) ∧ A2 w w' d l e [] N ∧ Chg [] W w' := by
  refine (new_any W).mono ?_
  rintro en w' ⟨rfl, hm, hc'⟩
  obtain ⟨F, h1, h2, h3, h4, h5⟩ := h
  refine ⟨_, rfl, ⟨F, [W.heap.size], h1.stay hc', hm, h2, Sp.nil, fun k hk => ⟨(h3 k hk).1, (h3 k hk).2, fun h => by obtain rfl := List.mem_singleton.1 h; have := h1.lt _ hk; omega⟩, fun k hk => ?_, h4.stay hc', fun k hk => Nat.lt_of_lt_of_le (h5 k hk) hc'.size⟩, hc'⟩
  obtain rfl := List.mem_singleton.1 hk
  exact ⟨h4.size, fun h => by have := h5 _ h; omega⟩
theorem AMem.keep {w w' : World} {d : Nat} {l : List Rn} {F : List Nat} (h : AMem w d l F) (hk : Keep F w w') (hs : ∀ k ∈ F, k < w'.heap.size) : AMem w' d l F := by
  obtain ⟨v, hb, hv, hF, hlt⟩ := h
  exact ⟨v, hk.blk hb (hF _ (List.mem_cons_self ..)), hk.sl hv (fun k hk => hF k (List.mem_cons_of_mem _ (own_mem.2 hk))), hF, hs⟩
theorem a2_play (h : A2 w W d l e m N) (o : AO) : Calls Try.prog 11 #[.pointer (some ⟨d, 0, none⟩), .agg #[.int .i64 o.k, .int .i64 o.p, .int .i64 o.c, .int .u8 o.g]] W fun en w' => en = .returned (.tuple #[]) ∧ A2 w w' d (playL l o) e m N ∧ Keep N W w' := by
  obtain ⟨F, G, h1, h2, h3, h4, h5, h6, h7, h8⟩ := h
  have hs : ASt w W d l (G ++ N) := by
    refine ⟨F, h1, h3, fun k hk => ⟨(h5 k hk).1, fun h => ?_⟩, h7, fun k hk => ?_⟩
    · rcases List.mem_append.1 h with h | h
      · exact (h5 k hk).2.2 h
      · exact (h5 k hk).2.1 h
    · rcases List.mem_append.1 hk with h | h
      · exact h2.lt k h
      · exact h8 k h
  refine (play_any hs o).mono ?_
  rintro en w' ⟨rfl, ⟨F', a1, a2, a3, a4, a5⟩, hk⟩
  exact ⟨rfl, ⟨F', G, a1, h2.keep (hk.sub fun k hk => List.mem_append_left _ hk) (fun k hk => a5 k (List.mem_append_left _ hk)), a2, h4, fun k hk => ⟨(a3 k hk).1, fun h => (a3 k hk).2 (List.mem_append_right _ h), fun h => (a3 k hk).2 (List.mem_append_left _ h)⟩, h6, a4, fun k hk => a5 k (List.mem_append_right _ hk)⟩, hk.sub fun k hk => List.mem_append_right _ hk⟩
end

attribute [local go_sem] Oper.semAt_some
theorem res_box {fn : Func} {tmps : Array Value} {W : World} {t br : Nat} (h : fn.results = #[.cell t 4]) (ht : tmps.getD t undef = .pointer (some ⟨br, 0, none⟩)) (hb : Blk W br 4 #[.bool true]) : (results fn tmps).run Try.prog W = .ok (.bool true) W := by
  have hc := hb.cell 0
  simp at hc
  have ht' : tmps[t]?.getD undef = .pointer (some ⟨br, 0, none⟩) := by simpa using ht
  simp [results, h, ht', go_sem, hc]
theorem blk_res {W : World} {br : Nat} {x : Bool} (h : Blk W br 4 #[.bool x]) : W.cell? ⟨br, 0, none⟩ = some (.bool x) ∧ W.frozen? ⟨br, 0, none⟩ = false ∧ Blk (W.setCell ⟨br, 0, none⟩ (.bool true)) br 4 #[.bool true] := by
  have hc := h.cell 0
  simp at hc
  have := h.set_ 0 (.bool true)
  exact ⟨hc, h.frozen 0, by simpa using this⟩
set_option maxRecDepth 20000 in
set_option maxHeartbeats 4000000 in
theorem hole_any (w : World) (page count at_ many g o : Int) : Calls Try.prog 6 #[.int .i64 page, .int .i64 count, .int .i64 at_, .int .i64 many, .int .u8 g, .int .u8 o] w fun e w' => e = .returned (.bool true) ∧ Chg [] w w' := by
  have hb0 : Blk (w.alloc (.cells #[.bool false] 4)) w.heap.size 4 #[.bool false] := Blk.new w 4 _
  have HN := hide (ast_new (w := w) (W := w.alloc (.cells #[.bool false] 4)) (N := [w.heap.size]) ((Chg.refl [] w).alloc _) (by simp))
  refine calls_marks Try.func6 rfl ?_
  simp only [Try.ntmps6, List.size_toArray, List.length_cons, List.length_nil, Nat.reduceAdd, Nat.reduceSub, Array.replicate_succ, Array.replicate_zero, List.push_toArray, List.append_toArray, List.nil_append, List.cons_append]
  go_wp2_with fail
  refine HN.out.mono ?_
  rintro e W1 ⟨d, rfl, h1, -, hc1⟩
  clear HN
  have hb1 := hb0.chg hc1 List.not_mem_nil
  generalize hbr : w.heap.size = br at h1 hb1 hb0 ⊢
  clear hb0 hc1
  go_wp2_with fail
  refine (a2_new h1).mono ?_
  rintro e W2 ⟨d2, rfl, h2, hc2⟩
  have hb2 := hb1.chg hc2 List.not_mem_nil
  clear h1 hb1 hc2
  obtain ⟨y, hy⟩ : ∃ y, mapE [] page count g = y := ⟨_, rfl⟩
  obtain ⟨l1, hl1⟩ : ∃ l1, mapR [] page count g = l1 := ⟨_, rfl⟩
  have HM := hide (fun W d N (h : ASt w W d [] N) => ast_map h page count g hy hl1)
  go_wp2_with fail
  refine (a2_map h2 page count g hy hl1).mono ?_
  rintro e W3 ⟨rfl, h3, hk3⟩
  have hb3 := hk3.blk hb2 (List.mem_singleton.2 rfl)
  clear h2 hb2 hk3
  by_cases hy0 : y = 0
  · subst hy0
    go_wp2_with fail
    refine (a2_map h3.symm page count g hy hl1).mono ?_
    rintro e W4 ⟨rfl, h4', hk4⟩
    have h4 := h4'.symm
    have hb4 := hk4.blk hb3 (List.mem_singleton.2 rfl)
    clear h3 hb3 hk4 h4'
    obtain ⟨e1, hm, hg⟩ := law_hole1 hy
    rw [e1] at hl1
    subst hl1
    have hm' := mayB_iff.1 hm
    obtain ⟨p1, p2, p3, p4⟩ := hm'
    clear HM
    go_wp2_with fail
    all_goals first
      | (refine (known_any W4).mono ?_
         rintro e W5 ⟨rfl, hc5⟩
         have hb5 := hb4.chg hc5 List.not_mem_nil
         obtain ⟨z1, z2, z3⟩ := blk_res hb5
         have hch := h4.chg.stay hc5
         clear hb4 hb5 h4
         go_wp2_with fail
         exact post_marks (Ds := []) ⟨List.nodup_nil, by simp⟩ fun W' hc => ⟨res_box rfl rfl (z3.chg hc List.not_mem_nil), rfl, (hch.setCell (.inr (Nat.le_of_eq hbr)) _).stay hc⟩)
      | skip
    have a1 : page < at_ := by assumption
    have a2 : 1 ≤ many := by assumption
    have a3 : at_ + many < page + count := by assumption
    have a4 : ((((page < at_ ∧ at_ ≤ 1024) ∧ 1 ≤ many) ∧ many ≤ 1024) ∧ at_ + many < page + count) ∧ (o == g) = false := by assumption
    obtain ⟨⟨⟨⟨-, a5⟩, a6⟩, -⟩, a7⟩ := a4
    obtain ⟨u1, u2⟩ := law_hole2 hm hg a1 a2 a3
    refine (a2_un h4 at_ many u1 u2).mono ?_
    rintro e W5 ⟨rfl, h5, hk5⟩
    have hb5 := hk5.blk hb4 (List.mem_singleton.2 rfl)
    clear hb4 hk5 h4 u1 u2
    go_wp2_with fail
    have hwa := Blk.new W5 44 #[.int .i64 page, .int .i64 (at_ - page), .int .u8 g, .int .i64 (at_ + many), .int .i64 (page + count - at_ - many), .int .u8 g]
    have hbn : Blk ((W5.alloc (.cells #[.int .i64 page, .int .i64 (at_ - page), .int .u8 g, .int .i64 (at_ + many), .int .i64 (page + count - at_ - many), .int .u8 g] 44)).alloc (.cells #[.int .i64 0] 3)) (W5.heap.size + 1) 3 #[.int .i64 ((0 : Nat) : Int)] := by
      have := Blk.new (W5.alloc (.cells #[.int .i64 page, .int .i64 (at_ - page), .int .u8 g, .int .i64 (at_ + many), .int .i64 (page + count - at_ - many), .int .u8 g] 44)) 3 #[.int .i64 0]
      rw [World.size_alloc] at this
      exact this
    have hwa2 := hwa.alloc (.cells #[.int .i64 0] 3)
    have hc6 : Chg [] W5 ((W5.alloc (.cells #[.int .i64 page, .int .i64 (at_ - page), .int .u8 g, .int .i64 (at_ + many), .int .i64 (page + count - at_ - many), .int .u8 g] 44)).alloc (.cells #[.int .i64 0] 3)) := ((Chg.refl _ _).alloc _).alloc _
    have h6 := h5.grow (M := [W5.heap.size, W5.heap.size + 1]) (hc6.up _) (by simp; omega) (by simp; omega)
    have hb6 := hb5.chg hc6 List.not_mem_nil
    have hs5 := h5.chg.size
    clear hwa hc6 hb5 h5
    generalize (W5.alloc (.cells #[.int .i64 page, .int .i64 (at_ - page), .int .u8 g, .int .i64 (at_ + many), .int .i64 (page + count - at_ - many), .int .u8 g] 44)).alloc (.cells #[.int .i64 0] 3) = W6 at hbn hwa2 h6 hb6 ⊢
    have hs6 : w.heap.size ≤ W5.heap.size + 1 := by omega
    generalize W5.heap.size + 1 = bn at hbn h6 hs6 ⊢
    generalize W5.heap.size = wa at hwa2 h6 hs5 ⊢
    have fnil := fn_nil
    refine (runs_any _ W6).mono ?_
    rintro e W7 ⟨rfl, -, hc7⟩
    go_wp2_with fail
    refine (runs_any _ W7).mono ?_
    rintro e W8 ⟨rfl, hbx, hc8⟩
    have hc78 := hc7.stay hc8
    have h8 := h6.stay hc78
    have hbn8 := hbn.chg hc78 List.not_mem_nil
    have hwa8 := hwa2.chg hc78 List.not_mem_nil
    have hb8 := hb6.chg hc78 List.not_mem_nil
    clear h6 hbn hwa2 hb6 hc7 hc8 hc78
    go_wp2_with fail
    refine wp_count (bn := bn) (q0 := 17) rfl hbx h8.fst.choose_spec.1 (by simp) hbn8 ?assign ?body ?done
    case assign =>
      intro j r W K hK
      unfold rv
      gi_wp2
      exact hK
    case body =>
      rintro j B k hk W Q' hQ' hc hbk hB hK
      have hwa9 := hwa8.chg hc (by simp; exact hwa8.ne_ hbn8 (by decide))
      obtain ⟨t0, t1, t2, t3⟩ := box3 hB
      have n0 := hbk.cell 0
      have n1 := hbk.frozen 0
      simp at n0
      have w0 := hwa9.cell 0
      have w1 := hwa9.cell 1
      have w2 := hwa9.cell 2
      have w3 := hwa9.cell 3
      have w4 := hwa9.cell 4
      have w5 := hwa9.cell 5
      simp at w0 w1 w2 w3 w4 w5
      clear hwa9 hc
      have HQ := hide hQ'
      clear hQ'
      unfold rv
      match k, hk with
      | 0, _ =>
        simp only [List.getElem_cons_zero, Int.natCast_zero] at *
        have hld := load_rn (w := W.drew) w0 w1 w2
        gi_wp2
        refine wpIn_region_g [1,0,0,1,1,0,1,0,0] [none, none, none, some (106, false), some (106, false), some (106, false), some (106, false), some (106, false), none] (fun _ => True) (by kernel_rfl) (by kernel_rfl) (by kernel_rfl) (by kernel_rfl) (fun ⟨_, _, h⟩ => HQ.out ⟨_, _, h⟩) ?_
        go_wp2_with (first | (refine wpG_neq_rn _ _ _ rfl rfl rfl false (by simp) ?_) | (refine wpG_calc rfl (fun K hK => ?_)) | (refine wpG_skip ?_ ?_; (focus (simp [wantG]; done)); go_simp) | (refine wpG_take ?_ ?_; (focus (simp [wantG]; done))) | (refine wpG_pure (fun K hK => ?_); go_simp; refine hK _ _ ?_; clear hK K) | (refine wpG_deed (by decide) (fun K hK => ?_); go_simp) | (refine wpG_nil ?_))
        gi_wp2
        exact hK _ _ (Chg.refl [] W).drew
      | 1, _ =>
        simp only [List.getElem_cons_succ, List.getElem_cons_zero] at *
        have hld := load_rn (w := W.drew) w3 w4 w5
        gi_wp2
        refine wpIn_region_g [1,0,0,1,1,0,1,0,0] [none, none, none, some (106, false), some (106, false), some (106, false), some (106, false), some (106, false), none] (fun _ => True) (by kernel_rfl) (by kernel_rfl) (by kernel_rfl) (by kernel_rfl) (fun ⟨_, _, h⟩ => HQ.out ⟨_, _, h⟩) ?_
        go_wp2_with (first | (refine wpG_neq_rn _ _ _ rfl rfl rfl false (by simp) ?_) | (refine wpG_calc rfl (fun K hK => ?_)) | (refine wpG_skip ?_ ?_; (focus (simp [wantG]; done)); go_simp) | (refine wpG_take ?_ ?_; (focus (simp [wantG]; done))) | (refine wpG_pure (fun K hK => ?_); go_simp; refine hK _ _ ?_; clear hK K) | (refine wpG_deed (by decide) (fun K hK => ?_); go_simp) | (refine wpG_nil ?_))
        gi_wp2
        exact hK _ _ (Chg.refl [] W).drew
    case done =>
      rintro D W hDw hdf hbk hc
      have n0 := hbk.cell 0
      simp at n0
      have hDl : D < W.heap.size := (Array.getElem?_eq_some_iff.1 hdf).1
      have h8s := h8.chg.size
      have hbnl := hbn8.lt
      have h9 := h8.grow (M := [D]) (hc.mono (fun x hx => .inl (by obtain rfl := List.mem_singleton.1 hx; simp))) (by simp; omega) (fun k hk => by obtain rfl := List.mem_singleton.1 hk; exact ⟨hDw, hDl⟩)
      have hb9 := hb8.chg hc (by simp; exact hb8.ne_ hbn8 (by decide))
      obtain ⟨y2, hy2⟩ : ∃ y2, prE [⟨page, count, g⟩] at_ many o = y2 := ⟨_, rfl⟩
      have hHole := hide (fun h => law_hole3 hm hg a1 a2 a3 (show o ≠ g by simpa using a7) h)
      have HD := hide hdf
      clear hdf h8 hb8 hbn8 hwa8 hbk hc hbx
      go_wp2_with fail
      obtain ⟨l3, hl3⟩ : ∃ l3, prR [⟨page, count, g⟩] at_ many o = l3 := ⟨_, rfl⟩
      refine (a2_pr h9.symm at_ many o hy2 hl3).mono ?_
      rintro e W10 ⟨rfl, h10, hk10⟩
      have hb10 := hk10.blk hb9 (by simp)
      have hd10 : W10.heap[D]? = some (.deferred (some [])) := (hk10 D (by simp)).trans HD.out
      clear HD h9 hb9 hk10
      by_cases hy0 : y2 = 0
      · subst hy0
        obtain ⟨e3, ho⟩ := hHole.out hy2
        rw [e3] at hl3
        subst hl3
        have hr : rt [⟨page, at_ - page, g⟩, ⟨at_, many, o⟩, ⟨at_ + many, page + count - at_ - many, g⟩] at_ = o := by
          unfold rt rt
          rw [if_neg (by show ¬ (page ≤ at_ ∧ at_ < page + (at_ - page)); omega), if_pos (by show at_ ≤ at_ ∧ at_ < at_ + many; omega)]
        have hh : hasB [⟨page, at_ - page, g⟩, ⟨at_, many, o⟩, ⟨at_ + many, page + count - at_ - many, g⟩] at_ = true := by
          unfold hasB
          rw [hr]
          have := rgB_iff.1 ho
          simp; omega
        clear hy2 hHole e3
        go_wp2_with fail
        refine (ast_rights h10.fst at_ hr hh).mono ?_
        rintro e W11 ⟨rfl, hc11⟩
        have h11 := h10.stay hc11
        have hb11 := hb10.chg hc11 List.not_mem_nil
        have hd11 : W11.heap[D]? = some (.deferred (some [])) := (hc11.block D (Array.getElem?_eq_some_iff.1 hd10).1 List.not_mem_nil).trans hd10
        have HD := hide hd11
        clear h10 hb10 hc11 hd10 hr hh hd11
        go_wp2_with fail
        refine (ast_len h11.fst).mono ?_
        rintro e W12 ⟨rfl, rfl⟩
        go_wp2_with fail
        refine (known_any W11).mono ?_
        rintro e W13 ⟨rfl, hc13⟩
        have hb13 := hb11.chg hc13 List.not_mem_nil
        obtain ⟨z1, z2, z3⟩ := blk_res hb13
        have hch := h11.chg.stay hc13
        have hdd : W13.heap[D]? = some (.deferred (some [])) := (hc13.block D (Array.getElem?_eq_some_iff.1 HD.out).1 List.not_mem_nil).trans HD.out
        have HDD := hide hdd
        clear hb11 hb13 h11 HD hdd
        go_wp2_with fail
        have hM : Marks [D] (W13.setCell ⟨br, 0, none⟩ (.bool true)) := ⟨by simp, fun E hE => by
          obtain rfl := List.mem_singleton.1 hE
          refine (Below.heap_setCell W13 ⟨br, 0, none⟩ _ _ (fun e => ?_)).trans HDD.out
          have h1 := HDD.out
          subst e
          have h2 := z1
          unfold World.cell? at h2
          simp [h1] at h2⟩
        exact post_marks (Ds := [D]) hM fun W' hc => ⟨res_box rfl rfl (z3.chg hc (fun h => by
          obtain rfl := List.mem_singleton.1 h
          have h1 := HDD.out
          have h2 := z1
          unfold World.cell? at h2
          simp [h1] at h2)), rfl, (hch.setCell (.inr (Nat.le_of_eq hbr)) _).trans hc (fun x hx => .inr (by obtain rfl := List.mem_singleton.1 hx; have := h8s; omega))⟩
      · have hyb : (y2 == 0) = false := beq_eq_false_iff_ne.2 hy0
        have hyc : (y2 != 0) = true := bne_iff_ne.2 hy0
        clear hy2 hHole hy0
        have HD := hide hd10
        clear hd10
        go_wp2_with fail
        refine (known_any W10).mono ?_
        rintro e W13 ⟨rfl, hc13⟩
        have hb13 := hb10.chg hc13 List.not_mem_nil
        obtain ⟨z1, z2, z3⟩ := blk_res hb13
        have hch := h10.chg.stay hc13
        have hdd : W13.heap[D]? = some (.deferred (some [])) := (hc13.block D (Array.getElem?_eq_some_iff.1 HD.out).1 List.not_mem_nil).trans HD.out
        have HDD := hide hdd
        clear hb10 hb13 h10 HD hdd
        go_wp2_with fail
        have hM : Marks [D] (W13.setCell ⟨br, 0, none⟩ (.bool true)) := ⟨by simp, fun E hE => by
          obtain rfl := List.mem_singleton.1 hE
          refine (Below.heap_setCell W13 ⟨br, 0, none⟩ _ _ (fun e => ?_)).trans HDD.out
          have h1 := HDD.out
          subst e
          have h2 := z1
          unfold World.cell? at h2
          simp [h1] at h2⟩
        exact post_marks (Ds := [D]) hM fun W' hc => ⟨res_box rfl rfl (z3.chg hc (fun h => by
          obtain rfl := List.mem_singleton.1 h
          have h1 := HDD.out
          have h2 := z1
          unfold World.cell? at h2
          simp [h1] at h2)), rfl, (hch.setCell (.inr (Nat.le_of_eq hbr)) _).trans hc (fun x hx => .inr (by obtain rfl := List.mem_singleton.1 hx; have := h8s; omega))⟩
  · have hyb : (y == 0) = false := beq_eq_false_iff_ne.2 hy0
    have hyc : (y != 0) = true := bne_iff_ne.2 hy0
    clear hy hy0 HM
    go_wp2_with fail
    refine (known_any W3).mono ?_
    rintro e W5 ⟨rfl, hc5⟩
    have hb5 := hb3.chg hc5 List.not_mem_nil
    obtain ⟨z1, z2, z3⟩ := blk_res hb5
    have hch := h3.chg.stay hc5
    clear hb3 hb5 h3
    go_wp2_with fail
    exact post_marks (Ds := []) ⟨List.nodup_nil, by simp⟩ fun W' hc => ⟨res_box rfl rfl (z3.chg hc List.not_mem_nil), rfl, (hch.setCell (.inr (Nat.le_of_eq hbr)) _).stay hc⟩
end Go.Proofs.Ytmgjknlpcnakiaa
