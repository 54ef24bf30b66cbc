import Derived.Test.YtmgjknlpcnakiaaArD
namespace Go.Proofs.Ytmgjknlpcnakiaa
open Go Go.RowKit


theorem load_rn {w : World} {g off : Nat} {x y z : Int} (c0 : w.cell? ⟨g, off, none⟩ = some (.int .i64 x)) (c1 : w.cell? ⟨g, off + 1, none⟩ = some (.int .i64 y)) (c2 : w.cell? ⟨g, off + 2, none⟩ = some (.int .u8 z)) : (loadVar 30 ⟨g, off, none⟩).run Try.prog w = .ok (.agg #[.int .i64 x, .int .i64 y, .int .u8 z]) w := by
  simp [go_sem, loadVar, c0, c1, c2]
/-- what 'put' leaves -/
def PutP (w : World) (v : Value) (l : List Rn) (e : Ending) (w' : World) : Prop := ∃ A n c, e = .returned (.slice A n c) ∧ SR w' (.slice A n c) l ∧ Chg (own v) w w' ∧ Grow w v (.slice A n c)

theorem RR_two (w : World) (p c g : Int) (T : TypeId) (cs : Array Value) : RR (((w.alloc (.cells cs T)).alloc (.cells #[.int .i64 p, .int .i64 c, .int .u8 g] 30)).drew) (.slice (some ⟨w.heap.size + 1, 0, none⟩) 1 1) [⟨p, c, g⟩] := by
  have := RR_one (w.alloc (.cells cs T)) p c g
  rw [World.size_alloc] at this
  exact Rd.drew this
set_option maxHeartbeats 1000000 in
theorem put_nil {w : World} {v : Value} (hv : SR w v []) {r : Rn} (h : ¬ (r.c < 1 ∨ r.g = 0)) :
    Calls Try.prog 39 #[v, .agg #[.int .i64 r.p, .int .i64 r.c, .int .u8 r.g]] w (PutP w v [r]) := by
  obtain ⟨A, c0, rfl⟩ := hv.form
  obtain ⟨p, c, g⟩ := r
  simp only at h ⊢
  obtain ⟨h1, h2⟩ : 1 ≤ c ∧ (g == 0) = false := ⟨by omega, beq_eq_false_iff_ne.2 (by omega)⟩
  clear h
  simp only [List.length_nil]
  go_enter Try.func39, Try.ntmps39
  go_wp2_with fail
  refine wp_region_t [0,0,0,0,0,0,1,6,0,5,0,0,0,0,0,0,0,1,0,1,0,0] [none, none, none, some (20, true), some (20, true), some (20, true), some (20, true), some (20, true), some (20, true), some (20, true), some (20, true), none, none, some (30, true), some (30, true), some (30, true), some (30, true), some (30, true), some (30, true), some (30, true), some (30, true), none] (fun W => Blk W w.heap.size 30 #[.int .i64 p, .int .i64 c, .int .u8 g]) (by kernel_rfl) (by kernel_rfl) (by kernel_rfl) ?_
  go_wp2_with (first | (at_builtin; refine wpList_append_rn rfl _ _ rfl (.slice A 0 c0) _ rfl rfl (l := []) (m := [⟨p, c, g⟩]) (hv.stay (((Chg.refl _ _).alloc _).alloc _).drew) (RR_two w p c g _ _) (by simp) ?_; intro A9 n9 c9 W9 hn9 hs9 hc9 hg9) | (refine wpG_calc rfl (fun K hK => ?_)) | (refine wpG_skip ?_ ?_; (focus (simp [wantG]; done)); go_simp) | (refine wpG_take ?_ ?_; (focus (simp [wantG]; done))) | (refine wpG_pure (fun K hK => ?_); go_simp; refine hK _ _ ?_; clear hK K) | (refine wpG_deed (by decide) (fun K hK => ?_); go_simp) | (refine wpG_nil ?_))
  go_ret
  have hc : Chg [] w (((w.alloc (.cells #[.int .i64 p, .int .i64 c, .int .u8 g] 30)).alloc (.cells #[.int .i64 p, .int .i64 c, .int .u8 g] 30)).drew) := (((Chg.refl _ _).alloc _).alloc _).drew
  exact ⟨_, _, _, rfl, hs9, hc.then_ hc9, hg9.of_le (by simp; omega)⟩

set_option maxHeartbeats 2000000 in
theorem put_snoc {w : World} {v : Value} {l : List Rn} {x r : Rn} (hv : SR w v (l ++ [x])) (h : ¬ (r.c < 1 ∨ r.g = 0)) (hx : Okr x) (hr : Okr r) (hlen : l.length ≤ 100000) (hj : ¬ (x.e = r.p ∧ x.g = r.g)) :
    Calls Try.prog 39 #[v, .agg #[.int .i64 r.p, .int .i64 r.c, .int .u8 r.g]] w (PutP w v (l ++ [x] ++ [r])) := by
  obtain ⟨A, c0, rfl⟩ := hv.form
  obtain ⟨n, hn⟩ : ∃ n, l.length = n := ⟨_, rfl⟩
  have en : (l ++ [x]).length = n + 1 := by simp [hn]
  rw [en] at hv ⊢
  obtain ⟨g0, off, rfl⟩ := SE.addr hv (Nat.succ_pos n)
  obtain ⟨q0, q1, q2⟩ := RR.cells hv.re (k := n) (by omega)
  have ex : (l ++ [x])[n]'(by omega) = x := by subst hn; simp
  rw [ex] at q0 q1 q2
  have Hn := hide hn
  have hgl : g0 < w.heap.size := hv.own_lt g0 (by simp [own, Value.ownBlock])
  have hn2 : n ≤ 100000 := by omega
  clear en ex hn
  obtain ⟨⟨xp1, xp2⟩, xc1, xc2⟩ := hx
  obtain ⟨⟨rp1, rp2⟩, rc1, rc2⟩ := hr
  obtain ⟨p, c, g⟩ := r
  obtain ⟨xp, xc, xg⟩ := x
  simp only at *
  have h1 : 1 ≤ c := by omega
  have h2 : (g == 0) = false := beq_eq_false_iff_ne.2 (by omega)
  have hb : Blk ((w.alloc (.cells #[.int .i64 p, .int .i64 c, .int .u8 g] 30)).drew) w.heap.size 30 #[.int .i64 p, .int .i64 c, .int .u8 g] := (Blk.new w 30 _).drew
  have hc0 : Chg [] w ((w.alloc (.cells #[.int .i64 p, .int .i64 c, .int .u8 g] 30)).drew) := ((Chg.refl _ _).alloc _).drew
  have Hlen : Hid ((l ++ [(⟨xp, xc, xg⟩ : Rn)]).length + [(⟨p, c, g⟩ : Rn)].length ≤ 1000000) := hide (by simp; omega)
  by_cases he : xp + xc = p
  · have he1 : (xp + xc == p) = true := by simpa using he
    have he2 : (xg == g) = false := beq_eq_false_iff_ne.2 (fun e => hj ⟨he, e⟩)
    clear hj h he
    go_enter Try.func39, Try.ntmps39
    go_wp2_with fail
    refine wp_region_t [0,0,0,0,0,0,1,6,0,5,0,0,0,0,0,0,0,1,0,1,0,0] [none, none, none, some (20, true), some (20, true), some (20, true), some (20, true), some (20, true), some (20, true), some (20, true), some (20, true), none, none, some (30, true), some (30, true), some (30, true), some (30, true), some (30, true), some (30, true), some (30, true), some (30, true), none] (fun W => Blk W w.heap.size 30 #[.int .i64 p, .int .i64 c, .int .u8 g]) (by kernel_rfl) (by kernel_rfl) (by kernel_rfl) ?_
    go_wp2_with (first | fail | (refine wpG_calc rfl (fun K hK => ?_)) | (refine wpG_skip ?_ ?_; (focus (simp [wantG]; done)); go_simp) | (refine wpG_take ?_ ?_; (focus (simp [wantG]; done))) | (refine wpG_pure (fun K hK => ?_); go_simp; refine hK _ _ ?_; clear hK K) | (refine wpG_deed (by decide) (fun K hK => ?_); go_simp) | (refine wpG_nil ?_))
    (refine wpG_keeps hb (fun K hK => ?_)); go_simp; (refine (end_any xp xc xg _ ⟨by omega, by omega⟩ ⟨by omega, by omega⟩).mono ?_); rintro e W1 ⟨rfl, hc1⟩; have hb1 := Blk.chg hb hc1 List.not_mem_nil; (refine hK _ _ hb1 ?_); clear hK K
    have b0 := hb1.cell 0
    have b1 := hb1.cell 1
    have b2 := hb1.cell 2
    simp at b0 b1 b2
    have hvW : SR W1 (.slice (some ⟨g0, off, none⟩) (n + 1) c0) (l ++ [⟨xp, xc, xg⟩]) := (hv.stay hc0).stay hc1
    obtain ⟨q0', q1', q2'⟩ : W1.cell? ⟨g0, off + n * 3, none⟩ = some (.int .i64 xp) ∧ W1.cell? ⟨g0, off + n * 3 + 1, none⟩ = some (.int .i64 xc) ∧ W1.cell? ⟨g0, off + n * 3 + 2, none⟩ = some (.int .u8 xg) := ⟨(hc0.trans hc1 (fun _ h => by cases h)).cell q0 List.not_mem_nil, (hc0.trans hc1 (fun _ h => by cases h)).cell q1 List.not_mem_nil, (hc0.trans hc1 (fun _ h => by cases h)).cell q2 List.not_mem_nil⟩
    clear q0 q1 q2
    go_wp2_with (first | (refine wpG_hload 3 _ rfl rfl (fun w' hw' => load_int Try.underlying3 (by simpa using Blk.cell hw' 0)) hb1 ?_; go_simp) | (at_builtin; refine wpList_append_rn rfl _ _ rfl (.slice (some ⟨g0, off, none⟩) (n + 1) c0) _ rfl rfl (hvW.stay ((Chg.refl _ _).alloc _)) (RR_one W1 p c g) Hlen.out ?_; intro A9 n9 c9 W9 hn9 hs9 hc9 hg9) | (refine wpG_calc rfl (fun K hK => ?_)) | (refine wpG_skip ?_ ?_; (focus (simp [wantG]; done)); go_simp) | (refine wpG_take ?_ ?_; (focus (simp [wantG]; done))) | (refine wpG_pure (fun K hK => ?_); go_simp; refine hK _ _ ?_; clear hK K) | (refine wpG_deed (by decide) (fun K hK => ?_); go_simp) | (refine wpG_nil ?_))
    go_ret
    exact ⟨_, _, _, rfl, hs9, (hc0.trans (hc1.alloc _) (fun _ h => by cases h)).then_ hc9, hg9.of_le (by have := hc0.size; have := hc1.size; simp at *; omega)⟩
  · have he1 : (xp + xc == p) = false := by simpa using he
    clear hj h he
    go_enter Try.func39, Try.ntmps39
    go_wp2_with fail
    refine wp_region_t [0,0,0,0,0,0,1,6,0,5,0,0,0,0,0,0,0,1,0,1,0,0] [none, none, none, some (20, true), some (20, true), some (20, true), some (20, true), some (20, true), some (20, true), some (20, true), some (20, true), none, none, some (30, true), some (30, true), some (30, true), some (30, true), some (30, true), some (30, true), some (30, true), some (30, true), none] (fun W => Blk W w.heap.size 30 #[.int .i64 p, .int .i64 c, .int .u8 g]) (by kernel_rfl) (by kernel_rfl) (by kernel_rfl) ?_
    go_wp2_with (first | fail | (refine wpG_calc rfl (fun K hK => ?_)) | (refine wpG_skip ?_ ?_; (focus (simp [wantG]; done)); go_simp) | (refine wpG_take ?_ ?_; (focus (simp [wantG]; done))) | (refine wpG_pure (fun K hK => ?_); go_simp; refine hK _ _ ?_; clear hK K) | (refine wpG_deed (by decide) (fun K hK => ?_); go_simp) | (refine wpG_nil ?_))
    (refine wpG_keeps hb (fun K hK => ?_)); go_simp; (refine (end_any xp xc xg _ ⟨by omega, by omega⟩ ⟨by omega, by omega⟩).mono ?_); rintro e W1 ⟨rfl, hc1⟩; have hb1 := Blk.chg hb hc1 List.not_mem_nil; (refine hK _ _ hb1 ?_); clear hK K
    have b0 := hb1.cell 0
    have b1 := hb1.cell 1
    have b2 := hb1.cell 2
    simp at b0 b1 b2
    have hvW : SR W1 (.slice (some ⟨g0, off, none⟩) (n + 1) c0) (l ++ [⟨xp, xc, xg⟩]) := (hv.stay hc0).stay hc1
    clear q0 q1 q2
    go_wp2_with (first | (refine wpG_hload 3 _ rfl rfl (fun w' hw' => load_int Try.underlying3 (by simpa using Blk.cell hw' 0)) hb1 ?_; go_simp) | (at_builtin; refine wpList_append_rn rfl _ _ rfl (.slice (some ⟨g0, off, none⟩) (n + 1) c0) _ rfl rfl (hvW.stay ((Chg.refl _ _).alloc _)) (RR_one W1 p c g) Hlen.out ?_; intro A9 n9 c9 W9 hn9 hs9 hc9 hg9) | (refine wpG_calc rfl (fun K hK => ?_)) | (refine wpG_skip ?_ ?_; (focus (simp [wantG]; done)); go_simp) | (refine wpG_take ?_ ?_; (focus (simp [wantG]; done))) | (refine wpG_pure (fun K hK => ?_); go_simp; refine hK _ _ ?_; clear hK K) | (refine wpG_deed (by decide) (fun K hK => ?_); go_simp) | (refine wpG_nil ?_))
    go_ret
    exact ⟨_, _, _, rfl, hs9, (hc0.trans (hc1.alloc _) (fun _ h => by cases h)).then_ hc9, hg9.of_le (by have := hc0.size; have := hc1.size; simp at *; omega)⟩

set_option maxHeartbeats 2000000 in
theorem put_join {w : World} {v : Value} {l : List Rn} {x r : Rn} (hv : SR w v (l ++ [x])) (h : ¬ (r.c < 1 ∨ r.g = 0)) (hx : Okr x) (hr : Okr r) (hlen : l.length ≤ 100000) (hj : x.e = r.p ∧ x.g = r.g) :
    Calls Try.prog 39 #[v, .agg #[.int .i64 r.p, .int .i64 r.c, .int .u8 r.g]] w (PutP w v (l ++ [⟨x.p, x.c + r.c, x.g⟩])) := by
  obtain ⟨A, c0, rfl⟩ := hv.form
  obtain ⟨n, hn⟩ : ∃ n, l.length = n := ⟨_, rfl⟩
  have en : (l ++ [x]).length = n + 1 := by simp [hn]
  rw [en] at hv ⊢
  obtain ⟨g0, off, rfl⟩ := SE.addr hv (Nat.succ_pos n)
  obtain ⟨q0, q1, q2⟩ := RR.cells hv.re (k := n) (by omega)
  have ex : (l ++ [x])[n]'(by omega) = x := by subst hn; simp
  have e3 : (l ++ [x]).set n ⟨x.p, x.c + r.c, x.g⟩ = l ++ [⟨x.p, x.c + r.c, x.g⟩] := by subst hn; simp
  rw [ex] at q0 q1 q2
  have Hset : Hid (∀ W, SR W (.slice (some ⟨g0, off, none⟩) (n + 1) c0) (l ++ [x]) → SR (W.setCell ⟨g0, off + (n * 3 + 1), none⟩ (.int .i64 (x.c + r.c))) (.slice (some ⟨g0, off, none⟩) (n + 1) c0) (l ++ [⟨x.p, x.c + r.c, x.g⟩])) := hide fun W hW => by
    have := SE.set rc_len hW (k := n) (j := 1) (by omega) (by omega) (u := .int .i64 (x.c + r.c)) (x := ⟨x.p, x.c + r.c, x.g⟩) (by rw [ex]; rfl)
    rw [e3] at this
    exact this
  have Hn := hide hn
  have hgl : g0 < w.heap.size := hv.own_lt g0 (by simp [own, Value.ownBlock])
  have hn2 : n ≤ 100000 := by omega
  have hfz := hv.frozen (off + n * 3 + 1)
  clear en ex hn e3
  obtain ⟨⟨xp1, xp2⟩, xc1, xc2⟩ := hx
  obtain ⟨⟨rp1, rp2⟩, rc1, rc2⟩ := hr
  obtain ⟨p, c, g⟩ := r
  obtain ⟨xp, xc, xg⟩ := x
  simp only at *
  obtain ⟨he, rfl⟩ := hj
  have h1 : 1 ≤ c := by omega
  have h2 : (xg == 0) = false := beq_eq_false_iff_ne.2 (by omega)
  have he1 : (xp + xc == p) = true := by simpa using he
  clear h he
  have hb : Blk ((w.alloc (.cells #[.int .i64 p, .int .i64 c, .int .u8 xg] 30)).drew) w.heap.size 30 #[.int .i64 p, .int .i64 c, .int .u8 xg] := (Blk.new w 30 _).drew
  have hc0 : Chg [] w ((w.alloc (.cells #[.int .i64 p, .int .i64 c, .int .u8 xg] 30)).drew) := ((Chg.refl _ _).alloc _).drew
  go_enter Try.func39, Try.ntmps39
  go_wp2_with fail
  refine wp_region_t [0,0,0,0,0,0,1,6,0,5,0,0,0,0,0,0,0,1,0,1,0,0] [none, none, none, some (20, true), some (20, true), some (20, true), some (20, true), some (20, true), some (20, true), some (20, true), some (20, true), none, none, some (30, true), some (30, true), some (30, true), some (30, true), some (30, true), some (30, true), some (30, true), some (30, true), none] (fun W => Blk W w.heap.size 30 #[.int .i64 p, .int .i64 c, .int .u8 xg]) (by kernel_rfl) (by kernel_rfl) (by kernel_rfl) ?_
  go_wp2_with (first | fail | (refine wpG_calc rfl (fun K hK => ?_)) | (refine wpG_skip ?_ ?_; (focus (simp [wantG]; done)); go_simp) | (refine wpG_take ?_ ?_; (focus (simp [wantG]; done))) | (refine wpG_pure (fun K hK => ?_); go_simp; refine hK _ _ ?_; clear hK K) | (refine wpG_deed (by decide) (fun K hK => ?_); go_simp) | (refine wpG_nil ?_))
  (refine wpG_keeps hb (fun K hK => ?_)); go_simp; (refine (end_any xp xc xg _ ⟨by omega, by omega⟩ ⟨by omega, by omega⟩).mono ?_); rintro e W1 ⟨rfl, hc1⟩; have hb1 := Blk.chg hb hc1 List.not_mem_nil; (refine hK _ _ hb1 ?_); clear hK K
  have b0 := hb1.cell 0
  have b1 := hb1.cell 1
  have b2 := hb1.cell 2
  simp at b0 b1 b2
  have hc01 := hc0.trans hc1 (fun _ h => by cases h)
  have hvW : SR W1 (.slice (some ⟨g0, off, none⟩) (n + 1) c0) (l ++ [⟨xp, xc, xg⟩]) := hv.stay hc01
  obtain ⟨q0', q1', q2'⟩ : W1.cell? ⟨g0, off + n * 3, none⟩ = some (.int .i64 xp) ∧ W1.cell? ⟨g0, off + n * 3 + 1, none⟩ = some (.int .i64 xc) ∧ W1.cell? ⟨g0, off + n * 3 + 2, none⟩ = some (.int .u8 xg) := ⟨hc01.cell q0 List.not_mem_nil, hc01.cell q1 List.not_mem_nil, hc01.cell q2 List.not_mem_nil⟩
  have hfz1 := hvW.frozen (off + n * 3 + 1)
  clear q0 q1 q2 hfz
  go_wp2_with (first | (refine wpG_hload 3 _ rfl rfl (fun w' hw' => load_int Try.underlying3 (by simpa using Blk.cell hw' 0)) hb1 ?_; go_simp) | (refine wpG_calc rfl (fun K hK => ?_)) | (refine wpG_skip ?_ ?_; (focus (simp [wantG]; done)); go_simp) | (refine wpG_take ?_ ?_; (focus (simp [wantG]; done))) | (refine wpG_pure (fun K hK => ?_); go_simp; refine hK _ _ ?_; clear hK K) | (refine wpG_deed (by decide) (fun K hK => ?_); go_simp) | (refine wpG_nil ?_))
  refine wp_region_t [0, 0, 0, 0, 1, 0, 1, 0, 0, 0, 3] [none, none, none, none, none, none, none, none, none, none, none] (fun _ => True) (by kernel_rfl) (by kernel_rfl) (by kernel_rfl) ?_
  go_wp2_with (first | fail | (refine wpG_calc rfl (fun K hK => ?_)) | (refine wpG_skip ?_ ?_; (focus (simp [wantG]; done)); go_simp) | (refine wpG_take ?_ ?_; (focus (simp [wantG]; done))) | (refine wpG_pure (fun K hK => ?_); go_simp; refine hK _ _ ?_; clear hK K) | (refine wpG_deed (by decide) (fun K hK => ?_); go_simp) | (refine wpG_nil ?_))
  go_ret
  have hs := Hset.out _ (hvW.stay (Chg.refl [] W1).drew)
  refine ⟨_, _, _, rfl, hs, (hc01.drew).then_ ((Chg.refl _ _).setCell (.inl (by simp [own, Value.ownBlock])) _), Grow.refl _ _⟩
/-- THE CONTRACT of put -/
theorem put_any {w : World} {v : Value} {l : List Rn} {r : Rn} (hv : SR w v l) (hl : Okl l) (hr : Okr r) (hlen : l.length ≤ 100000) : Calls Try.prog 39 #[v, .agg #[.int .i64 r.p, .int .i64 r.c, .int .u8 r.g]] w (PutP w v (putL l r)) := by
  by_cases h : r.c < 1 ∨ r.g = 0
  · rw [putL_none h]
    obtain ⟨A, c0, rfl⟩ := hv.form
    refine (put_none hv h).mono ?_
    rintro e w' ⟨rfl, hc⟩
    exact ⟨_, _, _, rfl, hv.stay hc, hc.up _, Grow.refl _ _⟩
  · rcases List.eq_nil_or_concat l with rfl | ⟨l', x, rfl⟩
    · rw [putL_nil h]
      exact put_nil hv h
    · rw [List.concat_eq_append] at hv hl hlen ⊢
      have hx := hl x (by simp)
      by_cases hj : x.e = r.p ∧ x.g = r.g
      · rw [putL_join h hj]
        exact put_join hv h hx hr (by simp at hlen; omega) hj
      · rw [putL_snoc h hj]
        exact put_snoc hv h hx hr (by simp at hlen; omega) hj
end Go.Proofs.Ytmgjknlpcnakiaa
