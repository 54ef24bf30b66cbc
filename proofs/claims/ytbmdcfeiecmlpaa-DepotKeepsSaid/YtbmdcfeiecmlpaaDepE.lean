import Derived.Test.YtbmdcfeiecmlpaaDepD
import Derived.Test.YtbmdcfeiecmlpaaRefD
namespace Go.Proofs.Ytbmdcfeiecmlpaa
open Go Go.RowKit

/-- a depot that a call has made: all its blocks are new; beside it an object slice of its own, apart from the depot -/
def DSt (w W : World) (d r : Nat) (fs : List (List Ob)) (q : List Ob) (v : Value) (l : List Ob) : Prop :=
  ∃ F, DMem 73 W d r fs q F ∧ (∀ k ∈ F, w.heap.size ≤ k) ∧ Chg [] w W ∧ SO W v l ∧ (∀ k ∈ own v, k ∉ F)
section
variable {w W : World} {d r : Nat} {fs : List (List Ob)} {q l : List Ob} {v : Value}
theorem DSt.cell (h : DSt w W d r fs q v l) : ∃ A0 c0 A1 c1, W.cell? ⟨d, 0, none⟩ = some (.int .i64 r) ∧ W.cell? ⟨d, 1, none⟩ = some (.slice A0 fs.length c0) ∧ W.cell? ⟨d, 2, none⟩ = some (.slice A1 q.length c1) := by
  obtain ⟨F, hm, hF, hc, hs, hv⟩ := h
  obtain ⟨A0, c0, A1, c1, vs, hb, _⟩ := hm.parts
  have x0 := hb.cell 0
  have x1 := hb.cell 1
  have x2 := hb.cell 2
  simp at x0 x1 x2
  exact ⟨A0, c0, A1, c1, x0, x1, x2⟩
theorem DSt.chg {W' : World} (h : DSt w W d r fs q v l) (hc : Chg [] W W') : DSt w W' d r fs q v l := by
  obtain ⟨F, hm, hF, hc0, hs, hv⟩ := h
  exact ⟨F, hm.chg hc (by simp), hF, hc0.trans hc (fun _ h => by cases h), hs.chg hc (fun _ _ h => by cases h), hv⟩
theorem DSt.below (h : DSt w W d r fs q v l) : Chg [] w W := by
  obtain ⟨F, hm, hF, hc, hs, hv⟩ := h
  exact hc
theorem DSt.ro (h : DSt w W d r fs q v l) : RO W v l := by
  obtain ⟨F, hm, hF, hc, hs, hv⟩ := h
  exact hs.ro
/-- the other slice is let go, a new one is taken -/
theorem DSt.with_ {W' : World} {v' : Value} {l' : List Ob} (h : DSt w W d r fs q v l) (hc : Chg [] W W') (hs : SO W' v' l') (hn : ∀ k ∈ own v', W.heap.size ≤ k) : DSt w W' d r fs q v' l' := by
  obtain ⟨F, hm, hF, hc0, hs0, hv⟩ := h
  exact ⟨F, hm.chg hc (by simp), hF, hc0.trans hc (fun _ h => by cases h), hs, fun k hk h => by have := hm.lt k h; have := hn k hk; omega⟩
theorem DSt.nil (h : DSt w W d r fs q v l) : DSt w W d r fs q (.slice none 0 0) [] := h.with_ (Chg.refl _ _) (Sl.nil _ _ _) (fun k hk => by simp [own, Value.ownBlock] at hk)
end

theorem dst_new (x : Int) {w W : World} (hc : Chg [] w W) : Calls Try.prog 14 #[.int .i64 x] W fun e w' => (∃ d, e = .returned (.pointer (some ⟨d, 0, none⟩)) ∧ DSt w w' d (clamp x) [] [] (.slice none 0 0) [] ∧ W.heap.size ≤ d) ∧ Chg [] W w' := by
  refine (dnew_any x W).mono ?_
  rintro e w' ⟨rfl, hm, hc'⟩
  exact ⟨⟨_, rfl, ⟨_, hm, fun k hk => by obtain rfl := List.mem_singleton.1 hk; exact hc.size, hc.trans hc' (fun _ h => by cases h), Sl.nil _ _ _, fun k hk => by simp [own, Value.ownBlock] at hk⟩, Nat.le_refl _⟩, hc'⟩
theorem dst_rounds {w W : World} {d r : Nat} {fs : List (List Ob)} {q l : List Ob} {v : Value} (h : DSt w W d r fs q v l) : Calls Try.prog 15 #[.pointer (some ⟨d, 0, none⟩)] W fun e w' => e = .returned (.int .i64 r) ∧ W = w' := by
  obtain ⟨A0, c0, A1, c1, x0, x1, x2⟩ := h.cell
  exact drounds_at d r W x0
theorem dst_fulls {w W : World} {d r : Nat} {fs : List (List Ob)} {q l : List Ob} {v : Value} (h : DSt w W d r fs q v l) : Calls Try.prog 37 #[.pointer (some ⟨d, 0, none⟩)] W fun e w' => e = .returned (.int .i64 fs.length) ∧ W = w' := by
  obtain ⟨A0, c0, A1, c1, x0, x1, x2⟩ := h.cell
  exact dfulls_at d A0 _ c0 W x1
theorem dst_queued {w W : World} {d r : Nat} {fs : List (List Ob)} {q l : List Ob} {v : Value} (h : DSt w W d r fs q v l) : Calls Try.prog 21 #[.pointer (some ⟨d, 0, none⟩)] W fun e w' => e = .returned (.int .i64 q.length) ∧ W = w' := by
  obtain ⟨A0, c0, A1, c1, x0, x1, x2⟩ := h.cell
  exact dqueued_at d A1 _ c1 W x2
/-- what was there ahead of the call stays -/
theorem chg_new {w W w' : World} {F : List Nat} (hF : ∀ k ∈ F, w.heap.size ≤ k) (h : Chg [] w W) (hc : Chg F W w') : Chg [] w w' := h.trans hc fun k hk => .inr (hF k hk)
theorem dst_put {w W : World} {d r : Nat} {fs : List (List Ob)} {q l m : List Ob} {v u : Value} (h : DSt w W d r fs q v l) (hr : 1 ≤ r) (hr2 : r ≤ 1000) (hm : RO W u m) (hl : m.length = r) (hf : fs.length < 64) :
    Calls Try.prog 16 #[.pointer (some ⟨d, 0, none⟩), u] W fun e w' => e = .returned (.int .i64 0) ∧ DSt w w' d r (fs ++ [m]) q v l := by
  obtain ⟨F, hd, hF, hc, hs, hv⟩ := h
  refine (dput_yes hr hd hm hl hr2 hf).mono ?_
  rintro e w' ⟨rfl, ⟨F', hd', hS⟩, hc'⟩
  refine ⟨rfl, F', hd', fun k hk => ?_, chg_new hF hc hc', Sl.chg hs hc' (fun k hk => hv k (own_mem.2 hk)), fun k hk hk' => ?_⟩
  · rcases hS k hk with h | h
    · exact hF k h
    · exact Nat.le_trans hc.size h
  · rcases hS k hk' with h | h
    · exact hv k hk h
    · have := hs.own_lt k hk; omega
theorem dst_put_no {w W : World} {d r : Nat} {fs : List (List Ob)} {q l m : List Ob} {v u : Value} (h : DSt w W d r fs q v l) (hr : 1 ≤ r) (hm : RO W u m) (hl : m.length ≤ 1000000) (hf : fs.length ≤ 1000000) (hn : m.length ≠ r ∨ 64 ≤ fs.length) :
    Calls Try.prog 16 #[.pointer (some ⟨d, 0, none⟩), u] W fun e w' => e = .returned (.int .i64 (if m.length ≠ r then 2 else 9)) ∧ W = w' := by
  obtain ⟨F, hd, hF, hc, hs, hv⟩ := h
  obtain ⟨A, c, rfl⟩ := hm.form
  exact dput_no hr hd A m.length c hl hf hn
theorem dst_queue {w W : World} {d r : Nat} {fs : List (List Ob)} {q l : List Ob} {v : Value} (h : DSt w W d r fs q v l) (hr : 1 ≤ r) (x y : Int) (hq : q.length ≤ 100000) :
    Calls Try.prog 17 #[.pointer (some ⟨d, 0, none⟩), .agg #[.int .i64 x, .int .i64 y]] W fun e w' => e = .returned (.tuple #[]) ∧ DSt w w' d r fs (q ++ [(x, y)]) v l := by
  obtain ⟨F, hd, hF, hc, hs, hv⟩ := h
  refine (dqueue_at hr hd x y hq).mono ?_
  rintro e w' ⟨rfl, ⟨F', hd', hS⟩, hc'⟩
  refine ⟨rfl, F', hd', fun k hk => ?_, chg_new hF hc hc', Sl.chg hs hc' (fun k hk => hv k (own_mem.2 hk)), fun k hk hk' => ?_⟩
  · rcases hS k hk with h | h
    · exact hF k h
    · exact Nat.le_trans hc.size h
  · rcases hS k hk' with h | h
    · exact hv k hk h
    · have := hs.own_lt k hk; omega
theorem dst_get {w W : World} {d r : Nat} {fs : List (List Ob)} {q l m : List Ob} {v : Value} (h : DSt w W d r (fs ++ [m]) q v l) (hf : fs.length ≤ 1000000) :
    Calls Try.prog 20 #[.pointer (some ⟨d, 0, none⟩)] W fun e w' => (∃ A c, e = .returned (.tuple #[.slice A m.length c, .bool true]) ∧ RO w' (.slice A m.length c) m ∧ DSt w w' d r fs q (.slice A m.length c) m) ∧ DSt w w' d r fs q v l := by
  obtain ⟨F, hd, hF, hc, hs, hv⟩ := h
  refine (dget_yes hd hf).mono ?_
  rintro e w' ⟨⟨A, c, rfl, hs', hA, hd'⟩, hc'⟩
  have hcn := chg_new hF hc hc'
  refine ⟨⟨A, c, rfl, hs'.ro, _, hd', fun k hk => hF k (List.mem_filter.1 hk).1, hcn, hs', fun k hk hk' => ?_⟩, _, hd', fun k hk => hF k (List.mem_filter.1 hk).1, hcn, Sl.chg hs hc' (fun k hk => hv k (own_mem.2 hk)), fun k hk hk' => hv k hk (List.mem_filter.1 hk').1⟩
  have := (List.mem_filter.1 hk').2
  rw [own_mem.1 hk] at this
  simp at this
theorem dst_get_no {w W : World} {d r : Nat} {q l : List Ob} {v : Value} (h : DSt w W d r [] q v l) :
    Calls Try.prog 20 #[.pointer (some ⟨d, 0, none⟩)] W fun e w' => e = .returned (.tuple #[.slice none 0 0, .bool false]) ∧ W = w' := by
  obtain ⟨F, hd, hF, hc, hs, hv⟩ := h
  exact dget_no hd
theorem dst_drain {w W : World} {d r : Nat} {fs : List (List Ob)} {q l : List Ob} {v : Value} (h : DSt w W d r fs q v l) (x : Int) (hq : q.length ≤ 100000) :
    Calls Try.prog 19 #[.pointer (some ⟨d, 0, none⟩), .int .i64 x] W fun e w' => (∃ A c, e = .returned (.slice A (q.take (drainN x q.length)).length c) ∧ RO w' (.slice A (q.take (drainN x q.length)).length c) (q.take (drainN x q.length)) ∧
      DSt w w' d r fs (q.drop (drainN x q.length)) (.slice A (q.take (drainN x q.length)).length c) (q.take (drainN x q.length))) ∧ DSt w w' d r fs (q.drop (drainN x q.length)) v l := by
  obtain ⟨F, hd, hF, hc, hs, hv⟩ := h
  refine (drain_at hd x hq).mono ?_
  rintro e w' ⟨⟨A, c, rfl, hs', hA⟩, hd', hc'⟩
  have hcn := chg_new hF hc hc'
  refine ⟨⟨A, c, rfl, hs'.ro, F, hd', hF, hcn, hs', fun k hk hk' => ?_⟩, F, hd', hF, hcn, Sl.chg hs hc' (fun k hk => hv k (own_mem.2 hk)), hv⟩
  have := hA k (own_mem.1 hk)
  have := hd.lt k hk'
  omega
theorem dst_drain_to {w W : World} {d r : Nat} {fs : List (List Ob)} {q l q1 q2 : List Ob} {v : Value} (h : DSt w W d r fs q v l) (x : Int) (hq : q.length ≤ 100000) (h1 : q.take (drainN x q.length) = q1) (h2 : q.drop (drainN x q.length) = q2) :
    Calls Try.prog 19 #[.pointer (some ⟨d, 0, none⟩), .int .i64 x] W fun e w' => (∃ A c, e = .returned (.slice A q1.length c) ∧ RO w' (.slice A q1.length c) q1 ∧ DSt w w' d r fs q2 (.slice A q1.length c) q1) ∧ DSt w w' d r fs q2 v l := by
  subst h1; subst h2
  exact dst_drain h x hq
theorem dst_all {w W : World} {d r : Nat} {fs : List (List Ob)} {q l : List Ob} {v : Value} (h : DSt w W d r fs q v l) (hf : fs.length ≤ 1000) (hq : (dall fs q).length ≤ 1000000) :
    Calls Try.prog 38 #[.pointer (some ⟨d, 0, none⟩)] W fun e w' => (∃ A c, e = .returned (.slice A (dall fs q).length c) ∧ DSt w w' d r fs q (.slice A (dall fs q).length c) (dall fs q)) ∧ DSt w w' d r fs q v l := by
  have h' := h
  obtain ⟨F, hd, hF, hc, hs, hv⟩ := h
  refine (dall_at hd hf hq).mono ?_
  rintro e w' ⟨⟨A, c, rfl, hs', hA⟩, hc'⟩
  exact ⟨⟨A, c, rfl, h'.with_ hc' hs' (fun k hk => hA k (own_mem.1 hk))⟩, h'.chg hc'⟩
theorem dst_flush {w W : World} {d r : Nat} {fs : List (List Ob)} {q l : List Ob} {v : Value} (h : DSt w W d r fs q v l) (hf : fs.length ≤ 1000) (hq : (dall fs q).length ≤ 1000000) :
    Calls Try.prog 43 #[.pointer (some ⟨d, 0, none⟩)] W fun e w' => (∃ A c, e = .returned (.slice A (dall fs q).length c) ∧ DSt w w' d r [] [] (.slice A (dall fs q).length c) (dall fs q)) ∧ DSt w w' d r [] [] v l := by
  obtain ⟨F, hd, hF, hc, hs, hv⟩ := h
  refine (flush_at hd hf hq).mono ?_
  rintro e w' ⟨⟨A, c, rfl, hs', hA⟩, hd', hc'⟩
  have hcn := chg_new hF hc hc'
  refine ⟨⟨A, c, rfl, F, hd', hF, hcn, hs', fun k hk hk' => ?_⟩, F, hd', hF, hcn, Sl.chg hs hc' (fun k hk => hv k (own_mem.2 hk)), hv⟩
  have := hA k (own_mem.1 hk)
  have := hd.lt k hk'
  omega
end Go.Proofs.Ytbmdcfeiecmlpaa
