/- The depot in memory. -/
import Derived.Test.YtbmdcfeiecmlpaaMagI
namespace Go.Proofs.Ytbmdcfeiecmlpaa
open Go Go.RowKit

abbrev own (v : Value) : List Nat := v.ownBlock.toList
theorem own_mem {v : Value} {k : Nat} : k ∈ own v ↔ v.ownBlock = some k := by simp [own]
theorem SO.own_lt {w : World} {v : Value} {l : List Ob} (h : SO w v l) : ∀ k ∈ own v, k < w.heap.size := fun k hk => Sl.lt h k (own_mem.1 hk)

/-- slices of objects of a call's own, one for each list -/
def SS (w : World) (vs : List Value) (fs : List (List Ob)) : Prop := vs.length = fs.length ∧ ∀ i (h : i < fs.length), ∃ u, vs[i]? = some u ∧ SO w u fs[i]
theorem SS.nil (w : World) : SS w [] [] := ⟨rfl, fun i h => by cases h⟩
theorem SS.chg {w w' : World} {F : List Nat} {vs : List Value} {fs : List (List Ob)} (h : SS w vs fs) (hc : Chg F w w') (hF : ∀ k ∈ vs.flatMap own, k ∉ F) : SS w' vs fs := by
  refine ⟨h.1, fun i hi => ?_⟩
  obtain ⟨u, hu, hs⟩ := h.2 i hi
  exact ⟨u, hu, hs.chg hc fun k hk => hF k (List.mem_flatMap.2 ⟨u, List.mem_of_getElem? hu, own_mem.2 hk⟩)⟩
theorem SS.snoc {w : World} {vs : List Value} {fs : List (List Ob)} {u : Value} {l : List Ob} (h : SS w vs fs) (hu : SO w u l) : SS w (vs ++ [u]) (fs ++ [l]) := by
  refine ⟨by simp [h.1], fun i hi => ?_⟩
  by_cases hlt : i < fs.length
  · obtain ⟨x, hx, hs⟩ := h.2 i hlt
    refine ⟨x, by rw [List.getElem?_append_left (by rw [h.1]; exact hlt)]; exact hx, ?_⟩
    rw [List.getElem_append_left hlt]; exact hs
  · have e : i = fs.length := by simp at hi; omega
    subst e
    exact ⟨u, by rw [← h.1]; simp, by simpa using hu⟩
theorem SS.take {w : World} {vs : List Value} {fs : List (List Ob)} (h : SS w vs fs) (k : Nat) : SS w (vs.take k) (fs.take k) := by
  refine ⟨by simp [h.1], fun i hi => ?_⟩
  have hi' : i < fs.length := by simp at hi; omega
  obtain ⟨x, hx, hs⟩ := h.2 i hi'
  refine ⟨x, ?_, by rw [List.getElem_take]; exact hs⟩
  rw [List.getElem?_take, if_pos (by simp at hi; omega)]; exact hx
theorem SS.last {w : World} {vs : List Value} {fs : List (List Ob)} {l : List Ob} (h : SS w vs (fs ++ [l])) : ∃ us u, vs = us ++ [u] ∧ SS w us fs ∧ SO w u l := by
  have hl := h.1
  simp at hl
  obtain ⟨us, u, rfl⟩ : ∃ us u, vs = us ++ [u] := by
    rcases List.eq_nil_or_concat vs with rfl | ⟨us, u, rfl⟩
    · simp at hl
    · exact ⟨us, u, by simp⟩
  have hl' : us.length = fs.length := by simpa using hl
  have h1 := h.take fs.length
  rw [List.take_left' hl', List.take_left' rfl] at h1
  obtain ⟨x, hx, hs⟩ := h.2 fs.length (by simp)
  rw [← hl'] at hx
  simp at hx hs
  subst hx
  exact ⟨us, u, rfl, h1, hs⟩
theorem SS.all {w : World} {vs : List Value} {fs : List (List Ob)} (h : SS w vs fs) {v : Value} (hv : Rd w 1 v fs.length vs) : RL w v fs :=
  ⟨vs, hv, fun i hi => (h.2 i hi).imp fun _ hu => ⟨hu.1, hu.2.ro⟩⟩
theorem SS.lt {w : World} {vs : List Value} {fs : List (List Ob)} (h : SS w vs fs) : ∀ k ∈ vs.flatMap own, k < w.heap.size := fun k hk => by
  obtain ⟨u, hu, hk⟩ := List.mem_flatMap.1 hk
  obtain ⟨i, hi, rfl⟩ := List.getElem_of_mem hu
  obtain ⟨x, hx, hs⟩ := h.2 i (by rw [← h.1]; exact hi)
  rw [List.getElem?_eq_getElem hi] at hx
  cases hx
  exact hs.own_lt k hk

/-- a depot (of the struct type T) in memory: rounds r, full magazines fs, queue q; all its blocks are F -/
def DMem (T : TypeId) (w : World) (d r : Nat) (fs : List (List Ob)) (q : List Ob) (F : List Nat) : Prop :=
  ∃ v0 v1 vs, Blk w d T #[.int .i64 r, v0, v1] ∧ Sl w 22 1 v0 fs.length vs ∧ SO w v1 q ∧ SS w vs fs ∧
    (∀ k ∈ d :: (own v0 ++ (own v1 ++ vs.flatMap own)), k ∈ F) ∧ (own v1 ++ vs.flatMap own).Nodup ∧ (∀ k ∈ F, k < w.heap.size)

theorem blk_other {w : World} {e e' : TypeId} {size n : Nat} {v : Value} {cs : List Value} (h : Sl w e size v n cs) {p : Nat} {cs' : Array Value} (hb : Blk w p e' cs') (ht : e' ≠ e) : v.ownBlock ≠ some p := by
  intro e1
  obtain ⟨_, ⟨rfl, _⟩ | ⟨g, off, cap, cur, rfl, hg, _⟩⟩ := h
  · cases e1
  · simp only [Value.ownBlock, Option.some.injEq] at e1
    subst e1
    exact hg.ne_ hb (Ne.symm ht) rfl
theorem Sl.blk {w : World} {e : TypeId} {size n : Nat} {v : Value} {cs : List Value} (h : Sl w e size v n cs) {k : Nat} (hk : k ∈ own v) : ∃ cur, Blk w k e cur := by
  rw [own_mem] at hk
  obtain ⟨_, ⟨rfl, _⟩ | ⟨g, off, cap, cur, rfl, hg, _⟩⟩ := h
  · cases hk
  · simp only [Value.ownBlock, Option.some.injEq] at hk
    subst hk
    exact ⟨_, hg⟩
theorem SS.blk {w : World} {vs : List Value} {fs : List (List Ob)} (h : SS w vs fs) {k : Nat} (hk : k ∈ vs.flatMap own) : ∃ cur, Blk w k 28 cur := by
  obtain ⟨u, hu, hk⟩ := List.mem_flatMap.1 hk
  obtain ⟨i, hi, rfl⟩ := List.getElem_of_mem hu
  obtain ⟨x, hx, hs⟩ := h.2 i (by rw [← h.1]; exact hi)
  rw [List.getElem?_eq_getElem hi] at hx
  cases hx
  exact Sl.blk hs hk

theorem DMem.chg {T : TypeId} {w w' : World} {d r : Nat} {fs : List (List Ob)} {q : List Ob} {F G : List Nat} (h : DMem T w d r fs q F) (hc : Chg G w w') (hd : ∀ k ∈ F, k ∉ G) : DMem T w' d r fs q F := by
  obtain ⟨v0, v1, vs, hb, h0, h1, hs, hF, hn, hlt⟩ := h
  refine ⟨v0, v1, vs, hb.chg hc (hd _ (hF _ (by simp))), h0.chg hc (fun k hk => hd _ (hF _ ?_)), h1.chg hc (fun k hk => hd _ (hF _ ?_)), hs.chg hc (fun k hk => hd _ (hF _ ?_)), hF, hn, fun k hk => Nat.lt_of_lt_of_le (hlt k hk) hc.size⟩
  · simp only [List.mem_cons, List.mem_append]; exact .inr (.inl (own_mem.2 hk))
  · simp only [List.mem_cons, List.mem_append]; exact .inr (.inr (.inl (own_mem.2 hk)))
  · simp only [List.mem_cons, List.mem_append]; exact .inr (.inr (.inr hk))
theorem DMem.lt {T : TypeId} {w : World} {d r : Nat} {fs : List (List Ob)} {q : List Ob} {F : List Nat} (h : DMem T w d r fs q F) : ∀ k ∈ F, k < w.heap.size := by
  obtain ⟨v0, v1, vs, hb, h0, h1, hs, hF, hn, hlt⟩ := h
  exact hlt
theorem DMem.mem {T : TypeId} {w : World} {d r : Nat} {fs : List (List Ob)} {q : List Ob} {F : List Nat} (h : DMem T w d r fs q F) : d ∈ F := by
  obtain ⟨v0, v1, vs, hb, h0, h1, hs, hF, hn, hlt⟩ := h
  exact hF _ (by simp)
theorem DMem.made {T : TypeId} (w : World) (r : Nat) : DMem T (w.alloc (.cells #[.int .i64 r, .slice none 0 0, .slice none 0 0] T)) w.heap.size r [] [] [w.heap.size] :=
  ⟨_, _, [], Blk.new w T _, Sl.nil _ _ _, Sl.nil _ _ _, SS.nil _, by simp [own, Value.ownBlock], by simp [own, Value.ownBlock], fun k hk => by
    obtain rfl := List.mem_singleton.1 hk; simp⟩
/-- opened: what the parts are -/
theorem DMem.open_ {T : TypeId} {w : World} {d r : Nat} {fs : List (List Ob)} {q : List Ob} {F : List Nat} (h : DMem T w d r fs q F) :
    ∃ A0 c0 A1 c1 vs, Blk w d T #[.int .i64 r, .slice A0 fs.length c0, .slice A1 q.length c1] ∧ Sl w 22 1 (.slice A0 fs.length c0) fs.length vs ∧ SO w (.slice A1 q.length c1) q ∧ SS w vs fs ∧
    (∀ k ∈ d :: (own (.slice A0 fs.length c0) ++ (own (.slice A1 q.length c1) ++ vs.flatMap own)), k ∈ F) ∧ (own (.slice A1 q.length c1) ++ vs.flatMap own).Nodup ∧ (∀ k ∈ F, k < w.heap.size) := by
  obtain ⟨v0, v1, vs, hb, h0, h1, hs, hF, hn, hlt⟩ := h
  obtain ⟨A0, c0, rfl⟩ := h0.form
  obtain ⟨A1, c1, rfl⟩ := h1.form
  exact ⟨A0, c0, A1, c1, vs, hb, h0, h1, hs, hF, hn, hlt⟩

theorem SS.far {w : World} {vs : List Value} {fs : List (List Ob)} (h : SS w vs fs) {p : Addr} (hp : p.block ∉ vs.flatMap own) (u : Value) : SS (w.setCell p u) vs fs := by
  refine ⟨h.1, fun i hi => ?_⟩
  obtain ⟨x, hx, hs⟩ := h.2 i hi
  exact ⟨x, hx, Sl.far hs (fun e => hp (List.mem_flatMap.2 ⟨x, List.mem_of_getElem? hx, own_mem.2 e⟩)) u⟩
theorem SS.ne {w : World} {vs : List Value} {fs : List (List Ob)} (h : SS w vs fs) {p : Nat} {T : TypeId} {cs : Array Value} (hb : Blk w p T cs) (hT : T ≠ 28) : p ∉ vs.flatMap own := fun hk => by
  obtain ⟨cur, hb'⟩ := h.blk hk
  exact hb'.ne_ hb (Ne.symm hT) rfl
/-- the depot's parts are put together -/
theorem DMem.mk {T : TypeId} {w : World} {d r : Nat} {fs : List (List Ob)} {q : List Ob} {F : List Nat} {v0 v1 : Value} {vs : List Value} (hb : Blk w d T #[.int .i64 r, v0, v1]) (h0 : Sl w 22 1 v0 fs.length vs) (h1 : SO w v1 q) (hs : SS w vs fs)
    (hd : d ∈ F) (hF0 : ∀ k ∈ own v0, k ∈ F) (hF1 : ∀ k ∈ own v1, k ∈ F) (hF2 : ∀ k ∈ vs.flatMap own, k ∈ F) (hn : (own v1 ++ vs.flatMap own).Nodup) (hlt : ∀ k ∈ F, k < w.heap.size) : DMem T w d r fs q F :=
  ⟨v0, v1, vs, hb, h0, h1, hs, fun k hk => by
    rcases List.mem_cons.1 hk with rfl | hk
    · exact hd
    · rcases List.mem_append.1 hk with hk | hk
      · exact hF0 k hk
      · rcases List.mem_append.1 hk with hk | hk
        · exact hF1 k hk
        · exact hF2 k hk, hn, hlt⟩
theorem size_set (w : World) (p : Addr) (u : Value) : (w.setCell p u).heap.size = w.heap.size := by simp [World.setCell]
/-- other full magazines -/
theorem DMem.set1 {T : TypeId} (hT : T ≠ 22 ∧ T ≠ 28) {w : World} {d r : Nat} {fs : List (List Ob)} {q : List Ob} {F : List Nat} {x v0 v1 : Value} {vs : List Value} (hb : Blk w d T #[.int .i64 r, x, v1]) (h0 : Sl w 22 1 v0 fs.length vs) (h1 : SO w v1 q) (hs : SS w vs fs)
    (hd : d ∈ F) (hF0 : ∀ k ∈ own v0, k ∈ F) (hF1 : ∀ k ∈ own v1, k ∈ F) (hF2 : ∀ k ∈ vs.flatMap own, k ∈ F) (hn : (own v1 ++ vs.flatMap own).Nodup) (hlt : ∀ k ∈ F, k < w.heap.size) : DMem T (w.setCell ⟨d, 1, none⟩ v0) d r fs q F :=
  DMem.mk (by simpa using hb.set_ 1 v0) (h0.far (p := ⟨d, 1, none⟩) (blk_other h0 hb hT.1) _) (Sl.far h1 (p := ⟨d, 1, none⟩) (blk_other h1 hb hT.2) _) (hs.far (p := ⟨d, 1, none⟩) (hs.ne hb hT.2) _) hd hF0 hF1 hF2 hn (by rw [size_set]; exact hlt)
/-- another queue -/
theorem DMem.set2 {T : TypeId} (hT : T ≠ 22 ∧ T ≠ 28) {w : World} {d r : Nat} {fs : List (List Ob)} {q : List Ob} {F : List Nat} {x v0 v1 : Value} {vs : List Value} (hb : Blk w d T #[.int .i64 r, v0, x]) (h0 : Sl w 22 1 v0 fs.length vs) (h1 : SO w v1 q) (hs : SS w vs fs)
    (hd : d ∈ F) (hF0 : ∀ k ∈ own v0, k ∈ F) (hF1 : ∀ k ∈ own v1, k ∈ F) (hF2 : ∀ k ∈ vs.flatMap own, k ∈ F) (hn : (own v1 ++ vs.flatMap own).Nodup) (hlt : ∀ k ∈ F, k < w.heap.size) : DMem T (w.setCell ⟨d, 2, none⟩ v1) d r fs q F :=
  DMem.mk (by simpa using hb.set_ 2 v1) (h0.far (p := ⟨d, 2, none⟩) (blk_other h0 hb hT.1) _) (Sl.far h1 (p := ⟨d, 2, none⟩) (blk_other h1 hb hT.2) _) (hs.far (p := ⟨d, 2, none⟩) (hs.ne hb hT.2) _) hd hF0 hF1 hF2 hn (by rw [size_set]; exact hlt)

theorem DMem.parts {T : TypeId} {w : World} {d r : Nat} {fs : List (List Ob)} {q : List Ob} {F : List Nat} (h : DMem T w d r fs q F) :
    ∃ A0 c0 A1 c1 vs, Blk w d T #[.int .i64 r, .slice A0 fs.length c0, .slice A1 q.length c1] ∧ Sl w 22 1 (.slice A0 fs.length c0) fs.length vs ∧ SO w (.slice A1 q.length c1) q ∧ SS w vs fs ∧
    d ∈ F ∧ (∀ k ∈ own (.slice A0 fs.length c0), k ∈ F) ∧ (∀ k ∈ own (.slice A1 q.length c1), k ∈ F) ∧ (∀ k ∈ vs.flatMap own, k ∈ F) ∧ (own (.slice A1 q.length c1) ++ vs.flatMap own).Nodup ∧ (∀ k ∈ F, k < w.heap.size) := by
  obtain ⟨A0, c0, A1, c1, vs, hb, h0, h1, hs, hF, hn, hlt⟩ := h.open_
  exact ⟨A0, c0, A1, c1, vs, hb, h0, h1, hs, hF _ (by simp), fun k hk => hF _ (by simp only [List.mem_cons, List.mem_append]; exact .inr (.inl hk)), fun k hk => hF _ (by simp only [List.mem_cons, List.mem_append]; exact .inr (.inr (.inl hk))), fun k hk => hF _ (by simp only [List.mem_cons, List.mem_append]; exact .inr (.inr (.inr hk))), hn, hlt⟩
/-- a block of objects is none of full magazines -/
theorem no28 {w : World} {A : Option Addr} {n c m : Nat} {vs : List Value} (h0 : Sl w 22 1 (.slice A n c) m vs) : ∀ k, (∃ cur, Blk w k 28 cur) → k ∉ own (Value.slice A n c) := fun k ⟨cur, hk⟩ h => by
  obtain ⟨cur', hk'⟩ := Sl.blk h0 h
  exact hk.ne_ hk' (by decide) rfl

/-- append, of slices of objects -/
theorem info22 : (Try.prog.info? 22).map (fun i => (i.zero, i.size, i.bytes)) = some (some (.slice none 0 0), 1, 24) := by kernel_rfl
theorem run_append_ss {w : World} {v y : Value} {n m : Nat} {vs us : List Value} (hv : Sl w 22 1 v n vs) (hy : Rd w 1 y m us) (h1 : ∀ u ∈ us, u.oneCell' = true) (hlen : n + m ≤ 1000000) (ty : TypeId) :
    ∃ A c w', (Builtin.append_ #[65, 65] ty #[v, y]).run Try.prog w = .ok (.slice A (n + m) c) w' ∧ Sl w' 22 1 (.slice A (n + m) c) (n + m) (vs ++ us) ∧ Chg (own v) w w' ∧
      ((Value.slice A (n + m) c).ownBlock = v.ownBlock ∨ (Value.slice A (n + m) c).ownBlock = some w.heap.size) := by
  obtain ⟨i22, hi, hz, hi1, hi2⟩ := info_parts info22
  obtain ⟨v', w', h1, h2, h3, h4⟩ := run_append_sl (ty := ty) Try.underlying65 hi hz hi1 hi2 rfl hv hy h1 (by unfold maxLen; omega) (by omega)
  obtain ⟨A, c, rfl⟩ := Sl.form h2
  exact ⟨A, c, w', h1, h2, h3, h4⟩
theorem SO.one' {w : World} {u : Value} {l : List Ob} (h : SO w u l) : u.oneCell' = true := by
  obtain ⟨A, c, rfl⟩ := h.form
  rfl
theorem SS.one' {w : World} {vs : List Value} {fs : List (List Ob)} (h : SS w vs fs) : ∀ u ∈ vs, u.oneCell' = true := fun u hu => by
  obtain ⟨i, hi, rfl⟩ := List.getElem_of_mem hu
  obtain ⟨x, hx, hs⟩ := h.2 i (by rw [← h.1]; exact hi)
  rw [List.getElem?_eq_getElem hi] at hx
  cases hx
  exact hs.one'
end Go.Proofs.Ytbmdcfeiecmlpaa
