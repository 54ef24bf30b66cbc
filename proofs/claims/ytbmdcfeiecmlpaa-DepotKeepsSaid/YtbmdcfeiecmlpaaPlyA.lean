import Derived.Test.YtbmdcfeiecmlpaaRefH
import Derived.Test.YtbmdcfeiecmlpaaMemB
namespace Go.Proofs.Ytbmdcfeiecmlpaa
open Go Go.RowKit

/-- the blocks of N are as they were -/
def Keep (N : List Nat) (W W' : World) : Prop := ∀ k ∈ N, W'.heap[k]? = W.heap[k]?
theorem Keep.refl (N : List Nat) (W : World) : Keep N W W := fun _ _ => rfl
theorem Keep.trans {N : List Nat} {A B C : World} (h : Keep N A B) (k : Keep N B C) : Keep N A C := fun i hi => (k i hi).trans (h i hi)
theorem Keep.sub {M N : List Nat} {A B : World} (h : Keep N A B) (hs : ∀ k ∈ M, k ∈ N) : Keep M A B := fun i hi => h i (hs i hi)
theorem Keep.blk {N : List Nat} {W W' : World} {g : Nat} {t : TypeId} {cs : Array Value} (h : Keep N W W') (hb : Blk W g t cs) (hg : g ∈ N) : Blk W' g t cs := (h g hg).trans hb
theorem Keep.so {N : List Nat} {W W' : World} {v : Value} {l : List Ob} (h : Keep N W W') (hb : SO W v l) (hg : ∀ k, v.ownBlock = some k → k ∈ N) : SO W' v l := Sl.keep hb fun k hk => h k (hg k hk)

/-- both pairs that a call has made: the program's and the document's, apart from one another and from the blocks of N; all of them are new -/
def PSt (w W : World) (p z r : Nat) (s t : List Ob) (N : List Nat) : Prop :=
  ∃ F G, PStk W p r s F ∧ RStk W z r t G ∧ (∀ k ∈ F, k ∉ G) ∧ (∀ k ∈ F, w.heap.size ≤ k) ∧ (∀ k ∈ G, w.heap.size ≤ k) ∧ Chg [] w W ∧ (∀ k ∈ N, w.heap.size ≤ k ∧ k < W.heap.size ∧ k ∉ F ∧ k ∉ G)
section
variable {w W W' : World} {p z r : Nat} {s t : List Ob} {N : List Nat}
theorem PSt.below (h : PSt w W p z r s t N) : Chg [] w W := by
  obtain ⟨F, G, hp, hz, hd, hF, hG, hc, hN⟩ := h
  exact hc
theorem PSt.cells (h : PSt w W p z r s t N) : W.cell? ⟨p, 0, none⟩ = some (.int .i64 r) ∧ W.cell? ⟨z, 0, none⟩ = some (.int .i64 r) := by
  obtain ⟨F, G, hp, hz, hd, hF, hG, hc, hN⟩ := h
  exact ⟨hp.cell0, hz.cell0⟩
theorem PSt.lens (h : PSt w W p z r s t N) : s.length ≤ 2 * r ∧ t.length ≤ 2 * r ∧ 1 ≤ r ∧ r ≤ 32 := by
  obtain ⟨F, G, hp, hz, hd, hF, hG, hc, hN⟩ := h
  exact ⟨hp.len.1, hz.len.1, hp.len.2.1, hp.len.2.2⟩
theorem PSt.lt (h : PSt w W p z r s t N) : ∀ k ∈ N, w.heap.size ≤ k ∧ k < W.heap.size := by
  obtain ⟨F, G, hp, hz, hd, hF, hG, hc, hN⟩ := h
  exact fun k hk => ⟨(hN k hk).1, (hN k hk).2.1⟩
/-- new blocks come beside -/
theorem PSt.more (h : PSt w W p z r s t N) (hc : Chg [] W W') (M : List Nat) (hM : ∀ k ∈ M, W.heap.size ≤ k ∧ k < W'.heap.size) : PSt w W' p z r s t (M ++ N) := by
  obtain ⟨F, G, hp, hz, hd, hF, hG, hc0, hN⟩ := h
  refine ⟨F, G, hp.chg hc (by simp), hz.chg hc (by simp), hd, hF, hG, hc0.trans hc (fun _ h => by cases h), fun k hk => ?_⟩
  rcases List.mem_append.1 hk with hk | hk
  · obtain ⟨h1, h2⟩ := hM k hk
    exact ⟨Nat.le_trans hc0.size h1, h2, fun h => by have := hp.lt k h; omega, fun h => by have := hz.lt k h; omega⟩
  · obtain ⟨h1, h2, h3⟩ := hN k hk
    exact ⟨h1, Nat.lt_of_lt_of_le h2 hc.size, h3⟩
theorem PSt.chg (h : PSt w W p z r s t N) (hc : Chg [] W W') : PSt w W' p z r s t N := h.more hc [] (fun _ h => by cases h)
theorem PSt.less {M : List Nat} (h : PSt w W p z r s t N) (hs : ∀ k ∈ M, k ∈ N) : PSt w W p z r s t M := by
  obtain ⟨F, G, hp, hz, hd, hF, hG, hc0, hN⟩ := h
  exact ⟨F, G, hp, hz, hd, hF, hG, hc0, fun k hk => hN k (hs k hk)⟩
/-- a block of N is written over -/
theorem PSt.over {g : Nat} (h : PSt w W p z r s t N) (hc : Chg [g] W W') (hg : g ∈ N) : PSt w W' p z r s t N := by
  obtain ⟨F, G, hp, hz, hd, hF, hG, hc0, hN⟩ := h
  obtain ⟨g1, g2, g3, g4⟩ := hN g hg
  exact ⟨F, G, hp.chg hc (fun k hk e => by obtain rfl := List.mem_singleton.1 e; exact g3 hk), hz.chg hc (fun k hk e => by obtain rfl := List.mem_singleton.1 e; exact g4 hk), hd, hF, hG,
    hc0.trans hc (fun k hk => .inr (by obtain rfl := List.mem_singleton.1 hk; exact g1)), fun k hk => ⟨(hN k hk).1, Nat.lt_of_lt_of_le (hN k hk).2.1 hc.size, (hN k hk).2.2⟩⟩
theorem keep_chg {F : List Nat} (hc : Chg F W W') (hN : ∀ k ∈ N, k < W.heap.size ∧ k ∉ F) : Keep N W W' := fun k hk => hc.block k (hN k hk).1 (hN k hk).2
theorem pst_p {F G F' : List Nat} {s' : List Ob} (hz : RStk W z r t G) (hd : ∀ k ∈ F, k ∉ G) (hF : ∀ k ∈ F, w.heap.size ≤ k) (hG : ∀ k ∈ G, w.heap.size ≤ k) (hc0 : Chg [] w W) (hN : ∀ k ∈ N, w.heap.size ≤ k ∧ k < W.heap.size ∧ k ∉ F ∧ k ∉ G)
    (hp' : PStk W' p r s' F') (hS : Step F F' W) (hc : Chg F W W') : PSt w W' p z r s' t N ∧ Keep N W W' := by
  refine ⟨⟨F', G, hp', hz.chg hc (fun k hk h => hd k h hk), fun k hk h => ?_, fun k hk => ?_, hG, hc0.trans hc (fun k hk => .inr (hF k hk)), fun k hk => ?_⟩, keep_chg hc fun k hk => ⟨(hN k hk).2.1, (hN k hk).2.2.1⟩⟩
  · rcases hS k hk with h' | h'
    · exact hd k h' h
    · have := hz.lt k h; omega
  · rcases hS k hk with h' | h'
    · exact hF k h'
    · exact Nat.le_trans hc0.size h'
  · obtain ⟨h1, h2, h3, h4⟩ := hN k hk
    exact ⟨h1, Nat.lt_of_lt_of_le h2 hc.size, fun h => by
      rcases hS k h with h' | h'
      · exact h3 h'
      · omega, h4⟩
theorem pst_z {F G G' : List Nat} {t' : List Ob} (hp : PStk W p r s F) (hd : ∀ k ∈ F, k ∉ G) (hF : ∀ k ∈ F, w.heap.size ≤ k) (hG : ∀ k ∈ G, w.heap.size ≤ k) (hc0 : Chg [] w W) (hN : ∀ k ∈ N, w.heap.size ≤ k ∧ k < W.heap.size ∧ k ∉ F ∧ k ∉ G)
    (hz' : RStk W' z r t' G') (hS : Step G G' W) (hc : Chg G W W') : PSt w W' p z r s t' N ∧ Keep N W W' := by
  refine ⟨⟨F, G', hp.chg hc hd, hz', fun k hk h => ?_, hF, fun k hk => ?_, hc0.trans hc (fun k hk => .inr (hG k hk)), fun k hk => ?_⟩, keep_chg hc fun k hk => ⟨(hN k hk).2.1, (hN k hk).2.2.2⟩⟩
  · rcases hS k h with h' | h'
    · exact hd k hk h'
    · have := hp.lt k hk; omega
  · rcases hS k hk with h' | h'
    · exact hG k h'
    · exact Nat.le_trans hc0.size h'
  · obtain ⟨h1, h2, h3, h4⟩ := hN k hk
    exact ⟨h1, Nat.lt_of_lt_of_le h2 hc.size, h3, fun h => by
      rcases hS k h with h' | h'
      · exact h4 h'
      · omega⟩
theorem Step.refl (F : List Nat) (w : World) : Step F F w := fun _ hk => .inl hk

/-- the list behind a Put, and the answer -/
def putS (r : Nat) (s : List Ob) (o : Ob) : List Ob := if s.length < 2 * r then s ++ [o] else s
theorem pp_put (h : PSt w W p z r s t N) (x y : Int) : Calls Try.prog 24 #[.pointer (some ⟨p, 0, none⟩), .agg #[.int .i64 x, .int .i64 y]] W fun e w' => e = .returned (.bool (decide (s.length < 2 * r))) ∧ PSt w w' p z r (putS r s (x, y)) t N ∧ Keep N W w' := by
  obtain ⟨F, G, hp, hz, hd, hF, hG, hc0, hN⟩ := h
  by_cases hl : s.length < 2 * r
  · refine (stk_put hp x y hl).mono ?_
    rintro e w' ⟨rfl, ⟨F', hp', hS⟩, hc⟩
    unfold putS
    rw [if_pos hl]
    exact ⟨by simp [hl], pst_p hz hd hF hG hc0 hN hp' hS hc⟩
  · refine (stk_put_no hp x y (by omega)).mono ?_
    rintro e w' ⟨rfl, hp', hc⟩
    unfold putS
    rw [if_neg hl]
    exact ⟨by simp [hl], pst_p hz hd hF hG hc0 hN hp' (Step.refl _ _) hc⟩
theorem rp_put (h : PSt w W p z r s t N) (x y : Int) : Calls Try.prog 29 #[.pointer (some ⟨z, 0, none⟩), .agg #[.int .i64 x, .int .i64 y]] W fun e w' => e = .returned (.bool (decide (t.length < 2 * r))) ∧ PSt w w' p z r s (putS r t (x, y)) N ∧ Keep N W w' := by
  obtain ⟨F, G, hp, hz, hd, hF, hG, hc0, hN⟩ := h
  by_cases hl : t.length < 2 * r
  · refine (rstk_put hz x y hl).mono ?_
    rintro e w' ⟨rfl, ⟨F', hz', hS⟩, hc⟩
    unfold putS
    rw [if_pos hl]
    exact ⟨by simp [hl], pst_z hp hd hF hG hc0 hN hz' hS hc⟩
  · refine (rstk_put_no hz x y (by omega)).mono ?_
    rintro e w' ⟨rfl, hz', hc⟩
    unfold putS
    rw [if_neg hl]
    exact ⟨by simp [hl], pst_z hp hd hF hG hc0 hN hz' (Step.refl _ _) hc⟩

/-- what Get answers -/
def getO (s : List Ob) : Ob := s.getLast?.getD (0, 0)
def getB (s : List Ob) : Bool := !s.isEmpty
theorem pp_get (h : PSt w W p z r s t N) : Calls Try.prog 25 #[.pointer (some ⟨p, 0, none⟩)] W fun e w' => e = .returned (.tuple #[.agg #[.int .i64 (getO s).1, .int .i64 (getO s).2], .bool (getB s)]) ∧ PSt w w' p z r s.dropLast t N ∧ Keep N W w' := by
  obtain ⟨F, G, hp, hz, hd, hF, hG, hc0, hN⟩ := h
  rcases List.eq_nil_or_concat s with rfl | ⟨s', ⟨x, y⟩, rfl⟩
  · refine (stk_get_no hp).mono ?_
    rintro e w' ⟨rfl, hp', hc⟩
    exact ⟨rfl, pst_p hz hd hF hG hc0 hN hp' (Step.refl _ _) hc⟩
  · refine (stk_get (by simpa using hp)).mono ?_
    rintro e w' ⟨rfl, hp', hc⟩
    exact ⟨by simp [getO, getB], by simpa using pst_p hz hd hF hG hc0 hN hp' (Step.refl _ _) hc⟩
theorem rp_get (h : PSt w W p z r s t N) : Calls Try.prog 30 #[.pointer (some ⟨z, 0, none⟩)] W fun e w' => e = .returned (.tuple #[.agg #[.int .i64 (getO t).1, .int .i64 (getO t).2], .bool (getB t)]) ∧ PSt w w' p z r s t.dropLast N ∧ Keep N W w' := by
  obtain ⟨F, G, hp, hz, hd, hF, hG, hc0, hN⟩ := h
  rcases List.eq_nil_or_concat t with rfl | ⟨s', ⟨x, y⟩, rfl⟩
  · refine (rstk_get_no hz).mono ?_
    rintro e w' ⟨rfl, hz', hc⟩
    exact ⟨rfl, pst_z hp hd hF hG hc0 hN hz' (Step.refl _ _) hc⟩
  · refine (rstk_get (by simpa using hz)).mono ?_
    rintro e w' ⟨rfl, hz', hc⟩
    exact ⟨by simp [getO, getB], by simpa using pst_z hp hd hF hG hc0 hN hz' (Step.refl _ _) hc⟩
theorem pp_load (h : PSt w W p z r s t N) {v : Value} {l : List Ob} (hl : RO W v l) (hlen : l.length ≤ 1000) : Calls Try.prog 31 #[.pointer (some ⟨p, 0, none⟩), v] W fun e w' => e = .returned (.int .i64 (loadE r s l)) ∧ PSt w w' p z r (if loadE r s l = 0 then l else s) t N ∧ Keep N W w' := by
  obtain ⟨F, G, hp, hz, hd, hF, hG, hc0, hN⟩ := h
  refine (stk_load hp hl hlen).mono ?_
  rintro e w' ⟨rfl, ⟨F', hp', hS⟩, hc⟩
  exact ⟨rfl, pst_p hz hd hF hG hc0 hN hp' hS hc⟩
theorem rp_load (h : PSt w W p z r s t N) {v : Value} {l : List Ob} (hl : RO W v l) : Calls Try.prog 32 #[.pointer (some ⟨z, 0, none⟩), v] W fun e w' => e = .returned (.int .i64 (loadE r t l)) ∧ PSt w w' p z r s (if loadE r t l = 0 then l else t) N ∧ Keep N W w' := by
  obtain ⟨F, G, hp, hz, hd, hF, hG, hc0, hN⟩ := h
  refine (rstk_load hz hl).mono ?_
  rintro e w' ⟨rfl, ⟨F', hz', hS⟩, hc⟩
  exact ⟨rfl, pst_z hp hd hF hG hc0 hN hz' hS hc⟩
theorem pp_unload (h : PSt w W p z r s t N) (hf : s.length = 2 * r) : Calls Try.prog 33 #[.pointer (some ⟨p, 0, none⟩)] W fun e w' => (∃ A c, e = .returned (.tuple #[.slice A r c, .int .i64 0]) ∧ SO w' (.slice A r c) (s.take r) ∧
    PSt w w' p z r (s.drop r) t ((Value.slice A r c).ownBlock.toList ++ N)) ∧ Keep N W w' := by
  obtain ⟨F, G, hp, hz, hd, hF, hG, hc0, hN⟩ := h
  refine (stk_unload hp hf).mono ?_
  rintro e w' ⟨⟨A, c, rfl, hs, ho, hp'⟩, hc⟩
  obtain ⟨⟨F', G', hp2, hz2, hd2, hF2, hG2, hc2, hN2⟩, hk⟩ := pst_p (F' := F.filter fun k => (Value.slice A r c).ownBlock != some k) hz hd hF hG hc0 hN hp' (fun k hk => .inl (List.mem_filter.1 hk).1) hc
  refine ⟨⟨A, c, rfl, hs, F.filter fun k => (Value.slice A r c).ownBlock != some k, G, hp', hz.chg hc (fun k hk h => hd k h hk), fun k hk h => hd k (List.mem_filter.1 hk).1 h, fun k hk => hF k (List.mem_filter.1 hk).1, hG, hc2, fun k hk => ?_⟩, hk⟩
  rcases List.mem_append.1 hk with hk | hk
  · have e : (Value.slice A r c).ownBlock = some k := by simpa using hk
    obtain ⟨h1, h2⟩ := ho k e
    refine ⟨hF k h1, Sl.lt hs k e, fun h => ?_, hd k h1⟩
    have := (List.mem_filter.1 h).2
    rw [e] at this
    simp at this
  · obtain ⟨h1, h2, h3, h4⟩ := hN k hk
    exact ⟨h1, Nat.lt_of_lt_of_le h2 hc.size, fun h => h3 (List.mem_filter.1 h).1, h4⟩
theorem pp_unload_no (h : PSt w W p z r s t N) (hf : s.length < 2 * r) : Calls Try.prog 33 #[.pointer (some ⟨p, 0, none⟩)] W fun e w' => e = .returned (.tuple #[.slice none 0 0, .int .i64 80]) ∧ W = w' := by
  obtain ⟨F, G, hp, hz, hd, hF, hG, hc0, hN⟩ := h
  exact stk_unload_no hp hf
theorem rp_unload (h : PSt w W p z r s t N) (hf : t.length = 2 * r) : Calls Try.prog 34 #[.pointer (some ⟨z, 0, none⟩)] W fun e w' => (∃ A c, e = .returned (.tuple #[.slice A r c, .int .i64 0]) ∧ RO w' (.slice A r c) (t.take r) ∧
    PSt w w' p z r s (t.drop r) N) ∧ Keep N W w' := by
  obtain ⟨F, G, hp, hz, hd, hF, hG, hc0, hN⟩ := h
  refine (rstk_unload hz hf).mono ?_
  rintro e w' ⟨⟨A, c, rfl, hs, ho, hz'⟩, hc⟩
  obtain ⟨h1, h2⟩ := pst_z (G' := G.filter fun k => (Value.slice A r c).ownBlock != some k) hp hd hF hG hc0 hN hz' (fun k hk => .inl (List.mem_filter.1 hk).1) hc
  have e1 : (t.take r).length = r := by rw [List.length_take]; omega
  exact ⟨⟨A, c, rfl, hs.ro, h1⟩, h2⟩
theorem rp_unload_no (h : PSt w W p z r s t N) (hf : t.length < 2 * r) : Calls Try.prog 34 #[.pointer (some ⟨z, 0, none⟩)] W fun e w' => e = .returned (.tuple #[.slice none 0 0, .int .i64 80]) ∧ PSt w w' p z r s t N ∧ Keep N W w' := by
  have h' := h
  obtain ⟨F, G, hp, hz, hd, hF, hG, hc0, hN⟩ := h
  refine (rstk_unload_no hz hf).mono ?_
  rintro e w' ⟨rfl, hc⟩
  exact ⟨rfl, h'.chg hc, keep_chg hc fun k hk => ⟨(hN k hk).2.1, by simp⟩⟩
theorem pp_all (h : PSt w W p z r s t N) : Calls Try.prog 35 #[.pointer (some ⟨p, 0, none⟩)] W fun e w' => (∃ A c, e = .returned (.slice A s.length c) ∧ SO w' (.slice A s.length c) s ∧ PSt w w' p z r s t ((Value.slice A s.length c).ownBlock.toList ++ N)) ∧ Keep N W w' := by
  have h' := h
  obtain ⟨F, G, hp, hz, hd, hF, hG, hc0, hN⟩ := h
  refine (stk_all hp).mono ?_
  rintro e w' ⟨⟨A, c, rfl, hs, ho⟩, hc⟩
  exact ⟨⟨A, c, rfl, hs, h'.more hc _ fun k hk => ⟨ho k (by simpa using hk), Sl.lt hs k (by simpa using hk)⟩⟩, keep_chg hc fun k hk => ⟨(hN k hk).2.1, by simp⟩⟩
theorem rp_all (h : PSt w W p z r s t N) : Calls Try.prog 36 #[.pointer (some ⟨z, 0, none⟩)] W fun e w' => (∃ A c, e = .returned (.slice A t.length c) ∧ RO w' (.slice A t.length c) t ∧ PSt w w' p z r s t N) ∧ Keep N W w' := by
  have h' := h
  obtain ⟨F, G, hp, hz, hd, hF, hG, hc0, hN⟩ := h
  obtain ⟨a, b, hm, rfl, h1, h2, h3, h4⟩ := hz
  refine (rall_at hm (by omega) (by rcases h2 with rfl | h2; simp; omega)).mono ?_
  rintro e w' ⟨⟨A, c, rfl, hs, ho⟩, hc⟩
  exact ⟨⟨A, c, rfl, hs.ro, h'.chg hc⟩, keep_chg hc fun k hk => ⟨(hN k hk).2.1, by simp⟩⟩
theorem pp_len (h : PSt w W p z r s t N) : Calls Try.prog 26 #[.pointer (some ⟨p, 0, none⟩)] W fun e w' => e = .returned (.int .i64 s.length) ∧ PSt w w' p z r s t N ∧ Keep N W w' := by
  have h' := h
  obtain ⟨F, G, hp, hz, hd, hF, hG, hc0, hN⟩ := h
  refine (stk_len hp).mono ?_
  rintro e w' ⟨rfl, hc⟩
  exact ⟨rfl, h'.chg hc, keep_chg hc fun k hk => ⟨(hN k hk).2.1, by simp⟩⟩
end
theorem pst_new (x : Int) (w : World) : Calls Try.prog 23 #[.int .i64 x] w fun e w' => ∃ p, e = .returned (.pointer (some ⟨p, 0, none⟩)) ∧ w.heap.size ≤ p ∧ PStk w' p (clamp x) [] [p] ∧ Chg [] w w' :=
  (stk_new x w).mono fun _ _ ⟨h1, h2, h3⟩ => ⟨_, h1, Nat.le_refl _, h2, h3⟩
theorem pst_new2 (x : Int) {w W : World} {p : Nat} (hp : PStk W p (clamp x) [] [p]) (hw : w.heap.size ≤ p) (hc : Chg [] w W) : Calls Try.prog 28 #[.int .i64 x] W fun e w' => ∃ z, e = .returned (.pointer (some ⟨z, 0, none⟩)) ∧ PSt w w' p z (clamp x) [] [] [] := by
  refine (rnew_any x W).mono ?_
  rintro e w' ⟨rfl, hz, hc'⟩
  refine ⟨_, rfl, [p], [W.heap.size], hp.chg hc' (by simp), hz, fun k hk h => ?_, fun k hk => ?_, fun k hk => ?_, hc.trans hc' (fun _ h => by cases h), fun k hk => by cases hk⟩
  · obtain rfl := List.mem_singleton.1 hk
    obtain rfl := List.mem_singleton.1 h
    have := hp.lt _ hp.mem
    omega
  · obtain rfl := List.mem_singleton.1 hk; exact hw
  · obtain rfl := List.mem_singleton.1 hk; exact hc.size
end Go.Proofs.Ytbmdcfeiecmlpaa
