import Derived.Test.YtbmdcfeiecmlpaaRdpC
import Derived.Test.YtbmdcfeiecmlpaaPlyO
import Derived.Test.YtbmdcfeiecmlpaaDepF
namespace Go.Proofs.Ytbmdcfeiecmlpaa
open Go Go.RowKit

/-- both depots that a call has made: the program's and the document's, apart from one another and from the blocks of N; all are new -/
def QSt (w W : World) (d z r : Nat) (fs : List (List Ob)) (q : List Ob) (gs : List (List Ob)) (p : List Ob) (N : List Nat) : Prop :=
  ∃ F G, DMem 73 W d r fs q F ∧ DMem 67 W z r gs p G ∧ (∀ k ∈ F, k ∉ G) ∧ (∀ k ∈ F, w.heap.size ≤ k) ∧ (∀ k ∈ G, w.heap.size ≤ k) ∧ Chg [] w W ∧ (∀ k ∈ N, w.heap.size ≤ k ∧ k < W.heap.size ∧ k ∉ F ∧ k ∉ G)
section
variable {w W W' : World} {d z r : Nat} {fs gs fs' gs' : List (List Ob)} {q p q' p' : List Ob} {N : List Nat}
theorem QSt.below (h : QSt w W d z r fs q gs p N) : Chg [] w W := by
  obtain ⟨F, G, hd, hz, hx, hF, hG, hc, hN⟩ := h
  exact hc
theorem QSt.cells (h : QSt w W d z r fs q gs p N) : W.cell? ⟨d, 0, none⟩ = some (.int .i64 r) ∧ (∃ A c, W.cell? ⟨d, 1, none⟩ = some (.slice A fs.length c)) ∧ (∃ A c, W.cell? ⟨d, 2, none⟩ = some (.slice A q.length c)) ∧
    W.cell? ⟨z, 0, none⟩ = some (.int .i64 r) ∧ (∃ A c, W.cell? ⟨z, 1, none⟩ = some (.slice A gs.length c)) ∧ (∃ A c, W.cell? ⟨z, 2, none⟩ = some (.slice A p.length c)) := by
  obtain ⟨F, G, hd, hz, hx, hF, hG, hc, hN⟩ := h
  obtain ⟨A0, c0, A1, c1, vs, hb, _⟩ := hd.parts
  obtain ⟨B0, e0, B1, e1, us, hb', _⟩ := hz.parts
  have x0 := hb.cell 0
  have x1 := hb.cell 1
  have x2 := hb.cell 2
  have y0 := hb'.cell 0
  have y1 := hb'.cell 1
  have y2 := hb'.cell 2
  simp at x0 x1 x2 y0 y1 y2
  exact ⟨x0, ⟨_, _, x1⟩, ⟨_, _, x2⟩, y0, ⟨_, _, y1⟩, ⟨_, _, y2⟩⟩
theorem QSt.more (h : QSt w W d z r fs q gs p N) (hc : Chg [] W W') (M : List Nat) (hM : ∀ k ∈ M, W.heap.size ≤ k ∧ k < W'.heap.size) : QSt w W' d z r fs q gs p (M ++ N) := by
  obtain ⟨F, G, hd, hz, hx, hF, hG, hc0, hN⟩ := h
  refine ⟨F, G, hd.chg hc (by simp), hz.chg hc (by simp), hx, hF, hG, hc0.trans hc (fun _ h => by cases h), fun k hk => ?_⟩
  rcases List.mem_append.1 hk with hk | hk
  · obtain ⟨h1, h2⟩ := hM k hk
    exact ⟨Nat.le_trans hc0.size h1, h2, fun h => by have := hd.lt k h; omega, fun h => by have := hz.lt k h; omega⟩
  · obtain ⟨h1, h2, h3⟩ := hN k hk
    exact ⟨h1, Nat.lt_of_lt_of_le h2 hc.size, h3⟩
theorem QSt.chg (h : QSt w W d z r fs q gs p N) (hc : Chg [] W W') : QSt w W' d z r fs q gs p N := h.more hc [] (fun _ h => by cases h)
theorem QSt.less {M : List Nat} (h : QSt w W d z r fs q gs p N) (hs : ∀ k ∈ M, k ∈ N) : QSt w W d z r fs q gs p M := by
  obtain ⟨F, G, hd, hz, hx, hF, hG, hc0, hN⟩ := h
  exact ⟨F, G, hd, hz, hx, hF, hG, hc0, fun k hk => hN k (hs k hk)⟩
theorem QSt.over {g : Nat} (h : QSt w W d z r fs q gs p N) (hc : Chg [g] W W') (hg : g ∈ N) : QSt w W' d z r fs q gs p N := by
  obtain ⟨F, G, hd, hz, hx, hF, hG, hc0, hN⟩ := h
  obtain ⟨g1, g2, g3, g4⟩ := hN g hg
  exact ⟨F, G, hd.chg hc (fun k hk e => by obtain rfl := List.mem_singleton.1 e; exact g3 hk), hz.chg hc (fun k hk e => by obtain rfl := List.mem_singleton.1 e; exact g4 hk), hx, hF, hG,
    hc0.trans hc (fun k hk => .inr (by obtain rfl := List.mem_singleton.1 hk; exact g1)), fun k hk => ⟨(hN k hk).1, Nat.lt_of_lt_of_le (hN k hk).2.1 hc.size, (hN k hk).2.2⟩⟩
theorem qst_d {F G F' : List Nat} (hz : DMem 67 W z r gs p G) (hx : ∀ k ∈ F, k ∉ G) (hF : ∀ k ∈ F, w.heap.size ≤ k) (hG : ∀ k ∈ G, w.heap.size ≤ k) (hc0 : Chg [] w W) (hN : ∀ k ∈ N, w.heap.size ≤ k ∧ k < W.heap.size ∧ k ∉ F ∧ k ∉ G)
    (hd' : DMem 73 W' d r fs' q' F') (hS : Step F F' W) (hc : Chg F W W') : QSt w W' d z r fs' q' gs p N ∧ Keep N W W' := by
  refine ⟨⟨F', G, hd', hz.chg hc (fun k hk h => hx k h hk), fun k hk h => ?_, fun k hk => ?_, hG, hc0.trans hc (fun k hk => .inr (hF k hk)), fun k hk => ?_⟩, keep_chg hc fun k hk => ⟨(hN k hk).2.1, (hN k hk).2.2.1⟩⟩
  · rcases hS k hk with h' | h'
    · exact hx k h' h
    · have := hz.lt k h; omega
  · rcases hS k hk with h' | h'
    · exact hF k h'
    · exact Nat.le_trans hc0.size h'
  · obtain ⟨h1, h2, h3, h4⟩ := hN k hk
    exact ⟨h1, Nat.lt_of_lt_of_le h2 hc.size, fun h => by
      rcases hS k h with h' | h'
      · exact h3 h'
      · omega, h4⟩
theorem qst_z {F G G' : List Nat} (hd : DMem 73 W d r fs q F) (hx : ∀ k ∈ F, k ∉ G) (hF : ∀ k ∈ F, w.heap.size ≤ k) (hG : ∀ k ∈ G, w.heap.size ≤ k) (hc0 : Chg [] w W) (hN : ∀ k ∈ N, w.heap.size ≤ k ∧ k < W.heap.size ∧ k ∉ F ∧ k ∉ G)
    (hz' : DMem 67 W' z r gs' p' G') (hS : Step G G' W) (hc : Chg G W W') : QSt w W' d z r fs q gs' p' N ∧ Keep N W W' := by
  refine ⟨⟨F, G', hd.chg hc hx, hz', fun k hk h => ?_, hF, fun k hk => ?_, hc0.trans hc (fun k hk => .inr (hG k hk)), fun k hk => ?_⟩, keep_chg hc fun k hk => ⟨(hN k hk).2.1, (hN k hk).2.2.2⟩⟩
  · rcases hS k h with h' | h'
    · exact hx k hk h'
    · have := hd.lt k hk; omega
  · rcases hS k hk with h' | h'
    · exact hG k h'
    · exact Nat.le_trans hc0.size h'
  · obtain ⟨h1, h2, h3, h4⟩ := hN k hk
    exact ⟨h1, Nat.lt_of_lt_of_le h2 hc.size, h3, fun h => by
      rcases hS k h with h' | h'
      · exact h4 h'
      · omega⟩
/-- the full magazines behind a Put -/
def putF (r : Nat) (fs : List (List Ob)) (l : List Ob) : List (List Ob) := if l.length = r ∧ fs.length < 64 then fs ++ [l] else fs
theorem qd_put (h : QSt w W d z r fs q gs p N) (hr : 1 ≤ r) (hr2 : r ≤ 1000) {v : Value} {l : List Ob} (hl : RO W v l) (hll : l.length ≤ 1000) (hf : fs.length ≤ 1000) : Calls Try.prog 16 #[.pointer (some ⟨d, 0, none⟩), v] W fun e w' => e = .returned (.int .i64 (dputE r fs.length l)) ∧ QSt w w' d z r (putF r fs l) q gs p N ∧ Keep N W w' := by
  have h' := h
  obtain ⟨F, G, hd, hz, hx, hF, hG, hc0, hN⟩ := h
  by_cases hc : l.length = r ∧ fs.length < 64
  · refine (dput_yes hr hd hl hc.1 hr2 hc.2).mono ?_
    rintro e w' ⟨rfl, ⟨F', hd', hS⟩, hch⟩
    have e0 : dputE r fs.length l = 0 := by unfold dputE; rw [if_neg (by omega), if_neg (by omega)]
    unfold putF
    rw [e0, if_pos hc]
    exact ⟨rfl, qst_d hz hx hF hG hc0 hN hd' hS hch⟩
  · obtain ⟨A, c, rfl⟩ := hl.form
    refine (dput_no hr hd A l.length c (by omega) (by omega) (by omega)).mono ?_
    rintro e w' ⟨rfl, rfl⟩
    have e0 : dputE r fs.length l = if l.length ≠ r then 2 else 9 := by unfold dputE; split <;> (try split) <;> first | rfl | omega
    unfold putF
    rw [e0, if_neg hc]
    exact ⟨rfl, h', Keep.refl _ _⟩
theorem qz_put (h : QSt w W d z r fs q gs p N) (hr2 : r ≤ 1000) {v : Value} {l : List Ob} (hl : RO W v l) (hll : l.length ≤ 1000) (hf : gs.length ≤ 1000) : Calls Try.prog 40 #[.pointer (some ⟨z, 0, none⟩), v] W fun e w' => e = .returned (.int .i64 (dputE r gs.length l)) ∧ QSt w w' d z r fs q (putF r gs l) p N ∧ Keep N W w' := by
  have h' := h
  obtain ⟨F, G, hd, hz, hx, hF, hG, hc0, hN⟩ := h
  by_cases hc : l.length = r ∧ gs.length < 64
  · refine (rdput_yes hz hl hc.1 hr2 hc.2).mono ?_
    rintro e w' ⟨rfl, ⟨F', hz', hS⟩, hch⟩
    have e0 : dputE r gs.length l = 0 := by unfold dputE; rw [if_neg (by omega), if_neg (by omega)]
    unfold putF
    rw [e0, if_pos hc]
    exact ⟨rfl, qst_z hd hx hF hG hc0 hN hz' hS hch⟩
  · obtain ⟨A, c, rfl⟩ := hl.form
    refine (rdput_no hz A l.length c (by omega) (by omega) (by omega)).mono ?_
    rintro e w' ⟨rfl, rfl⟩
    have e0 : dputE r gs.length l = if l.length ≠ r then 2 else 9 := by unfold dputE; split <;> (try split) <;> first | rfl | omega
    unfold putF
    rw [e0, if_neg hc]
    exact ⟨rfl, h', Keep.refl _ _⟩
theorem qd_get {m : List Ob} (h : QSt w W d z r (fs ++ [m]) q gs p N) (hf : fs.length ≤ 1000) : Calls Try.prog 20 #[.pointer (some ⟨d, 0, none⟩)] W fun e w' => (∃ A c, e = .returned (.tuple #[.slice A m.length c, .bool true]) ∧ SO w' (.slice A m.length c) m ∧ QSt w w' d z r fs q gs p ((Value.slice A m.length c).ownBlock.toList ++ N)) ∧ Keep N W w' := by
  obtain ⟨F, G, hd, hz, hx, hF, hG, hc0, hN⟩ := h
  refine (dget_yes hd (by omega)).mono ?_
  rintro e w' ⟨⟨A, c, rfl, hs, ho, hd'⟩, hc⟩
  obtain ⟨⟨F', G', _, _, _, _, _, hc2, _⟩, hk⟩ := qst_d (F' := F.filter fun k => (Value.slice A m.length c).ownBlock != some k) hz hx hF hG hc0 hN hd' (fun k hk => .inl (List.mem_filter.1 hk).1) hc
  refine ⟨⟨A, c, rfl, hs, _, G, hd', hz.chg hc (fun k hk h => hx k h hk), fun k hk h => hx k (List.mem_filter.1 hk).1 h, fun k hk => hF k (List.mem_filter.1 hk).1, hG, hc2, fun k hk => ?_⟩, hk⟩
  rcases List.mem_append.1 hk with hk | hk
  · have e : (Value.slice A m.length c).ownBlock = some k := by simpa using hk
    obtain ⟨h1, h2⟩ := ho k (own_mem.2 e)
    refine ⟨hF k h1, Sl.lt hs k e, fun h => ?_, hx k h1⟩
    have := (List.mem_filter.1 h).2
    rw [e] at this
    simp at this
  · obtain ⟨h1, h2, h3, h4⟩ := hN k hk
    exact ⟨h1, Nat.lt_of_lt_of_le h2 hc.size, fun h => h3 (List.mem_filter.1 h).1, h4⟩
theorem qd_get_no (h : QSt w W d z r [] q gs p N) : Calls Try.prog 20 #[.pointer (some ⟨d, 0, none⟩)] W fun e w' => e = .returned (.tuple #[.slice none 0 0, .bool false]) ∧ W = w' := by
  obtain ⟨F, G, hd, hz, hx, hF, hG, hc0, hN⟩ := h
  exact dget_no hd
theorem qz_get {m : List Ob} (h : QSt w W d z r fs q (gs ++ [m]) p N) (hf : gs.length ≤ 1000) : Calls Try.prog 41 #[.pointer (some ⟨z, 0, none⟩)] W fun e w' => (∃ A c, e = .returned (.tuple #[.slice A m.length c, .bool true]) ∧ RO w' (.slice A m.length c) m) ∧ QSt w w' d z r fs q gs p N ∧ Keep N W w' := by
  obtain ⟨F, G, hd, hz, hx, hF, hG, hc0, hN⟩ := h
  refine (rdget_yes hz (by omega)).mono ?_
  rintro e w' ⟨⟨A, c, rfl, hs, hz'⟩, hc⟩
  exact ⟨⟨A, c, rfl, hs.ro⟩, qst_z hd hx hF hG hc0 hN hz' (fun k hk => .inl hk) hc⟩
theorem qz_get_no (h : QSt w W d z r fs q [] p N) : Calls Try.prog 41 #[.pointer (some ⟨z, 0, none⟩)] W fun e w' => e = .returned (.tuple #[.slice none 0 0, .bool false]) ∧ W = w' := by
  obtain ⟨F, G, hd, hz, hx, hF, hG, hc0, hN⟩ := h
  exact rdget_no hz
theorem qd_queue (h : QSt w W d z r fs q gs p N) (hr : 1 ≤ r) (x y : Int) (hq : q.length ≤ 100000) : Calls Try.prog 17 #[.pointer (some ⟨d, 0, none⟩), .agg #[.int .i64 x, .int .i64 y]] W fun e w' => e = .returned (.tuple #[]) ∧ QSt w w' d z r fs (q ++ [(x, y)]) gs p N ∧ Keep N W w' := by
  obtain ⟨F, G, hd, hz, hx, hF, hG, hc0, hN⟩ := h
  refine (dqueue_at hr hd x y hq).mono ?_
  rintro e w' ⟨rfl, ⟨F', hd', hS⟩, hch⟩
  exact ⟨rfl, qst_d hz hx hF hG hc0 hN hd' hS hch⟩
theorem qd_drain (h : QSt w W d z r fs q gs p N) (x : Int) (hq : q.length ≤ 100000) : Calls Try.prog 19 #[.pointer (some ⟨d, 0, none⟩), .int .i64 x] W fun e w' => (∃ A c, e = .returned (.slice A (q.take (drainN x q.length)).length c) ∧ SO w' (.slice A (q.take (drainN x q.length)).length c) (q.take (drainN x q.length)) ∧
    QSt w w' d z r fs (q.drop (drainN x q.length)) gs p ((Value.slice A (q.take (drainN x q.length)).length c).ownBlock.toList ++ N)) ∧ Keep N W w' := by
  obtain ⟨F, G, hd, hz, hx, hF, hG, hc0, hN⟩ := h
  refine (drain_at hd x hq).mono ?_
  rintro e w' ⟨⟨A, c, rfl, hs, ho⟩, hd', hc⟩
  have h1 := qst_d hz hx hF hG hc0 hN hd' (fun k hk => .inl hk) hc
  refine ⟨⟨A, c, rfl, hs, F, G, hd', hz.chg hc (fun k hk h => hx k h hk), hx, hF, hG, h1.1.below, fun k hk => ?_⟩, h1.2⟩
  rcases List.mem_append.1 hk with hk | hk
  · have e : (Value.slice A (q.take (drainN x q.length)).length c).ownBlock = some k := by simpa using hk
    have := ho k e
    exact ⟨Nat.le_trans hc0.size this, Sl.lt hs k e, fun h => by have := hd.lt k h; omega, fun h => by have := hz.lt k h; omega⟩
  · obtain ⟨h1, h2, h3, h4⟩ := hN k hk
    exact ⟨h1, Nat.lt_of_lt_of_le h2 hc.size, h3, h4⟩
theorem qz_drain (h : QSt w W d z r fs q gs p N) (x : Int) (hq : p.length ≤ 100000) : Calls Try.prog 42 #[.pointer (some ⟨z, 0, none⟩), .int .i64 x] W fun e w' => (∃ A c, e = .returned (.slice A (p.take (drainN x p.length)).length c) ∧ RO w' (.slice A (p.take (drainN x p.length)).length c) (p.take (drainN x p.length))) ∧
    QSt w w' d z r fs q gs (p.drop (drainN x p.length)) N ∧ Keep N W w' := by
  obtain ⟨F, G, hd, hz, hx, hF, hG, hc0, hN⟩ := h
  refine (rddrain_at hz x hq).mono ?_
  rintro e w' ⟨⟨⟨A, c, rfl, hs, ho⟩, F', hz', hS⟩, hc⟩
  exact ⟨⟨A, c, rfl, hs.ro⟩, qst_z hd hx hF hG hc0 hN hz' hS hc⟩
theorem qd_all (h : QSt w W d z r fs q gs p N) (hf : fs.length ≤ 1000) (hq : (dall fs q).length ≤ 1000000) : Calls Try.prog 38 #[.pointer (some ⟨d, 0, none⟩)] W fun e w' => (∃ A c, e = .returned (.slice A (dall fs q).length c) ∧ SO w' (.slice A (dall fs q).length c) (dall fs q) ∧ QSt w w' d z r fs q gs p ((Value.slice A (dall fs q).length c).ownBlock.toList ++ N)) ∧ Keep N W w' := by
  have h' := h
  obtain ⟨F, G, hd, hz, hx, hF, hG, hc0, hN⟩ := h
  refine (dall_at hd hf hq).mono ?_
  rintro e w' ⟨⟨A, c, rfl, hs, ho⟩, hc⟩
  exact ⟨⟨A, c, rfl, hs, h'.more hc _ fun k hk => ⟨ho k (by simpa using hk), Sl.lt hs k (by simpa using hk)⟩⟩, keep_chg hc fun k hk => ⟨(hN k hk).2.1, by simp⟩⟩
theorem qz_all (h : QSt w W d z r fs q gs p N) (hf : gs.length ≤ 1000) (hq : (dall gs p).length ≤ 1000000) : Calls Try.prog 44 #[.pointer (some ⟨z, 0, none⟩)] W fun e w' => (∃ A c, e = .returned (.slice A (dall gs p).length c) ∧ RO w' (.slice A (dall gs p).length c) (dall gs p)) ∧ QSt w w' d z r fs q gs p N ∧ Keep N W w' := by
  have h' := h
  obtain ⟨F, G, hd, hz, hx, hF, hG, hc0, hN⟩ := h
  refine (rdall_at hz hf hq).mono ?_
  rintro e w' ⟨⟨A, c, rfl, hs, ho⟩, hc⟩
  exact ⟨⟨A, c, rfl, hs.ro⟩, h'.chg hc, keep_chg hc fun k hk => ⟨(hN k hk).2.1, by simp⟩⟩
theorem qd_flush (h : QSt w W d z r fs q gs p N) (hf : fs.length ≤ 1000) (hq : (dall fs q).length ≤ 1000000) : Calls Try.prog 43 #[.pointer (some ⟨d, 0, none⟩)] W fun e w' => (∃ A c, e = .returned (.slice A (dall fs q).length c) ∧ SO w' (.slice A (dall fs q).length c) (dall fs q) ∧ QSt w w' d z r [] [] gs p ((Value.slice A (dall fs q).length c).ownBlock.toList ++ N)) ∧ Keep N W w' := by
  obtain ⟨F, G, hd, hz, hx, hF, hG, hc0, hN⟩ := h
  refine (flush_at hd hf hq).mono ?_
  rintro e w' ⟨⟨A, c, rfl, hs, ho⟩, hd', hc⟩
  have h1 := qst_d hz hx hF hG hc0 hN hd' (fun k hk => .inl hk) hc
  refine ⟨⟨A, c, rfl, hs, F, G, hd', hz.chg hc (fun k hk h => hx k h hk), hx, hF, hG, h1.1.below, fun k hk => ?_⟩, h1.2⟩
  rcases List.mem_append.1 hk with hk | hk
  · have e : (Value.slice A (dall fs q).length c).ownBlock = some k := by simpa using hk
    have := ho k e
    exact ⟨Nat.le_trans hc0.size this, Sl.lt hs k e, fun h => by have := hd.lt k h; omega, fun h => by have := hz.lt k h; omega⟩
  · obtain ⟨h1, h2, h3, h4⟩ := hN k hk
    exact ⟨h1, Nat.lt_of_lt_of_le h2 hc.size, h3, h4⟩
theorem qd_fulls (h : QSt w W d z r fs q gs p N) : Calls Try.prog 37 #[.pointer (some ⟨d, 0, none⟩)] W fun e w' => e = .returned (.int .i64 fs.length) ∧ W = w' := by
  obtain ⟨_, ⟨A, c, x1⟩, _⟩ := h.cells
  exact dfulls_at d A _ c W x1
theorem qd_queued (h : QSt w W d z r fs q gs p N) : Calls Try.prog 21 #[.pointer (some ⟨d, 0, none⟩)] W fun e w' => e = .returned (.int .i64 q.length) ∧ W = w' := by
  obtain ⟨_, _, ⟨A, c, x2⟩, _⟩ := h.cells
  exact dqueued_at d A _ c W x2
/-- the document's depot is emptied, by two stores -/
theorem QSt.empty (h : QSt w W d z r fs q gs p N) : QSt w ((W.setCell ⟨z, 1, none⟩ (.slice none 0 0)).setCell ⟨z, 2, none⟩ (.slice none 0 0)) d z r fs q [] [] N ∧ Keep N W ((W.setCell ⟨z, 1, none⟩ (.slice none 0 0)).setCell ⟨z, 2, none⟩ (.slice none 0 0)) := by
  obtain ⟨F, G, hd, hz, hx, hF, hG, hc0, hN⟩ := h
  obtain ⟨A0, c0, A1, c1, vs, hb, h0, h1, hs, hdm, n0, n1, n2, hnd, hlt⟩ := hz.parts
  have hb2 := (hb.set_ 1 (.slice none 0 0)).set_ 2 (.slice none 0 0)
  refine qst_z hd hx hF hG hc0 hN (DMem.mk (v0 := .slice none 0 0) (v1 := .slice none 0 0) (vs := []) (by simpa using hb2) (Sl.nil _ _ _) (Sl.nil _ _ _) (SS.nil _) hdm (fun k hk => by simp [own, Value.ownBlock] at hk) (fun k hk => by simp [own, Value.ownBlock] at hk) (fun k hk => by simp at hk) (by simp [own, Value.ownBlock]) (fun k hk => ?_)) (fun k hk => .inl hk) (((Chg.refl G W).setCell (.inl hdm) _).setCell (.inl hdm) _)
  rw [size_set, size_set]
  exact hlt k hk
theorem QSt.frozen (h : QSt w W d z r fs q gs p N) (i : Nat) : W.frozen? ⟨z, i, none⟩ = false ∧ z < W.heap.size := by
  obtain ⟨F, G, hd, hz, hx, hF, hG, hc0, hN⟩ := h
  obtain ⟨A0, c0, A1, c1, vs, hb, _⟩ := hz.parts
  exact ⟨hb.frozen i, hb.lt⟩
/-- one more in the document's queue, by an append and a store -/
theorem QSt.enq (h : QSt w W d z r fs q gs p N) {W1 w3 : World} {V v1 : Value} {l : List Ob} (hv : W.cell? ⟨z, 2, none⟩ = some v1) (hS : Chg [] W W1) (hs3 : SO w3 V (p ++ l)) (hc3 : Chg (own v1) W1 w3) (ho3 : V.ownBlock = v1.ownBlock ∨ V.ownBlock = some W1.heap.size) :
    QSt w (w3.setCell ⟨z, 2, none⟩ V) d z r fs q gs (p ++ l) N ∧ Keep N W (w3.setCell ⟨z, 2, none⟩ V) := by
  obtain ⟨F, G, hd, hz, hx, hF, hG, hc0, hN⟩ := h
  obtain ⟨A0, c0, A1, c1, vs, hb, h0, h1, hs, hdm, n0, n1, n2, hnd, hlt⟩ := hz.parts
  have x2 := hb.cell 2
  simp at x2
  rw [x2] at hv
  injection hv with hv
  subst hv
  obtain ⟨⟨F', hz', hst⟩, hch⟩ := DMem.enq (by decide) hb h0 h1 hs hdm n0 n1 n2 hnd hlt hS hs3 hc3 ho3
  exact qst_z hd hx hF hG hc0 hN hz' hst hch
theorem QSt.queue_so (h : QSt w W d z r fs q gs p N) : ∃ A c, W.cell? ⟨z, 2, none⟩ = some (.slice A p.length c) ∧ SO W (.slice A p.length c) p ∧ ∀ k ∈ own (.slice A p.length c), ∃ cur, Blk W k 28 cur := by
  obtain ⟨F, G, hd, hz, hx, hF, hG, hc0, hN⟩ := h
  obtain ⟨A0, c0, A1, c1, vs, hb, h0, h1, hs, hdm, n0, n1, n2, hnd, hlt⟩ := hz.parts
  have x2 := hb.cell 2
  simp at x2
  exact ⟨A1, c1, x2, h1, fun k hk => Sl.blk h1 hk⟩
end
end Go.Proofs.Ytbmdcfeiecmlpaa
