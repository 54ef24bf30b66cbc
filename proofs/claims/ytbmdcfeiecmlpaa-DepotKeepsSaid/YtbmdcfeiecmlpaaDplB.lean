import Derived.Test.YtbmdcfeiecmlpaaDplA
import Derived.Deep.CutBlock
import Derived.Deep.CutRange
namespace Go.Proofs.Ytbmdcfeiecmlpaa
open Go Go.RowKit

/-- a call of the depot's laws: what it is, how many, the slice, and what it reads as -/
structure DOp where
  k : Int
  n : Int
  v : Value
  l : List Ob
def RDOps (w : World) (v : Value) (ops : List DOp) : Prop :=
  ∃ A c, v = .slice A ops.length c ∧ (0 < ops.length → ∃ g off, A = some ⟨g, off, none⟩ ∧ ∀ i (h : i < ops.length),
    w.cell? ⟨g, off + i * 3, none⟩ = some (.int .i64 ops[i].k) ∧ w.cell? ⟨g, off + i * 3 + 1, none⟩ = some (.int .i64 ops[i].n) ∧ w.cell? ⟨g, off + i * 3 + 2, none⟩ = some ops[i].v ∧ RO w ops[i].v ops[i].l)
theorem RDOps.form {w : World} {v : Value} {ops : List DOp} (h : RDOps w v ops) : ∃ A c, v = .slice A ops.length c := let ⟨A, c, e, _⟩ := h; ⟨A, c, e⟩
theorem RDOps.chg {w w' : World} {v : Value} {ops : List DOp} (h : RDOps w v ops) (hc : Chg [] w w') : RDOps w' v ops := by
  obtain ⟨A, c, rfl, h2⟩ := h
  refine ⟨A, c, rfl, fun hp => ?_⟩
  obtain ⟨g, off, rfl, h3⟩ := h2 hp
  refine ⟨g, off, rfl, fun i hi => ?_⟩
  obtain ⟨a, b, d, e⟩ := h3 i hi
  exact ⟨hc.cell a List.not_mem_nil, hc.cell b List.not_mem_nil, hc.cell d List.not_mem_nil, Rd.chg e hc (fun _ _ h => by cases h)⟩
theorem RDOps.addr {w : World} {A : Option Addr} {c : Nat} {ops : List DOp} (h : RDOps w (.slice A ops.length c) ops) {i : Nat} (hi : i < ops.length) : ∃ g off, A = some ⟨g, off, none⟩ := by
  obtain ⟨A', c', e, h2⟩ := h
  injection e with e1 _ _
  subst e1
  obtain ⟨g, off, rfl, _⟩ := h2 (by omega)
  exact ⟨g, off, rfl⟩
theorem RDOps.cells {w : World} {g off c : Nat} {ops : List DOp} (h : RDOps w (.slice (some ⟨g, off, none⟩) ops.length c) ops) {i : Nat} (hi : i < ops.length) :
    w.cell? ⟨g, off + i * 3, none⟩ = some (.int .i64 ops[i].k) ∧ w.cell? ⟨g, off + i * 3 + 1, none⟩ = some (.int .i64 ops[i].n) ∧ w.cell? ⟨g, off + i * 3 + 2, none⟩ = some ops[i].v ∧ RO w ops[i].v ops[i].l ∧ g < w.heap.size := by
  obtain ⟨A', c', e, h2⟩ := h
  injection e with e1 _ _
  subst e1
  obtain ⟨g', off', e, h3⟩ := h2 (by omega)
  injection e with e
  injection e with e1 e2
  subst e1; subst e2
  obtain ⟨a, b, d, e⟩ := h3 i hi
  exact ⟨a, b, d, e, World.block_lt_of_cell? w _ a⟩

/-- bounds: at most 64 full magazines of at most 32 objects, at most k in the queue -/
structure Bd (fs : List (List Ob)) (q : List Ob) (k : Nat) : Prop where
  f : fs.length ≤ 64
  m : ∀ l ∈ fs, l.length ≤ 32
  q : q.length ≤ k
theorem flat_le {fs : List (List Ob)} (h : ∀ l ∈ fs, l.length ≤ 32) : fs.flatten.length ≤ fs.length * 32 := by
  induction fs with
  | nil => simp
  | cons a l ih =>
    have h1 := h a (List.mem_cons_self ..)
    have h2 := ih (fun x hx => h x (List.mem_cons_of_mem _ hx))
    simp only [List.flatten_cons, List.length_append, List.length_cons]
    omega
theorem Bd.all {fs : List (List Ob)} {q : List Ob} {k : Nat} (h : Bd fs q k) : (dall fs q).length ≤ 2048 + k := by
  have h1 := flat_le h.m
  have h2 := h.f
  have h3 := h.q
  unfold dall
  rw [List.length_append]
  omega
theorem Bd.up {fs : List (List Ob)} {q : List Ob} {k m : Nat} (h : Bd fs q k) (hm : k ≤ m) : Bd fs q m := ⟨h.f, h.m, Nat.le_trans h.q hm⟩
theorem Bd.put {fs : List (List Ob)} {q l : List Ob} {k r : Nat} (h : Bd fs q k) (hr : r ≤ 32) : Bd (putF r fs l) q k := by
  unfold putF
  split
  · rename_i hc
    refine ⟨by rw [List.length_append]; simp; omega, fun x hx => ?_, h.q⟩
    rcases List.mem_append.1 hx with hx | hx
    · exact h.m x hx
    · obtain rfl := List.mem_singleton.1 hx; omega
  · exact h
theorem Bd.pop {fs : List (List Ob)} {l q : List Ob} {k : Nat} (h : Bd (fs ++ [l]) q k) : Bd fs q k := ⟨by have := h.f; simp at this; omega, fun x hx => h.m x (List.mem_append_left _ hx), h.q⟩
theorem Bd.enq {fs : List (List Ob)} {q : List Ob} {o : Ob} {k : Nat} (h : Bd fs q k) : Bd fs (q ++ [o]) (k + 1) := ⟨h.f, h.m, by have := h.q; simp; omega⟩
theorem Bd.drop {fs : List (List Ob)} {q : List Ob} {n k : Nat} (h : Bd fs q k) : Bd fs (q.drop n) k := ⟨h.f, h.m, by have := h.q; rw [List.length_drop]; omega⟩
theorem Bd.nil (k : Nat) : Bd [] [] k := ⟨by simp, by simp, by simp⟩

theorem qd_all2 {w W : World} {d z r : Nat} {fs gs : List (List Ob)} {q p : List Ob} {N : List Nat} (h : QSt w W d z r fs q gs p N) (hf : fs.length ≤ 1000) (hq : (dall fs q).length ≤ 1000000) : Calls Try.prog 38 #[.pointer (some ⟨d, 0, none⟩)] W fun e w' => ∃ A c, e = .returned (.slice A (dall fs q).length c) ∧ SO w' (.slice A (dall fs q).length c) (dall fs q) ∧ (∀ k ∈ own (.slice A (dall fs q).length c), W.heap.size ≤ k ∧ k < w'.heap.size) ∧ Chg [] W w' := by
  obtain ⟨F, G, hd, hz, hx, hF, hG, hc0, hN⟩ := h
  refine (dall_at hd hf hq).mono ?_
  rintro e w' ⟨⟨A, c, rfl, hs, ho⟩, hc⟩
  exact ⟨A, c, rfl, hs, fun k hk => ⟨ho k (own_mem.1 hk), hs.own_lt k hk⟩, hc⟩
theorem qz_all2 {w W : World} {d z r : Nat} {fs gs : List (List Ob)} {q p : List Ob} {N : List Nat} (h : QSt w W d z r fs q gs p N) (hf : gs.length ≤ 1000) (hq : (dall gs p).length ≤ 1000000) : Calls Try.prog 44 #[.pointer (some ⟨z, 0, none⟩)] W fun e w' => ∃ A c, e = .returned (.slice A (dall gs p).length c) ∧ RO w' (.slice A (dall gs p).length c) (dall gs p) ∧ Chg [] W w' := by
  obtain ⟨F, G, hd, hz, hx, hF, hG, hc0, hN⟩ := h
  refine (rdall_at hz hf hq).mono ?_
  rintro e w' ⟨⟨A, c, rfl, hs, ho⟩, hc⟩
  exact ⟨A, c, rfl, hs.ro, hc⟩
theorem load_i {w : World} {ad : Addr} {v : Value} (h : w.cell? ad = some v) : (loadVar 3 ad).run Try.prog w = .ok v w := by
  simp [loadVar, isAgg, run_underlying Try.underlying3, load, Sem.run, h]
theorem qz_all3 {w W : World} {d z r : Nat} {fs gs : List (List Ob)} {q p : List Ob} {N : List Nat} (h : QSt w W d z r fs q gs p N) (hf : gs.length ≤ 1000) (hq : (dall gs p).length ≤ 1000000) : Calls Try.prog 44 #[.pointer (some ⟨z, 0, none⟩)] W fun e w' => ∃ A c, e = .returned (.slice A (dall gs p).length c) ∧ SO w' (.slice A (dall gs p).length c) (dall gs p) ∧ QSt w w' d z r fs q gs p N ∧ Keep N W w' ∧ (∀ (u1 u2 : Value), SO ((w'.setCell ⟨z, 1, none⟩ u1).setCell ⟨z, 2, none⟩ u2) (.slice A (dall gs p).length c) (dall gs p)) := by
  have h' := h
  obtain ⟨F, G, hd, hz, hx, hF, hG, hc0, hN⟩ := h
  obtain ⟨A0, c0, A1, c1, vs, hb, _⟩ := hz.parts
  refine (rdall_at hz hf hq).mono ?_
  rintro e w' ⟨⟨A, c, rfl, hs, ho⟩, hc⟩
  have hne := blk_other hs (hb.chg hc List.not_mem_nil) (by decide)
  exact ⟨A, c, rfl, hs, h'.chg hc, keep_chg hc fun k hk => ⟨(hN k hk).2.1, by simp⟩, fun u1 u2 => Sl.far (Sl.far hs (p := ⟨z, 1, none⟩) hne u1) (p := ⟨z, 2, none⟩) hne u2⟩
theorem QSt.stays {w W W1 w3 : World} {d z r : Nat} {fs gs : List (List Ob)} {q p : List Ob} {N : List Nat} (h : QSt w W d z r fs q gs p N) {v1 : Value} (hv : W.cell? ⟨z, 2, none⟩ = some v1) (hS : Chg [] W W1) (hc3 : Chg (own v1) W1 w3) : w3.cell? ⟨z, 2, none⟩ = some v1 ∧ w3.frozen? ⟨z, 2, none⟩ = false := by
  obtain ⟨F, G, hd, hz, hx, hF, hG, hc0, hN⟩ := h
  obtain ⟨A0, c0, A1, c1, vs, hb, h0, h1, _⟩ := hz.parts
  have x2 := hb.cell 2
  simp at x2
  rw [x2] at hv
  injection hv with hv
  subst hv
  have hb3 := (hb.chg hS List.not_mem_nil).chg hc3 (fun h => blk_other h1 hb (by decide) (own_mem.1 h))
  have y2 := hb3.cell 2
  simp at y2
  exact ⟨y2, hb3.frozen 2⟩
theorem qst_new (x : Int) {w W : World} {d : Nat} (hd : DMem 73 W d (clamp x) [] [] [d]) (hw : w.heap.size ≤ d) (hc : Chg [] w W) : Calls Try.prog 39 #[.int .i64 x] W fun e w' => ∃ z, e = .returned (.pointer (some ⟨z, 0, none⟩)) ∧ QSt w w' d z (clamp x) [] [] [] [] [] := by
  refine (rdnew_any x W).mono ?_
  rintro e w' ⟨⟨z, rfl, hz, hzl⟩, hc'⟩
  refine ⟨z, rfl, [d], [z], hd.chg hc' (by simp), hz, fun k hk h => ?_, fun k hk => ?_, fun k hk => ?_, hc.trans hc' (fun _ h => by cases h), fun k hk => by cases hk⟩
  · obtain rfl := List.mem_singleton.1 hk
    obtain rfl := List.mem_singleton.1 h
    have := hd.lt _ hd.mem
    omega
  · obtain rfl := List.mem_singleton.1 hk; exact hw
  · obtain rfl := List.mem_singleton.1 hk; exact Nat.le_trans hc.size hzl
theorem dnew2 (x : Int) (w : World) : Calls Try.prog 14 #[.int .i64 x] w fun e w' => ∃ d, e = .returned (.pointer (some ⟨d, 0, none⟩)) ∧ w.heap.size ≤ d ∧ DMem 73 w' d (clamp x) [] [] [d] ∧ Chg [] w w' :=
  (dnew_any x w).mono fun _ _ ⟨h1, h2, h3⟩ => ⟨_, h1, Nat.le_refl _, h2, h3⟩
end Go.Proofs.Ytbmdcfeiecmlpaa
