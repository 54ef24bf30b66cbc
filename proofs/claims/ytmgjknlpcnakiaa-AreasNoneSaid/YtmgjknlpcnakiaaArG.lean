import Derived.Test.YtmgjknlpcnakiaaArF
namespace Go.Proofs.Ytmgjknlpcnakiaa
open Go Go.RowKit

/-- what 'with' has while it works: its boxes, all new: the page, the number, the rights, the runs, and whether the range is in -/
structure WSt (w W : World) (bp bc bg b0 bd : Nat) (page count g : Int) (V : Value) (l : List Rn) (dn : Bool) : Prop where
  chg : Chg [] w W
  p : Blk W bp 3 #[.int .i64 page]
  c : Blk W bc 3 #[.int .i64 count]
  g : Blk W bg 5 #[.int .u8 g]
  bl : Blk W b0 38 #[V]
  d : Blk W bd 4 #[.bool dn]
  s : SR W V l
  nl : w.heap.size ≤ b0
  nd : w.heap.size ≤ bd
  nV : ∀ k ∈ own V, w.heap.size ≤ k
section
variable {w W W' : World} {bp bc bg bl bd : Nat} {page count g : Int} {V V' : Value} {l l' : List Rn} {dn : Bool}
theorem WSt.stay (h : WSt w W bp bc bg bl bd page count g V l dn) (hc : Chg [] W W') : WSt w W' bp bc bg bl bd page count g V l dn :=
  { h with chg := h.chg.stay hc, p := h.p.chg hc (by simp), c := h.c.chg hc (by simp), g := h.g.chg hc (by simp), bl := h.bl.chg hc (by simp), d := h.d.chg hc (by simp), s := h.s.stay hc }
theorem blk_off {e : TypeId} {size n : Nat} {v : Value} {cs : List Value} {b : Nat} {T : TypeId} {xs : Array Value} (h : Sl W e size v n cs) (hb : Blk W b T xs) (hT : T ≠ e) : b ∉ own v := fun hk => by
  obtain ⟨cur, hb'⟩ := Sl.blk h hk
  exact hb.ne_ hb' hT rfl
/-- other runs, in the box -/
theorem WSt.put (h : WSt w W bp bc bg bl bd page count g V l dn) (hs : SR W' V' l') (hc : Chg (own V) W W') (hg : Grow W V V') : WSt w (W'.setCell ⟨bl, 0, none⟩ V') bp bc bg bl bd page count g V' l' dn := by
  have hp := h.p.chg hc (blk_off h.s h.p (by decide))
  have hcc := h.c.chg hc (blk_off h.s h.c (by decide))
  have hgg := h.g.chg hc (blk_off h.s h.g (by decide))
  have hll := h.bl.chg hc (blk_off h.s h.bl (by decide))
  have hdd := h.d.chg hc (blk_off h.s h.d (by decide))
  refine { chg := (h.chg.trans hc (fun k hk => .inr (h.nV k hk))).setCell (.inr h.nl) _, p := hp.far (hp.ne_ hll (by decide)) _, c := hcc.far (hcc.ne_ hll (by decide)) _, g := hgg.far (hgg.ne_ hll (by decide)) _, bl := ?_, d := hdd.far (hdd.ne_ hll (by decide)) _, s := Sl.far hs (p := ⟨bl, 0, none⟩) (fun e => blk_off hs hll (by decide) (own_mem.2 e)) _, nl := h.nl, nd := h.nd, nV := fun k hk => ?_ }
  · have := hll.set_ 0 V'
    simpa using this
  · rcases hg k hk with h' | h'
    · exact h.nV k h'
    · exact Nat.le_trans h.chg.size h'
theorem WSt.mark (h : WSt w W bp bc bg bl bd page count g V l dn) : WSt w (W.setCell ⟨bd, 0, none⟩ (.bool true)) bp bc bg bl bd page count g V l true where
  chg := h.chg.setCell (.inr h.nd) _
  p := h.p.far (h.p.ne_ h.d (by decide)) _
  c := h.c.far (h.c.ne_ h.d (by decide)) _
  g := h.g.far (h.g.ne_ h.d (by decide)) _
  bl := h.bl.far (h.bl.ne_ h.d (by decide)) _
  d := by have := h.d.set_ 0 (.bool true); simpa using this
  s := Sl.far h.s (p := ⟨bd, 0, none⟩) (fun e => blk_off h.s h.d (by decide) (own_mem.2 e)) _
  nl := h.nl
  nd := h.nd
  nV := h.nV
theorem WSt.cells (h : WSt w W bp bc bg bl bd page count g V l dn) : W.cell? ⟨bp, 0, none⟩ = some (.int .i64 page) ∧ W.cell? ⟨bc, 0, none⟩ = some (.int .i64 count) ∧ W.cell? ⟨bg, 0, none⟩ = some (.int .u8 g) ∧ W.cell? ⟨bl, 0, none⟩ = some V ∧ W.cell? ⟨bd, 0, none⟩ = some (.bool dn) ∧ W.frozen? ⟨bl, 0, none⟩ = false ∧ W.frozen? ⟨bd, 0, none⟩ = false := by
  have a := h.p.cell 0
  have b := h.c.cell 0
  have c := h.g.cell 0
  have d := h.bl.cell 0
  have e := h.d.cell 0
  simp at a b c d e
  exact ⟨a, b, c, d, e, h.bl.frozen 0, h.d.frozen 0⟩
/-- behind a put: the box is as it was -/
theorem WSt.kept (h : WSt w W bp bc bg bl bd page count g V l dn) (hc : Chg (own V) W W') : W'.cell? ⟨bl, 0, none⟩ = some V ∧ W'.frozen? ⟨bl, 0, none⟩ = false ∧ W'.cell? ⟨bd, 0, none⟩ = some (.bool dn) ∧ W'.frozen? ⟨bd, 0, none⟩ = false ∧ bl ≠ bd := by
  have hll := h.bl.chg hc (blk_off h.s h.bl (by decide))
  have hdd := h.d.chg hc (blk_off h.s h.d (by decide))
  have a := hll.cell 0
  have b := hdd.cell 0
  simp at a b
  exact ⟨a, hll.frozen 0, b, hdd.frozen 0, hll.ne_ hdd (by decide)⟩

set_option maxHeartbeats 1000000 in
theorem in_any (h : WSt w W bp bc bg bl bd page count g V l dn) (hl : Okl l) (hlen : l.length ≤ 100000) (hr : Okr ⟨page, count, g⟩) :
    Calls Try.prog 38 #[.pointer (some ⟨bd, 0, none⟩), .pointer (some ⟨bl, 0, none⟩), .pointer (some ⟨bp, 0, none⟩), .pointer (some ⟨bc, 0, none⟩), .pointer (some ⟨bg, 0, none⟩)] W fun e w' => e = .returned (.tuple #[]) ∧ (∃ A n c, WSt w w' bp bc bg bl bd page count g (.slice A n c) (if dn then l else putL l ⟨page, count, g⟩) true ∧ Grow W V (.slice A n c)) ∧ Chg (bl :: bd :: own V) W w' := by
  obtain ⟨x0, x1, x2, x3, x4, f3, f4⟩ := h.cells
  obtain ⟨A0, c0, rfl⟩ := h.s.form
  cases dn with
  | true =>
    have H := hide h
    clear h
    go_enter Try.func38, Try.ntmps38
    go_wp2_with fail
    go_end0
    exact ⟨rfl, ⟨_, _, _, by simpa using H.out.mark, Grow.refl _ _⟩, (Chg.refl _ _).setCell (.inl (by simp)) _⟩
  | false =>
    have HP := hide (put_any h.s hl hr hlen)
    have H := hide h
    clear h
    go_enter Try.func38, Try.ntmps38
    go_wp2_with (go_at_call 39; refine HP.out.mono ?_; rintro e W1 ⟨A1, n1, c1, rfl, hs1, hc1, hg1⟩; have hk1 := H.out.kept hc1; obtain ⟨y1, y2, y3, y4, y5⟩ := hk1)
    go_end0
    exact ⟨rfl, ⟨_, _, _, by simpa using (H.out.put hs1 hc1 hg1).mark, hg1⟩, ((hc1.mono (fun _ hk => .inl (List.mem_cons_of_mem _ (List.mem_cons_of_mem _ hk)))).setCell (.inl (by simp)) _).setCell (.inl (by simp)) _⟩
end
end Go.Proofs.Ytmgjknlpcnakiaa
