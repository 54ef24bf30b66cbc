import Derived.Test.YtmgjknlpcnakiaaArO
import Derived.Test.YtmgjknlpcnakiaaRound
namespace Go.Proofs.Ytmgjknlpcnakiaa
open Go Go.RowKit Go.Shelf

/-- THE RULE of a loop that counts what comes in a box -/
theorem wp_count {g : Operand} {p0 q0 : Nat} {assign body : Code} {Q : Exit → Act → World → Prop} {a : Act} {w : World} {bx d : Nat} {l : List Rn} {F : List Nat} {bn : Nat}
    (hg : a.eval g = .func (.func 26) #[] #[.pointer (some ⟨bx, 0, none⟩)]) (hbx : Blk w bx 23 #[.pointer (some ⟨d, 0, none⟩)]) (hm : AMem w d l F) (hlen : l.length ≤ 1000)
    (hbn : Blk w bn 3 #[.int .i64 ((0 : Nat) : Int)])
    (hassign : ∀ (j : Nat) (r : Rn) (W : World) (K : Act → World → Prop), K { tmps := (a.tmps.setIfInBounds p0 (rv r)).setIfInBounds q0 (.pointer (some ⟨W.heap.size, 0, none⟩)), defers := [] } (W.alloc (.cells #[.int .i64 r.p, .int .i64 r.c, .int .u8 r.g] 30)) →
      assign.wpIn (Fence.wide.inRound j) 4 Try.prog (Exit.then K (fun _ _ _ => False)) { tmps := a.tmps.setIfInBounds p0 (rv r), defers := [] } W)
    (hbody : ∀ (j B k : Nat) (hk : k < l.length) (W : World) (Q' : Exit → Act → World → Prop), ¬ LetsOut Q' → Chg [bn] w W → Blk W bn 3 #[.int .i64 (k : Int)] → Blk W B 30 #[.int .i64 l[k].p, .int .i64 l[k].c, .int .u8 l[k].g] →
      (∀ a' W', Chg [] W W' → Q' .normal a' (W'.setCell ⟨bn, 0, none⟩ (.int .i64 ((k : Int) + 1)))) →
      body.wpIn (Fence.wide.inRound j) 4 Try.prog Q' { tmps := (a.tmps.setIfInBounds p0 (rv l[k])).setIfInBounds q0 (.pointer (some ⟨B, 0, none⟩)), defers := [] } W)
    (hdone : ∀ D W, w.heap.size ≤ D → W.heap[D]? = some (.deferred (some [])) → Blk W bn 3 #[.int .i64 (l.length : Int)] → Chg [bn] w W → Q .normal { a with defers := mark D :: a.defers } W) :
    (Code.rangeFunc g #[p0] assign body).wp Try.prog Q a w := by
  have hbl := hbn.lt
  have hIst : ∀ (N : List Nat) (k : Nat) (W W' : World), (Chg [bn] w W ∧ (∀ b ∈ N, w.heap.size ≤ b ∧ b < W.heap.size) ∧ Blk W bn 3 #[.int .i64 (k : Int)]) → Chg N W W' → (Chg [bn] w W' ∧ (∀ b ∈ N, w.heap.size ≤ b ∧ b < W'.heap.size) ∧ Blk W' bn 3 #[.int .i64 (k : Int)]) := by
    rintro N k W W' ⟨hc, hN, hb⟩ hch
    exact ⟨hc.trans hch (fun b hb => .inr (hN b hb).1), fun b hb => ⟨(hN b hb).1, Nat.lt_of_lt_of_le (hN b hb).2 hch.size⟩, hb.chg hch (fun h => by have := (hN bn h).1; omega)⟩
  refine wp_range hg hbx hm hlen
    (fun N k W => Chg [bn] w W ∧ (∀ b ∈ N, w.heap.size ≤ b ∧ b < W.heap.size) ∧ Blk W bn 3 #[.int .i64 (k : Int)])
    (fun _ _ _ => False)
    (fun N k a' W => ∃ (hk : k < l.length) (B : Nat), a' = { tmps := (a.tmps.setIfInBounds p0 (rv l[k])).setIfInBounds q0 (.pointer (some ⟨B, 0, none⟩)), defers := [] } ∧ Blk W B 30 #[.int .i64 l[k].p, .int .i64 l[k].c, .int .u8 l[k].g] ∧ B ∉ N ∧
      (Chg [bn] w W ∧ (∀ b ∈ N, w.heap.size ≤ b ∧ b < W.heap.size) ∧ Blk W bn 3 #[.int .i64 (k : Int)]))
    ?_ hIst (fun _ _ _ _ h => h.elim) ?_ ?_ ?_ ?_ (fun _ _ _ _ _ _ h => h.elim)
  · intro N W hN hc
    exact ⟨hc.up _, hN, hbn.chg hc (by simp)⟩
  · rintro N k a' W W' ⟨hk, B, rfl, hB, hBN, hi⟩ hch
    exact ⟨hk, B, rfl, hB.chg hch hBN, hBN, hIst N k W W' hi hch⟩
  · rintro j N k W K hk hi hK
    refine hassign j l[k] W K (hK _ _ ⟨hk, _, rfl, Blk.new W 30 _, fun h => by have := (hi.2.1 _ h).2; omega, hIst N k W _ hi (((Chg.refl [] W).alloc _).up N)⟩ fun b hb => ?_)
    exact Below.heap_alloc W _ b (hi.2.1 b hb).2
  · rintro j N k a' W hk' ⟨hk, B, rfl, hB, hBN, hc, hN, hb⟩
    refine hbody j B k hk W _ (fun ⟨_, _, h⟩ => h) hc hb hB fun a'' W' hc' => ?_
    have hb' := hb.chg hc' (by simp)
    have hNb : ∀ x ∈ N, x ≠ bn := fun x hx e => by have := (hN x hx).1; omega
    refine ⟨fun x hx => ?_, (hc.stay hc').setCell (.inl (by simp)) _, fun x hx => ⟨(hN x hx).1, ?_⟩, ?_⟩
    · exact (Below.heap_setCell W' ⟨bn, 0, none⟩ _ x (hNb x hx)).trans (hc'.block x (hN x hx).2 List.not_mem_nil)
    · rw [size_set]
      exact Nat.lt_of_lt_of_le (hN x hx).2 hc'.size
    · have := hb'.set_ 0 (.int .i64 ((k : Int) + 1))
      simpa using this
  · rintro N D W hD hDw ⟨hc, hN, hb⟩ hdf
    exact hdone D W hDw hdf hb hc
/-- THE RULE of a loop that breaks at once -/
theorem wp_break {g : Operand} {p0 : Nat} {id : Nat} {assign body : Code} {Q : Exit → Act → World → Prop} {a : Act} {w : World} {bx d : Nat} {l : List Rn} {F : List Nat}
    (hg : a.eval g = .func (.func 26) #[] #[.pointer (some ⟨bx, 0, none⟩)]) (hbx : Blk w bx 23 #[.pointer (some ⟨d, 0, none⟩)]) (hm : AMem w d l F) (hlen : l.length ≤ 1000)
    (hassign : ∀ (j : Nat) (r : Rn) (W : World) (K : Act → World → Prop), (∀ a', K a' W) → assign.wpIn (Fence.wide.inRound j) 4 Try.prog (Exit.then K (fun _ _ _ => False)) { tmps := a.tmps.setIfInBounds p0 (rv r), defers := [] } W)
    (hbody : ∀ (j : Nat) (a' : Act) (W : World) (Q' : Exit → Act → World → Prop), Q' (.exit id) a' W → body.wpIn (Fence.wide.inRound j) 4 Try.prog Q' a' W)
    (hdone : ∀ D W, w.heap.size ≤ D → W.heap[D]? = some (.deferred (some [])) → Chg [] w W → Q .normal { a with defers := mark D :: a.defers } W)
    (hstop : ∀ D W, w.heap.size ≤ D → W.heap[D]? = some (.deferred (some [])) → Chg [] w W → Q (.exit id) { a with defers := mark D :: a.defers } W) :
    (Code.rangeFunc g #[p0] assign body).wp Try.prog Q a w := by
  have hIst : ∀ (N : List Nat) (W W' : World), (Chg [] w W ∧ (∀ b ∈ N, w.heap.size ≤ b ∧ b < W.heap.size)) → Chg N W W' → (Chg [] w W' ∧ (∀ b ∈ N, w.heap.size ≤ b ∧ b < W'.heap.size)) := by
    rintro N W W' ⟨hc, hN⟩ hch
    exact ⟨hc.trans hch (fun b hb => .inr (hN b hb).1), fun b hb => ⟨(hN b hb).1, Nat.lt_of_lt_of_le (hN b hb).2 hch.size⟩⟩
  refine wp_range hg hbx hm hlen
    (fun N _ W => Chg [] w W ∧ (∀ b ∈ N, w.heap.size ≤ b ∧ b < W.heap.size))
    (fun i N W => i = id ∧ Chg [] w W ∧ (∀ b ∈ N, w.heap.size ≤ b ∧ b < W.heap.size))
    (fun N _ _ W => Chg [] w W ∧ (∀ b ∈ N, w.heap.size ≤ b ∧ b < W.heap.size))
    (fun N W hN hc => ⟨hc, hN⟩) (fun N _ W W' h hch => hIst N W W' h hch) (fun _ N W W' h hch => ⟨h.1, hIst N W W' h.2 hch⟩) (fun N _ _ W W' h hch => hIst N W W' h hch) ?_ ?_ ?_ ?_
  · rintro j N k W K hk hi hK
    exact hassign j l[k] W K fun a' => hK _ _ hi (Keep.refl _ _)
  · rintro j N k a' W hk hi
    exact hbody j a' W _ ⟨Keep.refl _ _, rfl, hi⟩
  · rintro N D W hD hDw ⟨hc, hN⟩ hdf
    exact hdone D W hDw hdf hc
  · rintro i N D W hD hDw ⟨rfl, hc, hN⟩ hdf
    exact wp_exit (hstop D W hDw hdf hc)
end Go.Proofs.Ytmgjknlpcnakiaa
