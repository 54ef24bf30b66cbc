/- Areas that are not there. -/
import Derived.Test.YtmgjknlpcnakiaaRfE
namespace Go.Proofs.Ytmgjknlpcnakiaa
open Go Go.RowKit Go.Shelf
attribute [local go_sem] Oper.semAt_some

theorem map_nil (w : World) (page count g : Int) : Calls Try.prog 15 #[.pointer none, .int .i64 page, .int .i64 count, .int .u8 g] w fun e w' => e = .returned (.int .i64 1) ∧ w = w' := by
  go_enter Try.func15, Try.ntmps15
  go_wp2_with fail
  go_ret
  exact ⟨rfl, rfl⟩
theorem un_nil (w : World) (page count : Int) : Calls Try.prog 17 #[.pointer none, .int .i64 page, .int .i64 count] w fun e w' => e = .returned (.int .i64 1) ∧ w = w' := by
  go_enter Try.func17, Try.ntmps17
  go_wp2_with fail
  go_ret
  exact ⟨rfl, rfl⟩
theorem md_nil (w : World) (page count : Int) : Calls Try.prog 16 #[.pointer none, .int .i64 page, .int .i64 count] w fun e w' => e = .returned (.int .i64 1) ∧ w = w' := by
  go_enter Try.func16, Try.ntmps16
  go_wp2_with fail
  go_ret
  exact ⟨rfl, rfl⟩
theorem pr_nil (w : World) (page count g : Int) : Calls Try.prog 18 #[.pointer none, .int .i64 page, .int .i64 count, .int .u8 g] w fun e w' => e = .returned (.int .i64 1) ∧ w = w' := by
  go_enter Try.func18, Try.ntmps18
  go_wp2_with (go_at_call 16; refine (md_nil _ _ _).mono ?_; rintro e w' ⟨rfl, rfl⟩)
  go_ret
  exact ⟨rfl, rfl⟩
theorem iter_nil {j bx : Nat} {W : World} (hbx : Blk W bx 23 #[.pointer none]) : Calls Try.prog 26 #[.func (.yield j) #[] #[], .pointer (some ⟨bx, 0, none⟩)] W fun e W' => (∃ v, e = .returned v) ∧ W = W' := by
  have x0 := hbx.cell 0
  simp at x0
  go_enter Try.func26, Try.ntmps26
  go_wp2_with fail
  refine bodyPost_ret (results_none rfl _ _ _) rfl ?_
  exact ⟨⟨_, rfl⟩, rfl⟩
/-- THE RULE: for range none.Runs() -/
theorem wp_range_nil {g : Operand} {p0 : Tmp} {assign body : Code} {Q : Exit → Act → World → Prop} {a : Act} {w : World} {bx : Nat}
    (hg : a.eval g = .func (.func 26) #[] #[.pointer (some ⟨bx, 0, none⟩)]) (hbx : Blk w bx 23 #[.pointer none])
    (hdone : ∀ D W, w.heap.size ≤ D → W.heap[D]? = some (.deferred (some [])) → Chg [] w W → Q .normal { a with defers := mark D :: a.defers } W) :
    (Code.rangeFunc g #[p0] assign body).wp Try.prog Q a w := by
  refine (wpIn_wide (n := 6)).1 (wpIn_rangeFunc fun fn hfn => ?_)
  obtain ⟨D, hD⟩ : ∃ D, D = w.heap.size := ⟨_, rfl⟩
  obtain ⟨L, hL⟩ : ∃ L, L = w.heap.size + 1 := ⟨_, rfl⟩
  obtain ⟨rec, hrec⟩ : ∃ rec : LoopState → Option Code → Loop, rec = fun st pe => { state := st, pending := pe, fn, tmps := a.tmps, params := #[p0], assign, body, defers := w.heap.size } := ⟨_, rfl⟩
  obtain ⟨W1, hW1⟩ : ∃ W1, (w.alloc (.deferred (some []))).alloc (.loop (rec .ready none)) = W1 := ⟨_, rfl⟩
  have c1 : Chg [] w W1 := by rw [← hW1]; exact ((Chg.refl _ _).alloc _).alloc _
  have r1 : W1.heap[L]? = some (.loop (rec .ready none)) := by
    rw [← hW1, hL]
    have := World.alloc_heap_new (w.alloc (.deferred (some []))) (.loop (rec .ready none))
    rwa [World.size_alloc] at this
  have m1 : W1.heap[D]? = some (.deferred (some [])) := by
    rw [← hW1, hD]
    exact (Below.heap_alloc _ _ _ (by simp)).trans (World.alloc_heap_new w _)
  refine ⟨L, [mark D], W1, { target := .fn (.func 26) #[.pointer (some ⟨bx, 0, none⟩)], args := #[.func (.yield L) #[] #[]] }, W1, 26, #[.func (.yield L) #[] #[], .pointer (some ⟨bx, 0, none⟩)], W1, ?_, ?_, fun _ _ => trivial, ?_, fun _ => by omega, ?_⟩
  · rw [← hW1, hrec, hL, hD]
    exact run_enterLoop_outer _ _ _ _ _
  · simp only [resolve, hg]
    simp [go_sem]
  · simp [invoke]
  · refine (callsIn_wide.2 (iter_nil (hbx.chg c1 List.not_mem_nil))).mono ?_
    rintro e W5 ⟨⟨v, rfl⟩, rfl⟩
    have hrun : (Instr.endLoop L).run Try.prog W1 = .ok none (W1.putObj L (.loop { rec .ready none with state := .exhausted })) := by
      have := run_endLoop (P := Try.prog) r1 (by rw [hrec]; simp)
      rw [hrec] at this ⊢
      exact this
    exact ⟨none, _, hrun, hdone D _ (by omega) ((World.putObj_heap_other (by omega)).trans m1) (c1.trans (chg_put W1 L _ (N := [L]) (by simp)) (fun x hx => .inr (by obtain rfl := List.mem_singleton.1 hx; omega)))⟩
end Go.Proofs.Ytmgjknlpcnakiaa
