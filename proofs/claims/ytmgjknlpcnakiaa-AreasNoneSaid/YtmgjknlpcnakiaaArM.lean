import Derived.Test.YtmgjknlpcnakiaaArL
namespace Go.Proofs.Ytmgjknlpcnakiaa
open Go Go.RowKit Go.Shelf

theorem chg_put (W : World) (r : Nat) (o : Obj) {N : List Nat} (hr : r ∈ N) : Chg N W (W.putObj r o) :=
  ⟨rfl, rfl, rfl, by simp, fun k hk hn => World.putObj_heap_other (fun e => hn (e ▸ hr))⟩
/-- how a round's body is left: it goes on, or it breaks -/
def BodyP (I : List Nat → Nat → World → Prop) (Ix : Nat → List Nat → World → Prop) (N : List Nat) (k : Nat) (W : World) : Exit → Act → World → Prop
  | .normal, _, W' => Keep N W W' ∧ I N (k + 1) W'
  | .exit id, _, W' => Keep N W W' ∧ Ix id N W'
  | _, _, _ => False
def mark (D : Nat) : Deferred := { target := .collected D, args := #[] }
/-- THE RULE: for r := range a.Runs() { .. } -/
theorem wp_range {g : Operand} {p0 : Tmp} {assign body : Code} {Q : Exit → Act → World → Prop} {a : Act} {w : World} {bx d : Nat} {l : List Rn} {F : List Nat}
    (hg : a.eval g = .func (.func 26) #[] #[.pointer (some ⟨bx, 0, none⟩)]) (hbx : Blk w bx 23 #[.pointer (some ⟨d, 0, none⟩)]) (hm : AMem w d l F) (hlen : l.length ≤ 1000)
    (I : List Nat → Nat → World → Prop) (Ix : Nat → List Nat → World → Prop) (A : List Nat → Nat → Act → World → Prop)
    (h0 : ∀ N W, (∀ b ∈ N, w.heap.size ≤ b ∧ b < W.heap.size) → Chg [] w W → I N 0 W)
    (hI : ∀ N k W W', I N k W → Chg N W W' → I N k W') (hIx : ∀ id N W W', Ix id N W → Chg N W W' → Ix id N W') (hA : ∀ N k a' W W', A N k a' W → Chg N W W' → A N k a' W')
    (hassign : ∀ (j : Nat) N k W (K : Act → World → Prop) (hk : k < l.length), I N k W → (∀ a' W', A N k a' W' → Keep N W W' → K a' W') →
      assign.wpIn (Fence.wide.inRound j) 4 Try.prog (Exit.then K (fun _ _ _ => False)) { tmps := a.tmps.setIfInBounds p0 (rv l[k]), defers := [] } W)
    (hbody : ∀ (j : Nat) N k a' W, k < l.length → A N k a' W → body.wpIn (Fence.wide.inRound j) 4 Try.prog (BodyP I Ix N k W) a' W)
    (hdone : ∀ N D W, D ∈ N → w.heap.size ≤ D → I N l.length W → W.heap[D]? = some (.deferred (some [])) → Q .normal { a with defers := mark D :: a.defers } W)
    (hstop : ∀ id N D W, D ∈ N → w.heap.size ≤ D → Ix id N W → W.heap[D]? = some (.deferred (some [])) → (Code.exit id).wp Try.prog Q { a with defers := mark D :: a.defers } W) :
    (Code.rangeFunc g #[p0] assign body).wp Try.prog Q a w := by
  refine (wpIn_wide (n := 6)).1 (wpIn_rangeFunc fun fn hfn => ?_)
  obtain ⟨D, hD⟩ : ∃ D, D = w.heap.size := ⟨_, rfl⟩
  obtain ⟨L, hL⟩ : ∃ L, L = w.heap.size + 1 := ⟨_, rfl⟩
  obtain ⟨rec, hrec⟩ : ∃ rec : LoopState → Option Code → Loop, rec = fun st pe => { state := st, pending := pe, fn, tmps := a.tmps, params := #[p0], assign, body, defers := w.heap.size } := ⟨_, rfl⟩
  obtain ⟨W1, hW1⟩ : ∃ W1, (w.alloc (.deferred (some []))).alloc (.loop (rec .ready none)) = W1 := ⟨_, rfl⟩
  have c1 : Chg [] w W1 := by rw [← hW1]; exact ((Chg.refl _ _).alloc _).alloc _
  have s1 : W1.heap.size = w.heap.size + 2 := by rw [← hW1]; simp
  have r1 : W1.heap[L]? = some (.loop (rec .ready none)) := by
    rw [← hW1, hL]
    have := World.alloc_heap_new (w.alloc (.deferred (some []))) (.loop (rec .ready none))
    rwa [World.size_alloc] at this
  have m1 : W1.heap[D]? = some (.deferred (some [])) := by
    rw [← hW1, hD]
    exact (Below.heap_alloc _ _ _ (by simp)).trans (World.alloc_heap_new w _)
  refine ⟨L, [mark D], W1, { target := .fn (.func 26) #[.pointer (some ⟨bx, 0, none⟩)], args := #[.func (.yield L) #[] #[]] }, W1, 26, #[.func (.yield L) #[] #[], .pointer (some ⟨bx, 0, none⟩)], W1, ?_, ?_, fun _ _ => trivial, ?_, fun _ => by omega, ?_⟩
  · rw [← hW1, hrec, hL, hD]
    exact run_enterLoop_outer _ _ _ _ _
  · simp only [resolve, hg]
    simp [go_sem]
  · have := enters_of Try.func26 (by kernel_rfl) rfl
    simp [invoke, this]
  · -- what is said between the rounds: the loop's record is ready, its mark is there
    have hkeepL : ∀ {N0 : List Nat} {A B : World}, (∀ b ∈ N0, W1.heap.size ≤ b) → Keep (D :: L :: N0) A B → Keep N0 A B := fun _ h => h.sub (fun b hb => List.mem_cons_of_mem _ (List.mem_cons_of_mem _ hb))
    refine (iter_in (hbx.chg c1 List.not_mem_nil) (hm.stay c1) hlen
      (fun N0 k W => I (D :: L :: N0) k W ∧ W.heap[L]? = some (.loop (rec .ready none)) ∧ W.heap[D]? = some (.deferred (some [])) ∧ ∀ b ∈ N0, W1.heap.size ≤ b)
      (fun W => ∃ id N, D ∈ N ∧ L ∈ N ∧ Ix id N W ∧ W.heap[L]? = some (.loop (rec .done (some (.exit id)))) ∧ W.heap[D]? = some (.deferred (some [])))
      ?_ ?_ ?_).mono ?_
    · intro N0 W2 hN hc
      refine ⟨h0 _ _ (fun b hb => ?_) (c1.stay hc), (hc.block L (by omega) List.not_mem_nil).trans r1, (hc.block D (by omega) List.not_mem_nil).trans m1, fun b hb => (hN b hb).1⟩
      have := hc.size
      rcases List.mem_cons.1 hb with rfl | hb
      · omega
      · rcases List.mem_cons.1 hb with rfl | hb
        · omega
        · have := hN b hb; omega
    · rintro N0 k A2 B2 ⟨i1, i2, i3, i4⟩ hc
      exact ⟨hI _ _ _ _ i1 (hc.up _), (hc.block L (Array.getElem?_eq_some_iff.1 i2).1 List.not_mem_nil).trans i2, (hc.block D (Array.getElem?_eq_some_iff.1 i3).1 List.not_mem_nil).trans i3, i4⟩
    · rintro N0 k W2 hk ⟨i1, i2, i3, i4⟩
      have hLN : L ∈ D :: L :: N0 := by simp
      have hne : D ≠ L := by omega
      have hL0 : L ∉ N0 := fun h => by have := i4 L h; omega
      have hb0 : ∀ b ∈ N0, b ≠ L := fun b hb (e : b = L) => hL0 (e ▸ hb)
      have hy := run_yield (P := Try.prog) (args := #[rv l[k]]) i2 (by rw [hrec]; rfl)
      refine ⟨_, _, _, _, hy, roundIn_of_wpIn (by rw [hrec]; exact hfn) ?_⟩
      have etm : (((rec .ready none).params.zip #[rv l[k]]).foldl (fun tmps (t, a) => tmps.setIfInBounds t a) (rec .ready none).tmps) = a.tmps.setIfInBounds p0 (rv l[k]) := by rw [hrec]; simp
      rw [etm]
      have ea : (rec .ready none).assign = assign := by rw [hrec]
      have eb : (rec .ready none).body = body := by rw [hrec]
      rw [ea, eb]
      refine hassign L _ k W2 _ hk i1 fun a' W3 hA3 hK3 => ?_
      have l3 : W3.heap[L]? = some (.loop (rec .ready none)) := (hK3 L hLN).trans i2
      have d3 : W3.heap[D]? = some (.deferred (some [])) := (hK3 D (by simp)).trans i3
      refine ⟨_, run_beginRound l3 (by rw [hrec]), ?_⟩
      have l4 : (W3.putObj L (.loop { rec .ready none with state := .busy })).heap[L]? = some (.loop { rec .ready none with state := .busy }) := World.putObj_heap_same (Array.getElem?_eq_some_iff.1 l3).1
      have d4 : (W3.putObj L (.loop { rec .ready none with state := .busy })).heap[D]? = some (.deferred (some [])) := (World.putObj_heap_other hne).trans d3
      refine wpIn_mono (hbody L _ k a' _ hk (hA _ _ _ _ _ hA3 (chg_put W3 L _ hLN))) ?_
      have k4 : Keep N0 W2 (W3.putObj L (.loop { rec .ready none with state := .busy })) := fun b hb => (World.putObj_heap_other (hb0 b hb)).trans (hK3 b (List.mem_cons_of_mem _ (List.mem_cons_of_mem _ hb)))
      rintro e a5 W5 hp
      cases e with
      | normal =>
        obtain ⟨hK5, i5⟩ := hp
        have l5 := (hK5 L hLN).trans l4
        have hrun := run_endRound (P := Try.prog) none l5
        refine ⟨_, _, hrun, .inl ⟨rfl, ⟨hI _ _ _ _ i5 (chg_put W5 L _ hLN), ?_, (World.putObj_heap_other hne).trans ((hK5 D (by simp)).trans d4), i4⟩, fun b hb => (World.putObj_heap_other (hb0 b hb)).trans ((hK5 b (List.mem_cons_of_mem _ (List.mem_cons_of_mem _ hb))).trans (k4 b hb))⟩⟩
        have := World.putObj_heap_same (o := .loop (rec .ready none)) (Array.getElem?_eq_some_iff.1 l5).1
        rw [hrec] at this ⊢
        exact this
      | exit id =>
        obtain ⟨hK5, i5⟩ := hp
        have l5 := (hK5 L hLN).trans l4
        have hrun := run_endRound (P := Try.prog) (some (.exit id)) l5
        refine ⟨_, _, hrun, .inr ⟨rfl, id, _, by simp, hLN, hIx _ _ _ _ i5 (chg_put W5 L _ hLN), ?_, (World.putObj_heap_other hne).trans ((hK5 D (by simp)).trans d4)⟩⟩
        have := World.putObj_heap_same (o := .loop (rec .done (some (.exit id)))) (Array.getElem?_eq_some_iff.1 l5).1
        rw [hrec] at this ⊢
        exact this
      | ret => exact hp.elim
      | goto t => exact hp.elim
      | panic ch => exact hp.elim
      | outgrown => exact hp.elim
    · rintro e W5 ⟨⟨v, rfl⟩, (⟨N0, i1, i2, i3, i4⟩ | ⟨id, N, hDN, hLN, i1, i2, i3⟩)⟩
      · have hrun : (Instr.endLoop L).run Try.prog W5 = .ok none (W5.putObj L (.loop { rec .ready none with state := .exhausted })) := by
          have := run_endLoop (P := Try.prog) i2 (by rw [hrec]; simp)
          rw [hrec] at this ⊢
          exact this
        exact ⟨none, _, hrun, hdone (D :: L :: N0) D _ (by simp) (by omega) (hI _ _ _ _ i1 (chg_put W5 L _ (by simp))) ((World.putObj_heap_other (by omega)).trans i3)⟩
      · have hrun : (Instr.endLoop L).run Try.prog W5 = .ok (some (.exit id)) (W5.putObj L (.loop { rec .done (some (.exit id)) with state := .exhausted })) := by
          have := run_endLoop (P := Try.prog) i2 (by rw [hrec]; simp)
          rw [hrec] at this ⊢
          exact this
        exact ⟨some (.exit id), _, hrun, wpIn_wide.2 (hstop id N D _ hDN (by omega) (hIx _ _ _ _ i1 (chg_put W5 L _ hLN)) ((World.putObj_heap_other (by omega)).trans i3))⟩
end Go.Proofs.Ytmgjknlpcnakiaa
