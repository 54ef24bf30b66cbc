/- The rule of a range over Leaves. -/
import Derived.Test.YtblkfikcfgocgaaTbN
namespace Go.Proofs.Ytblkfikcfgocgaa
open Go Go.RowKit Go.Shelf

theorem chg_put (W : World) (r : Nat) (o : Obj) {N : List Nat} (hr : r ∈ N) : Chg N W (W.putObj r o) :=
  ⟨rfl, rfl, rfl, by simp, fun k hk hn => World.putObj_heap_other (fun e => hn (e ▸ hr))⟩
def mark (D : Nat) : Deferred := { target := .collected D, args := #[] }
/-- what a range over Leaves keeps: the memory, the boxes of the iterator, and what the body needs -/
structure LfI (w : World) (a gb gm : Nat) (V : Nat → Nat → Nat) (M : List Mk) (c : Cf) (b1 b2 : Nat) (F N : List Nat) (W : World) : Prop where
  tm : TM W a gb gm c 4 V M
  h1 : Blk W b1 28 #[.pointer (some ⟨a, 0, none⟩)]
  h2 : Blk W b2 3 #[.int .i64 0]
  ch : Chg F w W
  nw : ∀ b ∈ N, w.heap.size ≤ b ∧ b < W.heap.size
theorem TM.chg {w w' : World} {a gb gm : Nat} {c : Cf} {n : Nat} {V : Nat → Nat → Nat} {M : List Mk} {F : List Nat} (h : TM w a gb gm c n V M) (hc : Chg F w w') (h1 : a ∉ F) (h2 : gb ∉ F) (h3 : gm ∉ F) : TM w' a gb gm c n V M := by
  obtain ⟨B, hf, hv⟩ := h
  exact ⟨B, hf.chg hc h1 h2 h3, hv⟩
theorem TM.lts {w : World} {a gb gm : Nat} {c : Cf} {n : Nat} {V : Nat → Nat → Nat} {M : List Mk} (h : TM w a gb gm c n V M) : a < w.heap.size ∧ gb < w.heap.size ∧ gm < w.heap.size := by
  obtain ⟨B, hf, hv⟩ := h
  exact hf.lt
/-- how a round's body is left: it goes on -/
def BodyP (I : List Nat → Nat → World → Prop) (N : List Nat) (k : Nat) (W : World) : Exit → Act → World → Prop
  | .normal, _, W' => Keep N W W' ∧ I N (k + 1) W'
  | _, _, _ => False
set_option maxHeartbeats 1000000 in
/-- THE RULE: for at, frame := range table.Leaves(m, 0) { .. } -/
theorem wp_leaves {g : Operand} {p0 p1 : Tmp} {assign body : Code} {Q : Exit → Act → World → Prop} {a : Act} {w : World} {b1 b2 pa gb gm : Nat} {V : Nat → Nat → Nat} {M : List Mk} {c : Cf} {wt : Nat → Nat}
    (hwt : ∀ i : Nat, i < 32 → lfE 4 V 0 (32 * (i : Int)) = (if wt i = 0 then 7 else 0) ∧ lfN 4 V 0 (32 * (i : Int)) = wt i)
    (hg : a.eval g = .func (.func 49) #[] #[.pointer (some ⟨b1, 0, none⟩), .pointer (some ⟨b2, 0, none⟩)])
    (I : List Nat → Nat → World → Prop) (A : List Nat → Nat → Act → World → Prop)
    (hT : ∀ N i W, I N i W → TM W pa gb gm c 4 V M ∧ Blk W b1 28 #[.pointer (some ⟨pa, 0, none⟩)] ∧ Blk W b2 3 #[.int .i64 0])
    (h0 : ∀ N W, (∀ b ∈ N, w.heap.size ≤ b ∧ b < W.heap.size) → Chg [] w W → I N 0 W)
    (hI : ∀ N i W W', I N i W → Chg N W W' → I N i W') (hA : ∀ N i a' W W', A N i a' W → Chg N W W' → A N i a' W')
    (hskip : ∀ N i W, i < 32 → wt i = 0 → I N i W → I N (i + 1) W)
    (hassign : ∀ (j : Nat) N i W (K : Act → World → Prop), i < 32 → wt i ≠ 0 → I N i W → (∀ a' W', A N i a' W' → Keep N W W' → K a' W') →
      assign.wpIn (Fence.wide.inRound j) 4 Try.prog (Exit.then K (fun _ _ _ => False)) { tmps := (a.tmps.setIfInBounds p0 (.int .i64 (i : Int))).setIfInBounds p1 (.int .i64 (wt i : Int)), defers := [] } W)
    (hbody : ∀ (j : Nat) N i a' W, i < 32 → wt i ≠ 0 → A N i a' W → body.wpIn (Fence.wide.inRound j) 4 Try.prog (BodyP I N i W) a' W)
    (hdone : ∀ N D W, D ∈ N → w.heap.size ≤ D → I N 32 W → W.heap[D]? = some (.deferred (some [])) → Q .normal { a with defers := mark D :: a.defers } W) :
    (Code.rangeFunc g #[p0, p1] assign body).wp Try.prog Q a w := by
  refine (wpIn_wide (n := 6)).1 (wpIn_rangeFunc fun fn hfn => ?_)
  obtain ⟨D, hD⟩ : ∃ D, D = w.heap.size := ⟨_, rfl⟩
  obtain ⟨L, hL⟩ : ∃ L, L = w.heap.size + 1 := ⟨_, rfl⟩
  obtain ⟨rec, hrec⟩ : ∃ rec : LoopState → Option Code → Loop, rec = fun st pe => { state := st, pending := pe, fn, tmps := a.tmps, params := #[p0, p1], assign, body, defers := w.heap.size } := ⟨_, rfl⟩
  obtain ⟨W1, hW1⟩ : ∃ W1, (w.alloc (.deferred (some []))).alloc (.loop (rec .ready none)) = W1 := ⟨_, rfl⟩
  have c1 : Chg [] w W1 := by rw [← hW1]; exact ((Chg.refl _ _).alloc _).alloc _
  have s1 : W1.heap.size = w.heap.size + 2 := by rw [← hW1]; simp
  have r1 : W1.heap[L]? = some (.loop (rec .ready none)) := by
    rw [← hW1, hL]
    have := World.alloc_heap_new (w.alloc (.deferred (some []))) (.loop (rec .ready none))
    rwa [World.size_alloc] at this
  have m1 : W1.heap[D]? = some (.deferred (some [])) := by
    rw [← hW1, hD]
    exact (Below.heap_alloc _ _ _ (by simp)).trans (World.alloc_heap_new w _)
  refine ⟨L, [mark D], W1, { target := .fn (.func 49) #[.pointer (some ⟨b1, 0, none⟩), .pointer (some ⟨b2, 0, none⟩)], args := #[.func (.yield L) #[] #[]] }, W1, 49, #[.func (.yield L) #[] #[], .pointer (some ⟨b1, 0, none⟩), .pointer (some ⟨b2, 0, none⟩)], W1, ?_, ?_, fun _ _ => trivial, ?_, fun _ => by omega, ?_⟩
  · rw [← hW1, hrec, hL, hD]
    exact run_enterLoop_outer _ _ _ _ _
  · simp only [resolve, hg]
    simp [go_sem]
  · have := enters_of Try.func49 (by kernel_rfl) rfl
    simp [invoke, this]
  · refine (iter2 (a := pa) (gb := gb) (gm := gm) (M := M) (c := c) hwt
      (fun i W => I [D, L] i W ∧ W.heap[L]? = some (.loop (rec .ready none)) ∧ W.heap[D]? = some (.deferred (some [])))
      ?_ ?_ ?_ ?_ ?_).mono ?_
    · rintro i W2 ⟨i1, -, -⟩
      exact hT _ _ _ i1
    · refine ⟨h0 _ _ (fun b hb => ?_) c1, r1, m1⟩
      simp at hb
      omega
    · rintro k A2 B2 ⟨i1, i2, i3⟩ hc
      exact ⟨hI _ _ _ _ i1 (hc.up _), (hc.block L (Array.getElem?_eq_some_iff.1 i2).1 List.not_mem_nil).trans i2, (hc.block D (Array.getElem?_eq_some_iff.1 i3).1 List.not_mem_nil).trans i3⟩
    · rintro k W2 hk hz ⟨i1, i2, i3⟩
      exact ⟨hskip _ _ _ hk hz i1, i2, i3⟩
    · rintro k W2 hk hz ⟨i1, i2, i3⟩
      have hLN : L ∈ [D, L] := by simp
      have hne : D ≠ L := by omega
      have hy := run_yield (P := Try.prog) (args := #[.int .i64 (k : Int), .int .i64 (wt k : Int)]) i2 (by rw [hrec]; rfl)
      refine ⟨_, _, _, _, hy, roundIn_of_wpIn (by rw [hrec]; exact hfn) ?_⟩
      have etm : (((rec .ready none).params.zip #[.int .i64 (k : Int), .int .i64 (wt k : Int)]).foldl (fun tmps (t, a) => tmps.setIfInBounds t a) (rec .ready none).tmps) = (a.tmps.setIfInBounds p0 (.int .i64 (k : Int))).setIfInBounds p1 (.int .i64 (wt k : Int)) := by rw [hrec]; simp
      rw [etm]
      have ea : (rec .ready none).assign = assign := by rw [hrec]
      have eb : (rec .ready none).body = body := by rw [hrec]
      rw [ea, eb]
      refine hassign L _ k W2 _ hk hz i1 fun a' W3 hA3 hK3 => ?_
      have l3 : W3.heap[L]? = some (.loop (rec .ready none)) := (hK3 L hLN).trans i2
      have d3 : W3.heap[D]? = some (.deferred (some [])) := (hK3 D (by simp)).trans i3
      refine ⟨_, run_beginRound l3 (by rw [hrec]), ?_⟩
      have l4 : (W3.putObj L (.loop { rec .ready none with state := .busy })).heap[L]? = some (.loop { rec .ready none with state := .busy }) := World.putObj_heap_same (Array.getElem?_eq_some_iff.1 l3).1
      have d4 : (W3.putObj L (.loop { rec .ready none with state := .busy })).heap[D]? = some (.deferred (some [])) := (World.putObj_heap_other hne).trans d3
      refine wpIn_mono (hbody L _ k a' _ hk hz (hA _ _ _ _ _ hA3 (chg_put W3 L _ hLN))) ?_
      rintro e a5 W5 hp
      cases e with
      | normal =>
        obtain ⟨hK5, i5⟩ := hp
        have l5 := (hK5 L hLN).trans l4
        have hrun := run_endRound (P := Try.prog) none l5
        refine ⟨_, _, hrun, rfl, hI _ _ _ _ i5 (chg_put W5 L _ hLN), ?_, (World.putObj_heap_other hne).trans ((hK5 D (by simp)).trans d4)⟩
        have := World.putObj_heap_same (o := .loop (rec .ready none)) (Array.getElem?_eq_some_iff.1 l5).1
        rw [hrec] at this ⊢
        exact this
      | exit id => exact hp.elim
      | ret => exact hp.elim
      | goto t => exact hp.elim
      | panic ch => exact hp.elim
      | outgrown => exact hp.elim
    · rintro e W5 ⟨⟨v, rfl⟩, i1, i2, i3⟩
      have hrun : (Instr.endLoop L).run Try.prog W5 = .ok none (W5.putObj L (.loop { rec .ready none with state := .exhausted })) := by
        have := run_endLoop (P := Try.prog) i2 (by rw [hrec]; simp)
        rw [hrec] at this ⊢
        exact this
      exact ⟨none, _, hrun, hdone _ D _ (by simp) (by omega) (hI _ _ _ _ i1 (chg_put W5 L _ (by simp))) ((World.putObj_heap_other (by omega)).trans i3)⟩
/-! ## A function whose body ranges over a function -/
theorem calls_marks {f : FuncId} {fn : Func} {c : Code} {args : Array Value} {w : World} {R : Ending → World → Prop} (hf : Try.prog.funcs[f]? = some fn) (hb : fn.body = some c)
    (h : c.wp Try.prog (bodyPostM Fence.wide 6 Try.prog fn R) { tmps := args ++ Array.replicate (fn.ntmps - args.size) undef, defers := [] } w) : Calls Try.prog f args w R :=
  callsIn_wide.1 (callsIn_of_wp_marks (n := 6) hf hb trivial (wpIn_wide.2 h))
def Marks (Ds : List Nat) (W : World) : Prop := Ds.Nodup ∧ ∀ D ∈ Ds, W.heap[D]? = some (.deferred (some []))
theorem leaves_marks {fn : Func} {tmps : Array Value} {R : Ending → World → Prop} {v : Value} : ∀ {Ds : List Nat} {W : World}, Marks Ds W → (∀ W', Chg Ds W W' → (results fn tmps).run Try.prog W' = .ok v W' ∧ R (.returned v) W') →
    LeavesInM Fence.wide 6 Try.prog fn tmps R (Ds.map mark) .returning W
  | [], W, _, h => by
    obtain ⟨h1, h2⟩ := h W (Chg.refl _ _)
    exact ⟨v, h1, h2⟩
  | D :: Ds, W, ⟨hnd, hm⟩, h => by
    have h1 := hm D (List.mem_cons_self ..)
    obtain ⟨hn1, hn2⟩ := List.nodup_cons.1 hnd
    refine ⟨by simp, .inl ⟨D, _, rfl, run_takeDeferred h1, leaves_marks ⟨hn2, fun E hE => (World.putObj_heap_other (show E ≠ D from fun e => hn1 (e ▸ hE))).trans (hm E (List.mem_cons_of_mem _ hE))⟩ fun W' hc => h W' ?_⟩⟩
    exact (chg_put W D _ (List.mem_cons_self ..)).trans hc (fun x hx => .inl (List.mem_cons_of_mem _ hx))
theorem post_marks {fn : Func} {R : Ending → World → Prop} {v : Value} {tmps : Array Value} {Ds : List Nat} {W : World} (hM : Marks Ds W) (h : ∀ W', Chg Ds W W' → (results fn tmps).run Try.prog W' = .ok v W' ∧ R (.returned v) W') :
    bodyPostM Fence.wide 6 Try.prog fn R .ret { tmps := tmps, defers := Ds.map mark } W := leaves_marks hM h
/-! ## A loop in which the marks grow -/
def setAll (T : Array Value) : List Nat → List Value → Array Value
  | i :: is, v :: vs => setAll (T.setIfInBounds i v) is vs
  | _, _ => T
/-- what a round leaves -/
def RoundEnd (T : Array Value) (slots : List Nat) (rel : Nat → List Value → List Nat → World → Prop) (n : Nat) (a' : Act) (w' : World) : Prop :=
  ∃ n' us' ds', n' < n ∧ rel n' us' ds' w' ∧ Marks ds' w' ∧ a' = { tmps := setAll T slots us', defers := ds'.map mark }
theorem RoundEnd.of {T : Array Value} {sl : List Nat} {rel : Nat → List Value → List Nat → World → Prop} {n : Nat} {a' : Act} {w' : World} (n' : Nat) (ds' : List Nat) (hlt : n' < n) (hM : Marks ds' w')
    (h : ∃ us', a' = { tmps := setAll T sl us', defers := ds'.map mark } ∧ rel n' us' ds' w') : RoundEnd T sl rel n a' w' := by
  obtain ⟨us', h1, h2⟩ := h
  exact ⟨n', us', ds', hlt, h2, hM, h1⟩
theorem exU {p : List Value → Prop} (h : ∃ x, ∃ l, p (x :: l)) : ∃ l, p l := by
  obtain ⟨x, l, h⟩ := h
  exact ⟨x :: l, h⟩
theorem exNil {p : List Value → Prop} (h : p []) : ∃ l, p l := ⟨[], h⟩
theorem wp_loop_marks {c : Code} {Q : Exit → Act → World → Prop} {T : Array Value} {w : World} {ds0 : List Nat} (slots : List Nat) (rel : Nat → List Value → List Nat → World → Prop) (n0 : Nat) (us0 : List Value)
    (h0 : rel n0 us0 ds0 w) (hT : T = setAll T slots us0) (hM : Marks ds0 w)
    (round : ∀ T' sl rel' n us ds w, T' = T → sl = slots → rel' = rel → rel n us ds w → Marks ds w → c.wp Try.prog (Exit.then (RoundEnd T' sl rel' n) Q) { tmps := setAll T slots us, defers := ds.map mark } w) :
    (Code.loop c).wp Try.prog Q { tmps := T, defers := ds0.map mark } w := by
  refine wp_loop_ghost (fun n a w => ∃ us ds, rel n us ds w ∧ Marks ds w ∧ a = { tmps := setAll T slots us, defers := ds.map mark }) n0 ⟨us0, ds0, h0, hM, by rw [← hT]⟩ ?_
  rintro n a w ⟨us, ds, hr, hm, rfl⟩
  refine wp_mono (round T slots rel n us ds w rfl rfl rfl hr hm) ?_
  intro e a' w' hq
  cases e with
  | normal =>
    obtain ⟨n', us', ds', h1, h2, h3, h4⟩ := hq
    exact ⟨n', h1, us', ds', h2, h3, h4⟩
  | exit id => exact hq
  | goto l => exact hq
  | ret => exact hq
  | panic ch => exact hq
  | outgrown => exact hq
theorem res_box {fn : Func} {tmps : Array Value} {W : World} {t br : Nat} (h : fn.results = #[.cell t 4]) (ht : tmps.getD t undef = .pointer (some ⟨br, 0, none⟩)) (hb : Blk W br 4 #[.bool true]) : (results fn tmps).run Try.prog W = .ok (.bool true) W := by
  have hc := hb.cell 0
  simp at hc
  have ht' : tmps[t]?.getD undef = .pointer (some ⟨br, 0, none⟩) := by simpa using ht
  simp [results, h, ht', go_sem, hc]
theorem blk_res {W : World} {br : Nat} {x : Bool} (h : Blk W br 4 #[.bool x]) : W.cell? ⟨br, 0, none⟩ = some (.bool x) ∧ W.frozen? ⟨br, 0, none⟩ = false ∧ Blk (W.setCell ⟨br, 0, none⟩ (.bool true)) br 4 #[.bool true] := by
  have hc := h.cell 0
  simp at hc
  have := h.set_ 0 (.bool true)
  exact ⟨hc, h.frozen 0, by simpa using this⟩
theorem fn_nil (p q : Value) (W : World) : (binOp .eql 74 (.func (.func 49) #[] #[p, q]) Value.nilFunc).run Try.prog W = .ok (.bool false) W := by
  have h : ∀ d : Nat, (Op.equalIn (d + 1) 74 (.func (.func 49) #[] #[p, q]) Value.nilFunc).run Try.prog W = .ok false W := fun d => by
    simp [Op.equalIn, run_underlying Try.underlying74]
  simp [binOp, Op.equal, Op.maxDepth, h 9999]
theorem leaves_any (W : World) (a : Nat) (f : Int) : Calls Try.prog 32 #[.pointer (some ⟨a, 0, none⟩), .int .i64 f] W fun e W' => e = .returned (.func (.func 49) #[] #[.pointer (some ⟨W.heap.size, 0, none⟩), .pointer (some ⟨W.heap.size + 1, 0, none⟩)]) ∧ Blk W' W.heap.size 28 #[.pointer (some ⟨a, 0, none⟩)] ∧ Blk W' (W.heap.size + 1) 3 #[.int .i64 f] ∧ Chg [] W W' := by
  have h1 : Blk ((W.alloc (.cells #[.pointer (some ⟨a, 0, none⟩)] 28)).alloc (.cells #[.int .i64 f] 3)) W.heap.size 28 #[.pointer (some ⟨a, 0, none⟩)] := (Blk.new W 28 _).alloc _
  have h2 : Blk ((W.alloc (.cells #[.pointer (some ⟨a, 0, none⟩)] 28)).alloc (.cells #[.int .i64 f] 3)) (W.heap.size + 1) 3 #[.int .i64 f] := by
    have := Blk.new (W.alloc (.cells #[.pointer (some ⟨a, 0, none⟩)] 28)) 3 #[.int .i64 f]
    rwa [World.size_alloc] at this
  have HB := hide (And.intro h1 h2)
  clear h1 h2
  go_enter Try.func32, Try.ntmps32
  go_wp2_with fail
  go_ret
  exact ⟨rfl, HB.out.1, HB.out.2, ((Chg.refl [] W).alloc _).alloc _⟩
end Go.Proofs.Ytblkfikcfgocgaa
