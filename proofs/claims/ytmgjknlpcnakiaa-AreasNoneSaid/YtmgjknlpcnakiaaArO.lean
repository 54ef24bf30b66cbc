import Derived.Test.YtmgjknlpcnakiaaArN
namespace Go.Proofs.Ytmgjknlpcnakiaa
open Go Go.RowKit Go.Shelf
attribute [local go_sem] Oper.semAt_some

theorem fn_nil (p : Value) (W : World) : (binOp .eql 32 (.func (.func 26) #[] #[p]) Value.nilFunc).run Try.prog W = .ok (.bool false) W := by
  have h : ∀ d : Nat, (Op.equalIn (d + 1) 32 (.func (.func 26) #[] #[p]) Value.nilFunc).run Try.prog W = .ok false W := fun d => by
    simp [Op.equalIn, run_underlying Try.underlying32]
  simp [binOp, Op.equal, Op.maxDepth, h 9999]
theorem neq_rn (w : World) (a b g c d h : Int) : (binOp .neq 30 (.agg #[.int .i64 a, .int .i64 b, .int .u8 g]) (.agg #[.int .i64 c, .int .i64 d, .int .u8 h])).run Try.prog w = .ok (.bool (!(a == c && b == d && g == h))) w := by
  have hf : ((Try.prog.fieldsOf 30).toList.map fun f => (f.type, f.offset, f.name)) = [(3, 0, "Page"), (3, 1, "Count"), (5, 2, "Rights")] := by kernel_rfl
  rw [run_neq_struct, run_equalIn_agg _ _ _ _ _ (by kernel_rfl) (by kernel_rfl)]
  generalize (Try.prog.fieldsOf 30).toList = fs at hf ⊢
  have hq : ∀ (a b : Int) (w : World), (Op.equalIn 9999 3 (.int .i64 a) (.int .i64 b)).run Try.prog w = .ok (a == b) w := fun a b w => run_equalIn_int w 9998 3 .i64 .i64 a b Try.underlying3
  have hq5 : ∀ (a b : Int) (w : World), (Op.equalIn 9999 5 (.int .u8 a) (.int .u8 b)).run Try.prog w = .ok (a == b) w := fun a b w => run_equalIn_int w 9998 5 .u8 .u8 a b Try.underlying5
  rcases fs with _ | ⟨f1, _ | ⟨f2, _ | ⟨f3, _ | ⟨f4, t⟩⟩⟩⟩
  · simp at hf
  · simp at hf
  · simp at hf
  · simp only [List.map_cons, List.map_nil, List.cons.injEq, Prod.mk.injEq, and_true] at hf
    obtain ⟨⟨h1, h2, h3⟩, ⟨h4, h5, h6⟩, h7, h8, h9⟩ := hf
    cases hac : (a == c) <;> cases hbd : (b == d) <;> cases hgh : (g == h) <;> simp [Op.eqFields, h1, h2, h3, h4, h5, h6, h7, h8, h9, part, isAgg, run_underlying Try.underlying3, run_underlying Try.underlying5, hq, hq5, hac, hbd, hgh]
  · simp at hf
theorem wpG_neq_rn {S : World → Prop} {Q : Exit → Act → World → Prop} {o : Oper} {rest : List Oper} {ks : List Nat} {gs : List (Option (Nat × Bool))} {A : Act} {w : World} (x y : Operand) (t : TypeId) (ho : o.op = .binOp .neq 30 x y t) {a b g c d h : Int}
    (hx : A.eval x = .agg #[.int .i64 a, .int .i64 b, .int .u8 g]) (hy : A.eval y = .agg #[.int .i64 c, .int .i64 d, .int .u8 h]) (r : Bool) (hr : (!(a == c && b == d && g == h)) = r) (hk : wpG Try.prog S Q rest ks gs (A.put o.dst (.bool r)) w) :
    wpG Try.prog S Q (o :: rest) (0 :: ks) (none :: gs) A w := by
  refine wpG_pure (fun K hK => ⟨_, fun w' => ?_, hK _ _ hk⟩)
  unfold execOp
  simp only [ho, hx, hy, Sem.run_bind, run_eqGuard_agg w' .neq 30 x y _ _ (show Try.prog.eqGuardType Try.prog.depth 30 = false by kernel_rfl), Result.andThen_ok, neq_rn, Sem.run_pure, hr]
theorem wpListIn_append_rn {F : Fence} {n' : Nat} {ops : Array Oper} {rest : List Oper} {o : Oper} {a : Act} {w : World} {Q : Exit → Act → World → Prop} (hg : o.guard = none) (s x : Operand)
    (ho : o.op = .call { callee := .builtin .append, args := #[s, x], argTypes := #[38, 38] }) (v y : Value) (hs : a.eval s = v) (hx : a.eval x = y) {l m : List Rn} (hv : SR w v l) (hy : RR w y m) (hlen : l.length + m.length ≤ 1000000)
    (h : ∀ A n c w', Hid (n = (l ++ m).length) → SR w' (.slice A n c) (l ++ m) → Chg (own v) w w' → Grow w v (.slice A n c) → wpListIn F n' Try.prog ops Q rest (a.put o.dst (.slice A n c)) w') :
    wpListIn F n' Try.prog ops Q (o :: rest) a w := by
  refine wpListIn_plain hg fun K hK => ?_
  obtain ⟨v', w', hrun, h2, h3, h4⟩ := run_append_rn hv hy hlen o.type
  obtain ⟨A, c, rfl⟩ := h2.form
  have el : (l ++ m).length = l.length + m.length := by simp
  rw [el] at h2 h4 hrun
  unfold Oper.wpIn
  refine ⟨?_, ?_⟩
  · simp [Oper.about, ho, resolve, Target.leads, Sem.run_pure]
  · rw [Oper.semAt_plain F _ _ (by rw [ho]; intro c hc; cases hc)]
    simp [execOp, ho, resolve, invoke, builtin, hs, hx, hrun, Result.andThen]
    exact hK _ _ (h A _ c w' (hide el.symm) h2 h3 (grow_of h4))

/-- THE RULE of a loop that gathers what comes in a box -/
theorem wp_collect {g : Operand} {p0 q0 : Nat} {assign body : Code} {Q : Exit → Act → World → Prop} {a : Act} {w : World} {bx d : Nat} {l L0 : List Rn} {F : List Nat} {b1 : Nat} {A1 : Option Addr} {n1 c1 : Nat}
    (hg : a.eval g = .func (.func 26) #[] #[.pointer (some ⟨bx, 0, none⟩)]) (hbx : Blk w bx 23 #[.pointer (some ⟨d, 0, none⟩)]) (hm : AMem w d l F) (hlen : l.length ≤ 1000) (hL0 : L0.length ≤ 1000)
    (hb1 : Blk w b1 38 #[.slice A1 n1 c1]) (hs1 : SR w (.slice A1 n1 c1) L0)
    (hassign : ∀ (j : Nat) (r : Rn) (W : World) (K : Act → World → Prop), K { tmps := (a.tmps.setIfInBounds p0 (rv r)).setIfInBounds q0 (.pointer (some ⟨W.heap.size, 0, none⟩)), defers := [] } (W.alloc (.cells #[.int .i64 r.p, .int .i64 r.c, .int .u8 r.g] 30)) →
      assign.wpIn (Fence.wide.inRound j) 4 Try.prog (Exit.then K (fun _ _ _ => False)) { tmps := a.tmps.setIfInBounds p0 (rv r), defers := [] } W)
    (hbody : ∀ (j B : Nat) (r : Rn) (A : Option Addr) (n c : Nat) (L : List Rn) (W : World) (Q' : Exit → Act → World → Prop), Blk W b1 38 #[.slice A n c] → Blk W B 30 #[.int .i64 r.p, .int .i64 r.c, .int .u8 r.g] → SR W (.slice A n c) L → L.length ≤ 100000 →
      (∀ a' A' n' c' W', SR W' (.slice A' n' c') (L ++ [r]) → Chg (own (.slice A n c)) W W' → Grow W (.slice A n c) (.slice A' n' c') → Q' .normal a' (W'.setCell ⟨b1, 0, none⟩ (.slice A' n' c'))) →
      body.wpIn (Fence.wide.inRound j) 4 Try.prog Q' { tmps := (a.tmps.setIfInBounds p0 (rv r)).setIfInBounds q0 (.pointer (some ⟨B, 0, none⟩)), defers := [] } W)
    (hdone : ∀ D W A n c, w.heap.size ≤ D → W.heap[D]? = some (.deferred (some [])) → D ∉ own (.slice A n c) → Blk W b1 38 #[.slice A n c] → SR W (.slice A n c) (L0 ++ l) → Chg (b1 :: own (.slice A1 n1 c1)) w W → Grow w (.slice A1 n1 c1) (.slice A n c) →
      Q .normal { a with defers := mark D :: a.defers } W) :
    (Code.rangeFunc g #[p0] assign body).wp Try.prog Q a w := by
  have hIst : ∀ (N : List Nat) (k : Nat) (W W' : World), (Chg (b1 :: own (.slice A1 n1 c1)) w W ∧ (∀ b ∈ N, w.heap.size ≤ b ∧ b < W.heap.size) ∧ ∃ A n c, Blk W b1 38 #[.slice A n c] ∧ SR W (.slice A n c) (L0 ++ l.take k) ∧ Grow w (.slice A1 n1 c1) (.slice A n c) ∧ ∀ b ∈ N, b ∉ own (.slice A n c)) → Chg N W W' →
      (Chg (b1 :: own (.slice A1 n1 c1)) w W' ∧ (∀ b ∈ N, w.heap.size ≤ b ∧ b < W'.heap.size) ∧ ∃ A n c, Blk W' b1 38 #[.slice A n c] ∧ SR W' (.slice A n c) (L0 ++ l.take k) ∧ Grow w (.slice A1 n1 c1) (.slice A n c) ∧ ∀ b ∈ N, b ∉ own (.slice A n c)) := by
    rintro N k W W' ⟨hc, hN, A, n, c, hb, hs, hgr, hd⟩ hch
    have hbl := hb1.lt
    exact ⟨hc.trans hch (fun b hb => .inr (hN b hb).1), fun b hb => ⟨(hN b hb).1, Nat.lt_of_lt_of_le (hN b hb).2 hch.size⟩, A, n, c, hb.chg hch (fun h => by have := (hN b1 h).1; omega), hs.chg hch (fun b hb h => hd b h hb), hgr, hd⟩
  refine wp_range hg hbx hm hlen
    (fun N k W => Chg (b1 :: own (.slice A1 n1 c1)) w W ∧ (∀ b ∈ N, w.heap.size ≤ b ∧ b < W.heap.size) ∧ ∃ A n c, Blk W b1 38 #[.slice A n c] ∧ SR W (.slice A n c) (L0 ++ l.take k) ∧ Grow w (.slice A1 n1 c1) (.slice A n c) ∧ ∀ b ∈ N, b ∉ own (.slice A n c))
    (fun _ _ _ => False)
    (fun N k a' W => ∃ (hk : k < l.length) (B : Nat), a' = { tmps := (a.tmps.setIfInBounds p0 (rv l[k])).setIfInBounds q0 (.pointer (some ⟨B, 0, none⟩)), defers := [] } ∧ Blk W B 30 #[.int .i64 l[k].p, .int .i64 l[k].c, .int .u8 l[k].g] ∧ B ∉ N ∧
      (Chg (b1 :: own (.slice A1 n1 c1)) w W ∧ (∀ b ∈ N, w.heap.size ≤ b ∧ b < W.heap.size) ∧ ∃ A n c, Blk W b1 38 #[.slice A n c] ∧ SR W (.slice A n c) (L0 ++ l.take k) ∧ Grow w (.slice A1 n1 c1) (.slice A n c) ∧ ∀ b ∈ N, b ∉ own (.slice A n c)))
    ?_ hIst (fun _ _ _ _ h => h.elim) ?_ ?_ ?_ ?_ (fun _ _ _ _ _ _ h => h.elim)
  · intro N W hN hc
    exact ⟨hc.up _, hN, A1, n1, c1, hb1.chg hc (by simp), by simpa using hs1.stay hc, Grow.refl _ _, fun b hb h => by have := (hN b hb).1; have := hs1.own_lt b h; omega⟩
  · rintro N k a' W W' ⟨hk, B, rfl, hB, hBN, hi⟩ hch
    exact ⟨hk, B, rfl, hB.chg hch hBN, hBN, hIst N k W W' hi hch⟩
  · rintro j N k W K hk hi hK
    refine hassign j l[k] W K (hK _ _ ⟨hk, _, rfl, Blk.new W 30 _, fun h => by have := (hi.2.1 _ h).2; omega, hIst N k W _ hi (((Chg.refl [] W).alloc _).up N)⟩ fun b hb => ?_)
    exact Below.heap_alloc W _ b (hi.2.1 b hb).2
  · rintro j N k a' W hk' ⟨hk, B, rfl, hB, hBN, hc, hN, A, n, c, hb, hs, hgr, hd⟩
    refine hbody j B l[k] A n c _ W _ hb hB hs (by simp; omega) fun a'' A' n' c' W' hs' hc' hg' => ?_
    have hb' := hb.chg hc' (blk_off hs hb (by decide))
    have hbl := hb1.lt
    have hNb : ∀ x ∈ N, x ≠ b1 := fun x hx e => by have := (hN x hx).1; omega
    refine ⟨fun x hx => ?_, (hc.trans hc' (fun x hx => ?_)).setCell (.inl (by simp)) _, fun x hx => ⟨(hN x hx).1, ?_⟩, A', n', c', ?_, ?_, ?_, fun x hx h => ?_⟩
    · exact (Below.heap_setCell W' ⟨b1, 0, none⟩ _ x (hNb x hx)).trans (hc'.block x (hN x hx).2 (hd x hx))
    · rcases hgr x hx with h | h
      · exact .inl (List.mem_cons_of_mem _ h)
      · exact .inr h
    · rw [size_set]
      exact Nat.lt_of_lt_of_le (hN x hx).2 hc'.size
    · have := hb'.set_ 0 (.slice A' n' c')
      simpa using this
    · rw [List.take_succ_eq_append_getElem hk, ← List.append_assoc]
      exact Sl.far hs' (p := ⟨b1, 0, none⟩) (fun e => blk_off hs' hb' (by decide) (own_mem.2 e)) _
    · exact hgr.trans hg' hc.size
    · rcases hg' x h with h' | h'
      · exact hd x hx h'
      · have := (hN x hx).2; omega
  · rintro N D W hD hDw ⟨hc, hN, A, n, c, hb, hs, hgr, hd⟩ hdf
    rw [List.take_length] at hs
    exact hdone D W A n c hDw hdf (hd D hD) hb hs hc hgr
end Go.Proofs.Ytmgjknlpcnakiaa
