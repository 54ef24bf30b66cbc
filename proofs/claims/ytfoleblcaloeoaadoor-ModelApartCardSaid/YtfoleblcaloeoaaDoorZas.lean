/- Texts merged for the claim: MsC, MvA, MqB, MqC, MvB, MvC, MtA, MvD. -/
import Derived.Test.YtfoleblcaloeoaaDoorZar
import Derived.ChangeKeysEq
/- Copy (printed by genmsc.py). -/
namespace Go.Proofs.YtfoleblcaloeoaaDoor
open Go Go.RowKit

theorem wpG_buildMo {S : World → Prop} {Q : Exit → Act → World → Prop} {o : Oper} {rest : List Oper} {ks : List Nat} {gs : List (Option (Nat × Bool))} {a : Act} {w : World} {c : Cf} {bp bo be : Nat} (parts : Array (Nat × Operand)) (ho : o.op = .build 63 parts)
    {l : List (Nat × Value)} (hb : BM l c bp bo be) (hl : (parts.map fun (i, x) => (i, a.eval x)).toList = l) (h : wpG Tryd.prog S Q rest ks gs (a.put o.dst (.agg (mgc c bp bo be))) w) : wpG Tryd.prog S Q (o :: rest) (0 :: ks) (none :: gs) a w :=
  wpG_pure (fun K hK => ⟨_, fun w' => by
    unfold execOp
    simp only [ho, Sem.run_bind, run_build w' 63 _ (mgc c bp bo be) (by rw [hl]; exact hb.h), Sem.run_pure, Result.andThen_ok], hK _ _ h⟩)
theorem wp_boxMo {o : Oper} {a : Act} {w : World} {K : Act → World → Prop} {Q : Exit → Act → World → Prop} {cs : Array Value} (z : Operand) (ho : o.op = .box 63 z) (hx : a.eval z = .agg cs)
    (h : K (a.put o.dst (.pointer (some ⟨w.heap.size, 0, none⟩))) (w.alloc (.cells cs 63))) : o.wp Tryd.prog a w K Q := by
  unfold Oper.wp execOp
  simp only [ho, hx, Sem.run_bind, Instr.box, newVar, newRow, run_newObj_alloc, Sem.run_pure, Result.andThen_ok, Value.cells]
  exact h
/-- the copy is begun -/
structure Mc0 (w W : World) (m bp bo be : Nat) (M : Mo) (fe : Int → Option Value) : Prop where
  chg : Chg [] w W
  blk : Blk W m 63 (mgc M.c bp bo be)
  mp : MapB W bp .i64 fun _ => none
  mo : MapB W bo .u64 fun _ => none
  me : MapB W be .u64 fe
  g : w.heap.size ≤ m ∧ w.heap.size ≤ bp ∧ w.heap.size ≤ bo ∧ w.heap.size ≤ be
  ne : bp ≠ bo ∧ bp ≠ be ∧ bo ≠ be
/-- the processes and the objects that are no longer to come are copied -/
structure Mc (w W : World) (m bp bo be r : Nat) (M : Mo) (fe : Int → Option Value) (lp lo : Int → Bool) (gq : Int → Nat) (GQ : Int → Nat → Prop) (ov : Int → Value) : Prop where
  chg : Chg [] w W
  blk : Blk W m 63 (mgc M.c bp bo be)
  mp : MapB W bp .i64 fun z => if lp z then none else (M.pr z).map fun _ => .pointer (some ⟨gq z, 0, none⟩)
  mo : MapB W bo .u64 fun z => if lo z then none else (M.ob z).map fun _ => ov z
  me : MapB W be .u64 fe
  pr : ∀ z p, lp z = false → M.pr z = some p → PMem W (gq z) p (GQ z)
  pg : ∀ z p, lp z = false → M.pr z = some p → ∀ k, GQ z k → w.heap.size ≤ k ∧ k ≠ m ∧ k ≠ bp ∧ k ≠ bo ∧ k ≠ be ∧ k ≠ r
  pa : ∀ z z' p p', lp z = false → lp z' = false → M.pr z = some p → M.pr z' = some p' → z ≠ z' → ∀ k, GQ z k → ¬ GQ z' k
  ob : ∀ z B, lo z = false → M.ob z = some B → SB W (ov z) B
  og : ∀ z B, lo z = false → M.ob z = some B → ∀ k ∈ own (ov z), w.heap.size ≤ k ∧ k ≠ m ∧ k ≠ bp ∧ k ≠ bo ∧ k ≠ be ∧ k ≠ r ∧ ∀ z' p, lp z' = false → M.pr z' = some p → ¬ GQ z' k
  oa : ∀ z z' B B', lo z = false → lo z' = false → M.ob z = some B → M.ob z' = some B' → z ≠ z' → ∀ k ∈ own (ov z), k ∉ own (ov z')
  g : w.heap.size ≤ m ∧ w.heap.size ≤ bp ∧ w.heap.size ≤ bo ∧ w.heap.size ≤ be
  ne : bp ≠ bo ∧ bp ≠ be ∧ bo ≠ be
  nr : r ≠ m ∧ r ≠ bp ∧ r ≠ bo ∧ r ≠ be
  lr : w.heap.size ≤ r ∧ r < W.heap.size
theorem PMem.lt {w : World} {b : Nat} {p : Pr} {F : Nat → Prop} (h : PMem w b p F) : ∀ k, F k → k < w.heap.size := by
  obtain ⟨d, FA, bp, bo, fp, fo, gp, h1, h2, h3⟩ := h
  exact h3
theorem PMem.chg {w W : World} {b : Nat} {p : Pr} {F : Nat → Prop} {G : List Nat} (h : PMem w b p F) (hc : Chg G w W) (hg : ∀ k ∈ G, ¬ F k) : PMem W b p F :=
  h.cp (G := fun k => k ∈ G) (CP.of hc (fun k hk => .inl hk)) (fun k hk h2 => hg k h2 hk)
theorem Mc0.begin {w W W1 : World} {m bp bo be : Nat} {M : Mo} {fe : Int → Option Value} (h : Mc0 w W m bp bo be M fe) (hc : Chg [] W W1) (hs : W1.heap.size = W.heap.size + 1) {lp lo : Int → Bool} (hl : ∀ z, lp z = (M.pr z).isSome) (hlo : ∀ z, lo z = (M.ob z).isSome) :
    Mc w W1 m bp bo be W.heap.size M fe lp lo (fun _ => 0) (fun _ _ => False) (fun _ => .slice none 0 0) := by
  have l1 := h.blk.lt
  have l2 := h.mp.lt
  have l3 := h.mo.lt
  have l4 := h.me.lt
  have l5 := h.chg.size
  have vp : ∀ z p, lp z = false → M.pr z = some p → False := fun z p h1 h2 => by rw [hl z, h2] at h1; cases h1
  have vo : ∀ z B, lo z = false → M.ob z = some B → False := fun z B h1 h2 => by rw [hlo z, h2] at h1; cases h1
  have e1 : (fun z => if lp z then none else (M.pr z).map fun _ => Value.pointer (some ⟨0, 0, none⟩)) = fun _ => none := by
    funext z
    rw [hl z]
    cases M.pr z <;> rfl
  have e2 : (fun z => if lo z then none else (M.ob z).map fun _ => Value.slice none 0 0) = fun _ => none := by
    funext z
    rw [hlo z]
    cases M.ob z <;> rfl
  refine ⟨h.chg.stay hc, h.blk.chg hc List.not_mem_nil, by rw [e1]; exact h.mp.stay hc, by rw [e2]; exact h.mo.stay hc, h.me.stay hc, fun z p h1 h2 => (vp z p h1 h2).elim, fun z p h1 h2 => (vp z p h1 h2).elim, fun z z' p p' h1 h2 h3 => (vp z p h1 h3).elim, fun z B h1 h2 => (vo z B h1 h2).elim, fun z B h1 h2 => (vo z B h1 h2).elim, fun z z' p p' h1 h2 h3 => (vo z p h1 h3).elim, h.g, h.ne, by omega, by omega⟩
theorem Mc.next {w W W1 : World} {m bp bo be r : Nat} {M : Mo} {fe : Int → Option Value} {lp lo : Int → Bool} {gq : Int → Nat} {GQ : Int → Nat → Prop} {ov : Int → Value} (h : Mc w W m bp bo be r M fe lp lo gq GQ ov) (hc : Chg [r] W W1) : Mc w W1 m bp bo be r M fe lp lo gq GQ ov := by
  have hs := hc.size
  have hnr := h.nr
  have hlr := h.lr
  have hsg : ∀ x, x ≠ r → x ∉ [r] := fun x hx hm => hx (List.mem_singleton.1 hm)
  exact { h with chg := h.chg.trans hc (fun x hx => .inr (by obtain rfl := List.mem_singleton.1 hx; exact hlr.1)), blk := h.blk.chg hc (hsg _ (by omega)), mp := h.mp.chg hc (hsg _ (by omega)), mo := h.mo.chg hc (hsg _ (by omega)), me := h.me.chg hc (hsg _ (by omega)), pr := fun z p h1 h2 => (h.pr z p h1 h2).chg hc (fun k hk hg => by obtain rfl := List.mem_singleton.1 hk; exact (h.pg z p h1 h2 _ hg).2.2.2.2.2 rfl), ob := fun z B h1 h2 => (h.ob z B h1 h2).chg hc (fun k hk => hsg _ (h.og z B h1 h2 k hk).2.2.2.2.2.1), lr := by omega }
theorem Mc.stay {w W W1 : World} {m bp bo be r : Nat} {M : Mo} {fe : Int → Option Value} {lp lo : Int → Bool} {gq : Int → Nat} {GQ : Int → Nat → Prop} {ov : Int → Value} (h : Mc w W m bp bo be r M fe lp lo gq GQ ov) (hc : Chg [] W W1) : Mc w W1 m bp bo be r M fe lp lo gq GQ ov := h.next (hc.up [r])
theorem Mc.again {w W W1 : World} {m bp bo be r : Nat} {M : Mo} {fe : Int → Option Value} {lp lo : Int → Bool} {gq : Int → Nat} {GQ : Int → Nat → Prop} {ov : Int → Value} (h : Mc w W m bp bo be r M fe lp lo gq GQ ov) (hc : Chg [] W W1) (hs : W1.heap.size = W.heap.size + 1) : Mc w W1 m bp bo be W.heap.size M fe lp lo gq GQ ov := by
  have l1 := h.blk.lt
  have l2 := h.mp.lt
  have l3 := h.mo.lt
  have l4 := h.me.lt
  have l5 := h.chg.size
  have h' := h.stay hc
  refine { h' with pg := fun z p h1 h2 k hk => ?_, og := fun z B h1 h2 k hk => ?_, nr := by omega, lr := by omega }
  · have := (h.pr z p h1 h2).lt k hk
    obtain ⟨k1, k2, k3, k4, k5, k6⟩ := h.pg z p h1 h2 k hk
    exact ⟨k1, k2, k3, k4, k5, by omega⟩
  · have := (h.ob z B h1 h2).own_lt k hk
    obtain ⟨k1, k2, k3, k4, k5, k6, k7⟩ := h.og z B h1 h2 k hk
    exact ⟨k1, k2, k3, k4, k5, by omega, k7⟩
theorem rest_old {left : Int → Bool} {y z : Int} (h1 : (left y && !(y == z)) = false) (h2 : y ≠ z) : left y = false := by
  cases hl : left y with
  | false => rfl
  | true => rw [hl, beq_false_of_ne h2] at h1; cases h1
theorem Mc.stepP {w W W1 : World} {m bp bo be r g : Nat} {M : Mo} {fe : Int → Option Value} {lp lo : Int → Bool} {gq : Int → Nat} {GQ : Int → Nat → Prop} {ov : Int → Value} (h : Mc w W m bp bo be r M fe lp lo gq GQ ov) {z : Int} {p : Pr} {F : Nat → Prop} (hp : M.pr z = some p)
    (hc : Chg [bp] W W1) (hP : PMem W1 g p F) (hF : ∀ k, F k → W.heap.size ≤ k) (hm : MapB W1 bp .i64 fun y => if y = z then some (.pointer (some ⟨g, 0, none⟩)) else if lp y then none else (M.pr y).map fun _ => .pointer (some ⟨gq y, 0, none⟩)) :
    Mc w W1 m bp bo be r M fe (fun y => lp y && !(y == z)) lo (upd gq z g) (upd GQ z F) ov := by
  have l1 := h.blk.lt
  have l2 := h.mp.lt
  have l3 := h.mo.lt
  have l4 := h.me.lt
  have l5 := h.chg.size
  have hnr := h.nr
  have hlr := h.lr
  have hne := h.ne
  have hg := h.g
  have hs := hc.size
  have hbm := Blk.ne_map h.blk h.mp
  have hsg : ∀ x, x ≠ bp → x ∉ [bp] := fun x hx hm => hx (List.mem_singleton.1 hm)
  refine { h with chg := h.chg.trans hc (fun x hx => .inr (by obtain rfl := List.mem_singleton.1 hx; exact hg.2.1)), blk := h.blk.chg hc (hsg _ hbm), mp := ?_, mo := h.mo.chg hc (hsg _ (by omega)), me := h.me.chg hc (hsg _ (by omega)), pr := fun y q h1 h2 => ?_, pg := fun y q h1 h2 k hk => ?_, pa := fun y y' q q' h1 h2 h3 h4 h5 k hk hk' => ?_, ob := fun y B h1 h2 => (h.ob y B h1 h2).chg hc (fun k hk => hsg _ (h.og y B h1 h2 k hk).2.2.1), og := fun y B h1 h2 k hk => ?_, lr := by omega }
  · have e : (fun y => if y = z then some (Value.pointer (some ⟨g, 0, none⟩)) else if lp y then none else (M.pr y).map fun _ => .pointer (some ⟨gq y, 0, none⟩)) = fun y => if (lp y && !(y == z)) = true then none else (M.pr y).map fun _ => .pointer (some ⟨upd gq z g y, 0, none⟩) := by
      funext y
      by_cases h1 : y = z
      · subst h1
        simp [upd, hp]
      · simp [upd, h1]
    rw [← e]
    exact hm
  · by_cases e : y = z
    · subst e
      obtain rfl := Option.some.inj (hp.symm.trans h2)
      rw [upd_at, upd_at]
      exact hP
    · rw [upd_ne _ _ e, upd_ne _ _ e]
      exact (h.pr y q (rest_old h1 e) h2).chg hc (fun k hk hg2 => by obtain rfl := List.mem_singleton.1 hk; exact (h.pg y q (rest_old h1 e) h2 _ hg2).2.2.1 rfl)
  · by_cases e : y = z
    · subst e
      rw [upd_at] at hk
      have := hF k hk
      omega
    · rw [upd_ne _ _ e] at hk
      exact h.pg y q (rest_old h1 e) h2 k hk
  · by_cases e : y = z
    · have e' : y' ≠ z := fun e' => h5 (e.trans e'.symm)
      rw [e, upd_at] at hk
      rw [upd_ne _ _ e'] at hk'
      have := hF k hk
      have := (h.pr y' q' (rest_old h2 e') h4).lt k hk'
      omega
    · rw [upd_ne _ _ e] at hk
      by_cases e' : y' = z
      · rw [e', upd_at] at hk'
        have := hF k hk'
        have := (h.pr y q (rest_old h1 e) h3).lt k hk
        omega
      · rw [upd_ne _ _ e'] at hk'
        exact h.pa y y' q q' (rest_old h1 e) (rest_old h2 e') h3 h4 h5 k hk hk'
  · obtain ⟨k1, k2, k3, k4, k5, k6, k7⟩ := h.og y B h1 h2 k hk
    refine ⟨k1, k2, k3, k4, k5, k6, fun z' q h3 h4 hgq => ?_⟩
    by_cases e : z' = z
    · rw [e, upd_at] at hgq
      have := hF k hgq
      have := (h.ob y B h1 h2).own_lt k hk
      omega
    · rw [upd_ne _ _ e] at hgq
      exact k7 z' q (rest_old h3 e) h4 hgq
theorem Mc.stepO {w W W1 : World} {m bp bo be r : Nat} {M : Mo} {fe : Int → Option Value} {lp lo : Int → Bool} {gq : Int → Nat} {GQ : Int → Nat → Prop} {ov : Int → Value} (h : Mc w W m bp bo be r M fe lp lo gq GQ ov) {z : Int} {B : List Nat} {v : Value} (hB : M.ob z = some B)
    (hc : Chg [bo] W W1) (hS : SB W1 v B) (hF : ∀ k ∈ own v, W.heap.size ≤ k) (hm : MapB W1 bo .u64 fun y => if y = z then some v else if lo y then none else (M.ob y).map fun _ => ov y) :
    Mc w W1 m bp bo be r M fe lp (fun y => lo y && !(y == z)) gq GQ (upd ov z v) := by
  have l1 := h.blk.lt
  have l2 := h.mp.lt
  have l3 := h.mo.lt
  have l4 := h.me.lt
  have l5 := h.chg.size
  have hnr := h.nr
  have hlr := h.lr
  have hne := h.ne
  have hg := h.g
  have hs := hc.size
  have hbm := Blk.ne_map h.blk h.mo
  have hsg : ∀ x, x ≠ bo → x ∉ [bo] := fun x hx hm => hx (List.mem_singleton.1 hm)
  refine { h with chg := h.chg.trans hc (fun x hx => .inr (by obtain rfl := List.mem_singleton.1 hx; exact hg.2.2.1)), blk := h.blk.chg hc (hsg _ hbm), mo := ?_, mp := h.mp.chg hc (hsg _ (by omega)), me := h.me.chg hc (hsg _ (by omega)), pr := fun y q h1 h2 => (h.pr y q h1 h2).chg hc (fun k hk hg2 => by obtain rfl := List.mem_singleton.1 hk; exact (h.pg y q h1 h2 _ hg2).2.2.2.1 rfl), ob := fun y C h1 h2 => ?_, og := fun y C h1 h2 k hk => ?_, oa := fun y y' q q' h1 h2 h3 h4 h5 k hk hk' => ?_, lr := by omega }
  · have e : (fun y => if y = z then some v else if lo y then none else (M.ob y).map fun _ => ov y) = fun y => if (lo y && !(y == z)) = true then none else (M.ob y).map fun _ => upd ov z v y := by
      funext y
      by_cases h1 : y = z
      · subst h1
        simp [upd, hB]
      · simp [upd, h1]
    rw [← e]
    exact hm
  · by_cases e : y = z
    · subst e
      obtain rfl := Option.some.inj (hB.symm.trans h2)
      rw [upd_at]
      exact hS
    · rw [upd_ne _ _ e]
      exact (h.ob y C (rest_old h1 e) h2).chg hc (fun k hk => hsg _ (h.og y C (rest_old h1 e) h2 k hk).2.2.2.1)
  · by_cases e : y = z
    · subst e
      rw [upd_at] at hk
      have := hF k hk
      refine ⟨by omega, by omega, by omega, by omega, by omega, by omega, fun z' q h3 h4 hgq => ?_⟩
      have := (h.pr z' q h3 h4).lt k hgq
      omega
    · rw [upd_ne _ _ e] at hk
      exact h.og y C (rest_old h1 e) h2 k hk
  · by_cases e : y = z
    · have e' : y' ≠ z := fun e' => h5 (e.trans e'.symm)
      rw [e, upd_at] at hk
      rw [upd_ne _ _ e'] at hk'
      have := hF k hk
      have := (h.ob y' q' (rest_old h2 e') h4).own_lt k hk'
      omega
    · rw [upd_ne _ _ e] at hk
      by_cases e' : y' = z
      · rw [e', upd_at] at hk'
        have := hF k hk'
        have := (h.ob y q (rest_old h1 e) h3).own_lt k hk
        omega
      · rw [upd_ne _ _ e'] at hk'
        exact h.oa y y' q q' (rest_old h1 e) (rest_old h2 e') h3 h4 h5 k hk hk'
theorem Mc.end_ {w W w0 : World} {m bp bo be r m0 bp0 bo0 be0 : Nat} {M : Mo} {fp0 fo0 fe : Int → Option Value} {gb0 : Int → Nat} {GF0 : Int → Nat → Prop} {ov0 : Int → Value} {lp lo : Int → Bool} {gq : Int → Nat} {GQ : Int → Nat → Prop} {ov : Int → Value} (h : Mc w W m bp bo be r M fe lp lo gq GQ ov) (hI : MIn w0 m0 M bp0 bo0 be0 fp0 fo0 fe gb0 GF0 ov0) (hp : ∀ z, lp z = false) (ho : ∀ z, lo z = false) :
    ∃ O, MMem W m M O ∧ ∀ k, O k → w.heap.size ≤ k := by
  have hmp : MapB W bp .i64 fun z => (M.pr z).map fun _ => .pointer (some ⟨gq z, 0, none⟩) := by
    have := h.mp
    simpa only [hp, Bool.false_eq_true, if_false] using this
  have hmo : MapB W bo .u64 fun z => (M.ob z).map fun _ => ov z := by
    have := h.mo
    simpa only [ho, Bool.false_eq_true, if_false] using this
  have hg := h.g
  refine ⟨FMo M m bp bo be GQ ov, ⟨bp, bo, be, _, _, fe, gq, GQ, ov, ⟨h.blk, hmp, hmo, h.me, fun _ => rfl, fun n p hn => h.pr n p (hp n) hn, fun n n' p p' h1 h2 h3 => h.pa n n' p p' (hp n) (hp n') h1 h2 h3, hI.rng, fun _ => rfl, fun z B hB => ⟨h.ob z B (ho z) hB, (hI.ob z B hB).2⟩, fun z z' B B' h1 h2 h3 => h.oa z z' B B' (ho z) (ho z') h1 h2 h3, hI.he, h.ne.1, h.ne.2.1, h.ne.2.2, fun n p hn k hk => ?_⟩, fun k hk => hk, ?_⟩, ?_⟩
  · obtain ⟨k1, k2, k3, k4, k5, k6⟩ := h.pg n p (hp n) hn k hk
    exact ⟨k2, k3, k4, k5, fun z B hB hk2 => (h.og z B (ho z) hB k hk2).2.2.2.2.2.2 n p (hp n) hn hk⟩
  · rintro k (rfl | rfl | rfl | rfl | ⟨n, p, hn, hk⟩ | ⟨z, B, hB, hk⟩)
    · exact h.blk.lt
    · exact h.mp.lt
    · exact h.mo.lt
    · exact h.me.lt
    · exact (h.pr n p (hp n) hn).lt k hk
    · exact (h.ob z B (ho z) hB).own_lt k hk
  · rintro k (rfl | rfl | rfl | rfl | ⟨n, p, hn, hk⟩ | ⟨z, B, hB, hk⟩)
    · exact hg.1
    · exact hg.2.1
    · exact hg.2.2.1
    · exact hg.2.2.2
    · exact (h.pg n p (hp n) hn k hk).1
    · exact (h.og z B (ho z) hB k hk).1
set_option maxRecDepth 20000 in
set_option maxHeartbeats 40000000 in
theorem Copy_any {w : World} {m0 : Nat} {M : Mo} {O : Nat → Prop} (h : MMem w m0 M O) :
    Calls Tryd.prog 13 #[.pointer (some ⟨m0, 0, none⟩)] w fun e W' => (∃ m O', e = .returned (.pointer (some ⟨m, 0, none⟩)) ∧ MMem W' m M O' ∧ ∀ k, O' k → w.heap.size ≤ k) ∧ Chg [] w W' := by
  obtain ⟨bp0, bo0, be0, fp, fo, fe, gb, GF, ov0, hI, -, -⟩ := h
  have HI := hide (fun W (hc : Chg [] w W) => hI.cp (CP.of0 (F := fun _ => False) hc) (fun _ _ h => h))
  have l0 := hI.blk.lt
  have HN := hide (none_any hI.blk)
  have hmk : ∀ (t : TypeId) (W : World), (Instr.makeMap t none).run Tryd.prog W = .ok (.map (some W.heap.size)) (W.alloc (.map #[] 0)) := fun t W => run_makeMap t W
  clear hI
  go_enter Tryd.func13, Tryd.ntmps13
  go_wp2_with fail
  refine HN.out.mono ?_
  rintro e W9 ⟨rfl, rfl⟩
  go_upto_region 3 with (fail)
  go_cut [3] from 10 to 22 (fun z3 W => ∃ m bp bo be, z3 = .pointer (some ⟨m, 0, none⟩) ∧ Hid (Mc0 w W m bp bo be M fe))
  case first =>
    refine wp_region_h [0,0,0,5,6,6,0,0,0,5,6,0,6,0] [none, none, none, none, none, none, none, none, none, none, none, none, none, none] [[0,1,2,3,4,5,6,7,8,9,10,11,12,13], [0,1,2,3,4,6,7,8,9,10,5,11,12,13], [0,1,2,3,5,4,6,7,8,9,10,11,12,13], [0,1,2,3,5,6,7,8,9,10,4,11,12,13], [0,1,2,3,6,7,8,9,10,4,5,11,12,13], [0,1,2,3,6,7,8,9,10,5,4,11,12,13]] (fun W => Chg [] w W) (by kernel_rfl) (by kernel_rfl) (by kernel_rfl) (by kernel_rfl) (fun L9 hL9 => ?_)
    have hS : Chg [] w w.drew := (Chg.refl [] w).drew
    generalize w.drew = W0 at hS ⊢
    simp only [List.mem_cons, List.mem_nil_iff, or_false] at hL9
    rcases hL9 with rfl | rfl | rfl | rfl | rfl | rfl
    · have z0 := hS.size
      simp only [picks, List.filterMap_cons, List.filterMap_nil, List.getElem?_cons_succ, List.getElem?_cons_zero]
      go_wp2_with (first | (refine wpG_hload 26 _ rfl rfl (fun w' hw' => mo_load26 (HI.out w' hw').blk) hS ?_) | (refine wpG_hload 61 _ rfl rfl (fun w' hw' => load_map Tryd.underlying61 (mo_cells (HI.out w' hw').blk).2.2.1) hS ?_) | (refine wpG_calc rfl (fun K hK => ?_)) | (refine wpG_skip ?_ ?_; (focus (simp [wantG]; done)); go_simp) | (refine wpG_take ?_ ?_; (focus (simp [wantG]; done))) | (refine wpG_pure (fun K hK => ?_); go_simp; refine hK _ _ ?_; clear hK K) | (refine wpG_deed (by decide) (fun K hK => ?_); go_simp) | (refine wpG_nil ?_))
      (refine wpG_keeps hS (fun K hK => ?_))
      go_simp
      obtain ⟨W1, hW1⟩ : ∃ W, W = W0.alloc (.map #[] 0) := ⟨_, rfl⟩
      have hc1 : Chg [] W0 W1 := by rw [hW1]; exact (Chg.refl [] _).alloc _
      have hP : MapB W1 W0.heap.size .i64 (fun _ => none) := by rw [hW1]; exact MapB.new _ _
      obtain ⟨bP, hbP⟩ : ∃ b, b = W0.heap.size := ⟨_, rfl⟩
      have gP : W0.heap.size ≤ bP := Nat.le_of_eq hbP.symm
      try rw [← hW1]
      rw [← hbP] at hP ⊢
      have lP := hP.lt
      clear hW1 hbP
      have z1 := hc1.size
      replace hS : Chg [] w W1 := hS.stay hc1
      refine hK _ _ hS ?_
      clear hK K
      clear hc1
      go_wp2_with (first | (refine wpG_hload 26 _ rfl rfl (fun w' hw' => mo_load26 (HI.out w' hw').blk) hS ?_) | (refine wpG_hload 61 _ rfl rfl (fun w' hw' => load_map Tryd.underlying61 (mo_cells (HI.out w' hw').blk).2.2.1) hS ?_) | (refine wpG_calc rfl (fun K hK => ?_)) | (refine wpG_skip ?_ ?_; (focus (simp [wantG]; done)); go_simp) | (refine wpG_take ?_ ?_; (focus (simp [wantG]; done))) | (refine wpG_pure (fun K hK => ?_); go_simp; refine hK _ _ ?_; clear hK K) | (refine wpG_deed (by decide) (fun K hK => ?_); go_simp) | (refine wpG_nil ?_))
      (refine wpG_keeps hS (fun K hK => ?_))
      go_simp
      obtain ⟨W2, hW2⟩ : ∃ W, W = W1.alloc (.map #[] 0) := ⟨_, rfl⟩
      have hc2 : Chg [] W1 W2 := by rw [hW2]; exact (Chg.refl [] _).alloc _
      have hB : MapB W2 W1.heap.size .u64 (fun _ => none) := by rw [hW2]; exact MapB.new _ _
      obtain ⟨bB, hbB⟩ : ∃ b, b = W1.heap.size := ⟨_, rfl⟩
      have gB : W1.heap.size ≤ bB := Nat.le_of_eq hbB.symm
      try rw [← hW2]
      rw [← hbB] at hB ⊢
      have lB := hB.lt
      clear hW2 hbB
      have z2 := hc2.size
      replace hS : Chg [] w W2 := hS.stay hc2
      refine hK _ _ hS ?_
      clear hK K
      replace hP := hP.stay hc2
      clear hc2
      go_wp2_with (first | (refine wpG_hload 26 _ rfl rfl (fun w' hw' => mo_load26 (HI.out w' hw').blk) hS ?_) | (refine wpG_hload 61 _ rfl rfl (fun w' hw' => load_map Tryd.underlying61 (mo_cells (HI.out w' hw').blk).2.2.1) hS ?_) | (refine wpG_calc rfl (fun K hK => ?_)) | (refine wpG_skip ?_ ?_; (focus (simp [wantG]; done)); go_simp) | (refine wpG_take ?_ ?_; (focus (simp [wantG]; done))) | (refine wpG_pure (fun K hK => ?_); go_simp; refine hK _ _ ?_; clear hK K) | (refine wpG_deed (by decide) (fun K hK => ?_); go_simp) | (refine wpG_nil ?_))
      (refine wpG_keeps hS (fun K hK => ?_))
      go_simp
      refine (clone_rights (HI.out W2 hS).me).mono ?_
      rintro e W3 ⟨bE, rfl, hE, hc3, gE⟩
      have lE := hE.lt
      have z3 := hc3.size
      replace hS : Chg [] w W3 := hS.stay hc3
      refine hK _ _ hS ?_
      clear hK K
      replace hP := hP.stay hc3
      replace hB := hB.stay hc3
      clear hc3
      have HBP := hide (bm_new M.c bP bB bE)
      go_wp2_with (first | (refine wpG_keeps hS (fun K hK => ?_); refine wp_boxMo _ rfl rfl ?_; refine hK _ _ (hS.alloc _) ?_; clear hK K) | (refine wpG_buildMo _ rfl HBP.out ?_ ?_; (focus (simp [Act.eval]; done)); go_simp) | (refine wpG_calc rfl (fun K hK => ?_)) | (refine wpG_skip ?_ ?_; (focus (simp [wantG]; done)); go_simp) | (refine wpG_take ?_ ?_; (focus (simp [wantG]; done))) | (refine wpG_pure (fun K hK => ?_); go_simp; refine hK _ _ ?_; clear hK K) | (refine wpG_deed (by decide) (fun K hK => ?_); go_simp) | (refine wpG_nil ?_))
      go_meet
      case rel =>
        have hn : Chg [] W3 (W3.alloc (.cells (mgc M.c bP bB bE) 63)) := (Chg.refl [] _).alloc _
        exact ⟨_, bP, bB, bE, rfl, hide (Mc0.mk (hS.stay hn) (Blk.new W3 _ _) (hP.stay hn) (hB.stay hn) (hE.stay hn) (by omega) (by omega))⟩
    · have z0 := hS.size
      simp only [picks, List.filterMap_cons, List.filterMap_nil, List.getElem?_cons_succ, List.getElem?_cons_zero]
      go_wp2_with (first | (refine wpG_hload 26 _ rfl rfl (fun w' hw' => mo_load26 (HI.out w' hw').blk) hS ?_) | (refine wpG_hload 61 _ rfl rfl (fun w' hw' => load_map Tryd.underlying61 (mo_cells (HI.out w' hw').blk).2.2.1) hS ?_) | (refine wpG_calc rfl (fun K hK => ?_)) | (refine wpG_skip ?_ ?_; (focus (simp [wantG]; done)); go_simp) | (refine wpG_take ?_ ?_; (focus (simp [wantG]; done))) | (refine wpG_pure (fun K hK => ?_); go_simp; refine hK _ _ ?_; clear hK K) | (refine wpG_deed (by decide) (fun K hK => ?_); go_simp) | (refine wpG_nil ?_))
      (refine wpG_keeps hS (fun K hK => ?_))
      go_simp
      obtain ⟨W1, hW1⟩ : ∃ W, W = W0.alloc (.map #[] 0) := ⟨_, rfl⟩
      have hc1 : Chg [] W0 W1 := by rw [hW1]; exact (Chg.refl [] _).alloc _
      have hP : MapB W1 W0.heap.size .i64 (fun _ => none) := by rw [hW1]; exact MapB.new _ _
      obtain ⟨bP, hbP⟩ : ∃ b, b = W0.heap.size := ⟨_, rfl⟩
      have gP : W0.heap.size ≤ bP := Nat.le_of_eq hbP.symm
      try rw [← hW1]
      rw [← hbP] at hP ⊢
      have lP := hP.lt
      clear hW1 hbP
      have z1 := hc1.size
      replace hS : Chg [] w W1 := hS.stay hc1
      refine hK _ _ hS ?_
      clear hK K
      clear hc1
      go_wp2_with (first | (refine wpG_hload 26 _ rfl rfl (fun w' hw' => mo_load26 (HI.out w' hw').blk) hS ?_) | (refine wpG_hload 61 _ rfl rfl (fun w' hw' => load_map Tryd.underlying61 (mo_cells (HI.out w' hw').blk).2.2.1) hS ?_) | (refine wpG_calc rfl (fun K hK => ?_)) | (refine wpG_skip ?_ ?_; (focus (simp [wantG]; done)); go_simp) | (refine wpG_take ?_ ?_; (focus (simp [wantG]; done))) | (refine wpG_pure (fun K hK => ?_); go_simp; refine hK _ _ ?_; clear hK K) | (refine wpG_deed (by decide) (fun K hK => ?_); go_simp) | (refine wpG_nil ?_))
      (refine wpG_keeps hS (fun K hK => ?_))
      go_simp
      refine (clone_rights (HI.out W1 hS).me).mono ?_
      rintro e W2 ⟨bE, rfl, hE, hc2, gE⟩
      have lE := hE.lt
      have z2 := hc2.size
      replace hS : Chg [] w W2 := hS.stay hc2
      refine hK _ _ hS ?_
      clear hK K
      replace hP := hP.stay hc2
      clear hc2
      go_wp2_with (first | (refine wpG_hload 26 _ rfl rfl (fun w' hw' => mo_load26 (HI.out w' hw').blk) hS ?_) | (refine wpG_hload 61 _ rfl rfl (fun w' hw' => load_map Tryd.underlying61 (mo_cells (HI.out w' hw').blk).2.2.1) hS ?_) | (refine wpG_calc rfl (fun K hK => ?_)) | (refine wpG_skip ?_ ?_; (focus (simp [wantG]; done)); go_simp) | (refine wpG_take ?_ ?_; (focus (simp [wantG]; done))) | (refine wpG_pure (fun K hK => ?_); go_simp; refine hK _ _ ?_; clear hK K) | (refine wpG_deed (by decide) (fun K hK => ?_); go_simp) | (refine wpG_nil ?_))
      (refine wpG_keeps hS (fun K hK => ?_))
      go_simp
      obtain ⟨W3, hW3⟩ : ∃ W, W = W2.alloc (.map #[] 0) := ⟨_, rfl⟩
      have hc3 : Chg [] W2 W3 := by rw [hW3]; exact (Chg.refl [] _).alloc _
      have hB : MapB W3 W2.heap.size .u64 (fun _ => none) := by rw [hW3]; exact MapB.new _ _
      obtain ⟨bB, hbB⟩ : ∃ b, b = W2.heap.size := ⟨_, rfl⟩
      have gB : W2.heap.size ≤ bB := Nat.le_of_eq hbB.symm
      try rw [← hW3]
      rw [← hbB] at hB ⊢
      have lB := hB.lt
      clear hW3 hbB
      have z3 := hc3.size
      replace hS : Chg [] w W3 := hS.stay hc3
      refine hK _ _ hS ?_
      clear hK K
      replace hP := hP.stay hc3
      replace hE := hE.stay hc3
      clear hc3
      have HBP := hide (bm_new M.c bP bB bE)
      go_wp2_with (first | (refine wpG_keeps hS (fun K hK => ?_); refine wp_boxMo _ rfl rfl ?_; refine hK _ _ (hS.alloc _) ?_; clear hK K) | (refine wpG_buildMo _ rfl HBP.out ?_ ?_; (focus (simp [Act.eval]; done)); go_simp) | (refine wpG_calc rfl (fun K hK => ?_)) | (refine wpG_skip ?_ ?_; (focus (simp [wantG]; done)); go_simp) | (refine wpG_take ?_ ?_; (focus (simp [wantG]; done))) | (refine wpG_pure (fun K hK => ?_); go_simp; refine hK _ _ ?_; clear hK K) | (refine wpG_deed (by decide) (fun K hK => ?_); go_simp) | (refine wpG_nil ?_))
      go_meet
      case rel =>
        have hn : Chg [] W3 (W3.alloc (.cells (mgc M.c bP bB bE) 63)) := (Chg.refl [] _).alloc _
        exact ⟨_, bP, bB, bE, rfl, hide (Mc0.mk (hS.stay hn) (Blk.new W3 _ _) (hP.stay hn) (hB.stay hn) (hE.stay hn) (by omega) (by omega))⟩
    · have z0 := hS.size
      simp only [picks, List.filterMap_cons, List.filterMap_nil, List.getElem?_cons_succ, List.getElem?_cons_zero]
      go_wp2_with (first | (refine wpG_hload 26 _ rfl rfl (fun w' hw' => mo_load26 (HI.out w' hw').blk) hS ?_) | (refine wpG_hload 61 _ rfl rfl (fun w' hw' => load_map Tryd.underlying61 (mo_cells (HI.out w' hw').blk).2.2.1) hS ?_) | (refine wpG_calc rfl (fun K hK => ?_)) | (refine wpG_skip ?_ ?_; (focus (simp [wantG]; done)); go_simp) | (refine wpG_take ?_ ?_; (focus (simp [wantG]; done))) | (refine wpG_pure (fun K hK => ?_); go_simp; refine hK _ _ ?_; clear hK K) | (refine wpG_deed (by decide) (fun K hK => ?_); go_simp) | (refine wpG_nil ?_))
      (refine wpG_keeps hS (fun K hK => ?_))
      go_simp
      obtain ⟨W1, hW1⟩ : ∃ W, W = W0.alloc (.map #[] 0) := ⟨_, rfl⟩
      have hc1 : Chg [] W0 W1 := by rw [hW1]; exact (Chg.refl [] _).alloc _
      have hB : MapB W1 W0.heap.size .u64 (fun _ => none) := by rw [hW1]; exact MapB.new _ _
      obtain ⟨bB, hbB⟩ : ∃ b, b = W0.heap.size := ⟨_, rfl⟩
      have gB : W0.heap.size ≤ bB := Nat.le_of_eq hbB.symm
      try rw [← hW1]
      rw [← hbB] at hB ⊢
      have lB := hB.lt
      clear hW1 hbB
      have z1 := hc1.size
      replace hS : Chg [] w W1 := hS.stay hc1
      refine hK _ _ hS ?_
      clear hK K
      clear hc1
      go_wp2_with (first | (refine wpG_hload 26 _ rfl rfl (fun w' hw' => mo_load26 (HI.out w' hw').blk) hS ?_) | (refine wpG_hload 61 _ rfl rfl (fun w' hw' => load_map Tryd.underlying61 (mo_cells (HI.out w' hw').blk).2.2.1) hS ?_) | (refine wpG_calc rfl (fun K hK => ?_)) | (refine wpG_skip ?_ ?_; (focus (simp [wantG]; done)); go_simp) | (refine wpG_take ?_ ?_; (focus (simp [wantG]; done))) | (refine wpG_pure (fun K hK => ?_); go_simp; refine hK _ _ ?_; clear hK K) | (refine wpG_deed (by decide) (fun K hK => ?_); go_simp) | (refine wpG_nil ?_))
      (refine wpG_keeps hS (fun K hK => ?_))
      go_simp
      obtain ⟨W2, hW2⟩ : ∃ W, W = W1.alloc (.map #[] 0) := ⟨_, rfl⟩
      have hc2 : Chg [] W1 W2 := by rw [hW2]; exact (Chg.refl [] _).alloc _
      have hP : MapB W2 W1.heap.size .i64 (fun _ => none) := by rw [hW2]; exact MapB.new _ _
      obtain ⟨bP, hbP⟩ : ∃ b, b = W1.heap.size := ⟨_, rfl⟩
      have gP : W1.heap.size ≤ bP := Nat.le_of_eq hbP.symm
      try rw [← hW2]
      rw [← hbP] at hP ⊢
      have lP := hP.lt
      clear hW2 hbP
      have z2 := hc2.size
      replace hS : Chg [] w W2 := hS.stay hc2
      refine hK _ _ hS ?_
      clear hK K
      replace hB := hB.stay hc2
      clear hc2
      go_wp2_with (first | (refine wpG_hload 26 _ rfl rfl (fun w' hw' => mo_load26 (HI.out w' hw').blk) hS ?_) | (refine wpG_hload 61 _ rfl rfl (fun w' hw' => load_map Tryd.underlying61 (mo_cells (HI.out w' hw').blk).2.2.1) hS ?_) | (refine wpG_calc rfl (fun K hK => ?_)) | (refine wpG_skip ?_ ?_; (focus (simp [wantG]; done)); go_simp) | (refine wpG_take ?_ ?_; (focus (simp [wantG]; done))) | (refine wpG_pure (fun K hK => ?_); go_simp; refine hK _ _ ?_; clear hK K) | (refine wpG_deed (by decide) (fun K hK => ?_); go_simp) | (refine wpG_nil ?_))
      (refine wpG_keeps hS (fun K hK => ?_))
      go_simp
      refine (clone_rights (HI.out W2 hS).me).mono ?_
      rintro e W3 ⟨bE, rfl, hE, hc3, gE⟩
      have lE := hE.lt
      have z3 := hc3.size
      replace hS : Chg [] w W3 := hS.stay hc3
      refine hK _ _ hS ?_
      clear hK K
      replace hB := hB.stay hc3
      replace hP := hP.stay hc3
      clear hc3
      have HBP := hide (bm_new M.c bP bB bE)
      go_wp2_with (first | (refine wpG_keeps hS (fun K hK => ?_); refine wp_boxMo _ rfl rfl ?_; refine hK _ _ (hS.alloc _) ?_; clear hK K) | (refine wpG_buildMo _ rfl HBP.out ?_ ?_; (focus (simp [Act.eval]; done)); go_simp) | (refine wpG_calc rfl (fun K hK => ?_)) | (refine wpG_skip ?_ ?_; (focus (simp [wantG]; done)); go_simp) | (refine wpG_take ?_ ?_; (focus (simp [wantG]; done))) | (refine wpG_pure (fun K hK => ?_); go_simp; refine hK _ _ ?_; clear hK K) | (refine wpG_deed (by decide) (fun K hK => ?_); go_simp) | (refine wpG_nil ?_))
      go_meet
      case rel =>
        have hn : Chg [] W3 (W3.alloc (.cells (mgc M.c bP bB bE) 63)) := (Chg.refl [] _).alloc _
        exact ⟨_, bP, bB, bE, rfl, hide (Mc0.mk (hS.stay hn) (Blk.new W3 _ _) (hP.stay hn) (hB.stay hn) (hE.stay hn) (by omega) (by omega))⟩
    · have z0 := hS.size
      simp only [picks, List.filterMap_cons, List.filterMap_nil, List.getElem?_cons_succ, List.getElem?_cons_zero]
      go_wp2_with (first | (refine wpG_hload 26 _ rfl rfl (fun w' hw' => mo_load26 (HI.out w' hw').blk) hS ?_) | (refine wpG_hload 61 _ rfl rfl (fun w' hw' => load_map Tryd.underlying61 (mo_cells (HI.out w' hw').blk).2.2.1) hS ?_) | (refine wpG_calc rfl (fun K hK => ?_)) | (refine wpG_skip ?_ ?_; (focus (simp [wantG]; done)); go_simp) | (refine wpG_take ?_ ?_; (focus (simp [wantG]; done))) | (refine wpG_pure (fun K hK => ?_); go_simp; refine hK _ _ ?_; clear hK K) | (refine wpG_deed (by decide) (fun K hK => ?_); go_simp) | (refine wpG_nil ?_))
      (refine wpG_keeps hS (fun K hK => ?_))
      go_simp
      obtain ⟨W1, hW1⟩ : ∃ W, W = W0.alloc (.map #[] 0) := ⟨_, rfl⟩
      have hc1 : Chg [] W0 W1 := by rw [hW1]; exact (Chg.refl [] _).alloc _
      have hB : MapB W1 W0.heap.size .u64 (fun _ => none) := by rw [hW1]; exact MapB.new _ _
      obtain ⟨bB, hbB⟩ : ∃ b, b = W0.heap.size := ⟨_, rfl⟩
      have gB : W0.heap.size ≤ bB := Nat.le_of_eq hbB.symm
      try rw [← hW1]
      rw [← hbB] at hB ⊢
      have lB := hB.lt
      clear hW1 hbB
      have z1 := hc1.size
      replace hS : Chg [] w W1 := hS.stay hc1
      refine hK _ _ hS ?_
      clear hK K
      clear hc1
      go_wp2_with (first | (refine wpG_hload 26 _ rfl rfl (fun w' hw' => mo_load26 (HI.out w' hw').blk) hS ?_) | (refine wpG_hload 61 _ rfl rfl (fun w' hw' => load_map Tryd.underlying61 (mo_cells (HI.out w' hw').blk).2.2.1) hS ?_) | (refine wpG_calc rfl (fun K hK => ?_)) | (refine wpG_skip ?_ ?_; (focus (simp [wantG]; done)); go_simp) | (refine wpG_take ?_ ?_; (focus (simp [wantG]; done))) | (refine wpG_pure (fun K hK => ?_); go_simp; refine hK _ _ ?_; clear hK K) | (refine wpG_deed (by decide) (fun K hK => ?_); go_simp) | (refine wpG_nil ?_))
      (refine wpG_keeps hS (fun K hK => ?_))
      go_simp
      refine (clone_rights (HI.out W1 hS).me).mono ?_
      rintro e W2 ⟨bE, rfl, hE, hc2, gE⟩
      have lE := hE.lt
      have z2 := hc2.size
      replace hS : Chg [] w W2 := hS.stay hc2
      refine hK _ _ hS ?_
      clear hK K
      replace hB := hB.stay hc2
      clear hc2
      go_wp2_with (first | (refine wpG_hload 26 _ rfl rfl (fun w' hw' => mo_load26 (HI.out w' hw').blk) hS ?_) | (refine wpG_hload 61 _ rfl rfl (fun w' hw' => load_map Tryd.underlying61 (mo_cells (HI.out w' hw').blk).2.2.1) hS ?_) | (refine wpG_calc rfl (fun K hK => ?_)) | (refine wpG_skip ?_ ?_; (focus (simp [wantG]; done)); go_simp) | (refine wpG_take ?_ ?_; (focus (simp [wantG]; done))) | (refine wpG_pure (fun K hK => ?_); go_simp; refine hK _ _ ?_; clear hK K) | (refine wpG_deed (by decide) (fun K hK => ?_); go_simp) | (refine wpG_nil ?_))
      (refine wpG_keeps hS (fun K hK => ?_))
      go_simp
      obtain ⟨W3, hW3⟩ : ∃ W, W = W2.alloc (.map #[] 0) := ⟨_, rfl⟩
      have hc3 : Chg [] W2 W3 := by rw [hW3]; exact (Chg.refl [] _).alloc _
      have hP : MapB W3 W2.heap.size .i64 (fun _ => none) := by rw [hW3]; exact MapB.new _ _
      obtain ⟨bP, hbP⟩ : ∃ b, b = W2.heap.size := ⟨_, rfl⟩
      have gP : W2.heap.size ≤ bP := Nat.le_of_eq hbP.symm
      try rw [← hW3]
      rw [← hbP] at hP ⊢
      have lP := hP.lt
      clear hW3 hbP
      have z3 := hc3.size
      replace hS : Chg [] w W3 := hS.stay hc3
      refine hK _ _ hS ?_
      clear hK K
      replace hB := hB.stay hc3
      replace hE := hE.stay hc3
      clear hc3
      have HBP := hide (bm_new M.c bP bB bE)
      go_wp2_with (first | (refine wpG_keeps hS (fun K hK => ?_); refine wp_boxMo _ rfl rfl ?_; refine hK _ _ (hS.alloc _) ?_; clear hK K) | (refine wpG_buildMo _ rfl HBP.out ?_ ?_; (focus (simp [Act.eval]; done)); go_simp) | (refine wpG_calc rfl (fun K hK => ?_)) | (refine wpG_skip ?_ ?_; (focus (simp [wantG]; done)); go_simp) | (refine wpG_take ?_ ?_; (focus (simp [wantG]; done))) | (refine wpG_pure (fun K hK => ?_); go_simp; refine hK _ _ ?_; clear hK K) | (refine wpG_deed (by decide) (fun K hK => ?_); go_simp) | (refine wpG_nil ?_))
      go_meet
      case rel =>
        have hn : Chg [] W3 (W3.alloc (.cells (mgc M.c bP bB bE) 63)) := (Chg.refl [] _).alloc _
        exact ⟨_, bP, bB, bE, rfl, hide (Mc0.mk (hS.stay hn) (Blk.new W3 _ _) (hP.stay hn) (hB.stay hn) (hE.stay hn) (by omega) (by omega))⟩
    · have z0 := hS.size
      simp only [picks, List.filterMap_cons, List.filterMap_nil, List.getElem?_cons_succ, List.getElem?_cons_zero]
      go_wp2_with (first | (refine wpG_hload 26 _ rfl rfl (fun w' hw' => mo_load26 (HI.out w' hw').blk) hS ?_) | (refine wpG_hload 61 _ rfl rfl (fun w' hw' => load_map Tryd.underlying61 (mo_cells (HI.out w' hw').blk).2.2.1) hS ?_) | (refine wpG_calc rfl (fun K hK => ?_)) | (refine wpG_skip ?_ ?_; (focus (simp [wantG]; done)); go_simp) | (refine wpG_take ?_ ?_; (focus (simp [wantG]; done))) | (refine wpG_pure (fun K hK => ?_); go_simp; refine hK _ _ ?_; clear hK K) | (refine wpG_deed (by decide) (fun K hK => ?_); go_simp) | (refine wpG_nil ?_))
      (refine wpG_keeps hS (fun K hK => ?_))
      go_simp
      refine (clone_rights (HI.out W0 hS).me).mono ?_
      rintro e W1 ⟨bE, rfl, hE, hc1, gE⟩
      have lE := hE.lt
      have z1 := hc1.size
      replace hS : Chg [] w W1 := hS.stay hc1
      refine hK _ _ hS ?_
      clear hK K
      clear hc1
      go_wp2_with (first | (refine wpG_hload 26 _ rfl rfl (fun w' hw' => mo_load26 (HI.out w' hw').blk) hS ?_) | (refine wpG_hload 61 _ rfl rfl (fun w' hw' => load_map Tryd.underlying61 (mo_cells (HI.out w' hw').blk).2.2.1) hS ?_) | (refine wpG_calc rfl (fun K hK => ?_)) | (refine wpG_skip ?_ ?_; (focus (simp [wantG]; done)); go_simp) | (refine wpG_take ?_ ?_; (focus (simp [wantG]; done))) | (refine wpG_pure (fun K hK => ?_); go_simp; refine hK _ _ ?_; clear hK K) | (refine wpG_deed (by decide) (fun K hK => ?_); go_simp) | (refine wpG_nil ?_))
      (refine wpG_keeps hS (fun K hK => ?_))
      go_simp
      obtain ⟨W2, hW2⟩ : ∃ W, W = W1.alloc (.map #[] 0) := ⟨_, rfl⟩
      have hc2 : Chg [] W1 W2 := by rw [hW2]; exact (Chg.refl [] _).alloc _
      have hP : MapB W2 W1.heap.size .i64 (fun _ => none) := by rw [hW2]; exact MapB.new _ _
      obtain ⟨bP, hbP⟩ : ∃ b, b = W1.heap.size := ⟨_, rfl⟩
      have gP : W1.heap.size ≤ bP := Nat.le_of_eq hbP.symm
      try rw [← hW2]
      rw [← hbP] at hP ⊢
      have lP := hP.lt
      clear hW2 hbP
      have z2 := hc2.size
      replace hS : Chg [] w W2 := hS.stay hc2
      refine hK _ _ hS ?_
      clear hK K
      replace hE := hE.stay hc2
      clear hc2
      go_wp2_with (first | (refine wpG_hload 26 _ rfl rfl (fun w' hw' => mo_load26 (HI.out w' hw').blk) hS ?_) | (refine wpG_hload 61 _ rfl rfl (fun w' hw' => load_map Tryd.underlying61 (mo_cells (HI.out w' hw').blk).2.2.1) hS ?_) | (refine wpG_calc rfl (fun K hK => ?_)) | (refine wpG_skip ?_ ?_; (focus (simp [wantG]; done)); go_simp) | (refine wpG_take ?_ ?_; (focus (simp [wantG]; done))) | (refine wpG_pure (fun K hK => ?_); go_simp; refine hK _ _ ?_; clear hK K) | (refine wpG_deed (by decide) (fun K hK => ?_); go_simp) | (refine wpG_nil ?_))
      (refine wpG_keeps hS (fun K hK => ?_))
      go_simp
      obtain ⟨W3, hW3⟩ : ∃ W, W = W2.alloc (.map #[] 0) := ⟨_, rfl⟩
      have hc3 : Chg [] W2 W3 := by rw [hW3]; exact (Chg.refl [] _).alloc _
      have hB : MapB W3 W2.heap.size .u64 (fun _ => none) := by rw [hW3]; exact MapB.new _ _
      obtain ⟨bB, hbB⟩ : ∃ b, b = W2.heap.size := ⟨_, rfl⟩
      have gB : W2.heap.size ≤ bB := Nat.le_of_eq hbB.symm
      try rw [← hW3]
      rw [← hbB] at hB ⊢
      have lB := hB.lt
      clear hW3 hbB
      have z3 := hc3.size
      replace hS : Chg [] w W3 := hS.stay hc3
      refine hK _ _ hS ?_
      clear hK K
      replace hE := hE.stay hc3
      replace hP := hP.stay hc3
      clear hc3
      have HBP := hide (bm_new M.c bP bB bE)
      go_wp2_with (first | (refine wpG_keeps hS (fun K hK => ?_); refine wp_boxMo _ rfl rfl ?_; refine hK _ _ (hS.alloc _) ?_; clear hK K) | (refine wpG_buildMo _ rfl HBP.out ?_ ?_; (focus (simp [Act.eval]; done)); go_simp) | (refine wpG_calc rfl (fun K hK => ?_)) | (refine wpG_skip ?_ ?_; (focus (simp [wantG]; done)); go_simp) | (refine wpG_take ?_ ?_; (focus (simp [wantG]; done))) | (refine wpG_pure (fun K hK => ?_); go_simp; refine hK _ _ ?_; clear hK K) | (refine wpG_deed (by decide) (fun K hK => ?_); go_simp) | (refine wpG_nil ?_))
      go_meet
      case rel =>
        have hn : Chg [] W3 (W3.alloc (.cells (mgc M.c bP bB bE) 63)) := (Chg.refl [] _).alloc _
        exact ⟨_, bP, bB, bE, rfl, hide (Mc0.mk (hS.stay hn) (Blk.new W3 _ _) (hP.stay hn) (hB.stay hn) (hE.stay hn) (by omega) (by omega))⟩
    · have z0 := hS.size
      simp only [picks, List.filterMap_cons, List.filterMap_nil, List.getElem?_cons_succ, List.getElem?_cons_zero]
      go_wp2_with (first | (refine wpG_hload 26 _ rfl rfl (fun w' hw' => mo_load26 (HI.out w' hw').blk) hS ?_) | (refine wpG_hload 61 _ rfl rfl (fun w' hw' => load_map Tryd.underlying61 (mo_cells (HI.out w' hw').blk).2.2.1) hS ?_) | (refine wpG_calc rfl (fun K hK => ?_)) | (refine wpG_skip ?_ ?_; (focus (simp [wantG]; done)); go_simp) | (refine wpG_take ?_ ?_; (focus (simp [wantG]; done))) | (refine wpG_pure (fun K hK => ?_); go_simp; refine hK _ _ ?_; clear hK K) | (refine wpG_deed (by decide) (fun K hK => ?_); go_simp) | (refine wpG_nil ?_))
      (refine wpG_keeps hS (fun K hK => ?_))
      go_simp
      refine (clone_rights (HI.out W0 hS).me).mono ?_
      rintro e W1 ⟨bE, rfl, hE, hc1, gE⟩
      have lE := hE.lt
      have z1 := hc1.size
      replace hS : Chg [] w W1 := hS.stay hc1
      refine hK _ _ hS ?_
      clear hK K
      clear hc1
      go_wp2_with (first | (refine wpG_hload 26 _ rfl rfl (fun w' hw' => mo_load26 (HI.out w' hw').blk) hS ?_) | (refine wpG_hload 61 _ rfl rfl (fun w' hw' => load_map Tryd.underlying61 (mo_cells (HI.out w' hw').blk).2.2.1) hS ?_) | (refine wpG_calc rfl (fun K hK => ?_)) | (refine wpG_skip ?_ ?_; (focus (simp [wantG]; done)); go_simp) | (refine wpG_take ?_ ?_; (focus (simp [wantG]; done))) | (refine wpG_pure (fun K hK => ?_); go_simp; refine hK _ _ ?_; clear hK K) | (refine wpG_deed (by decide) (fun K hK => ?_); go_simp) | (refine wpG_nil ?_))
      (refine wpG_keeps hS (fun K hK => ?_))
      go_simp
      obtain ⟨W2, hW2⟩ : ∃ W, W = W1.alloc (.map #[] 0) := ⟨_, rfl⟩
      have hc2 : Chg [] W1 W2 := by rw [hW2]; exact (Chg.refl [] _).alloc _
      have hB : MapB W2 W1.heap.size .u64 (fun _ => none) := by rw [hW2]; exact MapB.new _ _
      obtain ⟨bB, hbB⟩ : ∃ b, b = W1.heap.size := ⟨_, rfl⟩
      have gB : W1.heap.size ≤ bB := Nat.le_of_eq hbB.symm
      try rw [← hW2]
      rw [← hbB] at hB ⊢
      have lB := hB.lt
      clear hW2 hbB
      have z2 := hc2.size
      replace hS : Chg [] w W2 := hS.stay hc2
      refine hK _ _ hS ?_
      clear hK K
      replace hE := hE.stay hc2
      clear hc2
      go_wp2_with (first | (refine wpG_hload 26 _ rfl rfl (fun w' hw' => mo_load26 (HI.out w' hw').blk) hS ?_) | (refine wpG_hload 61 _ rfl rfl (fun w' hw' => load_map Tryd.underlying61 (mo_cells (HI.out w' hw').blk).2.2.1) hS ?_) | (refine wpG_calc rfl (fun K hK => ?_)) | (refine wpG_skip ?_ ?_; (focus (simp [wantG]; done)); go_simp) | (refine wpG_take ?_ ?_; (focus (simp [wantG]; done))) | (refine wpG_pure (fun K hK => ?_); go_simp; refine hK _ _ ?_; clear hK K) | (refine wpG_deed (by decide) (fun K hK => ?_); go_simp) | (refine wpG_nil ?_))
      (refine wpG_keeps hS (fun K hK => ?_))
      go_simp
      obtain ⟨W3, hW3⟩ : ∃ W, W = W2.alloc (.map #[] 0) := ⟨_, rfl⟩
      have hc3 : Chg [] W2 W3 := by rw [hW3]; exact (Chg.refl [] _).alloc _
      have hP : MapB W3 W2.heap.size .i64 (fun _ => none) := by rw [hW3]; exact MapB.new _ _
      obtain ⟨bP, hbP⟩ : ∃ b, b = W2.heap.size := ⟨_, rfl⟩
      have gP : W2.heap.size ≤ bP := Nat.le_of_eq hbP.symm
      try rw [← hW3]
      rw [← hbP] at hP ⊢
      have lP := hP.lt
      clear hW3 hbP
      have z3 := hc3.size
      replace hS : Chg [] w W3 := hS.stay hc3
      refine hK _ _ hS ?_
      clear hK K
      replace hE := hE.stay hc3
      replace hB := hB.stay hc3
      clear hc3
      have HBP := hide (bm_new M.c bP bB bE)
      go_wp2_with (first | (refine wpG_keeps hS (fun K hK => ?_); refine wp_boxMo _ rfl rfl ?_; refine hK _ _ (hS.alloc _) ?_; clear hK K) | (refine wpG_buildMo _ rfl HBP.out ?_ ?_; (focus (simp [Act.eval]; done)); go_simp) | (refine wpG_calc rfl (fun K hK => ?_)) | (refine wpG_skip ?_ ?_; (focus (simp [wantG]; done)); go_simp) | (refine wpG_take ?_ ?_; (focus (simp [wantG]; done))) | (refine wpG_pure (fun K hK => ?_); go_simp; refine hK _ _ ?_; clear hK K) | (refine wpG_deed (by decide) (fun K hK => ?_); go_simp) | (refine wpG_nil ?_))
      go_meet
      case rel =>
        have hn : Chg [] W3 (W3.alloc (.cells (mgc M.c bP bB bE) 63)) := (Chg.refl [] _).alloc _
        exact ⟨_, bP, bB, bE, rfl, hide (Mc0.mk (hS.stay hn) (Blk.new W3 _ _) (hP.stay hn) (hB.stay hn) (hE.stay hn) (by omega) (by omega))⟩
  obtain ⟨m, bp, bo, be, rfl, h0⟩ := hcut
  have HP0 := hide (HI.out wc h0.out.chg)
  have q1 := (mo_cells HP0.out.blk).1
  have l1 := h0.out.blk.lt
  go_wp2_with (refine wpList_range_int rfl _ rfl Tryd.underlying59 rfl HP0.out.mp ?_; intro W1 n1 hit hc1 hs1; go_simp)
  have HC := hide (Mc0.begin h0.out hc1 hs1 (lp := fun z => (fp z).isSome) (lo := fun z => (M.ob z).isSome) (fun z => by show (fp z).isSome = _; rw [HP0.out.hp]; cases M.pr z <;> rfl) (fun _ => rfl))
  have HIT := hide hit
  obtain ⟨r, hr⟩ : ∃ r, r = wc.heap.size := ⟨_, rfl⟩
  rw [← hr] at HC HIT ⊢
  have lb := (HI.out w (Chg.refl _ _))
  have lbp := lb.mp.lt
  have lbo := lb.mo.lt
  clear hit hc1 hs1 q1 l1 l0 h0 hr HP0 lb
  go_loopw [] (fun wr => ∃ lp gq GQ n, Hid (Mc w wr m bp bo be r M fe lp (fun z => (M.ob z).isSome) gq GQ (fun _ => .slice none 0 0)) ∧ Hid (MapIt wr bp0 r .i64 fp lp n)) (fun wr => itLeft wr bp0 r)
  case atStart => exact ⟨_, _, _, _, HC, HIT⟩
  case round =>
    obtain ⟨lp, gq, GQ, n, hcp, hit⟩ := hrel
    have hm0 := hit.out.left_eq
    have HP := hide (HI.out wr hcp.out.chg)
    go_wp2_with (refine wpList_next_int rfl _ rfl rfl hit.out ?_ ?_)
    · intro h1 h2
      have HM1 := hide hcp.out
      have HL1 := hide h2
      have lb := hcp.out.blk.lt
      have q2 := (mo_cells HP.out.blk).2.1
      have l2 := HP.out.blk.lt
      have HPO := hide HP.out.mo
      clear hcp hit hm0 HP h1 h2 HC HIT
      go_wp2_with (refine wpList_range_int rfl _ rfl Tryd.underlying60 rfl HPO.out ?_; intro W2 n2 hit2 hc2 hs2; go_simp)
      have HC2 := hide (HM1.out.again hc2 hs2)
      have HIT2 := hide (show MapIt W2 bo0 wr.heap.size .u64 fo (fun z => (M.ob z).isSome) n2 from by
        have e : (fun z => (fo z).isSome) = fun z => (M.ob z).isSome := by
          funext z
          rw [(HI.out wr HM1.out.chg).ho]
          cases M.ob z <;> rfl
        rw [← e]
        exact hit2)
      obtain ⟨r2, hr2⟩ : ∃ r, r = wr.heap.size := ⟨_, rfl⟩
      rw [← hr2] at HC2 HIT2 ⊢
      clear hit2 hc2 hs2 q2 lb l2 hr2 HM1 HPO
      go_loopw [] (fun wx => ∃ lo ov n, Hid (Mc w wx m bp bo be r2 M fe lp lo gq GQ ov) ∧ Hid (MapIt wx bo0 r2 .u64 fo lo n)) (fun wx => itLeft wx bo0 r2)
      case atStart => exact ⟨_, _, _, HC2, HIT2⟩
      case round =>
        obtain ⟨lo, ov, n, hcp, hit⟩ := hrel
        have hm0 := hit.out.left_eq
        have HP := hide (HI.out wr hcp.out.chg)
        go_wp2_with (refine wpList_next_int rfl _ rfl rfl hit.out ?_ ?_)
        · intro h1 h2
          have HE := hide (hcp.out.end_ HP.out HL1.out h2)
          have HCC := hide hcp.out.chg
          have lb := hcp.out.blk.lt
          clear hcp hit hm0 HP
          go_wp2_with fail
          go_ret
          obtain ⟨F, k1, k2⟩ := HE.out
          exact ⟨⟨_, F, rfl, k1, k2⟩, HCC.out⟩
        · intro z v w' n' h1 h2 h3 h4 h5 h6 h7
          obtain ⟨B, hB, rfl⟩ : ∃ B, M.ob z = some B ∧ v = ov0 z := by
            rw [HP.out.ho] at h2
            cases hB : M.ob z with
            | none => rw [hB] at h2; cases h2
            | some B => rw [hB] at h2; exact ⟨B, rfl, (Option.some.inj h2).symm⟩
          have HC1 := hide (hcp.out.next h5)
          have HSB := hide ((HI.out w' HC1.out.chg).ob z B hB)
          have HB := hide hB
          have HIT1 := hide h3
          have hlt := h4
          have lm := HC1.out.blk.lt
          clear hcp hit HP hB h1 h2 h3 h4 h5 h6
          go_upto_region 11 with (fail)
          refine wp_region_t [0,0,0,5,0,0,6,3] [none, none, none, none, none, none, none, none] (fun W => Chg [] w' W) (by kernel_rfl) (by kernel_rfl) (by kernel_rfl) ?_
          have hS : Chg [] w' w'.drew := (Chg.refl [] w').drew
          generalize w'.drew = W0 at hS ⊢
          go_wp2_with (first | (refine wpG_hload 60 _ rfl rfl (fun w1 hw1 => load_map Tryd.underlying60 (mo_cells (HC1.out.stay hw1).blk).2.1) hS ?_) | (refine wpG_calc rfl (fun K hK => ?_)) | (refine wpG_skip ?_ ?_; (focus (simp [wantG]; done)); go_simp) | (refine wpG_take ?_ ?_; (focus (simp [wantG]; done))) | (refine wpG_pure (fun K hK => ?_); go_simp; refine hK _ _ ?_; clear hK K) | (refine wpG_deed (by decide) (fun K hK => ?_); go_simp) | (refine wpG_nil ?_))
          (refine wpG_keeps hS (fun K hK => ?_))
          go_simp
          refine (clone_b ((HSB.out.1.chg hS (fun k hk => List.not_mem_nil)).re) (by have := HSB.out.2.2; omega)).mono ?_
          rintro e W3 ⟨⟨A3, n3, c3, rfl, hs3, hn3⟩, hc3⟩
          have hS3 := hS.stay hc3
          have zs := hS.size
          refine hK _ _ hS3 ?_
          clear hK K
          have HC3 := hide (HC1.out.stay hS3)
          go_wp2_with (first | (refine wpG_deed (by decide) (fun K hK => ?_); refine wp_update _ _ _ rfl Tryd.underlying60 Tryd.underlying40 rfl rfl rfl HC3.out.mo ?_; intro W5 hm5 hc5; refine hK _ _ ?_; clear hK K) | (refine wpG_calc rfl (fun K hK => ?_)) | (refine wpG_skip ?_ ?_; (focus (simp [wantG]; done)); go_simp) | (refine wpG_take ?_ ?_; (focus (simp [wantG]; done))) | (refine wpG_pure (fun K hK => ?_); go_simp; refine hK _ _ ?_; clear hK K) | (refine wpG_deed (by decide) (fun K hK => ?_); go_simp) | (refine wpG_nil ?_))
          have lbo2 := HC3.out.mo.lt
          have gbo := HC1.out.g
          have hno : ∀ k ∈ own (.slice A3 n3 c3), k ∉ [bo] := fun k hk hm => by
            obtain rfl := List.mem_singleton.1 hm
            have := hn3 _ hk
            have := HC1.out.mo.lt
            omega
          have hcB : Chg [bo] w' W5 := (hS3.up [bo]).trans hc5 (fun x hx => .inl hx)
          have HST := hide (HC1.out.stepO (W1 := W5) HB.out hcB (hs3.chg hc5 hno) (fun k hk => by have := hn3 k hk; omega) hm5)
          have HI2 := hide (HIT1.out.chg hcB (by simp; omega) (by simpa using HC1.out.nr.2.2.1))
          go_roundw
          case rel =>
            (repeat apply Exists.intro)
            refine ⟨⟨_, _, _, HST, HI2⟩, rfl⟩
          case measure => rw [hm0, HI2.out.left_eq]; exact hlt
    · intro z v w' n' h1 h2 h3 h4 h5 h6 h7
      obtain ⟨p, hp, rfl⟩ : ∃ p, M.pr z = some p ∧ v = .pointer (some ⟨gb z, 0, none⟩) := by
        rw [HP.out.hp] at h2
        cases hB : M.pr z with
        | none => rw [hB] at h2; cases h2
        | some B => rw [hB] at h2; exact ⟨B, rfl, (Option.some.inj h2).symm⟩
      have HC1 := hide (hcp.out.next h5)
      have HPP := hide ((HI.out w' HC1.out.chg).pr z p hp)
      have HB := hide hp
      have HIT1 := hide h3
      have hlt := h4
      have lm := HC1.out.blk.lt
      clear hcp hit HP hp h1 h2 h3 h4 h5 h6
      go_upto_region 7 with (fail)
      refine wp_region_t [0,0,0,5,0,0,6,3] [none, none, none, none, none, none, none, none] (fun W => Chg [] w' W) (by kernel_rfl) (by kernel_rfl) (by kernel_rfl) ?_
      have hS : Chg [] w' w'.drew := (Chg.refl [] w').drew
      generalize w'.drew = W0 at hS ⊢
      go_wp2_with (first | (refine wpG_hload 59 _ rfl rfl (fun w1 hw1 => load_map Tryd.underlying59 (mo_cells (HC1.out.stay hw1).blk).1) hS ?_) | (refine wpG_calc rfl (fun K hK => ?_)) | (refine wpG_skip ?_ ?_; (focus (simp [wantG]; done)); go_simp) | (refine wpG_take ?_ ?_; (focus (simp [wantG]; done))) | (refine wpG_pure (fun K hK => ?_); go_simp; refine hK _ _ ?_; clear hK K) | (refine wpG_deed (by decide) (fun K hK => ?_); go_simp) | (refine wpG_nil ?_))
      (refine wpG_keeps hS (fun K hK => ?_))
      go_simp
      refine (copied_any (HPP.out.chg hS (fun k hk => by cases hk))).mono ?_
      rintro e W3 ⟨⟨b3, F3, rfl, hP3, hF3⟩, hc3⟩
      have hS3 := hS.stay hc3
      have zs := hS.size
      refine hK _ _ hS3 ?_
      clear hK K
      have HC3 := hide (HC1.out.stay hS3)
      go_wp2_with (first | (refine wpG_deed (by decide) (fun K hK => ?_); refine wp_update _ _ _ rfl Tryd.underlying59 Tryd.underlying3 rfl rfl rfl HC3.out.mp ?_; intro W5 hm5 hc5; refine hK _ _ ?_; clear hK K) | (refine wpG_calc rfl (fun K hK => ?_)) | (refine wpG_skip ?_ ?_; (focus (simp [wantG]; done)); go_simp) | (refine wpG_take ?_ ?_; (focus (simp [wantG]; done))) | (refine wpG_pure (fun K hK => ?_); go_simp; refine hK _ _ ?_; clear hK K) | (refine wpG_deed (by decide) (fun K hK => ?_); go_simp) | (refine wpG_nil ?_))
      have lbp2 := HC3.out.mp.lt
      have gbp := HC1.out.g
      have hno : ∀ k ∈ [bp], ¬ F3 k := fun k hm hk => by
        obtain rfl := List.mem_singleton.1 hm
        have := hF3 _ hk
        have := HC1.out.mp.lt
        omega
      have hcB : Chg [bp] w' W5 := (hS3.up [bp]).trans hc5 (fun x hx => .inl hx)
      have HST := hide (HC1.out.stepP (W1 := W5) HB.out hcB (hP3.chg hc5 hno) (fun k hk => by have := hF3 k hk; omega) hm5)
      have HI2 := hide (HIT1.out.chg hcB (by simp; omega) (by simpa using HC1.out.nr.2.1))
      go_roundw
      case rel =>
        (repeat apply Exists.intro)
        refine ⟨⟨_, _, _, _, HST, HI2⟩, rfl⟩
      case measure => rw [hm0, HI2.out.left_eq]; exact hlt
end Go.Proofs.YtfoleblcaloeoaaDoor

/- Two machines that are alike: objects, pages. -/
namespace Go.Proofs.YtfoleblcaloeoaaDoor
open Go Go.RowKit

/-! ## Two maps with the same keys have as many entries -/
theorem len_le : ∀ (l m : List Int), l.Pairwise (· ≠ ·) → (∀ a ∈ l, a ∈ m) → l.length ≤ m.length
  | [], _, _, _ => Nat.zero_le _
  | a :: l, m, hp, h => by
    rw [List.pairwise_cons] at hp
    have ha : a ∈ m := h a (List.mem_cons_self ..)
    have h1 : (m.erase a).length = m.length - 1 := List.length_erase_of_mem ha
    have h2 := len_le l (m.erase a) hp.2 (fun b hb => (List.mem_erase_of_ne (fun e => hp.1 b hb e.symm)).2 (h b (List.mem_cons_of_mem _ hb)))
    have h3 : 0 < m.length := List.length_pos_of_mem ha
    rw [List.length_cons]
    omega
def keyZ : MapEntry → Int := fun e => match e.key with | .int _ z => z | _ => 0
theorem keys_in {k : IntKind} {l : List MapEntry} (hk : KeysI k l) (hd : Dist l) : (l.map keyZ).Pairwise (· ≠ ·) ∧ ∀ z, z ∈ l.map keyZ ↔ ((mlook k z l 0).map (·.2)).isSome = true := by
  refine ⟨?_, fun z => ?_⟩
  · rw [List.pairwise_map]
    refine List.Pairwise.imp_of_mem ?_ hd
    intro a b ha hb hne e
    obtain ⟨x, hx⟩ := hk a ha
    obtain ⟨y, hy⟩ := hk b hb
    unfold keyZ at e
    rw [hx, hy] at e
    exact hne (by rw [hx, hy, show x = y from e])
  · constructor
    · intro hz
      obtain ⟨e, he, rfl⟩ := List.mem_map.1 hz
      obtain ⟨x, hx⟩ := hk e he
      have : keyZ e = x := by unfold keyZ; rw [hx]
      rw [this, mlook_at hd he hx]; rfl
    · intro hz
      cases h6 : mlook k z l 0 with
      | none => rw [h6] at hz; cases hz
      | some p =>
        obtain ⟨i, v⟩ := p
        obtain ⟨j, _, hj, h7, h8⟩ := mlook_some _ _ h6
        refine List.mem_map.2 ⟨_, List.getElem_mem hj, ?_⟩
        unfold keyZ; rw [h7]
theorem map_lens {t kt e : TypeId} {k : IntKind} {w : World} {b b' : Nat} {f g : Int → Option Value} (ht : Tryd.prog.underlying t = some (.map kt e)) (h : MapB w b k f) (h' : MapB w b' k g) (hfg : ∀ z, (f z).isSome = (g z).isSome) :
    ∃ n : Nat, (∀ ty, (Builtin.len_ #[t] ty #[.map (some b)]).run Tryd.prog w = .ok (.int .i64 n) w) ∧ ∀ ty, (Builtin.len_ #[t] ty #[.map (some b')]).run Tryd.prog w = .ok (.int .i64 n) w := by
  obtain ⟨es, c, h1, h2, h3, h4, h5⟩ := h
  obtain ⟨es', c', h1', h2', h3', h4', h5'⟩ := h'
  obtain ⟨p1, p2⟩ := keys_in h2 h3
  obtain ⟨q1, q2⟩ := keys_in h2' h3'
  have e1 : ∀ z, z ∈ es.toList.map keyZ ↔ z ∈ es'.toList.map keyZ := fun z => by rw [p2, q2, h5, h5', hfg]
  have l1 := len_le _ _ p1 (fun a ha => (e1 a).1 ha)
  have l2 := len_le _ _ q1 (fun a ha => (e1 a).2 ha)
  rw [List.length_map, List.length_map] at l1 l2
  have e2 : es'.size = es.size := by have := Array.length_toList (xs := es); have := Array.length_toList (xs := es'); omega
  refine ⟨es.size, fun ty => ?_, fun ty => ?_⟩
  · simp [Builtin.len_, run_underlying ht, MapKept.run_getObj_map h1, goInt]
  · rw [← e2]
    simp [Builtin.len_, run_underlying ht, MapKept.run_getObj_map h1', goInt]
/-! ## maps.EqualFunc, of objects -/
set_option maxRecDepth 20000 in
set_option maxHeartbeats 4000000 in
theorem equal_objs {w : World} {b1 b2 : Nat} {f1 f2 : Int → Option Value} (h1 : MapB w b1 .u64 f1) (h2 : MapB w b2 .u64 f2) (hd : ∀ z, (f1 z).isSome = (f2 z).isSome)
    (he : ∀ z v u, f1 z = some v → f2 z = some u → ∃ B, RB w v B ∧ RB w u B ∧ ∀ x ∈ B, x < 256) :
    Calls Tryd.prog 28 #[.map (some b1), .map (some b2), .func (.func 29) #[] #[]] w fun e w' => e = .returned (.bool true) ∧ Chg [] w w' := by
  obtain ⟨n, l1, l2⟩ := map_lens Tryd.underlying60 h1 h2 hd
  have H1 := hide h1
  have H2 := hide (fun W (h : Chg [] w W) => h2.chg h List.not_mem_nil)
  have HD := hide hd
  have HE := hide he
  clear h1 h2 hd he
  go_enter Tryd.func28, Tryd.ntmps28
  go_wp2_with (refine wpList_range_int rfl _ rfl Tryd.underlying60 rfl H1.out ?_; intro w0 n0 hit hc0 hs0; go_simp)
  have HIT := hide hit
  have HC0 := hide hc0
  clear hit hc0 l1 l2 hs0
  go_loopw [] (fun wr => ∃ left n, Hid (MapIt wr b1 w.heap.size .u64 f1 left n) ∧ Hid (Chg [] w wr)) (fun wr => itLeft wr b1 w.heap.size)
  case atStart => exact ⟨_, _, HIT, HC0⟩
  case round =>
    obtain ⟨left, n, hit, hch⟩ := hrel
    have hm0 := hit.out.left_eq
    go_wp2_with (refine wpList_next_int rfl _ rfl rfl hit.out ?_ ?_)
    · intro g1 g2
      have HC := hide hch.out
      clear hit hch hm0 g1 g2
      go_wp2_with fail
      go_ret
      exact ⟨rfl, HC.out⟩
    · intro z v w' n' g1 g2 g3 g4 g5 g6 g7
      have HCw := hide (show Chg [] w w' from hch.out.trans g5 (fun y hy => .inr (by obtain rfl := List.mem_singleton.1 hy; omega)))
      obtain ⟨u, hu⟩ : ∃ u, f2 z = some u := by
        have := HD.out z
        rw [g2] at this
        cases hq : f2 z with
        | none => rw [hq] at this; cases this
        | some u => exact ⟨u, rfl⟩
      obtain ⟨B, r1, r2, r3⟩ := HE.out z v u g2 hu
      have hlk := run_look_some Tryd.underlying60 Tryd.underlying40 (H2.out w' HCw.out) hu true
      have hEQ := Equal_any (r1.stay HCw.out) (r2.stay HCw.out) r3 r3
      rw [decide_eq_true rfl] at hEQ
      have HEQ := hide hEQ
      have HIT1 := hide g3
      clear hit hch g1 g2 g3 g5 g6 hu r1 r2 r3 hEQ
      go_wp2_with fail
      refine HEQ.out.mono ?_
      rintro e W2 ⟨rfl, rfl⟩
      go_wp2_with fail
      go_roundw
      case rel => exact ⟨_, _, HIT1, HCw⟩
      case measure => rw [HIT1.out.left_eq, hm0]; exact g4
/-! ## A page -/
theorem eq_itemsI (w : World) {l : List Nat} : ∀ is : List Nat, (∀ i ∈ is, i < l.length) → (Op.eqItems 9999 5 1 (pgc l) (pgc l) is).run Tryd.prog w = .ok true w
  | [], _ => rfl
  | i :: is, h => by
    have hi := h i (List.mem_cons_self ..)
    have hg : (pgc l)[i * 1]? = some (.int .u8 (l[i] : Nat)) := by unfold pgc; rw [Nat.mul_one, List.getElem?_toArray, List.getElem?_map, List.getElem?_eq_getElem hi]; rfl
    have h1 : (part 5 (pgc l) (i * 1)).run Tryd.prog w = .ok (.int .u8 (l[i] : Nat)) w := run_part_plain w (by kernel_rfl) hg
    have h2 : (Op.equalIn 9999 5 (.int .u8 (l[i] : Nat)) (.int .u8 (l[i] : Nat))).run Tryd.prog w = .ok true w := by
      rw [run_equalIn_int w 9998 5 .u8 .u8 _ _ Tryd.underlying5]
      simp
    have ih := eq_itemsI w is (fun j hj => h j (List.mem_cons_of_mem _ hj))
    simp only [Op.eqItems, Sem.run_bind, h1, h2, Result.andThen_ok]
    simpa using ih
theorem eq_pageI (w : World) {l : List Nat} (hl : l.length = 256) : (Op.equalIn 10000 99 (.agg (pgc l)) (.agg (pgc l))).run Tryd.prog w = .ok true w := by
  have h5 : (Tryd.prog.info? 5).isSome = true := by kernel_rfl
  obtain ⟨i, hi⟩ := Option.isSome_iff_exists.1 h5
  have hc : Tryd.prog.cellsOf 5 = 1 := by kernel_rfl
  rw [run_equalIn_array w 9999 _ _ Tryd.underlying99 hi, hc]
  exact eq_itemsI w _ (fun i hi => by rw [hl]; exact List.mem_range.1 hi)
theorem run_build99 (w : World) : (Instr.build 99 #[]).run Tryd.prog w = .ok (.agg (pgc zeroPg)) w := by
  have e : Tryd.zeroCells99 = pgc zeroPg := by kernel_rfl
  simp [Instr.build, Sem.run_bind, zero99, Value.cells, run_underlying Tryd.underlying99, size5, Instr.fill, e]
theorem wpList_build99 {ops : Array Oper} {rest : List Oper} {o : Oper} {a : Act} {w : World} {Q : Exit → Act → World → Prop} (hg : o.guard = none) (ho : o.op = .build 99 #[])
    (h : wpList Tryd.prog ops Q rest (a.put o.dst (.agg (pgc zeroPg))) w) : wpList Tryd.prog ops Q (o :: rest) a w :=
  Great.wpList_runTo hg _ rfl _ _ (by unfold execOp; simp only [ho, List.map_toArray, List.map_nil, Sem.run_bind, run_build99, Sem.run_pure, Result.andThen_ok]) h
def pageP (p : Pr) (n : Int) : List Nat := (p.pg n).getD zeroPg
set_option maxRecDepth 20000 in
set_option maxHeartbeats 4000000 in
theorem page_pr {w : World} {b : Nat} {p : Pr} {d : Nat} {FA : List Nat} {qp qo : Nat} {fp fo : Int → Option Value} {gp : Int → Nat} (hP : PIn w b p d FA qp qo fp fo gp) (q : Int) :
    Calls Tryd.prog 55 #[.pointer (some ⟨b, 0, none⟩), .int .i64 q] w fun e w' => e = .returned (.agg (pgc (pageP p q))) ∧ Chg [] w w' := by
  obtain ⟨W1, hW1⟩ : ∃ W1, W1 = w.alloc (.cells (pgc zeroPg) 99) := ⟨_, rfl⟩
  have hc1 : Chg [] w W1 := by rw [hW1]; exact (Chg.refl [] w).alloc _
  have hz1 : PgB W1 w.heap.size zeroPg := by rw [hW1]; exact PgB.new w
  have hP1 := hP.cp (CP.of0 (F := fun _ => False) hc1) (fun _ _ h => h)
  have q1 : W1.cell? ⟨b, 1, none⟩ = some (.map (some qp)) := by simpa [prc] using hP1.blk.cell 1
  have l1 := hP1.blk.lt
  have HW1 := hide hW1
  have HC1 := hide hc1
  have HZ1 := hide hz1
  cases hq : p.pg q with
  | some B =>
    have hlk := run_look_some Tryd.underlying88 Tryd.underlying3 hP1.mp (show fp q = some (.pointer (some ⟨gp q, 0, none⟩)) by rw [hP1.hp, hq]; rfl) true
    have HPG := hide (hP1.pg q B hq)
    have hlg := HPG.out.blk.lt
    have hr : pageP p q = B := by unfold pageP; rw [hq]; rfl
    rw [hr]
    clear hq hr hP1 hP hc1 hz1 hW1
    go_enter Tryd.func55, Tryd.ntmps55
    go_wp2_with (first | (refine wpList_alloc99 rfl rfl ?_; try rw [← HW1.out]) | (refine wpList_load99 rfl _ rfl rfl HPG.out ?_) | (refine wpList_store99 rfl _ _ rfl rfl rfl HPG.out.len HPG.out.b8 HZ1.out ?_; intro W2 hp2 hc2))
    refine bodyPost_ret (v := .agg (pgc B)) (results_cell_row (p := 4) (ty := 99) rfl _ _ w.heap.size 99 _ (0, 0) _ rfl hp2.blk Tryd.underlying99 rfl (info99 B HPG.out.len)) rfl ⟨rfl, ?_⟩
    exact HC1.out.trans hc2 (fun y hy => .inr (by obtain rfl := List.mem_singleton.1 hy; exact Nat.le_refl _))
  | none =>
    have hlk := run_look_none Tryd.underlying88 Tryd.underlying3 hP1.mp (show fp q = none by rw [hP1.hp, hq]; rfl) (zero98 W1) true
    have hr : pageP p q = zeroPg := by unfold pageP; rw [hq]; rfl
    rw [hr]
    have HB8 := hide hz1.b8
    clear hq hr hP1 hP hc1 hz1 hW1
    go_enter Tryd.func55, Tryd.ntmps55
    go_wp2_with (first | (refine wpList_alloc99 rfl rfl ?_; try rw [← HW1.out]) | (refine wpList_build99 rfl rfl ?_) | (refine wpList_store99 rfl _ _ rfl rfl rfl zeroPg_len HB8.out HZ1.out ?_; intro W2 hp2 hc2))
    refine bodyPost_ret (v := .agg (pgc zeroPg)) (results_cell_row (p := 4) (ty := 99) rfl _ _ w.heap.size 99 _ (0, 0) _ rfl hp2.blk Tryd.underlying99 rfl (info99 zeroPg zeroPg_len)) rfl ⟨rfl, ?_⟩
    exact HC1.out.trans hc2 (fun y hy => .inr (by obtain rfl := List.mem_singleton.1 hy; exact Nat.le_refl _))
end Go.Proofs.YtfoleblcaloeoaaDoor

/- known: a page is noughts, and a handle never comes again. -/
namespace Go.Proofs.YtfoleblcaloeoaaDoor
open Go Go.RowKit

def cSp : Cl := { zCl with k := 1 }
def cMm (g c : Int) (r : Nat) : Cl := { zCl with k := 3, p := 1, g := g, c := c, r := r }
def cLd (a s : Int) : Cl := { zCl with k := 8, p := 1, a := a, s := s }
def cKm : Cl := { zCl with k := 10, s := 8 }
theorem sp_built : BC [(0, .int .u8 1)] cSp zV := ⟨by kernel_rfl⟩
theorem km_built : BC [(0, .int .u8 10), (6, .int .i64 8)] cKm zV := ⟨by kernel_rfl⟩
theorem mm0_built : BC [(0, .int .u8 3), (1, .int .i64 1), (4, .int .i64 2), (7, .int .u8 3)] (cMm 0 2 3) zV := ⟨by kernel_rfl⟩
theorem ld0_built : BC [(0, .int .u8 8), (1, .int .i64 1), (5, .int .i64 5), (6, .int .i64 2)] (cLd 5 2) zV := ⟨by kernel_rfl⟩
theorem sp_ok : cSp.Ok := by constructor <;> simp [cSp, zCl]
theorem km_ok : cKm.Ok := by constructor <;> simp [cKm, zCl]
theorem mm0_ok : (cMm 0 2 3).Ok := by constructor <;> simp [cMm, zCl]
theorem ld0_ok : (cLd 5 2).Ok := by constructor <;> simp [cLd, zCl]
theorem sp_nw {c : Cf} (h : mayB c = true) : wrongK c cSp = false := nw_of h (by decide) (by decide) (by decide) (by decide) (by decide) (by decide) (by decide) (by decide) (by decide)
theorem km_nw {c : Cf} (h : mayB c = true) : wrongK c cKm = false := nw_of h (by decide) (by decide) (by decide) (by decide) (by decide) (by decide) (by decide) (by decide) (by decide)
theorem mm0_nw {c : Cf} (h : mayB c = true) : wrongK c (cMm 0 2 3) = false := nw_of h (by decide) (by decide) (by decide) (by decide) (by decide) (by decide) (by decide) (by decide) (by decide)
theorem ld0_nw {c : Cf} (h : mayB c = true) : wrongK c (cLd 5 2) = false := nw_of h (by decide) (by decide) (by decide) (by decide) (by decide) (by decide) (by decide) (by decide) (by decide)
theorem rs_ok {e : Int} {v : Nat} (h1 : 0 ≤ e ∧ e ≤ 1000) (h2 : v < 18446744073709551616) : (⟨e, v, []⟩ : Rs).Ok := ⟨⟨by show _ ≤ e; omega, by show e ≤ _; omega⟩, h2, fun _ h => by cases h⟩
def K1 : Mo := { newMo oneC with pr := upd (fun _ => none) 1 (some newPr) }
def K3 : Mo := { K1 with pr := upd K1.pr 1 (some (changeA newPr (cMm 0 2 3)).2) }
def K6 : Mo := { K3 with ob := upd K3.ob (7 : Nat) (some (List.replicate 8 0)), ev := upd K3.ev (7 : Nat) true }
theorem k1 : stepB (newMo oneC) cSp ⟨0, 1, []⟩ = true ∧ stepM (newMo oneC) cSp ⟨0, 1, []⟩ = K1 := by
  refine ⟨by rw [stepB_ok _ (sp_nw one_mayB)]; rfl, by rw [stepM_ok (sp_nw one_mayB) rfl rfl rfl]; rfl⟩
theorem k2 : stepB K1 cSp ⟨0, 3, []⟩ = false := by rw [stepB_ok _ (sp_nw one_mayB)]; rfl
theorem k3 : stepB K1 (cMm 0 2 3) ⟨0, 0, []⟩ = true ∧ stepM K1 (cMm 0 2 3) ⟨0, 0, []⟩ = K3 :=
  ⟨by rw [stepB_ok _ (mm0_nw one_mayB)]; rfl, by rw [stepM_ok (mm0_nw one_mayB) rfl rfl rfl]; rfl⟩
theorem k4 : stepB K3 (cLd 5 2) ⟨0, 0, [0, 0]⟩ = true ∧ stepM K3 (cLd 5 2) ⟨0, 0, [0, 0]⟩ = K3 :=
  ⟨by rw [stepB_ok _ (ld0_nw one_mayB)]; rfl, by rw [stepM_ok (ld0_nw one_mayB) rfl rfl rfl]; rfl⟩
theorem k5 : stepB K3 cKm ⟨0, 0, []⟩ = false := by rw [stepB_ok _ (km_nw one_mayB)]; rfl
theorem k6 : stepB K3 cKm ⟨0, 7, []⟩ = true ∧ stepM K3 cKm ⟨0, 7, []⟩ = K6 :=
  ⟨by rw [stepB_ok _ (km_nw one_mayB)]; rfl, by rw [stepM_ok (km_nw one_mayB) rfl rfl rfl]; rfl⟩
theorem k7 : stepB K6 cKm ⟨0, 7, []⟩ = false := by rw [stepB_ok _ (km_nw one_mayB)]; rfl
set_option maxRecDepth 20000 in
set_option maxHeartbeats 40000000 in
theorem known_any {w : World} (hf : FW w) : Calls Tryd.prog 10 #[] w fun e w' => e = .returned (.bool true) ∧ Chg [] w w' := by
  have HF := hide hf
  have D1 := hide sp_built
  have D3 := hide mm0_built
  have D4 := hide ld0_built
  have D5 := hide km_built
  have E0 := hide br_0
  have E1 := hide (br_v 1)
  have E3 := hide (br_v 3)
  have E7 := hide (br_v 7)
  have HO := hide (fun W => one_any W)
  clear hf
  go_enter Tryd.func10, Tryd.ntmps10
  go_wp2_with fail
  refine (HO.out _).mono ?_
  rintro e W0 ⟨rfl, hc0⟩
  have HC0 := hide hc0
  clear hc0
  go_wp2_with fail
  refine (New_ms (L := []) one_mayB HC0.out (fun k hk => by cases hk)).mono ?_
  rintro e W0' ⟨⟨m, rfl, hms⟩, -⟩
  have HM0 := hide hms
  clear hms
  go_wp2_with (first | (refine wpList_build34W _ rfl ?_ D1.out ?_ ?_; (focus (simp [Region.wanted, yielded, Act.put]; done)); (focus (simp [Act.eval, Act.put]; done))) | (refine wpList_build34W _ rfl ?_ D3.out ?_ ?_; (focus (simp [Region.wanted, yielded, Act.put]; done)); (focus (simp [Act.eval, Act.put]; done))) | (refine wpList_build34W _ rfl ?_ D5.out ?_ ?_; (focus (simp [Region.wanted, yielded, Act.put]; done)); (focus (simp [Act.eval, Act.put]; done))) | (refine wpList_build34W _ rfl ?_ D4.out ?_ ?_; (focus (simp [Region.wanted, yielded, Act.put]; done)); (focus (simp [Act.eval, Act.put]; done))) | (refine wpList_buildRsW _ rfl ?_ E1.out ?_ ?_; (focus (simp [Region.wanted, yielded, Act.put]; done)); (focus (simp [Act.eval, Act.put]; done))) | (refine wpList_buildRsW _ rfl ?_ E3.out ?_ ?_; (focus (simp [Region.wanted, yielded, Act.put]; done)); (focus (simp [Act.eval, Act.put]; done))) | (refine wpList_buildRsW _ rfl ?_ E7.out ?_ ?_; (focus (simp [Region.wanted, yielded, Act.put]; done)); (focus (simp [Act.eval, Act.put]; done))) | (refine wpList_buildRsW _ rfl ?_ E0.out ?_ ?_; (focus (simp [Region.wanted, yielded, Act.put]; done)); (focus (simp [Act.eval, Act.put]; done))))
  refine (Step_ms (r := ⟨0, 1, []⟩) HM0.out HF.out sp_ok (RE.nil ucl 1 _ none 0) (rs_ok (by omega) (by omega)) (RE.nil ucl 1 _ none 0)).mono ?_
  rintro e W1 ⟨rfl, hms, -⟩
  rw [k1.1]
  rw [k1.2] at hms
  have HM1 := hide hms
  clear hms
  go_wp2_with (first | (refine wpList_build34W _ rfl ?_ D1.out ?_ ?_; (focus (simp [Region.wanted, yielded, Act.put]; done)); (focus (simp [Act.eval, Act.put]; done))) | (refine wpList_build34W _ rfl ?_ D3.out ?_ ?_; (focus (simp [Region.wanted, yielded, Act.put]; done)); (focus (simp [Act.eval, Act.put]; done))) | (refine wpList_build34W _ rfl ?_ D5.out ?_ ?_; (focus (simp [Region.wanted, yielded, Act.put]; done)); (focus (simp [Act.eval, Act.put]; done))) | (refine wpList_build34W _ rfl ?_ D4.out ?_ ?_; (focus (simp [Region.wanted, yielded, Act.put]; done)); (focus (simp [Act.eval, Act.put]; done))) | (refine wpList_buildRsW _ rfl ?_ E1.out ?_ ?_; (focus (simp [Region.wanted, yielded, Act.put]; done)); (focus (simp [Act.eval, Act.put]; done))) | (refine wpList_buildRsW _ rfl ?_ E3.out ?_ ?_; (focus (simp [Region.wanted, yielded, Act.put]; done)); (focus (simp [Act.eval, Act.put]; done))) | (refine wpList_buildRsW _ rfl ?_ E7.out ?_ ?_; (focus (simp [Region.wanted, yielded, Act.put]; done)); (focus (simp [Act.eval, Act.put]; done))) | (refine wpList_buildRsW _ rfl ?_ E0.out ?_ ?_; (focus (simp [Region.wanted, yielded, Act.put]; done)); (focus (simp [Act.eval, Act.put]; done))))
  refine (Step_ms (r := ⟨0, 3, []⟩) HM1.out HF.out sp_ok (RE.nil ucl 1 _ none 0) (rs_ok (by omega) (by omega)) (RE.nil ucl 1 _ none 0)).mono ?_
  rintro e W2 ⟨rfl, hms, -⟩
  rw [k2]
  rw [stepM_no k2] at hms
  have HM2 := hide hms
  clear hms
  go_wp2_with (first | (refine wpList_build34W _ rfl ?_ D1.out ?_ ?_; (focus (simp [Region.wanted, yielded, Act.put]; done)); (focus (simp [Act.eval, Act.put]; done))) | (refine wpList_build34W _ rfl ?_ D3.out ?_ ?_; (focus (simp [Region.wanted, yielded, Act.put]; done)); (focus (simp [Act.eval, Act.put]; done))) | (refine wpList_build34W _ rfl ?_ D5.out ?_ ?_; (focus (simp [Region.wanted, yielded, Act.put]; done)); (focus (simp [Act.eval, Act.put]; done))) | (refine wpList_build34W _ rfl ?_ D4.out ?_ ?_; (focus (simp [Region.wanted, yielded, Act.put]; done)); (focus (simp [Act.eval, Act.put]; done))) | (refine wpList_buildRsW _ rfl ?_ E1.out ?_ ?_; (focus (simp [Region.wanted, yielded, Act.put]; done)); (focus (simp [Act.eval, Act.put]; done))) | (refine wpList_buildRsW _ rfl ?_ E3.out ?_ ?_; (focus (simp [Region.wanted, yielded, Act.put]; done)); (focus (simp [Act.eval, Act.put]; done))) | (refine wpList_buildRsW _ rfl ?_ E7.out ?_ ?_; (focus (simp [Region.wanted, yielded, Act.put]; done)); (focus (simp [Act.eval, Act.put]; done))) | (refine wpList_buildRsW _ rfl ?_ E0.out ?_ ?_; (focus (simp [Region.wanted, yielded, Act.put]; done)); (focus (simp [Act.eval, Act.put]; done))))
  refine (Step_ms (r := ⟨0, 0, []⟩) HM2.out HF.out mm0_ok (RE.nil ucl 1 _ none 0) (rs_ok (by omega) (by omega)) (RE.nil ucl 1 _ none 0)).mono ?_
  rintro e W3 ⟨rfl, hms, -⟩
  rw [k3.1]
  rw [k3.2] at hms
  have HM3 := hide hms
  clear hms
  go_wp2_with (first | (refine wpList_build34W _ rfl ?_ D1.out ?_ ?_; (focus (simp [Region.wanted, yielded, Act.put]; done)); (focus (simp [Act.eval, Act.put]; done))) | (refine wpList_build34W _ rfl ?_ D3.out ?_ ?_; (focus (simp [Region.wanted, yielded, Act.put]; done)); (focus (simp [Act.eval, Act.put]; done))) | (refine wpList_build34W _ rfl ?_ D5.out ?_ ?_; (focus (simp [Region.wanted, yielded, Act.put]; done)); (focus (simp [Act.eval, Act.put]; done))) | (refine wpList_build34W _ rfl ?_ D4.out ?_ ?_; (focus (simp [Region.wanted, yielded, Act.put]; done)); (focus (simp [Act.eval, Act.put]; done))) | (refine wpList_buildRsW _ rfl ?_ E1.out ?_ ?_; (focus (simp [Region.wanted, yielded, Act.put]; done)); (focus (simp [Act.eval, Act.put]; done))) | (refine wpList_buildRsW _ rfl ?_ E3.out ?_ ?_; (focus (simp [Region.wanted, yielded, Act.put]; done)); (focus (simp [Act.eval, Act.put]; done))) | (refine wpList_buildRsW _ rfl ?_ E7.out ?_ ?_; (focus (simp [Region.wanted, yielded, Act.put]; done)); (focus (simp [Act.eval, Act.put]; done))) | (refine wpList_buildRsW _ rfl ?_ E0.out ?_ ?_; (focus (simp [Region.wanted, yielded, Act.put]; done)); (focus (simp [Act.eval, Act.put]; done))) | (refine wpList_buildRsW _ rfl ?_ (br_l (some ⟨W3.heap.size, 0, none⟩) 2 2 [0, 0]) ?_ ?_; (focus (simp [Region.wanted, yielded, Act.put]; done)); (focus (simp [Act.eval, Act.put]; done))))
  refine (Step_ms (r := ⟨0, 0, [0, 0]⟩) (HM3.out.stay ((Chg.refl [] W3).alloc _)) HF.out ld0_ok (RE.nil ucl 1 _ none 0) ⟨by decide, by decide, by decide⟩ (Rd_new W3 5 1 2 (fc ucl [0, 0]) rfl)).mono ?_
  rintro e W4 ⟨rfl, hms, -⟩
  rw [k4.1]
  rw [k4.2] at hms
  have HM4 := hide hms
  clear hms
  go_wp2_with (first | (refine wpList_build34W _ rfl ?_ D1.out ?_ ?_; (focus (simp [Region.wanted, yielded, Act.put]; done)); (focus (simp [Act.eval, Act.put]; done))) | (refine wpList_build34W _ rfl ?_ D3.out ?_ ?_; (focus (simp [Region.wanted, yielded, Act.put]; done)); (focus (simp [Act.eval, Act.put]; done))) | (refine wpList_build34W _ rfl ?_ D5.out ?_ ?_; (focus (simp [Region.wanted, yielded, Act.put]; done)); (focus (simp [Act.eval, Act.put]; done))) | (refine wpList_build34W _ rfl ?_ D4.out ?_ ?_; (focus (simp [Region.wanted, yielded, Act.put]; done)); (focus (simp [Act.eval, Act.put]; done))) | (refine wpList_buildRsW _ rfl ?_ E1.out ?_ ?_; (focus (simp [Region.wanted, yielded, Act.put]; done)); (focus (simp [Act.eval, Act.put]; done))) | (refine wpList_buildRsW _ rfl ?_ E3.out ?_ ?_; (focus (simp [Region.wanted, yielded, Act.put]; done)); (focus (simp [Act.eval, Act.put]; done))) | (refine wpList_buildRsW _ rfl ?_ E7.out ?_ ?_; (focus (simp [Region.wanted, yielded, Act.put]; done)); (focus (simp [Act.eval, Act.put]; done))) | (refine wpList_buildRsW _ rfl ?_ E0.out ?_ ?_; (focus (simp [Region.wanted, yielded, Act.put]; done)); (focus (simp [Act.eval, Act.put]; done))))
  refine (Step_ms (r := ⟨0, 0, []⟩) HM4.out HF.out km_ok (RE.nil ucl 1 _ none 0) (rs_ok (by omega) (by omega)) (RE.nil ucl 1 _ none 0)).mono ?_
  rintro e W5 ⟨rfl, hms, -⟩
  rw [k5]
  rw [stepM_no k5] at hms
  have HM5 := hide hms
  clear hms
  go_wp2_with (first | (refine wpList_build34W _ rfl ?_ D1.out ?_ ?_; (focus (simp [Region.wanted, yielded, Act.put]; done)); (focus (simp [Act.eval, Act.put]; done))) | (refine wpList_build34W _ rfl ?_ D3.out ?_ ?_; (focus (simp [Region.wanted, yielded, Act.put]; done)); (focus (simp [Act.eval, Act.put]; done))) | (refine wpList_build34W _ rfl ?_ D5.out ?_ ?_; (focus (simp [Region.wanted, yielded, Act.put]; done)); (focus (simp [Act.eval, Act.put]; done))) | (refine wpList_build34W _ rfl ?_ D4.out ?_ ?_; (focus (simp [Region.wanted, yielded, Act.put]; done)); (focus (simp [Act.eval, Act.put]; done))) | (refine wpList_buildRsW _ rfl ?_ E1.out ?_ ?_; (focus (simp [Region.wanted, yielded, Act.put]; done)); (focus (simp [Act.eval, Act.put]; done))) | (refine wpList_buildRsW _ rfl ?_ E3.out ?_ ?_; (focus (simp [Region.wanted, yielded, Act.put]; done)); (focus (simp [Act.eval, Act.put]; done))) | (refine wpList_buildRsW _ rfl ?_ E7.out ?_ ?_; (focus (simp [Region.wanted, yielded, Act.put]; done)); (focus (simp [Act.eval, Act.put]; done))) | (refine wpList_buildRsW _ rfl ?_ E0.out ?_ ?_; (focus (simp [Region.wanted, yielded, Act.put]; done)); (focus (simp [Act.eval, Act.put]; done))))
  refine (Step_ms (r := ⟨0, 7, []⟩) HM5.out HF.out km_ok (RE.nil ucl 1 _ none 0) (rs_ok (by omega) (by omega)) (RE.nil ucl 1 _ none 0)).mono ?_
  rintro e W6 ⟨rfl, hms, -⟩
  rw [k6.1]
  rw [k6.2] at hms
  have HM6 := hide hms
  clear hms
  go_wp2_with (first | (refine wpList_build34W _ rfl ?_ D1.out ?_ ?_; (focus (simp [Region.wanted, yielded, Act.put]; done)); (focus (simp [Act.eval, Act.put]; done))) | (refine wpList_build34W _ rfl ?_ D3.out ?_ ?_; (focus (simp [Region.wanted, yielded, Act.put]; done)); (focus (simp [Act.eval, Act.put]; done))) | (refine wpList_build34W _ rfl ?_ D5.out ?_ ?_; (focus (simp [Region.wanted, yielded, Act.put]; done)); (focus (simp [Act.eval, Act.put]; done))) | (refine wpList_build34W _ rfl ?_ D4.out ?_ ?_; (focus (simp [Region.wanted, yielded, Act.put]; done)); (focus (simp [Act.eval, Act.put]; done))) | (refine wpList_buildRsW _ rfl ?_ E1.out ?_ ?_; (focus (simp [Region.wanted, yielded, Act.put]; done)); (focus (simp [Act.eval, Act.put]; done))) | (refine wpList_buildRsW _ rfl ?_ E3.out ?_ ?_; (focus (simp [Region.wanted, yielded, Act.put]; done)); (focus (simp [Act.eval, Act.put]; done))) | (refine wpList_buildRsW _ rfl ?_ E7.out ?_ ?_; (focus (simp [Region.wanted, yielded, Act.put]; done)); (focus (simp [Act.eval, Act.put]; done))) | (refine wpList_buildRsW _ rfl ?_ E0.out ?_ ?_; (focus (simp [Region.wanted, yielded, Act.put]; done)); (focus (simp [Act.eval, Act.put]; done))))
  refine (Step_ms (r := ⟨0, 7, []⟩) HM6.out HF.out km_ok (RE.nil ucl 1 _ none 0) (rs_ok (by omega) (by omega)) (RE.nil ucl 1 _ none 0)).mono ?_
  rintro e W7 ⟨rfl, hms, -⟩
  rw [k7]
  have HM7 := hide hms
  clear hms
  go_wp2_with fail
  go_ret
  exact ⟨rfl, HM7.out.chg⟩
end Go.Proofs.YtfoleblcaloeoaaDoor

/- Has; ModelSpawns: its walk. -/
namespace Go.Proofs.YtfoleblcaloeoaaDoor
open Go Go.RowKit

theorem eqP0 (t : TypeId) (ht : t = 72) (w : World) : (binOp .neq t (.pointer none) (.pointer none)).run Tryd.prog w = .ok (.bool false) w := by subst ht; kernel_rfl
set_option maxRecDepth 20000 in
set_option maxHeartbeats 4000000 in
theorem Has_any {w : World} {m : Nat} {M : Mo} {bp bo be : Nat} {fp fo fe : Int → Option Value} {gb : Int → Nat} {GF : Int → Nat → Prop} {ov : Int → Value} (hI : MIn w m M bp bo be fp fo fe gb GF ov) (pid : Int) :
    Calls Tryd.prog 16 #[.pointer (some ⟨m, 0, none⟩), .int .i64 pid] w fun e w' => e = .returned (.bool (M.pr pid).isSome) ∧ w = w' := by
  have HNN := hide (none_any hI.blk)
  have hlk := look_pr hI pid
  obtain ⟨qp, -, -, qm, -⟩ := mo_cells hI.blk
  clear hI
  cases hp : M.pr pid with
  | none =>
    rw [hp] at hlk
    clear hp
    go_enter Tryd.func16, Tryd.ntmps16
    go_wp2_with fail
    refine HNN.out.mono ?_
    rintro e W2 ⟨rfl, rfl⟩
    go_wp2_with fail
    go_ret
    exact ⟨rfl, rfl⟩
  | some p =>
    rw [hp] at hlk
    clear hp
    go_enter Tryd.func16, Tryd.ntmps16
    go_wp2_with fail
    refine HNN.out.mono ?_
    rintro e W2 ⟨rfl, rfl⟩
    go_wp2_with fail
    go_ret
    exact ⟨rfl, rfl⟩
theorem Has_ms {W0 w : World} {L : List Nat} {m : Nat} {M : Mo} (h : MS W0 L w m M) (pid : Int) :
    Calls Tryd.prog 16 #[.pointer (some ⟨m, 0, none⟩), .int .i64 pid] w fun e w' => e = .returned (.bool (M.pr pid).isSome) ∧ w = w' := by
  obtain ⟨⟨O, ⟨bp, bo, be, fp, fo, fe, gb, GF, ov, hI, _, _⟩, _, _⟩, _, _⟩ := h
  exact Has_any hI pid
/-! ## Plain -/
def bitAt (b : Nat) (q : Int) : Bool := b.testBit (q - 1).toNat
/-- the processes that are there -/
def thM (c : Cf) (f : Int → Bool) : Mo := ⟨c, fun q => if (decide (1 ≤ q ∧ q ≤ 8) && f q) = true then some newPr else none, fun _ => none, fun _ => false⟩
theorem mk_pr {c : Cf} {a b : Int → Option Pr} {ob : Int → Option (List Nat)} {ev : Int → Bool} (h : ∀ q, a q = b q) : Mo.mk c a ob ev = Mo.mk c b ob ev := by rw [funext h]
theorem thM_congr {c : Cf} {f g : Int → Bool} (h : ∀ q, 1 ≤ q → q ≤ 8 → f q = g q) : thM c f = thM c g := by
  refine mk_pr fun q => ?_
  by_cases h1 : 1 ≤ q ∧ q ≤ 8
  · rw [h q h1.1 h1.2]
  · simp [h1]
theorem thM_at {c : Cf} {f : Int → Bool} {q : Int} (h : 1 ≤ q ∧ q ≤ 8) : ((thM c f).pr q).isSome = f q := by
  show (if (decide (1 ≤ q ∧ q ≤ 8) && f q) = true then some newPr else none).isSome = f q
  rw [decide_eq_true h]
  cases f q <;> rfl
theorem thM_new (c : Cf) : newMo c = thM c (fun _ => false) := by
  refine mk_pr fun q => ?_
  simp
theorem th_spawn {c : Cf} {f : Int → Bool} {n : Nat} (h : 1 ≤ n ∧ n ≤ 8) (h1 : ∀ q : Int, 1 ≤ q → q < n → f q = true) (h2 : f n = false) (hc : mayB c = true) :
    stepB (thM c f) cSp ⟨0, n, []⟩ = true ∧ stepM (thM c f) cSp ⟨0, n, []⟩ = thM c (fun q => decide (q = n) || f q) := by
  have ha : answerA (thM c f) cSp n = (⟨0, n, []⟩, some { (thM c f) with pr := upd (thM c f).pr n (some newPr) }) := by
    unfold answerA
    rw [if_pos (show cSp.k = 1 from rfl)]
    refine find_pidN h (fun q hq hlt => ?_) ?_
    · have : 1 ≤ q ∧ q ≤ 8 := by simp [pids] at hq; omega
      have := thM_at (c := c) (f := f) this
      rw [h1 q (by omega) hlt] at this
      cases hq : (thM c f).pr q with
      | none => rw [hq] at this; cases this
      | some p => rfl
    · show (if (decide (1 ≤ (n : Int) ∧ (n : Int) ≤ 8) && f n) = true then some newPr else none) = none
      rw [h2]; simp
  refine ⟨by rw [stepB_ok _ (sp_nw hc), ha]; simp [freeK, sameRs], ?_⟩
  rw [stepM_ok (sp_nw hc) rfl (by rw [ha]; simp [sameRs]) rfl, ha]
  refine mk_pr fun q => ?_
  show upd (fun q => if (decide (1 ≤ q ∧ q ≤ 8) && f q) = true then some newPr else none) n (some newPr) q = _
  unfold upd
  by_cases hq : q = (n : Int)
  · have : 1 ≤ q ∧ q ≤ 8 := by omega
    rw [if_pos hq]
    simp [hq]
    omega
  · rw [if_neg hq]
    simp [hq]
theorem th_full {c : Cf} {f : Int → Bool} (h : ∀ q : Int, 1 ≤ q → q ≤ 8 → f q = true) (v : Nat) : answerA (thM c f) cSp v = (plainR 9, none) := by
  unfold answerA
  rw [if_pos (show cSp.k = 1 from rfl)]
  refine find_full (fun q hq _ => ?_)
  have h1 : 1 ≤ q ∧ q ≤ 8 := by simp [pids] at hq; omega
  have := thM_at (c := c) (f := f) h1
  rw [h q h1.1 h1.2] at this
  cases hq : (thM c f).pr q with
  | none => rw [hq] at this; cases this
  | some p => rfl
def cEx (p : Int) : Cl := { zCl with k := 2, p := p }
theorem ex_built (p : Int) : BC [(0, .int .u8 2), (1, .int .i64 p)] (cEx p) zV := ⟨by kernel_rfl⟩
theorem ex_ok {p : Int} (h : 0 ≤ p ∧ p ≤ 1000) : (cEx p).Ok := by constructor <;> simp [cEx, zCl]; omega
theorem ex_nw {c : Cf} (h : mayB c = true) (p : Int) : wrongK c (cEx p) = false := nw_of h (by
    unfold mayK
    have h1 : bareK (cEx p) = cEx p := rfl
    rw [h1]
    simp [sameB, cEx, zCl, fld]) rfl rfl rfl rfl rfl rfl rfl rfl
theorem th_exit {c : Cf} {f : Int → Bool} {n : Nat} (h : 1 ≤ n ∧ n ≤ 8) (h2 : f n = true) (hc : mayB c = true) :
    stepB (thM c f) (cEx n) ⟨0, 0, []⟩ = true ∧ stepM (thM c f) (cEx n) ⟨0, 0, []⟩ = thM c (fun q => decide (q ≠ n) && f q) := by
  have hp : (thM c f).pr n = some newPr := by
    show (if (decide (1 ≤ (n : Int) ∧ (n : Int) ≤ 8) && f n) = true then some newPr else none) = some newPr
    rw [h2, if_pos]
    simp
    omega
  have ha : answerA (thM c f) (cEx n) 0 = (plainR 0, some { (thM c f) with pr := upd (thM c f).pr n none }) := by
    rw [answer_pr 0 (by simp [cEx])]
    show (match (thM c f).pr n with | none => (plainR 7, none) | some p => procA (thM c f) (cEx n) 0 p) = _
    rw [hp]
    show procA (thM c f) (cEx n) 0 newPr = _
    unfold procA
    rw [if_pos (show (cEx n).k = 2 from rfl)]
    rfl
  refine ⟨by rw [stepB_ok _ (ex_nw hc _), ha]; simp [freeK, sameRs, plainR, cEx, zCl], ?_⟩
  rw [stepM_ok (ex_nw hc _) rfl (by rw [ha]; simp [sameRs, plainR]) rfl, ha]
  refine mk_pr fun q => ?_
  show upd (fun q => if (decide (1 ≤ q ∧ q ≤ 8) && f q) = true then some newPr else none) n none q = _
  unfold upd
  by_cases hq : q = (n : Int)
  · rw [if_pos hq]
    simp [hq]
  · rw [if_neg hq]
    simp [hq]
end Go.Proofs.YtfoleblcaloeoaaDoor

/- Two machines that are alike: processes; Same. -/
namespace Go.Proofs.YtfoleblcaloeoaaDoor
open Go Go.RowKit

set_option maxRecDepth 20000 in
set_option maxHeartbeats 4000000 in
theorem proc_same {w : World} {p : Pr} {b1 d1 bp1 bo1 b2 d2 bp2 bo2 : Nat} {FA1 FA2 : List Nat} {fp1 fo1 fp2 fo2 : Int → Option Value} {gp1 gp2 : Int → Nat} (h1 : PIn w b1 p d1 FA1 bp1 bo1 fp1 fo1 gp1) (h2 : PIn w b2 p d2 FA2 bp2 bo2 fp2 fo2 gp2) :
    Calls Tryd.prog 30 #[.pointer (some ⟨b1, 0, none⟩), .pointer (some ⟨b2, 0, none⟩)] w fun e w' => e = .returned (.bool true) ∧ Chg [] w w' := by
  have HP1 := hide (fun W (h : Chg [] w W) => h1.cp (CP.of0 (F := fun _ => False) h) (fun _ _ h => h))
  have HP2 := hide (fun W (h : Chg [] w W) => h2.cp (CP.of0 (F := fun _ => False) h) (fun _ _ h => h))
  have HLEN := hide (show ∀ n, (pageP p n).length = 256 from fun n => by
    unfold pageP
    cases hq : p.pg n with
    | none => exact zeroPg_len
    | some B => exact (h1.pg n B hq).len)
  clear h1 h2
  go_enter Tryd.func30, Tryd.ntmps30
  go_wp2_with fail
  go_loopw [10] (fun i wr => ∃ k : Nat, k ≤ 1024 ∧ i = .int .i64 k ∧ Hid (Chg [] w wr)) (fun i _ => 1024 - (intOf i).toNat)
  case atStart => exact ⟨0, by omega, rfl, hide (Chg.refl _ _)⟩
  case round =>
    obtain ⟨k, hk, rfl, hch⟩ := hrel
    have HC := hide hch.out
    clear hch
    by_cases hkt : k < 1024
    · have dl : decide ((k : Int) < 1024) = true := decide_eq_true (by omega)
      have dl' : decide (k < 1024) = true := decide_eq_true hkt
      have hwi : IntKind.i64.wrap ((k : Int) + 1) = (k : Int) + 1 := by rw [IntKind.wrap_i64]; omega
      have q1 : wr.cell? ⟨b1, 0, none⟩ = some (.pointer (some ⟨d1, 0, none⟩)) := by simpa [prc] using (HP1.out wr HC.out).blk.cell 0
      have l1 := (HP1.out wr HC.out).blk.lt
      have HKT := hide hkt
      obtain ⟨r, hr⟩ : ∃ r, r = Ar.rt p.rl k := ⟨_, rfl⟩
      obtain ⟨y, hy⟩ : ∃ y, y = Ar.hasB p.rl k := ⟨_, rfl⟩
      have hc1 := fun W (h : Chg [] w W) => Ar.rights_at (HP1.out W h).ar (HP1.out W h).sp (k : Int)
      have hc2 := fun W (h : Chg [] w W) => Ar.rights_at (HP2.out W h).ar (HP2.out W h).sp (k : Int)
      rw [← hr, ← hy] at hc1 hc2
      have HR1 := hide hc1
      have HR2 := hide hc2
      obtain ⟨pa, pb, hpol⟩ : ∃ pa pb : Nat, polA p k = (pa, pb) := ⟨_, _, rfl⟩
      have ho1 := fun W (h : Chg [] w W) => of_pr (HP1.out W h) (k : Int)
      have ho2 := fun W (h : Chg [] w W) => of_pr (HP2.out W h) (k : Int)
      rw [hpol] at ho1 ho2
      have HO1 := hide ho1
      have HO2 := hide ho2
      obtain ⟨B, hB⟩ : ∃ B, B = pageP p k := ⟨_, rfl⟩
      have hp1 := fun W (h : Chg [] w W) => page_pr (HP1.out W h) (k : Int)
      have hp2 := fun W (h : Chg [] w W) => page_pr (HP2.out W h) (k : Int)
      rw [← hB] at hp1 hp2
      have hlB : B.length = 256 := by rw [hB]; exact HLEN.out _
      have HG1 := hide hp1
      have HG2 := hide hp2
      have heqa : ∀ W, (Op.equalIn 10000 99 (.agg (pgc B)) (.agg (pgc B))).run Tryd.prog W = .ok true W := fun W => eq_pageI W hlB
      have heqp : ∀ W, (Op.equalIn 10000 39 (.agg #[.int .u8 pa, .int .u8 pb]) (.agg #[.int .u8 pa, .int .u8 pb])).run Tryd.prog W = .ok true W := fun W => by rw [show true = ((pa : Int) == (pa : Int) && (pb : Int) == (pb : Int)) by simp]; exact eq_polI W _ _ _ _
      clear hr hy hc1 hc2 hpol ho1 ho2 hB hp1 hp2 hlB hkt hk
      go_wp2_with fail
      refine (HR1.out wr HC.out).mono ?_
      rintro e V1 ⟨rfl, hv1⟩
      have HC1 := hide (HC.out.stay hv1)
      have q2 : V1.cell? ⟨b2, 0, none⟩ = some (.pointer (some ⟨d2, 0, none⟩)) := by simpa [prc] using (HP2.out V1 HC1.out).blk.cell 0
      have l2 := (HP2.out V1 HC1.out).blk.lt
      clear hv1 q1 l1
      go_wp2_with fail
      refine (HR2.out V1 HC1.out).mono ?_
      rintro e V2 ⟨rfl, hv2⟩
      have HC2 := hide (HC1.out.stay hv2)
      clear hv2 q2 l2
      go_wp2_with fail
      refine (HO1.out V2 HC2.out).mono ?_
      rintro e V3 ⟨rfl, hv3⟩
      have HC3 := hide (HC2.out.stay hv3)
      clear hv3
      go_wp2_with fail
      refine (HO2.out V3 HC3.out).mono ?_
      rintro e V4 ⟨rfl, hv4⟩
      have HC4 := hide (HC3.out.stay hv4)
      clear hv4
      go_wp2_with fail
      refine (HG1.out V4 HC4.out).mono ?_
      rintro e V5 ⟨rfl, hv5⟩
      have HC5 := hide (HC4.out.stay hv5)
      clear hv5
      go_wp2_with fail
      refine (HG2.out V5 HC5.out).mono ?_
      rintro e V6 ⟨rfl, hv6⟩
      have HC6 := hide (HC5.out.stay hv6)
      clear hv6
      go_wp2_with fail
      go_roundw
      case rel => exact ⟨k + 1, by have := HKT.out; omega, by go_num, HC6⟩
      case measure => have := HKT.out; simp [intOf]; omega
    · obtain rfl : k = 1024 := by omega
      clear hkt hk
      go_wp2_with fail
      go_ret
      exact ⟨rfl, HC.out⟩
set_option maxRecDepth 20000 in
set_option maxHeartbeats 2000000 in
theorem Same_any {w : World} {m1 m2 : Nat} {M : Mo} {bp1 bo1 be1 bp2 bo2 be2 : Nat} {fp1 fo1 fe1 fp2 fo2 fe2 : Int → Option Value} {gb1 gb2 : Int → Nat} {GF1 GF2 : Int → Nat → Prop} {ov1 ov2 : Int → Value}
    (h1 : MIn w m1 M bp1 bo1 be1 fp1 fo1 fe1 gb1 GF1 ov1) (h2 : MIn w m2 M bp2 bo2 be2 fp2 fo2 fe2 gb2 GF2 ov2) :
    Calls Tryd.prog 15 #[.pointer (some ⟨m1, 0, none⟩), .pointer (some ⟨m2, 0, none⟩)] w fun e w' => e = .returned (.bool true) ∧ Chg [] w w' := by
  have HI1 := hide (fun W (h : Chg [] w W) => h1.cp (CP.of0 (F := fun _ => False) h) (fun _ _ h => h))
  have HI2 := hide (fun W (h : Chg [] w W) => h2.cp (CP.of0 (F := fun _ => False) h) (fun _ _ h => h))
  have HN1 := hide (none_any h1.blk)
  have HN2 := hide (none_any h2.blk)
  have HEF := hide (fun W (h : Chg [] w W) => equal_objs (HI1.out W h).mo (HI2.out W h).mo (fun z => by rw [h1.ho, h2.ho]; cases M.ob z <;> rfl) (fun z v u hv hu => by
    rw [h1.ho] at hv
    rw [h2.ho] at hu
    cases hB : M.ob z with
    | none => rw [hB] at hv; cases hv
    | some B =>
      rw [hB] at hv hu
      obtain rfl := Option.some.inj hv
      obtain rfl := Option.some.inj hu
      exact ⟨B, ((HI1.out W h).ob z B hB).1.re, ((HI2.out W h).ob z B hB).1.re, ((HI1.out W h).ob z B hB).2.1⟩))
  have l1 := h1.blk.lt
  have l2 := h2.blk.lt
  clear h1 h2
  go_enter Tryd.func15, Tryd.ntmps15
  go_wp2_with fail
  refine HN1.out.mono ?_
  rintro e V1 ⟨rfl, rfl⟩
  go_wp2_with fail
  refine HN2.out.mono ?_
  rintro e V2 ⟨rfl, rfl⟩
  go_upto_region 3 with (fail)
  refine wp_region_t [0,0,0,5,0,0,0,5,3,0] [none, none, none, none, none, none, none, none, none, none] (fun W => Chg [] w W) (by kernel_rfl) (by kernel_rfl) (by kernel_rfl) ?_
  have hS : Chg [] w w.drew := (Chg.refl [] w).drew
  generalize w.drew = W0 at hS ⊢
  go_wp2_with (first | (refine wpG_hload 60 _ rfl rfl (fun w' hw' => load_map Tryd.underlying60 (mo_cells (HI1.out w' hw').blk).2.1) hS ?_) | (refine wpG_hload 60 _ rfl rfl (fun w' hw' => load_map Tryd.underlying60 (mo_cells (HI2.out w' hw').blk).2.1) hS ?_) | (refine wpG_deed (by decide) (fun K hK => ?_); go_simp; refine (HEF.out W0 hS).mono ?_; rintro e W1 ⟨rfl, hc1⟩; refine hK _ _ ?_; clear hK K) | (refine wpG_calc rfl (fun K hK => ?_)) | (refine wpG_skip ?_ ?_; (focus (simp [wantG]; done)); go_simp) | (refine wpG_take ?_ ?_; (focus (simp [wantG]; done))) | (refine wpG_pure (fun K hK => ?_); go_simp; refine hK _ _ ?_; clear hK K) | (refine wpG_deed (by decide) (fun K hK => ?_); go_simp) | (refine wpG_nil ?_))
  have HC0 := hide (show Chg [] w W1 from hS.stay hc1)
  clear hS hc1 HEF
  go_wp2_with fail
  go_loopw [5] (fun i wr => ∃ k : Nat, 1 ≤ k ∧ k ≤ 9 ∧ i = .int .i64 k ∧ Hid (Chg [] w wr)) (fun i _ => 9 - (intOf i).toNat)
  case atStart => exact ⟨1, by omega, by omega, rfl, HC0⟩
  case round =>
    obtain ⟨k, hk1, hk, rfl, hch⟩ := hrel
    have HC := hide hch.out
    clear hch
    by_cases hkt : k < 9
    · have dl : decide ((k : Int) ≤ 8) = true := decide_eq_true (by omega)
      have dl' : decide (k ≤ 8) = true := decide_eq_true (by omega)
      have hwi : IntKind.i64.wrap ((k : Int) + 1) = (k : Int) + 1 := by rw [IntKind.wrap_i64]; omega
      have HKT := hide (And.intro hk1 hkt)
      clear hkt hk hk1
      have HH1 := hide (fun W (h : Chg [] w W) => Has_any (HI1.out W h) (k : Int))
      have HH2 := hide (fun W (h : Chg [] w W) => Has_any (HI2.out W h) (k : Int))
      have HK1 := hide (fun W (h : Chg [] w W) => look_pr (HI1.out W h) (k : Int))
      have HK2 := hide (fun W (h : Chg [] w W) => look_pr (HI2.out W h) (k : Int))
      cases hp : M.pr (k : Int) with
      | none =>
        have hh1 := HH1.out
        have hh2 := HH2.out
        rw [hp] at hh1 hh2
        have HA1 := hide hh1
        have HA2 := hide hh2
        clear hh1 hh2 hp HH1 HH2 HK1 HK2
        go_upto_region 8 with (fail)
        refine wp_region_t [0,0,6,0,0,6,0,0,0,0,6,0,0,0,0,5,0,5,0,0,0,5,0,5,6,0,0,0] [none, none, none, none, none, none, none, none, some (39, false), some (39, false), some (39, false), some (39, false), some (43, true), some (43, true), some (43, true), some (43, true), some (43, true), some (43, true), some (43, true), some (43, true), some (43, true), some (43, true), some (43, true), some (43, true), some (43, true), some (43, true), some (39, false), none] (fun W => Chg [] w W) (by kernel_rfl) (by kernel_rfl) (by kernel_rfl) ?_
        have hS : Chg [] w wr.drew := HC.out.drew
        generalize wr.drew = W0 at hS ⊢
        go_wp2_with (first | fail | (refine wpG_calc rfl (fun K hK => ?_)) | (refine wpG_skip ?_ ?_; (focus (simp [wantG]; done)); go_simp) | (refine wpG_take ?_ ?_; (focus (simp [wantG]; done))) | (refine wpG_pure (fun K hK => ?_); go_simp; refine hK _ _ ?_; clear hK K) | (refine wpG_deed (by decide) (fun K hK => ?_); go_simp) | (refine wpG_nil ?_))
        (refine wpG_keeps hS (fun K hK => ?_))
        go_simp
        refine (HA1.out _ hS).mono ?_
        rintro e V1 ⟨rfl, rfl⟩
        refine hK _ _ hS ?_
        clear hK K
        go_wp2_with (first | fail | (refine wpG_calc rfl (fun K hK => ?_)) | (refine wpG_skip ?_ ?_; (focus (simp [wantG]; done)); go_simp) | (refine wpG_take ?_ ?_; (focus (simp [wantG]; done))) | (refine wpG_pure (fun K hK => ?_); go_simp; refine hK _ _ ?_; clear hK K) | (refine wpG_deed (by decide) (fun K hK => ?_); go_simp) | (refine wpG_nil ?_))
        (refine wpG_keeps hS (fun K hK => ?_))
        go_simp
        refine (HA2.out _ hS).mono ?_
        rintro e V1 ⟨rfl, rfl⟩
        refine hK _ _ hS ?_
        clear hK K
        go_wp2_with (first | fail | (refine wpG_calc rfl (fun K hK => ?_)) | (refine wpG_skip ?_ ?_; (focus (simp [wantG]; done)); go_simp) | (refine wpG_take ?_ ?_; (focus (simp [wantG]; done))) | (refine wpG_pure (fun K hK => ?_); go_simp; refine hK _ _ ?_; clear hK K) | (refine wpG_deed (by decide) (fun K hK => ?_); go_simp) | (refine wpG_nil ?_))
        (refine wpG_keeps hS (fun K hK => ?_))
        go_simp
        refine (HA1.out _ hS).mono ?_
        rintro e V1 ⟨rfl, rfl⟩
        refine hK _ _ hS ?_
        clear hK K
        go_wp2_with (first | fail | (refine wpG_calc rfl (fun K hK => ?_)) | (refine wpG_skip ?_ ?_; (focus (simp [wantG]; done)); go_simp) | (refine wpG_take ?_ ?_; (focus (simp [wantG]; done))) | (refine wpG_pure (fun K hK => ?_); go_simp; refine hK _ _ ?_; clear hK K) | (refine wpG_deed (by decide) (fun K hK => ?_); go_simp) | (refine wpG_nil ?_))
        go_roundw
        case rel => exact ⟨k + 1, by omega, by have := HKT.out; omega, by go_num, hide hS⟩
        case measure => have := HKT.out; simp [intOf]; omega
      | some p =>
        have hh1 := HH1.out
        have hh2 := HH2.out
        have hk1 := HK1.out
        have hk2 := HK2.out
        rw [hp] at hh1 hh2 hk1 hk2
        have HA1 := hide hh1
        have HA2 := hide hh2
        have HL1 := hide hk1
        have HL2 := hide hk2
        have HPS := hide (show ∀ W, Chg [] w W → Calls Tryd.prog 30 #[.pointer (some ⟨gb1 k, 0, none⟩), .pointer (some ⟨gb2 k, 0, none⟩)] W fun e w' => e = .returned (.bool true) ∧ Chg [] W w' from fun W h => by
          obtain ⟨_, _, _, _, _, _, _, i1, _, _⟩ := (HI1.out W h).pr k p hp
          obtain ⟨_, _, _, _, _, _, _, i2, _, _⟩ := (HI2.out W h).pr k p hp
          exact proc_same i1 i2)
        clear hh1 hh2 hk1 hk2 hp HH1 HH2 HK1 HK2
        go_upto_region 8 with (fail)
        refine wp_region_t [0,0,6,0,0,6,0,0,0,0,6,0,0,0,0,5,0,5,0,0,0,5,0,5,6,0,0,0] [none, none, none, none, none, none, none, none, some (39, false), some (39, false), some (39, false), some (39, false), some (43, true), some (43, true), some (43, true), some (43, true), some (43, true), some (43, true), some (43, true), some (43, true), some (43, true), some (43, true), some (43, true), some (43, true), some (43, true), some (43, true), some (39, false), none] (fun W => Chg [] w W) (by kernel_rfl) (by kernel_rfl) (by kernel_rfl) ?_
        have hS : Chg [] w wr.drew := HC.out.drew
        generalize wr.drew = W0 at hS ⊢
        go_wp2_with (first | fail | (refine wpG_calc rfl (fun K hK => ?_)) | (refine wpG_skip ?_ ?_; (focus (simp [wantG]; done)); go_simp) | (refine wpG_take ?_ ?_; (focus (simp [wantG]; done))) | (refine wpG_pure (fun K hK => ?_); go_simp; refine hK _ _ ?_; clear hK K) | (refine wpG_deed (by decide) (fun K hK => ?_); go_simp) | (refine wpG_nil ?_))
        (refine wpG_keeps hS (fun K hK => ?_))
        go_simp
        refine (HA1.out _ hS).mono ?_
        rintro e V1 ⟨rfl, rfl⟩
        refine hK _ _ hS ?_
        clear hK K
        go_wp2_with (first | fail | (refine wpG_calc rfl (fun K hK => ?_)) | (refine wpG_skip ?_ ?_; (focus (simp [wantG]; done)); go_simp) | (refine wpG_take ?_ ?_; (focus (simp [wantG]; done))) | (refine wpG_pure (fun K hK => ?_); go_simp; refine hK _ _ ?_; clear hK K) | (refine wpG_deed (by decide) (fun K hK => ?_); go_simp) | (refine wpG_nil ?_))
        (refine wpG_keeps hS (fun K hK => ?_))
        go_simp
        refine (HA2.out _ hS).mono ?_
        rintro e V1 ⟨rfl, rfl⟩
        refine hK _ _ hS ?_
        clear hK K
        go_wp2_with (first | fail | (refine wpG_calc rfl (fun K hK => ?_)) | (refine wpG_skip ?_ ?_; (focus (simp [wantG]; done)); go_simp) | (refine wpG_take ?_ ?_; (focus (simp [wantG]; done))) | (refine wpG_pure (fun K hK => ?_); go_simp; refine hK _ _ ?_; clear hK K) | (refine wpG_deed (by decide) (fun K hK => ?_); go_simp) | (refine wpG_nil ?_))
        (refine wpG_keeps hS (fun K hK => ?_))
        go_simp
        refine (HA1.out _ hS).mono ?_
        rintro e V1 ⟨rfl, rfl⟩
        refine hK _ _ hS ?_
        clear hK K
        go_wp2_with (first | fail | (refine wpG_calc rfl (fun K hK => ?_)) | (refine wpG_skip ?_ ?_; (focus (simp [wantG]; done)); go_simp) | (refine wpG_take ?_ ?_; (focus (simp [wantG]; done))) | (refine wpG_pure (fun K hK => ?_); go_simp; refine hK _ _ ?_; clear hK K) | (refine wpG_deed (by decide) (fun K hK => ?_); go_simp) | (refine wpG_nil ?_))
        (refine wpG_hload 59 _ rfl rfl (fun w' hw' => load_map Tryd.underlying59 (mo_cells (HI1.out w' hw').blk).1) hS ?_)
        go_wp2_with (first | fail | (refine wpG_calc rfl (fun K hK => ?_)) | (refine wpG_skip ?_ ?_; (focus (simp [wantG]; done)); go_simp) | (refine wpG_take ?_ ?_; (focus (simp [wantG]; done))) | (refine wpG_pure (fun K hK => ?_); go_simp; refine hK _ _ ?_; clear hK K) | (refine wpG_deed (by decide) (fun K hK => ?_); go_simp) | (refine wpG_nil ?_))
        (refine wpG_hlook 59 _ _ false rfl rfl rfl (fun w' hw' => HL1.out w' hw') hS ?_)
        go_wp2_with (first | fail | (refine wpG_calc rfl (fun K hK => ?_)) | (refine wpG_skip ?_ ?_; (focus (simp [wantG]; done)); go_simp) | (refine wpG_take ?_ ?_; (focus (simp [wantG]; done))) | (refine wpG_pure (fun K hK => ?_); go_simp; refine hK _ _ ?_; clear hK K) | (refine wpG_deed (by decide) (fun K hK => ?_); go_simp) | (refine wpG_nil ?_))
        (refine wpG_hload 59 _ rfl rfl (fun w' hw' => load_map Tryd.underlying59 (mo_cells (HI2.out w' hw').blk).1) hS ?_)
        go_wp2_with (first | fail | (refine wpG_calc rfl (fun K hK => ?_)) | (refine wpG_skip ?_ ?_; (focus (simp [wantG]; done)); go_simp) | (refine wpG_take ?_ ?_; (focus (simp [wantG]; done))) | (refine wpG_pure (fun K hK => ?_); go_simp; refine hK _ _ ?_; clear hK K) | (refine wpG_deed (by decide) (fun K hK => ?_); go_simp) | (refine wpG_nil ?_))
        (refine wpG_hlook 59 _ _ false rfl rfl rfl (fun w' hw' => HL2.out w' hw') hS ?_)
        go_wp2_with (first | fail | (refine wpG_calc rfl (fun K hK => ?_)) | (refine wpG_skip ?_ ?_; (focus (simp [wantG]; done)); go_simp) | (refine wpG_take ?_ ?_; (focus (simp [wantG]; done))) | (refine wpG_pure (fun K hK => ?_); go_simp; refine hK _ _ ?_; clear hK K) | (refine wpG_deed (by decide) (fun K hK => ?_); go_simp) | (refine wpG_nil ?_))
        (refine wpG_keeps hS (fun K hK => ?_))
        go_simp
        refine (HPS.out _ hS).mono ?_
        rintro e V2 ⟨rfl, hc2⟩
        replace hS := hS.stay hc2
        refine hK _ _ hS ?_
        clear hK K hc2
        go_wp2_with (first | fail | (refine wpG_calc rfl (fun K hK => ?_)) | (refine wpG_skip ?_ ?_; (focus (simp [wantG]; done)); go_simp) | (refine wpG_take ?_ ?_; (focus (simp [wantG]; done))) | (refine wpG_pure (fun K hK => ?_); go_simp; refine hK _ _ ?_; clear hK K) | (refine wpG_deed (by decide) (fun K hK => ?_); go_simp) | (refine wpG_nil ?_))
        go_roundw
        case rel => exact ⟨k + 1, by omega, by have := HKT.out; omega, by go_num, hide hS⟩
        case measure => have := HKT.out; simp [intOf]; omega
    · obtain rfl : k = 9 := by omega
      clear hkt hk hk1
      go_wp2_with fail
      go_ret
      exact ⟨rfl, HC.out⟩
theorem Same_ms {W0 W1 w : World} {L1 L2 : List Nat} {m1 m2 : Nat} {M : Mo} (h1 : MS W0 L1 w m1 M) (h2 : MS W1 L2 w m2 M) :
    Calls Tryd.prog 15 #[.pointer (some ⟨m1, 0, none⟩), .pointer (some ⟨m2, 0, none⟩)] w fun e w' => e = .returned (.bool true) ∧ Chg [] w w' := by
  obtain ⟨⟨O, ⟨_, _, _, _, _, _, _, _, _, i1, _, _⟩, _, _⟩, _, _⟩ := h1
  obtain ⟨⟨O', ⟨_, _, _, _, _, _, _, _, _, i2, _, _⟩, _, _⟩, _, _⟩ := h2
  exact Same_any i1 i2
end Go.Proofs.YtfoleblcaloeoaaDoor

/- ModelApart, plain: calls of two parts of the machine go in either order. -/
namespace Go.Proofs.YtfoleblcaloeoaaDoor
open Go Go.RowKit

def obK (x : Cl) : Bool := decide (11 ≤ x.k ∧ x.k ≤ 13)
theorem upd_same {α : Type} (f : Int → α) (z : Int) : upd f z (f z) = f := by
  funext y; unfold upd; split
  · rename_i h; rw [h]
  · rfl
theorem upd_comm {α : Type} (f : Int → α) {y z : Int} (u v : α) (h : y ≠ z) : upd (upd f y u) z v = upd (upd f z v) y u := by
  funext a; unfold upd
  by_cases h1 : a = z
  · rw [if_pos h1, if_neg (by omega), if_pos h1]
  · rw [if_neg h1]
    by_cases h2 : a = y
    · rw [if_pos h2, if_pos h2]
    · rw [if_neg h2, if_neg h2, if_neg h1]
theorem ans_ob {x : Cl} (hx : obK x = true) : ∃ g : Option (List Nat) → Rs × Option (Option (List Nat)), ∀ M v, answerA M x v = ((g (M.ob x.h)).1, (g (M.ob x.h)).2.map fun o => { M with ob := upd M.ob x.h o }) := by
  have hk : 11 ≤ x.k ∧ x.k ≤ 13 := of_decide_eq_true hx
  refine ⟨fun o => match o with
    | none => (plainR 120, none)
    | some b =>
      if x.k = 11 then (plainR 0, some none)
      else if (b.length : Int) < x.a + max x.s x.l.length then (plainR 2, none)
      else if x.k = 12 then (⟨0, 0, (b.drop x.a.toNat).take x.s.toNat⟩, none)
      else (plainR 0, some (some (splice b x.a.toNat x.l))), fun M v => ?_⟩
  unfold answerA
  rw [if_neg (by omega), if_neg (by omega), if_pos (by omega)]
  unfold objA
  cases M.ob x.h with
  | none => rfl
  | some b =>
    simp only
    split
    · rfl
    split
    · rfl
    split
    · rfl
    · rfl
theorem ans_pr {x : Cl} (hx : obK x = false) (h1 : x.k ≠ 1) (h10 : x.k ≠ 10) : ∃ g : Cf → Option Pr → Nat → Rs × Option (Option Pr), ∀ M v, answerA M x v = ((g M.c (M.pr x.p) v).1, (g M.c (M.pr x.p) v).2.map fun o => { M with pr := upd M.pr x.p o }) := by
  have hk : ¬ (11 ≤ x.k ∧ x.k ≤ 13) := of_decide_eq_false hx
  by_cases h3 : x.k = 19 ∨ x.k = 20 ∨ x.k = 21
  · refine ⟨fun _ _ _ => (plainR 0, none), fun M v => ?_⟩
    unfold answerA
    rw [if_neg h1, if_neg h10, if_neg (by omega), if_pos h3]
    rfl
  refine ⟨fun c o v => match o with
    | none => (plainR 7, none)
    | some p =>
      if x.k = 2 then (plainR 0, some none)
      else if x.k = 14 then (plainR 0, some (some { p with pk := x.ok, pm := x.om }))
      else if x.k = 16 then (⟨0, (polA p x.g).1 * 256 + (polA p x.g).2, []⟩, none)
      else if x.k = 3 ∨ x.k = 4 ∨ x.k = 5 then (plainR (changeA p x).1, some (some (changeA p x).2))
      else if x.k = 8 ∨ x.k = 9 then ((accessA p x).1, (accessA p x).2.map fun q => some q)
      else if Ar.mdE p.rl x.g (max x.c 1) ≠ 0 then (plainR 7, none)
      else if x.k = 17 then (⟨0, min v (c 0).toNat, []⟩, none)
      else if x.k = 15 then (plainR 0, some (some { p with ow := fun q => if inR x.g x.c q then some (x.ok, x.om) else p.ow q }))
      else (plainR 0, none), fun M v => ?_⟩
  unfold answerA
  rw [if_neg h1, if_neg h10, if_neg (by omega), if_neg h3]
  cases M.pr x.p with
  | none => rfl
  | some p =>
    simp only
    unfold procA
    split
    · rfl
    split
    · rfl
    split
    · rfl
    split
    · rfl
    split
    · simp only [Option.map_map]; rfl
    split
    · rfl
    split
    · rfl
    split
    · rfl
    · rfl
/-- a step of a call of objects reads and writes that object alone -/
theorem step_ob {x : Cl} (hx : obK x = true) (r : Rs) : ∃ (β : Cf → Option (List Nat) → Bool) (γ : Cf → Option (List Nat) → Option (List Nat)), ∀ M, stepB M x r = β M.c (M.ob x.h) ∧ stepM M x r = { M with ob := upd M.ob x.h (γ M.c (M.ob x.h)) } := by
  obtain ⟨g, hg⟩ := ans_ob hx
  refine ⟨fun c o => if wrongK c x = true then sameRs r (plainR 2) else if freeK x.k r.e = true then sameRs r (plainR r.e) else sameRs r (g o).1,
    fun c o => if wrongK c x = true ∨ freeK x.k r.e = true ∨ sameRs r (g o).1 = false ∨ r.e ≠ 0 then o else ((g o).2).getD o, fun M => ⟨?_, ?_⟩⟩
  · unfold stepB; rw [hg]
  · have e : ∀ o, o = M.ob x.h → M = { M with ob := upd M.ob x.h o } := fun o ho => by subst ho; rw [upd_same]
    unfold stepM
    rw [hg]
    split
    · rename_i h; simp only at h ⊢; rw [if_pos h]; exact e _ rfl
    · rename_i h; simp only at h ⊢; rw [if_neg h]
      cases hh : (g (M.ob x.h)).2 with
      | none => exact e _ rfl
      | some o => rfl
theorem step_pr {x : Cl} (hx : obK x = false) (h1 : x.k ≠ 1) (h10 : x.k ≠ 10) (r : Rs) : ∃ (β : Cf → Option Pr → Bool) (γ : Cf → Option Pr → Option Pr), ∀ M, stepB M x r = β M.c (M.pr x.p) ∧ stepM M x r = { M with pr := upd M.pr x.p (γ M.c (M.pr x.p)) } := by
  obtain ⟨g, hg⟩ := ans_pr hx h1 h10
  refine ⟨fun c o => if wrongK c x = true then sameRs r (plainR 2) else if freeK x.k r.e = true then sameRs r (plainR r.e) else sameRs r (g c o r.v).1,
    fun c o => if wrongK c x = true ∨ freeK x.k r.e = true ∨ sameRs r (g c o r.v).1 = false ∨ r.e ≠ 0 then o else ((g c o r.v).2).getD o, fun M => ⟨?_, ?_⟩⟩
  · unfold stepB; rw [hg]
  · have e : ∀ o, o = M.pr x.p → M = { M with pr := upd M.pr x.p o } := fun o ho => by subst ho; rw [upd_same]
    unfold stepM
    rw [hg]
    split
    · rename_i h; simp only at h ⊢; rw [if_pos h]; exact e _ rfl
    · rename_i h; simp only at h ⊢; rw [if_neg h]
      cases hh : (g M.c (M.pr x.p) r.v).2 with
      | none => exact e _ rfl
      | some o => rfl
theorem apart {x y : Cl} (r s : Rs) (h1 : x.k ≠ 1) (h10 : x.k ≠ 10) (g1 : y.k ≠ 1) (g10 : y.k ≠ 10) (h : ¬ (obK x = true ∧ obK y = true ∧ x.h = y.h)) (h' : ¬ (obK x = false ∧ obK y = false ∧ x.p = y.p)) (M : Mo) :
    stepB (stepM M x r) y s = stepB M y s ∧ stepB (stepM M y s) x r = stepB M x r ∧ stepM (stepM M x r) y s = stepM (stepM M y s) x r := by
  cases hx : obK x with
  | true =>
    obtain ⟨β, γ, hb⟩ := step_ob hx r
    cases hy : obK y with
    | true =>
      obtain ⟨β', γ', hb'⟩ := step_ob hy s
      have hne : (x.h : Int) ≠ (y.h : Int) := fun e => h ⟨hx, hy, by omega⟩
      have e1 : (stepM M x r).ob y.h = M.ob y.h := by rw [(hb M).2]; exact upd_ne _ _ (fun e => hne e.symm)
      have e2 : (stepM M y s).ob x.h = M.ob x.h := by rw [(hb' M).2]; exact upd_ne _ _ hne
      refine ⟨by rw [(hb' _).1, (hb' _).1, stepM_c, e1], by rw [(hb _).1, (hb _).1, stepM_c, e2], ?_⟩
      rw [(hb' (stepM M x r)).2, (hb (stepM M y s)).2, stepM_c, stepM_c, e1, e2, (hb M).2, (hb' M).2]
      simp only
      rw [upd_comm _ _ _ hne]
    | false =>
      obtain ⟨β', γ', hb'⟩ := step_pr hy g1 g10 s
      have e1 : (stepM M x r).pr y.p = M.pr y.p := by rw [(hb M).2]
      have e2 : (stepM M y s).ob x.h = M.ob x.h := by rw [(hb' M).2]
      refine ⟨by rw [(hb' _).1, (hb' _).1, stepM_c, e1], by rw [(hb _).1, (hb _).1, stepM_c, e2], ?_⟩
      rw [(hb' (stepM M x r)).2, (hb (stepM M y s)).2, stepM_c, stepM_c, e1, e2, (hb M).2, (hb' M).2]
  | false =>
    obtain ⟨β, γ, hb⟩ := step_pr hx h1 h10 r
    cases hy : obK y with
    | true =>
      obtain ⟨β', γ', hb'⟩ := step_ob hy s
      have e1 : (stepM M x r).ob y.h = M.ob y.h := by rw [(hb M).2]
      have e2 : (stepM M y s).pr x.p = M.pr x.p := by rw [(hb' M).2]
      refine ⟨by rw [(hb' _).1, (hb' _).1, stepM_c, e1], by rw [(hb _).1, (hb _).1, stepM_c, e2], ?_⟩
      rw [(hb' (stepM M x r)).2, (hb (stepM M y s)).2, stepM_c, stepM_c, e1, e2, (hb M).2, (hb' M).2]
    | false =>
      obtain ⟨β', γ', hb'⟩ := step_pr hy g1 g10 s
      have hne : x.p ≠ y.p := fun e => h' ⟨hx, hy, e⟩
      have e1 : (stepM M x r).pr y.p = M.pr y.p := by rw [(hb M).2]; exact upd_ne _ _ (fun e => hne e.symm)
      have e2 : (stepM M y s).pr x.p = M.pr x.p := by rw [(hb' M).2]; exact upd_ne _ _ hne
      refine ⟨by rw [(hb' _).1, (hb' _).1, stepM_c, e1], by rw [(hb _).1, (hb _).1, stepM_c, e2], ?_⟩
      rw [(hb' (stepM M x r)).2, (hb (stepM M y s)).2, stepM_c, stepM_c, e1, e2, (hb M).2, (hb' M).2]
      simp only
      rw [upd_comm _ _ _ hne]
end Go.Proofs.YtfoleblcaloeoaaDoor

/- A page of the process 1, plain; copies of a law's machine. -/
namespace Go.Proofs.YtfoleblcaloeoaaDoor
open Go Go.RowKit

theorem Copy_ms {W0 w : World} {L : List Nat} {m : Nat} {M : Mo} (h : MS W0 L w m M) :
    Calls Tryd.prog 13 #[.pointer (some ⟨m, 0, none⟩)] w fun e w' => (∃ m', e = .returned (.pointer (some ⟨m', 0, none⟩)) ∧ MS w [] w' m' M) ∧ Chg [] w w' := by
  obtain ⟨⟨O, h1, h2, h3⟩, h4, h5⟩ := h
  refine (Copy_any h1).mono ?_
  rintro e w' ⟨⟨m', O', rfl, k1, k2⟩, hc⟩
  exact ⟨⟨m', rfl, ⟨O', k1, k2, fun k hk => (List.not_mem_nil hk).elim⟩, fun k hk => (List.not_mem_nil hk).elim, hc⟩, hc⟩
/-- a step of a copy, which is then gone -/
theorem Step_copy {w w1 : World} {m : Nat} {M : Mo} (h : MS w [] w1 m M) (hf : FW w) {x : Cl} {v : Value} {r : Rs} {u : Value} (hx : x.Ok) (hv : RB w1 v x.l) (hr : r.Ok) (hu : RB w1 u r.l) :
    Calls Tryd.prog 12 #[.pointer (some ⟨m, 0, none⟩), .agg (clc x v), .agg (rsc r u)] w1 fun e w' => e = .returned (.bool (stepB M x r)) ∧ Chg [] w w' := by
  refine (Step_ms h hf hx hv hr hu).mono ?_
  rintro e w' ⟨rfl, h2, _⟩
  exact ⟨rfl, h2.chg⟩
/-! ## Plain -/
def cSt (a : Int) (b : List Nat) : Cl := { zCl with k := 9, p := 1, a := a, l := b }
def cPr (g c : Int) (r : Nat) : Cl := { zCl with k := 5, p := 1, g := g, c := c, r := r }
def cUm (g c : Int) : Cl := { zCl with k := 4, p := 1, g := g, c := c }
theorem mm_built (g : Int) (r : Nat) : BC [(0, .int .u8 3), (1, .int .i64 1), (3, .int .i64 g), (4, .int .i64 1), (7, .int .u8 r)] (cMm g 1 r) zV := ⟨by kernel_rfl⟩
theorem pr_built (g : Int) (r : Nat) : BC [(0, .int .u8 5), (1, .int .i64 1), (3, .int .i64 g), (4, .int .i64 1), (7, .int .u8 r)] (cPr g 1 r) zV := ⟨by kernel_rfl⟩
theorem um_built (g : Int) : BC [(0, .int .u8 4), (1, .int .i64 1), (3, .int .i64 g), (4, .int .i64 1)] (cUm g 1) zV := ⟨by kernel_rfl⟩
theorem st_built (a : Int) (b : List Nat) (A : Option Addr) (n c : Nat) : BC [(0, .int .u8 9), (1, .int .i64 1), (5, .int .i64 a), (10, .slice A n c)] (cSt a b) (.slice A n c) := ⟨by kernel_rfl⟩
theorem ld_built (a s : Int) : BC [(0, .int .u8 8), (1, .int .i64 1), (5, .int .i64 a), (6, .int .i64 s)] (cLd a s) zV := ⟨by kernel_rfl⟩
theorem mm_ok {g : Int} {r : Nat} (hg : 0 ≤ g ∧ g ≤ 1023) (hr : r < 256) : (cMm g 1 r).Ok := by constructor <;> simp [cMm, zCl] <;> first | exact hr | omega
theorem pr_ok {g : Int} {r : Nat} (hg : 0 ≤ g ∧ g ≤ 1023) (hr : r < 256) : (cPr g 1 r).Ok := by constructor <;> simp [cPr, zCl] <;> first | exact hr | omega
theorem um_ok {g : Int} (hg : 0 ≤ g ∧ g ≤ 1023) : (cUm g 1).Ok := by constructor <;> simp [cUm, zCl] <;> omega
theorem st_ok {a : Int} {b : List Nat} (ha : 0 ≤ a ∧ a ≤ 300000) (hb : ∀ y ∈ b, y < 256) : (cSt a b).Ok := by constructor <;> simp [cSt, zCl] <;> first | exact hb | omega
theorem ld_ok {a s : Int} (ha : 0 ≤ a ∧ a ≤ 300000) (hs : 0 ≤ s ∧ s ≤ 1000) : (cLd a s).Ok := by constructor <;> simp [cLd, zCl] <;> omega
theorem mm_nw {c : Cf} (hc : mayB c = true) {g : Int} {r : Nat} (hg : 0 ≤ g ∧ g ≤ 1023) (hr : 1 ≤ r ∧ r ≤ 3) : wrongK c (cMm g 1 r) = false := by
  refine nw_of hc ?_ ?_ ?_ ?_ rfl rfl rfl rfl rfl
  · unfold mayK
    rw [show bareK (cMm g 1 r) = cMm g 1 r from rfl]
    simp [sameB, cMm, zCl, fld]
  · show (true && !(decide (1 ≤ (1 : Int) ∧ (1 : Int) ≤ 1024) && decide (0 ≤ g ∧ g ≤ 1024 - 1))) = false
    rw [decide_eq_true (show 0 ≤ g ∧ g ≤ 1024 - 1 by omega)]; rfl
  · show (true && !decide (0 ≤ g ∧ g ≤ 1023)) = false
    rw [decide_eq_true hg]; rfl
  · show (true && !decide (1 ≤ ((r : Nat) : Int) ∧ ((r : Nat) : Int) ≤ 3)) = false
    rw [decide_eq_true (show 1 ≤ ((r : Nat) : Int) ∧ ((r : Nat) : Int) ≤ 3 by omega)]; rfl
theorem pr_nw {c : Cf} (hc : mayB c = true) {g : Int} {r : Nat} (hg : 0 ≤ g ∧ g ≤ 1023) (hr : 1 ≤ r ∧ r ≤ 3) : wrongK c (cPr g 1 r) = false := by
  refine nw_of hc ?_ ?_ ?_ ?_ rfl rfl rfl rfl rfl
  · unfold mayK
    rw [show bareK (cPr g 1 r) = cPr g 1 r from rfl]
    simp [sameB, cPr, zCl, fld]
  · show (true && !(decide (1 ≤ (1 : Int) ∧ (1 : Int) ≤ 1024) && decide (0 ≤ g ∧ g ≤ 1024 - 1))) = false
    rw [decide_eq_true (show 0 ≤ g ∧ g ≤ 1024 - 1 by omega)]; rfl
  · show (true && !decide (0 ≤ g ∧ g ≤ 1023)) = false
    rw [decide_eq_true hg]; rfl
  · show (true && !decide (1 ≤ ((r : Nat) : Int) ∧ ((r : Nat) : Int) ≤ 3)) = false
    rw [decide_eq_true (show 1 ≤ ((r : Nat) : Int) ∧ ((r : Nat) : Int) ≤ 3 by omega)]; rfl
theorem um_nw {c : Cf} (hc : mayB c = true) {g : Int} (hg : 0 ≤ g ∧ g ≤ 1023) : wrongK c (cUm g 1) = false := by
  refine nw_of hc ?_ ?_ ?_ rfl rfl rfl rfl rfl rfl
  · unfold mayK
    rw [show bareK (cUm g 1) = cUm g 1 from rfl]
    simp [sameB, cUm, zCl, fld]
  · show (true && !(decide (1 ≤ (1 : Int) ∧ (1 : Int) ≤ 1024) && decide (0 ≤ g ∧ g ≤ 1024 - 1))) = false
    rw [decide_eq_true (show 0 ≤ g ∧ g ≤ 1024 - 1 by omega)]; rfl
  · show (true && !decide (0 ≤ g ∧ g ≤ 1023)) = false
    rw [decide_eq_true hg]; rfl
theorem st_nw {c : Cf} (hc : mayB c = true) {g : Int} {o : Nat} {b : List Nat} (hg : 0 ≤ g ∧ g ≤ 1023) (hb : 1 ≤ b.length ∧ b.length ≤ 8) (ho : o + b.length ≤ 256) : wrongK c (cSt (256 * g + o) b) = false := by
  refine nw_of hc ?_ rfl rfl rfl rfl rfl rfl ?_ rfl
  · unfold mayK
    rw [show bareK (cSt (256 * g + o) b) = cSt (256 * g + o) b from rfl]
    simp [sameB, cSt, zCl, fld, hb.2]
  · have e : sizeK (cSt (256 * g + o) b) = b.length := rfl
    have e2 : (cSt (256 * g + o) b).a = 256 * g + o := rfl
    unfold t7K accB
    rw [e, e2, Int.tmod_eq_emod_of_nonneg (by omega), decide_eq_true (show (1 ≤ (b.length : Int) ∧ (b.length : Int) ≤ 8) ∧ 0 ≤ 256 * g + (o : Int) ∧ 256 * g + (o : Int) ≤ 262144 - (b.length : Int) by omega), decide_eq_true (show (256 * g + (o : Int)) % 256 ≤ 256 - (b.length : Int) by omega)]
    simp
theorem ld_nw {c : Cf} (hc : mayB c = true) {g : Int} {o n : Nat} (hg : 0 ≤ g ∧ g ≤ 1023) (hb : 1 ≤ n ∧ n ≤ 8) (ho : o + n ≤ 256) : wrongK c (cLd (256 * g + o) n) = false := by
  refine nw_of hc ?_ rfl rfl rfl rfl rfl rfl ?_ rfl
  · unfold mayK
    rw [show bareK (cLd (256 * g + o) n) = cLd (256 * g + o) n from rfl]
    simp [sameB, cLd, zCl, fld]
  · have e : sizeK (cLd (256 * g + o) n) = n := rfl
    have e2 : (cLd (256 * g + o) n).a = 256 * g + o := rfl
    unfold t7K accB
    rw [e, e2, Int.tmod_eq_emod_of_nonneg (by omega), decide_eq_true (show (1 ≤ (n : Int) ∧ (n : Int) ≤ 8) ∧ 0 ≤ 256 * g + (o : Int) ∧ 256 * g + (o : Int) ≤ 262144 - (n : Int) by omega), decide_eq_true (show (256 * g + (o : Int)) % 256 ≤ 256 - (n : Int) by omega)]
    simp
theorem stepB_pl {M : Mo} {x : Cl} (r : Rs) (hw : wrongK M.c x = false) (hf : freeK x.k r.e = false) : stepB M x r = sameRs r (answerA M x r.v).1 := by
  rw [stepB_ok r hw, hf]; rfl
/-- process 1 has the runs rl; its page g holds b from o on -/
structure PgI (M : Mo) (g : Int) (rl : List Ar.Rn) (b : List Nat) (o : Nat) : Prop where
  c : mayB M.c = true
  pr : ∃ q B, M.pr 1 = some q ∧ q.rl = rl ∧ q.pg g = some B ∧ B.length = 256 ∧ (B.drop o).take b.length = b
section
variable {M : Mo} {g : Int} {rl : List Ar.Rn} {b : List Nat} {o : Nat}
theorem at_page {g : Int} {o : Nat} (ho : o < 256) : (256 * g + (o : Int)) / 256 = g ∧ ((256 * g + (o : Int)) % 256).toNat = o := by omega
theorem pi_load (h : PgI M g rl b o) (hg : 0 ≤ g ∧ g ≤ 1023) (hb : 1 ≤ b.length ∧ b.length ≤ 8) (ho : o + b.length ≤ 256) (h0 : Ar.rt rl g ≠ 0) :
    stepB M (cLd (256 * g + o) b.length) ⟨0, 0, b⟩ = decide (Ar.rt rl g % 2 ≠ 0) ∧ stepB M (cLd (256 * g + o) b.length) ⟨190, 0, []⟩ = decide (Ar.rt rl g % 2 = 0) ∧ ∀ r, (stepB M (cLd (256 * g + o) b.length) r = true → True) ∧ stepM M (cLd (256 * g + o) b.length) r = M := by
  obtain ⟨q, B, h1, rfl, h3, h4, h5⟩ := h.pr
  obtain ⟨e1, e2⟩ := at_page (g := g) (o := o) (by omega)
  have hw := ld_nw h.c hg hb ho
  have ha : ∀ v, answerA M (cLd (256 * g + o) b.length) v = if Ar.rt q.rl g % 2 = 0 then (plainR 190, none) else (⟨0, 0, b⟩, none) := fun v => by
    show (match M.pr 1 with | none => (plainR 7, none) | some p => procA M (cLd (256 * g + o) b.length) v p) = _
    rw [h1]
    show ((accessA q (cLd (256 * g + o) b.length)).1, (accessA q (cLd (256 * g + o) b.length)).2.map fun q => { M with pr := upd M.pr 1 (some q) }) = _
    unfold accessA
    show ((if Ar.rt q.rl ((256 * g + (o : Int)) / 256) = 0 then (plainR 7, none) else if (8 : Nat) = 8 then (if Ar.rt q.rl ((256 * g + (o : Int)) / 256) % 2 = 0 then (plainR 190, none) else (⟨0, 0, (((q.pg ((256 * g + (o : Int)) / 256)).getD zeroPg).drop ((256 * g + (o : Int)) % 256).toNat).take ((b.length : Int).toNat)⟩, none)) else _ : Rs × Option Pr)).map id (fun z => z.map fun q => { M with pr := upd M.pr 1 (some q) }) = _
    rw [e1, e2, if_neg h0, if_pos rfl, h3, Option.getD_some, Int.toNat_natCast, h5]
    by_cases hr : Ar.rt q.rl g % 2 = 0
    · rw [if_pos hr, if_pos hr]; rfl
    · rw [if_neg hr, if_neg hr]; rfl
  refine ⟨?_, ?_, fun r => ⟨fun _ => trivial, ?_⟩⟩
  · rw [stepB_pl _ hw rfl, ha]
    by_cases hr : Ar.rt q.rl g % 2 = 0 <;> simp [hr, sameRs, plainR]
  · rw [stepB_pl _ hw rfl, ha]
    by_cases hr : Ar.rt q.rl g % 2 = 0 <;> simp [hr, sameRs, plainR]
  · unfold stepM
    split
    · rfl
    · rw [ha]; split <;> rfl
theorem splice_len {b : List Nat} {a : Nat} {l : List Nat} (h : a + l.length ≤ b.length) : (splice b a l).length = b.length := by
  unfold splice; simp; omega
theorem splice_at {b : List Nat} {a : Nat} {l : List Nat} (h : a + l.length ≤ b.length) : ((splice b a l).drop a).take l.length = l := by
  unfold splice
  rw [List.append_assoc, List.drop_left' (by simp; omega), List.take_left' rfl]
theorem pi_store (h : PgI M g rl b o) (hg : 0 ≤ g ∧ g ≤ 1023) (hb : 1 ≤ b.length ∧ b.length ≤ 8) (ho : o + b.length ≤ 256) (h0 : Ar.rt rl g ≠ 0) :
    stepB M (cSt (256 * g + o) b) ⟨0, 0, []⟩ = decide (2 ≤ Ar.rt rl g) ∧ stepB M (cSt (256 * g + o) b) ⟨190, 0, []⟩ = decide (Ar.rt rl g < 2) := by
  obtain ⟨q, B, h1, rfl, h3, h4, h5⟩ := h.pr
  obtain ⟨e1, e2⟩ := at_page (g := g) (o := o) (by omega)
  have hw := st_nw h.c hg hb ho
  have ha : ∀ v, (answerA M (cSt (256 * g + o) b) v).1 = if Ar.rt q.rl g < 2 then plainR 190 else plainR 0 := fun v => by
    show (match M.pr 1 with | none => (plainR 7, none) | some p => procA M (cSt (256 * g + o) b) v p).1 = _
    rw [h1]
    show (accessA q (cSt (256 * g + o) b)).1 = _
    unfold accessA
    show ((if Ar.rt q.rl ((256 * g + (o : Int)) / 256) = 0 then (plainR 7, none) else if (9 : Nat) = 8 then _ else (if Ar.rt q.rl ((256 * g + (o : Int)) / 256) < 2 then (plainR 190, none) else (plainR 0, some _)) : Rs × Option Pr)).1 = _
    rw [e1, if_neg h0, if_neg (by decide)]
    by_cases hr : Ar.rt q.rl g < 2
    · rw [if_pos hr, if_pos hr]
    · rw [if_neg hr, if_neg hr]
  refine ⟨?_, ?_⟩
  · rw [stepB_pl _ hw rfl, ha]
    by_cases hr : Ar.rt q.rl g < 2
    · have : ¬ 2 ≤ Ar.rt q.rl g := by omega
      simp [hr, this, sameRs, plainR]
    · have : 2 ≤ Ar.rt q.rl g := by omega
      simp [hr, this, sameRs, plainR]
  · rw [stepB_pl _ hw rfl, ha]
    by_cases hr : Ar.rt q.rl g < 2 <;> simp [hr, sameRs, plainR]
theorem one_map {g : Int} (hg : 0 ≤ g ∧ g ≤ 1023) {r : Int} (hr : 1 ≤ r ∧ r ≤ 3) : Ar.mapE [] g 1 r = 0 ∧ Ar.mapR [] g 1 r = [⟨g, 1, r⟩] := by
  have h1 : Ar.mayB g 1 = true := by unfold Ar.mayB; exact decide_eq_true (by omega)
  have h2 : Ar.rgB r = true := by unfold Ar.rgB; exact decide_eq_true hr
  have h3 : Ar.withL [] g 1 r = [⟨g, 1, r⟩] := by
    unfold Ar.withL Ar.endL
    simp [Ar.putL]
    omega
  unfold Ar.mapE Ar.mapR
  rw [h3]
  simp [h1, h2, Ar.cntL, Ar.setE, Ar.setR]
theorem one_pr {g : Int} (hg : 0 ≤ g ∧ g ≤ 1023) {r s : Int} (hr : 1 ≤ r ∧ r ≤ 3) (hs : 1 ≤ s ∧ s ≤ 3) : Ar.prE [⟨g, 1, r⟩] g 1 s = 0 ∧ Ar.prR [⟨g, 1, r⟩] g 1 s = [⟨g, 1, s⟩] := by
  have h1 : Ar.mayB g 1 = true := by unfold Ar.mayB; exact decide_eq_true (by omega)
  have h2 : Ar.rgB s = true := by unfold Ar.rgB; exact decide_eq_true hs
  have h3 : Ar.withL [⟨g, 1, r⟩] g 1 s = [⟨g, 1, s⟩] := by
    have a1 : min (g + 1) g - g = 0 := by omega
    have a2 : max g (g + 1) = g + 1 := by omega
    have a3 : g < g + 1 := by omega
    unfold Ar.withL Ar.endL
    show (if (Ar.stepL g 1 s ([], false) ⟨g, 1, r⟩).2 = true then (Ar.stepL g 1 s ([], false) ⟨g, 1, r⟩).1 else _) = _
    have a4 : Ar.stepL g 1 s ([], false) ⟨g, 1, r⟩ = ([⟨g, 1, s⟩], true) := by
      unfold Ar.stepL
      show (Ar.putL (if g < g + 1 then (if false = true then Ar.putL [] ⟨g, min (g + 1) g - g, r⟩ else Ar.putL (Ar.putL [] ⟨g, min (g + 1) g - g, r⟩) ⟨g, 1, s⟩, true) else (Ar.putL [] ⟨g, min (g + 1) g - g, r⟩, false)).1 ⟨max g (g + 1), g + 1 - max g (g + 1), r⟩, (if g < g + 1 then (if false = true then Ar.putL [] ⟨g, min (g + 1) g - g, r⟩ else Ar.putL (Ar.putL [] ⟨g, min (g + 1) g - g, r⟩) ⟨g, 1, s⟩, true) else (Ar.putL [] ⟨g, min (g + 1) g - g, r⟩, false)).2) = _
      rw [a1, a2, if_pos a3, if_neg (by decide), show g + 1 - (g + 1) = 0 by omega]
      have b1 : Ar.putL [] ⟨g, 0, r⟩ = [] := by simp [Ar.putL]
      rw [b1]
      have b2 : Ar.putL [] ⟨g, 1, s⟩ = [⟨g, 1, s⟩] := by simp [Ar.putL]; omega
      rw [b2]
      have b3 : Ar.putL [⟨g, 1, s⟩] ⟨g + 1, 0, r⟩ = [⟨g, 1, s⟩] := by simp [Ar.putL]
      rw [b3]
    rw [a4]
    rfl
  have h4 : Ar.mdE [⟨g, 1, r⟩] g 1 = 0 := by
    unfold Ar.mdE
    rw [h1]
    simp [Ar.cntL, Ar.ovl, Ar.Rn.e]
    omega
  unfold Ar.prE Ar.prR
  rw [h3, h4]
  simp [h2, Ar.setE, Ar.setR]
theorem pi_map {c : Cf} (hc : mayB c = true) (hg : 0 ≤ g ∧ g ≤ 1023) : stepB (newMo c) cSp ⟨0, 1, []⟩ = true ∧
    (stepB (stepM (newMo c) cSp ⟨0, 1, []⟩) (cMm g 1 3) ⟨0, 0, []⟩ = true ∧ (stepM (stepM (newMo c) cSp ⟨0, 1, []⟩) (cMm g 1 3) ⟨0, 0, []⟩).c = c ∧
    ∃ q, (stepM (stepM (newMo c) cSp ⟨0, 1, []⟩) (cMm g 1 3) ⟨0, 0, []⟩).pr 1 = some q ∧ q.rl = [⟨g, 1, 3⟩] ∧ ∀ y, q.pg y = none) := by
  have hw := mm_nw hc hg (r := 3) (by omega)
  obtain ⟨e1, e2⟩ := one_map hg (r := 3) (by omega)
  have ha : answerA (newMo c) cSp 1 = (⟨0, 1, []⟩, some { (newMo c) with pr := upd (newMo c).pr 1 (some newPr) }) := rfl
  have hs : stepM (newMo c) cSp ⟨0, 1, []⟩ = { (newMo c) with pr := upd (newMo c).pr 1 (some newPr) } := by
    rw [stepM_ok (sp_nw hc) rfl (by rw [ha]; rfl) rfl, ha]; rfl
  refine ⟨by rw [stepB_ok _ (sp_nw hc), ha]; rfl, ?_⟩
  rw [hs]
  have hb : answerA { (newMo c) with pr := upd (newMo c).pr 1 (some newPr) } (cMm g 1 3) 0 = (plainR 0, some { (newMo c) with pr := upd (upd (newMo c).pr 1 (some newPr)) 1 (some { newPr with rl := [⟨g, 1, 3⟩] }) }) := by
    show (plainR (Ar.mapE [] g 1 3), some { (newMo c) with pr := upd (upd (newMo c).pr 1 (some newPr)) 1 (some { newPr with rl := Ar.mapR [] g 1 3 }) }) = _
    rw [e1, e2]
  refine ⟨by rw [stepB_ok _ hw, hb]; rfl, ?_⟩
  rw [stepM_ok hw rfl (by rw [hb]; rfl) rfl, hb]
  exact ⟨rfl, _, rfl, rfl, fun _ => rfl⟩
theorem pi_first {c : Cf} (hM : M.c = c) (hc : mayB c = true) {q : Pr} (hq : M.pr 1 = some q) (hr : q.rl = [⟨g, 1, 3⟩]) (hp : ∀ y, q.pg y = none) (hg : 0 ≤ g ∧ g ≤ 1023) (hb : 1 ≤ b.length ∧ b.length ≤ 8) (ho : o + b.length ≤ 256) :
    stepB M (cSt (256 * g + o) b) ⟨0, 0, []⟩ = true ∧ PgI (stepM M (cSt (256 * g + o) b) ⟨0, 0, []⟩) g [⟨g, 1, 3⟩] b o := by
  obtain ⟨e1, e2⟩ := at_page (g := g) (o := o) (by omega)
  have hw := st_nw (c := M.c) (by rw [hM]; exact hc) hg hb ho
  have hrt : Ar.rt q.rl g = 3 := by rw [hr]; simp [Ar.rt, Ar.Rn.e]; omega
  have ha : ∀ v, answerA M (cSt (256 * g + o) b) v = (plainR 0, some { M with pr := upd M.pr 1 (some { q with pg := upd q.pg g (some (splice zeroPg o b)) }) }) := fun v => by
    show (match M.pr 1 with | none => (plainR 7, none) | some p => procA M (cSt (256 * g + o) b) v p) = _
    rw [hq]
    show ((accessA q (cSt (256 * g + o) b)).1, (accessA q (cSt (256 * g + o) b)).2.map fun q => { M with pr := upd M.pr 1 (some q) }) = _
    have hac : accessA q (cSt (256 * g + o) b) = (plainR 0, some { q with pg := upd q.pg g (some (splice zeroPg o b)) }) := by
      unfold accessA
      show (if Ar.rt q.rl ((256 * g + (o : Int)) / 256) = 0 then (plainR 7, none) else if (9 : Nat) = 8 then _ else (if Ar.rt q.rl ((256 * g + (o : Int)) / 256) < 2 then (plainR 190, none) else (plainR 0, some { q with pg := upd q.pg ((256 * g + (o : Int)) / 256) (some (splice ((q.pg ((256 * g + (o : Int)) / 256)).getD zeroPg) ((256 * g + (o : Int)) % 256).toNat b)) })) : Rs × Option Pr) = _
      rw [e1, e2, hrt, if_neg (by decide), if_neg (by decide), if_neg (by decide), hp g]
      rfl
    rw [hac]
    rfl
  refine ⟨by rw [stepB_pl _ hw rfl, ha]; rfl, ?_⟩
  rw [stepM_ok hw rfl (by rw [ha]; rfl) rfl, ha]
  refine ⟨by show mayB M.c = true; rw [hM]; exact hc, _, splice zeroPg o b, rfl, hr, upd_at _ _ _, ?_, splice_at ?_⟩
  · rw [splice_len (by rw [zeroPg_len]; omega), zeroPg_len]
  · rw [zeroPg_len]; omega
theorem pi_prot {r : Int} {s : Nat} (h : PgI M g [⟨g, 1, r⟩] b o) (hg : 0 ≤ g ∧ g ≤ 1023) (hr : 1 ≤ r ∧ r ≤ 3) (hs : 1 ≤ s ∧ s ≤ 3) :
    stepB M (cPr g 1 s) ⟨0, 0, []⟩ = true ∧ PgI (stepM M (cPr g 1 s) ⟨0, 0, []⟩) g [⟨g, 1, s⟩] b o := by
  obtain ⟨q, B, h1, h2, h3, h4, h5⟩ := h.pr
  have hw := pr_nw h.c hg hs
  obtain ⟨e1, e2⟩ := one_pr hg hr (s := (s : Int)) (by omega)
  have ha : ∀ v, answerA M (cPr g 1 s) v = (plainR 0, some { M with pr := upd M.pr 1 (some { q with rl := [⟨g, 1, s⟩] }) }) := fun v => by
    show (match M.pr 1 with | none => (plainR 7, none) | some p => procA M (cPr g 1 s) v p) = _
    rw [h1]
    show (plainR (Ar.prE q.rl g 1 s), some { M with pr := upd M.pr 1 (some { q with rl := Ar.prR q.rl g 1 s }) }) = _
    rw [h2, e1, e2]
  refine ⟨by rw [stepB_pl _ hw rfl, ha]; rfl, ?_⟩
  rw [stepM_ok hw rfl (by rw [ha]; rfl) rfl, ha]
  exact ⟨h.c, _, B, rfl, rfl, h3, h4, h5⟩
end
end Go.Proofs.YtfoleblcaloeoaaDoor

/- One pair, as an argument; two machines side by side. -/
namespace Go.Proofs.YtfoleblcaloeoaaDoor
open Go Go.RowKit

/-! ## A pair in a block -/
abbrev TB (w : World) (b : Nat) (t : Tw) : Prop := Blk w b 47 (twl t).toArray
theorem twl_size (t : Tw) : (twl t).toArray.size = 17 := by simp [twl_len]
theorem info47 : (Tryd.prog.info? 47).map (·.size) = some 17 := by kernel_rfl
theorem info47' (t : Tw) : (Tryd.prog.info? 47).map (·.size) = some (twl t).toArray.size := by rw [twl_size]; exact info47
theorem TB.cellX {w : World} {b : Nat} {t : Tw} (h : TB w b t) {j : Nat} {u : Value} (hj : j < 12) (hu : (clc t.x t.v)[j]? = some u) : w.cell? ⟨b, j, none⟩ = some u := by
  refine (h.cell j).trans ?_
  rw [List.getElem?_toArray]
  unfold twl
  rw [List.getElem?_append_left (show j < (clc t.x t.v).toList.length from hj)]
  simpa using hu
theorem TB.loadX {w : World} {b : Nat} {t : Tw} (h : TB w b t) : (loadVar 42 ⟨b, 0, none⟩).run Tryd.prog w = .ok (.agg (clc t.x t.v)) w := by
  have := run_loadVar_mid (P := Tryd.prog) w b 0 42 (clc t.x t.v).toList _ (fun j v hv => by
    have hj : j < 12 := (List.getElem?_eq_some_iff.1 hv).1
    rw [Nat.zero_add]
    exact h.cellX hj (by simpa using hv)) Tryd.underlying42 rfl (by rw [Array.length_toList]; exact info34)
  simpa using this
theorem TB.loadR {w : World} {b : Nat} {t : Tw} (h : TB w b t) : (loadVar 45 ⟨b, 12, none⟩).run Tryd.prog w = .ok (.agg (rsc t.r t.u)) w := by
  have := run_loadVar_mid (P := Tryd.prog) w b 12 45 (rsc t.r t.u).toList _ (fun j v hv => by
    have hj : j < 3 := (List.getElem?_eq_some_iff.1 hv).1
    refine (h.cell (12 + j)).trans ?_
    rw [List.getElem?_toArray]
    unfold twl
    rw [List.getElem?_append_right (show (clc t.x t.v).toList.length ≤ 12 + j by show 12 ≤ 12 + j; omega)]
    rw [show 12 + j - (clc t.x t.v).toList.length = j by show 12 + j - 12 = j; omega]
    rw [List.getElem?_append_left hj]; exact hv) Tryd.underlying45 rfl (by rw [Array.length_toList]; exact infoRs)
  simpa using this
section
variable {ops : Array Oper} {rest : List Oper} {o : Oper} {a : Act} {w : World} {Q : Exit → Act → World → Prop} {b : Nat} {t : Tw}
theorem wpList_box47 (hg : o.guard = none) (z : Operand) (ho : o.op = .box 47 z) (hx : a.eval z = .agg (twl t).toArray)
    (h : wpList Tryd.prog ops Q rest (a.put o.dst (.pointer (some ⟨w.heap.size, 0, none⟩))) (w.alloc (.cells (twl t).toArray 47))) : wpList Tryd.prog ops Q (o :: rest) a w :=
  Great.wpList_runTo hg _ rfl _ _ (by unfold execOp; simp only [ho, hx, Sem.run_bind, Instr.box, newVar, newRow, run_newObj_alloc, Sem.run_pure, Result.andThen_ok, Value.cells]) h
theorem wpList_load47W (z : Operand) (ho : o.op = .load 47 z) (hx : a.eval z = .pointer (some ⟨b, 0, none⟩)) (hw : Region.wanted o (yielded ops a.tmps) = true) (h0 : TB w b t) (h : wpList Tryd.prog ops Q rest (a.put o.dst (.agg (twl t).toArray)) w) : wpList Tryd.prog ops Q (o :: rest) a w :=
  wpList_step fun K hK => by
    rw [if_pos hw]
    exact wp_load_row 47 z ho b hx 47 _ (0, 0) _ h0 Tryd.underlying47 rfl (info47' t) (hK _ _ h)
end
/-! ## A slice of two pairs -/
theorem size47 : ∀ w, (sizeOf 47).run Tryd.prog w = .ok 17 w := fun w => by
  cases hq : Tryd.prog.info? 47 with
  | none => have h := info47; rw [hq] at h; cases h
  | some i =>
    have h := info47
    rw [hq] at h
    have hs : i.size = 17 := Option.some.inj h
    simp [sizeOf, typeInfo, hq, hs]
theorem RE.two {a b : Tw} (w : World) : RE twl 17 (w.alloc (.cells ((twl a).toArray ++ (twl b).toArray) 47)) (.slice (some ⟨w.heap.size, 0, none⟩) 2 2) [a, b] := by
  refine ⟨by rw [fc_length twl_len], some ⟨w.heap.size, 0, none⟩, 2, rfl, Nat.le_refl _, fun _ => ⟨w.heap.size, 0, rfl, fun j u hu => ?_⟩⟩
  have hb : Blk (w.alloc (.cells ((twl a).toArray ++ (twl b).toArray) 47)) w.heap.size 47 ((twl a).toArray ++ (twl b).toArray) := Blk.new w _ _
  refine (hb.cell (0 + j)).trans ?_
  rw [Nat.zero_add, ← hu]
  simp [fc]
/-! ## Two machines -/
structure M2 (W0 w : World) (m n : Nat) (M N : Mo) : Prop where
  mem : ∃ O P, MMem w m M O ∧ MMem w n N P ∧ (∀ k, O k → W0.heap.size ≤ k) ∧ (∀ k, P k → W0.heap.size ≤ k) ∧ ∀ k, O k → ¬ P k
  chg : Chg [] W0 w
theorem M2.swap {W0 w : World} {m n : Nat} {M N : Mo} (h : M2 W0 w m n M N) : M2 W0 w n m N M := by
  obtain ⟨⟨O, P, h1, h2, h3, h4, h5⟩, hc⟩ := h
  exact ⟨⟨P, O, h2, h1, h4, h3, fun k hp ho => h5 k ho hp⟩, hc⟩
theorem M2.stay {W0 w w' : World} {m n : Nat} {M N : Mo} (h : M2 W0 w m n M N) (hc : Chg [] w w') : M2 W0 w' m n M N := by
  obtain ⟨⟨O, P, h1, h2, h3, h4, h5⟩, hc0⟩ := h
  exact ⟨⟨O, P, h1.stay hc, h2.stay hc, h3, h4, h5⟩, hc0.stay hc⟩
theorem M2.copy {W0 w : World} {L : List Nat} {m : Nat} {M : Mo} (h : MS W0 L w m M) :
    Calls Tryd.prog 13 #[.pointer (some ⟨m, 0, none⟩)] w fun e w' => ∃ n, e = .returned (.pointer (some ⟨n, 0, none⟩)) ∧ M2 W0 w' m n M M := by
  obtain ⟨⟨O, h1, h2, h3⟩, h4, h5⟩ := h
  refine (Copy_any h1).mono ?_
  rintro e w' ⟨⟨n, P, rfl, k1, k2⟩, hc⟩
  have hsz := h5.size
  exact ⟨n, rfl, ⟨O, P, h1.stay hc, k1, h2, fun k hk => by have := k2 k hk; omega, fun k ho hp => by have := k2 k hp; have := h1.lt k ho; omega⟩, h5.stay hc⟩
theorem M2.step {W0 w : World} {m n : Nat} {M N : Mo} (h : M2 W0 w m n M N) (hf : FW W0) {x : Cl} {v : Value} {r : Rs} {u : Value} (hx : x.Ok) (hv : RB w v x.l) (hr : r.Ok) (hu : RB w u r.l) :
    Calls Tryd.prog 12 #[.pointer (some ⟨m, 0, none⟩), .agg (clc x v), .agg (rsc r u)] w fun e w' => e = .returned (.bool (stepB M x r)) ∧ M2 W0 w' m n (stepM M x r) N := by
  obtain ⟨⟨O, P, h1, h2, h3, h4, h5⟩, hc0⟩ := h
  refine (Step_any h1 (hf.stay hc0) hx hv hr hu).mono ?_
  rintro e w' ⟨rfl, hcp, O', k2, k3⟩
  have hsz := hc0.size
  obtain ⟨F, g1, g2⟩ := id hcp
  refine ⟨rfl, ⟨O', P, k2, h2.cp hcp (fun k hp ho => h5 k ho hp), fun k hk => (k3 k hk).elim (h3 k) (fun h => by omega), h4, fun k ho hp => (k3 k ho).elim (fun h => h5 k h hp) (fun h => by have := h2.lt k hp; omega)⟩, hc0.trans g1 (fun k hk => .inr ((g2 k hk).elim (h3 k) (fun h => by omega)))⟩
theorem M2.same {W0 w : World} {m n : Nat} {M : Mo} (h : M2 W0 w m n M M) :
    Calls Tryd.prog 15 #[.pointer (some ⟨m, 0, none⟩), .pointer (some ⟨n, 0, none⟩)] w fun e w' => e = .returned (.bool true) ∧ Chg [] w w' := by
  obtain ⟨⟨O, P, ⟨_, _, _, _, _, _, _, _, _, i1, _, _⟩, ⟨_, _, _, _, _, _, _, _, _, i2, _, _⟩, _, _, _⟩, _⟩ := h
  exact Same_any i1 i2
set_option maxRecDepth 20000 in
/-- is it a call of objects? -/
theorem objects_any (x : Cl) (v : Value) (w : World) : Calls Tryd.prog 14 #[.agg (clc x v)] w fun e w' => e = .returned (.bool (obK x)) ∧ Chg [] w w' := by
  obtain ⟨W1, hW1⟩ : ∃ W1, W1 = w.alloc (.cells (clc x v) 42) := ⟨_, rfl⟩
  have h1 : KB W1 w.heap.size x v := by rw [hW1]; exact Blk.new w _ _
  have hc1 : Chg [] w W1 := by rw [hW1]; exact (Chg.refl [] w).alloc _
  obtain ⟨q0, -, -, -, -, -, -, -, -, -, -, -, ql, -⟩ := KB.cells h1
  obtain ⟨xk, hxk⟩ : ∃ z : Int, z = (x.k : Int) := ⟨_, rfl⟩
  rw [← hxk] at q0
  have HXK := hide hxk
  have HC1 := hide hc1
  have HW1 := hide hW1
  obtain ⟨b, hb⟩ : ∃ b, b = obK x := ⟨_, rfl⟩
  rw [← hb]
  have HB := hide hb
  clear hxk hc1 hW1 h1 hb
  by_cases e1 : 11 ≤ xk
  · have d1 : decide (11 ≤ xk) = true := decide_eq_true e1
    by_cases e2 : xk ≤ 13
    · have d2 : decide (xk ≤ 13) = true := decide_eq_true e2
      obtain rfl : b = true := by rw [HB.out]; unfold obK; exact decide_eq_true (by have := HXK.out; omega)
      go_enter Tryd.func14, Tryd.ntmps14
      go_wp2_with (first | (refine wpList_box34 rfl _ rfl rfl ?_; try rw [← HW1.out]))
      go_ret
      exact ⟨rfl, HC1.out⟩
    · have d2 : decide (xk ≤ 13) = false := decide_eq_false e2
      obtain rfl : b = false := by rw [HB.out]; unfold obK; exact decide_eq_false (by have := HXK.out; omega)
      go_enter Tryd.func14, Tryd.ntmps14
      go_wp2_with (first | (refine wpList_box34 rfl _ rfl rfl ?_; try rw [← HW1.out]))
      go_ret
      exact ⟨rfl, HC1.out⟩
  · have d1 : decide (11 ≤ xk) = false := decide_eq_false e1
    obtain rfl : b = false := by rw [HB.out]; unfold obK; exact decide_eq_false (by have := HXK.out; omega)
    go_enter Tryd.func14, Tryd.ntmps14
    go_wp2_with (first | (refine wpList_box34 rfl _ rfl rfl ?_; try rw [← HW1.out]))
    go_ret
    exact ⟨rfl, HC1.out⟩
end Go.Proofs.YtfoleblcaloeoaaDoor
