/- Texts merged for the claim: MsC, MtA. -/
import Derived.Test.YtfoleblcaloeoaaDoorZar
/- Copy (printed by genmsc.py). -/
namespace Go.Proofs.YtfoleblcaloeoaaDoor
open Go Go.RowKit

theorem wpG_buildMo {S : World → Prop} {Q : Exit → Act → World → Prop} {o : Oper} {rest : List Oper} {ks : List Nat} {gs : List (Option (Nat × Bool))} {a : Act} {w : World} {c : Cf} {bp bo be : Nat} (parts : Array (Nat × Operand)) (ho : o.op = .build 63 parts)
    {l : List (Nat × Value)} (hb : BM l c bp bo be) (hl : (parts.map fun (i, x) => (i, a.eval x)).toList = l) (h : wpG Tryd.prog S Q rest ks gs (a.put o.dst (.agg (mgc c bp bo be))) w) : wpG Tryd.prog S Q (o :: rest) (0 :: ks) (none :: gs) a w :=
  wpG_pure (fun K hK => ⟨_, fun w' => by
    unfold execOp
    simp only [ho, Sem.run_bind, run_build w' 63 _ (mgc c bp bo be) (by rw [hl]; exact hb.h), Sem.run_pure, Result.andThen_ok], hK _ _ h⟩)
theorem wp_boxMo {o : Oper} {a : Act} {w : World} {K : Act → World → Prop} {Q : Exit → Act → World → Prop} {cs : Array Value} (z : Operand) (ho : o.op = .box 63 z) (hx : a.eval z = .agg cs)
    (h : K (a.put o.dst (.pointer (some ⟨w.heap.size, 0, none⟩))) (w.alloc (.cells cs 63))) : o.wp Tryd.prog a w K Q := by
  unfold Oper.wp execOp
  simp only [ho, hx, Sem.run_bind, Instr.box, newVar, newRow, run_newObj_alloc, Sem.run_pure, Result.andThen_ok, Value.cells]
  exact h
/-- the copy is begun -/
structure Mc0 (w W : World) (m bp bo be : Nat) (M : Mo) (fe : Int → Option Value) : Prop where
  chg : Chg [] w W
  blk : Blk W m 63 (mgc M.c bp bo be)
  mp : MapB W bp .i64 fun _ => none
  mo : MapB W bo .u64 fun _ => none
  me : MapB W be .u64 fe
  g : w.heap.size ≤ m ∧ w.heap.size ≤ bp ∧ w.heap.size ≤ bo ∧ w.heap.size ≤ be
  ne : bp ≠ bo ∧ bp ≠ be ∧ bo ≠ be
/-- the processes and the objects that are no longer to come are copied -/
structure Mc (w W : World) (m bp bo be r : Nat) (M : Mo) (fe : Int → Option Value) (lp lo : Int → Bool) (gq : Int → Nat) (GQ : Int → Nat → Prop) (ov : Int → Value) : Prop where
  chg : Chg [] w W
  blk : Blk W m 63 (mgc M.c bp bo be)
  mp : MapB W bp .i64 fun z => if lp z then none else (M.pr z).map fun _ => .pointer (some ⟨gq z, 0, none⟩)
  mo : MapB W bo .u64 fun z => if lo z then none else (M.ob z).map fun _ => ov z
  me : MapB W be .u64 fe
  pr : ∀ z p, lp z = false → M.pr z = some p → PMem W (gq z) p (GQ z)
  pg : ∀ z p, lp z = false → M.pr z = some p → ∀ k, GQ z k → w.heap.size ≤ k ∧ k ≠ m ∧ k ≠ bp ∧ k ≠ bo ∧ k ≠ be ∧ k ≠ r
  pa : ∀ z z' p p', lp z = false → lp z' = false → M.pr z = some p → M.pr z' = some p' → z ≠ z' → ∀ k, GQ z k → ¬ GQ z' k
  ob : ∀ z B, lo z = false → M.ob z = some B → SB W (ov z) B
  og : ∀ z B, lo z = false → M.ob z = some B → ∀ k ∈ own (ov z), w.heap.size ≤ k ∧ k ≠ m ∧ k ≠ bp ∧ k ≠ bo ∧ k ≠ be ∧ k ≠ r ∧ ∀ z' p, lp z' = false → M.pr z' = some p → ¬ GQ z' k
  oa : ∀ z z' B B', lo z = false → lo z' = false → M.ob z = some B → M.ob z' = some B' → z ≠ z' → ∀ k ∈ own (ov z), k ∉ own (ov z')
  g : w.heap.size ≤ m ∧ w.heap.size ≤ bp ∧ w.heap.size ≤ bo ∧ w.heap.size ≤ be
  ne : bp ≠ bo ∧ bp ≠ be ∧ bo ≠ be
  nr : r ≠ m ∧ r ≠ bp ∧ r ≠ bo ∧ r ≠ be
  lr : w.heap.size ≤ r ∧ r < W.heap.size
theorem PMem.lt {w : World} {b : Nat} {p : Pr} {F : Nat → Prop} (h : PMem w b p F) : ∀ k, F k → k < w.heap.size := by
  obtain ⟨d, FA, bp, bo, fp, fo, gp, h1, h2, h3⟩ := h
  exact h3
theorem PMem.chg {w W : World} {b : Nat} {p : Pr} {F : Nat → Prop} {G : List Nat} (h : PMem w b p F) (hc : Chg G w W) (hg : ∀ k ∈ G, ¬ F k) : PMem W b p F :=
  h.cp (G := fun k => k ∈ G) (CP.of hc (fun k hk => .inl hk)) (fun k hk h2 => hg k h2 hk)
theorem Mc0.begin {w W W1 : World} {m bp bo be : Nat} {M : Mo} {fe : Int → Option Value} (h : Mc0 w W m bp bo be M fe) (hc : Chg [] W W1) (hs : W1.heap.size = W.heap.size + 1) {lp lo : Int → Bool} (hl : ∀ z, lp z = (M.pr z).isSome) (hlo : ∀ z, lo z = (M.ob z).isSome) :
    Mc w W1 m bp bo be W.heap.size M fe lp lo (fun _ => 0) (fun _ _ => False) (fun _ => .slice none 0 0) := by
  have l1 := h.blk.lt
  have l2 := h.mp.lt
  have l3 := h.mo.lt
  have l4 := h.me.lt
  have l5 := h.chg.size
  have vp : ∀ z p, lp z = false → M.pr z = some p → False := fun z p h1 h2 => by rw [hl z, h2] at h1; cases h1
  have vo : ∀ z B, lo z = false → M.ob z = some B → False := fun z B h1 h2 => by rw [hlo z, h2] at h1; cases h1
  have e1 : (fun z => if lp z then none else (M.pr z).map fun _ => Value.pointer (some ⟨0, 0, none⟩)) = fun _ => none := by
    funext z
    rw [hl z]
    cases M.pr z <;> rfl
  have e2 : (fun z => if lo z then none else (M.ob z).map fun _ => Value.slice none 0 0) = fun _ => none := by
    funext z
    rw [hlo z]
    cases M.ob z <;> rfl
  refine ⟨h.chg.stay hc, h.blk.chg hc List.not_mem_nil, by rw [e1]; exact h.mp.stay hc, by rw [e2]; exact h.mo.stay hc, h.me.stay hc, fun z p h1 h2 => (vp z p h1 h2).elim, fun z p h1 h2 => (vp z p h1 h2).elim, fun z z' p p' h1 h2 h3 => (vp z p h1 h3).elim, fun z B h1 h2 => (vo z B h1 h2).elim, fun z B h1 h2 => (vo z B h1 h2).elim, fun z z' p p' h1 h2 h3 => (vo z p h1 h3).elim, h.g, h.ne, by omega, by omega⟩
theorem Mc.next {w W W1 : World} {m bp bo be r : Nat} {M : Mo} {fe : Int → Option Value} {lp lo : Int → Bool} {gq : Int → Nat} {GQ : Int → Nat → Prop} {ov : Int → Value} (h : Mc w W m bp bo be r M fe lp lo gq GQ ov) (hc : Chg [r] W W1) : Mc w W1 m bp bo be r M fe lp lo gq GQ ov := by
  have hs := hc.size
  have hnr := h.nr
  have hlr := h.lr
  have hsg : ∀ x, x ≠ r → x ∉ [r] := fun x hx hm => hx (List.mem_singleton.1 hm)
  exact { h with chg := h.chg.trans hc (fun x hx => .inr (by obtain rfl := List.mem_singleton.1 hx; exact hlr.1)), blk := h.blk.chg hc (hsg _ (by omega)), mp := h.mp.chg hc (hsg _ (by omega)), mo := h.mo.chg hc (hsg _ (by omega)), me := h.me.chg hc (hsg _ (by omega)), pr := fun z p h1 h2 => (h.pr z p h1 h2).chg hc (fun k hk hg => by obtain rfl := List.mem_singleton.1 hk; exact (h.pg z p h1 h2 _ hg).2.2.2.2.2 rfl), ob := fun z B h1 h2 => (h.ob z B h1 h2).chg hc (fun k hk => hsg _ (h.og z B h1 h2 k hk).2.2.2.2.2.1), lr := by omega }
theorem Mc.stay {w W W1 : World} {m bp bo be r : Nat} {M : Mo} {fe : Int → Option Value} {lp lo : Int → Bool} {gq : Int → Nat} {GQ : Int → Nat → Prop} {ov : Int → Value} (h : Mc w W m bp bo be r M fe lp lo gq GQ ov) (hc : Chg [] W W1) : Mc w W1 m bp bo be r M fe lp lo gq GQ ov := h.next (hc.up [r])
theorem Mc.again {w W W1 : World} {m bp bo be r : Nat} {M : Mo} {fe : Int → Option Value} {lp lo : Int → Bool} {gq : Int → Nat} {GQ : Int → Nat → Prop} {ov : Int → Value} (h : Mc w W m bp bo be r M fe lp lo gq GQ ov) (hc : Chg [] W W1) (hs : W1.heap.size = W.heap.size + 1) : Mc w W1 m bp bo be W.heap.size M fe lp lo gq GQ ov := by
  have l1 := h.blk.lt
  have l2 := h.mp.lt
  have l3 := h.mo.lt
  have l4 := h.me.lt
  have l5 := h.chg.size
  have h' := h.stay hc
  refine { h' with pg := fun z p h1 h2 k hk => ?_, og := fun z B h1 h2 k hk => ?_, nr := by omega, lr := by omega }
  · have := (h.pr z p h1 h2).lt k hk
    obtain ⟨k1, k2, k3, k4, k5, k6⟩ := h.pg z p h1 h2 k hk
    exact ⟨k1, k2, k3, k4, k5, by omega⟩
  · have := (h.ob z B h1 h2).own_lt k hk
    obtain ⟨k1, k2, k3, k4, k5, k6, k7⟩ := h.og z B h1 h2 k hk
    exact ⟨k1, k2, k3, k4, k5, by omega, k7⟩
theorem rest_old {left : Int → Bool} {y z : Int} (h1 : (left y && !(y == z)) = false) (h2 : y ≠ z) : left y = false := by
  cases hl : left y with
  | false => rfl
  | true => rw [hl, beq_false_of_ne h2] at h1; cases h1
theorem Mc.stepP {w W W1 : World} {m bp bo be r g : Nat} {M : Mo} {fe : Int → Option Value} {lp lo : Int → Bool} {gq : Int → Nat} {GQ : Int → Nat → Prop} {ov : Int → Value} (h : Mc w W m bp bo be r M fe lp lo gq GQ ov) {z : Int} {p : Pr} {F : Nat → Prop} (hp : M.pr z = some p)
    (hc : Chg [bp] W W1) (hP : PMem W1 g p F) (hF : ∀ k, F k → W.heap.size ≤ k) (hm : MapB W1 bp .i64 fun y => if y = z then some (.pointer (some ⟨g, 0, none⟩)) else if lp y then none else (M.pr y).map fun _ => .pointer (some ⟨gq y, 0, none⟩)) :
    Mc w W1 m bp bo be r M fe (fun y => lp y && !(y == z)) lo (upd gq z g) (upd GQ z F) ov := by
  have l1 := h.blk.lt
  have l2 := h.mp.lt
  have l3 := h.mo.lt
  have l4 := h.me.lt
  have l5 := h.chg.size
  have hnr := h.nr
  have hlr := h.lr
  have hne := h.ne
  have hg := h.g
  have hs := hc.size
  have hbm := Blk.ne_map h.blk h.mp
  have hsg : ∀ x, x ≠ bp → x ∉ [bp] := fun x hx hm => hx (List.mem_singleton.1 hm)
  refine { h with chg := h.chg.trans hc (fun x hx => .inr (by obtain rfl := List.mem_singleton.1 hx; exact hg.2.1)), blk := h.blk.chg hc (hsg _ hbm), mp := ?_, mo := h.mo.chg hc (hsg _ (by omega)), me := h.me.chg hc (hsg _ (by omega)), pr := fun y q h1 h2 => ?_, pg := fun y q h1 h2 k hk => ?_, pa := fun y y' q q' h1 h2 h3 h4 h5 k hk hk' => ?_, ob := fun y B h1 h2 => (h.ob y B h1 h2).chg hc (fun k hk => hsg _ (h.og y B h1 h2 k hk).2.2.1), og := fun y B h1 h2 k hk => ?_, lr := by omega }
  · have e : (fun y => if y = z then some (Value.pointer (some ⟨g, 0, none⟩)) else if lp y then none else (M.pr y).map fun _ => .pointer (some ⟨gq y, 0, none⟩)) = fun y => if (lp y && !(y == z)) = true then none else (M.pr y).map fun _ => .pointer (some ⟨upd gq z g y, 0, none⟩) := by
      funext y
      by_cases h1 : y = z
      · subst h1
        simp [upd, hp]
      · simp [upd, h1]
    rw [← e]
    exact hm
  · by_cases e : y = z
    · subst e
      obtain rfl := Option.some.inj (hp.symm.trans h2)
      rw [upd_at, upd_at]
      exact hP
    · rw [upd_ne _ _ e, upd_ne _ _ e]
      exact (h.pr y q (rest_old h1 e) h2).chg hc (fun k hk hg2 => by obtain rfl := List.mem_singleton.1 hk; exact (h.pg y q (rest_old h1 e) h2 _ hg2).2.2.1 rfl)
  · by_cases e : y = z
    · subst e
      rw [upd_at] at hk
      have := hF k hk
      omega
    · rw [upd_ne _ _ e] at hk
      exact h.pg y q (rest_old h1 e) h2 k hk
  · by_cases e : y = z
    · have e' : y' ≠ z := fun e' => h5 (e.trans e'.symm)
      rw [e, upd_at] at hk
      rw [upd_ne _ _ e'] at hk'
      have := hF k hk
      have := (h.pr y' q' (rest_old h2 e') h4).lt k hk'
      omega
    · rw [upd_ne _ _ e] at hk
      by_cases e' : y' = z
      · rw [e', upd_at] at hk'
        have := hF k hk'
        have := (h.pr y q (rest_old h1 e) h3).lt k hk
        omega
      · rw [upd_ne _ _ e'] at hk'
        exact h.pa y y' q q' (rest_old h1 e) (rest_old h2 e') h3 h4 h5 k hk hk'
  · obtain ⟨k1, k2, k3, k4, k5, k6, k7⟩ := h.og y B h1 h2 k hk
    refine ⟨k1, k2, k3, k4, k5, k6, fun z' q h3 h4 hgq => ?_⟩
    by_cases e : z' = z
    · rw [e, upd_at] at hgq
      have := hF k hgq
      have := (h.ob y B h1 h2).own_lt k hk
      omega
    · rw [upd_ne _ _ e] at hgq
      exact k7 z' q (rest_old h3 e) h4 hgq
theorem Mc.stepO {w W W1 : World} {m bp bo be r : Nat} {M : Mo} {fe : Int → Option Value} {lp lo : Int → Bool} {gq : Int → Nat} {GQ : Int → Nat → Prop} {ov : Int → Value} (h : Mc w W m bp bo be r M fe lp lo gq GQ ov) {z : Int} {B : List Nat} {v : Value} (hB : M.ob z = some B)
    (hc : Chg [bo] W W1) (hS : SB W1 v B) (hF : ∀ k ∈ own v, W.heap.size ≤ k) (hm : MapB W1 bo .u64 fun y => if y = z then some v else if lo y then none else (M.ob y).map fun _ => ov y) :
    Mc w W1 m bp bo be r M fe lp (fun y => lo y && !(y == z)) gq GQ (upd ov z v) := by
  have l1 := h.blk.lt
  have l2 := h.mp.lt
  have l3 := h.mo.lt
  have l4 := h.me.lt
  have l5 := h.chg.size
  have hnr := h.nr
  have hlr := h.lr
  have hne := h.ne
  have hg := h.g
  have hs := hc.size
  have hbm := Blk.ne_map h.blk h.mo
  have hsg : ∀ x, x ≠ bo → x ∉ [bo] := fun x hx hm => hx (List.mem_singleton.1 hm)
  refine { h with chg := h.chg.trans hc (fun x hx => .inr (by obtain rfl := List.mem_singleton.1 hx; exact hg.2.2.1)), blk := h.blk.chg hc (hsg _ hbm), mo := ?_, mp := h.mp.chg hc (hsg _ (by omega)), me := h.me.chg hc (hsg _ (by omega)), pr := fun y q h1 h2 => (h.pr y q h1 h2).chg hc (fun k hk hg2 => by obtain rfl := List.mem_singleton.1 hk; exact (h.pg y q h1 h2 _ hg2).2.2.2.1 rfl), ob := fun y C h1 h2 => ?_, og := fun y C h1 h2 k hk => ?_, oa := fun y y' q q' h1 h2 h3 h4 h5 k hk hk' => ?_, lr := by omega }
  · have e : (fun y => if y = z then some v else if lo y then none else (M.ob y).map fun _ => ov y) = fun y => if (lo y && !(y == z)) = true then none else (M.ob y).map fun _ => upd ov z v y := by
      funext y
      by_cases h1 : y = z
      · subst h1
        simp [upd, hB]
      · simp [upd, h1]
    rw [← e]
    exact hm
  · by_cases e : y = z
    · subst e
      obtain rfl := Option.some.inj (hB.symm.trans h2)
      rw [upd_at]
      exact hS
    · rw [upd_ne _ _ e]
      exact (h.ob y C (rest_old h1 e) h2).chg hc (fun k hk => hsg _ (h.og y C (rest_old h1 e) h2 k hk).2.2.2.1)
  · by_cases e : y = z
    · subst e
      rw [upd_at] at hk
      have := hF k hk
      refine ⟨by omega, by omega, by omega, by omega, by omega, by omega, fun z' q h3 h4 hgq => ?_⟩
      have := (h.pr z' q h3 h4).lt k hgq
      omega
    · rw [upd_ne _ _ e] at hk
      exact h.og y C (rest_old h1 e) h2 k hk
  · by_cases e : y = z
    · have e' : y' ≠ z := fun e' => h5 (e.trans e'.symm)
      rw [e, upd_at] at hk
      rw [upd_ne _ _ e'] at hk'
      have := hF k hk
      have := (h.ob y' q' (rest_old h2 e') h4).own_lt k hk'
      omega
    · rw [upd_ne _ _ e] at hk
      by_cases e' : y' = z
      · rw [e', upd_at] at hk'
        have := hF k hk'
        have := (h.ob y q (rest_old h1 e) h3).own_lt k hk
        omega
      · rw [upd_ne _ _ e'] at hk'
        exact h.oa y y' q q' (rest_old h1 e) (rest_old h2 e') h3 h4 h5 k hk hk'
theorem Mc.end_ {w W w0 : World} {m bp bo be r m0 bp0 bo0 be0 : Nat} {M : Mo} {fp0 fo0 fe : Int → Option Value} {gb0 : Int → Nat} {GF0 : Int → Nat → Prop} {ov0 : Int → Value} {lp lo : Int → Bool} {gq : Int → Nat} {GQ : Int → Nat → Prop} {ov : Int → Value} (h : Mc w W m bp bo be r M fe lp lo gq GQ ov) (hI : MIn w0 m0 M bp0 bo0 be0 fp0 fo0 fe gb0 GF0 ov0) (hp : ∀ z, lp z = false) (ho : ∀ z, lo z = false) :
    ∃ O, MMem W m M O ∧ ∀ k, O k → w.heap.size ≤ k := by
  have hmp : MapB W bp .i64 fun z => (M.pr z).map fun _ => .pointer (some ⟨gq z, 0, none⟩) := by
    have := h.mp
    simpa only [hp, Bool.false_eq_true, if_false] using this
  have hmo : MapB W bo .u64 fun z => (M.ob z).map fun _ => ov z := by
    have := h.mo
    simpa only [ho, Bool.false_eq_true, if_false] using this
  have hg := h.g
  refine ⟨FMo M m bp bo be GQ ov, ⟨bp, bo, be, _, _, fe, gq, GQ, ov, ⟨h.blk, hmp, hmo, h.me, fun _ => rfl, fun n p hn => h.pr n p (hp n) hn, fun n n' p p' h1 h2 h3 => h.pa n n' p p' (hp n) (hp n') h1 h2 h3, hI.rng, fun _ => rfl, fun z B hB => ⟨h.ob z B (ho z) hB, (hI.ob z B hB).2⟩, fun z z' B B' h1 h2 h3 => h.oa z z' B B' (ho z) (ho z') h1 h2 h3, hI.he, h.ne.1, h.ne.2.1, h.ne.2.2, fun n p hn k hk => ?_⟩, fun k hk => hk, ?_⟩, ?_⟩
  · obtain ⟨k1, k2, k3, k4, k5, k6⟩ := h.pg n p (hp n) hn k hk
    exact ⟨k2, k3, k4, k5, fun z B hB hk2 => (h.og z B (ho z) hB k hk2).2.2.2.2.2.2 n p (hp n) hn hk⟩
  · rintro k (rfl | rfl | rfl | rfl | ⟨n, p, hn, hk⟩ | ⟨z, B, hB, hk⟩)
    · exact h.blk.lt
    · exact h.mp.lt
    · exact h.mo.lt
    · exact h.me.lt
    · exact (h.pr n p (hp n) hn).lt k hk
    · exact (h.ob z B (ho z) hB).own_lt k hk
  · rintro k (rfl | rfl | rfl | rfl | ⟨n, p, hn, hk⟩ | ⟨z, B, hB, hk⟩)
    · exact hg.1
    · exact hg.2.1
    · exact hg.2.2.1
    · exact hg.2.2.2
    · exact (h.pg n p (hp n) hn k hk).1
    · exact (h.og z B (ho z) hB k hk).1
set_option maxRecDepth 20000 in
set_option maxHeartbeats 40000000 in
theorem Copy_any {w : World} {m0 : Nat} {M : Mo} {O : Nat → Prop} (h : MMem w m0 M O) :
    Calls Tryd.prog 13 #[.pointer (some ⟨m0, 0, none⟩)] w fun e W' => (∃ m O', e = .returned (.pointer (some ⟨m, 0, none⟩)) ∧ MMem W' m M O' ∧ ∀ k, O' k → w.heap.size ≤ k) ∧ Chg [] w W' := by
  obtain ⟨bp0, bo0, be0, fp, fo, fe, gb, GF, ov0, hI, -, -⟩ := h
  have HI := hide (fun W (hc : Chg [] w W) => hI.cp (CP.of0 (F := fun _ => False) hc) (fun _ _ h => h))
  have l0 := hI.blk.lt
  have HN := hide (none_any hI.blk)
  have hmk : ∀ (t : TypeId) (W : World), (Instr.makeMap t none).run Tryd.prog W = .ok (.map (some W.heap.size)) (W.alloc (.map #[] 0)) := fun t W => run_makeMap t W
  clear hI
  go_enter Tryd.func13, Tryd.ntmps13
  go_wp2_with fail
  refine HN.out.mono ?_
  rintro e W9 ⟨rfl, rfl⟩
  go_upto_region 3 with (fail)
  go_cut [3] from 10 to 22 (fun z3 W => ∃ m bp bo be, z3 = .pointer (some ⟨m, 0, none⟩) ∧ Hid (Mc0 w W m bp bo be M fe))
  case first =>
    refine wp_region_h [0,0,0,5,6,6,0,0,0,5,6,0,6,0] [none, none, none, none, none, none, none, none, none, none, none, none, none, none] [[0,1,2,3,4,5,6,7,8,9,10,11,12,13], [0,1,2,3,4,6,7,8,9,10,5,11,12,13], [0,1,2,3,5,4,6,7,8,9,10,11,12,13], [0,1,2,3,5,6,7,8,9,10,4,11,12,13], [0,1,2,3,6,7,8,9,10,4,5,11,12,13], [0,1,2,3,6,7,8,9,10,5,4,11,12,13]] (fun W => Chg [] w W) (by kernel_rfl) (by kernel_rfl) (by kernel_rfl) (by kernel_rfl) (fun L9 hL9 => ?_)
    have hS : Chg [] w w.drew := (Chg.refl [] w).drew
    generalize w.drew = W0 at hS ⊢
    simp only [List.mem_cons, List.mem_nil_iff, or_false] at hL9
    rcases hL9 with rfl | rfl | rfl | rfl | rfl | rfl
    · have z0 := hS.size
      simp only [picks, List.filterMap_cons, List.filterMap_nil, List.getElem?_cons_succ, List.getElem?_cons_zero]
      go_wp2_with (first | (refine wpG_hload 26 _ rfl rfl (fun w' hw' => mo_load26 (HI.out w' hw').blk) hS ?_) | (refine wpG_hload 61 _ rfl rfl (fun w' hw' => load_map Tryd.underlying61 (mo_cells (HI.out w' hw').blk).2.2.1) hS ?_) | (refine wpG_calc rfl (fun K hK => ?_)) | (refine wpG_skip ?_ ?_; (focus (simp [wantG]; done)); go_simp) | (refine wpG_take ?_ ?_; (focus (simp [wantG]; done))) | (refine wpG_pure (fun K hK => ?_); go_simp; refine hK _ _ ?_; clear hK K) | (refine wpG_deed (by decide) (fun K hK => ?_); go_simp) | (refine wpG_nil ?_))
      (refine wpG_keeps hS (fun K hK => ?_))
      go_simp
      obtain ⟨W1, hW1⟩ : ∃ W, W = W0.alloc (.map #[] 0) := ⟨_, rfl⟩
      have hc1 : Chg [] W0 W1 := by rw [hW1]; exact (Chg.refl [] _).alloc _
      have hP : MapB W1 W0.heap.size .i64 (fun _ => none) := by rw [hW1]; exact MapB.new _ _
      obtain ⟨bP, hbP⟩ : ∃ b, b = W0.heap.size := ⟨_, rfl⟩
      have gP : W0.heap.size ≤ bP := Nat.le_of_eq hbP.symm
      try rw [← hW1]
      rw [← hbP] at hP ⊢
      have lP := hP.lt
      clear hW1 hbP
      have z1 := hc1.size
      replace hS : Chg [] w W1 := hS.stay hc1
      refine hK _ _ hS ?_
      clear hK K
      clear hc1
      go_wp2_with (first | (refine wpG_hload 26 _ rfl rfl (fun w' hw' => mo_load26 (HI.out w' hw').blk) hS ?_) | (refine wpG_hload 61 _ rfl rfl (fun w' hw' => load_map Tryd.underlying61 (mo_cells (HI.out w' hw').blk).2.2.1) hS ?_) | (refine wpG_calc rfl (fun K hK => ?_)) | (refine wpG_skip ?_ ?_; (focus (simp [wantG]; done)); go_simp) | (refine wpG_take ?_ ?_; (focus (simp [wantG]; done))) | (refine wpG_pure (fun K hK => ?_); go_simp; refine hK _ _ ?_; clear hK K) | (refine wpG_deed (by decide) (fun K hK => ?_); go_simp) | (refine wpG_nil ?_))
      (refine wpG_keeps hS (fun K hK => ?_))
      go_simp
      obtain ⟨W2, hW2⟩ : ∃ W, W = W1.alloc (.map #[] 0) := ⟨_, rfl⟩
      have hc2 : Chg [] W1 W2 := by rw [hW2]; exact (Chg.refl [] _).alloc _
      have hB : MapB W2 W1.heap.size .u64 (fun _ => none) := by rw [hW2]; exact MapB.new _ _
      obtain ⟨bB, hbB⟩ : ∃ b, b = W1.heap.size := ⟨_, rfl⟩
      have gB : W1.heap.size ≤ bB := Nat.le_of_eq hbB.symm
      try rw [← hW2]
      rw [← hbB] at hB ⊢
      have lB := hB.lt
      clear hW2 hbB
      have z2 := hc2.size
      replace hS : Chg [] w W2 := hS.stay hc2
      refine hK _ _ hS ?_
      clear hK K
      replace hP := hP.stay hc2
      clear hc2
      go_wp2_with (first | (refine wpG_hload 26 _ rfl rfl (fun w' hw' => mo_load26 (HI.out w' hw').blk) hS ?_) | (refine wpG_hload 61 _ rfl rfl (fun w' hw' => load_map Tryd.underlying61 (mo_cells (HI.out w' hw').blk).2.2.1) hS ?_) | (refine wpG_calc rfl (fun K hK => ?_)) | (refine wpG_skip ?_ ?_; (focus (simp [wantG]; done)); go_simp) | (refine wpG_take ?_ ?_; (focus (simp [wantG]; done))) | (refine wpG_pure (fun K hK => ?_); go_simp; refine hK _ _ ?_; clear hK K) | (refine wpG_deed (by decide) (fun K hK => ?_); go_simp) | (refine wpG_nil ?_))
      (refine wpG_keeps hS (fun K hK => ?_))
      go_simp
      refine (clone_rights (HI.out W2 hS).me).mono ?_
      rintro e W3 ⟨bE, rfl, hE, hc3, gE⟩
      have lE := hE.lt
      have z3 := hc3.size
      replace hS : Chg [] w W3 := hS.stay hc3
      refine hK _ _ hS ?_
      clear hK K
      replace hP := hP.stay hc3
      replace hB := hB.stay hc3
      clear hc3
      have HBP := hide (bm_new M.c bP bB bE)
      go_wp2_with (first | (refine wpG_keeps hS (fun K hK => ?_); refine wp_boxMo _ rfl rfl ?_; refine hK _ _ (hS.alloc _) ?_; clear hK K) | (refine wpG_buildMo _ rfl HBP.out ?_ ?_; (focus (simp [Act.eval]; done)); go_simp) | (refine wpG_calc rfl (fun K hK => ?_)) | (refine wpG_skip ?_ ?_; (focus (simp [wantG]; done)); go_simp) | (refine wpG_take ?_ ?_; (focus (simp [wantG]; done))) | (refine wpG_pure (fun K hK => ?_); go_simp; refine hK _ _ ?_; clear hK K) | (refine wpG_deed (by decide) (fun K hK => ?_); go_simp) | (refine wpG_nil ?_))
      go_meet
      case rel =>
        have hn : Chg [] W3 (W3.alloc (.cells (mgc M.c bP bB bE) 63)) := (Chg.refl [] _).alloc _
        exact ⟨_, bP, bB, bE, rfl, hide (Mc0.mk (hS.stay hn) (Blk.new W3 _ _) (hP.stay hn) (hB.stay hn) (hE.stay hn) (by omega) (by omega))⟩
    · have z0 := hS.size
      simp only [picks, List.filterMap_cons, List.filterMap_nil, List.getElem?_cons_succ, List.getElem?_cons_zero]
      go_wp2_with (first | (refine wpG_hload 26 _ rfl rfl (fun w' hw' => mo_load26 (HI.out w' hw').blk) hS ?_) | (refine wpG_hload 61 _ rfl rfl (fun w' hw' => load_map Tryd.underlying61 (mo_cells (HI.out w' hw').blk).2.2.1) hS ?_) | (refine wpG_calc rfl (fun K hK => ?_)) | (refine wpG_skip ?_ ?_; (focus (simp [wantG]; done)); go_simp) | (refine wpG_take ?_ ?_; (focus (simp [wantG]; done))) | (refine wpG_pure (fun K hK => ?_); go_simp; refine hK _ _ ?_; clear hK K) | (refine wpG_deed (by decide) (fun K hK => ?_); go_simp) | (refine wpG_nil ?_))
      (refine wpG_keeps hS (fun K hK => ?_))
      go_simp
      obtain ⟨W1, hW1⟩ : ∃ W, W = W0.alloc (.map #[] 0) := ⟨_, rfl⟩
      have hc1 : Chg [] W0 W1 := by rw [hW1]; exact (Chg.refl [] _).alloc _
      have hP : MapB W1 W0.heap.size .i64 (fun _ => none) := by rw [hW1]; exact MapB.new _ _
      obtain ⟨bP, hbP⟩ : ∃ b, b = W0.heap.size := ⟨_, rfl⟩
      have gP : W0.heap.size ≤ bP := Nat.le_of_eq hbP.symm
      try rw [← hW1]
      rw [← hbP] at hP ⊢
      have lP := hP.lt
      clear hW1 hbP
      have z1 := hc1.size
      replace hS : Chg [] w W1 := hS.stay hc1
      refine hK _ _ hS ?_
      clear hK K
      clear hc1
      go_wp2_with (first | (refine wpG_hload 26 _ rfl rfl (fun w' hw' => mo_load26 (HI.out w' hw').blk) hS ?_) | (refine wpG_hload 61 _ rfl rfl (fun w' hw' => load_map Tryd.underlying61 (mo_cells (HI.out w' hw').blk).2.2.1) hS ?_) | (refine wpG_calc rfl (fun K hK => ?_)) | (refine wpG_skip ?_ ?_; (focus (simp [wantG]; done)); go_simp) | (refine wpG_take ?_ ?_; (focus (simp [wantG]; done))) | (refine wpG_pure (fun K hK => ?_); go_simp; refine hK _ _ ?_; clear hK K) | (refine wpG_deed (by decide) (fun K hK => ?_); go_simp) | (refine wpG_nil ?_))
      (refine wpG_keeps hS (fun K hK => ?_))
      go_simp
      refine (clone_rights (HI.out W1 hS).me).mono ?_
      rintro e W2 ⟨bE, rfl, hE, hc2, gE⟩
      have lE := hE.lt
      have z2 := hc2.size
      replace hS : Chg [] w W2 := hS.stay hc2
      refine hK _ _ hS ?_
      clear hK K
      replace hP := hP.stay hc2
      clear hc2
      go_wp2_with (first | (refine wpG_hload 26 _ rfl rfl (fun w' hw' => mo_load26 (HI.out w' hw').blk) hS ?_) | (refine wpG_hload 61 _ rfl rfl (fun w' hw' => load_map Tryd.underlying61 (mo_cells (HI.out w' hw').blk).2.2.1) hS ?_) | (refine wpG_calc rfl (fun K hK => ?_)) | (refine wpG_skip ?_ ?_; (focus (simp [wantG]; done)); go_simp) | (refine wpG_take ?_ ?_; (focus (simp [wantG]; done))) | (refine wpG_pure (fun K hK => ?_); go_simp; refine hK _ _ ?_; clear hK K) | (refine wpG_deed (by decide) (fun K hK => ?_); go_simp) | (refine wpG_nil ?_))
      (refine wpG_keeps hS (fun K hK => ?_))
      go_simp
      obtain ⟨W3, hW3⟩ : ∃ W, W = W2.alloc (.map #[] 0) := ⟨_, rfl⟩
      have hc3 : Chg [] W2 W3 := by rw [hW3]; exact (Chg.refl [] _).alloc _
      have hB : MapB W3 W2.heap.size .u64 (fun _ => none) := by rw [hW3]; exact MapB.new _ _
      obtain ⟨bB, hbB⟩ : ∃ b, b = W2.heap.size := ⟨_, rfl⟩
      have gB : W2.heap.size ≤ bB := Nat.le_of_eq hbB.symm
      try rw [← hW3]
      rw [← hbB] at hB ⊢
      have lB := hB.lt
      clear hW3 hbB
      have z3 := hc3.size
      replace hS : Chg [] w W3 := hS.stay hc3
      refine hK _ _ hS ?_
      clear hK K
      replace hP := hP.stay hc3
      replace hE := hE.stay hc3
      clear hc3
      have HBP := hide (bm_new M.c bP bB bE)
      go_wp2_with (first | (refine wpG_keeps hS (fun K hK => ?_); refine wp_boxMo _ rfl rfl ?_; refine hK _ _ (hS.alloc _) ?_; clear hK K) | (refine wpG_buildMo _ rfl HBP.out ?_ ?_; (focus (simp [Act.eval]; done)); go_simp) | (refine wpG_calc rfl (fun K hK => ?_)) | (refine wpG_skip ?_ ?_; (focus (simp [wantG]; done)); go_simp) | (refine wpG_take ?_ ?_; (focus (simp [wantG]; done))) | (refine wpG_pure (fun K hK => ?_); go_simp; refine hK _ _ ?_; clear hK K) | (refine wpG_deed (by decide) (fun K hK => ?_); go_simp) | (refine wpG_nil ?_))
      go_meet
      case rel =>
        have hn : Chg [] W3 (W3.alloc (.cells (mgc M.c bP bB bE) 63)) := (Chg.refl [] _).alloc _
        exact ⟨_, bP, bB, bE, rfl, hide (Mc0.mk (hS.stay hn) (Blk.new W3 _ _) (hP.stay hn) (hB.stay hn) (hE.stay hn) (by omega) (by omega))⟩
    · have z0 := hS.size
      simp only [picks, List.filterMap_cons, List.filterMap_nil, List.getElem?_cons_succ, List.getElem?_cons_zero]
      go_wp2_with (first | (refine wpG_hload 26 _ rfl rfl (fun w' hw' => mo_load26 (HI.out w' hw').blk) hS ?_) | (refine wpG_hload 61 _ rfl rfl (fun w' hw' => load_map Tryd.underlying61 (mo_cells (HI.out w' hw').blk).2.2.1) hS ?_) | (refine wpG_calc rfl (fun K hK => ?_)) | (refine wpG_skip ?_ ?_; (focus (simp [wantG]; done)); go_simp) | (refine wpG_take ?_ ?_; (focus (simp [wantG]; done))) | (refine wpG_pure (fun K hK => ?_); go_simp; refine hK _ _ ?_; clear hK K) | (refine wpG_deed (by decide) (fun K hK => ?_); go_simp) | (refine wpG_nil ?_))
      (refine wpG_keeps hS (fun K hK => ?_))
      go_simp
      obtain ⟨W1, hW1⟩ : ∃ W, W = W0.alloc (.map #[] 0) := ⟨_, rfl⟩
      have hc1 : Chg [] W0 W1 := by rw [hW1]; exact (Chg.refl [] _).alloc _
      have hB : MapB W1 W0.heap.size .u64 (fun _ => none) := by rw [hW1]; exact MapB.new _ _
      obtain ⟨bB, hbB⟩ : ∃ b, b = W0.heap.size := ⟨_, rfl⟩
      have gB : W0.heap.size ≤ bB := Nat.le_of_eq hbB.symm
      try rw [← hW1]
      rw [← hbB] at hB ⊢
      have lB := hB.lt
      clear hW1 hbB
      have z1 := hc1.size
      replace hS : Chg [] w W1 := hS.stay hc1
      refine hK _ _ hS ?_
      clear hK K
      clear hc1
      go_wp2_with (first | (refine wpG_hload 26 _ rfl rfl (fun w' hw' => mo_load26 (HI.out w' hw').blk) hS ?_) | (refine wpG_hload 61 _ rfl rfl (fun w' hw' => load_map Tryd.underlying61 (mo_cells (HI.out w' hw').blk).2.2.1) hS ?_) | (refine wpG_calc rfl (fun K hK => ?_)) | (refine wpG_skip ?_ ?_; (focus (simp [wantG]; done)); go_simp) | (refine wpG_take ?_ ?_; (focus (simp [wantG]; done))) | (refine wpG_pure (fun K hK => ?_); go_simp; refine hK _ _ ?_; clear hK K) | (refine wpG_deed (by decide) (fun K hK => ?_); go_simp) | (refine wpG_nil ?_))
      (refine wpG_keeps hS (fun K hK => ?_))
      go_simp
      obtain ⟨W2, hW2⟩ : ∃ W, W = W1.alloc (.map #[] 0) := ⟨_, rfl⟩
      have hc2 : Chg [] W1 W2 := by rw [hW2]; exact (Chg.refl [] _).alloc _
      have hP : MapB W2 W1.heap.size .i64 (fun _ => none) := by rw [hW2]; exact MapB.new _ _
      obtain ⟨bP, hbP⟩ : ∃ b, b = W1.heap.size := ⟨_, rfl⟩
      have gP : W1.heap.size ≤ bP := Nat.le_of_eq hbP.symm
      try rw [← hW2]
      rw [← hbP] at hP ⊢
      have lP := hP.lt
      clear hW2 hbP
      have z2 := hc2.size
      replace hS : Chg [] w W2 := hS.stay hc2
      refine hK _ _ hS ?_
      clear hK K
      replace hB := hB.stay hc2
      clear hc2
      go_wp2_with (first | (refine wpG_hload 26 _ rfl rfl (fun w' hw' => mo_load26 (HI.out w' hw').blk) hS ?_) | (refine wpG_hload 61 _ rfl rfl (fun w' hw' => load_map Tryd.underlying61 (mo_cells (HI.out w' hw').blk).2.2.1) hS ?_) | (refine wpG_calc rfl (fun K hK => ?_)) | (refine wpG_skip ?_ ?_; (focus (simp [wantG]; done)); go_simp) | (refine wpG_take ?_ ?_; (focus (simp [wantG]; done))) | (refine wpG_pure (fun K hK => ?_); go_simp; refine hK _ _ ?_; clear hK K) | (refine wpG_deed (by decide) (fun K hK => ?_); go_simp) | (refine wpG_nil ?_))
      (refine wpG_keeps hS (fun K hK => ?_))
      go_simp
      refine (clone_rights (HI.out W2 hS).me).mono ?_
      rintro e W3 ⟨bE, rfl, hE, hc3, gE⟩
      have lE := hE.lt
      have z3 := hc3.size
      replace hS : Chg [] w W3 := hS.stay hc3
      refine hK _ _ hS ?_
      clear hK K
      replace hB := hB.stay hc3
      replace hP := hP.stay hc3
      clear hc3
      have HBP := hide (bm_new M.c bP bB bE)
      go_wp2_with (first | (refine wpG_keeps hS (fun K hK => ?_); refine wp_boxMo _ rfl rfl ?_; refine hK _ _ (hS.alloc _) ?_; clear hK K) | (refine wpG_buildMo _ rfl HBP.out ?_ ?_; (focus (simp [Act.eval]; done)); go_simp) | (refine wpG_calc rfl (fun K hK => ?_)) | (refine wpG_skip ?_ ?_; (focus (simp [wantG]; done)); go_simp) | (refine wpG_take ?_ ?_; (focus (simp [wantG]; done))) | (refine wpG_pure (fun K hK => ?_); go_simp; refine hK _ _ ?_; clear hK K) | (refine wpG_deed (by decide) (fun K hK => ?_); go_simp) | (refine wpG_nil ?_))
      go_meet
      case rel =>
        have hn : Chg [] W3 (W3.alloc (.cells (mgc M.c bP bB bE) 63)) := (Chg.refl [] _).alloc _
        exact ⟨_, bP, bB, bE, rfl, hide (Mc0.mk (hS.stay hn) (Blk.new W3 _ _) (hP.stay hn) (hB.stay hn) (hE.stay hn) (by omega) (by omega))⟩
    · have z0 := hS.size
      simp only [picks, List.filterMap_cons, List.filterMap_nil, List.getElem?_cons_succ, List.getElem?_cons_zero]
      go_wp2_with (first | (refine wpG_hload 26 _ rfl rfl (fun w' hw' => mo_load26 (HI.out w' hw').blk) hS ?_) | (refine wpG_hload 61 _ rfl rfl (fun w' hw' => load_map Tryd.underlying61 (mo_cells (HI.out w' hw').blk).2.2.1) hS ?_) | (refine wpG_calc rfl (fun K hK => ?_)) | (refine wpG_skip ?_ ?_; (focus (simp [wantG]; done)); go_simp) | (refine wpG_take ?_ ?_; (focus (simp [wantG]; done))) | (refine wpG_pure (fun K hK => ?_); go_simp; refine hK _ _ ?_; clear hK K) | (refine wpG_deed (by decide) (fun K hK => ?_); go_simp) | (refine wpG_nil ?_))
      (refine wpG_keeps hS (fun K hK => ?_))
      go_simp
      obtain ⟨W1, hW1⟩ : ∃ W, W = W0.alloc (.map #[] 0) := ⟨_, rfl⟩
      have hc1 : Chg [] W0 W1 := by rw [hW1]; exact (Chg.refl [] _).alloc _
      have hB : MapB W1 W0.heap.size .u64 (fun _ => none) := by rw [hW1]; exact MapB.new _ _
      obtain ⟨bB, hbB⟩ : ∃ b, b = W0.heap.size := ⟨_, rfl⟩
      have gB : W0.heap.size ≤ bB := Nat.le_of_eq hbB.symm
      try rw [← hW1]
      rw [← hbB] at hB ⊢
      have lB := hB.lt
      clear hW1 hbB
      have z1 := hc1.size
      replace hS : Chg [] w W1 := hS.stay hc1
      refine hK _ _ hS ?_
      clear hK K
      clear hc1
      go_wp2_with (first | (refine wpG_hload 26 _ rfl rfl (fun w' hw' => mo_load26 (HI.out w' hw').blk) hS ?_) | (refine wpG_hload 61 _ rfl rfl (fun w' hw' => load_map Tryd.underlying61 (mo_cells (HI.out w' hw').blk).2.2.1) hS ?_) | (refine wpG_calc rfl (fun K hK => ?_)) | (refine wpG_skip ?_ ?_; (focus (simp [wantG]; done)); go_simp) | (refine wpG_take ?_ ?_; (focus (simp [wantG]; done))) | (refine wpG_pure (fun K hK => ?_); go_simp; refine hK _ _ ?_; clear hK K) | (refine wpG_deed (by decide) (fun K hK => ?_); go_simp) | (refine wpG_nil ?_))
      (refine wpG_keeps hS (fun K hK => ?_))
      go_simp
      refine (clone_rights (HI.out W1 hS).me).mono ?_
      rintro e W2 ⟨bE, rfl, hE, hc2, gE⟩
      have lE := hE.lt
      have z2 := hc2.size
      replace hS : Chg [] w W2 := hS.stay hc2
      refine hK _ _ hS ?_
      clear hK K
      replace hB := hB.stay hc2
      clear hc2
      go_wp2_with (first | (refine wpG_hload 26 _ rfl rfl (fun w' hw' => mo_load26 (HI.out w' hw').blk) hS ?_) | (refine wpG_hload 61 _ rfl rfl (fun w' hw' => load_map Tryd.underlying61 (mo_cells (HI.out w' hw').blk).2.2.1) hS ?_) | (refine wpG_calc rfl (fun K hK => ?_)) | (refine wpG_skip ?_ ?_; (focus (simp [wantG]; done)); go_simp) | (refine wpG_take ?_ ?_; (focus (simp [wantG]; done))) | (refine wpG_pure (fun K hK => ?_); go_simp; refine hK _ _ ?_; clear hK K) | (refine wpG_deed (by decide) (fun K hK => ?_); go_simp) | (refine wpG_nil ?_))
      (refine wpG_keeps hS (fun K hK => ?_))
      go_simp
      obtain ⟨W3, hW3⟩ : ∃ W, W = W2.alloc (.map #[] 0) := ⟨_, rfl⟩
      have hc3 : Chg [] W2 W3 := by rw [hW3]; exact (Chg.refl [] _).alloc _
      have hP : MapB W3 W2.heap.size .i64 (fun _ => none) := by rw [hW3]; exact MapB.new _ _
      obtain ⟨bP, hbP⟩ : ∃ b, b = W2.heap.size := ⟨_, rfl⟩
      have gP : W2.heap.size ≤ bP := Nat.le_of_eq hbP.symm
      try rw [← hW3]
      rw [← hbP] at hP ⊢
      have lP := hP.lt
      clear hW3 hbP
      have z3 := hc3.size
      replace hS : Chg [] w W3 := hS.stay hc3
      refine hK _ _ hS ?_
      clear hK K
      replace hB := hB.stay hc3
      replace hE := hE.stay hc3
      clear hc3
      have HBP := hide (bm_new M.c bP bB bE)
      go_wp2_with (first | (refine wpG_keeps hS (fun K hK => ?_); refine wp_boxMo _ rfl rfl ?_; refine hK _ _ (hS.alloc _) ?_; clear hK K) | (refine wpG_buildMo _ rfl HBP.out ?_ ?_; (focus (simp [Act.eval]; done)); go_simp) | (refine wpG_calc rfl (fun K hK => ?_)) | (refine wpG_skip ?_ ?_; (focus (simp [wantG]; done)); go_simp) | (refine wpG_take ?_ ?_; (focus (simp [wantG]; done))) | (refine wpG_pure (fun K hK => ?_); go_simp; refine hK _ _ ?_; clear hK K) | (refine wpG_deed (by decide) (fun K hK => ?_); go_simp) | (refine wpG_nil ?_))
      go_meet
      case rel =>
        have hn : Chg [] W3 (W3.alloc (.cells (mgc M.c bP bB bE) 63)) := (Chg.refl [] _).alloc _
        exact ⟨_, bP, bB, bE, rfl, hide (Mc0.mk (hS.stay hn) (Blk.new W3 _ _) (hP.stay hn) (hB.stay hn) (hE.stay hn) (by omega) (by omega))⟩
    · have z0 := hS.size
      simp only [picks, List.filterMap_cons, List.filterMap_nil, List.getElem?_cons_succ, List.getElem?_cons_zero]
      go_wp2_with (first | (refine wpG_hload 26 _ rfl rfl (fun w' hw' => mo_load26 (HI.out w' hw').blk) hS ?_) | (refine wpG_hload 61 _ rfl rfl (fun w' hw' => load_map Tryd.underlying61 (mo_cells (HI.out w' hw').blk).2.2.1) hS ?_) | (refine wpG_calc rfl (fun K hK => ?_)) | (refine wpG_skip ?_ ?_; (focus (simp [wantG]; done)); go_simp) | (refine wpG_take ?_ ?_; (focus (simp [wantG]; done))) | (refine wpG_pure (fun K hK => ?_); go_simp; refine hK _ _ ?_; clear hK K) | (refine wpG_deed (by decide) (fun K hK => ?_); go_simp) | (refine wpG_nil ?_))
      (refine wpG_keeps hS (fun K hK => ?_))
      go_simp
      refine (clone_rights (HI.out W0 hS).me).mono ?_
      rintro e W1 ⟨bE, rfl, hE, hc1, gE⟩
      have lE := hE.lt
      have z1 := hc1.size
      replace hS : Chg [] w W1 := hS.stay hc1
      refine hK _ _ hS ?_
      clear hK K
      clear hc1
      go_wp2_with (first | (refine wpG_hload 26 _ rfl rfl (fun w' hw' => mo_load26 (HI.out w' hw').blk) hS ?_) | (refine wpG_hload 61 _ rfl rfl (fun w' hw' => load_map Tryd.underlying61 (mo_cells (HI.out w' hw').blk).2.2.1) hS ?_) | (refine wpG_calc rfl (fun K hK => ?_)) | (refine wpG_skip ?_ ?_; (focus (simp [wantG]; done)); go_simp) | (refine wpG_take ?_ ?_; (focus (simp [wantG]; done))) | (refine wpG_pure (fun K hK => ?_); go_simp; refine hK _ _ ?_; clear hK K) | (refine wpG_deed (by decide) (fun K hK => ?_); go_simp) | (refine wpG_nil ?_))
      (refine wpG_keeps hS (fun K hK => ?_))
      go_simp
      obtain ⟨W2, hW2⟩ : ∃ W, W = W1.alloc (.map #[] 0) := ⟨_, rfl⟩
      have hc2 : Chg [] W1 W2 := by rw [hW2]; exact (Chg.refl [] _).alloc _
      have hP : MapB W2 W1.heap.size .i64 (fun _ => none) := by rw [hW2]; exact MapB.new _ _
      obtain ⟨bP, hbP⟩ : ∃ b, b = W1.heap.size := ⟨_, rfl⟩
      have gP : W1.heap.size ≤ bP := Nat.le_of_eq hbP.symm
      try rw [← hW2]
      rw [← hbP] at hP ⊢
      have lP := hP.lt
      clear hW2 hbP
      have z2 := hc2.size
      replace hS : Chg [] w W2 := hS.stay hc2
      refine hK _ _ hS ?_
      clear hK K
      replace hE := hE.stay hc2
      clear hc2
      go_wp2_with (first | (refine wpG_hload 26 _ rfl rfl (fun w' hw' => mo_load26 (HI.out w' hw').blk) hS ?_) | (refine wpG_hload 61 _ rfl rfl (fun w' hw' => load_map Tryd.underlying61 (mo_cells (HI.out w' hw').blk).2.2.1) hS ?_) | (refine wpG_calc rfl (fun K hK => ?_)) | (refine wpG_skip ?_ ?_; (focus (simp [wantG]; done)); go_simp) | (refine wpG_take ?_ ?_; (focus (simp [wantG]; done))) | (refine wpG_pure (fun K hK => ?_); go_simp; refine hK _ _ ?_; clear hK K) | (refine wpG_deed (by decide) (fun K hK => ?_); go_simp) | (refine wpG_nil ?_))
      (refine wpG_keeps hS (fun K hK => ?_))
      go_simp
      obtain ⟨W3, hW3⟩ : ∃ W, W = W2.alloc (.map #[] 0) := ⟨_, rfl⟩
      have hc3 : Chg [] W2 W3 := by rw [hW3]; exact (Chg.refl [] _).alloc _
      have hB : MapB W3 W2.heap.size .u64 (fun _ => none) := by rw [hW3]; exact MapB.new _ _
      obtain ⟨bB, hbB⟩ : ∃ b, b = W2.heap.size := ⟨_, rfl⟩
      have gB : W2.heap.size ≤ bB := Nat.le_of_eq hbB.symm
      try rw [← hW3]
      rw [← hbB] at hB ⊢
      have lB := hB.lt
      clear hW3 hbB
      have z3 := hc3.size
      replace hS : Chg [] w W3 := hS.stay hc3
      refine hK _ _ hS ?_
      clear hK K
      replace hE := hE.stay hc3
      replace hP := hP.stay hc3
      clear hc3
      have HBP := hide (bm_new M.c bP bB bE)
      go_wp2_with (first | (refine wpG_keeps hS (fun K hK => ?_); refine wp_boxMo _ rfl rfl ?_; refine hK _ _ (hS.alloc _) ?_; clear hK K) | (refine wpG_buildMo _ rfl HBP.out ?_ ?_; (focus (simp [Act.eval]; done)); go_simp) | (refine wpG_calc rfl (fun K hK => ?_)) | (refine wpG_skip ?_ ?_; (focus (simp [wantG]; done)); go_simp) | (refine wpG_take ?_ ?_; (focus (simp [wantG]; done))) | (refine wpG_pure (fun K hK => ?_); go_simp; refine hK _ _ ?_; clear hK K) | (refine wpG_deed (by decide) (fun K hK => ?_); go_simp) | (refine wpG_nil ?_))
      go_meet
      case rel =>
        have hn : Chg [] W3 (W3.alloc (.cells (mgc M.c bP bB bE) 63)) := (Chg.refl [] _).alloc _
        exact ⟨_, bP, bB, bE, rfl, hide (Mc0.mk (hS.stay hn) (Blk.new W3 _ _) (hP.stay hn) (hB.stay hn) (hE.stay hn) (by omega) (by omega))⟩
    · have z0 := hS.size
      simp only [picks, List.filterMap_cons, List.filterMap_nil, List.getElem?_cons_succ, List.getElem?_cons_zero]
      go_wp2_with (first | (refine wpG_hload 26 _ rfl rfl (fun w' hw' => mo_load26 (HI.out w' hw').blk) hS ?_) | (refine wpG_hload 61 _ rfl rfl (fun w' hw' => load_map Tryd.underlying61 (mo_cells (HI.out w' hw').blk).2.2.1) hS ?_) | (refine wpG_calc rfl (fun K hK => ?_)) | (refine wpG_skip ?_ ?_; (focus (simp [wantG]; done)); go_simp) | (refine wpG_take ?_ ?_; (focus (simp [wantG]; done))) | (refine wpG_pure (fun K hK => ?_); go_simp; refine hK _ _ ?_; clear hK K) | (refine wpG_deed (by decide) (fun K hK => ?_); go_simp) | (refine wpG_nil ?_))
      (refine wpG_keeps hS (fun K hK => ?_))
      go_simp
      refine (clone_rights (HI.out W0 hS).me).mono ?_
      rintro e W1 ⟨bE, rfl, hE, hc1, gE⟩
      have lE := hE.lt
      have z1 := hc1.size
      replace hS : Chg [] w W1 := hS.stay hc1
      refine hK _ _ hS ?_
      clear hK K
      clear hc1
      go_wp2_with (first | (refine wpG_hload 26 _ rfl rfl (fun w' hw' => mo_load26 (HI.out w' hw').blk) hS ?_) | (refine wpG_hload 61 _ rfl rfl (fun w' hw' => load_map Tryd.underlying61 (mo_cells (HI.out w' hw').blk).2.2.1) hS ?_) | (refine wpG_calc rfl (fun K hK => ?_)) | (refine wpG_skip ?_ ?_; (focus (simp [wantG]; done)); go_simp) | (refine wpG_take ?_ ?_; (focus (simp [wantG]; done))) | (refine wpG_pure (fun K hK => ?_); go_simp; refine hK _ _ ?_; clear hK K) | (refine wpG_deed (by decide) (fun K hK => ?_); go_simp) | (refine wpG_nil ?_))
      (refine wpG_keeps hS (fun K hK => ?_))
      go_simp
      obtain ⟨W2, hW2⟩ : ∃ W, W = W1.alloc (.map #[] 0) := ⟨_, rfl⟩
      have hc2 : Chg [] W1 W2 := by rw [hW2]; exact (Chg.refl [] _).alloc _
      have hB : MapB W2 W1.heap.size .u64 (fun _ => none) := by rw [hW2]; exact MapB.new _ _
      obtain ⟨bB, hbB⟩ : ∃ b, b = W1.heap.size := ⟨_, rfl⟩
      have gB : W1.heap.size ≤ bB := Nat.le_of_eq hbB.symm
      try rw [← hW2]
      rw [← hbB] at hB ⊢
      have lB := hB.lt
      clear hW2 hbB
      have z2 := hc2.size
      replace hS : Chg [] w W2 := hS.stay hc2
      refine hK _ _ hS ?_
      clear hK K
      replace hE := hE.stay hc2
      clear hc2
      go_wp2_with (first | (refine wpG_hload 26 _ rfl rfl (fun w' hw' => mo_load26 (HI.out w' hw').blk) hS ?_) | (refine wpG_hload 61 _ rfl rfl (fun w' hw' => load_map Tryd.underlying61 (mo_cells (HI.out w' hw').blk).2.2.1) hS ?_) | (refine wpG_calc rfl (fun K hK => ?_)) | (refine wpG_skip ?_ ?_; (focus (simp [wantG]; done)); go_simp) | (refine wpG_take ?_ ?_; (focus (simp [wantG]; done))) | (refine wpG_pure (fun K hK => ?_); go_simp; refine hK _ _ ?_; clear hK K) | (refine wpG_deed (by decide) (fun K hK => ?_); go_simp) | (refine wpG_nil ?_))
      (refine wpG_keeps hS (fun K hK => ?_))
      go_simp
      obtain ⟨W3, hW3⟩ : ∃ W, W = W2.alloc (.map #[] 0) := ⟨_, rfl⟩
      have hc3 : Chg [] W2 W3 := by rw [hW3]; exact (Chg.refl [] _).alloc _
      have hP : MapB W3 W2.heap.size .i64 (fun _ => none) := by rw [hW3]; exact MapB.new _ _
      obtain ⟨bP, hbP⟩ : ∃ b, b = W2.heap.size := ⟨_, rfl⟩
      have gP : W2.heap.size ≤ bP := Nat.le_of_eq hbP.symm
      try rw [← hW3]
      rw [← hbP] at hP ⊢
      have lP := hP.lt
      clear hW3 hbP
      have z3 := hc3.size
      replace hS : Chg [] w W3 := hS.stay hc3
      refine hK _ _ hS ?_
      clear hK K
      replace hE := hE.stay hc3
      replace hB := hB.stay hc3
      clear hc3
      have HBP := hide (bm_new M.c bP bB bE)
      go_wp2_with (first | (refine wpG_keeps hS (fun K hK => ?_); refine wp_boxMo _ rfl rfl ?_; refine hK _ _ (hS.alloc _) ?_; clear hK K) | (refine wpG_buildMo _ rfl HBP.out ?_ ?_; (focus (simp [Act.eval]; done)); go_simp) | (refine wpG_calc rfl (fun K hK => ?_)) | (refine wpG_skip ?_ ?_; (focus (simp [wantG]; done)); go_simp) | (refine wpG_take ?_ ?_; (focus (simp [wantG]; done))) | (refine wpG_pure (fun K hK => ?_); go_simp; refine hK _ _ ?_; clear hK K) | (refine wpG_deed (by decide) (fun K hK => ?_); go_simp) | (refine wpG_nil ?_))
      go_meet
      case rel =>
        have hn : Chg [] W3 (W3.alloc (.cells (mgc M.c bP bB bE) 63)) := (Chg.refl [] _).alloc _
        exact ⟨_, bP, bB, bE, rfl, hide (Mc0.mk (hS.stay hn) (Blk.new W3 _ _) (hP.stay hn) (hB.stay hn) (hE.stay hn) (by omega) (by omega))⟩
  obtain ⟨m, bp, bo, be, rfl, h0⟩ := hcut
  have HP0 := hide (HI.out wc h0.out.chg)
  have q1 := (mo_cells HP0.out.blk).1
  have l1 := h0.out.blk.lt
  go_wp2_with (refine wpList_range_int rfl _ rfl Tryd.underlying59 rfl HP0.out.mp ?_; intro W1 n1 hit hc1 hs1; go_simp)
  have HC := hide (Mc0.begin h0.out hc1 hs1 (lp := fun z => (fp z).isSome) (lo := fun z => (M.ob z).isSome) (fun z => by show (fp z).isSome = _; rw [HP0.out.hp]; cases M.pr z <;> rfl) (fun _ => rfl))
  have HIT := hide hit
  obtain ⟨r, hr⟩ : ∃ r, r = wc.heap.size := ⟨_, rfl⟩
  rw [← hr] at HC HIT ⊢
  have lb := (HI.out w (Chg.refl _ _))
  have lbp := lb.mp.lt
  have lbo := lb.mo.lt
  clear hit hc1 hs1 q1 l1 l0 h0 hr HP0 lb
  go_loopw [] (fun wr => ∃ lp gq GQ n, Hid (Mc w wr m bp bo be r M fe lp (fun z => (M.ob z).isSome) gq GQ (fun _ => .slice none 0 0)) ∧ Hid (MapIt wr bp0 r .i64 fp lp n)) (fun wr => itLeft wr bp0 r)
  case atStart => exact ⟨_, _, _, _, HC, HIT⟩
  case round =>
    obtain ⟨lp, gq, GQ, n, hcp, hit⟩ := hrel
    have hm0 := hit.out.left_eq
    have HP := hide (HI.out wr hcp.out.chg)
    go_wp2_with (refine wpList_next_int rfl _ rfl rfl hit.out ?_ ?_)
    · intro h1 h2
      have HM1 := hide hcp.out
      have HL1 := hide h2
      have lb := hcp.out.blk.lt
      have q2 := (mo_cells HP.out.blk).2.1
      have l2 := HP.out.blk.lt
      have HPO := hide HP.out.mo
      clear hcp hit hm0 HP h1 h2 HC HIT
      go_wp2_with (refine wpList_range_int rfl _ rfl Tryd.underlying60 rfl HPO.out ?_; intro W2 n2 hit2 hc2 hs2; go_simp)
      have HC2 := hide (HM1.out.again hc2 hs2)
      have HIT2 := hide (show MapIt W2 bo0 wr.heap.size .u64 fo (fun z => (M.ob z).isSome) n2 from by
        have e : (fun z => (fo z).isSome) = fun z => (M.ob z).isSome := by
          funext z
          rw [(HI.out wr HM1.out.chg).ho]
          cases M.ob z <;> rfl
        rw [← e]
        exact hit2)
      obtain ⟨r2, hr2⟩ : ∃ r, r = wr.heap.size := ⟨_, rfl⟩
      rw [← hr2] at HC2 HIT2 ⊢
      clear hit2 hc2 hs2 q2 lb l2 hr2 HM1 HPO
      go_loopw [] (fun wx => ∃ lo ov n, Hid (Mc w wx m bp bo be r2 M fe lp lo gq GQ ov) ∧ Hid (MapIt wx bo0 r2 .u64 fo lo n)) (fun wx => itLeft wx bo0 r2)
      case atStart => exact ⟨_, _, _, HC2, HIT2⟩
      case round =>
        obtain ⟨lo, ov, n, hcp, hit⟩ := hrel
        have hm0 := hit.out.left_eq
        have HP := hide (HI.out wr hcp.out.chg)
        go_wp2_with (refine wpList_next_int rfl _ rfl rfl hit.out ?_ ?_)
        · intro h1 h2
          have HE := hide (hcp.out.end_ HP.out HL1.out h2)
          have HCC := hide hcp.out.chg
          have lb := hcp.out.blk.lt
          clear hcp hit hm0 HP
          go_wp2_with fail
          go_ret
          obtain ⟨F, k1, k2⟩ := HE.out
          exact ⟨⟨_, F, rfl, k1, k2⟩, HCC.out⟩
        · intro z v w' n' h1 h2 h3 h4 h5 h6 h7
          obtain ⟨B, hB, rfl⟩ : ∃ B, M.ob z = some B ∧ v = ov0 z := by
            rw [HP.out.ho] at h2
            cases hB : M.ob z with
            | none => rw [hB] at h2; cases h2
            | some B => rw [hB] at h2; exact ⟨B, rfl, (Option.some.inj h2).symm⟩
          have HC1 := hide (hcp.out.next h5)
          have HSB := hide ((HI.out w' HC1.out.chg).ob z B hB)
          have HB := hide hB
          have HIT1 := hide h3
          have hlt := h4
          have lm := HC1.out.blk.lt
          clear hcp hit HP hB h1 h2 h3 h4 h5 h6
          go_upto_region 11 with (fail)
          refine wp_region_t [0,0,0,5,0,0,6,3] [none, none, none, none, none, none, none, none] (fun W => Chg [] w' W) (by kernel_rfl) (by kernel_rfl) (by kernel_rfl) ?_
          have hS : Chg [] w' w'.drew := (Chg.refl [] w').drew
          generalize w'.drew = W0 at hS ⊢
          go_wp2_with (first | (refine wpG_hload 60 _ rfl rfl (fun w1 hw1 => load_map Tryd.underlying60 (mo_cells (HC1.out.stay hw1).blk).2.1) hS ?_) | (refine wpG_calc rfl (fun K hK => ?_)) | (refine wpG_skip ?_ ?_; (focus (simp [wantG]; done)); go_simp) | (refine wpG_take ?_ ?_; (focus (simp [wantG]; done))) | (refine wpG_pure (fun K hK => ?_); go_simp; refine hK _ _ ?_; clear hK K) | (refine wpG_deed (by decide) (fun K hK => ?_); go_simp) | (refine wpG_nil ?_))
          (refine wpG_keeps hS (fun K hK => ?_))
          go_simp
          refine (clone_b ((HSB.out.1.chg hS (fun k hk => List.not_mem_nil)).re) (by have := HSB.out.2.2; omega)).mono ?_
          rintro e W3 ⟨⟨A3, n3, c3, rfl, hs3, hn3⟩, hc3⟩
          have hS3 := hS.stay hc3
          have zs := hS.size
          refine hK _ _ hS3 ?_
          clear hK K
          have HC3 := hide (HC1.out.stay hS3)
          go_wp2_with (first | (refine wpG_deed (by decide) (fun K hK => ?_); refine wp_update _ _ _ rfl Tryd.underlying60 Tryd.underlying40 rfl rfl rfl HC3.out.mo ?_; intro W5 hm5 hc5; refine hK _ _ ?_; clear hK K) | (refine wpG_calc rfl (fun K hK => ?_)) | (refine wpG_skip ?_ ?_; (focus (simp [wantG]; done)); go_simp) | (refine wpG_take ?_ ?_; (focus (simp [wantG]; done))) | (refine wpG_pure (fun K hK => ?_); go_simp; refine hK _ _ ?_; clear hK K) | (refine wpG_deed (by decide) (fun K hK => ?_); go_simp) | (refine wpG_nil ?_))
          have lbo2 := HC3.out.mo.lt
          have gbo := HC1.out.g
          have hno : ∀ k ∈ own (.slice A3 n3 c3), k ∉ [bo] := fun k hk hm => by
            obtain rfl := List.mem_singleton.1 hm
            have := hn3 _ hk
            have := HC1.out.mo.lt
            omega
          have hcB : Chg [bo] w' W5 := (hS3.up [bo]).trans hc5 (fun x hx => .inl hx)
          have HST := hide (HC1.out.stepO (W1 := W5) HB.out hcB (hs3.chg hc5 hno) (fun k hk => by have := hn3 k hk; omega) hm5)
          have HI2 := hide (HIT1.out.chg hcB (by simp; omega) (by simpa using HC1.out.nr.2.2.1))
          go_roundw
          case rel =>
            (repeat apply Exists.intro)
            refine ⟨⟨_, _, _, HST, HI2⟩, rfl⟩
          case measure => rw [hm0, HI2.out.left_eq]; exact hlt
    · intro z v w' n' h1 h2 h3 h4 h5 h6 h7
      obtain ⟨p, hp, rfl⟩ : ∃ p, M.pr z = some p ∧ v = .pointer (some ⟨gb z, 0, none⟩) := by
        rw [HP.out.hp] at h2
        cases hB : M.pr z with
        | none => rw [hB] at h2; cases h2
        | some B => rw [hB] at h2; exact ⟨B, rfl, (Option.some.inj h2).symm⟩
      have HC1 := hide (hcp.out.next h5)
      have HPP := hide ((HI.out w' HC1.out.chg).pr z p hp)
      have HB := hide hp
      have HIT1 := hide h3
      have hlt := h4
      have lm := HC1.out.blk.lt
      clear hcp hit HP hp h1 h2 h3 h4 h5 h6
      go_upto_region 7 with (fail)
      refine wp_region_t [0,0,0,5,0,0,6,3] [none, none, none, none, none, none, none, none] (fun W => Chg [] w' W) (by kernel_rfl) (by kernel_rfl) (by kernel_rfl) ?_
      have hS : Chg [] w' w'.drew := (Chg.refl [] w').drew
      generalize w'.drew = W0 at hS ⊢
      go_wp2_with (first | (refine wpG_hload 59 _ rfl rfl (fun w1 hw1 => load_map Tryd.underlying59 (mo_cells (HC1.out.stay hw1).blk).1) hS ?_) | (refine wpG_calc rfl (fun K hK => ?_)) | (refine wpG_skip ?_ ?_; (focus (simp [wantG]; done)); go_simp) | (refine wpG_take ?_ ?_; (focus (simp [wantG]; done))) | (refine wpG_pure (fun K hK => ?_); go_simp; refine hK _ _ ?_; clear hK K) | (refine wpG_deed (by decide) (fun K hK => ?_); go_simp) | (refine wpG_nil ?_))
      (refine wpG_keeps hS (fun K hK => ?_))
      go_simp
      refine (copied_any (HPP.out.chg hS (fun k hk => by cases hk))).mono ?_
      rintro e W3 ⟨⟨b3, F3, rfl, hP3, hF3⟩, hc3⟩
      have hS3 := hS.stay hc3
      have zs := hS.size
      refine hK _ _ hS3 ?_
      clear hK K
      have HC3 := hide (HC1.out.stay hS3)
      go_wp2_with (first | (refine wpG_deed (by decide) (fun K hK => ?_); refine wp_update _ _ _ rfl Tryd.underlying59 Tryd.underlying3 rfl rfl rfl HC3.out.mp ?_; intro W5 hm5 hc5; refine hK _ _ ?_; clear hK K) | (refine wpG_calc rfl (fun K hK => ?_)) | (refine wpG_skip ?_ ?_; (focus (simp [wantG]; done)); go_simp) | (refine wpG_take ?_ ?_; (focus (simp [wantG]; done))) | (refine wpG_pure (fun K hK => ?_); go_simp; refine hK _ _ ?_; clear hK K) | (refine wpG_deed (by decide) (fun K hK => ?_); go_simp) | (refine wpG_nil ?_))
      have lbp2 := HC3.out.mp.lt
      have gbp := HC1.out.g
      have hno : ∀ k ∈ [bp], ¬ F3 k := fun k hm hk => by
        obtain rfl := List.mem_singleton.1 hm
        have := hF3 _ hk
        have := HC1.out.mp.lt
        omega
      have hcB : Chg [bp] w' W5 := (hS3.up [bp]).trans hc5 (fun x hx => .inl hx)
      have HST := hide (HC1.out.stepP (W1 := W5) HB.out hcB (hP3.chg hc5 hno) (fun k hk => by have := hF3 k hk; omega) hm5)
      have HI2 := hide (HIT1.out.chg hcB (by simp; omega) (by simpa using HC1.out.nr.2.1))
      go_roundw
      case rel =>
        (repeat apply Exists.intro)
        refine ⟨⟨_, _, _, _, HST, HI2⟩, rfl⟩
      case measure => rw [hm0, HI2.out.left_eq]; exact hlt
end Go.Proofs.YtfoleblcaloeoaaDoor

/- A page of the process 1, plain; copies of a law's machine. -/
namespace Go.Proofs.YtfoleblcaloeoaaDoor
open Go Go.RowKit

theorem Copy_ms {W0 w : World} {L : List Nat} {m : Nat} {M : Mo} (h : MS W0 L w m M) :
    Calls Tryd.prog 13 #[.pointer (some ⟨m, 0, none⟩)] w fun e w' => (∃ m', e = .returned (.pointer (some ⟨m', 0, none⟩)) ∧ MS w [] w' m' M) ∧ Chg [] w w' := by
  obtain ⟨⟨O, h1, h2, h3⟩, h4, h5⟩ := h
  refine (Copy_any h1).mono ?_
  rintro e w' ⟨⟨m', O', rfl, k1, k2⟩, hc⟩
  exact ⟨⟨m', rfl, ⟨O', k1, k2, fun k hk => (List.not_mem_nil hk).elim⟩, fun k hk => (List.not_mem_nil hk).elim, hc⟩, hc⟩
/-- a step of a copy, which is then gone -/
theorem Step_copy {w w1 : World} {m : Nat} {M : Mo} (h : MS w [] w1 m M) (hf : FW w) {x : Cl} {v : Value} {r : Rs} {u : Value} (hx : x.Ok) (hv : RB w1 v x.l) (hr : r.Ok) (hu : RB w1 u r.l) :
    Calls Tryd.prog 12 #[.pointer (some ⟨m, 0, none⟩), .agg (clc x v), .agg (rsc r u)] w1 fun e w' => e = .returned (.bool (stepB M x r)) ∧ Chg [] w w' := by
  refine (Step_ms h hf hx hv hr hu).mono ?_
  rintro e w' ⟨rfl, h2, _⟩
  exact ⟨rfl, h2.chg⟩
/-! ## Plain -/
def cSt (a : Int) (b : List Nat) : Cl := { zCl with k := 9, p := 1, a := a, l := b }
def cPr (g c : Int) (r : Nat) : Cl := { zCl with k := 5, p := 1, g := g, c := c, r := r }
def cUm (g c : Int) : Cl := { zCl with k := 4, p := 1, g := g, c := c }
theorem mm_built (g : Int) (r : Nat) : BC [(0, .int .u8 3), (1, .int .i64 1), (3, .int .i64 g), (4, .int .i64 1), (7, .int .u8 r)] (cMm g 1 r) zV := ⟨by kernel_rfl⟩
theorem pr_built (g : Int) (r : Nat) : BC [(0, .int .u8 5), (1, .int .i64 1), (3, .int .i64 g), (4, .int .i64 1), (7, .int .u8 r)] (cPr g 1 r) zV := ⟨by kernel_rfl⟩
theorem um_built (g : Int) : BC [(0, .int .u8 4), (1, .int .i64 1), (3, .int .i64 g), (4, .int .i64 1)] (cUm g 1) zV := ⟨by kernel_rfl⟩
theorem st_built (a : Int) (b : List Nat) (A : Option Addr) (n c : Nat) : BC [(0, .int .u8 9), (1, .int .i64 1), (5, .int .i64 a), (10, .slice A n c)] (cSt a b) (.slice A n c) := ⟨by kernel_rfl⟩
theorem ld_built (a s : Int) : BC [(0, .int .u8 8), (1, .int .i64 1), (5, .int .i64 a), (6, .int .i64 s)] (cLd a s) zV := ⟨by kernel_rfl⟩
theorem mm_ok {g : Int} {r : Nat} (hg : 0 ≤ g ∧ g ≤ 1023) (hr : r < 256) : (cMm g 1 r).Ok := by constructor <;> simp [cMm, zCl] <;> first | exact hr | omega
theorem pr_ok {g : Int} {r : Nat} (hg : 0 ≤ g ∧ g ≤ 1023) (hr : r < 256) : (cPr g 1 r).Ok := by constructor <;> simp [cPr, zCl] <;> first | exact hr | omega
theorem um_ok {g : Int} (hg : 0 ≤ g ∧ g ≤ 1023) : (cUm g 1).Ok := by constructor <;> simp [cUm, zCl] <;> omega
theorem st_ok {a : Int} {b : List Nat} (ha : 0 ≤ a ∧ a ≤ 300000) (hb : ∀ y ∈ b, y < 256) : (cSt a b).Ok := by constructor <;> simp [cSt, zCl] <;> first | exact hb | omega
theorem ld_ok {a s : Int} (ha : 0 ≤ a ∧ a ≤ 300000) (hs : 0 ≤ s ∧ s ≤ 1000) : (cLd a s).Ok := by constructor <;> simp [cLd, zCl] <;> omega
theorem mm_nw {c : Cf} (hc : mayB c = true) {g : Int} {r : Nat} (hg : 0 ≤ g ∧ g ≤ 1023) (hr : 1 ≤ r ∧ r ≤ 3) : wrongK c (cMm g 1 r) = false := by
  refine nw_of hc ?_ ?_ ?_ ?_ rfl rfl rfl rfl rfl
  · unfold mayK
    rw [show bareK (cMm g 1 r) = cMm g 1 r from rfl]
    simp [sameB, cMm, zCl, fld]
  · show (true && !(decide (1 ≤ (1 : Int) ∧ (1 : Int) ≤ 1024) && decide (0 ≤ g ∧ g ≤ 1024 - 1))) = false
    rw [decide_eq_true (show 0 ≤ g ∧ g ≤ 1024 - 1 by omega)]; rfl
  · show (true && !decide (0 ≤ g ∧ g ≤ 1023)) = false
    rw [decide_eq_true hg]; rfl
  · show (true && !decide (1 ≤ ((r : Nat) : Int) ∧ ((r : Nat) : Int) ≤ 3)) = false
    rw [decide_eq_true (show 1 ≤ ((r : Nat) : Int) ∧ ((r : Nat) : Int) ≤ 3 by omega)]; rfl
theorem pr_nw {c : Cf} (hc : mayB c = true) {g : Int} {r : Nat} (hg : 0 ≤ g ∧ g ≤ 1023) (hr : 1 ≤ r ∧ r ≤ 3) : wrongK c (cPr g 1 r) = false := by
  refine nw_of hc ?_ ?_ ?_ ?_ rfl rfl rfl rfl rfl
  · unfold mayK
    rw [show bareK (cPr g 1 r) = cPr g 1 r from rfl]
    simp [sameB, cPr, zCl, fld]
  · show (true && !(decide (1 ≤ (1 : Int) ∧ (1 : Int) ≤ 1024) && decide (0 ≤ g ∧ g ≤ 1024 - 1))) = false
    rw [decide_eq_true (show 0 ≤ g ∧ g ≤ 1024 - 1 by omega)]; rfl
  · show (true && !decide (0 ≤ g ∧ g ≤ 1023)) = false
    rw [decide_eq_true hg]; rfl
  · show (true && !decide (1 ≤ ((r : Nat) : Int) ∧ ((r : Nat) : Int) ≤ 3)) = false
    rw [decide_eq_true (show 1 ≤ ((r : Nat) : Int) ∧ ((r : Nat) : Int) ≤ 3 by omega)]; rfl
theorem um_nw {c : Cf} (hc : mayB c = true) {g : Int} (hg : 0 ≤ g ∧ g ≤ 1023) : wrongK c (cUm g 1) = false := by
  refine nw_of hc ?_ ?_ ?_ rfl rfl rfl rfl rfl rfl
  · unfold mayK
    rw [show bareK (cUm g 1) = cUm g 1 from rfl]
    simp [sameB, cUm, zCl, fld]
  · show (true && !(decide (1 ≤ (1 : Int) ∧ (1 : Int) ≤ 1024) && decide (0 ≤ g ∧ g ≤ 1024 - 1))) = false
    rw [decide_eq_true (show 0 ≤ g ∧ g ≤ 1024 - 1 by omega)]; rfl
  · show (true && !decide (0 ≤ g ∧ g ≤ 1023)) = false
    rw [decide_eq_true hg]; rfl
theorem st_nw {c : Cf} (hc : mayB c = true) {g : Int} {o : Nat} {b : List Nat} (hg : 0 ≤ g ∧ g ≤ 1023) (hb : 1 ≤ b.length ∧ b.length ≤ 8) (ho : o + b.length ≤ 256) : wrongK c (cSt (256 * g + o) b) = false := by
  refine nw_of hc ?_ rfl rfl rfl rfl rfl rfl ?_ rfl
  · unfold mayK
    rw [show bareK (cSt (256 * g + o) b) = cSt (256 * g + o) b from rfl]
    simp [sameB, cSt, zCl, fld, hb.2]
  · have e : sizeK (cSt (256 * g + o) b) = b.length := rfl
    have e2 : (cSt (256 * g + o) b).a = 256 * g + o := rfl
    unfold t7K accB
    rw [e, e2, Int.tmod_eq_emod_of_nonneg (by omega), decide_eq_true (show (1 ≤ (b.length : Int) ∧ (b.length : Int) ≤ 8) ∧ 0 ≤ 256 * g + (o : Int) ∧ 256 * g + (o : Int) ≤ 262144 - (b.length : Int) by omega), decide_eq_true (show (256 * g + (o : Int)) % 256 ≤ 256 - (b.length : Int) by omega)]
    simp
theorem ld_nw {c : Cf} (hc : mayB c = true) {g : Int} {o n : Nat} (hg : 0 ≤ g ∧ g ≤ 1023) (hb : 1 ≤ n ∧ n ≤ 8) (ho : o + n ≤ 256) : wrongK c (cLd (256 * g + o) n) = false := by
  refine nw_of hc ?_ rfl rfl rfl rfl rfl rfl ?_ rfl
  · unfold mayK
    rw [show bareK (cLd (256 * g + o) n) = cLd (256 * g + o) n from rfl]
    simp [sameB, cLd, zCl, fld]
  · have e : sizeK (cLd (256 * g + o) n) = n := rfl
    have e2 : (cLd (256 * g + o) n).a = 256 * g + o := rfl
    unfold t7K accB
    rw [e, e2, Int.tmod_eq_emod_of_nonneg (by omega), decide_eq_true (show (1 ≤ (n : Int) ∧ (n : Int) ≤ 8) ∧ 0 ≤ 256 * g + (o : Int) ∧ 256 * g + (o : Int) ≤ 262144 - (n : Int) by omega), decide_eq_true (show (256 * g + (o : Int)) % 256 ≤ 256 - (n : Int) by omega)]
    simp
theorem stepB_pl {M : Mo} {x : Cl} (r : Rs) (hw : wrongK M.c x = false) (hf : freeK x.k r.e = false) : stepB M x r = sameRs r (answerA M x r.v).1 := by
  rw [stepB_ok r hw, hf]; rfl
/-- process 1 has the runs rl; its page g holds b from o on -/
structure PgI (M : Mo) (g : Int) (rl : List Ar.Rn) (b : List Nat) (o : Nat) : Prop where
  c : mayB M.c = true
  pr : ∃ q B, M.pr 1 = some q ∧ q.rl = rl ∧ q.pg g = some B ∧ B.length = 256 ∧ (B.drop o).take b.length = b
section
variable {M : Mo} {g : Int} {rl : List Ar.Rn} {b : List Nat} {o : Nat}
theorem at_page {g : Int} {o : Nat} (ho : o < 256) : (256 * g + (o : Int)) / 256 = g ∧ ((256 * g + (o : Int)) % 256).toNat = o := by omega
theorem pi_load (h : PgI M g rl b o) (hg : 0 ≤ g ∧ g ≤ 1023) (hb : 1 ≤ b.length ∧ b.length ≤ 8) (ho : o + b.length ≤ 256) (h0 : Ar.rt rl g ≠ 0) :
    stepB M (cLd (256 * g + o) b.length) ⟨0, 0, b⟩ = decide (Ar.rt rl g % 2 ≠ 0) ∧ stepB M (cLd (256 * g + o) b.length) ⟨190, 0, []⟩ = decide (Ar.rt rl g % 2 = 0) ∧ ∀ r, (stepB M (cLd (256 * g + o) b.length) r = true → True) ∧ stepM M (cLd (256 * g + o) b.length) r = M := by
  obtain ⟨q, B, h1, rfl, h3, h4, h5⟩ := h.pr
  obtain ⟨e1, e2⟩ := at_page (g := g) (o := o) (by omega)
  have hw := ld_nw h.c hg hb ho
  have ha : ∀ v, answerA M (cLd (256 * g + o) b.length) v = if Ar.rt q.rl g % 2 = 0 then (plainR 190, none) else (⟨0, 0, b⟩, none) := fun v => by
    show (match M.pr 1 with | none => (plainR 7, none) | some p => procA M (cLd (256 * g + o) b.length) v p) = _
    rw [h1]
    show ((accessA q (cLd (256 * g + o) b.length)).1, (accessA q (cLd (256 * g + o) b.length)).2.map fun q => { M with pr := upd M.pr 1 (some q) }) = _
    unfold accessA
    show ((if Ar.rt q.rl ((256 * g + (o : Int)) / 256) = 0 then (plainR 7, none) else if (8 : Nat) = 8 then (if Ar.rt q.rl ((256 * g + (o : Int)) / 256) % 2 = 0 then (plainR 190, none) else (⟨0, 0, (((q.pg ((256 * g + (o : Int)) / 256)).getD zeroPg).drop ((256 * g + (o : Int)) % 256).toNat).take ((b.length : Int).toNat)⟩, none)) else _ : Rs × Option Pr)).map id (fun z => z.map fun q => { M with pr := upd M.pr 1 (some q) }) = _
    rw [e1, e2, if_neg h0, if_pos rfl, h3, Option.getD_some, Int.toNat_natCast, h5]
    by_cases hr : Ar.rt q.rl g % 2 = 0
    · rw [if_pos hr, if_pos hr]; rfl
    · rw [if_neg hr, if_neg hr]; rfl
  refine ⟨?_, ?_, fun r => ⟨fun _ => trivial, ?_⟩⟩
  · rw [stepB_pl _ hw rfl, ha]
    by_cases hr : Ar.rt q.rl g % 2 = 0 <;> simp [hr, sameRs, plainR]
  · rw [stepB_pl _ hw rfl, ha]
    by_cases hr : Ar.rt q.rl g % 2 = 0 <;> simp [hr, sameRs, plainR]
  · unfold stepM
    split
    · rfl
    · rw [ha]; split <;> rfl
theorem splice_len {b : List Nat} {a : Nat} {l : List Nat} (h : a + l.length ≤ b.length) : (splice b a l).length = b.length := by
  unfold splice; simp; omega
theorem splice_at {b : List Nat} {a : Nat} {l : List Nat} (h : a + l.length ≤ b.length) : ((splice b a l).drop a).take l.length = l := by
  unfold splice
  rw [List.append_assoc, List.drop_left' (by simp; omega), List.take_left' rfl]
theorem pi_store (h : PgI M g rl b o) (hg : 0 ≤ g ∧ g ≤ 1023) (hb : 1 ≤ b.length ∧ b.length ≤ 8) (ho : o + b.length ≤ 256) (h0 : Ar.rt rl g ≠ 0) :
    stepB M (cSt (256 * g + o) b) ⟨0, 0, []⟩ = decide (2 ≤ Ar.rt rl g) ∧ stepB M (cSt (256 * g + o) b) ⟨190, 0, []⟩ = decide (Ar.rt rl g < 2) := by
  obtain ⟨q, B, h1, rfl, h3, h4, h5⟩ := h.pr
  obtain ⟨e1, e2⟩ := at_page (g := g) (o := o) (by omega)
  have hw := st_nw h.c hg hb ho
  have ha : ∀ v, (answerA M (cSt (256 * g + o) b) v).1 = if Ar.rt q.rl g < 2 then plainR 190 else plainR 0 := fun v => by
    show (match M.pr 1 with | none => (plainR 7, none) | some p => procA M (cSt (256 * g + o) b) v p).1 = _
    rw [h1]
    show (accessA q (cSt (256 * g + o) b)).1 = _
    unfold accessA
    show ((if Ar.rt q.rl ((256 * g + (o : Int)) / 256) = 0 then (plainR 7, none) else if (9 : Nat) = 8 then _ else (if Ar.rt q.rl ((256 * g + (o : Int)) / 256) < 2 then (plainR 190, none) else (plainR 0, some _)) : Rs × Option Pr)).1 = _
    rw [e1, if_neg h0, if_neg (by decide)]
    by_cases hr : Ar.rt q.rl g < 2
    · rw [if_pos hr, if_pos hr]
    · rw [if_neg hr, if_neg hr]
  refine ⟨?_, ?_⟩
  · rw [stepB_pl _ hw rfl, ha]
    by_cases hr : Ar.rt q.rl g < 2
    · have : ¬ 2 ≤ Ar.rt q.rl g := by omega
      simp [hr, this, sameRs, plainR]
    · have : 2 ≤ Ar.rt q.rl g := by omega
      simp [hr, this, sameRs, plainR]
  · rw [stepB_pl _ hw rfl, ha]
    by_cases hr : Ar.rt q.rl g < 2 <;> simp [hr, sameRs, plainR]
theorem one_map {g : Int} (hg : 0 ≤ g ∧ g ≤ 1023) {r : Int} (hr : 1 ≤ r ∧ r ≤ 3) : Ar.mapE [] g 1 r = 0 ∧ Ar.mapR [] g 1 r = [⟨g, 1, r⟩] := by
  have h1 : Ar.mayB g 1 = true := by unfold Ar.mayB; exact decide_eq_true (by omega)
  have h2 : Ar.rgB r = true := by unfold Ar.rgB; exact decide_eq_true hr
  have h3 : Ar.withL [] g 1 r = [⟨g, 1, r⟩] := by
    unfold Ar.withL Ar.endL
    simp [Ar.putL]
    omega
  unfold Ar.mapE Ar.mapR
  rw [h3]
  simp [h1, h2, Ar.cntL, Ar.setE, Ar.setR]
theorem one_pr {g : Int} (hg : 0 ≤ g ∧ g ≤ 1023) {r s : Int} (hr : 1 ≤ r ∧ r ≤ 3) (hs : 1 ≤ s ∧ s ≤ 3) : Ar.prE [⟨g, 1, r⟩] g 1 s = 0 ∧ Ar.prR [⟨g, 1, r⟩] g 1 s = [⟨g, 1, s⟩] := by
  have h1 : Ar.mayB g 1 = true := by unfold Ar.mayB; exact decide_eq_true (by omega)
  have h2 : Ar.rgB s = true := by unfold Ar.rgB; exact decide_eq_true hs
  have h3 : Ar.withL [⟨g, 1, r⟩] g 1 s = [⟨g, 1, s⟩] := by
    have a1 : min (g + 1) g - g = 0 := by omega
    have a2 : max g (g + 1) = g + 1 := by omega
    have a3 : g < g + 1 := by omega
    unfold Ar.withL Ar.endL
    show (if (Ar.stepL g 1 s ([], false) ⟨g, 1, r⟩).2 = true then (Ar.stepL g 1 s ([], false) ⟨g, 1, r⟩).1 else _) = _
    have a4 : Ar.stepL g 1 s ([], false) ⟨g, 1, r⟩ = ([⟨g, 1, s⟩], true) := by
      unfold Ar.stepL
      show (Ar.putL (if g < g + 1 then (if false = true then Ar.putL [] ⟨g, min (g + 1) g - g, r⟩ else Ar.putL (Ar.putL [] ⟨g, min (g + 1) g - g, r⟩) ⟨g, 1, s⟩, true) else (Ar.putL [] ⟨g, min (g + 1) g - g, r⟩, false)).1 ⟨max g (g + 1), g + 1 - max g (g + 1), r⟩, (if g < g + 1 then (if false = true then Ar.putL [] ⟨g, min (g + 1) g - g, r⟩ else Ar.putL (Ar.putL [] ⟨g, min (g + 1) g - g, r⟩) ⟨g, 1, s⟩, true) else (Ar.putL [] ⟨g, min (g + 1) g - g, r⟩, false)).2) = _
      rw [a1, a2, if_pos a3, if_neg (by decide), show g + 1 - (g + 1) = 0 by omega]
      have b1 : Ar.putL [] ⟨g, 0, r⟩ = [] := by simp [Ar.putL]
      rw [b1]
      have b2 : Ar.putL [] ⟨g, 1, s⟩ = [⟨g, 1, s⟩] := by simp [Ar.putL]; omega
      rw [b2]
      have b3 : Ar.putL [⟨g, 1, s⟩] ⟨g + 1, 0, r⟩ = [⟨g, 1, s⟩] := by simp [Ar.putL]
      rw [b3]
    rw [a4]
    rfl
  have h4 : Ar.mdE [⟨g, 1, r⟩] g 1 = 0 := by
    unfold Ar.mdE
    rw [h1]
    simp [Ar.cntL, Ar.ovl, Ar.Rn.e]
    omega
  unfold Ar.prE Ar.prR
  rw [h3, h4]
  simp [h2, Ar.setE, Ar.setR]
theorem pi_map {c : Cf} (hc : mayB c = true) (hg : 0 ≤ g ∧ g ≤ 1023) : stepB (newMo c) cSp ⟨0, 1, []⟩ = true ∧
    (stepB (stepM (newMo c) cSp ⟨0, 1, []⟩) (cMm g 1 3) ⟨0, 0, []⟩ = true ∧ (stepM (stepM (newMo c) cSp ⟨0, 1, []⟩) (cMm g 1 3) ⟨0, 0, []⟩).c = c ∧
    ∃ q, (stepM (stepM (newMo c) cSp ⟨0, 1, []⟩) (cMm g 1 3) ⟨0, 0, []⟩).pr 1 = some q ∧ q.rl = [⟨g, 1, 3⟩] ∧ ∀ y, q.pg y = none) := by
  have hw := mm_nw hc hg (r := 3) (by omega)
  obtain ⟨e1, e2⟩ := one_map hg (r := 3) (by omega)
  have ha : answerA (newMo c) cSp 1 = (⟨0, 1, []⟩, some { (newMo c) with pr := upd (newMo c).pr 1 (some newPr) }) := rfl
  have hs : stepM (newMo c) cSp ⟨0, 1, []⟩ = { (newMo c) with pr := upd (newMo c).pr 1 (some newPr) } := by
    rw [stepM_ok (sp_nw hc) rfl (by rw [ha]; rfl) rfl, ha]; rfl
  refine ⟨by rw [stepB_ok _ (sp_nw hc), ha]; rfl, ?_⟩
  rw [hs]
  have hb : answerA { (newMo c) with pr := upd (newMo c).pr 1 (some newPr) } (cMm g 1 3) 0 = (plainR 0, some { (newMo c) with pr := upd (upd (newMo c).pr 1 (some newPr)) 1 (some { newPr with rl := [⟨g, 1, 3⟩] }) }) := by
    show (plainR (Ar.mapE [] g 1 3), some { (newMo c) with pr := upd (upd (newMo c).pr 1 (some newPr)) 1 (some { newPr with rl := Ar.mapR [] g 1 3 }) }) = _
    rw [e1, e2]
  refine ⟨by rw [stepB_ok _ hw, hb]; rfl, ?_⟩
  rw [stepM_ok hw rfl (by rw [hb]; rfl) rfl, hb]
  exact ⟨rfl, _, rfl, rfl, fun _ => rfl⟩
theorem pi_first {c : Cf} (hM : M.c = c) (hc : mayB c = true) {q : Pr} (hq : M.pr 1 = some q) (hr : q.rl = [⟨g, 1, 3⟩]) (hp : ∀ y, q.pg y = none) (hg : 0 ≤ g ∧ g ≤ 1023) (hb : 1 ≤ b.length ∧ b.length ≤ 8) (ho : o + b.length ≤ 256) :
    stepB M (cSt (256 * g + o) b) ⟨0, 0, []⟩ = true ∧ PgI (stepM M (cSt (256 * g + o) b) ⟨0, 0, []⟩) g [⟨g, 1, 3⟩] b o := by
  obtain ⟨e1, e2⟩ := at_page (g := g) (o := o) (by omega)
  have hw := st_nw (c := M.c) (by rw [hM]; exact hc) hg hb ho
  have hrt : Ar.rt q.rl g = 3 := by rw [hr]; simp [Ar.rt, Ar.Rn.e]; omega
  have ha : ∀ v, answerA M (cSt (256 * g + o) b) v = (plainR 0, some { M with pr := upd M.pr 1 (some { q with pg := upd q.pg g (some (splice zeroPg o b)) }) }) := fun v => by
    show (match M.pr 1 with | none => (plainR 7, none) | some p => procA M (cSt (256 * g + o) b) v p) = _
    rw [hq]
    show ((accessA q (cSt (256 * g + o) b)).1, (accessA q (cSt (256 * g + o) b)).2.map fun q => { M with pr := upd M.pr 1 (some q) }) = _
    have hac : accessA q (cSt (256 * g + o) b) = (plainR 0, some { q with pg := upd q.pg g (some (splice zeroPg o b)) }) := by
      unfold accessA
      show (if Ar.rt q.rl ((256 * g + (o : Int)) / 256) = 0 then (plainR 7, none) else if (9 : Nat) = 8 then _ else (if Ar.rt q.rl ((256 * g + (o : Int)) / 256) < 2 then (plainR 190, none) else (plainR 0, some { q with pg := upd q.pg ((256 * g + (o : Int)) / 256) (some (splice ((q.pg ((256 * g + (o : Int)) / 256)).getD zeroPg) ((256 * g + (o : Int)) % 256).toNat b)) })) : Rs × Option Pr) = _
      rw [e1, e2, hrt, if_neg (by decide), if_neg (by decide), if_neg (by decide), hp g]
      rfl
    rw [hac]
    rfl
  refine ⟨by rw [stepB_pl _ hw rfl, ha]; rfl, ?_⟩
  rw [stepM_ok hw rfl (by rw [ha]; rfl) rfl, ha]
  refine ⟨by show mayB M.c = true; rw [hM]; exact hc, _, splice zeroPg o b, rfl, hr, upd_at _ _ _, ?_, splice_at ?_⟩
  · rw [splice_len (by rw [zeroPg_len]; omega), zeroPg_len]
  · rw [zeroPg_len]; omega
theorem pi_prot {r : Int} {s : Nat} (h : PgI M g [⟨g, 1, r⟩] b o) (hg : 0 ≤ g ∧ g ≤ 1023) (hr : 1 ≤ r ∧ r ≤ 3) (hs : 1 ≤ s ∧ s ≤ 3) :
    stepB M (cPr g 1 s) ⟨0, 0, []⟩ = true ∧ PgI (stepM M (cPr g 1 s) ⟨0, 0, []⟩) g [⟨g, 1, s⟩] b o := by
  obtain ⟨q, B, h1, h2, h3, h4, h5⟩ := h.pr
  have hw := pr_nw h.c hg hs
  obtain ⟨e1, e2⟩ := one_pr hg hr (s := (s : Int)) (by omega)
  have ha : ∀ v, answerA M (cPr g 1 s) v = (plainR 0, some { M with pr := upd M.pr 1 (some { q with rl := [⟨g, 1, s⟩] }) }) := fun v => by
    show (match M.pr 1 with | none => (plainR 7, none) | some p => procA M (cPr g 1 s) v p) = _
    rw [h1]
    show (plainR (Ar.prE q.rl g 1 s), some { M with pr := upd M.pr 1 (some { q with rl := Ar.prR q.rl g 1 s }) }) = _
    rw [h2, e1, e2]
  refine ⟨by rw [stepB_pl _ hw rfl, ha]; rfl, ?_⟩
  rw [stepM_ok hw rfl (by rw [ha]; rfl) rfl, ha]
  exact ⟨h.c, _, B, rfl, rfl, h3, h4, h5⟩
end
end Go.Proofs.YtfoleblcaloeoaaDoor
