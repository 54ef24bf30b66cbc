/- Texts merged for the claim: MsC, MtA, MuA, MuB, MrA, TwL, MuC, CfO. -/
import Derived.Test.YtfoleblcaloeoaaDoorZar
import Derived.Test.YtfoleblcaloeoaaDoorZab
import Derived.Deep.CutRange
import Derived.Deep.CutBlock
import Derived.Carry
import Derived.ProofKit
import Derived.OpenShut
/- Copy (printed by genmsc.py). -/
namespace Go.Proofs.YtfoleblcaloeoaaDoor
open Go Go.RowKit

theorem wpG_buildMo {S : World → Prop} {Q : Exit → Act → World → Prop} {o : Oper} {rest : List Oper} {ks : List Nat} {gs : List (Option (Nat × Bool))} {a : Act} {w : World} {c : Cf} {bp bo be : Nat} (parts : Array (Nat × Operand)) (ho : o.op = .build 63 parts)
    {l : List (Nat × Value)} (hb : BM l c bp bo be) (hl : (parts.map fun (i, x) => (i, a.eval x)).toList = l) (h : wpG Tryd.prog S Q rest ks gs (a.put o.dst (.agg (mgc c bp bo be))) w) : wpG Tryd.prog S Q (o :: rest) (0 :: ks) (none :: gs) a w :=
  wpG_pure (fun K hK => ⟨_, fun w' => by
    unfold execOp
    simp only [ho, Sem.run_bind, run_build w' 63 _ (mgc c bp bo be) (by rw [hl]; exact hb.h), Sem.run_pure, Result.andThen_ok], hK _ _ h⟩)
theorem wp_boxMo {o : Oper} {a : Act} {w : World} {K : Act → World → Prop} {Q : Exit → Act → World → Prop} {cs : Array Value} (z : Operand) (ho : o.op = .box 63 z) (hx : a.eval z = .agg cs)
    (h : K (a.put o.dst (.pointer (some ⟨w.heap.size, 0, none⟩))) (w.alloc (.cells cs 63))) : o.wp Tryd.prog a w K Q := by
  unfold Oper.wp execOp
  simp only [ho, hx, Sem.run_bind, Instr.box, newVar, newRow, run_newObj_alloc, Sem.run_pure, Result.andThen_ok, Value.cells]
  exact h
/-- the copy is begun -/
structure Mc0 (w W : World) (m bp bo be : Nat) (M : Mo) (fe : Int → Option Value) : Prop where
  chg : Chg [] w W
  blk : Blk W m 63 (mgc M.c bp bo be)
  mp : MapB W bp .i64 fun _ => none
  mo : MapB W bo .u64 fun _ => none
  me : MapB W be .u64 fe
  g : w.heap.size ≤ m ∧ w.heap.size ≤ bp ∧ w.heap.size ≤ bo ∧ w.heap.size ≤ be
  ne : bp ≠ bo ∧ bp ≠ be ∧ bo ≠ be
/-- the processes and the objects that are no longer to come are copied -/
structure Mc (w W : World) (m bp bo be r : Nat) (M : Mo) (fe : Int → Option Value) (lp lo : Int → Bool) (gq : Int → Nat) (GQ : Int → Nat → Prop) (ov : Int → Value) : Prop where
  chg : Chg [] w W
  blk : Blk W m 63 (mgc M.c bp bo be)
  mp : MapB W bp .i64 fun z => if lp z then none else (M.pr z).map fun _ => .pointer (some ⟨gq z, 0, none⟩)
  mo : MapB W bo .u64 fun z => if lo z then none else (M.ob z).map fun _ => ov z
  me : MapB W be .u64 fe
  pr : ∀ z p, lp z = false → M.pr z = some p → PMem W (gq z) p (GQ z)
  pg : ∀ z p, lp z = false → M.pr z = some p → ∀ k, GQ z k → w.heap.size ≤ k ∧ k ≠ m ∧ k ≠ bp ∧ k ≠ bo ∧ k ≠ be ∧ k ≠ r
  pa : ∀ z z' p p', lp z = false → lp z' = false → M.pr z = some p → M.pr z' = some p' → z ≠ z' → ∀ k, GQ z k → ¬ GQ z' k
  ob : ∀ z B, lo z = false → M.ob z = some B → SB W (ov z) B
  og : ∀ z B, lo z = false → M.ob z = some B → ∀ k ∈ own (ov z), w.heap.size ≤ k ∧ k ≠ m ∧ k ≠ bp ∧ k ≠ bo ∧ k ≠ be ∧ k ≠ r ∧ ∀ z' p, lp z' = false → M.pr z' = some p → ¬ GQ z' k
  oa : ∀ z z' B B', lo z = false → lo z' = false → M.ob z = some B → M.ob z' = some B' → z ≠ z' → ∀ k ∈ own (ov z), k ∉ own (ov z')
  g : w.heap.size ≤ m ∧ w.heap.size ≤ bp ∧ w.heap.size ≤ bo ∧ w.heap.size ≤ be
  ne : bp ≠ bo ∧ bp ≠ be ∧ bo ≠ be
  nr : r ≠ m ∧ r ≠ bp ∧ r ≠ bo ∧ r ≠ be
  lr : w.heap.size ≤ r ∧ r < W.heap.size
theorem PMem.lt {w : World} {b : Nat} {p : Pr} {F : Nat → Prop} (h : PMem w b p F) : ∀ k, F k → k < w.heap.size := by
  obtain ⟨d, FA, bp, bo, fp, fo, gp, h1, h2, h3⟩ := h
  exact h3
theorem PMem.chg {w W : World} {b : Nat} {p : Pr} {F : Nat → Prop} {G : List Nat} (h : PMem w b p F) (hc : Chg G w W) (hg : ∀ k ∈ G, ¬ F k) : PMem W b p F :=
  h.cp (G := fun k => k ∈ G) (CP.of hc (fun k hk => .inl hk)) (fun k hk h2 => hg k h2 hk)
theorem Mc0.begin {w W W1 : World} {m bp bo be : Nat} {M : Mo} {fe : Int → Option Value} (h : Mc0 w W m bp bo be M fe) (hc : Chg [] W W1) (hs : W1.heap.size = W.heap.size + 1) {lp lo : Int → Bool} (hl : ∀ z, lp z = (M.pr z).isSome) (hlo : ∀ z, lo z = (M.ob z).isSome) :
    Mc w W1 m bp bo be W.heap.size M fe lp lo (fun _ => 0) (fun _ _ => False) (fun _ => .slice none 0 0) := by
  have l1 := h.blk.lt
  have l2 := h.mp.lt
  have l3 := h.mo.lt
  have l4 := h.me.lt
  have l5 := h.chg.size
  have vp : ∀ z p, lp z = false → M.pr z = some p → False := fun z p h1 h2 => by rw [hl z, h2] at h1; cases h1
  have vo : ∀ z B, lo z = false → M.ob z = some B → False := fun z B h1 h2 => by rw [hlo z, h2] at h1; cases h1
  have e1 : (fun z => if lp z then none else (M.pr z).map fun _ => Value.pointer (some ⟨0, 0, none⟩)) = fun _ => none := by
    funext z
    rw [hl z]
    cases M.pr z <;> rfl
  have e2 : (fun z => if lo z then none else (M.ob z).map fun _ => Value.slice none 0 0) = fun _ => none := by
    funext z
    rw [hlo z]
    cases M.ob z <;> rfl
  refine ⟨h.chg.stay hc, h.blk.chg hc List.not_mem_nil, by rw [e1]; exact h.mp.stay hc, by rw [e2]; exact h.mo.stay hc, h.me.stay hc, fun z p h1 h2 => (vp z p h1 h2).elim, fun z p h1 h2 => (vp z p h1 h2).elim, fun z z' p p' h1 h2 h3 => (vp z p h1 h3).elim, fun z B h1 h2 => (vo z B h1 h2).elim, fun z B h1 h2 => (vo z B h1 h2).elim, fun z z' p p' h1 h2 h3 => (vo z p h1 h3).elim, h.g, h.ne, by omega, by omega⟩
theorem Mc.next {w W W1 : World} {m bp bo be r : Nat} {M : Mo} {fe : Int → Option Value} {lp lo : Int → Bool} {gq : Int → Nat} {GQ : Int → Nat → Prop} {ov : Int → Value} (h : Mc w W m bp bo be r M fe lp lo gq GQ ov) (hc : Chg [r] W W1) : Mc w W1 m bp bo be r M fe lp lo gq GQ ov := by
  have hs := hc.size
  have hnr := h.nr
  have hlr := h.lr
  have hsg : ∀ x, x ≠ r → x ∉ [r] := fun x hx hm => hx (List.mem_singleton.1 hm)
  exact { h with chg := h.chg.trans hc (fun x hx => .inr (by obtain rfl := List.mem_singleton.1 hx; exact hlr.1)), blk := h.blk.chg hc (hsg _ (by omega)), mp := h.mp.chg hc (hsg _ (by omega)), mo := h.mo.chg hc (hsg _ (by omega)), me := h.me.chg hc (hsg _ (by omega)), pr := fun z p h1 h2 => (h.pr z p h1 h2).chg hc (fun k hk hg => by obtain rfl := List.mem_singleton.1 hk; exact (h.pg z p h1 h2 _ hg).2.2.2.2.2 rfl), ob := fun z B h1 h2 => (h.ob z B h1 h2).chg hc (fun k hk => hsg _ (h.og z B h1 h2 k hk).2.2.2.2.2.1), lr := by omega }
theorem Mc.stay {w W W1 : World} {m bp bo be r : Nat} {M : Mo} {fe : Int → Option Value} {lp lo : Int → Bool} {gq : Int → Nat} {GQ : Int → Nat → Prop} {ov : Int → Value} (h : Mc w W m bp bo be r M fe lp lo gq GQ ov) (hc : Chg [] W W1) : Mc w W1 m bp bo be r M fe lp lo gq GQ ov := h.next (hc.up [r])
theorem Mc.again {w W W1 : World} {m bp bo be r : Nat} {M : Mo} {fe : Int → Option Value} {lp lo : Int → Bool} {gq : Int → Nat} {GQ : Int → Nat → Prop} {ov : Int → Value} (h : Mc w W m bp bo be r M fe lp lo gq GQ ov) (hc : Chg [] W W1) (hs : W1.heap.size = W.heap.size + 1) : Mc w W1 m bp bo be W.heap.size M fe lp lo gq GQ ov := by
  have l1 := h.blk.lt
  have l2 := h.mp.lt
  have l3 := h.mo.lt
  have l4 := h.me.lt
  have l5 := h.chg.size
  have h' := h.stay hc
  refine { h' with pg := fun z p h1 h2 k hk => ?_, og := fun z B h1 h2 k hk => ?_, nr := by omega, lr := by omega }
  · have := (h.pr z p h1 h2).lt k hk
    obtain ⟨k1, k2, k3, k4, k5, k6⟩ := h.pg z p h1 h2 k hk
    exact ⟨k1, k2, k3, k4, k5, by omega⟩
  · have := (h.ob z B h1 h2).own_lt k hk
    obtain ⟨k1, k2, k3, k4, k5, k6, k7⟩ := h.og z B h1 h2 k hk
    exact ⟨k1, k2, k3, k4, k5, by omega, k7⟩
theorem rest_old {left : Int → Bool} {y z : Int} (h1 : (left y && !(y == z)) = false) (h2 : y ≠ z) : left y = false := by
  cases hl : left y with
  | false => rfl
  | true => rw [hl, beq_false_of_ne h2] at h1; cases h1
theorem Mc.stepP {w W W1 : World} {m bp bo be r g : Nat} {M : Mo} {fe : Int → Option Value} {lp lo : Int → Bool} {gq : Int → Nat} {GQ : Int → Nat → Prop} {ov : Int → Value} (h : Mc w W m bp bo be r M fe lp lo gq GQ ov) {z : Int} {p : Pr} {F : Nat → Prop} (hp : M.pr z = some p)
    (hc : Chg [bp] W W1) (hP : PMem W1 g p F) (hF : ∀ k, F k → W.heap.size ≤ k) (hm : MapB W1 bp .i64 fun y => if y = z then some (.pointer (some ⟨g, 0, none⟩)) else if lp y then none else (M.pr y).map fun _ => .pointer (some ⟨gq y, 0, none⟩)) :
    Mc w W1 m bp bo be r M fe (fun y => lp y && !(y == z)) lo (upd gq z g) (upd GQ z F) ov := by
  have l1 := h.blk.lt
  have l2 := h.mp.lt
  have l3 := h.mo.lt
  have l4 := h.me.lt
  have l5 := h.chg.size
  have hnr := h.nr
  have hlr := h.lr
  have hne := h.ne
  have hg := h.g
  have hs := hc.size
  have hbm := Blk.ne_map h.blk h.mp
  have hsg : ∀ x, x ≠ bp → x ∉ [bp] := fun x hx hm => hx (List.mem_singleton.1 hm)
  refine { h with chg := h.chg.trans hc (fun x hx => .inr (by obtain rfl := List.mem_singleton.1 hx; exact hg.2.1)), blk := h.blk.chg hc (hsg _ hbm), mp := ?_, mo := h.mo.chg hc (hsg _ (by omega)), me := h.me.chg hc (hsg _ (by omega)), pr := fun y q h1 h2 => ?_, pg := fun y q h1 h2 k hk => ?_, pa := fun y y' q q' h1 h2 h3 h4 h5 k hk hk' => ?_, ob := fun y B h1 h2 => (h.ob y B h1 h2).chg hc (fun k hk => hsg _ (h.og y B h1 h2 k hk).2.2.1), og := fun y B h1 h2 k hk => ?_, lr := by omega }
  · have e : (fun y => if y = z then some (Value.pointer (some ⟨g, 0, none⟩)) else if lp y then none else (M.pr y).map fun _ => .pointer (some ⟨gq y, 0, none⟩)) = fun y => if (lp y && !(y == z)) = true then none else (M.pr y).map fun _ => .pointer (some ⟨upd gq z g y, 0, none⟩) := by
      funext y
      by_cases h1 : y = z
      · subst h1
        simp [upd, hp]
      · simp [upd, h1]
    rw [← e]
    exact hm
  · by_cases e : y = z
    · subst e
      obtain rfl := Option.some.inj (hp.symm.trans h2)
      rw [upd_at, upd_at]
      exact hP
    · rw [upd_ne _ _ e, upd_ne _ _ e]
      exact (h.pr y q (rest_old h1 e) h2).chg hc (fun k hk hg2 => by obtain rfl := List.mem_singleton.1 hk; exact (h.pg y q (rest_old h1 e) h2 _ hg2).2.2.1 rfl)
  · by_cases e : y = z
    · subst e
      rw [upd_at] at hk
      have := hF k hk
      omega
    · rw [upd_ne _ _ e] at hk
      exact h.pg y q (rest_old h1 e) h2 k hk
  · by_cases e : y = z
    · have e' : y' ≠ z := fun e' => h5 (e.trans e'.symm)
      rw [e, upd_at] at hk
      rw [upd_ne _ _ e'] at hk'
      have := hF k hk
      have := (h.pr y' q' (rest_old h2 e') h4).lt k hk'
      omega
    · rw [upd_ne _ _ e] at hk
      by_cases e' : y' = z
      · rw [e', upd_at] at hk'
        have := hF k hk'
        have := (h.pr y q (rest_old h1 e) h3).lt k hk
        omega
      · rw [upd_ne _ _ e'] at hk'
        exact h.pa y y' q q' (rest_old h1 e) (rest_old h2 e') h3 h4 h5 k hk hk'
  · obtain ⟨k1, k2, k3, k4, k5, k6, k7⟩ := h.og y B h1 h2 k hk
    refine ⟨k1, k2, k3, k4, k5, k6, fun z' q h3 h4 hgq => ?_⟩
    by_cases e : z' = z
    · rw [e, upd_at] at hgq
      have := hF k hgq
      have := (h.ob y B h1 h2).own_lt k hk
      omega
    · rw [upd_ne _ _ e] at hgq
      exact k7 z' q (rest_old h3 e) h4 hgq
theorem Mc.stepO {w W W1 : World} {m bp bo be r : Nat} {M : Mo} {fe : Int → Option Value} {lp lo : Int → Bool} {gq : Int → Nat} {GQ : Int → Nat → Prop} {ov : Int → Value} (h : Mc w W m bp bo be r M fe lp lo gq GQ ov) {z : Int} {B : List Nat} {v : Value} (hB : M.ob z = some B)
    (hc : Chg [bo] W W1) (hS : SB W1 v B) (hF : ∀ k ∈ own v, W.heap.size ≤ k) (hm : MapB W1 bo .u64 fun y => if y = z then some v else if lo y then none else (M.ob y).map fun _ => ov y) :
    Mc w W1 m bp bo be r M fe lp (fun y => lo y && !(y == z)) gq GQ (upd ov z v) := by
  have l1 := h.blk.lt
  have l2 := h.mp.lt
  have l3 := h.mo.lt
  have l4 := h.me.lt
  have l5 := h.chg.size
  have hnr := h.nr
  have hlr := h.lr
  have hne := h.ne
  have hg := h.g
  have hs := hc.size
  have hbm := Blk.ne_map h.blk h.mo
  have hsg : ∀ x, x ≠ bo → x ∉ [bo] := fun x hx hm => hx (List.mem_singleton.1 hm)
  refine { h with chg := h.chg.trans hc (fun x hx => .inr (by obtain rfl := List.mem_singleton.1 hx; exact hg.2.2.1)), blk := h.blk.chg hc (hsg _ hbm), mo := ?_, mp := h.mp.chg hc (hsg _ (by omega)), me := h.me.chg hc (hsg _ (by omega)), pr := fun y q h1 h2 => (h.pr y q h1 h2).chg hc (fun k hk hg2 => by obtain rfl := List.mem_singleton.1 hk; exact (h.pg y q h1 h2 _ hg2).2.2.2.1 rfl), ob := fun y C h1 h2 => ?_, og := fun y C h1 h2 k hk => ?_, oa := fun y y' q q' h1 h2 h3 h4 h5 k hk hk' => ?_, lr := by omega }
  · have e : (fun y => if y = z then some v else if lo y then none else (M.ob y).map fun _ => ov y) = fun y => if (lo y && !(y == z)) = true then none else (M.ob y).map fun _ => upd ov z v y := by
      funext y
      by_cases h1 : y = z
      · subst h1
        simp [upd, hB]
      · simp [upd, h1]
    rw [← e]
    exact hm
  · by_cases e : y = z
    · subst e
      obtain rfl := Option.some.inj (hB.symm.trans h2)
      rw [upd_at]
      exact hS
    · rw [upd_ne _ _ e]
      exact (h.ob y C (rest_old h1 e) h2).chg hc (fun k hk => hsg _ (h.og y C (rest_old h1 e) h2 k hk).2.2.2.1)
  · by_cases e : y = z
    · subst e
      rw [upd_at] at hk
      have := hF k hk
      refine ⟨by omega, by omega, by omega, by omega, by omega, by omega, fun z' q h3 h4 hgq => ?_⟩
      have := (h.pr z' q h3 h4).lt k hgq
      omega
    · rw [upd_ne _ _ e] at hk
      exact h.og y C (rest_old h1 e) h2 k hk
  · by_cases e : y = z
    · have e' : y' ≠ z := fun e' => h5 (e.trans e'.symm)
      rw [e, upd_at] at hk
      rw [upd_ne _ _ e'] at hk'
      have := hF k hk
      have := (h.ob y' q' (rest_old h2 e') h4).own_lt k hk'
      omega
    · rw [upd_ne _ _ e] at hk
      by_cases e' : y' = z
      · rw [e', upd_at] at hk'
        have := hF k hk'
        have := (h.ob y q (rest_old h1 e) h3).own_lt k hk
        omega
      · rw [upd_ne _ _ e'] at hk'
        exact h.oa y y' q q' (rest_old h1 e) (rest_old h2 e') h3 h4 h5 k hk hk'
theorem Mc.end_ {w W w0 : World} {m bp bo be r m0 bp0 bo0 be0 : Nat} {M : Mo} {fp0 fo0 fe : Int → Option Value} {gb0 : Int → Nat} {GF0 : Int → Nat → Prop} {ov0 : Int → Value} {lp lo : Int → Bool} {gq : Int → Nat} {GQ : Int → Nat → Prop} {ov : Int → Value} (h : Mc w W m bp bo be r M fe lp lo gq GQ ov) (hI : MIn w0 m0 M bp0 bo0 be0 fp0 fo0 fe gb0 GF0 ov0) (hp : ∀ z, lp z = false) (ho : ∀ z, lo z = false) :
    ∃ O, MMem W m M O ∧ ∀ k, O k → w.heap.size ≤ k := by
  have hmp : MapB W bp .i64 fun z => (M.pr z).map fun _ => .pointer (some ⟨gq z, 0, none⟩) := by
    have := h.mp
    simpa only [hp, Bool.false_eq_true, if_false] using this
  have hmo : MapB W bo .u64 fun z => (M.ob z).map fun _ => ov z := by
    have := h.mo
    simpa only [ho, Bool.false_eq_true, if_false] using this
  have hg := h.g
  refine ⟨FMo M m bp bo be GQ ov, ⟨bp, bo, be, _, _, fe, gq, GQ, ov, ⟨h.blk, hmp, hmo, h.me, fun _ => rfl, fun n p hn => h.pr n p (hp n) hn, fun n n' p p' h1 h2 h3 => h.pa n n' p p' (hp n) (hp n') h1 h2 h3, hI.rng, fun _ => rfl, fun z B hB => ⟨h.ob z B (ho z) hB, (hI.ob z B hB).2⟩, fun z z' B B' h1 h2 h3 => h.oa z z' B B' (ho z) (ho z') h1 h2 h3, hI.he, h.ne.1, h.ne.2.1, h.ne.2.2, fun n p hn k hk => ?_⟩, fun k hk => hk, ?_⟩, ?_⟩
  · obtain ⟨k1, k2, k3, k4, k5, k6⟩ := h.pg n p (hp n) hn k hk
    exact ⟨k2, k3, k4, k5, fun z B hB hk2 => (h.og z B (ho z) hB k hk2).2.2.2.2.2.2 n p (hp n) hn hk⟩
  · rintro k (rfl | rfl | rfl | rfl | ⟨n, p, hn, hk⟩ | ⟨z, B, hB, hk⟩)
    · exact h.blk.lt
    · exact h.mp.lt
    · exact h.mo.lt
    · exact h.me.lt
    · exact (h.pr n p (hp n) hn).lt k hk
    · exact (h.ob z B (ho z) hB).own_lt k hk
  · rintro k (rfl | rfl | rfl | rfl | ⟨n, p, hn, hk⟩ | ⟨z, B, hB, hk⟩)
    · exact hg.1
    · exact hg.2.1
    · exact hg.2.2.1
    · exact hg.2.2.2
    · exact (h.pg n p (hp n) hn k hk).1
    · exact (h.og z B (ho z) hB k hk).1
set_option maxRecDepth 20000 in
set_option maxHeartbeats 40000000 in
theorem Copy_any {w : World} {m0 : Nat} {M : Mo} {O : Nat → Prop} (h : MMem w m0 M O) :
    Calls Tryd.prog 13 #[.pointer (some ⟨m0, 0, none⟩)] w fun e W' => (∃ m O', e = .returned (.pointer (some ⟨m, 0, none⟩)) ∧ MMem W' m M O' ∧ ∀ k, O' k → w.heap.size ≤ k) ∧ Chg [] w W' := by
  obtain ⟨bp0, bo0, be0, fp, fo, fe, gb, GF, ov0, hI, -, -⟩ := h
  have HI := hide (fun W (hc : Chg [] w W) => hI.cp (CP.of0 (F := fun _ => False) hc) (fun _ _ h => h))
  have l0 := hI.blk.lt
  have HN := hide (none_any hI.blk)
  have hmk : ∀ (t : TypeId) (W : World), (Instr.makeMap t none).run Tryd.prog W = .ok (.map (some W.heap.size)) (W.alloc (.map #[] 0)) := fun t W => run_makeMap t W
  clear hI
  go_enter Tryd.func13, Tryd.ntmps13
  go_wp2_with fail
  refine HN.out.mono ?_
  rintro e W9 ⟨rfl, rfl⟩
  go_upto_region 3 with (fail)
  go_cut [3] from 10 to 22 (fun z3 W => ∃ m bp bo be, z3 = .pointer (some ⟨m, 0, none⟩) ∧ Hid (Mc0 w W m bp bo be M fe))
  case first =>
    refine wp_region_h [0,0,0,5,6,6,0,0,0,5,6,0,6,0] [none, none, none, none, none, none, none, none, none, none, none, none, none, none] [[0,1,2,3,4,5,6,7,8,9,10,11,12,13], [0,1,2,3,4,6,7,8,9,10,5,11,12,13], [0,1,2,3,5,4,6,7,8,9,10,11,12,13], [0,1,2,3,5,6,7,8,9,10,4,11,12,13], [0,1,2,3,6,7,8,9,10,4,5,11,12,13], [0,1,2,3,6,7,8,9,10,5,4,11,12,13]] (fun W => Chg [] w W) (by kernel_rfl) (by kernel_rfl) (by kernel_rfl) (by kernel_rfl) (fun L9 hL9 => ?_)
    have hS : Chg [] w w.drew := (Chg.refl [] w).drew
    generalize w.drew = W0 at hS ⊢
    simp only [List.mem_cons, List.mem_nil_iff, or_false] at hL9
    rcases hL9 with rfl | rfl | rfl | rfl | rfl | rfl
    · have z0 := hS.size
      simp only [picks, List.filterMap_cons, List.filterMap_nil, List.getElem?_cons_succ, List.getElem?_cons_zero]
      go_wp2_with (first | (refine wpG_hload 26 _ rfl rfl (fun w' hw' => mo_load26 (HI.out w' hw').blk) hS ?_) | (refine wpG_hload 61 _ rfl rfl (fun w' hw' => load_map Tryd.underlying61 (mo_cells (HI.out w' hw').blk).2.2.1) hS ?_) | (refine wpG_calc rfl (fun K hK => ?_)) | (refine wpG_skip ?_ ?_; (focus (simp [wantG]; done)); go_simp) | (refine wpG_take ?_ ?_; (focus (simp [wantG]; done))) | (refine wpG_pure (fun K hK => ?_); go_simp; refine hK _ _ ?_; clear hK K) | (refine wpG_deed (by decide) (fun K hK => ?_); go_simp) | (refine wpG_nil ?_))
      (refine wpG_keeps hS (fun K hK => ?_))
      go_simp
      obtain ⟨W1, hW1⟩ : ∃ W, W = W0.alloc (.map #[] 0) := ⟨_, rfl⟩
      have hc1 : Chg [] W0 W1 := by rw [hW1]; exact (Chg.refl [] _).alloc _
      have hP : MapB W1 W0.heap.size .i64 (fun _ => none) := by rw [hW1]; exact MapB.new _ _
      obtain ⟨bP, hbP⟩ : ∃ b, b = W0.heap.size := ⟨_, rfl⟩
      have gP : W0.heap.size ≤ bP := Nat.le_of_eq hbP.symm
      try rw [← hW1]
      rw [← hbP] at hP ⊢
      have lP := hP.lt
      clear hW1 hbP
      have z1 := hc1.size
      replace hS : Chg [] w W1 := hS.stay hc1
      refine hK _ _ hS ?_
      clear hK K
      clear hc1
      go_wp2_with (first | (refine wpG_hload 26 _ rfl rfl (fun w' hw' => mo_load26 (HI.out w' hw').blk) hS ?_) | (refine wpG_hload 61 _ rfl rfl (fun w' hw' => load_map Tryd.underlying61 (mo_cells (HI.out w' hw').blk).2.2.1) hS ?_) | (refine wpG_calc rfl (fun K hK => ?_)) | (refine wpG_skip ?_ ?_; (focus (simp [wantG]; done)); go_simp) | (refine wpG_take ?_ ?_; (focus (simp [wantG]; done))) | (refine wpG_pure (fun K hK => ?_); go_simp; refine hK _ _ ?_; clear hK K) | (refine wpG_deed (by decide) (fun K hK => ?_); go_simp) | (refine wpG_nil ?_))
      (refine wpG_keeps hS (fun K hK => ?_))
      go_simp
      obtain ⟨W2, hW2⟩ : ∃ W, W = W1.alloc (.map #[] 0) := ⟨_, rfl⟩
      have hc2 : Chg [] W1 W2 := by rw [hW2]; exact (Chg.refl [] _).alloc _
      have hB : MapB W2 W1.heap.size .u64 (fun _ => none) := by rw [hW2]; exact MapB.new _ _
      obtain ⟨bB, hbB⟩ : ∃ b, b = W1.heap.size := ⟨_, rfl⟩
      have gB : W1.heap.size ≤ bB := Nat.le_of_eq hbB.symm
      try rw [← hW2]
      rw [← hbB] at hB ⊢
      have lB := hB.lt
      clear hW2 hbB
      have z2 := hc2.size
      replace hS : Chg [] w W2 := hS.stay hc2
      refine hK _ _ hS ?_
      clear hK K
      replace hP := hP.stay hc2
      clear hc2
      go_wp2_with (first | (refine wpG_hload 26 _ rfl rfl (fun w' hw' => mo_load26 (HI.out w' hw').blk) hS ?_) | (refine wpG_hload 61 _ rfl rfl (fun w' hw' => load_map Tryd.underlying61 (mo_cells (HI.out w' hw').blk).2.2.1) hS ?_) | (refine wpG_calc rfl (fun K hK => ?_)) | (refine wpG_skip ?_ ?_; (focus (simp [wantG]; done)); go_simp) | (refine wpG_take ?_ ?_; (focus (simp [wantG]; done))) | (refine wpG_pure (fun K hK => ?_); go_simp; refine hK _ _ ?_; clear hK K) | (refine wpG_deed (by decide) (fun K hK => ?_); go_simp) | (refine wpG_nil ?_))
      (refine wpG_keeps hS (fun K hK => ?_))
      go_simp
      refine (clone_rights (HI.out W2 hS).me).mono ?_
      rintro e W3 ⟨bE, rfl, hE, hc3, gE⟩
      have lE := hE.lt
      have z3 := hc3.size
      replace hS : Chg [] w W3 := hS.stay hc3
      refine hK _ _ hS ?_
      clear hK K
      replace hP := hP.stay hc3
      replace hB := hB.stay hc3
      clear hc3
      have HBP := hide (bm_new M.c bP bB bE)
      go_wp2_with (first | (refine wpG_keeps hS (fun K hK => ?_); refine wp_boxMo _ rfl rfl ?_; refine hK _ _ (hS.alloc _) ?_; clear hK K) | (refine wpG_buildMo _ rfl HBP.out ?_ ?_; (focus (simp [Act.eval]; done)); go_simp) | (refine wpG_calc rfl (fun K hK => ?_)) | (refine wpG_skip ?_ ?_; (focus (simp [wantG]; done)); go_simp) | (refine wpG_take ?_ ?_; (focus (simp [wantG]; done))) | (refine wpG_pure (fun K hK => ?_); go_simp; refine hK _ _ ?_; clear hK K) | (refine wpG_deed (by decide) (fun K hK => ?_); go_simp) | (refine wpG_nil ?_))
      go_meet
      case rel =>
        have hn : Chg [] W3 (W3.alloc (.cells (mgc M.c bP bB bE) 63)) := (Chg.refl [] _).alloc _
        exact ⟨_, bP, bB, bE, rfl, hide (Mc0.mk (hS.stay hn) (Blk.new W3 _ _) (hP.stay hn) (hB.stay hn) (hE.stay hn) (by omega) (by omega))⟩
    · have z0 := hS.size
      simp only [picks, List.filterMap_cons, List.filterMap_nil, List.getElem?_cons_succ, List.getElem?_cons_zero]
      go_wp2_with (first | (refine wpG_hload 26 _ rfl rfl (fun w' hw' => mo_load26 (HI.out w' hw').blk) hS ?_) | (refine wpG_hload 61 _ rfl rfl (fun w' hw' => load_map Tryd.underlying61 (mo_cells (HI.out w' hw').blk).2.2.1) hS ?_) | (refine wpG_calc rfl (fun K hK => ?_)) | (refine wpG_skip ?_ ?_; (focus (simp [wantG]; done)); go_simp) | (refine wpG_take ?_ ?_; (focus (simp [wantG]; done))) | (refine wpG_pure (fun K hK => ?_); go_simp; refine hK _ _ ?_; clear hK K) | (refine wpG_deed (by decide) (fun K hK => ?_); go_simp) | (refine wpG_nil ?_))
      (refine wpG_keeps hS (fun K hK => ?_))
      go_simp
      obtain ⟨W1, hW1⟩ : ∃ W, W = W0.alloc (.map #[] 0) := ⟨_, rfl⟩
      have hc1 : Chg [] W0 W1 := by rw [hW1]; exact (Chg.refl [] _).alloc _
      have hP : MapB W1 W0.heap.size .i64 (fun _ => none) := by rw [hW1]; exact MapB.new _ _
      obtain ⟨bP, hbP⟩ : ∃ b, b = W0.heap.size := ⟨_, rfl⟩
      have gP : W0.heap.size ≤ bP := Nat.le_of_eq hbP.symm
      try rw [← hW1]
      rw [← hbP] at hP ⊢
      have lP := hP.lt
      clear hW1 hbP
      have z1 := hc1.size
      replace hS : Chg [] w W1 := hS.stay hc1
      refine hK _ _ hS ?_
      clear hK K
      clear hc1
      go_wp2_with (first | (refine wpG_hload 26 _ rfl rfl (fun w' hw' => mo_load26 (HI.out w' hw').blk) hS ?_) | (refine wpG_hload 61 _ rfl rfl (fun w' hw' => load_map Tryd.underlying61 (mo_cells (HI.out w' hw').blk).2.2.1) hS ?_) | (refine wpG_calc rfl (fun K hK => ?_)) | (refine wpG_skip ?_ ?_; (focus (simp [wantG]; done)); go_simp) | (refine wpG_take ?_ ?_; (focus (simp [wantG]; done))) | (refine wpG_pure (fun K hK => ?_); go_simp; refine hK _ _ ?_; clear hK K) | (refine wpG_deed (by decide) (fun K hK => ?_); go_simp) | (refine wpG_nil ?_))
      (refine wpG_keeps hS (fun K hK => ?_))
      go_simp
      refine (clone_rights (HI.out W1 hS).me).mono ?_
      rintro e W2 ⟨bE, rfl, hE, hc2, gE⟩
      have lE := hE.lt
      have z2 := hc2.size
      replace hS : Chg [] w W2 := hS.stay hc2
      refine hK _ _ hS ?_
      clear hK K
      replace hP := hP.stay hc2
      clear hc2
      go_wp2_with (first | (refine wpG_hload 26 _ rfl rfl (fun w' hw' => mo_load26 (HI.out w' hw').blk) hS ?_) | (refine wpG_hload 61 _ rfl rfl (fun w' hw' => load_map Tryd.underlying61 (mo_cells (HI.out w' hw').blk).2.2.1) hS ?_) | (refine wpG_calc rfl (fun K hK => ?_)) | (refine wpG_skip ?_ ?_; (focus (simp [wantG]; done)); go_simp) | (refine wpG_take ?_ ?_; (focus (simp [wantG]; done))) | (refine wpG_pure (fun K hK => ?_); go_simp; refine hK _ _ ?_; clear hK K) | (refine wpG_deed (by decide) (fun K hK => ?_); go_simp) | (refine wpG_nil ?_))
      (refine wpG_keeps hS (fun K hK => ?_))
      go_simp
      obtain ⟨W3, hW3⟩ : ∃ W, W = W2.alloc (.map #[] 0) := ⟨_, rfl⟩
      have hc3 : Chg [] W2 W3 := by rw [hW3]; exact (Chg.refl [] _).alloc _
      have hB : MapB W3 W2.heap.size .u64 (fun _ => none) := by rw [hW3]; exact MapB.new _ _
      obtain ⟨bB, hbB⟩ : ∃ b, b = W2.heap.size := ⟨_, rfl⟩
      have gB : W2.heap.size ≤ bB := Nat.le_of_eq hbB.symm
      try rw [← hW3]
      rw [← hbB] at hB ⊢
      have lB := hB.lt
      clear hW3 hbB
      have z3 := hc3.size
      replace hS : Chg [] w W3 := hS.stay hc3
      refine hK _ _ hS ?_
      clear hK K
      replace hP := hP.stay hc3
      replace hE := hE.stay hc3
      clear hc3
      have HBP := hide (bm_new M.c bP bB bE)
      go_wp2_with (first | (refine wpG_keeps hS (fun K hK => ?_); refine wp_boxMo _ rfl rfl ?_; refine hK _ _ (hS.alloc _) ?_; clear hK K) | (refine wpG_buildMo _ rfl HBP.out ?_ ?_; (focus (simp [Act.eval]; done)); go_simp) | (refine wpG_calc rfl (fun K hK => ?_)) | (refine wpG_skip ?_ ?_; (focus (simp [wantG]; done)); go_simp) | (refine wpG_take ?_ ?_; (focus (simp [wantG]; done))) | (refine wpG_pure (fun K hK => ?_); go_simp; refine hK _ _ ?_; clear hK K) | (refine wpG_deed (by decide) (fun K hK => ?_); go_simp) | (refine wpG_nil ?_))
      go_meet
      case rel =>
        have hn : Chg [] W3 (W3.alloc (.cells (mgc M.c bP bB bE) 63)) := (Chg.refl [] _).alloc _
        exact ⟨_, bP, bB, bE, rfl, hide (Mc0.mk (hS.stay hn) (Blk.new W3 _ _) (hP.stay hn) (hB.stay hn) (hE.stay hn) (by omega) (by omega))⟩
    · have z0 := hS.size
      simp only [picks, List.filterMap_cons, List.filterMap_nil, List.getElem?_cons_succ, List.getElem?_cons_zero]
      go_wp2_with (first | (refine wpG_hload 26 _ rfl rfl (fun w' hw' => mo_load26 (HI.out w' hw').blk) hS ?_) | (refine wpG_hload 61 _ rfl rfl (fun w' hw' => load_map Tryd.underlying61 (mo_cells (HI.out w' hw').blk).2.2.1) hS ?_) | (refine wpG_calc rfl (fun K hK => ?_)) | (refine wpG_skip ?_ ?_; (focus (simp [wantG]; done)); go_simp) | (refine wpG_take ?_ ?_; (focus (simp [wantG]; done))) | (refine wpG_pure (fun K hK => ?_); go_simp; refine hK _ _ ?_; clear hK K) | (refine wpG_deed (by decide) (fun K hK => ?_); go_simp) | (refine wpG_nil ?_))
      (refine wpG_keeps hS (fun K hK => ?_))
      go_simp
      obtain ⟨W1, hW1⟩ : ∃ W, W = W0.alloc (.map #[] 0) := ⟨_, rfl⟩
      have hc1 : Chg [] W0 W1 := by rw [hW1]; exact (Chg.refl [] _).alloc _
      have hB : MapB W1 W0.heap.size .u64 (fun _ => none) := by rw [hW1]; exact MapB.new _ _
      obtain ⟨bB, hbB⟩ : ∃ b, b = W0.heap.size := ⟨_, rfl⟩
      have gB : W0.heap.size ≤ bB := Nat.le_of_eq hbB.symm
      try rw [← hW1]
      rw [← hbB] at hB ⊢
      have lB := hB.lt
      clear hW1 hbB
      have z1 := hc1.size
      replace hS : Chg [] w W1 := hS.stay hc1
      refine hK _ _ hS ?_
      clear hK K
      clear hc1
      go_wp2_with (first | (refine wpG_hload 26 _ rfl rfl (fun w' hw' => mo_load26 (HI.out w' hw').blk) hS ?_) | (refine wpG_hload 61 _ rfl rfl (fun w' hw' => load_map Tryd.underlying61 (mo_cells (HI.out w' hw').blk).2.2.1) hS ?_) | (refine wpG_calc rfl (fun K hK => ?_)) | (refine wpG_skip ?_ ?_; (focus (simp [wantG]; done)); go_simp) | (refine wpG_take ?_ ?_; (focus (simp [wantG]; done))) | (refine wpG_pure (fun K hK => ?_); go_simp; refine hK _ _ ?_; clear hK K) | (refine wpG_deed (by decide) (fun K hK => ?_); go_simp) | (refine wpG_nil ?_))
      (refine wpG_keeps hS (fun K hK => ?_))
      go_simp
      obtain ⟨W2, hW2⟩ : ∃ W, W = W1.alloc (.map #[] 0) := ⟨_, rfl⟩
      have hc2 : Chg [] W1 W2 := by rw [hW2]; exact (Chg.refl [] _).alloc _
      have hP : MapB W2 W1.heap.size .i64 (fun _ => none) := by rw [hW2]; exact MapB.new _ _
      obtain ⟨bP, hbP⟩ : ∃ b, b = W1.heap.size := ⟨_, rfl⟩
      have gP : W1.heap.size ≤ bP := Nat.le_of_eq hbP.symm
      try rw [← hW2]
      rw [← hbP] at hP ⊢
      have lP := hP.lt
      clear hW2 hbP
      have z2 := hc2.size
      replace hS : Chg [] w W2 := hS.stay hc2
      refine hK _ _ hS ?_
      clear hK K
      replace hB := hB.stay hc2
      clear hc2
      go_wp2_with (first | (refine wpG_hload 26 _ rfl rfl (fun w' hw' => mo_load26 (HI.out w' hw').blk) hS ?_) | (refine wpG_hload 61 _ rfl rfl (fun w' hw' => load_map Tryd.underlying61 (mo_cells (HI.out w' hw').blk).2.2.1) hS ?_) | (refine wpG_calc rfl (fun K hK => ?_)) | (refine wpG_skip ?_ ?_; (focus (simp [wantG]; done)); go_simp) | (refine wpG_take ?_ ?_; (focus (simp [wantG]; done))) | (refine wpG_pure (fun K hK => ?_); go_simp; refine hK _ _ ?_; clear hK K) | (refine wpG_deed (by decide) (fun K hK => ?_); go_simp) | (refine wpG_nil ?_))
      (refine wpG_keeps hS (fun K hK => ?_))
      go_simp
      refine (clone_rights (HI.out W2 hS).me).mono ?_
      rintro e W3 ⟨bE, rfl, hE, hc3, gE⟩
      have lE := hE.lt
      have z3 := hc3.size
      replace hS : Chg [] w W3 := hS.stay hc3
      refine hK _ _ hS ?_
      clear hK K
      replace hB := hB.stay hc3
      replace hP := hP.stay hc3
      clear hc3
      have HBP := hide (bm_new M.c bP bB bE)
      go_wp2_with (first | (refine wpG_keeps hS (fun K hK => ?_); refine wp_boxMo _ rfl rfl ?_; refine hK _ _ (hS.alloc _) ?_; clear hK K) | (refine wpG_buildMo _ rfl HBP.out ?_ ?_; (focus (simp [Act.eval]; done)); go_simp) | (refine wpG_calc rfl (fun K hK => ?_)) | (refine wpG_skip ?_ ?_; (focus (simp [wantG]; done)); go_simp) | (refine wpG_take ?_ ?_; (focus (simp [wantG]; done))) | (refine wpG_pure (fun K hK => ?_); go_simp; refine hK _ _ ?_; clear hK K) | (refine wpG_deed (by decide) (fun K hK => ?_); go_simp) | (refine wpG_nil ?_))
      go_meet
      case rel =>
        have hn : Chg [] W3 (W3.alloc (.cells (mgc M.c bP bB bE) 63)) := (Chg.refl [] _).alloc _
        exact ⟨_, bP, bB, bE, rfl, hide (Mc0.mk (hS.stay hn) (Blk.new W3 _ _) (hP.stay hn) (hB.stay hn) (hE.stay hn) (by omega) (by omega))⟩
    · have z0 := hS.size
      simp only [picks, List.filterMap_cons, List.filterMap_nil, List.getElem?_cons_succ, List.getElem?_cons_zero]
      go_wp2_with (first | (refine wpG_hload 26 _ rfl rfl (fun w' hw' => mo_load26 (HI.out w' hw').blk) hS ?_) | (refine wpG_hload 61 _ rfl rfl (fun w' hw' => load_map Tryd.underlying61 (mo_cells (HI.out w' hw').blk).2.2.1) hS ?_) | (refine wpG_calc rfl (fun K hK => ?_)) | (refine wpG_skip ?_ ?_; (focus (simp [wantG]; done)); go_simp) | (refine wpG_take ?_ ?_; (focus (simp [wantG]; done))) | (refine wpG_pure (fun K hK => ?_); go_simp; refine hK _ _ ?_; clear hK K) | (refine wpG_deed (by decide) (fun K hK => ?_); go_simp) | (refine wpG_nil ?_))
      (refine wpG_keeps hS (fun K hK => ?_))
      go_simp
      obtain ⟨W1, hW1⟩ : ∃ W, W = W0.alloc (.map #[] 0) := ⟨_, rfl⟩
      have hc1 : Chg [] W0 W1 := by rw [hW1]; exact (Chg.refl [] _).alloc _
      have hB : MapB W1 W0.heap.size .u64 (fun _ => none) := by rw [hW1]; exact MapB.new _ _
      obtain ⟨bB, hbB⟩ : ∃ b, b = W0.heap.size := ⟨_, rfl⟩
      have gB : W0.heap.size ≤ bB := Nat.le_of_eq hbB.symm
      try rw [← hW1]
      rw [← hbB] at hB ⊢
      have lB := hB.lt
      clear hW1 hbB
      have z1 := hc1.size
      replace hS : Chg [] w W1 := hS.stay hc1
      refine hK _ _ hS ?_
      clear hK K
      clear hc1
      go_wp2_with (first | (refine wpG_hload 26 _ rfl rfl (fun w' hw' => mo_load26 (HI.out w' hw').blk) hS ?_) | (refine wpG_hload 61 _ rfl rfl (fun w' hw' => load_map Tryd.underlying61 (mo_cells (HI.out w' hw').blk).2.2.1) hS ?_) | (refine wpG_calc rfl (fun K hK => ?_)) | (refine wpG_skip ?_ ?_; (focus (simp [wantG]; done)); go_simp) | (refine wpG_take ?_ ?_; (focus (simp [wantG]; done))) | (refine wpG_pure (fun K hK => ?_); go_simp; refine hK _ _ ?_; clear hK K) | (refine wpG_deed (by decide) (fun K hK => ?_); go_simp) | (refine wpG_nil ?_))
      (refine wpG_keeps hS (fun K hK => ?_))
      go_simp
      refine (clone_rights (HI.out W1 hS).me).mono ?_
      rintro e W2 ⟨bE, rfl, hE, hc2, gE⟩
      have lE := hE.lt
      have z2 := hc2.size
      replace hS : Chg [] w W2 := hS.stay hc2
      refine hK _ _ hS ?_
      clear hK K
      replace hB := hB.stay hc2
      clear hc2
      go_wp2_with (first | (refine wpG_hload 26 _ rfl rfl (fun w' hw' => mo_load26 (HI.out w' hw').blk) hS ?_) | (refine wpG_hload 61 _ rfl rfl (fun w' hw' => load_map Tryd.underlying61 (mo_cells (HI.out w' hw').blk).2.2.1) hS ?_) | (refine wpG_calc rfl (fun K hK => ?_)) | (refine wpG_skip ?_ ?_; (focus (simp [wantG]; done)); go_simp) | (refine wpG_take ?_ ?_; (focus (simp [wantG]; done))) | (refine wpG_pure (fun K hK => ?_); go_simp; refine hK _ _ ?_; clear hK K) | (refine wpG_deed (by decide) (fun K hK => ?_); go_simp) | (refine wpG_nil ?_))
      (refine wpG_keeps hS (fun K hK => ?_))
      go_simp
      obtain ⟨W3, hW3⟩ : ∃ W, W = W2.alloc (.map #[] 0) := ⟨_, rfl⟩
      have hc3 : Chg [] W2 W3 := by rw [hW3]; exact (Chg.refl [] _).alloc _
      have hP : MapB W3 W2.heap.size .i64 (fun _ => none) := by rw [hW3]; exact MapB.new _ _
      obtain ⟨bP, hbP⟩ : ∃ b, b = W2.heap.size := ⟨_, rfl⟩
      have gP : W2.heap.size ≤ bP := Nat.le_of_eq hbP.symm
      try rw [← hW3]
      rw [← hbP] at hP ⊢
      have lP := hP.lt
      clear hW3 hbP
      have z3 := hc3.size
      replace hS : Chg [] w W3 := hS.stay hc3
      refine hK _ _ hS ?_
      clear hK K
      replace hB := hB.stay hc3
      replace hE := hE.stay hc3
      clear hc3
      have HBP := hide (bm_new M.c bP bB bE)
      go_wp2_with (first | (refine wpG_keeps hS (fun K hK => ?_); refine wp_boxMo _ rfl rfl ?_; refine hK _ _ (hS.alloc _) ?_; clear hK K) | (refine wpG_buildMo _ rfl HBP.out ?_ ?_; (focus (simp [Act.eval]; done)); go_simp) | (refine wpG_calc rfl (fun K hK => ?_)) | (refine wpG_skip ?_ ?_; (focus (simp [wantG]; done)); go_simp) | (refine wpG_take ?_ ?_; (focus (simp [wantG]; done))) | (refine wpG_pure (fun K hK => ?_); go_simp; refine hK _ _ ?_; clear hK K) | (refine wpG_deed (by decide) (fun K hK => ?_); go_simp) | (refine wpG_nil ?_))
      go_meet
      case rel =>
        have hn : Chg [] W3 (W3.alloc (.cells (mgc M.c bP bB bE) 63)) := (Chg.refl [] _).alloc _
        exact ⟨_, bP, bB, bE, rfl, hide (Mc0.mk (hS.stay hn) (Blk.new W3 _ _) (hP.stay hn) (hB.stay hn) (hE.stay hn) (by omega) (by omega))⟩
    · have z0 := hS.size
      simp only [picks, List.filterMap_cons, List.filterMap_nil, List.getElem?_cons_succ, List.getElem?_cons_zero]
      go_wp2_with (first | (refine wpG_hload 26 _ rfl rfl (fun w' hw' => mo_load26 (HI.out w' hw').blk) hS ?_) | (refine wpG_hload 61 _ rfl rfl (fun w' hw' => load_map Tryd.underlying61 (mo_cells (HI.out w' hw').blk).2.2.1) hS ?_) | (refine wpG_calc rfl (fun K hK => ?_)) | (refine wpG_skip ?_ ?_; (focus (simp [wantG]; done)); go_simp) | (refine wpG_take ?_ ?_; (focus (simp [wantG]; done))) | (refine wpG_pure (fun K hK => ?_); go_simp; refine hK _ _ ?_; clear hK K) | (refine wpG_deed (by decide) (fun K hK => ?_); go_simp) | (refine wpG_nil ?_))
      (refine wpG_keeps hS (fun K hK => ?_))
      go_simp
      refine (clone_rights (HI.out W0 hS).me).mono ?_
      rintro e W1 ⟨bE, rfl, hE, hc1, gE⟩
      have lE := hE.lt
      have z1 := hc1.size
      replace hS : Chg [] w W1 := hS.stay hc1
      refine hK _ _ hS ?_
      clear hK K
      clear hc1
      go_wp2_with (first | (refine wpG_hload 26 _ rfl rfl (fun w' hw' => mo_load26 (HI.out w' hw').blk) hS ?_) | (refine wpG_hload 61 _ rfl rfl (fun w' hw' => load_map Tryd.underlying61 (mo_cells (HI.out w' hw').blk).2.2.1) hS ?_) | (refine wpG_calc rfl (fun K hK => ?_)) | (refine wpG_skip ?_ ?_; (focus (simp [wantG]; done)); go_simp) | (refine wpG_take ?_ ?_; (focus (simp [wantG]; done))) | (refine wpG_pure (fun K hK => ?_); go_simp; refine hK _ _ ?_; clear hK K) | (refine wpG_deed (by decide) (fun K hK => ?_); go_simp) | (refine wpG_nil ?_))
      (refine wpG_keeps hS (fun K hK => ?_))
      go_simp
      obtain ⟨W2, hW2⟩ : ∃ W, W = W1.alloc (.map #[] 0) := ⟨_, rfl⟩
      have hc2 : Chg [] W1 W2 := by rw [hW2]; exact (Chg.refl [] _).alloc _
      have hP : MapB W2 W1.heap.size .i64 (fun _ => none) := by rw [hW2]; exact MapB.new _ _
      obtain ⟨bP, hbP⟩ : ∃ b, b = W1.heap.size := ⟨_, rfl⟩
      have gP : W1.heap.size ≤ bP := Nat.le_of_eq hbP.symm
      try rw [← hW2]
      rw [← hbP] at hP ⊢
      have lP := hP.lt
      clear hW2 hbP
      have z2 := hc2.size
      replace hS : Chg [] w W2 := hS.stay hc2
      refine hK _ _ hS ?_
      clear hK K
      replace hE := hE.stay hc2
      clear hc2
      go_wp2_with (first | (refine wpG_hload 26 _ rfl rfl (fun w' hw' => mo_load26 (HI.out w' hw').blk) hS ?_) | (refine wpG_hload 61 _ rfl rfl (fun w' hw' => load_map Tryd.underlying61 (mo_cells (HI.out w' hw').blk).2.2.1) hS ?_) | (refine wpG_calc rfl (fun K hK => ?_)) | (refine wpG_skip ?_ ?_; (focus (simp [wantG]; done)); go_simp) | (refine wpG_take ?_ ?_; (focus (simp [wantG]; done))) | (refine wpG_pure (fun K hK => ?_); go_simp; refine hK _ _ ?_; clear hK K) | (refine wpG_deed (by decide) (fun K hK => ?_); go_simp) | (refine wpG_nil ?_))
      (refine wpG_keeps hS (fun K hK => ?_))
      go_simp
      obtain ⟨W3, hW3⟩ : ∃ W, W = W2.alloc (.map #[] 0) := ⟨_, rfl⟩
      have hc3 : Chg [] W2 W3 := by rw [hW3]; exact (Chg.refl [] _).alloc _
      have hB : MapB W3 W2.heap.size .u64 (fun _ => none) := by rw [hW3]; exact MapB.new _ _
      obtain ⟨bB, hbB⟩ : ∃ b, b = W2.heap.size := ⟨_, rfl⟩
      have gB : W2.heap.size ≤ bB := Nat.le_of_eq hbB.symm
      try rw [← hW3]
      rw [← hbB] at hB ⊢
      have lB := hB.lt
      clear hW3 hbB
      have z3 := hc3.size
      replace hS : Chg [] w W3 := hS.stay hc3
      refine hK _ _ hS ?_
      clear hK K
      replace hE := hE.stay hc3
      replace hP := hP.stay hc3
      clear hc3
      have HBP := hide (bm_new M.c bP bB bE)
      go_wp2_with (first | (refine wpG_keeps hS (fun K hK => ?_); refine wp_boxMo _ rfl rfl ?_; refine hK _ _ (hS.alloc _) ?_; clear hK K) | (refine wpG_buildMo _ rfl HBP.out ?_ ?_; (focus (simp [Act.eval]; done)); go_simp) | (refine wpG_calc rfl (fun K hK => ?_)) | (refine wpG_skip ?_ ?_; (focus (simp [wantG]; done)); go_simp) | (refine wpG_take ?_ ?_; (focus (simp [wantG]; done))) | (refine wpG_pure (fun K hK => ?_); go_simp; refine hK _ _ ?_; clear hK K) | (refine wpG_deed (by decide) (fun K hK => ?_); go_simp) | (refine wpG_nil ?_))
      go_meet
      case rel =>
        have hn : Chg [] W3 (W3.alloc (.cells (mgc M.c bP bB bE) 63)) := (Chg.refl [] _).alloc _
        exact ⟨_, bP, bB, bE, rfl, hide (Mc0.mk (hS.stay hn) (Blk.new W3 _ _) (hP.stay hn) (hB.stay hn) (hE.stay hn) (by omega) (by omega))⟩
    · have z0 := hS.size
      simp only [picks, List.filterMap_cons, List.filterMap_nil, List.getElem?_cons_succ, List.getElem?_cons_zero]
      go_wp2_with (first | (refine wpG_hload 26 _ rfl rfl (fun w' hw' => mo_load26 (HI.out w' hw').blk) hS ?_) | (refine wpG_hload 61 _ rfl rfl (fun w' hw' => load_map Tryd.underlying61 (mo_cells (HI.out w' hw').blk).2.2.1) hS ?_) | (refine wpG_calc rfl (fun K hK => ?_)) | (refine wpG_skip ?_ ?_; (focus (simp [wantG]; done)); go_simp) | (refine wpG_take ?_ ?_; (focus (simp [wantG]; done))) | (refine wpG_pure (fun K hK => ?_); go_simp; refine hK _ _ ?_; clear hK K) | (refine wpG_deed (by decide) (fun K hK => ?_); go_simp) | (refine wpG_nil ?_))
      (refine wpG_keeps hS (fun K hK => ?_))
      go_simp
      refine (clone_rights (HI.out W0 hS).me).mono ?_
      rintro e W1 ⟨bE, rfl, hE, hc1, gE⟩
      have lE := hE.lt
      have z1 := hc1.size
      replace hS : Chg [] w W1 := hS.stay hc1
      refine hK _ _ hS ?_
      clear hK K
      clear hc1
      go_wp2_with (first | (refine wpG_hload 26 _ rfl rfl (fun w' hw' => mo_load26 (HI.out w' hw').blk) hS ?_) | (refine wpG_hload 61 _ rfl rfl (fun w' hw' => load_map Tryd.underlying61 (mo_cells (HI.out w' hw').blk).2.2.1) hS ?_) | (refine wpG_calc rfl (fun K hK => ?_)) | (refine wpG_skip ?_ ?_; (focus (simp [wantG]; done)); go_simp) | (refine wpG_take ?_ ?_; (focus (simp [wantG]; done))) | (refine wpG_pure (fun K hK => ?_); go_simp; refine hK _ _ ?_; clear hK K) | (refine wpG_deed (by decide) (fun K hK => ?_); go_simp) | (refine wpG_nil ?_))
      (refine wpG_keeps hS (fun K hK => ?_))
      go_simp
      obtain ⟨W2, hW2⟩ : ∃ W, W = W1.alloc (.map #[] 0) := ⟨_, rfl⟩
      have hc2 : Chg [] W1 W2 := by rw [hW2]; exact (Chg.refl [] _).alloc _
      have hB : MapB W2 W1.heap.size .u64 (fun _ => none) := by rw [hW2]; exact MapB.new _ _
      obtain ⟨bB, hbB⟩ : ∃ b, b = W1.heap.size := ⟨_, rfl⟩
      have gB : W1.heap.size ≤ bB := Nat.le_of_eq hbB.symm
      try rw [← hW2]
      rw [← hbB] at hB ⊢
      have lB := hB.lt
      clear hW2 hbB
      have z2 := hc2.size
      replace hS : Chg [] w W2 := hS.stay hc2
      refine hK _ _ hS ?_
      clear hK K
      replace hE := hE.stay hc2
      clear hc2
      go_wp2_with (first | (refine wpG_hload 26 _ rfl rfl (fun w' hw' => mo_load26 (HI.out w' hw').blk) hS ?_) | (refine wpG_hload 61 _ rfl rfl (fun w' hw' => load_map Tryd.underlying61 (mo_cells (HI.out w' hw').blk).2.2.1) hS ?_) | (refine wpG_calc rfl (fun K hK => ?_)) | (refine wpG_skip ?_ ?_; (focus (simp [wantG]; done)); go_simp) | (refine wpG_take ?_ ?_; (focus (simp [wantG]; done))) | (refine wpG_pure (fun K hK => ?_); go_simp; refine hK _ _ ?_; clear hK K) | (refine wpG_deed (by decide) (fun K hK => ?_); go_simp) | (refine wpG_nil ?_))
      (refine wpG_keeps hS (fun K hK => ?_))
      go_simp
      obtain ⟨W3, hW3⟩ : ∃ W, W = W2.alloc (.map #[] 0) := ⟨_, rfl⟩
      have hc3 : Chg [] W2 W3 := by rw [hW3]; exact (Chg.refl [] _).alloc _
      have hP : MapB W3 W2.heap.size .i64 (fun _ => none) := by rw [hW3]; exact MapB.new _ _
      obtain ⟨bP, hbP⟩ : ∃ b, b = W2.heap.size := ⟨_, rfl⟩
      have gP : W2.heap.size ≤ bP := Nat.le_of_eq hbP.symm
      try rw [← hW3]
      rw [← hbP] at hP ⊢
      have lP := hP.lt
      clear hW3 hbP
      have z3 := hc3.size
      replace hS : Chg [] w W3 := hS.stay hc3
      refine hK _ _ hS ?_
      clear hK K
      replace hE := hE.stay hc3
      replace hB := hB.stay hc3
      clear hc3
      have HBP := hide (bm_new M.c bP bB bE)
      go_wp2_with (first | (refine wpG_keeps hS (fun K hK => ?_); refine wp_boxMo _ rfl rfl ?_; refine hK _ _ (hS.alloc _) ?_; clear hK K) | (refine wpG_buildMo _ rfl HBP.out ?_ ?_; (focus (simp [Act.eval]; done)); go_simp) | (refine wpG_calc rfl (fun K hK => ?_)) | (refine wpG_skip ?_ ?_; (focus (simp [wantG]; done)); go_simp) | (refine wpG_take ?_ ?_; (focus (simp [wantG]; done))) | (refine wpG_pure (fun K hK => ?_); go_simp; refine hK _ _ ?_; clear hK K) | (refine wpG_deed (by decide) (fun K hK => ?_); go_simp) | (refine wpG_nil ?_))
      go_meet
      case rel =>
        have hn : Chg [] W3 (W3.alloc (.cells (mgc M.c bP bB bE) 63)) := (Chg.refl [] _).alloc _
        exact ⟨_, bP, bB, bE, rfl, hide (Mc0.mk (hS.stay hn) (Blk.new W3 _ _) (hP.stay hn) (hB.stay hn) (hE.stay hn) (by omega) (by omega))⟩
  obtain ⟨m, bp, bo, be, rfl, h0⟩ := hcut
  have HP0 := hide (HI.out wc h0.out.chg)
  have q1 := (mo_cells HP0.out.blk).1
  have l1 := h0.out.blk.lt
  go_wp2_with (refine wpList_range_int rfl _ rfl Tryd.underlying59 rfl HP0.out.mp ?_; intro W1 n1 hit hc1 hs1; go_simp)
  have HC := hide (Mc0.begin h0.out hc1 hs1 (lp := fun z => (fp z).isSome) (lo := fun z => (M.ob z).isSome) (fun z => by show (fp z).isSome = _; rw [HP0.out.hp]; cases M.pr z <;> rfl) (fun _ => rfl))
  have HIT := hide hit
  obtain ⟨r, hr⟩ : ∃ r, r = wc.heap.size := ⟨_, rfl⟩
  rw [← hr] at HC HIT ⊢
  have lb := (HI.out w (Chg.refl _ _))
  have lbp := lb.mp.lt
  have lbo := lb.mo.lt
  clear hit hc1 hs1 q1 l1 l0 h0 hr HP0 lb
  go_loopw [] (fun wr => ∃ lp gq GQ n, Hid (Mc w wr m bp bo be r M fe lp (fun z => (M.ob z).isSome) gq GQ (fun _ => .slice none 0 0)) ∧ Hid (MapIt wr bp0 r .i64 fp lp n)) (fun wr => itLeft wr bp0 r)
  case atStart => exact ⟨_, _, _, _, HC, HIT⟩
  case round =>
    obtain ⟨lp, gq, GQ, n, hcp, hit⟩ := hrel
    have hm0 := hit.out.left_eq
    have HP := hide (HI.out wr hcp.out.chg)
    go_wp2_with (refine wpList_next_int rfl _ rfl rfl hit.out ?_ ?_)
    · intro h1 h2
      have HM1 := hide hcp.out
      have HL1 := hide h2
      have lb := hcp.out.blk.lt
      have q2 := (mo_cells HP.out.blk).2.1
      have l2 := HP.out.blk.lt
      have HPO := hide HP.out.mo
      clear hcp hit hm0 HP h1 h2 HC HIT
      go_wp2_with (refine wpList_range_int rfl _ rfl Tryd.underlying60 rfl HPO.out ?_; intro W2 n2 hit2 hc2 hs2; go_simp)
      have HC2 := hide (HM1.out.again hc2 hs2)
      have HIT2 := hide (show MapIt W2 bo0 wr.heap.size .u64 fo (fun z => (M.ob z).isSome) n2 from by
        have e : (fun z => (fo z).isSome) = fun z => (M.ob z).isSome := by
          funext z
          rw [(HI.out wr HM1.out.chg).ho]
          cases M.ob z <;> rfl
        rw [← e]
        exact hit2)
      obtain ⟨r2, hr2⟩ : ∃ r, r = wr.heap.size := ⟨_, rfl⟩
      rw [← hr2] at HC2 HIT2 ⊢
      clear hit2 hc2 hs2 q2 lb l2 hr2 HM1 HPO
      go_loopw [] (fun wx => ∃ lo ov n, Hid (Mc w wx m bp bo be r2 M fe lp lo gq GQ ov) ∧ Hid (MapIt wx bo0 r2 .u64 fo lo n)) (fun wx => itLeft wx bo0 r2)
      case atStart => exact ⟨_, _, _, HC2, HIT2⟩
      case round =>
        obtain ⟨lo, ov, n, hcp, hit⟩ := hrel
        have hm0 := hit.out.left_eq
        have HP := hide (HI.out wr hcp.out.chg)
        go_wp2_with (refine wpList_next_int rfl _ rfl rfl hit.out ?_ ?_)
        · intro h1 h2
          have HE := hide (hcp.out.end_ HP.out HL1.out h2)
          have HCC := hide hcp.out.chg
          have lb := hcp.out.blk.lt
          clear hcp hit hm0 HP
          go_wp2_with fail
          go_ret
          obtain ⟨F, k1, k2⟩ := HE.out
          exact ⟨⟨_, F, rfl, k1, k2⟩, HCC.out⟩
        · intro z v w' n' h1 h2 h3 h4 h5 h6 h7
          obtain ⟨B, hB, rfl⟩ : ∃ B, M.ob z = some B ∧ v = ov0 z := by
            rw [HP.out.ho] at h2
            cases hB : M.ob z with
            | none => rw [hB] at h2; cases h2
            | some B => rw [hB] at h2; exact ⟨B, rfl, (Option.some.inj h2).symm⟩
          have HC1 := hide (hcp.out.next h5)
          have HSB := hide ((HI.out w' HC1.out.chg).ob z B hB)
          have HB := hide hB
          have HIT1 := hide h3
          have hlt := h4
          have lm := HC1.out.blk.lt
          clear hcp hit HP hB h1 h2 h3 h4 h5 h6
          go_upto_region 11 with (fail)
          refine wp_region_t [0,0,0,5,0,0,6,3] [none, none, none, none, none, none, none, none] (fun W => Chg [] w' W) (by kernel_rfl) (by kernel_rfl) (by kernel_rfl) ?_
          have hS : Chg [] w' w'.drew := (Chg.refl [] w').drew
          generalize w'.drew = W0 at hS ⊢
          go_wp2_with (first | (refine wpG_hload 60 _ rfl rfl (fun w1 hw1 => load_map Tryd.underlying60 (mo_cells (HC1.out.stay hw1).blk).2.1) hS ?_) | (refine wpG_calc rfl (fun K hK => ?_)) | (refine wpG_skip ?_ ?_; (focus (simp [wantG]; done)); go_simp) | (refine wpG_take ?_ ?_; (focus (simp [wantG]; done))) | (refine wpG_pure (fun K hK => ?_); go_simp; refine hK _ _ ?_; clear hK K) | (refine wpG_deed (by decide) (fun K hK => ?_); go_simp) | (refine wpG_nil ?_))
          (refine wpG_keeps hS (fun K hK => ?_))
          go_simp
          refine (clone_b ((HSB.out.1.chg hS (fun k hk => List.not_mem_nil)).re) (by have := HSB.out.2.2; omega)).mono ?_
          rintro e W3 ⟨⟨A3, n3, c3, rfl, hs3, hn3⟩, hc3⟩
          have hS3 := hS.stay hc3
          have zs := hS.size
          refine hK _ _ hS3 ?_
          clear hK K
          have HC3 := hide (HC1.out.stay hS3)
          go_wp2_with (first | (refine wpG_deed (by decide) (fun K hK => ?_); refine wp_update _ _ _ rfl Tryd.underlying60 Tryd.underlying40 rfl rfl rfl HC3.out.mo ?_; intro W5 hm5 hc5; refine hK _ _ ?_; clear hK K) | (refine wpG_calc rfl (fun K hK => ?_)) | (refine wpG_skip ?_ ?_; (focus (simp [wantG]; done)); go_simp) | (refine wpG_take ?_ ?_; (focus (simp [wantG]; done))) | (refine wpG_pure (fun K hK => ?_); go_simp; refine hK _ _ ?_; clear hK K) | (refine wpG_deed (by decide) (fun K hK => ?_); go_simp) | (refine wpG_nil ?_))
          have lbo2 := HC3.out.mo.lt
          have gbo := HC1.out.g
          have hno : ∀ k ∈ own (.slice A3 n3 c3), k ∉ [bo] := fun k hk hm => by
            obtain rfl := List.mem_singleton.1 hm
            have := hn3 _ hk
            have := HC1.out.mo.lt
            omega
          have hcB : Chg [bo] w' W5 := (hS3.up [bo]).trans hc5 (fun x hx => .inl hx)
          have HST := hide (HC1.out.stepO (W1 := W5) HB.out hcB (hs3.chg hc5 hno) (fun k hk => by have := hn3 k hk; omega) hm5)
          have HI2 := hide (HIT1.out.chg hcB (by simp; omega) (by simpa using HC1.out.nr.2.2.1))
          go_roundw
          case rel =>
            (repeat apply Exists.intro)
            refine ⟨⟨_, _, _, HST, HI2⟩, rfl⟩
          case measure => rw [hm0, HI2.out.left_eq]; exact hlt
    · intro z v w' n' h1 h2 h3 h4 h5 h6 h7
      obtain ⟨p, hp, rfl⟩ : ∃ p, M.pr z = some p ∧ v = .pointer (some ⟨gb z, 0, none⟩) := by
        rw [HP.out.hp] at h2
        cases hB : M.pr z with
        | none => rw [hB] at h2; cases h2
        | some B => rw [hB] at h2; exact ⟨B, rfl, (Option.some.inj h2).symm⟩
      have HC1 := hide (hcp.out.next h5)
      have HPP := hide ((HI.out w' HC1.out.chg).pr z p hp)
      have HB := hide hp
      have HIT1 := hide h3
      have hlt := h4
      have lm := HC1.out.blk.lt
      clear hcp hit HP hp h1 h2 h3 h4 h5 h6
      go_upto_region 7 with (fail)
      refine wp_region_t [0,0,0,5,0,0,6,3] [none, none, none, none, none, none, none, none] (fun W => Chg [] w' W) (by kernel_rfl) (by kernel_rfl) (by kernel_rfl) ?_
      have hS : Chg [] w' w'.drew := (Chg.refl [] w').drew
      generalize w'.drew = W0 at hS ⊢
      go_wp2_with (first | (refine wpG_hload 59 _ rfl rfl (fun w1 hw1 => load_map Tryd.underlying59 (mo_cells (HC1.out.stay hw1).blk).1) hS ?_) | (refine wpG_calc rfl (fun K hK => ?_)) | (refine wpG_skip ?_ ?_; (focus (simp [wantG]; done)); go_simp) | (refine wpG_take ?_ ?_; (focus (simp [wantG]; done))) | (refine wpG_pure (fun K hK => ?_); go_simp; refine hK _ _ ?_; clear hK K) | (refine wpG_deed (by decide) (fun K hK => ?_); go_simp) | (refine wpG_nil ?_))
      (refine wpG_keeps hS (fun K hK => ?_))
      go_simp
      refine (copied_any (HPP.out.chg hS (fun k hk => by cases hk))).mono ?_
      rintro e W3 ⟨⟨b3, F3, rfl, hP3, hF3⟩, hc3⟩
      have hS3 := hS.stay hc3
      have zs := hS.size
      refine hK _ _ hS3 ?_
      clear hK K
      have HC3 := hide (HC1.out.stay hS3)
      go_wp2_with (first | (refine wpG_deed (by decide) (fun K hK => ?_); refine wp_update _ _ _ rfl Tryd.underlying59 Tryd.underlying3 rfl rfl rfl HC3.out.mp ?_; intro W5 hm5 hc5; refine hK _ _ ?_; clear hK K) | (refine wpG_calc rfl (fun K hK => ?_)) | (refine wpG_skip ?_ ?_; (focus (simp [wantG]; done)); go_simp) | (refine wpG_take ?_ ?_; (focus (simp [wantG]; done))) | (refine wpG_pure (fun K hK => ?_); go_simp; refine hK _ _ ?_; clear hK K) | (refine wpG_deed (by decide) (fun K hK => ?_); go_simp) | (refine wpG_nil ?_))
      have lbp2 := HC3.out.mp.lt
      have gbp := HC1.out.g
      have hno : ∀ k ∈ [bp], ¬ F3 k := fun k hm hk => by
        obtain rfl := List.mem_singleton.1 hm
        have := hF3 _ hk
        have := HC1.out.mp.lt
        omega
      have hcB : Chg [bp] w' W5 := (hS3.up [bp]).trans hc5 (fun x hx => .inl hx)
      have HST := hide (HC1.out.stepP (W1 := W5) HB.out hcB (hP3.chg hc5 hno) (fun k hk => by have := hF3 k hk; omega) hm5)
      have HI2 := hide (HIT1.out.chg hcB (by simp; omega) (by simpa using HC1.out.nr.2.1))
      go_roundw
      case rel =>
        (repeat apply Exists.intro)
        refine ⟨⟨_, _, _, _, HST, HI2⟩, rfl⟩
      case measure => rw [hm0, HI2.out.left_eq]; exact hlt
end Go.Proofs.YtfoleblcaloeoaaDoor

/- A page of the process 1, plain; copies of a law's machine. -/
namespace Go.Proofs.YtfoleblcaloeoaaDoor
open Go Go.RowKit

theorem Copy_ms {W0 w : World} {L : List Nat} {m : Nat} {M : Mo} (h : MS W0 L w m M) :
    Calls Tryd.prog 13 #[.pointer (some ⟨m, 0, none⟩)] w fun e w' => (∃ m', e = .returned (.pointer (some ⟨m', 0, none⟩)) ∧ MS w [] w' m' M) ∧ Chg [] w w' := by
  obtain ⟨⟨O, h1, h2, h3⟩, h4, h5⟩ := h
  refine (Copy_any h1).mono ?_
  rintro e w' ⟨⟨m', O', rfl, k1, k2⟩, hc⟩
  exact ⟨⟨m', rfl, ⟨O', k1, k2, fun k hk => (List.not_mem_nil hk).elim⟩, fun k hk => (List.not_mem_nil hk).elim, hc⟩, hc⟩
/-- a step of a copy, which is then gone -/
theorem Step_copy {w w1 : World} {m : Nat} {M : Mo} (h : MS w [] w1 m M) (hf : FW w) {x : Cl} {v : Value} {r : Rs} {u : Value} (hx : x.Ok) (hv : RB w1 v x.l) (hr : r.Ok) (hu : RB w1 u r.l) :
    Calls Tryd.prog 12 #[.pointer (some ⟨m, 0, none⟩), .agg (clc x v), .agg (rsc r u)] w1 fun e w' => e = .returned (.bool (stepB M x r)) ∧ Chg [] w w' := by
  refine (Step_ms h hf hx hv hr hu).mono ?_
  rintro e w' ⟨rfl, h2, _⟩
  exact ⟨rfl, h2.chg⟩
/-! ## Plain -/
def cSt (a : Int) (b : List Nat) : Cl := { zCl with k := 9, p := 1, a := a, l := b }
def cPr (g c : Int) (r : Nat) : Cl := { zCl with k := 5, p := 1, g := g, c := c, r := r }
def cUm (g c : Int) : Cl := { zCl with k := 4, p := 1, g := g, c := c }
theorem mm_built (g : Int) (r : Nat) : BC [(0, .int .u8 3), (1, .int .i64 1), (3, .int .i64 g), (4, .int .i64 1), (7, .int .u8 r)] (cMm g 1 r) zV := ⟨by kernel_rfl⟩
theorem pr_built (g : Int) (r : Nat) : BC [(0, .int .u8 5), (1, .int .i64 1), (3, .int .i64 g), (4, .int .i64 1), (7, .int .u8 r)] (cPr g 1 r) zV := ⟨by kernel_rfl⟩
theorem um_built (g : Int) : BC [(0, .int .u8 4), (1, .int .i64 1), (3, .int .i64 g), (4, .int .i64 1)] (cUm g 1) zV := ⟨by kernel_rfl⟩
theorem st_built (a : Int) (b : List Nat) (A : Option Addr) (n c : Nat) : BC [(0, .int .u8 9), (1, .int .i64 1), (5, .int .i64 a), (10, .slice A n c)] (cSt a b) (.slice A n c) := ⟨by kernel_rfl⟩
theorem ld_built (a s : Int) : BC [(0, .int .u8 8), (1, .int .i64 1), (5, .int .i64 a), (6, .int .i64 s)] (cLd a s) zV := ⟨by kernel_rfl⟩
theorem mm_ok {g : Int} {r : Nat} (hg : 0 ≤ g ∧ g ≤ 1023) (hr : r < 256) : (cMm g 1 r).Ok := by constructor <;> simp [cMm, zCl] <;> first | exact hr | omega
theorem pr_ok {g : Int} {r : Nat} (hg : 0 ≤ g ∧ g ≤ 1023) (hr : r < 256) : (cPr g 1 r).Ok := by constructor <;> simp [cPr, zCl] <;> first | exact hr | omega
theorem um_ok {g : Int} (hg : 0 ≤ g ∧ g ≤ 1023) : (cUm g 1).Ok := by constructor <;> simp [cUm, zCl] <;> omega
theorem st_ok {a : Int} {b : List Nat} (ha : 0 ≤ a ∧ a ≤ 300000) (hb : ∀ y ∈ b, y < 256) : (cSt a b).Ok := by constructor <;> simp [cSt, zCl] <;> first | exact hb | omega
theorem ld_ok {a s : Int} (ha : 0 ≤ a ∧ a ≤ 300000) (hs : 0 ≤ s ∧ s ≤ 1000) : (cLd a s).Ok := by constructor <;> simp [cLd, zCl] <;> omega
theorem mm_nw {c : Cf} (hc : mayB c = true) {g : Int} {r : Nat} (hg : 0 ≤ g ∧ g ≤ 1023) (hr : 1 ≤ r ∧ r ≤ 3) : wrongK c (cMm g 1 r) = false := by
  refine nw_of hc ?_ ?_ ?_ ?_ rfl rfl rfl rfl rfl
  · unfold mayK
    rw [show bareK (cMm g 1 r) = cMm g 1 r from rfl]
    simp [sameB, cMm, zCl, fld]
  · show (true && !(decide (1 ≤ (1 : Int) ∧ (1 : Int) ≤ 1024) && decide (0 ≤ g ∧ g ≤ 1024 - 1))) = false
    rw [decide_eq_true (show 0 ≤ g ∧ g ≤ 1024 - 1 by omega)]; rfl
  · show (true && !decide (0 ≤ g ∧ g ≤ 1023)) = false
    rw [decide_eq_true hg]; rfl
  · show (true && !decide (1 ≤ ((r : Nat) : Int) ∧ ((r : Nat) : Int) ≤ 3)) = false
    rw [decide_eq_true (show 1 ≤ ((r : Nat) : Int) ∧ ((r : Nat) : Int) ≤ 3 by omega)]; rfl
theorem pr_nw {c : Cf} (hc : mayB c = true) {g : Int} {r : Nat} (hg : 0 ≤ g ∧ g ≤ 1023) (hr : 1 ≤ r ∧ r ≤ 3) : wrongK c (cPr g 1 r) = false := by
  refine nw_of hc ?_ ?_ ?_ ?_ rfl rfl rfl rfl rfl
  · unfold mayK
    rw [show bareK (cPr g 1 r) = cPr g 1 r from rfl]
    simp [sameB, cPr, zCl, fld]
  · show (true && !(decide (1 ≤ (1 : Int) ∧ (1 : Int) ≤ 1024) && decide (0 ≤ g ∧ g ≤ 1024 - 1))) = false
    rw [decide_eq_true (show 0 ≤ g ∧ g ≤ 1024 - 1 by omega)]; rfl
  · show (true && !decide (0 ≤ g ∧ g ≤ 1023)) = false
    rw [decide_eq_true hg]; rfl
  · show (true && !decide (1 ≤ ((r : Nat) : Int) ∧ ((r : Nat) : Int) ≤ 3)) = false
    rw [decide_eq_true (show 1 ≤ ((r : Nat) : Int) ∧ ((r : Nat) : Int) ≤ 3 by omega)]; rfl
theorem um_nw {c : Cf} (hc : mayB c = true) {g : Int} (hg : 0 ≤ g ∧ g ≤ 1023) : wrongK c (cUm g 1) = false := by
  refine nw_of hc ?_ ?_ ?_ rfl rfl rfl rfl rfl rfl
  · unfold mayK
    rw [show bareK (cUm g 1) = cUm g 1 from rfl]
    simp [sameB, cUm, zCl, fld]
  · show (true && !(decide (1 ≤ (1 : Int) ∧ (1 : Int) ≤ 1024) && decide (0 ≤ g ∧ g ≤ 1024 - 1))) = false
    rw [decide_eq_true (show 0 ≤ g ∧ g ≤ 1024 - 1 by omega)]; rfl
  · show (true && !decide (0 ≤ g ∧ g ≤ 1023)) = false
    rw [decide_eq_true hg]; rfl
theorem st_nw {c : Cf} (hc : mayB c = true) {g : Int} {o : Nat} {b : List Nat} (hg : 0 ≤ g ∧ g ≤ 1023) (hb : 1 ≤ b.length ∧ b.length ≤ 8) (ho : o + b.length ≤ 256) : wrongK c (cSt (256 * g + o) b) = false := by
  refine nw_of hc ?_ rfl rfl rfl rfl rfl rfl ?_ rfl
  · unfold mayK
    rw [show bareK (cSt (256 * g + o) b) = cSt (256 * g + o) b from rfl]
    simp [sameB, cSt, zCl, fld, hb.2]
  · have e : sizeK (cSt (256 * g + o) b) = b.length := rfl
    have e2 : (cSt (256 * g + o) b).a = 256 * g + o := rfl
    unfold t7K accB
    rw [e, e2, Int.tmod_eq_emod_of_nonneg (by omega), decide_eq_true (show (1 ≤ (b.length : Int) ∧ (b.length : Int) ≤ 8) ∧ 0 ≤ 256 * g + (o : Int) ∧ 256 * g + (o : Int) ≤ 262144 - (b.length : Int) by omega), decide_eq_true (show (256 * g + (o : Int)) % 256 ≤ 256 - (b.length : Int) by omega)]
    simp
theorem ld_nw {c : Cf} (hc : mayB c = true) {g : Int} {o n : Nat} (hg : 0 ≤ g ∧ g ≤ 1023) (hb : 1 ≤ n ∧ n ≤ 8) (ho : o + n ≤ 256) : wrongK c (cLd (256 * g + o) n) = false := by
  refine nw_of hc ?_ rfl rfl rfl rfl rfl rfl ?_ rfl
  · unfold mayK
    rw [show bareK (cLd (256 * g + o) n) = cLd (256 * g + o) n from rfl]
    simp [sameB, cLd, zCl, fld]
  · have e : sizeK (cLd (256 * g + o) n) = n := rfl
    have e2 : (cLd (256 * g + o) n).a = 256 * g + o := rfl
    unfold t7K accB
    rw [e, e2, Int.tmod_eq_emod_of_nonneg (by omega), decide_eq_true (show (1 ≤ (n : Int) ∧ (n : Int) ≤ 8) ∧ 0 ≤ 256 * g + (o : Int) ∧ 256 * g + (o : Int) ≤ 262144 - (n : Int) by omega), decide_eq_true (show (256 * g + (o : Int)) % 256 ≤ 256 - (n : Int) by omega)]
    simp
theorem stepB_pl {M : Mo} {x : Cl} (r : Rs) (hw : wrongK M.c x = false) (hf : freeK x.k r.e = false) : stepB M x r = sameRs r (answerA M x r.v).1 := by
  rw [stepB_ok r hw, hf]; rfl
/-- process 1 has the runs rl; its page g holds b from o on -/
structure PgI (M : Mo) (g : Int) (rl : List Ar.Rn) (b : List Nat) (o : Nat) : Prop where
  c : mayB M.c = true
  pr : ∃ q B, M.pr 1 = some q ∧ q.rl = rl ∧ q.pg g = some B ∧ B.length = 256 ∧ (B.drop o).take b.length = b
section
variable {M : Mo} {g : Int} {rl : List Ar.Rn} {b : List Nat} {o : Nat}
theorem at_page {g : Int} {o : Nat} (ho : o < 256) : (256 * g + (o : Int)) / 256 = g ∧ ((256 * g + (o : Int)) % 256).toNat = o := by omega
theorem pi_load (h : PgI M g rl b o) (hg : 0 ≤ g ∧ g ≤ 1023) (hb : 1 ≤ b.length ∧ b.length ≤ 8) (ho : o + b.length ≤ 256) (h0 : Ar.rt rl g ≠ 0) :
    stepB M (cLd (256 * g + o) b.length) ⟨0, 0, b⟩ = decide (Ar.rt rl g % 2 ≠ 0) ∧ stepB M (cLd (256 * g + o) b.length) ⟨190, 0, []⟩ = decide (Ar.rt rl g % 2 = 0) ∧ ∀ r, (stepB M (cLd (256 * g + o) b.length) r = true → True) ∧ stepM M (cLd (256 * g + o) b.length) r = M := by
  obtain ⟨q, B, h1, rfl, h3, h4, h5⟩ := h.pr
  obtain ⟨e1, e2⟩ := at_page (g := g) (o := o) (by omega)
  have hw := ld_nw h.c hg hb ho
  have ha : ∀ v, answerA M (cLd (256 * g + o) b.length) v = if Ar.rt q.rl g % 2 = 0 then (plainR 190, none) else (⟨0, 0, b⟩, none) := fun v => by
    show (match M.pr 1 with | none => (plainR 7, none) | some p => procA M (cLd (256 * g + o) b.length) v p) = _
    rw [h1]
    show ((accessA q (cLd (256 * g + o) b.length)).1, (accessA q (cLd (256 * g + o) b.length)).2.map fun q => { M with pr := upd M.pr 1 (some q) }) = _
    unfold accessA
    show ((if Ar.rt q.rl ((256 * g + (o : Int)) / 256) = 0 then (plainR 7, none) else if (8 : Nat) = 8 then (if Ar.rt q.rl ((256 * g + (o : Int)) / 256) % 2 = 0 then (plainR 190, none) else (⟨0, 0, (((q.pg ((256 * g + (o : Int)) / 256)).getD zeroPg).drop ((256 * g + (o : Int)) % 256).toNat).take ((b.length : Int).toNat)⟩, none)) else _ : Rs × Option Pr)).map id (fun z => z.map fun q => { M with pr := upd M.pr 1 (some q) }) = _
    rw [e1, e2, if_neg h0, if_pos rfl, h3, Option.getD_some, Int.toNat_natCast, h5]
    by_cases hr : Ar.rt q.rl g % 2 = 0
    · rw [if_pos hr, if_pos hr]; rfl
    · rw [if_neg hr, if_neg hr]; rfl
  refine ⟨?_, ?_, fun r => ⟨fun _ => trivial, ?_⟩⟩
  · rw [stepB_pl _ hw rfl, ha]
    by_cases hr : Ar.rt q.rl g % 2 = 0 <;> simp [hr, sameRs, plainR]
  · rw [stepB_pl _ hw rfl, ha]
    by_cases hr : Ar.rt q.rl g % 2 = 0 <;> simp [hr, sameRs, plainR]
  · unfold stepM
    split
    · rfl
    · rw [ha]; split <;> rfl
theorem splice_len {b : List Nat} {a : Nat} {l : List Nat} (h : a + l.length ≤ b.length) : (splice b a l).length = b.length := by
  unfold splice; simp; omega
theorem splice_at {b : List Nat} {a : Nat} {l : List Nat} (h : a + l.length ≤ b.length) : ((splice b a l).drop a).take l.length = l := by
  unfold splice
  rw [List.append_assoc, List.drop_left' (by simp; omega), List.take_left' rfl]
theorem pi_store (h : PgI M g rl b o) (hg : 0 ≤ g ∧ g ≤ 1023) (hb : 1 ≤ b.length ∧ b.length ≤ 8) (ho : o + b.length ≤ 256) (h0 : Ar.rt rl g ≠ 0) :
    stepB M (cSt (256 * g + o) b) ⟨0, 0, []⟩ = decide (2 ≤ Ar.rt rl g) ∧ stepB M (cSt (256 * g + o) b) ⟨190, 0, []⟩ = decide (Ar.rt rl g < 2) := by
  obtain ⟨q, B, h1, rfl, h3, h4, h5⟩ := h.pr
  obtain ⟨e1, e2⟩ := at_page (g := g) (o := o) (by omega)
  have hw := st_nw h.c hg hb ho
  have ha : ∀ v, (answerA M (cSt (256 * g + o) b) v).1 = if Ar.rt q.rl g < 2 then plainR 190 else plainR 0 := fun v => by
    show (match M.pr 1 with | none => (plainR 7, none) | some p => procA M (cSt (256 * g + o) b) v p).1 = _
    rw [h1]
    show (accessA q (cSt (256 * g + o) b)).1 = _
    unfold accessA
    show ((if Ar.rt q.rl ((256 * g + (o : Int)) / 256) = 0 then (plainR 7, none) else if (9 : Nat) = 8 then _ else (if Ar.rt q.rl ((256 * g + (o : Int)) / 256) < 2 then (plainR 190, none) else (plainR 0, some _)) : Rs × Option Pr)).1 = _
    rw [e1, if_neg h0, if_neg (by decide)]
    by_cases hr : Ar.rt q.rl g < 2
    · rw [if_pos hr, if_pos hr]
    · rw [if_neg hr, if_neg hr]
  refine ⟨?_, ?_⟩
  · rw [stepB_pl _ hw rfl, ha]
    by_cases hr : Ar.rt q.rl g < 2
    · have : ¬ 2 ≤ Ar.rt q.rl g := by omega
      simp [hr, this, sameRs, plainR]
    · have : 2 ≤ Ar.rt q.rl g := by omega
      simp [hr, this, sameRs, plainR]
  · rw [stepB_pl _ hw rfl, ha]
    by_cases hr : Ar.rt q.rl g < 2 <;> simp [hr, sameRs, plainR]
theorem one_map {g : Int} (hg : 0 ≤ g ∧ g ≤ 1023) {r : Int} (hr : 1 ≤ r ∧ r ≤ 3) : Ar.mapE [] g 1 r = 0 ∧ Ar.mapR [] g 1 r = [⟨g, 1, r⟩] := by
  have h1 : Ar.mayB g 1 = true := by unfold Ar.mayB; exact decide_eq_true (by omega)
  have h2 : Ar.rgB r = true := by unfold Ar.rgB; exact decide_eq_true hr
  have h3 : Ar.withL [] g 1 r = [⟨g, 1, r⟩] := by
    unfold Ar.withL Ar.endL
    simp [Ar.putL]
    omega
  unfold Ar.mapE Ar.mapR
  rw [h3]
  simp [h1, h2, Ar.cntL, Ar.setE, Ar.setR]
theorem one_pr {g : Int} (hg : 0 ≤ g ∧ g ≤ 1023) {r s : Int} (hr : 1 ≤ r ∧ r ≤ 3) (hs : 1 ≤ s ∧ s ≤ 3) : Ar.prE [⟨g, 1, r⟩] g 1 s = 0 ∧ Ar.prR [⟨g, 1, r⟩] g 1 s = [⟨g, 1, s⟩] := by
  have h1 : Ar.mayB g 1 = true := by unfold Ar.mayB; exact decide_eq_true (by omega)
  have h2 : Ar.rgB s = true := by unfold Ar.rgB; exact decide_eq_true hs
  have h3 : Ar.withL [⟨g, 1, r⟩] g 1 s = [⟨g, 1, s⟩] := by
    have a1 : min (g + 1) g - g = 0 := by omega
    have a2 : max g (g + 1) = g + 1 := by omega
    have a3 : g < g + 1 := by omega
    unfold Ar.withL Ar.endL
    show (if (Ar.stepL g 1 s ([], false) ⟨g, 1, r⟩).2 = true then (Ar.stepL g 1 s ([], false) ⟨g, 1, r⟩).1 else _) = _
    have a4 : Ar.stepL g 1 s ([], false) ⟨g, 1, r⟩ = ([⟨g, 1, s⟩], true) := by
      unfold Ar.stepL
      show (Ar.putL (if g < g + 1 then (if false = true then Ar.putL [] ⟨g, min (g + 1) g - g, r⟩ else Ar.putL (Ar.putL [] ⟨g, min (g + 1) g - g, r⟩) ⟨g, 1, s⟩, true) else (Ar.putL [] ⟨g, min (g + 1) g - g, r⟩, false)).1 ⟨max g (g + 1), g + 1 - max g (g + 1), r⟩, (if g < g + 1 then (if false = true then Ar.putL [] ⟨g, min (g + 1) g - g, r⟩ else Ar.putL (Ar.putL [] ⟨g, min (g + 1) g - g, r⟩) ⟨g, 1, s⟩, true) else (Ar.putL [] ⟨g, min (g + 1) g - g, r⟩, false)).2) = _
      rw [a1, a2, if_pos a3, if_neg (by decide), show g + 1 - (g + 1) = 0 by omega]
      have b1 : Ar.putL [] ⟨g, 0, r⟩ = [] := by simp [Ar.putL]
      rw [b1]
      have b2 : Ar.putL [] ⟨g, 1, s⟩ = [⟨g, 1, s⟩] := by simp [Ar.putL]; omega
      rw [b2]
      have b3 : Ar.putL [⟨g, 1, s⟩] ⟨g + 1, 0, r⟩ = [⟨g, 1, s⟩] := by simp [Ar.putL]
      rw [b3]
    rw [a4]
    rfl
  have h4 : Ar.mdE [⟨g, 1, r⟩] g 1 = 0 := by
    unfold Ar.mdE
    rw [h1]
    simp [Ar.cntL, Ar.ovl, Ar.Rn.e]
    omega
  unfold Ar.prE Ar.prR
  rw [h3, h4]
  simp [h2, Ar.setE, Ar.setR]
theorem pi_map {c : Cf} (hc : mayB c = true) (hg : 0 ≤ g ∧ g ≤ 1023) : stepB (newMo c) cSp ⟨0, 1, []⟩ = true ∧
    (stepB (stepM (newMo c) cSp ⟨0, 1, []⟩) (cMm g 1 3) ⟨0, 0, []⟩ = true ∧ (stepM (stepM (newMo c) cSp ⟨0, 1, []⟩) (cMm g 1 3) ⟨0, 0, []⟩).c = c ∧
    ∃ q, (stepM (stepM (newMo c) cSp ⟨0, 1, []⟩) (cMm g 1 3) ⟨0, 0, []⟩).pr 1 = some q ∧ q.rl = [⟨g, 1, 3⟩] ∧ ∀ y, q.pg y = none) := by
  have hw := mm_nw hc hg (r := 3) (by omega)
  obtain ⟨e1, e2⟩ := one_map hg (r := 3) (by omega)
  have ha : answerA (newMo c) cSp 1 = (⟨0, 1, []⟩, some { (newMo c) with pr := upd (newMo c).pr 1 (some newPr) }) := rfl
  have hs : stepM (newMo c) cSp ⟨0, 1, []⟩ = { (newMo c) with pr := upd (newMo c).pr 1 (some newPr) } := by
    rw [stepM_ok (sp_nw hc) rfl (by rw [ha]; rfl) rfl, ha]; rfl
  refine ⟨by rw [stepB_ok _ (sp_nw hc), ha]; rfl, ?_⟩
  rw [hs]
  have hb : answerA { (newMo c) with pr := upd (newMo c).pr 1 (some newPr) } (cMm g 1 3) 0 = (plainR 0, some { (newMo c) with pr := upd (upd (newMo c).pr 1 (some newPr)) 1 (some { newPr with rl := [⟨g, 1, 3⟩] }) }) := by
    show (plainR (Ar.mapE [] g 1 3), some { (newMo c) with pr := upd (upd (newMo c).pr 1 (some newPr)) 1 (some { newPr with rl := Ar.mapR [] g 1 3 }) }) = _
    rw [e1, e2]
  refine ⟨by rw [stepB_ok _ hw, hb]; rfl, ?_⟩
  rw [stepM_ok hw rfl (by rw [hb]; rfl) rfl, hb]
  exact ⟨rfl, _, rfl, rfl, fun _ => rfl⟩
theorem pi_first {c : Cf} (hM : M.c = c) (hc : mayB c = true) {q : Pr} (hq : M.pr 1 = some q) (hr : q.rl = [⟨g, 1, 3⟩]) (hp : ∀ y, q.pg y = none) (hg : 0 ≤ g ∧ g ≤ 1023) (hb : 1 ≤ b.length ∧ b.length ≤ 8) (ho : o + b.length ≤ 256) :
    stepB M (cSt (256 * g + o) b) ⟨0, 0, []⟩ = true ∧ PgI (stepM M (cSt (256 * g + o) b) ⟨0, 0, []⟩) g [⟨g, 1, 3⟩] b o := by
  obtain ⟨e1, e2⟩ := at_page (g := g) (o := o) (by omega)
  have hw := st_nw (c := M.c) (by rw [hM]; exact hc) hg hb ho
  have hrt : Ar.rt q.rl g = 3 := by rw [hr]; simp [Ar.rt, Ar.Rn.e]; omega
  have ha : ∀ v, answerA M (cSt (256 * g + o) b) v = (plainR 0, some { M with pr := upd M.pr 1 (some { q with pg := upd q.pg g (some (splice zeroPg o b)) }) }) := fun v => by
    show (match M.pr 1 with | none => (plainR 7, none) | some p => procA M (cSt (256 * g + o) b) v p) = _
    rw [hq]
    show ((accessA q (cSt (256 * g + o) b)).1, (accessA q (cSt (256 * g + o) b)).2.map fun q => { M with pr := upd M.pr 1 (some q) }) = _
    have hac : accessA q (cSt (256 * g + o) b) = (plainR 0, some { q with pg := upd q.pg g (some (splice zeroPg o b)) }) := by
      unfold accessA
      show (if Ar.rt q.rl ((256 * g + (o : Int)) / 256) = 0 then (plainR 7, none) else if (9 : Nat) = 8 then _ else (if Ar.rt q.rl ((256 * g + (o : Int)) / 256) < 2 then (plainR 190, none) else (plainR 0, some { q with pg := upd q.pg ((256 * g + (o : Int)) / 256) (some (splice ((q.pg ((256 * g + (o : Int)) / 256)).getD zeroPg) ((256 * g + (o : Int)) % 256).toNat b)) })) : Rs × Option Pr) = _
      rw [e1, e2, hrt, if_neg (by decide), if_neg (by decide), if_neg (by decide), hp g]
      rfl
    rw [hac]
    rfl
  refine ⟨by rw [stepB_pl _ hw rfl, ha]; rfl, ?_⟩
  rw [stepM_ok hw rfl (by rw [ha]; rfl) rfl, ha]
  refine ⟨by show mayB M.c = true; rw [hM]; exact hc, _, splice zeroPg o b, rfl, hr, upd_at _ _ _, ?_, splice_at ?_⟩
  · rw [splice_len (by rw [zeroPg_len]; omega), zeroPg_len]
  · rw [zeroPg_len]; omega
theorem pi_prot {r : Int} {s : Nat} (h : PgI M g [⟨g, 1, r⟩] b o) (hg : 0 ≤ g ∧ g ≤ 1023) (hr : 1 ≤ r ∧ r ≤ 3) (hs : 1 ≤ s ∧ s ≤ 3) :
    stepB M (cPr g 1 s) ⟨0, 0, []⟩ = true ∧ PgI (stepM M (cPr g 1 s) ⟨0, 0, []⟩) g [⟨g, 1, s⟩] b o := by
  obtain ⟨q, B, h1, h2, h3, h4, h5⟩ := h.pr
  have hw := pr_nw h.c hg hs
  obtain ⟨e1, e2⟩ := one_pr hg hr (s := (s : Int)) (by omega)
  have ha : ∀ v, answerA M (cPr g 1 s) v = (plainR 0, some { M with pr := upd M.pr 1 (some { q with rl := [⟨g, 1, s⟩] }) }) := fun v => by
    show (match M.pr 1 with | none => (plainR 7, none) | some p => procA M (cPr g 1 s) v p) = _
    rw [h1]
    show (plainR (Ar.prE q.rl g 1 s), some { M with pr := upd M.pr 1 (some { q with rl := Ar.prR q.rl g 1 s }) }) = _
    rw [h2, e1, e2]
  refine ⟨by rw [stepB_pl _ hw rfl, ha]; rfl, ?_⟩
  rw [stepM_ok hw rfl (by rw [ha]; rfl) rfl, ha]
  exact ⟨h.c, _, B, rfl, rfl, h3, h4, h5⟩
end
end Go.Proofs.YtfoleblcaloeoaaDoor

/- ModelKeeps, plain. -/
namespace Go.Proofs.YtfoleblcaloeoaaDoor
open Go Go.RowKit

theorem rt_with {l : List Ar.Rn} (h : Ar.Sp l) {page count g q : Int} (hm : Ar.mayB page count = true) (hq : ¬ (page ≤ q ∧ q < page + count)) : Ar.rt (Ar.withL l page count g) q = Ar.rt l q := by
  have hm' : 0 ≤ page ∧ 1 ≤ count ∧ count ≤ 1024 ∧ page ≤ 1024 - count := by simpa [Ar.mayB] using hm
  obtain ⟨-, w2⟩ := Ar.with_spec (g := g) h.nm hm'.1 hm'.2.1
  rw [w2, if_neg hq]
theorem rt_set {l m : List Ar.Rn} {q : Int} (h : Ar.rt m q = Ar.rt l q) : Ar.rt (Ar.setR l m) q = Ar.rt l q := by
  unfold Ar.setR
  split
  · rfl
  · exact h
theorem rt_map {l : List Ar.Rn} (h : Ar.Sp l) {page count g q : Int} (hq : Ar.rt l q ≠ 0) : Ar.rt (Ar.mapR l page count g) q = Ar.rt l q := by
  unfold Ar.mapR
  split
  · rfl
  · rename_i h1
    split
    · rfl
    · rename_i h2
      have hm : Ar.mayB page count = true := by
        cases e : Ar.mayB page count with
        | true => rfl
        | false => exact (h1 (.inl e)).elim
      have hm' : 0 ≤ page ∧ 1 ≤ count ∧ count ≤ 1024 ∧ page ≤ 1024 - count := by simpa [Ar.mayB] using hm
      exact rt_set (rt_with h hm fun hin => h2 ((Ar.cnt_pos h.nm (by omega)).2 ⟨q, hin.1, hin.2, hq⟩))
theorem rt_un {l : List Ar.Rn} (h : Ar.Sp l) {page count q : Int} (hq : ¬ (page ≤ q ∧ q < page + count)) : Ar.rt (Ar.unR l page count) q = Ar.rt l q := by
  unfold Ar.unR
  split
  · rfl
  · rename_i h1
    exact rt_set (rt_with h (by cases e : Ar.mayB page count with | true => rfl | false => exact (h1 e).elim) hq)
theorem rt_pr {l : List Ar.Rn} (h : Ar.Sp l) {page count g q : Int} (hq : ¬ (page ≤ q ∧ q < page + count)) : Ar.rt (Ar.prR l page count g) q = Ar.rt l q := by
  unfold Ar.prR
  split
  · rfl
  · split
    · rfl
    · rename_i h1
      exact rt_set (rt_with h (Ar.mdE_may (Classical.byContradiction h1)) hq)
/-- the process p has the page 3 with the rights 3; it holds b from 2 on -/
structure KP (p : Pr) (b : List Nat) : Prop where
  sp : Ar.Sp p.rl
  rt : Ar.rt p.rl 3 = 3
  pg : ∃ B, p.pg 3 = some B ∧ B.length = 256 ∧ (B.drop 2).take b.length = b
structure KI (M : Mo) (b : List Nat) : Prop where
  c : mayB M.c = true
  pr : ∃ p, M.pr 1 = some p ∧ KP p b
/-- the call may touch the page 3 of the process 1 -/
def Touch (x : Cl) : Prop := x.p = 1 ∧ (x.k = 2 ∨ ((x.k = 4 ∨ x.k = 5) ∧ x.g ≤ 3 ∧ 3 < x.g + x.c) ∨ (x.k = 9 ∧ x.a < 1024 ∧ 768 < x.a + x.l.length))
theorem KI.at {M : Mo} {b : List Nat} (h : KI M b) {f : Int → Option Pr} (hf : f 1 = M.pr 1) {ob : Int → Option (List Nat)} {ev : Int → Bool} : KI ⟨M.c, f, ob, ev⟩ b := by
  obtain ⟨p, h1, h2⟩ := h.pr
  exact ⟨h.c, p, hf.trans h1, h2⟩
theorem KI.put {M : Mo} {b : List Nat} (h : KI M b) {z : Int} {q : Option Pr} (hq : z = 1 → ∃ p, q = some p ∧ KP p b) : KI { M with pr := upd M.pr z q } b := by
  by_cases e : z = 1
  · subst e
    obtain ⟨p, rfl, hp⟩ := hq rfl
    exact ⟨h.c, p, (upd_at M.pr 1 (some p) : upd M.pr 1 (some p) 1 = some p), hp⟩
  · exact KI.at h (upd_ne _ _ (fun e2 => e e2.symm))
theorem pids_none {M : Mo} {z : Int} (h : (pids.find? fun p => (M.pr p).isNone) = some z) : M.pr z = none := by
  have := List.find?_some h
  simpa using this
theorem answer_k {M : Mo} {x : Cl} {v : Nat} {b : List Nat} {M' : Mo} (hI : KI M b) (hw : wrongK M.c x = false) (ht : ¬ Touch x) (ha : (answerA M x v).2 = some M') : KI M' b := by
  obtain ⟨p1, hp1, hkp⟩ := hI.pr
  obtain ⟨hsp, hrt, B, hB, hBl, hBb⟩ := hkp
  unfold answerA at ha
  split at ha
  · unfold spawnA at ha
    split at ha
    · rename_i z hz
      obtain rfl := Option.some.inj ha
      exact KI.put hI (fun e => by subst e; rw [pids_none hz] at hp1; cases hp1)
    · cases ha
  split at ha
  · unfold mallocA at ha
    split at ha
    · cases ha
    · obtain rfl := Option.some.inj ha
      exact KI.at hI rfl
  split at ha
  · unfold objA at ha
    split at ha
    · cases ha
    split at ha
    · obtain rfl := Option.some.inj ha; exact KI.at hI rfl
    split at ha
    · cases ha
    split at ha
    · cases ha
    · obtain rfl := Option.some.inj ha; exact KI.at hI rfl
  split at ha
  · cases ha
  split at ha
  · cases ha
  rename_i q hq
  have hqq : x.p = 1 → q = p1 := fun e => by rw [e, hp1] at hq; exact (Option.some.inj hq).symm
  unfold procA at ha
  split at ha
  · rename_i h2
    obtain rfl := Option.some.inj ha
    exact KI.put hI (fun e => (ht ⟨e, .inl h2⟩).elim)
  split at ha
  · obtain rfl := Option.some.inj ha
    exact KI.put hI (fun e => ⟨_, rfl, by obtain rfl := hqq e; exact ⟨hsp, hrt, B, hB, hBl, hBb⟩⟩)
  split at ha
  · cases ha
  split at ha
  · rename_i hk
    obtain rfl := Option.some.inj ha
    refine KI.put hI (fun e => ⟨_, rfl, ?_⟩)
    obtain rfl := hqq e
    unfold changeA
    split
    · exact ⟨hsp.map _ _ _, (rt_map hsp (by rw [hrt]; decide)).trans hrt, B, hB, hBl, hBb⟩
    · rename_i h3
      have hno : ¬ (x.g ≤ 3 ∧ 3 < x.g + x.c) := fun hh => ht ⟨e, .inr (.inl ⟨by omega, hh⟩)⟩
      split
      · refine ⟨hsp.un _ _, (rt_un hsp hno).trans hrt, B, ?_, hBl, hBb⟩
        show (if inR x.g x.c 3 then none else q.pg 3) = some B
        rw [show inR x.g x.c 3 = false from decide_eq_false hno]
        exact hB
      · exact ⟨hsp.pr _ _ _, (rt_pr hsp hno).trans hrt, B, hB, hBl, hBb⟩
  split at ha
  · rename_i hk
    obtain ⟨q', hq', rfl⟩ := Option.map_eq_some_iff.1 ha
    refine KI.put hI (fun e => ⟨q', rfl, ?_⟩)
    obtain rfl := hqq e
    unfold accessA at hq'
    simp only at hq'
    split at hq'
    · cases hq'
    split at hq'
    · split at hq' <;> cases hq'
    · rename_i h8
      split at hq'
      · cases hq'
      · obtain rfl := Option.some.inj hq'
        have h9 : x.k = 9 := by omega
        obtain ⟨a1, a2, a3, a4⟩ := nw_store hw h9
        have hno : ¬ (x.a < 1024 ∧ 768 < x.a + x.l.length) := fun hh => ht ⟨e, .inr (.inr ⟨h9, hh⟩)⟩
        refine ⟨hsp, hrt, B, ?_, hBl, hBb⟩
        show upd q.pg (x.a / 256) _ 3 = some B
        rw [upd_ne _ _ (by omega)]
        exact hB
  split at ha
  · cases ha
  split at ha
  · cases ha
  split at ha
  · obtain rfl := Option.some.inj ha
    exact KI.put hI (fun e => ⟨_, rfl, by obtain rfl := hqq e; exact ⟨hsp, hrt, B, hB, hBl, hBb⟩⟩)
  · cases ha
theorem KI.step {M : Mo} {b : List Nat} (hI : KI M b) {x : Cl} (r : Rs) (ht : wrongK M.c x = false → ¬ Touch x) : KI (stepM M x r) b := by
  unfold stepM
  split
  · exact hI
  · rename_i h
    have hw : wrongK M.c x = false := by
      cases e : wrongK M.c x with
      | false => rfl
      | true => exact (h (.inl e)).elim
    cases ha : (answerA M x r.v).2 with
    | none => exact hI
    | some M' => exact answer_k hI hw (ht hw) ha
end Go.Proofs.YtfoleblcaloeoaaDoor

/- ModelKeeps, plain: behind the loop. -/
namespace Go.Proofs.YtfoleblcaloeoaaDoor
open Go Go.RowKit

theorem k_first {M : Mo} {b : List Nat} (h : PgI M 3 [⟨3, 1, 3⟩] b 2) : KI M b := by
  obtain ⟨q, B, h1, h2, h3, h4, h5⟩ := h.pr
  have hm : Ar.mapR [] 3 1 3 = [⟨3, 1, 3⟩] := (one_map (g := 3) (by omega) (r := 3) (by omega)).2
  refine ⟨h.c, q, h1, ?_, ?_, B, h3, h4, h5⟩
  · rw [h2, ← hm]; exact Ar.Sp.nil.map _ _ _
  · rw [h2]; rfl
theorem k_pg {M : Mo} {b : List Nat} (h : KI M b) : ∃ rl, PgI M 3 rl b 2 ∧ Ar.rt rl 3 = 3 := by
  obtain ⟨p, h1, h2⟩ := h.pr
  obtain ⟨hsp, hrt, B, hB, hBl, hBb⟩ := h2
  exact ⟨p.rl, ⟨h.c, p, B, h1, rfl, hB, hBl, hBb⟩, hrt⟩
theorem k_load {M : Mo} {b : List Nat} (h : KI M b) (hb : 1 ≤ b.length ∧ b.length ≤ 8) : stepB M (cLd 770 b.length) ⟨0, 0, b⟩ = true := by
  obtain ⟨rl, h1, h2⟩ := k_pg h
  have := (pi_load h1 (by omega) hb (by omega) (by rw [h2]; decide)).1
  rw [h2] at this
  exact this
/-- the page 3 is not there -/
structure GI (M : Mo) : Prop where
  c : mayB M.c = true
  pr : ∃ p, M.pr 1 = some p ∧ Ar.Sp p.rl ∧ Ar.rt p.rl 3 = 0 ∧ p.pg 3 = none
/-- it is there, and noughts -/
structure ZI (M : Mo) : Prop where
  c : mayB M.c = true
  pr : ∃ p, M.pr 1 = some p ∧ Ar.rt p.rl 3 = 3 ∧ p.pg 3 = none
theorem k_un {M : Mo} {b : List Nat} (h : KI M b) : (stepB M (cUm 3 1) ⟨0, 0, []⟩ = true ∧ GI (stepM M (cUm 3 1) ⟨0, 0, []⟩)) ∨ (stepB M (cUm 3 1) ⟨0, 0, []⟩ = false ∧ stepB M (cUm 3 1) (plainR 9) = true) := by
  obtain ⟨p, h1, h2⟩ := h.pr
  have hw := um_nw h.c (g := 3) (by omega)
  have hm : Ar.mayB 3 1 = true := rfl
  have ha : ∀ v, answerA M (cUm 3 1) v = (plainR (Ar.unE p.rl 3 1), some { M with pr := upd M.pr 1 (some { p with rl := Ar.unR p.rl 3 1, pg := fun q => if inR 3 1 q then none else p.pg q, ow := fun q => if inR 3 1 q then none else p.ow q }) }) := fun v => by
    show (match M.pr 1 with | none => (plainR 7, none) | some p => procA M (cUm 3 1) v p) = _
    rw [h1]
    rfl
  by_cases hl : 32 < (Ar.withL p.rl 3 1 0).length
  · have e : Ar.unE p.rl 3 1 = 9 := by unfold Ar.unE Ar.setE; rw [if_neg (by rw [hm]; decide), if_pos hl]
    refine .inr ⟨?_, ?_⟩
    · rw [stepB_pl _ hw rfl, ha, e]; rfl
    · rw [stepB_pl _ hw rfl, ha, e]; rfl
  · have e : Ar.unE p.rl 3 1 = 0 := by unfold Ar.unE Ar.setE; rw [if_neg (by rw [hm]; decide), if_neg hl]
    have e2 : Ar.unR p.rl 3 1 = Ar.withL p.rl 3 1 0 := by unfold Ar.unR Ar.setR; rw [if_neg (by rw [hm]; decide), if_neg hl]
    refine .inl ⟨by rw [stepB_pl _ hw rfl, ha, e]; rfl, ?_⟩
    rw [stepM_ok hw rfl (by rw [ha, e]; rfl) rfl, ha]
    refine ⟨h.c, _, rfl, (show Ar.Sp (Ar.unR p.rl 3 1) from h2.sp.un 3 1), ?_, rfl⟩
    show Ar.rt (Ar.unR p.rl 3 1) 3 = 0
    rw [e2, (Ar.with_spec h2.sp.nm (by omega) (by omega)).2, if_pos (by omega)]
theorem k_gone {M : Mo} (h : GI M) {n : Nat} (hn : 1 ≤ n ∧ n ≤ 8) : stepB M (cLd 770 n) (plainR 7) = true := by
  obtain ⟨p, h1, h2, h3, h4⟩ := h.pr
  have hw : wrongK M.c (cLd 770 n) = false := ld_nw (g := 3) (o := 2) h.c (by omega) hn (by omega)
  have ha : ∀ v, (answerA M (cLd 770 n) v).1 = plainR 7 := fun v => by
    show (match M.pr 1 with | none => (plainR 7, none) | some p => procA M (cLd 770 n) v p).1 = _
    rw [h1]
    show (accessA p (cLd 770 n)).1 = _
    unfold accessA
    show ((if Ar.rt p.rl 3 = 0 then (plainR 7, none) else _ : Rs × Option Pr)).1 = _
    rw [if_pos h3]
  rw [stepB_pl _ hw rfl, ha]
  rfl
theorem k_map {M : Mo} (h : GI M) : (stepB M (cMm 3 1 3) ⟨0, 0, []⟩ = true ∧ ZI (stepM M (cMm 3 1 3) ⟨0, 0, []⟩)) ∨ (stepB M (cMm 3 1 3) ⟨0, 0, []⟩ = false ∧ stepB M (cMm 3 1 3) (plainR 9) = true) := by
  obtain ⟨p, h1, h2, h3, h4⟩ := h.pr
  have hw := mm_nw h.c (g := 3) (r := 3) (by omega) (by omega)
  have hm : ¬ (Ar.mayB 3 1 = false ∨ Ar.rgB 3 = false) := by rintro (e | e) <;> cases e
  have hn : ¬ 0 < Ar.cntL p.rl 3 1 := fun hp => by
    obtain ⟨q, a, b, c⟩ := (Ar.cnt_pos h2.nm (by omega)).1 hp
    obtain rfl : q = 3 := by omega
    exact c h3
  have ha : ∀ v, answerA M (cMm 3 1 3) v = (plainR (Ar.mapE p.rl 3 1 3), some { M with pr := upd M.pr 1 (some { p with rl := Ar.mapR p.rl 3 1 3 }) }) := fun v => by
    show (match M.pr 1 with | none => (plainR 7, none) | some p => procA M (cMm 3 1 3) v p) = _
    rw [h1]
    rfl
  by_cases hl : 32 < (Ar.withL p.rl 3 1 3).length
  · have e : Ar.mapE p.rl 3 1 3 = 9 := by unfold Ar.mapE Ar.setE; rw [if_neg hm, if_neg hn, if_pos hl]
    refine .inr ⟨?_, ?_⟩
    · rw [stepB_pl _ hw rfl, ha, e]; rfl
    · rw [stepB_pl _ hw rfl, ha, e]; rfl
  · have e : Ar.mapE p.rl 3 1 3 = 0 := by unfold Ar.mapE Ar.setE; rw [if_neg hm, if_neg hn, if_neg hl]
    have e2 : Ar.mapR p.rl 3 1 3 = Ar.withL p.rl 3 1 3 := by unfold Ar.mapR Ar.setR; rw [if_neg hm, if_neg hn, if_neg hl]
    refine .inl ⟨by rw [stepB_pl _ hw rfl, ha, e]; rfl, ?_⟩
    rw [stepM_ok hw rfl (by rw [ha, e]; rfl) rfl, ha]
    refine ⟨h.c, _, rfl, ?_, h4⟩
    show Ar.rt (Ar.mapR p.rl 3 1 3) 3 = 3
    rw [e2, (Ar.with_spec h2.nm (by omega) (by omega)).2, if_pos (by omega)]
theorem k_zero {M : Mo} (h : ZI M) {n : Nat} (hn : 1 ≤ n ∧ n ≤ 8) : stepB M (cLd 770 n) ⟨0, 0, List.replicate n 0⟩ = true := by
  obtain ⟨p, h1, h3, h4⟩ := h.pr
  have hw : wrongK M.c (cLd 770 n) = false := ld_nw (g := 3) (o := 2) h.c (by omega) hn (by omega)
  have ha : ∀ v, (answerA M (cLd 770 n) v).1 = ⟨0, 0, List.replicate n 0⟩ := fun v => by
    show (match M.pr 1 with | none => (plainR 7, none) | some p => procA M (cLd 770 n) v p).1 = _
    rw [h1]
    show (accessA p (cLd 770 n)).1 = _
    unfold accessA
    show ((if Ar.rt p.rl 3 = 0 then (plainR 7, none) else if (8 : Nat) = 8 then (if Ar.rt p.rl 3 % 2 = 0 then (plainR 190, none) else (⟨0, 0, (((p.pg 3).getD zeroPg).drop 2).take ((n : Int).toNat)⟩, none)) else _ : Rs × Option Pr)).1 = _
    rw [h3, if_neg (by decide), if_pos rfl, if_neg (by decide), h4, Int.toNat_natCast]
    show (⟨0, 0, ((zeroPg).drop 2).take n⟩ : Rs) = _
    unfold zeroPg
    rw [List.drop_replicate, List.take_replicate, Nat.min_eq_left (by omega)]
  rw [stepB_pl _ hw rfl, ha]
  simp [sameRs]
end Go.Proofs.YtfoleblcaloeoaaDoor

/- Pairs of a call and an answer; tame. -/
namespace Go.Proofs.YtfoleblcaloeoaaDoor
open Go Go.RowKit

structure Tw where
  x : Cl
  v : Value
  r : Rs
  u : Value
  rt : Bool
  h : Nat
def twl (t : Tw) : List Value := (clc t.x t.v).toList ++ ((rsc t.r t.u).toList ++ [.bool t.rt, .int .u64 t.h])
theorem twl_len (t : Tw) : (twl t).length = 17 := rfl
structure TwOk (w : World) (t : Tw) : Prop where
  x : t.x.Ok
  r : t.r.Ok
  v : RB w t.v t.x.l
  u : RB w t.u t.r.l
  h : t.h < 18446744073709551616
theorem TwOk.stay {w w' : World} {t : Tw} (h : TwOk w t) (hc : Chg [] w w') : TwOk w' t := ⟨h.x, h.r, h.v.stay hc, h.u.stay hc, h.h⟩
def tameT (t : Tw) : Bool := decide (t.x.l.length ≤ 300) && decide (t.r.l.length ≤ 300)
def tameB (l : List Tw) (n : Nat) : Bool := decide (l.length ≤ n) && l.all tameT
theorem tw_cell {w : World} {g off n c : Nat} {l : List Tw} (h : RE twl 17 w (.slice (some ⟨g, off, none⟩) n c) l) {k : Nat} (hk : k < l.length) {j : Nat} {u : Value} (hj : j < 17) (hu : (twl l[k])[j]? = some u) : w.cell? ⟨g, off + k * 17 + j, none⟩ = some u :=
  RE.cell twl_len h hk hj hu
set_option maxRecDepth 20000 in
set_option maxHeartbeats 4000000 in
theorem tame_any {w : World} {l : List Tw} {V : Value} (hV : RE twl 17 w V l) (hO : ∀ t ∈ l, TwOk w t) {n : Nat} (hn : n ≤ 100) :
    Calls Tryd.prog 8 #[V, .int .i64 n] w fun e w' => e = .returned (.bool (tameB l n)) ∧ w = w' := by
  obtain ⟨A, c, rfl⟩ := RE.form hV
  obtain ⟨R, hR⟩ : ∃ R, R = tameB l n := ⟨_, rfl⟩
  rw [← hR]
  have HR := hide hR
  have HV := hide hV
  have HO := hide hO
  clear hR hV hO
  by_cases hl : n < l.length
  · have d1 : decide ((n : Int) < (l.length : Int)) = true := decide_eq_true (by omega)
    have d1' : decide (n < l.length) = true := decide_eq_true hl
    have e : R = false := by rw [HR.out]; unfold tameB; rw [decide_eq_false (by omega)]; rfl
    subst e
    clear hl
    go_enter Tryd.func8, Tryd.ntmps8
    go_wp2_with fail
    go_ret
    (first | exact ⟨rfl, rfl⟩ | exact ⟨rfl, trivial⟩)
  have d1 : decide ((n : Int) < (l.length : Int)) = false := decide_eq_false (by omega)
  have d1' : decide (n < l.length) = false := decide_eq_false hl
  have HL := hide hl
  have hl1 : l.length ≤ 100 := by omega
  clear hl
  go_enter Tryd.func8, Tryd.ntmps8
  go_upto_region 4 with (fail)
  clear d1 d1'
  go_loopw [12] (fun i wr => wr = w ∧ ∃ k : Nat, k ≤ l.length ∧ i = .int .i64 k ∧ Hid ((l.take k).all tameT = true)) (fun i _ => l.length - (intOf i).toNat)
  case atStart => exact ⟨rfl, 0, by omega, rfl, hide rfl⟩
  case round =>
    obtain ⟨rfl, k, hk, rfl, hall⟩ := hrel
    by_cases hkl : k < l.length
    · obtain ⟨g, off, rfl⟩ := RE.addr HV.out (show 0 < l.length by omega)
      have ht := HO.out _ (List.getElem_mem hkl)
      obtain ⟨A1, c1, e1⟩ := RE.form ht.v
      obtain ⟨A2, c2, e2⟩ := RE.form ht.u
      have q1 : wr.cell? ⟨g, off + k * 17 + 11, none⟩ = some (.slice A1 l[k].x.l.length c1) := by
        have := tw_cell HV.out hkl (j := 11) (u := l[k].v) (by omega) rfl
        rw [this, e1]
      have q2 : wr.cell? ⟨g, off + k * 17 + 14, none⟩ = some (.slice A2 l[k].r.l.length c2) := by
        have := tw_cell HV.out hkl (j := 14) (u := l[k].u) (by omega) rfl
        rw [this, e2]
      obtain ⟨n1, hn1⟩ : ∃ n, n = l[k].x.l.length := ⟨_, rfl⟩
      obtain ⟨n2, hn2⟩ : ∃ n, n = l[k].r.l.length := ⟨_, rfl⟩
      rw [← hn1] at q1
      rw [← hn2] at q2
      have htk : (l.take (k + 1)).all tameT = (decide (n1 ≤ 300) && decide (n2 ≤ 300)) := by
        rw [List.take_succ_eq_append_getElem hkl, List.all_append, hall.out, Bool.true_and]
        show (tameT l[k] && true) = _
        rw [Bool.and_true]
        unfold tameT
        rw [hn1, hn2]
      have hno : (l.take (k + 1)).all tameT = false → R = false := fun h => by
        rw [HR.out]
        unfold tameB
        cases h2 : l.all tameT with
        | false => simp
        | true =>
          have : (l.take (k + 1)).all tameT = true := List.all_eq_true.2 fun x hx => List.all_eq_true.1 h2 x (List.mem_of_mem_take hx)
          rw [h] at this; cases this
      have HTK := hide htk
      have HNO := hide hno
      have d2 : decide ((k : Int) < (l.length : Int)) = true := decide_eq_true (by omega)
      have d2' : decide (k < l.length) = true := decide_eq_true hkl
      have i0 : (0 : Int) ≤ (k : Int) := by omega
      have i1 : (k : Int) < (l.length : Int) := by omega
      have hwi : IntKind.i64.wrap ((k : Int) + 1) = (k : Int) + 1 := by rw [IntKind.wrap_i64]; omega
      have HKL := hide hkl
      clear ht e1 e2 hn1 hn2 htk hno hall hk
      by_cases h1 : n1 ≤ 300
      · have d3 : decide ((300 : Int) < (n1 : Int)) = false := decide_eq_false (by omega)
        have d3' : decide (300 < n1) = false := decide_eq_false (by omega)
        have H1 := hide h1
        clear h1
        by_cases h2 : n2 ≤ 300
        · have d4 : decide ((300 : Int) < (n2 : Int)) = false := decide_eq_false (by omega)
          have d4' : decide (300 < n2) = false := decide_eq_false (by omega)
          have H2 := hide h2
          clear h2 hkl
          go_wp2_with fail
          go_roundw
          case rel => exact ⟨trivial, k + 1, by have := HKL.out; omega, by go_num, hide (by rw [HTK.out, decide_eq_true H1.out, decide_eq_true H2.out]; rfl)⟩
          case measure => have := HKL.out; simp [intOf]; omega
        · have d4 : decide ((300 : Int) < (n2 : Int)) = true := decide_eq_true (by omega)
          have d4' : decide (300 < n2) = true := decide_eq_true (by omega)
          have e := HNO.out (by rw [HTK.out, decide_eq_false h2]; simp)
          clear h2 hkl
          subst e
          go_wp2_with fail
          go_ret
          (first | exact ⟨rfl, rfl⟩ | exact ⟨rfl, trivial⟩)
      · have d3 : decide ((300 : Int) < (n1 : Int)) = true := decide_eq_true (by omega)
        have d3' : decide (300 < n1) = true := decide_eq_true (by omega)
        have e := HNO.out (by rw [HTK.out, decide_eq_false h1]; rfl)
        clear h1 hkl
        subst e
        go_wp2_with fail
        go_ret
        (first | exact ⟨rfl, rfl⟩ | exact ⟨rfl, trivial⟩)
    · obtain rfl : k = l.length := by omega
      have e : R = true := by
        rw [HR.out]
        unfold tameB
        have h := hall.out
        rw [List.take_length] at h
        have := HL.out
        rw [h, decide_eq_true (by omega)]
        rfl
      subst e
      clear hall
      go_wp2_with fail
      go_ret
      (first | exact ⟨rfl, rfl⟩ | exact ⟨rfl, trivial⟩)
end Go.Proofs.YtfoleblcaloeoaaDoor

/- A pair out of a list. -/
namespace Go.Proofs.YtfoleblcaloeoaaDoor
open Go Go.RowKit

theorem tw_ldX {w : World} {g off n c : Nat} {l : List Tw} (h : RE twl 17 w (.slice (some ⟨g, off, none⟩) n c) l) {k : Nat} (hk : k < l.length) : (loadVar 42 ⟨g, off + k * 17, none⟩).run Tryd.prog w = .ok (.agg (clc l[k].x l[k].v)) w := by
  have := run_loadVar_mid (P := Tryd.prog) w g (off + k * 17) 42 (clc l[k].x l[k].v).toList _ (fun j v hv => by
    have hj : j < 12 := (List.getElem?_eq_some_iff.1 hv).1
    exact tw_cell h hk (j := j) (u := v) (by omega) (by unfold twl; rw [List.getElem?_append_left hj]; exact hv)) Tryd.underlying42 rfl (by rw [Array.length_toList]; exact info34)
  simpa using this
theorem tw_ldR {w : World} {g off n c : Nat} {l : List Tw} (h : RE twl 17 w (.slice (some ⟨g, off, none⟩) n c) l) {k : Nat} (hk : k < l.length) : (loadVar 45 ⟨g, off + k * 17 + 12, none⟩).run Tryd.prog w = .ok (.agg (rsc l[k].r l[k].u)) w := by
  have := run_loadVar_mid (P := Tryd.prog) w g (off + k * 17 + 12) 45 (rsc l[k].r l[k].u).toList _ (fun j v hv => by
    have hj : j < 3 := (List.getElem?_eq_some_iff.1 hv).1
    have := tw_cell h hk (j := 12 + j) (u := v) (by omega) (by
      unfold twl
      rw [List.getElem?_append_right (show (clc l[k].x l[k].v).toList.length ≤ 12 + j by show 12 ≤ 12 + j; omega)]
      rw [show 12 + j - (clc l[k].x l[k].v).toList.length = j by show 12 + j - 12 = j; omega]
      rw [List.getElem?_append_left hj]; exact hv)
    rwa [← Nat.add_assoc] at this) Tryd.underlying45 rfl (by rw [Array.length_toList]; exact infoRs)
  simpa using this
section
variable {ops : Array Oper} {rest : List Oper} {o : Oper} {a : Act} {w : World} {Q : Exit → Act → World → Prop}
theorem wp_loadAt {K : Act → World → Prop} {ty : TypeId} (z : Operand) (ho : o.op = .load ty z) {ad : Addr} (hx : a.eval z = .pointer (some ad)) {v : Value} (hl : (loadVar ty ad).run Tryd.prog w = .ok v w) (h : K (a.put o.dst v) w) : o.wp Tryd.prog a w K Q := by
  unfold Oper.wp execOp
  simp only [ho, hx, Sem.run_bind, Instr.loadAt, Instr.sureAddr, Sem.run_pure, Result.andThen_ok, hl]
  exact h
theorem wpList_loadAtW {ty : TypeId} (z : Operand) (ho : o.op = .load ty z) {ad : Addr} (hx : a.eval z = .pointer (some ad)) (hw : Region.wanted o (yielded ops a.tmps) = true) {v : Value} (hl : (loadVar ty ad).run Tryd.prog w = .ok v w) (h : wpList Tryd.prog ops Q rest (a.put o.dst v) w) : wpList Tryd.prog ops Q (o :: rest) a w :=
  wpList_step fun K hK => by
    rw [if_pos hw]
    exact wp_loadAt z ho hx hl (hK _ _ h)
theorem wpList_loadAt {ty : TypeId} (hg : o.guard = none) (z : Operand) (ho : o.op = .load ty z) {ad : Addr} (hx : a.eval z = .pointer (some ad)) {v : Value} (hl : (loadVar ty ad).run Tryd.prog w = .ok v w) (h : wpList Tryd.prog ops Q rest (a.put o.dst v) w) : wpList Tryd.prog ops Q (o :: rest) a w :=
  wpList_plain hg fun _ hk => wp_loadAt z ho hx hl (hk _ _ h)
end
end Go.Proofs.YtfoleblcaloeoaaDoor

/- ModelKeeps: its walk (printed by genmuc.py). -/
namespace Go.Proofs.YtfoleblcaloeoaaDoor
open Go Go.RowKit

theorem wrap_in {a : Int} (h1 : -9223372036854775808 ≤ a) (h2 : a ≤ 9223372036854775807) : IntKind.i64.wrap a = a := by rw [IntKind.wrap_i64]; omega
theorem nt_p {x : Cl} (h : x.p ≠ 1) : ¬ Touch x := fun ht => h ht.1
theorem nt_k {x : Cl} (h2 : x.k ≠ 2) (h4 : x.k ≠ 4) (h5 : x.k ≠ 5) (h9 : x.k ≠ 9) : ¬ Touch x := by
  rintro ⟨_, h | ⟨h | h, _⟩ | ⟨h, _⟩⟩
  · exact h2 h
  · exact h4 h
  · exact h5 h
  · exact h9 h
theorem nt_g {c : Cf} {x : Cl} (hw : wrongK c x = false) (hk : x.k = 4 ∨ x.k = 5) (h : ¬ (x.g ≤ 3 ∧ 3 < IntKind.i64.wrap (x.g + x.c))) : ¬ Touch x := by
  have hh : hasB x 99 = true := by rcases hk with hk | hk <;> rw [has_at hk] <;> rfl
  obtain ⟨a1, a2, a3, a4⟩ := nw_range hw hh
  rw [wrap_in (by omega) (by omega)] at h
  rintro ⟨_, h2 | ⟨_, h4⟩ | ⟨h9, _⟩⟩
  · omega
  · exact h h4
  · omega
theorem nt_a {c : Cf} {x : Cl} (hw : wrongK c x = false) (hk : x.k = 9) (h : ¬ (x.a < 1024 ∧ 768 < IntKind.i64.wrap (x.a + x.l.length))) : ¬ Touch x := by
  obtain ⟨a1, a2, a3, a4⟩ := nw_store hw hk
  rw [wrap_in (by omega) (by omega)] at h
  rintro ⟨_, h2 | ⟨h4, _⟩ | ⟨_, h9⟩⟩
  · omega
  · omega
  · exact h h9
theorem mm3_built : BC [(0, .int .u8 3), (1, .int .i64 1), (3, .int .i64 3), (4, .int .i64 1), (7, .int .u8 3)] (cMm 3 1 3) zV := mm_built 3 3
theorem st7_built (b : List Nat) (A : Option Addr) (n c : Nat) : BC [(0, .int .u8 9), (1, .int .i64 1), (5, .int .i64 770), (10, .slice A n c)] (cSt 770 b) (.slice A n c) := st_built 770 b A n c
set_option maxRecDepth 20000 in
set_option maxHeartbeats 40000000 in
theorem keeps_law {w : World} (hf : FW w) (c : Cf) {b : List Nat} {vb : Value} (hvb : RB w vb b) (hb8 : ∀ y ∈ b, y < 256) {l : List Tw} {vl : Value} (hvl : RE twl 17 w vl l) (hlo : ∀ t ∈ l, TwOk w t) :
    Calls Tryd.prog 3 #[.agg (cg c), vb, vl] w fun e w' => e = .returned (.bool true) ∧ Chg [] w w' := by
  obtain ⟨A0, c0, rfl⟩ := RE.form hvb
  obtain ⟨A1, c1, rfl⟩ := RE.form hvl
  obtain ⟨bl, hbl⟩ : ∃ n, n = b.length := ⟨_, rfl⟩
  rw [← hbl] at hvb ⊢
  have HBLN := hide hbl
  have HF := hide hf
  have HM := hide (fun W => rMay_any c W)
  have HK := hide (fun W (h : Chg [] w W) => known_any (hf.stay h))
  have HT := hide (fun W (h : Chg [] w W) => tame_any (hvl.stay h) (fun t ht => (hlo t ht).stay h) (n := 40) (by omega))
  have HVB := hide (fun W (h : Chg [] w W) => RE.stay hvb h)
  have HVL := hide (fun W (h : Chg [] w W) => RE.stay hvl h)
  have HLO := hide (fun W (h : Chg [] w W) t ht => (hlo t ht).stay h)
  have HB8 := hide hb8
  have E0 := hide br_0
  have E1 := hide (br_v 1)
  have E7 := hide (br_e 7)
  have E9 := hide (br_e 9)
  have EB := hide (br_l A0 bl c0 b)
  have D1 := hide sp_built
  have D3 := hide mm3_built
  have DS := hide (st7_built b A0 bl c0)
  have DL := hide (ld_built 770 (bl : Nat))
  have DU := hide (um_built 3)
  obtain ⟨W1, hW1⟩ : ∃ W1, W1 = w.alloc (.cells (cg c) 26) := ⟨_, rfl⟩
  have hb2 : CB W1 w.heap.size c := by rw [hW1]; exact Blk.new w 26 _
  have hc1 : Chg [] w W1 := by rw [hW1]; exact (Chg.refl [] w).alloc _
  have HB2 := hide hb2
  have HC1 := hide hc1
  have HW1 := hide hW1
  clear hf hb2 hc1 hW1 hvb hb8 hvl hlo hbl
  go_enter Tryd.func3, Tryd.ntmps3
  go_upto_region 1 with (first | (refine wpList_box26 rfl _ rfl rfl ?_; try rw [← HW1.out]))
  go_wp2_with fail
  refine (HT.out _ HC1.out).mono ?_
  rintro e W1' ⟨rfl, rfl⟩
  cases htm : tameB l 40 with
  | false =>
    clear htm
    go_wp2_with fail
    refine (HK.out _ HC1.out).mono ?_
    rintro e W9 ⟨rfl, hc9⟩
    go_wp2_with fail
    go_ret
    exact ⟨rfl, HC1.out.stay hc9⟩
  | true =>
  have HTM := hide htm
  clear htm
  go_wp2_with (first | (refine wpList_load26W (b := w.heap.size) (c := c) _ rfl rfl ?_ HB2.out ?_; (focus (simp [Region.wanted, yielded, Act.put]; done))))
  refine (HM.out _).mono ?_
  rintro e W2 ⟨rfl, hc2⟩
  have HC2 := hide (HC1.out.stay hc2)
  have HB22 := hide (show CB W2 w.heap.size c from Blk.chg HB2.out hc2 List.not_mem_nil)
  clear hc2
  cases hm : mayB c with
  | false =>
    clear hm
    go_wp2_with fail
    refine (HK.out _ HC2.out).mono ?_
    rintro e W9 ⟨rfl, hc9⟩
    go_wp2_with fail
    go_ret
    exact ⟨rfl, HC2.out.stay hc9⟩
  | true =>
  have HMB := hide hm
  clear hm
  by_cases hb : 1 ≤ bl ∧ bl ≤ 8
  case neg =>
    by_cases h1 : bl < 1
    · have d1 : decide ((bl : Int) < 1) = true := decide_eq_true (by omega)
      have d1' : decide (bl < 1) = true := decide_eq_true h1
      obtain rfl : bl = 0 := by omega
      clear h1 hb
      go_wp2_with fail
      refine (HK.out _ HC2.out).mono ?_
      rintro e W9 ⟨rfl, hc9⟩
      go_wp2_with fail
      go_ret
      exact ⟨rfl, HC2.out.stay hc9⟩
    · have d1 : decide ((bl : Int) < 1) = false := decide_eq_false (by omega)
      have d1' : bl ≠ 0 := by omega
      have d2 : decide (8 < (bl : Int)) = true := decide_eq_true (by omega)
      have d2' : decide (8 < bl) = true := decide_eq_true (by omega)
      clear h1 hb
      go_wp2_with fail
      refine (HK.out _ HC2.out).mono ?_
      rintro e W9 ⟨rfl, hc9⟩
      go_wp2_with fail
      go_ret
      exact ⟨rfl, HC2.out.stay hc9⟩
  have HBL := hide hb
  have HBB := hide (show 1 ≤ b.length ∧ b.length ≤ 8 by have := HBLN.out; omega)
  have d1 : decide ((bl : Int) < 1) = false := decide_eq_false (by omega)
  have d1' : bl ≠ 0 := by omega
  have d2 : decide (8 < (bl : Int)) = false := decide_eq_false (by omega)
  have d2' : decide (8 < bl) = false := decide_eq_false (by omega)
  clear hb
  go_wp2_with (first | (refine wpList_load26L (b := w.heap.size) (c := c) rfl _ rfl rfl ?_ ?_; (focus exact HB22.out)))
  refine (New_ms (L := []) HMB.out HC2.out (fun k hk => by cases hk)).mono ?_
  rintro e W3 ⟨⟨m, rfl, hms⟩, hc3⟩
  have HMS := hide hms
  clear hms hc3 d1 d1' d2 d2'
  go_upto_region 7 with (first | (refine wpList_build34 rfl _ rfl D1.out ?_ ?_; (focus (simp [Act.eval, Act.put]; done))) | (refine wpList_alloc34 rfl rfl ?_; try go_simp) | (refine wpList_store34 (b := W3.heap.size) (y := cSp) (u := zV) rfl _ _ rfl rfl rfl rfl (Blk.new W3 _ _) ?_; intro W4 h4 hc4; have H9 := hide h4; have HC9 := hide (show Chg [] W3 W4 from ((Chg.refl [] W3).alloc _).trans hc4 (fun y hy => .inr (by obtain rfl := List.mem_singleton.1 hy; exact Nat.le_refl _))); clear h4 hc4))
  obtain ⟨b9, hb9⟩ : ∃ b, b = W3.heap.size := ⟨_, rfl⟩
  rw [← hb9] at H9 ⊢
  have HMS4 := hide (show MS w ([b9] ++ []) W4 m (newMo c) from HMS.out.guard HC9.out [b9] (fun k hk => by obtain rfl := List.mem_singleton.1 hk; have := H9.out.lt; omega))
  clear hb9
  go_upto_region 8 with (first | (refine wpList_build34 rfl _ rfl D3.out ?_ ?_; (focus (simp [Act.eval, Act.put]; done))) | (refine wpList_alloc34 rfl rfl ?_; try go_simp) | (refine wpList_store34 (b := W4.heap.size) (y := cMm 3 1 3) (u := zV) rfl _ _ rfl rfl rfl rfl (Blk.new W4 _ _) ?_; intro W5 h4 hc4; have H10 := hide h4; have HC10 := hide (show Chg [] W4 W5 from ((Chg.refl [] W4).alloc _).trans hc4 (fun y hy => .inr (by obtain rfl := List.mem_singleton.1 hy; exact Nat.le_refl _))); clear h4 hc4))
  obtain ⟨b10, hb10⟩ : ∃ b, b = W4.heap.size := ⟨_, rfl⟩
  rw [← hb10] at H10 ⊢
  have HMS5 := hide (show MS w ([b10] ++ ([b9] ++ [])) W5 m (newMo c) from HMS4.out.guard HC10.out [b10] (fun k hk => by obtain rfl := List.mem_singleton.1 hk; have := H10.out.lt; omega))
  clear hb10
  have H9' := hide (show KB W5 b9 cSp zV from H9.out.chg HC10.out List.not_mem_nil)
  clear H9
  go_wp2_with (first | (refine wpList_load34W (b := b9) (x := cSp) (v := zV) _ rfl rfl ?_ H9'.out ?_; (focus (simp [Region.wanted, yielded, Act.put]; done))) | (refine wpList_buildRsW _ rfl ?_ E1.out ?_ ?_; (focus (simp [Region.wanted, yielded, Act.put]; done)); (focus (simp [Act.eval, Act.put]; done))))
  refine (Step_ms (r := ⟨0, 1, []⟩) HMS5.out HF.out sp_ok (RE.nil ucl 1 _ none 0) (rs_ok (by omega) (by omega)) (RE.nil ucl 1 _ none 0)).mono ?_
  rintro e W6 ⟨rfl, hms, hkp⟩
  have hs := pi_map HMB.out (g := 3) (by omega)
  rw [hs.1]
  have HS := hide hs.2
  have HMS6 := hide hms
  have H10' := hide (show KB W6 b10 (cMm 3 1 3) zV from hkp.blk H10.out (by simp))
  clear hs hms hkp H9' H10
  go_wp2_with (first | (refine wpList_load34W (b := b10) (x := cMm 3 1 3) (v := zV) _ rfl rfl ?_ H10'.out ?_; (focus (simp [Region.wanted, yielded, Act.put]; done))) | (refine wpList_buildRsW _ rfl ?_ E0.out ?_ ?_; (focus (simp [Region.wanted, yielded, Act.put]; done)); (focus (simp [Act.eval, Act.put]; done))))
  refine (Step_ms (r := ⟨0, 0, []⟩) HMS6.out HF.out (mm_ok (by omega) (by omega)) (RE.nil ucl 1 _ none 0) (rs_ok (by omega) (by omega)) (RE.nil ucl 1 _ none 0)).mono ?_
  rintro e W7 ⟨rfl, hms, hkp⟩
  have hs := HS.out
  rw [hs.1]
  obtain ⟨M2, hM2⟩ : ∃ N, N = stepM (stepM (newMo c) cSp ⟨0, 1, []⟩) (cMm 3 1 3) ⟨0, 0, []⟩ := ⟨_, rfl⟩
  rw [← hM2] at hms hs
  obtain ⟨-, hcc, q, hq, hqr, hqp⟩ := hs
  have HS2 := hide (pi_first (b := b) (g := 3) (o := 2) hcc HMB.out hq hqr hqp (by omega) HBB.out (by have := HBB.out; omega))
  have HMS7 := hide hms
  have H107 := hide (show KB W7 b10 (cMm 3 1 3) zV from hkp.blk H10'.out (by simp))
  clear hcc hq hqr hqp hms hkp hM2 HS H10' HMS6 HMS5 HMS4 HMS
  go_wp2_with (first | (refine wpList_build34W _ rfl ?_ DS.out ?_ ?_; (focus (simp [Region.wanted, yielded, Act.put]; done)); (focus (simp [Act.eval, Act.put]; done))) | (refine wpList_buildRsW _ rfl ?_ E0.out ?_ ?_; (focus (simp [Region.wanted, yielded, Act.put]; done)); (focus (simp [Act.eval, Act.put]; done))))
  refine (Step_ms (r := ⟨0, 0, []⟩) HMS7.out HF.out (st_ok (by omega) HB8.out) (HVB.out W7 HMS7.out.chg) (rs_ok (by omega) (by omega)) (RE.nil ucl 1 _ none 0)).mono ?_
  rintro e W8 ⟨rfl, hms, hkp⟩
  rw [show stepB M2 (cSt 770 b) ⟨0, 0, []⟩ = true from HS2.out.1]
  obtain ⟨M3, hM3⟩ : ∃ N, N = stepM M2 (cSt 770 b) ⟨0, 0, []⟩ := ⟨_, rfl⟩
  have HI : KI M3 b := by rw [hM3]; exact k_first HS2.out.2
  rw [← hM3] at hms
  have HI3 := hide HI
  have HMS8 := hide hms
  have H108 := hide (show KB W8 b10 (cMm 3 1 3) zV from hkp.blk H107.out (by simp))
  clear hM3 hms hkp HI HS2 H107 HMS7
  go_upto_region 11 with (fail)
  go_loopw [66] (fun i wr => ∃ k : Nat, k ≤ l.length ∧ i = .int .i64 k ∧ ∃ M, Hid (MS w ([b10] ++ ([b9] ++ [])) wr m M) ∧ Hid (KI M b) ∧ Hid (KB wr b10 (cMm 3 1 3) zV)) (fun i _ => l.length - (intOf i).toNat)
  case atStart => exact ⟨0, by omega, rfl, M3, HMS8, HI3, H108⟩
  case round =>
    obtain ⟨k, hk, rfl, M, hms, hinv, h10⟩ := hrel
    have HMSr := hide hms.out
    have HINV := hide hinv.out
    have H10r := hide h10.out
    clear hms hinv h10
    have hll : l.length ≤ 40 := by have h := HTM.out; unfold tameB at h; simp at h; exact h.1
    by_cases hkl : k < l.length
    · have HVR := hide (fun W (h : Chg [] wr W) => HVL.out W (HMSr.out.chg.stay h))
      have HTX := hide (fun W (h : Chg [] wr W) => HLO.out W (HMSr.out.chg.stay h) _ (List.getElem_mem hkl))
      obtain ⟨g, off, rfl⟩ := RE.addr (HVR.out wr (Chg.refl _ _)) (show 0 < l.length by omega)
      have hlx := tw_ldX (HVR.out wr (Chg.refl _ _)) hkl
      have HLR := hide (fun W (h : Chg [] wr W) => tw_ldR (HVR.out W h) hkl)
      obtain ⟨t, ht⟩ : ∃ t, t = l[k] := ⟨_, rfl⟩
      rw [← ht] at HTX hlx HLR
      clear ht
      obtain ⟨tx, tv, tr, tu, trt, th⟩ := t
      obtain ⟨A2, c2, hv2⟩ := RE.form (HTX.out wr (Chg.refl _ _)).v
      simp only at hv2 hlx HLR
      subst hv2
      obtain ⟨n1, hn1⟩ : ∃ n, n = tx.l.length := ⟨_, rfl⟩
      rw [← hn1] at HTX hlx
      have HN1 := hide hn1
      have dl : decide ((k : Int) < (l.length : Int)) = true := decide_eq_true (by omega)
      have dl' : decide (k < l.length) = true := decide_eq_true hkl
      have i0 : (0 : Int) ≤ (k : Int) := by omega
      have i1 : (k : Int) < (l.length : Int) := by omega
      have hwi : IntKind.i64.wrap ((k : Int) + 1) = (k : Int) + 1 := by rw [IntKind.wrap_i64]; omega
      have HKL := hide hkl
      clear hk hkl hll hn1
      go_upto_region 14 with (first | (refine wpList_loadAt rfl _ rfl rfl hlx ?_) | (refine wpList_alloc34 rfl rfl ?_; try go_simp) | (refine wpList_store34 (b := wr.heap.size) (y := tx) (u := .slice A2 n1 c2) rfl _ _ rfl rfl rfl rfl (Blk.new wr _ _) ?_; intro V4 h4 hc4; have H12 := hide h4; have HC12 := hide (show Chg [] wr V4 from ((Chg.refl [] wr).alloc _).trans hc4 (fun y hy => .inr (by obtain rfl := List.mem_singleton.1 hy; exact Nat.le_refl _))); clear h4 hc4))
      obtain ⟨b12, hb12⟩ : ∃ b, b = wr.heap.size := ⟨_, rfl⟩
      rw [← hb12] at H12 ⊢
      clear hb12 hlx
      obtain ⟨q0, q1, -, q3, q4, q5, -, -, -, -, -, q11, ql, -⟩ := KB.cells H12.out
      obtain ⟨xk, hxk⟩ : ∃ z : Int, z = (tx.k : Int) := ⟨_, rfl⟩
      obtain ⟨xp, hxp⟩ : ∃ z : Int, z = tx.p := ⟨_, rfl⟩
      obtain ⟨xg, hxg⟩ : ∃ z : Int, z = tx.g := ⟨_, rfl⟩
      obtain ⟨xc, hxc⟩ : ∃ z : Int, z = tx.c := ⟨_, rfl⟩
      obtain ⟨xa, hxa⟩ : ∃ z : Int, z = tx.a := ⟨_, rfl⟩
      rw [← hxk] at q0
      rw [← hxp] at q1
      rw [← hxg] at q3
      rw [← hxc] at q4
      rw [← hxa] at q5
      have HXK := hide hxk
      have HXP := hide hxp
      have HXG := hide hxg
      have HXC := hide hxc
      have HXA := hide hxa
      clear hxk hxp hxg hxc hxa
      by_cases e1 : xp = 1
      case neg =>
        have dp : (xp == 1) = false := beq_false_of_ne e1
        have dp' : decide (xp = 1) = false := decide_eq_false e1
        have HNX := hide (show ∀ cc, wrongK cc tx = false → ¬ Touch tx from fun cc hw => nt_p (fun h => e1 (by rw [HXP.out]; exact h)))
        go_upto_region 16 with (fail)
        skip
        refine wp_region_t [0,5,0,0,0,0,5,3] [none, none, none, none, none, none, none, none] (fun W => Chg [] V4 W) (by kernel_rfl) (by kernel_rfl) (by kernel_rfl) ?_
        have hS : Chg [] V4 V4.drew := (Chg.refl [] V4).drew
        generalize V4.drew = W0 at hS ⊢
        go_wp2_with (first | (refine wpG_hload 42 _ rfl rfl (fun w' hw' => KB.load (H12.out.stay hw')) hS ?_) | (refine wpG_hload 45 _ rfl rfl (fun w' hw' => HLR.out w' (HC12.out.stay hw')) hS ?_) | (refine wpG_deed (by decide) (fun K hK => ?_); go_simp; refine (Step_ms (HMSr.out.stay (HC12.out.stay hS)) HF.out (HTX.out W0 (HC12.out.stay hS)).x (HTX.out W0 (HC12.out.stay hS)).v (HTX.out W0 (HC12.out.stay hS)).r (HTX.out W0 (HC12.out.stay hS)).u).mono ?_; rintro e W5 ⟨rfl, hms, hkp⟩; refine hK _ _ ?_; clear hK K) | (refine wpG_calc rfl (fun K hK => ?_)) | (refine wpG_skip ?_ ?_; (focus (simp [wantG]; done)); go_simp) | (refine wpG_take ?_ ?_; (focus (simp [wantG]; done))) | (refine wpG_pure (fun K hK => ?_); go_simp; refine hK _ _ ?_; clear hK K) | (refine wpG_deed (by decide) (fun K hK => ?_); go_simp) | (refine wpG_nil ?_))
        have HMS7 := hide hms
        have H7 := hide (show KB W5 b10 (cMm 3 1 3) zV from hkp.blk (show Blk W0 b10 _ _ from H10r.out.chg (HC12.out.stay hS) List.not_mem_nil) (by simp))
        clear hms hkp
        go_roundw
        case rel => exact ⟨k + 1, by have := HKL.out; omega, by go_num, _, HMS7, hide (HINV.out.step _ (fun hw => HNX.out _ hw)), H7⟩
        case measure => have := HKL.out; simp [intOf]; omega
      subst e1
      by_cases e2 : xk = 2
      · subst e2
        go_wp2_with fail
        go_roundw
        case rel => exact ⟨k + 1, by have := HKL.out; omega, by go_num, M, hide (HMSr.out.stay HC12.out), HINV, hide (H10r.out.stay HC12.out)⟩
        case measure => have := HKL.out; simp [intOf]; omega
      have d2 : (xk == 2) = false := beq_false_of_ne e2
      by_cases e4 : xk = 4
      · subst e4
        by_cases g3 : xg ≤ 3
        · have dg : decide (xg ≤ 3) = true := decide_eq_true g3
          obtain ⟨sg, hsg⟩ : ∃ z : Int, IntKind.i64.wrap (xg + xc) = z := ⟨_, rfl⟩
          by_cases s3 : 3 < sg
          · have ds : decide (3 < sg) = true := decide_eq_true s3
            go_wp2_with fail
            go_roundw
            case rel => exact ⟨k + 1, by have := HKL.out; omega, by go_num, M, hide (HMSr.out.stay HC12.out), HINV, hide (H10r.out.stay HC12.out)⟩
            case measure => have := HKL.out; simp [intOf]; omega
          · have ds : decide (3 < sg) = false := decide_eq_false s3
            have HSG := hide hsg
            have HNX := hide (show ∀ cc, wrongK cc tx = false → ¬ Touch tx from fun cc hw => nt_g hw (.inl (show tx.k = 4 by have := HXK.out; omega)) (fun h => s3 (by rw [← HSG.out, HXG.out, HXC.out]; exact h.2)))
            go_upto_region 16 with (fail)
            clear hsg ds
            refine wp_region_t [0,5,0,0,0,0,5,3] [none, none, none, none, none, none, none, none] (fun W => Chg [] V4 W) (by kernel_rfl) (by kernel_rfl) (by kernel_rfl) ?_
            have hS : Chg [] V4 V4.drew := (Chg.refl [] V4).drew
            generalize V4.drew = W0 at hS ⊢
            go_wp2_with (first | (refine wpG_hload 42 _ rfl rfl (fun w' hw' => KB.load (H12.out.stay hw')) hS ?_) | (refine wpG_hload 45 _ rfl rfl (fun w' hw' => HLR.out w' (HC12.out.stay hw')) hS ?_) | (refine wpG_deed (by decide) (fun K hK => ?_); go_simp; refine (Step_ms (HMSr.out.stay (HC12.out.stay hS)) HF.out (HTX.out W0 (HC12.out.stay hS)).x (HTX.out W0 (HC12.out.stay hS)).v (HTX.out W0 (HC12.out.stay hS)).r (HTX.out W0 (HC12.out.stay hS)).u).mono ?_; rintro e W5 ⟨rfl, hms, hkp⟩; refine hK _ _ ?_; clear hK K) | (refine wpG_calc rfl (fun K hK => ?_)) | (refine wpG_skip ?_ ?_; (focus (simp [wantG]; done)); go_simp) | (refine wpG_take ?_ ?_; (focus (simp [wantG]; done))) | (refine wpG_pure (fun K hK => ?_); go_simp; refine hK _ _ ?_; clear hK K) | (refine wpG_deed (by decide) (fun K hK => ?_); go_simp) | (refine wpG_nil ?_))
            have HMS7 := hide hms
            have H7 := hide (show KB W5 b10 (cMm 3 1 3) zV from hkp.blk (show Blk W0 b10 _ _ from H10r.out.chg (HC12.out.stay hS) List.not_mem_nil) (by simp))
            clear hms hkp
            go_roundw
            case rel => exact ⟨k + 1, by have := HKL.out; omega, by go_num, _, HMS7, hide (HINV.out.step _ (fun hw => HNX.out _ hw)), H7⟩
            case measure => have := HKL.out; simp [intOf]; omega
        · have dg : decide (xg ≤ 3) = false := decide_eq_false g3
          have HNX := hide (show ∀ cc, wrongK cc tx = false → ¬ Touch tx from fun cc hw => nt_g hw (.inl (show tx.k = 4 by have := HXK.out; omega)) (fun h => g3 (by rw [HXG.out]; exact h.1)))
          go_upto_region 16 with (fail)
          skip
          refine wp_region_t [0,5,0,0,0,0,5,3] [none, none, none, none, none, none, none, none] (fun W => Chg [] V4 W) (by kernel_rfl) (by kernel_rfl) (by kernel_rfl) ?_
          have hS : Chg [] V4 V4.drew := (Chg.refl [] V4).drew
          generalize V4.drew = W0 at hS ⊢
          go_wp2_with (first | (refine wpG_hload 42 _ rfl rfl (fun w' hw' => KB.load (H12.out.stay hw')) hS ?_) | (refine wpG_hload 45 _ rfl rfl (fun w' hw' => HLR.out w' (HC12.out.stay hw')) hS ?_) | (refine wpG_deed (by decide) (fun K hK => ?_); go_simp; refine (Step_ms (HMSr.out.stay (HC12.out.stay hS)) HF.out (HTX.out W0 (HC12.out.stay hS)).x (HTX.out W0 (HC12.out.stay hS)).v (HTX.out W0 (HC12.out.stay hS)).r (HTX.out W0 (HC12.out.stay hS)).u).mono ?_; rintro e W5 ⟨rfl, hms, hkp⟩; refine hK _ _ ?_; clear hK K) | (refine wpG_calc rfl (fun K hK => ?_)) | (refine wpG_skip ?_ ?_; (focus (simp [wantG]; done)); go_simp) | (refine wpG_take ?_ ?_; (focus (simp [wantG]; done))) | (refine wpG_pure (fun K hK => ?_); go_simp; refine hK _ _ ?_; clear hK K) | (refine wpG_deed (by decide) (fun K hK => ?_); go_simp) | (refine wpG_nil ?_))
          have HMS7 := hide hms
          have H7 := hide (show KB W5 b10 (cMm 3 1 3) zV from hkp.blk (show Blk W0 b10 _ _ from H10r.out.chg (HC12.out.stay hS) List.not_mem_nil) (by simp))
          clear hms hkp
          go_roundw
          case rel => exact ⟨k + 1, by have := HKL.out; omega, by go_num, _, HMS7, hide (HINV.out.step _ (fun hw => HNX.out _ hw)), H7⟩
          case measure => have := HKL.out; simp [intOf]; omega
      have d4 : (xk == 4) = false := beq_false_of_ne e4
      by_cases e5 : xk = 5
      · subst e5
        by_cases g3 : xg ≤ 3
        · have dg : decide (xg ≤ 3) = true := decide_eq_true g3
          obtain ⟨sg, hsg⟩ : ∃ z : Int, IntKind.i64.wrap (xg + xc) = z := ⟨_, rfl⟩
          by_cases s3 : 3 < sg
          · have ds : decide (3 < sg) = true := decide_eq_true s3
            go_wp2_with fail
            go_roundw
            case rel => exact ⟨k + 1, by have := HKL.out; omega, by go_num, M, hide (HMSr.out.stay HC12.out), HINV, hide (H10r.out.stay HC12.out)⟩
            case measure => have := HKL.out; simp [intOf]; omega
          · have ds : decide (3 < sg) = false := decide_eq_false s3
            have HSG := hide hsg
            have HNX := hide (show ∀ cc, wrongK cc tx = false → ¬ Touch tx from fun cc hw => nt_g hw (.inr (show tx.k = 5 by have := HXK.out; omega)) (fun h => s3 (by rw [← HSG.out, HXG.out, HXC.out]; exact h.2)))
            go_upto_region 16 with (fail)
            clear hsg ds
            refine wp_region_t [0,5,0,0,0,0,5,3] [none, none, none, none, none, none, none, none] (fun W => Chg [] V4 W) (by kernel_rfl) (by kernel_rfl) (by kernel_rfl) ?_
            have hS : Chg [] V4 V4.drew := (Chg.refl [] V4).drew
            generalize V4.drew = W0 at hS ⊢
            go_wp2_with (first | (refine wpG_hload 42 _ rfl rfl (fun w' hw' => KB.load (H12.out.stay hw')) hS ?_) | (refine wpG_hload 45 _ rfl rfl (fun w' hw' => HLR.out w' (HC12.out.stay hw')) hS ?_) | (refine wpG_deed (by decide) (fun K hK => ?_); go_simp; refine (Step_ms (HMSr.out.stay (HC12.out.stay hS)) HF.out (HTX.out W0 (HC12.out.stay hS)).x (HTX.out W0 (HC12.out.stay hS)).v (HTX.out W0 (HC12.out.stay hS)).r (HTX.out W0 (HC12.out.stay hS)).u).mono ?_; rintro e W5 ⟨rfl, hms, hkp⟩; refine hK _ _ ?_; clear hK K) | (refine wpG_calc rfl (fun K hK => ?_)) | (refine wpG_skip ?_ ?_; (focus (simp [wantG]; done)); go_simp) | (refine wpG_take ?_ ?_; (focus (simp [wantG]; done))) | (refine wpG_pure (fun K hK => ?_); go_simp; refine hK _ _ ?_; clear hK K) | (refine wpG_deed (by decide) (fun K hK => ?_); go_simp) | (refine wpG_nil ?_))
            have HMS7 := hide hms
            have H7 := hide (show KB W5 b10 (cMm 3 1 3) zV from hkp.blk (show Blk W0 b10 _ _ from H10r.out.chg (HC12.out.stay hS) List.not_mem_nil) (by simp))
            clear hms hkp
            go_roundw
            case rel => exact ⟨k + 1, by have := HKL.out; omega, by go_num, _, HMS7, hide (HINV.out.step _ (fun hw => HNX.out _ hw)), H7⟩
            case measure => have := HKL.out; simp [intOf]; omega
        · have dg : decide (xg ≤ 3) = false := decide_eq_false g3
          have HNX := hide (show ∀ cc, wrongK cc tx = false → ¬ Touch tx from fun cc hw => nt_g hw (.inr (show tx.k = 5 by have := HXK.out; omega)) (fun h => g3 (by rw [HXG.out]; exact h.1)))
          go_upto_region 16 with (fail)
          skip
          refine wp_region_t [0,5,0,0,0,0,5,3] [none, none, none, none, none, none, none, none] (fun W => Chg [] V4 W) (by kernel_rfl) (by kernel_rfl) (by kernel_rfl) ?_
          have hS : Chg [] V4 V4.drew := (Chg.refl [] V4).drew
          generalize V4.drew = W0 at hS ⊢
          go_wp2_with (first | (refine wpG_hload 42 _ rfl rfl (fun w' hw' => KB.load (H12.out.stay hw')) hS ?_) | (refine wpG_hload 45 _ rfl rfl (fun w' hw' => HLR.out w' (HC12.out.stay hw')) hS ?_) | (refine wpG_deed (by decide) (fun K hK => ?_); go_simp; refine (Step_ms (HMSr.out.stay (HC12.out.stay hS)) HF.out (HTX.out W0 (HC12.out.stay hS)).x (HTX.out W0 (HC12.out.stay hS)).v (HTX.out W0 (HC12.out.stay hS)).r (HTX.out W0 (HC12.out.stay hS)).u).mono ?_; rintro e W5 ⟨rfl, hms, hkp⟩; refine hK _ _ ?_; clear hK K) | (refine wpG_calc rfl (fun K hK => ?_)) | (refine wpG_skip ?_ ?_; (focus (simp [wantG]; done)); go_simp) | (refine wpG_take ?_ ?_; (focus (simp [wantG]; done))) | (refine wpG_pure (fun K hK => ?_); go_simp; refine hK _ _ ?_; clear hK K) | (refine wpG_deed (by decide) (fun K hK => ?_); go_simp) | (refine wpG_nil ?_))
          have HMS7 := hide hms
          have H7 := hide (show KB W5 b10 (cMm 3 1 3) zV from hkp.blk (show Blk W0 b10 _ _ from H10r.out.chg (HC12.out.stay hS) List.not_mem_nil) (by simp))
          clear hms hkp
          go_roundw
          case rel => exact ⟨k + 1, by have := HKL.out; omega, by go_num, _, HMS7, hide (HINV.out.step _ (fun hw => HNX.out _ hw)), H7⟩
          case measure => have := HKL.out; simp [intOf]; omega
      have d5 : (xk == 5) = false := beq_false_of_ne e5
      by_cases e9 : xk = 9
      · subst e9
        by_cases g3 : xa < 1024
        · have dg : decide (xa < 1024) = true := decide_eq_true g3
          obtain ⟨sg, hsg⟩ : ∃ z : Int, IntKind.i64.wrap (xa + (n1 : Int)) = z := ⟨_, rfl⟩
          by_cases s3 : 768 < sg
          · have ds : decide (768 < sg) = true := decide_eq_true s3
            go_wp2_with fail
            go_roundw
            case rel => exact ⟨k + 1, by have := HKL.out; omega, by go_num, M, hide (HMSr.out.stay HC12.out), HINV, hide (H10r.out.stay HC12.out)⟩
            case measure => have := HKL.out; simp [intOf]; omega
          · have ds : decide (768 < sg) = false := decide_eq_false s3
            have HSG := hide hsg
            have HNX := hide (show ∀ cc, wrongK cc tx = false → ¬ Touch tx from fun cc hw => nt_a hw (show tx.k = 9 by have := HXK.out; omega) (fun h => s3 (by rw [← HSG.out, HXA.out, HN1.out]; exact h.2)))
            go_upto_region 16 with (fail)
            clear hsg ds
            refine wp_region_t [0,5,0,0,0,0,5,3] [none, none, none, none, none, none, none, none] (fun W => Chg [] V4 W) (by kernel_rfl) (by kernel_rfl) (by kernel_rfl) ?_
            have hS : Chg [] V4 V4.drew := (Chg.refl [] V4).drew
            generalize V4.drew = W0 at hS ⊢
            go_wp2_with (first | (refine wpG_hload 42 _ rfl rfl (fun w' hw' => KB.load (H12.out.stay hw')) hS ?_) | (refine wpG_hload 45 _ rfl rfl (fun w' hw' => HLR.out w' (HC12.out.stay hw')) hS ?_) | (refine wpG_deed (by decide) (fun K hK => ?_); go_simp; refine (Step_ms (HMSr.out.stay (HC12.out.stay hS)) HF.out (HTX.out W0 (HC12.out.stay hS)).x (HTX.out W0 (HC12.out.stay hS)).v (HTX.out W0 (HC12.out.stay hS)).r (HTX.out W0 (HC12.out.stay hS)).u).mono ?_; rintro e W5 ⟨rfl, hms, hkp⟩; refine hK _ _ ?_; clear hK K) | (refine wpG_calc rfl (fun K hK => ?_)) | (refine wpG_skip ?_ ?_; (focus (simp [wantG]; done)); go_simp) | (refine wpG_take ?_ ?_; (focus (simp [wantG]; done))) | (refine wpG_pure (fun K hK => ?_); go_simp; refine hK _ _ ?_; clear hK K) | (refine wpG_deed (by decide) (fun K hK => ?_); go_simp) | (refine wpG_nil ?_))
            have HMS7 := hide hms
            have H7 := hide (show KB W5 b10 (cMm 3 1 3) zV from hkp.blk (show Blk W0 b10 _ _ from H10r.out.chg (HC12.out.stay hS) List.not_mem_nil) (by simp))
            clear hms hkp
            go_roundw
            case rel => exact ⟨k + 1, by have := HKL.out; omega, by go_num, _, HMS7, hide (HINV.out.step _ (fun hw => HNX.out _ hw)), H7⟩
            case measure => have := HKL.out; simp [intOf]; omega
        · have dg : decide (xa < 1024) = false := decide_eq_false g3
          have HNX := hide (show ∀ cc, wrongK cc tx = false → ¬ Touch tx from fun cc hw => nt_a hw (show tx.k = 9 by have := HXK.out; omega) (fun h => g3 (by rw [HXA.out]; exact h.1)))
          go_upto_region 16 with (fail)
          skip
          refine wp_region_t [0,5,0,0,0,0,5,3] [none, none, none, none, none, none, none, none] (fun W => Chg [] V4 W) (by kernel_rfl) (by kernel_rfl) (by kernel_rfl) ?_
          have hS : Chg [] V4 V4.drew := (Chg.refl [] V4).drew
          generalize V4.drew = W0 at hS ⊢
          go_wp2_with (first | (refine wpG_hload 42 _ rfl rfl (fun w' hw' => KB.load (H12.out.stay hw')) hS ?_) | (refine wpG_hload 45 _ rfl rfl (fun w' hw' => HLR.out w' (HC12.out.stay hw')) hS ?_) | (refine wpG_deed (by decide) (fun K hK => ?_); go_simp; refine (Step_ms (HMSr.out.stay (HC12.out.stay hS)) HF.out (HTX.out W0 (HC12.out.stay hS)).x (HTX.out W0 (HC12.out.stay hS)).v (HTX.out W0 (HC12.out.stay hS)).r (HTX.out W0 (HC12.out.stay hS)).u).mono ?_; rintro e W5 ⟨rfl, hms, hkp⟩; refine hK _ _ ?_; clear hK K) | (refine wpG_calc rfl (fun K hK => ?_)) | (refine wpG_skip ?_ ?_; (focus (simp [wantG]; done)); go_simp) | (refine wpG_take ?_ ?_; (focus (simp [wantG]; done))) | (refine wpG_pure (fun K hK => ?_); go_simp; refine hK _ _ ?_; clear hK K) | (refine wpG_deed (by decide) (fun K hK => ?_); go_simp) | (refine wpG_nil ?_))
          have HMS7 := hide hms
          have H7 := hide (show KB W5 b10 (cMm 3 1 3) zV from hkp.blk (show Blk W0 b10 _ _ from H10r.out.chg (HC12.out.stay hS) List.not_mem_nil) (by simp))
          clear hms hkp
          go_roundw
          case rel => exact ⟨k + 1, by have := HKL.out; omega, by go_num, _, HMS7, hide (HINV.out.step _ (fun hw => HNX.out _ hw)), H7⟩
          case measure => have := HKL.out; simp [intOf]; omega
      have d9 : (xk == 9) = false := beq_false_of_ne e9
      have HNX := hide (show ∀ cc, wrongK cc tx = false → ¬ Touch tx from fun cc hw => nt_k (fun h => e2 (by have := HXK.out; omega)) (fun h => e4 (by have := HXK.out; omega)) (fun h => e5 (by have := HXK.out; omega)) (fun h => e9 (by have := HXK.out; omega)))
      go_upto_region 16 with (fail)
      skip
      refine wp_region_t [0,5,0,0,0,0,5,3] [none, none, none, none, none, none, none, none] (fun W => Chg [] V4 W) (by kernel_rfl) (by kernel_rfl) (by kernel_rfl) ?_
      have hS : Chg [] V4 V4.drew := (Chg.refl [] V4).drew
      generalize V4.drew = W0 at hS ⊢
      go_wp2_with (first | (refine wpG_hload 42 _ rfl rfl (fun w' hw' => KB.load (H12.out.stay hw')) hS ?_) | (refine wpG_hload 45 _ rfl rfl (fun w' hw' => HLR.out w' (HC12.out.stay hw')) hS ?_) | (refine wpG_deed (by decide) (fun K hK => ?_); go_simp; refine (Step_ms (HMSr.out.stay (HC12.out.stay hS)) HF.out (HTX.out W0 (HC12.out.stay hS)).x (HTX.out W0 (HC12.out.stay hS)).v (HTX.out W0 (HC12.out.stay hS)).r (HTX.out W0 (HC12.out.stay hS)).u).mono ?_; rintro e W5 ⟨rfl, hms, hkp⟩; refine hK _ _ ?_; clear hK K) | (refine wpG_calc rfl (fun K hK => ?_)) | (refine wpG_skip ?_ ?_; (focus (simp [wantG]; done)); go_simp) | (refine wpG_take ?_ ?_; (focus (simp [wantG]; done))) | (refine wpG_pure (fun K hK => ?_); go_simp; refine hK _ _ ?_; clear hK K) | (refine wpG_deed (by decide) (fun K hK => ?_); go_simp) | (refine wpG_nil ?_))
      have HMS7 := hide hms
      have H7 := hide (show KB W5 b10 (cMm 3 1 3) zV from hkp.blk (show Blk W0 b10 _ _ from H10r.out.chg (HC12.out.stay hS) List.not_mem_nil) (by simp))
      clear hms hkp
      go_roundw
      case rel => exact ⟨k + 1, by have := HKL.out; omega, by go_num, _, HMS7, hide (HINV.out.step _ (fun hw => HNX.out _ hw)), H7⟩
      case measure => have := HKL.out; simp [intOf]; omega
    · obtain rfl : k = l.length := by omega
      clear hk hkl hll
      go_upto_region 19 with (first | (refine wpList_build34 rfl _ rfl DL.out ?_ ?_; (focus (simp [Act.eval, Act.put]; done))) | (refine wpList_alloc34 rfl rfl ?_; try go_simp) | (refine wpList_store34 (b := wr.heap.size) (y := cLd 770 (bl : Nat)) (u := zV) rfl _ _ rfl rfl rfl rfl (Blk.new wr _ _) ?_; intro V1 h4 hc4; have H14 := hide h4; have HC14 := hide (show Chg [] wr V1 from ((Chg.refl [] wr).alloc _).trans hc4 (fun y hy => .inr (by obtain rfl := List.mem_singleton.1 hy; exact Nat.le_refl _))); clear h4 hc4))
      obtain ⟨b14, hb14⟩ : ∃ b, b = wr.heap.size := ⟨_, rfl⟩
      rw [← hb14] at H14 ⊢
      have HMV1 := hide (show MS w ([b14] ++ ([b10] ++ ([b9] ++ []))) V1 m M from HMSr.out.guard HC14.out [b14] (fun k hk => by obtain rfl := List.mem_singleton.1 hk; have := H14.out.lt; omega))
      clear hb14
      have H101 := hide (show KB V1 b10 (cMm 3 1 3) zV from H10r.out.chg HC14.out List.not_mem_nil)
      have HKL := hide (show stepB M (cLd 770 (bl : Nat)) ⟨0, 0, b⟩ = true by have := k_load HINV.out HBB.out; rw [HBLN.out]; exact this)
      have HLOK := hide (show (cLd 770 (bl : Nat)).Ok from ld_ok (by omega) (by have := HBL.out; omega))
      have HROK := hide (show (⟨0, 0, b⟩ : Rs).Ok from ⟨by (show (-9223372036854775808 : Int) ≤ 0 ∧ (0 : Int) ≤ _); omega, by (show (0 : Nat) < _); omega, HB8.out⟩)
      have H14p := hide (fun W (h : Chg [] V1 W) => KB.load (H14.out.stay h))
      clear H10r
      refine wp_region_t [0,6,5,0,0,6,0] [none, none, none, none, none, none, none] (fun W => Chg [] V1 W) (by kernel_rfl) (by kernel_rfl) (by kernel_rfl) ?_
      have hS : Chg [] V1 V1.drew := (Chg.refl [] V1).drew
      generalize V1.drew = W0 at hS ⊢
      go_wp2_with (first | (refine wpG_hload 42 _ rfl rfl (fun w' hw' => H14p.out w' hw') hS ?_) | (refine wpG_buildRs _ rfl EB.out ?_ ?_; (focus (simp [Act.eval, Act.put]; done))) | (refine wpG_calc rfl (fun K hK => ?_)) | (refine wpG_skip ?_ ?_; (focus (simp [wantG]; done)); go_simp) | (refine wpG_take ?_ ?_; (focus (simp [wantG]; done))) | (refine wpG_pure (fun K hK => ?_); go_simp; refine hK _ _ ?_; clear hK K) | (refine wpG_deed (by decide) (fun K hK => ?_); go_simp) | (refine wpG_nil ?_))
      (refine wpG_keeps hS (fun K hK => ?_))
      go_simp
      refine (Copy_ms (HMV1.out.stay hS)).mono ?_
      rintro e X1 ⟨⟨mc, rfl, hmc⟩, hcx⟩
      have hS0 := hS
      replace hS := hS.stay hcx
      refine hK _ _ hS ?_
      clear hK K
      go_wp2_with (first | (refine wpG_hload 42 _ rfl rfl (fun w' hw' => H14p.out w' hw') hS ?_) | (refine wpG_buildRs _ rfl EB.out ?_ ?_; (focus (simp [Act.eval, Act.put]; done))) | (refine wpG_calc rfl (fun K hK => ?_)) | (refine wpG_skip ?_ ?_; (focus (simp [wantG]; done)); go_simp) | (refine wpG_take ?_ ?_; (focus (simp [wantG]; done))) | (refine wpG_pure (fun K hK => ?_); go_simp; refine hK _ _ ?_; clear hK K) | (refine wpG_deed (by decide) (fun K hK => ?_); go_simp) | (refine wpG_nil ?_))
      have hv3 := HVB.out X1 (HMV1.out.chg.stay hS)
      have HF1 := hide (HF.out.stay (HMV1.out.chg.stay hS0))
      (refine wpG_keeps hS (fun K hK => ?_))
      go_simp
      refine (Step_copy (r := ⟨0, 0, b⟩) hmc HF1.out HLOK.out (RE.nil ucl 1 _ none 0) HROK.out hv3).mono ?_
      rintro e Y1 ⟨rfl, hcy⟩
      rw [HKL.out]
      replace hS : Chg [] V1 Y1 := hS0.stay hcy
      clear hv3 hS0 hcx hcy hmc HF1
      refine hK _ _ hS ?_
      clear hK K
      go_upto_region 22 with (first | (refine wpList_build34 rfl _ rfl DU.out ?_ ?_; (focus (simp [Act.eval, Act.put]; done))) | (refine wpList_alloc34 rfl rfl ?_; try go_simp) | (refine wpList_store34 (b := Y1.heap.size) (y := cUm 3 1) (u := zV) rfl _ _ rfl rfl rfl rfl (Blk.new Y1 _ _) ?_; intro V2 h4 hc4; have H15 := hide h4; have HC15 := hide (show Chg [] Y1 V2 from ((Chg.refl [] Y1).alloc _).trans hc4 (fun y hy => .inr (by obtain rfl := List.mem_singleton.1 hy; exact Nat.le_refl _))); clear h4 hc4) | (refine wpG_hload 42 _ rfl rfl (fun w' hw' => H14p.out w' hw') hS ?_) | (refine wpG_buildRs _ rfl EB.out ?_ ?_; (focus (simp [Act.eval, Act.put]; done))) | (refine wpG_calc rfl (fun K hK => ?_)) | (refine wpG_skip ?_ ?_; (focus (simp [wantG]; done)); go_simp) | (refine wpG_take ?_ ?_; (focus (simp [wantG]; done))) | (refine wpG_pure (fun K hK => ?_); go_simp; refine hK _ _ ?_; clear hK K) | (refine wpG_deed (by decide) (fun K hK => ?_); go_simp) | (refine wpG_nil ?_))
      have HMV2 := hide (HMV1.out.stay hS)
      have H142 := hide (show KB Y1 b14 (cLd 770 (bl : Nat)) zV from H14.out.stay hS)
      have H102 := hide (show KB Y1 b10 (cMm 3 1 3) zV from H101.out.stay hS)
      clear hS HMV1 H14 H14p H101 HKL
      obtain ⟨b15, hb15⟩ : ∃ b, b = Y1.heap.size := ⟨_, rfl⟩
      rw [← hb15] at H15 ⊢
      have HMV3 := hide (show MS w ([b15] ++ ([b14] ++ ([b10] ++ ([b9] ++ [])))) V2 m M from HMV2.out.guard HC15.out [b15] (fun k hk => by obtain rfl := List.mem_singleton.1 hk; have := H15.out.lt; omega))
      clear hb15
      have H143 := hide (show KB V2 b14 (cLd 770 (bl : Nat)) zV from H142.out.stay HC15.out)
      have H103 := hide (show KB V2 b10 (cMm 3 1 3) zV from H102.out.stay HC15.out)
      clear H142 H102
      have hku := k_un HINV.out
      have HKU := hide hku
      clear hku
      go_wp2_with (first | (refine wpList_load34 rfl _ rfl rfl H15.out ?_) | (refine wpList_buildRs rfl _ rfl E0.out ?_ ?_; (focus (simp [Act.eval, Act.put]; done))))
      refine (Step_ms (r := ⟨0, 0, []⟩) HMV3.out HF.out (um_ok (by omega)) (RE.nil ucl 1 _ none 0) (rs_ok (by omega) (by omega)) (RE.nil ucl 1 _ none 0)).mono ?_
      rintro e V3 ⟨rfl, hms, hkp⟩
      have H154 := hide (show KB V3 b15 (cUm 3 1) zV from hkp.blk H15.out (by simp))
      have H144 := hide (show KB V3 b14 (cLd 770 (bl : Nat)) zV from hkp.blk H143.out (by simp))
      have H104 := hide (show KB V3 b10 (cMm 3 1 3) zV from hkp.blk H103.out (by simp))
      clear hkp H15 H143 H103
      rcases HKU.out with ⟨u1, u2⟩ | ⟨u1, u2⟩
      case inr =>
        rw [u1]
        rw [stepM_no u1] at hms
        have HMV4 := hide hms
        have HU2 := hide u2
        clear hms u1 u2 HKU
        go_wp2_with (first | (refine wpList_load34 rfl _ rfl rfl H154.out ?_) | (refine wpList_buildRs rfl _ rfl E9.out ?_ ?_; (focus (simp [Act.eval, Act.put]; done))))
        refine (Step_ms (r := plainR 9) HMV4.out HF.out (um_ok (by omega)) (RE.nil ucl 1 _ none 0) (rs_ok (by omega) (by omega)) (RE.nil ucl 1 _ none 0)).mono ?_
        rintro e V5 ⟨rfl, hms, hkp⟩
        rw [HU2.out]
        have HC10 := hide hms.chg
        clear hms hkp
        go_wp2_with fail
        refine (HK.out _ HC10.out).mono ?_
        rintro e W9 ⟨rfl, hc9⟩
        go_wp2_with fail
        go_ret
        exact ⟨rfl, HC10.out.stay hc9⟩
      rw [u1]
      obtain ⟨M5, hM5⟩ : ∃ N, N = stepM M (cUm 3 1) ⟨0, 0, []⟩ := ⟨_, rfl⟩
      rw [← hM5] at hms u2
      have HG5 := hide u2
      have HMV4 := hide hms
      clear hM5 hms u1 u2 HKU H154
      go_wp2_with (first | (refine wpList_load34 rfl _ rfl rfl H144.out ?_) | (refine wpList_buildRs rfl _ rfl E7.out ?_ ?_; (focus (simp [Act.eval, Act.put]; done))))
      refine (Step_ms (r := plainR 7) HMV4.out HF.out (ld_ok (by omega) (by have := HBL.out; omega)) (RE.nil ucl 1 _ none 0) (rs_ok (by omega) (by omega)) (RE.nil ucl 1 _ none 0)).mono ?_
      rintro e V5 ⟨rfl, hms, hkp⟩
      rw [k_gone HG5.out HBL.out]
      rw [stepM_err (by decide)] at hms
      have HMV5 := hide hms
      have H145 := hide (show KB V5 b14 (cLd 770 (bl : Nat)) zV from hkp.blk H144.out (by simp))
      have H105 := hide (show KB V5 b10 (cMm 3 1 3) zV from hkp.blk H104.out (by simp))
      clear hms hkp H144 H104
      have hkm := k_map HG5.out
      have HKU := hide hkm
      clear hkm
      go_wp2_with (first | (refine wpList_load34 rfl _ rfl rfl H105.out ?_) | (refine wpList_buildRs rfl _ rfl E0.out ?_ ?_; (focus (simp [Act.eval, Act.put]; done))))
      refine (Step_ms (r := ⟨0, 0, []⟩) HMV5.out HF.out (mm_ok (by omega) (by omega)) (RE.nil ucl 1 _ none 0) (rs_ok (by omega) (by omega)) (RE.nil ucl 1 _ none 0)).mono ?_
      rintro e V6 ⟨rfl, hms, hkp⟩
      have H146 := hide (show KB V6 b14 (cLd 770 (bl : Nat)) zV from hkp.blk H145.out (by simp))
      have H106 := hide (show KB V6 b10 (cMm 3 1 3) zV from hkp.blk H105.out (by simp))
      clear hkp H145 H105
      rcases HKU.out with ⟨u1, u2⟩ | ⟨u1, u2⟩
      case inr =>
        rw [u1]
        rw [stepM_no u1] at hms
        have HMV6 := hide hms
        have HU2 := hide u2
        clear hms u1 u2 HKU
        go_wp2_with (first | (refine wpList_load34 rfl _ rfl rfl H106.out ?_) | (refine wpList_buildRs rfl _ rfl E9.out ?_ ?_; (focus (simp [Act.eval, Act.put]; done))))
        refine (Step_ms (r := plainR 9) HMV6.out HF.out (mm_ok (by omega) (by omega)) (RE.nil ucl 1 _ none 0) (rs_ok (by omega) (by omega)) (RE.nil ucl 1 _ none 0)).mono ?_
        rintro e V7 ⟨rfl, hms, hkp⟩
        rw [HU2.out]
        have HC10 := hide hms.chg
        clear hms hkp
        go_wp2_with fail
        refine (HK.out _ HC10.out).mono ?_
        rintro e W9 ⟨rfl, hc9⟩
        go_wp2_with fail
        go_ret
        exact ⟨rfl, HC10.out.stay hc9⟩
      rw [u1]
      obtain ⟨M6, hM6⟩ : ∃ N, N = stepM M5 (cMm 3 1 3) ⟨0, 0, []⟩ := ⟨_, rfl⟩
      rw [← hM6] at hms u2
      have HZ6 := hide (k_zero u2 HBL.out)
      have HMV6 := hide hms
      have H14p := hide (fun W (h : Chg [] V6 W) => KB.load (H146.out.stay h))
      have hmk : ∀ W : World, (Instr.makeSlice 27 (.int .i64 (bl : Int)) (.int .i64 (bl : Int))).run Tryd.prog W = .ok (.slice (some ⟨W.heap.size, 0, none⟩) bl bl) (W.alloc (.cells (madeCells #[.int .u8 0] bl) 5)) := fun W =>
        run_make_row' 27 5 (.int .u8 0) 1 Tryd.underlying27 info5c rfl .i64 .i64 bl (by have := HBL.out; omega) (by have := HBL.out; omega) W
      clear hM6 hms u1 u2 HKU H106
      go_upto_region 28 with fail
      refine wp_region_t [0,5,0,0,6,0,3,0,3,0,0] [none, none, none, none, none, none, none, none, some (182, true), none, none] (fun W => Chg [] V6 W) (by kernel_rfl) (by kernel_rfl) (by kernel_rfl) ?_
      have hS : Chg [] V6 V6.drew := (Chg.refl [] V6).drew
      generalize V6.drew = W0 at hS ⊢
      go_wp2_with (first | (refine wpG_hload 42 _ rfl rfl (fun w' hw' => H14p.out w' hw') hS ?_) | (refine wpG_buildRs _ rfl EB.out ?_ ?_; (focus (simp [Act.eval, Act.put]; done))) | (refine wpG_calc rfl (fun K hK => ?_)) | (refine wpG_skip ?_ ?_; (focus (simp [wantG]; done)); go_simp) | (refine wpG_take ?_ ?_; (focus (simp [wantG]; done))) | (refine wpG_pure (fun K hK => ?_); go_simp; refine hK _ _ ?_; clear hK K) | (refine wpG_deed (by decide) (fun K hK => ?_); go_simp) | (refine wpG_nil ?_))
      (refine wpG_keeps hS (fun K hK => ?_))
      go_simp
      obtain ⟨X1, hX1⟩ : ∃ W, W = W0.alloc (.cells (madeCells #[.int .u8 0] bl) 5) := ⟨_, rfl⟩
      have hc1 : Chg [] W0 X1 := by rw [hX1]; exact (Chg.refl [] _).alloc _
      have hM := (show SB X1 (.slice (some ⟨W0.heap.size, 0, none⟩) bl bl) (List.replicate bl 0) by rw [hX1]; exact made_zero _ bl (by have := HBL.out; omega)).re
      replace hS : Chg [] V6 X1 := hS.stay hc1
      try rw [← hX1]
      have HMX := hide hM
      have EZ := hide (br_l (some ⟨W0.heap.size, 0, none⟩) bl bl (List.replicate bl 0))
      clear hX1 hc1 hmk hM
      refine hK _ _ hS ?_
      clear hK K
      go_wp2_with (first | (refine wpG_buildRs _ rfl EZ.out ?_ ?_; (focus (simp [Act.eval, Act.put]; done))) | (refine wpG_calc rfl (fun K hK => ?_)) | (refine wpG_skip ?_ ?_; (focus (simp [wantG]; done)); go_simp) | (refine wpG_take ?_ ?_; (focus (simp [wantG]; done))) | (refine wpG_pure (fun K hK => ?_); go_simp; refine hK _ _ ?_; clear hK K) | (refine wpG_deed (by decide) (fun K hK => ?_); go_simp) | (refine wpG_nil ?_))
      refine (Step_ms (r := ⟨0, 0, List.replicate bl 0⟩) (HMV6.out.stay hS) HF.out (ld_ok (by omega) (by have := HBL.out; omega)) (RE.nil ucl 1 _ none 0) ⟨by (show (-9223372036854775808 : Int) ≤ 0 ∧ (0 : Int) ≤ _); omega, by (show (0 : Nat) < _); omega, fun y hy => by have := List.eq_of_mem_replicate hy; omega⟩ HMX.out).mono ?_
      rintro e V7 ⟨rfl, hms, hkp⟩
      rw [HZ6.out]
      have HC10 := hide hms.chg
      clear hms hkp
      refine hK _ _ ?_
      clear hK K
      go_wp2_with (first | fail | (refine wpG_calc rfl (fun K hK => ?_)) | (refine wpG_skip ?_ ?_; (focus (simp [wantG]; done)); go_simp) | (refine wpG_take ?_ ?_; (focus (simp [wantG]; done))) | (refine wpG_pure (fun K hK => ?_); go_simp; refine hK _ _ ?_; clear hK K) | (refine wpG_deed (by decide) (fun K hK => ?_); go_simp) | (refine wpG_nil ?_))
      refine (HK.out _ HC10.out).mono ?_
      rintro e W9 ⟨rfl, hc9⟩
      refine hK _ _ ?_
      clear hK K
      go_wp2_with (first | fail | (refine wpG_calc rfl (fun K hK => ?_)) | (refine wpG_skip ?_ ?_; (focus (simp [wantG]; done)); go_simp) | (refine wpG_take ?_ ?_; (focus (simp [wantG]; done))) | (refine wpG_pure (fun K hK => ?_); go_simp; refine hK _ _ ?_; clear hK K) | (refine wpG_deed (by decide) (fun K hK => ?_); go_simp) | (refine wpG_nil ?_))
      go_ret
      exact ⟨rfl, HC10.out.stay hc9⟩
end Go.Proofs.YtfoleblcaloeoaaDoor

/- A config that a law is handed. -/
namespace Go.Proofs.YtfoleblcaloeoaaDoor
open Go Go.RowKit Go.ChangeShapes Go.WideShapes Go.ChangeAt Go.Deep

theorem Tryd.own : ownKnob Tryd.prog.godebug = none := by kernel_rfl
section
variable {H : Type} {enc : TypeId × Value → H} {w : World} {base : Nat} {spare : Nat → Bool} {held : Bool}
theorem one_of {L : List Value} {i : Nat} {v : Value} (h : (L.drop i).take 1 = [v]) : L[i]? = some v := by
  have : ((L.drop i).take 1)[0]? = some v := by rw [h]; rfl
  rw [List.getElem?_take_of_lt (by omega), List.getElem?_drop] at this
  simpa using this
theorem one_int {fuel : Nat} {L : List Value} {i : Nat} {x : DataW H × List MemPlace} (h : DataW.trod enc Tryd.prog w base spare held fuel 3 ((L.drop i).take 1) = some x) : ∃ z, L[i]? = some (.int .i64 z) := by
  obtain ⟨z, e, _⟩ := DataW.trod_int Tryd.underlying3 h
  exact ⟨z, one_of e⟩
theorem arr_int {fuel t n : Nat} {L : List Value} {x : DataW H × List MemPlace} (hu : Tryd.prog.underlying t = some (.array n 3)) (h : DataW.trod enc Tryd.prog w base spare held fuel t L = some x) : ∀ i, i < n → ∃ z, L[i]? = some (.int .i64 z) := by
  obtain ⟨xs, m, _, _, _, hl, hel⟩ := DataW.trod_array hu h
  intro i hi
  have h1 := hel i hi
  rw [cells3, Nat.mul_one, List.getElem?_eq_getElem (by rw [hl]; exact hi)] at h1
  exact one_int h1
theorem sub_at {L : List Value} {o n i : Nat} {v : Value} (h : ((L.drop o).take n)[i]? = some v) : L[o + i]? = some v := by
  have hi : i < n := by
    have := (List.getElem?_eq_some_iff.1 h).1
    rw [List.length_take] at this
    omega
  rw [List.getElem?_take_of_lt hi, List.getElem?_drop] at h
  exact h
theorem cells22 : Tryd.prog.cellsOf 22 = 16 := by kernel_rfl
theorem cells24 : Tryd.prog.cellsOf 24 = 64 := by kernel_rfl
theorem cells26 : Tryd.prog.cellsOf 26 = 94 := by kernel_rfl
theorem open_cfg {cs : Array Value} {d : DataW H} {p : List MemPlace} (hs : cs.size = 94) (h : DataW.Trod enc Tryd.prog w base spare held 26 (.agg cs) d p) : ∃ c : Cf, cs = cg c := by
  obtain ⟨fuel, hf⟩ := h
  have hcs : (Value.agg cs).cells.toList = cs.toList := rfl
  rw [hcs] at hf
  obtain ⟨n, hp⟩ := trod_parts Tryd.underlying26 hf
  have each : ∀ i, i < 94 → ∃ z, cs.toList[i]? = some (.int .i64 z) := by
    intro i hi
    by_cases i0 : i = 0
    · subst i0
      obtain ⟨y, hy⟩ := trod_part hp 0 rfl 3 0 1 rfl rfl cells3
      exact one_int hy
    by_cases i1 : i = 1
    · subst i1
      obtain ⟨y, hy⟩ := trod_part hp 1 rfl 3 1 1 rfl rfl cells3
      exact one_int hy
    by_cases i2 : i < 18
    · obtain ⟨y, hy⟩ := trod_part hp 2 rfl 22 2 16 rfl rfl cells22
      obtain ⟨z, hz⟩ := arr_int Tryd.underlying22 hy (i - 2) (by omega)
      have := sub_at hz
      rw [show 2 + (i - 2) = i by omega] at this
      exact ⟨z, this⟩
    by_cases i3 : i < 26
    · obtain ⟨y, hy⟩ := trod_part hp 3 rfl 23 18 8 rfl rfl cells23
      obtain ⟨z, hz⟩ := arr_int Tryd.underlying23 hy (i - 18) (by omega)
      have := sub_at hz
      rw [show 18 + (i - 18) = i by omega] at this
      exact ⟨z, this⟩
    by_cases i4 : i < 90
    · obtain ⟨y, hy⟩ := trod_part hp 4 rfl 24 26 64 rfl rfl cells24
      obtain ⟨xs, m, _, _, _, hl, hel⟩ := DataW.trod_array Tryd.underlying24 hy
      have h1 := hel ((i - 26) / 8) (by omega)
      rw [cells23, List.getElem?_eq_getElem (by rw [hl]; omega)] at h1
      obtain ⟨z, hz⟩ := arr_int Tryd.underlying23 h1 ((i - 26) % 8) (by omega)
      have := sub_at (sub_at hz)
      rw [show 26 + ((i - 26) / 8 * 8 + (i - 26) % 8) = i by omega] at this
      exact ⟨z, this⟩
    rcases (by omega : i = 90 ∨ i = 91 ∨ i = 92 ∨ i = 93) with rfl | rfl | rfl | rfl
    · obtain ⟨y, hy⟩ := trod_part hp 5 rfl 3 90 1 rfl rfl cells3
      exact one_int hy
    · obtain ⟨y, hy⟩ := trod_part hp 6 rfl 3 91 1 rfl rfl cells3
      exact one_int hy
    · obtain ⟨y, hy⟩ := trod_part hp 7 rfl 3 92 1 rfl rfl cells3
      exact one_int hy
    · obtain ⟨y, hy⟩ := trod_part hp 8 rfl 3 93 1 rfl rfl cells3
      exact one_int hy
  classical
  refine ⟨fun i => if h : i < 94 then (each i h).choose else 0, cg_of hs fun i hi => ?_⟩
  simp only [dif_pos hi]
  exact (Array.getElem?_toList (xs := cs)).symm.trans (each i hi).choose_spec
end
theorem trodAll_single {H : Type} {enc : TypeId × Value → H} {P : Program} {w : World} {base : Nat} {spare : Nat → Bool} {held : Bool} {t0 : TypeId} {args : Array Value} {ds : List (DataW H)} {ps : List MemPlace} (h : DataW.TrodAll enc P w base spare held [t0] args.toList ds ps) :
    ∃ v0 d0 p0, args = #[v0] ∧ ds = [d0] ∧ ps = p0 ∧ DataW.Trod enc P w base spare held t0 v0 d0 p0 := by
  obtain ⟨v0, vs0, d0, ds0, p0, q0, hargs, rfl, rfl, h0, k0⟩ := trodAll_cons h
  obtain ⟨rfl, rfl, rfl⟩ := trodAll_nil k0
  exact ⟨v0, d0, p0, by cases args; simp_all, rfl, by simp, h0⟩
theorem trodAll_two {H : Type} {enc : TypeId × Value → H} {P : Program} {w : World} {base : Nat} {spare : Nat → Bool} {held : Bool} {t0 t1 : TypeId} {args : Array Value} {ds : List (DataW H)} {ps : List MemPlace} (h : DataW.TrodAll enc P w base spare held [t0, t1] args.toList ds ps) :
    ∃ v0 v1 d0 d1 p0 p1, args = #[v0, v1] ∧ ds = [d0, d1] ∧ ps = p0 ++ p1 ∧ DataW.Trod enc P w base spare held t0 v0 d0 p0 ∧ DataW.Trod enc P w base spare held t1 v1 d1 p1 := by
  obtain ⟨v0, vs0, d0, ds0, p0, q0, hargs, rfl, rfl, h0, k0⟩ := trodAll_cons h
  obtain ⟨v1, vs1, d1, ds1, p1, q1, rfl, rfl, rfl, h1, k1⟩ := trodAll_cons k0
  obtain ⟨rfl, rfl, rfl⟩ := trodAll_nil k1
  exact ⟨v0, v1, d0, d1, p0, p1, by cases args; simp_all, rfl, by simp, h0, h1⟩
theorem trodAll_three {H : Type} {enc : TypeId × Value → H} {P : Program} {w : World} {base : Nat} {spare : Nat → Bool} {held : Bool} {t0 t1 t2 : TypeId} {args : Array Value} {ds : List (DataW H)} {ps : List MemPlace} (h : DataW.TrodAll enc P w base spare held [t0, t1, t2] args.toList ds ps) :
    ∃ v0 v1 v2 d0 d1 d2 p0 p1 p2, args = #[v0, v1, v2] ∧ ds = [d0, d1, d2] ∧ ps = p0 ++ p1 ++ p2 ∧ DataW.Trod enc P w base spare held t0 v0 d0 p0 ∧ DataW.Trod enc P w base spare held t1 v1 d1 p1 ∧ DataW.Trod enc P w base spare held t2 v2 d2 p2 := by
  obtain ⟨v0, vs0, d0, ds0, p0, q0, hargs, rfl, rfl, h0, k0⟩ := trodAll_cons h
  obtain ⟨v1, vs1, d1, ds1, p1, q1, rfl, rfl, rfl, h1, k1⟩ := trodAll_cons k0
  obtain ⟨v2, vs2, d2, ds2, p2, q2, rfl, rfl, rfl, h2, k2⟩ := trodAll_cons k1
  obtain ⟨rfl, rfl, rfl⟩ := trodAll_nil k2
  exact ⟨v0, v1, v2, d0, d1, d2, p0, p1, p2, by cases args; simp_all, rfl, by simp, h0, h1, h2⟩
end Go.Proofs.YtfoleblcaloeoaaDoor
