/- Texts merged for the claim: MoD, TextH. -/
import Derived.Test.YtfoleblcaloeoaaGreatDoorZaj
import Derived.Test.YtfoleblcaloeoaaGreatDoorZab
/- A new process: spawn. -/
namespace Go.Proofs.YtfoleblcaloeoaaGreatDoor
open Go Go.RowKit

/-- old blocks that are none of the machine's, and none of X -/
def Off (w : World) (O : Nat → Prop) (X F : List Nat) : Prop := ∀ j ∈ F, j < w.heap.size ∧ ¬ O j ∧ j ∉ X
theorem Off.new {w : World} {O : Nat → Prop} {X F : List Nat} (h : Off w O X F) {k : Nat} (hk : w.heap.size ≤ k) : k ∉ F := fun hm => Nat.not_lt.2 hk (h k hm).1
theorem Off.out {w : World} {O : Nat → Prop} {X F : List Nat} (h : Off w O X F) {k : Nat} (hk : k ∈ X) : k ∉ F := fun hm => (h k hm).2.2 hk
theorem Off.cp {w a b c : World} {O : Nat → Prop} {X F : List Nat} (h : Off w O X F) (hc : Chg [] a b) (hd : Chg F b c) : CP (fun k => ¬ O k) a c :=
  CP.of ((hc.up F).and_ hd) (fun k hk => .inl (h k hk).2.1)
theorem Off.nil (w : World) (O : Nat → Prop) (X : List Nat) : Off w O X [] := fun _ h => by cases h
theorem MMem.off {w W : World} {m : Nat} {M : Mo} {O : Nat → Prop} (h : MMem w m M O) (hc : CP (fun k => ¬ O k) w W) : MMem W m M O := h.cp hc (fun _ h h' => h' h)
/-- a call of this function enters it -/
def Ent (k : FuncId) : Prop := ∀ (a : Array Value) (W : World), (callFunc k a).run Tryz.prog W = .ok (.enter k a) W
theorem ent_of {k : FuncId} {fn : Func} (hf : Tryz.prog.funcs[k]? = some fn) (h1 : (fn.name == "runtime.NumGoroutine") = false) (h2 : fn.body.isNone = false) : Ent k := fun a W => by
  have h3 : ¬ fn.name = "runtime.NumGoroutine" := by simpa using h1
  have h4 : ¬ fn.body = none := fun h => by rw [h] at h2; cases h2
  unfold callFunc
  simp [Sem.run_bind, program, Sem.run, hf, h3, h4, Result.andThen]
/-- what an effect does: the machine turns into N's -/
def Eff (w w' : World) (m : Nat) (O : Nat → Prop) (X : List Nat) (f : Value) (N : Option Mo) : Prop :=
  match N with
  | none => f = .nilFunc
  | some M' => ∃ k caps, f = .func (.func k) #[] caps ∧ Ent k ∧ ∀ F W, Off w O X F → Chg F w' W → Calls Tryz.prog k caps W fun e W' => e = .returned (.tuple #[]) ∧ CP (fun k => O k ∨ w.heap.size ≤ k) W W' ∧ ∃ O', MMem W' m M' O' ∧ ∀ k, O' k → O k ∨ w.heap.size ≤ k
theorem CP.or {F G : Nat → Prop} {w w' : World} (h : CP F w w') : CP (fun k => F k ∨ G k) w w' := by
  obtain ⟨L, h1, h2⟩ := h
  exact ⟨L, h1, fun k hk => (h2 k hk).imp .inl id⟩
def AnsR (w w' : World) (m : Nat) (O : Nat → Prop) (X : List Nat) (R : Rs × Option Mo) (e : Ending) : Prop :=
  ∃ A n c f, e = .returned (.tuple #[.agg (rsc R.1 (.slice A n c)), f]) ∧ RB w' (.slice A n c) R.1.l ∧ (∀ k ∈ own (.slice A n c), O k ∨ w.heap.size ≤ k) ∧ Eff w w' m O X f R.2
/-- the answer of a call within: its result is put into a new block -/
theorem AnsR.put {w Wc W' : World} {m : Nat} {O : Nat → Prop} {X : List Nat} {R : Rs × Option Mo} {e : Ending} (h : AnsR Wc W' m O X R e) {b : Nat} (hs : w.heap.size ≤ Wc.heap.size) (hb : w.heap.size ≤ b) (hb2 : b < Wc.heap.size) (hO : ¬ O b) (hX : b ∉ X) :
    ∃ A n c f, e = .returned (.tuple #[.agg (rsc R.1 (.slice A n c)), f]) ∧ ∀ W7, Chg [b] W' W7 → AnsR w W7 m O X R (.returned (.tuple #[.agg (rsc R.1 (.slice A n c)), f])) := by
  obtain ⟨R1, N⟩ := R
  obtain ⟨A, n, c, f, rfl, h1, h2, h3⟩ := h
  refine ⟨A, n, c, f, rfl, fun W7 hc => ⟨A, n, c, f, rfl, h1.chg hc (fun k hk hk2 => ?_), fun k hk => (h2 k hk).imp id (Nat.le_trans hs), ?_⟩⟩
  · obtain rfl := List.mem_singleton.1 hk2
    rcases h2 k hk with h | h
    · exact hO h
    · omega
  · unfold Eff at h3 ⊢
    cases N with
    | none => exact h3
    | some M' =>
      obtain ⟨k, caps, hf, he, h4⟩ := h3
      refine ⟨k, caps, hf, he, fun F W hF hW => (h4 (b :: F) W (fun j hj => ?_) ((hc.mono (fun y hy => .inl (by obtain rfl := List.mem_singleton.1 hy; exact List.mem_cons_self ..))).trans hW (fun y hy => .inl (List.mem_cons_of_mem _ hy)))).mono ?_⟩
      · rcases List.mem_cons.1 hj with rfl | hj
        · exact ⟨hb2, hO, hX⟩
        · have := hF j hj
          exact ⟨by omega, this.2⟩
      · rintro e' W2 ⟨rfl, ⟨L, g1, g2⟩, O', k2, k3⟩
        exact ⟨rfl, ⟨L, g1, fun k hk => (g2 k hk).imp (fun h => h.imp id (Nat.le_trans hs)) id⟩, O', k2, fun k hk => (k3 k hk).imp id (Nat.le_trans hs)⟩
theorem AnsR.plain {w W7 : World} {m : Nat} {O : Nat → Prop} {X : List Nat} {R : Rs} (h : R.l = []) : AnsR w W7 m O X (R, none) (.returned (.tuple #[.agg (rsc R zV), .nilFunc])) := by
  refine ⟨none, 0, 0, .nilFunc, rfl, ?_, (fun _ h => (own_nil h).elim), rfl⟩
  show RB W7 (.slice none 0 0) R.l
  rw [h]
  exact RE.nil _ _ _ _ _
theorem results_twoRs {fn : Func} {p q : Tmp} {w : World} {b : Nat} {x : Rs} {v : Value} (h : fn.results = #[.cell p 40, .tmp q]) (tmps : Array Value) (hp : tmps.getD p undef = .pointer (some ⟨b, 0, none⟩)) (hb : XB w b x v) :
    (results fn tmps).run Tryz.prog w = .ok (.tuple #[.agg (rsc x v), tmps.getD q undef]) w := by
  have hp' : tmps[p]?.getD undef = .pointer (some ⟨b, 0, none⟩) := by simpa using hp
  have hl := run_loadVar_row w b 40 40 _ (0, 0) _ hb Tryz.underlying40 rfl infoRs
  simp [results, h, hp', asAddr, hl]
theorem zero72 : ∀ w, (zeroValue 103).run Tryz.prog w = .ok (.pointer none) w := by
  have h : (Tryz.prog.info? 103).map (fun i => (i.zero, i.size)) = some (some (.pointer none), 1) := by kernel_rfl
  exact (zero_of_info h).1
/-- a process that is there, or not -/
theorem look_pr {w : World} {m : Nat} {M : Mo} {bp bo be : Nat} {fp fo fe : Int → Option Value} {gb : Int → Nat} {GF : Int → Nat → Prop} {ov : Int → Value} (h : MIn w m M bp bo be fp fo fe gb GF ov) (z : Int) :
    (Instr.lookup 58 (.map (some bp)) (.int .i64 z) false).run Tryz.prog w = .ok (match M.pr z with | some _ => .pointer (some ⟨gb z, 0, none⟩) | none => .pointer none) w := by
  cases hp : M.pr z with
  | none => exact run_look_none Tryz.underlying58 Tryz.underlying3 h.mp (by rw [h.hp, hp]; rfl) (zero72 w) false
  | some p => exact run_look_some Tryz.underlying58 Tryz.underlying3 h.mp (by rw [h.hp, hp]; rfl) false
theorem new_pr_ok : (newPr.pk < 256 ∧ newPr.pm < 256) := by decide
structure BP (l : List (Nat × Value)) (d bp bo : Nat) (p : Pr) : Prop where
  h : Tryz.prog.built 113 l = some (prc d bp bo p)
theorem bp_new (d bp bo : Nat) : BP [(0, .pointer (some ⟨d, 0, none⟩)), (1, .map (some bp)), (2, .map (some bo))] d bp bo newPr := ⟨by kernel_rfl⟩
theorem wp_buildPr {o : Oper} {a : Act} {w : World} {K : Act → World → Prop} {Q : Exit → Act → World → Prop} {d bp bo : Nat} {p : Pr} (parts : Array (Nat × Operand)) (ho : o.op = .build 113 parts)
    {l : List (Nat × Value)} (hb : BP l d bp bo p) (hl : (parts.map fun (i, x) => (i, a.eval x)).toList = l) (h : K (a.put o.dst (.agg (prc d bp bo p))) w) : o.wp Tryz.prog a w K Q :=
  wp_build 113 parts ho (by rw [hl, hb.h]; rfl) (by rw [hl, hb.h]; exact h)
theorem wp_boxPr {o : Oper} {a : Act} {w : World} {K : Act → World → Prop} {Q : Exit → Act → World → Prop} {cs : Array Value} (z : Operand) (ho : o.op = .box 113 z) (hx : a.eval z = .agg cs)
    (h : K (a.put o.dst (.pointer (some ⟨w.heap.size, 0, none⟩))) (w.alloc (.cells cs 113))) : o.wp Tryz.prog a w K Q := by
  unfold Oper.wp execOp
  simp only [ho, hx, Sem.run_bind, Instr.box, newVar, newRow, run_newObj_alloc, Sem.run_pure, Result.andThen_ok, Value.cells]
  exact h
theorem wp_update {o : Oper} {a : Act} {w : World} {K : Act → World → Prop} {Q : Exit → Act → World → Prop} {t kt et : TypeId} {q k : IntKind} {b : Nat} {f : Int → Option Value} (x y z : Operand) (ho : o.op = .mapUpdate t x y z)
    (ht : Tryz.prog.underlying t = some (.map kt et)) (hk : Tryz.prog.underlying kt = some (.int q)) {key : Int} {val : Value} (hx : a.eval x = .map (some b)) (hy : a.eval y = .int k key) (hz : a.eval z = val) (h : MapB w b k f)
    (hK : ∀ w', MapB w' b k (fun y => if y = key then some val else f y) → Chg [b] w w' → K (a.put o.dst undef) w') : o.wp Tryz.prog a w K Q := by
  obtain ⟨w', h1, h2, h3⟩ := run_update_int ht hk h key val
  unfold Oper.wp execOp
  simp only [ho, hx, hy, hz, Sem.run_bind, h1, Sem.run_pure, Result.andThen_ok]
  exact hK w' h2 h3
end Go.Proofs.YtfoleblcaloeoaaGreatDoor

/- Drawn regions: orders that three pairs rule out together. -/
namespace Go.Proofs.YtfoleblcaloeoaaGreatDoor
open Go
section
variable {P : Program} {ops : Array Oper}
/-- the whole look, by the kernel: 'Ls': orders, each a list of all places -/
def ordersC (l : List Oper) (ks : Array Nat) (Ls : List (List Nat)) : Bool :=
  let ops := l.toArray
  let m := masks l
  let n := l.length
  let un : List (Nat × Nat) := (List.range n).flatMap fun j => ((List.range j).filter fun i => !(m.getD j 0).testBit i).map fun i => (i, j)
  let C := un.filter fun (i, j) => Ls.any fun L => !(okFor ops ks L i j true && okFor ops ks L i j false)
  Region.noSelect ops &&
  (l.zipIdx.all fun (oj, j) => kindOk oj (ks.getD j 3) && (oj.after.all fun e => !Region.binds .any e || decide (e.on < j))) &&
  (Ls.all fun L => decide L.Nodup && ((List.range n).all fun i => L.contains i) && (L.all fun i => decide (i < n)) && (List.range n).all fun j => (List.range j).all fun i => !(m.getD j 0).testBit i || bef L i j) &&
  (bools C.length).all fun σ =>
    (Ls.any fun L => (C.zip σ).all fun (p, b) => okFor ops ks L p.1 p.2 b) ||
    ((C.zip σ).any fun (p, b) => (C.zip σ).any fun (q, c) =>
      let x := if b then p.1 else p.2
      let y := if b then p.2 else p.1
      let u := if c then q.1 else q.2
      let v := if c then q.2 else q.1
      reachB m y u && reachB m v x) ||
    ((C.zip σ).any fun (p, b) => (C.zip σ).any fun (q, c) => (C.zip σ).any fun (r, d) =>
      let x := if b then p.1 else p.2
      let y := if b then p.2 else p.1
      let u := if c then q.1 else q.2
      let v := if c then q.2 else q.1
      let s := if d then r.1 else r.2
      let t := if d then r.2 else r.1
      reachB m y u && (reachB m v s && reachB m t x))

theorem ordersC_spec {l : List Oper} {ks : Array Nat} {Ls : List (List Nat)} (h : ordersC l ks Ls = true) {Q : Exit → Act → World → Prop} {S : World → Prop} {a : Act} {w : World}
    (hL : ∀ L ∈ Ls, wpR P l.toArray ks S Q L a w) (t : Nat) : wpOps P l.toArray Q (Region.linearise .any l.toArray t) a w := by
  simp only [ordersC, Bool.and_eq_true] at h
  obtain ⟨⟨⟨hs, hrow⟩, hLs⟩, hσ⟩ := h
  have at_ : ∀ (j : Nat) oj, l[j]? = some oj → (oj, j) ∈ l.zipIdx := fun j oj hj => by
    rw [List.mem_iff_getElem?]; exact ⟨j, by simp [List.getElem?_zipIdx, hj]⟩
  have row : ∀ (j : Nat) oj, l[j]? = some oj → _ := fun j oj hj => List.all_eq_true.1 hrow (oj, j) (at_ j oj hj)
  simp only [Bool.and_eq_true] at row
  have hkind : ∀ (j : Nat) oj, l.toArray[j]? = some oj → kindOk oj (ks.getD j 3) = true := fun j oj hj => (row j oj (by simpa using hj)).1
  have hdown : ∀ (j : Nat) oj, l.toArray[j]? = some oj → ∀ e ∈ oj.after, Region.binds .any e = true → e.on < j := fun j oj hj e he hb => by
    have := (row j oj (by simpa using hj)).2
    have := Array.all_eq_true_iff_forall_mem.1 this e he
    simpa [hb] using this
  have hgo : Sched l.toArray (Array.replicate l.toArray.size false) (Region.linearise .any l.toArray t) := by
    unfold Region.linearise
    refine sched_go hdown _ t _ (by simp) ?_
    unfold cnt
    have := List.countP_le_length (p := fun b => !b) (l := (Array.replicate l.toArray.size false).toList)
    simpa using this
  have hc0 : Closed l.toArray (Array.replicate l.toArray.size false) := by
    intro j o hj hl
    exfalso
    rcases Nat.lt_or_ge j l.length with hlt | hge
    · simp [Array.getD_eq_getD_getElem?, hlt] at hl
    · simp [Array.getD_eq_getD_getElem?, Nat.not_lt.2 hge] at hl
  have hun : ∀ i, (Array.replicate l.toArray.size false).getD i false = false := fun i => by
    rcases Nat.lt_or_ge i l.length with hlt | hge
    · simp [Array.getD_eq_getD_getElem?, hlt]
    · simp [Array.getD_eq_getD_getElem?, Nat.not_lt.2 hge]
  generalize Region.linearise .any l.toArray t = τ at *
  have hτm : ∀ i j, i < l.length → j < l.length → ((masks l).getD j 0).testBit i = true → bef τ i j = true := fun i j hi hj hb => by
    rcases sched_mask (masks_ok l) (by simpa using masks_size l) (by simp) hc0 hgo i j (sched_all (by simp) hgo j (by simpa using hj) (hun j)) hb with h | h
    · rw [hun] at h; cases h
    · exact h
  have hτd := sched_nodup (by simp) hgo
  have hτall : ∀ i, i < l.length → i ∈ τ := fun i hi => sched_all (by simp) hgo i (by simpa using hi) (hun i)
  generalize hC : (List.filter (fun x : Nat × Nat => Ls.any fun L => !(okFor l.toArray ks L x.1 x.2 true && okFor l.toArray ks L x.1 x.2 false))
      ((List.range l.length).flatMap fun j => ((List.range j).filter fun i => !((masks l).getD j 0).testBit i).map fun i => (i, j))) = C at hσ
  have hCm : ∀ p ∈ C, p.1 < p.2 ∧ p.2 < l.length := fun p hp => by
    rw [← hC] at hp
    obtain ⟨hp, _⟩ := List.mem_filter.1 hp
    obtain ⟨j, hj, hp⟩ := List.mem_flatMap.1 hp
    obtain ⟨i, hi, rfl⟩ := List.mem_map.1 hp
    exact ⟨by simpa using (List.mem_range.1 (List.mem_filter.1 hi).1), by simpa using hj⟩
  have hσ1 := List.all_eq_true.1 hσ (C.map fun p => bef τ p.1 p.2) (by have := mem_bools (C.map fun p => bef τ p.1 p.2); simpa using this)
  have hzip : C.zip (C.map fun p => bef τ p.1 p.2) = C.map fun p => (p, bef τ p.1 p.2) := by
    clear hC hCm hσ hσ1
    induction C with
    | nil => rfl
    | cons p C ih => simp [ih]
  rw [hzip] at hσ1
  simp only [Bool.or_eq_true] at hσ1
  rcases hσ1 with (hσ1 | hσ1) | hσ1
  · obtain ⟨L, hLm, hLC⟩ := List.any_eq_true.1 hσ1
    have hLok := List.all_eq_true.1 hLs L hLm
    simp only [Bool.and_eq_true, decide_eq_true_eq] at hLok
    obtain ⟨⟨⟨hnd, hlen⟩, hlt⟩, hmask⟩ := hLok
    have hlt' : ∀ i ∈ L, i < l.length := fun i hi => by simpa using List.all_eq_true.1 hlt i hi
    have hall : ∀ i, i < l.length → i ∈ L := fun i hi => by simpa using List.all_eq_true.1 hlen i (by simpa using hi)
    refine wpOps_of_wpR hs hkind τ _ L a w (by simp) hgo hnd (fun i => ⟨fun hi => ⟨by simpa using hlt' i hi, hun i⟩, fun hi => hall i (by simpa using hi.1)⟩) ?_ (hL L hLm)
    intro i j hij hji
    have hiL := hlt' i (bef_mem hij).1
    have hjL := hlt' j (bef_mem hij).2
    have hne : i ≠ j := fun e => by subst e; rw [bef_irrefl hnd] at hij; cases hij
    have hnij : bef L j i = false := by
      cases hb : bef L j i with
      | false => rfl
      | true => have := bef_trans hnd hij hb; rw [bef_irrefl hnd] at this; cases this
    have hnτ : bef τ i j = false := by
      cases hb : bef τ i j with
      | false => rfl
      | true => have := bef_trans hτd hb hji; rw [bef_irrefl hτd] at this; cases this
    have m1 : ((masks l).getD j 0).testBit i = false := by
      cases hb : ((masks l).getD j 0).testBit i with
      | false => rfl
      | true => rw [hτm i j hiL hjL hb] at hnτ; cases hnτ
    have m2 : i > j → ((masks l).getD i 0).testBit j = false := fun hgt => by
      cases hb : ((masks l).getD i 0).testBit j with
      | false => rfl
      | true =>
        have := List.all_eq_true.1 (List.all_eq_true.1 hmask i (by simpa using hiL)) j (by simpa using hgt)
        rw [hb] at this
        simp only [Bool.not_true, Bool.false_or] at this
        rw [this] at hnij; cases hnij
    have key : ∀ x y, x < y → y < l.length → ((masks l).getD y 0).testBit x = false → ∀ b, bef τ x y = b → okFor l.toArray ks L x y b = true := by
      intro x y hxy hy hb b hbb
      by_cases hin : (x, y) ∈ C
      · have := List.all_eq_true.1 hLC ((x, y), bef τ x y) (List.mem_map.2 ⟨(x, y), hin, rfl⟩)
        rw [← hbb]; exact this
      · have hnot : ¬ (Ls.any fun L => !(okFor l.toArray ks L x y true && okFor l.toArray ks L x y false)) = true := fun hany => hin (by
          rw [← hC]
          refine List.mem_filter.2 ⟨List.mem_flatMap.2 ⟨y, List.mem_range.2 hy, List.mem_map.2 ⟨x, List.mem_filter.2 ⟨List.mem_range.2 hxy, by simp only [hb, Bool.not_false]⟩, rfl⟩⟩, hany⟩)
        have h2 : (okFor l.toArray ks L x y true && okFor l.toArray ks L x y false) = true := by
          cases hb2 : (okFor l.toArray ks L x y true && okFor l.toArray ks L x y false) with
          | true => rfl
          | false => exact absurd (List.any_eq_true.2 ⟨L, hLm, by rw [hb2]; rfl⟩) hnot
        rw [Bool.and_eq_true] at h2
        cases b
        · exact h2.2
        · exact h2.1
    rcases Nat.lt_or_gt_of_ne hne with hlt1 | hgt1
    · have := key i j hlt1 hjL m1 false hnτ
      simpa [okFor, hij] using this
    · have := key j i hgt1 hiL (m2 hgt1) true hji
      simpa [okFor, hnij] using this
  · exfalso
    obtain ⟨⟨p, b⟩, hp, h2⟩ := List.any_eq_true.1 hσ1
    obtain ⟨⟨q, c⟩, hq, h3⟩ := List.any_eq_true.1 h2
    obtain ⟨p', hp', hpe⟩ := List.mem_map.1 hp
    obtain ⟨q', hq', hqe⟩ := List.mem_map.1 hq
    injection hpe with e1 e2
    injection hqe with e3 e4
    subst e1; subst e3
    have bound : ∀ p ∈ C, ∀ b, bef τ p.1 p.2 = b → bef τ (if b then p.1 else p.2) (if b then p.2 else p.1) = true ∧ (if b then p.1 else p.2) < l.length ∧ (if b then p.2 else p.1) < l.length := fun p hp b hb => by
      obtain ⟨h1, h2⟩ := hCm p hp
      cases b
      · refine ⟨?_, by simpa using h2, by simp; omega⟩
        rcases bef_total (hτall p.1 (by omega)) (hτall p.2 h2) (by omega) with h | h
        · rw [h] at hb; cases hb
        · simpa using h
      · exact ⟨by simpa using hb, by simp; omega, by simpa using h2⟩
    obtain ⟨b1, b2, b3⟩ := bound _ hp' b e2
    obtain ⟨c1, c2, c3⟩ := bound _ hq' c e4
    simp only [Bool.and_eq_true] at h3
    have reach : ∀ i j, i < l.length → j < l.length → reachB (masks l) i j = true → i = j ∨ bef τ i j = true := fun i j hi hj h => by
      simp only [reachB, Bool.or_eq_true, beq_iff_eq] at h
      rcases h with h | h
      · exact .inl h
      · exact .inr (hτm i j hi hj h)
    have step1 : bef τ (if b then p'.1 else p'.2) (if c then q'.1 else q'.2) = true := by
      rcases reach _ _ b3 c2 h3.1 with e | e
      · rw [← e]; exact b1
      · exact bef_trans hτd b1 e
    have step2 := bef_trans hτd step1 c1
    have := (by
      rcases reach _ _ c3 b2 h3.2 with e | e
      · rw [e] at step2; exact step2
      · exact bef_trans hτd step2 e : bef τ (if b then p'.1 else p'.2) (if b then p'.1 else p'.2) = true)
    rw [bef_irrefl hτd] at this
    cases this
  · exfalso
    obtain ⟨⟨p, b⟩, hp, h2⟩ := List.any_eq_true.1 hσ1
    obtain ⟨⟨q, c⟩, hq, h3⟩ := List.any_eq_true.1 h2
    obtain ⟨⟨r, d⟩, hr, h4⟩ := List.any_eq_true.1 h3
    obtain ⟨p', hp', hpe⟩ := List.mem_map.1 hp
    obtain ⟨q', hq', hqe⟩ := List.mem_map.1 hq
    obtain ⟨r', hr', hre⟩ := List.mem_map.1 hr
    injection hpe with e1 e2
    injection hqe with e3 e4
    injection hre with e5 e6
    subst e1; subst e3; subst e5
    have bound : ∀ p ∈ C, ∀ b, bef τ p.1 p.2 = b → bef τ (if b then p.1 else p.2) (if b then p.2 else p.1) = true ∧ (if b then p.1 else p.2) < l.length ∧ (if b then p.2 else p.1) < l.length := fun p hp b hb => by
      obtain ⟨h1, h2⟩ := hCm p hp
      cases b
      · refine ⟨?_, by simpa using h2, by simp; omega⟩
        rcases bef_total (hτall p.1 (by omega)) (hτall p.2 h2) (by omega) with h | h
        · rw [h] at hb; cases hb
        · simpa using h
      · exact ⟨by simpa using hb, by simp; omega, by simpa using h2⟩
    obtain ⟨b1, b2, b3⟩ := bound _ hp' b e2
    obtain ⟨c1, c2, c3⟩ := bound _ hq' c e4
    obtain ⟨d1, d2, d3⟩ := bound _ hr' d e6
    simp only [Bool.and_eq_true] at h4
    have reach : ∀ i j, i < l.length → j < l.length → reachB (masks l) i j = true → i = j ∨ bef τ i j = true := fun i j hi hj h => by
      simp only [reachB, Bool.or_eq_true, beq_iff_eq] at h
      rcases h with h | h
      · exact .inl h
      · exact .inr (hτm i j hi hj h)
    have go : ∀ i j k, j < l.length → k < l.length → bef τ i j = true → reachB (masks l) j k = true → bef τ i k = true := fun i j k hj hk h h' => by
      rcases reach _ _ hj hk h' with e | e
      · rw [← e]; exact h
      · exact bef_trans hτd h e
    have step1 := go _ _ _ b3 c2 b1 h4.1
    have step2 := go _ _ _ c3 d2 (bef_trans hτd step1 c1) h4.2.1
    have step3 := go _ _ _ d3 b2 (bef_trans hτd step2 d1) h4.2.2
    rw [bef_irrefl hτd] at step3
    cases step3
/-- THE RULE: whatever order is drawn -/
theorem wp_region_ordersC {id : Nat} {l : List Oper} {Q : Exit → Act → World → Prop} {a : Act} {w : World} (ks : List Nat) (Ls : List (List Nat)) (S : World → Prop) (hm : P.follows .mixedOrders = true)
    (hB : ordersC l ks.toArray Ls = true) (h : ∀ L ∈ Ls, wpR P l.toArray ks.toArray S Q L a w.drew) : (Code.region id l.toArray true).wp P Q a w :=
  wp_region_draw fun t => by
    simp only [Region.schedule, hm, Bool.true_or, if_true]
    exact ordersC_spec hB h t

theorem wp_region_h {id : Nat} {l : List Oper} {Q : Exit → Act → World → Prop} {a : Act} {w : World} (ks : List Nat) (gs : List (Option (Nat × Bool))) (Ls : List (List Nat)) (S : World → Prop) (hm : P.follows .mixedOrders = true)
    (hB : ordersC l ks.toArray Ls = true) (hR : restB l ks gs = true) (hLs : (Ls.all fun L => L.all fun i => decide (i < l.length)) = true)
    (h : ∀ L ∈ Ls, wpG P S Q (picks l L) (picks ks L) (picks gs L) a w.drew) : (Code.region id l.toArray true).wp P Q a w := by
  simp only [restB, Bool.and_eq_true, beq_iff_eq] at hR
  obtain ⟨⟨hk, hg⟩, hgd⟩ := hR
  refine wp_region_ordersC ks Ls S hm hB fun L hL => ?_
  have hL' : ∀ i ∈ L, i < l.length := fun i hi => by simpa using List.all_eq_true.1 (List.all_eq_true.1 hLs L hL) i hi
  have h1 := h L hL
  rw [wpG_eq (ops := l.toArray) _ _ _ (by rw [pick_zip hL' (by omega), pick_length (by intro i hi; rw [List.length_zip]; have := hL' i hi; omega), pick_length hL']) (by
    rw [pick_zip hL' (by omega)]
    exact List.all_eq_true.2 fun x hx => List.all_eq_true.1 hgd x (pick_mem hx))] at h1
  refine wpR_of (picks l L) (picks ks L) (by simpa using pick_get hL') ?_ h1
  have e := pick_get (l := ks) (L := L) (by intro i hi; have := hL' i hi; omega)
  have e2 : L.map (fun i => ks.toArray.getD i 3) = (L.map fun i => ks[i]?).map (·.getD 3) := by simp [Array.getD_eq_getD_getElem?]
  rw [e2, e]
  simp [Function.comp_def]
end
end Go.Proofs.YtfoleblcaloeoaaGreatDoor
