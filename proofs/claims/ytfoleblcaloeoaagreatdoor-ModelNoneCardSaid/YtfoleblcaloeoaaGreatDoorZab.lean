/- Texts merged for the claim: TextG, CfB, CfC, CfD, CfE, CfF, CaA, CaB. -/
import Derived.Test.YtfoleblcaloeoaaGreatDoorZaa
import Derived.WalkKit
import Derived.Laws.Rows
import Derived.Laws.Tables
import Derived.Laws.IdiomCopy
import Derived.Deep.MidRow
import Derived.Deep.WholeRow
import Derived.Great.Walk
import Derived.ChangeKeysEq
import Derived.WalkSpells
import Derived.Laws.IdiomStrings
import Derived.Laws.BitsAllLaws
import Derived.Laws.RangeAny
/- The walk of a drawn region, its guards given by their slots. -/
namespace Go.Proofs.YtfoleblcaloeoaaGreatDoor
open Go
section
variable {P : Program} {ops : Array Oper}
/-! ### The walk over a region's list, its guards by their slots -/

/-- is the operation carried out? The guard: a slot, and the bool that it must hold -/
def wantG (a : Act) : Option (Nat × Bool) → Bool
  | none => true
  | some (t, b) => match a.tmps[t]? with
    | some (.bool c) => c == b
    | _ => false

def wpG (P : Program) (S : World → Prop) (Q : Exit → Act → World → Prop) : List Oper → List Nat → List (Option (Nat × Bool)) → Act → World → Prop
  | [], _, _, a, w => Q .normal a w
  | o :: rest, ks, gs, a, w =>
    if wantG a (gs.headD none) = true then
      if ks.headD 3 = 0 then ∃ v, (∀ w', (execOp a.eval o).run P w' = .ok (.value v) w') ∧ wpG P S Q rest ks.tail gs.tail (a.put o.dst v) w
      else if ks.headD 3 = 5 then S w ∧ ∃ v, (∀ w', S w' → StillAt P o a.eval w' v) ∧ wpG P S Q rest ks.tail gs.tail (a.put o.dst v) w
      else if ks.headD 3 = 6 then S w ∧ o.wp P a w (fun a' w' => S w' ∧ wpG P S Q rest ks.tail gs.tail a' w') NoQ
      else o.wp P a w (wpG P S Q rest ks.tail gs.tail) NoQ
    else wpG P S Q rest ks.tail gs.tail (a.put o.dst undef) w

/-- is the guard's slot the one that the guarding operation writes? -/
def guardOk (ops : Array Oper) (o : Oper) (g : Option (Nat × Bool)) : Bool :=
  match o.guard, g with
  | none, none => true
  | some (j, b), some (t, c) => b == c && (ops[j]?).bind (·.dst) == some t
  | _, _ => false
theorem guardOk_spec {o : Oper} {g : Option (Nat × Bool)} (h : guardOk ops o g = true) (a : Act) : Region.wanted o (yielded ops a.tmps) = wantG a g := by
  unfold guardOk at h
  unfold Region.wanted wantG
  split at h
  · rename_i h1; rw [h1]
  · rename_i j b t c h1
    rw [h1]
    simp only [Bool.and_eq_true, beq_iff_eq] at h
    obtain ⟨rfl, h2⟩ := h
    simp only [yielded, h2, Option.bind_some]
    cases a.tmps[t]? with
    | none => rfl
    | some v => cases v <;> first | rfl | (simp; done)
  · cases h
theorem wpG_eq {S : World → Prop} {Q : Exit → Act → World → Prop} : ∀ (l : List Oper) (ks : List Nat) (gs : List (Option (Nat × Bool))), (l.zip gs).length = l.length → ((l.zip gs).all fun (o, g) => guardOk ops o g) = true →
    wpG P S Q l ks gs = wpT P ops S Q l ks
  | [], _, _, _, _ => rfl
  | o :: l, ks, [], h, _ => by simp at h
  | o :: l, ks, g :: gs, h, hg => by
    simp only [List.zip_cons_cons, List.all_cons, Bool.and_eq_true, List.length_cons] at h hg
    have ih := wpG_eq (S := S) (Q := Q) l ks.tail gs (by omega) hg.2
    funext a w
    simp only [wpG, wpT, List.headD_cons, List.tail_cons, guardOk_spec hg.1 a, ih]

def picks {α : Type} (l : List α) (L : List Nat) : List α := L.filterMap fun i => l[i]?

/-- the rest of the look: lengths, guards -/
def restB (l : List Oper) (ks : List Nat) (gs : List (Option (Nat × Bool))) : Bool :=
  ks.length == l.length && gs.length == l.length && (l.zip gs).all fun (o, g) => guardOk l.toArray o g

theorem pick_get {α : Type} {l : List α} {L : List Nat} (hL : ∀ i ∈ L, i < l.length) : L.map (fun i => l[i]?) = (picks l L).map some := by
  unfold picks
  induction L with
  | nil => rfl
  | cons i L ih =>
    have hi := hL i (List.mem_cons_self ..)
    rw [List.filterMap_cons, List.getElem?_eq_getElem hi, List.map_cons, List.map_cons, ih (fun j hj => hL j (List.mem_cons_of_mem _ hj))]
    simp [hi]
theorem pick_zip {α β : Type} {l : List α} {m : List β} {L : List Nat} (hL : ∀ i ∈ L, i < l.length) (hm : m.length = l.length) : (picks l L).zip (picks m L) = picks (l.zip m) L := by
  unfold picks
  induction L with
  | nil => rfl
  | cons i L ih =>
    have hi := hL i (List.mem_cons_self ..)
    have hz : i < (l.zip m).length := by rw [List.length_zip]; omega
    simp only [List.filterMap_cons, List.getElem?_eq_getElem hi, List.getElem?_eq_getElem (show i < m.length by omega), List.getElem?_eq_getElem hz, List.zip_cons_cons, List.getElem_zip]
    rw [ih (fun j hj => hL j (List.mem_cons_of_mem _ hj))]
theorem pick_mem {α : Type} {l : List α} {L : List Nat} {x : α} (h : x ∈ picks l L) : x ∈ l := by
  obtain ⟨i, _, hi⟩ := List.mem_filterMap.1 h
  exact List.mem_of_getElem? hi
theorem pick_length {α : Type} {l : List α} {L : List Nat} (hL : ∀ i ∈ L, i < l.length) : (picks l L).length = L.length := by
  have := congrArg List.length (pick_get hL)
  simpa using this.symm

/-- THE RULE: whatever order is drawn: a walk for each of the orders Ls -/
theorem wp_region_g {id : Nat} {l : List Oper} {Q : Exit → Act → World → Prop} {a : Act} {w : World} (ks : List Nat) (gs : List (Option (Nat × Bool))) (Ls : List (List Nat)) (S : World → Prop) (hm : P.follows .mixedOrders = true)
    (hB : ordersB l ks.toArray Ls = true) (hR : restB l ks gs = true) (hLs : (Ls.all fun L => L.all fun i => decide (i < l.length)) = true)
    (h : ∀ L ∈ Ls, wpG P S Q (picks l L) (picks ks L) (picks gs L) a w.drew) : (Code.region id l.toArray true).wp P Q a w := by
  simp only [restB, Bool.and_eq_true, beq_iff_eq] at hR
  obtain ⟨⟨hk, hg⟩, hgd⟩ := hR
  refine wp_region_orders ks Ls S hm hB fun L hL => ?_
  have hL' : ∀ i ∈ L, i < l.length := fun i hi => by simpa using List.all_eq_true.1 (List.all_eq_true.1 hLs L hL) i hi
  have h1 := h L hL
  rw [wpG_eq (ops := l.toArray) _ _ _ (by rw [pick_zip hL' (by omega), pick_length (by intro i hi; rw [List.length_zip]; have := hL' i hi; omega), pick_length hL']) (by
    rw [pick_zip hL' (by omega)]
    exact List.all_eq_true.2 fun x hx => List.all_eq_true.1 hgd x (pick_mem hx))] at h1
  refine wpR_of (picks l L) (picks ks L) (by simpa using pick_get hL') ?_ h1
  have e := pick_get (l := ks) (L := L) (by intro i hi; have := hL' i hi; omega)
  have e2 : L.map (fun i => ks.toArray.getD i 3) = (L.map fun i => ks[i]?).map (·.getD 3) := by simp [Array.getD_eq_getD_getElem?]
  rw [e2, e]
  simp [Function.comp_def]
theorem pick_range {α : Type} (l : List α) : picks l (List.range l.length) = l := by
  have := pick_get (l := l) (L := List.range l.length) (fun i hi => by simpa using hi)
  have e : (List.range l.length).map (fun i => l[i]?) = l.map some := by
    refine List.ext_getElem? fun i => ?_
    rcases Nat.lt_or_ge i l.length with hlt | hge
    · simp [hlt]
    · simp [Nat.not_lt.2 hge]
  rw [e] at this
  have h2 := congrArg (List.filterMap id) this
  simpa using h2.symm
/-- the text's own order -/
theorem wp_region_t {id : Nat} {l : List Oper} {Q : Exit → Act → World → Prop} {a : Act} {w : World} (ks : List Nat) (gs : List (Option (Nat × Bool))) (S : World → Prop) (hm : P.follows .mixedOrders = true)
    (hB : ordersB l ks.toArray [List.range l.length] = true) (hR : restB l ks gs = true) (h : wpG P S Q l ks gs a w.drew) : (Code.region id l.toArray true).wp P Q a w := by
  have hR' := hR
  simp only [restB, Bool.and_eq_true, beq_iff_eq] at hR'
  refine wp_region_g ks gs [List.range l.length] S hm hB hR (by simp) fun L hL => ?_
  obtain rfl : L = List.range l.length := by simpa using hL
  have e1 := pick_range ks
  have e2 := pick_range gs
  rw [hR'.1.1] at e1
  rw [hR'.1.2] at e2
  rw [pick_range l, e1, e2]
  exact h

section
variable {S : World → Prop} {Q : Exit → Act → World → Prop} {o : Oper} {rest : List Oper} {k : Nat} {ks : List Nat} {gs : List (Option (Nat × Bool))} {a : Act} {w : World}
theorem wpG_nil (h : Q .normal a w) : wpG P S Q [] ks gs a w := h
theorem wpG_skip {t : Nat} {b : Bool} (hv : wantG a (some (t, b)) = false) (h : wpG P S Q rest ks gs (a.put o.dst undef) w) : wpG P S Q (o :: rest) (k :: ks) (some (t, b) :: gs) a w := by
  unfold wpG
  rw [if_neg (by simp [hv])]
  exact h
theorem wpG_take {t : Nat} {b : Bool} (hv : wantG a (some (t, b)) = true) (h : wpG P S Q (o :: rest) (k :: ks) (none :: gs) a w) : wpG P S Q (o :: rest) (k :: ks) (some (t, b) :: gs) a w := by
  unfold wpG at h ⊢
  rw [if_pos (by simpa using hv)]
  rw [if_pos (show wantG a ((none :: gs).headD none) = true from rfl)] at h
  exact h
theorem wpG_part {t : Nat} {b : Bool} (h1 : wantG a (some (t, b)) = true → wpG P S Q (o :: rest) (k :: ks) (none :: gs) a w) (h2 : wantG a (some (t, b)) = false → wpG P S Q rest ks gs (a.put o.dst undef) w) :
    wpG P S Q (o :: rest) (k :: ks) (some (t, b) :: gs) a w := by
  cases hv : wantG a (some (t, b)) with
  | true => exact wpG_take hv (h1 hv)
  | false => exact wpG_skip hv (h2 hv)
theorem wpG_pure (h : ∀ K : Act → World → Prop, (∀ a w, wpG P S Q rest ks gs a w → K a w) → ∃ v, (∀ w', (execOp a.eval o).run P w' = .ok (.value v) w') ∧ K (a.put o.dst v) w) : wpG P S Q (o :: rest) (0 :: ks) (none :: gs) a w := by
  have := h _ (fun _ _ h => h)
  unfold wpG
  rw [if_pos (show wantG a ((none :: gs).headD none) = true from rfl)]
  simpa using this
theorem wpG_calc (hp : plainOp o a.eval = true) (h : ∀ K : Act → World → Prop, (∀ a w, wpG P S Q rest ks gs a w → K a w) → o.wp P a w K NoQ) : wpG P S Q (o :: rest) (0 :: ks) (none :: gs) a w := by
  have := plain_runs hp (h _ (fun _ _ h => h))
  unfold wpG
  rw [if_pos (show wantG a ((none :: gs).headD none) = true from rfl)]
  simpa using this
theorem wpG_deed (hk : k ≠ 0 ∧ k ≠ 5 ∧ k ≠ 6) (h : ∀ K : Act → World → Prop, (∀ a w, wpG P S Q rest ks gs a w → K a w) → o.wp P a w K NoQ) : wpG P S Q (o :: rest) (k :: ks) (none :: gs) a w := by
  have := h _ (fun _ _ h => h)
  unfold wpG
  rw [if_pos (show wantG a ((none :: gs).headD none) = true from rfl)]
  simpa [hk] using this
theorem wpG_held (hS : S w) (v : Value) (hv : ∀ w', S w' → StillAt P o a.eval w' v) (h : wpG P S Q rest ks gs (a.put o.dst v) w) : wpG P S Q (o :: rest) (5 :: ks) (none :: gs) a w := by
  unfold wpG
  rw [if_pos (show wantG a ((none :: gs).headD none) = true from rfl)]
  simp only [List.headD_cons, List.tail_cons]
  exact ⟨hS, v, hv, h⟩
theorem wpG_keeps (hS : S w) (h : ∀ K : Act → World → Prop, (∀ a w, S w → wpG P S Q rest ks gs a w → K a w) → o.wp P a w K NoQ) : wpG P S Q (o :: rest) (6 :: ks) (none :: gs) a w := by
  unfold wpG
  rw [if_pos (show wantG a ((none :: gs).headD none) = true from rfl)]
  simp only [List.headD_cons, List.tail_cons]
  exact ⟨hS, h _ fun _ _ s t => ⟨s, t⟩⟩
/-- a load, held by S -/
theorem wpG_hload (t : TypeId) (x : Operand) (ho : o.op = .load t x) {ad : Addr} (hx : a.eval x = .pointer (some ad)) {v : Value} (hv : ∀ w', S w' → (loadVar t ad).run P w' = .ok v w') (hS : S w) (h : wpG P S Q rest ks gs (a.put o.dst v) w) :
    wpG P S Q (o :: rest) (5 :: ks) (none :: gs) a w := by
  refine wpG_held hS v (fun w' hw' => ?_) h
  unfold StillAt execOp
  simp [ho, hx, Instr.loadAt, Instr.sureAddr, hv w' hw']
/-- a call of a Go function that is quiet wherever S holds -/
theorem wpG_hcall {f : FuncId} {args : Array Value} {v : Value} (ho : ∀ w', (execOp a.eval o).run P w' = .ok (.enter f args) w') (hv : ∀ w', S w' → Calls P f args w' (fun e w'' => e = .returned v ∧ w'' = w')) (hS : S w) (h : wpG P S Q rest ks gs (a.put o.dst v) w) :
    wpG P S Q (o :: rest) (5 :: ks) (none :: gs) a w := by
  refine wpG_held hS v (fun w' hw' => ?_) h
  unfold StillAt
  rw [ho w']
  exact ⟨rfl, hv w' hw'⟩
end
theorem load_slice {w : World} {t e : TypeId} {ad : Addr} {v : Value} (ht : P.underlying t = some (.slice e)) (h : w.cell? ad = some v) : (loadVar t ad).run P w = .ok v w := by
  simp [loadVar, isAgg, run_underlying ht, load, Sem.run, h]
theorem load_int {w : World} {t : TypeId} {k : IntKind} {ad : Addr} {v : Value} (ht : P.underlying t = some (.int k)) (h : w.cell? ad = some v) : (loadVar t ad).run P w = .ok v w := by
  simp [loadVar, isAgg, run_underlying ht, load, Sem.run, h]end
attribute [irreducible] wpG
end Go.Proofs.YtfoleblcaloeoaaGreatDoor

/- A config in memory: its 94 cells. -/
namespace Go.Proofs.YtfoleblcaloeoaaGreatDoor
open Go Go.RowKit

/-- the config's cells -/
@[irreducible] def cg (c : Cf) : Array Value := Array.ofFn (n := 94) fun i => .int .i64 (c i)
theorem cg_size (c : Cf) : (cg c).size = 94 := by unfold cg; simp
theorem cg_get (c : Cf) {i : Nat} (h : i < 94) : (cg c)[i]? = some (.int .i64 (c i)) := by unfold cg; simp [h]
theorem cg_ext {c d : Cf} (h : ∀ i, i < 94 → c i = d i) : cg c = cg d := by
  unfold cg
  congr 1
  funext i
  rw [h i i.2]
theorem cg_set (c : Cf) (i : Nat) (v : Int) : (cg c).setIfInBounds i (.int .i64 v) = cg (fun q => if q = i then v else c q) := by
  apply Array.ext_getElem?
  intro j
  rw [Array.getElem?_setIfInBounds]
  by_cases hj : j < 94
  · rw [cg_get _ hj, cg_get _ hj]
    by_cases e : i = j
    · subst e; simp [cg_size, hj]
    · rw [if_neg e, if_neg (fun h => e h.symm)]
  · have h1 : (cg c)[j]? = none := Array.getElem?_eq_none (by rw [cg_size]; omega)
    have h2 : (cg (fun q => if q = i then v else c q))[j]? = none := Array.getElem?_eq_none (by rw [cg_size]; omega)
    rw [h1, h2, cg_size]
    split
    · rename_i e; rw [if_neg (by omega)]
    · rfl
theorem cg_one (c : Cf) : (cg c).all (·.oneCell') = true := by
  unfold cg
  rw [Array.all_eq_true]
  intro i hi
  simp [Value.oneCell']
theorem cg_of {xs : Array Value} {c : Cf} (hs : xs.size = 94) (h : ∀ i, i < 94 → xs[i]? = some (.int .i64 (c i))) : xs = cg c := by
  apply Array.ext_getElem?
  intro j
  by_cases hj : j < 94
  · rw [h j hj, cg_get c hj]
  · rw [Array.getElem?_eq_none (by omega), Array.getElem?_eq_none (by rw [cg_size]; omega)]
/-- a config lies at b -/
abbrev CB (w : World) (b : Nat) (c : Cf) : Prop := Blk w b 26 (cg c)
theorem CB.get {w : World} {b : Nat} {c : Cf} (h : CB w b c) {i : Nat} (hi : i < 94) : w.cell? ⟨b, i, none⟩ = some (.int .i64 (c i)) := (h.cell i).trans (cg_get c hi)
theorem info26 : (Tryz.prog.info? 26).map (·.size) = some 94 := by kernel_rfl
theorem info26' {c : Cf} : (Tryz.prog.info? 26).map (·.size) = some (cg c).size := by rw [cg_size]; exact info26
/-- other cells there -/
theorem CB.set {w : World} {b : Nat} {c : Cf} (h : CB w b c) (i : Nat) (v : Int) : CB (w.setCell ⟨b, i, none⟩ (.int .i64 v)) b (fun q => if q = i then v else c q) := by
  have := h.set_ i (.int .i64 v)
  rwa [cg_set] at this
theorem CB.ext {w : World} {b : Nat} {c d : Cf} (h : CB w b c) (he : ∀ i, i < 94 → c i = d i) : CB w b d := by rw [CB, ← cg_ext he]; exact h
/-- noughts from o on -/
def zeroed (c : Cf) (o n : Nat) : Cf := fun i => if o ≤ i ∧ i < o + n then 0 else c i
theorem zero_cells {b : Nat} : ∀ (n o : Nat) (w : World) (c : Cf), CB w b c → CB (w.setCells b o (List.replicate n (.int .i64 0))) b (zeroed c o n) ∧ Chg [b] w (w.setCells b o (List.replicate n (.int .i64 0)))
  | 0, o, w, c, h => ⟨h.ext fun i _ => by unfold zeroed; rw [if_neg (by omega)], Chg.refl _ _⟩
  | n + 1, o, w, c, h => by
    obtain ⟨h1, h2⟩ := zero_cells n (o + 1) _ _ (h.set o 0)
    refine ⟨h1.ext fun i _ => ?_, ((Chg.refl [b] w).setCell (p := ⟨b, o, none⟩) (.inl (by simp)) _).trans h2 (fun x hx => .inl hx)⟩
    unfold zeroed
    by_cases e : i = o
    · subst e; rw [if_neg (by omega)]; simp only [if_pos]; rw [if_pos (by omega)]
    · by_cases e2 : o + 1 ≤ i ∧ i < o + 1 + n
      · rw [if_pos e2, if_pos (by omega)]
      · rw [if_neg e2]; simp only [if_neg e]; rw [if_neg (by omega)]
theorem run_zero {w : World} {b : Nat} {c : Cf} (h : CB w b c) {o n : Nat} (ho : o + n ≤ 94) : (storeCells ⟨b, o, none⟩ (List.replicate n (.int .i64 0))).run Tryz.prog w = .ok () (w.setCells b o (List.replicate n (.int .i64 0))) := by
  have := run_storeCells_cells (P := Tryz.prog) b o (List.replicate n (.int .i64 0)) 0 w (fun j hj => by rw [List.length_replicate] at hj; rw [h.get (by omega)]; rfl) (fun j _ => h.frozen _) (fun v hv => by obtain ⟨_, rfl⟩ := List.mem_replicate.1 hv; rfl)
  exact this
theorem zeros8 (n : Nat) : (Builtin.zeroCells #[.int .i64 0, .int .i64 0, .int .i64 0, .int .i64 0, .int .i64 0, .int .i64 0, .int .i64 0, .int .i64 0] n).toList = List.replicate (n * 8) (.int .i64 0) := by
  apply List.ext_getElem
  · simp [Builtin.zeroCells]
  · intro i h1 h2
    simp only [List.getElem_replicate]
    have h3 : i % 8 < 8 := Nat.mod_lt _ (by omega)
    simp [Builtin.zeroCells]
    generalize i % 8 = m at h3
    match m, h3 with
    | 0, _ => rfl
    | 1, _ => rfl
    | 2, _ => rfl
    | 3, _ => rfl
    | 4, _ => rfl
    | 5, _ => rfl
    | 6, _ => rfl
    | 7, _ => rfl
theorem zeros1 (n : Nat) : (Builtin.zeroCells #[.int .i64 0] n).toList = List.replicate n (.int .i64 0) := by
  apply List.ext_getElem
  · simp [Builtin.zeroCells]
  · intro i h1 h2
    simp only [List.getElem_replicate]
    have h3 : i % 1 = 0 := Nat.mod_one _
    simp [Builtin.zeroCells, h3]
theorem zero23 : ∀ w, (zeroValue 23).run Tryz.prog w = .ok (.agg #[.int .i64 0, .int .i64 0, .int .i64 0, .int .i64 0, .int .i64 0, .int .i64 0, .int .i64 0, .int .i64 0]) w := by
  have h : (Tryz.prog.info? 23).map (fun i => (i.zero, i.size)) = some (some (.agg #[.int .i64 0, .int .i64 0, .int .i64 0, .int .i64 0, .int .i64 0, .int .i64 0, .int .i64 0, .int .i64 0]), 8) := by kernel_rfl
  exact (zero_of_info h).1
theorem zero3 : ∀ w, (zeroValue 3).run Tryz.prog w = .ok (.int .i64 0) w := by
  have h : (Tryz.prog.info? 3).map (fun i => (i.zero, i.size)) = some (some (.int .i64 0), 1) := by kernel_rfl
  exact (zero_of_info h).1
theorem run_clear30 {w : World} {b : Nat} {c : Cf} (h : CB w b c) {o n k : Nat} (ho : o + n ≤ 94) (ty : TypeId) :
    (Builtin.clear_ #[94] ty #[.slice (some ⟨b, o, none⟩) n k]).run Tryz.prog w = .ok (.tuple #[]) (w.setCells b o (List.replicate n (.int .i64 0))) := by
  cases n with
  | zero => simp [Builtin.clear_, run_underlying Tryz.underlying94, World.setCells]
  | succ n => simp [Builtin.clear_, run_underlying Tryz.underlying94, zero3, Value.cells, zeros1, run_zero h ho]
theorem run_clear62 {w : World} {b : Nat} {c : Cf} (h : CB w b c) {o n k : Nat} (ho : o + n * 8 ≤ 94) (ty : TypeId) :
    (Builtin.clear_ #[147] ty #[.slice (some ⟨b, o, none⟩) n k]).run Tryz.prog w = .ok (.tuple #[]) (w.setCells b o (List.replicate (n * 8) (.int .i64 0))) := by
  cases n with
  | zero => simp [Builtin.clear_, run_underlying Tryz.underlying147, World.setCells]
  | succ n => simp [Builtin.clear_, run_underlying Tryz.underlying147, zero23, Value.cells, zeros8, run_zero h ho]
section
variable {ops : Array Oper} {rest : List Oper} {o : Oper} {a : Act} {w : World} {Q : Exit → Act → World → Prop} {b : Nat} {c d : Cf}
theorem wpList_clear30 (h0 : CB w b c) (hg : o.guard = none) (x : Operand) (ho : o.op = .call { callee := .builtin .clear, args := #[x], argTypes := #[94] }) {off n k : Nat}
    (hx : a.eval x = .slice (some ⟨b, off, none⟩) n k) (hn : off + n ≤ 94) (h : ∀ w', CB w' b (zeroed c off n) → Chg [b] w w' → wpList Tryz.prog ops Q rest (a.put o.dst (.tuple #[])) w') : wpList Tryz.prog ops Q (o :: rest) a w :=
  Great.wpList_runTo hg _ rfl _ _ (by unfold execOp; simp only [ho, resolve, invoke, builtin, Sem.run_bind, Sem.run_pure, Result.andThen_ok, List.map_toArray, List.map_cons, List.map_nil, hx, run_clear30 h0 hn]) (h _ (zero_cells n off w c h0).1 (zero_cells n off w c h0).2)
theorem wpList_clear62 (h0 : CB w b c) (hg : o.guard = none) (x : Operand) (ho : o.op = .call { callee := .builtin .clear, args := #[x], argTypes := #[147] }) {off n k : Nat}
    (hx : a.eval x = .slice (some ⟨b, off, none⟩) n k) (hn : off + n * 8 ≤ 94) (h : ∀ w', CB w' b (zeroed c off (n * 8)) → Chg [b] w w' → wpList Tryz.prog ops Q rest (a.put o.dst (.tuple #[])) w') : wpList Tryz.prog ops Q (o :: rest) a w :=
  Great.wpList_runTo hg _ rfl _ _ (by unfold execOp; simp only [ho, resolve, invoke, builtin, Sem.run_bind, Sem.run_pure, Result.andThen_ok, List.map_toArray, List.map_cons, List.map_nil, hx, run_clear62 h0 hn]) (h _ (zero_cells (n * 8) off w c h0).1 (zero_cells (n * 8) off w c h0).2)
theorem wpList_load26 (h0 : CB w b c) (hg : o.guard = none) (x : Operand) (ho : o.op = .load 26 x)
    (hx : a.eval x = .pointer (some ⟨b, 0, none⟩)) (h : wpList Tryz.prog ops Q rest (a.put o.dst (.agg (cg c))) w) : wpList Tryz.prog ops Q (o :: rest) a w :=
  wpList_load_row hg 26 x ho b hx 26 (cg c) (0, 0) _ h0 Tryz.underlying26 rfl info26' h
theorem wpList_store26 (h0 : CB w b c) (hg : o.guard = none) (x y : Operand) (ho : o.op = .store 26 x y)
    (hx : a.eval x = .pointer (some ⟨b, 0, none⟩)) (hy : a.eval y = .agg (cg d)) (h : ∀ w', CB w' b d → Chg [b] w w' → wpList Tryz.prog ops Q rest (a.put o.dst undef) w') : wpList Tryz.prog ops Q (o :: rest) a w :=
  wpList_store_row hg 26 x y ho b (cg d) hx hy 26 (cg c) h0 info26' (by rw [cg_size, cg_size]) (cg_one d) (h _ (setRow_heap w b _ _ _ _ h0) ((Chg.refl [b] w).setRow (.inl (by simp)) _))
theorem zeroCg : cg (fun _ => 0) = Array.replicate 94 (.int .i64 0) := by
  apply Array.ext_getElem?
  intro j
  by_cases hj : j < 94
  · rw [cg_get _ hj]; simp [hj]
  · rw [Array.getElem?_eq_none (by rw [cg_size]; omega), Array.getElem?_eq_none (by simp; omega)]
theorem zero26 : ∀ w, (zeroValue 26).run Tryz.prog w = .ok (.agg (cg (fun _ => 0))) w := by
  have h : (Tryz.prog.info? 26).map (fun i => (i.zero, i.size)) = some (some (.agg (Array.replicate 94 (.int .i64 0))), 94) := by kernel_rfl
  rw [zeroCg]
  exact (zero_of_info h).1
theorem run_alloc26 (w : World) : (Instr.alloc 26 true (.tuple #[])).run Tryz.prog w = .ok (.pointer (some ⟨w.heap.size, 0, none⟩)) (w.alloc (.cells (cg (fun _ => 0)) 26)) := by
  simp [Instr.alloc, Sem.run_bind, zero26, newVar, newRow, run_newObj_alloc, Value.cells]
  rw [zeroCg]
  congr 2
theorem wpList_alloc26 (hg : o.guard = none) (ho : o.op = .alloc 26)
    (h : wpList Tryz.prog ops Q rest (a.put o.dst (.pointer (some ⟨w.heap.size, 0, none⟩))) (w.alloc (.cells (cg (fun _ => 0)) 26))) : wpList Tryz.prog ops Q (o :: rest) a w :=
  Great.wpList_runTo hg _ rfl _ _ (by unfold execOp; simp only [ho, Sem.run_bind, run_alloc26, Sem.run_pure, Result.andThen_ok]) h
end
end Go.Proofs.YtfoleblcaloeoaaGreatDoor

/- config's May: the parts. -/
namespace Go.Proofs.YtfoleblcaloeoaaGreatDoor
open Go Go.RowKit

/-! ## Two configs, alike? -/
theorem ext8 (c : Cf) (o : Nat) (ho : o + 8 ≤ 94) (j : Nat) (hj : j < 8) : ((cg c).extract o (o + 8))[j]? = some (.int .i64 (c (o + j))) := by
  rw [Array.getElem?_extract, if_pos (by rw [cg_size]; omega), cg_get c (by omega)]
theorem run_items_int (d : Nat) (w : World) (xs ys : Array Value) (f g : Nat → Int) : ∀ (is : List Nat), (∀ i ∈ is, xs[i]? = some (.int .i64 (f i)) ∧ ys[i]? = some (.int .i64 (g i))) →
    (Op.eqItems (d + 1) 3 1 xs ys is).run Tryz.prog w = .ok (is.all fun i => f i == g i) w
  | [], _ => by simp [Op.eqItems]
  | i :: is, h => by
    obtain ⟨hx, hy⟩ := h i (List.mem_cons_self ..)
    have px : (part 3 xs (i * 1)).run Tryz.prog w = .ok (.int .i64 (f i)) w := by simp [part, isAgg, run_underlying Tryz.underlying3, hx]
    have py : (part 3 ys (i * 1)).run Tryz.prog w = .ok (.int .i64 (g i)) w := by simp [part, isAgg, run_underlying Tryz.underlying3, hy]
    have ih := run_items_int d w xs ys f g is (fun j hj => h j (List.mem_cons_of_mem _ hj))
    simp only [Op.eqItems, Sem.run_bind, px, py, Result.andThen_ok, run_equalIn_int w d 3 .i64 .i64 _ _ Tryz.underlying3, List.all_cons]
    cases hb : (f i == g i)
    · simp
    · simp [ih]
theorem info3 : ∃ i, Tryz.prog.info? 3 = some i := by
  have h : (Tryz.prog.info? 3).isSome = true := by kernel_rfl
  exact Option.isSome_iff_exists.1 h
theorem info23 : ∃ i, Tryz.prog.info? 23 = some i := by
  have h : (Tryz.prog.info? 23).isSome = true := by kernel_rfl
  exact Option.isSome_iff_exists.1 h
theorem cells3 : Tryz.prog.cellsOf 3 = 1 := by kernel_rfl
theorem cells23 : Tryz.prog.cellsOf 23 = 8 := by kernel_rfl
theorem run_eq_arr (d : Nat) (w : World) {t : TypeId} {n : Nat} (hu : Tryz.prog.underlying t = some (.array n 3)) (xs ys : Array Value) (f g : Nat → Int) (h : ∀ i, i < n → xs[i]? = some (.int .i64 (f i)) ∧ ys[i]? = some (.int .i64 (g i))) :
    (Op.equalIn (d + 2) t (.agg xs) (.agg ys)).run Tryz.prog w = .ok ((List.range n).all fun i => f i == g i) w := by
  obtain ⟨i, hi⟩ := info3
  rw [run_equalIn_array w (d + 1) xs ys hu hi, cells3]
  exact run_items_int d w xs ys f g _ (fun i hi => h i (by simpa using hi))
theorem size23 : ∀ w, (sizeOf 23).run Tryz.prog w = .ok 8 w := fun w => by
  obtain ⟨i, hi⟩ := info23
  rw [run_sizeOf w hi, cells23]
theorem run_items_arr (d : Nat) (w : World) (xs ys : Array Value) (f g : Nat → Int) : ∀ (is : List Nat), (∀ i ∈ is, ∀ j, j < 8 → xs[i * 8 + j]? = some (.int .i64 (f (i * 8 + j))) ∧ ys[i * 8 + j]? = some (.int .i64 (g (i * 8 + j)))) →
    (Op.eqItems (d + 2) 23 8 xs ys is).run Tryz.prog w = .ok (is.all fun i => (List.range 8).all fun j => f (i * 8 + j) == g (i * 8 + j)) w
  | [], _ => by simp [Op.eqItems]
  | i :: is, h => by
    have hh := h i (List.mem_cons_self ..)
    have px : (part 23 xs (i * 8)).run Tryz.prog w = .ok (.agg (xs.extract (i * 8) (i * 8 + 8))) w := by simp [part, isAgg, run_underlying Tryz.underlying23, size23]
    have py : (part 23 ys (i * 8)).run Tryz.prog w = .ok (.agg (ys.extract (i * 8) (i * 8 + 8))) w := by simp [part, isAgg, run_underlying Tryz.underlying23, size23]
    have ih := run_items_arr d w xs ys f g is (fun j hj => h j (List.mem_cons_of_mem _ hj))
    have lx : ∀ (zs : Array Value) (k : Nat → Int), (∀ j, j < 8 → zs[i * 8 + j]? = some (.int .i64 (k (i * 8 + j)))) → ∀ j, j < 8 → (zs.extract (i * 8) (i * 8 + 8))[j]? = some (.int .i64 (k (i * 8 + j))) := fun zs k hz j hj => by
      have h7 := (Array.getElem?_eq_some_iff.1 (hz 7 (by omega))).1
      rw [Array.getElem?_extract, if_pos (by omega)]
      exact hz j hj
    have pe := run_eq_arr d w Tryz.underlying23 (xs.extract (i * 8) (i * 8 + 8)) (ys.extract (i * 8) (i * 8 + 8)) (fun j => f (i * 8 + j)) (fun j => g (i * 8 + j)) (fun j hj => ⟨lx xs f (fun j hj => (hh j hj).1) j hj, lx ys g (fun j hj => (hh j hj).2) j hj⟩)
    simp only [Op.eqItems, Sem.run_bind, px, py, pe, Result.andThen_ok, List.all_cons]
    generalize ((List.range 8).all fun j => f (i * 8 + j) == g (i * 8 + j)) = r
    cases r
    · simp
    · simp [ih]
theorem size_22 : ∀ w, (sizeOf 22).run Tryz.prog w = .ok 16 w := fun w => by
  have h : (Tryz.prog.info? 22).map (·.size) = some 16 := by kernel_rfl
  cases hq : Tryz.prog.info? 22 with
  | none => simp [hq] at h
  | some i => simp [hq] at h; simp [sizeOf, typeInfo, hq, h]
theorem size_24 : ∀ w, (sizeOf 24).run Tryz.prog w = .ok 64 w := fun w => by
  have h : (Tryz.prog.info? 24).map (·.size) = some 64 := by kernel_rfl
  cases hq : Tryz.prog.info? 24 with
  | none => simp [hq] at h
  | some i => simp [hq] at h; simp [sizeOf, typeInfo, hq, h]
theorem run_eq_cg (w : World) (c d : Cf) : ∃ r : Bool, (Op.equalIn 10000 26 (.agg (cg c)) (.agg (cg d))).run Tryz.prog w = .ok r w ∧ (r = true ↔ ∀ i, i < 94 → c i = d i) := by
  have hf : ((Tryz.prog.fieldsOf 26).toList.map fun f => (f.type, f.offset, f.name)) = [(3, 0, "Nodes"), (3, 1, "CPUs"), (22, 2, "Home"), (23, 18, "Frames"), (24, 26, "Distance"), (3, 90, "Slots"), (3, 91, "Min"), (3, 92, "Low"), (3, 93, "High")] := by kernel_rfl
  rw [run_equalIn_agg w 9999 26 _ _ (by kernel_rfl) (by kernel_rfl)]
  generalize (Tryz.prog.fieldsOf 26).toList = fs at hf ⊢
  have pi : ∀ (e : Cf) (o : Nat), o < 94 → (part 3 (cg e) o).run Tryz.prog w = .ok (.int .i64 (e o)) w := fun e o ho => by simp [part, isAgg, run_underlying Tryz.underlying3, cg_get e ho]
  have p22 : ∀ (e : Cf), (part 22 (cg e) 2).run Tryz.prog w = .ok (.agg ((cg e).extract 2 18)) w := fun e => by simp [part, isAgg, run_underlying Tryz.underlying22, size_22]
  have p23 : ∀ (e : Cf), (part 23 (cg e) 18).run Tryz.prog w = .ok (.agg ((cg e).extract 18 26)) w := fun e => by simp [part, isAgg, run_underlying Tryz.underlying23, size23]
  have p24 : ∀ (e : Cf), (part 24 (cg e) 26).run Tryz.prog w = .ok (.agg ((cg e).extract 26 90)) w := fun e => by simp [part, isAgg, run_underlying Tryz.underlying24, size_24]
  have ex : ∀ (e : Cf) (o n i : Nat), o + n ≤ 94 → i < n → ((cg e).extract o (o + n))[i]? = some (.int .i64 (e (o + i))) := fun e o n i ho hi => by
    rw [Array.getElem?_extract, if_pos (by rw [cg_size]; omega), cg_get e (by omega)]
  have e3 : ∀ (a b : Int), (Op.equalIn 9999 3 (.int .i64 a) (.int .i64 b)).run Tryz.prog w = .ok (a == b) w := fun a b => run_equalIn_int w 9998 3 .i64 .i64 a b Tryz.underlying3
  have e22 := run_eq_arr 9997 w Tryz.underlying22 ((cg c).extract 2 18) ((cg d).extract 2 18) (fun i => c (2 + i)) (fun i => d (2 + i)) (fun i hi => ⟨ex c 2 16 i (by omega) hi, ex d 2 16 i (by omega) hi⟩)
  have e23 := run_eq_arr 9997 w Tryz.underlying23 ((cg c).extract 18 26) ((cg d).extract 18 26) (fun i => c (18 + i)) (fun i => d (18 + i)) (fun i hi => ⟨ex c 18 8 i (by omega) hi, ex d 18 8 i (by omega) hi⟩)
  have e24 : (Op.equalIn 9999 24 (.agg ((cg c).extract 26 90)) (.agg ((cg d).extract 26 90))).run Tryz.prog w = .ok ((List.range 8).all fun i => (List.range 8).all fun j => c (26 + (i * 8 + j)) == d (26 + (i * 8 + j))) w := by
    obtain ⟨i, hi⟩ := info23
    rw [run_equalIn_array w 9998 _ _ Tryz.underlying24 hi, cells23]
    exact run_items_arr 9996 w _ _ (fun i => c (26 + i)) (fun i => d (26 + i)) _ (fun i hi j hj => by
      have hi8 : i < 8 := by simpa using hi
      exact ⟨ex c 26 64 _ (by omega) (by omega), ex d 26 64 _ (by omega) (by omega)⟩)
  rcases fs with _ | ⟨f1, _ | ⟨f2, _ | ⟨f3, _ | ⟨f4, _ | ⟨f5, _ | ⟨f6, _ | ⟨f7, _ | ⟨f8, _ | ⟨f9, _ | ⟨f10, t⟩⟩⟩⟩⟩⟩⟩⟩⟩⟩
  all_goals first
  | (simp at hf; done)
  | skip
  simp only [List.map_cons, List.map_nil, List.cons.injEq, Prod.mk.injEq, and_true] at hf
  obtain ⟨⟨a1, a2, a3⟩, ⟨b1, b2, b3⟩, ⟨c1, c2, c3⟩, ⟨d1, d2, d3⟩, ⟨g1, g2, g3⟩, ⟨h1, h2, h3⟩, ⟨i1, i2, i3⟩, ⟨j1, j2, j3⟩, k1, k2, k3⟩ := hf
  refine ⟨(c 0 == d 0 && c 1 == d 1 && ((List.range 16).all fun i => c (2 + i) == d (2 + i)) && ((List.range 8).all fun i => c (18 + i) == d (18 + i)) && ((List.range 8).all fun i => (List.range 8).all fun j => c (26 + (i * 8 + j)) == d (26 + (i * 8 + j))) && c 90 == d 90 && c 91 == d 91 && c 92 == d 92 && c 93 == d 93), ?_, ?_⟩
  rotate_left
  · simp only [Bool.and_eq_true, beq_iff_eq, List.all_eq_true, List.mem_range]
    refine Iff.symm ?_
    constructor
    · intro h
      exact ⟨⟨⟨⟨⟨⟨⟨⟨h 0 (by omega), h 1 (by omega)⟩, fun i hi => h _ (by omega)⟩, fun i hi => h _ (by omega)⟩, fun i hi j hj => h _ (by omega)⟩, h 90 (by omega)⟩, h 91 (by omega)⟩, h 92 (by omega)⟩, h 93 (by omega)⟩
    · rintro ⟨⟨⟨⟨⟨⟨⟨⟨h0, h1⟩, h2⟩, h3⟩, h4⟩, h5⟩, h6⟩, h7⟩, h8⟩ i hi
      by_cases q2 : i < 2
      · rcases (by omega : i = 0 ∨ i = 1) with rfl | rfl <;> assumption
      · by_cases q3 : i < 18
        · have := h2 (i - 2) (by omega)
          rwa [show 2 + (i - 2) = i by omega] at this
        · by_cases q4 : i < 26
          · have := h3 (i - 18) (by omega)
            rwa [show 18 + (i - 18) = i by omega] at this
          · by_cases q5 : i < 90
            · have := h4 ((i - 26) / 8) (by omega) ((i - 26) % 8) (by omega)
              rwa [show 26 + ((i - 26) / 8 * 8 + (i - 26) % 8) = i by omega] at this
            · rcases (by omega : i = 90 ∨ i = 91 ∨ i = 92 ∨ i = 93) with rfl | rfl | rfl | rfl <;> assumption
  generalize ((List.range 16).all fun i => c (2 + i) == d (2 + i)) = r22 at e22 ⊢
  generalize ((List.range 8).all fun i => c (18 + i) == d (18 + i)) = r23 at e23 ⊢
  generalize ((List.range 8).all fun i => (List.range 8).all fun j => c (26 + (i * 8 + j)) == d (26 + (i * 8 + j))) = r24 at e24 ⊢
  have q0 := fun e : Cf => pi e 0 (by omega)
  have q1 := fun e : Cf => pi e 1 (by omega)
  have q5 := fun e : Cf => pi e 90 (by omega)
  have q6 := fun e : Cf => pi e 91 (by omega)
  have q7 := fun e : Cf => pi e 92 (by omega)
  have q8 := fun e : Cf => pi e 93 (by omega)
  have step : ∀ (f : Field) (fs : List Field) (a b : Value) (r s : Bool), f.name ≠ "_" → (part f.type (cg c) f.offset).run Tryz.prog w = .ok a w → (part f.type (cg d) f.offset).run Tryz.prog w = .ok b w → (Op.equalIn 9999 f.type a b).run Tryz.prog w = .ok r w →
      (Op.eqFields 9999 (cg c) (cg d) fs).run Tryz.prog w = .ok s w → (Op.eqFields 9999 (cg c) (cg d) (f :: fs)).run Tryz.prog w = .ok (r && s) w := fun f fs a b r s h0 h1 h2 h3 h4 => by
    simp only [Op.eqFields, h0, ne_eq, not_false_eq_true, if_true, Sem.run_bind, h1, h2, h3, Result.andThen_ok]
    cases r
    · simp
    · simp [h4]
  have s10 : (Op.eqFields 9999 (cg c) (cg d) []).run Tryz.prog w = .ok true w := by simp [Op.eqFields]
  have s9 := step f9 _ _ _ _ _ (by rw [k3]; decide) (by rw [k1, k2]; exact q8 c) (by rw [k1, k2]; exact q8 d) (by rw [k1]; exact e3 _ _) s10
  have s8 := step f8 _ _ _ _ _ (by rw [j3]; decide) (by rw [j1, j2]; exact q7 c) (by rw [j1, j2]; exact q7 d) (by rw [j1]; exact e3 _ _) s9
  have s7 := step f7 _ _ _ _ _ (by rw [i3]; decide) (by rw [i1, i2]; exact q6 c) (by rw [i1, i2]; exact q6 d) (by rw [i1]; exact e3 _ _) s8
  have s6 := step f6 _ _ _ _ _ (by rw [h3]; decide) (by rw [h1, h2]; exact q5 c) (by rw [h1, h2]; exact q5 d) (by rw [h1]; exact e3 _ _) s7
  have s5 := step f5 _ _ _ _ _ (by rw [g3]; decide) (by rw [g1, g2]; exact p24 c) (by rw [g1, g2]; exact p24 d) (by rw [g1]; exact e24) s6
  have s4 := step f4 _ _ _ _ _ (by rw [d3]; decide) (by rw [d1, d2]; exact p23 c) (by rw [d1, d2]; exact p23 d) (by rw [d1]; exact e23) s5
  have s3 := step f3 _ _ _ _ _ (by rw [c3]; decide) (by rw [c1, c2]; exact p22 c) (by rw [c1, c2]; exact p22 d) (by rw [c1]; exact e22) s4
  have s2 := step f2 _ _ _ _ _ (by rw [b3]; decide) (by rw [b1, b2]; exact q1 c) (by rw [b1, b2]; exact q1 d) (by rw [b1]; exact e3 _ _) s3
  have s1 := step f1 _ _ _ _ _ (by rw [a3]; decide) (by rw [a1, a2]; exact q0 c) (by rw [a1, a2]; exact q0 d) (by rw [a1]; exact e3 _ _) s2
  rw [s1]
  simp only [Bool.and_true, Bool.and_assoc]
end Go.Proofs.YtfoleblcaloeoaaGreatDoor

/- config's May: within, bare. -/
namespace Go.Proofs.YtfoleblcaloeoaaGreatDoor
open Go Go.RowKit

theorem within_any (n lo hi : Int) (w : World) : Calls Tryz.prog 53 #[.int .i64 n, .int .i64 lo, .int .i64 hi] w fun e w' => e = .returned (.bool (decide (lo ≤ n ∧ n ≤ hi))) ∧ w = w' := by
  by_cases h1 : lo ≤ n
  · by_cases h2 : n ≤ hi
    · rw [decide_eq_true ⟨h1, h2⟩]
      go_enter Tryz.func53, Tryz.ntmps53
      go_wp2_with fail
      go_ret
      exact ⟨rfl, rfl⟩
    · rw [decide_eq_false (fun h => h2 h.2)]
      go_enter Tryz.func53, Tryz.ntmps53
      go_wp2_with fail
      go_ret
      exact ⟨rfl, rfl⟩
  · rw [decide_eq_false (fun h => h1 h.1)]
    go_enter Tryz.func53, Tryz.ntmps53
    go_wp2_with fail
    go_ret
    exact ⟨rfl, rfl⟩
theorem wpList_box26 {ops : Array Oper} {rest : List Oper} {o : Oper} {a : Act} {w : World} {Q : Exit → Act → World → Prop} {c : Cf} (hg : o.guard = none) (x : Operand) (ho : o.op = .box 26 x) (hx : a.eval x = .agg (cg c))
    (h : wpList Tryz.prog ops Q rest (a.put o.dst (.pointer (some ⟨w.heap.size, 0, none⟩))) (w.alloc (.cells (cg c) 26))) : wpList Tryz.prog ops Q (o :: rest) a w :=
  Great.wpList_runTo hg _ rfl _ _ (by unfold execOp; simp only [ho, hx, Sem.run_bind, Instr.box, newVar, newRow, run_newObj_alloc, Sem.run_pure, Result.andThen_ok, Value.cells]) h
theorem run_tail {t e : TypeId} {n size : Nat} (hu : Tryz.prog.underlying t = some (.array n e)) (hs : ∀ w, (sizeOf e).run Tryz.prog w = .ok size w) (b off : Nat) {z : Int} (h0 : 0 ≤ z) (h1 : z ≤ n) :
    ∃ off', (z.toNat = n ∧ off' = off ∨ off' = off + z.toNat * size) ∧ ∀ w, (Instr.sliceAt t (.pointer (some ⟨b, off, none⟩)) (some (.int .i64 z)) none none).run Tryz.prog w = .ok (.slice (some ⟨b, off', none⟩) (n - z.toNat) (n - z.toNat)) w := by
  by_cases e : n = z.toNat
  · refine ⟨off, .inl ⟨e.symm, rfl⟩, fun w => ?_⟩
    simp [Instr.sliceAt, run_underlying hu, Instr.sureAddr, Instr.sliceBounds, Instr.sliceBound, asIntOf, h0, h1, hs, e]
    omega
  · refine ⟨off + z.toNat * size, .inr rfl, fun w => ?_⟩
    simp [Instr.sliceAt, run_underlying hu, Instr.sureAddr, Instr.sliceBounds, Instr.sliceBound, asIntOf, h0, h1, hs, e, Addr.add_mid]
theorem wpList_tail {ops : Array Oper} {rest : List Oper} {o : Oper} {a : Act} {w : World} {Q : Exit → Act → World → Prop} {t e : TypeId} {n size : Nat} (hu : Tryz.prog.underlying t = some (.array n e)) (hs : ∀ w, (sizeOf e).run Tryz.prog w = .ok size w)
    (hg : o.guard = none) (x lo : Operand) (ho : o.op = .slice t x (some lo) none none) {b off : Nat} {z : Int} (hx : a.eval x = .pointer (some ⟨b, off, none⟩)) (hlo : a.eval lo = .int .i64 z) (h0 : 0 ≤ z) (h1 : z ≤ n)
    (h : ∀ off', (z.toNat = n ∧ off' = off ∨ off' = off + z.toNat * size) → wpList Tryz.prog ops Q rest (a.put o.dst (.slice (some ⟨b, off', none⟩) (n - z.toNat) (n - z.toNat))) w) : wpList Tryz.prog ops Q (o :: rest) a w := by
  obtain ⟨off', h2, h3⟩ := run_tail hu hs b off h0 h1
  exact Great.wpList_runTo hg _ rfl _ _ (by unfold execOp; simp only [ho, hx, hlo, Option.map_some, Option.map_none, Sem.run_bind, h3, Sem.run_pure, Result.andThen_ok]) (h off' h2)
theorem wpG_tail {S : World → Prop} {Q : Exit → Act → World → Prop} {o : Oper} {rest : List Oper} {ks : List Nat} {gs : List (Option (Nat × Bool))} {a : Act} {w : World} {t e : TypeId} {n size : Nat} (hu : Tryz.prog.underlying t = some (.array n e)) (hs : ∀ w, (sizeOf e).run Tryz.prog w = .ok size w)
    (x lo : Operand) (ho : o.op = .slice t x (some lo) none none) {b off : Nat} {z : Int} (hx : a.eval x = .pointer (some ⟨b, off, none⟩)) (hlo : a.eval lo = .int .i64 z) (h0 : 0 ≤ z) (h1 : z ≤ n)
    (h : ∀ off', (z.toNat = n ∧ off' = off ∨ off' = off + z.toNat * size) → wpG Tryz.prog S Q rest ks gs (a.put o.dst (.slice (some ⟨b, off', none⟩) (n - z.toNat) (n - z.toNat))) w) : wpG Tryz.prog S Q (o :: rest) (0 :: ks) (none :: gs) a w := by
  obtain ⟨off', h2, h3⟩ := run_tail hu hs b off h0 h1
  refine wpG_pure (fun K hK => ⟨_, fun w' => ?_, hK _ _ (h off' h2)⟩)
  unfold execOp
  simp only [ho, hx, hlo, Option.map_some, Option.map_none, Sem.run_bind, h3, Sem.run_pure, Result.andThen_ok]
theorem wpG_clear30 {S : World → Prop} {Q : Exit → Act → World → Prop} {o : Oper} {rest : List Oper} {ks : List Nat} {gs : List (Option (Nat × Bool))} {a : Act} {w : World} {b : Nat} {c : Cf} (h0 : CB w b c) (x : Operand) (ho : o.op = .call { callee := .builtin .clear, args := #[x], argTypes := #[94] }) {off n k : Nat}
    (hx : a.eval x = .slice (some ⟨b, off, none⟩) n k) (hn : off + n ≤ 94) (h : ∀ w', CB w' b (zeroed c off n) → Chg [b] w w' → wpG Tryz.prog S Q rest ks gs (a.put o.dst (.tuple #[])) w') : wpG Tryz.prog S Q (o :: rest) (3 :: ks) (none :: gs) a w := by
  refine wpG_deed (by decide) (fun K hK => ?_)
  unfold Oper.wp execOp
  simp only [ho, resolve, invoke, builtin, Sem.run_bind, Sem.run_pure, Result.andThen_ok, List.map_toArray, List.map_cons, List.map_nil, hx, run_clear30 h0 hn]
  exact hK _ _ (h _ (zero_cells n off w c h0).1 (zero_cells n off w c h0).2)
theorem zeroed_off {c : Cf} {o o' n : Nat} (h : n = 0 ∨ o' = o) : zeroed c o' n = zeroed c o n := by
  rcases h with rfl | rfl
  · funext i
    unfold zeroed
    rw [if_neg (by omega), if_neg (by omega)]
  · rfl
theorem size3 : ∀ w, (sizeOf 3).run Tryz.prog w = .ok 1 w := fun w => by
  obtain ⟨i, hi⟩ := info3
  rw [run_sizeOf w hi, cells3]
/-- behind the clears of the homes, the frames and k rows of the distances -/
def rowsC (c : Cf) (n k : Nat) : Cf := fun i => if 26 ≤ i ∧ i < 26 + 8 * k ∧ n ≤ (i - 26) % 8 then 0 else c i
def bareC (c : Cf) : Cf := zeroed (rowsC (zeroed (zeroed c (2 + (c 1).toNat) (16 - (c 1).toNat)) (18 + (c 0).toNat) (8 - (c 0).toNat)) (c 0).toNat 8) (26 + (c 0).toNat * 8) ((8 - (c 0).toNat) * 8)
theorem bareC_iff {c : Cf} (hn : 1 ≤ c 0 ∧ c 0 ≤ 8) (hp : 1 ≤ c 1 ∧ c 1 ≤ 16) : (∀ i, i < 94 → c i = bareC c i) ↔ ((∀ i : Nat, i < 16 → c 1 ≤ (i : Int) → c (2 + i) = 0) ∧ (∀ i : Nat, i < 8 → c 0 ≤ (i : Int) → c (18 + i) = 0) ∧ ∀ i k : Nat, i < 8 → k < 8 → c 0 ≤ (i : Int) ∨ c 0 ≤ (k : Int) → c (26 + i * 8 + k) = 0) := by
  obtain ⟨n, hn'⟩ : ∃ n : Nat, c 0 = n := ⟨(c 0).toNat, by omega⟩
  obtain ⟨p, hp'⟩ : ∃ p : Nat, c 1 = p := ⟨(c 1).toNat, by omega⟩
  rw [hn', hp']
  rw [hn'] at hn
  rw [hp'] at hp
  have hB : ∀ i, bareC c i = if 26 + n * 8 ≤ i ∧ i < 26 + n * 8 + (8 - n) * 8 then 0 else if 26 ≤ i ∧ i < 26 + 8 * 8 ∧ n ≤ (i - 26) % 8 then 0 else if 18 + n ≤ i ∧ i < 18 + n + (8 - n) then 0 else if 2 + p ≤ i ∧ i < 2 + p + (16 - p) then 0 else c i := fun i => by
    unfold bareC zeroed rowsC
    simp only [hn', hp', Int.toNat_natCast]
  constructor
  · intro h
    refine ⟨fun i hi hc => ?_, fun i hi hc => ?_, fun i k hi hk hc => ?_⟩
    · rw [h _ (by omega), hB, if_neg (by omega), if_neg (by omega), if_neg (by omega), if_pos (by omega)]
    · rw [h _ (by omega), hB, if_neg (by omega), if_neg (by omega), if_pos (by omega)]
    · rw [h _ (by omega), hB]
      by_cases e : 26 + n * 8 ≤ 26 + i * 8 + k ∧ 26 + i * 8 + k < 26 + n * 8 + (8 - n) * 8
      · rw [if_pos e]
      · rw [if_neg e, if_pos (by omega)]
  · rintro ⟨h1, h2, h3⟩ i hi
    rw [hB]
    by_cases e1 : 26 + n * 8 ≤ i ∧ i < 26 + n * 8 + (8 - n) * 8
    · rw [if_pos e1]
      have := h3 ((i - 26) / 8) ((i - 26) % 8) (by omega) (by omega) (.inl (by omega))
      rwa [show 26 + (i - 26) / 8 * 8 + (i - 26) % 8 = i by omega] at this
    · rw [if_neg e1]
      by_cases e2 : 26 ≤ i ∧ i < 26 + 8 * 8 ∧ n ≤ (i - 26) % 8
      · rw [if_pos e2]
        have := h3 ((i - 26) / 8) ((i - 26) % 8) (by omega) (by omega) (.inr (by omega))
        rwa [show 26 + (i - 26) / 8 * 8 + (i - 26) % 8 = i by omega] at this
      · rw [if_neg e2]
        by_cases e3 : 18 + n ≤ i ∧ i < 18 + n + (8 - n)
        · rw [if_pos e3]
          have := h2 (i - 18) (by omega) (by omega)
          rwa [show 18 + (i - 18) = i by omega] at this
        · rw [if_neg e3]
          by_cases e4 : 2 + p ≤ i ∧ i < 2 + p + (16 - p)
          · rw [if_pos e4]
            have := h1 (i - 2) (by omega) (by omega)
            rwa [show 2 + (i - 2) = i by omega] at this
          · rw [if_neg e4]
theorem rowsC_step {c : Cf} {n k : Nat} (hn : n ≤ 8) : zeroed (rowsC c n k) (26 + k * 8 + n) (8 - n) = rowsC c n (k + 1) := by
  funext i
  unfold zeroed rowsC
  by_cases e : 26 + k * 8 + n ≤ i ∧ i < 26 + k * 8 + n + (8 - n)
  · rw [if_pos e, if_pos (by omega)]
  · rw [if_neg e]
    by_cases e2 : 26 ≤ i ∧ i < 26 + 8 * k ∧ n ≤ (i - 26) % 8
    · rw [if_pos e2, if_pos (by omega)]
    · rw [if_neg e2, if_neg (by omega)]
theorem rowsC_zero {c : Cf} {n : Nat} : rowsC c n 0 = c := by
  funext i
  unfold rowsC
  rw [if_neg (by omega)]
theorem zeroed_at {c : Cf} {o n i : Nat} (h : i < o) : zeroed c o n i = c i := by unfold zeroed; rw [if_neg (by omega)]
theorem rowsC_at {c : Cf} {n k i : Nat} (h : i < 26) : rowsC c n k i = c i := by unfold rowsC; rw [if_neg (by omega)]
set_option maxHeartbeats 2000000 in
theorem bare_any {c : Cf} (w : World) (hn : 1 ≤ c 0 ∧ c 0 ≤ 8) (hp : 1 ≤ c 1 ∧ c 1 ≤ 16) : Calls Tryz.prog 54 #[.agg (cg c)] w fun e w' => e = .returned (.agg (cg (bareC c))) ∧ Chg [] w w' := by
  obtain ⟨n1, n2⟩ := hn
  obtain ⟨p1, p2⟩ := hp
  have hb0 : CB ((w.alloc (.cells (cg c) 26)).alloc (.cells (cg (fun _ => 0)) 26)) w.heap.size c := (Blk.new w 26 (cg c)).alloc _
  have hr0 : CB ((w.alloc (.cells (cg c) 26)).alloc (.cells (cg (fun _ => 0)) 26)) (w.heap.size + 1) (fun _ => 0) := by
    have := Blk.new (w.alloc (.cells (cg c) 26)) 26 (cg (fun _ => 0))
    rwa [World.size_alloc] at this
  have hc0 : Chg [] w ((w.alloc (.cells (cg c) 26)).alloc (.cells (cg (fun _ => 0)) 26)) := ((Chg.refl [] w).alloc _).alloc _
  have g0 := cg_get c (i := 0) (by omega)
  have g1 := cg_get c (i := 1) (by omega)
  have HR := hide hr0
  have HC := hide hc0
  have HB := hide hb0
  have HE : Hid (bareC c = bareC c) := hide rfl
  clear hb0 hr0 hc0
  obtain ⟨D, hD⟩ : ∃ D, D = bareC c := ⟨_, rfl⟩
  rw [← hD]
  have HD := hide hD
  clear hD HE
  have k1 : (0 : Int) ≤ c 1 := by omega
  have k2 : (0 : Int) ≤ c 0 := by omega
  go_enter Tryz.func54, Tryz.ntmps54
  go_wp2_with (first | (refine wpList_box26 rfl _ rfl rfl ?_) | (refine wpList_alloc26 rfl rfl ?_) | (refine wpList_tail Tryz.underlying22 size3 rfl _ _ rfl rfl rfl (by omega) (by omega) ?_; intro o1 ho1; refine wpList_clear30 HB.out rfl _ rfl rfl (by omega) ?_; intro W1 h1 hc1; rw [zeroed_off (o := 2 + (c 1).toNat) (by omega)] at h1; have q0 := CB.get h1 (i := 0) (by omega); rw [zeroed_at (by omega)] at q0; have H1 := hide h1; clear h1) | (refine wpList_tail Tryz.underlying23 size3 rfl _ _ rfl rfl rfl (by omega) (by omega) ?_; intro o2 ho2; refine wpList_clear30 H1.out rfl _ rfl rfl (by omega) ?_; intro W2 h2 hc2; rw [zeroed_off (o := 18 + (c 0).toNat) (by omega)] at h2))
  have hc12 := hc1.trans hc2 (fun x hx => .inl hx)
  clear H1 hc1 hc2 q0 HB
  have hr2 := HR.out.chg hc12 (by simp)
  have hc02 : Chg [] w W2 := HC.out.trans hc12 (fun x hx => .inr (by obtain rfl := List.mem_singleton.1 hx; exact Nat.le_refl _))
  clear HR HC hc12
  obtain ⟨c2, hc2⟩ : ∃ c2, c2 = zeroed (zeroed c (2 + (c 1).toNat) (16 - (c 1).toNat)) (18 + (c 0).toNat) (8 - (c 0).toNat) := ⟨_, rfl⟩
  rw [← hc2] at h2
  have e0 : c2 0 = c 0 := by rw [hc2, zeroed_at (by omega), zeroed_at (by omega)]
  have HC2 := hide hc2
  clear hc2
  have hbs : w.heap.size ≤ w.heap.size := Nat.le_refl _
  have hrs : w.heap.size ≤ w.heap.size + 1 := by omega
  have hne : w.heap.size ≠ w.heap.size + 1 := by omega
  generalize w.heap.size + 1 = r at hr2 hrs hne ⊢
  obtain ⟨b, hb⟩ : ∃ b, b = w.heap.size := ⟨_, rfl⟩
  have hbs : w.heap.size ≤ b := by omega
  rw [← hb] at h2 hne ⊢
  clear hb
  go_loopw [12] (fun i wr => ∃ k : Nat, k ≤ 8 ∧ i = .int .i64 k ∧ CB wr b (rowsC c2 (c 0).toNat k) ∧ Chg [b] W2 wr) (fun i _ => 8 - (intOf i).toNat)
  case atStart => exact ⟨0, by omega, rfl, by rw [rowsC_zero]; exact h2, Chg.refl _ _⟩
  case round =>
    obtain ⟨k, hk, rfl, h3, hch⟩ := hrel
    have q0 := CB.get h3 (i := 0) (by omega)
    rw [rowsC_at (by omega), e0] at q0
    have H3 := hide h3
    have hbl := h3.lt
    clear h2 h3
    by_cases hkt : k < 8
    · have kk1 : (0 : Int) ≤ (k : Int) := by omega
      have kk2 : (k : Int) < 8 := by omega
      go_wp2_with fail
      refine wp_region_t [0, 0, 0, 0, 1, 0, 3] [none, none, none, none, none, none, none] (fun _ => True) (by kernel_rfl) (by kernel_rfl) (by kernel_rfl) ?_
      have H3D := hide H3.out.drew
      go_wp2_with (first | (refine wpG_tail Tryz.underlying23 size3 _ _ rfl rfl rfl (by omega) (by omega) ?_; intro o3 ho3; refine wpG_clear30 H3D.out _ rfl rfl (by omega) ?_; intro W4 h4 hc4; rw [zeroed_off (o := 26 + k * 8 + (c 0).toNat) (by omega), rowsC_step (by omega)] at h4) | (refine wpG_calc rfl (fun K hK => ?_)) | (refine wpG_skip ?_ ?_; (focus (simp [wantG]; done)); go_simp) | (refine wpG_take ?_ ?_; (focus (simp [wantG]; done))) | (refine wpG_pure (fun K hK => ?_); go_simp; refine hK _ _ ?_; clear hK K) | (refine wpG_deed (by decide) (fun K hK => ?_); go_simp) | (refine wpG_nil ?_))
      go_roundw
      case rel => exact ⟨k + 1, by omega, by go_num, h4, (hch.drew).trans hc4 (fun x hx => .inl hx)⟩
      case measure => simp [intOf]; omega
    · obtain rfl : k = 8 := by omega
      have hr3 := hr2.chg hch (by simp; exact fun e => hne e.symm)
      have hc03 : Chg [] w wr := hc02.trans hch (fun x hx => .inr (by obtain rfl := List.mem_singleton.1 hx; exact hbs))
      have HR3 := hide hr3
      have HC3 := hide hc03
      clear hr2 hc02 hr3 hc03 hch
      go_wp2_with (first | (refine wpList_tail Tryz.underlying24 size23 rfl _ _ rfl rfl rfl (by omega) (by omega) ?_; intro o3 ho3; refine wpList_clear62 H3.out rfl _ rfl rfl (by omega) ?_; intro W4 h4 hc4; rw [zeroed_off (o := 26 + (c 0).toNat * 8) (by omega)] at h4; have HR4 := hide (HR3.out.chg hc4 (by simp; exact fun e => hne e.symm)); have H4 := hide h4; clear h4) | (refine wpList_load26 H4.out rfl _ rfl rfl ?_) | (refine wpList_store26 HR4.out rfl _ _ rfl rfl rfl ?_; intro W5 h5 hc5))
      refine bodyPost_ret (v := .agg (cg D)) (by rw [HD.out, bareC, ← HC2.out]; exact results_cell_row (p := 2) (ty := 26) rfl _ _ r 26 _ (0, 0) _ rfl h5 Tryz.underlying26 rfl info26') rfl ⟨rfl, ?_⟩
      exact ((HC3.out.trans hc4 (fun x hx => .inr (by obtain rfl := List.mem_singleton.1 hx; exact hbs))).trans hc5 (fun x hx => .inr (by obtain rfl := List.mem_singleton.1 hx; exact hrs)))
end Go.Proofs.YtfoleblcaloeoaaGreatDoor

/- config's May: near. -/
namespace Go.Proofs.YtfoleblcaloeoaaGreatDoor
open Go Go.RowKit

def PairP (c : Cf) (i k : Nat) : Prop := (c (26 + i * 8 + k) = 0 ↔ i = k) ∧ (0 ≤ c (26 + i * 8 + k) ∧ c (26 + i * 8 + k) ≤ 255) ∧ c (26 + i * 8 + k) = c (26 + k * 8 + i)
def NearP (c : Cf) : Prop := ∀ i k : Nat, (i : Int) < c 0 → (k : Int) < c 0 → PairP c i k
set_option maxHeartbeats 4000000 in
theorem near_any {c : Cf} (w : World) (hn : 1 ≤ c 0 ∧ c 0 ≤ 8) : Calls Tryz.prog 55 #[.agg (cg c)] w fun e w' => ∃ r : Bool, e = .returned (.bool r) ∧ (r = true ↔ NearP c) ∧ Chg [] w w' := by
  obtain ⟨n1, n2⟩ := hn
  obtain ⟨n, hn⟩ : ∃ n : Nat, c 0 = n := ⟨(c 0).toNat, by omega⟩
  have hb := Blk.new w 26 (cg c)
  have q0 := CB.get hb (i := 0) (by omega)
  rw [hn] at q0 n1 n2
  have h00 := cg_get c (i := 0) (by omega)
  rw [hn] at h00
  have HB := hide hb
  have HN := hide hn
  have n2' : n ≤ 8 := by omega
  clear hb hn
  go_enter Tryz.func55, Tryz.ntmps55
  go_wp2_with (first | (refine wpList_box26 rfl _ rfl rfl ?_))
  have hbl : w.heap.size < (w.alloc (.cells (cg c) 26)).heap.size := by simp
  have HC := hide (show Chg [] w (w.alloc (.cells (cg c) 26)) from (Chg.refl [] w).alloc _)
  generalize w.alloc (.cells (cg c) 26) = W at q0 HB hbl HC ⊢
  generalize w.heap.size = b at q0 HB hbl ⊢
  go_loopw [8] (fun i wr => wr = W ∧ ∃ k : Nat, k ≤ n ∧ i = .int .i64 k ∧ Hid (∀ i j : Nat, i < k → j < n → PairP c i j)) (fun i _ => n - (intOf i).toNat)
  case atStart => exact ⟨rfl, 0, by omega, rfl, hide (fun i j hi => by omega)⟩
  case round =>
    obtain ⟨rfl, k, hk, rfl, HI⟩ := hrel
    by_cases hkt : k < n
    · have kk1 : (0 : Int) ≤ (k : Int) := by omega
      have kk2 : (k : Int) < 8 := by omega
      have kk3 : (k : Int) < (n : Int) := by omega
      go_wp2_with fail
      go_loopw [13] (fun i wr' => wr' = wr ∧ ∃ j : Nat, j ≤ n ∧ i = .int .i64 j ∧ Hid (∀ i : Nat, i < j → PairP c k i)) (fun i _ => n - (intOf i).toNat)
      case atStart => exact ⟨rfl, 0, by omega, rfl, hide (fun i hi => by omega)⟩
      case round =>
        obtain ⟨rfl, j, hj, rfl, HJ⟩ := hrel
        by_cases hjt : j < n
        · have jj1 : (0 : Int) ≤ (j : Int) := by omega
          have jj2 : (j : Int) < 8 := by omega
          have jj3 : (j : Int) < (n : Int) := by omega
          have d1 := CB.get HB.out (i := 26 + k * 8 + j) (by omega)
          have d2 := CB.get HB.out (i := 26 + j * 8 + k) (by omega)
          obtain ⟨x, hx⟩ : ∃ x, c (26 + k * 8 + j) = x := ⟨_, rfl⟩
          obtain ⟨y, hy⟩ : ∃ y, c (26 + j * 8 + k) = y := ⟨_, rfl⟩
          rw [hx] at d1
          rw [hy] at d2
          have hP : Hid (PairP c k j ↔ ((x = 0 ↔ k = j) ∧ (0 ≤ x ∧ x ≤ 255) ∧ x = y)) := hide (by unfold PairP; rw [hx, hy])
          have Hjn := hide hjt
          have Hkn := hide hkt
          have hno : ¬ ((x = 0 ↔ k = j) ∧ (0 ≤ x ∧ x ≤ 255) ∧ x = y) → (false = true ↔ NearP c) := fun h => by
            refine ⟨fun h => (by cases h), fun hN => absurd (hP.out.1 (hN k j ?_ ?_)) h⟩
            · rw [HN.out]; exact Int.ofNat_lt.2 Hkn.out
            · rw [HN.out]; exact Int.ofNat_lt.2 Hjn.out
          have HNO := hide hno
          clear hx hy hno
          obtain ⟨u, hu⟩ : ∃ u, (x == 0) = u := ⟨_, rfl⟩
          obtain ⟨v, hv⟩ : ∃ v, ((k : Int) == (j : Int)) = v := ⟨_, rfl⟩
          have hv' : (k == j) = v := by rw [← hv, Bool.eq_iff_iff]; simp; omega
          have HU : Hid (x = 0 ↔ u = true) := hide (by rw [← hu]; simp)
          have HV : Hid (k = j ↔ v = true) := hide (by rw [← hv']; simp)
          by_cases huv : u = v
          · subst huv
            by_cases hw : 0 ≤ x ∧ x ≤ 255
            · have hw1 : decide (0 ≤ x ∧ x ≤ 255) = true := decide_eq_true hw
              have HW := hide hw
              clear hw
              by_cases hxy : x = y
              · have hxy' : (x != y) = false := by simpa using hxy
                have HXY := hide hxy
                clear hxy
                go_wp2_with (first | ((go_at_call 53; refine (within_any _ _ _ _).mono ?_; rintro e W7 ⟨rfl, rfl⟩)))
                go_roundw
                case rel => exact ⟨trivial, j + 1, by omega, by go_num, hide (fun i hi => by
                  by_cases e : i = j
                  · subst e; exact hP.out.2 ⟨by rw [HU.out, HV.out], HW.out, HXY.out⟩
                  · exact HJ.out i (by omega))⟩
                case measure => simp [intOf]; omega
              · have hxy' : (x != y) = true := by simpa using hxy
                have HF := hide (HNO.out (fun h => hxy h.2.2))
                clear hxy
                go_wp2_with (first | ((go_at_call 53; refine (within_any _ _ _ _).mono ?_; rintro e W7 ⟨rfl, rfl⟩)))
                go_ret
                exact ⟨false, rfl, HF.out, HC.out⟩
            · have hw1 : decide (0 ≤ x ∧ x ≤ 255) = false := decide_eq_false hw
              have HF := hide (HNO.out (fun h => hw h.2.1))
              clear hw
              go_wp2_with (first | ((go_at_call 53; refine (within_any _ _ _ _).mono ?_; rintro e W7 ⟨rfl, rfl⟩)))
              go_ret
              exact ⟨false, rfl, HF.out, HC.out⟩
          · have huv' : v = !u := by cases u <;> cases v <;> simp_all
            subst huv'
            have HF := hide (HNO.out (fun h => by have := HU.out; have := HV.out; have := h.1; cases u <;> simp_all))
            clear huv
            go_wp2_with (first | ((go_at_call 53; refine (within_any _ _ _ _).mono ?_; rintro e W7 ⟨rfl, rfl⟩)))
            go_ret
            exact ⟨false, rfl, HF.out, HC.out⟩
        · obtain rfl : j = n := by omega
          go_wp2_with fail
          go_roundw
          case rel => exact ⟨trivial, k + 1, by omega, by go_num, hide (fun a b ha hb => by
            by_cases e : a = k
            · subst e; exact HJ.out b hb
            · exact HI.out a b (by omega) hb)⟩
          case measure => simp [intOf]; omega
    · obtain rfl : k = n := by omega
      go_wp2_with fail
      go_ret
      exact ⟨true, rfl, by
        simp only [true_iff]
        intro a b ha hb
        rw [HN.out] at ha hb
        exact HI.out a b (by omega) (by omega), HC.out⟩
end Go.Proofs.YtfoleblcaloeoaaGreatDoor

/- config's May. -/
namespace Go.Proofs.YtfoleblcaloeoaaGreatDoor
open Go Go.RowKit

theorem mayP_iff {c : Cf} (hn : 1 ≤ c 0 ∧ c 0 ≤ 8) (hp : 1 ≤ c 1 ∧ c 1 ≤ 16) (hs : 0 ≤ c 90 ∧ c 90 ≤ 1024) (hb : ∀ i, i < 94 → c i = bareC c i) :
    MayP c ↔ (∀ i : Nat, (i : Int) < c 1 → 0 ≤ c (2 + i) ∧ c (2 + i) ≤ c 0 - 1) ∧ (∀ i : Nat, (i : Int) < c 0 → (4 ≤ c (18 + i) ∧ c (18 + i) ≤ 128) ∧ c 93 ≤ c (18 + i)) ∧ NearP c ∧ 0 ≤ c 91 ∧ c 91 ≤ c 92 ∧ c 92 ≤ c 93 := by
  obtain ⟨b1, b2, b3⟩ := (bareC_iff hn hp).1 hb
  constructor
  · intro h
    refine ⟨fun i hi => by have := h.home i (by omega) hi; omega, fun i hi => by have := h.fr i (by omega) hi; omega, fun i k hi hk => ?_, h.mi, h.lo, h.hi⟩
    by_cases e : i = k
    · subst e
      have := h.ds0 i i (by omega) (by omega) (.inr (.inr rfl))
      unfold PairP
      simp [this]
    · have := h.ds1 i k (by omega) (by omega) hi hk e
      unfold PairP
      refine ⟨⟨fun h => by omega, fun h => absurd h e⟩, by omega, by omega⟩
  · rintro ⟨h1, h2, h3, h4, h5, h6⟩
    refine ⟨hn.1, hn.2, hp.1, hp.2, hs.1, hs.2, fun i _ hi => by have := h1 i hi; omega, fun i hi hc => b1 i hi hc, fun i _ hi => by have := h2 i hi; omega, fun i hi hc => b2 i hi hc, fun i k hi hk hc => ?_, fun i k _ _ hi hk hne => ?_, h4, h5, h6⟩
    · by_cases e : c 0 ≤ (i : Int) ∨ c 0 ≤ (k : Int)
      · exact b3 i k hi hk e
      · exact (h3 i k (by omega) (by omega)).1.2 (by rcases hc with h | h | h; exact absurd (.inl h) e; exact absurd (.inr h) e; exact h)
    · obtain ⟨p1, p2, p3⟩ := h3 i k hi hk
      have : c (26 + i * 8 + k) ≠ 0 := fun h => hne (p1.1 h)
      omega
theorem mayP_pre {c : Cf} (h : MayP c) : (1 ≤ c 0 ∧ c 0 ≤ 8) ∧ (1 ≤ c 1 ∧ c 1 ≤ 16) ∧ (0 ≤ c 90 ∧ c 90 ≤ 1024) ∧ ∀ i, i < 94 → c i = bareC c i := by
  refine ⟨⟨h.n1, h.n8⟩, ⟨h.p1, h.p16⟩, ⟨h.s0, h.s1⟩, (bareC_iff ⟨h.n1, h.n8⟩ ⟨h.p1, h.p16⟩).2 ⟨fun i hi hc => h.home0 i hi hc, fun i hi hc => h.fr0 i hi hc, fun i k hi hk hc => h.ds0 i k hi hk (by omega)⟩⟩
theorem neq_cg (w : World) (c d : Cf) : ∃ r : Bool, (∀ w, (binOp .neq 26 (.agg (cg c)) (.agg (cg d))).run Tryz.prog w = .ok (.bool (!r)) w) ∧ (r = true ↔ ∀ i, i < 94 → c i = d i) := by
  obtain ⟨r, h1, h2⟩ := run_eq_cg w c d
  refine ⟨r, fun w' => ?_, h2⟩
  obtain ⟨r', h3, h4⟩ := run_eq_cg w' c d
  have : r' = r := by rw [Bool.eq_iff_iff, h4, h2]
  rw [run_neq_struct, h3, this]
  rfl
theorem wpG_neq26 {S : World → Prop} {Q : Exit → Act → World → Prop} {o : Oper} {rest : List Oper} {ks : List Nat} {gs : List (Option (Nat × Bool))} {A : Act} {w : World} (x y : Operand) (t : TypeId) (ho : o.op = .binOp .neq 26 x y t) {c d : Cf}
    (hx : A.eval x = .agg (cg c)) (hy : A.eval y = .agg (cg d)) {r : Bool} (hr : ∀ w, (binOp .neq 26 (.agg (cg c)) (.agg (cg d))).run Tryz.prog w = .ok (.bool (!r)) w) (hk : wpG Tryz.prog S Q rest ks gs (A.put o.dst (.bool (!r))) w) :
    wpG Tryz.prog S Q (o :: rest) (0 :: ks) (none :: gs) A w := by
  refine wpG_pure (fun K hK => ⟨_, fun w' => ?_, hK _ _ hk⟩)
  unfold execOp
  simp only [ho, hx, hy, Sem.run_bind, run_eqGuard_agg w' .neq 26 x y _ _ (show Tryz.prog.eqGuardType Tryz.prog.depth 26 = false by kernel_rfl), Result.andThen_ok, hr, Sem.run_pure]
theorem load26 {w : World} {b : Nat} {c : Cf} (h : CB w b c) : (loadVar 26 ⟨b, 0, none⟩).run Tryz.prog w = .ok (.agg (cg c)) w := run_loadVar_row w b 26 26 (cg c) (0, 0) _ h Tryz.underlying26 rfl info26'
set_option maxHeartbeats 4000000 in
theorem may_any (c : Cf) (w : World) : Calls Tryz.prog 26 #[.agg (cg c)] w fun e w' => ∃ r : Bool, e = .returned (.bool r) ∧ (r = true ↔ MayP c) ∧ Chg [] w w' := by
  have hb := Blk.new w 26 (cg c)
  have q0 := CB.get hb (i := 0) (by omega)
  have q1 := CB.get hb (i := 1) (by omega)
  have q90 := CB.get hb (i := 90) (by omega)
  have HB := hide hb
  have hbl : w.heap.size < (w.alloc (.cells (cg c) 26)).heap.size := by simp
  have g0 := cg_get c (i := 0) (by omega)
  have g1 := cg_get c (i := 1) (by omega)
  have g90 := cg_get c (i := 90) (by omega)
  have HC := hide (show Chg [] w (w.alloc (.cells (cg c) 26)) from (Chg.refl [] w).alloc _)
  clear hb
  by_cases hn : 1 ≤ c 0 ∧ c 0 ≤ 8
  rotate_left
  · have HF := hide (fun h : MayP c => hn (mayP_pre h).1)
    have d0 : decide (1 ≤ c 0 ∧ c 0 ≤ 8) = false := decide_eq_false hn
    clear hn
    go_enter Tryz.func26, Tryz.ntmps26
    go_wp2_with (first | (refine wpList_box26 rfl _ rfl rfl ?_))
    have HBD := HB.out.drew
    refine wp_region_t [0, 1, 3, 0, 0, 0, 1, 3, 0, 0, 0, 0, 1, 3, 0, 0, 0, 5, 5, 6, 0, 0] [none, none, none, none, none, some (11, false), some (11, false), some (11, false), some (11, false), none, none, some (17, false), some (17, false), some (17, false), some (17, false), none, none, some (23, false), some (23, false), some (23, false), some (23, false), none] (fun W => CB W w.heap.size c) (by kernel_rfl) (by kernel_rfl) (by kernel_rfl) ?_
    go_wp2_with (first | ((refine wpG_deed (by decide) (fun K hK => ?_); go_simp; refine (within_any _ _ _ _).mono ?_; rintro e W7 ⟨rfl, rfl⟩; refine hK _ _ ?_; clear hK K)) | (refine wpG_calc rfl (fun K hK => ?_)) | (refine wpG_skip ?_ ?_; (focus (simp [wantG]; done)); go_simp) | (refine wpG_take ?_ ?_; (focus (simp [wantG]; done))) | (refine wpG_pure (fun K hK => ?_); go_simp; refine hK _ _ ?_; clear hK K) | (refine wpG_deed (by decide) (fun K hK => ?_); go_simp) | (refine wpG_nil ?_))
    go_ret
    exact ⟨false, rfl, ⟨fun h => (by cases h), fun h => (HF.out h).elim⟩, HC.out.drew⟩
  have d0 : decide (1 ≤ c 0 ∧ c 0 ≤ 8) = true := decide_eq_true hn
  have Hn := hide hn
  clear hn
  by_cases hp : 1 ≤ c 1 ∧ c 1 ≤ 16
  rotate_left
  · have HF := hide (fun h : MayP c => hp (mayP_pre h).2.1)
    have d1 : decide (1 ≤ c 1 ∧ c 1 ≤ 16) = false := decide_eq_false hp
    clear hp
    go_enter Tryz.func26, Tryz.ntmps26
    go_wp2_with (first | (refine wpList_box26 rfl _ rfl rfl ?_))
    have HBD := HB.out.drew
    refine wp_region_t [0, 1, 3, 0, 0, 0, 1, 3, 0, 0, 0, 0, 1, 3, 0, 0, 0, 5, 5, 6, 0, 0] [none, none, none, none, none, some (11, false), some (11, false), some (11, false), some (11, false), none, none, some (17, false), some (17, false), some (17, false), some (17, false), none, none, some (23, false), some (23, false), some (23, false), some (23, false), none] (fun W => CB W w.heap.size c) (by kernel_rfl) (by kernel_rfl) (by kernel_rfl) ?_
    go_wp2_with (first | ((refine wpG_deed (by decide) (fun K hK => ?_); go_simp; refine (within_any _ _ _ _).mono ?_; rintro e W7 ⟨rfl, rfl⟩; refine hK _ _ ?_; clear hK K)) | (refine wpG_calc rfl (fun K hK => ?_)) | (refine wpG_skip ?_ ?_; (focus (simp [wantG]; done)); go_simp) | (refine wpG_take ?_ ?_; (focus (simp [wantG]; done))) | (refine wpG_pure (fun K hK => ?_); go_simp; refine hK _ _ ?_; clear hK K) | (refine wpG_deed (by decide) (fun K hK => ?_); go_simp) | (refine wpG_nil ?_))
    go_ret
    exact ⟨false, rfl, ⟨fun h => (by cases h), fun h => (HF.out h).elim⟩, HC.out.drew⟩
  have d1 : decide (1 ≤ c 1 ∧ c 1 ≤ 16) = true := decide_eq_true hp
  have Hp := hide hp
  clear hp
  by_cases hs : 0 ≤ c 90 ∧ c 90 ≤ 1024
  rotate_left
  · have HF := hide (fun h : MayP c => hs (mayP_pre h).2.2.1)
    have d2 : decide (0 ≤ c 90 ∧ c 90 ≤ 1024) = false := decide_eq_false hs
    clear hs
    go_enter Tryz.func26, Tryz.ntmps26
    go_wp2_with (first | (refine wpList_box26 rfl _ rfl rfl ?_))
    have HBD := HB.out.drew
    refine wp_region_t [0, 1, 3, 0, 0, 0, 1, 3, 0, 0, 0, 0, 1, 3, 0, 0, 0, 5, 5, 6, 0, 0] [none, none, none, none, none, some (11, false), some (11, false), some (11, false), some (11, false), none, none, some (17, false), some (17, false), some (17, false), some (17, false), none, none, some (23, false), some (23, false), some (23, false), some (23, false), none] (fun W => CB W w.heap.size c) (by kernel_rfl) (by kernel_rfl) (by kernel_rfl) ?_
    go_wp2_with (first | ((refine wpG_deed (by decide) (fun K hK => ?_); go_simp; refine (within_any _ _ _ _).mono ?_; rintro e W7 ⟨rfl, rfl⟩; refine hK _ _ ?_; clear hK K)) | (refine wpG_calc rfl (fun K hK => ?_)) | (refine wpG_skip ?_ ?_; (focus (simp [wantG]; done)); go_simp) | (refine wpG_take ?_ ?_; (focus (simp [wantG]; done))) | (refine wpG_pure (fun K hK => ?_); go_simp; refine hK _ _ ?_; clear hK K) | (refine wpG_deed (by decide) (fun K hK => ?_); go_simp) | (refine wpG_nil ?_))
    go_ret
    exact ⟨false, rfl, ⟨fun h => (by cases h), fun h => (HF.out h).elim⟩, HC.out.drew⟩
  have d2 : decide (0 ≤ c 90 ∧ c 90 ≤ 1024) = true := decide_eq_true hs
  have Hs := hide hs
  clear hs
  obtain ⟨r, hr, hri⟩ := neq_cg w c (bareC c)
  have HR := hide hr
  have HBA := hide (fun W : World => bare_any (c := c) W Hn.out Hp.out)
  obtain ⟨D, hD⟩ : ∃ D, D = bareC c := ⟨_, rfl⟩
  rw [← hD] at HR HBA
  have HRI := hide hri
  clear hr hri hD
  cases r with
  | false =>
    have HF := hide (fun h : MayP c => Bool.false_ne_true (HRI.out.2 (mayP_pre h).2.2.2))
    go_enter Tryz.func26, Tryz.ntmps26
    go_wp2_with (first | (refine wpList_box26 rfl _ rfl rfl ?_))
    have HBD := HB.out.drew
    refine wp_region_t [0, 1, 3, 0, 0, 0, 1, 3, 0, 0, 0, 0, 1, 3, 0, 0, 0, 5, 5, 6, 0, 0] [none, none, none, none, none, some (11, false), some (11, false), some (11, false), some (11, false), none, none, some (17, false), some (17, false), some (17, false), some (17, false), none, none, some (23, false), some (23, false), some (23, false), some (23, false), none] (fun W => CB W w.heap.size c) (by kernel_rfl) (by kernel_rfl) (by kernel_rfl) ?_
    go_wp2_with (first | ((refine wpG_deed (by decide) (fun K hK => ?_); go_simp; refine (within_any _ _ _ _).mono ?_; rintro e W7 ⟨rfl, rfl⟩; refine hK _ _ ?_; clear hK K)) | (refine wpG_hload 26 _ rfl rfl (fun w' hw' => load26 hw') HBD ?_) | (refine wpG_calc rfl (fun K hK => ?_)) | (refine wpG_skip ?_ ?_; (focus (simp [wantG]; done)); go_simp) | (refine wpG_take ?_ ?_; (focus (simp [wantG]; done))) | (refine wpG_pure (fun K hK => ?_); go_simp; refine hK _ _ ?_; clear hK K) | (refine wpG_deed (by decide) (fun K hK => ?_); go_simp) | (refine wpG_nil ?_))
    (refine wpG_keeps HBD (fun K hK => ?_))
    go_simp
    refine (HBA.out _).mono ?_
    rintro e W2 ⟨rfl, hc2⟩
    have hb2 : CB W2 w.heap.size c := HBD.chg hc2 List.not_mem_nil
    refine hK _ _ hb2 ?_
    clear hK K
    go_wp2_with (first | (refine wpG_neq26 _ _ _ rfl rfl rfl HR.out ?_) | (refine wpG_calc rfl (fun K hK => ?_)) | (refine wpG_skip ?_ ?_; (focus (simp [wantG]; done)); go_simp) | (refine wpG_take ?_ ?_; (focus (simp [wantG]; done))) | (refine wpG_pure (fun K hK => ?_); go_simp; refine hK _ _ ?_; clear hK K) | (refine wpG_deed (by decide) (fun K hK => ?_); go_simp) | (refine wpG_nil ?_))
    go_ret
    exact ⟨false, rfl, ⟨fun h => (by cases h), fun h => (HF.out h).elim⟩, HC.out.drew.stay hc2⟩
  | true =>
    have hI := mayP_iff Hn.out Hp.out Hs.out (HRI.out.1 rfl)
    obtain ⟨n, hn'⟩ : ∃ n : Nat, c 0 = n := ⟨(c 0).toNat, by have := Hn.out.1; omega⟩
    obtain ⟨p, hp'⟩ : ∃ p : Nat, c 1 = p := ⟨(c 1).toNat, by have := Hp.out.1; omega⟩
    have hn8 : n ≤ 8 := by have := Hn.out.2; omega
    have hp16 : p ≤ 16 := by have := Hp.out.2; omega
    have pp1 : (0 : Int) ≤ (p : Int) := by omega
    have pp2 : (p : Int) ≤ 16 := by omega
    have nn1 : (0 : Int) ≤ (n : Int) := by omega
    have nn3 : (1 : Int) ≤ (n : Int) := by have := Hn.out.1; omega
    have pp3 : (1 : Int) ≤ (p : Int) := by have := Hp.out.1; omega
    have nn2 : (n : Int) ≤ 8 := by omega
    have HNA := hide (fun W : World => near_any (c := c) W Hn.out)
    have HI := hide hI
    have HN' := hide hn'
    have HP' := hide hp'
    rw [hn'] at d0 g0 q0
    rw [hp'] at d1 g1 q1
    clear hn' hp' hI
    go_enter Tryz.func26, Tryz.ntmps26
    go_wp2_with (first | (refine wpList_box26 rfl _ rfl rfl ?_))
    have HBD := HB.out.drew
    refine wp_region_t [0, 1, 3, 0, 0, 0, 1, 3, 0, 0, 0, 0, 1, 3, 0, 0, 0, 5, 5, 6, 0, 0] [none, none, none, none, none, some (11, false), some (11, false), some (11, false), some (11, false), none, none, some (17, false), some (17, false), some (17, false), some (17, false), none, none, some (23, false), some (23, false), some (23, false), some (23, false), none] (fun W => CB W w.heap.size c) (by kernel_rfl) (by kernel_rfl) (by kernel_rfl) ?_
    go_wp2_with (first | ((refine wpG_deed (by decide) (fun K hK => ?_); go_simp; refine (within_any _ _ _ _).mono ?_; rintro e W7 ⟨rfl, rfl⟩; refine hK _ _ ?_; clear hK K)) | (refine wpG_hload 26 _ rfl rfl (fun w' hw' => load26 hw') HBD ?_) | (refine wpG_calc rfl (fun K hK => ?_)) | (refine wpG_skip ?_ ?_; (focus (simp [wantG]; done)); go_simp) | (refine wpG_take ?_ ?_; (focus (simp [wantG]; done))) | (refine wpG_pure (fun K hK => ?_); go_simp; refine hK _ _ ?_; clear hK K) | (refine wpG_deed (by decide) (fun K hK => ?_); go_simp) | (refine wpG_nil ?_))
    (refine wpG_keeps HBD (fun K hK => ?_))
    go_simp
    refine (HBA.out _).mono ?_
    rintro e W2 ⟨rfl, hc2⟩
    have hb2 : CB W2 w.heap.size c := HBD.chg hc2 List.not_mem_nil
    refine hK _ _ hb2 ?_
    clear hK K
    have HC2 := hide (HC.out.drew.stay hc2)
    have r0 := CB.get hb2 (i := 0) (by omega)
    have r1 := CB.get hb2 (i := 1) (by omega)
    rw [HN'.out] at r0
    rw [HP'.out] at r1
    have HB2 := hide hb2
    have hbl2 := hb2.lt
    clear hb2 hc2 HBD HB HC q0 q1 q90 hbl
    go_wp2_with (first | (refine wpG_neq26 _ _ _ rfl rfl rfl HR.out ?_) | (refine wpG_calc rfl (fun K hK => ?_)) | (refine wpG_skip ?_ ?_; (focus (simp [wantG]; done)); go_simp) | (refine wpG_take ?_ ?_; (focus (simp [wantG]; done))) | (refine wpG_pure (fun K hK => ?_); go_simp; refine hK _ _ ?_; clear hK K) | (refine wpG_deed (by decide) (fun K hK => ?_); go_simp) | (refine wpG_nil ?_))
    generalize w.heap.size = b at r0 r1 HB2 hbl2 ⊢
    go_loopw [34] (fun i wr => wr = W2 ∧ ∃ k : Nat, k ≤ p ∧ i = .int .i64 k ∧ Hid (∀ i : Nat, i < k → 0 ≤ c (2 + i) ∧ c (2 + i) ≤ c 0 - 1)) (fun i _ => p - (intOf i).toNat)
    case atStart => exact ⟨rfl, 0, by omega, rfl, hide (fun i hi => by omega)⟩
    case round =>
      obtain ⟨rfl, k, hk, rfl, HH⟩ := hrel
      by_cases hkt : k < p
      · have kk1 : (0 : Int) ≤ (k : Int) := by omega
        have kk2 : (k : Int) < (p : Int) := by omega
        have t1 := CB.get HB2.out (i := 2 + k) (by omega)
        by_cases hw : 0 ≤ c (2 + k) ∧ c (2 + k) ≤ c 0 - 1
        · have hW := hide hw
          rw [HN'.out] at hw
          have dw : decide (0 ≤ c (2 + k) ∧ c (2 + k) ≤ (n : Int) - 1) = true := decide_eq_true hw
          clear hw
          go_wp2_with (first | ((go_at_call 53; refine (within_any _ _ _ _).mono ?_; rintro e W7 ⟨rfl, rfl⟩)))
          go_roundw
          case rel => exact ⟨trivial, k + 1, by omega, by go_num, hide (fun i hi => by
            by_cases e : i = k
            · subst e; exact hW.out
            · exact HH.out i (by omega))⟩
          case measure => simp [intOf]; omega
        · have HF := hide (fun h : MayP c => hw ((HI.out.1 h).1 k (by rw [HP'.out]; exact kk2)))
          rw [HN'.out] at hw
          have dw : decide (0 ≤ c (2 + k) ∧ c (2 + k) ≤ (n : Int) - 1) = false := decide_eq_false hw
          clear hw
          go_wp2_with (first | ((go_at_call 53; refine (within_any _ _ _ _).mono ?_; rintro e W7 ⟨rfl, rfl⟩)))
          go_ret
          exact ⟨false, rfl, ⟨fun h => (by cases h), fun h => (HF.out h).elim⟩, HC2.out⟩
      · obtain rfl : k = p := by omega
        have HH2 := hide (show ∀ i : Nat, (i : Int) < c 1 → 0 ≤ c (2 + i) ∧ c (2 + i) ≤ c 0 - 1 from fun i hi => HH.out i (by rw [HP'.out] at hi; omega))
        clear HH
        go_wp2_with fail
        go_loopw [50] (fun i wr' => wr' = wr ∧ ∃ k : Nat, k ≤ n ∧ i = .int .i64 k ∧ Hid (∀ i : Nat, i < k → (4 ≤ c (18 + i) ∧ c (18 + i) ≤ 128) ∧ c 93 ≤ c (18 + i))) (fun i _ => n - (intOf i).toNat)
        case atStart => exact ⟨rfl, 0, by omega, rfl, hide (fun i hi => by omega)⟩
        case round =>
          obtain ⟨rfl, j, hj, rfl, HJ⟩ := hrel
          by_cases hjt : j < n
          · have jj1 : (0 : Int) ≤ (j : Int) := by omega
            have jj2 : (j : Int) < (n : Int) := by omega
            have t1 := CB.get HB2.out (i := 18 + j) (by omega)
            have t93 := CB.get HB2.out (i := 93) (by omega)
            by_cases hw : 4 ≤ c (18 + j) ∧ c (18 + j) ≤ 128
            · have dw : decide (4 ≤ c (18 + j) ∧ c (18 + j) ≤ 128) = true := decide_eq_true hw
              have hW := hide hw
              clear hw
              by_cases hh : c 93 ≤ c (18 + j)
              · have dh : decide (c (18 + j) < c 93) = false := decide_eq_false (by omega)
                have hH := hide hh
                clear hh
                go_wp2_with (first | ((go_at_call 53; refine (within_any _ _ _ _).mono ?_; rintro e W7 ⟨rfl, rfl⟩)))
                go_roundw
                case rel => exact ⟨trivial, j + 1, by omega, by go_num, hide (fun i hi => by
                  by_cases e : i = j
                  · subst e; exact ⟨hW.out, hH.out⟩
                  · exact HJ.out i (by omega))⟩
                case measure => simp [intOf]; omega
              · have HF := hide (fun h : MayP c => hh ((HI.out.1 h).2.1 j (by rw [HN'.out]; exact jj2)).2)
                have dh : decide (c (18 + j) < c 93) = true := decide_eq_true (by omega)
                clear hh
                go_wp2_with (first | ((go_at_call 53; refine (within_any _ _ _ _).mono ?_; rintro e W7 ⟨rfl, rfl⟩)))
                go_ret
                exact ⟨false, rfl, ⟨fun h => (by cases h), fun h => (HF.out h).elim⟩, HC2.out⟩
            · have HF := hide (fun h : MayP c => hw ((HI.out.1 h).2.1 j (by rw [HN'.out]; exact jj2)).1)
              have dw : decide (4 ≤ c (18 + j) ∧ c (18 + j) ≤ 128) = false := decide_eq_false hw
              clear hw
              go_wp2_with (first | ((go_at_call 53; refine (within_any _ _ _ _).mono ?_; rintro e W7 ⟨rfl, rfl⟩)))
              go_ret
              exact ⟨false, rfl, ⟨fun h => (by cases h), fun h => (HF.out h).elim⟩, HC2.out⟩
          · obtain rfl : j = n := by omega
            have HJ2 := hide (show ∀ i : Nat, (i : Int) < c 0 → (4 ≤ c (18 + i) ∧ c (18 + i) ≤ 128) ∧ c 93 ≤ c (18 + i) from fun i hi => HJ.out i (by rw [HN'.out] at hi; omega))
            clear HJ
            go_wp2_with (first | (refine wpList_load26 HB2.out rfl _ rfl rfl ?_))
            refine (HNA.out _).mono ?_
            rintro e W5 ⟨r5, rfl, hr5, hc5⟩
            have hb5 : CB W5 b c := HB2.out.chg hc5 List.not_mem_nil
            have u91 := CB.get hb5 (i := 91) (by omega)
            have u92 := CB.get hb5 (i := 92) (by omega)
            have u93 := CB.get hb5 (i := 93) (by omega)
            have HC5 := hide (HC2.out.stay hc5)
            have hbl5 := hb5.lt
            have HR5 := hide hr5
            clear hb5 hc5 hr5
            cases r5 with
            | false =>
              have HF := hide (fun h : MayP c => Bool.false_ne_true (HR5.out.2 (HI.out.1 h).2.2.1))
              go_wp2_with fail
              go_ret
              exact ⟨false, rfl, ⟨fun h => (by cases h), fun h => (HF.out h).elim⟩, HC5.out⟩
            | true =>
              by_cases m1 : 0 ≤ c 91
              · by_cases m2 : c 91 ≤ c 92
                · by_cases m3 : c 92 ≤ c 93
                  · have HT := hide (HI.out.2 ⟨HH2.out, HJ2.out, HR5.out.1 rfl, m1, m2, m3⟩)
                    go_wp2_with fail
                    go_ret
                    exact ⟨true, rfl, ⟨fun _ => HT.out, fun _ => rfl⟩, HC5.out⟩
                  · have HF := hide (fun h : MayP c => m3 h.hi)
                    have d3 : decide (c 92 ≤ c 93) = false := decide_eq_false m3
                    go_wp2_with fail
                    go_ret
                    exact ⟨false, rfl, ⟨fun h => (by cases h), fun h => (HF.out h).elim⟩, HC5.out⟩
                · have HF := hide (fun h : MayP c => m2 h.lo)
                  have d3 : decide (c 91 ≤ c 92) = false := decide_eq_false m2
                  go_wp2_with fail
                  go_ret
                  exact ⟨false, rfl, ⟨fun h => (by cases h), fun h => (HF.out h).elim⟩, HC5.out⟩
              · have HF := hide (fun h : MayP c => m1 h.mi)
                have d3 : decide (0 ≤ c 91) = false := decide_eq_false m1
                go_wp2_with fail
                go_ret
                exact ⟨false, rfl, ⟨fun h => (by cases h), fun h => (HF.out h).elim⟩, HC5.out⟩
theorem mayB_of {c : Cf} {r : Bool} (h : r = true ↔ MayP c) : r = mayB c := by rw [Bool.eq_iff_iff, h, mayB_iff]
/-- THE CONTRACT of May -/
theorem May_any (c : Cf) (w : World) : Calls Tryz.prog 26 #[.agg (cg c)] w fun e w' => e = .returned (.bool (mayB c)) ∧ Chg [] w w' := by
  refine (may_any c w).mono ?_
  rintro e w' ⟨r, rfl, hr, hc⟩
  rw [mayB_of hr]
  exact ⟨rfl, hc⟩
end Go.Proofs.YtfoleblcaloeoaaGreatDoor

/- Bytes, words, strings; plain fields of a call's kinds. -/
namespace Go.Proofs.YtfoleblcaloeoaaGreatDoor
open Go Go.RowKit

/-! ## Bytes in memory -/
def ucl (x : Nat) : List Value := [.int .u8 x]
theorem ucl_len (x : Nat) : (ucl x).length = 1 := rfl
abbrev SB (w : World) (v : Value) (B : List Nat) : Prop := SE ucl 1 5 w v B
abbrev RB (w : World) (v : Value) (B : List Nat) : Prop := RE ucl 1 w v B
theorem ucl_one (l : List Nat) : ∀ u ∈ fc ucl l, u.oneCell' = true := fun u hu => by
  unfold fc at hu
  obtain ⟨x, _, hx⟩ := List.mem_flatMap.1 hu
  simp [ucl] at hx
  subst hx
  rfl
theorem info5b : (Tryz.prog.info? 5).map (fun i => (i.zero, i.size, i.bytes)) = some (some (.int .u8 0), 1, 1) := by kernel_rfl
theorem wpList_append_b {ops : Array Oper} {rest : List Oper} {o : Oper} {a : Act} {w : World} {Q : Exit → Act → World → Prop} (hg : o.guard = none) (s x : Operand)
    (ho : o.op = .call { callee := .builtin .append, args := #[s, x], argTypes := #[38, 38] }) (v y : Value) (hs : a.eval s = v) (hx : a.eval x = y) {l m : List Nat} (hv : SB w v l) (hy : RB w y m) (hlen : l.length + m.length ≤ 1000000)
    (h : ∀ A n c w', Hid (n = (l ++ m).length) → SB w' (.slice A n c) (l ++ m) → Chg (own v) w w' → Grow w v (.slice A n c) → wpList Tryz.prog ops Q rest (a.put o.dst (.slice A n c)) w') :
    wpList Tryz.prog ops Q (o :: rest) a w := by
  obtain ⟨i5, hi, hz, hi1, hi2⟩ := info_parts info5b
  refine wpList_append_sl hg s x 38 ho 5 Tryz.underlying38 hi hz hi1 hi2 rfl hs hv hx hy (ucl_one m) (by unfold maxLen; omega) (by omega) fun v' w' h2 h3 h4 => ?_
  have h2' : SB w' v' (l ++ m) := by
    unfold SB SE
    rw [List.length_append, fc_append]
    exact h2
  obtain ⟨A, c, rfl⟩ := h2'.form
  exact h A _ c w' rfl h2' h3 (grow_of h4)
theorem RB_one (w : World) (k : Nat) : RB (w.alloc (.cells #[.int .u8 (k : Nat)] 5)) (.slice (some ⟨w.heap.size, 0, none⟩) 1 1) [k] := Rd_new w 5 1 1 [.int .u8 k] rfl
/-- bytes, as a string -/
def strB (l : List Nat) : ByteArray := ⟨(l.map UInt8.ofNat).toArray⟩
theorem run_str {w : World} {v : Value} {l : List Nat} (h : RB w v l) (h8 : ∀ x ∈ l, x < 256) : (convert 38 9 v).run Tryz.prog w = .ok (.string (strB l)) w := by
  obtain ⟨A, c, rfl⟩ := RE.form h
  rcases Nat.eq_zero_or_pos l.length with h0 | h0
  · obtain rfl : l = [] := List.eq_nil_of_length_eq_zero h0
    rw [run_convert_bytes_string w 38 9 5 A _ c Tryz.underlying38 Tryz.underlying5 Tryz.underlying9]
    cases A with
    | none => simp [Conv.bytesToString, strB]; rfl
    | some a =>
      have := run_bytesToString (P := Tryz.prog) w a 0 c [] (by rfl)
      have e : strB [] = ByteArray.empty := rfl
      rw [e]
      simpa using this
  · obtain ⟨g, off, rfl⟩ := RE.addr h h0
    have hl : (l.map UInt8.ofNat).length = l.length := by simp
    rw [← hl]
    refine run_convert_bytes_back w 38 9 5 ⟨g, off, none⟩ c (l.map UInt8.ofNat) Tryz.underlying38 Tryz.underlying5 Tryz.underlying9 fun j hj => ?_
    rw [hl] at hj
    have := RE.cell ucl_len h hj (j := 0) (by omega) rfl
    rw [Addr.add_lit]
    rw [Nat.mul_one, Nat.add_zero] at this
    rw [this, List.getElem_map]
    congr 2
    have h2 := h8 _ (List.getElem_mem hj)
    simp [Nat.mod_eq_of_lt h2]
theorem strB_inj {l m : List Nat} (hl : ∀ x ∈ l, x < 256) (hm : ∀ x ∈ m, x < 256) (h : strB l = strB m) : l = m := by
  unfold strB at h
  injection h with h
  have h1 : l.map UInt8.ofNat = m.map UInt8.ofNat := by simpa using h
  have hlen : l.length = m.length := by simpa using congrArg List.length h1
  refine List.ext_getElem hlen fun i h2 h3 => ?_
  have h4 : (l.map UInt8.ofNat)[i]? = (m.map UInt8.ofNat)[i]? := by rw [h1]
  rw [List.getElem?_map, List.getElem?_map, List.getElem?_eq_getElem h2, List.getElem?_eq_getElem h3] at h4
  have h5 : UInt8.ofNat l[i] = UInt8.ofNat m[i] := by simpa using h4
  have h6 := congrArg UInt8.toNat h5
  have a1 := hl _ (List.getElem_mem h2)
  have a2 := hm _ (List.getElem_mem h3)
  simpa [Nat.mod_eq_of_lt a1, Nat.mod_eq_of_lt a2] using h6
theorem bytes_beq (a b : ByteArray) : (a == b) = (a.data == b.data) := by cases a; cases b; rfl
theorem strB_eq {l m : List Nat} (hl : ∀ x ∈ l, x < 256) (hm : ∀ x ∈ m, x < 256) : (strB l == strB m) = decide (l = m) := by
  rw [bytes_beq]
  by_cases h : l = m
  · subst h; simp
  · rw [decide_eq_false h]
    refine beq_false_of_ne fun e => h (strB_inj hl hm ?_)
    exact congrArg ByteArray.mk e
theorem loopE (bs : ByteArray) : ∀ (n i : Nat) (r : List UInt8), bs.size - i = n → ByteArray.toList.loop bs i r = r.reverse ++ bs.data.toList.drop i := by
  have hsz : bs.data.toList.length = bs.size := by rw [Array.length_toList]; rfl
  intro n
  induction n with
  | zero =>
    intro i r h
    rw [ByteArray.toList.loop]
    have : ¬ i < bs.size := by omega
    rw [if_neg this, List.drop_eq_nil_of_le (by omega)]
    simp
  | succ n ih =>
    intro i r h
    rw [ByteArray.toList.loop]
    have hi : i < bs.size := by omega
    rw [if_pos hi, ih (i + 1) _ (by omega)]
    have h2 : i < bs.data.toList.length := by omega
    rw [List.drop_eq_getElem_cons h2]
    have : bs.get! i = bs.data.toList[i] := by
      show bs.data[i]! = _
      rw [getElem!_pos bs.data i hi]
      simp
    simp [this]
theorem toListE (bs : ByteArray) : bs.toList = bs.data.toList := by
  unfold ByteArray.toList
  rw [loopE bs _ 0 [] rfl]
  simp
theorem strB_toList (l : List Nat) : (strB l).toList = l.map UInt8.ofNat := by rw [toListE]; simp [strB]
theorem strB_list {l m : List Nat} (hl : ∀ x ∈ l, x < 256) (hm : ∀ x ∈ m, x < 256) : ((strB l).toList == (strB m).toList) = decide (l = m) := by
  rw [toListE, toListE]
  by_cases h : l = m
  · subst h; simp
  · rw [decide_eq_false h]
    refine beq_false_of_ne fun e => h (strB_inj hl hm ?_)
    have : (strB l).data = (strB m).data := by
      have h1 := congrArg List.toArray e
      simpa using h1
    exact congrArg ByteArray.mk this
/-! ## Words -/
def le8 (x : Nat) : List Nat := (List.range 8).map fun k => x / 2 ^ (8 * k) % 256
theorem le8_length (x : Nat) : (le8 x).length = 8 := by simp [le8]
theorem le8_get (x : Nat) {k : Nat} (h : k < 8) : (le8 x)[k]? = some (x / 2 ^ (8 * k) % 256) := by
  unfold le8
  rw [List.getElem?_map, List.getElem?_range h]
  rfl
theorem le8_b (x : Nat) : ∀ b ∈ le8 x, b < 256 := fun b hb => by
  obtain ⟨k, _, rfl⟩ := List.mem_map.1 hb
  exact Nat.mod_lt _ (by omega)
def leN : List Nat → Nat
  | [] => 0
  | b :: l => b + 256 * leN l
theorem leN_snoc : ∀ (l : List Nat) (b : Nat), leN (l ++ [b]) = leN l + b * 2 ^ (8 * l.length)
  | [], b => by simp [leN]
  | a :: l, b => by
    have ih := leN_snoc l b
    have e : 2 ^ (8 * (l.length + 1)) = 256 * 2 ^ (8 * l.length) := by rw [Nat.mul_add, Nat.pow_add]; omega
    simp only [List.cons_append, leN, List.length_cons, ih, e]
    rw [Nat.mul_add, Nat.mul_left_comm]
    omega
theorem leN_lt : ∀ (l : List Nat), (∀ b ∈ l, b < 256) → leN l < 2 ^ (8 * l.length)
  | [], _ => by simp [leN]
  | a :: l, h => by
    have ih := leN_lt l (fun b hb => h b (List.mem_cons_of_mem _ hb))
    have ha := h a (List.mem_cons_self ..)
    have e : 2 ^ (8 * (l.length + 1)) = 256 * 2 ^ (8 * l.length) := by rw [Nat.mul_add, Nat.pow_add]; omega
    simp only [leN, List.length_cons, e]
    omega
theorem leN_le8 {x : Nat} (hx : x < 18446744073709551616) : leN (le8 x) = x := by
  simp only [le8, List.range_succ, List.range_zero, List.map_cons, List.map_nil, List.nil_append, List.cons_append, leN]
  omega
theorem le8_leN {l : List Nat} (hl : l.length = 8) (h : ∀ b ∈ l, b < 256) : le8 (leN l) = l := by
  match l, hl with
  | [a, b, c, d, e, f, g, i], _ =>
    have ha := h a (by simp); have hb := h b (by simp); have hc := h c (by simp); have hd := h d (by simp)
    have he := h e (by simp); have hf := h f (by simp); have hg := h g (by simp); have hi := h i (by simp)
    simp only [le8, List.range_succ, List.range_zero, List.map_cons, List.map_nil, List.nil_append, List.cons_append, leN]
    simp only [List.cons.injEq, and_true]
    refine ⟨?_, ?_, ?_, ?_, ?_, ?_, ?_, ?_⟩ <;> omega
theorem or_byte {z x k : Nat} (hz : z < 2 ^ (8 * k)) (hx : x < 256) (hk : k < 8) : bits BinOp.or IntKind.u64 (z : Int) (IntKind.u64.wrap ((x : Int) * 2 ^ (8 * k))) = ((z + x * 2 ^ (8 * k) : Nat) : Int) := by
  have h1 : x * 2 ^ (8 * k) < 18446744073709551616 := by
    have h2 : x * 2 ^ (8 * k) < 256 * 2 ^ (8 * k) := Nat.mul_lt_mul_of_pos_right hx (Nat.two_pow_pos _)
    have h3 : 256 * 2 ^ (8 * k) = 2 ^ (8 * k + 8) := by rw [Nat.pow_add]; omega
    have h4 : 2 ^ (8 * k + 8) ≤ 2 ^ 64 := Nat.pow_le_pow_right (by omega) (by omega)
    omega
  have h5 : z < 18446744073709551616 := by
    have h4 : 2 ^ (8 * k) ≤ 2 ^ 64 := Nat.pow_le_pow_right (by omega) (by omega)
    omega
  have h6 : ((x : Int) * 2 ^ (8 * k)) = ((x * 2 ^ (8 * k) : Nat) : Int) := by push_cast; rfl
  have h7 : IntKind.u64.wrap ((x * 2 ^ (8 * k) : Nat) : Int) = ((x * 2 ^ (8 * k) : Nat) : Int) := by rw [IntKind.wrap_u64]; omega
  rw [h6, h7, u64_or_nat _ _ h5 h1]
  have h8 := Nat.shiftLeft_add_eq_or_of_lt hz x
  rw [Nat.shiftLeft_eq] at h8
  rw [Nat.or_comm, ← h8, Nat.add_comm]
/-! ## Words as cells -/
def wcl (x : Nat) : List Value := [.int .u64 x]
theorem wcl_len (x : Nat) : (wcl x).length = 1 := rfl
abbrev RW (w : World) (v : Value) (B : List Nat) : Prop := RE wcl 1 w v B
/-- an int as a word, and back -/
def u64 (z : Int) : Nat := (z % 18446744073709551616).toNat
def i64 (n : Nat) : Int := if n < 9223372036854775808 then (n : Int) else (n : Int) - 18446744073709551616
theorem u64_lt (z : Int) : u64 z < 18446744073709551616 := by unfold u64; omega
theorem i64_u64 {z : Int} (h1 : -9223372036854775808 ≤ z) (h2 : z ≤ 9223372036854775807) : i64 (u64 z) = z := by unfold i64 u64; split <;> omega
theorem u64_i64 {n : Nat} (h : n < 18446744073709551616) : u64 (i64 n) = n := by unfold i64 u64; split <;> omega
theorem i64_in {n : Nat} (h : n < 18446744073709551616) : -9223372036854775808 ≤ i64 n ∧ i64 n ≤ 9223372036854775807 := by unfold i64; split <;> omega
end Go.Proofs.YtfoleblcaloeoaaGreatDoor

/- A call: its cells, its kind's fields. -/
namespace Go.Proofs.YtfoleblcaloeoaaGreatDoor
open Go Go.RowKit

/-- a call, its bytes as a list -/
structure Cl where
  k : Nat
  p : Int
  n : Int
  g : Int
  c : Int
  a : Int
  s : Int
  r : Nat
  ok : Nat
  om : Nat
  h : Nat
  l : List Nat
def clc (x : Cl) (v : Value) : Array Value := #[.int .u8 x.k, .int .i64 x.p, .int .i64 x.n, .int .i64 x.g, .int .i64 x.c, .int .i64 x.a, .int .i64 x.s, .int .u8 x.r, .int .u8 x.ok, .int .u8 x.om, .int .u64 x.h, v]
/-- its numbers are numbers of their kinds -/
structure Cl.Ok (x : Cl) : Prop where
  k : x.k < 256
  p : -9223372036854775808 ≤ x.p ∧ x.p ≤ 9223372036854775807
  n : -9223372036854775808 ≤ x.n ∧ x.n ≤ 9223372036854775807
  g : -9223372036854775808 ≤ x.g ∧ x.g ≤ 9223372036854775807
  c : -9223372036854775808 ≤ x.c ∧ x.c ≤ 9223372036854775807
  a : -9223372036854775808 ≤ x.a ∧ x.a ≤ 9223372036854775807
  s : -9223372036854775808 ≤ x.s ∧ x.s ≤ 9223372036854775807
  r : x.r < 256
  ok : x.ok < 256
  om : x.om < 256
  h : x.h < 18446744073709551616
  l : ∀ b ∈ x.l, b < 256
/-! ## In memory -/
abbrev KB (w : World) (b : Nat) (x : Cl) (v : Value) : Prop := Blk w b 47 (clc x v)
theorem info34 {x : Cl} {v : Value} : (Tryz.prog.info? 47).map (·.size) = some (clc x v).size := by
  have : (Tryz.prog.info? 47).map (·.size) = some 12 := by kernel_rfl
  exact this
theorem clc_one (x : Cl) {v : Value} (hv : v.oneCell' = true) : ((clc x v).all fun u => u.oneCell') = true := by
  simp [clc, show ∀ k z, (Value.int k z).oneCell' = true from fun _ _ => rfl, hv]
section
variable {ops : Array Oper} {rest : List Oper} {o : Oper} {a : Act} {w : World} {Q : Exit → Act → World → Prop} {b : Nat} {x y : Cl} {v u : Value}
theorem KB.load (h : KB w b x v) : (loadVar 47 ⟨b, 0, none⟩).run Tryz.prog w = .ok (.agg (clc x v)) w :=
  run_loadVar_row w b 47 47 _ (0, 0) _ h Tryz.underlying47 rfl info34
theorem KB.stay {w' : World} (h : KB w b x v) (hc : Chg [] w w') : KB w' b x v := Blk.chg h hc List.not_mem_nil
theorem wpList_load34 (hg : o.guard = none) (z : Operand) (ho : o.op = .load 47 z) (hx : a.eval z = .pointer (some ⟨b, 0, none⟩)) (h0 : KB w b x v) (h : wpList Tryz.prog ops Q rest (a.put o.dst (.agg (clc x v))) w) : wpList Tryz.prog ops Q (o :: rest) a w :=
  wpList_load_row hg 47 z ho b hx 47 _ (0, 0) _ h0 Tryz.underlying47 rfl info34 h
theorem wpList_store34 (hg : o.guard = none) (z t : Operand) (ho : o.op = .store 47 z t) (hx : a.eval z = .pointer (some ⟨b, 0, none⟩)) (hy : a.eval t = .agg (clc y u)) (hu : u.oneCell' = true) (h0 : KB w b x v)
    (h : ∀ w', KB w' b y u → Chg [b] w w' → wpList Tryz.prog ops Q rest (a.put o.dst undef) w') : wpList Tryz.prog ops Q (o :: rest) a w :=
  wpList_store_row hg 47 z t ho b _ hx hy 47 _ h0 info34 rfl (clc_one y hu) (h _ (setRow_heap w b _ _ _ _ h0) ((Chg.refl [b] w).setRow (.inl (by simp)) _))
theorem wpList_box34 (hg : o.guard = none) (z : Operand) (ho : o.op = .box 47 z) (hx : a.eval z = .agg (clc x v))
    (h : wpList Tryz.prog ops Q rest (a.put o.dst (.pointer (some ⟨w.heap.size, 0, none⟩))) (w.alloc (.cells (clc x v) 47))) : wpList Tryz.prog ops Q (o :: rest) a w :=
  Great.wpList_runTo hg _ rfl _ _ (by unfold execOp; simp only [ho, hx, Sem.run_bind, Instr.box, newVar, newRow, run_newObj_alloc, Sem.run_pure, Result.andThen_ok, Value.cells]) h
/-- the zero call -/
def zCl : Cl := ⟨0, 0, 0, 0, 0, 0, 0, 0, 0, 0, 0, []⟩
def zV : Value := .slice none 0 0
theorem zero34 : ∀ w, (zeroValue 47).run Tryz.prog w = .ok (.agg (clc zCl zV)) w := by
  have h : (Tryz.prog.info? 47).map (fun i => (i.zero, i.size)) = some (some (.agg (clc zCl zV)), 12) := by kernel_rfl
  exact (zero_of_info h).1
theorem run_alloc34 (w : World) : (Instr.alloc 47 true (.tuple #[])).run Tryz.prog w = .ok (.pointer (some ⟨w.heap.size, 0, none⟩)) (w.alloc (.cells (clc zCl zV) 47)) := by
  simp [Instr.alloc, Sem.run_bind, zero34, newVar, newRow, run_newObj_alloc, Value.cells, clc, zCl, zV]
theorem wpList_alloc34 (hg : o.guard = none) (ho : o.op = .alloc 47)
    (h : wpList Tryz.prog ops Q rest (a.put o.dst (.pointer (some ⟨w.heap.size, 0, none⟩))) (w.alloc (.cells (clc zCl zV) 47))) : wpList Tryz.prog ops Q (o :: rest) a w :=
  Great.wpList_runTo hg _ rfl _ _ (by unfold execOp; simp only [ho, Sem.run_bind, run_alloc34, Sem.run_pure, Result.andThen_ok]) h
end
theorem KB.cells {w : World} {b : Nat} {x : Cl} {v : Value} (h : KB w b x v) :
    w.cell? ⟨b, 0, none⟩ = some (.int .u8 x.k) ∧ w.cell? ⟨b, 1, none⟩ = some (.int .i64 x.p) ∧ w.cell? ⟨b, 2, none⟩ = some (.int .i64 x.n) ∧ w.cell? ⟨b, 3, none⟩ = some (.int .i64 x.g) ∧ w.cell? ⟨b, 4, none⟩ = some (.int .i64 x.c) ∧ w.cell? ⟨b, 5, none⟩ = some (.int .i64 x.a) ∧ w.cell? ⟨b, 6, none⟩ = some (.int .i64 x.s) ∧
      w.cell? ⟨b, 7, none⟩ = some (.int .u8 x.r) ∧ w.cell? ⟨b, 8, none⟩ = some (.int .u8 x.ok) ∧ w.cell? ⟨b, 9, none⟩ = some (.int .u8 x.om) ∧ w.cell? ⟨b, 10, none⟩ = some (.int .u64 x.h) ∧ w.cell? ⟨b, 11, none⟩ = some v ∧ b < w.heap.size ∧ ∀ i, w.frozen? ⟨b, i, none⟩ = false :=
  ⟨by simpa [clc] using Blk.cell h 0, by simpa [clc] using Blk.cell h 1, by simpa [clc] using Blk.cell h 2, by simpa [clc] using Blk.cell h 3, by simpa [clc] using Blk.cell h 4, by simpa [clc] using Blk.cell h 5, by simpa [clc] using Blk.cell h 6, by simpa [clc] using Blk.cell h 7, by simpa [clc] using Blk.cell h 8, by simpa [clc] using Blk.cell h 9, by simpa [clc] using Blk.cell h 10, by simpa [clc] using Blk.cell h 11, Blk.lt h, Blk.frozen h⟩
/-! ## The kinds' fields -/
def fld : Nat → List Nat
  | 1 => [46] | 2 => [112] | 3 => [112, 103, 99, 114] | 4 => [112, 103, 99] | 5 => [112, 103, 99, 114] | 6 => [112, 103, 99] | 7 => [112, 103, 99]
  | 8 => [112, 97, 115] | 9 => [112, 97, 98] | 10 => [115] | 11 => [104] | 12 => [104, 97, 115] | 13 => [104, 97, 98] | 14 => [112, 111] | 15 => [112, 103, 99, 111]
  | 16 => [112, 103] | 17 => [112, 103] | 18 => [112, 103, 99, 110] | 19 => [110] | 20 => [110] | 21 => [46] | _ => []
theorem fld_big {k : Nat} (h : 22 ≤ k) : fld k = [] := by
  obtain ⟨j, rfl⟩ : ∃ j, k = j + 22 := ⟨k - 22, by omega⟩
  rfl
def letter (f : Nat) : Prop := f = 46 ∨ f = 112 ∨ f = 103 ∨ f = 99 ∨ f = 110 ∨ f = 97 ∨ f = 115 ∨ f = 114 ∨ f = 111 ∨ f = 104 ∨ f = 98
theorem fld_mem {k f : Nat} (h : f ∈ fld k) : letter f := by
  by_cases hk : k < 22
  · have : ∀ k : Fin 22, ∀ f ∈ fld k.val, f = 46 ∨ f = 112 ∨ f = 103 ∨ f = 99 ∨ f = 110 ∨ f = 97 ∨ f = 115 ∨ f = 114 ∨ f = 111 ∨ f = 104 ∨ f = 98 := by decide
    exact this ⟨k, hk⟩ f h
  · rw [fld_big (by omega)] at h; cases h
theorem letter_lt {f : Nat} (h : letter f) : f < 128 := by unfold letter at h; omega
theorem fld_lt {k f : Nat} (h : f ∈ fld k) : f < 256 := by have := letter_lt (fld_mem h); omega
theorem fld_len (k : Nat) : (fld k).length ≤ 4 := by
  by_cases hk : k < 22
  · have : ∀ k : Fin 22, (fld k.val).length ≤ 4 := by decide
    exact this ⟨k, hk⟩
  · rw [fld_big (by omega)]; simp
/-- the listed variable reads so -/
def FW (w : World) : Prop := ∀ k, k < 22 → w.cell? ⟨0, k, none⟩ = some (.string (strB (fld k)))
theorem FW.chg {w w' : World} {F : List Nat} (h : FW w) (hc : Chg F w w') (hF : 0 ∉ F) : FW w' := fun k hk => Chg.cell hc (h k hk) hF
theorem FW.stay {w w' : World} (h : FW w) (hc : Chg [] w w') : FW w' := h.chg hc List.not_mem_nil
theorem FW.pos {w : World} (h : FW w) : 0 < w.heap.size := World.block_lt_of_cell? w _ (h 0 (by omega))
theorem of_any {w : World} (hf : FW w) {k : Nat} (hk : k < 256) : Calls Tryz.prog 57 #[.int .u8 k] w fun e w' => e = .returned (.string (strB (fld k))) ∧ w = w' := by
  by_cases h22 : k < 22
  · have hc := hf k h22
    have hp := hf.pos
    have d1 : decide (22 ≤ (k : Int)) = false := decide_eq_false (by omega)
    have d2 : decide (22 ≤ k) = false := decide_eq_false (by omega)
    have i0 : (0 : Int) ≤ (k : Int) := by omega
    have i1 : (k : Int) < 22 := by omega
    generalize strB (fld k) = s at hc ⊢
    clear hf
    go_enter Tryz.func57, Tryz.ntmps57
    go_wp2_with fail
    go_ret
    exact ⟨rfl, rfl⟩
  · rw [fld_big (by omega)]
    have d1 : decide (22 ≤ (k : Int)) = true := decide_eq_true (by omega)
    have d2 : decide (22 ≤ k) = true := decide_eq_true (by omega)
    clear hf
    go_enter Tryz.func57, Tryz.ntmps57
    go_wp2_with fail
    go_ret
    exact ⟨rfl, rfl⟩
/-! ## Ranging over a string -/
def Itr (w : World) (b : Nat) (l : List Nat) (j : Nat) : Prop := w.heap[b]? = some (.stringIter (strB l) j)
theorem Itr.lt {w : World} {b j : Nat} {l : List Nat} (h : Itr w b l j) : b < w.heap.size := (Array.getElem?_eq_some_iff.1 h).1
theorem Itr.chg {w w' : World} {b j : Nat} {l : List Nat} {F : List Nat} (h : Itr w b l j) (hc : Chg F w w') (hF : b ∉ F) : Itr w' b l j := (hc.block b h.lt hF).trans h
theorem strB_size (l : List Nat) : (strB l).size = l.length := by simp [strB, ByteArray.size]
theorem strB_get {l : List Nat} {j : Nat} (hj : j < l.length) (hl : l[j] < 256) : ((strB l)[j]'(by rw [strB_size]; exact hj)).toNat = l[j] := by
  have : (strB l)[j]'(by rw [strB_size]; exact hj) = UInt8.ofNat l[j] := by
    show (strB l).data[j]'_ = _
    simp [strB]
  rw [this]
  simp [Nat.mod_eq_of_lt hl]
theorem Itr.next {w : World} {b j : Nat} {l : List Nat} (h : Itr w b l j) (hj : j < l.length) (ha : l[j] < 128) : ∃ w', (∀ ty, (Instr.next (.pointer (some ⟨b, 0, none⟩)) true ty).run Tryz.prog w = .ok (.tuple #[.bool true, .int .i64 j, .int .i32 l[j]]) w') ∧ Itr w' b l (j + 1) ∧ Chg [b] w w' := by
  have hs : j < (strB l).size := by rw [strB_size]; exact hj
  have hd := decode_ascii (strB l) j hs (by rw [strB_get hj (by omega)]; exact ha)
  rw [strB_get hj (by omega)] at hd
  refine ⟨{ w with heap := w.heap.setIfInBounds b (.stringIter (strB l) (j + 1)) }, fun ty => ?_, ?_, ⟨rfl, rfl, rfl, by simp, fun k hk hn => ?_⟩⟩
  · simp only [Instr.next, getObj, setObj, Sem.run_bind, Sem.run, (show w.heap[b]? = _ from h), Result.andThen, hs, if_true, hd]
    simp [goInt]
  · show (w.heap.setIfInBounds b _)[b]? = _
    rw [Array.getElem?_setIfInBounds_self_of_lt h.lt]
  · show (w.heap.setIfInBounds b _)[k]? = _
    rw [Array.getElem?_setIfInBounds_ne (by simpa using fun e => hn (by simp [e]))]
theorem Itr.done {w : World} {b : Nat} {l : List Nat} (h : Itr w b l l.length) : ∀ ty, (Instr.next (.pointer (some ⟨b, 0, none⟩)) true ty).run Tryz.prog w = .ok (.tuple #[.bool false]) w := fun ty => by
  have hs : ¬ l.length < (strB l).size := by rw [strB_size]; omega
  simp [Instr.next, getObj, Sem.run, (show w.heap[b]? = _ from h), hs]
theorem Itr.new (w : World) (l : List Nat) : Itr (w.iter (strB l) 0) w.heap.size l 0 := World.iter_heap w _ 0
theorem chg_iter (w : World) (s : ByteArray) : Chg [] w (w.iter s 0) := (Chg.refl [] w).alloc _
/-! ## The field that is a number -/
def numO (f : Nat) : Option Nat := if f = 112 then some 1 else if f = 103 then some 3 else if f = 99 then some 4 else if f = 110 then some 2 else if f = 97 then some 5 else if f = 115 then some 6 else none
def ptrO (b : Nat) : Option Nat → Value
  | none => .pointer none
  | some o => .pointer (some ⟨b, o, none⟩)
theorem number_any {w : World} {b : Nat} (hb : b < w.heap.size) {f : Nat} (hf : letter f) : Calls Tryz.prog 113 #[.pointer (some ⟨b, 0, none⟩), .int .i32 f] w fun e w' => e = .returned (.tuple #[ptrO b (numO f), .bool (numO f).isSome]) ∧ w = w' := by
  unfold letter at hf
  rcases hf with rfl | rfl | rfl | rfl | rfl | rfl | rfl | rfl | rfl | rfl | rfl
  all_goals
    simp only [numO, ptrO, reduceIte, Nat.reduceEqDiff, Option.isSome]
    go_enter Tryz.func113, Tryz.ntmps113
    go_wp2_with fail
    go_ret2
    exact ⟨rfl, rfl⟩
end Go.Proofs.YtfoleblcaloeoaaGreatDoor
