/- The walk of a drawn region, its guards given by their slots. -/
import Derived.Test.YtinlpjgjjplceaaDoorText
namespace Go.Proofs.YtinlpjgjjplceaaDoor
open Go
section
variable {P : Program} {ops : Array Oper}
/-! ### The walk over a region's list, its guards by their slots -/

/-- is the operation carried out? The guard: a slot, and the bool that it must hold -/
def wantG (a : Act) : Option (Nat × Bool) → Bool
  | none => true
  | some (t, b) => match a.tmps[t]? with
    | some (.bool c) => c == b
    | _ => false

def wpG (P : Program) (S : World → Prop) (Q : Exit → Act → World → Prop) : List Oper → List Nat → List (Option (Nat × Bool)) → Act → World → Prop
  | [], _, _, a, w => Q .normal a w
  | o :: rest, ks, gs, a, w =>
    if wantG a (gs.headD none) = true then
      if ks.headD 3 = 0 then ∃ v, (∀ w', (execOp a.eval o).run P w' = .ok (.value v) w') ∧ wpG P S Q rest ks.tail gs.tail (a.put o.dst v) w
      else if ks.headD 3 = 5 then S w ∧ ∃ v, (∀ w', S w' → StillAt P o a.eval w' v) ∧ wpG P S Q rest ks.tail gs.tail (a.put o.dst v) w
      else if ks.headD 3 = 6 then S w ∧ o.wp P a w (fun a' w' => S w' ∧ wpG P S Q rest ks.tail gs.tail a' w') NoQ
      else o.wp P a w (wpG P S Q rest ks.tail gs.tail) NoQ
    else wpG P S Q rest ks.tail gs.tail (a.put o.dst undef) w

/-- is the guard's slot the one that the guarding operation writes? -/
def guardOk (ops : Array Oper) (o : Oper) (g : Option (Nat × Bool)) : Bool :=
  match o.guard, g with
  | none, none => true
  | some (j, b), some (t, c) => b == c && (ops[j]?).bind (·.dst) == some t
  | _, _ => false
theorem guardOk_spec {o : Oper} {g : Option (Nat × Bool)} (h : guardOk ops o g = true) (a : Act) : Region.wanted o (yielded ops a.tmps) = wantG a g := by
  unfold guardOk at h
  unfold Region.wanted wantG
  split at h
  · rename_i h1; rw [h1]
  · rename_i j b t c h1
    rw [h1]
    simp only [Bool.and_eq_true, beq_iff_eq] at h
    obtain ⟨rfl, h2⟩ := h
    simp only [yielded, h2, Option.bind_some]
    cases a.tmps[t]? with
    | none => rfl
    | some v => cases v <;> first | rfl | (simp; done)
  · cases h
theorem wpG_eq {S : World → Prop} {Q : Exit → Act → World → Prop} : ∀ (l : List Oper) (ks : List Nat) (gs : List (Option (Nat × Bool))), (l.zip gs).length = l.length → ((l.zip gs).all fun (o, g) => guardOk ops o g) = true →
    wpG P S Q l ks gs = wpT P ops S Q l ks
  | [], _, _, _, _ => rfl
  | o :: l, ks, [], h, _ => by simp at h
  | o :: l, ks, g :: gs, h, hg => by
    simp only [List.zip_cons_cons, List.all_cons, Bool.and_eq_true, List.length_cons] at h hg
    have ih := wpG_eq (S := S) (Q := Q) l ks.tail gs (by omega) hg.2
    funext a w
    simp only [wpG, wpT, List.headD_cons, List.tail_cons, guardOk_spec hg.1 a, ih]

def picks {α : Type} (l : List α) (L : List Nat) : List α := L.filterMap fun i => l[i]?

/-- the rest of the look: lengths, guards -/
def restB (l : List Oper) (ks : List Nat) (gs : List (Option (Nat × Bool))) : Bool :=
  ks.length == l.length && gs.length == l.length && (l.zip gs).all fun (o, g) => guardOk l.toArray o g

theorem pick_get {α : Type} {l : List α} {L : List Nat} (hL : ∀ i ∈ L, i < l.length) : L.map (fun i => l[i]?) = (picks l L).map some := by
  unfold picks
  induction L with
  | nil => rfl
  | cons i L ih =>
    have hi := hL i (List.mem_cons_self ..)
    rw [List.filterMap_cons, List.getElem?_eq_getElem hi, List.map_cons, List.map_cons, ih (fun j hj => hL j (List.mem_cons_of_mem _ hj))]
    simp [hi]
theorem pick_zip {α β : Type} {l : List α} {m : List β} {L : List Nat} (hL : ∀ i ∈ L, i < l.length) (hm : m.length = l.length) : (picks l L).zip (picks m L) = picks (l.zip m) L := by
  unfold picks
  induction L with
  | nil => rfl
  | cons i L ih =>
    have hi := hL i (List.mem_cons_self ..)
    have hz : i < (l.zip m).length := by rw [List.length_zip]; omega
    simp only [List.filterMap_cons, List.getElem?_eq_getElem hi, List.getElem?_eq_getElem (show i < m.length by omega), List.getElem?_eq_getElem hz, List.zip_cons_cons, List.getElem_zip]
    rw [ih (fun j hj => hL j (List.mem_cons_of_mem _ hj))]
theorem pick_mem {α : Type} {l : List α} {L : List Nat} {x : α} (h : x ∈ picks l L) : x ∈ l := by
  obtain ⟨i, _, hi⟩ := List.mem_filterMap.1 h
  exact List.mem_of_getElem? hi
theorem pick_length {α : Type} {l : List α} {L : List Nat} (hL : ∀ i ∈ L, i < l.length) : (picks l L).length = L.length := by
  have := congrArg List.length (pick_get hL)
  simpa using this.symm

/-- THE RULE: whatever order is drawn: a walk for each of the orders Ls -/
theorem wp_region_g {id : Nat} {l : List Oper} {Q : Exit → Act → World → Prop} {a : Act} {w : World} (ks : List Nat) (gs : List (Option (Nat × Bool))) (Ls : List (List Nat)) (S : World → Prop) (hm : P.follows .mixedOrders = true)
    (hB : ordersB l ks.toArray Ls = true) (hR : restB l ks gs = true) (hLs : (Ls.all fun L => L.all fun i => decide (i < l.length)) = true)
    (h : ∀ L ∈ Ls, wpG P S Q (picks l L) (picks ks L) (picks gs L) a w.drew) : (Code.region id l.toArray true).wp P Q a w := by
  simp only [restB, Bool.and_eq_true, beq_iff_eq] at hR
  obtain ⟨⟨hk, hg⟩, hgd⟩ := hR
  refine wp_region_orders ks Ls S hm hB fun L hL => ?_
  have hL' : ∀ i ∈ L, i < l.length := fun i hi => by simpa using List.all_eq_true.1 (List.all_eq_true.1 hLs L hL) i hi
  have h1 := h L hL
  rw [wpG_eq (ops := l.toArray) _ _ _ (by rw [pick_zip hL' (by omega), pick_length (by intro i hi; rw [List.length_zip]; have := hL' i hi; omega), pick_length hL']) (by
    rw [pick_zip hL' (by omega)]
    exact List.all_eq_true.2 fun x hx => List.all_eq_true.1 hgd x (pick_mem hx))] at h1
  refine wpR_of (picks l L) (picks ks L) (by simpa using pick_get hL') ?_ h1
  have e := pick_get (l := ks) (L := L) (by intro i hi; have := hL' i hi; omega)
  have e2 : L.map (fun i => ks.toArray.getD i 3) = (L.map fun i => ks[i]?).map (·.getD 3) := by simp [Array.getD_eq_getD_getElem?]
  rw [e2, e]
  simp [Function.comp_def]
theorem pick_range {α : Type} (l : List α) : picks l (List.range l.length) = l := by
  have := pick_get (l := l) (L := List.range l.length) (fun i hi => by simpa using hi)
  have e : (List.range l.length).map (fun i => l[i]?) = l.map some := by
    refine List.ext_getElem? fun i => ?_
    rcases Nat.lt_or_ge i l.length with hlt | hge
    · simp [hlt]
    · simp [Nat.not_lt.2 hge]
  rw [e] at this
  have h2 := congrArg (List.filterMap id) this
  simpa using h2.symm
/-- the text's own order -/
theorem wp_region_t {id : Nat} {l : List Oper} {Q : Exit → Act → World → Prop} {a : Act} {w : World} (ks : List Nat) (gs : List (Option (Nat × Bool))) (S : World → Prop) (hm : P.follows .mixedOrders = true)
    (hB : ordersB l ks.toArray [List.range l.length] = true) (hR : restB l ks gs = true) (h : wpG P S Q l ks gs a w.drew) : (Code.region id l.toArray true).wp P Q a w := by
  have hR' := hR
  simp only [restB, Bool.and_eq_true, beq_iff_eq] at hR'
  refine wp_region_g ks gs [List.range l.length] S hm hB hR (by simp) fun L hL => ?_
  obtain rfl : L = List.range l.length := by simpa using hL
  have e1 := pick_range ks
  have e2 := pick_range gs
  rw [hR'.1.1] at e1
  rw [hR'.1.2] at e2
  rw [pick_range l, e1, e2]
  exact h

section
variable {S : World → Prop} {Q : Exit → Act → World → Prop} {o : Oper} {rest : List Oper} {k : Nat} {ks : List Nat} {gs : List (Option (Nat × Bool))} {a : Act} {w : World}
theorem wpG_nil (h : Q .normal a w) : wpG P S Q [] ks gs a w := h
theorem wpG_skip {t : Nat} {b : Bool} (hv : wantG a (some (t, b)) = false) (h : wpG P S Q rest ks gs (a.put o.dst undef) w) : wpG P S Q (o :: rest) (k :: ks) (some (t, b) :: gs) a w := by
  unfold wpG
  rw [if_neg (by simp [hv])]
  exact h
theorem wpG_take {t : Nat} {b : Bool} (hv : wantG a (some (t, b)) = true) (h : wpG P S Q (o :: rest) (k :: ks) (none :: gs) a w) : wpG P S Q (o :: rest) (k :: ks) (some (t, b) :: gs) a w := by
  unfold wpG at h ⊢
  rw [if_pos (by simpa using hv)]
  rw [if_pos (show wantG a ((none :: gs).headD none) = true from rfl)] at h
  exact h
theorem wpG_part {t : Nat} {b : Bool} (h1 : wantG a (some (t, b)) = true → wpG P S Q (o :: rest) (k :: ks) (none :: gs) a w) (h2 : wantG a (some (t, b)) = false → wpG P S Q rest ks gs (a.put o.dst undef) w) :
    wpG P S Q (o :: rest) (k :: ks) (some (t, b) :: gs) a w := by
  cases hv : wantG a (some (t, b)) with
  | true => exact wpG_take hv (h1 hv)
  | false => exact wpG_skip hv (h2 hv)
theorem wpG_pure (h : ∀ K : Act → World → Prop, (∀ a w, wpG P S Q rest ks gs a w → K a w) → ∃ v, (∀ w', (execOp a.eval o).run P w' = .ok (.value v) w') ∧ K (a.put o.dst v) w) : wpG P S Q (o :: rest) (0 :: ks) (none :: gs) a w := by
  have := h _ (fun _ _ h => h)
  unfold wpG
  rw [if_pos (show wantG a ((none :: gs).headD none) = true from rfl)]
  simpa using this
theorem wpG_calc (hp : plainOp o a.eval = true) (h : ∀ K : Act → World → Prop, (∀ a w, wpG P S Q rest ks gs a w → K a w) → o.wp P a w K NoQ) : wpG P S Q (o :: rest) (0 :: ks) (none :: gs) a w := by
  have := plain_runs hp (h _ (fun _ _ h => h))
  unfold wpG
  rw [if_pos (show wantG a ((none :: gs).headD none) = true from rfl)]
  simpa using this
theorem wpG_deed (hk : k ≠ 0 ∧ k ≠ 5 ∧ k ≠ 6) (h : ∀ K : Act → World → Prop, (∀ a w, wpG P S Q rest ks gs a w → K a w) → o.wp P a w K NoQ) : wpG P S Q (o :: rest) (k :: ks) (none :: gs) a w := by
  have := h _ (fun _ _ h => h)
  unfold wpG
  rw [if_pos (show wantG a ((none :: gs).headD none) = true from rfl)]
  simpa [hk] using this
theorem wpG_held (hS : S w) (v : Value) (hv : ∀ w', S w' → StillAt P o a.eval w' v) (h : wpG P S Q rest ks gs (a.put o.dst v) w) : wpG P S Q (o :: rest) (5 :: ks) (none :: gs) a w := by
  unfold wpG
  rw [if_pos (show wantG a ((none :: gs).headD none) = true from rfl)]
  simp only [List.headD_cons, List.tail_cons]
  exact ⟨hS, v, hv, h⟩
theorem wpG_keeps (hS : S w) (h : ∀ K : Act → World → Prop, (∀ a w, S w → wpG P S Q rest ks gs a w → K a w) → o.wp P a w K NoQ) : wpG P S Q (o :: rest) (6 :: ks) (none :: gs) a w := by
  unfold wpG
  rw [if_pos (show wantG a ((none :: gs).headD none) = true from rfl)]
  simp only [List.headD_cons, List.tail_cons]
  exact ⟨hS, h _ fun _ _ s t => ⟨s, t⟩⟩
/-- a load, held by S -/
theorem wpG_hload (t : TypeId) (x : Operand) (ho : o.op = .load t x) {ad : Addr} (hx : a.eval x = .pointer (some ad)) {v : Value} (hv : ∀ w', S w' → (loadVar t ad).run P w' = .ok v w') (hS : S w) (h : wpG P S Q rest ks gs (a.put o.dst v) w) :
    wpG P S Q (o :: rest) (5 :: ks) (none :: gs) a w := by
  refine wpG_held hS v (fun w' hw' => ?_) h
  unfold StillAt execOp
  simp [ho, hx, Instr.loadAt, Instr.sureAddr, hv w' hw']
/-- a call of a Go function that is quiet wherever S holds -/
theorem wpG_hcall {f : FuncId} {args : Array Value} {v : Value} (ho : ∀ w', (execOp a.eval o).run P w' = .ok (.enter f args) w') (hv : ∀ w', S w' → Calls P f args w' (fun e w'' => e = .returned v ∧ w'' = w')) (hS : S w) (h : wpG P S Q rest ks gs (a.put o.dst v) w) :
    wpG P S Q (o :: rest) (5 :: ks) (none :: gs) a w := by
  refine wpG_held hS v (fun w' hw' => ?_) h
  unfold StillAt
  rw [ho w']
  exact ⟨rfl, hv w' hw'⟩
end
theorem load_slice {w : World} {t e : TypeId} {ad : Addr} {v : Value} (ht : P.underlying t = some (.slice e)) (h : w.cell? ad = some v) : (loadVar t ad).run P w = .ok v w := by
  simp [loadVar, isAgg, run_underlying ht, load, Sem.run, h]
theorem load_int {w : World} {t : TypeId} {k : IntKind} {ad : Addr} {v : Value} (ht : P.underlying t = some (.int k)) (h : w.cell? ad = some v) : (loadVar t ad).run P w = .ok v w := by
  simp [loadVar, isAgg, run_underlying ht, load, Sem.run, h]end
attribute [irreducible] wpG
end Go.Proofs.YtinlpjgjjplceaaDoor
