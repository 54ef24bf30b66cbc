/- A region that draws its order is walked once, in the order of the text: whatever order is drawn comes to the same end, where the pairs that no edge orders commute. -/
import Derived.Orders
import Derived.Tactics
import Derived.WalkKit
namespace Go.Proofs.YtinlpjgjjplceaaDoor
open Go

/-- the heap of the one is the heap of the other, and more -/
def Ext (w w' : World) : Prop := ∀ (i : Nat) (o : Obj), w.heap[i]? = some o → w'.heap[i]? = some o

theorem Ext.refl (w : World) : Ext w w := fun _ _ h => h
theorem Ext.trans {a b c : World} (h : Ext a b) (k : Ext b c) : Ext a c := fun i o hi => k i o (h i o hi)
theorem Ext.push (w : World) (o : Obj) : Ext w { w with heap := w.heap.push o } := fun i x hi => by
  have hlt : i < w.heap.size := (Array.getElem?_eq_some_iff.1 hi).1
  show (w.heap.push o)[i]? = some x
  rw [Array.getElem?_push_lt hlt]
  rw [Array.getElem?_eq_getElem hlt] at hi
  exact hi

theorem Ext.cell {w w' : World} (h : Ext w w') {a : Addr} {v : Value} (hc : w.cell? a = some v) : w'.cell? a = some v := by
  unfold World.cell? at *
  cases hb : w.heap[a.block]? with
  | none => rw [hb] at hc; cases hc
  | some o => rw [hb] at hc; rw [h _ _ hb]; exact hc

theorem Ext.seen {P : Program} {w w' : World} (h : Ext w w') {a k : Addr} {u : TypeId} {m : Bool} {r : _} (hs : w.seen P a u k m = .ok r) : w'.seen P a u k m = .ok r := by
  unfold World.seen at *
  cases hb : w.heap[a.block]? with
  | some o => rw [hb] at hs; rw [h _ _ hb]; exact hs
  | none =>
    exfalso
    rw [hb] at hs
    simp only [bind, Except.bind] at hs
    repeat' (split at hs)
    all_goals first | (cases hs; done) | (exact absurd hs (by simp))

theorem Ext.viewLoad {P : Program} {w w' : World} (h : Ext w w') {a k : Addr} {u : TypeId} {m : Bool} {r : _} (hs : w.viewLoad P a u k m = .ok r) : w'.viewLoad P a u k m = .ok r := by
  unfold World.viewLoad at *
  cases hb : w.seen P a u k m with
  | ok x => rw [hb] at hs; rw [h.seen hb]; exact hs
  | error e => rw [hb] at hs; cases hs

theorem Ext.farLoad {P : Program} {w w' : World} (h : Ext w w') {a : Addr} {m : Bool} {r : _} (hs : w.farLoad P a m = .ok r) : w'.farLoad P a m = .ok r := by
  unfold World.farLoad at *
  cases hb : w.heap[a.block]? with
  | none => rw [hb] at hs; cases hs
  | some o =>
    rw [hb] at hs; rw [h _ _ hb]
    cases o <;> simp only at hs ⊢ <;> try (cases hs; done)
    rename_i at_ u
    cases hv : w.viewLoad P at_ u a m with
    | ok x => rw [hv] at hs; rw [h.viewLoad hv]; exact hs
    | error e => rw [hv] at hs; cases hs

/-- where it runs to an end it changes nothing, and comes to the same end in every greater world -/
def OkMono {α : Type} (P : Program) (s : Sem α) : Prop := ∀ w x w', s.run P w = .ok x w' → w' = w ∧ ∀ w2, Ext w w2 → s.run P w2 = .ok x w2

theorem OkMono.pure {α : Type} (P : Program) (x : α) : OkMono P (Sem.pure x) := fun w y w' h => by
  simp only [Sem.run] at h
  cases h
  exact ⟨rfl, fun w2 _ => rfl⟩
theorem OkMono.halt {α : Type} (P : Program) (x : Halt) : OkMono P (Sem.halt x : Sem α) := fun w y w' h => by
  simp only [Sem.run] at h
  cases h
theorem OkMono.load {α : Type} {P : Program} {m : Mode} {a : Addr} {k : Value → Sem α} (hk : ∀ v, OkMono P (k v)) : OkMono P (.load m a k) := fun w x w' h => by
  simp only [Sem.run] at h ⊢
  cases hc : w.cell? a with
  | some v =>
    rw [hc] at h
    obtain ⟨e, hh⟩ := hk v w x w' h
    exact ⟨e, fun w2 h2 => by rw [h2.cell hc]; exact hh w2 h2⟩
  | none =>
    rw [hc] at h
    cases hf : w.farLoad P a (m == .atomic) with
    | error e => rw [hf] at h; cases h
    | ok r =>
      obtain ⟨v, l⟩ := r
      rw [hf] at h
      obtain ⟨e, hh⟩ := hk v w x w' h
      refine ⟨e, fun w2 h2 => ?_⟩
      have hf2 := h2.farLoad hf
      cases hc2 : w2.cell? a with
      | none => simp only [hf2]; exact hh w2 h2
      | some u =>
        exfalso
        unfold World.farLoad at hf2
        unfold World.cell? at hc2
        cases hb : w2.heap[a.block]? with
        | none => rw [hb] at hc2; cases hc2
        | some o =>
          rw [hb] at hc2 hf2
          cases o <;> simp only at hc2 hf2 <;> first | (cases hc2; done) | (cases hf2; done)
theorem OkMono.program {α : Type} {P : Program} {k : Program → Sem α} (hk : ∀ p, OkMono P (k p)) : OkMono P (.program k) := fun w x w' h => by
  simp only [Sem.run] at h ⊢
  exact hk P w x w' h
theorem OkMono.bind {α β : Type} {P : Program} {s : Sem α} {f : α → Sem β} (hs : OkMono P s) (hf : ∀ x, OkMono P (f x)) : OkMono P (s >>= f) := fun w x w' h => by
  simp only [Sem.run_bind] at h ⊢
  cases hr : s.run P w with
  | halt e w1 => rw [hr] at h; cases h
  | ok y w1 =>
    rw [hr] at h
    obtain ⟨rfl, h1⟩ := hs w y w1 hr
    simp only [Result.andThen] at h
    obtain ⟨e, h2⟩ := hf y _ x w' h
    exact ⟨e, fun w2 hw => by rw [h1 w2 hw]; exact h2 w2 hw⟩

theorem OkMono.typeInfo (P : Program) (t : TypeId) : OkMono P (typeInfo t) := by
  unfold Go.typeInfo Go.program
  refine OkMono.bind (OkMono.program fun p => OkMono.pure P p) fun p => ?_
  split
  · exact OkMono.pure _ _
  · exact OkMono.halt _ _
theorem OkMono.underlying (P : Program) (t : TypeId) : OkMono P (underlying t) := by
  unfold Go.underlying Go.program
  refine OkMono.bind (OkMono.program fun p => OkMono.pure P p) fun p => ?_
  split
  · exact OkMono.pure _ _
  · exact OkMono.halt _ _
theorem OkMono.sizeOf (P : Program) (t : TypeId) : OkMono P (sizeOf t) := by
  unfold Go.sizeOf
  exact OkMono.bind (OkMono.typeInfo P t) fun _ => OkMono.pure _ _
theorem OkMono.isAgg (P : Program) (t : TypeId) : OkMono P (isAgg t) := by
  unfold Go.isAgg
  refine OkMono.bind (OkMono.underlying P t) fun _ => ?_
  split <;> exact OkMono.pure _ _
theorem OkMono.loadCellsFrom (P : Program) (a : Addr) : ∀ (n i : Nat) (acc : Array Value), OkMono P (loadCellsFrom a i n acc)
  | 0, _, _ => OkMono.pure _ _
  | n + 1, i, acc => by
    unfold Go.loadCellsFrom
    exact OkMono.bind (OkMono.load fun v => OkMono.pure P v) fun v => OkMono.loadCellsFrom P a n (i + 1) (acc.push v)
theorem OkMono.loadVar (P : Program) (t : TypeId) (a : Addr) : OkMono P (loadVar t a) := by
  unfold Go.loadVar
  refine OkMono.bind (OkMono.isAgg P t) fun b => ?_
  split
  · exact OkMono.bind (OkMono.sizeOf P t) fun n => OkMono.bind (OkMono.loadCellsFrom P a n 0 #[]) fun _ => OkMono.pure _ _
  · exact OkMono.load fun v => OkMono.pure P v
theorem OkMono.loadAt (P : Program) (t : TypeId) (v : Value) : OkMono P (Instr.loadAt t v) := by
  unfold Instr.loadAt
  refine OkMono.bind ?_ fun a => OkMono.loadVar P t a
  unfold Instr.sureAddr
  split
  · exact OkMono.pure _ _
  · exact OkMono.halt _ _

/-- where it runs to an end all that was there is there still -/
def OkExt {α : Type} (P : Program) (s : Sem α) : Prop := ∀ w x w', s.run P w = .ok x w' → Ext w w'
theorem OkMono.ext {α : Type} {P : Program} {s : Sem α} (h : OkMono P s) : OkExt P s := fun w x w' hr => by
  obtain ⟨rfl, _⟩ := h w x w' hr
  exact Ext.refl _
theorem OkExt.bind {α β : Type} {P : Program} {s : Sem α} {f : α → Sem β} (hs : OkExt P s) (hf : ∀ x, OkExt P (f x)) : OkExt P (s >>= f) := fun w x w' h => by
  simp only [Sem.run_bind] at h
  cases hr : s.run P w with
  | halt e w1 => rw [hr] at h; cases h
  | ok y w1 =>
    rw [hr] at h
    simp only [Result.andThen] at h
    exact (hs w y w1 hr).trans (hf y w1 x w' h)
theorem OkExt.newRow (P : Program) (t : TypeId) (cs : Array Value) : OkExt P (newRow t cs) := by
  unfold Go.newRow Go.newObj
  refine OkExt.bind (fun w x w' h => ?_) fun _ => (OkMono.pure _ _).ext
  simp only [Sem.run] at h
  cases h
  exact Ext.push w _
theorem OkExt.newVar (P : Program) (t : TypeId) (v : Value) : OkExt P (newVar t v) := OkExt.newRow P t _
theorem OkExt.zeroValue (P : Program) (t : TypeId) : OkExt P (zeroValue t) := by
  unfold Go.zeroValue
  refine OkExt.bind (OkMono.typeInfo P t).ext fun i => ?_
  split
  · exact (OkMono.pure _ _).ext
  · exact (OkMono.halt _ _).ext
theorem OkExt.alloc (P : Program) (t : TypeId) : OkExt P (Instr.alloc t true (.tuple #[])) := by
  unfold Instr.alloc
  refine OkExt.bind (OkExt.zeroValue P t) fun z => ?_
  exact OkExt.bind (OkExt.newVar P t z) fun _ => (OkMono.pure _ _).ext
theorem OkExt.box (P : Program) (t : TypeId) (v : Value) : OkExt P (Instr.box t v) := by
  unfold Instr.box
  exact OkExt.bind (OkExt.newVar P t v) fun _ => (OkMono.pure _ _).ext
theorem OkExt.buildSlice (P : Program) (t : TypeId) (n : Nat) (ps : Array (Nat × Value)) : OkExt P (Instr.buildSlice t n ps) := by
  unfold Instr.buildSlice
  repeat' (first
    | exact (OkMono.pure _ _).ext
    | exact (OkMono.halt _ _).ext
    | exact (OkMono.underlying P _).ext
    | exact (OkMono.sizeOf P _).ext
    | exact OkExt.zeroValue P _
    | exact OkExt.newRow P _ _
    | (refine OkExt.bind ?_ fun _ => ?_)
    | split
    | (dsimp only; split))

/-! ## The steps -/

/-- nothing but an end by itself serves -/
def NoQ : Exit → Act → World → Prop := fun _ _ _ => False
theorem noQ_lets : ¬ LetsOut NoQ := fun ⟨_, _, h⟩ => h

/-- what an operation may have done to the frame -/
def Put (d : Option Tmp) (a a' : Act) : Prop := ∃ (u : Value) (ds : List Deferred), a' = ({ a with defers := ds } : Act).put d u

section
variable {P : Program} {ops : Array Oper}

theorem put_with (a : Act) (d : Option Tmp) (v : Value) (ds : List Deferred) : ({ a.put d v with defers := ds } : Act) = ({ a with defers := ds } : Act).put d v := by
  cases d <;> rfl

/-- whatever it comes to, as a deed -/
theorem wp_know {o : Oper} {a : Act} {w : World} {K : Act → World → Prop} (h : o.wp P a w K NoQ) : o.wp P a w (fun a' w' => Put o.dst a a' ∧ K a' w') NoQ := by
  unfold Oper.wp at *
  generalize (execOp a.eval o).run P w = r at *
  cases r with
  | ok n w1 =>
    cases n <;> simp only [Oper.upon] at h ⊢
    case value u => exact ⟨⟨u, a.defers, rfl⟩, h⟩
    case skip => exact ⟨⟨undef, a.defers, rfl⟩, h⟩
    case defer d => exact ⟨⟨undef, _, rfl⟩, h⟩
    case enter f args =>
      refine Calls.mono h fun e w2 he => ?_
      cases e with
      | returned u => exact ⟨⟨u, a.defers, rfl⟩, he⟩
      | panicked c => exact he
      | outgrown => exact he
    case row row args => exact Rows.mono h fun u w2 he => ⟨⟨u, a.defers, rfl⟩, he⟩
  | halt x w1 =>
    cases x <;> simp only [Oper.upon] at h ⊢
    exact h

theorem wp_some {o : Oper} {a : Act} {w : World} {K : Act → World → Prop} (h : o.wp P a w K NoQ) : ∃ a' w', Put o.dst a a' ∧ K a' w' := by
  unfold Oper.wp at h
  generalize (execOp a.eval o).run P w = r at h
  cases r with
  | ok n w1 =>
    cases n <;> simp only [Oper.upon] at h
    case value u => exact ⟨_, _, ⟨u, a.defers, rfl⟩, h⟩
    case skip => exact ⟨_, _, ⟨undef, a.defers, rfl⟩, h⟩
    case defer d => exact ⟨_, _, ⟨undef, _, rfl⟩, h⟩
    case enter f args =>
      obtain ⟨e, w2, fr, he, _⟩ := h []
      cases e with
      | returned u => exact ⟨_, _, ⟨u, a.defers, rfl⟩, he⟩
      | panicked c => exact he.elim
      | outgrown => exact (noQ_lets he).elim
    case row row args =>
      obtain ⟨u, w2, he, _⟩ := h default []
      exact ⟨_, _, ⟨u, a.defers, rfl⟩, he⟩
  | halt x w1 =>
    cases x <;> simp only [Oper.upon] at h
    exact h.elim

/-- an operation that looks at nothing of what was put -/
theorem wp_put_iff {o : Oper} (hs : ∀ cs b, o.op ≠ .select cs b) {a : Act} {d : Option Tmp} {v : Value} {w : World} {K : Act → World → Prop}
    (h1 : ∀ t, d = some t → t ∉ o.looksAt ops) (h2 : ∀ t, d = some t → o.dst ≠ some t) :
    o.wp P (a.put d v) w K NoQ ↔ o.wp P a w (fun a' w' => K (a'.put d v) w') NoQ := by
  unfold Oper.wp
  rw [execOp_put o hs a d v h1]
  generalize (execOp a.eval o).run P w = r
  cases r with
  | ok n w1 =>
    cases n <;> simp only [Oper.upon]
    case value u => rw [Act.put_comm a v u h2]
    case skip => rw [Act.put_comm a v undef h2]
    case defer x => rw [Act.put_defers, Act.put_comm _ v undef h2]
    case enter f args =>
      constructor
      · exact fun h => Calls.mono h fun e w2 he => by
          cases e with
          | returned u => show K ((a.put o.dst u).put d v) w2; rw [← Act.put_comm a v u h2]; exact he
          | panicked c => exact he
          | outgrown => exact he
      · exact fun h => Calls.mono h fun e w2 he => by
          cases e with
          | returned u => show K ((a.put d v).put o.dst u) w2; rw [Act.put_comm a v u h2]; exact he
          | panicked c => exact he
          | outgrown => exact he
    case row row args =>
      constructor
      · exact fun h => Rows.mono h fun u w2 he => by rw [← Act.put_comm a v u h2]; exact he
      · exact fun h => Rows.mono h fun u w2 he => by rw [Act.put_comm a v u h2]; exact he
  | halt x w1 => cases x <;> simp only [Oper.upon] <;> exact Iff.rfl

theorem wp_noQ {o : Oper} {a : Act} {w : World} {K : Act → World → Prop} {Q : Exit → Act → World → Prop} (h : o.wp P a w K NoQ) : o.wp P a w K Q := by
  unfold Oper.wp at *
  generalize (execOp a.eval o).run P w = r at *
  cases r with
  | ok n w1 =>
    cases n <;> simp only [Oper.upon] at h ⊢ <;> first | exact h | skip
    case enter f args =>
      refine Calls.mono h fun e w2 he => ?_
      cases e with
      | returned u => exact he
      | panicked c => exact he.elim
      | outgrown => exact (noQ_lets he).elim
  | halt x w1 =>
    cases x <;> simp only [Oper.upon] at h ⊢
    exact h.elim

/-- it yields 'v', and leaves the world as it is -/
def StillAt (P : Program) (o : Oper) (ρ : Operand → Value) (w : World) (v : Value) : Prop :=
  match (execOp ρ o).run P w with
  | .ok (.value u) w' => u = v ∧ w' = w
  | .ok .skip w' => undef = v ∧ w' = w
  | .ok (.enter f args) w' => w' = w ∧ Calls P f args w (fun e w'' => e = .returned v ∧ w'' = w)
  | _ => False

def isLoad (o : Oper) : Bool := match o.op with
  | .load _ _ => true
  | _ => false

theorem StillAt.wp {o : Oper} {a : Act} {w : World} {v : Value} (h : StillAt P o a.eval w v) {K : Act → World → Prop} (hK : K (a.put o.dst v) w) : o.wp P a w K NoQ := by
  unfold StillAt at h
  unfold Oper.wp
  generalize (execOp a.eval o).run P w = r at *
  cases r with
  | ok n w1 =>
    cases n <;> simp only [Oper.upon] at h ⊢ <;> try (exact h.elim)
    case value u => obtain ⟨rfl, rfl⟩ := h; exact hK
    case skip => obtain ⟨rfl, rfl⟩ := h; exact hK
    case enter f args =>
      obtain ⟨rfl, hc⟩ := h
      refine hc.mono fun e w2 ⟨he, hw⟩ => ?_
      subst he; subst hw
      exact hK
  | halt x w1 => simp only at h

theorem StillAt.one {o : Oper} (ho : isLoad o = true) {ρ : Operand → Value} {w : World} {u v : Value} (h : StillAt P o ρ w u) (k : StillAt P o ρ w v) : u = v := by
  obtain ⟨dst, op, type, pos, after, guard⟩ := o
  cases op <;> simp only [isLoad] at ho <;> first | (cases ho; done) | skip
  rename_i t x
  unfold StillAt execOp at h k
  simp only [Sem.run_bind] at h k
  cases hl : (Instr.loadAt t (ρ x)).run P w with
  | halt _ _ => rw [hl] at h; exact h.elim
  | ok y w2 =>
    rw [hl] at h k
    simp only [Result.andThen, Sem.run_pure] at h k
    exact h.1.symm.trans k.1

/-- one operation, by its kind: 0 yields one value in whatever world; 1 loads; 2 makes new memory; 5 yields one value, and changes nothing, in every world of which S holds; 6 keeps S; any other: any deed -/
def stepK (P : Program) (ops : Array Oper) (ks : Array Nat) (S : World → Prop) (i : Nat) (K : Act → World → Prop) (a : Act) (w : World) : Prop :=
  match ops[i]? with
  | none => K a w
  | some o =>
    if Region.wanted o (yielded ops a.tmps) = true then
      if ks.getD i 3 = 0 then ∃ v, (∀ w', (execOp a.eval o).run P w' = .ok (.value v) w') ∧ K (a.put o.dst v) w
      else if ks.getD i 3 = 5 then S w ∧ ∃ v, (∀ w', S w' → StillAt P o a.eval w' v) ∧ K (a.put o.dst v) w
      else if ks.getD i 3 = 6 then S w ∧ o.wp P a w (fun a' w' => S w' ∧ K a' w') NoQ
      else o.wp P a w K NoQ
    else K (a.put o.dst undef) w

section
variable {ks : Array Nat} {S : World → Prop} {i : Nat} {o : Oper} {K : Act → World → Prop} {a : Act} {w : World}
theorem stepK_none (hi : ops[i]? = none) : stepK P ops ks S i K a w = K a w := by simp only [stepK, hi]
theorem stepK_not (hi : ops[i]? = some o) (hw : ¬ Region.wanted o (yielded ops a.tmps) = true) : stepK P ops ks S i K a w = K (a.put o.dst undef) w := by
  simp only [stepK, hi, if_neg hw]
theorem stepK_0 (hi : ops[i]? = some o) (hw : Region.wanted o (yielded ops a.tmps) = true) (hk : ks.getD i 3 = 0) :
    stepK P ops ks S i K a w = ∃ v, (∀ w', (execOp a.eval o).run P w' = .ok (.value v) w') ∧ K (a.put o.dst v) w := by
  simp only [stepK, hi, if_pos hw, if_pos hk]
theorem stepK_5 (hi : ops[i]? = some o) (hw : Region.wanted o (yielded ops a.tmps) = true) (hk : ks.getD i 3 = 5) :
    stepK P ops ks S i K a w = (S w ∧ ∃ v, (∀ w', S w' → StillAt P o a.eval w' v) ∧ K (a.put o.dst v) w) := by
  simp only [stepK, hi, if_pos hw, if_neg (show ¬ ks.getD i 3 = 0 by omega), if_pos hk]
theorem stepK_6 (hi : ops[i]? = some o) (hw : Region.wanted o (yielded ops a.tmps) = true) (hk : ks.getD i 3 = 6) :
    stepK P ops ks S i K a w = (S w ∧ o.wp P a w (fun a' w' => S w' ∧ K a' w') NoQ) := by
  simp only [stepK, hi, if_pos hw, if_neg (show ¬ ks.getD i 3 = 0 by omega), if_neg (show ¬ ks.getD i 3 = 5 by omega), if_pos hk]
theorem stepK_else (hi : ops[i]? = some o) (hw : Region.wanted o (yielded ops a.tmps) = true) (h0 : ¬ ks.getD i 3 = 0) (h5 : ¬ ks.getD i 3 = 5) (h6 : ¬ ks.getD i 3 = 6) :
    stepK P ops ks S i K a w = o.wp P a w K NoQ := by
  simp only [stepK, hi, if_pos hw, if_neg h0, if_neg h5, if_neg h6]
end

theorem stepK_mono {ks : Array Nat} {S : World → Prop} {i : Nat} {K K' : Act → World → Prop} {a : Act} {w : World} (h : ∀ a w, K a w → K' a w) (hh : stepK P ops ks S i K a w) : stepK P ops ks S i K' a w := by
  cases ho : ops[i]? with
  | none => rw [stepK_none ho] at hh ⊢; exact h _ _ hh
  | some o =>
    by_cases hw : Region.wanted o (yielded ops a.tmps) = true
    · by_cases h0 : ks.getD i 3 = 0
      · rw [stepK_0 ho hw h0] at hh ⊢
        obtain ⟨v, h1, h2⟩ := hh
        exact ⟨v, h1, h _ _ h2⟩
      · by_cases h5 : ks.getD i 3 = 5
        · rw [stepK_5 ho hw h5] at hh ⊢
          obtain ⟨hs, v, h1, h2⟩ := hh
          exact ⟨hs, v, h1, h _ _ h2⟩
        · by_cases h6 : ks.getD i 3 = 6
          · rw [stepK_6 ho hw h6] at hh ⊢
            exact ⟨hh.1, Oper.wp_mono (fun a' w' ⟨s, k⟩ => ⟨s, h _ _ k⟩) hh.2⟩
          · rw [stepK_else ho hw h0 h5 h6] at hh ⊢
            exact Oper.wp_mono h hh
    · rw [stepK_not ho hw] at hh ⊢; exact h _ _ hh

theorem wpOp_of_stepK {ks : Array Nat} {S : World → Prop} {i : Nat} {K : Act → World → Prop} {Q : Exit → Act → World → Prop} {a : Act} {w : World} (hh : stepK P ops ks S i K a w) : wpOp P ops Q i K a w := by
  unfold wpOp
  cases ho : ops[i]? with
  | none => rw [stepK_none ho] at hh; exact hh
  | some o =>
    simp only
    by_cases hw : Region.wanted o (yielded ops a.tmps) = true
    · rw [if_pos hw]
      refine .inl ?_
      by_cases h0 : ks.getD i 3 = 0
      · rw [stepK_0 ho hw h0] at hh
        obtain ⟨v, h1, h2⟩ := hh
        unfold Oper.wp
        rw [h1]
        exact h2
      · by_cases h5 : ks.getD i 3 = 5
        · rw [stepK_5 ho hw h5] at hh
          obtain ⟨hs, v, h1, h2⟩ := hh
          exact wp_noQ ((h1 w hs).wp h2)
        · by_cases h6 : ks.getD i 3 = 6
          · rw [stepK_6 ho hw h6] at hh
            exact wp_noQ (Oper.wp_mono (fun a' w' ⟨_, k⟩ => k) hh.2)
          · rw [stepK_else ho hw h0 h5 h6] at hh
            exact wp_noQ hh
    · rw [stepK_not ho hw] at hh
      rw [if_neg hw]
      exact hh

theorem wanted_know {oi oj : Oper} {a a' : Act} (h : ∀ d, oj.dst = some d → d ∉ oi.looksAt ops) (hp : Put oj.dst a a') :
    Region.wanted oi (yielded ops a'.tmps) = Region.wanted oi (yielded ops a.tmps) := by
  obtain ⟨u, ds, rfl⟩ := hp
  exact wanted_put (ops := ops) oi { a with defers := ds } oj.dst u h
theorem exec_know {oi oj : Oper} (hs : ∀ cs b, oi.op ≠ .select cs b) {a a' : Act} (h : ∀ d, oj.dst = some d → d ∉ oi.looksAt ops) (hp : Put oj.dst a a') :
    execOp a'.eval oi = execOp a.eval oi := by
  obtain ⟨u, ds, rfl⟩ := hp
  exact execOp_put (ops := ops) oi hs { a with defers := ds } oj.dst u h
theorem still_know {oi oj : Oper} (hs : ∀ cs b, oi.op ≠ .select cs b) {a a' : Act} (h : ∀ d, oj.dst = some d → d ∉ oi.looksAt ops) (hp : Put oj.dst a a') {w : World} {v : Value} :
    StillAt P oi a'.eval w v ↔ StillAt P oi a.eval w v := by
  unfold StillAt
  rw [exec_know (ops := ops) hs h hp]

/-- the kinds that are asked of an operation's form -/
def kindOk (o : Oper) (k : Nat) : Bool :=
  match k, o.op with
  | 0, _ => true
  | 1, .load _ _ => true
  | 2, .alloc _ | 2, .box _ _ | 2, .buildSlice _ _ _ => true
  | 1, _ | 2, _ => false
  | _, _ => true

theorem load_runs {o : Oper} (h : kindOk o 1 = true) {a : Act} {w : World} {K : Act → World → Prop} (hh : o.wp P a w K NoQ) :
    ∃ v, K (a.put o.dst v) w ∧ ∀ w2, Ext w w2 → (execOp a.eval o).run P w2 = .ok (.value v) w2 := by
  obtain ⟨dst, op, type, pos, after, guard⟩ := o
  cases op <;> simp only [kindOk] at h <;> first | (cases h; done) | skip
  rename_i t x
  unfold Oper.wp at hh
  have hm : OkMono P (execOp a.eval ⟨dst, .load t x, type, pos, after, guard⟩) := by
    unfold execOp
    exact OkMono.bind (OkMono.loadAt P t _) fun _ => OkMono.pure _ _
  cases hr : (execOp a.eval ⟨dst, .load t x, type, pos, after, guard⟩).run P w with
  | halt x w1 =>
    rw [hr] at hh
    cases x <;> simp only [Oper.upon] at hh
    exact hh.elim
  | ok n w1 =>
    obtain ⟨rfl, h2⟩ := hm w n w1 hr
    have hv : ∃ v, n = .value v := by
      unfold execOp at hr
      simp only [Sem.run_bind] at hr
      cases hl : (Instr.loadAt t (a.eval x)).run P w1 with
      | halt _ _ => rw [hl] at hr; cases hr
      | ok v w2 =>
        rw [hl] at hr
        simp only [Result.andThen, Sem.run_pure] at hr
        cases hr
        exact ⟨v, rfl⟩
    obtain ⟨v, rfl⟩ := hv
    rw [hr] at hh
    exact ⟨v, hh, h2⟩

theorem make_ext {o : Oper} (h : kindOk o 2 = true) {a : Act} {w : World} {K : Act → World → Prop} (hh : o.wp P a w K NoQ) :
    o.wp P a w (fun a' w' => Ext w w' ∧ Put o.dst a a' ∧ K a' w') NoQ := by
  obtain ⟨dst, op, type, pos, after, guard⟩ := o
  have key : ∀ s : Sem Value, OkExt P s → execOp a.eval ⟨dst, op, type, pos, after, guard⟩ = (do let x ← s; Pure.pure (Next.value x)) →
      Oper.wp P ⟨dst, op, type, pos, after, guard⟩ a w (fun a' w' => Ext w w' ∧ Put dst a a' ∧ K a' w') NoQ := by
    intro s hs he
    unfold Oper.wp at *
    rw [he] at hh ⊢
    simp only [Sem.run_bind] at hh ⊢
    cases hr : s.run P w with
    | halt x w1 =>
      rw [hr] at hh
      simp only [Result.andThen] at hh ⊢
      cases x <;> simp only [Oper.upon] at hh ⊢
      exact hh
    | ok v w1 =>
      rw [hr] at hh
      simp only [Result.andThen, Sem.run_pure, Oper.upon] at hh ⊢
      exact ⟨hs w v w1 hr, ⟨v, a.defers, rfl⟩, hh⟩
  cases op <;> simp only [kindOk] at h <;> first | (cases h; done) | skip
  · exact key _ (OkExt.alloc P _) rfl
  · exact key _ (OkExt.box P _ _) rfl
  · exact key _ (OkExt.buildSlice P _ _ _) rfl

/-- which two may change places: the first one of kind k, the second one of kind l; is the second one a load? -/
def pairOk (k l : Nat) (ld : Bool) : Bool := k == 0 || l == 0 || (k == 1 && (l == 1 || l == 2 || l == 5)) || (k == 5 && (l == 1 || l == 5 || l == 6)) || (k == 6 && l == 5 && ld)

theorem swap {ks : Array Nat} {S : World → Prop} {i j : Nat} {oi oj : Oper} (hi : ops[i]? = some oi) (hj : ops[j]? = some oj)
    (hsi : ∀ cs b, oi.op ≠ .select cs b) (hsj : ∀ cs b, oj.op ≠ .select cs b) (hap : oi.apart ops oj = true)
    (hki : kindOk oi (ks.getD i 3) = true) (hkj : kindOk oj (ks.getD j 3) = true) (hp : pairOk (ks.getD i 3) (ks.getD j 3) (isLoad oj) = true)
    {K : Act → World → Prop} {a : Act} {w : World} (h : stepK P ops ks S i (stepK P ops ks S j K) a w) : stepK P ops ks S j (stepK P ops ks S i K) a w := by
  obtain ⟨h1, h2, h3⟩ := Oper.apart_spec hap
  have h2' : ∀ d, oj.dst = some d → oi.dst ≠ some d := fun d hd he => h2 d he hd
  generalize hki' : ks.getD i 3 = ki at *
  generalize hkj' : ks.getD j 3 = kj at *
  -- 'i' puts one and the same: what is put waits behind 'j'
  have late : ∀ (v : Value), stepK P ops ks S j K (a.put oi.dst v) w →
      (∀ a' w', Put oj.dst a a' → (kj = 0 ∨ kj = 1 ∨ kj = 5 → w' = w) → (kj = 2 → Ext w w') → (kj = 6 → S w') → K (a'.put oi.dst v) w' → stepK P ops ks S i K a' w') →
      (∀ a', Put oj.dst a a' → K (a'.put oi.dst v) w → stepK P ops ks S i K a' w) →
      stepK P ops ks S j (stepK P ops ks S i K) a w := by
    intro v hv hdo hdo'
    by_cases hw : Region.wanted oj (yielded ops a.tmps) = true
    · have hw' : Region.wanted oj (yielded ops (a.put oi.dst v).tmps) = true := by rw [wanted_put oj a oi.dst v h1]; exact hw
      by_cases hk0 : kj = 0
      · rw [stepK_0 hj hw' (hkj'.trans hk0)] at hv
        rw [stepK_0 hj hw (hkj'.trans hk0)]
        rw [execOp_put oj hsj a oi.dst v h1] at hv
        obtain ⟨u, hu, hK⟩ := hv
        refine ⟨u, hu, hdo _ _ ⟨u, a.defers, rfl⟩ (fun _ => rfl) (fun _ => Ext.refl _) (fun e => by omega) ?_⟩
        rw [← Act.put_comm a v u h2]; exact hK
      · by_cases hk5 : kj = 5
        · rw [stepK_5 hj hw' (hkj'.trans hk5)] at hv
          rw [stepK_5 hj hw (hkj'.trans hk5)]
          obtain ⟨hs, u, hu, hK⟩ := hv
          refine ⟨hs, u, fun w' hS => ?_, hdo _ _ ⟨u, a.defers, rfl⟩ (fun _ => rfl) (fun _ => Ext.refl _) (fun e => by omega) ?_⟩
          · have := hu w' hS
            unfold StillAt at this ⊢
            rw [execOp_put oj hsj a oi.dst v h1] at this
            exact this
          · rw [← Act.put_comm a v u h2]; exact hK
        · by_cases hk6 : kj = 6
          · rw [stepK_6 hj hw' (hkj'.trans hk6)] at hv
            rw [stepK_6 hj hw (hkj'.trans hk6)]
            obtain ⟨hs, hv⟩ := hv
            rw [wp_put_iff (ops := ops) hsj h1 h2] at hv
            exact ⟨hs, Oper.wp_mono (fun a' w' ⟨p, s, k⟩ => ⟨s, hdo a' w' p (fun e => by omega) (fun e => by omega) (fun _ => s) k⟩) (wp_know hv)⟩
          · rw [stepK_else hj hw' (by omega) (by omega) (by omega)] at hv
            rw [stepK_else hj hw (by omega) (by omega) (by omega)]
            rw [wp_put_iff (ops := ops) hsj h1 h2] at hv
            by_cases hk1 : kj = 1
            · rw [hk1] at hkj
              obtain ⟨u, hK, hr⟩ := load_runs hkj hv
              unfold Oper.wp
              rw [hr w (Ext.refl w)]
              exact hdo _ _ ⟨u, a.defers, rfl⟩ (fun _ => rfl) (fun _ => Ext.refl _) (fun e => by omega) hK
            · by_cases hk2 : kj = 2
              · rw [hk2] at hkj
                exact Oper.wp_mono (fun a' w' ⟨e, p, k⟩ => hdo a' w' p (fun e0 => by omega) (fun _ => e) (fun e => by omega) k) (make_ext hkj hv)
              · exact Oper.wp_mono (fun a' w' ⟨p, k⟩ => hdo a' w' p (fun e0 => by omega) (fun e2 => by omega) (fun e => by omega) k) (wp_know hv)
    · have hw' : ¬ Region.wanted oj (yielded ops (a.put oi.dst v).tmps) = true := by rw [wanted_put oj a oi.dst v h1]; exact hw
      rw [stepK_not hj hw'] at hv
      rw [stepK_not hj hw]
      refine hdo' _ ⟨undef, a.defers, rfl⟩ ?_
      rw [← Act.put_comm a v undef h2]; exact hv
  -- 'i' is a deed, 'j' puts one and the same
  have early : ki ≠ 0 → ki ≠ 5 → Region.wanted oi (yielded ops a.tmps) = true → (kj = 0 ∨ (kj = 5 ∧ ki = 6 ∧ isLoad oj = true)) → stepK P ops ks S j (stepK P ops ks S i K) a w := by
    intro hi0 hi5 hwi hkj05
    have h6 : (ki = 6 → S w) ∧ oi.wp P a w (fun a' w' => (ki = 6 → S w') ∧ stepK P ops ks S j K a' w') NoQ := by
      by_cases hk6 : ki = 6
      · rw [stepK_6 hi hwi (hki'.trans hk6)] at h
        exact ⟨fun _ => h.1, Oper.wp_mono (fun a' w' ⟨s, k⟩ => ⟨fun _ => s, k⟩) h.2⟩
      · rw [stepK_else hi hwi (by omega) (by omega) (by omega)] at h
        exact ⟨fun e => absurd e hk6, Oper.wp_mono (fun a' w' k => ⟨fun e => absurd e hk6, k⟩) h⟩
    -- back behind 'i'
    have back : ∀ v, oi.wp P a w (fun a' w' => (ki = 6 → S w') ∧ K (a'.put oj.dst v) w') NoQ → stepK P ops ks S i K (a.put oj.dst v) w := by
      intro v hv
      have hwi' : Region.wanted oi (yielded ops (a.put oj.dst v).tmps) = true := by rw [wanted_put oi a oj.dst v h3]; exact hwi
      by_cases hk6 : ki = 6
      · rw [stepK_6 hi hwi' (hki'.trans hk6), wp_put_iff (ops := ops) hsi h3 h2']
        exact ⟨h6.1 hk6, Oper.wp_mono (fun a' w' ⟨s, k⟩ => ⟨s hk6, k⟩) hv⟩
      · rw [stepK_else hi hwi' (by omega) (by omega) (by omega), wp_put_iff (ops := ops) hsi h3 h2']
        exact Oper.wp_mono (fun a' w' ⟨s, k⟩ => k) hv
    by_cases hwj : Region.wanted oj (yielded ops a.tmps) = true
    · obtain ⟨a1, w1, hp1, hS1, hs1⟩ := wp_some h6.2
      have hw1 : Region.wanted oj (yielded ops a1.tmps) = true := (wanted_know (ops := ops) h1 hp1).trans hwj
      rcases hkj05 with hj0 | ⟨hj5, hi6, hld⟩
      · rw [stepK_0 hj hw1 (hkj'.trans hj0), exec_know (ops := ops) hsj h1 hp1] at hs1
        obtain ⟨v, hv, _⟩ := hs1
        rw [stepK_0 hj hwj (hkj'.trans hj0)]
        refine ⟨v, hv, back v (Oper.wp_mono (fun a2 w2 ⟨hp2, hS2, hs2⟩ => ⟨hS2, ?_⟩) (wp_know h6.2))⟩
        have hw2 : Region.wanted oj (yielded ops a2.tmps) = true := (wanted_know (ops := ops) h1 hp2).trans hwj
        rw [stepK_0 hj hw2 (hkj'.trans hj0), exec_know (ops := ops) hsj h1 hp2] at hs2
        obtain ⟨u, hu, hk⟩ := hs2
        have : u = v := by
          have := (hu w).symm.trans (hv w)
          injection this with this
          injection this
        subst this
        exact hk
      · rw [stepK_5 hj hw1 (hkj'.trans hj5)] at hs1
        obtain ⟨_, v, hv, _⟩ := hs1
        have hv' : ∀ w', S w' → StillAt P oj a.eval w' v := fun w' hS => (still_know (ops := ops) hsj h1 hp1).1 (hv w' hS)
        rw [stepK_5 hj hwj (hkj'.trans hj5)]
        refine ⟨h6.1 hi6, v, hv', back v (Oper.wp_mono (fun a2 w2 ⟨hp2, hS2, hs2⟩ => ⟨hS2, ?_⟩) (wp_know h6.2))⟩
        have hw2 : Region.wanted oj (yielded ops a2.tmps) = true := (wanted_know (ops := ops) h1 hp2).trans hwj
        rw [stepK_5 hj hw2 (hkj'.trans hj5)] at hs2
        obtain ⟨_, u, hu, hk⟩ := hs2
        have hu' : StillAt P oj a.eval w u := (still_know (ops := ops) hsj h1 hp2).1 (hu w (h6.1 hi6))
        have : u = v := StillAt.one hld hu' (hv' w (h6.1 hi6))
        subst this
        exact hk
    · rw [stepK_not hj hwj]
      refine back undef (Oper.wp_mono (fun a2 w2 ⟨hp2, hS2, hs2⟩ => ⟨hS2, ?_⟩) (wp_know h6.2))
      have hw2 : ¬ Region.wanted oj (yielded ops a2.tmps) = true := by rw [wanted_know (ops := ops) h1 hp2]; exact hwj
      rw [stepK_not hj hw2] at hs2
      exact hs2
  simp only [pairOk, Bool.or_eq_true, Bool.and_eq_true, beq_iff_eq] at hp
  by_cases hwi : Region.wanted oi (yielded ops a.tmps) = true
  · by_cases hk0 : ki = 0
    · rw [stepK_0 hi hwi (hki'.trans hk0)] at h
      obtain ⟨v, hv, hK⟩ := h
      have go : ∀ a' w', Put oj.dst a a' → K (a'.put oi.dst v) w' → stepK P ops ks S i K a' w' := fun a' w' hp' hk' => by
        rw [stepK_0 hi ((wanted_know (ops := ops) h3 hp').trans hwi) (hki'.trans hk0), exec_know (ops := ops) hsi h3 hp']
        exact ⟨v, hv, hk'⟩
      exact late v hK (fun a' w' p _ _ _ k => go a' w' p k) (fun a' p k => go a' w p k)
    · by_cases hk5 : ki = 5
      · by_cases hj0 : kj = 0 ∨ kj = 1 ∨ kj = 5 ∨ kj = 6
        · rw [stepK_5 hi hwi (hki'.trans hk5)] at h
          obtain ⟨hs, v, hv, hK⟩ := h
          have go : ∀ a' w', Put oj.dst a a' → S w' → K (a'.put oi.dst v) w' → stepK P ops ks S i K a' w' := fun a' w' hp' hS hk' => by
            rw [stepK_5 hi ((wanted_know (ops := ops) h3 hp').trans hwi) (hki'.trans hk5)]
            exact ⟨hS, v, fun w2 h2S => (still_know (ops := ops) hsi h3 hp').2 (hv w2 h2S), hk'⟩
          refine late v hK (fun a' w' p e1 e2 e6 k => go a' w' p ?_ k) (fun a' p k => go a' w p hs k)
          rcases hj0 with e | e | e | e
          · rw [e1 (.inl e)]; exact hs
          · rw [e1 (.inr (.inl e))]; exact hs
          · rw [e1 (.inr (.inr e))]; exact hs
          · exact e6 e
        · omega
      · by_cases hj0 : kj = 0
        · exact early hk0 hk5 hwi (.inl hj0)
        · by_cases h65 : ki = 6 ∧ kj = 5 ∧ isLoad oj = true
          · exact early hk0 hk5 hwi (.inr ⟨h65.2.1, h65.1, h65.2.2⟩)
          · have hk1 : ki = 1 ∧ (kj = 1 ∨ kj = 2 ∨ kj = 5) := by
              rcases hp with (((hp | hp) | hp) | hp) | hp
              · exact absurd hp hk0
              · exact absurd hp hj0
              · exact ⟨hp.1, by omega⟩
              · exact absurd hp.1 hk5
              · exact absurd ⟨hp.1.1, hp.1.2, hp.2⟩ h65
            obtain ⟨e1, hkj12⟩ := hk1
            rw [stepK_else hi hwi (by omega) (by omega) (by omega)] at h
            rw [e1] at hki
            obtain ⟨v, hK, hr⟩ := load_runs hki h
            have go : ∀ a' w', Put oj.dst a a' → Ext w w' → K (a'.put oi.dst v) w' → stepK P ops ks S i K a' w' := fun a' w' hp' he hk' => by
              rw [stepK_else hi ((wanted_know (ops := ops) h3 hp').trans hwi) (by omega) (by omega) (by omega)]
              unfold Oper.wp
              rw [exec_know (ops := ops) hsi h3 hp', hr w' he]
              exact hk'
            refine late v hK (fun a' w' p f1 f2 _ k => go a' w' p ?_ k) (fun a' p k => go a' w p (Ext.refl _) k)
            rcases hkj12 with e | e | e
            · rw [f1 (.inr (.inl e))]; exact Ext.refl _
            · exact f2 e
            · rw [f1 (.inr (.inr e))]; exact Ext.refl _
  · rw [stepK_not hi hwi] at h
    have go : ∀ a' w', Put oj.dst a a' → K (a'.put oi.dst undef) w' → stepK P ops ks S i K a' w' := fun a' w' hp' hk' => by
      rw [stepK_not hi (by rw [wanted_know (ops := ops) h3 hp']; exact hwi)]
      exact hk'
    exact late undef h (fun a' w' p _ _ _ k => go a' w' p k) (fun a' p k => go a' w p k)

/-! ## All orders -/

/-- the rest, in the order of the text -/
def wpR (P : Program) (ops : Array Oper) (ks : Array Nat) (S : World → Prop) (Q : Exit → Act → World → Prop) : List Nat → Act → World → Prop
  | [], a, w => Q .normal a w
  | i :: rest, a, w => stepK P ops ks S i (wpR P ops ks S Q rest) a w

/-- ahead of which operations must each stand, as bits -/
def maskOf (acc : Array Nat) (o : Oper) : Nat := o.after.toList.foldl (fun s e => if Region.binds .any e then s ||| 2 ^ e.on ||| acc.getD e.on 0 else s) 0
def masks (l : List Oper) : Array Nat := l.foldl (fun acc o => acc.push (maskOf acc o)) #[]

def Closed (ops : Array Oper) (listed : Array Bool) : Prop := ∀ (j : Nat) (o : Oper), ops[j]? = some o → listed.getD j false = true → ∀ e ∈ o.after, Region.binds .any e = true → listed.getD e.on false = true

theorem bits_fold (acc : Array Nat) (i : Nat) : ∀ (es : List Edge) (s : Nat), (es.foldl (fun s e => if Region.binds .any e then s ||| 2 ^ e.on ||| acc.getD e.on 0 else s) s).testBit i = true →
    s.testBit i = true ∨ ∃ e ∈ es, Region.binds .any e = true ∧ (e.on = i ∨ (acc.getD e.on 0).testBit i = true)
  | [], s, h => .inl h
  | e :: es, s, h => by
    simp only [List.foldl_cons] at h
    rcases bits_fold acc i es _ h with h1 | ⟨e', he', h2⟩
    · by_cases hb : Region.binds .any e = true
      · rw [if_pos hb, Nat.testBit_or, Nat.testBit_or, Bool.or_eq_true, Bool.or_eq_true] at h1
        rcases h1 with (h1 | h1) | h1
        · exact .inl h1
        · refine .inr ⟨e, List.mem_cons_self .., hb, .inl ?_⟩
          rw [Nat.testBit_two_pow] at h1
          simpa using h1
        · exact .inr ⟨e, List.mem_cons_self .., hb, .inr h1⟩
      · rw [if_neg hb] at h1
        exact .inl h1
    · exact .inr ⟨e', List.mem_cons_of_mem _ he', h2⟩

/-- what the bits say of every prefix of an order -/
def MaskInv (ops : Array Oper) (acc : Array Nat) : Prop := ∀ (j i : Nat), j < acc.size → (acc.getD j 0).testBit i = true → ∀ listed, Closed ops listed →
  ∀ o, ops[j]? = some o → (∀ e ∈ o.after, Region.binds .any e = true → listed.getD e.on false = true) → listed.getD i false = true

theorem masks_inv (ops : Array Oper) : ∀ (l : List Oper) (acc : Array Nat), (∀ j, l[j]? = ops[acc.size + j]?) → MaskInv ops acc →
    MaskInv ops (l.foldl (fun acc o => acc.push (maskOf acc o)) acc)
  | [], acc, _, h => h
  | o :: l, acc, hl, h => by
    simp only [List.foldl_cons]
    have h0 : ops[acc.size]? = some o := by simpa using (hl 0).symm
    refine masks_inv ops l _ (fun j => by have := hl (j + 1); simpa [Nat.add_assoc, Nat.add_comm 1 j] using this) ?_
    intro j i hj hb listed hc o' ho' hall
    by_cases hlt : j < acc.size
    · refine h j i hlt ?_ listed hc o' ho' hall
      simpa [Array.getD_eq_getD_getElem?, Array.getElem?_push_lt hlt, Array.getElem?_eq_getElem hlt] using hb
    · have hjs : j = acc.size := by simp at hj; omega
      subst hjs
      have : o' = o := Option.some.inj (ho'.symm.trans h0)
      subst this
      have hb' : (maskOf acc o').testBit i = true := by simpa [Array.getD_eq_getD_getElem?] using hb
      rcases bits_fold acc i _ 0 hb' with hz | ⟨e, he, heb, hi⟩
      · simp at hz
      · have hl1 := hall e (by simpa using he) heb
        rcases hi with rfl | hi
        · exact hl1
        · by_cases hes : e.on < acc.size
          · have : e.on < ops.size := by
              have := hl 0
              have h1 := (Array.getElem?_eq_some_iff.1 h0).1
              omega
            have hoe : ops[e.on]? = some ops[e.on] := Array.getElem?_eq_getElem this
            exact h e.on i hes hi listed hc _ hoe (hc e.on _ hoe hl1)
          · rw [Array.getD_eq_getD_getElem?, Array.getElem?_eq_none (by omega)] at hi
            simp at hi

theorem bubble {ks : Array Nat} {S : World → Prop} {Q : Exit → Act → World → Prop} {j : Nat} {oj : Oper} (hj : ops[j]? = some oj) (hsel : Region.noSelect ops = true) (hkj : kindOk oj (ks.getD j 3) = true) :
    ∀ (R : List Nat) (a : Act) (w : World),
      (∀ i ∈ R, ∃ oi, ops[i]? = some oi ∧ kindOk oi (ks.getD i 3) = true ∧ pairOk (ks.getD i 3) (ks.getD j 3) (isLoad oj) = true ∧ oi.apart ops oj = true) →
      ∀ T, wpR P ops ks S Q (R ++ j :: T) a w → stepK P ops ks S j (wpR P ops ks S Q (R ++ T)) a w
  | [], a, w, _, T, h => h
  | i :: R, a, w, hR, T, h => by
    obtain ⟨oi, hoi, hki, hp, hap⟩ := hR i (List.mem_cons_self ..)
    refine swap hoi hj (fun cs b => Region.noSelect_spec hsel i oi cs b hoi) (fun cs b => Region.noSelect_spec hsel j oj cs b hj) hap hki hkj hp ?_
    exact stepK_mono (fun a' w' h' => bubble hj hsel hkj R a' w' (fun k hk => hR k (List.mem_cons_of_mem _ hk)) T h') h

/-! ### A drawn order -/

/-- 'i' stands ahead of 'j' -/
def bef : List Nat → Nat → Nat → Bool
  | [], _, _ => false
  | x :: l, i, j => if x == i then l.contains j else bef l i j

theorem bef_append {i j : Nat} : ∀ {R T : List Nat}, i ∈ R → j ∈ T → bef (R ++ T) i j = true
  | x :: R, T, hi, hj => by
    simp only [List.cons_append, bef]
    by_cases hx : x = i
    · simp [hx, hj]
    · rw [if_neg (by simpa using hx)]
      exact bef_append ((List.mem_cons.1 hi).resolve_left (Ne.symm hx)) hj
theorem bef_insert {i j k : Nat} : ∀ {R T : List Nat}, i ≠ k → bef (R ++ T) i j = true → bef (R ++ k :: T) i j = true
  | [], T, hk, h => by simp only [List.nil_append, bef] at *; rw [if_neg (by simpa using Ne.symm hk)]; exact h
  | x :: R, T, hk, h => by
    simp only [List.cons_append, bef] at *
    by_cases hx : x = i
    · simp only [hx, beq_self_eq_true, if_true, List.contains_eq_mem, List.mem_append, List.mem_cons, decide_eq_true_eq] at *
      rcases h with h | h
      · exact .inl h
      · exact .inr (.inr h)
    · rw [if_neg (by simpa using hx)] at *
      exact bef_insert hk h
theorem bef_mem {i j : Nat} : ∀ {l : List Nat}, bef l i j = true → i ∈ l ∧ j ∈ l
  | x :: l, h => by
    simp only [bef] at h
    by_cases hx : x = i
    · rw [if_pos (by simpa using hx)] at h
      exact ⟨by simp [hx], List.mem_cons_of_mem _ (by simpa using h)⟩
    · rw [if_neg (by simpa using hx)] at h
      have := bef_mem h
      exact ⟨List.mem_cons_of_mem _ this.1, List.mem_cons_of_mem _ this.2⟩
theorem bef_total {i j : Nat} : ∀ {l : List Nat}, i ∈ l → j ∈ l → i ≠ j → bef l i j = true ∨ bef l j i = true
  | x :: l, hi, hj, hne => by
    simp only [bef]
    by_cases hx : x = i
    · left
      have : j ∈ l := (List.mem_cons.1 hj).resolve_left (fun h => hne (hx.symm.trans h.symm))
      simp [hx, this]
    · by_cases hy : x = j
      · right
        have : i ∈ l := (List.mem_cons.1 hi).resolve_left (Ne.symm hx)
        simp [hy, this]
      · rw [if_neg (by simpa using hx), if_neg (by simpa using hy)]
        exact bef_total ((List.mem_cons.1 hi).resolve_left (Ne.symm hx)) ((List.mem_cons.1 hj).resolve_left (Ne.symm hy)) hne
theorem bef_trans {i j k : Nat} : ∀ {l : List Nat}, l.Nodup → bef l i j = true → bef l j k = true → bef l i k = true
  | x :: l, hd, h1, h2 => by
    obtain ⟨hx0, hd'⟩ := List.nodup_cons.1 hd
    simp only [bef] at *
    by_cases hx : x = i
    · rw [if_pos (by simpa using hx)] at h1 ⊢
      by_cases hy : x = j
      · subst hy; exact absurd (by simpa using h1) hx0
      · rw [if_neg (by simpa using hy)] at h2
        simpa using (bef_mem h2).2
    · rw [if_neg (by simpa using hx)] at h1 ⊢
      by_cases hy : x = j
      · subst hy; exact absurd (bef_mem h1).2 hx0
      · rw [if_neg (by simpa using hy)] at h2
        exact bef_trans hd' h1 h2
theorem bef_irrefl {i : Nat} : ∀ {l : List Nat}, l.Nodup → bef l i i = false
  | [], _ => rfl
  | x :: l, hd => by
    obtain ⟨hx0, hd'⟩ := List.nodup_cons.1 hd
    simp only [bef]
    by_cases hx : x = i
    · subst hx; simpa using hx0
    · rw [if_neg (by simpa using hx)]; exact bef_irrefl hd'

/-- an order that may be drawn, from here on -/
def Sched (ops : Array Oper) : Array Bool → List Nat → Prop
  | listed, [] => ∀ i, i < ops.size → listed.getD i false = true
  | listed, j :: τ => j ∈ Region.ready .any ops listed ∧ Sched ops (listed.setIfInBounds j true) τ

theorem ready_lt {listed : Array Bool} {j : Nat} (h : j ∈ Region.ready .any ops listed) : j < ops.size := by
  obtain ⟨_, o, ho, _⟩ := mem_ready.1 h
  exact (Array.getElem?_eq_some_iff.1 ho).1
theorem ready_un {listed : Array Bool} {j : Nat} (hsz : listed.size = ops.size) (h : j ∈ Region.ready .any ops listed) : listed.getD j false = false := by
  have hlt := ready_lt h
  obtain ⟨h0, _⟩ := mem_ready.1 h
  have hl' : j < listed.size := by omega
  simp [Array.getD_eq_getD_getElem?, Array.getElem?_eq_getElem hl'] at h0 ⊢; exact h0

theorem sched_mem : ∀ {τ : List Nat} {listed : Array Bool}, listed.size = ops.size → Sched ops listed τ → ∀ k ∈ τ, k < ops.size ∧ listed.getD k false = false
  | j :: τ, listed, hsz, ⟨hj, hs⟩, k, hk => by
    rcases List.mem_cons.1 hk with rfl | hk
    · exact ⟨ready_lt hj, ready_un hsz hj⟩
    · obtain ⟨h1, h2⟩ := sched_mem (by simpa using hsz) hs k hk
      refine ⟨h1, ?_⟩
      by_cases hkj : j = k
      · subst hkj; exact ready_un hsz hj
      · rwa [getD_set_ne false hkj] at h2
theorem sched_all : ∀ {τ : List Nat} {listed : Array Bool}, listed.size = ops.size → Sched ops listed τ → ∀ k, k < ops.size → listed.getD k false = false → k ∈ τ
  | [], listed, _, hs, k, hk, h => by rw [hs k hk] at h; cases h
  | j :: τ, listed, hsz, ⟨hj, hs⟩, k, hk, h => by
    by_cases hkj : j = k
    · subst hkj; exact List.mem_cons_self ..
    · exact List.mem_cons_of_mem _ (sched_all (by simpa using hsz) hs k hk (by rw [getD_set_ne false hkj]; exact h))
theorem sched_nodup : ∀ {τ : List Nat} {listed : Array Bool}, listed.size = ops.size → Sched ops listed τ → τ.Nodup
  | [], _, _, _ => List.nodup_nil
  | j :: τ, listed, hsz, ⟨hj, hs⟩ => by
    refine List.nodup_cons.2 ⟨fun hm => ?_, sched_nodup (by simpa using hsz) hs⟩
    have := (sched_mem (by simpa using hsz) hs j hm).2
    have hlt := ready_lt hj
    rw [Array.getD_eq_getD_getElem?, Array.getElem?_setIfInBounds_self_of_lt (by omega)] at this
    cases this
theorem closed_set {listed : Array Bool} {j : Nat} (hj : j ∈ Region.ready .any ops listed) (hc : Closed ops listed) : Closed ops (listed.setIfInBounds j true) := by
  obtain ⟨_, oj, hoj, hall⟩ := mem_ready.1 hj
  intro k ok hok hk e he hb
  by_cases hkj : j = k
  · subst hkj
    have : ok = oj := Option.some.inj (hok.symm.trans hoj)
    subst this
    exact getD_set_true (hall e he hb)
  · rw [getD_set_ne false hkj] at hk
    exact getD_set_true (hc k ok hok hk e he hb)
theorem sched_mask {m : Array Nat} (hm : MaskInv ops m) (hms : m.size = ops.size) : ∀ {τ : List Nat} {listed : Array Bool}, listed.size = ops.size → Closed ops listed → Sched ops listed τ →
    ∀ i j, j ∈ τ → (m.getD j 0).testBit i = true → listed.getD i false = true ∨ bef τ i j = true
  | k :: τ, listed, hsz, hc, ⟨hk, hs⟩, i, j, hj, hb => by
    rcases List.mem_cons.1 hj with rfl | hj
    · obtain ⟨_, o, ho, hall⟩ := mem_ready.1 hk
      exact .inl (hm j i (by have := ready_lt hk; omega) hb listed hc o ho hall)
    · rcases sched_mask hm hms (by simpa using hsz) (closed_set hk hc) hs i j hj hb with h | h
      · by_cases hki : k = i
        · right; simp [bef, hki, hj]
        · rw [getD_set_ne false hki] at h; exact .inl h
      · right
        simp only [bef]
        by_cases hki : k = i
        · simp [hki, hj]
        · rw [if_neg (by simpa using hki)]; exact h

def cnt (listed : Array Bool) : Nat := listed.toList.countP (fun b => !b)
theorem cnt_set {listed : Array Bool} {j : Nat} (hj : j < listed.size) (h : listed.getD j false = false) : cnt (listed.setIfInBounds j true) + 1 = cnt listed := by
  unfold cnt
  have hb : listed[j] = false := by simpa [Array.getD_eq_getD_getElem?, hj] using h
  have hpos : 0 < listed.toList.countP (fun b => !b) := List.countP_pos_iff.2 ⟨listed[j], by simp, by simp [hb]⟩
  rw [Array.toList_setIfInBounds, List.countP_set (by simpa using hj)]
  have hj2 : listed.toList[j]'(by simpa using hj) = false := by simpa using hb
  rw [hj2]
  simp only [Bool.not_false, Bool.not_true, if_true, Bool.false_eq_true, if_false, Nat.add_zero]
  omega
theorem cnt_zero {listed : Array Bool} (h : cnt listed = 0) (i : Nat) (hi : i < listed.size) : listed.getD i false = true := by
  unfold cnt at h
  have := List.countP_eq_zero.1 h listed[i] (by simp)
  simpa [Array.getD_eq_getD_getElem?, hi] using this

theorem sched_go (hdown : ∀ (j : Nat) oj, ops[j]? = some oj → ∀ e ∈ oj.after, Region.binds .any e = true → e.on < j) : ∀ (fuel t : Nat) (listed : Array Bool), listed.size = ops.size → cnt listed ≤ fuel →
    Sched ops listed (Region.linearise.go .any ops fuel t listed []) := by
  intro fuel
  induction fuel with
  | zero =>
    intro t listed hsz hc
    simp only [Region.linearise.go, List.reverse_nil]
    exact fun i hi => cnt_zero (by omega) i (by omega)
  | succ fuel ih =>
    intro t listed hsz hc
    simp only [Region.linearise.go]
    change Sched ops listed (match (Region.ready .any ops listed)[t % (Region.ready .any ops listed).length]? with
      | some i => Region.linearise.go .any ops fuel (t / (Region.ready .any ops listed).length) (listed.setIfInBounds i true) [i]
      | none => [].reverse)
    cases hi : (Region.ready .any ops listed)[t % (Region.ready .any ops listed).length]? with
    | none =>
      have hnil : Region.ready .any ops listed = [] := by
        cases hr : Region.ready .any ops listed with
        | nil => rfl
        | cons x xs =>
          rw [hr] at hi
          have hlt : t % (x :: xs).length < (x :: xs).length := Nat.mod_lt _ (by simp)
          simp at hi
          simp at hlt
          omega
      simp only [List.reverse_nil]
      -- the least that is not listed would be ready
      intro i hi'
      cases hl : listed.getD i false with
      | true => rfl
      | false =>
        exfalso
        have : ∀ k, k < ops.size → listed.getD k false = false → False := by
          intro k
          induction k using Nat.strongRecOn with
          | _ k ihk =>
            intro hk hl
            have ho := Array.getElem?_eq_getElem hk
            have hmem : k ∈ Region.ready .any ops listed := by
              refine mem_ready.2 ⟨?_, _, ho, fun e he hb => ?_⟩
              · have hl' : k < listed.size := by omega
                simp [Array.getD_eq_getD_getElem?, Array.getElem?_eq_getElem hl'] at hl ⊢; exact hl
              · have hlt := hdown k _ ho e he hb
                cases hle : listed.getD e.on false with
                | true => rfl
                | false => exact (ihk e.on hlt (by omega) hle).elim
            rw [hnil] at hmem
            cases hmem
        exact this i hi' hl
    | some j =>
      simp only []
      have hj := List.mem_of_getElem? hi
      rw [linearise_go_acc, List.reverse_singleton, List.singleton_append]
      refine ⟨hj, ih _ _ (by simpa using hsz) ?_⟩
      have := cnt_set (listed := listed) (j := j) (by have := ready_lt hj; omega) (ready_un hsz hj)
      omega

/-- may these two change places, the first one ahead of the second? -/
def freeB (ops : Array Oper) (ks : Array Nat) (i j : Nat) : Bool :=
  match ops[i]?, ops[j]? with
  | some oi, some oj => pairOk (ks.getD i 3) (ks.getD j 3) (isLoad oj) && oi.apart ops oj
  | _, _ => false

theorem wpOps_of_wpR {ks : Array Nat} {S : World → Prop} {Q : Exit → Act → World → Prop} (hsel : Region.noSelect ops = true) (hkind : ∀ j oj, ops[j]? = some oj → kindOk oj (ks.getD j 3) = true) :
    ∀ (τ : List Nat) (listed : Array Bool) (L : List Nat) (a : Act) (w : World), listed.size = ops.size → Sched ops listed τ → L.Nodup → (∀ i, i ∈ L ↔ (i < ops.size ∧ listed.getD i false = false)) →
      (∀ i j, bef L i j = true → bef τ j i = true → freeB ops ks i j = true) → wpR P ops ks S Q L a w → wpOps P ops Q τ a w
  | [], listed, L, a, w, hsz, hs, hnd, hL, hag, h => by
    have : L = [] := by
      refine List.eq_nil_iff_forall_not_mem.2 fun i hi => ?_
      obtain ⟨h1, h2⟩ := (hL i).1 hi
      rw [hs i h1] at h2
      cases h2
    subst this
    exact h
  | j :: τ, listed, L, a, w, hsz, ⟨hj, hs⟩, hnd, hL, hag, h => by
    have hjL : j ∈ L := (hL j).2 ⟨ready_lt hj, ready_un hsz hj⟩
    obtain ⟨R, T, rfl⟩ := List.append_of_mem hjL
    obtain ⟨_, oj, hoj, _⟩ := mem_ready.1 hj
    have hsz' : (listed.setIfInBounds j true).size = ops.size := by simpa using hsz
    have hjR : j ∉ R := fun hm => by
      have := (List.nodup_append.1 hnd).2.2 j hm j (List.mem_cons_self ..)
      exact this rfl
    have hjT : j ∉ T := (List.nodup_cons.1 (List.nodup_append.1 hnd).2.1).1
    have hjτ : j ∉ τ := (List.nodup_cons.1 (sched_nodup (listed := listed) hsz (show Sched ops listed (j :: τ) from ⟨hj, hs⟩))).1
    have hstep := bubble (P := P) (ks := ks) (S := S) (Q := Q) hoj hsel (hkind j oj hoj) R a w (fun i hi => by
      have hiL := (hL i).1 (List.mem_append_left _ hi)
      have hij : i ≠ j := fun e => hjR (e ▸ hi)
      have hiτ : i ∈ τ := sched_all hsz' hs i hiL.1 (by rw [getD_set_ne false (Ne.symm hij)]; exact hiL.2)
      have hfr := hag i j (bef_append hi (List.mem_cons_self ..)) (by simp [bef, hiτ])
      have hoi := Array.getElem?_eq_getElem hiL.1
      simp only [freeB, hoi, hoj, Bool.and_eq_true] at hfr
      exact ⟨_, hoi, hkind i _ hoi, hfr.1, hfr.2⟩) T h
    rw [wpOps_cons]
    refine wpOp_of_stepK (stepK_mono (fun a' w' h' => wpOps_of_wpR hsel hkind τ (listed.setIfInBounds j true) (R ++ T) a' w' hsz' hs ?_ ?_ ?_ h') hstep)
    · rw [List.nodup_append] at hnd ⊢
      exact ⟨hnd.1, (List.nodup_cons.1 hnd.2.1).2, fun x hx y hy => hnd.2.2 x hx y (List.mem_cons_of_mem _ hy)⟩
    · intro i
      by_cases hij : i = j
      · subst hij
        constructor
        · intro hm
          rcases List.mem_append.1 hm with hm | hm
          · exact absurd hm hjR
          · exact absurd hm hjT
        · rintro ⟨h1, hf⟩
          exfalso
          have hl' : i < listed.size := by omega
          simp [Array.getD_eq_getD_getElem?, hl'] at hf
      · rw [getD_set_ne false (Ne.symm hij), ← hL i]
        simp only [List.mem_append, List.mem_cons, hij, false_or]
    · intro x y hxy hyx
      have hx : x ≠ j := fun e => by
        subst e
        rcases List.mem_append.1 (bef_mem hxy).1 with hm | hm
        · exact hjR hm
        · exact hjT hm
      have hy : y ≠ j := fun e => by subst e; exact hjτ (bef_mem hyx).1
      refine hag x y (bef_insert hx hxy) ?_
      simp only [bef]
      rw [if_neg (by simpa using Ne.symm hy)]
      exact hyx

/-- is the order 'L' good whichever of 'i', 'j' comes first? -/
def okFor (ops : Array Oper) (ks : Array Nat) (L : List Nat) (i j : Nat) (first : Bool) : Bool :=
  if bef L i j then first || freeB ops ks i j else !first || freeB ops ks j i

/-- every row of so many bools -/
def bools : Nat → List (List Bool)
  | 0 => [[]]
  | n + 1 => (bools n).flatMap fun l => [true :: l, false :: l]
theorem mem_bools : ∀ (l : List Bool), l ∈ bools l.length
  | [] => by simp [bools]
  | b :: l => by
    simp only [bools, List.length_cons, List.mem_flatMap]
    exact ⟨l, mem_bools l, by cases b <;> simp⟩

def reachB (m : Array Nat) (i j : Nat) : Bool := i == j || (m.getD j 0).testBit i

/-- the whole look, by the kernel: 'Ls': orders, each a list of all places -/
def ordersB (l : List Oper) (ks : Array Nat) (Ls : List (List Nat)) : Bool :=
  let ops := l.toArray
  let m := masks l
  let n := l.length
  let un : List (Nat × Nat) := (List.range n).flatMap fun j => ((List.range j).filter fun i => !(m.getD j 0).testBit i).map fun i => (i, j)
  let C := un.filter fun (i, j) => Ls.any fun L => !(okFor ops ks L i j true && okFor ops ks L i j false)
  Region.noSelect ops &&
  (l.zipIdx.all fun (oj, j) => kindOk oj (ks.getD j 3) && (oj.after.all fun e => !Region.binds .any e || decide (e.on < j))) &&
  (Ls.all fun L => decide L.Nodup && ((List.range n).all fun i => L.contains i) && (L.all fun i => decide (i < n)) && (List.range n).all fun j => (List.range j).all fun i => !(m.getD j 0).testBit i || bef L i j) &&
  (bools C.length).all fun σ =>
    (Ls.any fun L => (C.zip σ).all fun (p, b) => okFor ops ks L p.1 p.2 b) ||
    ((C.zip σ).any fun (p, b) => (C.zip σ).any fun (q, c) =>
      let x := if b then p.1 else p.2
      let y := if b then p.2 else p.1
      let u := if c then q.1 else q.2
      let v := if c then q.2 else q.1
      reachB m y u && reachB m v x)

theorem masks_size (l : List Oper) : (masks l).size = l.length := by
  have : ∀ (l : List Oper) (acc : Array Nat), (l.foldl (fun acc o => acc.push (maskOf acc o)) acc).size = acc.size + l.length := by
    intro l
    induction l with
    | nil => intro acc; simp
    | cons o l ih => intro acc; simp [ih]; omega
  unfold masks
  simpa using this l #[]
theorem masks_ok (l : List Oper) : MaskInv l.toArray (masks l) := masks_inv l.toArray l #[] (by simp) (fun j i hj => by simp at hj)

theorem ordersB_spec {l : List Oper} {ks : Array Nat} {Ls : List (List Nat)} (h : ordersB l ks Ls = true) {Q : Exit → Act → World → Prop} {S : World → Prop} {a : Act} {w : World}
    (hL : ∀ L ∈ Ls, wpR P l.toArray ks S Q L a w) (t : Nat) : wpOps P l.toArray Q (Region.linearise .any l.toArray t) a w := by
  simp only [ordersB, Bool.and_eq_true] at h
  obtain ⟨⟨⟨hs, hrow⟩, hLs⟩, hσ⟩ := h
  have at_ : ∀ (j : Nat) oj, l[j]? = some oj → (oj, j) ∈ l.zipIdx := fun j oj hj => by
    rw [List.mem_iff_getElem?]; exact ⟨j, by simp [List.getElem?_zipIdx, hj]⟩
  have row : ∀ (j : Nat) oj, l[j]? = some oj → _ := fun j oj hj => List.all_eq_true.1 hrow (oj, j) (at_ j oj hj)
  simp only [Bool.and_eq_true] at row
  have hkind : ∀ (j : Nat) oj, l.toArray[j]? = some oj → kindOk oj (ks.getD j 3) = true := fun j oj hj => (row j oj (by simpa using hj)).1
  have hdown : ∀ (j : Nat) oj, l.toArray[j]? = some oj → ∀ e ∈ oj.after, Region.binds .any e = true → e.on < j := fun j oj hj e he hb => by
    have := (row j oj (by simpa using hj)).2
    have := Array.all_eq_true_iff_forall_mem.1 this e he
    simpa [hb] using this
  have hgo : Sched l.toArray (Array.replicate l.toArray.size false) (Region.linearise .any l.toArray t) := by
    unfold Region.linearise
    refine sched_go hdown _ t _ (by simp) ?_
    unfold cnt
    have := List.countP_le_length (p := fun b => !b) (l := (Array.replicate l.toArray.size false).toList)
    simpa using this
  have hc0 : Closed l.toArray (Array.replicate l.toArray.size false) := by
    intro j o hj hl
    exfalso
    rcases Nat.lt_or_ge j l.length with hlt | hge
    · simp [Array.getD_eq_getD_getElem?, hlt] at hl
    · simp [Array.getD_eq_getD_getElem?, Nat.not_lt.2 hge] at hl
  have hun : ∀ i, (Array.replicate l.toArray.size false).getD i false = false := fun i => by
    rcases Nat.lt_or_ge i l.length with hlt | hge
    · simp [Array.getD_eq_getD_getElem?, hlt]
    · simp [Array.getD_eq_getD_getElem?, Nat.not_lt.2 hge]
  generalize Region.linearise .any l.toArray t = τ at *
  have hτm : ∀ i j, i < l.length → j < l.length → ((masks l).getD j 0).testBit i = true → bef τ i j = true := fun i j hi hj hb => by
    rcases sched_mask (masks_ok l) (by simpa using masks_size l) (by simp) hc0 hgo i j (sched_all (by simp) hgo j (by simpa using hj) (hun j)) hb with h | h
    · rw [hun] at h; cases h
    · exact h
  have hτd := sched_nodup (by simp) hgo
  have hτall : ∀ i, i < l.length → i ∈ τ := fun i hi => sched_all (by simp) hgo i (by simpa using hi) (hun i)
  generalize hC : (List.filter (fun x : Nat × Nat => Ls.any fun L => !(okFor l.toArray ks L x.1 x.2 true && okFor l.toArray ks L x.1 x.2 false))
      ((List.range l.length).flatMap fun j => ((List.range j).filter fun i => !((masks l).getD j 0).testBit i).map fun i => (i, j))) = C at hσ
  have hCm : ∀ p ∈ C, p.1 < p.2 ∧ p.2 < l.length := fun p hp => by
    rw [← hC] at hp
    obtain ⟨hp, _⟩ := List.mem_filter.1 hp
    obtain ⟨j, hj, hp⟩ := List.mem_flatMap.1 hp
    obtain ⟨i, hi, rfl⟩ := List.mem_map.1 hp
    exact ⟨by simpa using (List.mem_range.1 (List.mem_filter.1 hi).1), by simpa using hj⟩
  have hσ1 := List.all_eq_true.1 hσ (C.map fun p => bef τ p.1 p.2) (by have := mem_bools (C.map fun p => bef τ p.1 p.2); simpa using this)
  have hzip : C.zip (C.map fun p => bef τ p.1 p.2) = C.map fun p => (p, bef τ p.1 p.2) := by
    clear hC hCm hσ hσ1
    induction C with
    | nil => rfl
    | cons p C ih => simp [ih]
  rw [hzip] at hσ1
  simp only [Bool.or_eq_true] at hσ1
  rcases hσ1 with hσ1 | hσ1
  · obtain ⟨L, hLm, hLC⟩ := List.any_eq_true.1 hσ1
    have hLok := List.all_eq_true.1 hLs L hLm
    simp only [Bool.and_eq_true, decide_eq_true_eq] at hLok
    obtain ⟨⟨⟨hnd, hlen⟩, hlt⟩, hmask⟩ := hLok
    have hlt' : ∀ i ∈ L, i < l.length := fun i hi => by simpa using List.all_eq_true.1 hlt i hi
    have hall : ∀ i, i < l.length → i ∈ L := fun i hi => by simpa using List.all_eq_true.1 hlen i (by simpa using hi)
    refine wpOps_of_wpR hs hkind τ _ L a w (by simp) hgo hnd (fun i => ⟨fun hi => ⟨by simpa using hlt' i hi, hun i⟩, fun hi => hall i (by simpa using hi.1)⟩) ?_ (hL L hLm)
    intro i j hij hji
    have hiL := hlt' i (bef_mem hij).1
    have hjL := hlt' j (bef_mem hij).2
    have hne : i ≠ j := fun e => by subst e; rw [bef_irrefl hnd] at hij; cases hij
    have hnij : bef L j i = false := by
      cases hb : bef L j i with
      | false => rfl
      | true => have := bef_trans hnd hij hb; rw [bef_irrefl hnd] at this; cases this
    have hnτ : bef τ i j = false := by
      cases hb : bef τ i j with
      | false => rfl
      | true => have := bef_trans hτd hb hji; rw [bef_irrefl hτd] at this; cases this
    have m1 : ((masks l).getD j 0).testBit i = false := by
      cases hb : ((masks l).getD j 0).testBit i with
      | false => rfl
      | true => rw [hτm i j hiL hjL hb] at hnτ; cases hnτ
    have m2 : i > j → ((masks l).getD i 0).testBit j = false := fun hgt => by
      cases hb : ((masks l).getD i 0).testBit j with
      | false => rfl
      | true =>
        have := List.all_eq_true.1 (List.all_eq_true.1 hmask i (by simpa using hiL)) j (by simpa using hgt)
        rw [hb] at this
        simp only [Bool.not_true, Bool.false_or] at this
        rw [this] at hnij; cases hnij
    have key : ∀ x y, x < y → y < l.length → ((masks l).getD y 0).testBit x = false → ∀ b, bef τ x y = b → okFor l.toArray ks L x y b = true := by
      intro x y hxy hy hb b hbb
      by_cases hin : (x, y) ∈ C
      · have := List.all_eq_true.1 hLC ((x, y), bef τ x y) (List.mem_map.2 ⟨(x, y), hin, rfl⟩)
        rw [← hbb]; exact this
      · have hnot : ¬ (Ls.any fun L => !(okFor l.toArray ks L x y true && okFor l.toArray ks L x y false)) = true := fun hany => hin (by
          rw [← hC]
          refine List.mem_filter.2 ⟨List.mem_flatMap.2 ⟨y, List.mem_range.2 hy, List.mem_map.2 ⟨x, List.mem_filter.2 ⟨List.mem_range.2 hxy, by simp only [hb, Bool.not_false]⟩, rfl⟩⟩, hany⟩)
        have h2 : (okFor l.toArray ks L x y true && okFor l.toArray ks L x y false) = true := by
          cases hb2 : (okFor l.toArray ks L x y true && okFor l.toArray ks L x y false) with
          | true => rfl
          | false => exact absurd (List.any_eq_true.2 ⟨L, hLm, by rw [hb2]; rfl⟩) hnot
        rw [Bool.and_eq_true] at h2
        cases b
        · exact h2.2
        · exact h2.1
    rcases Nat.lt_or_gt_of_ne hne with hlt1 | hgt1
    · have := key i j hlt1 hjL m1 false hnτ
      simpa [okFor, hij] using this
    · have := key j i hgt1 hiL (m2 hgt1) true hji
      simpa [okFor, hnij] using this
  · exfalso
    obtain ⟨⟨p, b⟩, hp, h2⟩ := List.any_eq_true.1 hσ1
    obtain ⟨⟨q, c⟩, hq, h3⟩ := List.any_eq_true.1 h2
    obtain ⟨p', hp', hpe⟩ := List.mem_map.1 hp
    obtain ⟨q', hq', hqe⟩ := List.mem_map.1 hq
    injection hpe with e1 e2
    injection hqe with e3 e4
    subst e1; subst e3
    have bound : ∀ p ∈ C, ∀ b, bef τ p.1 p.2 = b → bef τ (if b then p.1 else p.2) (if b then p.2 else p.1) = true ∧ (if b then p.1 else p.2) < l.length ∧ (if b then p.2 else p.1) < l.length := fun p hp b hb => by
      obtain ⟨h1, h2⟩ := hCm p hp
      cases b
      · refine ⟨?_, by simpa using h2, by simp; omega⟩
        rcases bef_total (hτall p.1 (by omega)) (hτall p.2 h2) (by omega) with h | h
        · rw [h] at hb; cases hb
        · simpa using h
      · exact ⟨by simpa using hb, by simp; omega, by simpa using h2⟩
    obtain ⟨b1, b2, b3⟩ := bound _ hp' b e2
    obtain ⟨c1, c2, c3⟩ := bound _ hq' c e4
    simp only [Bool.and_eq_true] at h3
    have reach : ∀ i j, i < l.length → j < l.length → reachB (masks l) i j = true → i = j ∨ bef τ i j = true := fun i j hi hj h => by
      simp only [reachB, Bool.or_eq_true, beq_iff_eq] at h
      rcases h with h | h
      · exact .inl h
      · exact .inr (hτm i j hi hj h)
    have step1 : bef τ (if b then p'.1 else p'.2) (if c then q'.1 else q'.2) = true := by
      rcases reach _ _ b3 c2 h3.1 with e | e
      · rw [← e]; exact b1
      · exact bef_trans hτd b1 e
    have step2 := bef_trans hτd step1 c1
    have := (by
      rcases reach _ _ c3 b2 h3.2 with e | e
      · rw [e] at step2; exact step2
      · exact bef_trans hτd step2 e : bef τ (if b then p'.1 else p'.2) (if b then p'.1 else p'.2) = true)
    rw [bef_irrefl hτd] at this
    cases this

/-- the walk over a list of operations -/
def wpT (P : Program) (ops : Array Oper) (S : World → Prop) (Q : Exit → Act → World → Prop) : List Oper → List Nat → Act → World → Prop
  | [], _, a, w => Q .normal a w
  | o :: rest, ks, a, w =>
    if Region.wanted o (yielded ops a.tmps) = true then
      if ks.headD 3 = 0 then ∃ v, (∀ w', (execOp a.eval o).run P w' = .ok (.value v) w') ∧ wpT P ops S Q rest ks.tail (a.put o.dst v) w
      else if ks.headD 3 = 5 then S w ∧ ∃ v, (∀ w', S w' → StillAt P o a.eval w' v) ∧ wpT P ops S Q rest ks.tail (a.put o.dst v) w
      else if ks.headD 3 = 6 then S w ∧ o.wp P a w (fun a' w' => S w' ∧ wpT P ops S Q rest ks.tail a' w') NoQ
      else o.wp P a w (wpT P ops S Q rest ks.tail) NoQ
    else wpT P ops S Q rest ks.tail (a.put o.dst undef) w

theorem wpT_eq {S : World → Prop} {Q : Exit → Act → World → Prop} {ks : Array Nat} : ∀ (L : List Nat) (l : List Oper), L.map (fun i => ops[i]?) = l.map some →
    wpT P ops S Q l (L.map fun i => ks.getD i 3) = wpR P ops ks S Q L
  | [], [], _ => rfl
  | [], _ :: _, h => by cases h
  | _ :: _, [], h => by cases h
  | i :: L, o :: l, h => by
    simp only [List.map_cons, List.cons.injEq] at h
    have ih := wpT_eq (S := S) (Q := Q) (ks := ks) L l h.2
    funext a w
    simp only [List.map_cons, wpR, wpT, stepK, h.1, List.headD_cons, List.tail_cons, ih]

/-- THE RULE: whatever order is drawn -/
theorem wp_region_orders {id : Nat} {l : List Oper} {Q : Exit → Act → World → Prop} {a : Act} {w : World} (ks : List Nat) (Ls : List (List Nat)) (S : World → Prop) (hm : P.follows .mixedOrders = true)
    (hB : ordersB l ks.toArray Ls = true) (h : ∀ L ∈ Ls, wpR P l.toArray ks.toArray S Q L a w.drew) : (Code.region id l.toArray true).wp P Q a w :=
  wp_region_draw fun t => by
    simp only [Region.schedule, hm, Bool.true_or, if_true]
    exact ordersB_spec hB h t

/-- one order, the text's own -/
theorem wp_region_text {id : Nat} {l : List Oper} {Q : Exit → Act → World → Prop} {a : Act} {w : World} (ks : List Nat) (S : World → Prop) (hm : P.follows .mixedOrders = true)
    (hl : ks.length = l.length) (hB : ordersB l ks.toArray [List.range l.length] = true) (h : wpT P l.toArray S Q l ks a w.drew) : (Code.region id l.toArray true).wp P Q a w := by
  refine wp_region_orders ks [List.range l.length] S hm hB fun L hL => ?_
  obtain rfl : L = List.range l.length := by simpa using hL
  have e := wpT_eq (P := P) (ops := l.toArray) (S := S) (Q := Q) (ks := ks.toArray) (List.range l.length) l (by
    refine List.ext_getElem? fun i => ?_
    rcases Nat.lt_or_ge i l.length with hlt | hge
    · simp [hlt]
    · simp [Nat.not_lt.2 hge])
  have e2 : (List.range l.length).map (fun i => ks.toArray.getD i 3) = ks := by
    refine List.ext_getElem? fun i => ?_
    rcases Nat.lt_or_ge i l.length with hlt | hge
    · have : i < ks.length := by omega
      simp [hlt, this, Array.getD_eq_getD_getElem?]
    · simp [Nat.not_lt.2 hge, show ks.length ≤ i by omega]
  rw [e2] at e
  rw [← e]; exact h

theorem wpT_nil {S : World → Prop} {Q : Exit → Act → World → Prop} {ks : List Nat} {a : Act} {w : World} (h : Q .normal a w) : wpT P ops S Q [] ks a w := h
theorem wpT_pure {S : World → Prop} {Q : Exit → Act → World → Prop} {o : Oper} {rest : List Oper} {ks : List Nat} {a : Act} {w : World}
    (h : ∀ K : Act → World → Prop, (∀ a w, wpT P ops S Q rest ks a w → K a w) →
      if Region.wanted o (yielded ops a.tmps) = true then ∃ v, (∀ w', (execOp a.eval o).run P w' = .ok (.value v) w') ∧ K (a.put o.dst v) w else K (a.put o.dst undef) w) :
    wpT P ops S Q (o :: rest) (0 :: ks) a w := by
  have := h _ (fun _ _ h => h)
  unfold wpT
  split
  · rename_i hw; rw [if_pos hw] at this; simpa using this
  · rename_i hw; rw [if_neg hw] at this; exact this
theorem wpT_deed {S : World → Prop} {Q : Exit → Act → World → Prop} {o : Oper} {rest : List Oper} {k : Nat} {ks : List Nat} {a : Act} {w : World} (hk : k ≠ 0 ∧ k ≠ 5 ∧ k ≠ 6)
    (h : ∀ K : Act → World → Prop, (∀ a w, wpT P ops S Q rest ks a w → K a w) → if Region.wanted o (yielded ops a.tmps) = true then o.wp P a w K NoQ else K (a.put o.dst undef) w) :
    wpT P ops S Q (o :: rest) (k :: ks) a w := by
  have := h _ (fun _ _ h => h)
  unfold wpT
  split
  · rename_i hw; rw [if_pos hw] at this; simpa [hk] using this
  · rename_i hw; rw [if_neg hw] at this; exact this
theorem wpT_plain {S : World → Prop} {Q : Exit → Act → World → Prop} {o : Oper} {rest : List Oper} {k : Nat} {ks : List Nat} {a : Act} {w : World} (hk : k ≠ 0 ∧ k ≠ 5 ∧ k ≠ 6) (hg : o.guard = none)
    (h : ∀ K : Act → World → Prop, (∀ a w, wpT P ops S Q rest ks a w → K a w) → o.wp P a w K NoQ) : wpT P ops S Q (o :: rest) (k :: ks) a w :=
  wpT_deed hk fun K hK => by rw [if_pos (by simp [Region.wanted, hg])]; exact h K hK
theorem wpT_held {S : World → Prop} {Q : Exit → Act → World → Prop} {o : Oper} {rest : List Oper} {ks : List Nat} {a : Act} {w : World} (hS : S w) (v : Value) (hg : o.guard = none)
    (hv : ∀ w', S w' → StillAt P o a.eval w' v) (h : wpT P ops S Q rest ks (a.put o.dst v) w) : wpT P ops S Q (o :: rest) (5 :: ks) a w := by
  unfold wpT
  rw [if_pos (by simp [Region.wanted, hg])]
  simp only [List.headD_cons, List.tail_cons]
  exact ⟨hS, v, hv, h⟩
theorem wpT_keeps {S : World → Prop} {Q : Exit → Act → World → Prop} {o : Oper} {rest : List Oper} {ks : List Nat} {a : Act} {w : World} (hS : S w) (hg : o.guard = none)
    (h : ∀ K : Act → World → Prop, (∀ a w, S w → wpT P ops S Q rest ks a w → K a w) → o.wp P a w K NoQ) : wpT P ops S Q (o :: rest) (6 :: ks) a w := by
  unfold wpT
  rw [if_pos (by simp [Region.wanted, hg])]
  simp only [List.headD_cons, List.tail_cons]
  exact ⟨hS, h _ fun _ _ s t => ⟨s, t⟩⟩
/-! ### Operations that compute: alike in every world -/

/-- where it runs to an end it changes nothing, and comes to the same end in every world -/
def OkAny {α : Type} (P : Program) (s : Sem α) : Prop := ∀ w x w', s.run P w = .ok x w' → w' = w ∧ ∀ w2, s.run P w2 = .ok x w2
def NeverOk {α : Type} (P : Program) (s : Sem α) : Prop := ∀ w x w', s.run P w ≠ .ok x w'
theorem NeverOk.any {α : Type} {P : Program} {s : Sem α} (h : NeverOk P s) : OkAny P s := fun w x w' hr => absurd hr (h w x w')
theorem NeverOk.halt {α : Type} (P : Program) (x : Halt) : NeverOk P (Sem.halt x : Sem α) := fun w y w' h => by simp only [Sem.run] at h; cases h
theorem NeverOk.bind {α β : Type} {P : Program} {s : Sem α} {f : α → Sem β} (hf : ∀ x, NeverOk P (f x)) : NeverOk P (s >>= f) := fun w x w' h => by
  simp only [Sem.run_bind] at h
  cases hr : s.run P w with
  | halt e w1 => rw [hr] at h; cases h
  | ok y w1 => rw [hr] at h; exact hf y w1 x w' h
theorem NeverOk.runtimePanic {α : Type} (P : Program) (e : RuntimeError) : NeverOk P (runtimePanic e : Sem α) := by
  unfold Go.runtimePanic
  refine NeverOk.bind fun p => ?_
  cases e <;> repeat' (first
    | exact NeverOk.halt P _
    | (refine NeverOk.bind fun _ => ?_)
    | dsimp only)
theorem NeverOk.boundsPanic {α : Type} (P : Program) (k : IntKind) (x y : Int) (c : BoundsCode) : NeverOk P (boundsPanic k x y c : Sem α) := by
  unfold Go.boundsPanic
  dsimp only
  split <;> exact NeverOk.bind fun _ => NeverOk.runtimePanic P _
theorem OkAny.pure {α : Type} (P : Program) (x : α) : OkAny P (Sem.pure x) := fun w y w' h => by
  simp only [Sem.run] at h
  cases h
  exact ⟨rfl, fun w2 => rfl⟩
theorem OkAny.halt {α : Type} (P : Program) (x : Halt) : OkAny P (Sem.halt x : Sem α) := (NeverOk.halt P x).any
theorem OkAny.program {α : Type} {P : Program} {k : Program → Sem α} (hk : ∀ p, OkAny P (k p)) : OkAny P (.program k) := fun w x w' h => by
  simp only [Sem.run] at h ⊢
  exact hk P w x w' h
theorem OkAny.bind {α β : Type} {P : Program} {s : Sem α} {f : α → Sem β} (hs : OkAny P s) (hf : ∀ x, OkAny P (f x)) : OkAny P (s >>= f) := fun w x w' h => by
  simp only [Sem.run_bind] at h ⊢
  cases hr : s.run P w with
  | halt e w1 => rw [hr] at h; cases h
  | ok y w1 =>
    rw [hr] at h
    obtain ⟨rfl, h1⟩ := hs w y w1 hr
    simp only [Result.andThen] at h
    obtain ⟨e, h2⟩ := hf y _ x w' h
    exact ⟨e, fun w2 => by rw [h1 w2]; exact h2 w2⟩
theorem OkAny.typeInfo (P : Program) (t : TypeId) : OkAny P (typeInfo t) := by
  unfold Go.typeInfo Go.program
  refine OkAny.bind (OkAny.program fun p => OkAny.pure P p) fun p => ?_
  split
  · exact OkAny.pure _ _
  · exact OkAny.halt _ _
theorem OkAny.underlying (P : Program) (t : TypeId) : OkAny P (underlying t) := by
  unfold Go.underlying Go.program
  refine OkAny.bind (OkAny.program fun p => OkAny.pure P p) fun p => ?_
  split
  · exact OkAny.pure _ _
  · exact OkAny.halt _ _
theorem OkAny.sizeOf (P : Program) (t : TypeId) : OkAny P (sizeOf t) := by
  unfold Go.sizeOf
  exact OkAny.bind (OkAny.typeInfo P t) fun _ => OkAny.pure _ _
theorem OkAny.isAgg (P : Program) (t : TypeId) : OkAny P (isAgg t) := by
  unfold Go.isAgg
  refine OkAny.bind (OkAny.underlying P t) fun _ => ?_
  split <;> exact OkAny.pure _ _
theorem OkAny.part (P : Program) (t : TypeId) (cs : Array Value) (n : Nat) : OkAny P (part t cs n) := by
  unfold Go.part
  refine OkAny.bind (OkAny.isAgg P t) fun b => ?_
  split
  · exact OkAny.bind (OkAny.sizeOf P t) fun _ => OkAny.pure _ _
  · split
    · exact OkAny.pure _ _
    · exact OkAny.halt _ _
theorem OkAny.asIntOf (P : Program) (v : Value) : OkAny P (asIntOf v) := by
  unfold Go.asIntOf
  split
  · exact OkAny.pure _ _
  · exact OkAny.halt _ _
  · exact OkAny.halt _ _
theorem OkAny.sliceBound (P : Program) (x : Value) (y : Nat) (c : BoundsCode) : OkAny P (Instr.sliceBound x y c) := by
  unfold Instr.sliceBound
  refine OkAny.bind (OkAny.asIntOf P x) fun p => ?_
  dsimp only
  split
  · exact OkAny.pure _ _
  · exact (NeverOk.boundsPanic P _ _ _ _).any
theorem OkAny.sureAddr (P : Program) (v : Value) : OkAny P (Instr.sureAddr v) := by
  unfold Instr.sureAddr
  split
  · exact OkAny.pure _ _
  · exact OkAny.halt _ _
theorem OkAny.asAddr (P : Program) (v : Value) : OkAny P (asAddr v) := by
  unfold Go.asAddr
  split
  · exact OkAny.pure _ _
  · exact (NeverOk.runtimePanic P _).any
  · exact OkAny.halt _ _
theorem OkAny.sliceBounds (P : Program) (b : Bool) (l c : Nat) (lo hi mx : Option Value) : OkAny P (Instr.sliceBounds b l c lo hi mx) := by
  unfold Instr.sliceBounds
  repeat' (first
    | exact OkAny.pure _ _
    | exact OkAny.halt _ _
    | exact OkAny.sliceBound P _ _ _
    | (refine OkAny.bind ?_ fun _ => ?_)
    | split
    | dsimp only)
theorem OkAny.slice (P : Program) (t : TypeId) (x : Value) (lo hi mx : Option Value) : OkAny P (Instr.slice t x lo hi mx) := by
  unfold Instr.slice
  repeat' (first
    | exact OkAny.pure _ _
    | exact OkAny.halt _ _
    | exact OkAny.underlying P _
    | exact OkAny.sizeOf P _
    | exact OkAny.asAddr P _
    | exact OkAny.sliceBounds P _ _ _ _ _ _
    | (refine OkAny.bind ?_ fun _ => ?_)
    | split
    | dsimp only)
theorem OkAny.sliceAt (P : Program) (t : TypeId) (x : Value) (lo hi mx : Option Value) : OkAny P (Instr.sliceAt t x lo hi mx) := by
  unfold Instr.sliceAt
  repeat' (first
    | exact OkAny.pure _ _
    | exact OkAny.halt _ _
    | exact OkAny.underlying P _
    | exact OkAny.sizeOf P _
    | exact OkAny.sureAddr P _
    | exact OkAny.slice P _ _ _ _ _
    | exact OkAny.sliceBounds P _ _ _ _ _ _
    | (refine OkAny.bind ?_ fun _ => ?_)
    | split
    | dsimp only)
theorem OkAny.indexAt (P : Program) (t : TypeId) (x ix : Value) : OkAny P (Instr.indexAt t x ix) := by
  unfold Instr.indexAt
  repeat' (first
    | exact OkAny.pure _ _
    | exact OkAny.halt _ _
    | exact OkAny.underlying P _
    | exact OkAny.sizeOf P _
    | exact OkAny.asIntOf P _
    | exact OkAny.sureAddr P _
    | exact (NeverOk.boundsPanic P _ _ _ _).any
    | (refine OkAny.bind ?_ fun _ => ?_)
    | split
    | dsimp only)
theorem OkAny.index (P : Program) (t : TypeId) (x ix : Value) : OkAny P (Instr.index t x ix) := by
  unfold Instr.index
  repeat' (first
    | exact OkAny.pure _ _
    | exact OkAny.halt _ _
    | exact OkAny.underlying P _
    | exact OkAny.sizeOf P _
    | exact OkAny.asIntOf P _
    | exact OkAny.part P _ _ _
    | exact (NeverOk.boundsPanic P _ _ _ _).any
    | (refine OkAny.bind ?_ fun _ => ?_)
    | split
    | dsimp only)
/-- two integers, two bools, or two strings -/
def twoPlain : Value → Value → Bool
  | .int _ _, .int _ _ => true
  | .bool _, .bool _ => true
  | .string _, .string _ => true
  | _, _ => false
theorem OkAny.equal (P : Program) (t : TypeId) (x y : Bool) : OkAny P (Op.equal t (.bool x) (.bool y)) := by
  unfold Op.equal Op.maxDepth Op.equalIn
  refine OkAny.bind (OkAny.underlying P t) fun d => ?_
  split <;> first | exact OkAny.pure _ _ | exact OkAny.halt _ _ | skip
  all_goals (rename_i h; first | (cases h; done) | skip)
  all_goals simp_all
theorem OkAny.binOp (P : Program) (op : BinOp) (t : TypeId) (x y : Value) (h : twoPlain x y = true) : OkAny P (binOp op t x y) := by
  unfold twoPlain at h
  split at h
  · rename_i k a l b
    cases op <;> simp only [Go.binOp, Op.shift, Op.intArith, Op.intDiv, Op.intBits, Op.intCmp] <;> repeat' (first
      | exact OkAny.pure _ _
      | exact OkAny.halt _ _
      | exact (NeverOk.runtimePanic P _).any
      | split)
  · rename_i a b
    cases op <;> simp only [Go.binOp] <;> repeat' (first
      | exact OkAny.pure _ _
      | exact OkAny.halt _ _
      | exact OkAny.equal P _ _ _
      | (refine OkAny.bind ?_ fun _ => ?_))
  · rename_i a b
    cases op <;> simp only [Go.binOp, Op.stringOp] <;> repeat' (first
      | exact OkAny.pure _ _
      | exact OkAny.halt _ _
      | split)
  · cases h
theorem OkAny.eqGuard (P : Program) (op : BinOp) (t : TypeId) (x y : Operand) (a b : Value) (h : twoPlain a b = true) : OkAny P (eqGuard op t x y a b) := by
  unfold twoPlain at h
  split at h
  · cases op <;> simp only [Go.eqGuard] <;> exact OkAny.pure _ _
  · cases op <;> simp only [Go.eqGuard] <;> exact OkAny.pure _ _
  · cases op <;> simp only [Go.eqGuard] <;> exact OkAny.pure _ _
  · cases h

/-- it computes: by its form, and by what its operands hold -/
def plainOp (o : Oper) (ρ : Operand → Value) : Bool :=
  match o.op with
  | .slice _ _ _ _ _ | .indexAddr _ _ _ | .index _ _ _ => true
  | .binOp _ _ x y _ => twoPlain (ρ x) (ρ y)
  | _ => false
theorem plain_runs {o : Oper} {a : Act} (h : plainOp o a.eval = true) {w : World} {K : Act → World → Prop} (hh : o.wp P a w K NoQ) :
    ∃ v, (∀ w', (execOp a.eval o).run P w' = .ok (.value v) w') ∧ K (a.put o.dst v) w := by
  obtain ⟨dst, op, type, pos, after, guard⟩ := o
  have key : ∀ s : Sem Value, OkAny P s → execOp a.eval ⟨dst, op, type, pos, after, guard⟩ = (do let x ← s; Pure.pure (Next.value x)) →
      ∃ v, (∀ w', (execOp a.eval ⟨dst, op, type, pos, after, guard⟩).run P w' = .ok (.value v) w') ∧ K (a.put dst v) w := by
    intro s hs he
    unfold Oper.wp at hh
    rw [he] at hh ⊢
    simp only [Sem.run_bind] at hh ⊢
    cases hr : s.run P w with
    | halt x w1 =>
      rw [hr] at hh
      simp only [Result.andThen] at hh
      cases x <;> simp only [Oper.upon] at hh
      exact hh.elim
    | ok v w1 =>
      rw [hr] at hh
      simp only [Result.andThen, Sem.run_pure, Oper.upon] at hh
      obtain ⟨rfl, h2⟩ := hs w v w1 hr
      exact ⟨v, fun w' => by rw [h2 w']; rfl, hh⟩
  cases op <;> simp only [plainOp] at h <;> first | (cases h; done) | skip
  · exact key _ (OkAny.bind (OkAny.eqGuard P _ _ _ _ _ _ h) fun _ => OkAny.binOp P _ _ _ _ h) rfl
  · exact key _ (OkAny.sliceAt P _ _ _ _ _) rfl
  · exact key _ (OkAny.indexAt P _ _ _) rfl
  · exact key _ (OkAny.index P _ _ _) rfl
theorem wpT_calc {S : World → Prop} {Q : Exit → Act → World → Prop} {o : Oper} {rest : List Oper} {ks : List Nat} {a : Act} {w : World} (hg : Region.wanted o (yielded ops a.tmps) = true) (hp : plainOp o a.eval = true)
    (h : ∀ K : Act → World → Prop, (∀ a w, wpT P ops S Q rest ks a w → K a w) → o.wp P a w K NoQ) : wpT P ops S Q (o :: rest) (0 :: ks) a w := by
  have := plain_runs hp (h _ (fun _ _ h => h))
  unfold wpT
  rw [if_pos hg]
  simpa using this
theorem wpT_calc0 {S : World → Prop} {Q : Exit → Act → World → Prop} {o : Oper} {rest : List Oper} {ks : List Nat} {a : Act} {w : World} (hg : o.guard = none) (hp : plainOp o a.eval = true)
    (h : ∀ K : Act → World → Prop, (∀ a w, wpT P ops S Q rest ks a w → K a w) → o.wp P a w K NoQ) : wpT P ops S Q (o :: rest) (0 :: ks) a w :=
  wpT_calc (by simp [Region.wanted, hg]) hp h
theorem wpT_skip {S : World → Prop} {Q : Exit → Act → World → Prop} {o : Oper} {rest : List Oper} {k : Nat} {ks : List Nat} {a : Act} {w : World} (hg : Region.wanted o (yielded ops a.tmps) = false)
    (h : wpT P ops S Q rest ks (a.put o.dst undef) w) : wpT P ops S Q (o :: rest) (k :: ks) a w := by
  unfold wpT
  rw [if_neg (by rw [hg]; exact Bool.false_ne_true)]
  exact h
theorem wpT_skipG {S : World → Prop} {Q : Exit → Act → World → Prop} {o : Oper} {rest : List Oper} {k : Nat} {ks : List Nat} {a : Act} {w : World} {j : Nat} {b : Bool} (hgd : o.guard = some (j, b)) (hy : (yielded ops a.tmps j == some b) = false)
    (h : wpT P ops S Q rest ks (a.put o.dst undef) w) : wpT P ops S Q (o :: rest) (k :: ks) a w :=
  wpT_skip (by simp only [Region.wanted, hgd]; exact hy) h
theorem wpT_calcG {S : World → Prop} {Q : Exit → Act → World → Prop} {o : Oper} {rest : List Oper} {ks : List Nat} {a : Act} {w : World} {j : Nat} {b : Bool} (hgd : o.guard = some (j, b)) (hp : plainOp o a.eval = true) (hy : (yielded ops a.tmps j == some b) = true)
    (h : ∀ K : Act → World → Prop, (∀ a w, wpT P ops S Q rest ks a w → K a w) → o.wp P a w K NoQ) : wpT P ops S Q (o :: rest) (0 :: ks) a w :=
  wpT_calc (by simp only [Region.wanted, hgd]; exact hy) hp h
/-- the operations in another order -/
theorem wpR_of {ks : Array Nat} {S : World → Prop} {Q : Exit → Act → World → Prop} {L : List Nat} {a : Act} {w : World} (l : List Oper) (ks' : List Nat) (h1 : L.map (fun i => ops[i]?) = l.map some) (h2 : L.map (fun i => ks.getD i 3) = ks')
    (h : wpT P ops S Q l ks' a w) : wpR P ops ks S Q L a w := by
  rw [← wpT_eq L l h1, h2]
  exact h

def pick (l : List Oper) (L : List Nat) : List Oper := L.filterMap fun i => l[i]?
theorem wpR_pick {l : List Oper} {ks : List Nat} {S : World → Prop} {Q : Exit → Act → World → Prop} {L : List Nat} {a : Act} {w : World} (hL : L.all (fun i => decide (i < l.length)) = true)
    (h : wpT P l.toArray S Q (pick l L) (L.map fun i => ks.toArray.getD i 3) a w) : wpR P l.toArray ks.toArray S Q L a w := by
  refine wpR_of (pick l L) _ ?_ rfl h
  have hL' : ∀ i ∈ L, i < l.length := fun i hi => by simpa using List.all_eq_true.1 hL i hi
  clear h hL
  unfold pick
  induction L with
  | nil => rfl
  | cons i L ih =>
    have hi := hL' i (List.mem_cons_self ..)
    rw [List.filterMap_cons, List.getElem?_eq_getElem hi, List.map_cons, List.map_cons, ih (fun j hj => hL' j (List.mem_cons_of_mem _ hj))]
    simp [hi]

/-- a load of a region that draws, held by S -/
theorem wpT_hload {S : World → Prop} {Q : Exit → Act → World → Prop} {o : Oper} {rest : List Oper} {ks : List Nat} {a : Act} {w : World} (t : TypeId) (x : Operand) (ho : o.op = .load t x) (hg : o.guard = none)
    {ad : Addr} (hx : a.eval x = .pointer (some ad)) {v : Value} (hv : ∀ w', S w' → (loadVar t ad).run P w' = .ok v w') (hS : S w) (h : wpT P ops S Q rest ks (a.put o.dst v) w) : wpT P ops S Q (o :: rest) (5 :: ks) a w := by
  refine wpT_held hS v hg (fun w' hw' => ?_) h
  unfold StillAt execOp
  simp [ho, hx, Instr.loadAt, Instr.sureAddr, hv w' hw']
/-- every kind by the operation's form -/
def kindBy (o : Oper) : Nat :=
  match o.op with
  | .load _ _ => 1
  | .alloc _ | .box _ _ | .buildSlice _ _ _ => 2
  | .store _ _ _ | .makeMap _ _ | .makeSlice _ _ _ | .makeChan _ _ | .lookup _ _ _ _ | .mapUpdate _ _ _ _ | .mapEntry _ _ _ | .entryStore _ _ _ _ | .insert _ _ _ _ | .range _ _ | .next _ _ | .entry _ | .panic _ | .go _ | .defer _ | .send _ _ | .recv _ _ _ | .select _ _ | .ready _ | .waits _ => 3
  | .call c => match c.callee with
    | .builtin .len | .builtin .cap | .builtin .min | .builtin .max => 0
    | _ => 3
  | _ => 0
theorem wp_region_by {id : Nat} {l : List Oper} {Q : Exit → Act → World → Prop} {a : Act} {w : World} (hm : P.follows .mixedOrders = true)
    (hB : ordersB l (l.map kindBy).toArray [List.range l.length] = true) (h : wpT P l.toArray (fun _ => True) Q l (l.map kindBy) a w.drew) : (Code.region id l.toArray true).wp P Q a w :=
  wp_region_text _ _ hm (by simp) hB h
end
end Go.Proofs.YtinlpjgjjplceaaDoor
