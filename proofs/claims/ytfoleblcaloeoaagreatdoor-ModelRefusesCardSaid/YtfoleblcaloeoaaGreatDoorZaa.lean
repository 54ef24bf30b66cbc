/- Texts merged for the claim. -/
import Derived.Orders
import Derived.Tactics
import Derived.WalkKit
set_option maxHeartbeats 40000000
set_option maxRecDepth 20000
namespace Go.Proofs.YtfoleblcaloeoaaGreatDoor
open Go Go.RowKit
theorem aa {α:Type} {a b:α} (h:a∈[b]):a = b:=List.mem_singleton.1 h
theorem ab {α:Type} {a:α}:¬ a∈([]:List α):=List.not_mem_nil
theorem ac {p:Prop} [h:Decidable p] (hp:¬p):decide p = false:=decide_eq_false hp
theorem ae {p:Prop} [h:Decidable p] (hp:p):decide p = true:=decide_eq_true hp
theorem af (w:World) (o:Obj):(w.alloc o).heap.size = w.heap.size+1:=World.size_alloc w o
theorem ag {a b c:Nat} (h:a≤b) (k:b≤c):a≤c:=Nat.le_trans h k
end Go.Proofs.YtfoleblcaloeoaaGreatDoor
namespace Go.Proofs.YtfoleblcaloeoaaGreatDoor
open Go
def Ext (w w':World):Prop:=∀(i:Nat) (o:Obj),w.heap[i]? = some o→w'.heap[i]? = some o
theorem Ext.refl (w:World):Ext w w:=fun _ _ h=>h
theorem Ext.trans {a b c:World} (h:Ext a b) (k:Ext b c):Ext a c:=fun i o hi=>k i o (h i o hi)
theorem Ext.push (w:World) (o:Obj):Ext w { w with heap:=w.heap.push o }:=fun i x hi=>by
 have jF:i < w.heap.size:=(Array.getElem?_eq_some_iff.1 hi).1
 show (w.heap.push o)[i]? = some x
 rw [Array.getElem?_push_lt jF]
 rw [Array.getElem?_eq_getElem jF] at hi
 exact hi
theorem Ext.cell {w w':World} (h:Ext w w') {a:Addr} {v:Value} (hc:w.cell? a = some v):w'.cell? a = some v:=by
 unfold World.cell? at *
 cases hb:w.heap[a.block]? with
 | none=>rw [hb] at hc;cases hc
 | some o=>rw [hb] at hc;rw [h _ _ hb];exact hc
theorem Ext.seen {P:Program} {w w':World} (h:Ext w w') {a k:Addr} {u:TypeId} {m:Bool} {r:_} (hs:w.seen P a u k m = .ok r):w'.seen P a u k m = .ok r:=by
 unfold World.seen at *
 cases hb:w.heap[a.block]? with
 | some o=>rw [hb] at hs;rw [h _ _ hb];exact hs
 | none =>
  exfalso
  rw [hb] at hs
  simp only [bind,Except.bind] at hs
  repeat' (split at hs)
  all_goals first|(cases hs;done)|(exact absurd hs (by simp))
theorem Ext.viewLoad {P:Program} {w w':World} (h:Ext w w') {a k:Addr} {u:TypeId} {m:Bool} {r:_} (hs:w.viewLoad P a u k m = .ok r):w'.viewLoad P a u k m = .ok r:=by
 unfold World.viewLoad at *
 cases hb:w.seen P a u k m with
 | ok x=>rw [hb] at hs;rw [h.seen hb];exact hs
 | error e=>rw [hb] at hs;cases hs
theorem Ext.farLoad {P:Program} {w w':World} (h:Ext w w') {a:Addr} {m:Bool} {r:_} (hs:w.farLoad P a m = .ok r):w'.farLoad P a m = .ok r:=by
 unfold World.farLoad at *
 cases hb:w.heap[a.block]? with
 | none=>rw [hb] at hs;cases hs
 | some o =>
  rw [hb] at hs;rw [h _ _ hb]
  cases o <;> simp only at hs ⊢ <;> try (cases hs;done)
  rename_i at_ u
  cases hv:w.viewLoad P at_ u a m with
  | ok x=>rw [hv] at hs;rw [h.viewLoad hv];exact hs
  | error e=>rw [hv] at hs;cases hs
def OkMono {α:Type} (P:Program) (s:Sem α):Prop:=∀w x w',s.run P w = .ok x w'→w' = w∧∀w2,Ext w w2→s.run P w2 = .ok x w2
theorem OkMono.pure {α:Type} (P:Program) (x:α):OkMono P (Sem.pure x):=fun w y w' h=>by
 simp only [Sem.run] at h
 cases h
 exact ⟨rfl,fun w2 _=>rfl⟩
theorem OkMono.halt {α:Type} (P:Program) (x:Halt):OkMono P (Sem.halt x:Sem α):=fun w y w' h=>by
 simp only [Sem.run] at h
 cases h
theorem OkMono.load {α:Type} {P:Program} {m:Mode} {a:Addr} {k:Value→Sem α} (hk:∀v,OkMono P (k v)):OkMono P (.load m a k):=fun w x w' h=>by
 simp only [Sem.run] at h ⊢
 cases hc:w.cell? a with
 | some v =>
  rw [hc] at h
  obtain ⟨e,hh⟩:=hk v w x w' h
  exact ⟨e,fun w2 h2=>by rw [h2.cell hc];exact hh w2 h2⟩
 | none =>
  rw [hc] at h
  cases hf:w.farLoad P a (m == .atomic) with
  | error e=>rw [hf] at h;cases h
  | ok r =>
   obtain ⟨v,l⟩:=r
   rw [hf] at h
   obtain ⟨e,hh⟩:=hk v w x w' h
   refine ⟨e,fun w2 h2=>?_⟩
   have Dk:=h2.farLoad hf
   cases jA:w2.cell? a with
   | none=>simp only [Dk];exact hh w2 h2
   | some u =>
    exfalso
    unfold World.farLoad at Dk
    unfold World.cell? at jA
    cases hb:w2.heap[a.block]? with
    | none=>rw [hb] at jA;cases jA
    | some o =>
     rw [hb] at jA Dk
     cases o <;> simp only at jA Dk <;> first|(cases jA;done)|(cases Dk;done)
theorem OkMono.program {α:Type} {P:Program} {k:Program→Sem α} (hk:∀p,OkMono P (k p)):OkMono P (.program k):=fun w x w' h=>by
 simp only [Sem.run] at h ⊢
 exact hk P w x w' h
theorem OkMono.bind {α β:Type} {P:Program} {s:Sem α} {f:α→Sem β} (hs:OkMono P s) (hf:∀x,OkMono P (f x)):OkMono P (s >>= f):=fun w x w' h=>by
 simp only [Sem.run_bind] at h ⊢
 cases hr:s.run P w with
 | halt e w1=>rw [hr] at h;cases h
 | ok y w1 =>
  rw [hr] at h
  obtain ⟨rfl,h1⟩:=hs w y w1 hr
  simp only [Result.andThen] at h
  obtain ⟨e,h2⟩:=hf y _ x w' h
  exact ⟨e,fun w2 hw=>by rw [h1 w2 hw];exact h2 w2 hw⟩
theorem OkMono.typeInfo (P:Program) (t:TypeId):OkMono P (typeInfo t):=by
 unfold Go.typeInfo Go.program
 refine OkMono.bind (OkMono.program fun p=>OkMono.pure P p) fun p=>?_
 split
 ·exact OkMono.pure _ _
 ·exact OkMono.halt _ _
theorem OkMono.underlying (P:Program) (t:TypeId):OkMono P (underlying t):=by
 unfold Go.underlying Go.program
 refine OkMono.bind (OkMono.program fun p=>OkMono.pure P p) fun p=>?_
 split
 ·exact OkMono.pure _ _
 ·exact OkMono.halt _ _
theorem OkMono.sizeOf (P:Program) (t:TypeId):OkMono P (sizeOf t):=by
 unfold Go.sizeOf
 exact OkMono.bind (OkMono.typeInfo P t) fun _=>OkMono.pure _ _
theorem OkMono.isAgg (P:Program) (t:TypeId):OkMono P (isAgg t):=by
 unfold Go.isAgg
 refine OkMono.bind (OkMono.underlying P t) fun _=>?_
 split <;> exact OkMono.pure _ _
theorem OkMono.loadCellsFrom (P:Program) (a:Addr):∀(n i:Nat) (acc:Array Value),OkMono P (loadCellsFrom a i n acc)
 | 0,_,_=>OkMono.pure _ _
 | n+1,i,acc=>by
  unfold Go.loadCellsFrom
  exact OkMono.bind (OkMono.load fun v=>OkMono.pure P v) fun v=>OkMono.loadCellsFrom P a n (i+1) (acc.push v)
theorem OkMono.loadVar (P:Program) (t:TypeId) (a:Addr):OkMono P (loadVar t a):=by
 unfold Go.loadVar
 refine OkMono.bind (OkMono.isAgg P t) fun b=>?_
 split
 ·exact OkMono.bind (OkMono.sizeOf P t) fun n=>OkMono.bind (OkMono.loadCellsFrom P a n 0 #[]) fun _=>OkMono.pure _ _
 ·exact OkMono.load fun v=>OkMono.pure P v
theorem OkMono.loadAt (P:Program) (t:TypeId) (v:Value):OkMono P (Instr.loadAt t v):=by
 unfold Instr.loadAt
 refine OkMono.bind ?_ fun a=>OkMono.loadVar P t a
 unfold Instr.sureAddr
 split
 ·exact OkMono.pure _ _
 ·exact OkMono.halt _ _
def OkExt {α:Type} (P:Program) (s:Sem α):Prop:=∀w x w',s.run P w = .ok x w'→Ext w w'
theorem OkMono.ext {α:Type} {P:Program} {s:Sem α} (h:OkMono P s):OkExt P s:=fun w x w' hr=>by
 obtain ⟨rfl,_⟩:=h w x w' hr
 exact Ext.refl _
theorem OkExt.bind {α β:Type} {P:Program} {s:Sem α} {f:α→Sem β} (hs:OkExt P s) (hf:∀x,OkExt P (f x)):OkExt P (s >>= f):=fun w x w' h=>by
 simp only [Sem.run_bind] at h
 cases hr:s.run P w with
 | halt e w1=>rw [hr] at h;cases h
 | ok y w1 =>
  rw [hr] at h
  simp only [Result.andThen] at h
  exact (hs w y w1 hr).trans (hf y w1 x w' h)
theorem OkExt.newRow (P:Program) (t:TypeId) (cs:Array Value):OkExt P (newRow t cs):=by
 unfold Go.newRow Go.newObj
 refine OkExt.bind (fun w x w' h=>?_) fun _=>(OkMono.pure _ _).ext
 simp only [Sem.run] at h
 cases h
 exact Ext.push w _
theorem OkExt.newVar (P:Program) (t:TypeId) (v:Value):OkExt P (newVar t v):=OkExt.newRow P t _
theorem OkExt.zeroValue (P:Program) (t:TypeId):OkExt P (zeroValue t):=by
 unfold Go.zeroValue
 refine OkExt.bind (OkMono.typeInfo P t).ext fun i=>?_
 split
 ·exact (OkMono.pure _ _).ext
 ·exact (OkMono.halt _ _).ext
theorem OkExt.alloc (P:Program) (t:TypeId):OkExt P (Instr.alloc t true (.tuple #[])):=by
 unfold Instr.alloc
 refine OkExt.bind (OkExt.zeroValue P t) fun z=>?_
 exact OkExt.bind (OkExt.newVar P t z) fun _=>(OkMono.pure _ _).ext
theorem OkExt.box (P:Program) (t:TypeId) (v:Value):OkExt P (Instr.box t v):=by
 unfold Instr.box
 exact OkExt.bind (OkExt.newVar P t v) fun _=>(OkMono.pure _ _).ext
theorem OkExt.buildSlice (P:Program) (t:TypeId) (n:Nat) (ps:Array (Nat × Value)):OkExt P (Instr.buildSlice t n ps):=by
 unfold Instr.buildSlice
 repeat' (first
  | exact (OkMono.pure _ _).ext
  | exact (OkMono.halt _ _).ext
  | exact (OkMono.underlying P _).ext
  | exact (OkMono.sizeOf P _).ext
  | exact OkExt.zeroValue P _
  | exact OkExt.newRow P _ _
  | (refine OkExt.bind ?_ fun _=>?_)
  | split
  | (dsimp only;split))
def NoQ:Exit→Act→World→Prop:=fun _ _ _=>False
theorem bV:¬ LetsOut NoQ:=fun ⟨_,_,h⟩=>h
def Put (d:Option Tmp) (a a':Act):Prop:=∃(u:Value) (ds:List Deferred),a' = ({ a with defers:=ds }:Act).put d u
section
variable {P:Program} {ops:Array Oper}
theorem tp {o:Oper} {a:Act} {w:World} {K:Act→World→Prop} (h:o.wp P a w K NoQ):o.wp P a w (fun a' w'=>Put o.dst a a'∧K a' w') NoQ:=by
 unfold Oper.wp at *
 generalize (execOp a.eval o).run P w = r at *
 cases r with
 | ok n w1 =>
  cases n <;> simp only [Oper.upon] at h ⊢
  case value u=>exact ⟨⟨u,a.defers,rfl⟩,h⟩
  case skip=>exact ⟨⟨undef,a.defers,rfl⟩,h⟩
  case defer d=>exact ⟨⟨undef,_,rfl⟩,h⟩
  case enter f args =>
   refine Calls.mono h fun e w2 he=>?_
   cases e with
   | returned u=>exact ⟨⟨u,a.defers,rfl⟩,he⟩
   | panicked c=>exact he
   | outgrown=>exact he
  case row row args=>exact Rows.mono h fun u w2 he=>⟨⟨u,a.defers,rfl⟩,he⟩
 | halt x w1 =>
  cases x <;> simp only [Oper.upon] at h ⊢
  exact h
theorem wp_some {o:Oper} {a:Act} {w:World} {K:Act→World→Prop} (h:o.wp P a w K NoQ):∃a' w',Put o.dst a a'∧K a' w':=by
 unfold Oper.wp at h
 generalize (execOp a.eval o).run P w = r at h
 cases r with
 | ok n w1 =>
  cases n <;> simp only [Oper.upon] at h
  case value u=>exact ⟨_,_,⟨u,a.defers,rfl⟩,h⟩
  case skip=>exact ⟨_,_,⟨undef,a.defers,rfl⟩,h⟩
  case defer d=>exact ⟨_,_,⟨undef,_,rfl⟩,h⟩
  case enter f args =>
   obtain ⟨e,w2,fr,he,_⟩:=h []
   cases e with
   | returned u=>exact ⟨_,_,⟨u,a.defers,rfl⟩,he⟩
   | panicked c=>exact he.elim
   | outgrown=>exact (bV he).elim
  case row row args =>
   obtain ⟨u,w2,he,_⟩:=h default []
   exact ⟨_,_,⟨u,a.defers,rfl⟩,he⟩
 | halt x w1 =>
  cases x <;> simp only [Oper.upon] at h
  exact h.elim
theorem oz {o:Oper} (hs:∀cs b,o.op≠.select cs b) {a:Act} {d:Option Tmp} {v:Value} {w:World} {K:Act→World→Prop}
  (h1:∀t,d = some t→t∉o.looksAt ops) (h2:∀t,d = some t→o.dst≠some t) :
  o.wp P (a.put d v) w K NoQ↔o.wp P a w (fun a' w'=>K (a'.put d v) w') NoQ:=by
 unfold Oper.wp
 rw [execOp_put o hs a d v h1]
 generalize (execOp a.eval o).run P w = r
 cases r with
 | ok n w1 =>
  cases n <;> simp only [Oper.upon]
  case value u=>rw [Act.put_comm a v u h2]
  case skip=>rw [Act.put_comm a v undef h2]
  case defer x=>rw [Act.put_defers,Act.put_comm _ v undef h2]
  case enter f args =>
   constructor
   ·exact fun h=>Calls.mono h fun e w2 he=>by
     cases e with
     | returned u=>show K ((a.put o.dst u).put d v) w2;rw [← Act.put_comm a v u h2];exact he
     | panicked c=>exact he
     | outgrown=>exact he
   ·exact fun h=>Calls.mono h fun e w2 he=>by
     cases e with
     | returned u=>show K ((a.put d v).put o.dst u) w2;rw [Act.put_comm a v u h2];exact he
     | panicked c=>exact he
     | outgrown=>exact he
  case row row args =>
   constructor
   ·exact fun h=>Rows.mono h fun u w2 he=>by rw [← Act.put_comm a v u h2];exact he
   ·exact fun h=>Rows.mono h fun u w2 he=>by rw [Act.put_comm a v u h2];exact he
 | halt x w1=>cases x <;> simp only [Oper.upon] <;> exact Iff.rfl
theorem fB {o:Oper} {a:Act} {w:World} {K:Act→World→Prop} {Q:Exit→Act→World→Prop} (h:o.wp P a w K NoQ):o.wp P a w K Q:=by
 unfold Oper.wp at *
 generalize (execOp a.eval o).run P w = r at *
 cases r with
 | ok n w1 =>
  cases n <;> simp only [Oper.upon] at h ⊢ <;> first | exact h | skip
  case enter f args =>
   refine Calls.mono h fun e w2 he=>?_
   cases e with
   | returned u=>exact he
   | panicked c=>exact he.elim
   | outgrown=>exact (bV he).elim
 | halt x w1 =>
  cases x <;> simp only [Oper.upon] at h ⊢
  exact h.elim
def StillAt (P:Program) (o:Oper) (ρ:Operand→Value) (w:World) (v:Value):Prop :=
 match (execOp ρ o).run P w with
 | .ok (.value u) w'=>u = v∧w' = w
 | .ok .skip w'=>undef = v∧w' = w
 | .ok (.enter f args) w'=>w' = w∧Calls P f args w (fun e w''=>e = .returned v∧w'' = w)
 | _=>False
def sh (o:Oper):Bool:=match o.op with
 | .load _ _=>true
 | _=>false
theorem StillAt.wp {o:Oper} {a:Act} {w:World} {v:Value} (h:StillAt P o a.eval w v) {K:Act→World→Prop} (I:K (a.put o.dst v) w):o.wp P a w K NoQ:=by
 unfold StillAt at h
 unfold Oper.wp
 generalize (execOp a.eval o).run P w = r at *
 cases r with
 | ok n w1 =>
  cases n <;> simp only [Oper.upon] at h ⊢ <;> try (exact h.elim)
  case value u=>obtain ⟨rfl,rfl⟩:=h;exact I
  case skip=>obtain ⟨rfl,rfl⟩:=h;exact I
  case enter f args =>
   obtain ⟨rfl,hc⟩:=h
   refine hc.mono fun e w2 ⟨he,hw⟩=>?_
   subst he;subst hw
   exact I
 | halt x w1=>simp only at h
theorem StillAt.one {o:Oper} (ho:sh o = true) {ρ:Operand→Value} {w:World} {u v:Value} (h:StillAt P o ρ w u) (k:StillAt P o ρ w v):u = v:=by
 obtain ⟨dst,op,type,pos,after,guard⟩:=o
 cases op <;> simp only [sh] at ho <;> first|(cases ho;done) | skip
 rename_i t x
 unfold StillAt execOp at h k
 simp only [Sem.run_bind] at h k
 cases hl:(Instr.loadAt t (ρ x)).run P w with
 | halt _ _=>rw [hl] at h;exact h.elim
 | ok y w2 =>
  rw [hl] at h k
  simp only [Result.andThen,Sem.run_pure] at h k
  exact h.1.symm.trans k.1
def eo (P:Program) (ops:Array Oper) (ks:Array Nat) (S:World→Prop) (i:Nat) (K:Act→World→Prop) (a:Act) (w:World):Prop :=
 match ops[i]? with
 | none=>K a w
 | some o =>
  if Region.wanted o (yielded ops a.tmps) = true then
   if ks.getD i 3 = 0 then ∃v,(∀w',(execOp a.eval o).run P w' = .ok (.value v) w')∧K (a.put o.dst v) w
   else if ks.getD i 3 = 5 then S w∧∃v,(∀w',S w'→StillAt P o a.eval w' v)∧K (a.put o.dst v) w
   else if ks.getD i 3 = 6 then S w∧o.wp P a w (fun a' w'=>S w'∧K a' w') NoQ
   else o.wp P a w K NoQ
  else K (a.put o.dst undef) w
section
variable {ks:Array Nat} {S:World→Prop} {i:Nat} {o:Oper} {K:Act→World→Prop} {a:Act} {w:World}
theorem xd (hi:ops[i]? = none):eo P ops ks S i K a w = K a w:=by simp only [eo,hi]
theorem jq (hi:ops[i]? = some o) (hw:¬ Region.wanted o (yielded ops a.tmps) = true):eo P ops ks S i K a w = K (a.put o.dst undef) w:=by
 simp only [eo,hi,if_neg hw]
theorem li (hi:ops[i]? = some o) (hw:Region.wanted o (yielded ops a.tmps) = true) (hk:ks.getD i 3 = 0) :
  eo P ops ks S i K a w = ∃v,(∀w',(execOp a.eval o).run P w' = .ok (.value v) w')∧K (a.put o.dst v) w:=by
 simp only [eo,hi,if_pos hw,if_pos hk]
theorem lj (hi:ops[i]? = some o) (hw:Region.wanted o (yielded ops a.tmps) = true) (hk:ks.getD i 3 = 5) :
  eo P ops ks S i K a w = (S w∧∃v,(∀w',S w'→StillAt P o a.eval w' v)∧K (a.put o.dst v) w):=by
 simp only [eo,hi,if_pos hw,if_neg (show ¬ ks.getD i 3 = 0 by omega),if_pos hk]
theorem rn (hi:ops[i]? = some o) (hw:Region.wanted o (yielded ops a.tmps) = true) (hk:ks.getD i 3 = 6) :
  eo P ops ks S i K a w = (S w∧o.wp P a w (fun a' w'=>S w'∧K a' w') NoQ):=by
 simp only [eo,hi,if_pos hw,if_neg (show ¬ ks.getD i 3 = 0 by omega),if_neg (show ¬ ks.getD i 3 = 5 by omega),if_pos hk]
theorem ir (hi:ops[i]? = some o) (hw:Region.wanted o (yielded ops a.tmps) = true) (h0:¬ ks.getD i 3 = 0) (h5:¬ ks.getD i 3 = 5) (h6:¬ ks.getD i 3 = 6) :
  eo P ops ks S i K a w = o.wp P a w K NoQ:=by
 simp only [eo,hi,if_pos hw,if_neg h0,if_neg h5,if_neg h6]
end
theorem xb {ks:Array Nat} {S:World→Prop} {i:Nat} {K K':Act→World→Prop} {a:Act} {w:World} (h:∀a w,K a w→K' a w) (hh:eo P ops ks S i K a w):eo P ops ks S i K' a w:=by
 cases ho:ops[i]? with
 | none=>rw [xd ho] at hh ⊢;exact h _ _ hh
 | some o =>
  by_cases hw:Region.wanted o (yielded ops a.tmps) = true
  ·by_cases h0:ks.getD i 3 = 0
   ·rw [li ho hw h0] at hh ⊢
    obtain ⟨v,h1,h2⟩:=hh
    exact ⟨v,h1,h _ _ h2⟩
   ·by_cases h5:ks.getD i 3 = 5
    ·rw [lj ho hw h5] at hh ⊢
     obtain ⟨hs,v,h1,h2⟩:=hh
     exact ⟨hs,v,h1,h _ _ h2⟩
    ·by_cases h6:ks.getD i 3 = 6
     ·rw [rn ho hw h6] at hh ⊢
      exact ⟨hh.1,Oper.wp_mono (fun a' w' ⟨s,k⟩=>⟨s,h _ _ k⟩) hh.2⟩
     ·rw [ir ho hw h0 h5 h6] at hh ⊢
      exact Oper.wp_mono h hh
  ·rw [jq ho hw] at hh ⊢;exact h _ _ hh
theorem yj {ks:Array Nat} {S:World→Prop} {i:Nat} {K:Act→World→Prop} {Q:Exit→Act→World→Prop} {a:Act} {w:World} (hh:eo P ops ks S i K a w):wpOp P ops Q i K a w:=by
 unfold wpOp
 cases ho:ops[i]? with
 | none=>rw [xd ho] at hh;exact hh
 | some o =>
  simp only
  by_cases hw:Region.wanted o (yielded ops a.tmps) = true
  ·rw [if_pos hw]
   refine .inl ?_
   by_cases h0:ks.getD i 3 = 0
   ·rw [li ho hw h0] at hh
    obtain ⟨v,h1,h2⟩:=hh
    unfold Oper.wp
    rw [h1]
    exact h2
   ·by_cases h5:ks.getD i 3 = 5
    ·rw [lj ho hw h5] at hh
     obtain ⟨hs,v,h1,h2⟩:=hh
     exact fB ((h1 w hs).wp h2)
    ·by_cases h6:ks.getD i 3 = 6
     ·rw [rn ho hw h6] at hh
      exact fB (Oper.wp_mono (fun a' w' ⟨_,k⟩=>k) hh.2)
     ·rw [ir ho hw h0 h5 h6] at hh
      exact fB hh
  ·rw [jq ho hw] at hh
   rw [if_neg hw]
   exact hh
theorem gk {oi oj:Oper} {a a':Act} (h:∀d,oj.dst = some d→d∉oi.looksAt ops) (hp:Put oj.dst a a') :
  Region.wanted oi (yielded ops a'.tmps) = Region.wanted oi (yielded ops a.tmps):=by
 obtain ⟨u,ds,rfl⟩:=hp
 exact wanted_put (ops:=ops) oi { a with defers:=ds } oj.dst u h
theorem nj {oi oj:Oper} (hs:∀cs b,oi.op≠.select cs b) {a a':Act} (h:∀d,oj.dst = some d→d∉oi.looksAt ops) (hp:Put oj.dst a a') :
  execOp a'.eval oi = execOp a.eval oi:=by
 obtain ⟨u,ds,rfl⟩:=hp
 exact execOp_put (ops:=ops) oi hs { a with defers:=ds } oj.dst u h
theorem sv {oi oj:Oper} (hs:∀cs b,oi.op≠.select cs b) {a a':Act} (h:∀d,oj.dst = some d→d∉oi.looksAt ops) (hp:Put oj.dst a a') {w:World} {v:Value} :
  StillAt P oi a'.eval w v↔StillAt P oi a.eval w v:=by
 unfold StillAt
 rw [nj (ops:=ops) hs h hp]
def kf (o:Oper) (k:Nat):Bool :=
 match k,o.op with
 | 0,_=>true
 | 1,.load _ _=>true
 | 2,.alloc _ | 2,.box _ _ | 2,.buildSlice _ _ _=>true
 | 1,_ | 2,_=>false
 | _,_=>true
theorem yz {o:Oper} (h:kf o 1 = true) {a:Act} {w:World} {K:Act→World→Prop} (hh:o.wp P a w K NoQ) :
  ∃v,K (a.put o.dst v) w∧∀w2,Ext w w2→(execOp a.eval o).run P w2 = .ok (.value v) w2:=by
 obtain ⟨dst,op,type,pos,after,guard⟩:=o
 cases op <;> simp only [kf] at h <;> first|(cases h;done) | skip
 rename_i t x
 unfold Oper.wp at hh
 have hm:OkMono P (execOp a.eval ⟨dst,.load t x,type,pos,after,guard⟩):=by
  unfold execOp
  exact OkMono.bind (OkMono.loadAt P t _) fun _=>OkMono.pure _ _
 cases hr:(execOp a.eval ⟨dst,.load t x,type,pos,after,guard⟩).run P w with
 | halt x w1 =>
  rw [hr] at hh
  cases x <;> simp only [Oper.upon] at hh
  exact hh.elim
 | ok n w1 =>
  obtain ⟨rfl,h2⟩:=hm w n w1 hr
  have hv:∃v,n = .value v:=by
   unfold execOp at hr
   simp only [Sem.run_bind] at hr
   cases hl:(Instr.loadAt t (a.eval x)).run P w1 with
   | halt _ _=>rw [hl] at hr;cases hr
   | ok v w2 =>
    rw [hl] at hr
    simp only [Result.andThen,Sem.run_pure] at hr
    cases hr
    exact ⟨v,rfl⟩
  obtain ⟨v,rfl⟩:=hv
  rw [hr] at hh
  exact ⟨v,hh,h2⟩
theorem make_ext {o:Oper} (h:kf o 2 = true) {a:Act} {w:World} {K:Act→World→Prop} (hh:o.wp P a w K NoQ) :
  o.wp P a w (fun a' w'=>Ext w w'∧Put o.dst a a'∧K a' w') NoQ:=by
 obtain ⟨dst,op,type,pos,after,guard⟩:=o
 have key:∀s:Sem Value,OkExt P s→execOp a.eval ⟨dst,op,type,pos,after,guard⟩ = (do let x ← s;Pure.pure (Next.value x)) →
   Oper.wp P ⟨dst,op,type,pos,after,guard⟩ a w (fun a' w'=>Ext w w'∧Put dst a a'∧K a' w') NoQ:=by
  intro s hs he
  unfold Oper.wp at *
  rw [he] at hh ⊢
  simp only [Sem.run_bind] at hh ⊢
  cases hr:s.run P w with
  | halt x w1 =>
   rw [hr] at hh
   simp only [Result.andThen] at hh ⊢
   cases x <;> simp only [Oper.upon] at hh ⊢
   exact hh
  | ok v w1 =>
   rw [hr] at hh
   simp only [Result.andThen,Sem.run_pure,Oper.upon] at hh ⊢
   exact ⟨hs w v w1 hr,⟨v,a.defers,rfl⟩,hh⟩
 cases op <;> simp only [kf] at h <;> first|(cases h;done) | skip
 ·exact key _ (OkExt.alloc P _) rfl
 ·exact key _ (OkExt.box P _ _) rfl
 ·exact key _ (OkExt.buildSlice P _ _ _) rfl
def aN (k l:Nat) (ld:Bool):Bool:=k == 0 || l == 0 || (k == 1 && (l == 1 || l == 2 || l == 5)) || (k == 5 && (l == 1 || l == 5 || l == 6)) || (k == 6 && l == 5 && ld)
theorem swap {ks:Array Nat} {S:World→Prop} {i j:Nat} {oi oj:Oper} (hi:ops[i]? = some oi) (hj:ops[j]? = some oj)
  (hsi:∀cs b,oi.op≠.select cs b) (hsj:∀cs b,oj.op≠.select cs b) (hap:oi.apart ops oj = true)
  (Ap:kf oi (ks.getD i 3) = true) (hkj:kf oj (ks.getD j 3) = true) (hp:aN (ks.getD i 3) (ks.getD j 3) (sh oj) = true)
  {K:Act→World→Prop} {a:Act} {w:World} (h:eo P ops ks S i (eo P ops ks S j K) a w):eo P ops ks S j (eo P ops ks S i K) a w:=by
 obtain ⟨h1,h2,h3⟩:=Oper.apart_spec hap
 have oG:∀d,oj.dst = some d→oi.dst≠some d:=fun d hd he=>h2 d he hd
 generalize hki':ks.getD i 3 = ki at *
 generalize hkj':ks.getD j 3 = kj at *
 have late:∀(v:Value),eo P ops ks S j K (a.put oi.dst v) w →
   (∀a' w',Put oj.dst a a'→(kj = 0∨kj = 1∨kj = 5→w' = w)→(kj = 2→Ext w w')→(kj = 6→S w')→K (a'.put oi.dst v) w'→eo P ops ks S i K a' w') →
   (∀a',Put oj.dst a a'→K (a'.put oi.dst v) w→eo P ops ks S i K a' w) →
   eo P ops ks S j (eo P ops ks S i K) a w:=by
  intro v hv Be hdo'
  by_cases hw:Region.wanted oj (yielded ops a.tmps) = true
  ·have J:Region.wanted oj (yielded ops (a.put oi.dst v).tmps) = true:=by rw [wanted_put oj a oi.dst v h1];exact hw
   by_cases oB:kj = 0
   ·rw [li hj J (hkj'.trans oB)] at hv
    rw [li hj hw (hkj'.trans oB)]
    rw [execOp_put oj hsj a oi.dst v h1] at hv
    obtain ⟨u,hu,I⟩:=hv
    refine ⟨u,hu,Be _ _ ⟨u,a.defers,rfl⟩ (fun _=>rfl) (fun _=>Ext.refl _) (fun e=>by omega) ?_⟩
    rw [← Act.put_comm a v u h2];exact I
   ·by_cases zA:kj = 5
    ·rw [lj hj J (hkj'.trans zA)] at hv
     rw [lj hj hw (hkj'.trans zA)]
     obtain ⟨hs,u,hu,I⟩:=hv
     refine ⟨hs,u,fun w' hS=>?_,Be _ _ ⟨u,a.defers,rfl⟩ (fun _=>rfl) (fun _=>Ext.refl _) (fun e=>by omega) ?_⟩
     ·have:=hu w' hS
      unfold StillAt at this ⊢
      rw [execOp_put oj hsj a oi.dst v h1] at this
      exact this
     ·rw [← Act.put_comm a v u h2];exact I
    ·by_cases hk6:kj = 6
     ·rw [rn hj J (hkj'.trans hk6)] at hv
      rw [rn hj hw (hkj'.trans hk6)]
      obtain ⟨hs,hv⟩:=hv
      rw [oz (ops:=ops) hsj h1 h2] at hv
      exact ⟨hs,Oper.wp_mono (fun a' w' ⟨p,s,k⟩=>⟨s,Be a' w' p (fun e=>by omega) (fun e=>by omega) (fun _=>s) k⟩) (tp hv)⟩
     ·rw [ir hj J (by omega) (by omega) (by omega)] at hv
      rw [ir hj hw (by omega) (by omega) (by omega)]
      rw [oz (ops:=ops) hsj h1 h2] at hv
      by_cases rX:kj = 1
      ·rw [rX] at hkj
       obtain ⟨u,I,hr⟩:=yz hkj hv
       unfold Oper.wp
       rw [hr w (Ext.refl w)]
       exact Be _ _ ⟨u,a.defers,rfl⟩ (fun _=>rfl) (fun _=>Ext.refl _) (fun e=>by omega) I
      ·by_cases pJ:kj = 2
       ·rw [pJ] at hkj
        exact Oper.wp_mono (fun a' w' ⟨e,p,k⟩=>Be a' w' p (fun e0=>by omega) (fun _=>e) (fun e=>by omega) k) (make_ext hkj hv)
       ·exact Oper.wp_mono (fun a' w' ⟨p,k⟩=>Be a' w' p (fun e0=>by omega) (fun e2=>by omega) (fun e=>by omega) k) (tp hv)
  ·have J:¬ Region.wanted oj (yielded ops (a.put oi.dst v).tmps) = true:=by rw [wanted_put oj a oi.dst v h1];exact hw
   rw [jq hj J] at hv
   rw [jq hj hw]
   refine hdo' _ ⟨undef,a.defers,rfl⟩ ?_
   rw [← Act.put_comm a v undef h2];exact hv
 have early:ki≠0→ki≠5→Region.wanted oi (yielded ops a.tmps) = true→(kj = 0∨(kj = 5∧ki = 6∧sh oj = true))→eo P ops ks S j (eo P ops ks S i K) a w:=by
  intro hi0 hi5 mS Gm
  have h6:(ki = 6→S w)∧oi.wp P a w (fun a' w'=>(ki = 6→S w')∧eo P ops ks S j K a' w') NoQ:=by
   by_cases hk6:ki = 6
   ·rw [rn hi mS (hki'.trans hk6)] at h
    exact ⟨fun _=>h.1,Oper.wp_mono (fun a' w' ⟨s,k⟩=>⟨fun _=>s,k⟩) h.2⟩
   ·rw [ir hi mS (by omega) (by omega) (by omega)] at h
    exact ⟨fun e=>absurd e hk6,Oper.wp_mono (fun a' w' k=>⟨fun e=>absurd e hk6,k⟩) h⟩
  have back:∀v,oi.wp P a w (fun a' w'=>(ki = 6→S w')∧K (a'.put oj.dst v) w') NoQ→eo P ops ks S i K (a.put oj.dst v) w:=by
   intro v hv
   have GJ:Region.wanted oi (yielded ops (a.put oj.dst v).tmps) = true:=by rw [wanted_put oi a oj.dst v h3];exact mS
   by_cases hk6:ki = 6
   ·rw [rn hi GJ (hki'.trans hk6),oz (ops:=ops) hsi h3 oG]
    exact ⟨h6.1 hk6,Oper.wp_mono (fun a' w' ⟨s,k⟩=>⟨s hk6,k⟩) hv⟩
   ·rw [ir hi GJ (by omega) (by omega) (by omega),oz (ops:=ops) hsi h3 oG]
    exact Oper.wp_mono (fun a' w' ⟨s,k⟩=>k) hv
  by_cases hwj:Region.wanted oj (yielded ops a.tmps) = true
  ·obtain ⟨a1,w1,Bg,kT,pC⟩:=wp_some h6.2
   have oV:Region.wanted oj (yielded ops a1.tmps) = true:=(gk (ops:=ops) h1 Bg).trans hwj
   rcases Gm with hj0 | ⟨hj5,hi6,sM⟩
   ·rw [li hj oV (hkj'.trans hj0),nj (ops:=ops) hsj h1 Bg] at pC
    obtain ⟨v,hv,_⟩:=pC
    rw [li hj hwj (hkj'.trans hj0)]
    refine ⟨v,hv,back v (Oper.wp_mono (fun a2 w2 ⟨oU,kM,oH⟩=>⟨kM,?_⟩) (tp h6.2))⟩
    have rG:Region.wanted oj (yielded ops a2.tmps) = true:=(gk (ops:=ops) h1 oU).trans hwj
    rw [li hj rG (hkj'.trans hj0),nj (ops:=ops) hsj h1 oU] at oH
    obtain ⟨u,hu,hk⟩:=oH
    have:u = v:=by
     have:=(hu w).symm.trans (hv w)
     injection this with this
     injection this
    subst this
    exact hk
   ·rw [lj hj oV (hkj'.trans hj5)] at pC
    obtain ⟨_,v,hv,_⟩:=pC
    have qV:∀w',S w'→StillAt P oj a.eval w' v:=fun w' hS=>(sv (ops:=ops) hsj h1 Bg).1 (hv w' hS)
    rw [lj hj hwj (hkj'.trans hj5)]
    refine ⟨h6.1 hi6,v,qV,back v (Oper.wp_mono (fun a2 w2 ⟨oU,kM,oH⟩=>⟨kM,?_⟩) (tp h6.2))⟩
    have rG:Region.wanted oj (yielded ops a2.tmps) = true:=(gk (ops:=ops) h1 oU).trans hwj
    rw [lj hj rG (hkj'.trans hj5)] at oH
    obtain ⟨_,u,hu,hk⟩:=oH
    have EB:StillAt P oj a.eval w u:=(sv (ops:=ops) hsj h1 oU).1 (hu w (h6.1 hi6))
    have:u = v:=StillAt.one sM EB (qV w (h6.1 hi6))
    subst this
    exact hk
  ·rw [jq hj hwj]
   refine back undef (Oper.wp_mono (fun a2 w2 ⟨oU,kM,oH⟩=>⟨kM,?_⟩) (tp h6.2))
   have rG:¬ Region.wanted oj (yielded ops a2.tmps) = true:=by rw [gk (ops:=ops) h1 oU];exact hwj
   rw [jq hj rG] at oH
   exact oH
 simp only [aN,Bool.or_eq_true,Bool.and_eq_true,beq_iff_eq] at hp
 by_cases mS:Region.wanted oi (yielded ops a.tmps) = true
 ·by_cases oB:ki = 0
  ·rw [li hi mS (hki'.trans oB)] at h
   obtain ⟨v,hv,I⟩:=h
   have go:∀a' w',Put oj.dst a a'→K (a'.put oi.dst v) w'→eo P ops ks S i K a' w':=fun a' w' nM kL=>by
    rw [li hi ((gk (ops:=ops) h3 nM).trans mS) (hki'.trans oB),nj (ops:=ops) hsi h3 nM]
    exact ⟨v,hv,kL⟩
   exact late v I (fun a' w' p _ _ _ k=>go a' w' p k) (fun a' p k=>go a' w p k)
  ·by_cases zA:ki = 5
   ·by_cases hj0:kj = 0∨kj = 1∨kj = 5∨kj = 6
    ·rw [lj hi mS (hki'.trans zA)] at h
     obtain ⟨hs,v,hv,I⟩:=h
     have go:∀a' w',Put oj.dst a a'→S w'→K (a'.put oi.dst v) w'→eo P ops ks S i K a' w':=fun a' w' nM hS kL=>by
      rw [lj hi ((gk (ops:=ops) h3 nM).trans mS) (hki'.trans zA)]
      exact ⟨hS,v,fun w2 h2S=>(sv (ops:=ops) hsi h3 nM).2 (hv w2 h2S),kL⟩
     refine late v I (fun a' w' p e1 e2 e6 k=>go a' w' p ?_ k) (fun a' p k=>go a' w p hs k)
     rcases hj0 with e | e | e | e
     ·rw [e1 (.inl e)];exact hs
     ·rw [e1 (.inr (.inl e))];exact hs
     ·rw [e1 (.inr (.inr e))];exact hs
     ·exact e6 e
    ·omega
   ·by_cases hj0:kj = 0
    ·exact early oB zA mS (.inl hj0)
    ·by_cases CL:ki = 6∧kj = 5∧sh oj = true
     ·exact early oB zA mS (.inr ⟨CL.2.1,CL.1,CL.2.2⟩)
     ·have rX:ki = 1∧(kj = 1∨kj = 2∨kj = 5):=by
       rcases hp with (((hp | hp) | hp) | hp) | hp
       ·exact absurd hp oB
       ·exact absurd hp hj0
       ·exact ⟨hp.1,by omega⟩
       ·exact absurd hp.1 zA
       ·exact absurd ⟨hp.1.1,hp.1.2,hp.2⟩ CL
      obtain ⟨e1,Gn⟩:=rX
      rw [ir hi mS (by omega) (by omega) (by omega)] at h
      rw [e1] at Ap
      obtain ⟨v,I,hr⟩:=yz Ap h
      have go:∀a' w',Put oj.dst a a'→Ext w w'→K (a'.put oi.dst v) w'→eo P ops ks S i K a' w':=fun a' w' nM he kL=>by
       rw [ir hi ((gk (ops:=ops) h3 nM).trans mS) (by omega) (by omega) (by omega)]
       unfold Oper.wp
       rw [nj (ops:=ops) hsi h3 nM,hr w' he]
       exact kL
      refine late v I (fun a' w' p f1 f2 _ k=>go a' w' p ?_ k) (fun a' p k=>go a' w p (Ext.refl _) k)
      rcases Gn with e | e | e
      ·rw [f1 (.inr (.inl e))];exact Ext.refl _
      ·exact f2 e
      ·rw [f1 (.inr (.inr e))];exact Ext.refl _
 ·rw [jq hi mS] at h
  have go:∀a' w',Put oj.dst a a'→K (a'.put oi.dst undef) w'→eo P ops ks S i K a' w':=fun a' w' nM kL=>by
   rw [jq hi (by rw [gk (ops:=ops) h3 nM];exact mS)]
   exact kL
  exact late undef h (fun a' w' p _ _ _ k=>go a' w' p k) (fun a' p k=>go a' w p k)
def wpR (P:Program) (ops:Array Oper) (ks:Array Nat) (S:World→Prop) (Q:Exit→Act→World→Prop):List Nat→Act→World→Prop
 | [],a,w=>Q .normal a w
 | i :: rest,a,w=>eo P ops ks S i (wpR P ops ks S Q rest) a w
def aD (acc:Array Nat) (o:Oper):Nat:=o.after.toList.foldl (fun s e=>if Region.binds .any e then s ||| 2 ^ e.on ||| acc.getD e.on 0 else s) 0
def il (l:List Oper):Array Nat:=l.foldl (fun acc o=>acc.push (aD acc o)) #[]
def tr (ops:Array Oper) (listed:Array Bool):Prop:=∀(j:Nat) (o:Oper),ops[j]? = some o→listed.getD j false = true→∀e∈o.after,Region.binds .any e = true→listed.getD e.on false = true
theorem yq (acc:Array Nat) (i:Nat):∀(es:List Edge) (s:Nat),(es.foldl (fun s e=>if Region.binds .any e then s ||| 2 ^ e.on ||| acc.getD e.on 0 else s) s).testBit i = true →
  s.testBit i = true∨∃e∈es,Region.binds .any e = true∧(e.on = i∨(acc.getD e.on 0).testBit i = true)
 | [],s,h=>.inl h
 | e :: es,s,h=>by
  simp only [List.foldl_cons] at h
  rcases yq acc i es _ h with h1 | ⟨e',he',h2⟩
  ·by_cases hb:Region.binds .any e = true
   ·rw [if_pos hb,Nat.testBit_or,Nat.testBit_or,Bool.or_eq_true,Bool.or_eq_true] at h1
    rcases h1 with (h1 | h1) | h1
    ·exact .inl h1
    ·refine .inr ⟨e,List.mem_cons_self ..,hb,.inl ?_⟩
     rw [Nat.testBit_two_pow] at h1
     simpa using h1
    ·exact .inr ⟨e,List.mem_cons_self ..,hb,.inr h1⟩
   ·rw [if_neg hb] at h1
    exact .inl h1
  ·exact .inr ⟨e',List.mem_cons_of_mem _ he',h2⟩
def vc (ops:Array Oper) (acc:Array Nat):Prop:=∀(j i:Nat),j < acc.size→(acc.getD j 0).testBit i = true→∀listed,tr ops listed →
 ∀o,ops[j]? = some o→(∀e∈o.after,Region.binds .any e = true→listed.getD e.on false = true)→listed.getD i false = true
theorem za (ops:Array Oper):∀(l:List Oper) (acc:Array Nat),(∀j,l[j]? = ops[acc.size+j]?)→vc ops acc →
  vc ops (l.foldl (fun acc o=>acc.push (aD acc o)) acc)
 | [],acc,_,h=>h
 | o :: l,acc,hl,h=>by
  simp only [List.foldl_cons]
  have h0:ops[acc.size]? = some o:=by simpa using (hl 0).symm
  refine za ops l _ (fun j=>by have:=hl (j+1);simpa [Nat.add_assoc,Nat.add_comm 1 j] using this) ?_
  intro j i hj hb listed hc o' ho' jX
  by_cases jF:j < acc.size
  ·refine h j i jF ?_ listed hc o' ho' jX
   simpa [Array.getD_eq_getD_getElem?,Array.getElem?_push_lt jF,Array.getElem?_eq_getElem jF] using hb
  ·have hjs:j = acc.size:=by simp at hj;omega
   subst hjs
   have:o' = o:=Option.some.inj (ho'.symm.trans h0)
   subst this
   have mT:(aD acc o').testBit i = true:=by simpa [Array.getD_eq_getD_getElem?] using hb
   rcases yq acc i _ 0 mT with hz | ⟨e,he,heb,hi⟩
   ·simp at hz
   ·have vQ:=jX e (by simpa using he) heb
    rcases hi with rfl | hi
    ·exact vQ
    ·by_cases hes:e.on < acc.size
     ·have:e.on < ops.size:=by
       have:=hl 0
       have h1:=(Array.getElem?_eq_some_iff.1 h0).1
       omega
      have hoe:ops[e.on]? = some ops[e.on]:=Array.getElem?_eq_getElem this
      exact h e.on i hes hi listed hc _ hoe (hc e.on _ hoe vQ)
     ·rw [Array.getD_eq_getD_getElem?,Array.getElem?_eq_none (by omega)] at hi
      simp at hi
theorem bubble {ks:Array Nat} {S:World→Prop} {Q:Exit→Act→World→Prop} {j:Nat} {oj:Oper} (hj:ops[j]? = some oj) (hsel:Region.noSelect ops = true) (hkj:kf oj (ks.getD j 3) = true) :
  ∀(R:List Nat) (a:Act) (w:World),
   (∀i∈R,∃oi,ops[i]? = some oi∧kf oi (ks.getD i 3) = true∧aN (ks.getD i 3) (ks.getD j 3) (sh oj) = true∧oi.apart ops oj = true) →
   ∀T,wpR P ops ks S Q (R ++ j :: T) a w→eo P ops ks S j (wpR P ops ks S Q (R ++ T)) a w
 | [],a,w,_,T,h=>h
 | i :: R,a,w,hR,T,h=>by
  obtain ⟨oi,Et,Ap,hp,hap⟩:=hR i (List.mem_cons_self ..)
  refine swap Et hj (fun cs b=>Region.noSelect_spec hsel i oi cs b Et) (fun cs b=>Region.noSelect_spec hsel j oj cs b hj) hap Ap hkj hp ?_
  exact xb (fun a' w' h'=>bubble hj hsel hkj R a' w' (fun k hk=>hR k (List.mem_cons_of_mem _ hk)) T h') h
def bef:List Nat→Nat→Nat→Bool
 | [],_,_=>false
 | x :: l,i,j=>if x == i then l.contains j else bef l i j
theorem wb {i j:Nat}:∀{R T:List Nat},i∈R→j∈T→bef (R ++ T) i j = true
 | x :: R,T,hi,hj=>by
  simp only [List.cons_append,bef]
  by_cases hx:x = i
  ·simp [hx,hj]
  ·rw [if_neg (by simpa using hx)]
   exact wb ((List.mem_cons.1 hi).resolve_left (Ne.symm hx)) hj
theorem wd {i j k:Nat}:∀{R T:List Nat},i≠k→bef (R ++ T) i j = true→bef (R ++ k :: T) i j = true
 | [],T,hk,h=>by simp only [List.nil_append,bef] at *;rw [if_neg (by simpa using Ne.symm hk)];exact h
 | x :: R,T,hk,h=>by
  simp only [List.cons_append,bef] at *
  by_cases hx:x = i
  ·simp only [hx,beq_self_eq_true,if_true,List.contains_eq_mem,List.mem_append,List.mem_cons,decide_eq_true_eq] at *
   rcases h with h | h
   ·exact .inl h
   ·exact .inr (.inr h)
  ·rw [if_neg (by simpa using hx)] at *
   exact wd hk h
theorem kz {i j:Nat}:∀{l:List Nat},bef l i j = true→i∈l∧j∈l
 | x :: l,h=>by
  simp only [bef] at h
  by_cases hx:x = i
  ·rw [if_pos (by simpa using hx)] at h
   exact ⟨by simp [hx],List.mem_cons_of_mem _ (by simpa using h)⟩
  ·rw [if_neg (by simpa using hx)] at h
   have:=kz h
   exact ⟨List.mem_cons_of_mem _ this.1,List.mem_cons_of_mem _ this.2⟩
theorem rh {i j:Nat}:∀{l:List Nat},i∈l→j∈l→i≠j→bef l i j = true∨bef l j i = true
 | x :: l,hi,hj,jO=>by
  simp only [bef]
  by_cases hx:x = i
  ·left
   have:j∈l:=(List.mem_cons.1 hj).resolve_left (fun h=>jO (hx.symm.trans h.symm))
   simp [hx,this]
  ·by_cases hy:x = j
   ·right
    have:i∈l:=(List.mem_cons.1 hi).resolve_left (Ne.symm hx)
    simp [hy,this]
   ·rw [if_neg (by simpa using hx),if_neg (by simpa using hy)]
    exact rh ((List.mem_cons.1 hi).resolve_left (Ne.symm hx)) ((List.mem_cons.1 hj).resolve_left (Ne.symm hy)) jO
theorem eq {i j k:Nat}:∀{l:List Nat},l.Nodup→bef l i j = true→bef l j k = true→bef l i k = true
 | x :: l,hd,h1,h2=>by
  obtain ⟨Aw,hd'⟩:=List.nodup_cons.1 hd
  simp only [bef] at *
  by_cases hx:x = i
  ·rw [if_pos (by simpa using hx)] at h1 ⊢
   by_cases hy:x = j
   ·subst hy;exact absurd (by simpa using h1) Aw
   ·rw [if_neg (by simpa using hy)] at h2
    simpa using (kz h2).2
  ·rw [if_neg (by simpa using hx)] at h1 ⊢
   by_cases hy:x = j
   ·subst hy;exact absurd (kz h1).2 Aw
   ·rw [if_neg (by simpa using hy)] at h2
    exact eq hd' h1 h2
theorem fy {i:Nat}:∀{l:List Nat},l.Nodup→bef l i i = false
 | [],_=>rfl
 | x :: l,hd=>by
  obtain ⟨Aw,hd'⟩:=List.nodup_cons.1 hd
  simp only [bef]
  by_cases hx:x = i
  ·subst hx;simpa using Aw
  ·rw [if_neg (by simpa using hx)];exact fy hd'
def pz (ops:Array Oper):Array Bool→List Nat→Prop
 | listed,[]=>∀i,i < ops.size→listed.getD i false = true
 | listed,j :: τ=>j∈Region.ready .any ops listed∧pz ops (listed.setIfInBounds j true) τ
theorem nt {listed:Array Bool} {j:Nat} (h:j∈Region.ready .any ops listed):j < ops.size:=by
 obtain ⟨_,o,ho,_⟩:=mem_ready.1 h
 exact (Array.getElem?_eq_some_iff.1 ho).1
theorem ti {listed:Array Bool} {j:Nat} (lY:listed.size = ops.size) (h:j∈Region.ready .any ops listed):listed.getD j false = false:=by
 have jF:=nt h
 obtain ⟨h0,_⟩:=mem_ready.1 h
 have Gp:j < listed.size:=by omega
 simp [Array.getD_eq_getD_getElem?,Array.getElem?_eq_getElem Gp] at h0 ⊢;exact h0
theorem zp:∀{τ:List Nat} {listed:Array Bool},listed.size = ops.size→pz ops listed τ→∀k∈τ,k < ops.size∧listed.getD k false = false
 | j :: τ,listed,lY,⟨hj,hs⟩,k,hk=>by
  rcases List.mem_cons.1 hk with rfl | hk
  ·exact ⟨nt hj,ti lY hj⟩
  ·obtain ⟨h1,h2⟩:=zp (by simpa using lY) hs k hk
   refine ⟨h1,?_⟩
   by_cases hkj:j = k
   ·subst hkj;exact ti lY hj
   ·rwa [getD_set_ne false hkj] at h2
theorem lv:∀{τ:List Nat} {listed:Array Bool},listed.size = ops.size→pz ops listed τ→∀k,k < ops.size→listed.getD k false = false→k∈τ
 | [],listed,_,hs,k,hk,h=>by rw [hs k hk] at h;cases h
 | j :: τ,listed,lY,⟨hj,hs⟩,k,hk,h=>by
  by_cases hkj:j = k
  ·subst hkj;exact List.mem_cons_self ..
  ·exact List.mem_cons_of_mem _ (lv (by simpa using lY) hs k hk (by rw [getD_set_ne false hkj];exact h))
theorem ms:∀{τ:List Nat} {listed:Array Bool},listed.size = ops.size→pz ops listed τ→τ.Nodup
 | [],_,_,_=>List.nodup_nil
 | j :: τ,listed,lY,⟨hj,hs⟩=>by
  refine List.nodup_cons.2 ⟨fun hm=>?_,ms (by simpa using lY) hs⟩
  have:=(zp (by simpa using lY) hs j hm).2
  have jF:=nt hj
  rw [Array.getD_eq_getD_getElem?,Array.getElem?_setIfInBounds_self_of_lt (by omega)] at this
  cases this
theorem dN {listed:Array Bool} {j:Nat} (hj:j∈Region.ready .any ops listed) (hc:tr ops listed):tr ops (listed.setIfInBounds j true):=by
 obtain ⟨_,oj,Gv,jX⟩:=mem_ready.1 hj
 intro k ok nS hk e he hb
 by_cases hkj:j = k
 ·subst hkj
  have:ok = oj:=Option.some.inj (nS.symm.trans Gv)
  subst this
  exact getD_set_true (jX e he hb)
 ·rw [getD_set_ne false hkj] at hk
  exact getD_set_true (hc k ok nS hk e he hb)
theorem st {m:Array Nat} (hm:vc ops m) (hms:m.size = ops.size):∀{τ:List Nat} {listed:Array Bool},listed.size = ops.size→tr ops listed→pz ops listed τ →
  ∀i j,j∈τ→(m.getD j 0).testBit i = true→listed.getD i false = true∨bef τ i j = true
 | k :: τ,listed,lY,hc,⟨hk,hs⟩,i,j,hj,hb=>by
  rcases List.mem_cons.1 hj with rfl | hj
  ·obtain ⟨_,o,ho,jX⟩:=mem_ready.1 hk
   exact .inl (hm j i (by have:=nt hk;omega) hb listed hc o ho jX)
  ·rcases st hm hms (by simpa using lY) (dN hk hc) hs i j hj hb with h | h
   ·by_cases Ap:k = i
    ·right;simp [bef,Ap,hj]
    ·rw [getD_set_ne false Ap] at h;exact .inl h
   ·right
    simp only [bef]
    by_cases Ap:k = i
    ·simp [Ap,hj]
    ·rw [if_neg (by simpa using Ap)];exact h
def cnt (listed:Array Bool):Nat:=listed.toList.countP (fun b=>!b)
theorem cnt_set {listed:Array Bool} {j:Nat} (hj:j < listed.size) (h:listed.getD j false = false):cnt (listed.setIfInBounds j true)+1 = cnt listed:=by
 unfold cnt
 have hb:listed[j] = false:=by simpa [Array.getD_eq_getD_getElem?,hj] using h
 have Bh:0 < listed.toList.countP (fun b=>!b):=List.countP_pos_iff.2 ⟨listed[j],by simp,by simp [hb]⟩
 rw [Array.toList_setIfInBounds,List.countP_set (by simpa using hj)]
 have hj2:listed.toList[j]'(by simpa using hj) = false:=by simpa using hb
 rw [hj2]
 simp only [Bool.not_false,Bool.not_true,if_true,Bool.false_eq_true,if_false,Nat.add_zero]
 omega
theorem cnt_zero {listed:Array Bool} (h:cnt listed = 0) (i:Nat) (hi:i < listed.size):listed.getD i false = true:=by
 unfold cnt at h
 have:=List.countP_eq_zero.1 h listed[i] (by simp)
 simpa [Array.getD_eq_getD_getElem?,hi] using this
theorem cN (tF:∀(j:Nat) oj,ops[j]? = some oj→∀e∈oj.after,Region.binds .any e = true→e.on < j):∀(fuel t:Nat) (listed:Array Bool),listed.size = ops.size→cnt listed≤fuel →
  pz ops listed (Region.linearise.go .any ops fuel t listed []):=by
 intro fuel
 induction fuel with
 | zero =>
  intro t listed lY hc
  simp only [Region.linearise.go,List.reverse_nil]
  exact fun i hi=>cnt_zero (by omega) i (by omega)
 | succ fuel ih =>
  intro t listed lY hc
  simp only [Region.linearise.go]
  change pz ops listed (match (Region.ready .any ops listed)[t % (Region.ready .any ops listed).length]? with
   | some i=>Region.linearise.go .any ops fuel (t / (Region.ready .any ops listed).length) (listed.setIfInBounds i true) [i]
   | none=>[].reverse)
  cases hi:(Region.ready .any ops listed)[t % (Region.ready .any ops listed).length]? with
  | none =>
   have hnil:Region.ready .any ops listed = []:=by
    cases hr:Region.ready .any ops listed with
    | nil=>rfl
    | cons x xs =>
     rw [hr] at hi
     have jF:t % (x :: xs).length < (x :: xs).length:=Nat.mod_lt _ (by simp)
     simp at hi
     simp at jF
     omega
   simp only [List.reverse_nil]
   intro i qG
   cases hl:listed.getD i false with
   | true=>rfl
   | false =>
    exfalso
    have:∀k,k < ops.size→listed.getD k false = false→False:=by
     intro k
     induction k using Nat.strongRecOn with
     | _ k ihk =>
      intro hk hl
      have ho:=Array.getElem?_eq_getElem hk
      have Gr:k∈Region.ready .any ops listed:=by
       refine mem_ready.2 ⟨?_,_,ho,fun e he hb=>?_⟩
       ·have Gp:k < listed.size:=by omega
        simp [Array.getD_eq_getD_getElem?,Array.getElem?_eq_getElem Gp] at hl ⊢;exact hl
       ·have jF:=tF k _ ho e he hb
        cases Aq:listed.getD e.on false with
        | true=>rfl
        | false=>exact (ihk e.on jF (by omega) Aq).elim
      rw [hnil] at Gr
      cases Gr
    exact this i qG hl
  | some j =>
   simp only []
   have hj:=List.mem_of_getElem? hi
   rw [linearise_go_acc,List.reverse_singleton,List.singleton_append]
   refine ⟨hj,ih _ _ (by simpa using lY) ?_⟩
   have:=cnt_set (listed:=listed) (j:=j) (by have:=nt hj;omega) (ti lY hj)
   omega
def freeB (ops:Array Oper) (ks:Array Nat) (i j:Nat):Bool :=
 match ops[i]?,ops[j]? with
 | some oi,some oj=>aN (ks.getD i 3) (ks.getD j 3) (sh oj) && oi.apart ops oj
 | _,_=>false
theorem ox {ks:Array Nat} {S:World→Prop} {Q:Exit→Act→World→Prop} (hsel:Region.noSelect ops = true) (qH:∀j oj,ops[j]? = some oj→kf oj (ks.getD j 3) = true) :
  ∀(τ:List Nat) (listed:Array Bool) (L:List Nat) (a:Act) (w:World),listed.size = ops.size→pz ops listed τ→L.Nodup→(∀i,i∈L↔(i < ops.size∧listed.getD i false = false)) →
   (∀i j,bef L i j = true→bef τ j i = true→freeB ops ks i j = true)→wpR P ops ks S Q L a w→wpOps P ops Q τ a w
 | [],listed,L,a,w,lY,hs,pM,hL,hag,h=>by
  have:L = []:=by
   refine List.eq_nil_iff_forall_not_mem.2 fun i hi=>?_
   obtain ⟨h1,h2⟩:=(hL i).1 hi
   rw [hs i h1] at h2
   cases h2
  subst this
  exact h
 | j :: τ,listed,L,a,w,lY,⟨hj,hs⟩,pM,hL,hag,h=>by
  have Dp:j∈L:=(hL j).2 ⟨nt hj,ti lY hj⟩
  obtain ⟨R,T,rfl⟩:=List.append_of_mem Dp
  obtain ⟨_,oj,Gv,_⟩:=mem_ready.1 hj
  have GH:(listed.setIfInBounds j true).size = ops.size:=by simpa using lY
  have hjR:j∉R:=fun hm=>by
   have:=(List.nodup_append.1 pM).2.2 j hm j (List.mem_cons_self ..)
   exact this rfl
  have hjT:j∉T:=(List.nodup_cons.1 (List.nodup_append.1 pM).2.1).1
  have hjτ:j∉τ:=(List.nodup_cons.1 (ms (listed:=listed) lY (show pz ops listed (j :: τ) from ⟨hj,hs⟩))).1
  have nK:=bubble (P:=P) (ks:=ks) (S:=S) (Q:=Q) Gv hsel (qH j oj Gv) R a w (fun i hi=>by
   have yY:=(hL i).1 (List.mem_append_left _ hi)
   have pI:i≠j:=fun e=>hjR (e ▸ hi)
   have hiτ:i∈τ:=lv GH hs i yY.1 (by rw [getD_set_ne false (Ne.symm pI)];exact yY.2)
   have tP:=hag i j (wb hi (List.mem_cons_self ..)) (by simp [bef,hiτ])
   have Et:=Array.getElem?_eq_getElem yY.1
   simp only [freeB,Et,Gv,Bool.and_eq_true] at tP
   exact ⟨_,Et,qH i _ Et,tP.1,tP.2⟩) T h
  rw [wpOps_cons]
  refine yj (xb (fun a' w' h'=>ox hsel qH τ (listed.setIfInBounds j true) (R ++ T) a' w' GH hs ?_ ?_ ?_ h') nK)
  ·rw [List.nodup_append] at pM ⊢
   exact ⟨pM.1,(List.nodup_cons.1 pM.2.1).2,fun x hx y hy=>pM.2.2 x hx y (List.mem_cons_of_mem _ hy)⟩
  ·intro i
   by_cases pI:i = j
   ·subst pI
    constructor
    ·intro hm
     rcases List.mem_append.1 hm with hm | hm
     ·exact absurd hm hjR
     ·exact absurd hm hjT
    ·rintro ⟨h1,hf⟩
     exfalso
     have Gp:i < listed.size:=by omega
     simp [Array.getD_eq_getD_getElem?,Gp] at hf
   ·rw [getD_set_ne false (Ne.symm pI),← hL i]
    simp only [List.mem_append,List.mem_cons,pI,false_or]
  ·intro x y wR BY
   have hx:x≠j:=fun e=>by
    subst e
    rcases List.mem_append.1 (kz wR).1 with hm | hm
    ·exact hjR hm
    ·exact hjT hm
   have hy:y≠j:=fun e=>by subst e;exact hjτ (kz BY).1
   refine hag x y (wd hx wR) ?_
   simp only [bef]
   rw [if_neg (by simpa using Ne.symm hy)]
   exact BY
def gd (ops:Array Oper) (ks:Array Nat) (L:List Nat) (i j:Nat) (first:Bool):Bool :=
 if bef L i j then first || freeB ops ks i j else !first || freeB ops ks j i
def yr:Nat→List (List Bool)
 | 0=>[[]]
 | n+1=>(yr n).flatMap fun l=>[true :: l,false :: l]
theorem uc:∀(l:List Bool),l∈yr l.length
 | []=>by simp [yr]
 | b :: l=>by
  simp only [yr,List.length_cons,List.mem_flatMap]
  exact ⟨l,uc l,by cases b <;> simp⟩
def ju (m:Array Nat) (i j:Nat):Bool:=i == j || (m.getD j 0).testBit i
def jt (l:List Oper) (ks:Array Nat) (Ls:List (List Nat)):Bool :=
 let ops:=l.toArray
 let m:=il l
 let n:=l.length
 let un:List (Nat × Nat):=(List.range n).flatMap fun j=>((List.range j).filter fun i=>!(m.getD j 0).testBit i).map fun i=>(i,j)
 let C:=un.filter fun (i,j)=>Ls.any fun L=>!(gd ops ks L i j true && gd ops ks L i j false)
 Region.noSelect ops &&
 (l.zipIdx.all fun (oj,j)=>kf oj (ks.getD j 3) && (oj.after.all fun e=>!Region.binds .any e || decide (e.on < j))) &&
 (Ls.all fun L=>decide L.Nodup && ((List.range n).all fun i=>L.contains i) && (L.all fun i=>decide (i < n)) && (List.range n).all fun j=>(List.range j).all fun i=>!(m.getD j 0).testBit i || bef L i j) &&
 (yr C.length).all fun σ =>
  (Ls.any fun L=>(C.zip σ).all fun (p,b)=>gd ops ks L p.1 p.2 b) ||
  ((C.zip σ).any fun (p,b)=>(C.zip σ).any fun (q,c) =>
   let x:=if b then p.1 else p.2
   let y:=if b then p.2 else p.1
   let u:=if c then q.1 else q.2
   let v:=if c then q.2 else q.1
   ju m y u && ju m v x)
theorem wh (l:List Oper):(il l).size = l.length:=by
 have:∀(l:List Oper) (acc:Array Nat),(l.foldl (fun acc o=>acc.push (aD acc o)) acc).size = acc.size+l.length:=by
  intro l
  induction l with
  | nil=>intro acc;simp
  | cons o l ih=>intro acc;simp [ih];omega
 unfold il
 simpa using this l #[]
theorem bS (l:List Oper):vc l.toArray (il l):=za l.toArray l #[] (by simp) (fun j i hj=>by simp at hj)
theorem aL {l:List Oper} {ks:Array Nat} {Ls:List (List Nat)} (h:jt l ks Ls = true) {Q:Exit→Act→World→Prop} {S:World→Prop} {a:Act} {w:World}
  (hL:∀L∈Ls,wpR P l.toArray ks S Q L a w) (t:Nat):wpOps P l.toArray Q (Region.linearise .any l.toArray t) a w:=by
 simp only [jt,Bool.and_eq_true] at h
 obtain ⟨⟨⟨hs,Dz⟩,CS⟩,hσ⟩:=h
 have at_:∀(j:Nat) oj,l[j]? = some oj→(oj,j)∈l.zipIdx:=fun j oj hj=>by
  rw [List.mem_iff_getElem?];exact ⟨j,by simp [List.getElem?_zipIdx,hj]⟩
 have row:∀(j:Nat) oj,l[j]? = some oj→_:=fun j oj hj=>List.all_eq_true.1 Dz (oj,j) (at_ j oj hj)
 simp only [Bool.and_eq_true] at row
 have qH:∀(j:Nat) oj,l.toArray[j]? = some oj→kf oj (ks.getD j 3) = true:=fun j oj hj=>(row j oj (by simpa using hj)).1
 have tF:∀(j:Nat) oj,l.toArray[j]? = some oj→∀e∈oj.after,Region.binds .any e = true→e.on < j:=fun j oj hj e he hb=>by
  have:=(row j oj (by simpa using hj)).2
  have:=Array.all_eq_true_iff_forall_mem.1 this e he
  simpa [hb] using this
 have oS:pz l.toArray (Array.replicate l.toArray.size false) (Region.linearise .any l.toArray t):=by
  unfold Region.linearise
  refine cN tF _ t _ (by simp) ?_
  unfold cnt
  have:=List.countP_le_length (p:=fun b=>!b) (l:=(Array.replicate l.toArray.size false).toList)
  simpa using this
 have nH:tr l.toArray (Array.replicate l.toArray.size false):=by
  intro j o hj hl
  exfalso
  rcases Nat.lt_or_ge j l.length with jF | qE
  ·simp [Array.getD_eq_getD_getElem?,jF] at hl
  ·simp [Array.getD_eq_getD_getElem?,Nat.not_lt.2 qE] at hl
 have Bk:∀i,(Array.replicate l.toArray.size false).getD i false = false:=fun i=>by
  rcases Nat.lt_or_ge i l.length with jF | qE
  ·simp [Array.getD_eq_getD_getElem?,jF]
  ·simp [Array.getD_eq_getD_getElem?,Nat.not_lt.2 qE]
 generalize Region.linearise .any l.toArray t = τ at *
 have EK:∀i j,i < l.length→j < l.length→((il l).getD j 0).testBit i = true→bef τ i j = true:=fun i j hi hj hb=>by
  rcases st (bS l) (by simpa using wh l) (by simp) nH oS i j (lv (by simp) oS j (by simpa using hj) (Bk j)) hb with h | h
  ·rw [Bk] at h;cases h
  ·exact h
 have tM:=ms (by simp) oS
 have qL:∀i,i < l.length→i∈τ:=fun i hi=>lv (by simp) oS i (by simpa using hi) (Bk i)
 generalize hC:(List.filter (fun x:Nat × Nat=>Ls.any fun L=>!(gd l.toArray ks L x.1 x.2 true && gd l.toArray ks L x.1 x.2 false))
   ((List.range l.length).flatMap fun j=>((List.range j).filter fun i=>!((il l).getD j 0).testBit i).map fun i=>(i,j))) = C at hσ
 have El:∀p∈C,p.1 < p.2∧p.2 < l.length:=fun p hp=>by
  rw [← hC] at hp
  obtain ⟨hp,_⟩:=List.mem_filter.1 hp
  obtain ⟨j,hj,hp⟩:=List.mem_flatMap.1 hp
  obtain ⟨i,hi,rfl⟩:=List.mem_map.1 hp
  exact ⟨by simpa using (List.mem_range.1 (List.mem_filter.1 hi).1),by simpa using hj⟩
 have sC:=List.all_eq_true.1 hσ (C.map fun p=>bef τ p.1 p.2) (by have:=uc (C.map fun p=>bef τ p.1 p.2);simpa using this)
 have DO:C.zip (C.map fun p=>bef τ p.1 p.2) = C.map fun p=>(p,bef τ p.1 p.2):=by
  clear hC El hσ sC
  induction C with
  | nil=>rfl
  | cons p C ih=>simp [ih]
 rw [DO] at sC
 simp only [Bool.or_eq_true] at sC
 rcases sC with sC | sC
 ·obtain ⟨L,CR,hLC⟩:=List.any_eq_true.1 sC
  have yJ:=List.all_eq_true.1 CS L CR
  simp only [Bool.and_eq_true,decide_eq_true_eq] at yJ
  obtain ⟨⟨⟨pM,jN⟩,jF⟩,zE⟩:=yJ
  have uQ:∀i∈L,i < l.length:=fun i hi=>by simpa using List.all_eq_true.1 jF i hi
  have jX:∀i,i < l.length→i∈L:=fun i hi=>by simpa using List.all_eq_true.1 jN i (by simpa using hi)
  refine ox hs qH τ _ L a w (by simp) oS pM (fun i=>⟨fun hi=>⟨by simpa using uQ i hi,Bk i⟩,fun hi=>jX i (by simpa using hi.1)⟩) ?_ (hL L CR)
  intro i j pI Gl
  have yY:=uQ i (kz pI).1
  have Dp:=uQ j (kz pI).2
  have jO:i≠j:=fun e=>by subst e;rw [fy pM] at pI;cases pI
  have uR:bef L j i = false:=by
   cases hb:bef L j i with
   | false=>rfl
   | true=>have:=eq pM pI hb;rw [fy pM] at this;cases this
  have Dw:bef τ i j = false:=by
   cases hb:bef τ i j with
   | false=>rfl
   | true=>have:=eq tM hb Gl;rw [fy tM] at this;cases this
  have m1:((il l).getD j 0).testBit i = false:=by
   cases hb:((il l).getD j 0).testBit i with
   | false=>rfl
   | true=>rw [EK i j yY Dp hb] at Dw;cases Dw
  have m2:i > j→((il l).getD i 0).testBit j = false:=fun qF=>by
   cases hb:((il l).getD i 0).testBit j with
   | false=>rfl
   | true =>
    have:=List.all_eq_true.1 (List.all_eq_true.1 zE i (by simpa using yY)) j (by simpa using qF)
    rw [hb] at this
    simp only [Bool.not_true,Bool.false_or] at this
    rw [this] at uR;cases uR
  have key:∀x y,x < y→y < l.length→((il l).getD y 0).testBit x = false→∀b,bef τ x y = b→gd l.toArray ks L x y b = true:=by
   intro x y wR hy hb b Aj
   by_cases yZ:(x,y)∈C
   ·have:=List.all_eq_true.1 hLC ((x,y),bef τ x y) (List.mem_map.2 ⟨(x,y),yZ,rfl⟩)
    rw [← Aj];exact this
   ·have Dv:¬ (Ls.any fun L=>!(gd l.toArray ks L x y true && gd l.toArray ks L x y false)) = true:=fun CW=>yZ (by
     rw [← hC]
     refine List.mem_filter.2 ⟨List.mem_flatMap.2 ⟨y,List.mem_range.2 hy,List.mem_map.2 ⟨x,List.mem_filter.2 ⟨List.mem_range.2 wR,by simp only [hb,Bool.not_false]⟩,rfl⟩⟩,CW⟩)
    have h2:(gd l.toArray ks L x y true && gd l.toArray ks L x y false) = true:=by
     cases kU:(gd l.toArray ks L x y true && gd l.toArray ks L x y false) with
     | true=>rfl
     | false=>exact absurd (List.any_eq_true.2 ⟨L,CR,by rw [kU];rfl⟩) Dv
    rw [Bool.and_eq_true] at h2
    cases b
    ·exact h2.2
    ·exact h2.1
  rcases Nat.lt_or_gt_of_ne jO with pK | hgt1
  ·have:=key i j pK Dp m1 false Dw
   simpa [gd,pI] using this
  ·have:=key j i hgt1 yY (m2 hgt1) true Gl
   simpa [gd,uR] using this
 ·exfalso
  obtain ⟨⟨p,b⟩,hp,h2⟩:=List.any_eq_true.1 sC
  obtain ⟨⟨q,c⟩,hq,h3⟩:=List.any_eq_true.1 h2
  obtain ⟨p',nM,Gx⟩:=List.mem_map.1 hp
  obtain ⟨q',pN,Gz⟩:=List.mem_map.1 hq
  injection Gx with e1 e2
  injection Gz with e3 e4
  subst e1;subst e3
  have bound:∀p∈C,∀b,bef τ p.1 p.2 = b→bef τ (if b then p.1 else p.2) (if b then p.2 else p.1) = true∧(if b then p.1 else p.2) < l.length∧(if b then p.2 else p.1) < l.length:=fun p hp b hb=>by
   obtain ⟨h1,h2⟩:=El p hp
   cases b
   ·refine ⟨?_,by simpa using h2,by simp;omega⟩
    rcases rh (qL p.1 (by omega)) (qL p.2 h2) (by omega) with h | h
    ·rw [h] at hb;cases hb
    ·simpa using h
   ·exact ⟨by simpa using hb,by simp;omega,by simpa using h2⟩
  obtain ⟨b1,b2,b3⟩:=bound _ nM b e2
  obtain ⟨c1,c2,c3⟩:=bound _ pN c e4
  simp only [Bool.and_eq_true] at h3
  have reach:∀i j,i < l.length→j < l.length→ju (il l) i j = true→i = j∨bef τ i j = true:=fun i j hi hj h=>by
   simp only [ju,Bool.or_eq_true,beq_iff_eq] at h
   rcases h with h | h
   ·exact .inl h
   ·exact .inr (EK i j hi hj h)
  have step1:bef τ (if b then p'.1 else p'.2) (if c then q'.1 else q'.2) = true:=by
   rcases reach _ _ b3 c2 h3.1 with e | e
   ·rw [← e];exact b1
   ·exact eq tM b1 e
  have step2:=eq tM step1 c1
  have:=(by
   rcases reach _ _ c3 b2 h3.2 with e | e
   ·rw [e] at step2;exact step2
   ·exact eq tM step2 e:bef τ (if b then p'.1 else p'.2) (if b then p'.1 else p'.2) = true)
  rw [fy tM] at this
  cases this
def wpT (P:Program) (ops:Array Oper) (S:World→Prop) (Q:Exit→Act→World→Prop):List Oper→List Nat→Act→World→Prop
 | [],_,a,w=>Q .normal a w
 | o :: rest,ks,a,w =>
  if Region.wanted o (yielded ops a.tmps) = true then
   if ks.headD 3 = 0 then ∃v,(∀w',(execOp a.eval o).run P w' = .ok (.value v) w')∧wpT P ops S Q rest ks.tail (a.put o.dst v) w
   else if ks.headD 3 = 5 then S w∧∃v,(∀w',S w'→StillAt P o a.eval w' v)∧wpT P ops S Q rest ks.tail (a.put o.dst v) w
   else if ks.headD 3 = 6 then S w∧o.wp P a w (fun a' w'=>S w'∧wpT P ops S Q rest ks.tail a' w') NoQ
   else o.wp P a w (wpT P ops S Q rest ks.tail) NoQ
  else wpT P ops S Q rest ks.tail (a.put o.dst undef) w
theorem wpT_eq {S:World→Prop} {Q:Exit→Act→World→Prop} {ks:Array Nat}:∀(L:List Nat) (l:List Oper),L.map (fun i=>ops[i]?) = l.map some →
  wpT P ops S Q l (L.map fun i=>ks.getD i 3) = wpR P ops ks S Q L
 | [],[],_=>rfl
 | [],_ :: _,h=>by cases h
 | _ :: _,[],h=>by cases h
 | i :: L,o :: l,h=>by
  simp only [List.map_cons,List.cons.injEq] at h
  have ih:=wpT_eq (S:=S) (Q:=Q) (ks:=ks) L l h.2
  funext a w
  simp only [List.map_cons,wpR,wpT,eo,h.1,List.headD_cons,List.tail_cons,ih]
theorem ul {id:Nat} {l:List Oper} {Q:Exit→Act→World→Prop} {a:Act} {w:World} (ks:List Nat) (Ls:List (List Nat)) (S:World→Prop) (hm:P.follows .mixedOrders = true)
  (hB:jt l ks.toArray Ls = true) (h:∀L∈Ls,wpR P l.toArray ks.toArray S Q L a w.drew):(Code.region id l.toArray true).wp P Q a w :=
 wp_region_draw fun t=>by
  simp only [Region.schedule,hm,Bool.true_or,if_true]
  exact aL hB h t
def OkAny {α:Type} (P:Program) (s:Sem α):Prop:=∀w x w',s.run P w = .ok x w'→w' = w∧∀w2,s.run P w2 = .ok x w2
def NeverOk {α:Type} (P:Program) (s:Sem α):Prop:=∀w x w',s.run P w≠.ok x w'
theorem NeverOk.any {α:Type} {P:Program} {s:Sem α} (h:NeverOk P s):OkAny P s:=fun w x w' hr=>absurd hr (h w x w')
theorem NeverOk.halt {α:Type} (P:Program) (x:Halt):NeverOk P (Sem.halt x:Sem α):=fun w y w' h=>by simp only [Sem.run] at h;cases h
theorem NeverOk.bind {α β:Type} {P:Program} {s:Sem α} {f:α→Sem β} (hf:∀x,NeverOk P (f x)):NeverOk P (s >>= f):=fun w x w' h=>by
 simp only [Sem.run_bind] at h
 cases hr:s.run P w with
 | halt e w1=>rw [hr] at h;cases h
 | ok y w1=>rw [hr] at h;exact hf y w1 x w' h
theorem NeverOk.runtimePanic {α:Type} (P:Program) (e:RuntimeError):NeverOk P (runtimePanic e:Sem α):=by
 unfold Go.runtimePanic
 refine NeverOk.bind fun p=>?_
 cases e <;> repeat' (first
  | exact NeverOk.halt P _
  | (refine NeverOk.bind fun _=>?_)
  | dsimp only)
theorem NeverOk.boundsPanic {α:Type} (P:Program) (k:IntKind) (x y:Int) (c:BoundsCode):NeverOk P (boundsPanic k x y c:Sem α):=by
 unfold Go.boundsPanic
 dsimp only
 split <;> exact NeverOk.bind fun _=>NeverOk.runtimePanic P _
theorem OkAny.pure {α:Type} (P:Program) (x:α):OkAny P (Sem.pure x):=fun w y w' h=>by
 simp only [Sem.run] at h
 cases h
 exact ⟨rfl,fun w2=>rfl⟩
theorem OkAny.halt {α:Type} (P:Program) (x:Halt):OkAny P (Sem.halt x:Sem α):=(NeverOk.halt P x).any
theorem OkAny.program {α:Type} {P:Program} {k:Program→Sem α} (hk:∀p,OkAny P (k p)):OkAny P (.program k):=fun w x w' h=>by
 simp only [Sem.run] at h ⊢
 exact hk P w x w' h
theorem OkAny.bind {α β:Type} {P:Program} {s:Sem α} {f:α→Sem β} (hs:OkAny P s) (hf:∀x,OkAny P (f x)):OkAny P (s >>= f):=fun w x w' h=>by
 simp only [Sem.run_bind] at h ⊢
 cases hr:s.run P w with
 | halt e w1=>rw [hr] at h;cases h
 | ok y w1 =>
  rw [hr] at h
  obtain ⟨rfl,h1⟩:=hs w y w1 hr
  simp only [Result.andThen] at h
  obtain ⟨e,h2⟩:=hf y _ x w' h
  exact ⟨e,fun w2=>by rw [h1 w2];exact h2 w2⟩
theorem OkAny.typeInfo (P:Program) (t:TypeId):OkAny P (typeInfo t):=by
 unfold Go.typeInfo Go.program
 refine OkAny.bind (OkAny.program fun p=>OkAny.pure P p) fun p=>?_
 split
 ·exact OkAny.pure _ _
 ·exact OkAny.halt _ _
theorem OkAny.underlying (P:Program) (t:TypeId):OkAny P (underlying t):=by
 unfold Go.underlying Go.program
 refine OkAny.bind (OkAny.program fun p=>OkAny.pure P p) fun p=>?_
 split
 ·exact OkAny.pure _ _
 ·exact OkAny.halt _ _
theorem OkAny.sizeOf (P:Program) (t:TypeId):OkAny P (sizeOf t):=by
 unfold Go.sizeOf
 exact OkAny.bind (OkAny.typeInfo P t) fun _=>OkAny.pure _ _
theorem OkAny.isAgg (P:Program) (t:TypeId):OkAny P (isAgg t):=by
 unfold Go.isAgg
 refine OkAny.bind (OkAny.underlying P t) fun _=>?_
 split <;> exact OkAny.pure _ _
theorem OkAny.part (P:Program) (t:TypeId) (cs:Array Value) (n:Nat):OkAny P (part t cs n):=by
 unfold Go.part
 refine OkAny.bind (OkAny.isAgg P t) fun b=>?_
 split
 ·exact OkAny.bind (OkAny.sizeOf P t) fun _=>OkAny.pure _ _
 ·split
  ·exact OkAny.pure _ _
  ·exact OkAny.halt _ _
theorem OkAny.asIntOf (P:Program) (v:Value):OkAny P (asIntOf v):=by
 unfold Go.asIntOf
 split
 ·exact OkAny.pure _ _
 ·exact OkAny.halt _ _
 ·exact OkAny.halt _ _
theorem OkAny.sliceBound (P:Program) (x:Value) (y:Nat) (c:BoundsCode):OkAny P (Instr.sliceBound x y c):=by
 unfold Instr.sliceBound
 refine OkAny.bind (OkAny.asIntOf P x) fun p=>?_
 dsimp only
 split
 ·exact OkAny.pure _ _
 ·exact (NeverOk.boundsPanic P _ _ _ _).any
theorem OkAny.sureAddr (P:Program) (v:Value):OkAny P (Instr.sureAddr v):=by
 unfold Instr.sureAddr
 split
 ·exact OkAny.pure _ _
 ·exact OkAny.halt _ _
theorem OkAny.asAddr (P:Program) (v:Value):OkAny P (asAddr v):=by
 unfold Go.asAddr
 split
 ·exact OkAny.pure _ _
 ·exact (NeverOk.runtimePanic P _).any
 ·exact OkAny.halt _ _
theorem OkAny.sliceBounds (P:Program) (b:Bool) (l c:Nat) (lo hi mx:Option Value):OkAny P (Instr.sliceBounds b l c lo hi mx):=by
 unfold Instr.sliceBounds
 repeat' (first
  | exact OkAny.pure _ _
  | exact OkAny.halt _ _
  | exact OkAny.sliceBound P _ _ _
  | (refine OkAny.bind ?_ fun _=>?_)
  | split
  | dsimp only)
theorem OkAny.slice (P:Program) (t:TypeId) (x:Value) (lo hi mx:Option Value):OkAny P (Instr.slice t x lo hi mx):=by
 unfold Instr.slice
 repeat' (first
  | exact OkAny.pure _ _
  | exact OkAny.halt _ _
  | exact OkAny.underlying P _
  | exact OkAny.sizeOf P _
  | exact OkAny.asAddr P _
  | exact OkAny.sliceBounds P _ _ _ _ _ _
  | (refine OkAny.bind ?_ fun _=>?_)
  | split
  | dsimp only)
theorem OkAny.sliceAt (P:Program) (t:TypeId) (x:Value) (lo hi mx:Option Value):OkAny P (Instr.sliceAt t x lo hi mx):=by
 unfold Instr.sliceAt
 repeat' (first
  | exact OkAny.pure _ _
  | exact OkAny.halt _ _
  | exact OkAny.underlying P _
  | exact OkAny.sizeOf P _
  | exact OkAny.sureAddr P _
  | exact OkAny.slice P _ _ _ _ _
  | exact OkAny.sliceBounds P _ _ _ _ _ _
  | (refine OkAny.bind ?_ fun _=>?_)
  | split
  | dsimp only)
theorem OkAny.indexAt (P:Program) (t:TypeId) (x ix:Value):OkAny P (Instr.indexAt t x ix):=by
 unfold Instr.indexAt
 repeat' (first
  | exact OkAny.pure _ _
  | exact OkAny.halt _ _
  | exact OkAny.underlying P _
  | exact OkAny.sizeOf P _
  | exact OkAny.asIntOf P _
  | exact OkAny.sureAddr P _
  | exact (NeverOk.boundsPanic P _ _ _ _).any
  | (refine OkAny.bind ?_ fun _=>?_)
  | split
  | dsimp only)
theorem OkAny.index (P:Program) (t:TypeId) (x ix:Value):OkAny P (Instr.index t x ix):=by
 unfold Instr.index
 repeat' (first
  | exact OkAny.pure _ _
  | exact OkAny.halt _ _
  | exact OkAny.underlying P _
  | exact OkAny.sizeOf P _
  | exact OkAny.asIntOf P _
  | exact OkAny.part P _ _ _
  | exact (NeverOk.boundsPanic P _ _ _ _).any
  | (refine OkAny.bind ?_ fun _=>?_)
  | split
  | dsimp only)
def qt:Value→Value→Bool
 | .int _ _,.int _ _=>true
 | .bool _,.bool _=>true
 | .string _,.string _=>true
 | _,_=>false
theorem OkAny.equal (P:Program) (t:TypeId) (x y:Bool):OkAny P (Op.equal t (.bool x) (.bool y)):=by
 unfold Op.equal Op.maxDepth Op.equalIn
 refine OkAny.bind (OkAny.underlying P t) fun d=>?_
 split <;> first | exact OkAny.pure _ _ | exact OkAny.halt _ _ | skip
 all_goals (rename_i h;first|(cases h;done) | skip)
 all_goals simp_all
theorem OkAny.binOp (P:Program) (op:BinOp) (t:TypeId) (x y:Value) (h:qt x y = true):OkAny P (binOp op t x y):=by
 unfold qt at h
 split at h
 ·rename_i k a l b
  cases op <;> simp only [Go.binOp,Op.shift,Op.intArith,Op.intDiv,Op.intBits,Op.intCmp] <;> repeat' (first
   | exact OkAny.pure _ _
   | exact OkAny.halt _ _
   | exact (NeverOk.runtimePanic P _).any
   | split)
 ·rename_i a b
  cases op <;> simp only [Go.binOp] <;> repeat' (first
   | exact OkAny.pure _ _
   | exact OkAny.halt _ _
   | exact OkAny.equal P _ _ _
   | (refine OkAny.bind ?_ fun _=>?_))
 ·rename_i a b
  cases op <;> simp only [Go.binOp,Op.stringOp] <;> repeat' (first
   | exact OkAny.pure _ _
   | exact OkAny.halt _ _
   | split)
 ·cases h
theorem OkAny.eqGuard (P:Program) (op:BinOp) (t:TypeId) (x y:Operand) (a b:Value) (h:qt a b = true):OkAny P (eqGuard op t x y a b):=by
 unfold qt at h
 split at h
 ·cases op <;> simp only [Go.eqGuard] <;> exact OkAny.pure _ _
 ·cases op <;> simp only [Go.eqGuard] <;> exact OkAny.pure _ _
 ·cases op <;> simp only [Go.eqGuard] <;> exact OkAny.pure _ _
 ·cases h
def vk (o:Oper) (ρ:Operand→Value):Bool :=
 match o.op with
 | .slice _ _ _ _ _ | .indexAddr _ _ _ | .index _ _ _=>true
 | .binOp _ _ x y _=>qt (ρ x) (ρ y)
 | _=>false
theorem eF {o:Oper} {a:Act} (h:vk o a.eval = true) {w:World} {K:Act→World→Prop} (hh:o.wp P a w K NoQ) :
  ∃v,(∀w',(execOp a.eval o).run P w' = .ok (.value v) w')∧K (a.put o.dst v) w:=by
 obtain ⟨dst,op,type,pos,after,guard⟩:=o
 have key:∀s:Sem Value,OkAny P s→execOp a.eval ⟨dst,op,type,pos,after,guard⟩ = (do let x ← s;Pure.pure (Next.value x)) →
   ∃v,(∀w',(execOp a.eval ⟨dst,op,type,pos,after,guard⟩).run P w' = .ok (.value v) w')∧K (a.put dst v) w:=by
  intro s hs he
  unfold Oper.wp at hh
  rw [he] at hh ⊢
  simp only [Sem.run_bind] at hh ⊢
  cases hr:s.run P w with
  | halt x w1 =>
   rw [hr] at hh
   simp only [Result.andThen] at hh
   cases x <;> simp only [Oper.upon] at hh
   exact hh.elim
  | ok v w1 =>
   rw [hr] at hh
   simp only [Result.andThen,Sem.run_pure,Oper.upon] at hh
   obtain ⟨rfl,h2⟩:=hs w v w1 hr
   exact ⟨v,fun w'=>by rw [h2 w'];rfl,hh⟩
 cases op <;> simp only [vk] at h <;> first|(cases h;done) | skip
 ·exact key _ (OkAny.bind (OkAny.eqGuard P _ _ _ _ _ _ h) fun _=>OkAny.binOp P _ _ _ _ h) rfl
 ·exact key _ (OkAny.sliceAt P _ _ _ _ _) rfl
 ·exact key _ (OkAny.indexAt P _ _ _) rfl
 ·exact key _ (OkAny.index P _ _ _) rfl
theorem wpR_of {ks:Array Nat} {S:World→Prop} {Q:Exit→Act→World→Prop} {L:List Nat} {a:Act} {w:World} (l:List Oper) (ks':List Nat) (h1:L.map (fun i=>ops[i]?) = l.map some) (h2:L.map (fun i=>ks.getD i 3) = ks')
  (h:wpT P ops S Q l ks' a w):wpR P ops ks S Q L a w:=by
 rw [← wpT_eq L l h1,h2]
 exact h
end
end Go.Proofs.YtfoleblcaloeoaaGreatDoor
