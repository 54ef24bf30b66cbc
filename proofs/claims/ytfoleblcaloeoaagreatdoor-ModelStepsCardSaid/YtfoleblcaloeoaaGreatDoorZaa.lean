import Derived.Orders
import Derived.Tactics
import Derived.WalkKit
set_option maxHeartbeats 40000000
set_option maxRecDepth 20000
namespace Go.Proofs.YtfoleblcaloeoaaGreatDoor
open Go Go.RowKit
theorem aa {α:Type} {a b:α} (h:a∈[b]):a = b:=List.mem_singleton.1 h
theorem ab {α:Type} {a:α}:¬ a∈([]:List α):=List.not_mem_nil
variable {p:Prop}
theorem ac [h:Decidable p] (hp:¬p):decide p = false:=decide_eq_false hp
theorem ae [h:Decidable p] (hp:p):decide p = true:=decide_eq_true hp
theorem af (w:World) (o:Obj):(w.alloc o).heap.size = w.heap.size+1:=World.size_alloc w o
variable {c:Prop}
theorem ag {h:Decidable c} (k:¬c) {α:Sort _} {t e:α}:ite c t e = e:=if_neg k
theorem ah {h:Decidable c} (k:c) {α:Sort _} {t e:α}:ite c t e = t:=if_pos k
theorem ai {a b:Prop} (h:a) (k:b):a∧b:=⟨h,k⟩
theorem aj {α:Type} [BEq α] [LawfulBEq α] {a b:α} (h:a≠b):(a == b) = false:=beq_false_of_ne h
theorem al {a b c:Nat} (h:a < b) (k:b≤c):a < c:=Nat.lt_of_lt_of_le h k
theorem ao {α:Type} {l:List α} {n:Nat} (h:n < l.length):l[n]∈l:=List.getElem_mem h
theorem aq {α:Type} {a b:α} (h:some a = some b):a = b:=Option.some.inj h
theorem au {a b c:Nat} (h:a≤b) (k:b≤c):a≤c:=Nat.le_trans h k
end Go.Proofs.YtfoleblcaloeoaaGreatDoor
namespace Go.Proofs.YtfoleblcaloeoaaGreatDoor
open Go
def Ext (w w':World):Prop:=∀(i:Nat) (o:Obj),w.heap[i]? = some o→w'.heap[i]? = some o
theorem Ext.refl (w:World):Ext w w:=fun _ _ h=>h
theorem Ext.trans {a b c:World} (h:Ext a b) (k:Ext b c):Ext a c:=fun i o hi=>k i o (h i o hi)
theorem Ext.push (w:World) (o:Obj):Ext w { w with heap:=w.heap.push o }:=fun i x hi=>by
 have kG:i < w.heap.size:=(Array.getElem?_eq_some_iff.1 hi).1
 show (w.heap.push o)[i]? = some x
 rw [Array.getElem?_push_lt kG]
 rw [Array.getElem?_eq_getElem kG] at hi
 exact hi
theorem Ext.cell {w w':World} (h:Ext w w') {a:Addr} {v:Value} (hc:w.cell? a = some v):w'.cell? a = some v:=by
 unfold World.cell? at *;cases hb:w.heap[a.block]? with
 | none=>rw [hb] at hc;cases hc
 | some o=>rw [hb] at hc;rw [h _ _ hb];exact hc
theorem Ext.seen {P:Program} {w w':World} (h:Ext w w') {a k:Addr} {u:TypeId} {m:Bool} {r:_} (hs:w.seen P a u k m = .ok r):w'.seen P a u k m = .ok r:=by
 unfold World.seen at *;cases hb:w.heap[a.block]? with
 | some o=>rw [hb] at hs;rw [h _ _ hb];exact hs
 | none =>
  exfalso;rw [hb] at hs;simp only [bind,Except.bind] at hs
  repeat' (split at hs)
  all_goals first|(cases hs;done)|(exact absurd hs (by simp))
theorem Ext.viewLoad {P:Program} {w w':World} (h:Ext w w') {a k:Addr} {u:TypeId} {m:Bool} {r:_} (hs:w.viewLoad P a u k m = .ok r):w'.viewLoad P a u k m = .ok r:=by
 unfold World.viewLoad at *;cases hb:w.seen P a u k m with
 | ok x=>rw [hb] at hs;rw [h.seen hb];exact hs
 | error e=>rw [hb] at hs;cases hs
theorem Ext.farLoad {P:Program} {w w':World} (h:Ext w w') {a:Addr} {m:Bool} {r:_} (hs:w.farLoad P a m = .ok r):w'.farLoad P a m = .ok r:=by
 unfold World.farLoad at *;cases hb:w.heap[a.block]? with
 | none=>rw [hb] at hs;cases hs
 | some o =>
  rw [hb] at hs;rw [h _ _ hb];cases o <;> simp only at hs ⊢ <;> try (cases hs;done)
  rename_i at_ u;cases hv:w.viewLoad P at_ u a m with
  | ok x=>rw [hv] at hs;rw [h.viewLoad hv];exact hs
  | error e=>rw [hv] at hs;cases hs
def OkMono {α:Type} (P:Program) (s:Sem α):Prop:=∀w x w',s.run P w = .ok x w'→w' = w∧∀w2,Ext w w2→s.run P w2 = .ok x w2
theorem OkMono.pure {α:Type} (P:Program) (x:α):OkMono P (Sem.pure x):=fun w y w' h=>by
 simp only [Sem.run] at h
 cases h
 exact ⟨rfl,fun w2 _=>rfl⟩
theorem OkMono.halt {α:Type} (P:Program) (x:Halt):OkMono P (Sem.halt x:Sem α):=fun w y w' h=>by
 simp only [Sem.run] at h
 cases h
theorem OkMono.load {α:Type} {P:Program} {m:Mode} {a:Addr} {k:Value→Sem α} (hk:∀v,OkMono P (k v)):OkMono P (.load m a k):=fun w x w' h=>by
 simp only [Sem.run] at h ⊢
 cases hc:w.cell? a with
 | some v =>
  rw [hc] at h
  obtain ⟨e,hh⟩:=hk v w x w' h
  exact ⟨e,fun w2 h2=>by rw [h2.cell hc];exact hh w2 h2⟩
 | none =>
  rw [hc] at h
  cases hf:w.farLoad P a (m == .atomic) with
  | error e=>rw [hf] at h;cases h
  | ok r =>
   obtain ⟨v,l⟩:=r
   rw [hf] at h
   obtain ⟨e,hh⟩:=hk v w x w' h
   refine ⟨e,fun w2 h2=>?_⟩
   have Ep:=h2.farLoad hf
   cases kI:w2.cell? a with
   | none=>simp only [Ep];exact hh w2 h2
   | some u =>
    exfalso
    unfold World.farLoad at Ep
    unfold World.cell? at kI
    cases hb:w2.heap[a.block]? with
    | none=>rw [hb] at kI;cases kI
    | some o =>
     rw [hb] at kI Ep
     cases o <;> simp only at kI Ep <;> first|(cases kI;done)|(cases Ep;done)
theorem OkMono.program {α:Type} {P:Program} {k:Program→Sem α} (hk:∀p,OkMono P (k p)):OkMono P (.program k):=fun w x w' h=>by
 simp only [Sem.run] at h ⊢
 exact hk P w x w' h
variable {P:Program}
theorem OkMono.bind {α β:Type} {s:Sem α} {f:α→Sem β} (hs:OkMono P s) (hf:∀x,OkMono P (f x)):OkMono P (s >>= f):=fun w x w' h=>by
 simp only [Sem.run_bind] at h ⊢
 cases hr:s.run P w with
 | halt e w1=>rw [hr] at h;cases h
 | ok y w1 =>
  rw [hr] at h
  obtain ⟨rfl,h1⟩:=hs w y w1 hr
  simp only [Result.andThen] at h
  obtain ⟨e,h2⟩:=hf y _ x w' h
  exact ⟨e,fun w2 hw=>by rw [h1 w2 hw];exact h2 w2 hw⟩
theorem OkMono.typeInfo (P:Program) (t:TypeId):OkMono P (typeInfo t):=by
 unfold Go.typeInfo Go.program;refine OkMono.bind (OkMono.program fun p=>OkMono.pure P p) fun p=>?_;split
 ·exact OkMono.pure _ _
 ·exact OkMono.halt _ _
theorem OkMono.underlying (P:Program) (t:TypeId):OkMono P (underlying t):=by
 unfold Go.underlying Go.program;refine OkMono.bind (OkMono.program fun p=>OkMono.pure P p) fun p=>?_;split
 ·exact OkMono.pure _ _
 ·exact OkMono.halt _ _
theorem OkMono.sizeOf (P:Program) (t:TypeId):OkMono P (sizeOf t):=by unfold Go.sizeOf;exact OkMono.bind (OkMono.typeInfo P t) fun _=>OkMono.pure _ _
theorem OkMono.isAgg (P:Program) (t:TypeId):OkMono P (isAgg t):=by unfold Go.isAgg;refine OkMono.bind (OkMono.underlying P t) fun _=>?_;split <;> exact OkMono.pure _ _
theorem OkMono.loadCellsFrom (P:Program) (a:Addr):∀(n i:Nat) (acc:Array Value),OkMono P (loadCellsFrom a i n acc)
 | 0,_,_=>OkMono.pure _ _
 | n+1,i,acc=>by
  unfold Go.loadCellsFrom
  exact OkMono.bind (OkMono.load fun v=>OkMono.pure P v) fun v=>OkMono.loadCellsFrom P a n (i+1) (acc.push v)
theorem OkMono.loadVar (P:Program) (t:TypeId) (a:Addr):OkMono P (loadVar t a):=by
 unfold Go.loadVar;refine OkMono.bind (OkMono.isAgg P t) fun b=>?_;split
 ·exact OkMono.bind (OkMono.sizeOf P t) fun n=>OkMono.bind (OkMono.loadCellsFrom P a n 0 #[]) fun _=>OkMono.pure _ _
 ·exact OkMono.load fun v=>OkMono.pure P v
theorem OkMono.loadAt (P:Program) (t:TypeId) (v:Value):OkMono P (Instr.loadAt t v):=by
 unfold Instr.loadAt;refine OkMono.bind ?_ fun a=>OkMono.loadVar P t a;unfold Instr.sureAddr;split
 ·exact OkMono.pure _ _
 ·exact OkMono.halt _ _
def OkExt {α:Type} (P:Program) (s:Sem α):Prop:=∀w x w',s.run P w = .ok x w'→Ext w w'
theorem OkMono.ext {α:Type} {s:Sem α} (h:OkMono P s):OkExt P s:=fun w x w' hr=>by
 obtain ⟨rfl,_⟩:=h w x w' hr
 exact Ext.refl _
theorem OkExt.bind {α β:Type} {s:Sem α} {f:α→Sem β} (hs:OkExt P s) (hf:∀x,OkExt P (f x)):OkExt P (s >>= f):=fun w x w' h=>by
 simp only [Sem.run_bind] at h
 cases hr:s.run P w with
 | halt e w1=>rw [hr] at h;cases h
 | ok y w1 =>
  rw [hr] at h
  simp only [Result.andThen] at h
  exact (hs w y w1 hr).trans (hf y w1 x w' h)
theorem OkExt.newRow (P:Program) (t:TypeId) (cs:Array Value):OkExt P (newRow t cs):=by unfold Go.newRow Go.newObj;refine OkExt.bind (fun w x w' h=>?_) fun _=>(OkMono.pure _ _).ext;simp only [Sem.run] at h;cases h;exact Ext.push w _
theorem OkExt.newVar (P:Program) (t:TypeId) (v:Value):OkExt P (newVar t v):=OkExt.newRow P t _
theorem OkExt.zeroValue (P:Program) (t:TypeId):OkExt P (zeroValue t):=by
 unfold Go.zeroValue;refine OkExt.bind (OkMono.typeInfo P t).ext fun i=>?_;split
 ·exact (OkMono.pure _ _).ext
 ·exact (OkMono.halt _ _).ext
theorem OkExt.alloc (P:Program) (t:TypeId):OkExt P (Instr.alloc t true (.tuple #[])):=by unfold Instr.alloc;refine OkExt.bind (OkExt.zeroValue P t) fun z=>?_;exact OkExt.bind (OkExt.newVar P t z) fun _=>(OkMono.pure _ _).ext
theorem OkExt.box (P:Program) (t:TypeId) (v:Value):OkExt P (Instr.box t v):=by unfold Instr.box;exact OkExt.bind (OkExt.newVar P t v) fun _=>(OkMono.pure _ _).ext
theorem OkExt.buildSlice (P:Program) (t:TypeId) (n:Nat) (ps:Array (Nat × Value)):OkExt P (Instr.buildSlice t n ps):=by
 unfold Instr.buildSlice
 repeat' (first
  | exact (OkMono.pure _ _).ext
  | exact (OkMono.halt _ _).ext
  | exact (OkMono.underlying P _).ext
  | exact (OkMono.sizeOf P _).ext
  | exact OkExt.zeroValue P _
  | exact OkExt.newRow P _ _
  | (refine OkExt.bind ?_ fun _=>?_)
  | split
  | (dsimp only;split))
def NoQ:Exit→Act→World→Prop:=fun _ _ _=>False
theorem dB:¬ LetsOut NoQ:=fun ⟨_,_,h⟩=>h
def Put (d:Option Tmp) (a a':Act):Prop:=∃(u:Value) (ds:List Deferred),a' = ({ a with defers:=ds }:Act).put d u
section
variable {P:Program} {ops:Array Oper}
theorem ul {o:Oper} {a:Act} {w:World} {K:Act→World→Prop} (h:o.wp P a w K NoQ):o.wp P a w (fun a' w'=>Put o.dst a a'∧K a' w') NoQ:=by
 unfold Oper.wp at *;generalize (execOp a.eval o).run P w = r at *;cases r with
 | ok n w1 =>
  cases n <;> simp only [Oper.upon] at h ⊢
  case value u=>exact ⟨⟨u,a.defers,rfl⟩,h⟩
  case skip=>exact ⟨⟨undef,a.defers,rfl⟩,h⟩
  case defer d=>exact ⟨⟨undef,_,rfl⟩,h⟩
  case enter f args =>
   refine Calls.mono h fun e w2 he=>?_;cases e with
   | returned u=>exact ⟨⟨u,a.defers,rfl⟩,he⟩
   | panicked c=>exact he
   | outgrown=>exact he
  case row row args=>exact Rows.mono h fun u w2 he=>⟨⟨u,a.defers,rfl⟩,he⟩
 | halt x w1 =>cases x <;> simp only [Oper.upon] at h ⊢;exact h
theorem wp_some {o:Oper} {a:Act} {w:World} {K:Act→World→Prop} (h:o.wp P a w K NoQ):∃a' w',Put o.dst a a'∧K a' w':=by
 unfold Oper.wp at h;generalize (execOp a.eval o).run P w = r at h;cases r with
 | ok n w1 =>
  cases n <;> simp only [Oper.upon] at h
  case value u=>exact ⟨_,_,⟨u,a.defers,rfl⟩,h⟩
  case skip=>exact ⟨_,_,⟨undef,a.defers,rfl⟩,h⟩
  case defer d=>exact ⟨_,_,⟨undef,_,rfl⟩,h⟩
  case enter f args =>
   obtain ⟨e,w2,fr,he,_⟩:=h [];cases e with
   | returned u=>exact ⟨_,_,⟨u,a.defers,rfl⟩,he⟩
   | panicked c=>exact he.elim
   | outgrown=>exact (dB he).elim
  case row row args =>obtain ⟨u,w2,he,_⟩:=h default [];exact ⟨_,_,⟨u,a.defers,rfl⟩,he⟩
 | halt x w1 =>cases x <;> simp only [Oper.upon] at h;exact h.elim
theorem qq {o:Oper} (hs:∀cs b,o.op≠.select cs b) {a:Act} {d:Option Tmp} {v:Value} {w:World} {K:Act→World→Prop}
  (h1:∀t,d = some t→t∉o.looksAt ops) (h2:∀t,d = some t→o.dst≠some t) :
  o.wp P (a.put d v) w K NoQ↔o.wp P a w (fun a' w'=>K (a'.put d v) w') NoQ:=by
 unfold Oper.wp;rw [execOp_put o hs a d v h1];generalize (execOp a.eval o).run P w = r;cases r with
 | ok n w1 =>
  cases n <;> simp only [Oper.upon]
  case value u=>rw [Act.put_comm a v u h2]
  case skip=>rw [Act.put_comm a v undef h2]
  case defer x=>rw [Act.put_defers,Act.put_comm _ v undef h2]
  case enter f args =>
   constructor
   ·exact fun h=>Calls.mono h fun e w2 he=>by
     cases e with
     | returned u=>show K ((a.put o.dst u).put d v) w2;rw [← Act.put_comm a v u h2];exact he
     | panicked c=>exact he
     | outgrown=>exact he
   ·exact fun h=>Calls.mono h fun e w2 he=>by
     cases e with
     | returned u=>show K ((a.put d v).put o.dst u) w2;rw [Act.put_comm a v u h2];exact he
     | panicked c=>exact he
     | outgrown=>exact he
  case row row args =>
   constructor
   ·exact fun h=>Rows.mono h fun u w2 he=>by rw [← Act.put_comm a v u h2];exact he
   ·exact fun h=>Rows.mono h fun u w2 he=>by rw [Act.put_comm a v u h2];exact he
 | halt x w1=>cases x <;> simp only [Oper.upon] <;> exact Iff.rfl
theorem gK {o:Oper} {a:Act} {w:World} {K:Act→World→Prop} {Q:Exit→Act→World→Prop} (h:o.wp P a w K NoQ):o.wp P a w K Q:=by
 unfold Oper.wp at *;generalize (execOp a.eval o).run P w = r at *;cases r with
 | ok n w1 =>
  cases n <;> simp only [Oper.upon] at h ⊢ <;> first | exact h | skip
  case enter f args =>
   refine Calls.mono h fun e w2 he=>?_;cases e with
   | returned u=>exact he
   | panicked c=>exact he.elim
   | outgrown=>exact (dB he).elim
 | halt x w1 =>cases x <;> simp only [Oper.upon] at h ⊢;exact h.elim
def StillAt (P:Program) (o:Oper) (ρ:Operand→Value) (w:World) (v:Value):Prop :=
 match (execOp ρ o).run P w with
 | .ok (.value u) w'=>u = v∧w' = w
 | .ok .skip w'=>undef = v∧w' = w
 | .ok (.enter f args) w'=>w' = w∧Calls P f args w (fun e w''=>e = .returned v∧w'' = w)
 | _=>False
def te (o:Oper):Bool:=match o.op with
 | .load _ _=>true
 | _=>false
theorem StillAt.wp {o:Oper} {a:Act} {w:World} {v:Value} (h:StillAt P o a.eval w v) {K:Act→World→Prop} (U:K (a.put o.dst v) w):o.wp P a w K NoQ:=by
 unfold StillAt at h;unfold Oper.wp;generalize (execOp a.eval o).run P w = r at *;cases r with
 | ok n w1 =>
  cases n <;> simp only [Oper.upon] at h ⊢ <;> try (exact h.elim)
  case value u=>obtain ⟨rfl,rfl⟩:=h;exact U
  case skip=>obtain ⟨rfl,rfl⟩:=h;exact U
  case enter f args =>obtain ⟨rfl,hc⟩:=h;refine hc.mono fun e w2 ⟨he,hw⟩=>?_;subst he;subst hw;exact U
 | halt x w1=>simp only at h
theorem StillAt.one {o:Oper} (ho:te o = true) {ρ:Operand→Value} {w:World} {u v:Value} (h:StillAt P o ρ w u) (k:StillAt P o ρ w v):u = v:=by
 obtain ⟨dst,op,type,pos,after,guard⟩:=o;cases op <;> simp only [te] at ho <;> first|(cases ho;done) | skip
 rename_i t x;unfold StillAt execOp at h k;simp only [Sem.run_bind] at h k;cases hl:(Instr.loadAt t (ρ x)).run P w with
 | halt _ _=>rw [hl] at h;exact h.elim
 | ok y w2 =>rw [hl] at h k;simp only [Result.andThen,Sem.run_pure] at h k;exact h.1.symm.trans k.1
def ge (P:Program) (ops:Array Oper) (ks:Array Nat) (S:World→Prop) (i:Nat) (K:Act→World→Prop) (a:Act) (w:World):Prop :=
 match ops[i]? with
 | none=>K a w
 | some o =>
  if Region.wanted o (yielded ops a.tmps) = true then
   if ks.getD i 3 = 0 then ∃v,(∀w',(execOp a.eval o).run P w' = .ok (.value v) w')∧K (a.put o.dst v) w
   else if ks.getD i 3 = 5 then S w∧∃v,(∀w',S w'→StillAt P o a.eval w' v)∧K (a.put o.dst v) w
   else if ks.getD i 3 = 6 then S w∧o.wp P a w (fun a' w'=>S w'∧K a' w') NoQ
   else o.wp P a w K NoQ
  else K (a.put o.dst undef) w
section
variable {ks:Array Nat} {S:World→Prop} {i:Nat} {o:Oper} {K:Act→World→Prop} {a:Act} {w:World}
theorem yg (hi:ops[i]? = none):ge P ops ks S i K a w = K a w:=by simp only [ge,hi]
theorem kn (hi:ops[i]? = some o) (hw:¬ Region.wanted o (yielded ops a.tmps) = true):ge P ops ks S i K a w = K (a.put o.dst undef) w:=by simp only [ge,hi,ag hw]
theorem mr (hi:ops[i]? = some o) (hw:Region.wanted o (yielded ops a.tmps) = true) (hk:ks.getD i 3 = 0) :
  ge P ops ks S i K a w = ∃v,(∀w',(execOp a.eval o).run P w' = .ok (.value v) w')∧K (a.put o.dst v) w:=by
 simp only [ge,hi,ah hw,ah hk]
theorem ms (hi:ops[i]? = some o) (hw:Region.wanted o (yielded ops a.tmps) = true) (hk:ks.getD i 3 = 5) :
  ge P ops ks S i K a w = (S w∧∃v,(∀w',S w'→StillAt P o a.eval w' v)∧K (a.put o.dst v) w):=by
 simp only [ge,hi,ah hw,ag (show ¬ ks.getD i 3 = 0 by omega),ah hk]
theorem sf (hi:ops[i]? = some o) (hw:Region.wanted o (yielded ops a.tmps) = true) (hk:ks.getD i 3 = 6) :
  ge P ops ks S i K a w = (S w∧o.wp P a w (fun a' w'=>S w'∧K a' w') NoQ):=by
 simp only [ge,hi,ah hw,ag (show ¬ ks.getD i 3 = 0 by omega),ag (show ¬ ks.getD i 3 = 5 by omega),ah hk]
theorem jo (hi:ops[i]? = some o) (hw:Region.wanted o (yielded ops a.tmps) = true) (h0:¬ ks.getD i 3 = 0) (h5:¬ ks.getD i 3 = 5) (h6:¬ ks.getD i 3 = 6) :
  ge P ops ks S i K a w = o.wp P a w K NoQ:=by
 simp only [ge,hi,ah hw,ag h0,ag h5,ag h6]
end
theorem yf {ks:Array Nat} {S:World→Prop} {i:Nat} {K K':Act→World→Prop} {a:Act} {w:World} (h:∀a w,K a w→K' a w) (hh:ge P ops ks S i K a w):ge P ops ks S i K' a w:=by
 cases ho:ops[i]? with
 | none=>rw [yg ho] at hh ⊢;exact h _ _ hh
 | some o =>
  by_cases hw:Region.wanted o (yielded ops a.tmps) = true
  ·by_cases h0:ks.getD i 3 = 0
   ·rw [mr ho hw h0] at hh ⊢;obtain ⟨v,h1,h2⟩:=hh;exact ⟨v,h1,h _ _ h2⟩
   ·by_cases h5:ks.getD i 3 = 5
    ·rw [ms ho hw h5] at hh ⊢;obtain ⟨hs,v,h1,h2⟩:=hh;exact ⟨hs,v,h1,h _ _ h2⟩
    ·by_cases h6:ks.getD i 3 = 6
     ·rw [sf ho hw h6] at hh ⊢;exact ⟨hh.1,Oper.wp_mono (fun a' w' ⟨s,k⟩=>⟨s,h _ _ k⟩) hh.2⟩
     ·rw [jo ho hw h0 h5 h6] at hh ⊢;exact Oper.wp_mono h hh
  ·rw [kn ho hw] at hh ⊢;exact h _ _ hh
theorem zr {ks:Array Nat} {S:World→Prop} {i:Nat} {K:Act→World→Prop} {Q:Exit→Act→World→Prop} {a:Act} {w:World} (hh:ge P ops ks S i K a w):wpOp P ops Q i K a w:=by
 unfold wpOp;cases ho:ops[i]? with
 | none=>rw [yg ho] at hh;exact hh
 | some o =>
  simp only;by_cases hw:Region.wanted o (yielded ops a.tmps) = true
  ·rw [ah hw];refine .inl ?_;by_cases h0:ks.getD i 3 = 0
   ·rw [mr ho hw h0] at hh;obtain ⟨v,h1,h2⟩:=hh;unfold Oper.wp;rw [h1];exact h2
   ·by_cases h5:ks.getD i 3 = 5
    ·rw [ms ho hw h5] at hh;obtain ⟨hs,v,h1,h2⟩:=hh;exact gK ((h1 w hs).wp h2)
    ·by_cases h6:ks.getD i 3 = 6
     ·rw [sf ho hw h6] at hh;exact gK (Oper.wp_mono (fun a' w' ⟨_,k⟩=>k) hh.2)
     ·rw [jo ho hw h0 h5 h6] at hh;exact gK hh
  ·rw [kn ho hw] at hh;rw [ag hw];exact hh
theorem iw {oi oj:Oper} {a a':Act} (h:∀d,oj.dst = some d→d∉oi.looksAt ops) (hp:Put oj.dst a a') :
  Region.wanted oi (yielded ops a'.tmps) = Region.wanted oi (yielded ops a.tmps):=by
 obtain ⟨u,ds,rfl⟩:=hp;exact wanted_put (ops:=ops) oi { a with defers:=ds } oj.dst u h
theorem oh {oi oj:Oper} (hs:∀cs b,oi.op≠.select cs b) {a a':Act} (h:∀d,oj.dst = some d→d∉oi.looksAt ops) (hp:Put oj.dst a a') :
  execOp a'.eval oi = execOp a.eval oi:=by
 obtain ⟨u,ds,rfl⟩:=hp;exact execOp_put (ops:=ops) oi hs { a with defers:=ds } oj.dst u h
theorem tp {oi oj:Oper} (hs:∀cs b,oi.op≠.select cs b) {a a':Act} (h:∀d,oj.dst = some d→d∉oi.looksAt ops) (hp:Put oj.dst a a') {w:World} {v:Value} :
  StillAt P oi a'.eval w v↔StillAt P oi a.eval w v:=by
 unfold StillAt;rw [oh (ops:=ops) hs h hp]
def lg (o:Oper) (k:Nat):Bool :=
 match k,o.op with
 | 0,_=>true
 | 1,.load _ _=>true
 | 2,.alloc _ | 2,.box _ _ | 2,.buildSlice _ _ _=>true
 | 1,_ | 2,_=>false
 | _,_=>true
theorem aF {o:Oper} (h:lg o 1 = true) {a:Act} {w:World} {K:Act→World→Prop} (hh:o.wp P a w K NoQ) :
  ∃v,K (a.put o.dst v) w∧∀w2,Ext w w2→(execOp a.eval o).run P w2 = .ok (.value v) w2:=by
 obtain ⟨dst,op,type,pos,after,guard⟩:=o;cases op <;> simp only [lg] at h <;> first|(cases h;done) | skip
 rename_i t x;unfold Oper.wp at hh;have hm:OkMono P (execOp a.eval ⟨dst,.load t x,type,pos,after,guard⟩):=by
  unfold execOp;exact OkMono.bind (OkMono.loadAt P t _) fun _=>OkMono.pure _ _
 cases hr:(execOp a.eval ⟨dst,.load t x,type,pos,after,guard⟩).run P w with
 | halt x w1 =>
  rw [hr] at hh;cases x <;> simp only [Oper.upon] at hh;exact hh.elim
 | ok n w1 =>
  obtain ⟨rfl,h2⟩:=hm w n w1 hr;have hv:∃v,n = .value v:=by
   unfold execOp at hr;simp only [Sem.run_bind] at hr;cases hl:(Instr.loadAt t (a.eval x)).run P w1 with
   | halt _ _=>rw [hl] at hr;cases hr
   | ok v w2 =>
    rw [hl] at hr;simp only [Result.andThen,Sem.run_pure] at hr;cases hr;exact ⟨v,rfl⟩
  obtain ⟨v,rfl⟩:=hv;rw [hr] at hh;exact ⟨v,hh,h2⟩
theorem make_ext {o:Oper} (h:lg o 2 = true) {a:Act} {w:World} {K:Act→World→Prop} (hh:o.wp P a w K NoQ) :
  o.wp P a w (fun a' w'=>Ext w w'∧Put o.dst a a'∧K a' w') NoQ:=by
 obtain ⟨dst,op,type,pos,after,guard⟩:=o;have key:∀s:Sem Value,OkExt P s→execOp a.eval ⟨dst,op,type,pos,after,guard⟩ = (do let x ← s;Pure.pure (Next.value x)) →
   Oper.wp P ⟨dst,op,type,pos,after,guard⟩ a w (fun a' w'=>Ext w w'∧Put dst a a'∧K a' w') NoQ:=by
  intro s hs he
  unfold Oper.wp at *
  rw [he] at hh ⊢
  simp only [Sem.run_bind] at hh ⊢
  cases hr:s.run P w with
  | halt x w1 =>
   rw [hr] at hh;simp only [Result.andThen] at hh ⊢;cases x <;> simp only [Oper.upon] at hh ⊢;exact hh
  | ok v w1 =>
   rw [hr] at hh;simp only [Result.andThen,Sem.run_pure,Oper.upon] at hh ⊢;exact ⟨hs w v w1 hr,⟨v,a.defers,rfl⟩,hh⟩
 cases op <;> simp only [lg] at h <;> first|(cases h;done) | skip
 ·exact key _ (OkExt.alloc P _) rfl
 ·exact key _ (OkExt.box P _ _) rfl
 ·exact key _ (OkExt.buildSlice P _ _ _) rfl
def bQ (k l:Nat) (ld:Bool):Bool:=k == 0 || l == 0 || (k == 1 && (l == 1 || l == 2 || l == 5)) || (k == 5 && (l == 1 || l == 5 || l == 6)) || (k == 6 && l == 5 && ld)
theorem swap {ks:Array Nat} {S:World→Prop} {i j:Nat} {oi oj:Oper} (hi:ops[i]? = some oi) (hj:ops[j]? = some oj)
  (hsi:∀cs b,oi.op≠.select cs b) (hsj:∀cs b,oj.op≠.select cs b) (Ec:oi.apart ops oj = true)
  (BE:lg oi (ks.getD i 3) = true) (qY:lg oj (ks.getD j 3) = true) (hp:bQ (ks.getD i 3) (ks.getD j 3) (te oj) = true)
  {K:Act→World→Prop} {a:Act} {w:World} (h:ge P ops ks S i (ge P ops ks S j K) a w):ge P ops ks S j (ge P ops ks S i K) a w:=by
 obtain ⟨h1,h2,h3⟩:=Oper.apart_spec Ec;have pY:∀d,oj.dst = some d→oi.dst≠some d:=fun d hd he=>h2 d he hd;generalize hki':ks.getD i 3 = ki at *;generalize hkj':ks.getD j 3 = kj at *;have late:∀(v:Value),ge P ops ks S j K (a.put oi.dst v) w →
   (∀a' w',Put oj.dst a a'→(kj = 0∨kj = 1∨kj = 5→w' = w)→(kj = 2→Ext w w')→(kj = 6→S w')→K (a'.put oi.dst v) w'→ge P ops ks S i K a' w') →
   (∀a',Put oj.dst a a'→K (a'.put oi.dst v) w→ge P ops ks S i K a' w) →
   ge P ops ks S j (ge P ops ks S i K) a w:=by
  intro v hv Cr hdo'
  by_cases hw:Region.wanted oj (yielded ops a.tmps) = true
  ·have kK:Region.wanted oj (yielded ops (a.put oi.dst v).tmps) = true:=(by rw [wanted_put oj a oi.dst v h1];exact hw);by_cases oK:kj = 0
   ·rw [mr hj kK (hkj'.trans oK)] at hv;rw [mr hj hw (hkj'.trans oK)];rw [execOp_put oj hsj a oi.dst v h1] at hv;obtain ⟨u,hu,U⟩:=hv;refine ⟨u,hu,Cr _ _ ⟨u,a.defers,rfl⟩ (fun _=>rfl) (fun _=>Ext.refl _) (fun e=>by omega) ?_⟩;rw [← Act.put_comm a v u h2];exact U
   ·by_cases vA:kj = 5
    ·rw [ms hj kK (hkj'.trans vA)] at hv;rw [ms hj hw (hkj'.trans vA)];obtain ⟨hs,u,hu,U⟩:=hv;refine ⟨hs,u,fun w' hS=>?_,Cr _ _ ⟨u,a.defers,rfl⟩ (fun _=>rfl) (fun _=>Ext.refl _) (fun e=>by omega) ?_⟩
     ·have:=hu w' hS;unfold StillAt at this ⊢;rw [execOp_put oj hsj a oi.dst v h1] at this;exact this
     ·rw [← Act.put_comm a v u h2];exact U
    ·by_cases hk6:kj = 6
     ·rw [sf hj kK (hkj'.trans hk6)] at hv;rw [sf hj hw (hkj'.trans hk6)];obtain ⟨hs,hv⟩:=hv;rw [qq (ops:=ops) hsj h1 h2] at hv;exact ⟨hs,Oper.wp_mono (fun a' w' ⟨p,s,k⟩=>⟨s,Cr a' w' p (fun e=>by omega) (fun e=>by omega) (fun _=>s) k⟩) (ul hv)⟩
     ·rw [jo hj kK (by omega) (by omega) (by omega)] at hv;rw [jo hj hw (by omega) (by omega) (by omega)];rw [qq (ops:=ops) hsj h1 h2] at hv;by_cases AQ:kj = 1
      ·rw [AQ] at qY;obtain ⟨u,U,hr⟩:=aF qY hv;unfold Oper.wp;rw [hr w (Ext.refl w)];exact Cr _ _ ⟨u,a.defers,rfl⟩ (fun _=>rfl) (fun _=>Ext.refl _) (fun e=>by omega) U
      ·by_cases rU:kj = 2
       ·rw [rU] at qY;exact Oper.wp_mono (fun a' w' ⟨e,p,k⟩=>Cr a' w' p (fun e0=>by omega) (fun _=>e) (fun e=>by omega) k) (make_ext qY hv)
       ·exact Oper.wp_mono (fun a' w' ⟨p,k⟩=>Cr a' w' p (fun e0=>by omega) (fun e2=>by omega) (fun e=>by omega) k) (ul hv)
  ·have kK:¬ Region.wanted oj (yielded ops (a.put oi.dst v).tmps) = true:=(by rw [wanted_put oj a oi.dst v h1];exact hw);rw [kn hj kK] at hv;rw [kn hj hw];refine hdo' _ ⟨undef,a.defers,rfl⟩ ?_;rw [← Act.put_comm a v undef h2];exact hv
 have early:ki≠0→ki≠5→Region.wanted oi (yielded ops a.tmps) = true→(kj = 0∨(kj = 5∧ki = 6∧te oj = true))→ge P ops ks S j (ge P ops ks S i K) a w:=by
  intro sT hi5 oW Ij;have h6:(ki = 6→S w)∧oi.wp P a w (fun a' w'=>(ki = 6→S w')∧ge P ops ks S j K a' w') NoQ:=by
   by_cases hk6:ki = 6
   ·rw [sf hi oW (hki'.trans hk6)] at h;exact ⟨fun _=>h.1,Oper.wp_mono (fun a' w' ⟨s,k⟩=>⟨fun _=>s,k⟩) h.2⟩
   ·rw [jo hi oW (by omega) (by omega) (by omega)] at h;exact ⟨fun e=>absurd e hk6,Oper.wp_mono (fun a' w' k=>⟨fun e=>absurd e hk6,k⟩) h⟩
  have back:∀v,oi.wp P a w (fun a' w'=>(ki = 6→S w')∧K (a'.put oj.dst v) w') NoQ→ge P ops ks S i K (a.put oj.dst v) w:=by
   intro v hv;have IJ:Region.wanted oi (yielded ops (a.put oj.dst v).tmps) = true:=(by rw [wanted_put oi a oj.dst v h3];exact oW);by_cases hk6:ki = 6
   ·rw [sf hi IJ (hki'.trans hk6),qq (ops:=ops) hsi h3 pY];exact ⟨h6.1 hk6,Oper.wp_mono (fun a' w' ⟨s,k⟩=>⟨s hk6,k⟩) hv⟩
   ·rw [jo hi IJ (by omega) (by omega) (by omega),qq (ops:=ops) hsi h3 pY];exact Oper.wp_mono (fun a' w' ⟨s,k⟩=>k) hv
  by_cases hwj:Region.wanted oj (yielded ops a.tmps) = true
  ·obtain ⟨a1,w1,zH,mE,rY⟩:=wp_some h6.2;have sM:Region.wanted oj (yielded ops a1.tmps) = true:=(iw (ops:=ops) h1 zH).trans hwj;rcases Ij with BD | ⟨hj5,hi6,uF⟩
   ·rw [mr hj sM (hkj'.trans BD),oh (ops:=ops) hsj h1 zH] at rY;obtain ⟨v,hv,_⟩:=rY;rw [mr hj hwj (hkj'.trans BD)];refine ⟨v,hv,back v (Oper.wp_mono (fun a2 w2 ⟨qG,lY,pG⟩=>⟨lY,?_⟩) (ul h6.2))⟩;have tT:Region.wanted oj (yielded ops a2.tmps) = true:=(iw (ops:=ops) h1 qG).trans hwj;rw [mr hj tT (hkj'.trans BD),oh (ops:=ops) hsj h1 qG] at pG;obtain ⟨u,hu,hk⟩:=pG;have:u = v:=by
     have:=(hu w).symm.trans (hv w);injection this with this;injection this
    subst this;exact hk
   ·rw [ms hj sM (hkj'.trans hj5)] at rY;obtain ⟨_,v,hv,_⟩:=rY;have sJ:∀w',S w'→StillAt P oj a.eval w' v:=fun w' hS=>(tp (ops:=ops) hsj h1 zH).1 (hv w' hS);rw [ms hj hwj (hkj'.trans hj5)];refine ⟨h6.1 hi6,v,sJ,back v (Oper.wp_mono (fun a2 w2 ⟨qG,lY,pG⟩=>⟨lY,?_⟩) (ul h6.2))⟩;have tT:Region.wanted oj (yielded ops a2.tmps) = true:=(iw (ops:=ops) h1 qG).trans hwj;rw [ms hj tT (hkj'.trans hj5)] at pG;obtain ⟨_,u,hu,hk⟩:=pG;have FM:StillAt P oj a.eval w u:=(tp (ops:=ops) hsj h1 qG).1 (hu w (h6.1 hi6));have:u = v:=StillAt.one uF FM (sJ w (h6.1 hi6));subst this;exact hk
  ·rw [kn hj hwj];refine back undef (Oper.wp_mono (fun a2 w2 ⟨qG,lY,pG⟩=>⟨lY,?_⟩) (ul h6.2));have tT:¬ Region.wanted oj (yielded ops a2.tmps) = true:=(by rw [iw (ops:=ops) h1 qG];exact hwj);rw [kn hj tT] at pG;exact pG
 simp only [bQ,Bool.or_eq_true,Bool.and_eq_true,beq_iff_eq] at hp;by_cases oW:Region.wanted oi (yielded ops a.tmps) = true
 ·by_cases oK:ki = 0
  ·rw [mr hi oW (hki'.trans oK)] at h;obtain ⟨v,hv,U⟩:=h;have go:∀a' w',Put oj.dst a a'→K (a'.put oi.dst v) w'→ge P ops ks S i K a' w':=fun a' w' oP mG=>by
    rw [mr hi ((iw (ops:=ops) h3 oP).trans oW) (hki'.trans oK),oh (ops:=ops) hsi h3 oP];exact ⟨v,hv,mG⟩
   exact late v U (fun a' w' p _ _ _ k=>go a' w' p k) (fun a' p k=>go a' w p k)
  ·by_cases vA:ki = 5
   ·by_cases BD:kj = 0∨kj = 1∨kj = 5∨kj = 6
    ·rw [ms hi oW (hki'.trans vA)] at h;obtain ⟨hs,v,hv,U⟩:=h;have go:∀a' w',Put oj.dst a a'→S w'→K (a'.put oi.dst v) w'→ge P ops ks S i K a' w':=fun a' w' oP hS mG=>by
      rw [ms hi ((iw (ops:=ops) h3 oP).trans oW) (hki'.trans vA)];exact ⟨hS,v,fun w2 h2S=>(tp (ops:=ops) hsi h3 oP).2 (hv w2 h2S),mG⟩
     refine late v U (fun a' w' p e1 e2 e6 k=>go a' w' p ?_ k) (fun a' p k=>go a' w p hs k);rcases BD with e | e | e | e
     ·rw [e1 (.inl e)];exact hs
     ·rw [e1 (.inr (.inl e))];exact hs
     ·rw [e1 (.inr (.inr e))];exact hs
     ·exact e6 e
    ·omega
   ·by_cases BD:kj = 0
    ·exact early oK vA oW (.inl BD)
    ·by_cases DS:ki = 6∧kj = 5∧te oj = true
     ·exact early oK vA oW (.inr ⟨DS.2.1,DS.1,DS.2.2⟩)
     ·have AQ:ki = 1∧(kj = 1∨kj = 2∨kj = 5):=by
       rcases hp with (((hp | hp) | hp) | hp) | hp
       ·exact absurd hp oK
       ·exact absurd hp BD
       ·exact ⟨hp.1,by omega⟩
       ·exact absurd hp.1 vA
       ·exact absurd ⟨hp.1.1,hp.1.2,hp.2⟩ DS
      obtain ⟨e1,Ik⟩:=AQ;rw [jo hi oW (by omega) (by omega) (by omega)] at h;rw [e1] at BE;obtain ⟨v,U,hr⟩:=aF BE h;have go:∀a' w',Put oj.dst a a'→Ext w w'→K (a'.put oi.dst v) w'→ge P ops ks S i K a' w':=fun a' w' oP he mG=>by
       rw [jo hi ((iw (ops:=ops) h3 oP).trans oW) (by omega) (by omega) (by omega)];unfold Oper.wp;rw [oh (ops:=ops) hsi h3 oP,hr w' he];exact mG
      refine late v U (fun a' w' p f1 f2 _ k=>go a' w' p ?_ k) (fun a' p k=>go a' w p (Ext.refl _) k);rcases Ik with e | e | e
      ·rw [f1 (.inr (.inl e))];exact Ext.refl _
      ·exact f2 e
      ·rw [f1 (.inr (.inr e))];exact Ext.refl _
 ·rw [kn hi oW] at h;have go:∀a' w',Put oj.dst a a'→K (a'.put oi.dst undef) w'→ge P ops ks S i K a' w':=fun a' w' oP mG=>by
   rw [kn hi (by rw [iw (ops:=ops) h3 oP];exact oW)];exact mG
  exact late undef h (fun a' w' p _ _ _ k=>go a' w' p k) (fun a' p k=>go a' w p k)
def wpR (P:Program) (ops:Array Oper) (ks:Array Nat) (S:World→Prop) (Q:Exit→Act→World→Prop):List Nat→Act→World→Prop
 | [],a,w=>Q .normal a w
 | i :: rest,a,w=>ge P ops ks S i (wpR P ops ks S Q rest) a w
def bG (acc:Array Nat) (o:Oper):Nat:=o.after.toList.foldl (fun s e=>if Region.binds .any e then s ||| 2 ^ e.on ||| acc.getD e.on 0 else s) 0
def jk (l:List Oper):Array Nat:=l.foldl (fun acc o=>acc.push (bG acc o)) #[]
def uo (ops:Array Oper) (listed:Array Bool):Prop:=∀(j:Nat) (o:Oper),ops[j]? = some o→listed.getD j false = true→∀e∈o.after,Region.binds .any e = true→listed.getD e.on false = true
theorem aA (acc:Array Nat) (i:Nat):∀(es:List Edge) (s:Nat),(es.foldl (fun s e=>if Region.binds .any e then s ||| 2 ^ e.on ||| acc.getD e.on 0 else s) s).testBit i = true →
  s.testBit i = true∨∃e∈es,Region.binds .any e = true∧(e.on = i∨(acc.getD e.on 0).testBit i = true)
 | [],s,h=>.inl h
 | e :: es,s,h=>by
  simp only [List.foldl_cons] at h
  rcases aA acc i es _ h with h1 | ⟨e',he',h2⟩
  ·by_cases hb:Region.binds .any e = true
   ·rw [ah hb,Nat.testBit_or,Nat.testBit_or,Bool.or_eq_true,Bool.or_eq_true] at h1
    rcases h1 with (h1 | h1) | h1
    ·exact .inl h1
    ·refine .inr ⟨e,List.mem_cons_self ..,hb,.inl ?_⟩
     rw [Nat.testBit_two_pow] at h1
     simpa using h1
    ·exact .inr ⟨e,List.mem_cons_self ..,hb,.inr h1⟩
   ·rw [ag hb] at h1
    exact .inl h1
  ·exact .inr ⟨e',List.mem_cons_of_mem _ he',h2⟩
def wh (ops:Array Oper) (acc:Array Nat):Prop:=∀(j i:Nat),j < acc.size→(acc.getD j 0).testBit i = true→∀listed,uo ops listed →
 ∀o,ops[j]? = some o→(∀e∈o.after,Region.binds .any e = true→listed.getD e.on false = true)→listed.getD i false = true
theorem aG (ops:Array Oper):∀(l:List Oper) (acc:Array Nat),(∀j,l[j]? = ops[acc.size+j]?)→wh ops acc →
  wh ops (l.foldl (fun acc o=>acc.push (bG acc o)) acc)
 | [],acc,_,h=>h
 | o :: l,acc,hl,h=>by
  simp only [List.foldl_cons]
  have h0:ops[acc.size]? = some o:=by simpa using (hl 0).symm
  refine aG ops l _ (fun j=>by have:=hl (j+1);simpa [Nat.add_assoc,Nat.add_comm 1 j] using this) ?_
  intro j i hj hb listed hc o' ho' kY
  by_cases kG:j < acc.size
  ·refine h j i kG ?_ listed hc o' ho' kY
   simpa [Array.getD_eq_getD_getElem?,Array.getElem?_push_lt kG,Array.getElem?_eq_getElem kG] using hb
  ·have hjs:j = acc.size:=by simp at hj;omega
   subst hjs
   have:o' = o:=aq (ho'.symm.trans h0)
   subst this
   have nH:(bG acc o').testBit i = true:=by simpa [Array.getD_eq_getD_getElem?] using hb
   rcases aA acc i _ 0 nH with hz | ⟨e,he,heb,hi⟩
   ·simp at hz
   ·have vN:=kY e (by simpa using he) heb
    rcases hi with rfl | hi
    ·exact vN
    ·by_cases hes:e.on < acc.size
     ·have:e.on < ops.size:=by
       have:=hl 0
       have h1:=(Array.getElem?_eq_some_iff.1 h0).1
       omega
      have hoe:ops[e.on]? = some ops[e.on]:=Array.getElem?_eq_getElem this
      exact h e.on i hes hi listed hc _ hoe (hc e.on _ hoe vN)
     ·rw [Array.getD_eq_getD_getElem?,Array.getElem?_eq_none (by omega)] at hi
      simp at hi
theorem bubble {ks:Array Nat} {S:World→Prop} {Q:Exit→Act→World→Prop} {j:Nat} {oj:Oper} (hj:ops[j]? = some oj) (hsel:Region.noSelect ops = true) (qY:lg oj (ks.getD j 3) = true) :
  ∀(R:List Nat) (a:Act) (w:World),
   (∀i∈R,∃oi,ops[i]? = some oi∧lg oi (ks.getD i 3) = true∧bQ (ks.getD i 3) (ks.getD j 3) (te oj) = true∧oi.apart ops oj = true) →
   ∀T,wpR P ops ks S Q (R ++ j :: T) a w→ge P ops ks S j (wpR P ops ks S Q (R ++ T)) a w
 | [],a,w,_,T,h=>h
 | i :: R,a,w,hR,T,h=>by
  obtain ⟨oi,FG,BE,hp,Ec⟩:=hR i (List.mem_cons_self ..)
  refine swap FG hj (fun cs b=>Region.noSelect_spec hsel i oi cs b FG) (fun cs b=>Region.noSelect_spec hsel j oj cs b hj) Ec BE qY hp ?_
  exact yf (fun a' w' h'=>bubble hj hsel qY R a' w' (fun k hk=>hR k (List.mem_cons_of_mem _ hk)) T h') h
def bef:List Nat→Nat→Nat→Bool
 | [],_,_=>false
 | x :: l,i,j=>if x == i then l.contains j else bef l i j
theorem xf {i j:Nat}:∀{R T:List Nat},i∈R→j∈T→bef (R ++ T) i j = true
 | x :: R,T,hi,hj=>by
  simp only [List.cons_append,bef]
  by_cases hx:x = i
  ·simp [hx,hj]
  ·rw [ag (by simpa using hx)]
   exact xf ((List.mem_cons.1 hi).resolve_left (Ne.symm hx)) hj
theorem xh {i j k:Nat}:∀{R T:List Nat},i≠k→bef (R ++ T) i j = true→bef (R ++ k :: T) i j = true
 | [],T,hk,h=>by simp only [List.nil_append,bef] at *;rw [ag (by simpa using Ne.symm hk)];exact h
 | x :: R,T,hk,h=>by
  simp only [List.cons_append,bef] at *
  by_cases hx:x = i
  ·simp only [hx,beq_self_eq_true,if_true,List.contains_eq_mem,List.mem_append,List.mem_cons,decide_eq_true_eq] at *
   rcases h with h | h
   ·exact .inl h
   ·exact .inr (.inr h)
  ·rw [ag (by simpa using hx)] at *
   exact xh hk h
theorem mf {i j:Nat}:∀{l:List Nat},bef l i j = true→i∈l∧j∈l
 | x :: l,h=>by
  simp only [bef] at h
  by_cases hx:x = i
  ·rw [ah (by simpa using hx)] at h
   exact ⟨by simp [hx],List.mem_cons_of_mem _ (by simpa using h)⟩
  ·rw [ag (by simpa using hx)] at h
   have:=mf h
   exact ⟨List.mem_cons_of_mem _ this.1,List.mem_cons_of_mem _ this.2⟩
theorem sb {i j:Nat}:∀{l:List Nat},i∈l→j∈l→i≠j→bef l i j = true∨bef l j i = true
 | x :: l,hi,hj,kT=>by
  simp only [bef]
  by_cases hx:x = i
  ·left
   have:j∈l:=(List.mem_cons.1 hj).resolve_left (fun h=>kT (hx.symm.trans h.symm))
   simp [hx,this]
  ·by_cases hy:x = j
   ·right
    have:i∈l:=(List.mem_cons.1 hi).resolve_left (Ne.symm hx)
    simp [hy,this]
   ·rw [ag (by simpa using hx),ag (by simpa using hy)]
    exact sb ((List.mem_cons.1 hi).resolve_left (Ne.symm hx)) ((List.mem_cons.1 hj).resolve_left (Ne.symm hy)) kT
theorem gg {i j k:Nat}:∀{l:List Nat},l.Nodup→bef l i j = true→bef l j k = true→bef l i k = true
 | x :: l,hd,h1,h2=>by
  obtain ⟨BI,hd'⟩:=List.nodup_cons.1 hd
  simp only [bef] at *
  by_cases hx:x = i
  ·rw [ah (by simpa using hx)] at h1 ⊢
   by_cases hy:x = j
   ·subst hy;exact absurd (by simpa using h1) BI
   ·rw [ag (by simpa using hy)] at h2
    simpa using (mf h2).2
  ·rw [ag (by simpa using hx)] at h1 ⊢
   by_cases hy:x = j
   ·subst hy;exact absurd (mf h1).2 BI
   ·rw [ag (by simpa using hy)] at h2
    exact gg hd' h1 h2
theorem ii {i:Nat}:∀{l:List Nat},l.Nodup→bef l i i = false
 | [],_=>rfl
 | x :: l,hd=>by
  obtain ⟨BI,hd'⟩:=List.nodup_cons.1 hd
  simp only [bef]
  by_cases hx:x = i
  ·subst hx;simpa using BI
  ·rw [ag (by simpa using hx)];exact ii hd'
def ra (ops:Array Oper):Array Bool→List Nat→Prop
 | listed,[]=>∀i,i < ops.size→listed.getD i false = true
 | listed,j :: τ=>j∈Region.ready .any ops listed∧ra ops (listed.setIfInBounds j true) τ
theorem ou {listed:Array Bool} {j:Nat} (h:j∈Region.ready .any ops listed):j < ops.size:=by obtain ⟨_,o,ho,_⟩:=mem_ready.1 h;exact (Array.getElem?_eq_some_iff.1 ho).1
theorem uc {listed:Array Bool} {j:Nat} (mW:listed.size = ops.size) (h:j∈Region.ready .any ops listed):listed.getD j false = false:=by
 have kG:=ou h;obtain ⟨h0,_⟩:=mem_ready.1 h;have Il:j < listed.size:=by omega
 simp [Array.getD_eq_getD_getElem?,Array.getElem?_eq_getElem Il] at h0 ⊢;exact h0
theorem aU:∀{τ:List Nat} {listed:Array Bool},listed.size = ops.size→ra ops listed τ→∀k∈τ,k < ops.size∧listed.getD k false = false
 | j :: τ,listed,mW,⟨hj,hs⟩,k,hk=>by
  rcases List.mem_cons.1 hk with rfl | hk
  ·exact ⟨ou hj,uc mW hj⟩
  ·obtain ⟨h1,h2⟩:=aU (by simpa using mW) hs k hk
   refine ⟨h1,?_⟩
   by_cases qY:j = k
   ·subst qY;exact uc mW hj
   ·rwa [getD_set_ne false qY] at h2
theorem mv:∀{τ:List Nat} {listed:Array Bool},listed.size = ops.size→ra ops listed τ→∀k,k < ops.size→listed.getD k false = false→k∈τ
 | [],listed,_,hs,k,hk,h=>by rw [hs k hk] at h;cases h
 | j :: τ,listed,mW,⟨hj,hs⟩,k,hk,h=>by
  by_cases qY:j = k
  ·subst qY;exact List.mem_cons_self ..
  ·exact List.mem_cons_of_mem _ (mv (by simpa using mW) hs k hk (by rw [getD_set_ne false qY];exact h))
theorem ns:∀{τ:List Nat} {listed:Array Bool},listed.size = ops.size→ra ops listed τ→τ.Nodup
 | [],_,_,_=>List.nodup_nil
 | j :: τ,listed,mW,⟨hj,hs⟩=>by
  refine List.nodup_cons.2 ⟨fun hm=>?_,ns (by simpa using mW) hs⟩
  have:=(aU (by simpa using mW) hs j hm).2
  have kG:=ou hj
  rw [Array.getD_eq_getD_getElem?,Array.getElem?_setIfInBounds_self_of_lt (by omega)] at this
  cases this
theorem eW {listed:Array Bool} {j:Nat} (hj:j∈Region.ready .any ops listed) (hc:uo ops listed):uo ops (listed.setIfInBounds j true):=by
 obtain ⟨_,oj,Is,kY⟩:=mem_ready.1 hj;intro k ok oV hk e he hb;by_cases qY:j = k
 ·subst qY;have:ok = oj:=aq (oV.symm.trans Is);subst this;exact getD_set_true (kY e he hb)
 ·rw [getD_set_ne false qY] at hk;exact getD_set_true (hc k ok oV hk e he hb)
theorem tm {m:Array Nat} (hm:wh ops m) (hms:m.size = ops.size):∀{τ:List Nat} {listed:Array Bool},listed.size = ops.size→uo ops listed→ra ops listed τ →
  ∀i j,j∈τ→(m.getD j 0).testBit i = true→listed.getD i false = true∨bef τ i j = true
 | k :: τ,listed,mW,hc,⟨hk,hs⟩,i,j,hj,hb=>by
  rcases List.mem_cons.1 hj with rfl | hj
  ·obtain ⟨_,o,ho,kY⟩:=mem_ready.1 hk
   exact .inl (hm j i (by have:=ou hk;omega) hb listed hc o ho kY)
  ·rcases tm hm hms (by simpa using mW) (eW hk hc) hs i j hj hb with h | h
   ·by_cases BE:k = i
    ·right;simp [bef,BE,hj]
    ·rw [getD_set_ne false BE] at h;exact .inl h
   ·right
    simp only [bef]
    by_cases BE:k = i
    ·simp [BE,hj]
    ·rw [ag (by simpa using BE)];exact h
def cnt (listed:Array Bool):Nat:=listed.toList.countP (fun b=>!b)
theorem cnt_set {listed:Array Bool} {j:Nat} (hj:j < listed.size) (h:listed.getD j false = false):cnt (listed.setIfInBounds j true)+1 = cnt listed:=by
 unfold cnt;have hb:listed[j] = false:=by simpa [Array.getD_eq_getD_getElem?,hj] using h
 have Cw:0 < listed.toList.countP (fun b=>!b):=List.countP_pos_iff.2 ⟨listed[j],by simp,by simp [hb]⟩;rw [Array.toList_setIfInBounds,List.countP_set (by simpa using hj)];have hj2:listed.toList[j]'(by simpa using hj) = false:=by simpa using hb
 rw [hj2];simp only [Bool.not_false,Bool.not_true,if_true,Bool.false_eq_true,if_false,Nat.add_zero];omega
theorem cnt_zero {listed:Array Bool} (h:cnt listed = 0) (i:Nat) (hi:i < listed.size):listed.getD i false = true:=by unfold cnt at h;have:=List.countP_eq_zero.1 h listed[i] (by simp);simpa [Array.getD_eq_getD_getElem?,hi] using this
theorem dS (uZ:∀(j:Nat) oj,ops[j]? = some oj→∀e∈oj.after,Region.binds .any e = true→e.on < j):∀(fuel t:Nat) (listed:Array Bool),listed.size = ops.size→cnt listed≤fuel →
  ra ops listed (Region.linearise.go .any ops fuel t listed []):=by
 intro fuel
 induction fuel with
 | zero =>
  intro t listed mW hc;simp only [Region.linearise.go,List.reverse_nil];exact fun i hi=>cnt_zero (by omega) i (by omega)
 | succ fuel ih =>
  intro t listed mW hc;simp only [Region.linearise.go];change ra ops listed (match (Region.ready .any ops listed)[t % (Region.ready .any ops listed).length]? with
   | some i=>Region.linearise.go .any ops fuel (t / (Region.ready .any ops listed).length) (listed.setIfInBounds i true) [i]
   | none=>[].reverse)
  cases hi:(Region.ready .any ops listed)[t % (Region.ready .any ops listed).length]? with
  | none =>
   have hnil:Region.ready .any ops listed = []:=by
    cases hr:Region.ready .any ops listed with
    | nil=>rfl
    | cons x xs =>
     rw [hr] at hi;have kG:t % (x :: xs).length < (x :: xs).length:=Nat.mod_lt _ (by simp);simp at hi;simp at kG;omega
   simp only [List.reverse_nil];intro i rT;cases hl:listed.getD i false with
   | true=>rfl
   | false =>
    exfalso;have:∀k,k < ops.size→listed.getD k false = false→False:=by
     intro k
     induction k using Nat.strongRecOn with
     | _ k ihk =>
      intro hk hl;have ho:=Array.getElem?_eq_getElem hk;have Io:k∈Region.ready .any ops listed:=by
       refine mem_ready.2 ⟨?_,_,ho,fun e he hb=>?_⟩
       ·have Il:k < listed.size:=(by omega);simp [Array.getD_eq_getD_getElem?,Array.getElem?_eq_getElem Il] at hl ⊢;exact hl
       ·have kG:=uZ k _ ho e he hb;cases zE:listed.getD e.on false with
        | true=>rfl
        | false=>exact (ihk e.on kG (by omega) zE).elim
      rw [hnil] at Io;cases Io
    exact this i rT hl
  | some j =>
   simp only [];have hj:=List.mem_of_getElem? hi;rw [linearise_go_acc,List.reverse_singleton,List.singleton_append];refine ⟨hj,ih _ _ (by simpa using mW) ?_⟩;have:=cnt_set (listed:=listed) (j:=j) (by have:=ou hj;omega) (uc mW hj);omega
def freeB (ops:Array Oper) (ks:Array Nat) (i j:Nat):Bool :=
 match ops[i]?,ops[j]? with
 | some oi,some oj=>bQ (ks.getD i 3) (ks.getD j 3) (te oj) && oi.apart ops oj
 | _,_=>false
theorem qj {ks:Array Nat} {S:World→Prop} {Q:Exit→Act→World→Prop} (hsel:Region.noSelect ops = true) (rV:∀j oj,ops[j]? = some oj→lg oj (ks.getD j 3) = true) :
  ∀(τ:List Nat) (listed:Array Bool) (L:List Nat) (a:Act) (w:World),listed.size = ops.size→ra ops listed τ→L.Nodup→(∀i,i∈L↔(i < ops.size∧listed.getD i false = false)) →
   (∀i j,bef L i j = true→bef τ j i = true→freeB ops ks i j = true)→wpR P ops ks S Q L a w→wpOps P ops Q τ a w
 | [],listed,L,a,w,mW,hs,rA,hL,hag,h=>by
  have:L = []:=by
   refine List.eq_nil_iff_forall_not_mem.2 fun i hi=>?_;obtain ⟨h1,h2⟩:=(hL i).1 hi;rw [hs i h1] at h2;cases h2
  subst this;exact h
 | j :: τ,listed,L,a,w,mW,⟨hj,hs⟩,rA,hL,hag,h=>by
  have Er:j∈L:=(hL j).2 ⟨ou hj,uc mW hj⟩;obtain ⟨R,T,rfl⟩:=List.append_of_mem Er;obtain ⟨_,oj,Is,_⟩:=mem_ready.1 hj;have IE:(listed.setIfInBounds j true).size = ops.size:=by simpa using mW
  have hjR:j∉R:=fun hm=>by
   have:=(List.nodup_append.1 rA).2.2 j hm j (List.mem_cons_self ..);exact this rfl
  have hjT:j∉T:=(List.nodup_cons.1 (List.nodup_append.1 rA).2.1).1;have hjτ:j∉τ:=(List.nodup_cons.1 (ns (listed:=listed) mW (show ra ops listed (j :: τ) from ⟨hj,hs⟩))).1;have xO:=bubble (P:=P) (ks:=ks) (S:=S) (Q:=Q) Is hsel (rV j oj Is) R a w (fun i hi=>by
   have AO:=(hL i).1 (List.mem_append_left _ hi)
   have qX:i≠j:=fun e=>hjR (e ▸ hi)
   have hiτ:i∈τ:=mv IE hs i AO.1 (by rw [getD_set_ne false (Ne.symm qX)];exact AO.2)
   have vM:=hag i j (xf hi (List.mem_cons_self ..)) (by simp [bef,hiτ])
   have FG:=Array.getElem?_eq_getElem AO.1
   simp only [freeB,FG,Is,Bool.and_eq_true] at vM
   exact ⟨_,FG,rV i _ FG,vM.1,vM.2⟩) T h
  rw [wpOps_cons];refine zr (yf (fun a' w' h'=>qj hsel rV τ (listed.setIfInBounds j true) (R ++ T) a' w' IE hs ?_ ?_ ?_ h') xO)
  ·rw [List.nodup_append] at rA ⊢;exact ⟨rA.1,(List.nodup_cons.1 rA.2.1).2,fun x hx y hy=>rA.2.2 x hx y (List.mem_cons_of_mem _ hy)⟩
  ·intro i;by_cases qX:i = j
   ·subst qX;constructor
    ·intro hm;rcases List.mem_append.1 hm with hm | hm
     ·exact absurd hm hjR
     ·exact absurd hm hjT
    ·rintro ⟨h1,hf⟩;exfalso;have Il:i < listed.size:=(by omega);simp [Array.getD_eq_getD_getElem?,Il] at hf
   ·rw [getD_set_ne false (Ne.symm qX),← hL i];simp only [List.mem_append,List.mem_cons,qX,false_or]
  ·intro x y yQ Dg;have hx:x≠j:=fun e=>by
    subst e;rcases List.mem_append.1 (mf yQ).1 with hm | hm
    ·exact hjR hm
    ·exact hjT hm
   have hy:y≠j:=fun e=>by subst e;exact hjτ (mf Dg).1
   refine hag x y (xh hx yQ) ?_;simp only [bef];rw [ag (by simpa using Ne.symm hy)];exact Dg
def ik (ops:Array Oper) (ks:Array Nat) (L:List Nat) (i j:Nat) (first:Bool):Bool :=
 if bef L i j then first || freeB ops ks i j else !first || freeB ops ks j i
def aB:Nat→List (List Bool)
 | 0=>[[]]
 | n+1=>(aB n).flatMap fun l=>[true :: l,false :: l]
theorem ux:∀(l:List Bool),l∈aB l.length
 | []=>by simp [aB]
 | b :: l=>by
  simp only [aB,List.length_cons,List.mem_flatMap]
  exact ⟨l,ux l,by cases b <;> simp⟩
def kw (m:Array Nat) (i j:Nat):Bool:=i == j || (m.getD j 0).testBit i
def im (l:List Oper) (ks:Array Nat) (Ls:List (List Nat)):Bool :=
 let ops:=l.toArray
 let m:=jk l
 let n:=l.length
 let un:List (Nat × Nat):=(List.range n).flatMap fun j=>((List.range j).filter fun i=>!(m.getD j 0).testBit i).map fun i=>(i,j)
 let C:=un.filter fun (i,j)=>Ls.any fun L=>!(ik ops ks L i j true && ik ops ks L i j false)
 Region.noSelect ops &&
 (l.zipIdx.all fun (oj,j)=>lg oj (ks.getD j 3) && (oj.after.all fun e=>!Region.binds .any e || decide (e.on < j))) &&
 (Ls.all fun L=>decide L.Nodup && ((List.range n).all fun i=>L.contains i) && (L.all fun i=>decide (i < n)) && (List.range n).all fun j=>(List.range j).all fun i=>!(m.getD j 0).testBit i || bef L i j) &&
 (aB C.length).all fun σ =>
  (Ls.any fun L=>(C.zip σ).all fun (p,b)=>ik ops ks L p.1 p.2 b) ||
  ((C.zip σ).any fun (p,b)=>(C.zip σ).any fun (q,c) =>
   let x:=if b then p.1 else p.2
   let y:=if b then p.2 else p.1
   let u:=if c then q.1 else q.2
   let v:=if c then q.2 else q.1
   kw m y u && kw m v x)
theorem xl (l:List Oper):(jk l).size = l.length:=by
 have:∀(l:List Oper) (acc:Array Nat),(l.foldl (fun acc o=>acc.push (bG acc o)) acc).size = acc.size+l.length:=by
  intro l
  induction l with
  | nil=>intro acc;simp
  | cons o l ih=>intro acc;simp [ih];omega
 unfold jk;simpa using this l #[]
theorem cX (l:List Oper):wh l.toArray (jk l):=aG l.toArray l #[] (by simp) (fun j i hj=>by simp at hj)
theorem bO {l:List Oper} {ks:Array Nat} {Ls:List (List Nat)} (h:im l ks Ls = true) {Q:Exit→Act→World→Prop} {S:World→Prop} {a:Act} {w:World}
  (hL:∀L∈Ls,wpR P l.toArray ks S Q L a w) (t:Nat):wpOps P l.toArray Q (Region.linearise .any l.toArray t) a w:=by
 simp only [im,Bool.and_eq_true] at h;obtain ⟨⟨⟨hs,EF⟩,DX⟩,hσ⟩:=h;have at_:∀(j:Nat) oj,l[j]? = some oj→(oj,j)∈l.zipIdx:=fun j oj hj=>by
  rw [List.mem_iff_getElem?];exact ⟨j,by simp [List.getElem?_zipIdx,hj]⟩
 have row:∀(j:Nat) oj,l[j]? = some oj→_:=fun j oj hj=>List.all_eq_true.1 EF (oj,j) (at_ j oj hj);simp only [Bool.and_eq_true] at row;have rV:∀(j:Nat) oj,l.toArray[j]? = some oj→lg oj (ks.getD j 3) = true:=fun j oj hj=>(row j oj (by simpa using hj)).1;have uZ:∀(j:Nat) oj,l.toArray[j]? = some oj→∀e∈oj.after,Region.binds .any e = true→e.on < j:=fun j oj hj e he hb=>by
  have:=(row j oj (by simpa using hj)).2;have:=Array.all_eq_true_iff_forall_mem.1 this e he;simpa [hb] using this
 have pC:ra l.toArray (Array.replicate l.toArray.size false) (Region.linearise .any l.toArray t):=by
  unfold Region.linearise;refine dS uZ _ t _ (by simp) ?_;unfold cnt;have:=List.countP_le_length (p:=fun b=>!b) (l:=(Array.replicate l.toArray.size false).toList);simpa using this
 have nG:uo l.toArray (Array.replicate l.toArray.size false):=by
  intro j o hj hl;exfalso;rcases Nat.lt_or_ge j l.length with kG | tB
  ·simp [Array.getD_eq_getD_getElem?,kG] at hl
  ·simp [Array.getD_eq_getD_getElem?,Nat.not_lt.2 tB] at hl
 have Cz:∀i,(Array.replicate l.toArray.size false).getD i false = false:=fun i=>by
  rcases Nat.lt_or_ge i l.length with kG | tB
  ·simp [Array.getD_eq_getD_getElem?,kG]
  ·simp [Array.getD_eq_getD_getElem?,Nat.not_lt.2 tB]
 generalize Region.linearise .any l.toArray t = τ at *;have hτm:∀i j,i < l.length→j < l.length→((jk l).getD j 0).testBit i = true→bef τ i j = true:=fun i j hi hj hb=>by
  rcases tm (cX l) (by simpa using xl l) (by simp) nG pC i j (mv (by simp) pC j (by simpa using hj) (Cz j)) hb with h | h
  ·rw [Cz] at h;cases h
  ·exact h
 have vH:=ns (by simp) pC;have sB:∀i,i < l.length→i∈τ:=fun i hi=>mv (by simp) pC i (by simpa using hi) (Cz i);generalize hC:(List.filter (fun x:Nat × Nat=>Ls.any fun L=>!(ik l.toArray ks L x.1 x.2 true && ik l.toArray ks L x.1 x.2 false))
   ((List.range l.length).flatMap fun j=>((List.range j).filter fun i=>!((jk l).getD j 0).testBit i).map fun i=>(i,j))) = C at hσ
 have Fr:∀p∈C,p.1 < p.2∧p.2 < l.length:=fun p hp=>by
  rw [← hC] at hp;obtain ⟨hp,_⟩:=List.mem_filter.1 hp;obtain ⟨j,hj,hp⟩:=List.mem_flatMap.1 hp;obtain ⟨i,hi,rfl⟩:=List.mem_map.1 hp;exact ⟨by simpa using (List.mem_range.1 (List.mem_filter.1 hi).1),by simpa using hj⟩
 have tU:=List.all_eq_true.1 hσ (C.map fun p=>bef τ p.1 p.2) (by have:=ux (C.map fun p=>bef τ p.1 p.2);simpa using this);have EU:C.zip (C.map fun p=>bef τ p.1 p.2) = C.map fun p=>(p,bef τ p.1 p.2):=by
  clear hC Fr hσ tU
  induction C with
  | nil=>rfl
  | cons p C ih=>simp [ih]
 rw [EU] at tU;simp only [Bool.or_eq_true] at tU;rcases tU with tU | tU
 ·obtain ⟨L,DW,hLC⟩:=List.any_eq_true.1 tU;have Az:=List.all_eq_true.1 DX L DW;simp only [Bool.and_eq_true,decide_eq_true_eq] at Az;obtain ⟨⟨⟨rA,kQ⟩,kG⟩,AT⟩:=Az;have wP:∀i∈L,i < l.length:=fun i hi=>by simpa using List.all_eq_true.1 kG i hi
  have kY:∀i,i < l.length→i∈L:=fun i hi=>by simpa using List.all_eq_true.1 kQ i (by simpa using hi)
  refine qj hs rV τ _ L a w (by simp) pC rA (fun i=>⟨fun hi=>⟨by simpa using wP i hi,Cz i⟩,fun hi=>kY i (by simpa using hi.1)⟩) ?_ (hL L DW);intro i j qX Ii;have AO:=wP i (mf qX).1;have Er:=wP j (mf qX).2;have kT:i≠j:=fun e=>by subst e;rw [ii rA] at qX;cases qX
  have wQ:bef L j i = false:=by
   cases hb:bef L j i with
   | false=>rfl
   | true=>have:=gg rA qX hb;rw [ii rA] at this;cases this
  have Ez:bef τ i j = false:=by
   cases hb:bef τ i j with
   | false=>rfl
   | true=>have:=gg vH hb Ii;rw [ii vH] at this;cases this
  have m1:((jk l).getD j 0).testBit i = false:=by
   cases hb:((jk l).getD j 0).testBit i with
   | false=>rfl
   | true=>rw [hτm i j AO Er hb] at Ez;cases Ez
  have m2:i > j→((jk l).getD i 0).testBit j = false:=fun rS=>by
   cases hb:((jk l).getD i 0).testBit j with
   | false=>rfl
   | true =>
    have:=List.all_eq_true.1 (List.all_eq_true.1 AT i (by simpa using AO)) j (by simpa using rS);rw [hb] at this;simp only [Bool.not_true,Bool.false_or] at this;rw [this] at wQ;cases wQ
  have key:∀x y,x < y→y < l.length→((jk l).getD y 0).testBit x = false→∀b,bef τ x y = b→ik l.toArray ks L x y b = true:=by
   intro x y yQ hy hb b Bw;by_cases AP:(x,y)∈C
   ·have:=List.all_eq_true.1 hLC ((x,y),bef τ x y) (List.mem_map.2 ⟨(x,y),AP,rfl⟩);rw [← Bw];exact this
   ·have Ey:¬ (Ls.any fun L=>!(ik l.toArray ks L x y true && ik l.toArray ks L x y false)) = true:=fun Eb=>AP (by
     rw [← hC]
     refine List.mem_filter.2 ⟨List.mem_flatMap.2 ⟨y,List.mem_range.2 hy,List.mem_map.2 ⟨x,List.mem_filter.2 ⟨List.mem_range.2 yQ,by simp only [hb,Bool.not_false]⟩,rfl⟩⟩,Eb⟩)
    have h2:(ik l.toArray ks L x y true && ik l.toArray ks L x y false) = true:=by
     cases lV:(ik l.toArray ks L x y true && ik l.toArray ks L x y false) with
     | true=>rfl
     | false=>exact absurd (List.any_eq_true.2 ⟨L,DW,by rw [lV];rfl⟩) Ey
    rw [Bool.and_eq_true] at h2;cases b
    ·exact h2.2
    ·exact h2.1
  rcases Nat.lt_or_gt_of_ne kT with qZ | hgt1
  ·have:=key i j qZ Er m1 false Ez;simpa [ik,qX] using this
  ·have:=key j i hgt1 AO (m2 hgt1) true Ii;simpa [ik,wQ] using this
 ·exfalso;obtain ⟨⟨p,b⟩,hp,h2⟩:=List.any_eq_true.1 tU;obtain ⟨⟨q,c⟩,hq,h3⟩:=List.any_eq_true.1 h2;obtain ⟨p',oP,Iu⟩:=List.mem_map.1 hp;obtain ⟨q',rB,Iv⟩:=List.mem_map.1 hq;injection Iu with e1 e2;injection Iv with e3 e4;subst e1;subst e3;have bound:∀p∈C,∀b,bef τ p.1 p.2 = b→bef τ (if b then p.1 else p.2) (if b then p.2 else p.1) = true∧(if b then p.1 else p.2) < l.length∧(if b then p.2 else p.1) < l.length:=fun p hp b hb=>by
   obtain ⟨h1,h2⟩:=Fr p hp;cases b
   ·refine ⟨?_,by simpa using h2,by simp;omega⟩;rcases sb (sB p.1 (by omega)) (sB p.2 h2) (by omega) with h | h
    ·rw [h] at hb;cases hb
    ·simpa using h
   ·exact ⟨by simpa using hb,by simp;omega,by simpa using h2⟩
  obtain ⟨b1,b2,b3⟩:=bound _ oP b e2;obtain ⟨c1,c2,c3⟩:=bound _ rB c e4;simp only [Bool.and_eq_true] at h3;have reach:∀i j,i < l.length→j < l.length→kw (jk l) i j = true→i = j∨bef τ i j = true:=fun i j hi hj h=>by
   simp only [kw,Bool.or_eq_true,beq_iff_eq] at h;rcases h with h | h
   ·exact .inl h
   ·exact .inr (hτm i j hi hj h)
  have step1:bef τ (if b then p'.1 else p'.2) (if c then q'.1 else q'.2) = true:=by
   rcases reach _ _ b3 c2 h3.1 with e | e
   ·rw [← e];exact b1
   ·exact gg vH b1 e
  have step2:=gg vH step1 c1;have:=(by
   rcases reach _ _ c3 b2 h3.2 with e | e
   ·rw [e] at step2;exact step2
   ·exact gg vH step2 e:bef τ (if b then p'.1 else p'.2) (if b then p'.1 else p'.2) = true)
  rw [ii vH] at this;cases this
def wpT (P:Program) (ops:Array Oper) (S:World→Prop) (Q:Exit→Act→World→Prop):List Oper→List Nat→Act→World→Prop
 | [],_,a,w=>Q .normal a w
 | o :: rest,ks,a,w =>
  if Region.wanted o (yielded ops a.tmps) = true then
   if ks.headD 3 = 0 then ∃v,(∀w',(execOp a.eval o).run P w' = .ok (.value v) w')∧wpT P ops S Q rest ks.tail (a.put o.dst v) w
   else if ks.headD 3 = 5 then S w∧∃v,(∀w',S w'→StillAt P o a.eval w' v)∧wpT P ops S Q rest ks.tail (a.put o.dst v) w
   else if ks.headD 3 = 6 then S w∧o.wp P a w (fun a' w'=>S w'∧wpT P ops S Q rest ks.tail a' w') NoQ
   else o.wp P a w (wpT P ops S Q rest ks.tail) NoQ
  else wpT P ops S Q rest ks.tail (a.put o.dst undef) w
theorem wpT_eq {S:World→Prop} {Q:Exit→Act→World→Prop} {ks:Array Nat}:∀(L:List Nat) (l:List Oper),L.map (fun i=>ops[i]?) = l.map some →
  wpT P ops S Q l (L.map fun i=>ks.getD i 3) = wpR P ops ks S Q L
 | [],[],_=>rfl
 | [],_ :: _,h=>by cases h
 | _ :: _,[],h=>by cases h
 | i :: L,o :: l,h=>by
  simp only [List.map_cons,List.cons.injEq] at h
  have ih:=wpT_eq (S:=S) (Q:=Q) (ks:=ks) L l h.2
  funext a w
  simp only [List.map_cons,wpR,wpT,ge,h.1,List.headD_cons,List.tail_cons,ih]
theorem vj {id:Nat} {l:List Oper} {Q:Exit→Act→World→Prop} {a:Act} {w:World} (ks:List Nat) (Ls:List (List Nat)) (S:World→Prop) (hm:P.follows .mixedOrders = true)
  (hB:im l ks.toArray Ls = true) (h:∀L∈Ls,wpR P l.toArray ks.toArray S Q L a w.drew):(Code.region id l.toArray true).wp P Q a w :=
 wp_region_draw fun t=>by
  simp only [Region.schedule,hm,Bool.true_or,if_true]
  exact bO hB h t
def OkAny {α:Type} (P:Program) (s:Sem α):Prop:=∀w x w',s.run P w = .ok x w'→w' = w∧∀w2,s.run P w2 = .ok x w2
def NeverOk {α:Type} (P:Program) (s:Sem α):Prop:=∀w x w',s.run P w≠.ok x w'
theorem NeverOk.any {α:Type} {P:Program} {s:Sem α} (h:NeverOk P s):OkAny P s:=fun w x w' hr=>absurd hr (h w x w')
theorem NeverOk.halt {α:Type} (P:Program) (x:Halt):NeverOk P (Sem.halt x:Sem α):=fun w y w' h=>by simp only [Sem.run] at h;cases h
theorem NeverOk.bind {α β:Type} {P:Program} {s:Sem α} {f:α→Sem β} (hf:∀x,NeverOk P (f x)):NeverOk P (s >>= f):=fun w x w' h=>by
 simp only [Sem.run_bind] at h
 cases hr:s.run P w with
 | halt e w1=>rw [hr] at h;cases h
 | ok y w1=>rw [hr] at h;exact hf y w1 x w' h
theorem NeverOk.runtimePanic {α:Type} (P:Program) (e:RuntimeError):NeverOk P (runtimePanic e:Sem α):=by
 unfold Go.runtimePanic;refine NeverOk.bind fun p=>?_;cases e <;> repeat' (first
  | exact NeverOk.halt P _
  | (refine NeverOk.bind fun _=>?_)
  | dsimp only)
theorem NeverOk.boundsPanic {α:Type} (P:Program) (k:IntKind) (x y:Int) (c:BoundsCode):NeverOk P (boundsPanic k x y c:Sem α):=by unfold Go.boundsPanic;dsimp only;split <;> exact NeverOk.bind fun _=>NeverOk.runtimePanic P _
theorem OkAny.pure {α:Type} (P:Program) (x:α):OkAny P (Sem.pure x):=fun w y w' h=>by
 simp only [Sem.run] at h
 cases h
 exact ⟨rfl,fun w2=>rfl⟩
theorem OkAny.halt {α:Type} (P:Program) (x:Halt):OkAny P (Sem.halt x:Sem α):=(NeverOk.halt P x).any
theorem OkAny.program {α:Type} {P:Program} {k:Program→Sem α} (hk:∀p,OkAny P (k p)):OkAny P (.program k):=fun w x w' h=>by
 simp only [Sem.run] at h ⊢
 exact hk P w x w' h
theorem OkAny.bind {α β:Type} {P:Program} {s:Sem α} {f:α→Sem β} (hs:OkAny P s) (hf:∀x,OkAny P (f x)):OkAny P (s >>= f):=fun w x w' h=>by
 simp only [Sem.run_bind] at h ⊢
 cases hr:s.run P w with
 | halt e w1=>rw [hr] at h;cases h
 | ok y w1 =>
  rw [hr] at h
  obtain ⟨rfl,h1⟩:=hs w y w1 hr
  simp only [Result.andThen] at h
  obtain ⟨e,h2⟩:=hf y _ x w' h
  exact ⟨e,fun w2=>by rw [h1 w2];exact h2 w2⟩
theorem OkAny.typeInfo (P:Program) (t:TypeId):OkAny P (typeInfo t):=by
 unfold Go.typeInfo Go.program;refine OkAny.bind (OkAny.program fun p=>OkAny.pure P p) fun p=>?_;split
 ·exact OkAny.pure _ _
 ·exact OkAny.halt _ _
theorem OkAny.underlying (P:Program) (t:TypeId):OkAny P (underlying t):=by
 unfold Go.underlying Go.program;refine OkAny.bind (OkAny.program fun p=>OkAny.pure P p) fun p=>?_;split
 ·exact OkAny.pure _ _
 ·exact OkAny.halt _ _
theorem OkAny.sizeOf (P:Program) (t:TypeId):OkAny P (sizeOf t):=by unfold Go.sizeOf;exact OkAny.bind (OkAny.typeInfo P t) fun _=>OkAny.pure _ _
theorem OkAny.isAgg (P:Program) (t:TypeId):OkAny P (isAgg t):=by unfold Go.isAgg;refine OkAny.bind (OkAny.underlying P t) fun _=>?_;split <;> exact OkAny.pure _ _
theorem OkAny.part (P:Program) (t:TypeId) (cs:Array Value) (n:Nat):OkAny P (part t cs n):=by
 unfold Go.part;refine OkAny.bind (OkAny.isAgg P t) fun b=>?_;split
 ·exact OkAny.bind (OkAny.sizeOf P t) fun _=>OkAny.pure _ _
 ·split
  ·exact OkAny.pure _ _
  ·exact OkAny.halt _ _
theorem OkAny.asIntOf (P:Program) (v:Value):OkAny P (asIntOf v):=by
 unfold Go.asIntOf;split
 ·exact OkAny.pure _ _
 ·exact OkAny.halt _ _
 ·exact OkAny.halt _ _
theorem OkAny.sliceBound (P:Program) (x:Value) (y:Nat) (c:BoundsCode):OkAny P (Instr.sliceBound x y c):=by
 unfold Instr.sliceBound;refine OkAny.bind (OkAny.asIntOf P x) fun p=>?_;dsimp only;split
 ·exact OkAny.pure _ _
 ·exact (NeverOk.boundsPanic P _ _ _ _).any
theorem OkAny.sureAddr (P:Program) (v:Value):OkAny P (Instr.sureAddr v):=by
 unfold Instr.sureAddr;split
 ·exact OkAny.pure _ _
 ·exact OkAny.halt _ _
theorem OkAny.asAddr (P:Program) (v:Value):OkAny P (asAddr v):=by
 unfold Go.asAddr;split
 ·exact OkAny.pure _ _
 ·exact (NeverOk.runtimePanic P _).any
 ·exact OkAny.halt _ _
theorem OkAny.sliceBounds (P:Program) (b:Bool) (l c:Nat) (lo hi mx:Option Value):OkAny P (Instr.sliceBounds b l c lo hi mx):=by
 unfold Instr.sliceBounds
 repeat' (first
  | exact OkAny.pure _ _
  | exact OkAny.halt _ _
  | exact OkAny.sliceBound P _ _ _
  | (refine OkAny.bind ?_ fun _=>?_)
  | split
  | dsimp only)
theorem OkAny.slice (P:Program) (t:TypeId) (x:Value) (lo hi mx:Option Value):OkAny P (Instr.slice t x lo hi mx):=by
 unfold Instr.slice
 repeat' (first
  | exact OkAny.pure _ _
  | exact OkAny.halt _ _
  | exact OkAny.underlying P _
  | exact OkAny.sizeOf P _
  | exact OkAny.asAddr P _
  | exact OkAny.sliceBounds P _ _ _ _ _ _
  | (refine OkAny.bind ?_ fun _=>?_)
  | split
  | dsimp only)
theorem OkAny.sliceAt (P:Program) (t:TypeId) (x:Value) (lo hi mx:Option Value):OkAny P (Instr.sliceAt t x lo hi mx):=by
 unfold Instr.sliceAt
 repeat' (first
  | exact OkAny.pure _ _
  | exact OkAny.halt _ _
  | exact OkAny.underlying P _
  | exact OkAny.sizeOf P _
  | exact OkAny.sureAddr P _
  | exact OkAny.slice P _ _ _ _ _
  | exact OkAny.sliceBounds P _ _ _ _ _ _
  | (refine OkAny.bind ?_ fun _=>?_)
  | split
  | dsimp only)
theorem OkAny.indexAt (P:Program) (t:TypeId) (x ix:Value):OkAny P (Instr.indexAt t x ix):=by
 unfold Instr.indexAt
 repeat' (first
  | exact OkAny.pure _ _
  | exact OkAny.halt _ _
  | exact OkAny.underlying P _
  | exact OkAny.sizeOf P _
  | exact OkAny.asIntOf P _
  | exact OkAny.sureAddr P _
  | exact (NeverOk.boundsPanic P _ _ _ _).any
  | (refine OkAny.bind ?_ fun _=>?_)
  | split
  | dsimp only)
theorem OkAny.index (P:Program) (t:TypeId) (x ix:Value):OkAny P (Instr.index t x ix):=by
 unfold Instr.index
 repeat' (first
  | exact OkAny.pure _ _
  | exact OkAny.halt _ _
  | exact OkAny.underlying P _
  | exact OkAny.sizeOf P _
  | exact OkAny.asIntOf P _
  | exact OkAny.part P _ _ _
  | exact (NeverOk.boundsPanic P _ _ _ _).any
  | (refine OkAny.bind ?_ fun _=>?_)
  | split
  | dsimp only)
def rk:Value→Value→Bool
 | .int _ _,.int _ _=>true
 | .bool _,.bool _=>true
 | .string _,.string _=>true
 | _,_=>false
theorem OkAny.equal (P:Program) (t:TypeId) (x y:Bool):OkAny P (Op.equal t (.bool x) (.bool y)):=by
 unfold Op.equal Op.maxDepth Op.equalIn;refine OkAny.bind (OkAny.underlying P t) fun d=>?_;split <;> first | exact OkAny.pure _ _ | exact OkAny.halt _ _ | skip
 all_goals (rename_i h;first|(cases h;done) | skip)
 all_goals simp_all
theorem OkAny.binOp (P:Program) (op:BinOp) (t:TypeId) (x y:Value) (h:rk x y = true):OkAny P (binOp op t x y):=by
 unfold rk at h;split at h
 ·rename_i k a l b;cases op <;> simp only [Go.binOp,Op.shift,Op.intArith,Op.intDiv,Op.intBits,Op.intCmp] <;> repeat' (first
   | exact OkAny.pure _ _
   | exact OkAny.halt _ _
   | exact (NeverOk.runtimePanic P _).any
   | split)
 ·rename_i a b;cases op <;> simp only [Go.binOp] <;> repeat' (first
   | exact OkAny.pure _ _
   | exact OkAny.halt _ _
   | exact OkAny.equal P _ _ _
   | (refine OkAny.bind ?_ fun _=>?_))
 ·rename_i a b;cases op <;> simp only [Go.binOp,Op.stringOp] <;> repeat' (first
   | exact OkAny.pure _ _
   | exact OkAny.halt _ _
   | split)
 ·cases h
theorem OkAny.eqGuard (P:Program) (op:BinOp) (t:TypeId) (x y:Operand) (a b:Value) (h:rk a b = true):OkAny P (eqGuard op t x y a b):=by
 unfold rk at h;split at h
 ·cases op <;> simp only [Go.eqGuard] <;> exact OkAny.pure _ _
 ·cases op <;> simp only [Go.eqGuard] <;> exact OkAny.pure _ _
 ·cases op <;> simp only [Go.eqGuard] <;> exact OkAny.pure _ _
 ·cases h
def ua (o:Oper) (ρ:Operand→Value):Bool :=
 match o.op with
 | .slice _ _ _ _ _ | .indexAddr _ _ _ | .index _ _ _=>true
 | .binOp _ _ x y _=>rk (ρ x) (ρ y)
 | _=>false
theorem fL {o:Oper} {a:Act} (h:ua o a.eval = true) {w:World} {K:Act→World→Prop} (hh:o.wp P a w K NoQ) :
  ∃v,(∀w',(execOp a.eval o).run P w' = .ok (.value v) w')∧K (a.put o.dst v) w:=by
 obtain ⟨dst,op,type,pos,after,guard⟩:=o;have key:∀s:Sem Value,OkAny P s→execOp a.eval ⟨dst,op,type,pos,after,guard⟩ = (do let x ← s;Pure.pure (Next.value x)) →
   ∃v,(∀w',(execOp a.eval ⟨dst,op,type,pos,after,guard⟩).run P w' = .ok (.value v) w')∧K (a.put dst v) w:=by
  intro s hs he
  unfold Oper.wp at hh
  rw [he] at hh ⊢
  simp only [Sem.run_bind] at hh ⊢
  cases hr:s.run P w with
  | halt x w1 =>
   rw [hr] at hh;simp only [Result.andThen] at hh;cases x <;> simp only [Oper.upon] at hh;exact hh.elim
  | ok v w1 =>
   rw [hr] at hh;simp only [Result.andThen,Sem.run_pure,Oper.upon] at hh;obtain ⟨rfl,h2⟩:=hs w v w1 hr;exact ⟨v,fun w'=>by rw [h2 w'];rfl,hh⟩
 cases op <;> simp only [ua] at h <;> first|(cases h;done) | skip
 ·exact key _ (OkAny.bind (OkAny.eqGuard P _ _ _ _ _ _ h) fun _=>OkAny.binOp P _ _ _ _ h) rfl
 ·exact key _ (OkAny.sliceAt P _ _ _ _ _) rfl
 ·exact key _ (OkAny.indexAt P _ _ _) rfl
 ·exact key _ (OkAny.index P _ _ _) rfl
theorem wpR_of {ks:Array Nat} {S:World→Prop} {Q:Exit→Act→World→Prop} {L:List Nat} {a:Act} {w:World} (l:List Oper) (ks':List Nat) (h1:L.map (fun i=>ops[i]?) = l.map some) (h2:L.map (fun i=>ks.getD i 3) = ks')
  (h:wpT P ops S Q l ks' a w):wpR P ops ks S Q L a w:=by
 rw [← wpT_eq L l h1,h2];exact h
end
