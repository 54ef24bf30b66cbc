import Derived.Test.YtfoleblcaloeoaaGreatDoorZad
import Derived.MapFrom
import Derived.Maps.Keyed
import Derived.Maps.RangeRun
import Derived.Test.YtfoleblcaloeoaaGreatDoorChecked
import Derived.RangeFuncNested
import Derived.RangeFuncBound
import Derived.RangeFuncCalls
import Derived.RangeFuncLeaves
import Derived.Shelf.Abstract
import Derived.Shelf.RegionOpen
import Derived.OwnWalkIn
import Derived.TacticsInMore
import Derived.LoopNIn
import Derived.LoopIn
import Derived.Deep.CutRange
import Derived.Deep.CutBlock
set_option maxHeartbeats 40000000
set_option maxRecDepth 20000
namespace Go.Proofs.YtfoleblcaloeoaaGreatDoor
open Go Go.RowKit
def ju (k:IntKind) (z:Int):Value→Bool
 | .int k' z'=>k' == k && z' == z
 | _=>false
variable {v:Value} {k:IntKind}
theorem mu {z:Int}:ju k z v = true↔v = .int k z:=by cases v <;> simp [ju]
def ez (k:IntKind) (z:Int):List MapEntry→Nat→Option (Nat × Value)
 | [],_=>none
 | e :: es,i=>if ju k z e.key then some (i,e.val) else ez k z es (i+1)
theorem iz (k:IntKind) (z:Int) (e:MapEntry) (es:List MapEntry) (i:Nat):ez k z (e :: es) i = if ju k z e.key then some (i,e.val) else ez k z es (i+1):=rfl
def cJ (k:IntKind) (l:List MapEntry):Prop:=∀e∈l,∃z,e.key = .int k z
theorem vp {q k:IntKind} {z:Int}:∀(l:List MapEntry) (i:Nat),cJ k l→Instr.findNow (.int q) (.int k z) l i = some (ez k z l i)
 | [],_,_=>rfl
 | e :: es,i,h=>by
  obtain ⟨y,hy⟩:=h e (List.mem_cons_self ..)
  have ih:=vp (q:=q) (z:=z) es (i+1) (fun e he=>h e (List.mem_cons_of_mem _ he))
  unfold Instr.findNow ez
  rw [hy]
  have e1:Instr.sameNow (.int q) (.int k z) (.int k y) = some (z == y):=by simp [Instr.sameNow]
  rw [e1]
  by_cases hz:z = y
  ·subst hz
   simp [ju]
  ·have h1:(z == y) = false:=aj hz
   have h2:ju k z (.int k y) = false:=by simp [ju,Ne.symm hz]
   rw [h1,h2]
   simpa using ih
theorem lh {k:IntKind} {z:Int}:∀(l:List MapEntry) (i:Nat),ez k z l i = none↔∀e∈l,e.key≠.int k z
 | [],_=>by simp [ez]
 | e :: es,i=>by
  unfold ez
  have ih:=lh (k:=k) (z:=z) es (i+1)
  by_cases h:ju k z e.key = true
  ·rw [ah h]
   simp [mu.1 h]
  ·rw [ag h,ih]
   have:e.key≠.int k z:=fun e2=>h (mu.2 e2)
   simp [this]
theorem ij {k:IntKind} {z:Int} {v:Value} {n:Nat}:∀(l:List MapEntry) (j:Nat),ez k z l j = some (n,v)→∃i,n = j+i∧∃h:i < l.length,l[i].key = .int k z∧l[i].val = v
 | [],_,h=>by simp [ez] at h
 | e :: es,j,h=>by
  unfold ez at h
  by_cases hk:ju k z e.key = true
  ·rw [ah hk] at h
   obtain ⟨rfl,rfl⟩:=Prod.mk.inj (aq h)
   exact ⟨0,rfl,by simp,mu.1 hk,rfl⟩
  ·rw [ag hk] at h
   obtain ⟨i,h1,h2,h3⟩:=ij es (j+1) h
   exact ⟨i+1,by omega,by simpa using h2,by simpa using h3⟩
theorem uy {k:IntKind} {z:Int} {v val:Value} {n:Nat} (z':Int):∀(l:List MapEntry) (j i:Nat),ez k z l j = some (n,v)→n = j+i →
  (ez k z' (l.modify i fun e=>{ e with key:=.int k z,val:=val }) j).map (·.2) = if z' = z then some val else (ez k z' l j).map (·.2)
 | [],_,_,h,_=>by simp [ez] at h
 | e :: es,j,i,h,hn=>by
  unfold ez at h
  by_cases hk:ju k z e.key = true
  ·rw [ah hk] at h
   obtain ⟨rfl,rfl⟩:=Prod.mk.inj (aq h)
   obtain rfl:i = 0:=by omega
   rw [List.modify_zero_cons,iz,iz]
   by_cases hz:z' = z
   ·subst hz
    simp [ju]
   ·have h2:ju k z' (.int k z) = false:=by simp [ju,Ne.symm hz]
    rw [mu.1 hk,h2,ag hz]
    rfl
  ·rw [ag hk] at h
   obtain ⟨i',h1,h2,h3⟩:=ij es (j+1) h
   obtain ⟨m,rfl⟩:∃m,i = m+1:=⟨i - 1,by omega⟩
   have ih:=uy (val:=val) z' es (j+1) m h (by omega)
   rw [List.modify_succ_cons,iz,iz]
   by_cases hz:ju k z' e.key = true
   ·have:z'≠z:=fun e2=>hk (e2 ▸ hz)
    rw [ah hz,ag this,ah hz]
   ·rw [ag hz,ag hz]
    exact ih
theorem pt {k:IntKind} {z:Int} {val:Value} {c:Nat} (z':Int):∀(l:List MapEntry) (j:Nat),ez k z l j = none →
  (ez k z' (l ++ [⟨.int k z,val,c⟩]) j).map (·.2) = if z' = z then some val else (ez k z' l j).map (·.2)
 | [],j,_=>by
  by_cases hz:z' = z
  ·subst hz;simp [ez,ju]
  ·simp [ez,ju,hz,Ne.symm hz]
 | e :: es,j,h=>by
  unfold ez at h
  by_cases hk:ju k z e.key = true
  ·rw [ah hk] at h;cases h
  ·rw [ag hk] at h
   have ih:=pt (val:=val) (c:=c) z' es (j+1) h
   rw [List.cons_append,iz,iz]
   by_cases hz:ju k z' e.key = true
   ·have:z'≠z:=fun e2=>hk (e2 ▸ hz)
    rw [ah hz,ag this,ah hz]
   ·rw [ag hz,ag hz]
    exact ih
def Dist (l:List MapEntry):Prop:=l.Pairwise fun a b=>a.key≠b.key
theorem aH {k:IntKind} {z:Int} {v:Value} {n:Nat} (z':Int):∀(l:List MapEntry) (j i:Nat),Dist l→ez k z l j = some (n,v)→n = j+i →
  ∀j',(ez k z' (l.eraseIdx i) j').map (·.2) = if z' = z then none else (ez k z' l j).map (·.2)
 | [],_,_,_,h,_=>by simp [ez] at h
 | e :: es,j,i,hd,h,hn=>by
  intro j'
  have hidx:∀(m:List MapEntry) (a b:Nat),(ez k z' m a).map (·.2) = (ez k z' m b).map (·.2):=by
   intro m
   induction m with
   | nil=>intro a b;rfl
   | cons x m ih=>intro a b;unfold ez;split <;> first | rfl | exact ih _ _
  rw [Dist,List.pairwise_cons] at hd;unfold ez at h;by_cases hk:ju k z e.key = true
  ·rw [ah hk] at h;obtain ⟨rfl,rfl⟩:=Prod.mk.inj (aq h);obtain rfl:i = 0:=(by omega);rw [List.eraseIdx_zero,List.tail_cons];by_cases hz:z' = z
   ·subst hz;rw [ah rfl,(lh es j').2 (fun x hx e2=>hd.1 x hx ((mu.1 hk).trans e2.symm))];rfl
   ·have h2:ju k z' e.key = false:=(by rw [mu.1 hk];simp [ju,Ne.symm hz]);rw [ag hz,iz,h2];exact hidx _ _ _
  ·rw [ag hk] at h;obtain ⟨i',h1,h2,h3⟩:=ij es (j+1) h;obtain ⟨m,rfl⟩:∃m,i = m+1:=⟨i - 1,by omega⟩;have ih:=aH z' es (j+1) m hd.2 h (by omega) (j'+1);rw [List.eraseIdx_cons_succ,iz,iz];by_cases hz:ju k z' e.key = true
   ·have:z'≠z:=fun e2=>hk (e2 ▸ hz);rw [ah hz,ag this,ah hz];rfl
   ·rw [ag hz,ag hz];exact ih
def Born (l:List MapEntry) (clock:Nat):Prop:=l.Pairwise (fun a b=>a.born≠b.born)∧∀e∈l,e.born < clock
variable {c:Nat}
theorem Born.push {l:List MapEntry} (h:Born l c) (key val:Value):Born (l ++ [⟨key,val,c⟩]) (c+1):=by
 refine ⟨List.pairwise_append.2 ⟨h.1,List.pairwise_singleton _ _,fun x hx y hy=>?_⟩,fun x hx=>?_⟩
 ·obtain rfl:=aa hy;have:=h.2 x hx;show x.born≠c;omega
 ·rcases List.mem_append.1 hx with hx | hx
  ·have:=h.2 x hx;omega
  ·obtain rfl:=aa hx;exact Nat.lt_succ_self _
theorem Born.erase {l:List MapEntry} (h:Born l c) (i:Nat):Born (l.eraseIdx i) c :=
 ⟨h.1.sublist (List.eraseIdx_sublist _ _),fun x hx=>h.2 x ((List.eraseIdx_sublist _ _).subset hx)⟩
theorem Born.modify {l:List MapEntry} {c:Nat} (h:Born l c) (i:Nat) (g:MapEntry→MapEntry) (hg:∀e,(g e).born = e.born):Born (l.modify i g) c:=by
 have kb:∀(j:Nat) (hj:j < (l.modify i g).length),(l.modify i g)[j].born = (l[j]'(by simpa using hj)).born:=by
  intro j hj;rw [List.getElem_modify];split
  ·rw [hg]
  ·rfl
 refine ⟨?_,fun x hx=>?_⟩
 ·have h1:=h.1;rw [List.pairwise_iff_getElem] at h1 ⊢;intro a b ha hb xG;rw [kb,kb];exact h1 a b _ _ xG
 ·obtain ⟨j,hj,rfl⟩:=List.getElem_of_mem hx;rw [kb];exact h.2 _ (ao _)
def MapB (w:World) (b:Nat) (k:IntKind) (f:Int→Option Value):Prop :=
 ∃es clock,w.heap[b]? = some (.map es clock)∧cJ k es.toList∧Dist es.toList∧Born es.toList clock∧∀z,(ez k z es.toList 0).map (·.2) = f z
variable {f:Int→Option Value} {b:Nat} {w:World}
theorem MapB.lt (h:MapB w b k f):b < w.heap.size:=by obtain ⟨_,_,h,_⟩:=h;exact (Array.getElem?_eq_some_iff.1 h).1
variable {F:List Nat} {w':World}
theorem MapB.chg (h:MapB w b k f) (hc:Chg F w w') (hb:b∉F):MapB w' b k f:=by have hl:=h.lt;obtain ⟨es,c,h1,h2⟩:=h;exact ⟨es,c,(hc.block b hl hb).trans h1,h2⟩
theorem MapB.stay (h:MapB w b k f) (hc:Chg [] w w'):MapB w' b k f:=h.chg hc ab
theorem MapB.new (w:World) (k:IntKind):MapB (w.alloc (.map #[] 0)) w.heap.size k (fun _=>none) :=
 ⟨#[],0,heap_alloc_new w _,(fun _ h=>by cases h),List.Pairwise.nil,⟨List.Pairwise.nil,fun _ h=>by cases h⟩,fun _=>rfl⟩
section
variable {P:Program} {w:World} {t kt e:TypeId} {q k:IntKind} {b:Nat} {f:Int→Option Value}
theorem gq (hk:P.underlying kt = some (.int q)) (c:Bool) (z:Int) (w:World):(Instr.checkKey c 10000 kt (.int k z)).run P w = .ok () w:=by unfold Instr.checkKey;simp [run_underlying hk,Result.andThen]
theorem ia (hk:P.underlying kt = some (.int q)) {l:List MapEntry} (hl:cJ k l) (z:Int) (w:World):(Instr.findKey kt (.int k z) l).run P w = .ok (ez k z l 0) w:=by unfold Instr.findKey;simp [run_underlying hk,vp l 0 hl,Result.andThen]
theorem fh (ht:P.underlying t = some (.map kt e)) (hk:P.underlying kt = some (.int q)) (h:MapB w b k f) {z:Int} {v:Value} (hv:f z = some v) (c:Bool) :
  (Instr.lookup t (.map (some b)) (.int k z) c).run P w = .ok (if c then .tuple #[v,.bool true] else v) w:=by
 obtain ⟨es,cl,h1,h2,h3,hb,h4⟩:=h;have h5:=h4 z;rw [hv] at h5;cases h6:ez k z es.toList 0 with
 | none=>rw [h6] at h5;cases h5
 | some p =>
  rw [h6] at h5;obtain ⟨i,v'⟩:=p;obtain rfl:=aq h5;cases c <;> simp [Instr.lookup,run_underlying ht,MapKept.run_getObj_map h1,gq hk,ia hk h2,h6,Result.andThen]
theorem fg (ht:P.underlying t = some (.map kt e)) (hk:P.underlying kt = some (.int q)) (h:MapB w b k f) {z:Int} (hv:f z = none) {y:Value} (hz:(zeroValue e).run P w = .ok y w) (c:Bool) :
  (Instr.lookup t (.map (some b)) (.int k z) c).run P w = .ok (if c then .tuple #[y,.bool false] else y) w:=by
 obtain ⟨es,cl,h1,h2,h3,hb,h4⟩:=h;have h5:=h4 z;rw [hv] at h5;have h6:ez k z es.toList 0 = none:=by
  cases h6:ez k z es.toList 0 with
  | none=>rfl
  | some p=>rw [h6] at h5;cases h5
 cases c <;> simp [Instr.lookup,run_underlying ht,MapKept.run_getObj_map h1,gq hk,ia hk h2,h6,hz,Result.andThen]
theorem gc (w:World) {b:Nat} (o:Obj) (hb:b < w.heap.size):(ChangeMaps.setBlock w b o).heap[b]? = some o:=by simp [ChangeMaps.setBlock,hb]
theorem ic (w:World) (b:Nat) (o:Obj):Chg [b] w (ChangeMaps.setBlock w b o) :=
 ⟨rfl,rfl,rfl,by simp [ChangeMaps.setBlock],fun k hk hb=>by
  have:b≠k:=fun e=>hb (by rw [e];exact List.mem_cons_self ..)
  simp [ChangeMaps.setBlock,this]⟩
theorem yd (ht:P.underlying t = some (.map kt e)) (hk:P.underlying kt = some (.int q)) (h:MapB w b k f) (z:Int) (val:Value) :
  ∃w',(Instr.mapUpdate t (.map (some b)) (.int k z) val).run P w = .ok () w'∧MapB w' b k (fun y=>if y = z then some val else f y)∧Chg [b] w w':=by
 have kG:=h.lt;obtain ⟨es,cl,h1,h2,h3,hb,h4⟩:=h;cases h6:ez k z es.toList 0 with
 | none =>
  refine ⟨ChangeMaps.setBlock w b (.map (es.push ⟨.int k z,val,cl⟩) (cl+1)),by simp [Instr.mapUpdate,run_underlying ht,MapKept.run_getObj_map h1,gq hk,ia hk h2,h6,MapKept.run_setObj_map _ h1,Result.andThen,ChangeMaps.setBlock],⟨_,_,gc w _ kG,?_,?_,(by rw [Array.toList_push];exact hb.push _ _),?_⟩,ic _ _ _⟩
  ·intro x hx;rw [Array.toList_push] at hx;rcases List.mem_append.1 hx with hx | hx
   ·exact h2 x hx
   ·obtain rfl:=aa hx;exact ⟨z,rfl⟩
  ·rw [Array.toList_push];refine List.pairwise_append.2 ⟨h3,List.pairwise_singleton _ _,fun x hx y hy=>?_⟩;obtain rfl:=aa hy;exact (lh _ _).1 h6 x hx
  ·intro y;rw [Array.toList_push,pt y _ _ h6,h4]
 | some p =>
  obtain ⟨i,v⟩:=p;obtain ⟨i',e1,h7,h8,h9⟩:=ij _ _ h6;obtain rfl:i = i':=by omega
  have GV:i < es.size:=by simpa using h7
  have h8':es[i].key = .int k z:=by simpa using h8
  have qH:∀W,(Instr.keyThatStays (.int k z) (.int k z)).run P W = .ok (.int k z) W:=fun W=>by simp [Instr.keyThatStays,Instr.sameBits]
  refine ⟨ChangeMaps.setBlock w b (.map (es.modify i fun e=>{ e with key:=.int k z,val:=val }) cl),by simp [Instr.mapUpdate,run_underlying ht,MapKept.run_getObj_map h1,gq hk,ia hk h2,h6,GV,h8',qH,MapKept.run_setObj_map _ h1,Result.andThen,ChangeMaps.setBlock],⟨_,_,gc w _ kG,?_,?_,(by rw [Array.toList_modify];exact hb.modify _ _ (fun _=>rfl)),?_⟩,ic _ _ _⟩
  ·intro x hx;rw [Array.toList_modify] at hx;obtain ⟨j,hj,rfl⟩:=List.getElem_of_mem hx;rw [List.getElem_modify];split
   ·exact ⟨z,rfl⟩
   ·exact h2 _ (ao _)
  ·rw [Array.toList_modify];unfold Dist at h3 ⊢;rw [List.pairwise_iff_getElem] at h3 ⊢;intro a c ha hc Ha;have ka:∀(j:Nat) (hj:j < (es.toList.modify i fun e=>{ e with key:=.int k z,val:=val }).length),(es.toList.modify i fun e=>{ e with key:=.int k z,val:=val })[j].key = (es.toList[j]'(by simpa using hj)).key:=by
    intro j hj;rw [List.getElem_modify];split
    ·rename_i he;subst he;exact h8.symm
    ·rfl
   rw [ka,ka];exact h3 a c _ _ Ha
  ·intro y;rw [Array.toList_modify,uy y _ _ _ h6 (by omega),h4]
theorem yc {ty:TypeId} (ht:P.underlying t = some (.map kt e)) (hk:P.underlying kt = some (.int q)) (h:MapB w b k f) (z:Int) :
  ∃w',(Builtin.delete_ #[t,kt] ty #[.map (some b),.int k z]).run P w = .ok (.tuple #[]) w'∧MapB w' b k (fun y=>if y = z then none else f y)∧Chg [b] w w':=by
 have kG:=h.lt;obtain ⟨es,cl,h1,h2,h3,hb,h4⟩:=h;cases h6:ez k z es.toList 0 with
 | none =>
  refine ⟨ChangeMaps.setBlock w b (.map es cl),by simp [Builtin.delete_,run_underlying ht,MapKept.run_getObj_map h1,gq hk,ia hk h2,h6,MapKept.run_setObj_map _ h1,Result.andThen,ChangeMaps.setBlock],⟨_,_,gc w _ kG,h2,h3,hb,?_⟩,ic _ _ _⟩;intro y;show _ = if y = z then none else f y
  by_cases hy:y = z
  ·subst hy;rw [ah rfl,h6];rfl
  ·rw [ag hy,h4]
 | some p =>
  obtain ⟨i,v⟩:=p;obtain ⟨i',e1,h7,h8,h9⟩:=ij _ _ h6;obtain rfl:i = i':=by omega
  have GV:i < es.size:=by simpa using h7
  have mQ:(es.eraseIdxIfInBounds i).toList = es.toList.eraseIdx i:=by
   unfold Array.eraseIdxIfInBounds;rw [dif_pos GV];simp
  refine ⟨ChangeMaps.setBlock w b (.map (es.eraseIdxIfInBounds i) cl),by simp [Builtin.delete_,run_underlying ht,MapKept.run_getObj_map h1,gq hk,ia hk h2,h6,MapKept.run_setObj_map _ h1,Result.andThen,ChangeMaps.setBlock],⟨_,_,gc w _ kG,?_,?_,(by rw [mQ];exact hb.erase _),?_⟩,ic _ _ _⟩
  ·intro x hx;rw [mQ] at hx;exact h2 x ((List.eraseIdx_sublist _ _).subset hx)
  ·rw [mQ];exact h3.sublist (List.eraseIdx_sublist _ _)
  ·intro y;rw [mQ,aH y _ _ _ h3 h6 (by omega),h4]
def MapS (w:World) (b:Nat) (k:IntKind) (f:Int→Option Value) (z:Int) (s:Nat):Prop :=
 ∃es clock,w.heap[b]? = some (.map es clock)∧cJ k es.toList∧Dist es.toList∧Born es.toList clock∧(∀y,y≠z→(ez k y es.toList 0).map (·.2) = f y)∧∃i v,ez k z es.toList 0 = some (i,v)∧∃h:i < es.toList.length,es.toList[i].born = s
theorem MapS.lt {w:World} {b:Nat} {k:IntKind} {f:Int→Option Value} {z:Int} {s:Nat} (h:MapS w b k f z s):b < w.heap.size:=by obtain ⟨_,_,h,_⟩:=h;exact (Array.getElem?_eq_some_iff.1 h).1
theorem MapS.chg {w w':World} {F:List Nat} {b:Nat} {k:IntKind} {f:Int→Option Value} {z:Int} {s:Nat} (h:MapS w b k f z s) (hc:Chg F w w') (hb:b∉F):MapS w' b k f z s:=by have hl:=h.lt;obtain ⟨es,c,h1,h2⟩:=h;exact ⟨es,c,(hc.block b hl hb).trans h1,h2⟩
theorem zg (ht:P.underlying t = some (.map kt e)) (hk:P.underlying kt = some (.int q)) (h:MapB w b k f) (z:Int) {y:Value} (hz:∀W,(zeroValue e).run P W = .ok y W) :
  ∃w' v s,(Instr.mapEntry t (.map (some b)) (.int k z)).run P w = .ok (.tuple #[v,goInt (s:Nat)]) w'∧MapS w' b k f z s∧Chg [b] w w':=by
 have kG:=h.lt;obtain ⟨es,cl,h1,h2,h3,hb,h4⟩:=h;cases h6:ez k z es.toList 0 with
 | none =>
  refine ⟨ChangeMaps.setBlock w b (.map (es.push ⟨.int k z,y,cl⟩) (cl+1)),y,cl,by simp [Instr.mapEntry,run_underlying ht,MapKept.run_getObj_map h1,gq hk,ia hk h2,h6,hz,MapKept.run_setObj_map _ h1,Result.andThen,ChangeMaps.setBlock],⟨_,_,gc w _ kG,?_,?_,(by rw [Array.toList_push];exact hb.push _ _),?_,?_⟩,ic _ _ _⟩
  ·intro x hx;rw [Array.toList_push] at hx;rcases List.mem_append.1 hx with hx | hx
   ·exact h2 x hx
   ·obtain rfl:=aa hx;exact ⟨z,rfl⟩
  ·rw [Array.toList_push];refine List.pairwise_append.2 ⟨h3,List.pairwise_singleton _ _,fun x hx y hy=>?_⟩;obtain rfl:=aa hy;exact (lh _ _).1 h6 x hx
  ·intro x hx;rw [Array.toList_push,pt x _ _ h6,ag hx,h4]
  ·have h7:=pt (val:=y) (c:=cl) z es.toList 0 h6;rw [ah rfl] at h7;rw [Array.toList_push];cases h8:ez k z (es.toList ++ [⟨.int k z,y,cl⟩]) 0 with
   | none=>rw [h8] at h7;cases h7
   | some p =>
    obtain ⟨j,v⟩:=p;obtain ⟨j',e1,h9,mX,_⟩:=ij _ _ h8;obtain rfl:j = j':=(by omega);refine ⟨j,v,rfl,h9,?_⟩;by_cases hj:j < es.toList.length
    ·rw [List.getElem_append_left hj] at mX;exact absurd mX ((lh _ _).1 h6 _ (ao hj))
    ·have:j = es.toList.length:=(by simp at h9 hj;simp;omega);subst this;rw [List.getElem_append_right (Nat.le_refl _)];simp
 | some p =>
  obtain ⟨i,v⟩:=p;obtain ⟨i',e1,h7,h8,h9⟩:=ij _ _ h6;obtain rfl:i = i':=by omega
  have GV:i < es.size:=by simpa using h7
  have h8':es[i].key = .int k z:=by simpa using h8
  have qH:∀W,(Instr.keyThatStays (.int k z) (.int k z)).run P W = .ok (.int k z) W:=fun W=>by simp [Instr.keyThatStays,Instr.sameBits]
  have IA:es.toList.modify i (fun e=>{ e with key:=.int k z }) = es.toList:=by
   rw [ChangeMaps.modify_eq_set _ _ _ _ (List.getElem?_eq_getElem h7)];have:({ es.toList[i] with key:=.int k z }:MapEntry) = es.toList[i]:=(by rw [← h8]);rw [this,List.set_getElem_self]
  refine ⟨ChangeMaps.setBlock w b (.map (es.modify i fun e=>{ e with key:=.int k z }) cl),v,es.toList[i].born,by simp [Instr.mapEntry,run_underlying ht,MapKept.run_getObj_map h1,gq hk,ia hk h2,h6,GV,h8',qH,MapKept.run_setObj_map _ h1,Result.andThen,ChangeMaps.setBlock],⟨_,_,gc w _ kG,?_,?_,?_,?_,?_⟩,ic _ _ _⟩
  all_goals rw [Array.toList_modify,IA]
  ·exact h2
  ·exact h3
  ·exact hb
  ·exact fun x _=>h4 x
  ·exact ⟨i,v,h6,h7,rfl⟩
theorem tk {s:Nat} {z:Int} (h:MapS w b k f z s) (val:Value) :
  ∃w',(Instr.entryStore t (.map (some b)) (goInt (s:Nat)) val).run P w = .ok () w'∧MapB w' b k (fun y=>if y = z then some val else f y)∧Chg [b] w w':=by
 have kG:=h.lt;obtain ⟨es,cl,h1,h2,h3,hb,h4,i,v,h6,hi,hs⟩:=h;obtain ⟨i',e1,h7,h8,h9⟩:=ij _ _ h6;obtain rfl:i = i':=by omega
 have rT:i < es.size:=by simpa using hi
 have Ie:es.findIdx? (fun e=>(e.born:Int) == (s:Int)) = some i:=by
  rw [Array.findIdx?_eq_some_iff_getElem];refine ⟨rT,by simp at hs ⊢;omega,fun j hj=>?_⟩;have h5:=hb.1;rw [List.pairwise_iff_getElem] at h5;have mX:=h5 j i (by simp;omega) hi hj;simp at mX hs ⊢;omega
 have IB:es.toList.modify i (fun e=>{ e with val:=val }) = es.toList.modify i (fun e=>{ e with key:=.int k z,val:=val }):=by
  rw [ChangeMaps.modify_eq_set _ _ _ _ (List.getElem?_eq_getElem h7),ChangeMaps.modify_eq_set _ _ _ _ (List.getElem?_eq_getElem h7),h8]
 refine ⟨ChangeMaps.setBlock w b (.map (es.modify i fun e=>{ e with val:=val }) cl),by simp [Instr.entryStore,MapKept.run_getObj_map h1,goInt,asInt,asIntOf,Ie,MapKept.run_setObj_map _ h1,Result.andThen,ChangeMaps.setBlock],⟨_,_,gc w _ kG,?_,?_,?_,?_⟩,ic _ _ _⟩
 ·intro x hx;rw [Array.toList_modify,IB] at hx;obtain ⟨j,hj,rfl⟩:=List.getElem_of_mem hx;rw [List.getElem_modify];split
  ·exact ⟨z,rfl⟩
  ·exact h2 _ (ao _)
 ·rw [Array.toList_modify];unfold Dist at h3 ⊢;rw [List.pairwise_iff_getElem] at h3 ⊢;intro a c ha hc Ha;have ka:∀(j:Nat) (hj:j < (es.toList.modify i fun e=>{ e with val:=val }).length),(es.toList.modify i fun e=>{ e with val:=val })[j].key = (es.toList[j]'(by simpa using hj)).key:=by
   intro j hj;rw [List.getElem_modify];split
   ·rfl
   ·rfl
  rw [ka,ka];exact h3 a c _ _ Ha
 ·rw [Array.toList_modify];exact hb.modify _ _ (fun _=>rfl)
 ·intro y;rw [Array.toList_modify,IB,uy y _ _ _ h6 (by omega)];show _ = if y = z then some val else f y
  by_cases hy:y = z
  ·rw [ah hy,ah hy]
  ·rw [ag hy,ag hy,h4 y hy]
end
def MapIt (w:World) (b r:Nat) (k:IntKind) (f:Int→Option Value) (left:Int→Bool) (n:Nat):Prop :=
 ∃es clock since seen c0,w.heap[b]? = some (.map es clock)∧cJ k es.toList∧Dist es.toList∧Born es.toList clock∧(∀z,(ez k z es.toList 0).map (·.2) = f z) ∧
  w.heap[r]? = some (.mapIter (some b) since seen c0)∧(∀x∈es.toList,x.born < since)∧since≤c0∧since≤clock∧(leftOf es seen).size = n ∧
  ∀z,left z = true↔∃e∈es.toList,e.key = .int k z∧seen.contains e.born = false
section
variable {P:Program} {w w':World} {t kt e:TypeId} {q k:IntKind} {b r n:Nat} {f:Int→Option Value} {left:Int→Bool}
theorem MapIt.lt (h:MapIt w b r k f left n):b < w.heap.size∧r < w.heap.size:=by obtain ⟨es,c,_,_,_,h1,h2,h3,h4,h5,h6,_⟩:=h;exact ⟨(Array.getElem?_eq_some_iff.1 h1).1,(Array.getElem?_eq_some_iff.1 h6).1⟩
theorem MapIt.chg (h:MapIt w b r k f left n) {F:List Nat} (hc:Chg F w w') (hb:b∉F) (hr:r∉F):MapIt w' b r k f left n:=by obtain ⟨l1,l2⟩:=h.lt;obtain ⟨es,c,s,sn,c0,h1,h2,h3,h4,h5,h6,h7⟩:=h;exact ⟨es,c,s,sn,c0,(hc.block b l1 hb).trans h1,h2,h3,h4,h5,(hc.block r l2 hr).trans h6,h7⟩
def bF (w:World) (b r:Nat):Nat :=
 match w.heap[b]?,w.heap[r]? with
 | some (.map es _),some (.mapIter _ _ seen _)=>(leftOf es seen).size
 | _,_=>0
theorem MapIt.left_eq (h:MapIt w b r k f left n):bF w b r = n:=by obtain ⟨es,c,s,sn,c0,h1,h2,h3,h4,h5,h6,h7,h8,h9,mX,nZ⟩:=h;unfold bF;rw [h1,h6];exact mX
theorem xq {l:List MapEntry} (hd:Dist l) {z:Int} {e:MapEntry} (he:e∈l) (hk:e.key = .int k z):(ez k z l 0).map (·.2) = some e.val:=by
 cases h:ez k z l 0 with
 | none=>exact absurd hk ((lh _ _).1 h e he)
 | some p =>
  obtain ⟨i,v⟩:=p;obtain ⟨j,_,hj,h1,h2⟩:=ij _ _ h;have:l[j] = e:=by
   obtain ⟨a,ha,rfl⟩:=List.getElem_of_mem he;refine Classical.byContradiction fun kT=>?_;have hja:j≠a:=fun e1=>kT (by subst e1;rfl);unfold Dist at hd;rw [List.pairwise_iff_getElem] at hd;rcases Nat.lt_or_gt_of_ne hja with kG | rS
   ·exact hd j a hj ha kG (h1.trans hk.symm)
   ·exact hd a j ha hj rS (hk.trans h1.symm)
  rw [← this,h2];rfl
theorem sw (ht:P.underlying t = some (.map kt e)) (h:MapB w b k f) :
  ∃w' n,(Instr.range t (.map (some b))).run P w = .ok (.pointer (some ⟨w.heap.size,0,none⟩)) w'∧MapIt w' b w.heap.size k f (fun z=>(f z).isSome) n∧Chg [] w w'∧w'.heap.size = w.heap.size+1:=by
 have kG:=h.lt;obtain ⟨es,c,h1,h2,h3,h4,h5⟩:=h;have hc:=(av [] w).alloc (.mapIter (some b) c #[] c);refine ⟨_,_,run_range_map w t kt e b es c ht h1,⟨es,c,c,#[],c,(hc.block b kG ab).trans h1,h2,h3,h4,h5,heap_alloc_new w _,h4.2,Nat.le_refl _,Nat.le_refl _,rfl,fun z=>?_⟩,hc,af w _⟩;constructor
 ·intro hz;replace hz:(f z).isSome = true:=hz;cases h6:ez k z es.toList 0 with
  | none=>rw [← h5 z,h6] at hz;cases hz
  | some p =>
   obtain ⟨i,v⟩:=p;obtain ⟨j,_,hj,h7,h8⟩:=ij _ _ h6;exact ⟨_,ao hj,h7,by simp⟩
 ·rintro ⟨x,hx,hk,_⟩;show (f z).isSome = true;rw [← h5 z,xq h3 hx hk];rfl
theorem ue (h:MapIt w b r k f left n) (ty:TypeId) :
  (n = 0∧(∀z,left z = false)∧(Instr.next (.pointer (some ⟨r,0,none⟩)) false ty).run P w = .ok (.tuple #[.bool false]) w) ∨
  ∃z v w' n',left z = true∧f z = some v∧(Instr.next (.pointer (some ⟨r,0,none⟩)) false ty).run P w = .ok (.tuple #[.bool true,.int k z,v]) w' ∧
   MapIt w' b r k f (fun y=>left y && !(y == z)) n'∧n' < n∧Chg [r] w w'∧w'.heap.size = w.heap.size∧(Instr.entry (.pointer (some ⟨r,0,none⟩))).run P w' = .ok (.tuple #[.int k z,v]) w':=by
 obtain ⟨qR,hrl⟩:=h.lt;obtain ⟨es,c,s,sn,c0,h1,h2,h3,h4,h5,h6,h7,h8,h9,rfl,nZ⟩:=h;have kT:r≠b:=fun e=>by rw [e,h1] at h6;cases h6
 rcases run_next_at (P:=P) w ty r b s c0 sn es c h6 h1 h7 h8 with ⟨h0,nL⟩ | ⟨x,hx,w1,hal,nL⟩
 ·refine .inl ⟨h0,fun z=>?_,nL⟩;cases hz:left z with
  | false=>rfl
  | true =>
   obtain ⟨e,he,_,hs⟩:=(nZ z).1 hz;rw [all_seen es sn h0 e he] at hs;cases hs
 ·obtain ⟨FQ,Bi⟩:=mem_left hx;obtain ⟨z,hz⟩:=h2 x FQ;have kO:Chg [] w w1:=by rcases hal with rfl | rfl;exact av _ _;exact (av [] w).drew
  have rY:w1.heap.size = w.heap.size:=by rcases hal with rfl | rfl <;> rfl
  have kI:Chg [r] w (ChangeMaps.setBlock w1 r (.mapIter (some b) s (sn.push x.born) c)):=(kO.up [r]).and_ (ic _ _ _);have Ef:r < w1.heap.size:=by omega
  have nH:=(kI.block b qR (by simp;exact fun e=>kT e.symm)).trans h1;refine .inr ⟨z,x.val,_,_,(nZ z).2 ⟨x,FQ,hz,Bi⟩,?_,by rw [nL,hz],⟨es,c,s,sn.push x.born,c,nH,h2,h3,h4,h5,gc _ _ Ef,h7,h9,h9,rfl,fun y=>?_⟩,left_shrinks es sn x hx,kI,by simp [ChangeMaps.setBlock,rY],?_⟩
  ·rw [← h5 z];exact xq h3 FQ hz
  ·have hbn:∀e∈es.toList,e.born = x.born→e = x:=fun e he Fy=>by
    obtain ⟨i,hi,rfl⟩:=List.getElem_of_mem he;obtain ⟨j,hj,rfl⟩:=List.getElem_of_mem FQ;refine Classical.byContradiction fun kT=>?_;have qX:i≠j:=fun e1=>kT (by subst e1;rfl);have hp:=h4.1;rw [List.pairwise_iff_getElem] at hp;rcases Nat.lt_or_gt_of_ne qX with kG | rS
    ·exact hp i j hi hj kG Fy
    ·exact hp j i hj hi rS Fy.symm
   have sU:∀e∈es.toList,e.key = .int k z→e = x:=fun e he hk=>by
    have e1:=xq h3 he hk;obtain ⟨i,hi,rfl⟩:=List.getElem_of_mem he;obtain ⟨j,hj,rfl⟩:=List.getElem_of_mem FQ;refine Classical.byContradiction fun kT=>?_;have qX:i≠j:=fun e1=>kT (by subst e1;rfl);have hp:=h3;unfold Dist at hp;rw [List.pairwise_iff_getElem] at hp;rcases Nat.lt_or_gt_of_ne qX with kG | rS
    ·exact hp i j hi hj kG (hk.trans hz.symm)
    ·exact hp j i hj hi rS (hz.trans hk.symm)
   constructor
   ·intro hy;simp only [Bool.and_eq_true,Bool.not_eq_true',beq_eq_false_iff_ne,ne_eq] at hy;obtain ⟨e,he,hk,hs⟩:=(nZ y).1 hy.1;refine ⟨e,he,hk,?_⟩;rw [contains_push,hs];simp only [Bool.false_or,beq_eq_false_iff_ne,ne_eq];intro Fy;have:=hbn e he Fy;subst this;rw [hz] at hk;injection hk with _ hk;exact hy.2 hk.symm
   ·rintro ⟨e,he,hk,hs⟩;rw [contains_push,Bool.or_eq_false_iff] at hs;have uD:=(nZ y).2 ⟨e,he,hk,hs.1⟩;show (left y && !(y == z)) = true;rw [uD];simp only [Bool.true_and,Bool.not_eq_true',beq_eq_false_iff_ne,ne_eq];rintro rfl;have:=sU e he hk;subst this;simp at hs
  ·rw [← hz];refine run_entry_at _ r b s sn es c x (gc _ _ Ef) nH FQ ?_;unfold List.Nodup;rw [List.pairwise_map];exact h4.1
theorem cG {o:Oper} {a:Act} {K:Act→World→Prop} {Q:Exit→Act→World→Prop} (x:Operand) (ho:o.op = .range t x) (ht:P.underlying t = some (.map kt e)) (hx:a.eval x = .map (some b)) (h:MapB w b k f)
  (U:∀w' n,MapIt w' b w.heap.size k f (fun z=>(f z).isSome) n→Chg [] w w'→w'.heap.size = w.heap.size+1→K (a.put o.dst (.pointer (some ⟨w.heap.size,0,none⟩))) w'):o.wp P a w K Q:=by
 obtain ⟨w',n,h1,h2,h3,h4⟩:=sw ht h;unfold Oper.wp execOp;simp only [ho,hx,Sem.run_bind,h1,Sem.run_pure,Result.andThen_ok];exact U w' n h2 h3 h4
theorem eL {o:Oper} {a:Act} {K:Act→World→Prop} {Q:Exit→Act→World→Prop} (x:Operand) (ho:o.op = .next x false) (hx:a.eval x = .pointer (some ⟨r,0,none⟩)) (h:MapIt w b r k f left n)
  (hD:n = 0→(∀z,left z = false)→K (a.put o.dst (.tuple #[.bool false])) w)
  (hM:∀z v w' n',left z = true→f z = some v→MapIt w' b r k f (fun y=>left y && !(y == z)) n'→n' < n→Chg [r] w w'→w'.heap.size = w.heap.size→(Instr.entry (.pointer (some ⟨r,0,none⟩))).run P w' = .ok (.tuple #[.int k z,v]) w'→K (a.put o.dst (.tuple #[.bool true,.int k z,v])) w'):o.wp P a w K Q:=by
 unfold Oper.wp execOp;simp only [ho,hx,Sem.run_bind];rcases ue (P:=P) h o.type with ⟨h0,h1,h2⟩ | ⟨z,v,w',n',h1,h2,h3,h4,h5,h6,h7,h8⟩
 ·simp only [h2,Sem.run_pure,Result.andThen_ok];exact hD h0 h1
 ·simp only [h3,Sem.run_pure,Result.andThen_ok];exact hM z v w' n' h1 h2 h4 h5 h6 h7 h8
end
end Go.Proofs.YtfoleblcaloeoaaGreatDoor
namespace Go.Proofs.YtfoleblcaloeoaaGreatDoor
open Go Go.RowKit Go.Shelf
attribute [local go_sem] Oper.semAt_some
section
variable {F:Fence} {n':Nat} {ops:Array Oper} {rest:List Oper} {o:Oper} {a:Act} {w:World} {Q:Exit→Act→World→Prop} {t kt e:TypeId} {k:IntKind} {b r n:Nat} {f:Int→Option Value} {left:Int→Bool}
theorem yj (hg:o.guard = none) (x:Operand) (ho:o.op = .range t x) (ht:Tryz.prog.underlying t = some (.map kt e)) (hx:a.eval x = .map (some b)) (h:MapB w b k f)
  (U:∀w' n,MapIt w' b w.heap.size k f (fun z=>(f z).isSome) n→Chg [] w w'→w'.heap.size = w.heap.size+1→wpListIn F n' Tryz.prog ops Q rest (a.put o.dst (.pointer (some ⟨w.heap.size,0,none⟩))) w'):wpListIn F n' Tryz.prog ops Q (o :: rest) a w:=by
 refine wpListIn_plain hg fun K hK'=>?_;obtain ⟨w',n,h1,h2,h3,h4⟩:=sw ht h;unfold Oper.wpIn;refine ⟨?_,?_⟩
 ·simp [Oper.about,ho]
 ·rw [Oper.semAt_plain F _ _ (by rw [ho];intro c hc;cases hc)];simp [execOp,ho,hx,h1,Result.andThen];exact hK' _ _ (U w' n h2 h3 h4)
theorem zi (hg:o.guard = none) (x:Operand) (ho:o.op = .next x false) (hx:a.eval x = .pointer (some ⟨r,0,none⟩)) (h:MapIt w b r k f left n)
  (hD:n = 0→(∀z,left z = false)→wpListIn F n' Tryz.prog ops Q rest (a.put o.dst (.tuple #[.bool false])) w)
  (hM:∀z v w' n'',left z = true→f z = some v→MapIt w' b r k f (fun y=>left y && !(y == z)) n''→n'' < n→Chg [r] w w'→w'.heap.size = w.heap.size→(Instr.entry (.pointer (some ⟨r,0,none⟩))).run Tryz.prog w' = .ok (.tuple #[.int k z,v]) w'→wpListIn F n' Tryz.prog ops Q rest (a.put o.dst (.tuple #[.bool true,.int k z,v])) w'):wpListIn F n' Tryz.prog ops Q (o :: rest) a w:=by
 refine wpListIn_plain hg fun K hK'=>?_;unfold Oper.wpIn;refine ⟨?_,?_⟩
 ·simp [Oper.about,ho]
 ·rw [Oper.semAt_plain F _ _ (by rw [ho];intro c hc;cases hc)];rcases ue (P:=Tryz.prog) h o.type with ⟨h0,h1,h2⟩ | ⟨z,v,w',n'',h1,h2,h3,h4,h5,h6,h7,h8⟩
  ·simp [execOp,ho,hx,h2,Result.andThen];exact hK' _ _ (hD h0 h1)
  ·simp [execOp,ho,hx,h3,Result.andThen];exact hK' _ _ (hM z v w' n'' h1 h2 h4 h5 h6 h7 h8)
end
variable {left:Int→Bool} {f:Int→Option Value} {b:Nat} {k:IntKind} {w w':World}
theorem MapIt.keep {r n:Nat} (h:MapIt w b r k f left n) (hb:w'.heap[b]? = w.heap[b]?) (hr:w'.heap[r]? = w.heap[r]?):MapIt w' b r k f left n:=by obtain ⟨es,c,s,sn,c0,h1,h2,h3,h4,h5,h6,h7⟩:=h;exact ⟨es,c,s,sn,c0,hb.trans h1,h2,h3,h4,h5,hr.trans h6,h7⟩
structure KR (f:Int→Option Value) (ks:List Nat) (left:Int→Bool):Prop where
 nd:ks.Nodup
 sm:∀z∈ks,(f (z:Nat)).isSome = true
 lf:∀z:Int,left z = true↔(f z).isSome = true∧∀x∈ks,(x:Int)≠z
theorem KR.start (f:Int→Option Value):KR f [] (fun z=>(f z).isSome):=⟨List.nodup_nil,fun _ h=>(by cases h),fun z=>⟨fun h=>⟨h,fun _ h=>(by cases h)⟩,fun h=>h.1⟩⟩
variable {ks:List Nat}
theorem KR.next (h:KR f ks left) {z:Nat} (hz:left (z:Nat) = true):KR f (ks ++ [z]) (fun y=>left y && !(y == (z:Int))):=by
 obtain ⟨h1,h2⟩:=(h.lf _).1 hz;refine ⟨?_,fun y hy=>?_,fun y=>?_⟩
 ·rw [List.nodup_append];refine ⟨h.nd,by simp,fun x hx y hy=>?_⟩;obtain rfl:=aa hy;exact fun e=>h2 x hx (by rw [e])
 ·rcases List.mem_append.1 hy with hy | hy
  ·exact h.sm y hy
  ·obtain rfl:=aa hy;exact h1
 ·simp only [Bool.and_eq_true,Bool.not_eq_true',beq_eq_false_iff_ne,ne_eq];rw [h.lf];constructor
  ·rintro ⟨⟨a1,a2⟩,a3⟩;exact ⟨a1,fun x hx=>(List.mem_append.1 hx).elim (a2 x) (fun hx=>by obtain rfl:=aa hx;exact fun e=>a3 e.symm)⟩
  ·rintro ⟨a1,a2⟩;exact ⟨⟨a1,fun x hx=>a2 x (List.mem_append_left _ hx)⟩,fun e=>a2 z (by simp) e.symm⟩
def KsOk (f:Int→Option Value) (ks:List Nat):Prop:=ks.Nodup∧∀x∈ks,(f (x:Nat)).isSome = true
theorem KR.ok (h:KR f ks left):KsOk f ks:=⟨h.nd,h.sm⟩
def AllK (f:Int→Option Value) (ks:List Nat):Prop:=ks.Nodup∧∀z:Int,(f z).isSome = true↔∃x∈ks,(x:Int) = z
theorem KR.all (h:KR f ks left) (hl:∀z,left z = false):AllK f ks:=by
 refine ⟨h.nd,fun z=>⟨fun hz=>?_,?_⟩⟩
 ·refine Classical.byContradiction fun hn=>?_;have:=(h.lf z).2 ⟨hz,fun x hx e=>hn ⟨x,hx,e⟩⟩;rw [hl z] at this;cases this
 ·rintro ⟨x,hx,rfl⟩;exact h.sm x hx
set_option maxRecDepth 100000 in
theorem kit_in {j bx bo:Nat} {W:World} (pU:Blk W bx 59 #[.map (some bo)]) (hm:MapB W bo .u64 f) (hf:∀z,(f z).isSome = true→∃h:Nat,z = (h:Int))
  (J:List Nat→List Nat→World→Prop)
  (h0:∀N W1,(∀b∈N,W.heap.size≤b∧b < W1.heap.size)→Chg [] W W1→J N [] W1) (qH:∀N ks W1 W2,J N ks W1→Chg N W1 W2→J N ks W2)
  (hY:∀N ks W1 (z:Nat),KsOk f (ks ++ [z])→J N ks W1→YieldAt Fence.wide 4 Tryz.prog j #[.int .u64 (z:Nat)] W1 fun e W2=>e = .returned (.bool true)∧J N (ks ++ [z]) W2∧Keep (bo :: N) W1 W2) :
  CallsIn Fence.wide 5 Tryz.prog 85 #[.func (.yield j) #[] #[],.pointer (some ⟨bx,0,none⟩)] W fun e W'=>(∃v,e = .returned v)∧∃N ks,J N ks W'∧AllK f ks:=by
 have x0:=pU.cell 0;simp at x0;have HM:=bk hm;have H0:=bk h0;have HY:=bk hY;have HS:=bk qH;have HF:=bk hf;clear hm pU h0 hY qH hf;refine callsIn_of_wp Tryz.func85 rfl trivial ?_ rfl;simp only [Tryz.ntmps85,List.size_toArray,List.length_cons,List.length_nil,Nat.reduceAdd,Nat.reduceSub,Array.replicate_succ,Array.replicate_zero,List.push_toArray,List.append_toArray,List.nil_append,List.cons_append];gi_wp2_with (first|refine yj rfl _ rfl Tryz.underlying59 rfl HM.out ?_;intro W1 n1 xL kO rY;have CN:=bk xL;have lU:=bk (ai kO rY);clear xL kO rY);have hJ1:=H0.out [W.heap.size] W1 (fun b hb=>by obtain rfl:=aa hb;have:=lU.out.2;omega) lU.out.1;obtain ⟨r,hr⟩:∃r,r = W.heap.size:=⟨_,rfl⟩;rw [← hr] at CN hJ1 ⊢;have HJ1:=bk hJ1;clear hr hJ1 lU H0;go_simp;gi_loopw [] (fun wr=>∃ks left n,Hid (MapIt wr bo r .u64 f left n)∧Hid (KR f ks left)∧Hid (J [r] ks wr)) (fun wr=>bF wr bo r)
 case atStart=>exact ⟨[],_,n1,CN,bk (KR.start f),HJ1⟩
 case round =>
  clear CN HJ1;obtain ⟨ks,left,n,xL,hkr,hJ⟩:=hrel;have pD:=xL.out.left_eq;gi_wp2_with (first|refine zi rfl _ rfl rfl xL.out ?_ ?_)
  ·intro h1 h2;have HE:=bk (hkr.out.all h2);clear xL hkr pD;gi_wp2;go_end0;exact ⟨⟨_,rfl⟩,_,_,hJ.out,HE.out⟩
  ·intro z v w' n' h1 h2 h3 h4 h5 h6 h7;obtain ⟨y,rfl⟩:=HF.out z (by rw [h2];rfl);have CN:=bk h3;have HKR:=bk (hkr.out.next h1);have hJ2:=HS.out _ _ _ _ hJ.out h5;have kG:=h4;obtain ⟨fn,tmps,assign,body,hy,hR⟩:=HY.out _ _ w' y HKR.out.ok hJ2;clear xL hkr hJ h1 h2 h3 h4 h5 h6 hJ2;gi_wp2;refine hR.mono ?_;rintro e W3 ⟨rfl,hJ3,Es⟩;have Gn:=bk (CN.out.keep (Es bo (by simp)) (Es r (by simp)));have HJ3:=bk hJ3;clear hJ3 Es h7 hy hR;gi_wp2;go_roundw
   case rel=>exact ⟨_,_,_,Gn,HKR,HJ3⟩
   case measure=>rw [pD,Gn.out.left_eq];exact kG
end Go.Proofs.YtfoleblcaloeoaaGreatDoor
namespace Go.Proofs.YtfoleblcaloeoaaGreatDoor
open Go Go.RowKit
def xj (m:Nat) (k:Int):Bool:=decide (0≤k∧k < 8∧m / 2 ^ k.toNat % 2 = 1)
def tg (m:Nat):Nat:=m % 2+m / 2 % 2+m / 4 % 2+m / 8 % 2+m / 16 % 2+m / 32 % 2+m / 64 % 2+m / 128 % 2
def jr (m:Nat):Nat:=if m = 0 then 0 else if m < 2 then 1 else if m < 4 then 2 else if m < 8 then 3 else if m < 16 then 4 else if m < 32 then 5 else if m < 64 then 6 else if m < 128 then 7 else 8
variable {m:Nat} {S:ByteArray}
theorem run_tab {f:Nat→Nat} (hS:∀i:Fin 256,(S[i.1]?).map (·.toNat) = some (f i.1)) (hm:m < 256) (w:World):(Instr.index 9 (.string S) (.int .u8 m)).run Tryz.prog w = .ok (.int .u8 (f m:Nat)) w:=by
 have h:=hS ⟨m,hm⟩;cases hq:S[m]? with
 | none=>simp [hq] at h
 | some b =>simp [hq] at h;simp [Instr.index,run_underlying Tryz.underlying9,asIntOf,hq,h]
variable {Q:Exit→Act→World→Prop} {w:World} {o:Oper} {rest:List Oper} {ops:Array Oper}
theorem tq {a:Act} (f:Nat→Nat) (hm:m < 256) (hg:o.guard = none) (x:Operand) (ho:o.op = .index 9 (.const (.string S)) x)
  (hx:a.eval x = .int .u8 m) (hS:∀i:Fin 256,(S[i.1]?).map (·.toNat) = some (f i.1)) (h:wpList Tryz.prog ops Q rest (a.put o.dst (.int .u8 (f m:Nat))) w):wpList Tryz.prog ops Q (o :: rest) a w :=
 have hc:a.eval (.const (.string S)) = .string S:=rfl
 Great.wpList_runTo hg _ rfl _ _ (by unfold execOp;simp only [ho,hx,hc,Sem.run_bind,run_tab hS hm,Sem.run_pure,Result.andThen_ok]) h
theorem ones_any (hm:m < 256) (w:World):Calls Tryz.prog 90 #[.int .u8 m] w fun e w'=>e = .returned (.int .i64 (tg m:Nat))∧w = w':=by
 have m1:(0:Int)≤(m:Int):=by omega
 have m2:(m:Int) < 256:=by omega
 have h8:tg m≤8:=by unfold tg;first | omega|((repeat' split) <;> omega)
 have o1:(tg m:Int)≤8:=by omega
 generalize hx:tg m = x at h8 o1 ⊢;have HX:=bk hx;clear hx;go_enter Tryz.func90,Tryz.ntmps90;go_wp2_with (first|refine tq tg hm rfl _ rfl rfl ?_ ?_;(focus (decide +kernel));rw [HX.out]);go_ret;exact ⟨rfl,rfl⟩
theorem len8_any (hm:m < 256) (w:World):Calls Tryz.prog 89 #[.int .u8 m] w fun e w'=>e = .returned (.int .i64 (jr m:Nat))∧w = w':=by
 have m1:(0:Int)≤(m:Int):=by omega
 have m2:(m:Int) < 256:=by omega
 have h8:jr m≤8:=by unfold jr;first | omega|((repeat' split) <;> omega)
 have o1:(jr m:Int)≤8:=by omega
 generalize hx:jr m = x at h8 o1 ⊢;have HX:=bk hx;clear hx;go_enter Tryz.func89,Tryz.ntmps89;go_wp2_with (first|refine tq jr hm rfl _ rfl rfl ?_ ?_;(focus (decide +kernel));rw [HX.out]);go_ret;exact ⟨rfl,rfl⟩
def nx (m:Nat):Nat→Nat
 | 0=>0
 | k+1=>nx m k+if xj m k then 1 else 0
set_option maxRecDepth 100000 in
theorem fF:∀m:Fin 256,nx m.1 8 = tg m.1:=by decide +kernel
set_option maxRecDepth 100000 in
theorem len8_all:∀m:Fin 256,∀n:Fin 9,(∀k:Fin 8,xj m.1 (k.1:Nat) = true→k.1 < n.1)↔jr m.1≤n.1:=by decide +kernel
theorem len8_iff {n:Nat} (hm:m < 256) (hn:n≤8):jr m≤n↔∀k:Nat,k < 8→xj m k = true→k < n:=by rw [← len8_all ⟨m,hm⟩ ⟨n,by omega⟩];exact ⟨fun h k hk=>h ⟨k,hk⟩,fun h k=>h k.1 k.2⟩
theorem uz (m:Nat):∀k,nx m k≤k
 | 0=>Nat.le_refl _
 | k+1=>by have:=uz m k;unfold nx;split <;> omega
def nk (kind o:Nat):Bool:=decide (kind = 0∧o = 0∨kind = 1∧o = 1∨(kind = 2∨kind = 3)∧0 < o)
noncomputable def ub (c:Cf) (kind m:Nat):Bool:=mayB c && (decide ((jr m:Int)≤c 0) && nk kind (tg m))
variable {b:Nat} {w':World}
theorem CB.stay_ {c:Cf} (h:CB w b c) (hc:Chg [] w w'):CB w' b c:=aw h hc ab
theorem load_u8 {a:Addr} {x:Int} (h:w.cell? a = some (.int .u8 x)):(loadVar 5 a).run Tryz.prog w = .ok (.int .u8 x) w:=dg Tryz.underlying5 h
theorem pmay_any (c:Cf) {kind:Nat} (hk:kind < 256) (hm:m < 256) (w:World):Calls Tryz.prog 61 #[.agg (cg c),.agg #[.int .u8 kind,.int .u8 m]] w fun e w'=>e = .returned (.bool (ub c kind m))∧Chg [] w w':=by
 have HB:Hid (CB ((w.alloc (.cells (cg c) 26)).alloc (.cells #[.int .u8 kind,.int .u8 m] 45)) w.heap.size c):=bk ((ax w 26 (cg c)).alloc _);have HP:Hid (Blk ((w.alloc (.cells (cg c) 26)).alloc (.cells #[.int .u8 kind,.int .u8 m] 45)) (w.heap.size+1) 45 #[.int .u8 kind,.int .u8 m]):=bk (by
  have:=ax (w.alloc (.cells (cg c) 26)) 45 #[.int .u8 kind,.int .u8 m]
  rwa [af] at this)
 have HC:Hid (Chg [] w ((w.alloc (.cells (cg c) 26)).alloc (.cells #[.int .u8 kind,.int .u8 m] 45))):=bk (((av [] w).alloc _).alloc _);obtain ⟨r,hr⟩:∃r,r = ub c kind m:=⟨_,rfl⟩;rw [← hr];have HR:=bk hr;clear hr;obtain ⟨x,hx⟩:∃x,mayB c = x:=⟨_,rfl⟩;have EZ:=bk (fun W=>wi c W);rw [hx] at EZ;have HX:=bk hx;clear hx;have H35:=bk (fun W=>len8_any hm W);have H36:=bk (fun W=>ones_any hm W);cases x with
 | false =>
  obtain rfl:r = false:=by rw [HR.out,ub,HX.out];rfl
  go_enter Tryz.func61,Tryz.ntmps61;go_wp2_with (first|refine da rfl _ rfl rfl ?_);have hS:CB ((w.alloc (.cells (cg c) 26)).alloc (.cells #[.int .u8 kind,.int .u8 m] 45)).drew w.heap.size c∧Blk ((w.alloc (.cells (cg c) 26)).alloc (.cells #[.int .u8 kind,.int .u8 m] 45)).drew (w.heap.size+1) 45 #[.int .u8 kind,.int .u8 m]:=⟨HB.out,HP.out⟩;have Bo:=bk HC.out.drew;refine rgt [5,6,0,0,0,5,6,0,5,0,0] [none,none,none,none,some (9,false),some (9,false),some (9,false),some (9,false),some (9,false),some (9,false),none] (fun W=>CB W w.heap.size c∧Blk W (w.heap.size+1) 45 #[.int .u8 kind,.int .u8 m]) ?_;go_wp2_with (first|refine ca 26 _ rfl rfl (fun w' kK=>load26 kK.1) hS ?_|refine cdA fun K U=>?_|refine cx ?_;go_simp|refine cy ?_|refine bn fun K U=>?_;go_simp|refine bq ?_);(refine cd hS fun K U=>?_);go_simp;refine (EZ.out _).mono ?_;rintro e W2 ⟨rfl,kI⟩;have lY:CB W2 w.heap.size c∧Blk W2 (w.heap.size+1) 45 #[.int .u8 kind,.int .u8 m]:=⟨CB.stay_ hS.1 kI,hS.2.chg kI ab⟩;refine U _ _ lY ?_;clear U K;have lE:=bk (Bo.out.stay kI);clear hS kI Bo;go_wp2_with (first|refine cdA fun K U=>?_|refine cx ?_;go_simp|refine cy ?_|refine bn fun K U=>?_;go_simp|refine bq ?_);go_ret;exact ⟨rfl,lE.out⟩
 | true =>
  have hM:=mayB_iff.1 HX.out;obtain ⟨n,hn⟩:∃n:Nat,c 0 = n:=⟨(c 0).toNat,by have:=hM.n1;omega⟩;have yM:n≤8:=by have:=hM.n8;omega
  have tD:jr m≤8:=by unfold jr;((repeat' split) <;> omega)
  have HN:=bk hn;have uG:r = (decide (jr m≤n) && nk kind (tg m)):=by rw [HR.out,ub,HX.out,hn,Bool.true_and];congr 1;simp
  have kH:=bk uG;clear uG HR hM hn;have ho8:tg m≤8:=by unfold tg;omega
  generalize jr m = y at H35 kH tD;generalize tg m = o at H36 kH ho8;have mG:(kind:Int) < 256:=by omega
  go_enter Tryz.func61,Tryz.ntmps61;go_wp2_with (first|refine da rfl _ rfl rfl ?_);have hS:CB ((w.alloc (.cells (cg c) 26)).alloc (.cells #[.int .u8 kind,.int .u8 m] 45)).drew w.heap.size c∧Blk ((w.alloc (.cells (cg c) 26)).alloc (.cells #[.int .u8 kind,.int .u8 m] 45)).drew (w.heap.size+1) 45 #[.int .u8 kind,.int .u8 m]:=⟨HB.out,HP.out⟩;have Bo:=bk HC.out.drew;refine rgt [5,6,0,0,0,5,6,0,5,0,0] [none,none,none,none,some (9,false),some (9,false),some (9,false),some (9,false),some (9,false),some (9,false),none] (fun W=>CB W w.heap.size c∧Blk W (w.heap.size+1) 45 #[.int .u8 kind,.int .u8 m]) ?_;go_wp2_with (first|refine ca 26 _ rfl rfl (fun w' kK=>load26 kK.1) hS ?_|refine cdA fun K U=>?_|refine cx ?_;go_simp|refine cy ?_|refine bn fun K U=>?_;go_simp|refine bq ?_);(refine cd hS fun K U=>?_);go_simp;refine (EZ.out _).mono ?_;rintro e W2 ⟨rfl,kI⟩;have lY:CB W2 w.heap.size c∧Blk W2 (w.heap.size+1) 45 #[.int .u8 kind,.int .u8 m]:=⟨CB.stay_ hS.1 kI,hS.2.chg kI ab⟩;refine U _ _ lY ?_;clear U K;have lE:=bk (Bo.out.stay kI);clear hS kI Bo;go_wp2_with (first|refine ca 5 _ rfl rfl (fun w' kK=>load_u8 (by simpa using Blk.cell kK.2 1)) lY ?_;go_simp|refine cdA fun K U=>?_|refine cx ?_;go_simp|refine cy ?_|refine bn fun K U=>?_;go_simp|refine bq ?_);(refine cd lY fun K U=>?_);go_simp;refine (H35.out _).mono ?_;rintro e W3 ⟨rfl,rfl⟩;refine U _ _ lY ?_;clear U K;have uF:∀w',(CB w' w.heap.size c∧Blk w' (w.heap.size+1) 45 #[.int .u8 kind,.int .u8 m])→(loadVar 3 ⟨w.heap.size,0,none⟩).run Tryz.prog w' = .ok (.int .i64 n) w':=fun w' h=>dg Tryz.underlying3 (by rw [CB.get h.1 (by omega),HN.out]);have p0:=lY.2.cell 0;have p1:=lY.2.cell 1;simp at p0 p1;by_cases hy:y≤n
  ·have y1:decide ((n:Int) < (y:Int)) = false:=ac (by omega);have y2:decide (n < y) = false:=ac (by omega);go_wp2_with (first|refine ca 3 _ rfl rfl uF lY ?_;go_simp|refine cdA fun K U=>?_|refine cx ?_;go_simp|refine cy ?_|refine bn fun K U=>?_;go_simp|refine bq ?_);refine (H36.out _).mono ?_;rintro e W4 ⟨rfl,rfl⟩;by_cases k0:kind = 0
   ·subst k0;have hr:r = ((o:Int) == 0):=(by rw [kH.out,Bool.eq_iff_iff];simp [nk];omega);subst hr;clear kH;go_wp2_with fail;go_ret;exact ⟨rfl,lE.out⟩
   have j0:((kind:Int) == 0) = false:=(by simp;omega);have i0:(kind == 0) = false:=(by simpa using k0);by_cases k1:kind = 1
   ·subst k1;have hr:r = ((o:Int) == 1):=(by rw [kH.out,Bool.eq_iff_iff];simp [nk];omega);subst hr;clear kH;go_wp2_with fail;go_ret;exact ⟨rfl,lE.out⟩
   have j1:((kind:Int) == 1) = false:=(by simp;omega);have i1:(kind == 1) = false:=(by simpa using k1);by_cases k2:kind = 2
   ·subst k2;have hr:r = decide (0 < o):=(by rw [kH.out,Bool.eq_iff_iff];simp [nk];omega);subst hr;clear kH;go_wp2_with fail;go_ret;exact ⟨rfl,lE.out⟩
   have j2:((kind:Int) == 2) = false:=(by simp;omega);have i2:(kind == 2) = false:=(by simpa using k2);by_cases k3:kind = 3
   ·subst k3;have hr:r = decide (0 < o):=(by rw [kH.out,Bool.eq_iff_iff];simp [nk];omega);subst hr;clear kH;go_wp2_with fail;go_ret;exact ⟨rfl,lE.out⟩
   have j3:((kind:Int) == 3) = false:=(by simp;omega);have i3:(kind == 3) = false:=(by simpa using k3);have hr:r = false:=(by rw [kH.out,Bool.eq_false_iff];simp [nk];omega);subst hr;clear kH;go_wp2_with fail;go_ret;exact ⟨rfl,lE.out⟩
  ·have y1:decide ((n:Int) < (y:Int)) = true:=ae (by omega);have y2:decide (n < y) = true:=ae (by omega);obtain rfl:r = false:=(by rw [kH.out,ac hy];rfl);go_wp2_with (first|refine ca 3 _ rfl rfl uF lY ?_;go_simp|refine cdA fun K U=>?_|refine cx ?_;go_simp|refine cy ?_|refine bn fun K U=>?_;go_simp|refine bq ?_);go_ret;exact ⟨rfl,lE.out⟩
structure Rs where
 e:Int
 v:Nat
 l:List Nat
structure Rs.Ok (r:Rs):Prop where
 e:-9223372036854775808≤r.e∧r.e≤9223372036854775807
 v:r.v < 18446744073709551616
 l:∀b∈r.l,b < 256
def zRs:Rs:=⟨0,0,[]⟩
def ed (r s:Rs):Bool:=r.e == s.e && r.v == s.v && decide (r.l = s.l)
theorem qh (r s:Rs):ed r s = true↔r = s:=by obtain ⟨e,v,l⟩:=r;obtain ⟨e',v',l'⟩:=s;simp [ed,and_assoc]
def rsc (r:Rs) (v:Value):Array Value:=#[.int .i64 r.e,.int .u64 r.v,v]
abbrev XB (w:World) (b:Nat) (r:Rs) (v:Value):Prop:=Blk w b 40 (rsc r v)
variable {v:Value}
theorem dq {x:Rs}:(Tryz.prog.info? 40).map (·.size) = some (rsc x v).size:=by
 have:(Tryz.prog.info? 40).map (·.size) = some 3:=by kernel_rfl
 exact this
theorem iM (x:Rs) (hv:v.oneCell' = true):((rsc x v).all fun u=>u.oneCell') = true:=by simp [rsc,hv,show ∀k z,(Value.int k z).oneCell' = true from fun _ _=>rfl]
section
variable {ops:Array Oper} {rest:List Oper} {o:Oper} {a:Act} {w:World} {Q:Exit→Act→World→Prop} {b:Nat} {x y:Rs} {v u:Value}
theorem XB.load (h:XB w b x v):(loadVar 40 ⟨b,0,none⟩).run Tryz.prog w = .ok (.agg (rsc x v)) w :=
 run_loadVar_row w b 40 40 _ (0,0) _ h Tryz.underlying40 rfl dq
theorem XB.stay {w':World} (h:XB w b x v) (hc:Chg [] w w'):XB w' b x v:=aw h hc ab
theorem ef (hg:o.guard = none) (z:Operand) (ho:o.op = .load 40 z) (hx:a.eval z = .pointer (some ⟨b,0,none⟩)) (h0:XB w b x v) (h:wpList Tryz.prog ops Q rest (a.put o.dst (.agg (rsc x v))) w):wpList Tryz.prog ops Q (o :: rest) a w :=
 wpList_load_row hg 40 z ho b hx 40 _ (0,0) _ h0 Tryz.underlying40 rfl dq h
theorem bu (hg:o.guard = none) (z t:Operand) (ho:o.op = .store 40 z t) (hx:a.eval z = .pointer (some ⟨b,0,none⟩)) (hy:a.eval t = .agg (rsc y u)) (hu:u.oneCell' = true) (h0:XB w b x v)
  (h:∀w',XB w' b y u→Chg [b] w w'→wpList Tryz.prog ops Q rest (a.put o.dst undef) w'):wpList Tryz.prog ops Q (o :: rest) a w :=
 wpList_store_row hg 40 z t ho b _ hx hy 40 _ h0 dq rfl (iM y hu) (h _ (setRow_heap w b _ _ _ _ h0) ((av [b] w).setRow (.inl (by simp)) _))
theorem gd (hg:o.guard = none) (z:Operand) (ho:o.op = .box 40 z) (hx:a.eval z = .agg (rsc x v))
  (h:wpList Tryz.prog ops Q rest (a.put o.dst (.pointer (some ⟨w.heap.size,0,none⟩))) (w.alloc (.cells (rsc x v) 40))):wpList Tryz.prog ops Q (o :: rest) a w :=
 Great.wpList_runTo hg _ rfl _ _ (by unfold execOp;simp only [ho,hx,Sem.run_bind,Instr.box,newVar,newRow,run_newObj_alloc,Sem.run_pure,Result.andThen_ok,Value.cells]) h
theorem zeroRs:∀w,(zeroValue 40).run Tryz.prog w = .ok (.agg (rsc zRs zV)) w:=by
 have h:(Tryz.prog.info? 40).map (fun i=>(i.zero,i.size)) = some (some (.agg (rsc zRs zV)),3):=by kernel_rfl
 exact (zero_of_info h).1
theorem vt (w:World):(Instr.alloc 40 true (.tuple #[])).run Tryz.prog w = .ok (.pointer (some ⟨w.heap.size,0,none⟩)) (w.alloc (.cells (rsc zRs zV) 40)):=by simp [Instr.alloc,Sem.run_bind,zeroRs,newVar,newRow,run_newObj_alloc,Value.cells,rsc,zRs,zV]
theorem ck (hg:o.guard = none) (ho:o.op = .alloc 40)
  (h:wpList Tryz.prog ops Q rest (a.put o.dst (.pointer (some ⟨w.heap.size,0,none⟩))) (w.alloc (.cells (rsc zRs zV) 40))):wpList Tryz.prog ops Q (o :: rest) a w :=
 Great.wpList_runTo hg _ rfl _ _ (by unfold execOp;simp only [ho,Sem.run_bind,vt,Sem.run_pure,Result.andThen_ok]) h
end
theorem XB.cells {x:Rs} (h:XB w b x v) :
  w.cell? ⟨b,0,none⟩ = some (.int .i64 x.e)∧w.cell? ⟨b,1,none⟩ = some (.int .u64 x.v)∧w.cell? ⟨b,2,none⟩ = some v∧b < w.heap.size∧∀i,w.frozen? ⟨b,i,none⟩ = false :=
 ⟨by simpa [rsc] using Blk.cell h 0,by simpa [rsc] using Blk.cell h 1,by simpa [rsc] using Blk.cell h 2,bb h,Blk.frozen h⟩
abbrev bf:=@XB.stay
end Go.Proofs.YtfoleblcaloeoaaGreatDoor
namespace Go.Proofs.YtfoleblcaloeoaaGreatDoor.Ar
variable {page count:Int}
theorem mayB_iff:mayB page count = true↔0≤page∧1≤count∧count≤1024∧page≤1024 - count:=by simp [mayB]
variable {g:Int}
theorem rgB_iff:rgB g = true↔1≤g∧g≤3:=by simp [rgB]
end Go.Proofs.YtfoleblcaloeoaaGreatDoor.Ar
namespace Go.Proofs.YtfoleblcaloeoaaGreatDoor.Ar
open Go Go.RowKit
def rc (r:Rn):List Value:=[.int .i64 r.p,.int .i64 r.c,.int .u8 r.g]
theorem bR:∀x,(rc x).length = 3:=fun _=>rfl
abbrev RR:=RE rc 3
abbrev SR:=SE rc 3 144
theorem rc_one (l:List Rn):∀u∈fc rc l,u.oneCell' = true:=fun u hu=>by
 obtain ⟨r,_,hr⟩:=List.mem_flatMap.1 hu
 simp only [rc,List.mem_cons,ab,or_false] at hr
 rcases hr with rfl | rfl | rfl <;> rfl
theorem info30:(Tryz.prog.info? 144).map (fun i=>(i.zero,i.size,i.bytes)) = some (some (.agg #[.int .i64 0,.int .i64 0,.int .u8 0]),3,24):=by kernel_rfl
variable {l:List Rn} {c:Nat} {w:World}
theorem RR.cells {g off n:Nat} (h:RR w (.slice (some ⟨g,off,none⟩) n c) l) {k:Nat} (hk:k < l.length) :
  w.cell? ⟨g,off+k * 3,none⟩ = some (.int .i64 l[k].p)∧w.cell? ⟨g,off+k * 3+1,none⟩ = some (.int .i64 l[k].c)∧w.cell? ⟨g,off+k * 3+2,none⟩ = some (.int .u8 l[k].g) :=
 ⟨by simpa using RE.cell bR h hk (j:=0) (by omega) rfl,RE.cell bR h hk (j:=1) (by omega) rfl,RE.cell bR h hk (j:=2) (by omega) rfl⟩
theorem eP (w:World) (p c g:Int):RR (w.alloc (.cells #[.int .i64 p,.int .i64 c,.int .u8 g] 144)) (.slice (some ⟨w.heap.size,0,none⟩) 1 1) [⟨p,c,g⟩]:=ur w 144 3 1 _ rfl
theorem lv (p c g:Int) (w:World) (hp:-100000≤p∧p≤100000) (hc:-100000≤c∧c≤100000):Calls Tryz.prog 82 #[.agg #[.int .i64 p,.int .i64 c,.int .u8 g]] w fun e w'=>e = .returned (.int .i64 (p+c))∧Chg [] w w':=by obtain ⟨zH,qG⟩:=hp;obtain ⟨kO,kI⟩:=hc;go_enter Tryz.func82,Tryz.ntmps82;go_wp2_with fail;go_ret;exact ⟨rfl,(av _ _).alloc _⟩
theorem kf (page count:Int) (w:World):Calls Tryz.prog 100 #[.int .i64 page,.int .i64 count] w fun e w'=>e = .returned (.bool (mayB page count))∧w = w':=by
 obtain ⟨b,hb⟩:∃b,mayB page count = b:=⟨_,rfl⟩;have HB:=bk hb;rw [hb];clear hb;by_cases h1:0≤page
 ·by_cases h2:1≤count
  ·by_cases h3:count≤1024
   ·by_cases h4:page≤1024 - count
    ·obtain rfl:b = true:=(by rw [← HB.out];simp [mayB,h1,h2,h3,h4]);go_enter Tryz.func100,Tryz.ntmps100;go_wp2_with fail;go_ret;exact ⟨rfl,rfl⟩
    ·obtain rfl:b = false:=(by rw [← HB.out];simp [mayB];omega);go_enter Tryz.func100,Tryz.ntmps100;go_wp2_with fail;go_ret;exact ⟨rfl,rfl⟩
   ·obtain rfl:b = false:=(by rw [← HB.out];simp [mayB];omega);go_enter Tryz.func100,Tryz.ntmps100;go_wp2_with fail;go_ret;exact ⟨rfl,rfl⟩
  ·obtain rfl:b = false:=(by rw [← HB.out];simp [mayB];omega);go_enter Tryz.func100,Tryz.ntmps100;go_wp2_with fail;go_ret;exact ⟨rfl,rfl⟩
 ·obtain rfl:b = false:=by rw [← HB.out];simp [mayB];omega
  go_enter Tryz.func100,Tryz.ntmps100;go_wp2_with fail;go_ret;exact ⟨rfl,rfl⟩
theorem fm (g:Int) (w:World):Calls Tryz.prog 120 #[.int .u8 g] w fun e w'=>e = .returned (.bool (rgB g))∧w = w':=by
 obtain ⟨b,hb⟩:∃b,rgB g = b:=⟨_,rfl⟩;have HB:=bk hb;rw [hb];clear hb;by_cases h1:1≤g
 ·by_cases h2:g≤3
  ·obtain rfl:b = true:=(by rw [← HB.out];simp [rgB,h1,h2]);go_enter Tryz.func120,Tryz.ntmps120;go_wp2_with fail;go_ret;exact ⟨rfl,rfl⟩
  ·obtain rfl:b = false:=(by rw [← HB.out];simp [rgB];omega);go_enter Tryz.func120,Tryz.ntmps120;go_wp2_with fail;go_ret;exact ⟨rfl,rfl⟩
 ·obtain rfl:b = false:=by rw [← HB.out];simp [rgB];omega
  go_enter Tryz.func120,Tryz.ntmps120;go_wp2_with fail;go_ret;exact ⟨rfl,rfl⟩
structure Okr (r:Rn):Prop where
 p:-10000≤r.p∧r.p≤10000
 c:-10000≤r.c∧r.c≤10000
def Okl (l:List Rn):Prop:=∀r∈l,Okr r
variable {Q:Exit→Act→World→Prop} {o:Oper} {rest:List Oper} {ops:Array Oper}
theorem js {a:Act} (hg:o.guard = none) (s x:Operand)
  (ho:o.op = .call { callee:=.builtin .append,args:=#[s,x],argTypes:=#[140,140] }) (v y:Value) (hs:a.eval s = v) (hx:a.eval x = y) {l m:List Rn} (hv:SR w v l) (hy:RR w y m) (kQ:l.length+m.length≤1000000)
  (h:∀A n c w',Hid (n = (l ++ m).length)→SR w' (.slice A n c) (l ++ m)→Chg (own v) w w'→Grow w v (.slice A n c)→wpList Tryz.prog ops Q rest (a.put o.dst (.slice A n c)) w') :
  wpList Tryz.prog ops Q (o :: rest) a w:=by
 obtain ⟨i30,hi,hz,tC,tP⟩:=info_parts info30;refine ll hg s x 140 ho 144 Tryz.underlying140 hi hz tC tP rfl hs hv hx hy (rc_one m) (by unfold maxLen;omega) (by omega) fun v' w' h2 h3 h4=>?_;have pY:SR w' v' (l ++ m):=by
  unfold SR SE;rw [List.length_append,lc];exact h2
 obtain ⟨A,c,rfl⟩:=pY.form;exact h A _ c w' rfl pY h3 (pq h4)
variable {r:Rn} {v:Value}
theorem put_none (hv:SR w v l) (h:r.c < 1∨r.g = 0) :
  Calls Tryz.prog 139 #[v,.agg #[.int .i64 r.p,.int .i64 r.c,.int .u8 r.g]] w fun e w'=>e = .returned v∧Chg [] w w':=by
 obtain ⟨A,c0,rfl⟩:=hv.form;obtain ⟨p,c,g⟩:=r;simp only at h ⊢;by_cases hc:c < 1
 ·go_enter Tryz.func139,Tryz.ntmps139;go_wp2_with fail;go_ret;exact ⟨rfl,(av _ _).alloc _⟩
 ·obtain rfl:g = 0:=by omega
  go_enter Tryz.func139,Tryz.ntmps139;go_wp2_with fail;go_ret;exact ⟨rfl,(av _ _).alloc _⟩
end Go.Proofs.YtfoleblcaloeoaaGreatDoor.Ar
namespace Go.Proofs.YtfoleblcaloeoaaGreatDoor.Ar
open Go Go.RowKit
variable {w:World}
theorem tu {g off:Nat} {x y z:Int} (c0:w.cell? ⟨g,off,none⟩ = some (.int .i64 x)) (c1:w.cell? ⟨g,off+1,none⟩ = some (.int .i64 y)) (c2:w.cell? ⟨g,off+2,none⟩ = some (.int .u8 z)):(loadVar 144 ⟨g,off,none⟩).run Tryz.prog w = .ok (.agg #[.int .i64 x,.int .i64 y,.int .u8 z]) w:=by simp [go_sem,loadVar,c0,c1,c2]
def PutP (w:World) (v:Value) (l:List Rn) (e:Ending) (w':World):Prop:=∃A n c,e = .returned (.slice A n c)∧SR w' (.slice A n c) l∧Chg (own v) w w'∧Grow w v (.slice A n c)
theorem RR_two (w:World) (p c g:Int) (T:TypeId) (cs:Array Value):RR (((w.alloc (.cells cs T)).alloc (.cells #[.int .i64 p,.int .i64 c,.int .u8 g] 144)).drew) (.slice (some ⟨w.heap.size+1,0,none⟩) 1 1) [⟨p,c,g⟩]:=by have:=eP (w.alloc (.cells cs T)) p c g;rw [af] at this;exact Rd.drew this
variable {r:Rn} {v:Value}
theorem put_nil (hv:SR w v []) (h:¬ (r.c < 1∨r.g = 0)) :
  Calls Tryz.prog 139 #[v,.agg #[.int .i64 r.p,.int .i64 r.c,.int .u8 r.g]] w (PutP w v [r]):=by
 obtain ⟨A,c0,rfl⟩:=hv.form;obtain ⟨p,c,g⟩:=r;simp only at h ⊢;obtain ⟨h1,h2⟩:1≤c∧(g == 0) = false:=⟨by omega,beq_eq_false_iff_ne.2 (by omega)⟩;clear h;simp only [List.length_nil];go_enter Tryz.func139,Tryz.ntmps139;go_wp2_with fail;refine rgt [0,0,0,0,0,0,1,6,0,5,0,0,0,0,0,0,0,1,0,1,0,0] [none,none,none,some (20,true),some (20,true),some (20,true),some (20,true),some (20,true),some (20,true),some (20,true),some (20,true),none,none,some (30,true),some (30,true),some (30,true),some (30,true),some (30,true),some (30,true),some (30,true),some (30,true),none] (fun W=>Blk W w.heap.size 144 #[.int .i64 p,.int .i64 c,.int .u8 g]) ?_;go_wp2_with (first|at_builtin;refine js rfl _ _ rfl (.slice A 0 c0) _ rfl rfl (l:=[]) (m:=[⟨p,c,g⟩]) (hv.stay (((av _ _).alloc _).alloc _).drew) (RR_two w p c g _ _) (by simp) ?_;intro A9 n9 c9 W9 nQ mY lC oF|refine cdA fun K U=>?_|refine cx ?_;go_simp|refine cy ?_|refine bn fun K U=>?_;go_simp|refine bq ?_);go_ret;have hc:Chg [] w (((w.alloc (.cells #[.int .i64 p,.int .i64 c,.int .u8 g] 144)).alloc (.cells #[.int .i64 p,.int .i64 c,.int .u8 g] 144)).drew):=(((av _ _).alloc _).alloc _).drew;exact ⟨_,_,_,rfl,mY,hc.then_ lC,oF.of_le (by simp;omega)⟩
variable {l:List Rn}
theorem put_snoc {x:Rn} (hv:SR w v (l ++ [x])) (h:¬ (r.c < 1∨r.g = 0)) (hx:Okr x) (hr:Okr r) (kQ:l.length≤100000) (hj:¬ (x.e = r.p∧x.g = r.g)) :
  Calls Tryz.prog 139 #[v,.agg #[.int .i64 r.p,.int .i64 r.c,.int .u8 r.g]] w (PutP w v (l ++ [x] ++ [r])):=by
 obtain ⟨A,c0,rfl⟩:=hv.form;obtain ⟨n,hn⟩:∃n,l.length = n:=⟨_,rfl⟩;have en:(l ++ [x]).length = n+1:=by simp [hn]
 rw [en] at hv ⊢;obtain ⟨g0,off,rfl⟩:=SE.addr hv (Nat.succ_pos n);obtain ⟨q0,q1,q2⟩:=RR.cells hv.re (k:=n) (by omega);have ex:(l ++ [x])[n]'(by omega) = x:=by subst hn;simp
 rw [ex] at q0 q1 q2;have Hn:=bk hn;have tO:g0 < w.heap.size:=hv.own_lt g0 (by simp [own,Value.ownBlock]);have vC:n≤100000:=by omega
 clear en ex hn;obtain ⟨⟨xp1,xp2⟩,xc1,xc2⟩:=hx;obtain ⟨⟨rp1,rp2⟩,rc1,rc2⟩:=hr;obtain ⟨p,c,g⟩:=r;obtain ⟨xp,xc,xg⟩:=x;simp only at *;have h1:1≤c:=by omega
 have h2:(g == 0) = false:=beq_eq_false_iff_ne.2 (by omega);have hb:Blk ((w.alloc (.cells #[.int .i64 p,.int .i64 c,.int .u8 g] 144)).drew) w.heap.size 144 #[.int .i64 p,.int .i64 c,.int .u8 g]:=(ax w 144 _).drew;have nG:Chg [] w ((w.alloc (.cells #[.int .i64 p,.int .i64 c,.int .u8 g] 144)).drew):=((av _ _).alloc _).drew;have GR:Hid ((l ++ [(⟨xp,xc,xg⟩:Rn)]).length + [(⟨p,c,g⟩:Rn)].length≤1000000):=bk (by simp;omega);by_cases he:xp+xc = p
 ·have Ia:(xp+xc == p) = true:=by simpa using he
  have he2:(xg == g) = false:=beq_eq_false_iff_ne.2 (fun e=>hj ⟨he,e⟩);clear hj h he;go_enter Tryz.func139,Tryz.ntmps139;go_wp2_with fail;refine rgt [0,0,0,0,0,0,1,6,0,5,0,0,0,0,0,0,0,1,0,1,0,0] [none,none,none,some (20,true),some (20,true),some (20,true),some (20,true),some (20,true),some (20,true),some (20,true),some (20,true),none,none,some (30,true),some (30,true),some (30,true),some (30,true),some (30,true),some (30,true),some (30,true),some (30,true),none] (fun W=>Blk W w.heap.size 144 #[.int .i64 p,.int .i64 c,.int .u8 g]) ?_;go_wp2_with (first|refine cdA fun K U=>?_|refine cx ?_;go_simp|refine cy ?_|refine bn fun K U=>?_;go_simp|refine bq ?_);(refine cd hb fun K U=>?_);go_simp;(refine (lv xp xc xg _ ⟨by omega,by omega⟩ ⟨by omega,by omega⟩).mono ?_);rintro e W1 ⟨rfl,kO⟩;have lH:=aw hb kO ab;(refine U _ _ lH ?_);clear U K;have b0:=lH.cell 0;have b1:=lH.cell 1;have b2:=lH.cell 2;simp at b0 b1 b2;have FN:SR W1 (.slice (some ⟨g0,off,none⟩) (n+1) c0) (l ++ [⟨xp,xc,xg⟩]):=(hv.stay nG).stay kO;obtain ⟨q0',q1',q2'⟩:W1.cell? ⟨g0,off+n * 3,none⟩ = some (.int .i64 xp)∧W1.cell? ⟨g0,off+n * 3+1,none⟩ = some (.int .i64 xc)∧W1.cell? ⟨g0,off+n * 3+2,none⟩ = some (.int .u8 xg):=⟨(nG.trans kO (fun _ h=>by cases h)).cell q0 ab,(nG.trans kO (fun _ h=>by cases h)).cell q1 ab,(nG.trans kO (fun _ h=>by cases h)).cell q2 ab⟩;clear q0 q1 q2;go_wp2_with (first|refine ca 3 _ rfl rfl (fun w' kK=>dg Tryz.underlying3 (by simpa using Blk.cell kK 0)) lH ?_;go_simp|at_builtin;refine js rfl _ _ rfl (.slice (some ⟨g0,off,none⟩) (n+1) c0) _ rfl rfl (FN.stay ((av _ _).alloc _)) (eP W1 p c g) GR.out ?_;intro A9 n9 c9 W9 nQ mY lC oF|refine cdA fun K U=>?_|refine cx ?_;go_simp|refine cy ?_|refine bn fun K U=>?_;go_simp|refine bq ?_);go_ret;exact ⟨_,_,_,rfl,mY,(nG.trans (kO.alloc _) (fun _ h=>by cases h)).then_ lC,oF.of_le (by have:=nG.size;have:=kO.size;simp at *;omega)⟩
 ·have Ia:(xp+xc == p) = false:=by simpa using he
  clear hj h he;go_enter Tryz.func139,Tryz.ntmps139;go_wp2_with fail;refine rgt [0,0,0,0,0,0,1,6,0,5,0,0,0,0,0,0,0,1,0,1,0,0] [none,none,none,some (20,true),some (20,true),some (20,true),some (20,true),some (20,true),some (20,true),some (20,true),some (20,true),none,none,some (30,true),some (30,true),some (30,true),some (30,true),some (30,true),some (30,true),some (30,true),some (30,true),none] (fun W=>Blk W w.heap.size 144 #[.int .i64 p,.int .i64 c,.int .u8 g]) ?_;go_wp2_with (first|refine cdA fun K U=>?_|refine cx ?_;go_simp|refine cy ?_|refine bn fun K U=>?_;go_simp|refine bq ?_);(refine cd hb fun K U=>?_);go_simp;(refine (lv xp xc xg _ ⟨by omega,by omega⟩ ⟨by omega,by omega⟩).mono ?_);rintro e W1 ⟨rfl,kO⟩;have lH:=aw hb kO ab;(refine U _ _ lH ?_);clear U K;have b0:=lH.cell 0;have b1:=lH.cell 1;have b2:=lH.cell 2;simp at b0 b1 b2;have FN:SR W1 (.slice (some ⟨g0,off,none⟩) (n+1) c0) (l ++ [⟨xp,xc,xg⟩]):=(hv.stay nG).stay kO;clear q0 q1 q2;go_wp2_with (first|refine ca 3 _ rfl rfl (fun w' kK=>dg Tryz.underlying3 (by simpa using Blk.cell kK 0)) lH ?_;go_simp|at_builtin;refine js rfl _ _ rfl (.slice (some ⟨g0,off,none⟩) (n+1) c0) _ rfl rfl (FN.stay ((av _ _).alloc _)) (eP W1 p c g) GR.out ?_;intro A9 n9 c9 W9 nQ mY lC oF|refine cdA fun K U=>?_|refine cx ?_;go_simp|refine cy ?_|refine bn fun K U=>?_;go_simp|refine bq ?_);go_ret;exact ⟨_,_,_,rfl,mY,(nG.trans (kO.alloc _) (fun _ h=>by cases h)).then_ lC,oF.of_le (by have:=nG.size;have:=kO.size;simp at *;omega)⟩
theorem put_join {x:Rn} (hv:SR w v (l ++ [x])) (h:¬ (r.c < 1∨r.g = 0)) (hx:Okr x) (hr:Okr r) (kQ:l.length≤100000) (hj:x.e = r.p∧x.g = r.g) :
  Calls Tryz.prog 139 #[v,.agg #[.int .i64 r.p,.int .i64 r.c,.int .u8 r.g]] w (PutP w v (l ++ [⟨x.p,x.c+r.c,x.g⟩])):=by
 obtain ⟨A,c0,rfl⟩:=hv.form;obtain ⟨n,hn⟩:∃n,l.length = n:=⟨_,rfl⟩;have en:(l ++ [x]).length = n+1:=by simp [hn]
 rw [en] at hv ⊢;obtain ⟨g0,off,rfl⟩:=SE.addr hv (Nat.succ_pos n);obtain ⟨q0,q1,q2⟩:=RR.cells hv.re (k:=n) (by omega);have ex:(l ++ [x])[n]'(by omega) = x:=by subst hn;simp
 have e3:(l ++ [x]).set n ⟨x.p,x.c+r.c,x.g⟩ = l ++ [⟨x.p,x.c+r.c,x.g⟩]:=by subst hn;simp
 rw [ex] at q0 q1 q2;have Hset:Hid (∀W,SR W (.slice (some ⟨g0,off,none⟩) (n+1) c0) (l ++ [x])→SR (W.setCell ⟨g0,off+(n * 3+1),none⟩ (.int .i64 (x.c+r.c))) (.slice (some ⟨g0,off,none⟩) (n+1) c0) (l ++ [⟨x.p,x.c+r.c,x.g⟩])):=bk fun W hW=>by
  have:=SE.set bR hW (k:=n) (j:=1) (by omega) (by omega) (u:=.int .i64 (x.c+r.c)) (x:=⟨x.p,x.c+r.c,x.g⟩) (by rw [ex];rfl);rw [e3] at this;exact this
 have Hn:=bk hn;have tO:g0 < w.heap.size:=hv.own_lt g0 (by simp [own,Value.ownBlock]);have vC:n≤100000:=by omega
 have xI:=hv.frozen (off+n * 3+1);clear en ex hn e3;obtain ⟨⟨xp1,xp2⟩,xc1,xc2⟩:=hx;obtain ⟨⟨rp1,rp2⟩,rc1,rc2⟩:=hr;obtain ⟨p,c,g⟩:=r;obtain ⟨xp,xc,xg⟩:=x;simp only at *;obtain ⟨he,rfl⟩:=hj;have h1:1≤c:=by omega
 have h2:(xg == 0) = false:=beq_eq_false_iff_ne.2 (by omega);have Ia:(xp+xc == p) = true:=by simpa using he
 clear h he;have hb:Blk ((w.alloc (.cells #[.int .i64 p,.int .i64 c,.int .u8 xg] 144)).drew) w.heap.size 144 #[.int .i64 p,.int .i64 c,.int .u8 xg]:=(ax w 144 _).drew;have nG:Chg [] w ((w.alloc (.cells #[.int .i64 p,.int .i64 c,.int .u8 xg] 144)).drew):=((av _ _).alloc _).drew;go_enter Tryz.func139,Tryz.ntmps139;go_wp2_with fail;refine rgt [0,0,0,0,0,0,1,6,0,5,0,0,0,0,0,0,0,1,0,1,0,0] [none,none,none,some (20,true),some (20,true),some (20,true),some (20,true),some (20,true),some (20,true),some (20,true),some (20,true),none,none,some (30,true),some (30,true),some (30,true),some (30,true),some (30,true),some (30,true),some (30,true),some (30,true),none] (fun W=>Blk W w.heap.size 144 #[.int .i64 p,.int .i64 c,.int .u8 xg]) ?_;go_wp2_with (first|refine cdA fun K U=>?_|refine cx ?_;go_simp|refine cy ?_|refine bn fun K U=>?_;go_simp|refine bq ?_);(refine cd hb fun K U=>?_);go_simp;(refine (lv xp xc xg _ ⟨by omega,by omega⟩ ⟨by omega,by omega⟩).mono ?_);rintro e W1 ⟨rfl,kO⟩;have lH:=aw hb kO ab;(refine U _ _ lH ?_);clear U K;have b0:=lH.cell 0;have b1:=lH.cell 1;have b2:=lH.cell 2;simp at b0 b1 b2;have nU:=nG.trans kO (fun _ h=>by cases h);have FN:SR W1 (.slice (some ⟨g0,off,none⟩) (n+1) c0) (l ++ [⟨xp,xc,xg⟩]):=hv.stay nU;obtain ⟨q0',q1',q2'⟩:W1.cell? ⟨g0,off+n * 3,none⟩ = some (.int .i64 xp)∧W1.cell? ⟨g0,off+n * 3+1,none⟩ = some (.int .i64 xc)∧W1.cell? ⟨g0,off+n * 3+2,none⟩ = some (.int .u8 xg):=⟨nU.cell q0 ab,nU.cell q1 ab,nU.cell q2 ab⟩;have hfz1:=FN.frozen (off+n * 3+1);clear q0 q1 q2 xI;go_wp2_with (first|refine ca 3 _ rfl rfl (fun w' kK=>dg Tryz.underlying3 (by simpa using Blk.cell kK 0)) lH ?_;go_simp|refine cdA fun K U=>?_|refine cx ?_;go_simp|refine cy ?_|refine bn fun K U=>?_;go_simp|refine bq ?_);refine km [0,0,0,0,1,0,1,0,0,0,3] ?_;go_wp2_with (first|refine cdA fun K U=>?_|refine bn fun K U=>?_;go_simp|refine bq ?_);go_ret;have hs:=Hset.out _ (FN.stay (av [] W1).drew);refine ⟨_,_,_,rfl,hs,(nU.drew).then_ ((av _ _).setCell (.inl (by simp [own,Value.ownBlock])) _),Grow.refl _ _⟩
theorem ws (hv:SR w v l) (hl:Okl l) (hr:Okr r) (kQ:l.length≤100000):Calls Tryz.prog 139 #[v,.agg #[.int .i64 r.p,.int .i64 r.c,.int .u8 r.g]] w (PutP w v (jy l r)):=by
 by_cases h:r.c < 1∨r.g = 0
 ·rw [oq h];obtain ⟨A,c0,rfl⟩:=hv.form;refine (put_none hv h).mono ?_;rintro e w' ⟨rfl,hc⟩;exact ⟨_,_,_,rfl,hv.stay hc,hc.up _,Grow.refl _ _⟩
 ·rcases List.eq_nil_or_concat l with rfl | ⟨l',x,rfl⟩
  ·rw [dF h];exact put_nil hv h
  ·rw [List.concat_eq_append] at hv hl kQ ⊢;have hx:=hl x (by simp);by_cases hj:x.e = r.p∧x.g = r.g
   ·rw [aO h hj];exact put_join hv h hx hr (by simp at kQ;omega) hj
   ·rw [aP h hj];exact put_snoc hv h hx hr (by simp at kQ;omega) hj
end Go.Proofs.YtfoleblcaloeoaaGreatDoor.Ar
namespace Go.Proofs.YtfoleblcaloeoaaGreatDoor.Ar
open Go Go.RowKit
theorem run_min (ts:Array TypeId) (ty:TypeId) (k k':IntKind) (x y:Int) (w:World):(Builtin.min_ ts ty #[.int k x,.int k' y]).run Tryz.prog w = .ok (.int k (min x y)) w:=by
 have e:min x y = if y < x then y else x:=by split <;> omega
 rw [e];simp [Builtin.min_,Builtin.min2]
theorem run_max (ts:Array TypeId) (ty:TypeId) (k k':IntKind) (x y:Int) (w:World):(Builtin.max_ ts ty #[.int k x,.int k' y]).run Tryz.prog w = .ok (.int k (max x y)) w:=by
 have e:max x y = if x < y then y else x:=by split <;> omega
 rw [e];simp [Builtin.max_,Builtin.max2]
def AMem (w:World) (d:Nat) (l:List Rn) (F:List Nat):Prop:=∃v,Blk w d 142 #[v]∧SR w v l∧(∀k∈d :: own v,k∈F)∧∀k∈F,k < w.heap.size
theorem AMem.chg {w w':World} {d:Nat} {l:List Rn} {F G:List Nat} (h:AMem w d l F) (hc:Chg G w w') (hd:∀k∈F,k∉G):AMem w' d l F:=by obtain ⟨v,hb,hs,hF,kG⟩:=h;exact ⟨v,hb.chg hc (hd _ (hF _ (List.mem_cons_self ..))),hs.chg hc (fun k hk=>hd k (hF k (List.mem_cons_of_mem _ hk))),hF,fun k hk=>al (kG k hk) hc.size⟩
variable {F:List Nat} {l:List Rn} {d:Nat} {w w':World}
theorem AMem.stay (h:AMem w d l F) (hc:Chg [] w w'):AMem w' d l F:=h.chg hc (by simp)
theorem AMem.lt (h:AMem w d l F):∀k∈F,k < w.heap.size:=h.choose_spec.2.2.2
theorem AMem.mem (h:AMem w d l F):d∈F:=h.choose_spec.2.2.1 _ (List.mem_cons_self ..)
theorem Okl.get (h:Okl l) {k:Nat} (hk:k < l.length):(-10000≤l[k].p∧l[k].p≤10000)∧-10000≤l[k].c∧l[k].c≤10000:=⟨(h _ (ao hk)).p,(h _ (ao hk)).c⟩
theorem jB {k:Nat} (hk:k < l.length) (page count:Int):cntL (l.take (k+1)) page count = cntL (l.take k) page count+ovl page count l[k]:=by unfold cntL;rw [List.take_succ_eq_append_getElem hk,List.map_append,List.sum_append];simp
variable {page count:Int}
theorem ovl_bd (h1:0≤count) (h2:count≤10000) (r:Rn):0≤ovl page count r∧ovl page count r≤10000:=by unfold ovl;omega
theorem gW {page count:Int} (h1:0≤count) (h2:count≤10000):∀l:List Rn,0≤cntL l page count∧cntL l page count≤10000 * l.length
 | []=>by simp [cntL]
 | r :: l=>by
  have ih:=gW (page:=page) h1 h2 l
  have:=ovl_bd (page:=page) h1 h2 r
  have e:cntL (r :: l) page count = ovl page count r+cntL l page count:=by simp [cntL]
  rw [e,List.length_cons]
  omega
theorem Sp.okl (h:Sp l):Okl l:=fun r hr=>by
 obtain ⟨h1,h2,h3,h4,h5⟩:=h.mem hr
 exact ⟨by omega,by omega⟩
theorem cS (hm:AMem w d l F) (hl:Okl l) (kQ:l.length≤1000) (page count:Int) (hp:0≤page∧page≤1024) (hc:0≤count∧count≤1024) :
  Calls Tryz.prog 101 #[.pointer (some ⟨d,0,none⟩),.int .i64 page,.int .i64 count] w fun e w'=>e = .returned (.int .i64 (cntL l page count))∧Chg [] w w':=by
 obtain ⟨v,hb,hs,hF,kG⟩:=hm;obtain ⟨A,c0,rfl⟩:=hs.form;have b0:=hb.cell 0;simp at b0;have hdl:=hb.lt;obtain ⟨zH,qG⟩:=hp;obtain ⟨kO,kI⟩:=hc;have Hs:=bk hs;have Hl:=bk hl;have Hb:=bk hb;clear hs hl hb hF kG;go_enter Tryz.func101,Tryz.ntmps101;go_wp2_with fail;go_loopw [14,6] (fun i n wr=>∃(k:Nat) (t:Int),k≤l.length∧i = .int .i64 k∧n = .int .i64 t∧Hid (t = cntL (l.take k) page count)∧Chg [] w wr) (fun i _ _=>l.length - (intOf i).toNat)
 case atStart=>exact ⟨0,0,by omega,rfl,rfl,bk (by simp [cntL]),av _ _⟩
 case round =>
  obtain ⟨k,t,hk,rfl,rfl,ht,lN⟩:=hrel;have uE:=gW (page:=page) kO (by omega:count≤10000) (l.take k);rw [← ht.out,List.length_take] at uE;obtain ⟨ht1,ht2⟩:0≤t∧t≤10000000:=by omega
  clear uE;by_cases hkt:k < l.length
  ·have xN:=Hs.out.stay lN;obtain ⟨g0,off,rfl⟩:=SE.addr xN (by omega);obtain ⟨q0,q1,q2⟩:=RR.cells xN.re hkt;have tO:g0 < wr.heap.size:=xN.own_lt g0 (by simp [own,Value.ownBlock]);have oV:=Hl.out.get hkt;have hts:=jB hkt page count;obtain ⟨r,hr⟩:∃r,r = l[k]:=⟨_,rfl⟩;rw [← hr] at q0 q1 q2 oV hts;obtain ⟨⟨rp1,rp2⟩,rc1,rc2⟩:=oV;clear hr xN;obtain ⟨p,c,g⟩:=r;simp only at *;obtain ⟨m1,BF⟩:∃m,m = min (p+c) (page+count):=⟨_,rfl⟩;obtain ⟨m2,vO⟩:∃m,m = max p page:=⟨_,rfl⟩;obtain ⟨m3,Ct⟩:∃m,m = max 0 (m1 - m2):=⟨_,rfl⟩;have u1:=fun ts ty w=>run_min ts ty .i64 .i64 (p+c) (page+count) w;have u2:=fun ts ty w=>run_max ts ty .i64 .i64 p page w;have u3:=fun ts ty w=>run_max ts ty .i64 .i64 0 (m1 - m2) w;rw [← BF] at u1;rw [← vO] at u2;rw [← Ct] at u3;have wT:m3 = ovl page count ⟨p,c,g⟩:=(by rw [Ct,BF,vO];rfl);obtain ⟨a1,a2⟩:-100000≤m1∧m1≤100000:=(by omega);obtain ⟨a3,a4⟩:-100000≤m2∧m2≤100000:=(by omega);obtain ⟨a5,a6⟩:0≤m3∧m3≤200000:=(by omega);have Hov:Hid (t+m3 = cntL (l.take (k+1)) page count):=bk (by rw [hts,ht.out,wT]);clear BF vO Ct hts wT;go_wp2_with fail;refine ep [0,5,6,0,0,0,0,0,5,0,0,0,0,0,0] (List.replicate 15 none) (fun W=>Blk W wr.heap.size 144 #[.int .i64 p,.int .i64 c,.int .u8 g]) (by kernel_rfl) (by kernel_rfl) (by kernel_rfl) ?_;have pU:Blk ((wr.alloc (.cells #[.int .i64 p,.int .i64 c,.int .u8 g] 144)).drew) wr.heap.size 144 #[.int .i64 p,.int .i64 c,.int .u8 g]:=(ax wr 144 _).drew;go_wp2_with (first|refine ca 144 _ rfl rfl (fun w' kK=>tu (by simpa using Blk.cell kK 0) (by simpa using Blk.cell kK 1) (by simpa using Blk.cell kK 2)) pU ?_;go_simp|refine cdA fun K U=>?_|refine cx ?_;go_simp|refine cy ?_|refine bn fun K U=>?_;go_simp|refine bq ?_);(refine cd pU fun K U=>?_);go_simp;refine (lv p c g _ ⟨by omega,by omega⟩ ⟨by omega,by omega⟩).mono ?_;rintro e W1 ⟨rfl,kO⟩;have lH:=aw pU kO ab;refine U _ _ lH ?_;clear U K;go_wp2_with (first|refine ca 3 _ rfl rfl (fun w' kK=>dg Tryz.underlying3 (by simpa using Blk.cell kK 0)) lH ?_;go_simp|refine cdA fun K U=>?_|refine cx ?_;go_simp|refine cy ?_|refine bn fun K U=>?_;go_simp|refine bq ?_);go_roundw
   case rel=>exact ⟨k+1,t+m3,by omega,by go_num,rfl,Hov,((lN.alloc _).drew).stay kO⟩
   case measure=>simp [intOf];omega
  ·have ek:l.take k = l:=List.take_of_length_le (by omega);rw [ek] at ht;clear ek;go_wp2_with fail;go_ret;refine ⟨?_,lN⟩;show Ending.returned (.int .i64 t) = _;rw [ht.out]
end Go.Proofs.YtfoleblcaloeoaaGreatDoor.Ar
namespace Go.Proofs.YtfoleblcaloeoaaGreatDoor.Ar
open Go Go.RowKit
structure WSt (w W:World) (bp bc bg b0 bd:Nat) (page count g:Int) (V:Value) (l:List Rn) (dn:Bool):Prop where
 chg:Chg [] w W
 p:Blk W bp 3 #[.int .i64 page]
 c:Blk W bc 3 #[.int .i64 count]
 g:Blk W bg 5 #[.int .u8 g]
 bl:Blk W b0 140 #[V]
 d:Blk W bd 4 #[.bool dn]
 s:SR W V l
 nl:w.heap.size≤b0
 nd:w.heap.size≤bd
 nV:∀k∈own V,w.heap.size≤k
section
variable {w W W':World} {bp bc bg bl bd:Nat} {page count g:Int} {V V':Value} {l l':List Rn} {dn:Bool}
theorem WSt.stay (h:WSt w W bp bc bg bl bd page count g V l dn) (hc:Chg [] W W'):WSt w W' bp bc bg bl bd page count g V l dn :=
 { h with chg:=h.chg.stay hc,p:=h.p.chg hc (by simp),c:=h.c.chg hc (by simp),g:=h.g.chg hc (by simp),bl:=h.bl.chg hc (by simp),d:=h.d.chg hc (by simp),s:=h.s.stay hc }
theorem lu {e:TypeId} {size n:Nat} {v:Value} {cs:List Value} {b:Nat} {T:TypeId} {xs:Array Value} (h:Sl W e size v n cs) (hb:Blk W b T xs) (hT:T≠e):b∉own v:=fun hk=>by
 obtain ⟨cur,nH⟩:=Sl.blk h hk
 exact hb.ne_ nH hT rfl
theorem WSt.put (h:WSt w W bp bc bg bl bd page count g V l dn) (hs:SR W' V' l') (hc:Chg (own V) W W') (hg:Grow W V V'):WSt w (W'.setCell ⟨bl,0,none⟩ V') bp bc bg bl bd page count g V' l' dn:=by
 have hp:=h.p.chg hc (lu h.s h.p (by decide));have Hm:=h.c.chg hc (lu h.s h.c (by decide));have hgg:=h.g.chg hc (lu h.s h.g (by decide));have sV:=h.bl.chg hc (lu h.s h.bl (by decide));have Fx:=h.d.chg hc (lu h.s h.d (by decide));refine { chg:=(h.chg.trans hc (fun k hk=>.inr (h.nV k hk))).setCell (.inr h.nl) _,p:=hp.far (hp.ne_ sV (by decide)) _,c:=Hm.far (Hm.ne_ sV (by decide)) _,g:=hgg.far (hgg.ne_ sV (by decide)) _,bl:=?_,d:=Fx.far (Fx.ne_ sV (by decide)) _,s:=Sl.far hs (p:=⟨bl,0,none⟩) (fun e=>lu hs sV (by decide) (ip.2 e)) _,nl:=h.nl,nd:=h.nd,nV:=fun k hk=>?_ }
 ·have:=sV.set_ 0 V';simpa using this
 ·rcases hg k hk with h' | h'
  ·exact h.nV k h'
  ·exact au h.chg.size h'
theorem WSt.mark (h:WSt w W bp bc bg bl bd page count g V l dn):WSt w (W.setCell ⟨bd,0,none⟩ (.bool true)) bp bc bg bl bd page count g V l true where
 chg:=h.chg.setCell (.inr h.nd) _
 p:=h.p.far (h.p.ne_ h.d (by decide)) _
 c:=h.c.far (h.c.ne_ h.d (by decide)) _
 g:=h.g.far (h.g.ne_ h.d (by decide)) _
 bl:=h.bl.far (h.bl.ne_ h.d (by decide)) _
 d:=by have:=h.d.set_ 0 (.bool true);simpa using this
 s:=Sl.far h.s (p:=⟨bd,0,none⟩) (fun e=>lu h.s h.d (by decide) (ip.2 e)) _
 nl:=h.nl
 nd:=h.nd
 nV:=h.nV
theorem WSt.cells (h:WSt w W bp bc bg bl bd page count g V l dn):W.cell? ⟨bp,0,none⟩ = some (.int .i64 page)∧W.cell? ⟨bc,0,none⟩ = some (.int .i64 count)∧W.cell? ⟨bg,0,none⟩ = some (.int .u8 g)∧W.cell? ⟨bl,0,none⟩ = some V∧W.cell? ⟨bd,0,none⟩ = some (.bool dn)∧W.frozen? ⟨bl,0,none⟩ = false∧W.frozen? ⟨bd,0,none⟩ = false:=by have a:=h.p.cell 0;have b:=h.c.cell 0;have c:=h.g.cell 0;have d:=h.bl.cell 0;have e:=h.d.cell 0;simp at a b c d e;exact ⟨a,b,c,d,e,h.bl.frozen 0,h.d.frozen 0⟩
theorem WSt.kept (h:WSt w W bp bc bg bl bd page count g V l dn) (hc:Chg (own V) W W'):W'.cell? ⟨bl,0,none⟩ = some V∧W'.frozen? ⟨bl,0,none⟩ = false∧W'.cell? ⟨bd,0,none⟩ = some (.bool dn)∧W'.frozen? ⟨bd,0,none⟩ = false∧bl≠bd:=by have sV:=h.bl.chg hc (lu h.s h.bl (by decide));have Fx:=h.d.chg hc (lu h.s h.d (by decide));have a:=sV.cell 0;have b:=Fx.cell 0;simp at a b;exact ⟨a,sV.frozen 0,b,Fx.frozen 0,sV.ne_ Fx (by decide)⟩
theorem in_any (h:WSt w W bp bc bg bl bd page count g V l dn) (hl:Okl l) (kQ:l.length≤100000) (hr:Okr ⟨page,count,g⟩) :
  Calls Tryz.prog 138 #[.pointer (some ⟨bd,0,none⟩),.pointer (some ⟨bl,0,none⟩),.pointer (some ⟨bp,0,none⟩),.pointer (some ⟨bc,0,none⟩),.pointer (some ⟨bg,0,none⟩)] W fun e w'=>e = .returned (.tuple #[])∧(∃A n c,WSt w w' bp bc bg bl bd page count g (.slice A n c) (if dn then l else jy l ⟨page,count,g⟩) true∧Grow W V (.slice A n c))∧Chg (bl :: bd :: own V) W w':=by
 obtain ⟨x0,x1,x2,x3,x4,f3,f4⟩:=h.cells;obtain ⟨A0,c0,rfl⟩:=h.s.form;cases dn with
 | true =>
  have H:=bk h;clear h;go_enter Tryz.func138,Tryz.ntmps138;go_wp2_with fail;go_end0;exact ⟨rfl,⟨_,_,_,by simpa using H.out.mark,Grow.refl _ _⟩,(av _ _).setCell (.inl (by simp)) _⟩
 | false =>
  have HP:=bk (ws h.s hl hr kQ);have H:=bk h;clear h;go_enter Tryz.func138,Tryz.ntmps138;go_wp2_with (go_at_call 139;refine HP.out.mono ?_;rintro e W1 ⟨A1,n1,c1,rfl,rY,kO,hg1⟩;have AQ:=H.out.kept kO;obtain ⟨y1,y2,y3,y4,y5⟩:=AQ);go_end0;exact ⟨rfl,⟨_,_,_,by simpa using (H.out.put rY kO hg1).mark,hg1⟩,((kO.mono (fun _ hk=>.inl (List.mem_cons_of_mem _ (List.mem_cons_of_mem _ hk)))).setCell (.inl (by simp)) _).setCell (.inl (by simp)) _⟩
end
end Go.Proofs.YtfoleblcaloeoaaGreatDoor.Ar
namespace Go.Proofs.YtfoleblcaloeoaaGreatDoor.Ar
open Go Go.RowKit
variable {r:Rn} {l:List Rn} {g:Int}
theorem nm_fin {lo:Int} (h:Nm lo g l) (hr:r∈l):r.e≤(fin lo g l).1:=by
 induction l generalizing lo g with
 | nil=>cases hr
 | cons a l ih =>
  obtain ⟨h1,h2,h3,h4,h5⟩:=h;rcases List.mem_cons.1 hr with rfl | hr
  ·exact uu h5
  ·exact ih h5 hr
theorem nm_len {lo:Int} (h:Nm lo g l):(l.length:Int)≤(fin lo g l).1 - lo:=by
 induction l generalizing lo g with
 | nil=>simp [fin]
 | cons a l ih =>obtain ⟨h1,h2,h3,h4,h5⟩:=h;have:=ih h5;have e:a.e = a.p+a.c:=rfl;have e2:(fin lo g (a :: l)).1 = (fin a.e a.g l).1:=rfl;rw [e2,List.length_cons];omega
def Fit (l:List Rn):Prop:=Nm 0 0 l∧(fin 0 0 l).1≤2000
theorem Fit.ok (h:Fit l):Okl l:=fun r hr=>by
 obtain ⟨h1,h2,h3⟩:=fD h.1 hr
 have h4:=nm_fin h.1 hr
 have h5:=h.2
 have e:r.e = r.p+r.c:=rfl
 exact ⟨by omega,by omega⟩
theorem Fit.get (h:Fit l) {k:Nat} (hk:k < l.length):(0≤l[k].p∧l[k].p≤2000)∧1≤l[k].c∧l[k].c≤2000∧l[k].p+l[k].c≤2000:=by have hr:=ao hk;obtain ⟨h1,h2,h3⟩:=fD h.1 hr;have h4:=nm_fin h.1 hr;have h5:=h.2;have e:l[k].e = l[k].p+l[k].c:=rfl;omega
theorem Fit.len (h:Fit l):l.length≤2000:=by have:=nm_len h.1;have:=h.2;omega
theorem Sp.fit (h:Sp l):Fit l:=by
 refine ⟨h.nm,?_⟩;rcases List.eq_nil_or_concat l with rfl | ⟨l',x,rfl⟩
 ·simp [fin]
 ·rw [List.concat_eq_append] at h ⊢;rw [iq];have:=h.mem (r:=x) (by simp);have e:x.e = x.p+x.c:=rfl;show x.e≤2000;omega
theorem Fit.cut {l m:List Rn} (h:Fit (l ++ m)):Fit l:=by
 obtain ⟨h1,h2⟩:=h;have cut:∀(l m:List Rn) {lo g:Int},Nm lo g (l ++ m)→Nm lo g l∧(fin lo g l).1≤(fin lo g (l ++ m)).1:=fun l=>by
  induction l with
  | nil=>intro m lo g h;exact ⟨trivial,uu h⟩
  | cons a l ih=>intro m lo g h;obtain ⟨x,y⟩:=ih m h.2.2.2.2;exact ⟨⟨h.1,h.2.1,h.2.2.1,h.2.2.2.1,x⟩,y⟩
 obtain ⟨x,y⟩:=cut _ _ h1;exact ⟨x,by omega⟩
def st1 (page:Int) (s:List Rn × Bool) (r:Rn):List Rn:=jy s.1 ⟨r.p,min r.e page - r.p,r.g⟩
def st2 (page count g:Int) (s:List Rn × Bool) (r:Rn):List Rn:=if page < r.e then (if s.2 then st1 page s r else jy (st1 page s r) ⟨page,count,g⟩) else st1 page s r
def sd2 (page:Int) (s:List Rn × Bool) (r:Rn):Bool:=if page < r.e then true else s.2
theorem eA (page count g:Int) (s:List Rn × Bool) (r:Rn):jw page count g s r = (jy (st2 page count g s r) ⟨max r.p (page+count),r.e - max r.p (page+count),r.g⟩,sd2 page s r):=by
 unfold jw st2 sd2 st1;by_cases h:page < r.e
 ·simp [h]
 ·simp [h]
variable {s:List Rn × Bool} {page count:Int}
theorem step_fit (h0:0≤page) (h1:1≤count) (h2:page+count≤1024) {old:List Rn} (hs:Wth page count g old s) (hr:Fit (old ++ [r])):Fit s.1∧Fit (st1 page s r)∧Fit (st2 page count g s r):=by
 obtain ⟨l,d⟩:=s;obtain ⟨wR,lR,vG⟩:=hs;obtain ⟨ho,hp,hc,hg,hm⟩:=(mh _ _ _ _).1 hr.1;have FJ:=hr.2;rw [iq] at FJ;simp only at FJ;have er:r.e = r.p+r.c:=rfl;cases d with
 | true =>
  obtain ⟨y1,y2,y3⟩:=vG rfl;simp only at y1 y2 y3 wR;have e1:st1 page (l,true) r = l:=oq (.inl (by show min r.e page - r.p < 1;omega));have e2:st2 page count g (l,true) r = l:=by unfold st2;rw [e1];simp
  rw [e1,e2];have hf:Fit l:=⟨wR,by omega⟩;exact ⟨hf,hf,hf⟩
 | false =>
  obtain ⟨n1,n2,n3⟩:=lR rfl;simp only at n1 n2 n3 wR;have hf:Fit l:=⟨wR,by omega⟩;obtain ⟨p1,p2,p3⟩:=lj (r:=⟨r.p,min r.e page - r.p,r.g⟩) wR (by show _≤r.p;omega);have p2':(fin 0 0 (st1 page (l,false) r)).1≤min page r.e:=by show (fin 0 0 (jy l ⟨r.p,min r.e page - r.p,r.g⟩)).1≤_;rw [p2];show (if (min r.e page - r.p < 1∨r.g = 0) then _ else r.p+(min r.e page - r.p))≤_;split <;> omega
  have Id:Fit (st1 page (l,false) r):=⟨p1,by omega⟩;refine ⟨hf,Id,?_⟩;unfold st2;split
  ·simp only [Bool.false_eq_true,if_false];obtain ⟨q1,q2,q3⟩:=lj (r:=⟨page,count,g⟩) Id.1 (by show _≤page;omega);refine ⟨q1,?_⟩;rw [q2];show (if (count < 1∨g = 0) then _ else page+count)≤_;split <;> omega
  ·exact Id
theorem uv (h0:0≤page) (h1:1≤count) (hl:Fit l) (k:Nat):Wth page count g (l.take k) ((l.take k).foldl (jw page count g) ([],false)):=by
 have h:=yz (g:=g) h0 h1 (l.take k) [] ([],false) ⟨trivial,fun _=>⟨h0,Int.le_refl _,fun _=>rfl⟩,fun h=>by cases h⟩ (by
  rw [List.nil_append]
  have:Fit (l.take k ++ l.drop k):=by rw [List.take_append_drop];exact hl
  exact this.cut.1)
 simpa using h
theorem cU (h0:0≤page) (h1:1≤count) (h2:page+count≤1024) (hl:Fit l) (k:Nat):Fit ((l.take k).foldl (jw page count g) ([],false)).1:=by
 obtain ⟨wR,lR,vG⟩:=uv (g:=g) h0 h1 hl k;have hc:Fit (l.take k):=by
  have:Fit (l.take k ++ l.drop k):=by rw [List.take_append_drop];exact hl
  exact this.cut
 have:=hc.2;refine ⟨wR,?_⟩;generalize (l.take k).foldl (jw page count g) ([],false) = s at lR vG ⊢;cases e:s.2 with
 | true=>have:=(vG e).2.1;omega
 | false=>have:=(lR e).2.1;omega
theorem jF {k:Nat} (hk:k < l.length):(l.take (k+1)).foldl (jw page count g) ([],false) = jw page count g ((l.take k).foldl (jw page count g) ([],false)) l[k]:=by rw [List.take_succ_eq_append_getElem hk,List.foldl_append];rfl
end Go.Proofs.YtfoleblcaloeoaaGreatDoor.Ar
namespace Go.Proofs.YtfoleblcaloeoaaGreatDoor
open Go Go.RowKit
def pgs (g c:Int):Bool:=decide ((0≤g∧g < 1024)∧(1≤c∧c≤1024)∧g+c≤1024)
theorem fN (g c:Int) (w:World):Calls Tryz.prog 73 #[.int .i64 g,.int .i64 c] w fun e w'=>e = .returned (.bool (pgs g c))∧Chg [] w w':=by
 obtain ⟨R,hR⟩:∃R,R = pgs g c:=⟨_,rfl⟩;rw [← hR];unfold pgs at hR;have HR:=bk hR;clear hR;by_cases h0:0≤g
 case neg =>have d0:decide (0≤g) = false:=ac h0;go_enter Tryz.func73,Tryz.ntmps73;go_wp2_with fail;go_ret;exact ⟨by rw [HR.out,ac (by omega)];rfl,av _ _⟩
 have d0:decide (0≤g) = true:=ae h0;by_cases h1:g < 1024
 case neg =>have d1:decide (g < 1024) = false:=ac h1;go_enter Tryz.func73,Tryz.ntmps73;go_wp2_with fail;go_ret;exact ⟨by rw [HR.out,ac (by omega)];rfl,av _ _⟩
 have d1:decide (g < 1024) = true:=ae h1;by_cases h2:1≤c
 case neg =>have d2:decide (1≤c) = false:=ac h2;go_enter Tryz.func73,Tryz.ntmps73;go_wp2_with fail;go_ret;exact ⟨by rw [HR.out,ac (by omega)];rfl,av _ _⟩
 have d2:decide (1≤c) = true:=ae h2;by_cases h3:c≤1024
 case neg =>have d3:decide (c≤1024) = false:=ac h3;go_enter Tryz.func73,Tryz.ntmps73;go_wp2_with fail;go_ret;exact ⟨by rw [HR.out,ac (by omega)];rfl,av _ _⟩
 have d3:decide (c≤1024) = true:=ae h3;have hw:IntKind.i64.wrap (g+c) = g+c:=by rw [IntKind.wrap_i64];omega
 by_cases h4:g+c≤1024
 ·have d4:decide (g+c≤1024) = true:=ae h4;go_enter Tryz.func73,Tryz.ntmps73;go_wp2_with fail;go_ret;exact ⟨by rw [HR.out,ae (by omega)];rfl,av _ _⟩
 ·have d4:decide (g+c≤1024) = false:=ac h4;go_enter Tryz.func73,Tryz.ntmps73;go_wp2_with fail;go_ret;exact ⟨by rw [HR.out,ac (by omega)];rfl,av _ _⟩
