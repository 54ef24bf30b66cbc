import Derived.Test.YtfoleblcaloeoaaGreatDoorZaa
set_option maxHeartbeats 40000000
set_option maxRecDepth 20000
namespace Go.Proofs.YtfoleblcaloeoaaGreatDoor
open Go
section
variable {P:Program} {ops:Array Oper}
def gf (a:Act):Option (Nat × Bool)→Bool
 | none=>true
 | some (t,b)=>match a.tmps[t]? with
  | some (.bool c)=>c == b
  | _=>false
def wpG (P:Program) (S:World→Prop) (Q:Exit→Act→World→Prop):List Oper→List Nat→List (Option (Nat × Bool))→Act→World→Prop
 | [],_,_,a,w=>Q .normal a w
 | o :: rest,ks,gs,a,w =>
  if gf a (gs.headD none) = true then
   if ks.headD 3 = 0 then ∃v,(∀w',(execOp a.eval o).run P w' = .ok (.value v) w')∧wpG P S Q rest ks.tail gs.tail (a.put o.dst v) w
   else if ks.headD 3 = 5 then S w∧∃v,(∀w',S w'→StillAt P o a.eval w' v)∧wpG P S Q rest ks.tail gs.tail (a.put o.dst v) w
   else if ks.headD 3 = 6 then S w∧o.wp P a w (fun a' w'=>S w'∧wpG P S Q rest ks.tail gs.tail a' w') NoQ
   else o.wp P a w (wpG P S Q rest ks.tail gs.tail) NoQ
  else wpG P S Q rest ks.tail gs.tail (a.put o.dst undef) w
def wm (ops:Array Oper) (o:Oper) (g:Option (Nat × Bool)):Bool :=
 match o.guard,g with
 | none,none=>true
 | some (j,b),some (t,c)=>b == c && (ops[j]?).bind (·.dst) == some t
 | _,_=>false
theorem bE {o:Oper} {g:Option (Nat × Bool)} (h:wm ops o g = true) (a:Act):Region.wanted o (yielded ops a.tmps) = gf a g:=by
 unfold wm at h;unfold Region.wanted gf;split at h
 ·rename_i h1;rw [h1]
 ·rename_i j b t c h1;rw [h1];simp only [Bool.and_eq_true,beq_iff_eq] at h;obtain ⟨rfl,h2⟩:=h;simp only [yielded,h2,Option.bind_some];cases a.tmps[t]? with
  | none=>rfl
  | some v=>cases v <;> first | rfl|(simp;done)
 ·cases h
theorem gJ {S:World→Prop} {Q:Exit→Act→World→Prop}:∀(l:List Oper) (ks:List Nat) (gs:List (Option (Nat × Bool))),(l.zip gs).length = l.length→((l.zip gs).all fun (o,g)=>wm ops o g) = true →
  wpG P S Q l ks gs = wpT P ops S Q l ks
 | [],_,_,_,_=>rfl
 | o :: l,ks,[],h,_=>by simp at h
 | o :: l,ks,g :: gs,h,hg=>by
  simp only [List.zip_cons_cons,List.all_cons,Bool.and_eq_true,List.length_cons] at h hg
  have ih:=gJ (S:=S) (Q:=Q) l ks.tail gs (by omega) hg.2
  funext a w
  simp only [wpG,wpT,List.headD_cons,List.tail_cons,bE hg.1 a,ih]
def fv {α:Type} (l:List α) (L:List Nat):List α:=L.filterMap fun i=>l[i]?
def ly (l:List Oper) (ks:List Nat) (gs:List (Option (Nat × Bool))):Bool :=
 ks.length == l.length && gs.length == l.length && (l.zip gs).all fun (o,g)=>wm l.toArray o g
theorem oo {α:Type} {l:List α} {L:List Nat} (hL:∀i∈L,i < l.length):L.map (fun i=>l[i]?) = (fv l L).map some:=by
 unfold fv
 induction L with
 | nil=>rfl
 | cons i L ih =>have hi:=hL i (List.mem_cons_self ..);rw [List.filterMap_cons,List.getElem?_eq_getElem hi,List.map_cons,List.map_cons,ih (fun j hj=>hL j (List.mem_cons_of_mem _ hj))];simp [hi]
theorem tz {α β:Type} {l:List α} {m:List β} {L:List Nat} (hL:∀i∈L,i < l.length) (hm:m.length = l.length):(fv l L).zip (fv m L) = fv (l.zip m) L:=by
 unfold fv
 induction L with
 | nil=>rfl
 | cons i L ih =>
  have hi:=hL i (List.mem_cons_self ..);have hz:i < (l.zip m).length:=by rw [List.length_zip];omega
  simp only [List.filterMap_cons,List.getElem?_eq_getElem hi,List.getElem?_eq_getElem (show i < m.length by omega),List.getElem?_eq_getElem hz,List.zip_cons_cons,List.getElem_zip];rw [ih (fun j hj=>hL j (List.mem_cons_of_mem _ hj))]
theorem dE {α:Type} {l:List α} {L:List Nat} {x:α} (h:x∈fv l L):x∈l:=by obtain ⟨i,_,hi⟩:=List.mem_filterMap.1 h;exact List.mem_of_getElem? hi
theorem nq {α:Type} {l:List α} {L:List Nat} (hL:∀i∈L,i < l.length):(fv l L).length = L.length:=by have:=congrArg List.length (oo hL);simpa using this.symm
theorem mc {id:Nat} {l:List Oper} {Q:Exit→Act→World→Prop} {a:Act} {w:World} (ks:List Nat) (gs:List (Option (Nat × Bool))) (Ls:List (List Nat)) (S:World→Prop) (hm:P.follows .mixedOrders = true)
  (hB:im l ks.toArray Ls = true) (hR:ly l ks gs = true) (DX:(Ls.all fun L=>L.all fun i=>decide (i < l.length)) = true)
  (h:∀L∈Ls,wpG P S Q (fv l L) (fv ks L) (fv gs L) a w.drew):(Code.region id l.toArray true).wp P Q a w:=by
 simp only [ly,Bool.and_eq_true,beq_iff_eq] at hR;obtain ⟨⟨hk,hg⟩,hgd⟩:=hR;refine vj ks Ls S hm hB fun L hL=>?_;have yE:∀i∈L,i < l.length:=fun i hi=>by simpa using List.all_eq_true.1 (List.all_eq_true.1 DX L hL) i hi
 have h1:=h L hL;rw [gJ (ops:=l.toArray) _ _ _ (by rw [tz yE (by omega),nq (by intro i hi;rw [List.length_zip];have:=yE i hi;omega),nq yE]) (by
  rw [tz yE (by omega)]
  exact List.all_eq_true.2 fun x hx=>List.all_eq_true.1 hgd x (dE hx))] at h1
 refine wpR_of (fv l L) (fv ks L) (by simpa using oo yE) ?_ h1;have e:=oo (l:=ks) (L:=L) (by intro i hi;have:=yE i hi;omega);have e2:L.map (fun i=>ks.toArray.getD i 3) = (L.map fun i=>ks[i]?).map (·.getD 3):=by simp [Array.getD_eq_getD_getElem?]
 rw [e2,e];simp [Function.comp_def]
theorem ti {α:Type} (l:List α):fv l (List.range l.length) = l:=by
 have:=oo (l:=l) (L:=List.range l.length) (fun i hi=>by simpa using hi);have e:(List.range l.length).map (fun i=>l[i]?) = l.map some:=by
  refine List.ext_getElem? fun i=>?_;rcases Nat.lt_or_ge i l.length with kG | tB
  ·simp [kG]
  ·simp [Nat.not_lt.2 tB]
 rw [e] at this;have h2:=congrArg (List.filterMap id) this;simpa using h2.symm
theorem ep {id:Nat} {l:List Oper} {Q:Exit→Act→World→Prop} {a:Act} {w:World} (ks:List Nat) (gs:List (Option (Nat × Bool))) (S:World→Prop) (hm:P.follows .mixedOrders = true)
  (hB:im l ks.toArray [List.range l.length] = true) (hR:ly l ks gs = true) (h:wpG P S Q l ks gs a w.drew):(Code.region id l.toArray true).wp P Q a w:=by
 have Ch:=hR;simp only [ly,Bool.and_eq_true,beq_iff_eq] at Ch;refine mc ks gs [List.range l.length] S hm hB hR (by simp) fun L hL=>?_;obtain rfl:L = List.range l.length:=by simpa using hL
 have e1:=ti ks;have e2:=ti gs;rw [Ch.1.1] at e1;rw [Ch.1.2] at e2;rw [ti l,e1,e2];exact h
theorem rgt {id:Nat} {l:List Oper} {Q:Exit→Act→World→Prop} {a:Act} {w:World} (ks:List Nat) (gs:List (Option (Nat × Bool))) (S:World→Prop) (h:wpG P S Q l ks gs a w.drew) (hm:P.follows .mixedOrders = true:=by kernel_rfl)
  (hB:im l ks.toArray [List.range l.length] = true:=by kernel_rfl) (hR:ly l ks gs = true:=by kernel_rfl):(Code.region id l.toArray true).wp P Q a w:=ep ks gs S hm hB hR h
theorem vc {id:Nat} {l:List Oper} {Q:Exit→Act→World→Prop} {a:Act} {w:World} (ks:List Nat) (h:wpG P (fun _=>True) Q l ks [none,none,none,none,none,none] a w.drew) (hm:P.follows .mixedOrders = true:=by kernel_rfl)
  (hB:im l ks.toArray [List.range l.length] = true:=by kernel_rfl) (hR:ly l ks [none,none,none,none,none,none] = true:=by kernel_rfl):(Code.region id l.toArray true).wp P Q a w:=ep ks [none,none,none,none,none,none] (fun _=>True) hm hB hR h
theorem rgn7 {id:Nat} {l:List Oper} {Q:Exit→Act→World→Prop} {a:Act} {w:World} (ks:List Nat) (h:wpG P (fun _=>True) Q l ks [none,none,none,none,none,none,none] a w.drew) (hm:P.follows .mixedOrders = true:=by kernel_rfl)
  (hB:im l ks.toArray [List.range l.length] = true:=by kernel_rfl) (hR:ly l ks [none,none,none,none,none,none,none] = true:=by kernel_rfl):(Code.region id l.toArray true).wp P Q a w:=ep ks [none,none,none,none,none,none,none] (fun _=>True) hm hB hR h
theorem rgn9 {id:Nat} {l:List Oper} {Q:Exit→Act→World→Prop} {a:Act} {w:World} (ks:List Nat) (h:wpG P (fun _=>True) Q l ks [none,none,none,none,none,none,none,none,none] a w.drew) (hm:P.follows .mixedOrders = true:=by kernel_rfl)
  (hB:im l ks.toArray [List.range l.length] = true:=by kernel_rfl) (hR:ly l ks [none,none,none,none,none,none,none,none,none] = true:=by kernel_rfl):(Code.region id l.toArray true).wp P Q a w:=ep ks [none,none,none,none,none,none,none,none,none] (fun _=>True) hm hB hR h
theorem iu {id:Nat} {l:List Oper} {Q:Exit→Act→World→Prop} {a:Act} {w:World} (ks:List Nat) (h:wpG P (fun _=>True) Q l ks [none,none,none,none,none,none,none,none,none,none] a w.drew) (hm:P.follows .mixedOrders = true:=by kernel_rfl)
  (hB:im l ks.toArray [List.range l.length] = true:=by kernel_rfl) (hR:ly l ks [none,none,none,none,none,none,none,none,none,none] = true:=by kernel_rfl):(Code.region id l.toArray true).wp P Q a w:=ep ks [none,none,none,none,none,none,none,none,none,none] (fun _=>True) hm hB hR h
theorem km {id:Nat} {l:List Oper} {Q:Exit→Act→World→Prop} {a:Act} {w:World} (ks:List Nat) (h:wpG P (fun _=>True) Q l ks [none,none,none,none,none,none,none,none,none,none,none] a w.drew) (hm:P.follows .mixedOrders = true:=by kernel_rfl)
  (hB:im l ks.toArray [List.range l.length] = true:=by kernel_rfl) (hR:ly l ks [none,none,none,none,none,none,none,none,none,none,none] = true:=by kernel_rfl):(Code.region id l.toArray true).wp P Q a w:=ep ks [none,none,none,none,none,none,none,none,none,none,none] (fun _=>True) hm hB hR h
theorem eu {id:Nat} {l:List Oper} {Q:Exit→Act→World→Prop} {a:Act} {w:World} (ks:List Nat) (h:wpG P (fun _=>True) Q l ks [none,none,none,none,none,none,none,none,none,none,none,none] a w.drew) (hm:P.follows .mixedOrders = true:=by kernel_rfl)
  (hB:im l ks.toArray [List.range l.length] = true:=by kernel_rfl) (hR:ly l ks [none,none,none,none,none,none,none,none,none,none,none,none] = true:=by kernel_rfl):(Code.region id l.toArray true).wp P Q a w:=ep ks [none,none,none,none,none,none,none,none,none,none,none,none] (fun _=>True) hm hB hR h
theorem rgn14 {id:Nat} {l:List Oper} {Q:Exit→Act→World→Prop} {a:Act} {w:World} (ks:List Nat) (h:wpG P (fun _=>True) Q l ks [none,none,none,none,none,none,none,none,none,none,none,none,none,none] a w.drew) (hm:P.follows .mixedOrders = true:=by kernel_rfl)
  (hB:im l ks.toArray [List.range l.length] = true:=by kernel_rfl) (hR:ly l ks [none,none,none,none,none,none,none,none,none,none,none,none,none,none] = true:=by kernel_rfl):(Code.region id l.toArray true).wp P Q a w:=ep ks [none,none,none,none,none,none,none,none,none,none,none,none,none,none] (fun _=>True) hm hB hR h
theorem mz {id:Nat} {l:List Oper} {Q:Exit→Act→World→Prop} {a:Act} {w:World} (ks:List Nat) (h:wpG P (fun _=>True) Q l ks [none,none,none,none,none,none,none,none,none,none,none,none,none,none,none,none] a w.drew) (hm:P.follows .mixedOrders = true:=by kernel_rfl)
  (hB:im l ks.toArray [List.range l.length] = true:=by kernel_rfl) (hR:ly l ks [none,none,none,none,none,none,none,none,none,none,none,none,none,none,none,none] = true:=by kernel_rfl):(Code.region id l.toArray true).wp P Q a w:=ep ks [none,none,none,none,none,none,none,none,none,none,none,none,none,none,none,none] (fun _=>True) hm hB hR h
theorem rgn18 {id:Nat} {l:List Oper} {Q:Exit→Act→World→Prop} {a:Act} {w:World} (ks:List Nat) (h:wpG P (fun _=>True) Q l ks [none,none,none,none,none,none,none,none,none,none,none,none,none,none,none,none,none,none] a w.drew) (hm:P.follows .mixedOrders = true:=by kernel_rfl)
  (hB:im l ks.toArray [List.range l.length] = true:=by kernel_rfl) (hR:ly l ks [none,none,none,none,none,none,none,none,none,none,none,none,none,none,none,none,none,none] = true:=by kernel_rfl):(Code.region id l.toArray true).wp P Q a w:=ep ks [none,none,none,none,none,none,none,none,none,none,none,none,none,none,none,none,none,none] (fun _=>True) hm hB hR h
theorem rgn20 {id:Nat} {l:List Oper} {Q:Exit→Act→World→Prop} {a:Act} {w:World} (ks:List Nat) (h:wpG P (fun _=>True) Q l ks [none,none,none,none,none,none,none,none,none,none,none,none,none,none,none,none,none,none,none,none] a w.drew) (hm:P.follows .mixedOrders = true:=by kernel_rfl)
  (hB:im l ks.toArray [List.range l.length] = true:=by kernel_rfl) (hR:ly l ks [none,none,none,none,none,none,none,none,none,none,none,none,none,none,none,none,none,none,none,none] = true:=by kernel_rfl):(Code.region id l.toArray true).wp P Q a w:=ep ks [none,none,none,none,none,none,none,none,none,none,none,none,none,none,none,none,none,none,none,none] (fun _=>True) hm hB hR h
section
variable {S:World→Prop} {Q:Exit→Act→World→Prop} {o:Oper} {rest:List Oper} {k:Nat} {ks:List Nat} {gs:List (Option (Nat × Bool))} {a:Act} {w:World}
theorem bq (h:Q .normal a w):wpG P S Q [] ks gs a w:=h
theorem fj {t:Nat} {b:Bool} (hv:gf a (some (t,b)) = false) (h:wpG P S Q rest ks gs (a.put o.dst undef) w):wpG P S Q (o :: rest) (k :: ks) (some (t,b) :: gs) a w:=by unfold wpG;rw [ag (by simp [hv])];exact h
theorem wpG_take {t:Nat} {b:Bool} (hv:gf a (some (t,b)) = true) (h:wpG P S Q (o :: rest) (k :: ks) (none :: gs) a w):wpG P S Q (o :: rest) (k :: ks) (some (t,b) :: gs) a w:=by unfold wpG at h ⊢;rw [ah (by simpa using hv)];rw [ah (show gf a ((none :: gs).headD none) = true from rfl)] at h;exact h
theorem bn (h:∀K:Act→World→Prop,(∀a w,wpG P S Q rest ks gs a w→K a w)→∃v,(∀w',(execOp a.eval o).run P w' = .ok (.value v) w')∧K (a.put o.dst v) w):wpG P S Q (o :: rest) (0 :: ks) (none :: gs) a w:=by have:=h _ (fun _ _ h=>h);unfold wpG;rw [ah (show gf a ((none :: gs).headD none) = true from rfl)];simpa using this
theorem eG (hp:ua o a.eval = true) (h:∀K:Act→World→Prop,(∀a w,wpG P S Q rest ks gs a w→K a w)→o.wp P a w K NoQ):wpG P S Q (o :: rest) (0 :: ks) (none :: gs) a w:=by have:=fL hp (h _ (fun _ _ h=>h));unfold wpG;rw [ah (show gf a ((none :: gs).headD none) = true from rfl)];simpa using this
theorem eI (hk:k≠0∧k≠5∧k≠6) (h:∀K:Act→World→Prop,(∀a w,wpG P S Q rest ks gs a w→K a w)→o.wp P a w K NoQ):wpG P S Q (o :: rest) (k :: ks) (none :: gs) a w:=by have:=h _ (fun _ _ h=>h);unfold wpG;rw [ah (show gf a ((none :: gs).headD none) = true from rfl)];simpa [hk] using this
theorem yi (hS:S w) (v:Value) (hv:∀w',S w'→StillAt P o a.eval w' v) (h:wpG P S Q rest ks gs (a.put o.dst v) w):wpG P S Q (o :: rest) (5 :: ks) (none :: gs) a w:=by unfold wpG;rw [ah (show gf a ((none :: gs).headD none) = true from rfl)];simp only [List.headD_cons,List.tail_cons];exact ⟨hS,v,hv,h⟩
theorem cd (hS:S w) (h:∀K:Act→World→Prop,(∀a w,S w→wpG P S Q rest ks gs a w→K a w)→o.wp P a w K NoQ):wpG P S Q (o :: rest) (6 :: ks) (none :: gs) a w:=by unfold wpG;rw [ah (show gf a ((none :: gs).headD none) = true from rfl)];simp only [List.headD_cons,List.tail_cons];exact ⟨hS,h _ fun _ _ s t=>⟨s,t⟩⟩
theorem ca (t:TypeId) (x:Operand) (ho:o.op = .load t x) {ad:Addr} (hx:a.eval x = .pointer (some ad)) {v:Value} (hv:∀w',S w'→(loadVar t ad).run P w' = .ok v w') (hS:S w) (h:wpG P S Q rest ks gs (a.put o.dst v) w) :
  wpG P S Q (o :: rest) (5 :: ks) (none :: gs) a w:=by
 refine yi hS v (fun w' kK=>?_) h;unfold StillAt execOp;simp [ho,hx,Instr.loadAt,Instr.sureAddr,hv w' kK]
end
theorem gt {w:World} {t e:TypeId} {ad:Addr} {v:Value} (ht:P.underlying t = some (.slice e)) (h:w.cell? ad = some v):(loadVar t ad).run P w = .ok v w:=by simp [loadVar,isAgg,run_underlying ht,load,Sem.run,h]
theorem dg {w:World} {t:TypeId} {k:IntKind} {ad:Addr} {v:Value} (ht:P.underlying t = some (.int k)) (h:w.cell? ad = some v):(loadVar t ad).run P w = .ok v w:=by simp [loadVar,isAgg,run_underlying ht,load,Sem.run,h]end
attribute [irreducible] wpG
section
variable {P:Program} {S:World→Prop} {Q:Exit→Act→World→Prop} {o:Oper} {rest:List Oper} {k:Nat} {ks:List Nat} {gs:List (Option (Nat × Bool))} {a:Act} {w:World}
theorem vn (h:∀K:Act→World→Prop,(∀a w,wpG P S Q rest ks gs a w→K a w)→o.wp P a w K NoQ) (hp:ua o a.eval = true:=by exact rfl):wpG P S Q (o :: rest) (0 :: ks) (none :: gs) a w:=eG hp h
theorem cdA (h:∀K:Act→World→Prop,(∀a w,wpG P S Q rest ks gs a w→K a w)→o.wp P a w K NoQ) (hp:(k = 0∧ua o a.eval = true)∨(k≠0∧k≠5∧k≠6):=by first | exact .inl ⟨rfl,rfl⟩ | exact .inr (by decide)):wpG P S Q (o :: rest) (k :: ks) (none :: gs) a w:=by
 rcases hp with ⟨rfl,hp⟩ | hp
 ·exact eG hp h
 ·exact eI hp h
theorem cx {t:Nat} {b:Bool} (h:wpG P S Q rest ks gs (a.put o.dst undef) w) (hv:gf a (some (t,b)) = false:=by first|(simp [gf];done) | fail):wpG P S Q (o :: rest) (k :: ks) (some (t,b) :: gs) a w:=fj hv h
theorem cy {t:Nat} {b:Bool} (h:wpG P S Q (o :: rest) (k :: ks) (none :: gs) a w) (hv:gf a (some (t,b)) = true:=by first|(simp [gf];done) | fail):wpG P S Q (o :: rest) (k :: ks) (some (t,b) :: gs) a w:=wpG_take hv h
theorem dy (h:∀K:Act→World→Prop,(∀a w,wpG P S Q rest ks gs a w→K a w)→o.wp P a w K NoQ) (hk:k≠0∧k≠5∧k≠6:=by decide):wpG P S Q (o :: rest) (k :: ks) (none :: gs) a w:=eI hk h
end
end Go.Proofs.YtfoleblcaloeoaaGreatDoor
namespace Go.Proofs.YtfoleblcaloeoaaGreatDoor.Ar
structure Rn where
 p:Int
 c:Int
 g:Int
deriving DecidableEq
abbrev Rn.e (r:Rn):Int:=r.p+r.c
def rt:List Rn→Int→Int
 | [],_=>0
 | r :: l,q=>if r.p≤q∧q < r.e then r.g else rt l q
def Nm (lo g:Int):List Rn→Prop
 | []=>True
 | r :: l=>lo≤r.p∧1≤r.c∧r.g≠0∧(r.p = lo→r.g≠g)∧Nm r.e r.g l
def fin (lo g:Int):List Rn→Int × Int
 | []=>(lo,g)
 | r :: l=>fin r.e r.g l
theorem iq (lo g:Int) (l:List Rn) (r:Rn):fin lo g (l ++ [r]) = (r.e,r.g):=by
 induction l generalizing lo g with
 | nil=>rfl
 | cons a l ih=>exact ih _ _
theorem mh (lo g:Int) (l:List Rn) (r:Rn):Nm lo g (l ++ [r])↔Nm lo g l∧(fin lo g l).1≤r.p∧1≤r.c∧r.g≠0∧(r.p = (fin lo g l).1→r.g≠(fin lo g l).2):=by
 induction l generalizing lo g with
 | nil=>simp [Nm,fin]
 | cons a l ih =>
  simp only [List.cons_append,Nm,ih,fin];constructor
  ·rintro ⟨h1,h2,h3,h4,h5,h6⟩;exact ⟨⟨h1,h2,h3,h4,h5⟩,h6⟩
  ·rintro ⟨⟨h1,h2,h3,h4,h5⟩,h6⟩;exact ⟨h1,h2,h3,h4,h5,h6⟩
theorem uu {lo g:Int} {l:List Rn} (h:Nm lo g l):lo≤(fin lo g l).1:=by
 induction l generalizing lo g with
 | nil=>exact Int.le_refl _
 | cons a l ih =>obtain ⟨h1,h2,h3,h4,h5⟩:=h;have h6:=ih h5;have e:a.e = a.p+a.c:=rfl;show lo≤(fin a.e a.g l).1;rw [e] at h6 ⊢;omega
theorem rt_lo {lo g:Int} {l:List Rn} (h:Nm lo g l) {q:Int} (hq:q < lo):rt l q = 0:=by
 induction l generalizing lo g with
 | nil=>rfl
 | cons a l ih =>obtain ⟨h1,h2,h3,h4,h5⟩:=h;unfold rt;rw [ag (by omega)];exact ih h5 (by have e:a.e = a.p+a.c:=rfl;omega)
theorem rt_hi {lo g:Int} {l:List Rn} (h:Nm lo g l) {q:Int} (hq:(fin lo g l).1≤q):rt l q = 0:=by
 induction l generalizing lo g with
 | nil=>rfl
 | cons a l ih =>obtain ⟨h1,h2,h3,h4,h5⟩:=h;have h6:=uu h5;have h7:(fin a.e a.g l).1≤q:=hq;unfold rt;rw [ag (by omega)];exact ih h5 hq
theorem qd {lo g:Int} {l:List Rn} {r:Rn} (h:Nm lo g (l ++ [r])) (q:Int):rt (l ++ [r]) q = if r.p≤q∧q < r.e then r.g else rt l q:=by
 induction l generalizing lo g with
 | nil=>rfl
 | cons a l ih =>
  obtain ⟨h1,h2,h3,h4,h5⟩:=h;have h6:=((mh _ _ _ _).1 h5);have h7:=uu h6.1;have e:a.e = a.p+a.c:=rfl;show (if a.p≤q∧q < a.e then a.g else rt (l ++ [r]) q) = if r.p≤q∧q < r.e then r.g else (if a.p≤q∧q < a.e then a.g else rt l q)
  rw [ih h5];by_cases hr:r.p≤q∧q < r.e
  ·rw [ah hr,ah hr,ag (by omega)]
  ·rw [ag hr,ag hr]
theorem nm_ext {lo g:Int} {l m:List Rn} (hl:Nm lo g l) (hm:Nm lo g m) (h:∀q,rt l q = rt m q):l = m:=by
 induction l generalizing lo g m with
 | nil =>
  cases m with
  | nil=>rfl
  | cons b m =>obtain ⟨h1,h2,h3,h4,h5⟩:=hm;have:=h b.p;simp only [rt] at this;rw [ah ⟨Int.le_refl _,by have e:b.e = b.p+b.c:=rfl;omega⟩] at this;exact absurd this.symm h3
 | cons a l ih =>
  cases m with
  | nil =>obtain ⟨h1,h2,h3,h4,h5⟩:=hl;have:=h a.p;simp only [rt] at this;rw [ah ⟨Int.le_refl _,by have e:a.e = a.p+a.c:=rfl;omega⟩] at this;exact absurd this h3
  | cons b m =>
   obtain ⟨a1,a2,a3,a4,a5⟩:=hl;obtain ⟨b1,b2,b3,b4,b5⟩:=hm;have ea:a.e = a.p+a.c:=rfl;have eb:b.e = b.p+b.c:=rfl;have hp:a.p = b.p:=by
    have ha:=h a.p;have hb:=h b.p;simp only [rt] at ha hb;rw [ah (by omega)] at ha;rw [ah (c:=b.p≤b.p∧b.p < b.e) (by omega)] at hb;refine Classical.byContradiction fun kT=>?_;by_cases kG:a.p < b.p
    ·rw [ag (by omega),rt_lo b5 (by omega)] at ha;exact a3 ha
    ·rw [ag (by omega),rt_lo a5 (by omega)] at hb;exact b3 hb.symm
   have hg:a.g = b.g:=by have ha:=h a.p;simp only [rt] at ha;rw [ah (by omega),ah (by omega)] at ha;exact ha
   have first:∀{lo g:Int} {l:List Rn},Nm lo g l→rt l lo≠g∨g = 0:=fun {lo g l} hn=>by
    cases l with
    | nil =>
     by_cases e:g = 0
     ·exact .inr e
     ·exact .inl fun h=>e h.symm
    | cons c l =>
     obtain ⟨c1,c2,c3,c4,c5⟩:=hn;have ec:c.e = c.p+c.c:=rfl;by_cases e:c.p = lo
     ·refine .inl ?_;simp only [rt];rw [ah (by omega)];exact c4 e
     ·by_cases e2:g = 0
      ·exact .inr e2
      ·refine .inl ?_;simp only [rt];rw [ag (by omega),rt_lo c5 (by omega)];exact fun h=>e2 h.symm
   have he:a.c = b.c:=by
    refine Classical.byContradiction fun kT=>?_;by_cases kG:a.e < b.e
    ·have ha:=h a.e;simp only [rt] at ha;rw [ag (by omega),ah (by omega)] at ha;rcases first a5 with hf | hf
     ·exact hf (by rw [ha,hg])
     ·exact a3 hf
    ·have ha:=h b.e;simp only [rt] at ha;rw [ah (by omega),ag (by omega)] at ha;rcases first b5 with hf | hf
     ·exact hf (by rw [← ha,hg])
     ·exact b3 hf
   have xG:a = b:=by cases a;cases b;simp only at hp hg he;subst hp;subst hg;subst he;rfl
   subst xG;refine congrArg _ (ih a5 b5 fun q=>?_);have hq:=h q;simp only [rt] at hq;by_cases hc:a.p≤q∧q < a.e
   ·rw [rt_lo a5 hc.2,rt_lo b5 hc.2]
   ·rwa [ag hc,ag hc] at hq
def jy (l:List Rn) (r:Rn):List Rn :=
 if r.c < 1∨r.g = 0 then l else
 match l.getLast? with
 | none=>l ++ [r]
 | some x=>if x.e = r.p∧x.g = r.g then l.dropLast ++ [⟨x.p,x.c+r.c,x.g⟩] else l ++ [r]
theorem oq {l:List Rn} {r:Rn} (h:r.c < 1∨r.g = 0):jy l r = l:=ah h
theorem dF {r:Rn} (h:¬ (r.c < 1∨r.g = 0)):jy [] r = [r]:=by simp [jy,h]
theorem aO {l:List Rn} {x r:Rn} (h:¬ (r.c < 1∨r.g = 0)) (hx:x.e = r.p∧x.g = r.g):jy (l ++ [x]) r = l ++ [⟨x.p,x.c+r.c,x.g⟩]:=by unfold jy;rw [ag h];simp [hx]
theorem aP {l:List Rn} {x r:Rn} (h:¬ (r.c < 1∨r.g = 0)) (hx:¬ (x.e = r.p∧x.g = r.g)):jy (l ++ [x]) r = l ++ [x] ++ [r]:=by unfold jy;rw [ag h];simp only [List.getLast?_append,List.getLast?_singleton,Option.or_some,Option.some_or];rw [ag hx]
theorem lj {l:List Rn} {r:Rn} (h:Nm 0 0 l) (hr:(fin 0 0 l).1≤r.p) :
  Nm 0 0 (jy l r)∧(fin 0 0 (jy l r)).1 = (if r.c < 1∨r.g = 0 then (fin 0 0 l).1 else r.e)∧∀q,rt (jy l r) q = if r.p≤q∧q < r.e then r.g else rt l q:=by
 have er:r.e = r.p+r.c:=rfl;by_cases hc:r.c < 1∨r.g = 0
 ·rw [oq hc,ah hc];refine ⟨h,rfl,fun q=>?_⟩;by_cases hq:r.p≤q∧q < r.e
  ·rw [ah hq,rt_hi h (by omega)];omega
  ·rw [ag hq]
 ·rw [ag hc];rcases List.eq_nil_or_concat l with rfl | ⟨l',x,rfl⟩
  ·rw [dF hc];have hr':(0:Int)≤r.p:=hr;exact ⟨⟨hr',by omega,by omega,fun _=>by omega,trivial⟩,rfl,fun q=>rfl⟩
  ·rw [List.concat_eq_append] at h hr ⊢;rw [iq] at hr;have hx:=(mh _ _ _ _).1 h;have ex:x.e = x.p+x.c:=rfl;by_cases hj:x.e = r.p∧x.g = r.g
   ·rw [aO hc hj];have e2:(⟨x.p,x.c+r.c,x.g⟩:Rn).e = r.e:=(by show x.p+(x.c+r.c) = r.p+r.c;omega);have hn:Nm 0 0 (l' ++ [⟨x.p,x.c+r.c,x.g⟩]):=(mh _ _ _ _).2 ⟨hx.1,hx.2.1,by show 1≤x.c+r.c;omega,hx.2.2.2.1,hx.2.2.2.2⟩;refine ⟨hn,by rw [iq];exact e2,fun q=>?_⟩;rw [qd hn,qd h,e2];show (if x.p≤q∧q < r.e then x.g else rt l' q) = _;by_cases h1:r.p≤q∧q < r.e
    ·rw [ah h1,ah (by omega)];exact hj.2
    ·rw [ag h1];by_cases h2:x.p≤q∧q < x.e
     ·rw [ah h2,ah (by omega)]
     ·rw [ag h2,ag (by omega)]
   ·rw [aP hc hj];have hn:Nm 0 0 (l' ++ [x] ++ [r]):=(mh _ _ _ _).2 ⟨h,by rw [iq];exact hr,by omega,by omega,fun e=>by
     rw [iq] at e ⊢
     exact fun e3=>hj ⟨e.symm,e3.symm⟩⟩
    exact ⟨hn,by rw [iq],fun q=>qd hn q⟩
def jw (page count g:Int) (s:List Rn × Bool) (r:Rn):List Rn × Bool :=
 let l1:=jy s.1 ⟨r.p,min r.e page - r.p,r.g⟩
 let s2:List Rn × Bool:=if page < r.e then (if s.2 then l1 else jy l1 ⟨page,count,g⟩,true) else (l1,s.2)
 (jy s2.1 ⟨max r.p (page+count),r.e - max r.p (page+count),r.g⟩,s2.2)
def endL (page count g:Int) (s:List Rn × Bool):List Rn:=if s.2 then s.1 else jy s.1 ⟨page,count,g⟩
def withL (l:List Rn) (page count g:Int):List Rn:=endL page count g (l.foldl (jw page count g) ([],false))
structure Wth (page count g:Int) (old:List Rn) (s:List Rn × Bool):Prop where
 nm:Nm 0 0 s.1
 no:s.2 = false→(fin 0 0 old).1≤page∧(fin 0 0 s.1).1≤(fin 0 0 old).1∧∀q,rt s.1 q = rt old q
 yes:s.2 = true→page < (fin 0 0 old).1∧(fin 0 0 s.1).1≤max (fin 0 0 old).1 (page+count)∧∀q,rt s.1 q = if page≤q∧q < page+count then g else rt old q
theorem wth_step {page count g:Int} (h0:0≤page) (h1:1≤count) {old:List Rn} {s:List Rn × Bool} (hs:Wth page count g old s) {r:Rn} (hr:Nm 0 0 (old ++ [r])):Wth page count g (old ++ [r]) (jw page count g s r):=by
 obtain ⟨l,d⟩:=s;obtain ⟨wR,lR,vG⟩:=hs;have hx:=(mh _ _ _ _).1 hr;obtain ⟨ho,hp,hc,hg,hm⟩:=hx;have er:r.e = r.p+r.c:=rfl;have qS:=qd hr;have hf:(fin 0 0 (old ++ [r])).1 = r.e:=by rw [iq]
 have ho0:=uu ho;cases d with
 | true =>
  obtain ⟨y1,y2,y3⟩:=vG rfl;simp only at y1 y2 y3 wR;have e1:jy l ⟨r.p,min r.e page - r.p,r.g⟩ = l:=oq (.inl (by show min r.e page - r.p < 1;omega));have e2:jw page count g (l,true) r = (jy l ⟨max r.p (page+count),r.e - max r.p (page+count),r.g⟩,true):=by unfold jw;simp only [e1];rw [ah (by omega)];rfl
  rw [e2];obtain ⟨p1,p2,p3⟩:=lj (r:=⟨max r.p (page+count),r.e - max r.p (page+count),r.g⟩) wR (by show _≤max r.p (page+count);omega);refine ⟨p1,fun h=>by (cases h),fun _=>⟨by rw [hf];omega,?_,fun q=>?_⟩⟩
  ·rw [p2,hf];show (if (r.e - max r.p (page+count) < 1∨r.g = 0) then _ else max r.p (page+count)+(r.e - max r.p (page+count)))≤_;split <;> omega
  ·rw [p3,y3,qS];show (if max r.p (page+count)≤q∧q < max r.p (page+count)+(r.e - max r.p (page+count)) then r.g else _) = _;by_cases a1:page≤q∧q < page+count
   ·rw [ah a1,ah a1,ag (by omega)]
   ·rw [ag a1,ag a1];by_cases a2:r.p≤q∧q < r.e
    ·rw [ah a2,ah (by omega)]
    ·rw [ag a2,ag (by omega)]
 | false =>
  obtain ⟨n1,n2,n3⟩:=lR rfl;simp only at n1 n2 n3 wR;obtain ⟨p1,p2,p3⟩:=lj (r:=⟨r.p,min r.e page - r.p,r.g⟩) wR (by show _≤r.p;omega);have p2':(fin 0 0 (jy l ⟨r.p,min r.e page - r.p,r.g⟩)).1≤min page r.e:=by rw [p2];show (if (min r.e page - r.p < 1∨r.g = 0) then _ else r.p+(min r.e page - r.p))≤_;split <;> omega
  have p3':∀q,rt (jy l ⟨r.p,min r.e page - r.p,r.g⟩) q = if r.p≤q∧q < min r.e page then r.g else rt old q:=fun q=>by rw [p3,n3];show (if r.p≤q∧q < r.p+(min r.e page - r.p) then r.g else _) = _;have:r.p+(min r.e page - r.p) = min r.e page:=(by omega);rw [this]
  unfold jw;simp only;generalize jy l ⟨r.p,min r.e page - r.p,r.g⟩ = l1 at p1 p2' p3' ⊢;by_cases hb:page < r.e
  ·rw [ah hb];simp only [Bool.false_eq_true,if_false];obtain ⟨q1,q2,q3⟩:=lj (r:=⟨page,count,g⟩) p1 (by show _≤page;omega);have q2':(fin 0 0 (jy l1 ⟨page,count,g⟩)).1≤page+count:=by
    rw [q2];show (if (count < 1∨g = 0) then _ else page+count)≤_;split <;> omega
   have q3':∀q,rt (jy l1 ⟨page,count,g⟩) q = if page≤q∧q < page+count then g else rt l1 q:=q3
   generalize jy l1 ⟨page,count,g⟩ = l2 at q1 q2' q3' ⊢;obtain ⟨s1,s2,s3⟩:=lj (r:=⟨max r.p (page+count),r.e - max r.p (page+count),r.g⟩) q1 (by show _≤max r.p (page+count);omega);refine ⟨s1,fun h=>by (cases h),fun _=>⟨by rw [hf];omega,?_,fun q=>?_⟩⟩
   ·rw [s2,hf];show (if (r.e - max r.p (page+count) < 1∨r.g = 0) then _ else max r.p (page+count)+(r.e - max r.p (page+count)))≤_;split <;> omega
   ·rw [s3,q3',p3',qS];show (if max r.p (page+count)≤q∧q < max r.p (page+count)+(r.e - max r.p (page+count)) then r.g else _) = _;by_cases a1:page≤q∧q < page+count
    ·rw [ah a1,ah a1,ag (by omega)]
    ·rw [ag a1,ag a1];by_cases a2:r.p≤q∧q < r.e
     ·rw [ah a2];by_cases a3:page+count≤q
      ·rw [ah (by omega)]
      ·rw [ag (by omega),ah (by omega)]
     ·rw [ag a2,ag (by omega),ag (by omega)]
  ·rw [ag hb];have e3:jy l1 ⟨max r.p (page+count),r.e - max r.p (page+count),r.g⟩ = l1:=oq (.inl (by show r.e - max r.p (page+count) < 1;omega));simp only [e3];refine ⟨p1,fun _=>⟨by rw [hf];omega,by rw [hf];simp only;omega,fun q=>?_⟩,fun h=>by (cases h)⟩;simp only;rw [p3',qS];by_cases a2:r.p≤q∧q < r.e
   ·rw [ah a2,ah (by omega)]
   ·rw [ag a2,ag (by omega)]
theorem yz {page count g:Int} (h0:0≤page) (h1:1≤count):∀(l old:List Rn) (s:List Rn × Bool),Wth page count g old s→Nm 0 0 (old ++ l)→Wth page count g (old ++ l) (l.foldl (jw page count g) s)
 | [],old,s,hs,_=>by simpa using hs
 | r :: l,old,s,hs,hn=>by
  have e:old ++ r :: l = (old ++ [r]) ++ l:=by simp
  rw [e] at hn ⊢
  have h3:Nm 0 0 (old ++ [r]):=by
   have cut:∀(l m:List Rn) {lo g:Int},Nm lo g (l ++ m)→Nm lo g l:=fun l=>by
    induction l with
    | nil=>intro m lo g _;exact trivial
    | cons a l ih=>intro m lo g h;exact ⟨h.1,h.2.1,h.2.2.1,h.2.2.2.1,ih m h.2.2.2.2⟩
   exact cut _ _ hn
  exact yz h0 h1 l (old ++ [r]) _ (wth_step h0 h1 hs h3) hn
theorem with_spec {l:List Rn} {page count g:Int} (h:Nm 0 0 l) (h0:0≤page) (h1:1≤count) :
  Nm 0 0 (withL l page count g)∧∀q,rt (withL l page count g) q = if page≤q∧q < page+count then g else rt l q:=by
 have hw:=yz (g:=g) h0 h1 l [] ([],false) ⟨trivial,fun _=>⟨h0,Int.le_refl _,fun _=>rfl⟩,fun h=>by cases h⟩ (by simpa using h);rw [List.nil_append] at hw;unfold withL endL;generalize l.foldl (jw page count g) ([],false) = s at hw ⊢;obtain ⟨m,d⟩:=s;obtain ⟨wR,lR,vG⟩:=hw;cases d with
 | true =>
  obtain ⟨y1,y2,y3⟩:=vG rfl;exact ⟨wR,y3⟩
 | false =>
  obtain ⟨n1,n2,n3⟩:=lR rfl;obtain ⟨p1,p2,p3⟩:=lj (r:=⟨page,count,g⟩) wR (by show _≤page;omega);exact ⟨p1,fun q=>by rw [← n3];exact p3 q⟩
end Go.Proofs.YtfoleblcaloeoaaGreatDoor.Ar
namespace Go.Proofs.YtfoleblcaloeoaaGreatDoor.Ar
def ovl (page count:Int) (r:Rn):Int:=max 0 (min r.e (page+count) - max r.p page)
def cntL (l:List Rn) (page count:Int):Int:=(l.map (ovl page count)).sum
def qx (f:Int→Bool) (page:Int):Nat→Nat
 | 0=>0
 | n+1=>qx f page n+if f (page+n) then 1 else 0
theorem gX (f:Int→Bool) (page:Int) (n:Nat):qx f page n≤n:=by
 induction n with
 | zero=>exact Nat.le_refl _
 | succ n ih=>unfold qx;split <;> omega
theorem cntP_or {f g h:Int→Bool} (hf:∀q,h q = (f q || g q)) (hx:∀q,f q = true→g q = false) (page:Int) (n:Nat):qx h page n = qx f page n+qx g page n:=by
 induction n with
 | zero=>rfl
 | succ n ih =>
  unfold qx;rw [ih,hf];have:=hx (page+n);cases e:f (page+n)
  ·cases g (page+n) <;> simp <;> omega
  ·rw [this e];simp;omega
theorem cntP_in (a b page:Int) (n:Nat):(qx (fun q=>decide (a≤q∧q < b)) page n:Int) = max 0 (min b (page+n) - max a page):=by
 induction n with
 | zero=>simp [qx];omega
 | succ n ih =>
  unfold qx;by_cases h:a≤page+n∧page+n < b
  ·rw [ah (by simpa using h)];omega
  ·rw [ag (by simpa using h)];omega
theorem cntP_pos {f:Int→Bool} {page:Int} {n:Nat}:0 < qx f page n↔∃q,page≤q∧q < page+n∧f q = true:=by
 induction n with
 | zero=>exact ⟨fun h=>by simp [qx] at h,fun ⟨q,h1,h2,_⟩=>by simp at h2;omega⟩
 | succ n ih =>
  unfold qx;cases e:f (page+n)
  ·rw [ag (by simp),Nat.add_zero,ih];constructor
   ·rintro ⟨q,h1,h2,h3⟩;exact ⟨q,h1,by omega,h3⟩
   ·rintro ⟨q,h1,h2,h3⟩;refine ⟨q,h1,Classical.byContradiction fun h=>?_,h3⟩;obtain rfl:q = page+n:=(by omega);rw [e] at h3;cases h3
  ·rw [ah rfl];exact ⟨fun _=>⟨page+n,by omega,by omega,e⟩,fun _=>by omega⟩
theorem cntP_lt {f:Int→Bool} {page:Int} {n:Nat}:qx f page n < n↔∃q,page≤q∧q < page+n∧f q = false:=by
 induction n with
 | zero=>exact ⟨fun h=>by omega,fun ⟨q,h1,h2,_⟩=>by simp at h2;omega⟩
 | succ n ih =>
  unfold qx;cases e:f (page+n)
  ·rw [ag (by simp),Nat.add_zero];exact ⟨fun _=>⟨page+n,by omega,by omega,e⟩,fun _=>by have:=gX f page n;omega⟩
  ·rw [ah rfl];constructor
   ·intro h;obtain ⟨q,h1,h2,h3⟩:=ih.1 (by omega);exact ⟨q,h1,by omega,h3⟩
   ·rintro ⟨q,h1,h2,h3⟩;have:∃q,page≤q∧q < page+n∧f q = false:=by
     refine ⟨q,h1,Classical.byContradiction fun h=>?_,h3⟩;obtain rfl:q = page+n:=(by omega);rw [e] at h3;cases h3
    have:=ih.2 this;omega
theorem bC {lo g:Int} {l:List Rn} (h:Nm lo g l) (page:Int) (n:Nat):cntL l page n = (qx (fun q=>decide (rt l q≠0)) page n:Nat):=by
 induction l generalizing lo g with
 | nil =>
  have:qx (fun q=>decide (rt [] q≠0)) page n = 0:=by
   induction n with
   | zero=>rfl
   | succ n ih=>unfold qx;rw [ih];simp [rt]
  rw [this];rfl
 | cons a l ih =>
  obtain ⟨h1,h2,h3,h4,h5⟩:=h;have e:=cntP_or (f:=fun q=>decide (a.p≤q∧q < a.e)) (g:=fun q=>decide (rt l q≠0)) (h:=fun q=>decide (rt (a :: l) q≠0)) (fun q=>by
   show decide ((if a.p≤q∧q < a.e then a.g else rt l q)≠0) = _
   by_cases hq:a.p≤q∧q < a.e
   ·rw [ah hq];simp [h3,hq]
   ·rw [ag hq]
    have:decide (a.p≤q∧q < a.e) = false:=ac hq
    rw [this];simp) (fun q hq=>by
   have rB:a.p≤q∧q < a.e:=by simpa using hq
   have:=rt_lo h5 rB.2
   simp [this]) page n
  rw [e,Int.natCast_add,← ih h5,cntP_in];rfl
theorem cnt_pos {l:List Rn} (h:Nm 0 0 l) {page count:Int} (hc:0≤count):0 < cntL l page count↔∃q,page≤q∧q < page+count∧rt l q≠0:=by obtain ⟨n,rfl⟩:∃n:Nat,count = n:=⟨count.toNat,by omega⟩;rw [bC h];have:=cntP_pos (f:=fun q=>decide (rt l q≠0)) (page:=page) (n:=n);simp only [decide_eq_true_eq] at this;rw [← this];omega
theorem cnt_lt {l:List Rn} (h:Nm 0 0 l) {page count:Int} (hc:0≤count):cntL l page count < count↔∃q,page≤q∧q < page+count∧rt l q = 0:=by obtain ⟨n,rfl⟩:∃n:Nat,count = n:=⟨count.toNat,by omega⟩;rw [bC h];have:=cntP_lt (f:=fun q=>decide (rt l q≠0)) (page:=page) (n:=n);simp only [decide_eq_false_iff_not,Classical.not_not] at this;rw [← this];omega
theorem cnt_le {l:List Rn} (h:Nm 0 0 l) {page count:Int} (hc:0≤count):0≤cntL l page count∧cntL l page count≤count:=by obtain ⟨n,rfl⟩:∃n:Nat,count = n:=⟨count.toNat,by omega⟩;rw [bC h];have:=gX (fun q=>decide (rt l q≠0)) page n;omega
structure Sp (l:List Rn):Prop where
 nm:Nm 0 0 l
 hi:∀q,1024≤q→rt l q = 0
 g:∀q,0≤rt l q∧rt l q≤3
 len:l.length≤32
theorem Sp.nil:Sp []:=⟨trivial,fun _ _=>rfl,fun _=>by simp [rt],by simp⟩
theorem rt_mem {lo g:Int} {l:List Rn} (h:Nm lo g l) {r:Rn} (hr:r∈l) {q:Int} (h1:r.p≤q) (h2:q < r.e):rt l q = r.g:=by
 induction l generalizing lo g with
 | nil=>cases hr
 | cons a l ih =>
  obtain ⟨n1,n2,n3,n4,n5⟩:=h;unfold rt;rcases List.mem_cons.1 hr with rfl | hr
  ·rw [ah ⟨h1,h2⟩]
  ·have h3:=ih n5 hr;have vB:∀{lo g:Int} {l:List Rn},Nm lo g l→∀r∈l,lo≤r.p:=fun {lo g l}=>by
    induction l generalizing lo g with
    | nil=>intro _ r hr;cases hr
    | cons b l ih =>
     intro h r hr;obtain ⟨n1,n2,n3,n4,n5⟩:=h;have eb:b.e = b.p+b.c:=rfl;rcases List.mem_cons.1 hr with rfl | hr
     ·exact n1
     ·have:=ih n5 r hr;omega
   have:=vB n5 r hr;rw [ag (by omega)];exact h3
theorem fD {lo g:Int} {l:List Rn} (h:Nm lo g l) {r:Rn} (hr:r∈l):lo≤r.p∧1≤r.c∧r.g≠0:=by
 induction l generalizing lo g with
 | nil=>cases hr
 | cons a l ih =>
  obtain ⟨n1,n2,n3,n4,n5⟩:=h;have ea:a.e = a.p+a.c:=rfl;rcases List.mem_cons.1 hr with rfl | hr
  ·exact ⟨n1,n2,n3⟩
  ·have:=ih n5 hr;exact ⟨by omega,this.2⟩
theorem Sp.mem {l:List Rn} (h:Sp l) {r:Rn} (hr:r∈l):0≤r.p∧1≤r.c∧r.p+r.c≤1024∧1≤r.g∧r.g≤3:=by obtain ⟨h1,h2,h3⟩:=fD h.nm hr;have er:r.e = r.p+r.c:=rfl;have h4:=rt_mem h.nm hr (q:=r.p) (Int.le_refl _) (by omega);have h5:=rt_mem h.nm hr (q:=r.e - 1) (by omega) (by omega);have h6:=h.g r.p;refine ⟨h1,h2,Classical.byContradiction fun hn=>?_,by omega,by omega⟩;have:=h.hi (r.e - 1) (by omega);omega
def mayB (page count:Int):Bool:=decide (0≤page∧1≤count∧count≤1024∧page≤1024 - count)
def rgB (g:Int):Bool:=decide (1≤g∧g≤3)
def setE (m:List Rn):Int:=if 32 < m.length then 9 else 0
def setR (l m:List Rn):List Rn:=if 32 < m.length then l else m
def mapE (l:List Rn) (page count g:Int):Int :=
 if mayB page count = false∨rgB g = false then 2 else if 0 < cntL l page count then 8 else setE (withL l page count g)
def mapR (l:List Rn) (page count g:Int):List Rn :=
 if mayB page count = false∨rgB g = false then l else if 0 < cntL l page count then l else setR l (withL l page count g)
def unE (l:List Rn) (page count:Int):Int:=if mayB page count = false then 2 else setE (withL l page count 0)
def unR (l:List Rn) (page count:Int):List Rn:=if mayB page count = false then l else setR l (withL l page count 0)
def mdE (l:List Rn) (page count:Int):Int:=if mayB page count = false then 2 else if cntL l page count < count then 7 else 0
def prE (l:List Rn) (page count g:Int):Int:=if rgB g = false then 2 else if mdE l page count≠0 then mdE l page count else setE (withL l page count g)
def prR (l:List Rn) (page count g:Int):List Rn:=if rgB g = false then l else if mdE l page count≠0 then l else setR l (withL l page count g)
theorem Sp.with_ {l:List Rn} (h:Sp l) {page count g:Int} (hm:mayB page count = true) (hg:0≤g∧g≤3) (hl:(withL l page count g).length≤32):Sp (withL l page count g):=by
 have hm':0≤page∧1≤count∧count≤1024∧page≤1024 - count:=by simpa [mayB] using hm
 obtain ⟨w1,w2⟩:=with_spec (g:=g) h.nm hm'.1 hm'.2.1;refine ⟨w1,fun q hq=>?_,fun q=>?_,hl⟩
 ·rw [w2,ag (by omega)];exact h.hi q hq
 ·rw [w2];split
  ·exact hg
  ·exact h.g q
theorem Sp.set {l:List Rn} (h:Sp l) {page count g:Int} (hm:mayB page count = true) (hg:0≤g∧g≤3):Sp (setR l (withL l page count g)):=by
 unfold setR;split
 ·exact h
 ·exact h.with_ hm hg (by omega)
theorem Sp.map {l:List Rn} (h:Sp l) (page count g:Int):Sp (mapR l page count g):=by
 unfold mapR;split
 ·exact h
 ·rename_i hc;split
  ·exact h
  ·have hg:1≤g∧g≤3:=(by simpa [rgB] using fun e=>hc (.inr e));exact h.set (by simpa using fun e=>hc (.inl e)) (by omega)
theorem Sp.un {l:List Rn} (h:Sp l) (page count:Int):Sp (unR l page count):=by
 unfold unR;split
 ·exact h
 ·rename_i hc;exact h.set (by simpa using hc) (by omega)
theorem iF {l:List Rn} {page count:Int} (h:mdE l page count = 0):mayB page count = true:=by
 unfold mdE at h;split at h
 ·omega
 ·rename_i hc;simpa using hc
theorem Sp.pr {l:List Rn} (h:Sp l) (page count g:Int):Sp (prR l page count g):=by
 unfold prR;split
 ·exact h
 ·rename_i hc;split
  ·exact h
  ·rename_i hd;have hg:1≤g∧g≤3:=(by simpa [rgB] using hc);exact h.set (iF (Classical.not_not.1 hd)) (by omega)
end Go.Proofs.YtfoleblcaloeoaaGreatDoor.Ar
