/- Texts merged for the claim. -/
import Derived.Test.YtfoleblcaloeoaaGreatDoorZaa
set_option maxHeartbeats 40000000
set_option maxRecDepth 20000
namespace Go.Proofs.YtfoleblcaloeoaaGreatDoor
open Go
section
variable {P:Program} {ops:Array Oper}
def bb (a:Act):Option (Nat × Bool)→Bool
 | none=>true
 | some (t,b)=>match a.tmps[t]? with
  | some (.bool c)=>c == b
  | _=>false
def wpG (P:Program) (S:World→Prop) (Q:Exit→Act→World→Prop):List Oper→List Nat→List (Option (Nat × Bool))→Act→World→Prop
 | [],_,_,a,w=>Q .normal a w
 | o :: rest,ks,gs,a,w =>
  if bb a (gs.headD none) = true then
   if ks.headD 3 = 0 then ∃v,(∀w',(execOp a.eval o).run P w' = .ok (.value v) w')∧wpG P S Q rest ks.tail gs.tail (a.put o.dst v) w
   else if ks.headD 3 = 5 then S w∧∃v,(∀w',S w'→StillAt P o a.eval w' v)∧wpG P S Q rest ks.tail gs.tail (a.put o.dst v) w
   else if ks.headD 3 = 6 then S w∧o.wp P a w (fun a' w'=>S w'∧wpG P S Q rest ks.tail gs.tail a' w') NoQ
   else o.wp P a w (wpG P S Q rest ks.tail gs.tail) NoQ
  else wpG P S Q rest ks.tail gs.tail (a.put o.dst undef) w
def vh (ops:Array Oper) (o:Oper) (g:Option (Nat × Bool)):Bool :=
 match o.guard,g with
 | none,none=>true
 | some (j,b),some (t,c)=>b == c && (ops[j]?).bind (·.dst) == some t
 | _,_=>false
theorem aB {o:Oper} {g:Option (Nat × Bool)} (h:vh ops o g = true) (a:Act):Region.wanted o (yielded ops a.tmps) = bb a g:=by
 unfold vh at h
 unfold Region.wanted bb
 split at h
 ·rename_i h1;rw [h1]
 ·rename_i j b t c h1
  rw [h1]
  simp only [Bool.and_eq_true,beq_iff_eq] at h
  obtain ⟨rfl,h2⟩:=h
  simp only [yielded,h2,Option.bind_some]
  cases a.tmps[t]? with
  | none=>rfl
  | some v=>cases v <;> first | rfl|(simp;done)
 ·cases h
theorem fA {S:World→Prop} {Q:Exit→Act→World→Prop}:∀(l:List Oper) (ks:List Nat) (gs:List (Option (Nat × Bool))),(l.zip gs).length = l.length→((l.zip gs).all fun (o,g)=>vh ops o g) = true →
  wpG P S Q l ks gs = wpT P ops S Q l ks
 | [],_,_,_,_=>rfl
 | o :: l,ks,[],h,_=>by simp at h
 | o :: l,ks,g :: gs,h,hg=>by
  simp only [List.zip_cons_cons,List.all_cons,Bool.and_eq_true,List.length_cons] at h hg
  have ih:=fA (S:=S) (Q:=Q) l ks.tail gs (by omega) hg.2
  funext a w
  simp only [wpG,wpT,List.headD_cons,List.tail_cons,aB hg.1 a,ih]
def dt {α:Type} (l:List α) (L:List Nat):List α:=L.filterMap fun i=>l[i]?
def pn (l:List Oper) (ks:List Nat) (gs:List (Option (Nat × Bool))):Bool :=
 ks.length == l.length && gs.length == l.length && (l.zip gs).all fun (o,g)=>vh l.toArray o g
theorem np {α:Type} {l:List α} {L:List Nat} (hL:∀i∈L,i < l.length):L.map (fun i=>l[i]?) = (dt l L).map some:=by
 unfold dt
 induction L with
 | nil=>rfl
 | cons i L ih =>
  have hi:=hL i (List.mem_cons_self ..)
  rw [List.filterMap_cons,List.getElem?_eq_getElem hi,List.map_cons,List.map_cons,ih (fun j hj=>hL j (List.mem_cons_of_mem _ hj))]
  simp [hi]
theorem te {α β:Type} {l:List α} {m:List β} {L:List Nat} (hL:∀i∈L,i < l.length) (hm:m.length = l.length):(dt l L).zip (dt m L) = dt (l.zip m) L:=by
 unfold dt
 induction L with
 | nil=>rfl
 | cons i L ih =>
  have hi:=hL i (List.mem_cons_self ..)
  have hz:i < (l.zip m).length:=by rw [List.length_zip];omega
  simp only [List.filterMap_cons,List.getElem?_eq_getElem hi,List.getElem?_eq_getElem (show i < m.length by omega),List.getElem?_eq_getElem hz,List.zip_cons_cons,List.getElem_zip]
  rw [ih (fun j hj=>hL j (List.mem_cons_of_mem _ hj))]
theorem bY {α:Type} {l:List α} {L:List Nat} {x:α} (h:x∈dt l L):x∈l:=by
 obtain ⟨i,_,hi⟩:=List.mem_filterMap.1 h
 exact List.mem_of_getElem? hi
theorem mr {α:Type} {l:List α} {L:List Nat} (hL:∀i∈L,i < l.length):(dt l L).length = L.length:=by
 have:=congrArg List.length (np hL)
 simpa using this.symm
theorem ku {id:Nat} {l:List Oper} {Q:Exit→Act→World→Prop} {a:Act} {w:World} (ks:List Nat) (gs:List (Option (Nat × Bool))) (Ls:List (List Nat)) (S:World→Prop) (hm:P.follows .mixedOrders = true)
  (hB:jt l ks.toArray Ls = true) (hR:pn l ks gs = true) (CS:(Ls.all fun L=>L.all fun i=>decide (i < l.length)) = true)
  (h:∀L∈Ls,wpG P S Q (dt l L) (dt ks L) (dt gs L) a w.drew):(Code.region id l.toArray true).wp P Q a w:=by
 simp only [pn,Bool.and_eq_true,beq_iff_eq] at hR
 obtain ⟨⟨hk,hg⟩,hgd⟩:=hR
 refine ul ks Ls S hm hB fun L hL=>?_
 have wF:∀i∈L,i < l.length:=fun i hi=>by simpa using List.all_eq_true.1 (List.all_eq_true.1 CS L hL) i hi
 have h1:=h L hL
 rw [fA (ops:=l.toArray) _ _ _ (by rw [te wF (by omega),mr (by intro i hi;rw [List.length_zip];have:=wF i hi;omega),mr wF]) (by
  rw [te wF (by omega)]
  exact List.all_eq_true.2 fun x hx=>List.all_eq_true.1 hgd x (bY hx))] at h1
 refine wpR_of (dt l L) (dt ks L) (by simpa using np wF) ?_ h1
 have e:=np (l:=ks) (L:=L) (by intro i hi;have:=wF i hi;omega)
 have e2:L.map (fun i=>ks.toArray.getD i 3) = (L.map fun i=>ks[i]?).map (·.getD 3):=by simp [Array.getD_eq_getD_getElem?]
 rw [e2,e]
 simp [Function.comp_def]
theorem so {α:Type} (l:List α):dt l (List.range l.length) = l:=by
 have:=np (l:=l) (L:=List.range l.length) (fun i hi=>by simpa using hi)
 have e:(List.range l.length).map (fun i=>l[i]?) = l.map some:=by
  refine List.ext_getElem? fun i=>?_
  rcases Nat.lt_or_ge i l.length with jF | qE
  ·simp [jF]
  ·simp [Nat.not_lt.2 qE]
 rw [e] at this
 have h2:=congrArg (List.filterMap id) this
 simpa using h2.symm
theorem ep {id:Nat} {l:List Oper} {Q:Exit→Act→World→Prop} {a:Act} {w:World} (ks:List Nat) (gs:List (Option (Nat × Bool))) (S:World→Prop) (hm:P.follows .mixedOrders = true)
  (hB:jt l ks.toArray [List.range l.length] = true) (hR:pn l ks gs = true) (h:wpG P S Q l ks gs a w.drew):(Code.region id l.toArray true).wp P Q a w:=by
 have AY:=hR
 simp only [pn,Bool.and_eq_true,beq_iff_eq] at AY
 refine ku ks gs [List.range l.length] S hm hB hR (by simp) fun L hL=>?_
 obtain rfl:L = List.range l.length:=by simpa using hL
 have e1:=so ks
 have e2:=so gs
 rw [AY.1.1] at e1
 rw [AY.1.2] at e2
 rw [so l,e1,e2]
 exact h
theorem rgt {id:Nat} {l:List Oper} {Q:Exit→Act→World→Prop} {a:Act} {w:World} (ks:List Nat) (gs:List (Option (Nat × Bool))) (S:World→Prop) (h:wpG P S Q l ks gs a w.drew) (hm:P.follows .mixedOrders = true:=by kernel_rfl)
  (hB:jt l ks.toArray [List.range l.length] = true:=by kernel_rfl) (hR:pn l ks gs = true:=by kernel_rfl):(Code.region id l.toArray true).wp P Q a w:=ep ks gs S hm hB hR h
theorem uh {id:Nat} {l:List Oper} {Q:Exit→Act→World→Prop} {a:Act} {w:World} (ks:List Nat) (h:wpG P (fun _=>True) Q l ks [none,none,none,none,none,none] a w.drew) (hm:P.follows .mixedOrders = true:=by kernel_rfl)
  (hB:jt l ks.toArray [List.range l.length] = true:=by kernel_rfl) (hR:pn l ks [none,none,none,none,none,none] = true:=by kernel_rfl):(Code.region id l.toArray true).wp P Q a w:=ep ks [none,none,none,none,none,none] (fun _=>True) hm hB hR h
theorem rgn7 {id:Nat} {l:List Oper} {Q:Exit→Act→World→Prop} {a:Act} {w:World} (ks:List Nat) (h:wpG P (fun _=>True) Q l ks [none,none,none,none,none,none,none] a w.drew) (hm:P.follows .mixedOrders = true:=by kernel_rfl)
  (hB:jt l ks.toArray [List.range l.length] = true:=by kernel_rfl) (hR:pn l ks [none,none,none,none,none,none,none] = true:=by kernel_rfl):(Code.region id l.toArray true).wp P Q a w:=ep ks [none,none,none,none,none,none,none] (fun _=>True) hm hB hR h
theorem im {id:Nat} {l:List Oper} {Q:Exit→Act→World→Prop} {a:Act} {w:World} (ks:List Nat) (h:wpG P (fun _=>True) Q l ks [none,none,none,none,none,none,none,none,none,none] a w.drew) (hm:P.follows .mixedOrders = true:=by kernel_rfl)
  (hB:jt l ks.toArray [List.range l.length] = true:=by kernel_rfl) (hR:pn l ks [none,none,none,none,none,none,none,none,none,none] = true:=by kernel_rfl):(Code.region id l.toArray true).wp P Q a w:=ep ks [none,none,none,none,none,none,none,none,none,none] (fun _=>True) hm hB hR h
theorem ke {id:Nat} {l:List Oper} {Q:Exit→Act→World→Prop} {a:Act} {w:World} (ks:List Nat) (h:wpG P (fun _=>True) Q l ks [none,none,none,none,none,none,none,none,none,none,none] a w.drew) (hm:P.follows .mixedOrders = true:=by kernel_rfl)
  (hB:jt l ks.toArray [List.range l.length] = true:=by kernel_rfl) (hR:pn l ks [none,none,none,none,none,none,none,none,none,none,none] = true:=by kernel_rfl):(Code.region id l.toArray true).wp P Q a w:=ep ks [none,none,none,none,none,none,none,none,none,none,none] (fun _=>True) hm hB hR h
theorem dq {id:Nat} {l:List Oper} {Q:Exit→Act→World→Prop} {a:Act} {w:World} (ks:List Nat) (h:wpG P (fun _=>True) Q l ks [none,none,none,none,none,none,none,none,none,none,none,none] a w.drew) (hm:P.follows .mixedOrders = true:=by kernel_rfl)
  (hB:jt l ks.toArray [List.range l.length] = true:=by kernel_rfl) (hR:pn l ks [none,none,none,none,none,none,none,none,none,none,none,none] = true:=by kernel_rfl):(Code.region id l.toArray true).wp P Q a w:=ep ks [none,none,none,none,none,none,none,none,none,none,none,none] (fun _=>True) hm hB hR h
section
variable {S:World→Prop} {Q:Exit→Act→World→Prop} {o:Oper} {rest:List Oper} {k:Nat} {ks:List Nat} {gs:List (Option (Nat × Bool))} {a:Act} {w:World}
theorem aj (h:Q .normal a w):wpG P S Q [] ks gs a w:=h
theorem ay {t:Nat} {b:Bool} (hv:bb a (some (t,b)) = false) (h:wpG P S Q rest ks gs (a.put o.dst undef) w):wpG P S Q (o :: rest) (k :: ks) (some (t,b) :: gs) a w:=by
 unfold wpG
 rw [if_neg (by simp [hv])]
 exact h
theorem bh {t:Nat} {b:Bool} (hv:bb a (some (t,b)) = true) (h:wpG P S Q (o :: rest) (k :: ks) (none :: gs) a w):wpG P S Q (o :: rest) (k :: ks) (some (t,b) :: gs) a w:=by
 unfold wpG at h ⊢
 rw [if_pos (by simpa using hv)]
 rw [if_pos (show bb a ((none :: gs).headD none) = true from rfl)] at h
 exact h
theorem ai (h:∀K:Act→World→Prop,(∀a w,wpG P S Q rest ks gs a w→K a w)→∃v,(∀w',(execOp a.eval o).run P w' = .ok (.value v) w')∧K (a.put o.dst v) w):wpG P S Q (o :: rest) (0 :: ks) (none :: gs) a w:=by
 have:=h _ (fun _ _ h=>h)
 unfold wpG
 rw [if_pos (show bb a ((none :: gs).headD none) = true from rfl)]
 simpa using this
theorem wpG_calc (hp:vk o a.eval = true) (h:∀K:Act→World→Prop,(∀a w,wpG P S Q rest ks gs a w→K a w)→o.wp P a w K NoQ):wpG P S Q (o :: rest) (0 :: ks) (none :: gs) a w:=by
 have:=eF hp (h _ (fun _ _ h=>h))
 unfold wpG
 rw [if_pos (show bb a ((none :: gs).headD none) = true from rfl)]
 simpa using this
theorem wpG_deed (hk:k≠0∧k≠5∧k≠6) (h:∀K:Act→World→Prop,(∀a w,wpG P S Q rest ks gs a w→K a w)→o.wp P a w K NoQ):wpG P S Q (o :: rest) (k :: ks) (none :: gs) a w:=by
 have:=h _ (fun _ _ h=>h)
 unfold wpG
 rw [if_pos (show bb a ((none :: gs).headD none) = true from rfl)]
 simpa [hk] using this
theorem dC (hS:S w) (v:Value) (hv:∀w',S w'→StillAt P o a.eval w' v) (h:wpG P S Q rest ks gs (a.put o.dst v) w):wpG P S Q (o :: rest) (5 :: ks) (none :: gs) a w:=by
 unfold wpG
 rw [if_pos (show bb a ((none :: gs).headD none) = true from rfl)]
 simp only [List.headD_cons,List.tail_cons]
 exact ⟨hS,v,hv,h⟩
theorem aw (hS:S w) (h:∀K:Act→World→Prop,(∀a w,S w→wpG P S Q rest ks gs a w→K a w)→o.wp P a w K NoQ):wpG P S Q (o :: rest) (6 :: ks) (none :: gs) a w:=by
 unfold wpG
 rw [if_pos (show bb a ((none :: gs).headD none) = true from rfl)]
 simp only [List.headD_cons,List.tail_cons]
 exact ⟨hS,h _ fun _ _ s t=>⟨s,t⟩⟩
theorem al (t:TypeId) (x:Operand) (ho:o.op = .load t x) {ad:Addr} (hx:a.eval x = .pointer (some ad)) {v:Value} (hv:∀w',S w'→(loadVar t ad).run P w' = .ok v w') (hS:S w) (h:wpG P S Q rest ks gs (a.put o.dst v) w) :
  wpG P S Q (o :: rest) (5 :: ks) (none :: gs) a w:=by
 refine dC hS v (fun w' J=>?_) h
 unfold StillAt execOp
 simp [ho,hx,Instr.loadAt,Instr.sureAddr,hv w' J]
end
theorem fz {w:World} {t e:TypeId} {ad:Addr} {v:Value} (ht:P.underlying t = some (.slice e)) (h:w.cell? ad = some v):(loadVar t ad).run P w = .ok v w:=by
 simp [loadVar,isAgg,run_underlying ht,load,Sem.run,h]
theorem cr {w:World} {t:TypeId} {k:IntKind} {ad:Addr} {v:Value} (ht:P.underlying t = some (.int k)) (h:w.cell? ad = some v):(loadVar t ad).run P w = .ok v w:=by
 simp [loadVar,isAgg,run_underlying ht,load,Sem.run,h]end
attribute [irreducible] wpG
section
variable {P:Program} {S:World→Prop} {Q:Exit→Act→World→Prop} {o:Oper} {rest:List Oper} {k:Nat} {ks:List Nat} {gs:List (Option (Nat × Bool))} {a:Act} {w:World}
theorem av (h:∀K:Act→World→Prop,(∀a w,wpG P S Q rest ks gs a w→K a w)→o.wp P a w K NoQ) (hp:vk o a.eval = true:=by exact rfl):wpG P S Q (o :: rest) (0 :: ks) (none :: gs) a w:=wpG_calc hp h
theorem ao (h:∀K:Act→World→Prop,(∀a w,wpG P S Q rest ks gs a w→K a w)→o.wp P a w K NoQ) (hk:k≠0∧k≠5∧k≠6:=by decide):wpG P S Q (o :: rest) (k :: ks) (none :: gs) a w:=wpG_deed hk h
end
end Go.Proofs.YtfoleblcaloeoaaGreatDoor
namespace Go.Proofs.YtfoleblcaloeoaaGreatDoor.Ar
structure Rn where
 p:Int
 c:Int
 g:Int
deriving DecidableEq
abbrev Rn.e (r:Rn):Int:=r.p+r.c
def rt:List Rn→Int→Int
 | [],_=>0
 | r :: l,q=>if r.p≤q∧q < r.e then r.g else rt l q
def Nm (lo g:Int):List Rn→Prop
 | []=>True
 | r :: l=>lo≤r.p∧1≤r.c∧r.g≠0∧(r.p = lo→r.g≠g)∧Nm r.e r.g l
def fin (lo g:Int):List Rn→Int × Int
 | []=>(lo,g)
 | r :: l=>fin r.e r.g l
theorem gg (lo g:Int) (l:List Rn) (r:Rn):fin lo g (l ++ [r]) = (r.e,r.g):=by
 induction l generalizing lo g with
 | nil=>rfl
 | cons a l ih=>exact ih _ _
theorem lh (lo g:Int) (l:List Rn) (r:Rn):Nm lo g (l ++ [r])↔Nm lo g l∧(fin lo g l).1≤r.p∧1≤r.c∧r.g≠0∧(r.p = (fin lo g l).1→r.g≠(fin lo g l).2):=by
 induction l generalizing lo g with
 | nil=>simp [Nm,fin]
 | cons a l ih =>
  simp only [List.cons_append,Nm,ih,fin]
  constructor
  ·rintro ⟨h1,h2,h3,h4,h5,h6⟩;exact ⟨⟨h1,h2,h3,h4,h5⟩,h6⟩
  ·rintro ⟨⟨h1,h2,h3,h4,h5⟩,h6⟩;exact ⟨h1,h2,h3,h4,h5,h6⟩
theorem tz {lo g:Int} {l:List Rn} (h:Nm lo g l):lo≤(fin lo g l).1:=by
 induction l generalizing lo g with
 | nil=>exact Int.le_refl _
 | cons a l ih =>
  obtain ⟨h1,h2,h3,h4,h5⟩:=h
  have h6:=ih h5
  have e:a.e = a.p+a.c:=rfl
  show lo≤(fin a.e a.g l).1
  rw [e] at h6 ⊢
  omega
theorem rt_lo {lo g:Int} {l:List Rn} (h:Nm lo g l) {q:Int} (hq:q < lo):rt l q = 0:=by
 induction l generalizing lo g with
 | nil=>rfl
 | cons a l ih =>
  obtain ⟨h1,h2,h3,h4,h5⟩:=h
  unfold rt
  rw [if_neg (by omega)]
  exact ih h5 (by have e:a.e = a.p+a.c:=rfl;omega)
theorem rt_hi {lo g:Int} {l:List Rn} (h:Nm lo g l) {q:Int} (hq:(fin lo g l).1≤q):rt l q = 0:=by
 induction l generalizing lo g with
 | nil=>rfl
 | cons a l ih =>
  obtain ⟨h1,h2,h3,h4,h5⟩:=h
  have h6:=tz h5
  have h7:(fin a.e a.g l).1≤q:=hq
  unfold rt
  rw [if_neg (by omega)]
  exact ih h5 hq
theorem ot {lo g:Int} {l:List Rn} {r:Rn} (h:Nm lo g (l ++ [r])) (q:Int):rt (l ++ [r]) q = if r.p≤q∧q < r.e then r.g else rt l q:=by
 induction l generalizing lo g with
 | nil=>rfl
 | cons a l ih =>
  obtain ⟨h1,h2,h3,h4,h5⟩:=h
  have h6:=((lh _ _ _ _).1 h5)
  have h7:=tz h6.1
  have e:a.e = a.p+a.c:=rfl
  show (if a.p≤q∧q < a.e then a.g else rt (l ++ [r]) q) = if r.p≤q∧q < r.e then r.g else (if a.p≤q∧q < a.e then a.g else rt l q)
  rw [ih h5]
  by_cases hr:r.p≤q∧q < r.e
  ·rw [if_pos hr,if_pos hr,if_neg (by omega)]
  ·rw [if_neg hr,if_neg hr]
theorem nm_ext {lo g:Int} {l m:List Rn} (hl:Nm lo g l) (hm:Nm lo g m) (h:∀q,rt l q = rt m q):l = m:=by
 induction l generalizing lo g m with
 | nil =>
  cases m with
  | nil=>rfl
  | cons b m =>
   obtain ⟨h1,h2,h3,h4,h5⟩:=hm
   have:=h b.p
   simp only [rt] at this
   rw [if_pos ⟨Int.le_refl _,by have e:b.e = b.p+b.c:=rfl;omega⟩] at this
   exact absurd this.symm h3
 | cons a l ih =>
  cases m with
  | nil =>
   obtain ⟨h1,h2,h3,h4,h5⟩:=hl
   have:=h a.p
   simp only [rt] at this
   rw [if_pos ⟨Int.le_refl _,by have e:a.e = a.p+a.c:=rfl;omega⟩] at this
   exact absurd this h3
  | cons b m =>
   obtain ⟨a1,a2,a3,a4,a5⟩:=hl
   obtain ⟨b1,b2,b3,b4,b5⟩:=hm
   have ea:a.e = a.p+a.c:=rfl
   have eb:b.e = b.p+b.c:=rfl
   have hp:a.p = b.p:=by
    have ha:=h a.p
    have hb:=h b.p
    simp only [rt] at ha hb
    rw [if_pos (by omega)] at ha
    rw [if_pos (c:=b.p≤b.p∧b.p < b.e) (by omega)] at hb
    refine Classical.byContradiction fun jO=>?_
    by_cases jF:a.p < b.p
    ·rw [if_neg (by omega),rt_lo b5 (by omega)] at ha
     exact a3 ha
    ·rw [if_neg (by omega),rt_lo a5 (by omega)] at hb
     exact b3 hb.symm
   have hg:a.g = b.g:=by
    have ha:=h a.p
    simp only [rt] at ha
    rw [if_pos (by omega),if_pos (by omega)] at ha
    exact ha
   have first:∀{lo g:Int} {l:List Rn},Nm lo g l→rt l lo≠g∨g = 0:=fun {lo g l} hn=>by
    cases l with
    | nil =>
     by_cases e:g = 0
     ·exact .inr e
     ·exact .inl fun h=>e h.symm
    | cons c l =>
     obtain ⟨c1,c2,c3,c4,c5⟩:=hn
     have ec:c.e = c.p+c.c:=rfl
     by_cases e:c.p = lo
     ·refine .inl ?_
      simp only [rt]
      rw [if_pos (by omega)]
      exact c4 e
     ·by_cases e2:g = 0
      ·exact .inr e2
      ·refine .inl ?_
       simp only [rt]
       rw [if_neg (by omega),rt_lo c5 (by omega)]
       exact fun h=>e2 h.symm
   have he:a.c = b.c:=by
    refine Classical.byContradiction fun jO=>?_
    by_cases jF:a.e < b.e
    ·have ha:=h a.e
     simp only [rt] at ha
     rw [if_neg (by omega),if_pos (by omega)] at ha
     rcases first a5 with hf | hf
     ·exact hf (by rw [ha,hg])
     ·exact a3 hf
    ·have ha:=h b.e
     simp only [rt] at ha
     rw [if_pos (by omega),if_neg (by omega)] at ha
     rcases first b5 with hf | hf
     ·exact hf (by rw [← ha,hg])
     ·exact b3 hf
   have hab:a = b:=by
    cases a;cases b
    simp only at hp hg he
    subst hp;subst hg;subst he
    rfl
   subst hab
   refine congrArg _ (ih a5 b5 fun q=>?_)
   have hq:=h q
   simp only [rt] at hq
   by_cases hc:a.p≤q∧q < a.e
   ·rw [rt_lo a5 hc.2,rt_lo b5 hc.2]
   ·rwa [if_neg hc,if_neg hc] at hq
def ji (l:List Rn) (r:Rn):List Rn :=
 if r.c < 1∨r.g = 0 then l else
 match l.getLast? with
 | none=>l ++ [r]
 | some x=>if x.e = r.p∧x.g = r.g then l.dropLast ++ [⟨x.p,x.c+r.c,x.g⟩] else l ++ [r]
theorem nq {l:List Rn} {r:Rn} (h:r.c < 1∨r.g = 0):ji l r = l:=if_pos h
theorem bZ {r:Rn} (h:¬ (r.c < 1∨r.g = 0)):ji [] r = [r]:=by simp [ji,h]
theorem zi {l:List Rn} {x r:Rn} (h:¬ (r.c < 1∨r.g = 0)) (hx:x.e = r.p∧x.g = r.g):ji (l ++ [x]) r = l ++ [⟨x.p,x.c+r.c,x.g⟩]:=by
 unfold ji
 rw [if_neg h]
 simp [hx]
theorem zj {l:List Rn} {x r:Rn} (h:¬ (r.c < 1∨r.g = 0)) (hx:¬ (x.e = r.p∧x.g = r.g)):ji (l ++ [x]) r = l ++ [x] ++ [r]:=by
 unfold ji
 rw [if_neg h]
 simp only [List.getLast?_append,List.getLast?_singleton,Option.or_some,Option.some_or]
 rw [if_neg hx]
theorem kk {l:List Rn} {r:Rn} (h:Nm 0 0 l) (hr:(fin 0 0 l).1≤r.p) :
  Nm 0 0 (ji l r)∧(fin 0 0 (ji l r)).1 = (if r.c < 1∨r.g = 0 then (fin 0 0 l).1 else r.e)∧∀q,rt (ji l r) q = if r.p≤q∧q < r.e then r.g else rt l q:=by
 have er:r.e = r.p+r.c:=rfl
 by_cases hc:r.c < 1∨r.g = 0
 ·rw [nq hc,if_pos hc]
  refine ⟨h,rfl,fun q=>?_⟩
  by_cases hq:r.p≤q∧q < r.e
  ·rw [if_pos hq,rt_hi h (by omega)]
   omega
  ·rw [if_neg hq]
 ·rw [if_neg hc]
  rcases List.eq_nil_or_concat l with rfl | ⟨l',x,rfl⟩
  ·rw [bZ hc]
   have hr':(0:Int)≤r.p:=hr
   exact ⟨⟨hr',by omega,by omega,fun _=>by omega,trivial⟩,rfl,fun q=>rfl⟩
  ·rw [List.concat_eq_append] at h hr ⊢
   rw [gg] at hr
   have hx:=(lh _ _ _ _).1 h
   have ex:x.e = x.p+x.c:=rfl
   by_cases hj:x.e = r.p∧x.g = r.g
   ·rw [zi hc hj]
    have e2:(⟨x.p,x.c+r.c,x.g⟩:Rn).e = r.e:=by show x.p+(x.c+r.c) = r.p+r.c;omega
    have hn:Nm 0 0 (l' ++ [⟨x.p,x.c+r.c,x.g⟩]):=(lh _ _ _ _).2 ⟨hx.1,hx.2.1,by show 1≤x.c+r.c;omega,hx.2.2.2.1,hx.2.2.2.2⟩
    refine ⟨hn,by rw [gg];exact e2,fun q=>?_⟩
    rw [ot hn,ot h,e2]
    show (if x.p≤q∧q < r.e then x.g else rt l' q) = _
    by_cases h1:r.p≤q∧q < r.e
    ·rw [if_pos h1,if_pos (by omega)];exact hj.2
    ·rw [if_neg h1]
     by_cases h2:x.p≤q∧q < x.e
     ·rw [if_pos h2,if_pos (by omega)]
     ·rw [if_neg h2,if_neg (by omega)]
   ·rw [zj hc hj]
    have hn:Nm 0 0 (l' ++ [x] ++ [r]):=(lh _ _ _ _).2 ⟨h,by rw [gg];exact hr,by omega,by omega,fun e=>by
     rw [gg] at e ⊢
     exact fun e3=>hj ⟨e.symm,e3.symm⟩⟩
    exact ⟨hn,by rw [gg],fun q=>ot hn q⟩
def jg (page count g:Int) (s:List Rn × Bool) (r:Rn):List Rn × Bool :=
 let l1:=ji s.1 ⟨r.p,min r.e page - r.p,r.g⟩
 let s2:List Rn × Bool:=if page < r.e then (if s.2 then l1 else ji l1 ⟨page,count,g⟩,true) else (l1,s.2)
 (ji s2.1 ⟨max r.p (page+count),r.e - max r.p (page+count),r.g⟩,s2.2)
def endL (page count g:Int) (s:List Rn × Bool):List Rn:=if s.2 then s.1 else ji s.1 ⟨page,count,g⟩
def withL (l:List Rn) (page count g:Int):List Rn:=endL page count g (l.foldl (jg page count g) ([],false))
structure Wth (page count g:Int) (old:List Rn) (s:List Rn × Bool):Prop where
 nm:Nm 0 0 s.1
 no:s.2 = false→(fin 0 0 old).1≤page∧(fin 0 0 s.1).1≤(fin 0 0 old).1∧∀q,rt s.1 q = rt old q
 yes:s.2 = true→page < (fin 0 0 old).1∧(fin 0 0 s.1).1≤max (fin 0 0 old).1 (page+count)∧∀q,rt s.1 q = if page≤q∧q < page+count then g else rt old q
theorem wth_step {page count g:Int} (h0:0≤page) (h1:1≤count) {old:List Rn} {s:List Rn × Bool} (hs:Wth page count g old s) {r:Rn} (hr:Nm 0 0 (old ++ [r])):Wth page count g (old ++ [r]) (jg page count g s r):=by
 obtain ⟨l,d⟩:=s
 obtain ⟨uS,jZ,tL⟩:=hs
 have hx:=(lh _ _ _ _).1 hr
 obtain ⟨ho,hp,hc,hg,hm⟩:=hx
 have er:r.e = r.p+r.c:=rfl
 have sB:=ot hr
 have hf:(fin 0 0 (old ++ [r])).1 = r.e:=by rw [gg]
 have ho0:=tz ho
 cases d with
 | true =>
  obtain ⟨y1,y2,y3⟩:=tL rfl
  simp only at y1 y2 y3 uS
  have e1:ji l ⟨r.p,min r.e page - r.p,r.g⟩ = l:=nq (.inl (by show min r.e page - r.p < 1;omega))
  have e2:jg page count g (l,true) r = (ji l ⟨max r.p (page+count),r.e - max r.p (page+count),r.g⟩,true):=by
   unfold jg
   simp only [e1]
   rw [if_pos (by omega)]
   rfl
  rw [e2]
  obtain ⟨p1,p2,p3⟩:=kk (r:=⟨max r.p (page+count),r.e - max r.p (page+count),r.g⟩) uS (by show _≤max r.p (page+count);omega)
  refine ⟨p1,fun h=>by (cases h),fun _=>⟨by rw [hf];omega,?_,fun q=>?_⟩⟩
  ·rw [p2,hf]
   show (if (r.e - max r.p (page+count) < 1∨r.g = 0) then _ else max r.p (page+count)+(r.e - max r.p (page+count)))≤_
   split <;> omega
  ·rw [p3,y3,sB]
   show (if max r.p (page+count)≤q∧q < max r.p (page+count)+(r.e - max r.p (page+count)) then r.g else _) = _
   by_cases a1:page≤q∧q < page+count
   ·rw [if_pos a1,if_pos a1,if_neg (by omega)]
   ·rw [if_neg a1,if_neg a1]
    by_cases a2:r.p≤q∧q < r.e
    ·rw [if_pos a2,if_pos (by omega)]
    ·rw [if_neg a2,if_neg (by omega)]
 | false =>
  obtain ⟨n1,n2,n3⟩:=jZ rfl
  simp only at n1 n2 n3 uS
  obtain ⟨p1,p2,p3⟩:=kk (r:=⟨r.p,min r.e page - r.p,r.g⟩) uS (by show _≤r.p;omega)
  have p2':(fin 0 0 (ji l ⟨r.p,min r.e page - r.p,r.g⟩)).1≤min page r.e:=by
   rw [p2]
   show (if (min r.e page - r.p < 1∨r.g = 0) then _ else r.p+(min r.e page - r.p))≤_
   split <;> omega
  have p3':∀q,rt (ji l ⟨r.p,min r.e page - r.p,r.g⟩) q = if r.p≤q∧q < min r.e page then r.g else rt old q:=fun q=>by
   rw [p3,n3]
   show (if r.p≤q∧q < r.p+(min r.e page - r.p) then r.g else _) = _
   have:r.p+(min r.e page - r.p) = min r.e page:=by omega
   rw [this]
  unfold jg
  simp only
  generalize ji l ⟨r.p,min r.e page - r.p,r.g⟩ = l1 at p1 p2' p3' ⊢
  by_cases hb:page < r.e
  ·rw [if_pos hb]
   simp only [Bool.false_eq_true,if_false]
   obtain ⟨q1,q2,q3⟩:=kk (r:=⟨page,count,g⟩) p1 (by show _≤page;omega)
   have q2':(fin 0 0 (ji l1 ⟨page,count,g⟩)).1≤page+count:=by
    rw [q2]
    show (if (count < 1∨g = 0) then _ else page+count)≤_
    split <;> omega
   have q3':∀q,rt (ji l1 ⟨page,count,g⟩) q = if page≤q∧q < page+count then g else rt l1 q:=q3
   generalize ji l1 ⟨page,count,g⟩ = l2 at q1 q2' q3' ⊢
   obtain ⟨s1,s2,s3⟩:=kk (r:=⟨max r.p (page+count),r.e - max r.p (page+count),r.g⟩) q1 (by show _≤max r.p (page+count);omega)
   refine ⟨s1,fun h=>by (cases h),fun _=>⟨by rw [hf];omega,?_,fun q=>?_⟩⟩
   ·rw [s2,hf]
    show (if (r.e - max r.p (page+count) < 1∨r.g = 0) then _ else max r.p (page+count)+(r.e - max r.p (page+count)))≤_
    split <;> omega
   ·rw [s3,q3',p3',sB]
    show (if max r.p (page+count)≤q∧q < max r.p (page+count)+(r.e - max r.p (page+count)) then r.g else _) = _
    by_cases a1:page≤q∧q < page+count
    ·rw [if_pos a1,if_pos a1,if_neg (by omega)]
    ·rw [if_neg a1,if_neg a1]
     by_cases a2:r.p≤q∧q < r.e
     ·rw [if_pos a2]
      by_cases a3:page+count≤q
      ·rw [if_pos (by omega)]
      ·rw [if_neg (by omega),if_pos (by omega)]
     ·rw [if_neg a2,if_neg (by omega),if_neg (by omega)]
  ·rw [if_neg hb]
   have e3:ji l1 ⟨max r.p (page+count),r.e - max r.p (page+count),r.g⟩ = l1:=nq (.inl (by show r.e - max r.p (page+count) < 1;omega))
   simp only [e3]
   refine ⟨p1,fun _=>⟨by rw [hf];omega,by rw [hf];simp only;omega,fun q=>?_⟩,fun h=>by (cases h)⟩
   simp only
   rw [p3',sB]
   by_cases a2:r.p≤q∧q < r.e
   ·rw [if_pos a2,if_pos (by omega)]
   ·rw [if_neg a2,if_neg (by omega)]
theorem xw {page count g:Int} (h0:0≤page) (h1:1≤count):∀(l old:List Rn) (s:List Rn × Bool),Wth page count g old s→Nm 0 0 (old ++ l)→Wth page count g (old ++ l) (l.foldl (jg page count g) s)
 | [],old,s,hs,_=>by simpa using hs
 | r :: l,old,s,hs,hn=>by
  have e:old ++ r :: l = (old ++ [r]) ++ l:=by simp
  rw [e] at hn ⊢
  have h3:Nm 0 0 (old ++ [r]):=by
   have cut:∀(l m:List Rn) {lo g:Int},Nm lo g (l ++ m)→Nm lo g l:=fun l=>by
    induction l with
    | nil=>intro m lo g _;exact trivial
    | cons a l ih=>intro m lo g h;exact ⟨h.1,h.2.1,h.2.2.1,h.2.2.2.1,ih m h.2.2.2.2⟩
   exact cut _ _ hn
  exact xw h0 h1 l (old ++ [r]) _ (wth_step h0 h1 hs h3) hn
theorem with_spec {l:List Rn} {page count g:Int} (h:Nm 0 0 l) (h0:0≤page) (h1:1≤count) :
  Nm 0 0 (withL l page count g)∧∀q,rt (withL l page count g) q = if page≤q∧q < page+count then g else rt l q:=by
 have hw:=xw (g:=g) h0 h1 l [] ([],false) ⟨trivial,fun _=>⟨h0,Int.le_refl _,fun _=>rfl⟩,fun h=>by cases h⟩ (by simpa using h)
 rw [List.nil_append] at hw
 unfold withL endL
 generalize l.foldl (jg page count g) ([],false) = s at hw ⊢
 obtain ⟨m,d⟩:=s
 obtain ⟨uS,jZ,tL⟩:=hw
 cases d with
 | true =>
  obtain ⟨y1,y2,y3⟩:=tL rfl
  exact ⟨uS,y3⟩
 | false =>
  obtain ⟨n1,n2,n3⟩:=jZ rfl
  obtain ⟨p1,p2,p3⟩:=kk (r:=⟨page,count,g⟩) uS (by show _≤page;omega)
  exact ⟨p1,fun q=>by rw [← n3];exact p3 q⟩
end Go.Proofs.YtfoleblcaloeoaaGreatDoor.Ar
