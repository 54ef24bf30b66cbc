/- Texts merged for the claim. -/
import Derived.Test.YtfoleblcaloeoaaGreatDoorZae
import Derived.MapFrom
import Derived.Maps.Keyed
import Derived.Deep.CutRange
import Derived.Deep.CutBlock
set_option maxHeartbeats 40000000
set_option maxRecDepth 20000
namespace Go.Proofs.YtfoleblcaloeoaaGreatDoor
open Go Go.RowKit
def wf (m:Nat) (k:Int):Bool:=decide (0≤k∧k < 8∧m / 2 ^ k.toNat % 2 = 1)
def sm (m:Nat):Nat:=m % 2+m / 2 % 2+m / 4 % 2+m / 8 % 2+m / 16 % 2+m / 32 % 2+m / 64 % 2+m / 128 % 2
def sj (m:Nat):Nat:=if m = 0 then 0 else if m < 2 then 1 else if m < 4 then 2 else if m < 8 then 3 else if m < 16 then 4 else if m < 32 then 5 else if m < 64 then 6 else if m < 128 then 7 else 8
theorem run_tab {S:ByteArray} {f:Nat→Nat} (hS:∀i:Fin 256,(S[i.1]?).map (·.toNat) = some (f i.1)) {m:Nat} (hm:m < 256) (w:World):(Instr.index 9 (.string S) (.int .u8 m)).run Tryz.prog w = .ok (.int .u8 (f m:Nat)) w:=by
 have h:=hS ⟨m,hm⟩
 cases hq:S[m]? with
 | none=>simp [hq] at h
 | some b =>
  simp [hq] at h
  simp [Instr.index,run_underlying Tryz.underlying9,asIntOf,hq,h]
theorem xr {ops:Array Oper} {rest:List Oper} {o:Oper} {a:Act} {w:World} {Q:Exit→Act→World→Prop} {S:ByteArray} {m:Nat} (f:Nat→Nat) (hm:m < 256) (hg:o.guard = none) (x:Operand) (ho:o.op = .index 9 (.const (.string S)) x)
  (hx:a.eval x = .int .u8 m) (hS:∀i:Fin 256,(S[i.1]?).map (·.toNat) = some (f i.1)) (h:wpList Tryz.prog ops Q rest (a.put o.dst (.int .u8 (f m:Nat))) w):wpList Tryz.prog ops Q (o :: rest) a w :=
 have hc:a.eval (.const (.string S)) = .string S:=rfl
 Great.wpList_runTo hg _ rfl _ _ (by unfold execOp;simp only [ho,hx,hc,Sem.run_bind,run_tab hS hm,Sem.run_pure,Result.andThen_ok]) h
theorem ones_any {m:Nat} (hm:m < 256) (w:World):Calls Tryz.prog 90 #[.int .u8 m] w fun e w'=>e = .returned (.int .i64 (sm m:Nat))∧w = w':=by
 have m1:(0:Int)≤(m:Int):=by omega
 have m2:(m:Int) < 256:=by omega
 have h8:sm m≤8:=by unfold sm;first | omega|((repeat' split) <;> omega)
 have o1:(sm m:Int)≤8:=by omega
 generalize hx:sm m = x at h8 o1 ⊢
 have HX:=ah hx
 clear hx
 go_enter Tryz.func90,Tryz.ntmps90
 go_wp2_with (first|refine xr sm hm rfl _ rfl rfl ?_ ?_;(focus (decide +kernel));rw [HX.out])
 go_ret
 exact ⟨rfl,rfl⟩
theorem len8_any {m:Nat} (hm:m < 256) (w:World):Calls Tryz.prog 89 #[.int .u8 m] w fun e w'=>e = .returned (.int .i64 (sj m:Nat))∧w = w':=by
 have m1:(0:Int)≤(m:Int):=by omega
 have m2:(m:Int) < 256:=by omega
 have h8:sj m≤8:=by unfold sj;first | omega|((repeat' split) <;> omega)
 have o1:(sj m:Int)≤8:=by omega
 generalize hx:sj m = x at h8 o1 ⊢
 have HX:=ah hx
 clear hx
 go_enter Tryz.func89,Tryz.ntmps89
 go_wp2_with (first|refine xr sj hm rfl _ rfl rfl ?_ ?_;(focus (decide +kernel));rw [HX.out])
 go_ret
 exact ⟨rfl,rfl⟩
structure Rs where
 e:Int
 v:Nat
 l:List Nat
structure Rs.Ok (r:Rs):Prop where
 e:-9223372036854775808≤r.e∧r.e≤9223372036854775807
 v:r.v < 18446744073709551616
 l:∀b∈r.l,b < 256
def zRs:Rs:=⟨0,0,[]⟩
def da (r s:Rs):Bool:=r.e == s.e && r.v == s.v && decide (r.l = s.l)
theorem gw (r s:Rs):da r s = true↔r = s:=by
 obtain ⟨e,v,l⟩:=r
 obtain ⟨e',v',l'⟩:=s
 simp [da,and_assoc]
def rsc (r:Rs) (v:Value):Array Value:=#[.int .i64 r.e,.int .u64 r.v,v]
abbrev XB (w:World) (b:Nat) (r:Rs) (v:Value):Prop:=Blk w b 40 (rsc r v)
theorem ct {x:Rs} {v:Value}:(Tryz.prog.info? 40).map (·.size) = some (rsc x v).size:=by
 have:(Tryz.prog.info? 40).map (·.size) = some 3:=by kernel_rfl
 exact this
theorem gG (x:Rs) {v:Value} (hv:v.oneCell' = true):((rsc x v).all fun u=>u.oneCell') = true:=by
 simp [rsc,hv,show ∀k z,(Value.int k z).oneCell' = true from fun _ _=>rfl]
section
variable {ops:Array Oper} {rest:List Oper} {o:Oper} {a:Act} {w:World} {Q:Exit→Act→World→Prop} {b:Nat} {x y:Rs} {v u:Value}
theorem XB.load (h:XB w b x v):(loadVar 40 ⟨b,0,none⟩).run Tryz.prog w = .ok (.agg (rsc x v)) w :=
 run_loadVar_row w b 40 40 _ (0,0) _ h Tryz.underlying40 rfl ct
theorem XB.stay {w':World} (h:XB w b x v) (hc:Chg [] w w'):XB w' b x v:=Blk.chg h hc ab
theorem dc (hg:o.guard = none) (z:Operand) (ho:o.op = .load 40 z) (hx:a.eval z = .pointer (some ⟨b,0,none⟩)) (h0:XB w b x v) (h:wpList Tryz.prog ops Q rest (a.put o.dst (.agg (rsc x v))) w):wpList Tryz.prog ops Q (o :: rest) a w :=
 wpList_load_row hg 40 z ho b hx 40 _ (0,0) _ h0 Tryz.underlying40 rfl ct h
theorem au (hg:o.guard = none) (z t:Operand) (ho:o.op = .store 40 z t) (hx:a.eval z = .pointer (some ⟨b,0,none⟩)) (hy:a.eval t = .agg (rsc y u)) (hu:u.oneCell' = true) (h0:XB w b x v)
  (h:∀w',XB w' b y u→Chg [b] w w'→wpList Tryz.prog ops Q rest (a.put o.dst undef) w'):wpList Tryz.prog ops Q (o :: rest) a w :=
 wpList_store_row hg 40 z t ho b _ hx hy 40 _ h0 ct rfl (gG y hu) (h _ (setRow_heap w b _ _ _ _ h0) ((Chg.refl [b] w).setRow (.inl (by simp)) _))
theorem em (hg:o.guard = none) (z:Operand) (ho:o.op = .box 40 z) (hx:a.eval z = .agg (rsc x v))
  (h:wpList Tryz.prog ops Q rest (a.put o.dst (.pointer (some ⟨w.heap.size,0,none⟩))) (w.alloc (.cells (rsc x v) 40))):wpList Tryz.prog ops Q (o :: rest) a w :=
 Great.wpList_runTo hg _ rfl _ _ (by unfold execOp;simp only [ho,hx,Sem.run_bind,Instr.box,newVar,newRow,run_newObj_alloc,Sem.run_pure,Result.andThen_ok,Value.cells]) h
theorem zeroRs:∀w,(zeroValue 40).run Tryz.prog w = .ok (.agg (rsc zRs zV)) w:=by
 have h:(Tryz.prog.info? 40).map (fun i=>(i.zero,i.size)) = some (some (.agg (rsc zRs zV)),3):=by kernel_rfl
 exact (zero_of_info h).1
theorem ut (w:World):(Instr.alloc 40 true (.tuple #[])).run Tryz.prog w = .ok (.pointer (some ⟨w.heap.size,0,none⟩)) (w.alloc (.cells (rsc zRs zV) 40)):=by
 simp [Instr.alloc,Sem.run_bind,zeroRs,newVar,newRow,run_newObj_alloc,Value.cells,rsc,zRs,zV]
theorem bn (hg:o.guard = none) (ho:o.op = .alloc 40)
  (h:wpList Tryz.prog ops Q rest (a.put o.dst (.pointer (some ⟨w.heap.size,0,none⟩))) (w.alloc (.cells (rsc zRs zV) 40))):wpList Tryz.prog ops Q (o :: rest) a w :=
 Great.wpList_runTo hg _ rfl _ _ (by unfold execOp;simp only [ho,Sem.run_bind,ut,Sem.run_pure,Result.andThen_ok]) h
end
theorem XB.cells {w:World} {b:Nat} {x:Rs} {v:Value} (h:XB w b x v) :
  w.cell? ⟨b,0,none⟩ = some (.int .i64 x.e)∧w.cell? ⟨b,1,none⟩ = some (.int .u64 x.v)∧w.cell? ⟨b,2,none⟩ = some v∧b < w.heap.size∧∀i,w.frozen? ⟨b,i,none⟩ = false :=
 ⟨by simpa [rsc] using Blk.cell h 0,by simpa [rsc] using Blk.cell h 1,by simpa [rsc] using Blk.cell h 2,Blk.lt h,Blk.frozen h⟩
end Go.Proofs.YtfoleblcaloeoaaGreatDoor
namespace Go.Proofs.YtfoleblcaloeoaaGreatDoor.Ar
def ovl (page count:Int) (r:Rn):Int:=max 0 (min r.e (page+count) - max r.p page)
def cntL (l:List Rn) (page count:Int):Int:=(l.map (ovl page count)).sum
def pt (f:Int→Bool) (page:Int):Nat→Nat
 | 0=>0
 | n+1=>pt f page n+if f (page+n) then 1 else 0
theorem fO (f:Int→Bool) (page:Int) (n:Nat):pt f page n≤n:=by
 induction n with
 | zero=>exact Nat.le_refl _
 | succ n ih=>unfold pt;split <;> omega
theorem cntP_or {f g h:Int→Bool} (hf:∀q,h q = (f q || g q)) (hx:∀q,f q = true→g q = false) (page:Int) (n:Nat):pt h page n = pt f page n+pt g page n:=by
 induction n with
 | zero=>rfl
 | succ n ih =>
  unfold pt
  rw [ih,hf]
  have:=hx (page+n)
  cases e:f (page+n)
  ·cases g (page+n) <;> simp <;> omega
  ·rw [this e];simp;omega
theorem cntP_in (a b page:Int) (n:Nat):(pt (fun q=>decide (a≤q∧q < b)) page n:Int) = max 0 (min b (page+n) - max a page):=by
 induction n with
 | zero=>simp [pt];omega
 | succ n ih =>
  unfold pt
  by_cases h:a≤page+n∧page+n < b
  ·rw [if_pos (by simpa using h)];omega
  ·rw [if_neg (by simpa using h)];omega
theorem cntP_pos {f:Int→Bool} {page:Int} {n:Nat}:0 < pt f page n↔∃q,page≤q∧q < page+n∧f q = true:=by
 induction n with
 | zero=>exact ⟨fun h=>by simp [pt] at h,fun ⟨q,h1,h2,_⟩=>by simp at h2;omega⟩
 | succ n ih =>
  unfold pt
  cases e:f (page+n)
  ·rw [if_neg (by simp),Nat.add_zero,ih]
   constructor
   ·rintro ⟨q,h1,h2,h3⟩;exact ⟨q,h1,by omega,h3⟩
   ·rintro ⟨q,h1,h2,h3⟩
    refine ⟨q,h1,Classical.byContradiction fun h=>?_,h3⟩
    obtain rfl:q = page+n:=by omega
    rw [e] at h3;cases h3
  ·rw [if_pos rfl]
   exact ⟨fun _=>⟨page+n,by omega,by omega,e⟩,fun _=>by omega⟩
theorem cntP_lt {f:Int→Bool} {page:Int} {n:Nat}:pt f page n < n↔∃q,page≤q∧q < page+n∧f q = false:=by
 induction n with
 | zero=>exact ⟨fun h=>by omega,fun ⟨q,h1,h2,_⟩=>by simp at h2;omega⟩
 | succ n ih =>
  unfold pt
  cases e:f (page+n)
  ·rw [if_neg (by simp),Nat.add_zero]
   exact ⟨fun _=>⟨page+n,by omega,by omega,e⟩,fun _=>by have:=fO f page n;omega⟩
  ·rw [if_pos rfl]
   constructor
   ·intro h
    obtain ⟨q,h1,h2,h3⟩:=ih.1 (by omega)
    exact ⟨q,h1,by omega,h3⟩
   ·rintro ⟨q,h1,h2,h3⟩
    have:∃q,page≤q∧q < page+n∧f q = false:=by
     refine ⟨q,h1,Classical.byContradiction fun h=>?_,h3⟩
     obtain rfl:q = page+n:=by omega
     rw [e] at h3;cases h3
    have:=ih.2 this
    omega
theorem zy {lo g:Int} {l:List Rn} (h:Nm lo g l) (page:Int) (n:Nat):cntL l page n = (pt (fun q=>decide (rt l q≠0)) page n:Nat):=by
 induction l generalizing lo g with
 | nil =>
  have:pt (fun q=>decide (rt [] q≠0)) page n = 0:=by
   induction n with
   | zero=>rfl
   | succ n ih=>unfold pt;rw [ih];simp [rt]
  rw [this]
  rfl
 | cons a l ih =>
  obtain ⟨h1,h2,h3,h4,h5⟩:=h
  have e:=cntP_or (f:=fun q=>decide (a.p≤q∧q < a.e)) (g:=fun q=>decide (rt l q≠0)) (h:=fun q=>decide (rt (a :: l) q≠0)) (fun q=>by
   show decide ((if a.p≤q∧q < a.e then a.g else rt l q)≠0) = _
   by_cases hq:a.p≤q∧q < a.e
   ·rw [if_pos hq];simp [h3,hq]
   ·rw [if_neg hq]
    have:decide (a.p≤q∧q < a.e) = false:=ac hq
    rw [this];simp) (fun q hq=>by
   have pN:a.p≤q∧q < a.e:=by simpa using hq
   have:=rt_lo h5 pN.2
   simp [this]) page n
  rw [e,Int.natCast_add,← ih h5,cntP_in]
  rfl
theorem cnt_pos {l:List Rn} (h:Nm 0 0 l) {page count:Int} (hc:0≤count):0 < cntL l page count↔∃q,page≤q∧q < page+count∧rt l q≠0:=by
 obtain ⟨n,rfl⟩:∃n:Nat,count = n:=⟨count.toNat,by omega⟩
 rw [zy h]
 have:=cntP_pos (f:=fun q=>decide (rt l q≠0)) (page:=page) (n:=n)
 simp only [decide_eq_true_eq] at this
 rw [← this]
 omega
theorem cnt_lt {l:List Rn} (h:Nm 0 0 l) {page count:Int} (hc:0≤count):cntL l page count < count↔∃q,page≤q∧q < page+count∧rt l q = 0:=by
 obtain ⟨n,rfl⟩:∃n:Nat,count = n:=⟨count.toNat,by omega⟩
 rw [zy h]
 have:=cntP_lt (f:=fun q=>decide (rt l q≠0)) (page:=page) (n:=n)
 simp only [decide_eq_false_iff_not,Classical.not_not] at this
 rw [← this]
 omega
theorem cnt_le {l:List Rn} (h:Nm 0 0 l) {page count:Int} (hc:0≤count):0≤cntL l page count∧cntL l page count≤count:=by
 obtain ⟨n,rfl⟩:∃n:Nat,count = n:=⟨count.toNat,by omega⟩
 rw [zy h]
 have:=fO (fun q=>decide (rt l q≠0)) page n
 omega
structure Sp (l:List Rn):Prop where
 nm:Nm 0 0 l
 hi:∀q,1024≤q→rt l q = 0
 g:∀q,0≤rt l q∧rt l q≤3
 len:l.length≤32
theorem Sp.nil:Sp []:=⟨trivial,fun _ _=>rfl,fun _=>by simp [rt],by simp⟩
theorem rt_mem {lo g:Int} {l:List Rn} (h:Nm lo g l) {r:Rn} (hr:r∈l) {q:Int} (h1:r.p≤q) (h2:q < r.e):rt l q = r.g:=by
 induction l generalizing lo g with
 | nil=>cases hr
 | cons a l ih =>
  obtain ⟨n1,n2,n3,n4,n5⟩:=h
  unfold rt
  rcases List.mem_cons.1 hr with rfl | hr
  ·rw [if_pos ⟨h1,h2⟩]
  ·have h3:=ih n5 hr
   have tG:∀{lo g:Int} {l:List Rn},Nm lo g l→∀r∈l,lo≤r.p:=fun {lo g l}=>by
    induction l generalizing lo g with
    | nil=>intro _ r hr;cases hr
    | cons b l ih =>
     intro h r hr
     obtain ⟨n1,n2,n3,n4,n5⟩:=h
     have eb:b.e = b.p+b.c:=rfl
     rcases List.mem_cons.1 hr with rfl | hr
     ·exact n1
     ·have:=ih n5 r hr;omega
   have:=tG n5 r hr
   rw [if_neg (by omega)]
   exact h3
theorem dY {lo g:Int} {l:List Rn} (h:Nm lo g l) {r:Rn} (hr:r∈l):lo≤r.p∧1≤r.c∧r.g≠0:=by
 induction l generalizing lo g with
 | nil=>cases hr
 | cons a l ih =>
  obtain ⟨n1,n2,n3,n4,n5⟩:=h
  have ea:a.e = a.p+a.c:=rfl
  rcases List.mem_cons.1 hr with rfl | hr
  ·exact ⟨n1,n2,n3⟩
  ·have:=ih n5 hr;exact ⟨by omega,this.2⟩
theorem Sp.mem {l:List Rn} (h:Sp l) {r:Rn} (hr:r∈l):0≤r.p∧1≤r.c∧r.p+r.c≤1024∧1≤r.g∧r.g≤3:=by
 obtain ⟨h1,h2,h3⟩:=dY h.nm hr
 have er:r.e = r.p+r.c:=rfl
 have h4:=rt_mem h.nm hr (q:=r.p) (Int.le_refl _) (by omega)
 have h5:=rt_mem h.nm hr (q:=r.e - 1) (by omega) (by omega)
 have h6:=h.g r.p
 refine ⟨h1,h2,Classical.byContradiction fun hn=>?_,by omega,by omega⟩
 have:=h.hi (r.e - 1) (by omega)
 omega
def mayB (page count:Int):Bool:=decide (0≤page∧1≤count∧count≤1024∧page≤1024 - count)
def rgB (g:Int):Bool:=decide (1≤g∧g≤3)
def setE (m:List Rn):Int:=if 32 < m.length then 9 else 0
def setR (l m:List Rn):List Rn:=if 32 < m.length then l else m
def mapE (l:List Rn) (page count g:Int):Int :=
 if mayB page count = false∨rgB g = false then 2 else if 0 < cntL l page count then 8 else setE (withL l page count g)
def mapR (l:List Rn) (page count g:Int):List Rn :=
 if mayB page count = false∨rgB g = false then l else if 0 < cntL l page count then l else setR l (withL l page count g)
def unE (l:List Rn) (page count:Int):Int:=if mayB page count = false then 2 else setE (withL l page count 0)
def unR (l:List Rn) (page count:Int):List Rn:=if mayB page count = false then l else setR l (withL l page count 0)
def mdE (l:List Rn) (page count:Int):Int:=if mayB page count = false then 2 else if cntL l page count < count then 7 else 0
def prE (l:List Rn) (page count g:Int):Int:=if rgB g = false then 2 else if mdE l page count≠0 then mdE l page count else setE (withL l page count g)
def prR (l:List Rn) (page count g:Int):List Rn:=if rgB g = false then l else if mdE l page count≠0 then l else setR l (withL l page count g)
theorem Sp.with_ {l:List Rn} (h:Sp l) {page count g:Int} (hm:mayB page count = true) (hg:0≤g∧g≤3) (hl:(withL l page count g).length≤32):Sp (withL l page count g):=by
 have hm':0≤page∧1≤count∧count≤1024∧page≤1024 - count:=by simpa [mayB] using hm
 obtain ⟨w1,w2⟩:=with_spec (g:=g) h.nm hm'.1 hm'.2.1
 refine ⟨w1,fun q hq=>?_,fun q=>?_,hl⟩
 ·rw [w2,if_neg (by omega)];exact h.hi q hq
 ·rw [w2]
  split
  ·exact hg
  ·exact h.g q
theorem Sp.set {l:List Rn} (h:Sp l) {page count g:Int} (hm:mayB page count = true) (hg:0≤g∧g≤3):Sp (setR l (withL l page count g)):=by
 unfold setR
 split
 ·exact h
 ·exact h.with_ hm hg (by omega)
theorem Sp.map {l:List Rn} (h:Sp l) (page count g:Int):Sp (mapR l page count g):=by
 unfold mapR
 split
 ·exact h
 ·rename_i hc
  split
  ·exact h
  ·have hg:1≤g∧g≤3:=by simpa [rgB] using fun e=>hc (.inr e)
   exact h.set (by simpa using fun e=>hc (.inl e)) (by omega)
theorem Sp.un {l:List Rn} (h:Sp l) (page count:Int):Sp (unR l page count):=by
 unfold unR
 split
 ·exact h
 ·rename_i hc;exact h.set (by simpa using hc) (by omega)
theorem fW {l:List Rn} {page count:Int} (h:mdE l page count = 0):mayB page count = true:=by
 unfold mdE at h
 split at h
 ·omega
 ·rename_i hc;simpa using hc
theorem Sp.pr {l:List Rn} (h:Sp l) (page count g:Int):Sp (prR l page count g):=by
 unfold prR
 split
 ·exact h
 ·rename_i hc
  split
  ·exact h
  ·rename_i hd
   have hg:1≤g∧g≤3:=by simpa [rgB] using hc
   exact h.set (fW (Classical.not_not.1 hd)) (by omega)
end Go.Proofs.YtfoleblcaloeoaaGreatDoor.Ar
namespace Go.Proofs.YtfoleblcaloeoaaGreatDoor.Ar
theorem mayB_iff {page count:Int}:mayB page count = true↔0≤page∧1≤count∧count≤1024∧page≤1024 - count:=by simp [mayB]
theorem rgB_iff {g:Int}:rgB g = true↔1≤g∧g≤3:=by simp [rgB]
end Go.Proofs.YtfoleblcaloeoaaGreatDoor.Ar
namespace Go.Proofs.YtfoleblcaloeoaaGreatDoor
open Go Go.RowKit
def je (k:IntKind) (z:Int):Value→Bool
 | .int k' z'=>k' == k && z' == z
 | _=>false
theorem lu {k:IntKind} {z:Int} {v:Value}:je k z v = true↔v = .int k z:=by
 cases v <;> simp [je]
def dr (k:IntKind) (z:Int):List MapEntry→Nat→Option (Nat × Value)
 | [],_=>none
 | e :: es,i=>if je k z e.key then some (i,e.val) else dr k z es (i+1)
theorem gt (k:IntKind) (z:Int) (e:MapEntry) (es:List MapEntry) (i:Nat):dr k z (e :: es) i = if je k z e.key then some (i,e.val) else dr k z es (i+1):=rfl
def yl (k:IntKind) (l:List MapEntry):Prop:=∀e∈l,∃z,e.key = .int k z
theorem uq {q k:IntKind} {z:Int}:∀(l:List MapEntry) (i:Nat),yl k l→Instr.findNow (.int q) (.int k z) l i = some (dr k z l i)
 | [],_,_=>rfl
 | e :: es,i,h=>by
  obtain ⟨y,hy⟩:=h e (List.mem_cons_self ..)
  have ih:=uq (q:=q) (z:=z) es (i+1) (fun e he=>h e (List.mem_cons_of_mem _ he))
  unfold Instr.findNow dr
  rw [hy]
  have e1:Instr.sameNow (.int q) (.int k z) (.int k y) = some (z == y):=by simp [Instr.sameNow]
  rw [e1]
  by_cases hz:z = y
  ·subst hz
   simp [je]
  ·have h1:(z == y) = false:=beq_false_of_ne hz
   have h2:je k z (.int k y) = false:=by simp [je,Ne.symm hz]
   rw [h1,h2]
   simpa using ih
theorem kg {k:IntKind} {z:Int}:∀(l:List MapEntry) (i:Nat),dr k z l i = none↔∀e∈l,e.key≠.int k z
 | [],_=>by simp [dr]
 | e :: es,i=>by
  unfold dr
  have ih:=kg (k:=k) (z:=z) es (i+1)
  by_cases h:je k z e.key = true
  ·rw [if_pos h]
   simp [lu.1 h]
  ·rw [if_neg h,ih]
   have:e.key≠.int k z:=fun e2=>h (lu.2 e2)
   simp [this]
theorem fg {k:IntKind} {z:Int} {v:Value} {n:Nat}:∀(l:List MapEntry) (j:Nat),dr k z l j = some (n,v)→∃i,n = j+i∧∃h:i < l.length,l[i].key = .int k z∧l[i].val = v
 | [],_,h=>by simp [dr] at h
 | e :: es,j,h=>by
  unfold dr at h
  by_cases hk:je k z e.key = true
  ·rw [if_pos hk] at h
   obtain ⟨rfl,rfl⟩:=Prod.mk.inj (Option.some.inj h)
   exact ⟨0,rfl,by simp,lu.1 hk,rfl⟩
  ·rw [if_neg hk] at h
   obtain ⟨i,h1,h2,h3⟩:=fg es (j+1) h
   exact ⟨i+1,by omega,by simpa using h2,by simpa using h3⟩
theorem ud {k:IntKind} {z:Int} {v val:Value} {n:Nat} (z':Int):∀(l:List MapEntry) (j i:Nat),dr k z l j = some (n,v)→n = j+i →
  (dr k z' (l.modify i fun e=>{ e with key:=.int k z,val:=val }) j).map (·.2) = if z' = z then some val else (dr k z' l j).map (·.2)
 | [],_,_,h,_=>by simp [dr] at h
 | e :: es,j,i,h,hn=>by
  unfold dr at h
  by_cases hk:je k z e.key = true
  ·rw [if_pos hk] at h
   obtain ⟨rfl,rfl⟩:=Prod.mk.inj (Option.some.inj h)
   obtain rfl:i = 0:=by omega
   rw [List.modify_zero_cons,gt,gt]
   by_cases hz:z' = z
   ·subst hz
    simp [je]
   ·have h2:je k z' (.int k z) = false:=by simp [je,Ne.symm hz]
    rw [lu.1 hk,h2,if_neg hz]
    rfl
  ·rw [if_neg hk] at h
   obtain ⟨i',h1,h2,h3⟩:=fg es (j+1) h
   obtain ⟨m,rfl⟩:∃m,i = m+1:=⟨i - 1,by omega⟩
   have ih:=ud (val:=val) z' es (j+1) m h (by omega)
   rw [List.modify_succ_cons,gt,gt]
   by_cases hz:je k z' e.key = true
   ·have:z'≠z:=fun e2=>hk (e2 ▸ hz)
    rw [if_pos hz,if_neg this,if_pos hz]
   ·rw [if_neg hz,if_neg hz]
    exact ih
theorem oe {k:IntKind} {z:Int} {val:Value} {c:Nat} (z':Int):∀(l:List MapEntry) (j:Nat),dr k z l j = none →
  (dr k z' (l ++ [⟨.int k z,val,c⟩]) j).map (·.2) = if z' = z then some val else (dr k z' l j).map (·.2)
 | [],j,_=>by
  by_cases hz:z' = z
  ·subst hz;simp [dr,je]
  ·simp [dr,je,hz,Ne.symm hz]
 | e :: es,j,h=>by
  unfold dr at h
  by_cases hk:je k z e.key = true
  ·rw [if_pos hk] at h;cases h
  ·rw [if_neg hk] at h
   have ih:=oe (val:=val) (c:=c) z' es (j+1) h
   rw [List.cons_append,gt,gt]
   by_cases hz:je k z' e.key = true
   ·have:z'≠z:=fun e2=>hk (e2 ▸ hz)
    rw [if_pos hz,if_neg this,if_pos hz]
   ·rw [if_neg hz,if_neg hz]
    exact ih
def vr (l:List MapEntry):Prop:=l.Pairwise fun a b=>a.key≠b.key
theorem zb {k:IntKind} {z:Int} {v:Value} {n:Nat} (z':Int):∀(l:List MapEntry) (j i:Nat),vr l→dr k z l j = some (n,v)→n = j+i →
  ∀j',(dr k z' (l.eraseIdx i) j').map (·.2) = if z' = z then none else (dr k z' l j).map (·.2)
 | [],_,_,_,h,_=>by simp [dr] at h
 | e :: es,j,i,hd,h,hn=>by
  intro j'
  have hidx:∀(m:List MapEntry) (a b:Nat),(dr k z' m a).map (·.2) = (dr k z' m b).map (·.2):=by
   intro m
   induction m with
   | nil=>intro a b;rfl
   | cons x m ih=>intro a b;unfold dr;split <;> first | rfl | exact ih _ _
  rw [vr,List.pairwise_cons] at hd
  unfold dr at h
  by_cases hk:je k z e.key = true
  ·rw [if_pos hk] at h
   obtain ⟨rfl,rfl⟩:=Prod.mk.inj (Option.some.inj h)
   obtain rfl:i = 0:=by omega
   rw [List.eraseIdx_zero,List.tail_cons]
   by_cases hz:z' = z
   ·subst hz
    rw [if_pos rfl,(kg es j').2 (fun x hx e2=>hd.1 x hx ((lu.1 hk).trans e2.symm))]
    rfl
   ·have h2:je k z' e.key = false:=by rw [lu.1 hk];simp [je,Ne.symm hz]
    rw [if_neg hz,gt,h2]
    exact hidx _ _ _
  ·rw [if_neg hk] at h
   obtain ⟨i',h1,h2,h3⟩:=fg es (j+1) h
   obtain ⟨m,rfl⟩:∃m,i = m+1:=⟨i - 1,by omega⟩
   have ih:=zb z' es (j+1) m hd.2 h (by omega) (j'+1)
   rw [List.eraseIdx_cons_succ,gt,gt]
   by_cases hz:je k z' e.key = true
   ·have:z'≠z:=fun e2=>hk (e2 ▸ hz)
    rw [if_pos hz,if_neg this,if_pos hz]
    rfl
   ·rw [if_neg hz,if_neg hz]
    exact ih
def Born (l:List MapEntry) (clock:Nat):Prop:=l.Pairwise (fun a b=>a.born≠b.born)∧∀e∈l,e.born < clock
theorem Born.push {l:List MapEntry} {c:Nat} (h:Born l c) (key val:Value):Born (l ++ [⟨key,val,c⟩]) (c+1):=by
 refine ⟨List.pairwise_append.2 ⟨h.1,List.pairwise_singleton _ _,fun x hx y hy=>?_⟩,fun x hx=>?_⟩
 ·obtain rfl:=aa hy
  have:=h.2 x hx
  show x.born≠c
  omega
 ·rcases List.mem_append.1 hx with hx | hx
  ·have:=h.2 x hx;omega
  ·obtain rfl:=aa hx
   exact Nat.lt_succ_self _
theorem Born.erase {l:List MapEntry} {c:Nat} (h:Born l c) (i:Nat):Born (l.eraseIdx i) c :=
 ⟨h.1.sublist (List.eraseIdx_sublist _ _),fun x hx=>h.2 x ((List.eraseIdx_sublist _ _).subset hx)⟩
theorem Born.modify {l:List MapEntry} {c:Nat} (h:Born l c) (i:Nat) (g:MapEntry→MapEntry) (hg:∀e,(g e).born = e.born):Born (l.modify i g) c:=by
 have kb:∀(j:Nat) (hj:j < (l.modify i g).length),(l.modify i g)[j].born = (l[j]'(by simpa using hj)).born:=by
  intro j hj
  rw [List.getElem_modify]
  split
  ·rw [hg]
  ·rfl
 refine ⟨?_,fun x hx=>?_⟩
 ·have h1:=h.1
  rw [List.pairwise_iff_getElem] at h1 ⊢
  intro a b ha hb hab
  rw [kb,kb]
  exact h1 a b _ _ hab
 ·obtain ⟨j,hj,rfl⟩:=List.getElem_of_mem hx
  rw [kb]
  exact h.2 _ (List.getElem_mem _)
def MapB (w:World) (b:Nat) (k:IntKind) (f:Int→Option Value):Prop :=
 ∃es clock,w.heap[b]? = some (.map es clock)∧yl k es.toList∧vr es.toList∧Born es.toList clock∧∀z,(dr k z es.toList 0).map (·.2) = f z
theorem MapB.lt {w:World} {b:Nat} {k:IntKind} {f:Int→Option Value} (h:MapB w b k f):b < w.heap.size:=by
 obtain ⟨_,_,h,_⟩:=h
 exact (Array.getElem?_eq_some_iff.1 h).1
theorem MapB.chg {w w':World} {F:List Nat} {b:Nat} {k:IntKind} {f:Int→Option Value} (h:MapB w b k f) (hc:Chg F w w') (hb:b∉F):MapB w' b k f:=by
 have hl:=h.lt
 obtain ⟨es,c,h1,h2⟩:=h
 exact ⟨es,c,(hc.block b hl hb).trans h1,h2⟩
theorem MapB.stay {w w':World} {b:Nat} {k:IntKind} {f:Int→Option Value} (h:MapB w b k f) (hc:Chg [] w w'):MapB w' b k f:=h.chg hc ab
theorem MapB.new (w:World) (k:IntKind):MapB (w.alloc (.map #[] 0)) w.heap.size k (fun _=>none) :=
 ⟨#[],0,heap_alloc_new w _,(fun _ h=>by cases h),List.Pairwise.nil,⟨List.Pairwise.nil,fun _ h=>by cases h⟩,fun _=>rfl⟩
section
variable {P:Program} {w:World} {t kt e:TypeId} {q k:IntKind} {b:Nat} {f:Int→Option Value}
theorem ez (hk:P.underlying kt = some (.int q)) (c:Bool) (z:Int) (w:World):(Instr.checkKey c 10000 kt (.int k z)).run P w = .ok () w:=by
 unfold Instr.checkKey
 simp [run_underlying hk,Result.andThen]
theorem ft (hk:P.underlying kt = some (.int q)) {l:List MapEntry} (hl:yl k l) (z:Int) (w:World):(Instr.findKey kt (.int k z) l).run P w = .ok (dr k z l 0) w:=by
 unfold Instr.findKey
 simp [run_underlying hk,uq l 0 hl,Result.andThen]
theorem dy (ht:P.underlying t = some (.map kt e)) (hk:P.underlying kt = some (.int q)) (h:MapB w b k f) {z:Int} {v:Value} (hv:f z = some v) (c:Bool) :
  (Instr.lookup t (.map (some b)) (.int k z) c).run P w = .ok (if c then .tuple #[v,.bool true] else v) w:=by
 obtain ⟨es,cl,h1,h2,h3,hb,h4⟩:=h
 have h5:=h4 z
 rw [hv] at h5
 cases h6:dr k z es.toList 0 with
 | none=>rw [h6] at h5;cases h5
 | some p =>
  rw [h6] at h5
  obtain ⟨i,v'⟩:=p
  obtain rfl:=Option.some.inj h5
  cases c <;> simp [Instr.lookup,run_underlying ht,MapKept.run_getObj_map h1,ez hk,ft hk h2,h6,Result.andThen]
theorem ej (ht:P.underlying t = some (.map kt e)) (hk:P.underlying kt = some (.int q)) (h:MapB w b k f) {z:Int} (hv:f z = none) {y:Value} (hz:(zeroValue e).run P w = .ok y w) (c:Bool) :
  (Instr.lookup t (.map (some b)) (.int k z) c).run P w = .ok (if c then .tuple #[y,.bool false] else y) w:=by
 obtain ⟨es,cl,h1,h2,h3,hb,h4⟩:=h
 have h5:=h4 z
 rw [hv] at h5
 have h6:dr k z es.toList 0 = none:=by
  cases h6:dr k z es.toList 0 with
  | none=>rfl
  | some p=>rw [h6] at h5;cases h5
 cases c <;> simp [Instr.lookup,run_underlying ht,MapKept.run_getObj_map h1,ez hk,ft hk h2,h6,hz,Result.andThen]
theorem el (w:World) {b:Nat} (o:Obj) (hb:b < w.heap.size):(ChangeMaps.setBlock w b o).heap[b]? = some o:=by
 simp [ChangeMaps.setBlock,hb]
theorem fu (w:World) (b:Nat) (o:Obj):Chg [b] w (ChangeMaps.setBlock w b o) :=
 ⟨rfl,rfl,rfl,by simp [ChangeMaps.setBlock],fun k hk hb=>by
  have:b≠k:=fun e=>hb (by rw [e];exact List.mem_cons_self ..)
  simp [ChangeMaps.setBlock,this]⟩
theorem ww (ht:P.underlying t = some (.map kt e)) (hk:P.underlying kt = some (.int q)) (h:MapB w b k f) (z:Int) (val:Value) :
  ∃w',(Instr.mapUpdate t (.map (some b)) (.int k z) val).run P w = .ok () w'∧MapB w' b k (fun y=>if y = z then some val else f y)∧Chg [b] w w':=by
 have jF:=h.lt
 obtain ⟨es,cl,h1,h2,h3,hb,h4⟩:=h
 cases h6:dr k z es.toList 0 with
 | none =>
  refine ⟨ChangeMaps.setBlock w b (.map (es.push ⟨.int k z,val,cl⟩) (cl+1)),by simp [Instr.mapUpdate,run_underlying ht,MapKept.run_getObj_map h1,ez hk,ft hk h2,h6,MapKept.run_setObj_map _ h1,Result.andThen,ChangeMaps.setBlock],⟨_,_,el w _ jF,?_,?_,(by rw [Array.toList_push];exact hb.push _ _),?_⟩,fu _ _ _⟩
  ·intro x hx
   rw [Array.toList_push] at hx
   rcases List.mem_append.1 hx with hx | hx
   ·exact h2 x hx
   ·obtain rfl:=aa hx
    exact ⟨z,rfl⟩
  ·rw [Array.toList_push]
   refine List.pairwise_append.2 ⟨h3,List.pairwise_singleton _ _,fun x hx y hy=>?_⟩
   obtain rfl:=aa hy
   exact (kg _ _).1 h6 x hx
  ·intro y
   rw [Array.toList_push,oe y _ _ h6,h4]
 | some p =>
  obtain ⟨i,v⟩:=p
  obtain ⟨i',e1,h7,h8,h9⟩:=fg _ _ h6
  obtain rfl:i = i':=by omega
  have FG:i < es.size:=by simpa using h7
  have h8':es[i].key = .int k z:=by simpa using h8
  have sO:∀W,(Instr.keyThatStays (.int k z) (.int k z)).run P W = .ok (.int k z) W:=fun W=>by simp [Instr.keyThatStays,Instr.sameBits]
  refine ⟨ChangeMaps.setBlock w b (.map (es.modify i fun e=>{ e with key:=.int k z,val:=val }) cl),by simp [Instr.mapUpdate,run_underlying ht,MapKept.run_getObj_map h1,ez hk,ft hk h2,h6,FG,h8',sO,MapKept.run_setObj_map _ h1,Result.andThen,ChangeMaps.setBlock],⟨_,_,el w _ jF,?_,?_,(by rw [Array.toList_modify];exact hb.modify _ _ (fun _=>rfl)),?_⟩,fu _ _ _⟩
  ·intro x hx
   rw [Array.toList_modify] at hx
   obtain ⟨j,hj,rfl⟩:=List.getElem_of_mem hx
   rw [List.getElem_modify]
   split
   ·exact ⟨z,rfl⟩
   ·exact h2 _ (List.getElem_mem _)
  ·rw [Array.toList_modify]
   unfold vr at h3 ⊢
   rw [List.pairwise_iff_getElem] at h3 ⊢
   intro a c ha hc FL
   have ka:∀(j:Nat) (hj:j < (es.toList.modify i fun e=>{ e with key:=.int k z,val:=val }).length),(es.toList.modify i fun e=>{ e with key:=.int k z,val:=val })[j].key = (es.toList[j]'(by simpa using hj)).key:=by
    intro j hj
    rw [List.getElem_modify]
    split
    ·rename_i he
     subst he
     exact h8.symm
    ·rfl
   rw [ka,ka]
   exact h3 a c _ _ FL
  ·intro y
   rw [Array.toList_modify,ud y _ _ _ h6 (by omega),h4]
theorem wv {ty:TypeId} (ht:P.underlying t = some (.map kt e)) (hk:P.underlying kt = some (.int q)) (h:MapB w b k f) (z:Int) :
  ∃w',(Builtin.delete_ #[t,kt] ty #[.map (some b),.int k z]).run P w = .ok (.tuple #[]) w'∧MapB w' b k (fun y=>if y = z then none else f y)∧Chg [b] w w':=by
 have jF:=h.lt
 obtain ⟨es,cl,h1,h2,h3,hb,h4⟩:=h
 cases h6:dr k z es.toList 0 with
 | none =>
  refine ⟨ChangeMaps.setBlock w b (.map es cl),by simp [Builtin.delete_,run_underlying ht,MapKept.run_getObj_map h1,ez hk,ft hk h2,h6,MapKept.run_setObj_map _ h1,Result.andThen,ChangeMaps.setBlock],⟨_,_,el w _ jF,h2,h3,hb,?_⟩,fu _ _ _⟩
  intro y
  show _ = if y = z then none else f y
  by_cases hy:y = z
  ·subst hy
   rw [if_pos rfl,h6]
   rfl
  ·rw [if_neg hy,h4]
 | some p =>
  obtain ⟨i,v⟩:=p
  obtain ⟨i',e1,h7,h8,h9⟩:=fg _ _ h6
  obtain rfl:i = i':=by omega
  have FG:i < es.size:=by simpa using h7
  have lO:(es.eraseIdxIfInBounds i).toList = es.toList.eraseIdx i:=by
   unfold Array.eraseIdxIfInBounds
   rw [dif_pos FG]
   simp
  refine ⟨ChangeMaps.setBlock w b (.map (es.eraseIdxIfInBounds i) cl),by simp [Builtin.delete_,run_underlying ht,MapKept.run_getObj_map h1,ez hk,ft hk h2,h6,MapKept.run_setObj_map _ h1,Result.andThen,ChangeMaps.setBlock],⟨_,_,el w _ jF,?_,?_,(by rw [lO];exact hb.erase _),?_⟩,fu _ _ _⟩
  ·intro x hx
   rw [lO] at hx
   exact h2 x ((List.eraseIdx_sublist _ _).subset hx)
  ·rw [lO]
   exact h3.sublist (List.eraseIdx_sublist _ _)
  ·intro y
   rw [lO,zb y _ _ _ h3 h6 (by omega),h4]
def MapS (w:World) (b:Nat) (k:IntKind) (f:Int→Option Value) (z:Int) (s:Nat):Prop :=
 ∃es clock,w.heap[b]? = some (.map es clock)∧yl k es.toList∧vr es.toList∧Born es.toList clock∧(∀y,y≠z→(dr k y es.toList 0).map (·.2) = f y)∧∃i v,dr k z es.toList 0 = some (i,v)∧∃h:i < es.toList.length,es.toList[i].born = s
theorem MapS.lt {w:World} {b:Nat} {k:IntKind} {f:Int→Option Value} {z:Int} {s:Nat} (h:MapS w b k f z s):b < w.heap.size:=by
 obtain ⟨_,_,h,_⟩:=h
 exact (Array.getElem?_eq_some_iff.1 h).1
theorem MapS.chg {w w':World} {F:List Nat} {b:Nat} {k:IntKind} {f:Int→Option Value} {z:Int} {s:Nat} (h:MapS w b k f z s) (hc:Chg F w w') (hb:b∉F):MapS w' b k f z s:=by
 have hl:=h.lt
 obtain ⟨es,c,h1,h2⟩:=h
 exact ⟨es,c,(hc.block b hl hb).trans h1,h2⟩
theorem yb (ht:P.underlying t = some (.map kt e)) (hk:P.underlying kt = some (.int q)) (h:MapB w b k f) (z:Int) {y:Value} (hz:∀W,(zeroValue e).run P W = .ok y W) :
  ∃w' v s,(Instr.mapEntry t (.map (some b)) (.int k z)).run P w = .ok (.tuple #[v,goInt (s:Nat)]) w'∧MapS w' b k f z s∧Chg [b] w w':=by
 have jF:=h.lt
 obtain ⟨es,cl,h1,h2,h3,hb,h4⟩:=h
 cases h6:dr k z es.toList 0 with
 | none =>
  refine ⟨ChangeMaps.setBlock w b (.map (es.push ⟨.int k z,y,cl⟩) (cl+1)),y,cl,by simp [Instr.mapEntry,run_underlying ht,MapKept.run_getObj_map h1,ez hk,ft hk h2,h6,hz,MapKept.run_setObj_map _ h1,Result.andThen,ChangeMaps.setBlock],⟨_,_,el w _ jF,?_,?_,(by rw [Array.toList_push];exact hb.push _ _),?_,?_⟩,fu _ _ _⟩
  ·intro x hx
   rw [Array.toList_push] at hx
   rcases List.mem_append.1 hx with hx | hx
   ·exact h2 x hx
   ·obtain rfl:=aa hx
    exact ⟨z,rfl⟩
  ·rw [Array.toList_push]
   refine List.pairwise_append.2 ⟨h3,List.pairwise_singleton _ _,fun x hx y hy=>?_⟩
   obtain rfl:=aa hy
   exact (kg _ _).1 h6 x hx
  ·intro x hx
   rw [Array.toList_push,oe x _ _ h6,if_neg hx,h4]
  ·have h7:=oe (val:=y) (c:=cl) z es.toList 0 h6
   rw [if_pos rfl] at h7
   rw [Array.toList_push]
   cases h8:dr k z (es.toList ++ [⟨.int k z,y,cl⟩]) 0 with
   | none=>rw [h8] at h7;cases h7
   | some p =>
    obtain ⟨j,v⟩:=p
    obtain ⟨j',e1,h9,kK,_⟩:=fg _ _ h8
    obtain rfl:j = j':=by omega
    refine ⟨j,v,rfl,h9,?_⟩
    by_cases hj:j < es.toList.length
    ·rw [List.getElem_append_left hj] at kK
     exact absurd kK ((kg _ _).1 h6 _ (List.getElem_mem hj))
    ·have:j = es.toList.length:=by simp at h9 hj;simp;omega
     subst this
     rw [List.getElem_append_right (Nat.le_refl _)]
     simp
 | some p =>
  obtain ⟨i,v⟩:=p
  obtain ⟨i',e1,h7,h8,h9⟩:=fg _ _ h6
  obtain rfl:i = i':=by omega
  have FG:i < es.size:=by simpa using h7
  have h8':es[i].key = .int k z:=by simpa using h8
  have sO:∀W,(Instr.keyThatStays (.int k z) (.int k z)).run P W = .ok (.int k z) W:=fun W=>by simp [Instr.keyThatStays,Instr.sameBits]
  have GD:es.toList.modify i (fun e=>{ e with key:=.int k z }) = es.toList:=by
   rw [ChangeMaps.modify_eq_set _ _ _ _ (List.getElem?_eq_getElem h7)]
   have:({ es.toList[i] with key:=.int k z }:MapEntry) = es.toList[i]:=by rw [← h8]
   rw [this,List.set_getElem_self]
  refine ⟨ChangeMaps.setBlock w b (.map (es.modify i fun e=>{ e with key:=.int k z }) cl),v,es.toList[i].born,by simp [Instr.mapEntry,run_underlying ht,MapKept.run_getObj_map h1,ez hk,ft hk h2,h6,FG,h8',sO,MapKept.run_setObj_map _ h1,Result.andThen,ChangeMaps.setBlock],⟨_,_,el w _ jF,?_,?_,?_,?_,?_⟩,fu _ _ _⟩
  all_goals rw [Array.toList_modify,GD]
  ·exact h2
  ·exact h3
  ·exact hb
  ·exact fun x _=>h4 x
  ·exact ⟨i,v,h6,h7,rfl⟩
theorem sr {s:Nat} {z:Int} (h:MapS w b k f z s) (val:Value) :
  ∃w',(Instr.entryStore t (.map (some b)) (goInt (s:Nat)) val).run P w = .ok () w'∧MapB w' b k (fun y=>if y = z then some val else f y)∧Chg [b] w w':=by
 have jF:=h.lt
 obtain ⟨es,cl,h1,h2,h3,hb,h4,i,v,h6,hi,hs⟩:=h
 obtain ⟨i',e1,h7,h8,h9⟩:=fg _ _ h6
 obtain rfl:i = i':=by omega
 have qG:i < es.size:=by simpa using hi
 have Gg:es.findIdx? (fun e=>(e.born:Int) == (s:Int)) = some i:=by
  rw [Array.findIdx?_eq_some_iff_getElem]
  refine ⟨qG,by simp at hs ⊢;omega,fun j hj=>?_⟩
  have h5:=hb.1
  rw [List.pairwise_iff_getElem] at h5
  have kK:=h5 j i (by simp;omega) hi hj
  simp at kK hs ⊢
  omega
 have GE:es.toList.modify i (fun e=>{ e with val:=val }) = es.toList.modify i (fun e=>{ e with key:=.int k z,val:=val }):=by
  rw [ChangeMaps.modify_eq_set _ _ _ _ (List.getElem?_eq_getElem h7),ChangeMaps.modify_eq_set _ _ _ _ (List.getElem?_eq_getElem h7),h8]
 refine ⟨ChangeMaps.setBlock w b (.map (es.modify i fun e=>{ e with val:=val }) cl),by simp [Instr.entryStore,MapKept.run_getObj_map h1,goInt,asInt,asIntOf,Gg,MapKept.run_setObj_map _ h1,Result.andThen,ChangeMaps.setBlock],⟨_,_,el w _ jF,?_,?_,?_,?_⟩,fu _ _ _⟩
 ·intro x hx
  rw [Array.toList_modify,GE] at hx
  obtain ⟨j,hj,rfl⟩:=List.getElem_of_mem hx
  rw [List.getElem_modify]
  split
  ·exact ⟨z,rfl⟩
  ·exact h2 _ (List.getElem_mem _)
 ·rw [Array.toList_modify]
  unfold vr at h3 ⊢
  rw [List.pairwise_iff_getElem] at h3 ⊢
  intro a c ha hc FL
  have ka:∀(j:Nat) (hj:j < (es.toList.modify i fun e=>{ e with val:=val }).length),(es.toList.modify i fun e=>{ e with val:=val })[j].key = (es.toList[j]'(by simpa using hj)).key:=by
   intro j hj
   rw [List.getElem_modify]
   split
   ·rfl
   ·rfl
  rw [ka,ka]
  exact h3 a c _ _ FL
 ·rw [Array.toList_modify]
  exact hb.modify _ _ (fun _=>rfl)
 ·intro y
  rw [Array.toList_modify,GE,ud y _ _ _ h6 (by omega)]
  show _ = if y = z then some val else f y
  by_cases hy:y = z
  ·rw [if_pos hy,if_pos hy]
  ·rw [if_neg hy,if_neg hy,h4 y hy]
end
def pgs (g c:Int):Bool:=decide ((0≤g∧g < 1024)∧(1≤c∧c≤1024)∧g+c≤1024)
theorem eH (g c:Int) (w:World):Calls Tryz.prog 73 #[.int .i64 g,.int .i64 c] w fun e w'=>e = .returned (.bool (pgs g c))∧Chg [] w w':=by
 obtain ⟨R,hR⟩:∃R,R = pgs g c:=⟨_,rfl⟩
 rw [← hR]
 unfold pgs at hR
 have HR:=ah hR
 clear hR
 by_cases h0:0≤g
 case neg =>
  have d0:decide (0≤g) = false:=ac h0
  go_enter Tryz.func73,Tryz.ntmps73
  go_wp2_with fail
  go_ret
  exact ⟨by rw [HR.out,ac (by omega)];rfl,Chg.refl _ _⟩
 have d0:decide (0≤g) = true:=ae h0
 by_cases h1:g < 1024
 case neg =>
  have d1:decide (g < 1024) = false:=ac h1
  go_enter Tryz.func73,Tryz.ntmps73
  go_wp2_with fail
  go_ret
  exact ⟨by rw [HR.out,ac (by omega)];rfl,Chg.refl _ _⟩
 have d1:decide (g < 1024) = true:=ae h1
 by_cases h2:1≤c
 case neg =>
  have d2:decide (1≤c) = false:=ac h2
  go_enter Tryz.func73,Tryz.ntmps73
  go_wp2_with fail
  go_ret
  exact ⟨by rw [HR.out,ac (by omega)];rfl,Chg.refl _ _⟩
 have d2:decide (1≤c) = true:=ae h2
 by_cases h3:c≤1024
 case neg =>
  have d3:decide (c≤1024) = false:=ac h3
  go_enter Tryz.func73,Tryz.ntmps73
  go_wp2_with fail
  go_ret
  exact ⟨by rw [HR.out,ac (by omega)];rfl,Chg.refl _ _⟩
 have d3:decide (c≤1024) = true:=ae h3
 have hw:IntKind.i64.wrap (g+c) = g+c:=by rw [IntKind.wrap_i64];omega
 by_cases h4:g+c≤1024
 ·have d4:decide (g+c≤1024) = true:=ae h4
  go_enter Tryz.func73,Tryz.ntmps73
  go_wp2_with fail
  go_ret
  exact ⟨by rw [HR.out,ae (by omega)];rfl,Chg.refl _ _⟩
 ·have d4:decide (g+c≤1024) = false:=ac h4
  go_enter Tryz.func73,Tryz.ntmps73
  go_wp2_with fail
  go_ret
  exact ⟨by rw [HR.out,ac (by omega)];rfl,Chg.refl _ _⟩
end Go.Proofs.YtfoleblcaloeoaaGreatDoor
