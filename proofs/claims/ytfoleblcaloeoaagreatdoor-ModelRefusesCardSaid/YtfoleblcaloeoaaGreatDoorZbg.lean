/- Texts merged for the claim. -/
import Derived.Test.YtfoleblcaloeoaaGreatDoorZbf
set_option maxHeartbeats 40000000
set_option maxRecDepth 20000
namespace Go.Proofs.YtfoleblcaloeoaaGreatDoor.Ar
open Go Go.RowKit
@[irreducible] def pg (f:Int→Int):Array Value:=Array.ofFn (n:=1024) fun i=>.int .u8 (f i)
theorem ij (f:Int→Int):(pg f).size = 1024:=by unfold pg;simp
theorem oq (f:Int→Int) {i:Nat} (h:i < 1024):(pg f)[i]? = some (.int .u8 (f i)):=by unfold pg;simp [h]
theorem qk {f g:Int→Int} (h:∀q,0≤q→q < 1024→f q = g q):pg f = pg g:=by
 unfold pg
 congr 1
 funext i
 rw [h i (by omega) (by omega)]
theorem uf (f:Int→Int) (i:Nat) (v:Int):(pg f).setIfInBounds i (.int .u8 v) = pg (fun q=>if q = i then v else f q):=by
 apply Array.ext_getElem?
 intro j
 rw [Array.getElem?_setIfInBounds]
 by_cases hj:j < 1024
 ·rw [oq _ hj,oq _ hj]
  by_cases e:i = j
  ·subst e;simp [ij,hj]
  ·rw [if_neg e,if_neg (by omega)]
 ·have h1:(pg f)[j]? = none:=Array.getElem?_eq_none (by rw [ij];omega)
  have h2:(pg (fun q=>if q = i then v else f q))[j]? = none:=Array.getElem?_eq_none (by rw [ij];omega)
  rw [h1,h2,ij]
  split
  ·rename_i e;rw [if_neg (by omega)]
  ·rfl
theorem ws (f:Int→Int):(pg f).all (·.oneCell') = true:=by
 unfold pg
 rw [Array.all_eq_true]
 intro i hi
 simp [Value.oneCell']
structure RI (f:Int→Int) (k:Nat) (m:List Rn):Prop where
 nm:Nm 0 0 m
 all:∀q,rt m q = if 0≤q∧q < k then f q else 0
 le:(fin 0 0 m).1≤k
 at_:(fin 0 0 m).1 = k→(k = 0∧(fin 0 0 m).2 = 0)∨(0 < k∧(fin 0 0 m).2 = f ((k:Int) - 1))
 last:0 < k→f ((k:Int) - 1)≠0→m≠[]∧fin 0 0 m = ((k:Int),f ((k:Int) - 1))
 len:m.length≤k
theorem RI.zero (f:Int→Int):RI f 0 []:=⟨trivial,fun q=>by rw [if_neg (by omega)];rfl,Int.le_refl _,fun _=>.inl ⟨rfl,rfl⟩,fun h=>by omega,Nat.le_refl _⟩
theorem RI.skip {f:Int→Int} {k:Nat} {m:List Rn} (h:RI f k m) (h0:f k = 0):RI f (k+1) m:=by
 have e:((k+1:Nat):Int) - 1 = k:=by omega
 refine ⟨h.nm,fun q=>?_,by have:=h.le;omega,fun e=>by have:=h.le;omega,fun _ hn=>?_,by have:=h.len;omega⟩
 ·rw [h.all]
  by_cases hq:0≤q∧q < k
  ·rw [if_pos hq,if_pos (by omega)]
  ·rw [if_neg hq]
   by_cases mD:0≤q∧q < ((k+1:Nat):Int)
   ·rw [if_pos mD,show q = k by omega,h0]
   ·rw [if_neg mD]
 ·rw [e] at hn;exact absurd h0 hn
theorem RI.new {f:Int→Int} {k:Nat} {m:List Rn} (h:RI f k m) (h0:f k≠0) (h1:k = 0∨f ((k:Int) - 1)≠f k):RI f (k+1) (m ++ [⟨k,1,f k⟩]):=by
 have e:((k+1:Nat):Int) - 1 = k:=by omega
 have hn:Nm 0 0 (m ++ [⟨(k:Int),1,f k⟩]):=by
  rw [lh]
  refine ⟨h.nm,h.le,by show (1:Int)≤1;omega,h0,fun he=>?_⟩
  show f k≠_
  rcases h.at_ he.symm with ⟨a,b⟩ | ⟨a,b⟩
  ·rw [b];exact h0
  ·rw [b]
   rcases h1 with h1 | h1
   ·omega
   ·exact fun x=>h1 x.symm
 have hf:=gg 0 0 m ⟨(k:Int),1,f k⟩
 have ee:(⟨(k:Int),1,f k⟩:Rn).e = ((k+1:Nat):Int):=by show (k:Int)+1 = _;omega
 rw [ee] at hf
 refine ⟨hn,fun q=>?_,by rw [hf];exact Int.le_refl _,fun _=>.inr ⟨by omega,by rw [hf,e]⟩,fun _ _=>⟨by simp,by rw [hf,e]⟩,by have:=h.len;simp;omega⟩
 rw [ot hn,ee,h.all]
 by_cases hq:(k:Int)≤q∧q < ((k+1:Nat):Int)
 ·rw [if_pos (c:=(k:Int)≤q∧q < ((k+1:Nat):Int)) hq,if_pos (by omega),show q = k by omega]
 ·rw [if_neg (c:=(k:Int)≤q∧q < ((k+1:Nat):Int)) hq]
  by_cases mD:0≤q∧q < k
  ·rw [if_pos mD,if_pos (by omega)]
  ·rw [if_neg mD,if_neg (by omega)]
theorem RI.more {f:Int→Int} {k:Nat} {m:List Rn} (h:RI f k m) (h0:f k≠0) (hk:0 < k) (h1:f ((k:Int) - 1) = f k):∃l x,m = l ++ [x]∧RI f (k+1) (l ++ [⟨x.p,x.c+1,x.g⟩])∧0≤x.c∧x.c≤(k:Int):=by
 have e:((k+1:Nat):Int) - 1 = k:=by omega
 obtain ⟨hm,hf⟩:=h.last hk (by rw [h1];exact h0)
 rcases List.eq_nil_or_concat m with rfl | ⟨l,x,rfl⟩
 ·exact absurd rfl hm
 rw [List.concat_eq_append] at h hf ⊢
 have hn:=h.nm
 rw [gg] at hf
 have zT:x.p+x.c = k:=congrArg Prod.fst hf
 have hxg:x.g = f k:=by rw [← h1];exact congrArg Prod.snd hf
 rw [lh] at hn
 obtain ⟨n1,n2,n3,n4,n5⟩:=hn
 have n6:=tz n1
 have qT:Nm 0 0 (l ++ [⟨x.p,x.c+1,x.g⟩]):=by
  rw [lh]
  exact ⟨n1,n2,by show 1≤x.c+1;omega,n4,n5⟩
 have ee:(⟨x.p,x.c+1,x.g⟩:Rn).e = ((k+1:Nat):Int):=by show x.p+(x.c+1) = _;omega
 have ex:x.e = (k:Int):=zT
 refine ⟨l,x,rfl,⟨qT,fun q=>?_,by rw [gg,ee];exact Int.le_refl _,fun _=>.inr ⟨by omega,by rw [gg,e];exact hxg⟩,fun _ _=>⟨by simp,by rw [gg,ee,e];rw [← hxg]⟩,by have:=h.len;simp at this ⊢;omega⟩,by omega,by omega⟩
 have hr:=h.all q
 rw [ot h.nm,ex] at hr
 rw [ot qT,ee]
 show (if x.p≤q∧q < ((k+1:Nat):Int) then x.g else rt l q) = _
 by_cases hq:q = k
 ·subst hq
  rw [if_pos (by omega),if_pos (by omega),hxg]
 ·by_cases mD:x.p≤q∧q < k
  ·rw [if_pos mD] at hr
   rw [if_pos (by omega),hr,if_pos (by omega),if_pos (by omega)]
  ·rw [if_neg mD] at hr
   rw [if_neg (by omega),hr]
   by_cases Ew:0≤q∧q < k
   ·rw [if_pos Ew,if_pos (by omega)]
   ·rw [if_neg Ew,if_neg (by omega)]
theorem RI.done {f:Int→Int} {m l:List Rn} (h:RI f 1024 m) (hl:Nm 0 0 l) (hf:∀q,rt l q = if 0≤q∧q < 1024 then f q else 0):m = l :=
 nm_ext h.nm hl fun q=>by rw [h.all,hf];rfl
end Go.Proofs.YtfoleblcaloeoaaGreatDoor.Ar
namespace Go.Proofs.YtfoleblcaloeoaaGreatDoor
open Go Go.RowKit
open Ar (pg oq ij qk uf ws)
abbrev PA (w:World) (b:Nat) (f:Int→Int):Prop:=Blk w b 95 (pg f)
theorem PA.get {w:World} {b:Nat} {f:Int→Int} (h:PA w b f) {i:Nat} (hi:i < 1024):w.cell? ⟨b,i,none⟩ = some (.int .u8 (f i)):=(h.cell i).trans (oq f hi)
theorem infoA {f:Int→Int}:(Tryz.prog.info? 95).map (·.size) = some (pg f).size:=by
 have h:(Tryz.prog.info? 95).map (·.size) = some 1024:=by kernel_rfl
 rw [ij];exact h
section
variable {ops:Array Oper} {rest:List Oper} {o:Oper} {a:Act} {w:World} {Q:Exit→Act→World→Prop} {b:Nat} {f g:Int→Int}
theorem dD (hg:o.guard = none) (z:Operand) (ho:o.op = .box 95 z) (hx:a.eval z = .agg (pg f))
  (h:∀w',PA w' w.heap.size f→Chg [] w w'→wpList Tryz.prog ops Q rest (a.put o.dst (.pointer (some ⟨w.heap.size,0,none⟩))) w'):wpList Tryz.prog ops Q (o :: rest) a w :=
 Great.wpList_runTo hg _ rfl _ _ (by unfold execOp;simp only [ho,hx,Sem.run_bind,Instr.box,newVar,newRow,run_newObj_alloc,Sem.run_pure,Result.andThen_ok,Value.cells]) (h _ (Blk.new w _ _) ((Chg.refl [] w).alloc _))
end
theorem xa {w:World} {f:Int→Int} {l:List Ar.Rn} (hl:Ar.Nm 0 0 l) (hf:∀q,Ar.rt l q = if 0≤q∧q < 1024 then f q else 0) :
  Calls Tryz.prog 123 #[.agg (pg f)] w fun e w'=>e = .returned (.int .i64 l.length)∧Chg [] w w':=by
 have HD:Hid (∀m,Ar.RI f 1024 m→m = l):=ah fun m hm=>hm.done hl hf
 clear hl hf
 go_enter Tryz.func123,Tryz.ntmps123
 go_wp2_with (refine dD (f:=f) rfl _ rfl rfl ?_;intro W1 h1 jH;have H1:=ah h1;have lD:=ah jH;clear h1 jH)
 go_loopw [3,4] (fun n i wr=>∃(k:Nat) (m:List Ar.Rn),k≤1024∧i = .int .i64 k∧n = .int .i64 m.length∧Hid (Ar.RI f k m)∧Hid (Chg [] W1 wr)) (fun _ i _=>1024 - (intOf i).toNat)
 case atStart=>exact ⟨0,[],by omega,rfl,rfl,ah (Ar.RI.zero f),ah (Chg.refl _ _)⟩
 case round =>
  obtain ⟨k,m,hk,rfl,rfl,Ez,jV⟩:=hrel
  have BE:=ah Ez.out
  have HC:=ah jV.out
  have pL:=Ez.out.len
  clear Ez jV
  have sA:=(show PA wr w.heap.size f from H1.out.chg HC.out ab)
  have lpa:=sA.lt
  obtain ⟨ml,Ds⟩:∃n,n = m.length:=⟨_,rfl⟩
  rw [← Ds] at pL ⊢
  have Fk:=ah Ds
  clear Ds
  by_cases mQ:k < 1024
  ·have dl:decide ((k:Int) < 1024) = true:=ae (by omega)
   have dl':decide (k < 1024) = true:=ae mQ
   have i0:(0:Int)≤(k:Int):=by omega
   have i1:(k:Int) < 1024:=by omega
   have mS:IntKind.i64.wrap ((k:Int)+1) = (k:Int)+1:=by rw [IntKind.wrap_i64];omega
   have hwm:IntKind.i64.wrap ((ml:Int)+1) = (ml:Int)+1:=by rw [IntKind.wrap_i64];omega
   obtain ⟨x,hx⟩:∃x,x = f (k:Int):=⟨_,rfl⟩
   have q0:=sA.get mQ
   rw [← hx] at q0
   have HX:=ah hx
   have tY:=ah mQ
   clear hx hk mQ pL
   by_cases h0:x = 0
   ·subst h0
    clear sA
    go_upto_region 5 with (fail)
    refine rgt [0,0,1,0,0,0,0,0,0,0,0,1,0,0,1,0,0,0] [none,none,none,none,none,some (13,true),some (13,true),some (13,true),some (16,false),some (16,false),some (16,false),some (16,false),some (16,false),some (16,false),some (16,false),some (16,false),some (13,true),none] (fun _=>True) ?_
    go_wp2_with (first|refine ay ?_ ?_;(focus (simp [bb,undef];done));go_simp|refine av fun K I=>?_|refine ay ?_ ?_;(focus (simp [bb];done));go_simp|refine bh ?_ ?_;(focus (simp [bb];done))|refine ai fun K I=>?_;go_simp;refine I _ _ ?_;clear I K|refine ao fun K I=>?_;go_simp|refine aj ?_)
    go_roundw
    case rel=>exact ⟨k+1,m,by have:=tY.out;omega,by go_num,by rw [Fk.out],ah (BE.out.skip HX.out.symm),ah HC.out.drew⟩
    case measure=>have:=tY.out;simp [intOf];omega
   have n0:(x == 0) = false:=beq_false_of_ne h0
   have n0':(x != 0) = true:=by simp [h0]
   have Fv:=ah h0
   clear h0
   by_cases oB:k = 0
   ·subst oB
    clear sA
    go_upto_region 5 with (fail)
    refine rgt [0,0,1,0,0,0,0,0,0,0,0,1,0,0,1,0,0,0] [none,none,none,none,none,some (13,true),some (13,true),some (13,true),some (16,false),some (16,false),some (16,false),some (16,false),some (16,false),some (16,false),some (16,false),some (16,false),some (13,true),none] (fun _=>True) ?_
    go_wp2_with (first|refine ay ?_ ?_;(focus (simp [bb,undef];done));go_simp|refine av fun K I=>?_|refine ay ?_ ?_;(focus (simp [bb];done));go_simp|refine bh ?_ ?_;(focus (simp [bb];done))|refine ai fun K I=>?_;go_simp;refine I _ _ ?_;clear I K|refine ao fun K I=>?_;go_simp|refine aj ?_)
    go_roundw
    case rel=>exact ⟨0+1,m ++ [⟨0,1,f 0⟩],by omega,by go_num,by rw [Fk.out];simp,ah (BE.out.new (by rw [← HX.out];exact Fv.out) (.inl rfl)),ah HC.out.drew⟩
    case measure=>simp [intOf]
   have q1:=sA.get (i:=k - 1) (by have:=tY.out;omega)
   have ek:((k - 1:Nat):Int) = (k:Int) - 1:=by omega
   obtain ⟨y,hy⟩:∃y,y = f ((k:Int) - 1):=⟨_,rfl⟩
   rw [ek,← hy] at q1
   have HY:=ah hy
   have j1:(0:Int)≤(k:Int) - 1:=by omega
   have j2:(k:Int) - 1 < 1024:=by omega
   have j3:((k:Int) - 1).toNat = k - 1:=by omega
   have j4:((k:Int) == 0) = false:=beq_false_of_ne (by omega)
   have j5:decide (k = 0) = false:=ac oB
   have j6:IntKind.i64.wrap ((k:Int) - 1) = (k:Int) - 1:=by rw [IntKind.wrap_i64];omega
   have mN:=ah oB
   clear hy oB ek sA
   by_cases BY:y = x
   ·subst BY
    go_upto_region 5 with (fail)
    refine rgt [0,0,1,0,0,0,0,0,0,0,0,1,0,0,1,0,0,0] [none,none,none,none,none,some (13,true),some (13,true),some (13,true),some (16,false),some (16,false),some (16,false),some (16,false),some (16,false),some (16,false),some (16,false),some (16,false),some (13,true),none] (fun _=>True) ?_
    go_wp2_with (first|refine ay ?_ ?_;(focus (simp [bb,undef];done));go_simp|refine av fun K I=>?_|refine ay ?_ ?_;(focus (simp [bb];done));go_simp|refine bh ?_ ?_;(focus (simp [bb];done))|refine ai fun K I=>?_;go_simp;refine I _ _ ?_;clear I K|refine ao fun K I=>?_;go_simp|refine aj ?_)
    go_roundw
    case rel =>
     obtain ⟨l',r,e1,h2,-,-⟩:=BE.out.more (by rw [← HX.out];exact Fv.out) (by have:=mN.out;omega) (by rw [← HY.out,← HX.out])
     exact ⟨k+1,l' ++ [⟨r.p,r.c+1,r.g⟩],by have:=tY.out;omega,by go_num,by rw [Fk.out,e1];simp,ah h2,ah HC.out.drew⟩
    case measure=>have:=tY.out;simp [intOf];omega
   ·have n1:(y == x) = false:=beq_false_of_ne BY
    have n1':(y != x) = true:=by simp [BY]
    have HYX:=ah BY
    clear BY
    go_upto_region 5 with (fail)
    refine rgt [0,0,1,0,0,0,0,0,0,0,0,1,0,0,1,0,0,0] [none,none,none,none,none,some (13,true),some (13,true),some (13,true),some (16,false),some (16,false),some (16,false),some (16,false),some (16,false),some (16,false),some (16,false),some (16,false),some (13,true),none] (fun _=>True) ?_
    go_wp2_with (first|refine ay ?_ ?_;(focus (simp [bb,undef];done));go_simp|refine av fun K I=>?_|refine ay ?_ ?_;(focus (simp [bb];done));go_simp|refine bh ?_ ?_;(focus (simp [bb];done))|refine ai fun K I=>?_;go_simp;refine I _ _ ?_;clear I K|refine ao fun K I=>?_;go_simp|refine aj ?_)
    go_roundw
    case rel=>exact ⟨k+1,m ++ [⟨k,1,f k⟩],by have:=tY.out;omega,by go_num,by rw [Fk.out];simp,ah (BE.out.new (by rw [← HX.out];exact Fv.out) (.inr (by rw [← HX.out,← HY.out];exact HYX.out))),ah HC.out.drew⟩
    case measure=>have:=tY.out;simp [intOf];omega
  ·obtain rfl:k = 1024:=by omega
   obtain rfl:ml = l.length:=by rw [Fk.out,HD.out m BE.out]
   clear mQ hk sA
   go_wp2_with fail
   go_ret
   exact ⟨rfl,lD.out.stay HC.out⟩
theorem iO {w:World} {p:Pr} {b1 d1 bp1 bo1 b2 d2 bp2 bo2:Nat} {FA1 FA2:List Nat} {fp1 fo1 fp2 fo2:Int→Option Value} {gp1 gp2:Int→Nat} (h1:PIn w b1 p d1 FA1 bp1 bo1 fp1 fo1 gp1) (h2:PIn w b2 p d2 FA2 bp2 bo2 fp2 fo2 gp2) :
  Calls Tryz.prog 47 #[.pointer (some ⟨b1,0,none⟩),.pointer (some ⟨b2,0,none⟩)] w fun e w'=>e = .returned (.bool true)∧Chg [] w w':=by
 have AM:=ah (fun W (h:Chg [] w W)=>h1.cp (CP.of0 (F:=fun _=>False) h) (fun _ _ h=>h))
 have rS:=ah (fun W (h:Chg [] w W)=>h2.cp (CP.of0 (F:=fun _=>False) h) (fun _ _ h=>h))
 have kI:=ah (show ∀n,(gj p n).length = 256 from fun n=>by
  unfold gj
  cases hq:p.pg n with
  | none=>exact pd
  | some B=>exact (h1.pg n B hq).len)
 clear h1 h2
 go_enter Tryz.func47,Tryz.ntmps47
 go_wp2_with fail
 go_loopw [10] (fun i wr=>∃k:Nat,k≤1024∧i = .int .i64 k∧Hid (Chg [] w wr)) (fun i _=>1024 - (intOf i).toNat)
 case atStart=>exact ⟨0,by omega,rfl,ah (Chg.refl _ _)⟩
 case round =>
  obtain ⟨k,hk,rfl,jV⟩:=hrel
  have HC:=ah jV.out
  clear jV
  by_cases mQ:k < 1024
  ·have dl:decide ((k:Int) < 1024) = true:=ae (by omega)
   have dl':decide (k < 1024) = true:=ae mQ
   have mS:IntKind.i64.wrap ((k:Int)+1) = (k:Int)+1:=by rw [IntKind.wrap_i64];omega
   have q1:wr.cell? ⟨b1,0,none⟩ = some (.pointer (some ⟨d1,0,none⟩)):=by simpa [prc] using (AM.out wr HC.out).blk.cell 0
   have l1:=(AM.out wr HC.out).blk.lt
   have tY:=ah mQ
   obtain ⟨r,hr⟩:∃r,r = Ar.rt p.rl k:=⟨_,rfl⟩
   obtain ⟨y,hy⟩:∃y,y = Ar.hasB p.rl k:=⟨_,rfl⟩
   have jH:=fun W (h:Chg [] w W)=>Ar.rights_at (AM.out W h).ar (AM.out W h).sp (k:Int)
   have jA:=fun W (h:Chg [] w W)=>Ar.rights_at (rS.out W h).ar (rS.out W h).sp (k:Int)
   rw [← hr,← hy] at jH jA
   have Fo:=ah jH
   have CC:=ah jA
   obtain ⟨pa,pb,Gy⟩:∃pa pb:Nat,ky p k = (pa,pb):=⟨_,_,rfl⟩
   have BQ:=fun W (h:Chg [] w W)=>of_pr (AM.out W h) (k:Int)
   have BS:=fun W (h:Chg [] w W)=>of_pr (rS.out W h) (k:Int)
   rw [Gy] at BQ BS
   have HO1:=ah BQ
   have HO2:=ah BS
   obtain ⟨B,hB⟩:∃B,B = gj p k:=⟨_,rfl⟩
   have Bg:=fun W (h:Chg [] w W)=>gC (AM.out W h) (k:Int)
   have oU:=fun W (h:Chg [] w W)=>gC (rS.out W h) (k:Int)
   rw [← hB] at Bg oU
   have hlB:B.length = 256:=by rw [hB];exact kI.out _
   have HG1:=ah Bg
   have HG2:=ah oU
   have heqa:∀W,(Op.equalIn 10000 138 (.agg (pgc B)) (.agg (pgc B))).run Tryz.prog W = .ok true W:=fun W=>eq_pageI W hlB
   have wK:∀W,(Op.equalIn 10000 45 (.agg #[.int .u8 pa,.int .u8 pb]) (.agg #[.int .u8 pa,.int .u8 pb])).run Tryz.prog W = .ok true W:=fun W=>by rw [show true = ((pa:Int) == (pa:Int) && (pb:Int) == (pb:Int)) by simp];exact od W _ _ _ _
   clear hr hy jH jA Gy BQ BS hB Bg oU hlB mQ hk
   go_wp2_with fail
   refine (Fo.out wr HC.out).mono ?_
   rintro e V1 ⟨rfl,EC⟩
   have lD:=ah (HC.out.stay EC)
   have q2:V1.cell? ⟨b2,0,none⟩ = some (.pointer (some ⟨d2,0,none⟩)):=by simpa [prc] using (rS.out V1 lD.out).blk.cell 0
   have l2:=(rS.out V1 lD.out).blk.lt
   clear EC q1 l1
   go_wp2_with fail
   refine (CC.out V1 lD.out).mono ?_
   rintro e V2 ⟨rfl,hv2⟩
   have jU:=ah (lD.out.stay hv2)
   clear hv2 q2 l2
   go_wp2_with fail
   refine (HO1.out V2 jU.out).mono ?_
   rintro e V3 ⟨rfl,hv3⟩
   have jE:=ah (jU.out.stay hv3)
   clear hv3
   go_wp2_with fail
   refine (HO2.out V3 jE.out).mono ?_
   rintro e V4 ⟨rfl,xE⟩
   have jR:=ah (jE.out.stay xE)
   clear xE
   go_wp2_with fail
   refine (HG1.out V4 jR.out).mono ?_
   rintro e V5 ⟨rfl,DF⟩
   have jL:=ah (jR.out.stay DF)
   clear DF
   go_wp2_with fail
   refine (HG2.out V5 jL.out).mono ?_
   rintro e V6 ⟨rfl,hv6⟩
   have kR:=ah (jL.out.stay hv6)
   clear hv6
   go_wp2_with fail
   go_roundw
   case rel=>exact ⟨k+1,by have:=tY.out;omega,by go_num,kR⟩
   case measure=>have:=tY.out;simp [intOf];omega
  ·obtain rfl:k = 1024:=by omega
   clear mQ hk
   go_wp2_with fail
   go_ret
   exact ⟨rfl,HC.out⟩
theorem Same_any {w:World} {m1 m2:Nat} {M:Mo} {bp1 bo1 be1 bp2 bo2 be2:Nat} {fp1 fo1 fe1 fp2 fo2 fe2:Int→Option Value} {gb1 gb2:Int→Nat} {GF1 GF2:Int→Nat→Prop} {ov1 ov2:Int→Value}
  (h1:MIn w m1 M bp1 bo1 be1 fp1 fo1 fe1 gb1 GF1 ov1) (h2:MIn w m2 M bp2 bo2 be2 fp2 fo2 fe2 gb2 GF2 ov2) :
  Calls Tryz.prog 16 #[.pointer (some ⟨m1,0,none⟩),.pointer (some ⟨m2,0,none⟩)] w fun e w'=>e = .returned (.bool true)∧Chg [] w w':=by
 have By:=ah (fun W (h:Chg [] w W)=>h1.cp (CP.of0 (F:=fun _=>False) h) (fun _ _ h=>h))
 have rR:=ah (fun W (h:Chg [] w W)=>h2.cp (CP.of0 (F:=fun _=>False) h) (fun _ _ h=>h))
 have pG:=ah (qi h1.blk)
 have Ad:=ah (qi h2.blk)
 have HEF:=ah (fun W (h:Chg [] w W)=>dS (By.out W h).mo (rR.out W h).mo (fun z=>by rw [h1.ho,h2.ho];cases M.ob z <;> rfl) (fun z v u hv hu=>by
  rw [h1.ho] at hv
  rw [h2.ho] at hu
  cases hB:M.ob z with
  | none=>rw [hB] at hv;cases hv
  | some B =>
   rw [hB] at hv hu
   obtain rfl:=Option.some.inj hv
   obtain rfl:=Option.some.inj hu
   exact ⟨B,((By.out W h).ob z B hB).1.re,((rR.out W h).ob z B hB).1.re,((By.out W h).ob z B hB).2.1⟩))
 have l1:=h1.blk.lt
 have l2:=h2.blk.lt
 clear h1 h2
 go_enter Tryz.func16,Tryz.ntmps16
 go_wp2_with fail
 refine pG.out.mono ?_
 rintro e V1 ⟨rfl,rfl⟩
 go_wp2_with fail
 refine Ad.out.mono ?_
 rintro e V2 ⟨rfl,rfl⟩
 go_upto_region 3 with (fail)
 refine rgt [0,0,0,5,0,0,0,5,3,0] [none,none,none,none,none,none,none,none,none,none] (fun W=>Chg [] w W) ?_
 have hS:Chg [] w w.drew:=(Chg.refl [] w).drew
 generalize w.drew = W0 at hS ⊢
 go_wp2_with (first|refine al 59 _ rfl rfl (fun w' J=>ca Tryz.underlying59 (cc (By.out w' J).blk).2.1) hS ?_|refine al 59 _ rfl rfl (fun w' J=>ca Tryz.underlying59 (cc (rR.out w' J).blk).2.1) hS ?_|refine ao fun K I=>?_;go_simp;refine (HEF.out W0 hS).mono ?_;rintro e W1 ⟨rfl,jH⟩;refine I _ _ ?_;clear I K|refine av fun K I=>?_|refine ai fun K I=>?_;go_simp;refine I _ _ ?_;clear I K|refine ao fun K I=>?_;go_simp|refine aj ?_)
 have AC:=ah (show Chg [] w W1 from hS.stay jH)
 clear hS jH HEF
 go_wp2_with fail
 go_loopw [5] (fun i wr=>∃k:Nat,1≤k∧k≤9∧i = .int .i64 k∧Hid (Chg [] w wr)) (fun i _=>9 - (intOf i).toNat)
 case atStart=>exact ⟨1,by omega,by omega,rfl,AC⟩
 case round =>
  obtain ⟨k,rX,hk,rfl,jV⟩:=hrel
  have HC:=ah jV.out
  clear jV
  by_cases mQ:k < 9
  ·have dl:decide ((k:Int)≤8) = true:=ae (by omega)
   have dl':decide (k≤8) = true:=ae (by omega)
   have mS:IntKind.i64.wrap ((k:Int)+1) = (k:Int)+1:=by rw [IntKind.wrap_i64];omega
   have tY:=ah (And.intro rX mQ)
   clear mQ hk rX
   have HH1:=ah (fun W (h:Chg [] w W)=>fF (By.out W h) (k:Int))
   have DU:=ah (fun W (h:Chg [] w W)=>fF (rR.out W h) (k:Int))
   have DW:=ah (fun W (h:Chg [] w W)=>sz (By.out W h) (k:Int))
   have HK2:=ah (fun W (h:Chg [] w W)=>sz (rR.out W h) (k:Int))
   cases hp:M.pr (k:Int) with
   | none =>
    have Dm:=HH1.out
    have Dn:=DU.out
    rw [hp] at Dm Dn
    have EN:=ah Dm
    have uZ:=ah Dn
    clear Dm Dn hp HH1 DU DW HK2
    go_upto_region 8 with (fail)
    refine rgt [0,0,6,0,0,6,0,0,0,0,6,0,0,0,0,5,0,5,0,0,0,5,0,5,6,0,0,0] [none,none,none,none,none,none,none,none,some (39,false),some (39,false),some (39,false),some (39,false),some (43,true),some (43,true),some (43,true),some (43,true),some (43,true),some (43,true),some (43,true),some (43,true),some (43,true),some (43,true),some (43,true),some (43,true),some (43,true),some (43,true),some (39,false),none] (fun W=>Chg [] w W) ?_
    have hS:Chg [] w wr.drew:=HC.out.drew
    generalize wr.drew = W0 at hS ⊢
    go_wp2_with (first|refine av fun K I=>?_|refine ay ?_ ?_;(focus (simp [bb];done));go_simp|refine bh ?_ ?_;(focus (simp [bb];done))|refine ai fun K I=>?_;go_simp;refine I _ _ ?_;clear I K|refine ao fun K I=>?_;go_simp|refine aj ?_)
    (refine aw hS fun K I=>?_)
    go_simp
    refine (EN.out _ hS).mono ?_
    rintro e V1 ⟨rfl,rfl⟩
    refine I _ _ hS ?_
    clear I K
    go_wp2_with (first|refine av fun K I=>?_|refine ay ?_ ?_;(focus (simp [bb];done));go_simp|refine bh ?_ ?_;(focus (simp [bb];done))|refine ai fun K I=>?_;go_simp;refine I _ _ ?_;clear I K|refine ao fun K I=>?_;go_simp|refine aj ?_)
    (refine aw hS fun K I=>?_)
    go_simp
    refine (uZ.out _ hS).mono ?_
    rintro e V1 ⟨rfl,rfl⟩
    refine I _ _ hS ?_
    clear I K
    go_wp2_with (first|refine av fun K I=>?_|refine ay ?_ ?_;(focus (simp [bb];done));go_simp|refine bh ?_ ?_;(focus (simp [bb];done))|refine ai fun K I=>?_;go_simp;refine I _ _ ?_;clear I K|refine ao fun K I=>?_;go_simp|refine aj ?_)
    (refine aw hS fun K I=>?_)
    go_simp
    refine (EN.out _ hS).mono ?_
    rintro e V1 ⟨rfl,rfl⟩
    refine I _ _ hS ?_
    clear I K
    go_wp2_with (first|refine av fun K I=>?_|refine ay ?_ ?_;(focus (simp [bb];done));go_simp|refine bh ?_ ?_;(focus (simp [bb];done))|refine ai fun K I=>?_;go_simp;refine I _ _ ?_;clear I K|refine ao fun K I=>?_;go_simp|refine aj ?_)
    go_roundw
    case rel=>exact ⟨k+1,by omega,by have:=tY.out;omega,by go_num,ah hS⟩
    case measure=>have:=tY.out;simp [intOf];omega
   | some p =>
    have Dm:=HH1.out
    have Dn:=DU.out
    have rX:=DW.out
    have pJ:=HK2.out
    rw [hp] at Dm Dn rX pJ
    have EN:=ah Dm
    have uZ:=ah Dn
    have AH:=ah rX
    have vC:=ah pJ
    have HPS:=ah (show ∀W,Chg [] w W→Calls Tryz.prog 47 #[.pointer (some ⟨gb1 k,0,none⟩),.pointer (some ⟨gb2 k,0,none⟩)] W fun e w'=>e = .returned (.bool true)∧Chg [] W w' from fun W h=>by
     obtain ⟨_,_,_,_,_,_,_,i1,_,_⟩:=(By.out W h).pr k p hp
     obtain ⟨_,_,_,_,_,_,_,i2,_,_⟩:=(rR.out W h).pr k p hp
     exact iO i1 i2)
    clear Dm Dn rX pJ hp HH1 DU DW HK2
    go_upto_region 8 with (fail)
    refine rgt [0,0,6,0,0,6,0,0,0,0,6,0,0,0,0,5,0,5,0,0,0,5,0,5,6,0,0,0] [none,none,none,none,none,none,none,none,some (39,false),some (39,false),some (39,false),some (39,false),some (43,true),some (43,true),some (43,true),some (43,true),some (43,true),some (43,true),some (43,true),some (43,true),some (43,true),some (43,true),some (43,true),some (43,true),some (43,true),some (43,true),some (39,false),none] (fun W=>Chg [] w W) ?_
    have hS:Chg [] w wr.drew:=HC.out.drew
    generalize wr.drew = W0 at hS ⊢
    go_wp2_with (first|refine av fun K I=>?_|refine ay ?_ ?_;(focus (simp [bb];done));go_simp|refine bh ?_ ?_;(focus (simp [bb];done))|refine ai fun K I=>?_;go_simp;refine I _ _ ?_;clear I K|refine ao fun K I=>?_;go_simp|refine aj ?_)
    (refine aw hS fun K I=>?_)
    go_simp
    refine (EN.out _ hS).mono ?_
    rintro e V1 ⟨rfl,rfl⟩
    refine I _ _ hS ?_
    clear I K
    go_wp2_with (first|refine av fun K I=>?_|refine ay ?_ ?_;(focus (simp [bb];done));go_simp|refine bh ?_ ?_;(focus (simp [bb];done))|refine ai fun K I=>?_;go_simp;refine I _ _ ?_;clear I K|refine ao fun K I=>?_;go_simp|refine aj ?_)
    (refine aw hS fun K I=>?_)
    go_simp
    refine (uZ.out _ hS).mono ?_
    rintro e V1 ⟨rfl,rfl⟩
    refine I _ _ hS ?_
    clear I K
    go_wp2_with (first|refine av fun K I=>?_|refine ay ?_ ?_;(focus (simp [bb];done));go_simp|refine bh ?_ ?_;(focus (simp [bb];done))|refine ai fun K I=>?_;go_simp;refine I _ _ ?_;clear I K|refine ao fun K I=>?_;go_simp|refine aj ?_)
    (refine aw hS fun K I=>?_)
    go_simp
    refine (EN.out _ hS).mono ?_
    rintro e V1 ⟨rfl,rfl⟩
    refine I _ _ hS ?_
    clear I K
    go_wp2_with (first|refine av fun K I=>?_|refine ay ?_ ?_;(focus (simp [bb];done));go_simp|refine bh ?_ ?_;(focus (simp [bb];done))|refine ai fun K I=>?_;go_simp;refine I _ _ ?_;clear I K|refine ao fun K I=>?_;go_simp|refine aj ?_)
    (refine al 58 _ rfl rfl (fun w' J=>ca Tryz.underlying58 (cc (By.out w' J).blk).1) hS ?_)
    go_wp2_with (first|refine av fun K I=>?_|refine ay ?_ ?_;(focus (simp [bb];done));go_simp|refine bh ?_ ?_;(focus (simp [bb];done))|refine ai fun K I=>?_;go_simp;refine I _ _ ?_;clear I K|refine ao fun K I=>?_;go_simp|refine aj ?_)
    (refine ly 58 _ _ false rfl rfl rfl (fun w' J=>AH.out w' J) hS ?_)
    go_wp2_with (first|refine av fun K I=>?_|refine ay ?_ ?_;(focus (simp [bb];done));go_simp|refine bh ?_ ?_;(focus (simp [bb];done))|refine ai fun K I=>?_;go_simp;refine I _ _ ?_;clear I K|refine ao fun K I=>?_;go_simp|refine aj ?_)
    (refine al 58 _ rfl rfl (fun w' J=>ca Tryz.underlying58 (cc (rR.out w' J).blk).1) hS ?_)
    go_wp2_with (first|refine av fun K I=>?_|refine ay ?_ ?_;(focus (simp [bb];done));go_simp|refine bh ?_ ?_;(focus (simp [bb];done))|refine ai fun K I=>?_;go_simp;refine I _ _ ?_;clear I K|refine ao fun K I=>?_;go_simp|refine aj ?_)
    (refine ly 58 _ _ false rfl rfl rfl (fun w' J=>vC.out w' J) hS ?_)
    go_wp2_with (first|refine av fun K I=>?_|refine ay ?_ ?_;(focus (simp [bb];done));go_simp|refine bh ?_ ?_;(focus (simp [bb];done))|refine ai fun K I=>?_;go_simp;refine I _ _ ?_;clear I K|refine ao fun K I=>?_;go_simp|refine aj ?_)
    (refine aw hS fun K I=>?_)
    go_simp
    refine (HPS.out _ hS).mono ?_
    rintro e V2 ⟨rfl,jA⟩
    replace hS:=hS.stay jA
    refine I _ _ hS ?_
    clear I K jA
    go_wp2_with (first|refine av fun K I=>?_|refine ay ?_ ?_;(focus (simp [bb];done));go_simp|refine bh ?_ ?_;(focus (simp [bb];done))|refine ai fun K I=>?_;go_simp;refine I _ _ ?_;clear I K|refine ao fun K I=>?_;go_simp|refine aj ?_)
    go_roundw
    case rel=>exact ⟨k+1,by omega,by have:=tY.out;omega,by go_num,ah hS⟩
    case measure=>have:=tY.out;simp [intOf];omega
  ·obtain rfl:k = 9:=by omega
   clear mQ hk rX
   go_wp2_with fail
   go_ret
   exact ⟨rfl,HC.out⟩
end Go.Proofs.YtfoleblcaloeoaaGreatDoor
