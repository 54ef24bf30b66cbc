/- Texts merged for the claim. -/
import Derived.Test.YtfoleblcaloeoaaGreatDoorZaj
set_option maxHeartbeats 40000000
set_option maxRecDepth 20000
namespace Go.Proofs.YtfoleblcaloeoaaGreatDoor
open Go Go.RowKit
def my (m:Nat):Nat→Nat
 | 0=>0
 | k+1=>my m k+if wf m k then 1 else 0
set_option maxRecDepth 100000 in
theorem eA:∀m:Fin 256,my m.1 8 = sm m.1:=by decide +kernel
set_option maxRecDepth 100000 in
theorem len8_all:∀m:Fin 256,∀n:Fin 9,(∀k:Fin 8,wf m.1 (k.1:Nat) = true→k.1 < n.1)↔sj m.1≤n.1:=by decide +kernel
theorem len8_iff {m n:Nat} (hm:m < 256) (hn:n≤8):sj m≤n↔∀k:Nat,k < 8→wf m k = true→k < n:=by
 rw [← len8_all ⟨m,hm⟩ ⟨n,by omega⟩]
 exact ⟨fun h k hk=>h ⟨k,hk⟩,fun h k=>h k.1 k.2⟩
theorem ue (m:Nat):∀k,my m k≤k
 | 0=>Nat.le_refl _
 | k+1=>by have:=ue m k;unfold my;split <;> omega
def mj (kind o:Nat):Bool:=decide (kind = 0∧o = 0∨kind = 1∧o = 1∨(kind = 2∨kind = 3)∧0 < o)
noncomputable def tf (c:Cf) (kind m:Nat):Bool:=mayB c && (decide ((sj m:Int)≤c 0) && mj kind (sm m))
theorem CB.stay_ {w w':World} {b:Nat} {c:Cf} (h:CB w b c) (hc:Chg [] w w'):CB w' b c:=Blk.chg h hc ab
theorem load_u8 {w:World} {a:Addr} {x:Int} (h:w.cell? a = some (.int .u8 x)):(loadVar 5 a).run Tryz.prog w = .ok (.int .u8 x) w:=cr Tryz.underlying5 h
theorem pmay_any (c:Cf) {kind m:Nat} (hk:kind < 256) (hm:m < 256) (w:World):Calls Tryz.prog 61 #[.agg (cg c),.agg #[.int .u8 kind,.int .u8 m]] w fun e w'=>e = .returned (.bool (tf c kind m))∧Chg [] w w':=by
 have HB:Hid (CB ((w.alloc (.cells (cg c) 26)).alloc (.cells #[.int .u8 kind,.int .u8 m] 45)) w.heap.size c):=ah ((Blk.new w 26 (cg c)).alloc _)
 have HP:Hid (Blk ((w.alloc (.cells (cg c) 26)).alloc (.cells #[.int .u8 kind,.int .u8 m] 45)) (w.heap.size+1) 45 #[.int .u8 kind,.int .u8 m]):=ah (by
  have:=Blk.new (w.alloc (.cells (cg c) 26)) 45 #[.int .u8 kind,.int .u8 m]
  rwa [af] at this)
 have HC:Hid (Chg [] w ((w.alloc (.cells (cg c) 26)).alloc (.cells #[.int .u8 kind,.int .u8 m] 45))):=ah (((Chg.refl [] w).alloc _).alloc _)
 obtain ⟨r,hr⟩:∃r,r = tf c kind m:=⟨_,rfl⟩
 rw [← hr]
 have HR:=ah hr
 clear hr
 obtain ⟨x,hx⟩:∃x,mayB c = x:=⟨_,rfl⟩
 have DQ:=ah (fun W=>zt c W)
 rw [hx] at DQ
 have HX:=ah hx
 clear hx
 have H35:=ah (fun W=>len8_any hm W)
 have H36:=ah (fun W=>ones_any hm W)
 cases x with
 | false =>
  obtain rfl:r = false:=by rw [HR.out,tf,HX.out];rfl
  go_enter Tryz.func61,Tryz.ntmps61
  go_wp2_with (first|refine cb rfl _ rfl rfl ?_)
  have hS:CB ((w.alloc (.cells (cg c) 26)).alloc (.cells #[.int .u8 kind,.int .u8 m] 45)).drew w.heap.size c∧Blk ((w.alloc (.cells (cg c) 26)).alloc (.cells #[.int .u8 kind,.int .u8 m] 45)).drew (w.heap.size+1) 45 #[.int .u8 kind,.int .u8 m]:=⟨HB.out,HP.out⟩
  have zY:=ah HC.out.drew
  refine rgt [5,6,0,0,0,5,6,0,5,0,0] [none,none,none,none,some (9,false),some (9,false),some (9,false),some (9,false),some (9,false),some (9,false),none] (fun W=>CB W w.heap.size c∧Blk W (w.heap.size+1) 45 #[.int .u8 kind,.int .u8 m]) ?_
  go_wp2_with (first|refine al 26 _ rfl rfl (fun w' J=>load26 J.1) hS ?_|refine av fun K I=>?_|refine ay ?_ ?_;(focus (simp [bb];done));go_simp|refine bh ?_ ?_;(focus (simp [bb];done))|refine ai fun K I=>?_;go_simp;refine I _ _ ?_;clear I K|refine ao fun K I=>?_;go_simp|refine aj ?_)
  (refine aw hS fun K I=>?_)
  go_simp
  refine (DQ.out _).mono ?_
  rintro e W2 ⟨rfl,jA⟩
  have kM:CB W2 w.heap.size c∧Blk W2 (w.heap.size+1) 45 #[.int .u8 kind,.int .u8 m]:=⟨CB.stay_ hS.1 jA,hS.2.chg jA ab⟩
  refine I _ _ kM ?_
  clear I K
  have jU:=ah (zY.out.stay jA)
  clear hS jA zY
  go_wp2_with (first|refine av fun K I=>?_|refine ay ?_ ?_;(focus (simp [bb];done));go_simp|refine bh ?_ ?_;(focus (simp [bb];done))|refine ai fun K I=>?_;go_simp;refine I _ _ ?_;clear I K|refine ao fun K I=>?_;go_simp|refine aj ?_)
  go_ret
  exact ⟨rfl,jU.out⟩
 | true =>
  have hM:=mayB_iff.1 HX.out
  obtain ⟨n,hn⟩:∃n:Nat,c 0 = n:=⟨(c 0).toNat,by have:=hM.n1;omega⟩
  have wO:n≤8:=by have:=hM.n8;omega
  have rM:sj m≤8:=by unfold sj;((repeat' split) <;> omega)
  have HN:=ah hn
  have sN:r = (decide (sj m≤n) && mj kind (sm m)):=by
   rw [HR.out,tf,HX.out,hn,Bool.true_and]
   congr 1
   simp
  have jC:=ah sN
  clear sN HR hM hn
  have ho8:sm m≤8:=by unfold sm;omega
  generalize sj m = y at H35 jC rM
  generalize sm m = o at H36 jC ho8
  have kL:(kind:Int) < 256:=by omega
  go_enter Tryz.func61,Tryz.ntmps61
  go_wp2_with (first|refine cb rfl _ rfl rfl ?_)
  have hS:CB ((w.alloc (.cells (cg c) 26)).alloc (.cells #[.int .u8 kind,.int .u8 m] 45)).drew w.heap.size c∧Blk ((w.alloc (.cells (cg c) 26)).alloc (.cells #[.int .u8 kind,.int .u8 m] 45)).drew (w.heap.size+1) 45 #[.int .u8 kind,.int .u8 m]:=⟨HB.out,HP.out⟩
  have zY:=ah HC.out.drew
  refine rgt [5,6,0,0,0,5,6,0,5,0,0] [none,none,none,none,some (9,false),some (9,false),some (9,false),some (9,false),some (9,false),some (9,false),none] (fun W=>CB W w.heap.size c∧Blk W (w.heap.size+1) 45 #[.int .u8 kind,.int .u8 m]) ?_
  go_wp2_with (first|refine al 26 _ rfl rfl (fun w' J=>load26 J.1) hS ?_|refine av fun K I=>?_|refine ay ?_ ?_;(focus (simp [bb];done));go_simp|refine bh ?_ ?_;(focus (simp [bb];done))|refine ai fun K I=>?_;go_simp;refine I _ _ ?_;clear I K|refine ao fun K I=>?_;go_simp|refine aj ?_)
  (refine aw hS fun K I=>?_)
  go_simp
  refine (DQ.out _).mono ?_
  rintro e W2 ⟨rfl,jA⟩
  have kM:CB W2 w.heap.size c∧Blk W2 (w.heap.size+1) 45 #[.int .u8 kind,.int .u8 m]:=⟨CB.stay_ hS.1 jA,hS.2.chg jA ab⟩
  refine I _ _ kM ?_
  clear I K
  have jU:=ah (zY.out.stay jA)
  clear hS jA zY
  go_wp2_with (first|refine al 5 _ rfl rfl (fun w' J=>load_u8 (by simpa using Blk.cell J.2 1)) kM ?_;go_simp|refine av fun K I=>?_|refine ay ?_ ?_;(focus (simp [bb];done));go_simp|refine bh ?_ ?_;(focus (simp [bb];done))|refine ai fun K I=>?_;go_simp;refine I _ _ ?_;clear I K|refine ao fun K I=>?_;go_simp|refine aj ?_)
  (refine aw kM fun K I=>?_)
  go_simp
  refine (H35.out _).mono ?_
  rintro e W3 ⟨rfl,rfl⟩
  refine I _ _ kM ?_
  clear I K
  have sM:∀w',(CB w' w.heap.size c∧Blk w' (w.heap.size+1) 45 #[.int .u8 kind,.int .u8 m])→(loadVar 3 ⟨w.heap.size,0,none⟩).run Tryz.prog w' = .ok (.int .i64 n) w':=fun w' h=>cr Tryz.underlying3 (by rw [CB.get h.1 (by omega),HN.out])
  have p0:=kM.2.cell 0
  have p1:=kM.2.cell 1
  simp at p0 p1
  by_cases hy:y≤n
  ·have y1:decide ((n:Int) < (y:Int)) = false:=ac (by omega)
   have y2:decide (n < y) = false:=ac (by omega)
   go_wp2_with (first|refine al 3 _ rfl rfl sM kM ?_;go_simp|refine av fun K I=>?_|refine ay ?_ ?_;(focus (simp [bb];done));go_simp|refine bh ?_ ?_;(focus (simp [bb];done))|refine ai fun K I=>?_;go_simp;refine I _ _ ?_;clear I K|refine ao fun K I=>?_;go_simp|refine aj ?_)
   refine (H36.out _).mono ?_
   rintro e W4 ⟨rfl,rfl⟩
   by_cases k0:kind = 0
   ·subst k0
    have hr:r = ((o:Int) == 0):=by rw [jC.out,Bool.eq_iff_iff];simp [mj];omega
    subst hr
    clear jC
    go_wp2_with fail
    go_ret
    exact ⟨rfl,jU.out⟩
   have j0:((kind:Int) == 0) = false:=by simp;omega
   have i0:(kind == 0) = false:=by simpa using k0
   by_cases k1:kind = 1
   ·subst k1
    have hr:r = ((o:Int) == 1):=by rw [jC.out,Bool.eq_iff_iff];simp [mj];omega
    subst hr
    clear jC
    go_wp2_with fail
    go_ret
    exact ⟨rfl,jU.out⟩
   have j1:((kind:Int) == 1) = false:=by simp;omega
   have i1:(kind == 1) = false:=by simpa using k1
   by_cases k2:kind = 2
   ·subst k2
    have hr:r = decide (0 < o):=by rw [jC.out,Bool.eq_iff_iff];simp [mj];omega
    subst hr
    clear jC
    go_wp2_with fail
    go_ret
    exact ⟨rfl,jU.out⟩
   have j2:((kind:Int) == 2) = false:=by simp;omega
   have i2:(kind == 2) = false:=by simpa using k2
   by_cases k3:kind = 3
   ·subst k3
    have hr:r = decide (0 < o):=by rw [jC.out,Bool.eq_iff_iff];simp [mj];omega
    subst hr
    clear jC
    go_wp2_with fail
    go_ret
    exact ⟨rfl,jU.out⟩
   have j3:((kind:Int) == 3) = false:=by simp;omega
   have i3:(kind == 3) = false:=by simpa using k3
   have hr:r = false:=by rw [jC.out,Bool.eq_false_iff];simp [mj];omega
   subst hr
   clear jC
   go_wp2_with fail
   go_ret
   exact ⟨rfl,jU.out⟩
  ·have y1:decide ((n:Int) < (y:Int)) = true:=ae (by omega)
   have y2:decide (n < y) = true:=ae (by omega)
   obtain rfl:r = false:=by rw [jC.out,ac hy];rfl
   go_wp2_with (first|refine al 3 _ rfl rfl sM kM ?_;go_simp|refine av fun K I=>?_|refine ay ?_ ?_;(focus (simp [bb];done));go_simp|refine bh ?_ ?_;(focus (simp [bb];done))|refine ai fun K I=>?_;go_simp;refine I _ _ ?_;clear I K|refine ao fun K I=>?_;go_simp|refine aj ?_)
   go_ret
   exact ⟨rfl,jU.out⟩
end Go.Proofs.YtfoleblcaloeoaaGreatDoor
namespace Go.Proofs.YtfoleblcaloeoaaGreatDoor.Ar
open Go Go.RowKit
theorem run_min (ts:Array TypeId) (ty:TypeId) (k k':IntKind) (x y:Int) (w:World):(Builtin.min_ ts ty #[.int k x,.int k' y]).run Tryz.prog w = .ok (.int k (min x y)) w:=by
 have e:min x y = if y < x then y else x:=by split <;> omega
 rw [e]
 simp [Builtin.min_,Builtin.min2]
theorem run_max (ts:Array TypeId) (ty:TypeId) (k k':IntKind) (x y:Int) (w:World):(Builtin.max_ ts ty #[.int k x,.int k' y]).run Tryz.prog w = .ok (.int k (max x y)) w:=by
 have e:max x y = if x < y then y else x:=by split <;> omega
 rw [e]
 simp [Builtin.max_,Builtin.max2]
def AMem (w:World) (d:Nat) (l:List Rn) (F:List Nat):Prop:=∃v,Blk w d 142 #[v]∧SR w v l∧(∀k∈d :: own v,k∈F)∧∀k∈F,k < w.heap.size
theorem AMem.chg {w w':World} {d:Nat} {l:List Rn} {F G:List Nat} (h:AMem w d l F) (hc:Chg G w w') (hd:∀k∈F,k∉G):AMem w' d l F:=by
 obtain ⟨v,hb,hs,hF,jF⟩:=h
 exact ⟨v,hb.chg hc (hd _ (hF _ (List.mem_cons_self ..))),hs.chg hc (fun k hk=>hd k (hF k (List.mem_cons_of_mem _ hk))),hF,fun k hk=>Nat.lt_of_lt_of_le (jF k hk) hc.size⟩
theorem AMem.stay {w w':World} {d:Nat} {l:List Rn} {F:List Nat} (h:AMem w d l F) (hc:Chg [] w w'):AMem w' d l F:=h.chg hc (by simp)
theorem AMem.lt {w:World} {d:Nat} {l:List Rn} {F:List Nat} (h:AMem w d l F):∀k∈F,k < w.heap.size:=h.choose_spec.2.2.2
theorem AMem.mem {w:World} {d:Nat} {l:List Rn} {F:List Nat} (h:AMem w d l F):d∈F:=h.choose_spec.2.2.1 _ (List.mem_cons_self ..)
theorem Okl.get {l:List Rn} (h:Okl l) {k:Nat} (hk:k < l.length):(-10000≤l[k].p∧l[k].p≤10000)∧-10000≤l[k].c∧l[k].c≤10000:=⟨(h _ (List.getElem_mem hk)).p,(h _ (List.getElem_mem hk)).c⟩
theorem gX {l:List Rn} {k:Nat} (hk:k < l.length) (page count:Int):cntL (l.take (k+1)) page count = cntL (l.take k) page count+ovl page count l[k]:=by
 unfold cntL
 rw [List.take_succ_eq_append_getElem hk,List.map_append,List.sum_append]
 simp
theorem ovl_bd {page count:Int} (h1:0≤count) (h2:count≤10000) (r:Rn):0≤ovl page count r∧ovl page count r≤10000:=by unfold ovl;omega
theorem fN {page count:Int} (h1:0≤count) (h2:count≤10000):∀l:List Rn,0≤cntL l page count∧cntL l page count≤10000 * l.length
 | []=>by simp [cntL]
 | r :: l=>by
  have ih:=fN (page:=page) h1 h2 l
  have:=ovl_bd (page:=page) h1 h2 r
  have e:cntL (r :: l) page count = ovl page count r+cntL l page count:=by simp [cntL]
  rw [e,List.length_cons]
  omega
theorem Sp.okl {l:List Rn} (h:Sp l):Okl l:=fun r hr=>by
 obtain ⟨h1,h2,h3,h4,h5⟩:=h.mem hr
 exact ⟨by omega,by omega⟩
theorem bL {w:World} {d:Nat} {l:List Rn} {F:List Nat} (hm:AMem w d l F) (hl:Okl l) (jN:l.length≤1000) (page count:Int) (hp:0≤page∧page≤1024) (hc:0≤count∧count≤1024) :
  Calls Tryz.prog 101 #[.pointer (some ⟨d,0,none⟩),.int .i64 page,.int .i64 count] w fun e w'=>e = .returned (.int .i64 (cntL l page count))∧Chg [] w w':=by
 obtain ⟨v,hb,hs,hF,jF⟩:=hm
 obtain ⟨A,c0,rfl⟩:=hs.form
 have b0:=hb.cell 0
 simp at b0
 have hdl:=hb.lt
 obtain ⟨Bg,oU⟩:=hp
 obtain ⟨jH,jA⟩:=hc
 have Hs:=ah hs
 have Hl:=ah hl
 have Hb:=ah hb
 clear hs hl hb hF jF
 go_enter Tryz.func101,Tryz.ntmps101
 go_wp2_with fail
 go_loopw [14,6] (fun i n wr=>∃(k:Nat) (t:Int),k≤l.length∧i = .int .i64 k∧n = .int .i64 t∧Hid (t = cntL (l.take k) page count)∧Chg [] w wr) (fun i _ _=>l.length - (intOf i).toNat)
 case atStart=>exact ⟨0,0,by omega,rfl,rfl,ah (by simp [cntL]),Chg.refl _ _⟩
 case round =>
  obtain ⟨k,t,hk,rfl,rfl,ht,jV⟩:=hrel
  have sJ:=fN (page:=page) jH (by omega:count≤10000) (l.take k)
  rw [← ht.out,List.length_take] at sJ
  obtain ⟨ht1,ht2⟩:0≤t∧t≤10000000:=by omega
  clear sJ
  by_cases mQ:k < l.length
  ·have vT:=Hs.out.stay jV
   obtain ⟨g0,off,rfl⟩:=SE.addr vT (by omega)
   obtain ⟨q0,q1,q2⟩:=RR.cells vT.re mQ
   have rW:g0 < wr.heap.size:=vT.own_lt g0 (by simp [own,Value.ownBlock])
   have nS:=Hl.out.get mQ
   have hts:=gX mQ page count
   obtain ⟨r,hr⟩:∃r,r = l[k]:=⟨_,rfl⟩
   rw [← hr] at q0 q1 q2 nS hts
   obtain ⟨⟨rp1,rp2⟩,rc1,rc2⟩:=nS
   clear hr vT
   obtain ⟨p,c,g⟩:=r
   simp only at *
   obtain ⟨m1,Dq⟩:∃m,m = min (p+c) (page+count):=⟨_,rfl⟩
   obtain ⟨m2,Dr⟩:∃m,m = max p page:=⟨_,rfl⟩
   obtain ⟨m3,zD⟩:∃m,m = max 0 (m1 - m2):=⟨_,rfl⟩
   have u1:=fun ts ty w=>run_min ts ty .i64 .i64 (p+c) (page+count) w
   have u2:=fun ts ty w=>run_max ts ty .i64 .i64 p page w
   have u3:=fun ts ty w=>run_max ts ty .i64 .i64 0 (m1 - m2) w
   rw [← Dq] at u1
   rw [← Dr] at u2
   rw [← zD] at u3
   have uU:m3 = ovl page count ⟨p,c,g⟩:=by rw [zD,Dq,Dr];rfl
   obtain ⟨a1,a2⟩:-100000≤m1∧m1≤100000:=by omega
   obtain ⟨a3,a4⟩:-100000≤m2∧m2≤100000:=by omega
   obtain ⟨a5,a6⟩:0≤m3∧m3≤200000:=by omega
   have Hov:Hid (t+m3 = cntL (l.take (k+1)) page count):=ah (by rw [hts,ht.out,uU])
   clear Dq Dr zD hts uU
   go_wp2_with fail
   refine ep [0,5,6,0,0,0,0,0,5,0,0,0,0,0,0] (List.replicate 15 none) (fun W=>Blk W wr.heap.size 144 #[.int .i64 p,.int .i64 c,.int .u8 g]) (by kernel_rfl) (by kernel_rfl) (by kernel_rfl) ?_
   have uI:Blk ((wr.alloc (.cells #[.int .i64 p,.int .i64 c,.int .u8 g] 144)).drew) wr.heap.size 144 #[.int .i64 p,.int .i64 c,.int .u8 g]:=(Blk.new wr 144 _).drew
   go_wp2_with (first|refine al 144 _ rfl rfl (fun w' J=>sw (by simpa using Blk.cell J 0) (by simpa using Blk.cell J 1) (by simpa using Blk.cell J 2)) uI ?_;go_simp|refine av fun K I=>?_|refine ay ?_ ?_;(focus (simp [bb];done));go_simp|refine bh ?_ ?_;(focus (simp [bb];done))|refine ai fun K I=>?_;go_simp;refine I _ _ ?_;clear I K|refine ao fun K I=>?_;go_simp|refine aj ?_)
   (refine aw uI fun K I=>?_)
   go_simp
   refine (kn p c g _ ⟨by omega,by omega⟩ ⟨by omega,by omega⟩).mono ?_
   rintro e W1 ⟨rfl,jH⟩
   have kF:=Blk.chg uI jH ab
   refine I _ _ kF ?_
   clear I K
   go_wp2_with (first|refine al 3 _ rfl rfl (fun w' J=>cr Tryz.underlying3 (by simpa using Blk.cell J 0)) kF ?_;go_simp|refine av fun K I=>?_|refine ay ?_ ?_;(focus (simp [bb];done));go_simp|refine bh ?_ ?_;(focus (simp [bb];done))|refine ai fun K I=>?_;go_simp;refine I _ _ ?_;clear I K|refine ao fun K I=>?_;go_simp|refine aj ?_)
   go_roundw
   case rel=>exact ⟨k+1,t+m3,by omega,by go_num,rfl,Hov,((jV.alloc _).drew).stay jH⟩
   case measure=>simp [intOf];omega
  ·have ek:l.take k = l:=List.take_of_length_le (by omega)
   rw [ek] at ht
   clear ek
   go_wp2_with fail
   go_ret
   refine ⟨?_,jV⟩
   show Ending.returned (.int .i64 t) = _
   rw [ht.out]
end Go.Proofs.YtfoleblcaloeoaaGreatDoor.Ar
namespace Go.Proofs.YtfoleblcaloeoaaGreatDoor.Ar
open Go Go.RowKit
structure WSt (w W:World) (bp bc bg b0 bd:Nat) (page count g:Int) (V:Value) (l:List Rn) (dn:Bool):Prop where
 chg:Chg [] w W
 p:Blk W bp 3 #[.int .i64 page]
 c:Blk W bc 3 #[.int .i64 count]
 g:Blk W bg 5 #[.int .u8 g]
 bl:Blk W b0 140 #[V]
 d:Blk W bd 4 #[.bool dn]
 s:SR W V l
 nl:w.heap.size≤b0
 nd:w.heap.size≤bd
 nV:∀k∈own V,w.heap.size≤k
section
variable {w W W':World} {bp bc bg bl bd:Nat} {page count g:Int} {V V':Value} {l l':List Rn} {dn:Bool}
theorem WSt.stay (h:WSt w W bp bc bg bl bd page count g V l dn) (hc:Chg [] W W'):WSt w W' bp bc bg bl bd page count g V l dn :=
 { h with chg:=h.chg.stay hc,p:=h.p.chg hc (by simp),c:=h.c.chg hc (by simp),g:=h.g.chg hc (by simp),bl:=h.bl.chg hc (by simp),d:=h.d.chg hc (by simp),s:=h.s.stay hc }
theorem km {e:TypeId} {size n:Nat} {v:Value} {cs:List Value} {b:Nat} {T:TypeId} {xs:Array Value} (h:Sl W e size v n cs) (hb:Blk W b T xs) (hT:T≠e):b∉own v:=fun hk=>by
 obtain ⟨cur,mT⟩:=Sl.blk h hk
 exact hb.ne_ mT hT rfl
theorem WSt.put (h:WSt w W bp bc bg bl bd page count g V l dn) (hs:SR W' V' l') (hc:Chg (own V) W W') (hg:Grow W V V'):WSt w (W'.setCell ⟨bl,0,none⟩ V') bp bc bg bl bd page count g V' l' dn:=by
 have hp:=h.p.chg hc (km h.s h.p (by decide))
 have ZQy:=h.c.chg hc (km h.s h.c (by decide))
 have hgg:=h.g.chg hc (km h.s h.g (by decide))
 have rN:=h.bl.chg hc (km h.s h.bl (by decide))
 have Ep:=h.d.chg hc (km h.s h.d (by decide))
 refine { chg:=(h.chg.trans hc (fun k hk=>.inr (h.nV k hk))).setCell (.inr h.nl) _,p:=hp.far (hp.ne_ rN (by decide)) _,c:=ZQy.far (ZQy.ne_ rN (by decide)) _,g:=hgg.far (hgg.ne_ rN (by decide)) _,bl:=?_,d:=Ep.far (Ep.ne_ rN (by decide)) _,s:=Sl.far hs (p:=⟨bl,0,none⟩) (fun e=>km hs rN (by decide) (gv.2 e)) _,nl:=h.nl,nd:=h.nd,nV:=fun k hk=>?_ }
 ·have:=rN.set_ 0 V'
  simpa using this
 ·rcases hg k hk with h' | h'
  ·exact h.nV k h'
  ·exact ag h.chg.size h'
theorem WSt.mark (h:WSt w W bp bc bg bl bd page count g V l dn):WSt w (W.setCell ⟨bd,0,none⟩ (.bool true)) bp bc bg bl bd page count g V l true where
 chg:=h.chg.setCell (.inr h.nd) _
 p:=h.p.far (h.p.ne_ h.d (by decide)) _
 c:=h.c.far (h.c.ne_ h.d (by decide)) _
 g:=h.g.far (h.g.ne_ h.d (by decide)) _
 bl:=h.bl.far (h.bl.ne_ h.d (by decide)) _
 d:=by have:=h.d.set_ 0 (.bool true);simpa using this
 s:=Sl.far h.s (p:=⟨bd,0,none⟩) (fun e=>km h.s h.d (by decide) (gv.2 e)) _
 nl:=h.nl
 nd:=h.nd
 nV:=h.nV
theorem WSt.cells (h:WSt w W bp bc bg bl bd page count g V l dn):W.cell? ⟨bp,0,none⟩ = some (.int .i64 page)∧W.cell? ⟨bc,0,none⟩ = some (.int .i64 count)∧W.cell? ⟨bg,0,none⟩ = some (.int .u8 g)∧W.cell? ⟨bl,0,none⟩ = some V∧W.cell? ⟨bd,0,none⟩ = some (.bool dn)∧W.frozen? ⟨bl,0,none⟩ = false∧W.frozen? ⟨bd,0,none⟩ = false:=by
 have a:=h.p.cell 0
 have b:=h.c.cell 0
 have c:=h.g.cell 0
 have d:=h.bl.cell 0
 have e:=h.d.cell 0
 simp at a b c d e
 exact ⟨a,b,c,d,e,h.bl.frozen 0,h.d.frozen 0⟩
theorem WSt.kept (h:WSt w W bp bc bg bl bd page count g V l dn) (hc:Chg (own V) W W'):W'.cell? ⟨bl,0,none⟩ = some V∧W'.frozen? ⟨bl,0,none⟩ = false∧W'.cell? ⟨bd,0,none⟩ = some (.bool dn)∧W'.frozen? ⟨bd,0,none⟩ = false∧bl≠bd:=by
 have rN:=h.bl.chg hc (km h.s h.bl (by decide))
 have Ep:=h.d.chg hc (km h.s h.d (by decide))
 have a:=rN.cell 0
 have b:=Ep.cell 0
 simp at a b
 exact ⟨a,rN.frozen 0,b,Ep.frozen 0,rN.ne_ Ep (by decide)⟩
theorem in_any (h:WSt w W bp bc bg bl bd page count g V l dn) (hl:Okl l) (jN:l.length≤100000) (hr:Okr ⟨page,count,g⟩) :
  Calls Tryz.prog 138 #[.pointer (some ⟨bd,0,none⟩),.pointer (some ⟨bl,0,none⟩),.pointer (some ⟨bp,0,none⟩),.pointer (some ⟨bc,0,none⟩),.pointer (some ⟨bg,0,none⟩)] W fun e w'=>e = .returned (.tuple #[])∧(∃A n c,WSt w w' bp bc bg bl bd page count g (.slice A n c) (if dn then l else ji l ⟨page,count,g⟩) true∧Grow W V (.slice A n c))∧Chg (bl :: bd :: own V) W w':=by
 obtain ⟨x0,x1,x2,x3,x4,f3,f4⟩:=h.cells
 obtain ⟨A0,c0,rfl⟩:=h.s.form
 cases dn with
 | true =>
  have H:=ah h
  clear h
  go_enter Tryz.func138,Tryz.ntmps138
  go_wp2_with fail
  go_end0
  exact ⟨rfl,⟨_,_,_,by simpa using H.out.mark,Grow.refl _ _⟩,(Chg.refl _ _).setCell (.inl (by simp)) _⟩
 | false =>
  have HP:=ah (vm h.s hl hr jN)
  have H:=ah h
  clear h
  go_enter Tryz.func138,Tryz.ntmps138
  go_wp2_with (go_at_call 139;refine HP.out.mono ?_;rintro e W1 ⟨A1,n1,c1,rfl,pC,jH,hg1⟩;have rX:=H.out.kept jH;obtain ⟨y1,y2,y3,y4,y5⟩:=rX)
  go_end0
  exact ⟨rfl,⟨_,_,_,by simpa using (H.out.put pC jH hg1).mark,hg1⟩,((jH.mono (fun _ hk=>.inl (List.mem_cons_of_mem _ (List.mem_cons_of_mem _ hk)))).setCell (.inl (by simp)) _).setCell (.inl (by simp)) _⟩
end
end Go.Proofs.YtfoleblcaloeoaaGreatDoor.Ar
namespace Go.Proofs.YtfoleblcaloeoaaGreatDoor.Ar
open Go Go.RowKit
theorem nm_fin {lo g:Int} {l:List Rn} (h:Nm lo g l) {r:Rn} (hr:r∈l):r.e≤(fin lo g l).1:=by
 induction l generalizing lo g with
 | nil=>cases hr
 | cons a l ih =>
  obtain ⟨h1,h2,h3,h4,h5⟩:=h
  rcases List.mem_cons.1 hr with rfl | hr
  ·exact tz h5
  ·exact ih h5 hr
theorem nm_len {lo g:Int} {l:List Rn} (h:Nm lo g l):(l.length:Int)≤(fin lo g l).1 - lo:=by
 induction l generalizing lo g with
 | nil=>simp [fin]
 | cons a l ih =>
  obtain ⟨h1,h2,h3,h4,h5⟩:=h
  have:=ih h5
  have e:a.e = a.p+a.c:=rfl
  have e2:(fin lo g (a :: l)).1 = (fin a.e a.g l).1:=rfl
  rw [e2,List.length_cons]
  omega
def Fit (l:List Rn):Prop:=Nm 0 0 l∧(fin 0 0 l).1≤2000
theorem Fit.ok {l:List Rn} (h:Fit l):Okl l:=fun r hr=>by
 obtain ⟨h1,h2,h3⟩:=dY h.1 hr
 have h4:=nm_fin h.1 hr
 have h5:=h.2
 have e:r.e = r.p+r.c:=rfl
 exact ⟨by omega,by omega⟩
theorem Fit.get {l:List Rn} (h:Fit l) {k:Nat} (hk:k < l.length):(0≤l[k].p∧l[k].p≤2000)∧1≤l[k].c∧l[k].c≤2000∧l[k].p+l[k].c≤2000:=by
 have hr:=List.getElem_mem hk
 obtain ⟨h1,h2,h3⟩:=dY h.1 hr
 have h4:=nm_fin h.1 hr
 have h5:=h.2
 have e:l[k].e = l[k].p+l[k].c:=rfl
 omega
theorem Fit.len {l:List Rn} (h:Fit l):l.length≤2000:=by have:=nm_len h.1;have:=h.2;omega
theorem Sp.fit {l:List Rn} (h:Sp l):Fit l:=by
 refine ⟨h.nm,?_⟩
 rcases List.eq_nil_or_concat l with rfl | ⟨l',x,rfl⟩
 ·simp [fin]
 ·rw [List.concat_eq_append] at h ⊢
  rw [gg]
  have:=h.mem (r:=x) (by simp)
  have e:x.e = x.p+x.c:=rfl
  show x.e≤2000
  omega
theorem Fit.cut {l m:List Rn} (h:Fit (l ++ m)):Fit l:=by
 obtain ⟨h1,h2⟩:=h
 have cut:∀(l m:List Rn) {lo g:Int},Nm lo g (l ++ m)→Nm lo g l∧(fin lo g l).1≤(fin lo g (l ++ m)).1:=fun l=>by
  induction l with
  | nil=>intro m lo g h;exact ⟨trivial,tz h⟩
  | cons a l ih=>intro m lo g h;obtain ⟨x,y⟩:=ih m h.2.2.2.2;exact ⟨⟨h.1,h.2.1,h.2.2.1,h.2.2.2.1,x⟩,y⟩
 obtain ⟨x,y⟩:=cut _ _ h1
 exact ⟨x,by omega⟩
def st1 (page:Int) (s:List Rn × Bool) (r:Rn):List Rn:=ji s.1 ⟨r.p,min r.e page - r.p,r.g⟩
def st2 (page count g:Int) (s:List Rn × Bool) (r:Rn):List Rn:=if page < r.e then (if s.2 then st1 page s r else ji (st1 page s r) ⟨page,count,g⟩) else st1 page s r
def sd2 (page:Int) (s:List Rn × Bool) (r:Rn):Bool:=if page < r.e then true else s.2
theorem cV (page count g:Int) (s:List Rn × Bool) (r:Rn):jg page count g s r = (ji (st2 page count g s r) ⟨max r.p (page+count),r.e - max r.p (page+count),r.g⟩,sd2 page s r):=by
 unfold jg st2 sd2 st1
 by_cases h:page < r.e
 ·simp [h]
 ·simp [h]
theorem step_fit {page count g:Int} (h0:0≤page) (h1:1≤count) (h2:page+count≤1024) {old:List Rn} {s:List Rn × Bool} (hs:Wth page count g old s) {r:Rn} (hr:Fit (old ++ [r])):Fit s.1∧Fit (st1 page s r)∧Fit (st2 page count g s r):=by
 obtain ⟨l,d⟩:=s
 obtain ⟨uS,jZ,tL⟩:=hs
 obtain ⟨ho,hp,hc,hg,hm⟩:=(lh _ _ _ _).1 hr.1
 have Bi:=hr.2
 rw [gg] at Bi
 simp only at Bi
 have er:r.e = r.p+r.c:=rfl
 cases d with
 | true =>
  obtain ⟨y1,y2,y3⟩:=tL rfl
  simp only at y1 y2 y3 uS
  have e1:st1 page (l,true) r = l:=nq (.inl (by show min r.e page - r.p < 1;omega))
  have e2:st2 page count g (l,true) r = l:=by unfold st2;rw [e1];simp
  rw [e1,e2]
  have hf:Fit l:=⟨uS,by omega⟩
  exact ⟨hf,hf,hf⟩
 | false =>
  obtain ⟨n1,n2,n3⟩:=jZ rfl
  simp only at n1 n2 n3 uS
  have hf:Fit l:=⟨uS,by omega⟩
  obtain ⟨p1,p2,p3⟩:=kk (r:=⟨r.p,min r.e page - r.p,r.g⟩) uS (by show _≤r.p;omega)
  have p2':(fin 0 0 (st1 page (l,false) r)).1≤min page r.e:=by
   show (fin 0 0 (ji l ⟨r.p,min r.e page - r.p,r.g⟩)).1≤_
   rw [p2]
   show (if (min r.e page - r.p < 1∨r.g = 0) then _ else r.p+(min r.e page - r.p))≤_
   split <;> omega
  have Ge:Fit (st1 page (l,false) r):=⟨p1,by omega⟩
  refine ⟨hf,Ge,?_⟩
  unfold st2
  split
  ·simp only [Bool.false_eq_true,if_false]
   obtain ⟨q1,q2,q3⟩:=kk (r:=⟨page,count,g⟩) Ge.1 (by show _≤page;omega)
   refine ⟨q1,?_⟩
   rw [q2]
   show (if (count < 1∨g = 0) then _ else page+count)≤_
   split <;> omega
  ·exact Ge
theorem ua {page count g:Int} (h0:0≤page) (h1:1≤count) {l:List Rn} (hl:Fit l) (k:Nat):Wth page count g (l.take k) ((l.take k).foldl (jg page count g) ([],false)):=by
 have h:=xw (g:=g) h0 h1 (l.take k) [] ([],false) ⟨trivial,fun _=>⟨h0,Int.le_refl _,fun _=>rfl⟩,fun h=>by cases h⟩ (by
  rw [List.nil_append]
  have:Fit (l.take k ++ l.drop k):=by rw [List.take_append_drop];exact hl
  exact this.cut.1)
 simpa using h
theorem bN {page count g:Int} (h0:0≤page) (h1:1≤count) (h2:page+count≤1024) {l:List Rn} (hl:Fit l) (k:Nat):Fit ((l.take k).foldl (jg page count g) ([],false)).1:=by
 obtain ⟨uS,jZ,tL⟩:=ua (g:=g) h0 h1 hl k
 have hc:Fit (l.take k):=by
  have:Fit (l.take k ++ l.drop k):=by rw [List.take_append_drop];exact hl
  exact this.cut
 have:=hc.2
 refine ⟨uS,?_⟩
 generalize (l.take k).foldl (jg page count g) ([],false) = s at jZ tL ⊢
 cases e:s.2 with
 | true=>have:=(tL e).2.1;omega
 | false=>have:=(jZ e).2.1;omega
theorem hU {page count g:Int} {l:List Rn} {k:Nat} (hk:k < l.length):(l.take (k+1)).foldl (jg page count g) ([],false) = jg page count g ((l.take k).foldl (jg page count g) ([],false)) l[k]:=by
 rw [List.take_succ_eq_append_getElem hk,List.foldl_append]
 rfl
end Go.Proofs.YtfoleblcaloeoaaGreatDoor.Ar
namespace Go.Proofs.YtfoleblcaloeoaaGreatDoor.Ar
open Go Go.RowKit
theorem wst_new (w:World) (page count g:Int):WSt w (((((w.alloc (.cells #[.int .i64 page] 3)).alloc (.cells #[.int .i64 count] 3)).alloc (.cells #[.int .u8 g] 5)).alloc (.cells #[.slice none 0 0] 140)).alloc (.cells #[.bool false] 4)) w.heap.size (w.heap.size+1) (w.heap.size+1+1) (w.heap.size+1+1+1) (w.heap.size+1+1+1+1) page count g (.slice none 0 0) [] false where
 chg:=(((((Chg.refl _ _).alloc _).alloc _).alloc _).alloc _).alloc _
 p:=((((Blk.new w 3 _).alloc _).alloc _).alloc _).alloc _
 c:=by
  have:=Blk.new (w.alloc (.cells #[.int .i64 page] 3)) 3 #[.int .i64 count]
  rw [af] at this
  exact ((this.alloc _).alloc _).alloc _
 g:=by
  have:=Blk.new ((w.alloc (.cells #[.int .i64 page] 3)).alloc (.cells #[.int .i64 count] 3)) 5 #[.int .u8 g]
  rw [af,af] at this
  exact (this.alloc _).alloc _
 bl:=by
  have:=Blk.new (((w.alloc (.cells #[.int .i64 page] 3)).alloc (.cells #[.int .i64 count] 3)).alloc (.cells #[.int .u8 g] 5)) 140 #[.slice none 0 0]
  rw [af,af,af] at this
  exact this.alloc _
 d:=by
  have:=Blk.new ((((w.alloc (.cells #[.int .i64 page] 3)).alloc (.cells #[.int .i64 count] 3)).alloc (.cells #[.int .u8 g] 5)).alloc (.cells #[.slice none 0 0] 140)) 4 #[.bool false]
  rw [af,af,af,af] at this
  exact this
 s:=SE.nil _ _ _ _
 nl:=by omega
 nd:=by omega
 nV:=fun k hk=>(bw hk).elim
theorem box3 {W:World} {b:Nat} {p c g:Int} (h:Blk W b 144 #[.int .i64 p,.int .i64 c,.int .u8 g]):W.cell? ⟨b,0,none⟩ = some (.int .i64 p)∧W.cell? ⟨b,1,none⟩ = some (.int .i64 c)∧W.cell? ⟨b,2,none⟩ = some (.int .u8 g)∧b < W.heap.size:=⟨by simpa using h.cell 0,by simpa using h.cell 1,by simpa using h.cell 2,h.lt⟩
theorem aV {w:World} {d:Nat} {l:List Rn} {F:List Nat} (hm:AMem w d l F) (hl:Fit l) {page count g:Int} (h0:0≤page) (h1:1≤count) (h2:page+count≤1024) :
  Calls Tryz.prog 122 #[.pointer (some ⟨d,0,none⟩),.int .i64 page,.int .i64 count,.int .u8 g] w fun e w'=>∃A n c,e = .returned (.slice A n c)∧SR w' (.slice A n c) (withL l page count g)∧(∀k∈own (.slice A n c),w.heap.size≤k)∧Chg [] w w':=by
 obtain ⟨v,hb,hs,hF,jF⟩:=hm
 obtain ⟨A,c0,rfl⟩:=hs.form
 have b0:=hb.cell 0
 simp at b0
 have hdl:=hb.lt
 have rN:=hl.len
 have jD:count≤1024:=by omega
 have hp3:page≤1024:=by omega
 have Hs:=ah hs
 have Hl:=ah hl
 have zM:=wst_new w page count g
 have HW0:=ah zM
 clear hs hl hb hF jF zM
 obtain ⟨d1,d2,d3,d4⟩:d < w.heap.size+1∧d < w.heap.size+1+1∧d < w.heap.size+1+1+1∧d < w.heap.size+1+1+1+1:=by omega
 go_enter Tryz.func122,Tryz.ntmps122
 go_wp2_with fail
 have zM:=HW0.out
 clear HW0
 generalize (((((w.alloc (.cells #[.int .i64 page] 3)).alloc (.cells #[.int .i64 count] 3)).alloc (.cells #[.int .u8 g] 5)).alloc (.cells #[.slice none 0 0] 140)).alloc (.cells #[.bool false] 4)) = W0 at zM ⊢
 clear d1 d2 d3 d4
 generalize w.heap.size+1+1+1+1 = bd at zM ⊢
 generalize w.heap.size+1+1+1 = bl at zM ⊢
 generalize w.heap.size+1+1 = bg at zM ⊢
 generalize w.heap.size+1 = bc at zM ⊢
 obtain ⟨bp,hbp⟩:∃bp,bp = w.heap.size:=⟨_,rfl⟩
 rw [← hbp] at zM ⊢
 clear hbp
 go_loopw [24] (fun i wr=>∃(k:Nat) (A1:Option Addr) (n1 c1:Nat),k≤l.length∧i = .int .i64 k∧Hid (WSt w wr bp bc bg bl bd page count g (.slice A1 n1 c1) ((l.take k).foldl (jg page count g) ([],false)).1 ((l.take k).foldl (jg page count g) ([],false)).2)) (fun i _=>l.length - (intOf i).toNat)
 case atStart=>exact ⟨0,none,0,0,by omega,rfl,ah zM⟩
 case round =>
  obtain ⟨k,A1,n1,c1,hk,rfl,sQ⟩:=hrel
  clear zM
  by_cases mQ:k < l.length
  ·have vT:=Hs.out.stay sQ.out.chg
   obtain ⟨g0,off,rfl⟩:=SE.addr vT (by omega)
   obtain ⟨q0,q1,q2⟩:=RR.cells vT.re mQ
   have rW:g0 < wr.heap.size:=vT.own_lt g0 (by simp [own,Value.ownBlock])
   have nS:=Hl.out.get mQ
   have hfs:=hU (page:=page) (count:=count) (g:=g) mQ
   have yS:=step_fit h0 h1 h2 (ua (g:=g) h0 h1 Hl.out k) (r:=l[k]) (by
    rw [← List.take_succ_eq_append_getElem mQ]
    have:Fit (l.take (k+1) ++ l.drop (k+1)):=by rw [List.take_append_drop];exact Hl.out
    exact this.cut)
   generalize (l.take k).foldl (jg page count g) ([],false) = s at sQ hfs yS
   obtain ⟨r,hr⟩:∃r,r = l[k]:=⟨_,rfl⟩
   rw [← hr] at q0 q1 q2 nS hfs yS
   obtain ⟨⟨rp1,rp2⟩,rc1,rc2,rc3⟩:=nS
   clear hr vT
   have Hfs:=ah hfs
   have yG:=ah yS
   clear hfs yS
   obtain ⟨p,c,rg⟩:=r
   simp only at q0 q1 q2 rp1 rp2 rc1 rc2 rc3
   obtain ⟨m1,Dq⟩:∃m,m = min (p+c) page:=⟨_,rfl⟩
   obtain ⟨m2,Dr⟩:∃m,m = max p (page+count):=⟨_,rfl⟩
   have u1:=fun ts ty w=>run_min ts ty .i64 .i64 (p+c) page w
   have u2:=fun ts ty w=>run_max ts ty .i64 .i64 p (page+count) w
   rw [← Dq] at u1
   rw [← Dr] at u2
   obtain ⟨a1,a2⟩:0≤m1∧m1≤2000:=by omega
   obtain ⟨a3,a4⟩:0≤m2∧m2≤4000:=by omega
   obtain ⟨a5,a6⟩:-8000≤m1 - p∧m1 - p≤8000:=by omega
   obtain ⟨a7,a8⟩:-8000≤p+c - m2∧p+c - m2≤8000:=by omega
   have Hm1:=ah Dq
   have Hm2:=ah Dr
   clear Dq Dr
   go_wp2_with fail
   have hn0:wr.heap.size∉own (.slice A1 n1 c1):=fun h=>by have:=sQ.out.s.own_lt _ h;omega
   have oV:=sQ.out.stay ((Chg.refl [] wr).alloc (.cells #[.int .i64 p,.int .i64 c,.int .u8 rg] 144)).drew
   have uI:Blk ((wr.alloc (.cells #[.int .i64 p,.int .i64 c,.int .u8 rg] 144)).drew) wr.heap.size 144 #[.int .i64 p,.int .i64 c,.int .u8 rg]:=(Blk.new wr 144 _).drew
   have hdp:wr.heap.size < ((wr.alloc (.cells #[.int .i64 p,.int .i64 c,.int .u8 rg] 144)).drew).heap.size:=uI.lt
   clear q0 q1 q2 rW sQ
   refine ep [5,0,5,5,6,5,0,0,5,0,0,5,0,3,3] (List.replicate 15 none) (fun W=>Blk W bl 140 #[.slice A1 n1 c1]∧Blk W wr.heap.size 144 #[.int .i64 p,.int .i64 c,.int .u8 rg]∧Blk W bp 3 #[.int .i64 page]) (by kernel_rfl) (by kernel_rfl) (by kernel_rfl) ?_
   generalize (wr.alloc (.cells #[.int .i64 p,.int .i64 c,.int .u8 rg] 144)).drew = W1 at oV uI hdp ⊢
   generalize wr.heap.size = br at hn0 uI hdp ⊢
   go_wp2_with (first|refine al 140 _ rfl rfl (fun w' J=>fz Tryz.underlying140 (by simpa using Blk.cell J.1 0)) ⟨oV.bl,uI,oV.p⟩ ?_;go_simp|refine al 3 _ rfl rfl (fun w' J=>cr Tryz.underlying3 (by simpa using Blk.cell J.2.1 0)) ⟨oV.bl,uI,oV.p⟩ ?_;go_simp|refine al 144 _ rfl rfl (fun w' J=>sw (by simpa using Blk.cell J.2.1 0) (by simpa using Blk.cell J.2.1 1) (by simpa using Blk.cell J.2.1 2)) ⟨oV.bl,uI,oV.p⟩ ?_;go_simp|refine av fun K I=>?_|refine ay ?_ ?_;(focus (simp [bb];done));go_simp|refine bh ?_ ?_;(focus (simp [bb];done))|refine ai fun K I=>?_;go_simp;refine I _ _ ?_;clear I K|refine ao fun K I=>?_;go_simp|refine aj ?_)
   (refine aw ⟨oV.bl,uI,oV.p⟩ fun K I=>?_)
   go_simp
   refine (kn p c rg _ ⟨by omega,by omega⟩ ⟨by omega,by omega⟩).mono ?_
   rintro e W2 ⟨rfl,jA⟩
   have rG:=oV.stay jA
   have tD:=Blk.chg uI jA ab
   have hdp2:br < W2.heap.size:=tD.lt
   refine I _ _ ⟨rG.bl,tD,rG.p⟩ ?_
   clear I K oV uI hdp jA
   have AM:=ah (vm (r:=⟨p,m1 - p,rg⟩) rG.s yG.out.1.ok ⟨⟨by show _≤p;omega,by show p≤_;omega⟩,by show _≤m1 - p;omega,by show m1 - p≤_;omega⟩ (by have:=yG.out.1.len;omega))
   have Hw2:=ah rG
   go_wp2_with (first|refine al 3 _ rfl rfl (fun w' J=>cr Tryz.underlying3 (by simpa using Blk.cell J.2.2 0)) ⟨rG.bl,tD,rG.p⟩ ?_;go_simp|refine al 3 _ rfl rfl (fun w' J=>cr Tryz.underlying3 (by simpa using Blk.cell J.2.1 0)) ⟨rG.bl,tD,rG.p⟩ ?_;go_simp|refine al 5 _ rfl rfl (fun w' J=>cr Tryz.underlying5 (by simpa using Blk.cell J.2.1 2)) ⟨rG.bl,tD,rG.p⟩ ?_;go_simp|refine av fun K I=>?_|refine ay ?_ ?_;(focus (simp [bb];done));go_simp|refine bh ?_ ?_;(focus (simp [bb];done))|refine ai fun K I=>?_;go_simp;refine I _ _ ?_;clear I K|refine ao fun K I=>?_;go_simp|refine aj ?_)
   refine AM.out.mono ?_
   rintro e W3 ⟨A3,n3,c3,rfl,hs3,hc3',yT⟩
   have Bm:=Hw2.out
   obtain ⟨y1,y2,y3,y4,y5⟩:=Bm.kept hc3'
   have Bn:=Bm.put hs3 hc3' yT
   have Ba:=(Blk.chg tD hc3' hn0).far (p:=⟨bl,0,none⟩) (tD.ne_ Bm.bl (by decide)) (.slice A3 n3 c3)
   have hn3:br∉own (.slice A3 n3 c3):=fun h=>(yT _ h).elim hn0 (fun h'=>by omega)
   clear Bm Hw2 AM hc3' yT hs3 hn0 tD rG
   go_wp2_with (first|refine av fun K I=>?_|refine ay ?_ ?_;(focus (simp [bb];done));go_simp|refine bh ?_ ?_;(focus (simp [bb];done))|refine ai fun K I=>?_;go_simp;refine I _ _ ?_;clear I K|refine ao fun K I=>?_;go_simp|refine aj ?_)
   have hdp3:=Ba.lt
   generalize W3.setCell ⟨bl,0,none⟩ (.slice A3 n3 c3) = W4 at Bn Ba hdp3 ⊢
   clear y1 y2 y3 y4 y5 hdp2
   have hw4:=Bn.stay (Chg.refl [] W4).drew
   have Bb:=Ba.drew
   have BG:Hid (Fit (st1 page s ⟨p,c,rg⟩)):=ah yG.out.2.1
   have Bo:WSt w W4.drew bp bc bg bl bd page count g (.slice A3 n3 c3) (st1 page s ⟨p,c,rg⟩) s.2:=by rw [Hm1.out] at hw4;exact hw4
   clear Bn Ba hw4
   refine ep [5,6,5,0] (List.replicate 4 none) (fun W=>Blk W br 144 #[.int .i64 p,.int .i64 c,.int .u8 rg]∧Blk W bp 3 #[.int .i64 page]) (by kernel_rfl) (by kernel_rfl) (by kernel_rfl) ?_
   go_wp2_with (first|refine al 144 _ rfl rfl (fun w' J=>sw (by simpa using Blk.cell J.1 0) (by simpa using Blk.cell J.1 1) (by simpa using Blk.cell J.1 2)) ⟨Bb,Bo.p⟩ ?_;go_simp|refine av fun K I=>?_|refine ay ?_ ?_;(focus (simp [bb];done));go_simp|refine bh ?_ ?_;(focus (simp [bb];done))|refine ai fun K I=>?_;go_simp;refine I _ _ ?_;clear I K|refine ao fun K I=>?_;go_simp|refine aj ?_)
   (refine aw ⟨Bb,Bo.p⟩ fun K I=>?_)
   go_simp
   refine (kn p c rg _ ⟨by omega,by omega⟩ ⟨by omega,by omega⟩).mono ?_
   rintro e W5 ⟨rfl,U⟩
   have zN:=Bo.stay U
   have qC:=Blk.chg Bb U ab
   refine I _ _ ⟨qC,zN.p⟩ ?_
   clear I K Bo Bb U
   obtain ⟨d2,hd2⟩:∃d2,sd2 page s ⟨p,c,rg⟩ = d2:=⟨_,rfl⟩
   obtain ⟨L2,hL2⟩:∃L2,st2 page count g s ⟨p,c,rg⟩ = L2:=⟨_,rfl⟩
   have Hd2:=ah hd2
   have vC:=ah hL2
   clear hd2 hL2
   have FX:Hid (∀(W:World) (A:Option Addr) (n c0:Nat),True→True):=ah fun _ _ _ _ h=>h
   clear FX
   have Ga:=qC.lt
   by_cases qF:page < p+c
   ·have e2:(if s.2 = true then st1 page s ⟨p,c,rg⟩ else ji (st1 page s ⟨p,c,rg⟩) ⟨page,count,g⟩) = L2:=by rw [← vC.out];unfold st2;rw [if_pos (show page < (⟨p,c,rg⟩:Rn).e from qF)]
    have ed2:true = d2:=by rw [← Hd2.out];unfold sd2;rw [if_pos (show page < (⟨p,c,rg⟩:Rn).e from qF)]
    subst ed2
    have HI:=ah (in_any zN BG.out.ok (by have:=BG.out.len;omega) ⟨⟨by show _≤page;omega,by show page≤_;omega⟩,by show _≤count;omega,by show count≤_;omega⟩)
    rw [e2] at HI
    clear e2
    have Hw5:=ah zN
    have hnl:br∉bl :: bd :: own (.slice A3 n3 c3):=fun h=>by
     rcases List.mem_cons.1 h with h | h
     ·exact qC.ne_ Hw5.out.bl (by decide) h
     ·rcases List.mem_cons.1 h with h | h
      ·exact qC.ne_ Hw5.out.d (by decide) h
      ·exact hn3 h
    go_wp2_with (first|refine al 3 _ rfl rfl (fun w' J=>cr Tryz.underlying3 (by simpa using Blk.cell J.2 0)) ⟨qC,zN.p⟩ ?_;go_simp|go_at_call 138;refine HI.out.mono ?_;rintro e W6 ⟨rfl,⟨A6,n6,c6,Bp,Gh⟩,iZ⟩;have wI:=qC.chg iZ hnl;obtain ⟨e0,e1,e2,hdp6⟩:=box3 wI|refine av fun K I=>?_|refine ay ?_ ?_;(focus (simp [bb];done));go_simp|refine bh ?_ ?_;(focus (simp [bb];done))|refine ai fun K I=>?_;go_simp;refine I _ _ ?_;clear I K|refine ao fun K I=>?_;go_simp|refine aj ?_)
    have tC:Hid (Fit L2):=ah (by rw [← vC.out];exact yG.out.2.2)
    clear qC iZ hnl Ga HI Hw5 zN Gh
    clear e0 e1 e2
    have tR:=Bp.stay (Chg.refl [] W6).drew
    have qD:=wI.drew
    clear Bp wI
    refine ep [5,0,5,6,0,0,0,5,0,3,3] (List.replicate 11 none) (fun W=>Blk W bl 140 #[.slice A6 n6 c6]∧Blk W br 144 #[.int .i64 p,.int .i64 c,.int .u8 rg]) (by kernel_rfl) (by kernel_rfl) (by kernel_rfl) ?_
    go_wp2_with (first|refine al 140 _ rfl rfl (fun w' J=>fz Tryz.underlying140 (by simpa using Blk.cell J.1 0)) ⟨tR.bl,qD⟩ ?_;go_simp|refine al 144 _ rfl rfl (fun w' J=>sw (by simpa using Blk.cell J.2 0) (by simpa using Blk.cell J.2 1) (by simpa using Blk.cell J.2 2)) ⟨tR.bl,qD⟩ ?_;go_simp|refine av fun K I=>?_|refine ay ?_ ?_;(focus (simp [bb];done));go_simp|refine bh ?_ ?_;(focus (simp [bb];done))|refine ai fun K I=>?_;go_simp;refine I _ _ ?_;clear I K|refine ao fun K I=>?_;go_simp|refine aj ?_)
    (refine aw ⟨tR.bl,qD⟩ fun K I=>?_)
    go_simp
    refine (kn p c rg _ ⟨by omega,by omega⟩ ⟨by omega,by omega⟩).mono ?_
    rintro e W8 ⟨rfl,mP⟩
    have zO:=tR.stay mP
    have uJ:=Blk.chg qD mP ab
    refine I _ _ ⟨zO.bl,uJ⟩ ?_
    clear I K tR qD mP
    have Fn:=ah (vm (r:=⟨m2,p+c - m2,rg⟩) zO.s tC.out.ok ⟨⟨by show _≤m2;omega,by show m2≤_;omega⟩,by show _≤p+c - m2;omega,by show p+c - m2≤_;omega⟩ (by have:=tC.out.len;omega))
    have FC:=ah zO
    go_wp2_with (first|refine al 5 _ rfl rfl (fun w' J=>cr Tryz.underlying5 (by simpa using Blk.cell J.2 2)) ⟨zO.bl,uJ⟩ ?_;go_simp|refine av fun K I=>?_|refine ay ?_ ?_;(focus (simp [bb];done));go_simp|refine bh ?_ ?_;(focus (simp [bb];done))|refine ai fun K I=>?_;go_simp;refine I _ _ ?_;clear I K|refine ao fun K I=>?_;go_simp|refine aj ?_)
    refine Fn.out.mono ?_
    rintro e W9 ⟨A9,n9,c9,rfl,nT,kE,mU⟩
    have uY:=FC.out
    obtain ⟨y1,y2,y3,y4,y5⟩:=uY.kept kE
    have GI:=uY.put nT kE mU
    clear uY FC Fn kE mU nT uJ zO
    go_wp2_with (first|refine av fun K I=>?_|refine ay ?_ ?_;(focus (simp [bb];done));go_simp|refine bh ?_ ?_;(focus (simp [bb];done))|refine ai fun K I=>?_;go_simp;refine I _ _ ?_;clear I K|refine ao fun K I=>?_;go_simp|refine aj ?_)
    go_roundw
    case rel=>exact ⟨k+1,A9,n9,c9,by omega,by go_num,ah (by
     rw [Hfs.out,cV,vC.out,Hd2.out]
     rw [Hm2.out] at GI
     exact GI)⟩
    case measure=>simp [intOf];omega
   ·have ed2:s.2 = d2:=by rw [← Hd2.out];unfold sd2;rw [if_neg (show ¬ page < (⟨p,c,rg⟩:Rn).e from qF)]
    have e2:st1 page s ⟨p,c,rg⟩ = L2:=by rw [← vC.out];unfold st2;rw [if_neg (show ¬ page < (⟨p,c,rg⟩:Rn).e from qF)]
    rw [ed2,e2] at zN
    clear ed2 e2
    have tC:Hid (Fit L2):=ah (by rw [← vC.out];exact yG.out.2.2)
    obtain ⟨e0,e1,e2,hdp6⟩:=box3 qC
    clear Ga
    go_wp2_with (first|refine al 3 _ rfl rfl (fun w' J=>cr Tryz.underlying3 (by simpa using Blk.cell J.2 0)) ⟨qC,zN.p⟩ ?_;go_simp|refine av fun K I=>?_|refine ay ?_ ?_;(focus (simp [bb];done));go_simp|refine bh ?_ ?_;(focus (simp [bb];done))|refine ai fun K I=>?_;go_simp;refine I _ _ ?_;clear I K|refine ao fun K I=>?_;go_simp|refine aj ?_)
    have Bp:=zN
    have wI:=qC
    clear zN qC e0 e1 e2
    have tR:=Bp.stay (Chg.refl [] W5).drew
    have qD:=wI.drew
    clear Bp wI
    refine ep [5,0,5,6,0,0,0,5,0,3,3] (List.replicate 11 none) (fun W=>Blk W bl 140 #[.slice A3 n3 c3]∧Blk W br 144 #[.int .i64 p,.int .i64 c,.int .u8 rg]) (by kernel_rfl) (by kernel_rfl) (by kernel_rfl) ?_
    go_wp2_with (first|refine al 140 _ rfl rfl (fun w' J=>fz Tryz.underlying140 (by simpa using Blk.cell J.1 0)) ⟨tR.bl,qD⟩ ?_;go_simp|refine al 144 _ rfl rfl (fun w' J=>sw (by simpa using Blk.cell J.2 0) (by simpa using Blk.cell J.2 1) (by simpa using Blk.cell J.2 2)) ⟨tR.bl,qD⟩ ?_;go_simp|refine av fun K I=>?_|refine ay ?_ ?_;(focus (simp [bb];done));go_simp|refine bh ?_ ?_;(focus (simp [bb];done))|refine ai fun K I=>?_;go_simp;refine I _ _ ?_;clear I K|refine ao fun K I=>?_;go_simp|refine aj ?_)
    (refine aw ⟨tR.bl,qD⟩ fun K I=>?_)
    go_simp
    refine (kn p c rg _ ⟨by omega,by omega⟩ ⟨by omega,by omega⟩).mono ?_
    rintro e W8 ⟨rfl,mP⟩
    have zO:=tR.stay mP
    have uJ:=Blk.chg qD mP ab
    refine I _ _ ⟨zO.bl,uJ⟩ ?_
    clear I K tR qD mP
    have Fn:=ah (vm (r:=⟨m2,p+c - m2,rg⟩) zO.s tC.out.ok ⟨⟨by show _≤m2;omega,by show m2≤_;omega⟩,by show _≤p+c - m2;omega,by show p+c - m2≤_;omega⟩ (by have:=tC.out.len;omega))
    have FC:=ah zO
    go_wp2_with (first|refine al 5 _ rfl rfl (fun w' J=>cr Tryz.underlying5 (by simpa using Blk.cell J.2 2)) ⟨zO.bl,uJ⟩ ?_;go_simp|refine av fun K I=>?_|refine ay ?_ ?_;(focus (simp [bb];done));go_simp|refine bh ?_ ?_;(focus (simp [bb];done))|refine ai fun K I=>?_;go_simp;refine I _ _ ?_;clear I K|refine ao fun K I=>?_;go_simp|refine aj ?_)
    refine Fn.out.mono ?_
    rintro e W9 ⟨A9,n9,c9,rfl,nT,kE,mU⟩
    have uY:=FC.out
    obtain ⟨y1,y2,y3,y4,y5⟩:=uY.kept kE
    have GI:=uY.put nT kE mU
    clear uY FC Fn kE mU nT uJ zO
    go_wp2_with (first|refine av fun K I=>?_|refine ay ?_ ?_;(focus (simp [bb];done));go_simp|refine bh ?_ ?_;(focus (simp [bb];done))|refine ai fun K I=>?_;go_simp;refine I _ _ ?_;clear I K|refine ao fun K I=>?_;go_simp|refine aj ?_)
    go_roundw
    case rel=>exact ⟨k+1,A9,n9,c9,by omega,by go_num,ah (by
     rw [Hfs.out,cV,vC.out,Hd2.out]
     rw [Hm2.out] at GI
     exact GI)⟩
    case measure=>simp [intOf];omega
  ·have ek:l.take k = l:=List.take_of_length_le (by omega)
   rw [ek] at sQ
   clear ek
   have hff:=bN (g:=g) h0 h1 h2 Hl.out l.length
   rw [List.take_length] at hff
   have HI:=ah (in_any sQ.out hff.ok (by have:=hff.len;omega) ⟨⟨by show _≤page;omega,by show page≤_;omega⟩,by show _≤count;omega,by show count≤_;omega⟩)
   have ew:(if (l.foldl (jg page count g) ([],false)).2 = true then (l.foldl (jg page count g) ([],false)).1 else ji (l.foldl (jg page count g) ([],false)).1 ⟨page,count,g⟩) = withL l page count g:=rfl
   rw [ew] at HI
   clear ew hff sQ
   obtain ⟨L9,nQ⟩:∃L9,withL l page count g = L9:=⟨_,rfl⟩
   rw [nQ] at HI
   have H9:=ah nQ
   clear nQ
   go_wp2_with (go_at_call 138;refine HI.out.mono ?_;rintro e W6 ⟨rfl,⟨A6,n6,c6,Bp,Gh⟩,iZ⟩;have tE:=Bp.cells;obtain ⟨z0,z1,z2,z3,z4,z5,z6⟩:=tE)
   have tR:=Bp.put Bp.s ((Chg.refl _ _).mono (fun _ h=>.inl h)) (Grow.refl _ _)
   have z7:=tR.cells.2.2.2.1
   exact bodyPost_ret (v:=.slice A6 n6 c6) (by simp [results,Tryz.results122,go_sem,z7]) rfl ⟨A6,n6,c6,rfl,by rw [H9.out];exact tR.s,tR.nV,tR.chg⟩
end Go.Proofs.YtfoleblcaloeoaaGreatDoor.Ar
