/- Texts merged for the claim. -/
import Derived.Test.YtfoleblcaloeoaaGreatDoorZai
import Derived.Maps.RangeRun
set_option maxHeartbeats 40000000
set_option maxRecDepth 20000
namespace Go.Proofs.YtfoleblcaloeoaaGreatDoor.Ar
open Go Go.RowKit
def rc (r:Rn):List Value:=[.int .i64 r.p,.int .i64 r.c,.int .u8 r.g]
theorem aO:∀x,(rc x).length = 3:=fun _=>rfl
abbrev RR:=RE rc 3
abbrev SR:=SE rc 3 144
theorem rc_one (l:List Rn):∀u∈fc rc l,u.oneCell' = true:=fun u hu=>by
 obtain ⟨r,_,hr⟩:=List.mem_flatMap.1 hu
 simp only [rc,List.mem_cons,ab,or_false] at hr
 rcases hr with rfl | rfl | rfl <;> rfl
theorem info30:(Tryz.prog.info? 144).map (fun i=>(i.zero,i.size,i.bytes)) = some (some (.agg #[.int .i64 0,.int .i64 0,.int .u8 0]),3,24):=by kernel_rfl
theorem RR.cells {w:World} {g off n c:Nat} {l:List Rn} (h:RR w (.slice (some ⟨g,off,none⟩) n c) l) {k:Nat} (hk:k < l.length) :
  w.cell? ⟨g,off+k * 3,none⟩ = some (.int .i64 l[k].p)∧w.cell? ⟨g,off+k * 3+1,none⟩ = some (.int .i64 l[k].c)∧w.cell? ⟨g,off+k * 3+2,none⟩ = some (.int .u8 l[k].g) :=
 ⟨by simpa using RE.cell aO h hk (j:=0) (by omega) rfl,RE.cell aO h hk (j:=1) (by omega) rfl,RE.cell aO h hk (j:=2) (by omega) rfl⟩
theorem dH (w:World) (p c g:Int):RR (w.alloc (.cells #[.int .i64 p,.int .i64 c,.int .u8 g] 144)) (.slice (some ⟨w.heap.size,0,none⟩) 1 1) [⟨p,c,g⟩]:=vw w 144 3 1 _ rfl
theorem kn (p c g:Int) (w:World) (hp:-100000≤p∧p≤100000) (hc:-100000≤c∧c≤100000):Calls Tryz.prog 82 #[.agg #[.int .i64 p,.int .i64 c,.int .u8 g]] w fun e w'=>e = .returned (.int .i64 (p+c))∧Chg [] w w':=by
 obtain ⟨Bg,oU⟩:=hp
 obtain ⟨jH,jA⟩:=hc
 go_enter Tryz.func82,Tryz.ntmps82
 go_wp2_with fail
 go_ret
 exact ⟨rfl,(Chg.refl _ _).alloc _⟩
theorem jm (page count:Int) (w:World):Calls Tryz.prog 100 #[.int .i64 page,.int .i64 count] w fun e w'=>e = .returned (.bool (mayB page count))∧w = w':=by
 obtain ⟨b,hb⟩:∃b,mayB page count = b:=⟨_,rfl⟩
 have HB:=ah hb
 rw [hb]
 clear hb
 by_cases h1:0≤page
 ·by_cases h2:1≤count
  ·by_cases h3:count≤1024
   ·by_cases h4:page≤1024 - count
    ·obtain rfl:b = true:=by rw [← HB.out];simp [mayB,h1,h2,h3,h4]
     go_enter Tryz.func100,Tryz.ntmps100
     go_wp2_with fail
     go_ret
     exact ⟨rfl,rfl⟩
    ·obtain rfl:b = false:=by rw [← HB.out];simp [mayB];omega
     go_enter Tryz.func100,Tryz.ntmps100
     go_wp2_with fail
     go_ret
     exact ⟨rfl,rfl⟩
   ·obtain rfl:b = false:=by rw [← HB.out];simp [mayB];omega
    go_enter Tryz.func100,Tryz.ntmps100
    go_wp2_with fail
    go_ret
    exact ⟨rfl,rfl⟩
  ·obtain rfl:b = false:=by rw [← HB.out];simp [mayB];omega
   go_enter Tryz.func100,Tryz.ntmps100
   go_wp2_with fail
   go_ret
   exact ⟨rfl,rfl⟩
 ·obtain rfl:b = false:=by rw [← HB.out];simp [mayB];omega
  go_enter Tryz.func100,Tryz.ntmps100
  go_wp2_with fail
  go_ret
  exact ⟨rfl,rfl⟩
theorem dv (g:Int) (w:World):Calls Tryz.prog 120 #[.int .u8 g] w fun e w'=>e = .returned (.bool (rgB g))∧w = w':=by
 obtain ⟨b,hb⟩:∃b,rgB g = b:=⟨_,rfl⟩
 have HB:=ah hb
 rw [hb]
 clear hb
 by_cases h1:1≤g
 ·by_cases h2:g≤3
  ·obtain rfl:b = true:=by rw [← HB.out];simp [rgB,h1,h2]
   go_enter Tryz.func120,Tryz.ntmps120
   go_wp2_with fail
   go_ret
   exact ⟨rfl,rfl⟩
  ·obtain rfl:b = false:=by rw [← HB.out];simp [rgB];omega
   go_enter Tryz.func120,Tryz.ntmps120
   go_wp2_with fail
   go_ret
   exact ⟨rfl,rfl⟩
 ·obtain rfl:b = false:=by rw [← HB.out];simp [rgB];omega
  go_enter Tryz.func120,Tryz.ntmps120
  go_wp2_with fail
  go_ret
  exact ⟨rfl,rfl⟩
structure Okr (r:Rn):Prop where
 p:-10000≤r.p∧r.p≤10000
 c:-10000≤r.c∧r.c≤10000
def Okl (l:List Rn):Prop:=∀r∈l,Okr r
theorem jc {ops:Array Oper} {rest:List Oper} {o:Oper} {a:Act} {w:World} {Q:Exit→Act→World→Prop} (hg:o.guard = none) (s x:Operand)
  (ho:o.op = .call { callee:=.builtin .append,args:=#[s,x],argTypes:=#[140,140] }) (v y:Value) (hs:a.eval s = v) (hx:a.eval x = y) {l m:List Rn} (hv:SR w v l) (hy:RR w y m) (jN:l.length+m.length≤1000000)
  (h:∀A n c w',Hid (n = (l ++ m).length)→SR w' (.slice A n c) (l ++ m)→Chg (own v) w w'→Grow w v (.slice A n c)→wpList Tryz.prog ops Q rest (a.put o.dst (.slice A n c)) w') :
  wpList Tryz.prog ops Q (o :: rest) a w:=by
 obtain ⟨i30,hi,hz,vP,yX⟩:=info_parts info30
 refine kl hg s x 140 ho 144 Tryz.underlying140 hi hz vP yX rfl hs hv hx hy (rc_one m) (by unfold maxLen;omega) (by omega) fun v' w' h2 h3 h4=>?_
 have oG:SR w' v' (l ++ m):=by
  unfold SR SE
  rw [List.length_append,lq]
  exact h2
 obtain ⟨A,c,rfl⟩:=oG.form
 exact h A _ c w' rfl oG h3 (rj h4)
theorem put_none {w:World} {v:Value} {l:List Rn} (hv:SR w v l) {r:Rn} (h:r.c < 1∨r.g = 0) :
  Calls Tryz.prog 139 #[v,.agg #[.int .i64 r.p,.int .i64 r.c,.int .u8 r.g]] w fun e w'=>e = .returned v∧Chg [] w w':=by
 obtain ⟨A,c0,rfl⟩:=hv.form
 obtain ⟨p,c,g⟩:=r
 simp only at h ⊢
 by_cases hc:c < 1
 ·go_enter Tryz.func139,Tryz.ntmps139
  go_wp2_with fail
  go_ret
  exact ⟨rfl,(Chg.refl _ _).alloc _⟩
 ·obtain rfl:g = 0:=by omega
  go_enter Tryz.func139,Tryz.ntmps139
  go_wp2_with fail
  go_ret
  exact ⟨rfl,(Chg.refl _ _).alloc _⟩
end Go.Proofs.YtfoleblcaloeoaaGreatDoor.Ar
namespace Go.Proofs.YtfoleblcaloeoaaGreatDoor.Ar
open Go Go.RowKit
theorem sw {w:World} {g off:Nat} {x y z:Int} (c0:w.cell? ⟨g,off,none⟩ = some (.int .i64 x)) (c1:w.cell? ⟨g,off+1,none⟩ = some (.int .i64 y)) (c2:w.cell? ⟨g,off+2,none⟩ = some (.int .u8 z)):(loadVar 144 ⟨g,off,none⟩).run Tryz.prog w = .ok (.agg #[.int .i64 x,.int .i64 y,.int .u8 z]) w:=by
 simp [go_sem,loadVar,c0,c1,c2]
def PutP (w:World) (v:Value) (l:List Rn) (e:Ending) (w':World):Prop:=∃A n c,e = .returned (.slice A n c)∧SR w' (.slice A n c) l∧Chg (own v) w w'∧Grow w v (.slice A n c)
theorem RR_two (w:World) (p c g:Int) (T:TypeId) (cs:Array Value):RR (((w.alloc (.cells cs T)).alloc (.cells #[.int .i64 p,.int .i64 c,.int .u8 g] 144)).drew) (.slice (some ⟨w.heap.size+1,0,none⟩) 1 1) [⟨p,c,g⟩]:=by
 have:=dH (w.alloc (.cells cs T)) p c g
 rw [af] at this
 exact Rd.drew this
theorem put_nil {w:World} {v:Value} (hv:SR w v []) {r:Rn} (h:¬ (r.c < 1∨r.g = 0)) :
  Calls Tryz.prog 139 #[v,.agg #[.int .i64 r.p,.int .i64 r.c,.int .u8 r.g]] w (PutP w v [r]):=by
 obtain ⟨A,c0,rfl⟩:=hv.form
 obtain ⟨p,c,g⟩:=r
 simp only at h ⊢
 obtain ⟨h1,h2⟩:1≤c∧(g == 0) = false:=⟨by omega,beq_eq_false_iff_ne.2 (by omega)⟩
 clear h
 simp only [List.length_nil]
 go_enter Tryz.func139,Tryz.ntmps139
 go_wp2_with fail
 refine rgt [0,0,0,0,0,0,1,6,0,5,0,0,0,0,0,0,0,1,0,1,0,0] [none,none,none,some (20,true),some (20,true),some (20,true),some (20,true),some (20,true),some (20,true),some (20,true),some (20,true),none,none,some (30,true),some (30,true),some (30,true),some (30,true),some (30,true),some (30,true),some (30,true),some (30,true),none] (fun W=>Blk W w.heap.size 144 #[.int .i64 p,.int .i64 c,.int .u8 g]) ?_
 go_wp2_with (first|at_builtin;refine jc rfl _ _ rfl (.slice A 0 c0) _ rfl rfl (l:=[]) (m:=[⟨p,c,g⟩]) (hv.stay (((Chg.refl _ _).alloc _).alloc _).drew) (RR_two w p c g _ _) (by simp) ?_;intro A9 n9 c9 W9 mW nT kE mU|refine av fun K I=>?_|refine ay ?_ ?_;(focus (simp [bb];done));go_simp|refine bh ?_ ?_;(focus (simp [bb];done))|refine ai fun K I=>?_;go_simp;refine I _ _ ?_;clear I K|refine ao fun K I=>?_;go_simp|refine aj ?_)
 go_ret
 have hc:Chg [] w (((w.alloc (.cells #[.int .i64 p,.int .i64 c,.int .u8 g] 144)).alloc (.cells #[.int .i64 p,.int .i64 c,.int .u8 g] 144)).drew):=(((Chg.refl _ _).alloc _).alloc _).drew
 exact ⟨_,_,_,rfl,nT,hc.then_ kE,mU.of_le (by simp;omega)⟩
theorem put_snoc {w:World} {v:Value} {l:List Rn} {x r:Rn} (hv:SR w v (l ++ [x])) (h:¬ (r.c < 1∨r.g = 0)) (hx:Okr x) (hr:Okr r) (jN:l.length≤100000) (hj:¬ (x.e = r.p∧x.g = r.g)) :
  Calls Tryz.prog 139 #[v,.agg #[.int .i64 r.p,.int .i64 r.c,.int .u8 r.g]] w (PutP w v (l ++ [x] ++ [r])):=by
 obtain ⟨A,c0,rfl⟩:=hv.form
 obtain ⟨n,hn⟩:∃n,l.length = n:=⟨_,rfl⟩
 have en:(l ++ [x]).length = n+1:=by simp [hn]
 rw [en] at hv ⊢
 obtain ⟨g0,off,rfl⟩:=SE.addr hv (Nat.succ_pos n)
 obtain ⟨q0,q1,q2⟩:=RR.cells hv.re (k:=n) (by omega)
 have ex:(l ++ [x])[n]'(by omega) = x:=by subst hn;simp
 rw [ex] at q0 q1 q2
 have Hn:=ah hn
 have rW:g0 < w.heap.size:=hv.own_lt g0 (by simp [own,Value.ownBlock])
 have tI:n≤100000:=by omega
 clear en ex hn
 obtain ⟨⟨xp1,xp2⟩,xc1,xc2⟩:=hx
 obtain ⟨⟨rp1,rp2⟩,rc1,rc2⟩:=hr
 obtain ⟨p,c,g⟩:=r
 obtain ⟨xp,xc,xg⟩:=x
 simp only at *
 have h1:1≤c:=by omega
 have h2:(g == 0) = false:=beq_eq_false_iff_ne.2 (by omega)
 have hb:Blk ((w.alloc (.cells #[.int .i64 p,.int .i64 c,.int .u8 g] 144)).drew) w.heap.size 144 #[.int .i64 p,.int .i64 c,.int .u8 g]:=(Blk.new w 144 _).drew
 have nH:Chg [] w ((w.alloc (.cells #[.int .i64 p,.int .i64 c,.int .u8 g] 144)).drew):=((Chg.refl _ _).alloc _).drew
 have Fz:Hid ((l ++ [(⟨xp,xc,xg⟩:Rn)]).length + [(⟨p,c,g⟩:Rn)].length≤1000000):=ah (by simp;omega)
 by_cases he:xp+xc = p
 ·have Gb:(xp+xc == p) = true:=by simpa using he
  have he2:(xg == g) = false:=beq_eq_false_iff_ne.2 (fun e=>hj ⟨he,e⟩)
  clear hj h he
  go_enter Tryz.func139,Tryz.ntmps139
  go_wp2_with fail
  refine rgt [0,0,0,0,0,0,1,6,0,5,0,0,0,0,0,0,0,1,0,1,0,0] [none,none,none,some (20,true),some (20,true),some (20,true),some (20,true),some (20,true),some (20,true),some (20,true),some (20,true),none,none,some (30,true),some (30,true),some (30,true),some (30,true),some (30,true),some (30,true),some (30,true),some (30,true),none] (fun W=>Blk W w.heap.size 144 #[.int .i64 p,.int .i64 c,.int .u8 g]) ?_
  go_wp2_with (first|refine av fun K I=>?_|refine ay ?_ ?_;(focus (simp [bb];done));go_simp|refine bh ?_ ?_;(focus (simp [bb];done))|refine ai fun K I=>?_;go_simp;refine I _ _ ?_;clear I K|refine ao fun K I=>?_;go_simp|refine aj ?_)
  (refine aw hb fun K I=>?_);go_simp;(refine (kn xp xc xg _ ⟨by omega,by omega⟩ ⟨by omega,by omega⟩).mono ?_);rintro e W1 ⟨rfl,jH⟩;have kF:=Blk.chg hb jH ab;(refine I _ _ kF ?_);clear I K
  have b0:=kF.cell 0
  have b1:=kF.cell 1
  have b2:=kF.cell 2
  simp at b0 b1 b2
  have ED:SR W1 (.slice (some ⟨g0,off,none⟩) (n+1) c0) (l ++ [⟨xp,xc,xg⟩]):=(hv.stay nH).stay jH
  obtain ⟨q0',q1',q2'⟩:W1.cell? ⟨g0,off+n * 3,none⟩ = some (.int .i64 xp)∧W1.cell? ⟨g0,off+n * 3+1,none⟩ = some (.int .i64 xc)∧W1.cell? ⟨g0,off+n * 3+2,none⟩ = some (.int .u8 xg):=⟨(nH.trans jH (fun _ h=>by cases h)).cell q0 ab,(nH.trans jH (fun _ h=>by cases h)).cell q1 ab,(nH.trans jH (fun _ h=>by cases h)).cell q2 ab⟩
  clear q0 q1 q2
  go_wp2_with (first|refine al 3 _ rfl rfl (fun w' J=>cr Tryz.underlying3 (by simpa using Blk.cell J 0)) kF ?_;go_simp|at_builtin;refine jc rfl _ _ rfl (.slice (some ⟨g0,off,none⟩) (n+1) c0) _ rfl rfl (ED.stay ((Chg.refl _ _).alloc _)) (dH W1 p c g) Fz.out ?_;intro A9 n9 c9 W9 mW nT kE mU|refine av fun K I=>?_|refine ay ?_ ?_;(focus (simp [bb];done));go_simp|refine bh ?_ ?_;(focus (simp [bb];done))|refine ai fun K I=>?_;go_simp;refine I _ _ ?_;clear I K|refine ao fun K I=>?_;go_simp|refine aj ?_)
  go_ret
  exact ⟨_,_,_,rfl,nT,(nH.trans (jH.alloc _) (fun _ h=>by cases h)).then_ kE,mU.of_le (by have:=nH.size;have:=jH.size;simp at *;omega)⟩
 ·have Gb:(xp+xc == p) = false:=by simpa using he
  clear hj h he
  go_enter Tryz.func139,Tryz.ntmps139
  go_wp2_with fail
  refine rgt [0,0,0,0,0,0,1,6,0,5,0,0,0,0,0,0,0,1,0,1,0,0] [none,none,none,some (20,true),some (20,true),some (20,true),some (20,true),some (20,true),some (20,true),some (20,true),some (20,true),none,none,some (30,true),some (30,true),some (30,true),some (30,true),some (30,true),some (30,true),some (30,true),some (30,true),none] (fun W=>Blk W w.heap.size 144 #[.int .i64 p,.int .i64 c,.int .u8 g]) ?_
  go_wp2_with (first|refine av fun K I=>?_|refine ay ?_ ?_;(focus (simp [bb];done));go_simp|refine bh ?_ ?_;(focus (simp [bb];done))|refine ai fun K I=>?_;go_simp;refine I _ _ ?_;clear I K|refine ao fun K I=>?_;go_simp|refine aj ?_)
  (refine aw hb fun K I=>?_);go_simp;(refine (kn xp xc xg _ ⟨by omega,by omega⟩ ⟨by omega,by omega⟩).mono ?_);rintro e W1 ⟨rfl,jH⟩;have kF:=Blk.chg hb jH ab;(refine I _ _ kF ?_);clear I K
  have b0:=kF.cell 0
  have b1:=kF.cell 1
  have b2:=kF.cell 2
  simp at b0 b1 b2
  have ED:SR W1 (.slice (some ⟨g0,off,none⟩) (n+1) c0) (l ++ [⟨xp,xc,xg⟩]):=(hv.stay nH).stay jH
  clear q0 q1 q2
  go_wp2_with (first|refine al 3 _ rfl rfl (fun w' J=>cr Tryz.underlying3 (by simpa using Blk.cell J 0)) kF ?_;go_simp|at_builtin;refine jc rfl _ _ rfl (.slice (some ⟨g0,off,none⟩) (n+1) c0) _ rfl rfl (ED.stay ((Chg.refl _ _).alloc _)) (dH W1 p c g) Fz.out ?_;intro A9 n9 c9 W9 mW nT kE mU|refine av fun K I=>?_|refine ay ?_ ?_;(focus (simp [bb];done));go_simp|refine bh ?_ ?_;(focus (simp [bb];done))|refine ai fun K I=>?_;go_simp;refine I _ _ ?_;clear I K|refine ao fun K I=>?_;go_simp|refine aj ?_)
  go_ret
  exact ⟨_,_,_,rfl,nT,(nH.trans (jH.alloc _) (fun _ h=>by cases h)).then_ kE,mU.of_le (by have:=nH.size;have:=jH.size;simp at *;omega)⟩
theorem put_join {w:World} {v:Value} {l:List Rn} {x r:Rn} (hv:SR w v (l ++ [x])) (h:¬ (r.c < 1∨r.g = 0)) (hx:Okr x) (hr:Okr r) (jN:l.length≤100000) (hj:x.e = r.p∧x.g = r.g) :
  Calls Tryz.prog 139 #[v,.agg #[.int .i64 r.p,.int .i64 r.c,.int .u8 r.g]] w (PutP w v (l ++ [⟨x.p,x.c+r.c,x.g⟩])):=by
 obtain ⟨A,c0,rfl⟩:=hv.form
 obtain ⟨n,hn⟩:∃n,l.length = n:=⟨_,rfl⟩
 have en:(l ++ [x]).length = n+1:=by simp [hn]
 rw [en] at hv ⊢
 obtain ⟨g0,off,rfl⟩:=SE.addr hv (Nat.succ_pos n)
 obtain ⟨q0,q1,q2⟩:=RR.cells hv.re (k:=n) (by omega)
 have ex:(l ++ [x])[n]'(by omega) = x:=by subst hn;simp
 have e3:(l ++ [x]).set n ⟨x.p,x.c+r.c,x.g⟩ = l ++ [⟨x.p,x.c+r.c,x.g⟩]:=by subst hn;simp
 rw [ex] at q0 q1 q2
 have Hset:Hid (∀W,SR W (.slice (some ⟨g0,off,none⟩) (n+1) c0) (l ++ [x])→SR (W.setCell ⟨g0,off+(n * 3+1),none⟩ (.int .i64 (x.c+r.c))) (.slice (some ⟨g0,off,none⟩) (n+1) c0) (l ++ [⟨x.p,x.c+r.c,x.g⟩])):=ah fun W hW=>by
  have:=SE.set aO hW (k:=n) (j:=1) (by omega) (by omega) (u:=.int .i64 (x.c+r.c)) (x:=⟨x.p,x.c+r.c,x.g⟩) (by rw [ex];rfl)
  rw [e3] at this
  exact this
 have Hn:=ah hn
 have rW:g0 < w.heap.size:=hv.own_lt g0 (by simp [own,Value.ownBlock])
 have tI:n≤100000:=by omega
 have vN:=hv.frozen (off+n * 3+1)
 clear en ex hn e3
 obtain ⟨⟨xp1,xp2⟩,xc1,xc2⟩:=hx
 obtain ⟨⟨rp1,rp2⟩,rc1,rc2⟩:=hr
 obtain ⟨p,c,g⟩:=r
 obtain ⟨xp,xc,xg⟩:=x
 simp only at *
 obtain ⟨he,rfl⟩:=hj
 have h1:1≤c:=by omega
 have h2:(xg == 0) = false:=beq_eq_false_iff_ne.2 (by omega)
 have Gb:(xp+xc == p) = true:=by simpa using he
 clear h he
 have hb:Blk ((w.alloc (.cells #[.int .i64 p,.int .i64 c,.int .u8 xg] 144)).drew) w.heap.size 144 #[.int .i64 p,.int .i64 c,.int .u8 xg]:=(Blk.new w 144 _).drew
 have nH:Chg [] w ((w.alloc (.cells #[.int .i64 p,.int .i64 c,.int .u8 xg] 144)).drew):=((Chg.refl _ _).alloc _).drew
 go_enter Tryz.func139,Tryz.ntmps139
 go_wp2_with fail
 refine rgt [0,0,0,0,0,0,1,6,0,5,0,0,0,0,0,0,0,1,0,1,0,0] [none,none,none,some (20,true),some (20,true),some (20,true),some (20,true),some (20,true),some (20,true),some (20,true),some (20,true),none,none,some (30,true),some (30,true),some (30,true),some (30,true),some (30,true),some (30,true),some (30,true),some (30,true),none] (fun W=>Blk W w.heap.size 144 #[.int .i64 p,.int .i64 c,.int .u8 xg]) ?_
 go_wp2_with (first|refine av fun K I=>?_|refine ay ?_ ?_;(focus (simp [bb];done));go_simp|refine bh ?_ ?_;(focus (simp [bb];done))|refine ai fun K I=>?_;go_simp;refine I _ _ ?_;clear I K|refine ao fun K I=>?_;go_simp|refine aj ?_)
 (refine aw hb fun K I=>?_);go_simp;(refine (kn xp xc xg _ ⟨by omega,by omega⟩ ⟨by omega,by omega⟩).mono ?_);rintro e W1 ⟨rfl,jH⟩;have kF:=Blk.chg hb jH ab;(refine I _ _ kF ?_);clear I K
 have b0:=kF.cell 0
 have b1:=kF.cell 1
 have b2:=kF.cell 2
 simp at b0 b1 b2
 have mK:=nH.trans jH (fun _ h=>by cases h)
 have ED:SR W1 (.slice (some ⟨g0,off,none⟩) (n+1) c0) (l ++ [⟨xp,xc,xg⟩]):=hv.stay mK
 obtain ⟨q0',q1',q2'⟩:W1.cell? ⟨g0,off+n * 3,none⟩ = some (.int .i64 xp)∧W1.cell? ⟨g0,off+n * 3+1,none⟩ = some (.int .i64 xc)∧W1.cell? ⟨g0,off+n * 3+2,none⟩ = some (.int .u8 xg):=⟨mK.cell q0 ab,mK.cell q1 ab,mK.cell q2 ab⟩
 have hfz1:=ED.frozen (off+n * 3+1)
 clear q0 q1 q2 vN
 go_wp2_with (first|refine al 3 _ rfl rfl (fun w' J=>cr Tryz.underlying3 (by simpa using Blk.cell J 0)) kF ?_;go_simp|refine av fun K I=>?_|refine ay ?_ ?_;(focus (simp [bb];done));go_simp|refine bh ?_ ?_;(focus (simp [bb];done))|refine ai fun K I=>?_;go_simp;refine I _ _ ?_;clear I K|refine ao fun K I=>?_;go_simp|refine aj ?_)
 refine ke [0,0,0,0,1,0,1,0,0,0,3] ?_
 go_wp2_with (first|refine av fun K I=>?_|refine ai fun K I=>?_;go_simp;refine I _ _ ?_;clear I K|refine ao fun K I=>?_;go_simp|refine aj ?_)
 go_ret
 have hs:=Hset.out _ (ED.stay (Chg.refl [] W1).drew)
 refine ⟨_,_,_,rfl,hs,(mK.drew).then_ ((Chg.refl _ _).setCell (.inl (by simp [own,Value.ownBlock])) _),Grow.refl _ _⟩
theorem vm {w:World} {v:Value} {l:List Rn} {r:Rn} (hv:SR w v l) (hl:Okl l) (hr:Okr r) (jN:l.length≤100000):Calls Tryz.prog 139 #[v,.agg #[.int .i64 r.p,.int .i64 r.c,.int .u8 r.g]] w (PutP w v (ji l r)):=by
 by_cases h:r.c < 1∨r.g = 0
 ·rw [nq h]
  obtain ⟨A,c0,rfl⟩:=hv.form
  refine (put_none hv h).mono ?_
  rintro e w' ⟨rfl,hc⟩
  exact ⟨_,_,_,rfl,hv.stay hc,hc.up _,Grow.refl _ _⟩
 ·rcases List.eq_nil_or_concat l with rfl | ⟨l',x,rfl⟩
  ·rw [bZ h]
   exact put_nil hv h
  ·rw [List.concat_eq_append] at hv hl jN ⊢
   have hx:=hl x (by simp)
   by_cases hj:x.e = r.p∧x.g = r.g
   ·rw [zi h hj]
    exact put_join hv h hx hr (by simp at jN;omega) hj
   ·rw [zj h hj]
    exact put_snoc hv h hx hr (by simp at jN;omega) hj
end Go.Proofs.YtfoleblcaloeoaaGreatDoor.Ar
namespace Go.Proofs.YtfoleblcaloeoaaGreatDoor
open Go Go.RowKit
def MapIt (w:World) (b r:Nat) (k:IntKind) (f:Int→Option Value) (left:Int→Bool) (n:Nat):Prop :=
 ∃es clock since seen c0,w.heap[b]? = some (.map es clock)∧yl k es.toList∧vr es.toList∧Born es.toList clock∧(∀z,(dr k z es.toList 0).map (·.2) = f z) ∧
  w.heap[r]? = some (.mapIter (some b) since seen c0)∧(∀x∈es.toList,x.born < since)∧since≤c0∧since≤clock∧(leftOf es seen).size = n ∧
  ∀z,left z = true↔∃e∈es.toList,e.key = .int k z∧seen.contains e.born = false
section
variable {P:Program} {w w':World} {t kt e:TypeId} {q k:IntKind} {b r n:Nat} {f:Int→Option Value} {left:Int→Bool}
theorem MapIt.lt (h:MapIt w b r k f left n):b < w.heap.size∧r < w.heap.size:=by
 obtain ⟨es,c,_,_,_,h1,h2,h3,h4,h5,h6,_⟩:=h
 exact ⟨(Array.getElem?_eq_some_iff.1 h1).1,(Array.getElem?_eq_some_iff.1 h6).1⟩
theorem MapIt.chg (h:MapIt w b r k f left n) {F:List Nat} (hc:Chg F w w') (hb:b∉F) (hr:r∉F):MapIt w' b r k f left n:=by
 obtain ⟨l1,l2⟩:=h.lt
 obtain ⟨es,c,s,sn,c0,h1,h2,h3,h4,h5,h6,h7⟩:=h
 exact ⟨es,c,s,sn,c0,(hc.block b l1 hb).trans h1,h2,h3,h4,h5,(hc.block r l2 hr).trans h6,h7⟩
def si (w:World) (b r:Nat):Nat :=
 match w.heap[b]?,w.heap[r]? with
 | some (.map es _),some (.mapIter _ _ seen _)=>(leftOf es seen).size
 | _,_=>0
theorem MapIt.left_eq (h:MapIt w b r k f left n):si w b r = n:=by
 obtain ⟨es,c,s,sn,c0,h1,h2,h3,h4,h5,h6,h7,h8,h9,kK,mM⟩:=h
 unfold si
 rw [h1,h6]
 exact kK
theorem tc {l:List MapEntry} (hd:vr l) {z:Int} {e:MapEntry} (he:e∈l) (hk:e.key = .int k z):(dr k z l 0).map (·.2) = some e.val:=by
 cases h:dr k z l 0 with
 | none=>exact absurd hk ((kg _ _).1 h e he)
 | some p =>
  obtain ⟨i,v⟩:=p
  obtain ⟨j,_,hj,h1,h2⟩:=fg _ _ h
  have:l[j] = e:=by
   obtain ⟨a,ha,rfl⟩:=List.getElem_of_mem he
   refine Classical.byContradiction fun jO=>?_
   have hja:j≠a:=fun e1=>jO (by subst e1;rfl)
   unfold vr at hd
   rw [List.pairwise_iff_getElem] at hd
   rcases Nat.lt_or_gt_of_ne hja with jF | qF
   ·exact hd j a hj ha jF (h1.trans hk.symm)
   ·exact hd a j ha hj qF (hk.trans h1.symm)
  rw [← this,h2];rfl
theorem yc (ht:P.underlying t = some (.map kt e)) (h:MapB w b k f) :
  ∃w' n,(Instr.range t (.map (some b))).run P w = .ok (.pointer (some ⟨w.heap.size,0,none⟩)) w'∧MapIt w' b w.heap.size k f (fun z=>(f z).isSome) n∧Chg [] w w'∧w'.heap.size = w.heap.size+1:=by
 have jF:=h.lt
 obtain ⟨es,c,h1,h2,h3,h4,h5⟩:=h
 have hc:=(Chg.refl [] w).alloc (.mapIter (some b) c #[] c)
 refine ⟨_,_,run_range_map w t kt e b es c ht h1,⟨es,c,c,#[],c,(hc.block b jF ab).trans h1,h2,h3,h4,h5,heap_alloc_new w _,h4.2,Nat.le_refl _,Nat.le_refl _,rfl,fun z=>?_⟩,hc,af w _⟩
 constructor
 ·intro hz
  replace hz:(f z).isSome = true:=hz
  cases h6:dr k z es.toList 0 with
  | none=>rw [← h5 z,h6] at hz;cases hz
  | some p =>
   obtain ⟨i,v⟩:=p
   obtain ⟨j,_,hj,h7,h8⟩:=fg _ _ h6
   exact ⟨_,List.getElem_mem hj,h7,by simp⟩
 ·rintro ⟨x,hx,hk,_⟩
  show (f z).isSome = true
  rw [← h5 z,tc h3 hx hk]
  rfl
theorem aP (h:MapIt w b r k f left n) (ty:TypeId) :
  (n = 0∧(∀z,left z = false)∧(Instr.next (.pointer (some ⟨r,0,none⟩)) false ty).run P w = .ok (.tuple #[.bool false]) w) ∨
  ∃z v w' n',left z = true∧f z = some v∧(Instr.next (.pointer (some ⟨r,0,none⟩)) false ty).run P w = .ok (.tuple #[.bool true,.int k z,v]) w' ∧
   MapIt w' b r k f (fun y=>left y && !(y == z)) n'∧n' < n∧Chg [r] w w'∧w'.heap.size = w.heap.size∧(Instr.entry (.pointer (some ⟨r,0,none⟩))).run P w' = .ok (.tuple #[.int k z,v]) w':=by
 obtain ⟨pB,hrl⟩:=h.lt
 obtain ⟨es,c,s,sn,c0,h1,h2,h3,h4,h5,h6,h7,h8,h9,rfl,mM⟩:=h
 have jO:r≠b:=fun e=>by rw [e,h1] at h6;cases h6
 rcases run_next_at (P:=P) w ty r b s c0 sn es c h6 h1 h7 h8 with ⟨h0,oD⟩ | ⟨x,hx,w1,yM,oD⟩
 ·refine .inl ⟨h0,fun z=>?_,oD⟩
  cases hz:left z with
  | false=>rfl
  | true =>
   obtain ⟨e,he,_,hs⟩:=(mM z).1 hz
   rw [all_seen es sn h0 e he] at hs
   cases hs
 ·obtain ⟨EH,DM⟩:=mem_left hx
  obtain ⟨z,hz⟩:=h2 x EH
  have jH:Chg [] w w1:=by rcases yM with rfl | rfl;exact Chg.refl _ _;exact (Chg.refl [] w).drew
  have pC:w1.heap.size = w.heap.size:=by rcases yM with rfl | rfl <;> rfl
  have jA:Chg [r] w (ChangeMaps.setBlock w1 r (.mapIter (some b) s (sn.push x.born) c)):=(jH.up [r]).and_ (fu _ _ _)
  have CZ:r < w1.heap.size:=by omega
  have mT:=(jA.block b pB (by simp;exact fun e=>jO e.symm)).trans h1
  refine .inr ⟨z,x.val,_,_,(mM z).2 ⟨x,EH,hz,DM⟩,?_,by rw [oD,hz],⟨es,c,s,sn.push x.born,c,mT,h2,h3,h4,h5,el _ _ CZ,h7,h9,h9,rfl,fun y=>?_⟩,left_shrinks es sn x hx,jA,by simp [ChangeMaps.setBlock,pC],?_⟩
  ·rw [← h5 z];exact tc h3 EH hz
  ·have hbn:∀e∈es.toList,e.born = x.born→e = x:=fun e he Eq=>by
    obtain ⟨i,hi,rfl⟩:=List.getElem_of_mem he
    obtain ⟨j,hj,rfl⟩:=List.getElem_of_mem EH
    refine Classical.byContradiction fun jO=>?_
    have pI:i≠j:=fun e1=>jO (by subst e1;rfl)
    have hp:=h4.1
    rw [List.pairwise_iff_getElem] at hp
    rcases Nat.lt_or_gt_of_ne pI with jF | qF
    ·exact hp i j hi hj jF Eq
    ·exact hp j i hj hi qF Eq.symm
   have xB:∀e∈es.toList,e.key = .int k z→e = x:=fun e he hk=>by
    have e1:=tc h3 he hk
    obtain ⟨i,hi,rfl⟩:=List.getElem_of_mem he
    obtain ⟨j,hj,rfl⟩:=List.getElem_of_mem EH
    refine Classical.byContradiction fun jO=>?_
    have pI:i≠j:=fun e1=>jO (by subst e1;rfl)
    have hp:=h3
    unfold vr at hp
    rw [List.pairwise_iff_getElem] at hp
    rcases Nat.lt_or_gt_of_ne pI with jF | qF
    ·exact hp i j hi hj jF (hk.trans hz.symm)
    ·exact hp j i hj hi qF (hz.trans hk.symm)
   constructor
   ·intro hy
    simp only [Bool.and_eq_true,Bool.not_eq_true',beq_eq_false_iff_ne,ne_eq] at hy
    obtain ⟨e,he,hk,hs⟩:=(mM y).1 hy.1
    refine ⟨e,he,hk,?_⟩
    rw [contains_push,hs]
    simp only [Bool.false_or,beq_eq_false_iff_ne,ne_eq]
    intro Eq
    have:=hbn e he Eq
    subst this
    rw [hz] at hk
    injection hk with _ hk
    exact hy.2 hk.symm
   ·rintro ⟨e,he,hk,hs⟩
    rw [contains_push,Bool.or_eq_false_iff] at hs
    have vJ:=(mM y).2 ⟨e,he,hk,hs.1⟩
    show (left y && !(y == z)) = true
    rw [vJ]
    simp only [Bool.true_and,Bool.not_eq_true',beq_eq_false_iff_ne,ne_eq]
    rintro rfl
    have:=xB e he hk
    subst this
    simp at hs
  ·rw [← hz]
   refine run_entry_at _ r b s sn es c x (el _ _ CZ) mT EH ?_
   unfold List.Nodup
   rw [List.pairwise_map]
   exact h4.1
theorem bC {o:Oper} {a:Act} {K:Act→World→Prop} {Q:Exit→Act→World→Prop} (x:Operand) (ho:o.op = .range t x) (ht:P.underlying t = some (.map kt e)) (hx:a.eval x = .map (some b)) (h:MapB w b k f)
  (I:∀w' n,MapIt w' b w.heap.size k f (fun z=>(f z).isSome) n→Chg [] w w'→w'.heap.size = w.heap.size+1→K (a.put o.dst (.pointer (some ⟨w.heap.size,0,none⟩))) w'):o.wp P a w K Q:=by
 obtain ⟨w',n,h1,h2,h3,h4⟩:=yc ht h
 unfold Oper.wp execOp
 simp only [ho,hx,Sem.run_bind,h1,Sem.run_pure,Result.andThen_ok]
 exact I w' n h2 h3 h4
theorem dF {o:Oper} {a:Act} {K:Act→World→Prop} {Q:Exit→Act→World→Prop} (x:Operand) (ho:o.op = .next x false) (hx:a.eval x = .pointer (some ⟨r,0,none⟩)) (h:MapIt w b r k f left n)
  (hD:n = 0→(∀z,left z = false)→K (a.put o.dst (.tuple #[.bool false])) w)
  (hM:∀z v w' n',left z = true→f z = some v→MapIt w' b r k f (fun y=>left y && !(y == z)) n'→n' < n→Chg [r] w w'→w'.heap.size = w.heap.size→(Instr.entry (.pointer (some ⟨r,0,none⟩))).run P w' = .ok (.tuple #[.int k z,v]) w'→K (a.put o.dst (.tuple #[.bool true,.int k z,v])) w'):o.wp P a w K Q:=by
 unfold Oper.wp execOp
 simp only [ho,hx,Sem.run_bind]
 rcases aP (P:=P) h o.type with ⟨h0,h1,h2⟩ | ⟨z,v,w',n',h1,h2,h3,h4,h5,h6,h7,h8⟩
 ·simp only [h2,Sem.run_pure,Result.andThen_ok]
  exact hD h0 h1
 ·simp only [h3,Sem.run_pure,Result.andThen_ok]
  exact hM z v w' n' h1 h2 h4 h5 h6 h7 h8
end
end Go.Proofs.YtfoleblcaloeoaaGreatDoor
