/- Texts merged for the claim. -/
import Derived.Test.YtfoleblcaloeoaaGreatDoorZaq
set_option maxHeartbeats 40000000
set_option maxRecDepth 20000
namespace Go.Proofs.YtfoleblcaloeoaaGreatDoor
open Go Go.RowKit
theorem find_pid {M:Mo} {pid:Int} (h1:1≤pid∧pid≤8) (hq:∀q∈pids,q < pid→(M.pr q).isNone = false) (hp:M.pr pid = none):iq M = (⟨0,pid.toNat,[]⟩,some { M with pr:=upd M.pr pid (some jf) }):=by
 have hf:(pids.find? fun p=>(M.pr p).isNone) = some pid:=by
  rcases (by omega:pid = 1∨pid = 2∨pid = 3∨pid = 4∨pid = 5∨pid = 6∨pid = 7∨pid = 8) with rfl | rfl | rfl | rfl | rfl | rfl | rfl | rfl
  all_goals
   simp only [pids,List.mem_cons,ab,or_false,forall_eq_or_imp,forall_eq] at hq
   simp [pids,List.find?_cons,hp,hq]
 unfold iq
 rw [hf]
theorem hJ {M:Mo} {pid:Nat} (h1:1≤pid∧pid≤8) (hq:∀q∈pids,q < (pid:Int)→(M.pr q).isNone = false) (hp:M.pr pid = none):iq M = (⟨0,pid,[]⟩,some { M with pr:=upd M.pr pid (some jf) }):=by
 have:=find_pid (pid:=(pid:Int)) (by omega) hq hp
 rwa [Int.toNat_natCast] at this
theorem gZ {M:Mo} (hq:∀q∈pids,q < 9→(M.pr q).isNone = false):iq M = (aq 9,none):=by
 have hf:(pids.find? fun p=>(M.pr p).isNone) = none:=by
  rw [List.find?_eq_none]
  intro q hqm
  have:=hq q hqm (by simp [pids] at hqm;omega)
  rw [this]
  decide
 unfold iq
 rw [hf]
def sq (v:Value) (w:World):Int:=match v with
 | .pointer (some a)=>intOf ((w.cell? a).getD undef)
 | _=>0
theorem iU {w:World} {m:Nat} {M:Mo} {O:Nat→Prop} {X:List Nat} (h:MMem w m M O) :
  Calls Tryz.prog 63 #[.pointer (some ⟨m,0,none⟩)] w fun e w'=>AnsR w w' m O X (iq M) e∧Chg [] w w':=by
 obtain ⟨bp,bo,be,fp,fo,fe,gb,GF,ov,hI,hO,hl⟩:=h
 have HM:=ah (show MMem w m M O from ⟨bp,bo,be,fp,fo,fe,gb,GF,ov,hI,hO,hl⟩)
 have HI:=ah (fun W (hc:Chg [] w W)=>MIn.cp (G:=fun _=>False) hI (CP.of0 hc) (fun _ _ h=>h))
 clear hI hO hl
 have HP9:=ah (fun W=>kh 9 W)
 go_enter Tryz.func63,Tryz.ntmps63
 go_wp2_with (first|refine bn rfl rfl ?_;try go_simp)
 obtain ⟨b1,e1⟩:∃b,b = w.heap.size:=⟨_,rfl⟩
 obtain ⟨b2,e2⟩:∃b,b = w.heap.size+1:=⟨_,rfl⟩
 have kF:Blk (((w.alloc (Obj.cells #[Value.pointer (some { block:=m,off:=0 })] 30)).alloc (Obj.cells (rsc zRs zV) 40)).alloc (Obj.cells #[Value.int IntKind.i64 1] 3)) b1 30 #[.pointer (some ⟨m,0,none⟩)]:=by rw [e1];exact ((Blk.new w _ _).alloc _).alloc _
 have kU:XB (((w.alloc (Obj.cells #[Value.pointer (some { block:=m,off:=0 })] 30)).alloc (Obj.cells (rsc zRs zV) 40)).alloc (Obj.cells #[Value.int IntKind.i64 1] 3)) b2 zRs zV:=by
  have:=Blk.new (w.alloc (Obj.cells #[Value.pointer (some { block:=m,off:=0 })] 30)) 40 (rsc zRs zV)
  rw [af,← e2] at this
  exact this.alloc _
 have kQ:Blk (((w.alloc (Obj.cells #[Value.pointer (some { block:=m,off:=0 })] 30)).alloc (Obj.cells (rsc zRs zV) 40)).alloc (Obj.cells #[Value.int IntKind.i64 1] 3)) (w.heap.size+1+1) 3 #[.int .i64 1]:=by
  have:=Blk.new ((w.alloc (Obj.cells #[Value.pointer (some { block:=m,off:=0 })] 30)).alloc (Obj.cells (rsc zRs zV) 40)) 3 #[.int .i64 1]
  rwa [af,af] at this
 have jA:Chg [] w (((w.alloc (Obj.cells #[Value.pointer (some { block:=m,off:=0 })] 30)).alloc (Obj.cells (rsc zRs zV) 40)).alloc (Obj.cells #[Value.int IntKind.i64 1] 3)):=(((Chg.refl [] w).alloc _).alloc _).alloc _
 have wT:=ah kF
 have nC:=ah kU
 have jW:=ah kQ
 have jU:=ah jA
 have HE:=ah (And.intro e1 e2)
 rw [← e2,← e1]
 clear kF kU kQ jA
 generalize ((w.alloc (Obj.cells #[Value.pointer (some { block:=m,off:=0 })] 30)).alloc (Obj.cells (rsc zRs zV) 40)).alloc (Obj.cells #[Value.int IntKind.i64 1] 3) = W2 at wT nC jW jU ⊢
 rw [← e2] at jW
 clear e1 e2
 go_loopw [4] (fun p wr=>∃(b4 pid:Nat),p = .pointer (some ⟨b4,0,none⟩)∧1≤pid∧pid≤9∧Hid (Blk wr b4 3 #[.int .i64 (pid:Nat)])∧Hid (Chg [] w wr)∧Hid (Blk wr b1 30 #[.pointer (some ⟨m,0,none⟩)])∧Hid (XB wr b2 zRs zV)∧Hid (∀q∈pids,q < (pid:Int)→(M.pr q).isNone = false)∧Hid (b2 < b4)) (fun p wr=>(9 - sq p wr).toNat)
 case atStart=>exact ⟨b2+1,1,rfl,by omega,by omega,jW,jU,wT,nC,ah (fun q hq h=>by simp [pids] at hq;omega),ah (Nat.lt_succ_self _)⟩
 case round =>
  obtain ⟨b4,pid,rfl,h1,h9,kQ,hc,kF,kU,hq,jF⟩:=hrel
  have hI:=HI.out wr hc.out
  have q1:wr.cell? ⟨b1,0,none⟩ = some (.pointer (some ⟨m,0,none⟩)):=by simpa using kF.out.cell 0
  have q4:wr.cell? ⟨b4,0,none⟩ = some (.int .i64 (pid:Nat)):=by simpa using kQ.out.cell 0
  have rF:=sz (HI.out wr.drew hc.out.drew) pid
  obtain ⟨qp,-,-,qm,-⟩:=cc hI.blk
  have l4:=kQ.out.lt
  have l1:=kF.out.lt
  have f4:=kQ.out.frozen
  have uV:sq (.pointer (some ⟨b4,0,none⟩)) wr = (pid:Int):=by simp [sq,q4,intOf]
  have wC:=ah uV
  clear uV
  by_cases h8:pid≤8
  ·have d8:decide ((pid:Int)≤8) = true:=ae (by omega)
   have hwp:IntKind.u64.wrap (pid:Int) = (pid:Int):=by rw [IntKind.wrap_u64];omega
   have mS:IntKind.i64.wrap ((pid:Int)+1) = (pid:Int)+1:=by rw [IntKind.wrap_i64];omega
   have DQ:=ah (And.intro h1 h8)
   cases hp:M.pr pid with
   | some p =>
    rw [hp] at rF
    have HP:=ah hp
    clear hI h1 h8 h9 hp
    go_upto_region 4 with (fail)
    refine rgn7 [1,0,0,1,1,3,0] ?_
    go_wp2_with (first|refine av fun K I=>?_|refine ai fun K I=>?_;go_simp;refine I _ _ ?_;clear I K|refine ao fun K I=>?_;go_simp|refine aj ?_)
    have hs:=hc.out.size
    go_roundw
    case rel =>
     refine ⟨wr.heap.size,pid+1,rfl,by omega,by have:=DQ.out;omega,ah ?_,ah (hc.out.alloc _).drew,ah (kF.out.alloc _).drew,ah (kU.out.alloc _).drew,ah (fun q vS mD=>?_),ah (Nat.lt_trans jF.out l4)⟩
     ·have h:=(Blk.new wr 3 #[.int .i64 ((pid:Int)+1)]).drew
      rw [show ((pid:Int)+1) = ((pid+1:Nat):Int) by omega] at h ⊢
      exact h
     ·by_cases hqp:q < (pid:Int)
      ·exact hq.out q vS hqp
      ·obtain rfl:q = (pid:Int):=by omega
       rw [HP.out]
       rfl
    case measure =>
     have Dh:(wr.alloc (Obj.cells #[Value.int IntKind.i64 ((pid:Int)+1)] 3)).drew.cell? ⟨wr.heap.size,0,none⟩ = some (.int .i64 ((pid:Int)+1)):=by simp
     have e1:sq (.pointer (some ⟨wr.heap.size,0,none⟩)) (wr.alloc (Obj.cells #[Value.int IntKind.i64 ((pid:Int)+1)] 3)).drew = (pid:Int)+1:=by unfold sq;simp only [Dh];rfl
     have e2:=wC.out
     have e3:=DQ.out
     show (9 - sq (.pointer (some ⟨wr.heap.size,0,none⟩)) _).toNat < (9 - sq (.pointer (some ⟨b4,0,none⟩)) _).toNat
     rw [e1,e2]
     omega
   | none =>
    rw [hp] at rF
    have HR:=ah (hJ ⟨h1,h8⟩ hq.out hp)
    have EY:=ah (fun W (lF:CP (fun k=>¬ O k) w W) (k1:Blk W b1 30 #[.pointer (some ⟨m,0,none⟩)]) (k4:Blk W b4 3 #[.int .i64 (pid:Nat)])=>spawn_do (HM.out.off lF) k1 k4 hp (by omega))
    have Cm:=ah (br_v pid)
    have HB2d:=ah (show XB wr.drew b2 zRs zV from kU.out)
    clear hI h1 h8 h9 hp
    go_upto_region 4 with (fail)
    refine rgn7 [1,0,0,1,1,3,0] ?_
    go_wp2_with (first|refine bx rfl _ rfl Cm.out ?_ ?_;(focus (simp [Act.eval];done))|refine au (b:=b2) (y:=⟨0,pid,[]⟩) (u:=zV) rfl _ _ rfl rfl rfl rfl HB2d.out ?_;intro W4 h4 jT|refine av fun K I=>?_|refine ai fun K I=>?_;go_simp;refine I _ _ ?_;clear I K|refine ao fun K I=>?_;go_simp|refine aj ?_)
    refine bodyPost_ret (v:=.tuple #[.agg (rsc ⟨0,pid,[]⟩ zV),.func (.func 91) #[] #[.pointer (some ⟨b1,0,none⟩),.pointer (some ⟨b4,0,none⟩)]]) (bf (p:=2) (q:=3) rfl _ rfl h4) rfl ⟨?_,?_⟩
    ·rw [HR.out]
     have FQ:Chg [] w W4:=hc.out.drew.trans jT (fun y hy=>.inr (by obtain rfl:=aa hy;have:=HE.out;omega))
     have hl:=jF.out
     have he:=HE.out
     refine ⟨none,0,0,_,rfl,RE.nil _ _ _ _ _,(fun _ h=>(bw h).elim),_,_,rfl,oc Tryz.func91 (by kernel_rfl) (by kernel_rfl),fun F W hF lF=>(EY.out W (hF.cp FQ lF) ((kF.out.drew.chg jT (by simp;omega)).chg lF (hF.new (by omega))) ((kQ.out.drew.chg jT (by simp;omega)).chg lF (hF.new (by omega)))).mono ?_⟩
     rintro e W' ⟨rfl,k1,O',k2,k3⟩
     exact ⟨rfl,k1.or,O',k2,fun k hk=>(k3 k hk).imp id (fun h=>ag (ag FQ.size lF.size) h)⟩
    ·exact hc.out.drew.trans jT (fun y hy=>.inr (by obtain rfl:=aa hy;have:=HE.out;omega))
  ·obtain rfl:pid = 9:=by omega
   have HR:=ah (gZ hq.out)
   clear hI rF
   go_wp2_with fail
   refine (HP9.out _).mono ?_
   rintro e W3 ⟨rfl,jD⟩
   have jY:=ah (XB.stay kU.out jD)
   go_wp2_with (first|refine au (b:=b2) (y:=aq 9) (u:=zV) rfl _ _ rfl rfl rfl rfl jY.out ?_;intro W4 h4 jT)
   refine bodyPost_ret (v:=.tuple #[.agg (rsc (aq 9) zV),.nilFunc]) (bf (p:=2) (q:=3) rfl _ rfl h4) rfl ⟨?_,(hc.out.stay jD).trans jT (fun y hy=>.inr (by obtain rfl:=aa hy;have:=HE.out;omega))⟩
   rw [HR.out]
   exact ⟨none,0,0,.nilFunc,rfl,RE.nil _ _ _ _ _,(fun _ h=>(bw h).elim),rfl⟩
theorem fq {c:Cf} {x:Cl} (h:ci c x = false):mayB c = true∧lc x = true∧t1K x = false∧t2K x = false∧t3K x = false∧t4K c x = false∧t5K c x = false∧t6K x = false∧t7K x = false∧t8K x = false:=by
 unfold ci at h
 simp only [Bool.or_eq_false_iff,Bool.not_eq_false'] at h
 exact ⟨h.1.1,h.1.2,h.2.1,h.2.2.1,h.2.2.2.1,h.2.2.2.2.1,h.2.2.2.2.2.1,h.2.2.2.2.2.2.1,h.2.2.2.2.2.2.2.1,h.2.2.2.2.2.2.2.2⟩
theorem stF_l (x y:Cl) {f:Nat} (h:f≠98):(jv x y f).l = y.l:=by
 unfold jv
 (repeat' split) <;> first | rfl | exact absurd (by assumption) h
theorem fold_l (x:Cl):∀(F:List Nat) (y:Cl),(∀f∈F,f≠98)→(F.foldl (jv x) y).l = y.l
 | [],_,_=>rfl
 | f :: F,y,h=>by
  rw [List.foldl_cons,fold_l x F _ (fun g hg=>h g (List.mem_cons_of_mem _ hg)),stF_l x y (h f (List.mem_cons_self ..))]
theorem stF_s (x y:Cl) {f:Nat} (h:f≠115):(jv x y f).s = y.s:=by
 unfold jv
 (repeat' split) <;> first | rfl | exact absurd (by assumption) h
theorem fold_s (x:Cl):∀(F:List Nat) (y:Cl),(∀f∈F,f≠115)→(F.foldl (jv x) y).s = y.s
 | [],_,_=>rfl
 | f :: F,y,h=>by
  rw [List.foldl_cons,fold_s x F _ (fun g hg=>h g (List.mem_cons_of_mem _ hg)),stF_s x y (h f (List.mem_cons_self ..))]
theorem wi {x:Cl} (h:lc x = true):cz x (jj x) = true:=by
 unfold lc at h
 simp only [Bool.and_eq_true] at h
 exact h.1.2
theorem may_l {x:Cl} (h:lc x = true) (hb:hasB x 98 = false):x.l = []:=by
 have h1:=wi h
 unfold cz at h1
 simp only [Bool.and_eq_true,decide_eq_true_eq] at h1
 rw [h1.2]
 unfold jj ge
 rw [fold_l x _ _ (fun f hf e=>by
  unfold hasB at hb
  have:(fld x.k).contains 98 = true:=by rw [List.contains_iff_mem];exact e ▸ hf
  rw [hb] at this;cases this)]
 rfl
theorem may_s {x:Cl} (h:lc x = true) (hb:hasB x 115 = false):x.s = 0:=by
 have h1:=wi h
 unfold cz at h1
 simp only [Bool.and_eq_true,beq_iff_eq] at h1
 rw [h1.1.1.1.1.1.2]
 unfold jj ge
 rw [fold_s x _ _ (fun f hf e=>by
  unfold hasB at hb
  have:(fld x.k).contains 115 = true:=by rw [List.contains_iff_mem];exact e ▸ hf
  rw [hb] at this;cases this)]
 rfl
theorem fk {x:Cl} {k f:Nat} (hk:x.k = k):hasB x f = (fld k).contains f:=by unfold hasB;rw [hk]
theorem fX {c:Cf} {x:Cl} (h:ci c x = false):1≤x.k∧x.k≤21:=by
 have h1:=(fq h).2.1
 unfold lc at h1
 simp only [Bool.and_eq_true] at h1
 refine ⟨?_,?_⟩
 ·refine Classical.byContradiction fun h2=>?_
  have:x.k = 0:=by omega
  rw [this] at h1
  simp [fld] at h1
 ·refine Classical.byContradiction fun h2=>?_
  rw [ri (show 22≤x.k by omega)] at h1
  simp at h1
theorem qj {c:Cf} {x:Cl} (h:ci c x = false) (hc:hasB x 99 = true):1≤x.c∧x.c≤1024∧0≤x.g∧x.g≤1024 - x.c:=by
 have h1:=(fq h).2.2.1
 unfold t1K at h1
 rw [hc] at h1
 simp at h1
 omega
theorem nw_page {c:Cf} {x:Cl} (h:ci c x = false) (hc:hasB x 103 = true):0≤x.g∧x.g≤1023:=by
 have h1:=(fq h).2.2.2.1
 unfold t2K at h1
 rw [hc] at h1
 simp at h1
 omega
theorem nw_right {c:Cf} {x:Cl} (h:ci c x = false) (hc:hasB x 114 = true):1≤x.r∧x.r≤3:=by
 have h1:=(fq h).2.2.2.2.1
 unfold t3K at h1
 rw [hc] at h1
 simp at h1
 omega
theorem zc {c:Cf} {x:Cl} (h:ci c x = false) (hk:x.k = 10):1≤x.s∧x.s≤128:=by
 have h1:=(fq h).2.2.2.2.2.2.2.2.2
 unfold t8K at h1
 rw [hk] at h1
 simp at h1
 omega
theorem fY {c:Cf} {x:Cl} (h:ci c x = false) (hk:x.k = 8):0≤x.a∧x.a < 262144∧1≤x.s∧x.a % 256+x.s≤256:=by
 have h1:=(fq h).2.2.2.2.2.2.2.2.1
 unfold t7K jk accB at h1
 rw [fk (f:=97) hk,fk (f:=112) hk,fk (f:=98) hk] at h1
 simp [fld] at h1
 obtain ⟨h0,h2⟩:=h1
 rw [Int.tmod_eq_emod_of_nonneg h0.2.1] at h2
 omega
theorem bW {c:Cf} {x:Cl} (h:ci c x = false) (hk:x.k = 9):0≤x.a∧x.a < 262144∧1≤x.l.length∧x.a % 256+x.l.length≤256:=by
 have h1:=(fq h).2.2.2.2.2.2.2.2.1
 unfold t7K jk accB at h1
 rw [fk (f:=97) hk,fk (f:=112) hk,fk (f:=98) hk] at h1
 simp [fld] at h1
 obtain ⟨h0,h2⟩:=h1
 rw [Int.tmod_eq_emod_of_nonneg h0.2.1] at h2
 omega
theorem fZ {c:Cf} {x:Cl} (h:ci c x = false) (hk:x.k = 12):0≤x.a∧x.a≤128∧x.l = []∧1≤x.s∧x.s≤128:=by
 have h0:=may_l (fq h).2.1 (by rw [fk hk];rfl)
 have h1:=(fq h).2.2.2.2.2.2.2.1
 unfold t6K jk accB at h1
 rw [fk (f:=97) hk,fk (f:=104) hk,fk (f:=98) hk] at h1
 simp [fld] at h1
 exact ⟨by omega,by omega,h0,by omega,by omega⟩
theorem aE {c:Cf} {x:Cl} (h:ci c x = false) (hk:x.k = 13):0≤x.a∧x.a≤128∧x.s = 0∧1≤x.l.length∧x.l.length≤128:=by
 have h0:=may_s (fq h).2.1 (by rw [fk hk];rfl)
 have h1:=(fq h).2.2.2.2.2.2.2.1
 unfold t6K jk accB at h1
 rw [fk (f:=97) hk,fk (f:=104) hk,fk (f:=98) hk] at h1
 simp [fld] at h1
 exact ⟨by omega,by omega,h0,by omega,by omega⟩
theorem rhas_any {m:Nat} (hm:m < 256) (k:Int) (w:World):Calls Tryz.prog 105 #[.int .u8 m,.int .i64 k] w fun e w'=>e = .returned (.bool (wf m k))∧w = w':=by
 by_cases h0:k < 0
 ·have hr:wf m k = false:=ac (by omega)
  rw [hr]
  have d1:decide (k < 0) = true:=ae h0
  go_enter Tryz.func105,Tryz.ntmps105
  go_wp2_with fail
  go_ret
  exact ⟨rfl,rfl⟩
 ·have d1:decide (k < 0) = false:=ac h0
  by_cases h8:7 < k
  ·have hr:wf m k = false:=ac (by omega)
   rw [hr]
   have d2:decide (7 < k) = true:=ae h8
   go_enter Tryz.func105,Tryz.ntmps105
   go_wp2_with fail
   go_ret
   exact ⟨rfl,rfl⟩
  ·obtain ⟨v,rfl⟩:∃v:Nat,k = v:=⟨k.toNat,by omega⟩
   have d2:decide (7 < (v:Int)) = false:=ac h8
   have hv:v < 8:=by omega
   obtain ⟨r,hr⟩:∃r,r = wf m v:=⟨_,rfl⟩
   rw [← hr]
   have HR:=ah hr
   clear hr
   have hm':(m:Int) < 256:=by omega
   go_enter Tryz.func105,Tryz.ntmps105
   go_wp2_with fail
   go_loopw [5,6] (fun x i wr=>wr = w∧∃(j y:Nat),j≤v∧y < 256∧x = .int .i64 y∧i = .int .i64 j∧Hid (y = m / 2 ^ j)) (fun _ i _=>v - (intOf i).toNat)
   case atStart=>exact ⟨rfl,0,m,by omega,hm,rfl,rfl,ah (by simp)⟩
   case round =>
    obtain ⟨rfl,j,y,hj,hy,rfl,rfl,HY⟩:=hrel
    by_cases hjv:j < v
    ·have j1:(j:Int)≤8:=by omega
     have y1:(0:Int)≤(y:Int):=by omega
     have y2:(y:Int) < 256:=by omega
     go_wp2_with fail
     go_roundw
     case rel=>exact ⟨trivial,j+1,y / 2,by omega,by omega,by simp,by go_num,ah (by rw [HY.out,Nat.pow_succ,Nat.div_div_eq_div_mul])⟩
     case measure=>simp [intOf];omega
    ·obtain rfl:j = v:=by omega
     have hr:r = ((y:Int) % 2 == 1):=by
      rw [HR.out]
      unfold wf
      rw [Int.toNat_natCast,← HY.out,Bool.eq_iff_iff]
      simp
      omega
     clear HR
     subst hr
     go_wp2_with fail
     go_ret
     exact ⟨rfl,rfl⟩
theorem zm (c:Cf) {kind m:Nat} (hk:kind < 256) (hm:m < 256) (w:World):Calls Tryz.prog 74 #[.agg (cg c),.agg #[.int .u8 kind,.int .u8 m]] w fun e w'=>e = .returned (.bool (tf c kind m))∧Chg [] w w':=by
 have HB:Hid (CB ((w.alloc (.cells (cg c) 26)).alloc (.cells #[.int .u8 kind,.int .u8 m] 45)) w.heap.size c):=ah ((Blk.new w 26 (cg c)).alloc _)
 have HP:Hid (Blk ((w.alloc (.cells (cg c) 26)).alloc (.cells #[.int .u8 kind,.int .u8 m] 45)) (w.heap.size+1) 45 #[.int .u8 kind,.int .u8 m]):=ah (by
  have:=Blk.new (w.alloc (.cells (cg c) 26)) 45 #[.int .u8 kind,.int .u8 m]
  rwa [af] at this)
 have HC:Hid (Chg [] w ((w.alloc (.cells (cg c) 26)).alloc (.cells #[.int .u8 kind,.int .u8 m] 45))):=ah (((Chg.refl [] w).alloc _).alloc _)
 obtain ⟨r,hr⟩:∃r,r = tf c kind m:=⟨_,rfl⟩
 rw [← hr]
 have HR:=ah hr
 clear hr
 obtain ⟨x,hx⟩:∃x,mayB c = x:=⟨_,rfl⟩
 have H14:=ah (fun W=>tg c W)
 rw [hx] at H14
 have HX:=ah hx
 clear hx
 cases x with
 | false =>
  obtain rfl:r = false:=by rw [HR.out,tf,HX.out];rfl
  go_enter Tryz.func74,Tryz.ntmps74
  go_wp2_with (first|refine cb rfl _ rfl rfl ?_|refine cw (b:=w.heap.size) (c:=c) rfl _ rfl rfl ?_ ?_;(focus exact HB.out))
  refine (H14.out _).mono ?_
  rintro e W2 ⟨rfl,jA⟩
  go_wp2_with fail
  go_ret
  exact ⟨rfl,HC.out.stay jA⟩
 | true =>
  have hM:=mayB_iff.1 HX.out
  obtain ⟨n,hn⟩:∃n:Nat,c 0 = n:=⟨(c 0).toNat,by have:=hM.n1;omega⟩
  have wO:n≤8:=by have:=hM.n8;omega
  have HN:=ah hn
  have sN:r = (decide (sj m≤n) && mj kind (sm m)):=by
   rw [HR.out,tf,HX.out,hn,Bool.true_and]
   congr 1
   simp
  have jC:=ah sN
  have HLI:=ah (len8_iff hm wO)
  have HON:=ah (show my m 8 = sm m from eA ⟨m,hm⟩)
  have HHAS:=ah (fun W (k:Nat)=>rhas_any hm (k:Int) W)
  clear sN HR hM hn
  have kL:(kind:Int) < 256:=by omega
  go_enter Tryz.func74,Tryz.ntmps74
  go_wp2_with (first|refine cb rfl _ rfl rfl ?_|refine cw (b:=w.heap.size) (c:=c) rfl _ rfl rfl ?_ ?_;(focus exact HB.out))
  refine (H14.out _).mono ?_
  rintro e W2 ⟨rfl,jA⟩
  have kU:CB W2 w.heap.size c:=CB.stay_ HB.out jA
  have rS:=HP.out.chg jA ab
  have nD:=ah (HC.out.stay jA)
  have g0:=CB.get kU (i:=0) (by omega)
  rw [HN.out] at g0
  have p0:=rS.cell 0
  have p1:=rS.cell 1
  simp at p0 p1
  have pB:=kU.lt
  have hpl:=rS.lt
  clear kU rS jA HB HP HC
  go_wp2_with fail
  go_loopw [5,6] (fun s i wr=>wr = W2∧∃k:Nat,k≤8∧s = .int .i64 (my m k:Nat)∧i = .int .i64 k∧Hid (∀j:Nat,j < k→wf m j = true→j < n)) (fun _ i _=>8 - (intOf i).toNat)
  case atStart=>exact ⟨rfl,0,by omega,rfl,rfl,ah (fun j hj=>by omega)⟩
  case round =>
   obtain ⟨rfl,k,hk8,rfl,rfl,HJ⟩:=hrel
   by_cases mQ:k < 8
   ·have k1:(0:Int)≤(k:Int):=by omega
    have k2:(k:Int) < 8:=by omega
    have ol:=ue m k
    have ol2:(my m k:Int)≤8:=by omega
    have nK:my m (k+1) = my m k+if wf m k then 1 else 0:=rfl
    have vG:=ah nK
    clear nK
    go_wp2_with fail
    refine (HHAS.out _ k).mono ?_
    rintro e W3 ⟨rfl,rfl⟩
    cases hh:wf m k with
    | false =>
     have HH:=ah hh
     clear hh
     go_wp2_with fail
     go_roundw
     case rel=>exact ⟨trivial,k+1,by omega,by rw [vG.out,HH.out];simp,by go_num,ah (fun j hj hz=>by
      by_cases e:j = k
      ·subst e;rw [HH.out] at hz;cases hz
      ·exact HJ.out j (by omega) hz)⟩
     case measure=>simp [intOf];omega
    | true =>
     have HH:=ah hh
     clear hh
     by_cases xB:k < n
     ·have d1:decide ((n:Int)≤(k:Int)) = false:=ac (by omega)
      have d2:decide (n≤k) = false:=ac (by omega)
      go_wp2_with fail
      go_roundw
      case rel=>exact ⟨trivial,k+1,by omega,by rw [vG.out,HH.out];simp,by go_num,ah (fun j hj hz=>by
       by_cases e:j = k
       ·subst e;exact xB
       ·exact HJ.out j (by omega) hz)⟩
      case measure=>simp [intOf];omega
     ·have d1:decide ((n:Int)≤(k:Int)) = true:=ae (by omega)
      have d2:decide (n≤k) = true:=ae (by omega)
      obtain rfl:r = false:=by rw [jC.out,ac (fun h=>xB (HLI.out.1 h k mQ HH.out))];rfl
      go_wp2_with fail
      go_ret
      exact ⟨rfl,nD.out⟩
   ·obtain rfl:k = 8:=by omega
    have Aq:sj m≤n:=HLI.out.2 HJ.out
    have sN:r = (true && mj kind (sm m)):=by rw [jC.out,ae Aq]
    clear jC
    rw [← HON.out] at sN
    have ho8:=ue m 8
    generalize my m 8 = o at sN ho8 ⊢
    have jC:=ah sN
    clear sN Aq
    by_cases k0:kind = 0
    ·subst k0
     have hr:r = ((o:Int) == 0):=by rw [jC.out,Bool.eq_iff_iff];simp [mj] <;> omega
     subst hr
     clear jC
     go_wp2_with fail
     go_ret
     exact ⟨rfl,nD.out⟩
    have j0:((kind:Int) == 0) = false:=by simp;omega
    have i0:(kind == 0) = false:=by simpa using k0
    by_cases k1:kind = 1
    ·subst k1
     have hr:r = ((o:Int) == 1):=by rw [jC.out,Bool.eq_iff_iff];simp [mj] <;> omega
     subst hr
     clear jC
     go_wp2_with fail
     go_ret
     exact ⟨rfl,nD.out⟩
    have j1:((kind:Int) == 1) = false:=by simp;omega
    have i1:(kind == 1) = false:=by simpa using k1
    by_cases k2:kind = 2
    ·subst k2
     have hr:r = decide (0 < o):=by rw [jC.out,Bool.eq_iff_iff];simp [mj] <;> omega
     subst hr
     clear jC
     go_wp2_with fail
     go_ret
     exact ⟨rfl,nD.out⟩
    have j2:((kind:Int) == 2) = false:=by simp;omega
    have i2:(kind == 2) = false:=by simpa using k2
    by_cases k3:kind = 3
    ·subst k3
     have hr:r = decide (0 < o):=by rw [jC.out,Bool.eq_iff_iff];simp [mj] <;> omega
     subst hr
     clear jC
     go_wp2_with fail
     go_ret
     exact ⟨rfl,nD.out⟩
    have j3:((kind:Int) == 3) = false:=by simp;omega
    have i3:(kind == 3) = false:=by simpa using k3
    have hr:r = false:=by rw [jC.out,Bool.eq_false_iff];simp [mj] <;> omega
    subst hr
    clear jC
    go_wp2_with fail
    go_ret
    exact ⟨rfl,nD.out⟩
end Go.Proofs.YtfoleblcaloeoaaGreatDoor
