/- Texts merged for the claim. -/
import Derived.Test.YtfoleblcaloeoaaGreatDoorZbp
set_option maxHeartbeats 40000000
set_option maxRecDepth 20000
namespace Go.Proofs.YtfoleblcaloeoaaGreatDoor
open Go Go.RowKit
theorem wmc_one {c:Cf} {sp:Nat→Option Nat} {vo ve:Value} (h1:vo.oneCell' = true) (h2:ve.oneCell' = true):(wmc c sp vo ve).all (·.oneCell') = true:=by
 unfold wmc
 have hp:∀i,(spv sp i).oneCell' = true:=fun _=>rfl
 rw [Array.all_append,cg_one]
 simp [h1,h2,hp]
theorem zeroW:∀w,(zeroValue 79).run Tryz.prog w = .ok (.agg (wmc (fun _=>0) (fun _=>none) zV zV)) w:=by
 have h:(Tryz.prog.info? 79).map (fun i=>(i.zero,i.size)) = some (some (.agg (wmc (fun _=>0) (fun _=>none) zV zV)),105):=by kernel_rfl
 exact (zero_of_info h).1
theorem cellsW (c:Cf) (sp:Nat→Option Nat) (vo ve:Value):(Value.agg (wmc c sp vo ve)).cells = wmc c sp vo ve:=rfl
theorem eM (w:World):(Instr.alloc 79 true (.tuple #[])).run Tryz.prog w = .ok (.pointer (some ⟨w.heap.size,0,none⟩)) (w.alloc (.cells (wmc (fun _=>0) (fun _=>none) zV zV) 79)):=by
 have e:Tryz.zeroCells79 = wmc (fun _=>0) (fun _=>none) zV zV:=by kernel_rfl
 simp [Instr.alloc,Sem.run_bind,zeroW,newVar,newRow,run_newObj_alloc,cellsW,e]
theorem zeroQ:∀w,(zeroValue 100).run Tryz.prog w = .ok (.agg (spz (.map none)).toArray) w:=by
 have h:(Tryz.prog.info? 100).map (fun i=>(i.zero,i.size)) = some (some (.agg (spz (.map none)).toArray),4099):=by kernel_rfl
 exact (zero_of_info h).1
theorem eL (w:World):(Instr.alloc 100 true (.tuple #[])).run Tryz.prog w = .ok (.pointer (some ⟨w.heap.size,0,none⟩)) (w.alloc (.cells (spz (.map none)).toArray 100)):=by
 have e:Tryz.zeroCells100 = (spz (.map none)).toArray:=by kernel_rfl
 simp only [Instr.alloc,Sem.run_bind,zeroQ,newVar,newRow,run_newObj_alloc,Value.cells,Sem.run_pure,Result.andThen_ok,if_true,e]
theorem infoQ (s:Sq) (bm:Nat):(Tryz.prog.info? 100).map (·.size) = some (sqc (sqv s bm)).size:=by
 have h:(Tryz.prog.info? 100).map (·.size) = some 4099:=by kernel_rfl
 rw [kp];exact h
theorem spz_size (v:Value):(spz v).toArray.size = 4099:=by
 unfold spz
 rw [List.size_toArray,List.length_append,List.length_cons,List.length_append,List.length_replicate,List.length_replicate,List.length_replicate]
theorem sqv_one (s:Sq) (bm i:Nat):(sqv s bm i).oneCell' = true:=by
 unfold sqv
 (repeat' split) <;> rfl
theorem sqc_one (s:Sq) (bm:Nat):(sqc (sqv s bm)).all (·.oneCell') = true:=by
 rw [Array.all_eq_true]
 intro i hi
 have h:=tl (sqv s bm) (i:=i) (by rw [kp] at hi;exact hi)
 rw [Array.getElem?_eq_getElem hi] at h
 rw [Option.some.inj h]
 exact sqv_one s bm i
section
variable {ops:Array Oper} {rest:List Oper} {o:Oper} {a:Act} {w:World} {Q:Exit→Act→World→Prop} {b:Nat} {c:Cf} {sp:Nat→Option Nat} {vo ve:Value} {s:Sq} {bm:Nat}
theorem jy (hg:o.guard = none) (z:Operand) (ho:o.op = .load 79 z) (hx:a.eval z = .pointer (some ⟨b,0,none⟩)) (h0:WB w b c sp vo ve) (h:wpList Tryz.prog ops Q rest (a.put o.dst (.agg (wmc c sp vo ve))) w):wpList Tryz.prog ops Q (o :: rest) a w :=
 wpList_load_row hg 79 z ho b hx 79 _ (0,0) _ h0 Tryz.underlying79 rfl (infoW c sp vo ve) h
theorem ye (hg:o.guard = none) (ho:o.op = .alloc 79)
  (h:∀w',WB w' w.heap.size (fun _=>0) (fun _=>none) zV zV→Chg [] w w'→wpList Tryz.prog ops Q rest (a.put o.dst (.pointer (some ⟨w.heap.size,0,none⟩))) w'):wpList Tryz.prog ops Q (o :: rest) a w :=
 Great.wpList_runTo hg _ rfl _ _ (by unfold execOp;simp only [ho,Sem.run_bind,eM,Sem.run_pure,Result.andThen_ok]) (h _ (Blk.new w _ _) ((Chg.refl [] w).alloc _))
theorem jl {c':Cf} {sp':Nat→Option Nat} {vo' ve':Value} (hg:o.guard = none) (z t:Operand) (ho:o.op = .store 79 z t) (hx:a.eval z = .pointer (some ⟨b,0,none⟩)) (hy:a.eval t = .agg (wmc c sp vo ve)) (h1:vo.oneCell' = true) (h2:ve.oneCell' = true) (h0:WB w b c' sp' vo' ve')
  (h:∀w',WB w' b c sp vo ve→Chg [b] w w'→wpList Tryz.prog ops Q rest (a.put o.dst undef) w'):wpList Tryz.prog ops Q (o :: rest) a w :=
 wpList_store_row hg 79 z t ho b _ hx hy 79 _ h0 (infoW c sp vo ve) (by rw [xh,xh]) (wmc_one h1 h2) (h _ (setRow_heap w b _ _ _ _ h0) ((Chg.refl [b] w).setRow (.inl (by simp)) _))
theorem bA (hg:o.guard = none) (z:Operand) (ho:o.op = .load 100 z) (hx:a.eval z = .pointer (some ⟨b,0,none⟩)) (h0:QB w b s bm) (h:wpList Tryz.prog ops Q rest (a.put o.dst (.agg (sqc (sqv s bm)))) w):wpList Tryz.prog ops Q (o :: rest) a w :=
 wpList_load_row hg 100 z ho b hx 100 _ (0,0) _ h0 Tryz.underlying100 rfl (infoQ s bm) h
theorem yd (hg:o.guard = none) (ho:o.op = .alloc 100)
  (h:∀w',Blk w' w.heap.size 100 (spz (.map none)).toArray→Chg [] w w'→w'.heap.size = w.heap.size+1→wpList Tryz.prog ops Q rest (a.put o.dst (.pointer (some ⟨w.heap.size,0,none⟩))) w'):wpList Tryz.prog ops Q (o :: rest) a w :=
 Great.wpList_runTo hg _ rfl _ _ (by unfold execOp;simp only [ho,Sem.run_bind,eL,Sem.run_pure,Result.andThen_ok]) (h _ (Blk.new w _ _) ((Chg.refl [] w).alloc _) (af _ _))
theorem yi (hg:o.guard = none) (z t:Operand) (ho:o.op = .store 100 z t) (hx:a.eval z = .pointer (some ⟨b,0,none⟩)) (hy:a.eval t = .agg (sqc (sqv s bm))) (h0:Blk w b 100 (spz (.map none)).toArray)
  (h:∀w',QB w' b s bm→Chg [b] w w'→w'.heap.size = w.heap.size→wpList Tryz.prog ops Q rest (a.put o.dst undef) w'):wpList Tryz.prog ops Q (o :: rest) a w :=
 wpList_store_row hg 100 z t ho b _ hx hy 100 _ h0 (infoQ s bm) (by rw [kp];exact spz_size _) (sqc_one s bm) (h _ (setRow_heap w b _ _ _ _ h0) ((Chg.refl [b] w).setRow (.inl (by simp)) _) (by simp))
theorem fR:(Tryz.prog.info? 37).map (fun i=>(i.zero,i.size,i.bytes)) = some (some (.int .u64 0),1,8):=by kernel_rfl
theorem gI (l:List Nat):∀u∈fc wcl l,u.oneCell' = true:=fun u hu=>by
 unfold fc at hu
 obtain ⟨x,_,hx⟩:=List.mem_flatMap.1 hu
 simp [wcl] at hx
 subst hx
 rfl
theorem va (hg:o.guard = none) (s x:Operand)
  (ho:o.op = .call { callee:=.builtin .append,args:=#[s,x],argTypes:=#[71,71] }) (v y:Value) (hs:a.eval s = v) (hx:a.eval x = y) {l m:List Nat} (hv:SW w v l) (hy:RE wcl 1 w y m) (jN:l.length+m.length≤1000000)
  (h:∀A n c w',Hid (n = (l ++ m).length)→SW w' (.slice A n c) (l ++ m)→Chg (own v) w w'→Grow w v (.slice A n c)→wpList Tryz.prog ops Q rest (a.put o.dst (.slice A n c)) w') :
  wpList Tryz.prog ops Q (o :: rest) a w:=by
 obtain ⟨i5,hi,hz,vP,yX⟩:=info_parts fR
 refine kl hg s x 71 ho 37 Tryz.underlying71 hi hz vP yX rfl hs hv hx hy (gI m) (by unfold maxLen;omega) (by omega) fun v' w' h2 h3 h4=>?_
 have oG:SW w' v' (l ++ m):=by
  unfold SW SE
  rw [List.length_append,lq]
  exact h2
 obtain ⟨A,c,rfl⟩:=oG.form
 exact h A _ c w' rfl oG h3 (rj h4)
end
theorem dE {o:Oper} {a:Act} {w:World} {K:Act→World→Prop} {Q:Exit→Act→World→Prop} (s x:Operand)
  (ho:o.op = .call { callee:=.builtin .append,args:=#[s,x],argTypes:=#[71,71] }) (v y:Value) (hs:a.eval s = v) (hx:a.eval x = y) {l m:List Nat} (hv:SW w v l) (hy:RE wcl 1 w y m) (jN:l.length+m.length≤1000000)
  (h:∀A n c w',Hid (n = (l ++ m).length)→SW w' (.slice A n c) (l ++ m)→Chg (own v) w w'→Grow w v (.slice A n c)→K (a.put o.dst (.slice A n c)) w'):o.wp Tryz.prog a w K Q:=by
 obtain ⟨i5,hi,hz,vP,yX⟩:=info_parts fR
 refine ll s x 71 ho 37 Tryz.underlying71 hi hz vP yX rfl hs hv hx hy (gI m) (by unfold maxLen;omega) (by omega) fun v' w' h2 h3 h4=>?_
 have oG:SW w' v' (l ++ m):=by
  unfold SW SE
  rw [List.length_append,lq]
  exact h2
 obtain ⟨A,c,rfl⟩:=oG.form
 exact h A _ c w' rfl oG h3 (rj h4)
structure CwI (w wr:World) (b:Nat) (M:Mo) (sp:Nat→Option Nat) (vo ve:Value) (gs:Nat→Sq) (t:Nat) (g' m':Nat→Nat):Prop where
 chg:Chg [] w wr
 blk:WB wr b M.c (fun j=>if j < t then (M.pr j).map fun _=>g' j else sp j) vo ve
 gb:w.heap.size≤b
 pr:∀(j:Nat) p,j < t→M.pr j = some p→QB wr (g' j) (gs j) (m' j)∧MapB wr (m' j) .i64 (byF (gs j))∧w.heap.size≤g' j∧w.heap.size≤m' j
 ib:∀(j j':Nat) p p',j < t→j' < t→M.pr j = some p→M.pr j' = some p'→j≠j'→g' j≠g' j'∧m' j≠m' j'
section
variable {w wr wx:World} {b:Nat} {M:Mo} {sp:Nat→Option Nat} {vo ve:Value} {gs:Nat→Sq} {t:Nat} {g' m':Nat→Nat}
theorem CwI.skip (h:CwI w wr b M sp vo ve gs t g' m') (hn:M.pr t = none) (hs:sp t = none):CwI w wr b M sp vo ve gs (t+1) g' m':=by
 have e:(fun j:Nat=>if j < t+1 then (M.pr j).map fun _=>g' j else sp j) = fun j:Nat=>if j < t then (M.pr j).map fun _=>g' j else sp j:=by
  funext j
  by_cases e:j = t
  ·subst e
   rw [if_pos (by omega),if_neg (by omega),hn,hs];rfl
  ·by_cases e2:j < t
   ·rw [if_pos (by omega),if_pos e2]
   ·rw [if_neg (by omega),if_neg e2]
 have lt:∀(j:Nat) p,j < t+1→M.pr j = some p→j < t:=fun j p hj hp=>by
  rcases Nat.lt_or_ge j t with h1 | h1
  ·exact h1
  ·obtain rfl:j = t:=by omega
   rw [hn] at hp;cases hp
 exact ⟨h.chg,by rw [e];exact h.blk,h.gb,fun j p hj hp=>h.pr j p (lt j p hj hp) hp,fun j j' p p' hj sL hp nM=>h.ib j j' p p' (lt j p hj hp) (lt j' p' sL nM) hp nM⟩
theorem CwI.step (h:CwI w wr b M sp vo ve gs t g' m') {p:Pr} (hp:M.pr t = some p) (ht:t < 9) {F:List Nat} (hc:Chg F wr wx) (hF:∀k∈F,wr.heap.size≤k) {bs bm:Nat} (hq:QB wx bs (gs t) bm) (hm:MapB wx bm .i64 (byF (gs t))) (BI:wr.heap.size≤bs) (rD:wr.heap.size≤bm) :
  CwI w (wx.setCell ⟨b,94+t,none⟩ (.pointer (some ⟨bs,0,none⟩))) b M sp vo ve gs (t+1) (upN g' t bs) (upN m' t bm):=by
 have jA:Chg [b] wx (wx.setCell ⟨b,94+t,none⟩ (.pointer (some ⟨bs,0,none⟩))):=(Chg.refl [b] wx).setCell (p:=⟨b,94+t,none⟩) (.inl (by simp)) _
 have pB:=Blk.lt h.blk
 have qU:=h.chg.size
 have kF:WB wx b M.c (fun j=>if j < t then (M.pr j).map fun _=>g' j else sp j) vo ve:=Blk.chg h.blk hc (fun hk=>by have:=hF _ hk;omega)
 have glt:∀(i:Nat) q,i < t→M.pr i = some q→g' i < wr.heap.size∧m' i < wr.heap.size:=fun i q hi hq=>⟨Blk.lt (h.pr i q hi hq).1,(h.pr i q hi hq).2.1.lt⟩
 have Gi:=h.gb
 refine ⟨(h.chg.trans hc (fun k hk=>.inr (by have:=hF k hk;omega))).setCell (.inr Gi) _,?_,Gi,fun j q hj pN=>?_,fun j j' q q' hj sL vS mD jO=>?_⟩
 ·have:=WB.set_sp kF ht (some bs)
  have e:upN (fun j:Nat=>if j < t then (M.pr j).map fun _=>g' j else sp j) t (some bs) = fun j:Nat=>if j < t+1 then (M.pr j).map fun _=>upN g' t bs j else sp j:=by
   funext j
   unfold upN
   by_cases e:j = t
   ·rw [if_pos e,if_pos (by omega),e,hp];simp
   ·rw [if_neg e]
    by_cases e2:j < t
    ·show (if j < t then (M.pr j).map (fun _=>g' j) else sp j) = _
     rw [if_pos e2,if_pos (show j < t+1 by omega)]
     congr 1
     funext _
     rw [if_neg e]
    ·show (if j < t then (M.pr j).map (fun _=>g' j) else sp j) = _
     rw [if_neg e2,if_neg (show ¬ j < t+1 by omega)]
  rw [e] at this
  exact this
 ·by_cases e:j = t
  ·subst e
   rw [show upN g' j bs j = bs from if_pos rfl,show upN m' j bm j = bm from if_pos rfl]
   exact ⟨Blk.chg hq jA (by simp;omega),hm.chg jA (by simp;omega),by omega,by omega⟩
  ·have sL:j < t:=by omega
   obtain ⟨c1,c2,c3,c4⟩:=h.pr j q sL pN
   rw [show upN g' t bs j = g' j from if_neg e,show upN m' t bm j = m' j from if_neg e]
   exact ⟨Blk.chg (Blk.chg c1 hc (fun hk=>by have:=hF _ hk;have:=Blk.lt c1;omega)) jA (by simp;exact fun x=>Blk.ne_ h.blk c1 (by decide) x.symm),(c2.chg hc (fun hk=>by have:=hF _ hk;have:=c2.lt;omega)).chg jA (by simp;exact fun x=>Blk.ne_map h.blk c2 x.symm),c3,c4⟩
 ·by_cases e:j = t
  ·have e':j'≠t:=fun x=>jO (e.trans x.symm)
   have:=glt j' q' (by omega) mD
   rw [show upN g' t bs j = bs from if_pos e,show upN m' t bm j = bm from if_pos e,show upN g' t bs j' = g' j' from if_neg e',show upN m' t bm j' = m' j' from if_neg e']
   omega
  ·have:=glt j q (by omega) vS
   rw [show upN g' t bs j = g' j from if_neg e,show upN m' t bm j = m' j from if_neg e]
   by_cases e':j' = t
   ·rw [show upN g' t bs j' = bs from if_pos e',show upN m' t bm j' = bm from if_pos e']
    omega
   ·rw [show upN g' t bs j' = g' j' from if_neg e',show upN m' t bm j' = m' j' from if_neg e']
    exact h.ib j j' q q' (by omega) (by omega) vS mD jO
end
structure CmI (wr wy:World) (bs bm r:Nat) (s:Sq) (left:Int→Bool):Prop where
 chg:Chg [] wr wy
 qb:QB wy bs s bm
 mp:MapB wy bm .i64 (fun z=>if left z then none else byF s z)
 g:wr.heap.size≤bs∧wr.heap.size≤bm∧wr.heap.size≤r
 ne:r≠bs∧r≠bm
theorem CmI.next {wr wy wz:World} {bs bm r:Nat} {s:Sq} {left:Int→Bool} (h:CmI wr wy bs bm r s left) (hc:Chg [r] wy wz):CmI wr wz bs bm r s left :=
 ⟨h.chg.trans hc (fun x hx=>.inr (by obtain rfl:=aa hx;exact h.g.2.2)),Blk.chg h.qb hc (by simp;exact fun e=>h.ne.1 e.symm),h.mp.chg hc (by simp;exact fun e=>h.ne.2 e.symm),h.g,h.ne⟩
theorem CmI.step {wr wy wz:World} {bs bm r:Nat} {s:Sq} {left:Int→Bool} (h:CmI wr wy bs bm r s left) {z:Int} {v:Value} (hz:byF s z = some v) (hc:Chg [bm] wy wz) (hm:MapB wz bm .i64 (fun y=>if y = z then some v else if left y then none else byF s y)):CmI wr wz bs bm r s (fun y=>left y && !(y == z)):=by
 refine ⟨h.chg.trans hc (fun x hx=>.inr (by obtain rfl:=aa hx;exact h.g.2.1)),Blk.chg h.qb hc (by simp;exact Blk.ne_map h.qb h.mp),?_,h.g,h.ne⟩
 have e:(fun y=>if y = z then some v else if left y then none else byF s y) = fun y=>if (left y && !(y == z)) = true then none else byF s y:=by
  funext y
  by_cases h1:y = z
  ·subst h1;simp [hz]
  ·simp [h1]
 rw [← e]
 exact hm
theorem CmI.done {wr wy:World} {bs bm r:Nat} {s:Sq} {left:Int→Bool} (h:CmI wr wy bs bm r s left) (hl:∀z,left z = false):MapB wy bm .i64 (byF s):=by
 have:=h.mp
 simpa only [hl,Bool.false_eq_true,if_false] using this
structure CoI (w wr:World) (vo':Value) (L L':List Ob) (t:Nat):Prop where
 sl:SE obl 2 92 wr vo' L'
 len:L'.length = t
 ho:∀(j:Nat) (hj:j < L'.length) (sL:j < L.length),L'[j].h = L[j].h∧L'[j].l = L[j].l∧SB wr L'[j].v L[j].l∧∀k∈own L'[j].v,w.heap.size≤k
 ap:L'.Pairwise fun a b=>∀k∈own a.v,k∉own b.v
 go:∀k∈own vo',w.heap.size≤k
theorem CoI.zero (w wr:World) (L:List Ob):CoI w wr (.slice none 0 0) L [] 0:=⟨SE.nil _ _ _ _,rfl,fun j hj=>(by cases hj),List.Pairwise.nil,fun k hk=>(bw hk).elim⟩
theorem CoI.chg {w wr wx:World} {vo':Value} {L L':List Ob} {t:Nat} (h:CoI w wr vo' L L' t) {F:List Nat} (hc:Chg F wr wx) (h1:∀k∈own vo',k∉F) (h2:∀o∈L',∀k∈own o.v,k∉F):CoI w wx vo' L L' t :=
 ⟨SE.chg h.sl hc h1,h.len,fun j hj sL=>⟨(h.ho j hj sL).1,(h.ho j hj sL).2.1,SE.chg (h.ho j hj sL).2.2.1 hc (h2 _ (List.getElem_mem hj)),(h.ho j hj sL).2.2.2⟩,h.ap,h.go⟩
theorem CoI.stay {w wr wx:World} {vo':Value} {L L':List Ob} {t:Nat} (h:CoI w wr vo' L L' t) (hc:Chg [] wr wx):CoI w wx vo' L L' t:=h.chg hc (fun _ _ h=>by cases h) (fun _ _ _ _ h=>by cases h)
theorem CoI.step {w wr wx wy:World} {vo' vo2 u:Value} {L L':List Ob} {t:Nat} (h:CoI w wr vo' L L' t) (ht:t < L.length) (hw:w.heap.size≤wr.heap.size) (hc:Chg [] wr wx) (hu:SB wx u L[t].l) (hgu:∀k∈own u,wr.heap.size≤k)
  (jA:Chg (own vo') wx wy) (hs:SE obl 2 92 wy vo2 (L' ++ [⟨L[t].h,L[t].l,u⟩])) (hg:Grow wx vo' vo2):CoI w wy vo2 L (L' ++ [⟨L[t].h,L[t].l,u⟩]) (t+1):=by
 have jF:∀(j:Nat) (hj:j < L'.length),∀k∈own L'[j].v,k < wr.heap.size:=fun j hj k hk=>SE.own_lt (h.ho j hj (by rw [h.len] at hj;omega)).2.2.1 k hk
 have hzx:=hc.size
 have nov:∀(o:Value) (l:List Nat),SB wx o l→∀k∈own o,k∉own vo':=fun o l lW k hk kL=>by
  obtain ⟨c1,h1⟩:=Sl.blk lW hk
  obtain ⟨c2,h2⟩:=Sl.blk (SE.stay h.sl hc) kL
  exact Blk.ne_ h1 h2 (by decide) rfl
 refine ⟨hs,by rw [List.length_append,h.len];rfl,fun j hj sL=>?_,?_,fun k hk=>?_⟩
 ·rw [List.length_append,List.length_singleton] at hj
  by_cases e:j < L'.length
  ·rw [List.getElem_append_left e]
   obtain ⟨a1,a2,a3,a4⟩:=h.ho j e sL
   exact ⟨a1,a2,SE.chg (SE.stay a3 hc) jA (nov _ _ (SE.stay a3 hc)),a4⟩
  ·have hl:=h.len
   obtain rfl:j = t:=by omega
   rw [List.getElem_append_right (by omega)]
   simp only [hl,Nat.sub_self,List.getElem_singleton]
   exact ⟨trivial,trivial,SE.chg hu jA (nov _ _ hu),fun k hk=>by have:=hgu k hk;omega⟩
 ·rw [List.pairwise_append]
  refine ⟨h.ap,List.pairwise_singleton _ _,fun a ha o ho k hk kL=>?_⟩
  obtain rfl:=aa ho
  obtain ⟨j,hj,rfl⟩:=List.getElem_of_mem ha
  have:=jF j hj k hk
  have:=hgu k kL
  omega
 ·rcases hg k hk with h1 | h1
  ·exact h.go k h1
  ·omega
theorem CoI.end_ {w wr w0:World} {vo vo':Value} {L L':List Ob} {ob:Int→Option (List Nat)} (h:CoI w wr vo' L L' L.length) (h0:OIn w0 vo L ob):OIn wr vo' L' ob:=by
 have hl:=h.len
 refine ⟨h.sl,fun o ho=>?_,?_,h.ap,fun z=>?_⟩
 ·obtain ⟨j,hj,rfl⟩:=List.getElem_of_mem ho
  obtain ⟨a1,a2,a3,a4⟩:=h.ho j hj (by omega)
  obtain ⟨b1,b2,b3⟩:=h0.bt L[j] (List.getElem_mem (by omega))
  rw [a1,a2]
  exact ⟨a3,b2,b3⟩
 ·rw [List.pairwise_iff_getElem]
  intro i j hi hj pI
  rw [(h.ho i hi (by omega)).1,(h.ho j hj (by omega)).1]
  exact List.pairwise_iff_getElem.1 h0.nd i j _ _ pI
 ·rw [h0.lk]
  have e:L'.map (fun o=>(o.h,o.l)) = L.map (fun o=>(o.h,o.l)):=by
   refine List.ext_getElem (by simp [hl]) fun i h1 h2=>?_
   simp only [List.length_map] at h1 h2
   simp only [List.getElem_map,(h.ho i h1 h2).1,(h.ho i h1 h2).2.1]
  have key:∀(l:List Ob),(l.find? fun o=>decide ((o.h:Int) = z)).map (·.l) = ((l.map fun o=>(o.h,o.l)).find? fun q=>decide ((q.1:Int) = z)).map (·.2):=fun l=>by
   induction l with
   | nil=>rfl
   | cons a l ih =>
    rw [List.map_cons,List.find?_cons,List.find?_cons]
    by_cases e:(a.h:Int) = z
    ·simp [e]
    ·simp only [e,decide_false];exact ih
  rw [key,key,e]
structure BO (l:List (Nat × Value)) (h:Nat) (v:Value):Prop where
 h:Tryz.prog.built 92 l = some #[.int .u64 h,v]
theorem bo_of (h:Nat) (A:Option Addr) (n c:Nat):BO [(0,.int .u64 h),(1,.slice A n c)] h (.slice A n c):=⟨by kernel_rfl⟩
theorem xt {o:Oper} {a:Act} {w:World} {K:Act→World→Prop} {Q:Exit→Act→World→Prop} {h:Nat} {v:Value} (parts:Array (Nat × Operand)) (ho:o.op = .build 92 parts)
  {l:List (Nat × Value)} (hb:BO l h v) (hl:(parts.map fun (i,x)=>(i,a.eval x)).toList = l) (I:K (a.put o.dst (.agg #[.int .u64 h,v])) w):o.wp Tryz.prog a w K Q :=
 wp_build 92 parts ho (by rw [hl,hb.h];rfl) (by rw [hl,hb.h];exact I)
theorem OB_one (w:World) (h:Nat) (l:List Nat) (v:Value):RE obl 2 (w.alloc (.cells #[.int .u64 h,v] 92)) (.slice (some ⟨w.heap.size,0,none⟩) 1 1) [⟨h,l,v⟩]:=vw w 92 2 1 [.int .u64 h,v] rfl
theorem SW_none (w:World):SW (w.alloc (.cells #[] 37)) (.slice (some ⟨w.heap.size,0,none⟩) 0 0) []:=nx w 37 1
end Go.Proofs.YtfoleblcaloeoaaGreatDoor
