/- Texts merged for the claim. -/
import Derived.Test.YtfoleblcaloeoaaGreatDoorZab
import Derived.Test.YtfoleblcaloeoaaGreatDoorZac
import Derived.Laws.Rows
import Derived.Laws.Tables
import Derived.Laws.IdiomCopy
import Derived.Deep.MidRow
import Derived.Deep.WholeRow
import Derived.Great.Walk
import Derived.ChangeKeysEq
set_option maxHeartbeats 40000000
set_option maxRecDepth 20000
namespace Go.Proofs.YtfoleblcaloeoaaGreatDoor
open Go Go.RowKit
@[irreducible] def cg (c:Cf):Array Value:=Array.ofFn (n:=94) fun i=>.int .i64 (c i)
theorem ei (c:Cf):(cg c).size = 94:=by unfold cg;simp
theorem ig (c:Cf) {i:Nat} (h:i < 94):(cg c)[i]? = some (.int .i64 (c i)):=by unfold cg;simp [h]
theorem cg_ext {c d:Cf} (h:∀i,i < 94→c i = d i):cg c = cg d:=by
 unfold cg
 congr 1
 funext i
 rw [h i i.2]
theorem cg_set (c:Cf) (i:Nat) (v:Int):(cg c).setIfInBounds i (.int .i64 v) = cg (fun q=>if q = i then v else c q):=by
 apply Array.ext_getElem?
 intro j
 rw [Array.getElem?_setIfInBounds]
 by_cases hj:j < 94
 ·rw [ig _ hj,ig _ hj]
  by_cases e:i = j
  ·subst e;simp [ei,hj]
  ·rw [if_neg e,if_neg (fun h=>e h.symm)]
 ·have h1:(cg c)[j]? = none:=Array.getElem?_eq_none (by rw [ei];omega)
  have h2:(cg (fun q=>if q = i then v else c q))[j]? = none:=Array.getElem?_eq_none (by rw [ei];omega)
  rw [h1,h2,ei]
  split
  ·rename_i e;rw [if_neg (by omega)]
  ·rfl
theorem cg_one (c:Cf):(cg c).all (·.oneCell') = true:=by
 unfold cg
 rw [Array.all_eq_true]
 intro i hi
 simp [Value.oneCell']
theorem cg_of {xs:Array Value} {c:Cf} (hs:xs.size = 94) (h:∀i,i < 94→xs[i]? = some (.int .i64 (c i))):xs = cg c:=by
 apply Array.ext_getElem?
 intro j
 by_cases hj:j < 94
 ·rw [h j hj,ig c hj]
 ·rw [Array.getElem?_eq_none (by omega),Array.getElem?_eq_none (by rw [ei];omega)]
abbrev CB (w:World) (b:Nat) (c:Cf):Prop:=Blk w b 26 (cg c)
theorem CB.get {w:World} {b:Nat} {c:Cf} (h:CB w b c) {i:Nat} (hi:i < 94):w.cell? ⟨b,i,none⟩ = some (.int .i64 (c i)):=(h.cell i).trans (ig c hi)
theorem info26:(Tryz.prog.info? 26).map (·.size) = some 94:=by kernel_rfl
theorem mh {c:Cf}:(Tryz.prog.info? 26).map (·.size) = some (cg c).size:=by rw [ei];exact info26
theorem CB.set {w:World} {b:Nat} {c:Cf} (h:CB w b c) (i:Nat) (v:Int):CB (w.setCell ⟨b,i,none⟩ (.int .i64 v)) b (fun q=>if q = i then v else c q):=by
 have:=h.set_ i (.int .i64 v)
 rwa [cg_set] at this
theorem CB.ext {w:World} {b:Nat} {c d:Cf} (h:CB w b c) (he:∀i,i < 94→c i = d i):CB w b d:=by rw [CB,← cg_ext he];exact h
def gz (c:Cf) (o n:Nat):Cf:=fun i=>if o≤i∧i < o+n then 0 else c i
theorem jo {b:Nat}:∀(n o:Nat) (w:World) (c:Cf),CB w b c→CB (w.setCells b o (List.replicate n (.int .i64 0))) b (gz c o n)∧Chg [b] w (w.setCells b o (List.replicate n (.int .i64 0)))
 | 0,o,w,c,h=>⟨h.ext fun i _=>by unfold gz;rw [if_neg (by omega)],Chg.refl _ _⟩
 | n+1,o,w,c,h=>by
  obtain ⟨h1,h2⟩:=jo n (o+1) _ _ (h.set o 0)
  refine ⟨h1.ext fun i _=>?_,((Chg.refl [b] w).setCell (p:=⟨b,o,none⟩) (.inl (by simp)) _).trans h2 (fun x hx=>.inl hx)⟩
  unfold gz
  by_cases e:i = o
  ·subst e;rw [if_neg (by omega)];simp only [if_pos];rw [if_pos (by omega)]
  ·by_cases e2:o+1≤i∧i < o+1+n
   ·rw [if_pos e2,if_pos (by omega)]
   ·rw [if_neg e2];simp only [if_neg e];rw [if_neg (by omega)]
theorem cM {w:World} {b:Nat} {c:Cf} (h:CB w b c) {o n:Nat} (ho:o+n≤94):(storeCells ⟨b,o,none⟩ (List.replicate n (.int .i64 0))).run Tryz.prog w = .ok () (w.setCells b o (List.replicate n (.int .i64 0))):=by
 have:=run_storeCells_cells (P:=Tryz.prog) b o (List.replicate n (.int .i64 0)) 0 w (fun j hj=>by rw [List.length_replicate] at hj;rw [h.get (by omega)];rfl) (fun j _=>h.frozen _) (fun v hv=>by obtain ⟨_,rfl⟩:=List.mem_replicate.1 hv;rfl)
 exact this
theorem zeros8 (n:Nat):(Builtin.zeroCells #[.int .i64 0,.int .i64 0,.int .i64 0,.int .i64 0,.int .i64 0,.int .i64 0,.int .i64 0,.int .i64 0] n).toList = List.replicate (n * 8) (.int .i64 0):=by
 apply List.ext_getElem
 ·simp [Builtin.zeroCells]
 ·intro i h1 h2
  simp only [List.getElem_replicate]
  have h3:i % 8 < 8:=Nat.mod_lt _ (by omega)
  simp [Builtin.zeroCells]
  generalize i % 8 = m at h3
  match m,h3 with
  | 0,_=>rfl
  | 1,_=>rfl
  | 2,_=>rfl
  | 3,_=>rfl
  | 4,_=>rfl
  | 5,_=>rfl
  | 6,_=>rfl
  | 7,_=>rfl
theorem zeros1 (n:Nat):(Builtin.zeroCells #[.int .i64 0] n).toList = List.replicate n (.int .i64 0):=by
 apply List.ext_getElem
 ·simp [Builtin.zeroCells]
 ·intro i h1 h2
  simp only [List.getElem_replicate]
  have h3:i % 1 = 0:=Nat.mod_one _
  simp [Builtin.zeroCells,h3]
theorem zero23:∀w,(zeroValue 23).run Tryz.prog w = .ok (.agg #[.int .i64 0,.int .i64 0,.int .i64 0,.int .i64 0,.int .i64 0,.int .i64 0,.int .i64 0,.int .i64 0]) w:=by
 have h:(Tryz.prog.info? 23).map (fun i=>(i.zero,i.size)) = some (some (.agg #[.int .i64 0,.int .i64 0,.int .i64 0,.int .i64 0,.int .i64 0,.int .i64 0,.int .i64 0,.int .i64 0]),8):=by kernel_rfl
 exact (zero_of_info h).1
theorem zero3:∀w,(zeroValue 3).run Tryz.prog w = .ok (.int .i64 0) w:=by
 have h:(Tryz.prog.info? 3).map (fun i=>(i.zero,i.size)) = some (some (.int .i64 0),1):=by kernel_rfl
 exact (zero_of_info h).1
theorem uu {w:World} {b:Nat} {c:Cf} (h:CB w b c) {o n k:Nat} (ho:o+n≤94) (ty:TypeId) :
  (Builtin.clear_ #[94] ty #[.slice (some ⟨b,o,none⟩) n k]).run Tryz.prog w = .ok (.tuple #[]) (w.setCells b o (List.replicate n (.int .i64 0))):=by
 cases n with
 | zero=>simp [Builtin.clear_,run_underlying Tryz.underlying94,World.setCells]
 | succ n=>simp [Builtin.clear_,run_underlying Tryz.underlying94,zero3,Value.cells,zeros1,cM h ho]
theorem cI {w:World} {b:Nat} {c:Cf} (h:CB w b c) {o n k:Nat} (ho:o+n * 8≤94) (ty:TypeId) :
  (Builtin.clear_ #[147] ty #[.slice (some ⟨b,o,none⟩) n k]).run Tryz.prog w = .ok (.tuple #[]) (w.setCells b o (List.replicate (n * 8) (.int .i64 0))):=by
 cases n with
 | zero=>simp [Builtin.clear_,run_underlying Tryz.underlying147,World.setCells]
 | succ n=>simp [Builtin.clear_,run_underlying Tryz.underlying147,zero23,Value.cells,zeros8,cM h ho]
section
variable {ops:Array Oper} {rest:List Oper} {o:Oper} {a:Act} {w:World} {Q:Exit→Act→World→Prop} {b:Nat} {c d:Cf}
theorem qx (h0:CB w b c) (hg:o.guard = none) (x:Operand) (ho:o.op = .call { callee:=.builtin .clear,args:=#[x],argTypes:=#[94] }) {off n k:Nat}
  (hx:a.eval x = .slice (some ⟨b,off,none⟩) n k) (hn:off+n≤94) (h:∀w',CB w' b (gz c off n)→Chg [b] w w'→wpList Tryz.prog ops Q rest (a.put o.dst (.tuple #[])) w'):wpList Tryz.prog ops Q (o :: rest) a w :=
 Great.wpList_runTo hg _ rfl _ _ (by unfold execOp;simp only [ho,resolve,invoke,builtin,Sem.run_bind,Sem.run_pure,Result.andThen_ok,List.map_toArray,List.map_cons,List.map_nil,hx,uu h0 hn]) (h _ (jo n off w c h0).1 (jo n off w c h0).2)
theorem xo (h0:CB w b c) (hg:o.guard = none) (x:Operand) (ho:o.op = .call { callee:=.builtin .clear,args:=#[x],argTypes:=#[147] }) {off n k:Nat}
  (hx:a.eval x = .slice (some ⟨b,off,none⟩) n k) (hn:off+n * 8≤94) (h:∀w',CB w' b (gz c off (n * 8))→Chg [b] w w'→wpList Tryz.prog ops Q rest (a.put o.dst (.tuple #[])) w'):wpList Tryz.prog ops Q (o :: rest) a w :=
 Great.wpList_runTo hg _ rfl _ _ (by unfold execOp;simp only [ho,resolve,invoke,builtin,Sem.run_bind,Sem.run_pure,Result.andThen_ok,List.map_toArray,List.map_cons,List.map_nil,hx,cI h0 hn]) (h _ (jo (n * 8) off w c h0).1 (jo (n * 8) off w c h0).2)
theorem ng (h0:CB w b c) (hg:o.guard = none) (x:Operand) (ho:o.op = .load 26 x)
  (hx:a.eval x = .pointer (some ⟨b,0,none⟩)) (h:wpList Tryz.prog ops Q rest (a.put o.dst (.agg (cg c))) w):wpList Tryz.prog ops Q (o :: rest) a w :=
 wpList_load_row hg 26 x ho b hx 26 (cg c) (0,0) _ h0 Tryz.underlying26 rfl mh h
theorem qz (h0:CB w b c) (hg:o.guard = none) (x y:Operand) (ho:o.op = .store 26 x y)
  (hx:a.eval x = .pointer (some ⟨b,0,none⟩)) (hy:a.eval y = .agg (cg d)) (h:∀w',CB w' b d→Chg [b] w w'→wpList Tryz.prog ops Q rest (a.put o.dst undef) w'):wpList Tryz.prog ops Q (o :: rest) a w :=
 wpList_store_row hg 26 x y ho b (cg d) hx hy 26 (cg c) h0 mh (by rw [ei,ei]) (cg_one d) (h _ (setRow_heap w b _ _ _ _ h0) ((Chg.refl [b] w).setRow (.inl (by simp)) _))
theorem zeroCg:cg (fun _=>0) = Array.replicate 94 (.int .i64 0):=by
 apply Array.ext_getElem?
 intro j
 by_cases hj:j < 94
 ·rw [ig _ hj];simp [hj]
 ·rw [Array.getElem?_eq_none (by rw [ei];omega),Array.getElem?_eq_none (by simp;omega)]
theorem zero26:∀w,(zeroValue 26).run Tryz.prog w = .ok (.agg (cg (fun _=>0))) w:=by
 have h:(Tryz.prog.info? 26).map (fun i=>(i.zero,i.size)) = some (some (.agg (Array.replicate 94 (.int .i64 0))),94):=by kernel_rfl
 rw [zeroCg]
 exact (zero_of_info h).1
theorem cD (w:World):(Instr.alloc 26 true (.tuple #[])).run Tryz.prog w = .ok (.pointer (some ⟨w.heap.size,0,none⟩)) (w.alloc (.cells (cg (fun _=>0)) 26)):=by
 simp [Instr.alloc,Sem.run_bind,zero26,newVar,newRow,run_newObj_alloc,Value.cells]
 rw [zeroCg]
 congr 2
theorem qv (hg:o.guard = none) (ho:o.op = .alloc 26)
  (h:wpList Tryz.prog ops Q rest (a.put o.dst (.pointer (some ⟨w.heap.size,0,none⟩))) (w.alloc (.cells (cg (fun _=>0)) 26))):wpList Tryz.prog ops Q (o :: rest) a w :=
 Great.wpList_runTo hg _ rfl _ _ (by unfold execOp;simp only [ho,Sem.run_bind,cD,Sem.run_pure,Result.andThen_ok]) h
end
theorem sa (d:Nat) (w:World) (xs ys:Array Value) (f g:Nat→Int):∀(is:List Nat),(∀i∈is,xs[i]? = some (.int .i64 (f i))∧ys[i]? = some (.int .i64 (g i))) →
  (Op.eqItems (d+1) 3 1 xs ys is).run Tryz.prog w = .ok (is.all fun i=>f i == g i) w
 | [],_=>by simp [Op.eqItems]
 | i :: is,h=>by
  obtain ⟨hx,hy⟩:=h i (List.mem_cons_self ..)
  have px:(part 3 xs (i * 1)).run Tryz.prog w = .ok (.int .i64 (f i)) w:=by simp [part,isAgg,run_underlying Tryz.underlying3,hx]
  have py:(part 3 ys (i * 1)).run Tryz.prog w = .ok (.int .i64 (g i)) w:=by simp [part,isAgg,run_underlying Tryz.underlying3,hy]
  have ih:=sa d w xs ys f g is (fun j hj=>h j (List.mem_cons_of_mem _ hj))
  simp only [Op.eqItems,Sem.run_bind,px,py,Result.andThen_ok,run_equalIn_int w d 3 .i64 .i64 _ _ Tryz.underlying3,List.all_cons]
  cases hb:(f i == g i)
  ·simp
  ·simp [ih]
theorem info3:∃i,Tryz.prog.info? 3 = some i:=by
 have h:(Tryz.prog.info? 3).isSome = true:=by kernel_rfl
 exact Option.isSome_iff_exists.1 h
theorem info23:∃i,Tryz.prog.info? 23 = some i:=by
 have h:(Tryz.prog.info? 23).isSome = true:=by kernel_rfl
 exact Option.isSome_iff_exists.1 h
theorem jn:Tryz.prog.cellsOf 3 = 1:=by kernel_rfl
theorem vd:Tryz.prog.cellsOf 23 = 8:=by kernel_rfl
theorem ss (d:Nat) (w:World) {t:TypeId} {n:Nat} (hu:Tryz.prog.underlying t = some (.array n 3)) (xs ys:Array Value) (f g:Nat→Int) (h:∀i,i < n→xs[i]? = some (.int .i64 (f i))∧ys[i]? = some (.int .i64 (g i))) :
  (Op.equalIn (d+2) t (.agg xs) (.agg ys)).run Tryz.prog w = .ok ((List.range n).all fun i=>f i == g i) w:=by
 obtain ⟨i,hi⟩:=info3
 rw [run_equalIn_array w (d+1) xs ys hu hi,jn]
 exact sa d w xs ys f g _ (fun i hi=>h i (by simpa using hi))
theorem aS:∀w,(sizeOf 23).run Tryz.prog w = .ok 8 w:=fun w=>by
 obtain ⟨i,hi⟩:=info23
 rw [run_sizeOf w hi,vd]
theorem rz (d:Nat) (w:World) (xs ys:Array Value) (f g:Nat→Int):∀(is:List Nat),(∀i∈is,∀j,j < 8→xs[i * 8+j]? = some (.int .i64 (f (i * 8+j)))∧ys[i * 8+j]? = some (.int .i64 (g (i * 8+j)))) →
  (Op.eqItems (d+2) 23 8 xs ys is).run Tryz.prog w = .ok (is.all fun i=>(List.range 8).all fun j=>f (i * 8+j) == g (i * 8+j)) w
 | [],_=>by simp [Op.eqItems]
 | i :: is,h=>by
  have hh:=h i (List.mem_cons_self ..)
  have px:(part 23 xs (i * 8)).run Tryz.prog w = .ok (.agg (xs.extract (i * 8) (i * 8+8))) w:=by simp [part,isAgg,run_underlying Tryz.underlying23,aS]
  have py:(part 23 ys (i * 8)).run Tryz.prog w = .ok (.agg (ys.extract (i * 8) (i * 8+8))) w:=by simp [part,isAgg,run_underlying Tryz.underlying23,aS]
  have ih:=rz d w xs ys f g is (fun j hj=>h j (List.mem_cons_of_mem _ hj))
  have lx:∀(zs:Array Value) (k:Nat→Int),(∀j,j < 8→zs[i * 8+j]? = some (.int .i64 (k (i * 8+j))))→∀j,j < 8→(zs.extract (i * 8) (i * 8+8))[j]? = some (.int .i64 (k (i * 8+j))):=fun zs k hz j hj=>by
   have h7:=(Array.getElem?_eq_some_iff.1 (hz 7 (by omega))).1
   rw [Array.getElem?_extract,if_pos (by omega)]
   exact hz j hj
  have pe:=ss d w Tryz.underlying23 (xs.extract (i * 8) (i * 8+8)) (ys.extract (i * 8) (i * 8+8)) (fun j=>f (i * 8+j)) (fun j=>g (i * 8+j)) (fun j hj=>⟨lx xs f (fun j hj=>(hh j hj).1) j hj,lx ys g (fun j hj=>(hh j hj).2) j hj⟩)
  simp only [Op.eqItems,Sem.run_bind,px,py,pe,Result.andThen_ok,List.all_cons]
  generalize ((List.range 8).all fun j=>f (i * 8+j) == g (i * 8+j)) = r
  cases r
  ·simp
  ·simp [ih]
theorem size_22:∀w,(sizeOf 22).run Tryz.prog w = .ok 16 w:=fun w=>by
 have h:(Tryz.prog.info? 22).map (·.size) = some 16:=by kernel_rfl
 cases hq:Tryz.prog.info? 22 with
 | none=>simp [hq] at h
 | some i=>simp [hq] at h;simp [sizeOf,typeInfo,hq,h]
theorem size_24:∀w,(sizeOf 24).run Tryz.prog w = .ok 64 w:=fun w=>by
 have h:(Tryz.prog.info? 24).map (·.size) = some 64:=by kernel_rfl
 cases hq:Tryz.prog.info? 24 with
 | none=>simp [hq] at h
 | some i=>simp [hq] at h;simp [sizeOf,typeInfo,hq,h]
theorem zo (w:World) (c d:Cf):∃r:Bool,(Op.equalIn 10000 26 (.agg (cg c)) (.agg (cg d))).run Tryz.prog w = .ok r w∧(r = true↔∀i,i < 94→c i = d i):=by
 have hf:((Tryz.prog.fieldsOf 26).toList.map fun f=>(f.type,f.offset,f.name)) = [(3,0,"Nodes"),(3,1,"CPUs"),(22,2,"Home"),(23,18,"Frames"),(24,26,"Distance"),(3,90,"Slots"),(3,91,"Min"),(3,92,"Low"),(3,93,"High")]:=by kernel_rfl
 rw [run_equalIn_agg w 9999 26 _ _ (by kernel_rfl) (by kernel_rfl)]
 generalize (Tryz.prog.fieldsOf 26).toList = fs at hf ⊢
 have pi:∀(e:Cf) (o:Nat),o < 94→(part 3 (cg e) o).run Tryz.prog w = .ok (.int .i64 (e o)) w:=fun e o ho=>by simp [part,isAgg,run_underlying Tryz.underlying3,ig e ho]
 have p22:∀(e:Cf),(part 22 (cg e) 2).run Tryz.prog w = .ok (.agg ((cg e).extract 2 18)) w:=fun e=>by simp [part,isAgg,run_underlying Tryz.underlying22,size_22]
 have p23:∀(e:Cf),(part 23 (cg e) 18).run Tryz.prog w = .ok (.agg ((cg e).extract 18 26)) w:=fun e=>by simp [part,isAgg,run_underlying Tryz.underlying23,aS]
 have p24:∀(e:Cf),(part 24 (cg e) 26).run Tryz.prog w = .ok (.agg ((cg e).extract 26 90)) w:=fun e=>by simp [part,isAgg,run_underlying Tryz.underlying24,size_24]
 have ex:∀(e:Cf) (o n i:Nat),o+n≤94→i < n→((cg e).extract o (o+n))[i]? = some (.int .i64 (e (o+i))):=fun e o n i ho hi=>by
  rw [Array.getElem?_extract,if_pos (by rw [ei];omega),ig e (by omega)]
 have e3:∀(a b:Int),(Op.equalIn 9999 3 (.int .i64 a) (.int .i64 b)).run Tryz.prog w = .ok (a == b) w:=fun a b=>run_equalIn_int w 9998 3 .i64 .i64 a b Tryz.underlying3
 have e22:=ss 9997 w Tryz.underlying22 ((cg c).extract 2 18) ((cg d).extract 2 18) (fun i=>c (2+i)) (fun i=>d (2+i)) (fun i hi=>⟨ex c 2 16 i (by omega) hi,ex d 2 16 i (by omega) hi⟩)
 have e23:=ss 9997 w Tryz.underlying23 ((cg c).extract 18 26) ((cg d).extract 18 26) (fun i=>c (18+i)) (fun i=>d (18+i)) (fun i hi=>⟨ex c 18 8 i (by omega) hi,ex d 18 8 i (by omega) hi⟩)
 have e24:(Op.equalIn 9999 24 (.agg ((cg c).extract 26 90)) (.agg ((cg d).extract 26 90))).run Tryz.prog w = .ok ((List.range 8).all fun i=>(List.range 8).all fun j=>c (26+(i * 8+j)) == d (26+(i * 8+j))) w:=by
  obtain ⟨i,hi⟩:=info23
  rw [run_equalIn_array w 9998 _ _ Tryz.underlying24 hi,vd]
  exact rz 9996 w _ _ (fun i=>c (26+i)) (fun i=>d (26+i)) _ (fun i hi j hj=>by
   have hi8:i < 8:=by simpa using hi
   exact ⟨ex c 26 64 _ (by omega) (by omega),ex d 26 64 _ (by omega) (by omega)⟩)
 rcases fs with _ | ⟨f1,_ | ⟨f2,_ | ⟨f3,_ | ⟨f4,_ | ⟨f5,_ | ⟨f6,_ | ⟨f7,_ | ⟨f8,_ | ⟨f9,_ | ⟨f10,t⟩⟩⟩⟩⟩⟩⟩⟩⟩⟩
 all_goals first
 | (simp at hf;done)
 | skip
 simp only [List.map_cons,List.map_nil,List.cons.injEq,Prod.mk.injEq,and_true] at hf
 obtain ⟨⟨a1,a2,a3⟩,⟨b1,b2,b3⟩,⟨c1,c2,c3⟩,⟨d1,d2,d3⟩,⟨g1,g2,g3⟩,⟨h1,h2,h3⟩,⟨i1,i2,i3⟩,⟨j1,j2,j3⟩,k1,k2,k3⟩:=hf
 refine ⟨(c 0 == d 0 && c 1 == d 1 && ((List.range 16).all fun i=>c (2+i) == d (2+i)) && ((List.range 8).all fun i=>c (18+i) == d (18+i)) && ((List.range 8).all fun i=>(List.range 8).all fun j=>c (26+(i * 8+j)) == d (26+(i * 8+j))) && c 90 == d 90 && c 91 == d 91 && c 92 == d 92 && c 93 == d 93),?_,?_⟩
 rotate_left
 ·simp only [Bool.and_eq_true,beq_iff_eq,List.all_eq_true,List.mem_range]
  refine Iff.symm ?_
  constructor
  ·intro h
   exact ⟨⟨⟨⟨⟨⟨⟨⟨h 0 (by omega),h 1 (by omega)⟩,fun i hi=>h _ (by omega)⟩,fun i hi=>h _ (by omega)⟩,fun i hi j hj=>h _ (by omega)⟩,h 90 (by omega)⟩,h 91 (by omega)⟩,h 92 (by omega)⟩,h 93 (by omega)⟩
  ·rintro ⟨⟨⟨⟨⟨⟨⟨⟨h0,h1⟩,h2⟩,h3⟩,h4⟩,h5⟩,h6⟩,h7⟩,h8⟩ i hi
   by_cases q2:i < 2
   ·rcases (by omega:i = 0∨i = 1) with rfl | rfl <;> assumption
   ·by_cases q3:i < 18
    ·have:=h2 (i - 2) (by omega)
     rwa [show 2+(i - 2) = i by omega] at this
    ·by_cases q4:i < 26
     ·have:=h3 (i - 18) (by omega)
      rwa [show 18+(i - 18) = i by omega] at this
     ·by_cases q5:i < 90
      ·have:=h4 ((i - 26) / 8) (by omega) ((i - 26) % 8) (by omega)
       rwa [show 26+((i - 26) / 8 * 8+(i - 26) % 8) = i by omega] at this
      ·rcases (by omega:i = 90∨i = 91∨i = 92∨i = 93) with rfl | rfl | rfl | rfl <;> assumption
 generalize ((List.range 16).all fun i=>c (2+i) == d (2+i)) = r22 at e22 ⊢
 generalize ((List.range 8).all fun i=>c (18+i) == d (18+i)) = r23 at e23 ⊢
 generalize ((List.range 8).all fun i=>(List.range 8).all fun j=>c (26+(i * 8+j)) == d (26+(i * 8+j))) = r24 at e24 ⊢
 have q0:=fun e:Cf=>pi e 0 (by omega)
 have q1:=fun e:Cf=>pi e 1 (by omega)
 have q5:=fun e:Cf=>pi e 90 (by omega)
 have q6:=fun e:Cf=>pi e 91 (by omega)
 have q7:=fun e:Cf=>pi e 92 (by omega)
 have q8:=fun e:Cf=>pi e 93 (by omega)
 have step:∀(f:Field) (fs:List Field) (a b:Value) (r s:Bool),f.name≠ "_"→(part f.type (cg c) f.offset).run Tryz.prog w = .ok a w→(part f.type (cg d) f.offset).run Tryz.prog w = .ok b w→(Op.equalIn 9999 f.type a b).run Tryz.prog w = .ok r w →
   (Op.eqFields 9999 (cg c) (cg d) fs).run Tryz.prog w = .ok s w→(Op.eqFields 9999 (cg c) (cg d) (f :: fs)).run Tryz.prog w = .ok (r && s) w:=fun f fs a b r s h0 h1 h2 h3 h4=>by
  simp only [Op.eqFields,h0,ne_eq,not_false_eq_true,if_true,Sem.run_bind,h1,h2,h3,Result.andThen_ok]
  cases r
  ·simp
  ·simp [h4]
 have s10:(Op.eqFields 9999 (cg c) (cg d) []).run Tryz.prog w = .ok true w:=by simp [Op.eqFields]
 have s9:=step f9 _ _ _ _ _ (by rw [k3];decide) (by rw [k1,k2];exact q8 c) (by rw [k1,k2];exact q8 d) (by rw [k1];exact e3 _ _) s10
 have s8:=step f8 _ _ _ _ _ (by rw [j3];decide) (by rw [j1,j2];exact q7 c) (by rw [j1,j2];exact q7 d) (by rw [j1];exact e3 _ _) s9
 have s7:=step f7 _ _ _ _ _ (by rw [i3];decide) (by rw [i1,i2];exact q6 c) (by rw [i1,i2];exact q6 d) (by rw [i1];exact e3 _ _) s8
 have s6:=step f6 _ _ _ _ _ (by rw [h3];decide) (by rw [h1,h2];exact q5 c) (by rw [h1,h2];exact q5 d) (by rw [h1];exact e3 _ _) s7
 have s5:=step f5 _ _ _ _ _ (by rw [g3];decide) (by rw [g1,g2];exact p24 c) (by rw [g1,g2];exact p24 d) (by rw [g1];exact e24) s6
 have s4:=step f4 _ _ _ _ _ (by rw [d3];decide) (by rw [d1,d2];exact p23 c) (by rw [d1,d2];exact p23 d) (by rw [d1];exact e23) s5
 have s3:=step f3 _ _ _ _ _ (by rw [c3];decide) (by rw [c1,c2];exact p22 c) (by rw [c1,c2];exact p22 d) (by rw [c1];exact e22) s4
 have s2:=step f2 _ _ _ _ _ (by rw [b3];decide) (by rw [b1,b2];exact q1 c) (by rw [b1,b2];exact q1 d) (by rw [b1];exact e3 _ _) s3
 have s1:=step f1 _ _ _ _ _ (by rw [a3];decide) (by rw [a1,a2];exact q0 c) (by rw [a1,a2];exact q0 d) (by rw [a1];exact e3 _ _) s2
 rw [s1]
 simp only [Bool.and_true,Bool.and_assoc]
theorem ed (n lo hi:Int) (w:World):Calls Tryz.prog 53 #[.int .i64 n,.int .i64 lo,.int .i64 hi] w fun e w'=>e = .returned (.bool (decide (lo≤n∧n≤hi)))∧w = w':=by
 by_cases h1:lo≤n
 ·by_cases h2:n≤hi
  ·rw [ae ⟨h1,h2⟩]
   go_enter Tryz.func53,Tryz.ntmps53
   go_wp2_with fail
   go_ret
   exact ⟨rfl,rfl⟩
  ·rw [ac (fun h=>h2 h.2)]
   go_enter Tryz.func53,Tryz.ntmps53
   go_wp2_with fail
   go_ret
   exact ⟨rfl,rfl⟩
 ·rw [ac (fun h=>h1 h.1)]
  go_enter Tryz.func53,Tryz.ntmps53
  go_wp2_with fail
  go_ret
  exact ⟨rfl,rfl⟩
theorem cb {ops:Array Oper} {rest:List Oper} {o:Oper} {a:Act} {w:World} {Q:Exit→Act→World→Prop} {c:Cf} (hg:o.guard = none) (x:Operand) (ho:o.op = .box 26 x) (hx:a.eval x = .agg (cg c))
  (h:wpList Tryz.prog ops Q rest (a.put o.dst (.pointer (some ⟨w.heap.size,0,none⟩))) (w.alloc (.cells (cg c) 26))):wpList Tryz.prog ops Q (o :: rest) a w :=
 Great.wpList_runTo hg _ rfl _ _ (by unfold execOp;simp only [ho,hx,Sem.run_bind,Instr.box,newVar,newRow,run_newObj_alloc,Sem.run_pure,Result.andThen_ok,Value.cells]) h
theorem cK {t e:TypeId} {n size:Nat} (hu:Tryz.prog.underlying t = some (.array n e)) (hs:∀w,(sizeOf e).run Tryz.prog w = .ok size w) (b off:Nat) {z:Int} (h0:0≤z) (h1:z≤n) :
  ∃off',(z.toNat = n∧off' = off∨off' = off+z.toNat * size)∧∀w,(Instr.sliceAt t (.pointer (some ⟨b,off,none⟩)) (some (.int .i64 z)) none none).run Tryz.prog w = .ok (.slice (some ⟨b,off',none⟩) (n - z.toNat) (n - z.toNat)) w:=by
 by_cases e:n = z.toNat
 ·refine ⟨off,.inl ⟨e.symm,rfl⟩,fun w=>?_⟩
  simp [Instr.sliceAt,run_underlying hu,Instr.sureAddr,Instr.sliceBounds,Instr.sliceBound,asIntOf,h0,h1,hs,e]
  omega
 ·refine ⟨off+z.toNat * size,.inr rfl,fun w=>?_⟩
  simp [Instr.sliceAt,run_underlying hu,Instr.sureAddr,Instr.sliceBounds,Instr.sliceBound,asIntOf,h0,h1,hs,e,Addr.add_mid]
theorem ra {ops:Array Oper} {rest:List Oper} {o:Oper} {a:Act} {w:World} {Q:Exit→Act→World→Prop} {t e:TypeId} {n size:Nat} (hu:Tryz.prog.underlying t = some (.array n e)) (hs:∀w,(sizeOf e).run Tryz.prog w = .ok size w)
  (hg:o.guard = none) (x lo:Operand) (ho:o.op = .slice t x (some lo) none none) {b off:Nat} {z:Int} (hx:a.eval x = .pointer (some ⟨b,off,none⟩)) (tG:a.eval lo = .int .i64 z) (h0:0≤z) (h1:z≤n)
  (h:∀off',(z.toNat = n∧off' = off∨off' = off+z.toNat * size)→wpList Tryz.prog ops Q rest (a.put o.dst (.slice (some ⟨b,off',none⟩) (n - z.toNat) (n - z.toNat))) w):wpList Tryz.prog ops Q (o :: rest) a w:=by
 obtain ⟨off',h2,h3⟩:=cK hu hs b off h0 h1
 exact Great.wpList_runTo hg _ rfl _ _ (by unfold execOp;simp only [ho,hx,tG,Option.map_some,Option.map_none,Sem.run_bind,h3,Sem.run_pure,Result.andThen_ok]) (h off' h2)
theorem wpG_tail {S:World→Prop} {Q:Exit→Act→World→Prop} {o:Oper} {rest:List Oper} {ks:List Nat} {gs:List (Option (Nat × Bool))} {a:Act} {w:World} {t e:TypeId} {n size:Nat} (hu:Tryz.prog.underlying t = some (.array n e)) (hs:∀w,(sizeOf e).run Tryz.prog w = .ok size w)
  (x lo:Operand) (ho:o.op = .slice t x (some lo) none none) {b off:Nat} {z:Int} (hx:a.eval x = .pointer (some ⟨b,off,none⟩)) (tG:a.eval lo = .int .i64 z) (h0:0≤z) (h1:z≤n)
  (h:∀off',(z.toNat = n∧off' = off∨off' = off+z.toNat * size)→wpG Tryz.prog S Q rest ks gs (a.put o.dst (.slice (some ⟨b,off',none⟩) (n - z.toNat) (n - z.toNat))) w):wpG Tryz.prog S Q (o :: rest) (0 :: ks) (none :: gs) a w:=by
 obtain ⟨off',h2,h3⟩:=cK hu hs b off h0 h1
 refine ai (fun K I=>⟨_,fun w'=>?_,I _ _ (h off' h2)⟩)
 unfold execOp
 simp only [ho,hx,tG,Option.map_some,Option.map_none,Sem.run_bind,h3,Sem.run_pure,Result.andThen_ok]
theorem dB {S:World→Prop} {Q:Exit→Act→World→Prop} {o:Oper} {rest:List Oper} {ks:List Nat} {gs:List (Option (Nat × Bool))} {a:Act} {w:World} {b:Nat} {c:Cf} (h0:CB w b c) (x:Operand) (ho:o.op = .call { callee:=.builtin .clear,args:=#[x],argTypes:=#[94] }) {off n k:Nat}
  (hx:a.eval x = .slice (some ⟨b,off,none⟩) n k) (hn:off+n≤94) (h:∀w',CB w' b (gz c off n)→Chg [b] w w'→wpG Tryz.prog S Q rest ks gs (a.put o.dst (.tuple #[])) w'):wpG Tryz.prog S Q (o :: rest) (3 :: ks) (none :: gs) a w:=by
 refine ao fun K I=>?_
 unfold Oper.wp execOp
 simp only [ho,resolve,invoke,builtin,Sem.run_bind,Sem.run_pure,Result.andThen_ok,List.map_toArray,List.map_cons,List.map_nil,hx,uu h0 hn]
 exact I _ _ (h _ (jo n off w c h0).1 (jo n off w c h0).2)
theorem ph {c:Cf} {o o' n:Nat} (h:n = 0∨o' = o):gz c o' n = gz c o n:=by
 rcases h with rfl | rfl
 ·funext i
  unfold gz
  rw [if_neg (by omega),if_neg (by omega)]
 ·rfl
theorem size3:∀w,(sizeOf 3).run Tryz.prog w = .ok 1 w:=fun w=>by
 obtain ⟨i,hi⟩:=info3
 rw [run_sizeOf w hi,jn]
def ry (c:Cf) (n k:Nat):Cf:=fun i=>if 26≤i∧i < 26+8 * k∧n≤(i - 26) % 8 then 0 else c i
def pj (c:Cf):Cf:=gz (ry (gz (gz c (2+(c 1).toNat) (16 - (c 1).toNat)) (18+(c 0).toNat) (8 - (c 0).toNat)) (c 0).toNat 8) (26+(c 0).toNat * 8) ((8 - (c 0).toNat) * 8)
theorem yp {c:Cf} (hn:1≤c 0∧c 0≤8) (hp:1≤c 1∧c 1≤16):(∀i,i < 94→c i = pj c i)↔((∀i:Nat,i < 16→c 1≤(i:Int)→c (2+i) = 0)∧(∀i:Nat,i < 8→c 0≤(i:Int)→c (18+i) = 0)∧∀i k:Nat,i < 8→k < 8→c 0≤(i:Int)∨c 0≤(k:Int)→c (26+i * 8+k) = 0):=by
 obtain ⟨n,qT⟩:∃n:Nat,c 0 = n:=⟨(c 0).toNat,by omega⟩
 obtain ⟨p,nM⟩:∃p:Nat,c 1 = p:=⟨(c 1).toNat,by omega⟩
 rw [qT,nM]
 rw [qT] at hn
 rw [nM] at hp
 have hB:∀i,pj c i = if 26+n * 8≤i∧i < 26+n * 8+(8 - n) * 8 then 0 else if 26≤i∧i < 26+8 * 8∧n≤(i - 26) % 8 then 0 else if 18+n≤i∧i < 18+n+(8 - n) then 0 else if 2+p≤i∧i < 2+p+(16 - p) then 0 else c i:=fun i=>by
  unfold pj gz ry
  simp only [qT,nM,Int.toNat_natCast]
 constructor
 ·intro h
  refine ⟨fun i hi hc=>?_,fun i hi hc=>?_,fun i k hi hk hc=>?_⟩
  ·rw [h _ (by omega),hB,if_neg (by omega),if_neg (by omega),if_neg (by omega),if_pos (by omega)]
  ·rw [h _ (by omega),hB,if_neg (by omega),if_neg (by omega),if_pos (by omega)]
  ·rw [h _ (by omega),hB]
   by_cases e:26+n * 8≤26+i * 8+k∧26+i * 8+k < 26+n * 8+(8 - n) * 8
   ·rw [if_pos e]
   ·rw [if_neg e,if_pos (by omega)]
 ·rintro ⟨h1,h2,h3⟩ i hi
  rw [hB]
  by_cases e1:26+n * 8≤i∧i < 26+n * 8+(8 - n) * 8
  ·rw [if_pos e1]
   have:=h3 ((i - 26) / 8) ((i - 26) % 8) (by omega) (by omega) (.inl (by omega))
   rwa [show 26+(i - 26) / 8 * 8+(i - 26) % 8 = i by omega] at this
  ·rw [if_neg e1]
   by_cases e2:26≤i∧i < 26+8 * 8∧n≤(i - 26) % 8
   ·rw [if_pos e2]
    have:=h3 ((i - 26) / 8) ((i - 26) % 8) (by omega) (by omega) (.inr (by omega))
    rwa [show 26+(i - 26) / 8 * 8+(i - 26) % 8 = i by omega] at this
   ·rw [if_neg e2]
    by_cases e3:18+n≤i∧i < 18+n+(8 - n)
    ·rw [if_pos e3]
     have:=h2 (i - 18) (by omega) (by omega)
     rwa [show 18+(i - 18) = i by omega] at this
    ·rw [if_neg e3]
     by_cases e4:2+p≤i∧i < 2+p+(16 - p)
     ·rw [if_pos e4]
      have:=h1 (i - 2) (by omega) (by omega)
      rwa [show 2+(i - 2) = i by omega] at this
     ·rw [if_neg e4]
theorem eI {c:Cf} {n k:Nat} (hn:n≤8):gz (ry c n k) (26+k * 8+n) (8 - n) = ry c n (k+1):=by
 funext i
 unfold gz ry
 by_cases e:26+k * 8+n≤i∧i < 26+k * 8+n+(8 - n)
 ·rw [if_pos e,if_pos (by omega)]
 ·rw [if_neg e]
  by_cases e2:26≤i∧i < 26+8 * k∧n≤(i - 26) % 8
  ·rw [if_pos e2,if_pos (by omega)]
  ·rw [if_neg e2,if_neg (by omega)]
theorem eJ {c:Cf} {n:Nat}:ry c n 0 = c:=by
 funext i
 unfold ry
 rw [if_neg (by omega)]
theorem um {c:Cf} {o n i:Nat} (h:i < o):gz c o n i = c i:=by unfold gz;rw [if_neg (by omega)]
theorem rowsC_at {c:Cf} {n k i:Nat} (h:i < 26):ry c n k i = c i:=by unfold ry;rw [if_neg (by omega)]
theorem bare_any {c:Cf} (w:World) (hn:1≤c 0∧c 0≤8) (hp:1≤c 1∧c 1≤16):Calls Tryz.prog 54 #[.agg (cg c)] w fun e w'=>e = .returned (.agg (cg (pj c)))∧Chg [] w w':=by
 obtain ⟨n1,n2⟩:=hn
 obtain ⟨p1,p2⟩:=hp
 have hb0:CB ((w.alloc (.cells (cg c) 26)).alloc (.cells (cg (fun _=>0)) 26)) w.heap.size c:=(Blk.new w 26 (cg c)).alloc _
 have rO:CB ((w.alloc (.cells (cg c) 26)).alloc (.cells (cg (fun _=>0)) 26)) (w.heap.size+1) (fun _=>0):=by
  have:=Blk.new (w.alloc (.cells (cg c) 26)) 26 (cg (fun _=>0))
  rwa [af] at this
 have nH:Chg [] w ((w.alloc (.cells (cg c) 26)).alloc (.cells (cg (fun _=>0)) 26)):=((Chg.refl [] w).alloc _).alloc _
 have g0:=ig c (i:=0) (by omega)
 have g1:=ig c (i:=1) (by omega)
 have HR:=ah rO
 have HC:=ah nH
 have HB:=ah hb0
 have HE:Hid (pj c = pj c):=ah rfl
 clear hb0 rO nH
 obtain ⟨D,hD⟩:∃D,D = pj c:=⟨_,rfl⟩
 rw [← hD]
 have HD:=ah hD
 clear hD HE
 have k1:(0:Int)≤c 1:=by omega
 have k2:(0:Int)≤c 0:=by omega
 go_enter Tryz.func54,Tryz.ntmps54
 go_wp2_with (first|refine cb rfl _ rfl rfl ?_|refine qv rfl rfl ?_|refine ra Tryz.underlying22 size3 rfl _ _ rfl rfl rfl (by omega) (by omega) ?_;intro o1 BQ;refine qx HB.out rfl _ rfl rfl (by omega) ?_;intro W1 h1 jH;rw [ph (o:=2+(c 1).toNat) (by omega)] at h1;have q0:=CB.get h1 (i:=0) (by omega);rw [um (by omega)] at q0;have H1:=ah h1;clear h1|refine ra Tryz.underlying23 size3 rfl _ _ rfl rfl rfl (by omega) (by omega) ?_;intro o2 BS;refine qx H1.out rfl _ rfl rfl (by omega) ?_;intro W2 h2 jA;rw [ph (o:=18+(c 0).toNat) (by omega)] at h2)
 have Dd:=jH.trans jA (fun x hx=>.inl hx)
 clear H1 jH jA q0 HB
 have Bi:=HR.out.chg Dd (by simp)
 have FO:Chg [] w W2:=HC.out.trans Dd (fun x hx=>.inr (by obtain rfl:=aa hx;exact Nat.le_refl _))
 clear HR HC Dd
 obtain ⟨c2,jA⟩:∃c2,c2 = gz (gz c (2+(c 1).toNat) (16 - (c 1).toNat)) (18+(c 0).toNat) (8 - (c 0).toNat):=⟨_,rfl⟩
 rw [← jA] at h2
 have e0:c2 0 = c 0:=by rw [jA,um (by omega),um (by omega)]
 have jU:=ah jA
 clear jA
 have BI:w.heap.size≤w.heap.size:=Nat.le_refl _
 have hrs:w.heap.size≤w.heap.size+1:=by omega
 have jO:w.heap.size≠w.heap.size+1:=by omega
 generalize w.heap.size+1 = r at Bi hrs jO ⊢
 obtain ⟨b,hb⟩:∃b,b = w.heap.size:=⟨_,rfl⟩
 have BI:w.heap.size≤b:=by omega
 rw [← hb] at h2 jO ⊢
 clear hb
 go_loopw [12] (fun i wr=>∃k:Nat,k≤8∧i = .int .i64 k∧CB wr b (ry c2 (c 0).toNat k)∧Chg [b] W2 wr) (fun i _=>8 - (intOf i).toNat)
 case atStart=>exact ⟨0,by omega,rfl,by rw [eJ];exact h2,Chg.refl _ _⟩
 case round =>
  obtain ⟨k,hk,rfl,h3,jV⟩:=hrel
  have q0:=CB.get h3 (i:=0) (by omega)
  rw [rowsC_at (by omega),e0] at q0
  have H3:=ah h3
  have pB:=h3.lt
  clear h2 h3
  by_cases mQ:k < 8
  ·have kk1:(0:Int)≤(k:Int):=by omega
   have kk2:(k:Int) < 8:=by omega
   go_wp2_with fail
   refine rgn7 [0,0,0,0,1,0,3] ?_
   have H3D:=ah H3.out.drew
   go_wp2_with (first|refine wpG_tail Tryz.underlying23 size3 _ _ rfl rfl rfl (by omega) (by omega) ?_;intro o3 ho3;refine dB H3D.out _ rfl rfl (by omega) ?_;intro W4 h4 jT;rw [ph (o:=26+k * 8+(c 0).toNat) (by omega),eI (by omega)] at h4|refine av fun K I=>?_|refine ai fun K I=>?_;go_simp;refine I _ _ ?_;clear I K|refine ao fun K I=>?_;go_simp|refine aj ?_)
   go_roundw
   case rel=>exact ⟨k+1,by omega,by go_num,h4,(jV.drew).trans jT (fun x hx=>.inl hx)⟩
   case measure=>simp [intOf];omega
  ·obtain rfl:k = 8:=by omega
   have At:=Bi.chg jV (by simp;exact fun e=>jO e.symm)
   have FP:Chg [] w wr:=FO.trans jV (fun x hx=>.inr (by obtain rfl:=aa hx;exact BI))
   have AN:=ah At
   have jE:=ah FP
   clear Bi FO At FP jV
   go_wp2_with (first|refine ra Tryz.underlying24 aS rfl _ _ rfl rfl rfl (by omega) (by omega) ?_;intro o3 ho3;refine xo H3.out rfl _ rfl rfl (by omega) ?_;intro W4 h4 jT;rw [ph (o:=26+(c 0).toNat * 8) (by omega)] at h4;have Fp:=ah (AN.out.chg jT (by simp;exact fun e=>jO e.symm));have H4:=ah h4;clear h4|refine ng H4.out rfl _ rfl rfl ?_|refine qz Fp.out rfl _ _ rfl rfl rfl ?_;intro W5 h5 U)
   refine bodyPost_ret (v:=.agg (cg D)) (by rw [HD.out,pj,← jU.out];exact results_cell_row (p:=2) (ty:=26) rfl _ _ r 26 _ (0,0) _ rfl h5 Tryz.underlying26 rfl mh) rfl ⟨rfl,?_⟩
   exact ((jE.out.trans jT (fun x hx=>.inr (by obtain rfl:=aa hx;exact BI))).trans U (fun x hx=>.inr (by obtain rfl:=aa hx;exact hrs)))
def vu (c:Cf) (i k:Nat):Prop:=(c (26+i * 8+k) = 0↔i = k)∧(0≤c (26+i * 8+k)∧c (26+i * 8+k)≤255)∧c (26+i * 8+k) = c (26+k * 8+i)
def NearP (c:Cf):Prop:=∀i k:Nat,(i:Int) < c 0→(k:Int) < c 0→vu c i k
theorem near_any {c:Cf} (w:World) (hn:1≤c 0∧c 0≤8):Calls Tryz.prog 55 #[.agg (cg c)] w fun e w'=>∃r:Bool,e = .returned (.bool r)∧(r = true↔NearP c)∧Chg [] w w':=by
 obtain ⟨n1,n2⟩:=hn
 obtain ⟨n,hn⟩:∃n:Nat,c 0 = n:=⟨(c 0).toNat,by omega⟩
 have hb:=Blk.new w 26 (cg c)
 have q0:=CB.get hb (i:=0) (by omega)
 rw [hn] at q0 n1 n2
 have h00:=ig c (i:=0) (by omega)
 rw [hn] at h00
 have HB:=ah hb
 have HN:=ah hn
 have n2':n≤8:=by omega
 clear hb hn
 go_enter Tryz.func55,Tryz.ntmps55
 go_wp2_with (first|refine cb rfl _ rfl rfl ?_)
 have pB:w.heap.size < (w.alloc (.cells (cg c) 26)).heap.size:=by simp
 have HC:=ah (show Chg [] w (w.alloc (.cells (cg c) 26)) from (Chg.refl [] w).alloc _)
 generalize w.alloc (.cells (cg c) 26) = W at q0 HB pB HC ⊢
 generalize w.heap.size = b at q0 HB pB ⊢
 go_loopw [8] (fun i wr=>wr = W∧∃k:Nat,k≤n∧i = .int .i64 k∧Hid (∀i j:Nat,i < k→j < n→vu c i j)) (fun i _=>n - (intOf i).toNat)
 case atStart=>exact ⟨rfl,0,by omega,rfl,ah (fun i j hi=>by omega)⟩
 case round =>
  obtain ⟨rfl,k,hk,rfl,HI⟩:=hrel
  by_cases mQ:k < n
  ·have kk1:(0:Int)≤(k:Int):=by omega
   have kk2:(k:Int) < 8:=by omega
   have kk3:(k:Int) < (n:Int):=by omega
   go_wp2_with fail
   go_loopw [13] (fun i wr'=>wr' = wr∧∃j:Nat,j≤n∧i = .int .i64 j∧Hid (∀i:Nat,i < j→vu c k i)) (fun i _=>n - (intOf i).toNat)
   case atStart=>exact ⟨rfl,0,by omega,rfl,ah (fun i hi=>by omega)⟩
   case round =>
    obtain ⟨rfl,j,hj,rfl,HJ⟩:=hrel
    by_cases hjt:j < n
    ·have jj1:(0:Int)≤(j:Int):=by omega
     have jj2:(j:Int) < 8:=by omega
     have jj3:(j:Int) < (n:Int):=by omega
     have d1:=CB.get HB.out (i:=26+k * 8+j) (by omega)
     have d2:=CB.get HB.out (i:=26+j * 8+k) (by omega)
     obtain ⟨x,hx⟩:∃x,c (26+k * 8+j) = x:=⟨_,rfl⟩
     obtain ⟨y,hy⟩:∃y,c (26+j * 8+k) = y:=⟨_,rfl⟩
     rw [hx] at d1
     rw [hy] at d2
     have hP:Hid (vu c k j↔((x = 0↔k = j)∧(0≤x∧x≤255)∧x = y)):=ah (by unfold vu;rw [hx,hy])
     have Hjn:=ah hjt
     have Hkn:=ah mQ
     have jZ:¬ ((x = 0↔k = j)∧(0≤x∧x≤255)∧x = y)→(false = true↔NearP c):=fun h=>by
      refine ⟨fun h=>(by cases h),fun hN=>absurd (hP.out.1 (hN k j ?_ ?_)) h⟩
      ·rw [HN.out];exact Int.ofNat_lt.2 Hkn.out
      ·rw [HN.out];exact Int.ofNat_lt.2 Hjn.out
     have mI:=ah jZ
     clear hx hy jZ
     obtain ⟨u,hu⟩:∃u,(x == 0) = u:=⟨_,rfl⟩
     obtain ⟨v,hv⟩:∃v,((k:Int) == (j:Int)) = v:=⟨_,rfl⟩
     have qV:(k == j) = v:=by rw [← hv,Bool.eq_iff_iff];simp;omega
     have HU:Hid (x = 0↔u = true):=ah (by rw [← hu];simp)
     have HV:Hid (k = j↔v = true):=ah (by rw [← qV];simp)
     by_cases huv:u = v
     ·subst huv
      by_cases hw:0≤x∧x≤255
      ·have oV:decide (0≤x∧x≤255) = true:=ae hw
       have HW:=ah hw
       clear hw
       by_cases wR:x = y
       ·have hxy':(x != y) = false:=by simpa using wR
        have HXY:=ah wR
        clear wR
        go_wp2_with (first|(go_at_call 53;refine (ed _ _ _ _).mono ?_;rintro e W7 ⟨rfl,rfl⟩))
        go_roundw
        case rel=>exact ⟨trivial,j+1,by omega,by go_num,ah (fun i hi=>by
         by_cases e:i = j
         ·subst e;exact hP.out.2 ⟨by rw [HU.out,HV.out],HW.out,HXY.out⟩
         ·exact HJ.out i (by omega))⟩
        case measure=>simp [intOf];omega
       ·have hxy':(x != y) = true:=by simpa using wR
        have HF:=ah (mI.out (fun h=>wR h.2.2))
        clear wR
        go_wp2_with (first|(go_at_call 53;refine (ed _ _ _ _).mono ?_;rintro e W7 ⟨rfl,rfl⟩))
        go_ret
        exact ⟨false,rfl,HF.out,HC.out⟩
      ·have oV:decide (0≤x∧x≤255) = false:=ac hw
       have HF:=ah (mI.out (fun h=>hw h.2.1))
       clear hw
       go_wp2_with (first|(go_at_call 53;refine (ed _ _ _ _).mono ?_;rintro e W7 ⟨rfl,rfl⟩))
       go_ret
       exact ⟨false,rfl,HF.out,HC.out⟩
     ·have huv':v = !u:=by cases u <;> cases v <;> simp_all
      subst huv'
      have HF:=ah (mI.out (fun h=>by have:=HU.out;have:=HV.out;have:=h.1;cases u <;> simp_all))
      clear huv
      go_wp2_with (first|(go_at_call 53;refine (ed _ _ _ _).mono ?_;rintro e W7 ⟨rfl,rfl⟩))
      go_ret
      exact ⟨false,rfl,HF.out,HC.out⟩
    ·obtain rfl:j = n:=by omega
     go_wp2_with fail
     go_roundw
     case rel=>exact ⟨trivial,k+1,by omega,by go_num,ah (fun a b ha hb=>by
      by_cases e:a = k
      ·subst e;exact HJ.out b hb
      ·exact HI.out a b (by omega) hb)⟩
     case measure=>simp [intOf];omega
  ·obtain rfl:k = n:=by omega
   go_wp2_with fail
   go_ret
   exact ⟨true,rfl,by
    simp only [true_iff]
    intro a b ha hb
    rw [HN.out] at ha hb
    exact HI.out a b (by omega) (by omega),HC.out⟩
end Go.Proofs.YtfoleblcaloeoaaGreatDoor
