import Derived.Test.YtfoleblcaloeoaaGreatDoorZab
import Derived.Test.YtfoleblcaloeoaaGreatDoorZac
import Derived.Laws.Rows
import Derived.Laws.Tables
import Derived.Laws.IdiomCopy
import Derived.Deep.MidRow
import Derived.Deep.WholeRow
import Derived.Great.Walk
import Derived.ChangeKeysEq
import Derived.Laws.IdiomStrings
import Derived.Laws.BitsAllLaws
import Derived.Laws.RangeAny
set_option maxHeartbeats 40000000
set_option maxRecDepth 20000
namespace Go.Proofs.YtfoleblcaloeoaaGreatDoor
open Go Go.RowKit
@[irreducible] def cg (c:Cf):Array Value:=Array.ofFn (n:=94) fun i=>.int .i64 (c i)
theorem ga (c:Cf):(cg c).size = 94:=by unfold cg;simp
variable {i:Nat}
theorem je (c:Cf) (h:i < 94):(cg c)[i]? = some (.int .i64 (c i)):=by unfold cg;simp [h]
variable {c:Cf}
theorem cg_ext {d:Cf} (h:∀i,i < 94→c i = d i):cg c = cg d:=by unfold cg;congr 1;funext i;rw [h i i.2]
theorem cg_set (c:Cf) (i:Nat) (v:Int):(cg c).setIfInBounds i (.int .i64 v) = cg (fun q=>if q = i then v else c q):=by
 apply Array.ext_getElem?;intro j;rw [Array.getElem?_setIfInBounds];by_cases hj:j < 94
 ·rw [je _ hj,je _ hj];by_cases e:i = j
  ·subst e;simp [ga,hj]
  ·rw [ag e,ag (fun h=>e h.symm)]
 ·have h1:(cg c)[j]? = none:=Array.getElem?_eq_none (by rw [ga];omega);have h2:(cg (fun q=>if q = i then v else c q))[j]? = none:=Array.getElem?_eq_none (by rw [ga];omega);rw [h1,h2,ga];split
  ·rename_i e;rw [ag (by omega)]
  ·rfl
theorem cg_one (c:Cf):(cg c).all (·.oneCell') = true:=by unfold cg;rw [Array.all_eq_true];intro i hi;simp [Value.oneCell']
theorem cg_of {xs:Array Value} (hs:xs.size = 94) (h:∀i,i < 94→xs[i]? = some (.int .i64 (c i))):xs = cg c:=by
 apply Array.ext_getElem?;intro j;by_cases hj:j < 94
 ·rw [h j hj,je c hj]
 ·rw [Array.getElem?_eq_none (by omega),Array.getElem?_eq_none (by rw [ga];omega)]
abbrev CB (w:World) (b:Nat) (c:Cf):Prop:=Blk w b 26 (cg c)
variable {b:Nat} {w:World}
theorem CB.get (h:CB w b c) (hi:i < 94):w.cell? ⟨b,i,none⟩ = some (.int .i64 (c i)):=(h.cell i).trans (je c hi)
theorem info26:(Tryz.prog.info? 26).map (·.size) = some 94:=by kernel_rfl
theorem nj:(Tryz.prog.info? 26).map (·.size) = some (cg c).size:=by rw [ga];exact info26
theorem CB.set (h:CB w b c) (i:Nat) (v:Int):CB (w.setCell ⟨b,i,none⟩ (.int .i64 v)) b (fun q=>if q = i then v else c q):=by have:=h.set_ i (.int .i64 v);rwa [cg_set] at this
theorem CB.ext {d:Cf} (h:CB w b c) (he:∀i,i < 94→c i = d i):CB w b d:=by rw [CB,← cg_ext he];exact h
def jb (c:Cf) (o n:Nat):Cf:=fun i=>if o≤i∧i < o+n then 0 else c i
theorem kh {b:Nat}:∀(n o:Nat) (w:World) (c:Cf),CB w b c→CB (w.setCells b o (List.replicate n (.int .i64 0))) b (jb c o n)∧Chg [b] w (w.setCells b o (List.replicate n (.int .i64 0)))
 | 0,o,w,c,h=>⟨h.ext fun i _=>by unfold jb;rw [ag (by omega)],av _ _⟩
 | n+1,o,w,c,h=>by
  obtain ⟨h1,h2⟩:=kh n (o+1) _ _ (h.set o 0)
  refine ⟨h1.ext fun i _=>?_,((av [b] w).setCell (p:=⟨b,o,none⟩) (.inl (by simp)) _).trans h2 (fun x hx=>.inl hx)⟩
  unfold jb
  by_cases e:i = o
  ·subst e;rw [ag (by omega)];simp only [ah];rw [ah (by omega)]
  ·by_cases e2:o+1≤i∧i < o+1+n
   ·rw [ah e2,ah (by omega)]
   ·rw [ag e2];simp only [ag e];rw [ag (by omega)]
variable {n:Nat}
theorem dR (h:CB w b c) {o:Nat} (ho:o+n≤94):(storeCells ⟨b,o,none⟩ (List.replicate n (.int .i64 0))).run Tryz.prog w = .ok () (w.setCells b o (List.replicate n (.int .i64 0))):=by have:=run_storeCells_cells (P:=Tryz.prog) b o (List.replicate n (.int .i64 0)) 0 w (fun j hj=>by rw [List.length_replicate] at hj;rw [h.get (by omega)];rfl) (fun j _=>h.frozen _) (fun v hv=>by obtain ⟨_,rfl⟩:=List.mem_replicate.1 hv;rfl);exact this
theorem zeros8 (n:Nat):(Builtin.zeroCells #[.int .i64 0,.int .i64 0,.int .i64 0,.int .i64 0,.int .i64 0,.int .i64 0,.int .i64 0,.int .i64 0] n).toList = List.replicate (n * 8) (.int .i64 0):=by
 apply List.ext_getElem
 ·simp [Builtin.zeroCells]
 ·intro i h1 h2;simp only [List.getElem_replicate];have h3:i % 8 < 8:=Nat.mod_lt _ (by omega);simp [Builtin.zeroCells];generalize i % 8 = m at h3
  match m,h3 with
  | 0,_=>rfl
  | 1,_=>rfl
  | 2,_=>rfl
  | 3,_=>rfl
  | 4,_=>rfl
  | 5,_=>rfl
  | 6,_=>rfl
  | 7,_=>rfl
theorem zeros1 (n:Nat):(Builtin.zeroCells #[.int .i64 0] n).toList = List.replicate n (.int .i64 0):=by
 apply List.ext_getElem
 ·simp [Builtin.zeroCells]
 ·intro i h1 h2;simp only [List.getElem_replicate];have h3:i % 1 = 0:=Nat.mod_one _;simp [Builtin.zeroCells,h3]
theorem zero23:∀w,(zeroValue 23).run Tryz.prog w = .ok (.agg #[.int .i64 0,.int .i64 0,.int .i64 0,.int .i64 0,.int .i64 0,.int .i64 0,.int .i64 0,.int .i64 0]) w:=by
 have h:(Tryz.prog.info? 23).map (fun i=>(i.zero,i.size)) = some (some (.agg #[.int .i64 0,.int .i64 0,.int .i64 0,.int .i64 0,.int .i64 0,.int .i64 0,.int .i64 0,.int .i64 0]),8):=by kernel_rfl
 exact (zero_of_info h).1
theorem zero3:∀w,(zeroValue 3).run Tryz.prog w = .ok (.int .i64 0) w:=by
 have h:(Tryz.prog.info? 3).map (fun i=>(i.zero,i.size)) = some (some (.int .i64 0),1):=by kernel_rfl
 exact (zero_of_info h).1
variable {k:Nat}
theorem vu (h:CB w b c) {o:Nat} (ho:o+n≤94) (ty:TypeId) :
  (Builtin.clear_ #[94] ty #[.slice (some ⟨b,o,none⟩) n k]).run Tryz.prog w = .ok (.tuple #[]) (w.setCells b o (List.replicate n (.int .i64 0))):=by
 cases n with
 | zero=>simp [Builtin.clear_,run_underlying Tryz.underlying94,World.setCells]
 | succ n=>simp [Builtin.clear_,run_underlying Tryz.underlying94,zero3,Value.cells,zeros1,dR h ho]
theorem dM (h:CB w b c) {o:Nat} (ho:o+n * 8≤94) (ty:TypeId) :
  (Builtin.clear_ #[147] ty #[.slice (some ⟨b,o,none⟩) n k]).run Tryz.prog w = .ok (.tuple #[]) (w.setCells b o (List.replicate (n * 8) (.int .i64 0))):=by
 cases n with
 | zero=>simp [Builtin.clear_,run_underlying Tryz.underlying147,World.setCells]
 | succ n=>simp [Builtin.clear_,run_underlying Tryz.underlying147,zero23,Value.cells,zeros8,dR h ho]
section
variable {ops:Array Oper} {rest:List Oper} {o:Oper} {a:Act} {w:World} {Q:Exit→Act→World→Prop} {b:Nat} {c d:Cf}
theorem ro (h0:CB w b c) (hg:o.guard = none) (x:Operand) (ho:o.op = .call { callee:=.builtin .clear,args:=#[x],argTypes:=#[94] }) {off n k:Nat}
  (hx:a.eval x = .slice (some ⟨b,off,none⟩) n k) (hn:off+n≤94) (h:∀w',CB w' b (jb c off n)→Chg [b] w w'→wpList Tryz.prog ops Q rest (a.put o.dst (.tuple #[])) w'):wpList Tryz.prog ops Q (o :: rest) a w :=
 Great.wpList_runTo hg _ rfl _ _ (by unfold execOp;simp only [ho,resolve,invoke,builtin,Sem.run_bind,Sem.run_pure,Result.andThen_ok,List.map_toArray,List.map_cons,List.map_nil,hx,vu h0 hn]) (h _ (kh n off w c h0).1 (kh n off w c h0).2)
theorem yr (h0:CB w b c) (hg:o.guard = none) (x:Operand) (ho:o.op = .call { callee:=.builtin .clear,args:=#[x],argTypes:=#[147] }) {off n k:Nat}
  (hx:a.eval x = .slice (some ⟨b,off,none⟩) n k) (hn:off+n * 8≤94) (h:∀w',CB w' b (jb c off (n * 8))→Chg [b] w w'→wpList Tryz.prog ops Q rest (a.put o.dst (.tuple #[])) w'):wpList Tryz.prog ops Q (o :: rest) a w :=
 Great.wpList_runTo hg _ rfl _ _ (by unfold execOp;simp only [ho,resolve,invoke,builtin,Sem.run_bind,Sem.run_pure,Result.andThen_ok,List.map_toArray,List.map_cons,List.map_nil,hx,dM h0 hn]) (h _ (kh (n * 8) off w c h0).1 (kh (n * 8) off w c h0).2)
theorem od (h0:CB w b c) (hg:o.guard = none) (x:Operand) (ho:o.op = .load 26 x)
  (hx:a.eval x = .pointer (some ⟨b,0,none⟩)) (h:wpList Tryz.prog ops Q rest (a.put o.dst (.agg (cg c))) w):wpList Tryz.prog ops Q (o :: rest) a w :=
 wpList_load_row hg 26 x ho b hx 26 (cg c) (0,0) _ h0 Tryz.underlying26 rfl nj h
theorem rx (h0:CB w b c) (hg:o.guard = none) (x y:Operand) (ho:o.op = .store 26 x y)
  (hx:a.eval x = .pointer (some ⟨b,0,none⟩)) (hy:a.eval y = .agg (cg d)) (h:∀w',CB w' b d→Chg [b] w w'→wpList Tryz.prog ops Q rest (a.put o.dst undef) w'):wpList Tryz.prog ops Q (o :: rest) a w :=
 wpList_store_row hg 26 x y ho b (cg d) hx hy 26 (cg c) h0 nj (by rw [ga,ga]) (cg_one d) (h _ (setRow_heap w b _ _ _ _ h0) ((av [b] w).setRow (.inl (by simp)) _))
theorem zeroCg:cg (fun _=>0) = Array.replicate 94 (.int .i64 0):=by
 apply Array.ext_getElem?;intro j;by_cases hj:j < 94
 ·rw [je _ hj];simp [hj]
 ·rw [Array.getElem?_eq_none (by rw [ga];omega),Array.getElem?_eq_none (by simp;omega)]
theorem zero26:∀w,(zeroValue 26).run Tryz.prog w = .ok (.agg (cg (fun _=>0))) w:=by
 have h:(Tryz.prog.info? 26).map (fun i=>(i.zero,i.size)) = some (some (.agg (Array.replicate 94 (.int .i64 0))),94):=by kernel_rfl
 rw [zeroCg];exact (zero_of_info h).1
theorem dI (w:World):(Instr.alloc 26 true (.tuple #[])).run Tryz.prog w = .ok (.pointer (some ⟨w.heap.size,0,none⟩)) (w.alloc (.cells (cg (fun _=>0)) 26)):=by simp [Instr.alloc,Sem.run_bind,zero26,newVar,newRow,run_newObj_alloc,Value.cells];rw [zeroCg];congr 2
theorem rm (hg:o.guard = none) (ho:o.op = .alloc 26)
  (h:wpList Tryz.prog ops Q rest (a.put o.dst (.pointer (some ⟨w.heap.size,0,none⟩))) (w.alloc (.cells (cg (fun _=>0)) 26))):wpList Tryz.prog ops Q (o :: rest) a w :=
 Great.wpList_runTo hg _ rfl _ _ (by unfold execOp;simp only [ho,Sem.run_bind,dI,Sem.run_pure,Result.andThen_ok]) h
end
theorem sv (d:Nat) (w:World) (xs ys:Array Value) (f g:Nat→Int):∀(is:List Nat),(∀i∈is,xs[i]? = some (.int .i64 (f i))∧ys[i]? = some (.int .i64 (g i))) →
  (Op.eqItems (d+1) 3 1 xs ys is).run Tryz.prog w = .ok (is.all fun i=>f i == g i) w
 | [],_=>by simp [Op.eqItems]
 | i :: is,h=>by
  obtain ⟨hx,hy⟩:=h i (List.mem_cons_self ..)
  have px:(part 3 xs (i * 1)).run Tryz.prog w = .ok (.int .i64 (f i)) w:=by simp [part,isAgg,run_underlying Tryz.underlying3,hx]
  have py:(part 3 ys (i * 1)).run Tryz.prog w = .ok (.int .i64 (g i)) w:=by simp [part,isAgg,run_underlying Tryz.underlying3,hy]
  have ih:=sv d w xs ys f g is (fun j hj=>h j (List.mem_cons_of_mem _ hj))
  simp only [Op.eqItems,Sem.run_bind,px,py,Result.andThen_ok,run_equalIn_int w d 3 .i64 .i64 _ _ Tryz.underlying3,List.all_cons]
  cases hb:(f i == g i)
  ·simp
  ·simp [ih]
theorem info3:∃i,Tryz.prog.info? 3 = some i:=by
 have h:(Tryz.prog.info? 3).isSome = true:=by kernel_rfl
 exact Option.isSome_iff_exists.1 h
theorem info23:∃i,Tryz.prog.info? 23 = some i:=by
 have h:(Tryz.prog.info? 23).isSome = true:=by kernel_rfl
 exact Option.isSome_iff_exists.1 h
theorem kg:Tryz.prog.cellsOf 3 = 1:=by kernel_rfl
theorem wj:Tryz.prog.cellsOf 23 = 8:=by kernel_rfl
variable {t:TypeId}
theorem tl (d:Nat) (w:World) (hu:Tryz.prog.underlying t = some (.array n 3)) (xs ys:Array Value) (f g:Nat→Int) (h:∀i,i < n→xs[i]? = some (.int .i64 (f i))∧ys[i]? = some (.int .i64 (g i))) :
  (Op.equalIn (d+2) t (.agg xs) (.agg ys)).run Tryz.prog w = .ok ((List.range n).all fun i=>f i == g i) w:=by
 obtain ⟨i,hi⟩:=info3;rw [run_equalIn_array w (d+1) xs ys hu hi,kg];exact sv d w xs ys f g _ (fun i hi=>h i (by simpa using hi))
theorem bU:∀w,(sizeOf 23).run Tryz.prog w = .ok 8 w:=fun w=>by
 obtain ⟨i,hi⟩:=info23
 rw [run_sizeOf w hi,wj]
theorem su (d:Nat) (w:World) (xs ys:Array Value) (f g:Nat→Int):∀(is:List Nat),(∀i∈is,∀j,j < 8→xs[i * 8+j]? = some (.int .i64 (f (i * 8+j)))∧ys[i * 8+j]? = some (.int .i64 (g (i * 8+j)))) →
  (Op.eqItems (d+2) 23 8 xs ys is).run Tryz.prog w = .ok (is.all fun i=>(List.range 8).all fun j=>f (i * 8+j) == g (i * 8+j)) w
 | [],_=>by simp [Op.eqItems]
 | i :: is,h=>by
  have hh:=h i (List.mem_cons_self ..)
  have px:(part 23 xs (i * 8)).run Tryz.prog w = .ok (.agg (xs.extract (i * 8) (i * 8+8))) w:=by simp [part,isAgg,run_underlying Tryz.underlying23,bU]
  have py:(part 23 ys (i * 8)).run Tryz.prog w = .ok (.agg (ys.extract (i * 8) (i * 8+8))) w:=by simp [part,isAgg,run_underlying Tryz.underlying23,bU]
  have ih:=su d w xs ys f g is (fun j hj=>h j (List.mem_cons_of_mem _ hj))
  have lx:∀(zs:Array Value) (k:Nat→Int),(∀j,j < 8→zs[i * 8+j]? = some (.int .i64 (k (i * 8+j))))→∀j,j < 8→(zs.extract (i * 8) (i * 8+8))[j]? = some (.int .i64 (k (i * 8+j))):=fun zs k hz j hj=>by
   have h7:=(Array.getElem?_eq_some_iff.1 (hz 7 (by omega))).1
   rw [Array.getElem?_extract,ah (by omega)]
   exact hz j hj
  have pe:=tl d w Tryz.underlying23 (xs.extract (i * 8) (i * 8+8)) (ys.extract (i * 8) (i * 8+8)) (fun j=>f (i * 8+j)) (fun j=>g (i * 8+j)) (fun j hj=>⟨lx xs f (fun j hj=>(hh j hj).1) j hj,lx ys g (fun j hj=>(hh j hj).2) j hj⟩)
  simp only [Op.eqItems,Sem.run_bind,px,py,pe,Result.andThen_ok,List.all_cons]
  generalize ((List.range 8).all fun j=>f (i * 8+j) == g (i * 8+j)) = r
  cases r
  ·simp
  ·simp [ih]
theorem size_22:∀w,(sizeOf 22).run Tryz.prog w = .ok 16 w:=fun w=>by
 have h:(Tryz.prog.info? 22).map (·.size) = some 16:=by kernel_rfl
 cases hq:Tryz.prog.info? 22 with
 | none=>simp [hq] at h
 | some i=>simp [hq] at h;simp [sizeOf,typeInfo,hq,h]
theorem size_24:∀w,(sizeOf 24).run Tryz.prog w = .ok 64 w:=fun w=>by
 have h:(Tryz.prog.info? 24).map (·.size) = some 64:=by kernel_rfl
 cases hq:Tryz.prog.info? 24 with
 | none=>simp [hq] at h
 | some i=>simp [hq] at h;simp [sizeOf,typeInfo,hq,h]
theorem aT (w:World) (c d:Cf):∃r:Bool,(Op.equalIn 10000 26 (.agg (cg c)) (.agg (cg d))).run Tryz.prog w = .ok r w∧(r = true↔∀i,i < 94→c i = d i):=by
 have hf:((Tryz.prog.fieldsOf 26).toList.map fun f=>(f.type,f.offset,f.name)) = [(3,0,"Nodes"),(3,1,"CPUs"),(22,2,"Home"),(23,18,"Frames"),(24,26,"Distance"),(3,90,"Slots"),(3,91,"Min"),(3,92,"Low"),(3,93,"High")]:=by kernel_rfl
 rw [run_equalIn_agg w 9999 26 _ _ (by kernel_rfl) (by kernel_rfl)];generalize (Tryz.prog.fieldsOf 26).toList = fs at hf ⊢;have pi:∀(e:Cf) (o:Nat),o < 94→(part 3 (cg e) o).run Tryz.prog w = .ok (.int .i64 (e o)) w:=fun e o ho=>by simp [part,isAgg,run_underlying Tryz.underlying3,je e ho]
 have p22:∀(e:Cf),(part 22 (cg e) 2).run Tryz.prog w = .ok (.agg ((cg e).extract 2 18)) w:=fun e=>by simp [part,isAgg,run_underlying Tryz.underlying22,size_22]
 have p23:∀(e:Cf),(part 23 (cg e) 18).run Tryz.prog w = .ok (.agg ((cg e).extract 18 26)) w:=fun e=>by simp [part,isAgg,run_underlying Tryz.underlying23,bU]
 have p24:∀(e:Cf),(part 24 (cg e) 26).run Tryz.prog w = .ok (.agg ((cg e).extract 26 90)) w:=fun e=>by simp [part,isAgg,run_underlying Tryz.underlying24,size_24]
 have ex:∀(e:Cf) (o n i:Nat),o+n≤94→i < n→((cg e).extract o (o+n))[i]? = some (.int .i64 (e (o+i))):=fun e o n i ho hi=>by rw [Array.getElem?_extract,ah (by rw [ga];omega),je e (by omega)]
 have e3:∀(a b:Int),(Op.equalIn 9999 3 (.int .i64 a) (.int .i64 b)).run Tryz.prog w = .ok (a == b) w:=fun a b=>run_equalIn_int w 9998 3 .i64 .i64 a b Tryz.underlying3;have e22:=tl 9997 w Tryz.underlying22 ((cg c).extract 2 18) ((cg d).extract 2 18) (fun i=>c (2+i)) (fun i=>d (2+i)) (fun i hi=>⟨ex c 2 16 i (by omega) hi,ex d 2 16 i (by omega) hi⟩);have e23:=tl 9997 w Tryz.underlying23 ((cg c).extract 18 26) ((cg d).extract 18 26) (fun i=>c (18+i)) (fun i=>d (18+i)) (fun i hi=>⟨ex c 18 8 i (by omega) hi,ex d 18 8 i (by omega) hi⟩);have e24:(Op.equalIn 9999 24 (.agg ((cg c).extract 26 90)) (.agg ((cg d).extract 26 90))).run Tryz.prog w = .ok ((List.range 8).all fun i=>(List.range 8).all fun j=>c (26+(i * 8+j)) == d (26+(i * 8+j))) w:=by
  obtain ⟨i,hi⟩:=info23;rw [run_equalIn_array w 9998 _ _ Tryz.underlying24 hi,wj];exact su 9996 w _ _ (fun i=>c (26+i)) (fun i=>d (26+i)) _ (fun i hi j hj=>by
   have hi8:i < 8:=by simpa using hi
   exact ⟨ex c 26 64 _ (by omega) (by omega),ex d 26 64 _ (by omega) (by omega)⟩)
 rcases fs with _ | ⟨f1,_ | ⟨f2,_ | ⟨f3,_ | ⟨f4,_ | ⟨f5,_ | ⟨f6,_ | ⟨f7,_ | ⟨f8,_ | ⟨f9,_ | ⟨f10,t⟩⟩⟩⟩⟩⟩⟩⟩⟩⟩
 all_goals first
 | (simp at hf;done)
 | skip
 simp only [List.map_cons,List.map_nil,List.cons.injEq,Prod.mk.injEq,and_true] at hf;obtain ⟨⟨a1,a2,a3⟩,⟨b1,b2,b3⟩,⟨c1,c2,c3⟩,⟨d1,d2,d3⟩,⟨g1,g2,g3⟩,⟨h1,h2,h3⟩,⟨i1,i2,i3⟩,⟨j1,j2,j3⟩,k1,k2,k3⟩:=hf;refine ⟨(c 0 == d 0 && c 1 == d 1 && ((List.range 16).all fun i=>c (2+i) == d (2+i)) && ((List.range 8).all fun i=>c (18+i) == d (18+i)) && ((List.range 8).all fun i=>(List.range 8).all fun j=>c (26+(i * 8+j)) == d (26+(i * 8+j))) && c 90 == d 90 && c 91 == d 91 && c 92 == d 92 && c 93 == d 93),?_,?_⟩;rotate_left
 ·simp only [Bool.and_eq_true,beq_iff_eq,List.all_eq_true,List.mem_range];refine Iff.symm ?_;constructor
  ·intro h;exact ⟨⟨⟨⟨⟨⟨⟨⟨h 0 (by omega),h 1 (by omega)⟩,fun i hi=>h _ (by omega)⟩,fun i hi=>h _ (by omega)⟩,fun i hi j hj=>h _ (by omega)⟩,h 90 (by omega)⟩,h 91 (by omega)⟩,h 92 (by omega)⟩,h 93 (by omega)⟩
  ·rintro ⟨⟨⟨⟨⟨⟨⟨⟨h0,h1⟩,h2⟩,h3⟩,h4⟩,h5⟩,h6⟩,h7⟩,h8⟩ i hi;by_cases q2:i < 2
   ·rcases (by omega:i = 0∨i = 1) with rfl | rfl <;> assumption
   ·by_cases q3:i < 18
    ·have:=h2 (i - 2) (by omega);rwa [show 2+(i - 2) = i by omega] at this
    ·by_cases q4:i < 26
     ·have:=h3 (i - 18) (by omega);rwa [show 18+(i - 18) = i by omega] at this
     ·by_cases q5:i < 90
      ·have:=h4 ((i - 26) / 8) (by omega) ((i - 26) % 8) (by omega);rwa [show 26+((i - 26) / 8 * 8+(i - 26) % 8) = i by omega] at this
      ·rcases (by omega:i = 90∨i = 91∨i = 92∨i = 93) with rfl | rfl | rfl | rfl <;> assumption
 generalize ((List.range 16).all fun i=>c (2+i) == d (2+i)) = r22 at e22 ⊢;generalize ((List.range 8).all fun i=>c (18+i) == d (18+i)) = r23 at e23 ⊢;generalize ((List.range 8).all fun i=>(List.range 8).all fun j=>c (26+(i * 8+j)) == d (26+(i * 8+j))) = r24 at e24 ⊢;have q0:=fun e:Cf=>pi e 0 (by omega);have q1:=fun e:Cf=>pi e 1 (by omega);have q5:=fun e:Cf=>pi e 90 (by omega);have q6:=fun e:Cf=>pi e 91 (by omega);have q7:=fun e:Cf=>pi e 92 (by omega);have q8:=fun e:Cf=>pi e 93 (by omega);have step:∀(f:Field) (fs:List Field) (a b:Value) (r s:Bool),f.name≠ "_"→(part f.type (cg c) f.offset).run Tryz.prog w = .ok a w→(part f.type (cg d) f.offset).run Tryz.prog w = .ok b w→(Op.equalIn 9999 f.type a b).run Tryz.prog w = .ok r w →
   (Op.eqFields 9999 (cg c) (cg d) fs).run Tryz.prog w = .ok s w→(Op.eqFields 9999 (cg c) (cg d) (f :: fs)).run Tryz.prog w = .ok (r && s) w:=fun f fs a b r s h0 h1 h2 h3 h4=>by
  simp only [Op.eqFields,h0,ne_eq,not_false_eq_true,if_true,Sem.run_bind,h1,h2,h3,Result.andThen_ok]
  cases r
  ·simp
  ·simp [h4]
 have s10:(Op.eqFields 9999 (cg c) (cg d) []).run Tryz.prog w = .ok true w:=by simp [Op.eqFields]
 have s9:=step f9 _ _ _ _ _ (by rw [k3];decide) (by rw [k1,k2];exact q8 c) (by rw [k1,k2];exact q8 d) (by rw [k1];exact e3 _ _) s10;have s8:=step f8 _ _ _ _ _ (by rw [j3];decide) (by rw [j1,j2];exact q7 c) (by rw [j1,j2];exact q7 d) (by rw [j1];exact e3 _ _) s9;have s7:=step f7 _ _ _ _ _ (by rw [i3];decide) (by rw [i1,i2];exact q6 c) (by rw [i1,i2];exact q6 d) (by rw [i1];exact e3 _ _) s8;have s6:=step f6 _ _ _ _ _ (by rw [h3];decide) (by rw [h1,h2];exact q5 c) (by rw [h1,h2];exact q5 d) (by rw [h1];exact e3 _ _) s7;have s5:=step f5 _ _ _ _ _ (by rw [g3];decide) (by rw [g1,g2];exact p24 c) (by rw [g1,g2];exact p24 d) (by rw [g1];exact e24) s6;have s4:=step f4 _ _ _ _ _ (by rw [d3];decide) (by rw [d1,d2];exact p23 c) (by rw [d1,d2];exact p23 d) (by rw [d1];exact e23) s5;have s3:=step f3 _ _ _ _ _ (by rw [c3];decide) (by rw [c1,c2];exact p22 c) (by rw [c1,c2];exact p22 d) (by rw [c1];exact e22) s4;have s2:=step f2 _ _ _ _ _ (by rw [b3];decide) (by rw [b1,b2];exact q1 c) (by rw [b1,b2];exact q1 d) (by rw [b1];exact e3 _ _) s3;have s1:=step f1 _ _ _ _ _ (by rw [a3];decide) (by rw [a1,a2];exact q0 c) (by rw [a1,a2];exact q0 d) (by rw [a1];exact e3 _ _) s2;rw [s1];simp only [Bool.and_true,Bool.and_assoc]
theorem fy (n lo hi:Int) (w:World):Calls Tryz.prog 53 #[.int .i64 n,.int .i64 lo,.int .i64 hi] w fun e w'=>e = .returned (.bool (decide (lo≤n∧n≤hi)))∧w = w':=by
 by_cases h1:lo≤n
 ·by_cases h2:n≤hi
  ·rw [ae ⟨h1,h2⟩];go_enter Tryz.func53,Tryz.ntmps53;go_wp2_with fail;go_ret;exact ⟨rfl,rfl⟩
  ·rw [ac (fun h=>h2 h.2)];go_enter Tryz.func53,Tryz.ntmps53;go_wp2_with fail;go_ret;exact ⟨rfl,rfl⟩
 ·rw [ac (fun h=>h1 h.1)];go_enter Tryz.func53,Tryz.ntmps53;go_wp2_with fail;go_ret;exact ⟨rfl,rfl⟩
variable {Q:Exit→Act→World→Prop} {a:Act} {o:Oper} {rest:List Oper} {ops:Array Oper}
theorem da (hg:o.guard = none) (x:Operand) (ho:o.op = .box 26 x) (hx:a.eval x = .agg (cg c))
  (h:wpList Tryz.prog ops Q rest (a.put o.dst (.pointer (some ⟨w.heap.size,0,none⟩))) (w.alloc (.cells (cg c) 26))):wpList Tryz.prog ops Q (o :: rest) a w :=
 Great.wpList_runTo hg _ rfl _ _ (by unfold execOp;simp only [ho,hx,Sem.run_bind,Instr.box,newVar,newRow,run_newObj_alloc,Sem.run_pure,Result.andThen_ok,Value.cells]) h
variable {size:Nat} {e:TypeId}
theorem dQ (hu:Tryz.prog.underlying t = some (.array n e)) (hs:∀w,(sizeOf e).run Tryz.prog w = .ok size w) (b off:Nat) {z:Int} (h0:0≤z) (h1:z≤n) :
  ∃off',(z.toNat = n∧off' = off∨off' = off+z.toNat * size)∧∀w,(Instr.sliceAt t (.pointer (some ⟨b,off,none⟩)) (some (.int .i64 z)) none none).run Tryz.prog w = .ok (.slice (some ⟨b,off',none⟩) (n - z.toNat) (n - z.toNat)) w:=by
 by_cases e:n = z.toNat
 ·refine ⟨off,.inl ⟨e.symm,rfl⟩,fun w=>?_⟩;simp [Instr.sliceAt,run_underlying hu,Instr.sureAddr,Instr.sliceBounds,Instr.sliceBound,asIntOf,h0,h1,hs,e];omega
 ·refine ⟨off+z.toNat * size,.inr rfl,fun w=>?_⟩;simp [Instr.sliceAt,run_underlying hu,Instr.sureAddr,Instr.sliceBounds,Instr.sliceBound,asIntOf,h0,h1,hs,e,Addr.add_mid]
theorem ry (hu:Tryz.prog.underlying t = some (.array n e)) (hs:∀w,(sizeOf e).run Tryz.prog w = .ok size w)
  (hg:o.guard = none) (x lo:Operand) (ho:o.op = .slice t x (some lo) none none) {b off:Nat} {z:Int} (hx:a.eval x = .pointer (some ⟨b,off,none⟩)) (vB:a.eval lo = .int .i64 z) (h0:0≤z) (h1:z≤n)
  (h:∀off',(z.toNat = n∧off' = off∨off' = off+z.toNat * size)→wpList Tryz.prog ops Q rest (a.put o.dst (.slice (some ⟨b,off',none⟩) (n - z.toNat) (n - z.toNat))) w):wpList Tryz.prog ops Q (o :: rest) a w:=by
 obtain ⟨off',h2,h3⟩:=dQ hu hs b off h0 h1;exact Great.wpList_runTo hg _ rfl _ _ (by unfold execOp;simp only [ho,hx,vB,Option.map_some,Option.map_none,Sem.run_bind,h3,Sem.run_pure,Result.andThen_ok]) (h off' h2)
variable {gs:List (Option (Nat × Bool))} {ks:List Nat} {S:World→Prop}
theorem wpG_tail (hu:Tryz.prog.underlying t = some (.array n e)) (hs:∀w,(sizeOf e).run Tryz.prog w = .ok size w)
  (x lo:Operand) (ho:o.op = .slice t x (some lo) none none) {b off:Nat} {z:Int} (hx:a.eval x = .pointer (some ⟨b,off,none⟩)) (vB:a.eval lo = .int .i64 z) (h0:0≤z) (h1:z≤n)
  (h:∀off',(z.toNat = n∧off' = off∨off' = off+z.toNat * size)→wpG Tryz.prog S Q rest ks gs (a.put o.dst (.slice (some ⟨b,off',none⟩) (n - z.toNat) (n - z.toNat))) w):wpG Tryz.prog S Q (o :: rest) (0 :: ks) (none :: gs) a w:=by
 obtain ⟨off',h2,h3⟩:=dQ hu hs b off h0 h1;refine bn (fun K U=>⟨_,fun w'=>?_,U _ _ (h off' h2)⟩);unfold execOp;simp only [ho,hx,vB,Option.map_some,Option.map_none,Sem.run_bind,h3,Sem.run_pure,Result.andThen_ok]
theorem eH (h0:CB w b c) (x:Operand) (ho:o.op = .call { callee:=.builtin .clear,args:=#[x],argTypes:=#[94] }) {off:Nat}
  (hx:a.eval x = .slice (some ⟨b,off,none⟩) n k) (hn:off+n≤94) (h:∀w',CB w' b (jb c off n)→Chg [b] w w'→wpG Tryz.prog S Q rest ks gs (a.put o.dst (.tuple #[])) w'):wpG Tryz.prog S Q (o :: rest) (3 :: ks) (none :: gs) a w:=by
 refine dy fun K U=>?_;unfold Oper.wp execOp;simp only [ho,resolve,invoke,builtin,Sem.run_bind,Sem.run_pure,Result.andThen_ok,List.map_toArray,List.map_cons,List.map_nil,hx,vu h0 hn];exact U _ _ (h _ (kh n off w c h0).1 (kh n off w c h0).2)
theorem qt {o o':Nat} (h:n = 0∨o' = o):jb c o' n = jb c o n:=by
 rcases h with rfl | rfl
 ·funext i;unfold jb;rw [ag (by omega),ag (by omega)]
 ·rfl
theorem size3:∀w,(sizeOf 3).run Tryz.prog w = .ok 1 w:=fun w=>by
 obtain ⟨i,hi⟩:=info3
 rw [run_sizeOf w hi,kg]
def sr (c:Cf) (n k:Nat):Cf:=fun i=>if 26≤i∧i < 26+8 * k∧n≤(i - 26) % 8 then 0 else c i
def qu (c:Cf):Cf:=jb (sr (jb (jb c (2+(c 1).toNat) (16 - (c 1).toNat)) (18+(c 0).toNat) (8 - (c 0).toNat)) (c 0).toNat 8) (26+(c 0).toNat * 8) ((8 - (c 0).toNat) * 8)
theorem zy (hn:1≤c 0∧c 0≤8) (hp:1≤c 1∧c 1≤16):(∀i,i < 94→c i = qu c i)↔((∀i:Nat,i < 16→c 1≤(i:Int)→c (2+i) = 0)∧(∀i:Nat,i < 8→c 0≤(i:Int)→c (18+i) = 0)∧∀i k:Nat,i < 8→k < 8→c 0≤(i:Int)∨c 0≤(k:Int)→c (26+i * 8+k) = 0):=by
 obtain ⟨n,oU⟩:∃n:Nat,c 0 = n:=⟨(c 0).toNat,by omega⟩;obtain ⟨p,oP⟩:∃p:Nat,c 1 = p:=⟨(c 1).toNat,by omega⟩;rw [oU,oP];rw [oU] at hn;rw [oP] at hp;have hB:∀i,qu c i = if 26+n * 8≤i∧i < 26+n * 8+(8 - n) * 8 then 0 else if 26≤i∧i < 26+8 * 8∧n≤(i - 26) % 8 then 0 else if 18+n≤i∧i < 18+n+(8 - n) then 0 else if 2+p≤i∧i < 2+p+(16 - p) then 0 else c i:=fun i=>by unfold qu jb sr;simp only [oU,oP,Int.toNat_natCast]
 constructor
 ·intro h;refine ⟨fun i hi hc=>?_,fun i hi hc=>?_,fun i k hi hk hc=>?_⟩
  ·rw [h _ (by omega),hB,ag (by omega),ag (by omega),ag (by omega),ah (by omega)]
  ·rw [h _ (by omega),hB,ag (by omega),ag (by omega),ah (by omega)]
  ·rw [h _ (by omega),hB];by_cases e:26+n * 8≤26+i * 8+k∧26+i * 8+k < 26+n * 8+(8 - n) * 8
   ·rw [ah e]
   ·rw [ag e,ah (by omega)]
 ·rintro ⟨h1,h2,h3⟩ i hi;rw [hB];by_cases e1:26+n * 8≤i∧i < 26+n * 8+(8 - n) * 8
  ·rw [ah e1];have:=h3 ((i - 26) / 8) ((i - 26) % 8) (by omega) (by omega) (.inl (by omega));rwa [show 26+(i - 26) / 8 * 8+(i - 26) % 8 = i by omega] at this
  ·rw [ag e1];by_cases e2:26≤i∧i < 26+8 * 8∧n≤(i - 26) % 8
   ·rw [ah e2];have:=h3 ((i - 26) / 8) ((i - 26) % 8) (by omega) (by omega) (.inr (by omega));rwa [show 26+(i - 26) / 8 * 8+(i - 26) % 8 = i by omega] at this
   ·rw [ag e2];by_cases e3:18+n≤i∧i < 18+n+(8 - n)
    ·rw [ah e3];have:=h2 (i - 18) (by omega) (by omega);rwa [show 18+(i - 18) = i by omega] at this
    ·rw [ag e3];by_cases e4:2+p≤i∧i < 2+p+(16 - p)
     ·rw [ah e4];have:=h1 (i - 2) (by omega) (by omega);rwa [show 2+(i - 2) = i by omega] at this
     ·rw [ag e4]
theorem fO (hn:n≤8):jb (sr c n k) (26+k * 8+n) (8 - n) = sr c n (k+1):=by
 funext i;unfold jb sr;by_cases e:26+k * 8+n≤i∧i < 26+k * 8+n+(8 - n)
 ·rw [ah e,ah (by omega)]
 ·rw [ag e];by_cases e2:26≤i∧i < 26+8 * k∧n≤(i - 26) % 8
  ·rw [ah e2,ah (by omega)]
  ·rw [ag e2,ag (by omega)]
theorem fP:sr c n 0 = c:=by funext i;unfold sr;rw [ag (by omega)]
theorem vk {o:Nat} (h:i < o):jb c o n i = c i:=by unfold jb;rw [ag (by omega)]
theorem rowsC_at (h:i < 26):sr c n k i = c i:=by unfold sr;rw [ag (by omega)]
theorem bare_any (w:World) (hn:1≤c 0∧c 0≤8) (hp:1≤c 1∧c 1≤16):Calls Tryz.prog 54 #[.agg (cg c)] w fun e w'=>e = .returned (.agg (cg (qu c)))∧Chg [] w w':=by
 obtain ⟨n1,n2⟩:=hn;obtain ⟨p1,p2⟩:=hp;have Fv:CB ((w.alloc (.cells (cg c) 26)).alloc (.cells (cg (fun _=>0)) 26)) w.heap.size c:=(ax w 26 (cg c)).alloc _;have rC:CB ((w.alloc (.cells (cg c) 26)).alloc (.cells (cg (fun _=>0)) 26)) (w.heap.size+1) (fun _=>0):=by have:=ax (w.alloc (.cells (cg c) 26)) 26 (cg (fun _=>0));rwa [af] at this
 have nG:Chg [] w ((w.alloc (.cells (cg c) 26)).alloc (.cells (cg (fun _=>0)) 26)):=((av [] w).alloc _).alloc _;have g0:=je c (i:=0) (by omega);have g1:=je c (i:=1) (by omega);have HR:=bk rC;have HC:=bk nG;have HB:=bk Fv;have HE:Hid (qu c = qu c):=bk rfl;clear Fv rC nG;obtain ⟨D,hD⟩:∃D,D = qu c:=⟨_,rfl⟩;rw [← hD];have HD:=bk hD;clear hD HE;have k1:(0:Int)≤c 1:=by omega
 have k2:(0:Int)≤c 0:=by omega
 go_enter Tryz.func54,Tryz.ntmps54;go_wp2_with (first|refine da rfl _ rfl rfl ?_|refine rm rfl rfl ?_|refine ry Tryz.underlying22 size3 rfl _ _ rfl rfl rfl (by omega) (by omega) ?_;intro o1 FE;refine ro HB.out rfl _ rfl rfl (by omega) ?_;intro W1 h1 kO;rw [qt (o:=2+(c 1).toNat) (by omega)] at h1;have q0:=CB.get h1 (i:=0) (by omega);rw [vk (by omega)] at q0;have H1:=bk h1;clear h1|refine ry Tryz.underlying23 size3 rfl _ _ rfl rfl rfl (by omega) (by omega) ?_;intro o2 FF;refine ro H1.out rfl _ rfl rfl (by omega) ?_;intro W2 h2 kI;rw [qt (o:=18+(c 0).toNat) (by omega)] at h2);have Ej:=kO.trans kI (fun x hx=>.inl hx);clear H1 kO kI q0 HB;have FJ:=HR.out.chg Ej (by simp);have Hh:Chg [] w W2:=HC.out.trans Ej (fun x hx=>.inr (by obtain rfl:=aa hx;exact Nat.le_refl _));clear HR HC Ej;obtain ⟨c2,kI⟩:∃c2,c2 = jb (jb c (2+(c 1).toNat) (16 - (c 1).toNat)) (18+(c 0).toNat) (8 - (c 0).toNat):=⟨_,rfl⟩;rw [← kI] at h2;have e0:c2 0 = c 0:=by rw [kI,vk (by omega),vk (by omega)]
 have lE:=bk kI;clear kI;have CZ:w.heap.size≤w.heap.size:=Nat.le_refl _;have hrs:w.heap.size≤w.heap.size+1:=by omega
 have kT:w.heap.size≠w.heap.size+1:=by omega
 generalize w.heap.size+1 = r at FJ hrs kT ⊢;obtain ⟨b,hb⟩:∃b,b = w.heap.size:=⟨_,rfl⟩;have CZ:w.heap.size≤b:=by omega
 rw [← hb] at h2 kT ⊢;clear hb;go_loopw [12] (fun i wr=>∃k:Nat,k≤8∧i = .int .i64 k∧CB wr b (sr c2 (c 0).toNat k)∧Chg [b] W2 wr) (fun i _=>8 - (intOf i).toNat)
 case atStart=>exact ⟨0,by omega,rfl,by rw [fP];exact h2,av _ _⟩
 case round =>
  obtain ⟨k,hk,rfl,h3,lN⟩:=hrel;have q0:=CB.get h3 (i:=0) (by omega);rw [rowsC_at (by omega),e0] at q0;have H3:=bk h3;have qR:=h3.lt;clear h2 h3;by_cases hkt:k < 8
  ·have kk1:(0:Int)≤(k:Int):=(by omega);have kk2:(k:Int) < 8:=(by omega);go_wp2_with fail;refine rgn7 [0,0,0,0,1,0,3] ?_;have H3D:=bk H3.out.drew;go_wp2_with (first|refine wpG_tail Tryz.underlying23 size3 _ _ rfl rfl rfl (by omega) (by omega) ?_;intro o3 ho3;refine eH H3D.out _ rfl rfl (by omega) ?_;intro W4 h4 kZ;rw [qt (o:=26+k * 8+(c 0).toNat) (by omega),fO (by omega)] at h4|refine cdA fun K U=>?_|refine bn fun K U=>?_;go_simp|refine bq ?_);go_roundw
   case rel=>exact ⟨k+1,by omega,by go_num,h4,(lN.drew).trans kZ (fun x hx=>.inl hx)⟩
   case measure=>simp [intOf];omega
  ·obtain rfl:k = 8:=(by omega);have BH:=FJ.chg lN (by simp;exact fun e=>kT e.symm);have Hi:Chg [] w wr:=Hh.trans lN (fun x hx=>.inr (by obtain rfl:=aa hx;exact CZ));have xB:=bk BH;have kL:=bk Hi;clear FJ Hh BH Hi lN;go_wp2_with (first|refine ry Tryz.underlying24 bU rfl _ _ rfl rfl rfl (by omega) (by omega) ?_;intro o3 ho3;refine yr H3.out rfl _ rfl rfl (by omega) ?_;intro W4 h4 kZ;rw [qt (o:=26+(c 0).toNat * 8) (by omega)] at h4;have GG:=bk (xB.out.chg kZ (by simp;exact fun e=>kT e.symm));have H4:=bk h4;clear h4|refine od H4.out rfl _ rfl rfl ?_|refine rx GG.out rfl _ _ rfl rfl rfl ?_;intro W5 h5 kE);refine bodyPost_ret (v:=.agg (cg D)) (by rw [HD.out,qu,← lE.out];exact results_cell_row (p:=2) (ty:=26) rfl _ _ r 26 _ (0,0) _ rfl h5 Tryz.underlying26 rfl nj) rfl ⟨rfl,?_⟩;exact ((kL.out.trans kZ (fun x hx=>.inr (by obtain rfl:=aa hx;exact CZ))).trans kE (fun x hx=>.inr (by obtain rfl:=aa hx;exact hrs)))
def xb (c:Cf) (i k:Nat):Prop:=(c (26+i * 8+k) = 0↔i = k)∧(0≤c (26+i * 8+k)∧c (26+i * 8+k)≤255)∧c (26+i * 8+k) = c (26+k * 8+i)
def NearP (c:Cf):Prop:=∀i k:Nat,(i:Int) < c 0→(k:Int) < c 0→xb c i k
theorem near_any (w:World) (hn:1≤c 0∧c 0≤8):Calls Tryz.prog 55 #[.agg (cg c)] w fun e w'=>∃r:Bool,e = .returned (.bool r)∧(r = true↔NearP c)∧Chg [] w w':=by
 obtain ⟨n1,n2⟩:=hn;obtain ⟨n,hn⟩:∃n:Nat,c 0 = n:=⟨(c 0).toNat,by omega⟩;have hb:=ax w 26 (cg c);have q0:=CB.get hb (i:=0) (by omega);rw [hn] at q0 n1 n2;have h00:=je c (i:=0) (by omega);rw [hn] at h00;have HB:=bk hb;have HN:=bk hn;have n2':n≤8:=by omega
 clear hb hn;go_enter Tryz.func55,Tryz.ntmps55;go_wp2_with (first|refine da rfl _ rfl rfl ?_);have qR:w.heap.size < (w.alloc (.cells (cg c) 26)).heap.size:=by simp
 have HC:=bk (show Chg [] w (w.alloc (.cells (cg c) 26)) from (av [] w).alloc _);generalize w.alloc (.cells (cg c) 26) = W at q0 HB qR HC ⊢;generalize w.heap.size = b at q0 HB qR ⊢;go_loopw [8] (fun i wr=>wr = W∧∃k:Nat,k≤n∧i = .int .i64 k∧Hid (∀i j:Nat,i < k→j < n→xb c i j)) (fun i _=>n - (intOf i).toNat)
 case atStart=>exact ⟨rfl,0,by omega,rfl,bk (fun i j hi=>by omega)⟩
 case round =>
  obtain ⟨rfl,k,hk,rfl,HI⟩:=hrel;by_cases hkt:k < n
  ·have kk1:(0:Int)≤(k:Int):=(by omega);have kk2:(k:Int) < 8:=(by omega);have kk3:(k:Int) < (n:Int):=(by omega);go_wp2_with fail;go_loopw [13] (fun i wr'=>wr' = wr∧∃j:Nat,j≤n∧i = .int .i64 j∧Hid (∀i:Nat,i < j→xb c k i)) (fun i _=>n - (intOf i).toNat)
   case atStart=>exact ⟨rfl,0,by omega,rfl,bk (fun i hi=>by omega)⟩
   case round =>
    obtain ⟨rfl,j,hj,rfl,HJ⟩:=hrel;by_cases hjt:j < n
    ·have jj1:(0:Int)≤(j:Int):=(by omega);have jj2:(j:Int) < 8:=(by omega);have jj3:(j:Int) < (n:Int):=(by omega);have d1:=CB.get HB.out (i:=26+k * 8+j) (by omega);have d2:=CB.get HB.out (i:=26+j * 8+k) (by omega);obtain ⟨x,hx⟩:∃x,c (26+k * 8+j) = x:=⟨_,rfl⟩;obtain ⟨y,hy⟩:∃y,c (26+j * 8+k) = y:=⟨_,rfl⟩;rw [hx] at d1;rw [hy] at d2;have hP:Hid (xb c k j↔((x = 0↔k = j)∧(0≤x∧x≤255)∧x = y)):=bk (by unfold xb;rw [hx,hy]);have Hjn:=bk hjt;have Hkn:=bk hkt;have lR:¬ ((x = 0↔k = j)∧(0≤x∧x≤255)∧x = y)→(false = true↔NearP c):=fun h=>by
      refine ⟨fun h=>(by cases h),fun hN=>absurd (hP.out.1 (hN k j ?_ ?_)) h⟩
      ·rw [HN.out];exact Int.ofNat_lt.2 Hkn.out
      ·rw [HN.out];exact Int.ofNat_lt.2 Hjn.out
     have oH:=bk lR;clear hx hy lR;obtain ⟨u,hu⟩:∃u,(x == 0) = u:=⟨_,rfl⟩;obtain ⟨v,hv⟩:∃v,((k:Int) == (j:Int)) = v:=⟨_,rfl⟩;have sJ:(k == j) = v:=(by rw [← hv,Bool.eq_iff_iff];simp;omega);have HU:Hid (x = 0↔u = true):=bk (by rw [← hu];simp);have HV:Hid (k = j↔v = true):=bk (by rw [← sJ];simp);by_cases huv:u = v
     ·subst huv;by_cases hw:0≤x∧x≤255
      ·have sM:decide (0≤x∧x≤255) = true:=ae hw;have HW:=bk hw;clear hw;by_cases yQ:x = y
       ·have hxy':(x != y) = false:=(by simpa using yQ);have HXY:=bk yQ;clear yQ;go_wp2_with (first|(go_at_call 53;refine (fy _ _ _ _).mono ?_;rintro e W7 ⟨rfl,rfl⟩));go_roundw
        case rel=>exact ⟨trivial,j+1,by omega,by go_num,bk (fun i hi=>by
         by_cases e:i = j
         ·subst e;exact hP.out.2 ⟨by rw [HU.out,HV.out],HW.out,HXY.out⟩
         ·exact HJ.out i (by omega))⟩
        case measure=>simp [intOf];omega
       ·have hxy':(x != y) = true:=(by simpa using yQ);have HF:=bk (oH.out (fun h=>yQ h.2.2));clear yQ;go_wp2_with (first|(go_at_call 53;refine (fy _ _ _ _).mono ?_;rintro e W7 ⟨rfl,rfl⟩));go_ret;exact ⟨false,rfl,HF.out,HC.out⟩
      ·have sM:decide (0≤x∧x≤255) = false:=ac hw;have HF:=bk (oH.out (fun h=>hw h.2.1));clear hw;go_wp2_with (first|(go_at_call 53;refine (fy _ _ _ _).mono ?_;rintro e W7 ⟨rfl,rfl⟩));go_ret;exact ⟨false,rfl,HF.out,HC.out⟩
     ·have huv':v = !u:=(by cases u <;> cases v <;> simp_all);subst huv';have HF:=bk (oH.out (fun h=>by have:=HU.out;have:=HV.out;have:=h.1;cases u <;> simp_all));clear huv;go_wp2_with (first|(go_at_call 53;refine (fy _ _ _ _).mono ?_;rintro e W7 ⟨rfl,rfl⟩));go_ret;exact ⟨false,rfl,HF.out,HC.out⟩
    ·obtain rfl:j = n:=(by omega);go_wp2_with fail;go_roundw
     case rel=>exact ⟨trivial,k+1,by omega,by go_num,bk (fun a b ha hb=>by
      by_cases e:a = k
      ·subst e;exact HJ.out b hb
      ·exact HI.out a b (by omega) hb)⟩
     case measure=>simp [intOf];omega
  ·obtain rfl:k = n:=(by omega);go_wp2_with fail;go_ret;exact ⟨true,rfl,by
    simp only [true_iff]
    intro a b ha hb
    rw [HN.out] at ha hb
    exact HI.out a b (by omega) (by omega),HC.out⟩
theorem mayP_iff (hn:1≤c 0∧c 0≤8) (hp:1≤c 1∧c 1≤16) (hs:0≤c 90∧c 90≤1024) (hb:∀i,i < 94→c i = qu c i) :
  jx c↔(∀i:Nat,(i:Int) < c 1→0≤c (2+i)∧c (2+i)≤c 0 - 1)∧(∀i:Nat,(i:Int) < c 0→(4≤c (18+i)∧c (18+i)≤128)∧c 93≤c (18+i))∧NearP c∧0≤c 91∧c 91≤c 92∧c 92≤c 93:=by
 obtain ⟨b1,b2,b3⟩:=(zy hn hp).1 hb;constructor
 ·intro h;refine ⟨fun i hi=>by have:=h.home i (by omega) hi;omega,fun i hi=>by have:=h.fr i (by omega) hi;omega,fun i k hi hk=>?_,h.mi,h.lo,h.hi⟩;by_cases e:i = k
  ·subst e;have:=h.ds0 i i (by omega) (by omega) (.inr (.inr rfl));unfold xb;simp [this]
  ·have:=h.ds1 i k (by omega) (by omega) hi hk e;unfold xb;refine ⟨⟨fun h=>by omega,fun h=>absurd h e⟩,by omega,by omega⟩
 ·rintro ⟨h1,h2,h3,h4,h5,h6⟩;refine ⟨hn.1,hn.2,hp.1,hp.2,hs.1,hs.2,fun i _ hi=>by have:=h1 i hi;omega,fun i hi hc=>b1 i hi hc,fun i _ hi=>by have:=h2 i hi;omega,fun i hi hc=>b2 i hi hc,fun i k hi hk hc=>?_,fun i k _ _ hi hk kT=>?_,h4,h5,h6⟩
  ·by_cases e:c 0≤(i:Int)∨c 0≤(k:Int)
   ·exact b3 i k hi hk e
   ·exact (h3 i k (by omega) (by omega)).1.2 (by rcases hc with h | h | h;exact absurd (.inl h) e;exact absurd (.inr h) e;exact h)
  ·obtain ⟨p1,p2,p3⟩:=h3 i k hi hk;have:c (26+i * 8+k)≠0:=fun h=>kT (p1.1 h);omega
theorem tv (h:jx c):(1≤c 0∧c 0≤8)∧(1≤c 1∧c 1≤16)∧(0≤c 90∧c 90≤1024)∧∀i,i < 94→c i = qu c i:=by refine ⟨⟨h.n1,h.n8⟩,⟨h.p1,h.p16⟩,⟨h.s0,h.s1⟩,(zy ⟨h.n1,h.n8⟩ ⟨h.p1,h.p16⟩).2 ⟨fun i hi hc=>h.home0 i hi hc,fun i hi hc=>h.fr0 i hi hc,fun i k hi hk hc=>h.ds0 i k hi hk (by omega)⟩⟩
theorem neq_cg (w:World) (c d:Cf):∃r:Bool,(∀w,(binOp .neq 26 (.agg (cg c)) (.agg (cg d))).run Tryz.prog w = .ok (.bool (!r)) w)∧(r = true↔∀i,i < 94→c i = d i):=by
 obtain ⟨r,h1,h2⟩:=aT w c d;refine ⟨r,fun w'=>?_,h2⟩;obtain ⟨r',h3,h4⟩:=aT w' c d;have:r' = r:=by rw [Bool.eq_iff_iff,h4,h2]
 rw [run_neq_struct,h3,this];rfl
theorem aW {A:Act} (x y:Operand) (t:TypeId) (ho:o.op = .binOp .neq 26 x y t) {d:Cf}
  (hx:A.eval x = .agg (cg c)) (hy:A.eval y = .agg (cg d)) {r:Bool} (hr:∀w,(binOp .neq 26 (.agg (cg c)) (.agg (cg d))).run Tryz.prog w = .ok (.bool (!r)) w) (hk:wpG Tryz.prog S Q rest ks gs (A.put o.dst (.bool (!r))) w) :
  wpG Tryz.prog S Q (o :: rest) (0 :: ks) (none :: gs) A w:=by
 refine bn (fun K U=>⟨_,fun w'=>?_,U _ _ hk⟩);unfold execOp;simp only [ho,hx,hy,Sem.run_bind,run_eqGuard_agg w' .neq 26 x y _ _ (show Tryz.prog.eqGuardType Tryz.prog.depth 26 = false by kernel_rfl),Result.andThen_ok,hr,Sem.run_pure]
theorem load26 (h:CB w b c):(loadVar 26 ⟨b,0,none⟩).run Tryz.prog w = .ok (.agg (cg c)) w:=run_loadVar_row w b 26 26 (cg c) (0,0) _ h Tryz.underlying26 rfl nj
theorem kf (c:Cf) (w:World):Calls Tryz.prog 26 #[.agg (cg c)] w fun e w'=>∃r:Bool,e = .returned (.bool r)∧(r = true↔jx c)∧Chg [] w w':=by
 have hb:=ax w 26 (cg c);have q0:=CB.get hb (i:=0) (by omega);have q1:=CB.get hb (i:=1) (by omega);have q90:=CB.get hb (i:=90) (by omega);have HB:=bk hb;have qR:w.heap.size < (w.alloc (.cells (cg c) 26)).heap.size:=by simp
 have g0:=je c (i:=0) (by omega);have g1:=je c (i:=1) (by omega);have g90:=je c (i:=90) (by omega);have HC:=bk (show Chg [] w (w.alloc (.cells (cg c) 26)) from (av [] w).alloc _);clear hb;by_cases hn:1≤c 0∧c 0≤8;rotate_left
 ·have HF:=bk (fun h:jx c=>hn (tv h).1);have d0:decide (1≤c 0∧c 0≤8) = false:=ac hn;clear hn;go_enter Tryz.func26,Tryz.ntmps26;go_wp2_with (first|refine da rfl _ rfl rfl ?_);have sN:=HB.out.drew;refine rgt [0,1,3,0,0,0,1,3,0,0,0,0,1,3,0,0,0,5,5,6,0,0] [none,none,none,none,none,some (11,false),some (11,false),some (11,false),some (11,false),none,none,some (17,false),some (17,false),some (17,false),some (17,false),none,none,some (23,false),some (23,false),some (23,false),some (23,false),none] (fun W=>CB W w.heap.size c) ?_;go_wp2_with (first|(refine dy fun K U=>?_;go_simp;refine (fy _ _ _ _).mono ?_;rintro e W7 ⟨rfl,rfl⟩;refine U _ _ ?_;clear U K)|refine cdA fun K U=>?_|refine cx ?_;go_simp|refine cy ?_|refine bn fun K U=>?_;go_simp|refine bq ?_);go_ret;exact ⟨false,rfl,⟨fun h=>(by cases h),fun h=>(HF.out h).elim⟩,HC.out.drew⟩
 have d0:decide (1≤c 0∧c 0≤8) = true:=ae hn;have Hn:=bk hn;clear hn;by_cases hp:1≤c 1∧c 1≤16;rotate_left
 ·have HF:=bk (fun h:jx c=>hp (tv h).2.1);have d1:decide (1≤c 1∧c 1≤16) = false:=ac hp;clear hp;go_enter Tryz.func26,Tryz.ntmps26;go_wp2_with (first|refine da rfl _ rfl rfl ?_);have sN:=HB.out.drew;refine rgt [0,1,3,0,0,0,1,3,0,0,0,0,1,3,0,0,0,5,5,6,0,0] [none,none,none,none,none,some (11,false),some (11,false),some (11,false),some (11,false),none,none,some (17,false),some (17,false),some (17,false),some (17,false),none,none,some (23,false),some (23,false),some (23,false),some (23,false),none] (fun W=>CB W w.heap.size c) ?_;go_wp2_with (first|(refine dy fun K U=>?_;go_simp;refine (fy _ _ _ _).mono ?_;rintro e W7 ⟨rfl,rfl⟩;refine U _ _ ?_;clear U K)|refine cdA fun K U=>?_|refine cx ?_;go_simp|refine cy ?_|refine bn fun K U=>?_;go_simp|refine bq ?_);go_ret;exact ⟨false,rfl,⟨fun h=>(by cases h),fun h=>(HF.out h).elim⟩,HC.out.drew⟩
 have d1:decide (1≤c 1∧c 1≤16) = true:=ae hp;have Hp:=bk hp;clear hp;by_cases hs:0≤c 90∧c 90≤1024;rotate_left
 ·have HF:=bk (fun h:jx c=>hs (tv h).2.2.1);have d2:decide (0≤c 90∧c 90≤1024) = false:=ac hs;clear hs;go_enter Tryz.func26,Tryz.ntmps26;go_wp2_with (first|refine da rfl _ rfl rfl ?_);have sN:=HB.out.drew;refine rgt [0,1,3,0,0,0,1,3,0,0,0,0,1,3,0,0,0,5,5,6,0,0] [none,none,none,none,none,some (11,false),some (11,false),some (11,false),some (11,false),none,none,some (17,false),some (17,false),some (17,false),some (17,false),none,none,some (23,false),some (23,false),some (23,false),some (23,false),none] (fun W=>CB W w.heap.size c) ?_;go_wp2_with (first|(refine dy fun K U=>?_;go_simp;refine (fy _ _ _ _).mono ?_;rintro e W7 ⟨rfl,rfl⟩;refine U _ _ ?_;clear U K)|refine cdA fun K U=>?_|refine cx ?_;go_simp|refine cy ?_|refine bn fun K U=>?_;go_simp|refine bq ?_);go_ret;exact ⟨false,rfl,⟨fun h=>(by cases h),fun h=>(HF.out h).elim⟩,HC.out.drew⟩
 have d2:decide (0≤c 90∧c 90≤1024) = true:=ae hs;have Hs:=bk hs;clear hs;obtain ⟨r,hr,FK⟩:=neq_cg w c (qu c);have HR:=bk hr;have nX:=bk (fun W:World=>bare_any (c:=c) W Hn.out Hp.out);obtain ⟨D,hD⟩:∃D,D = qu c:=⟨_,rfl⟩;rw [← hD] at HR nX;have CV:=bk FK;clear hr FK hD;cases r with
 | false =>have HF:=bk (fun h:jx c=>Bool.false_ne_true (CV.out.2 (tv h).2.2.2));go_enter Tryz.func26,Tryz.ntmps26;go_wp2_with (first|refine da rfl _ rfl rfl ?_);have sN:=HB.out.drew;refine rgt [0,1,3,0,0,0,1,3,0,0,0,0,1,3,0,0,0,5,5,6,0,0] [none,none,none,none,none,some (11,false),some (11,false),some (11,false),some (11,false),none,none,some (17,false),some (17,false),some (17,false),some (17,false),none,none,some (23,false),some (23,false),some (23,false),some (23,false),none] (fun W=>CB W w.heap.size c) ?_;go_wp2_with (first|(refine dy fun K U=>?_;go_simp;refine (fy _ _ _ _).mono ?_;rintro e W7 ⟨rfl,rfl⟩;refine U _ _ ?_;clear U K)|refine ca 26 _ rfl rfl (fun w' kK=>load26 kK) sN ?_|refine cdA fun K U=>?_|refine cx ?_;go_simp|refine cy ?_|refine bn fun K U=>?_;go_simp|refine bq ?_);(refine cd sN fun K U=>?_);go_simp;refine (nX.out _).mono ?_;rintro e W2 ⟨rfl,kI⟩;have lV:CB W2 w.heap.size c:=sN.chg kI ab;refine U _ _ lV ?_;clear U K;go_wp2_with (first|refine aW _ _ _ rfl rfl rfl HR.out ?_|refine cdA fun K U=>?_|refine cx ?_;go_simp|refine cy ?_|refine bn fun K U=>?_;go_simp|refine bq ?_);go_ret;exact ⟨false,rfl,⟨fun h=>(by cases h),fun h=>(HF.out h).elim⟩,HC.out.drew.stay kI⟩
 | true =>
  have hI:=mayP_iff Hn.out Hp.out Hs.out (CV.out.1 rfl);obtain ⟨n,oU⟩:∃n:Nat,c 0 = n:=⟨(c 0).toNat,by have:=Hn.out.1;omega⟩;obtain ⟨p,oP⟩:∃p:Nat,c 1 = p:=⟨(c 1).toNat,by have:=Hp.out.1;omega⟩;have yM:n≤8:=by have:=Hn.out.2;omega
  have hp16:p≤16:=by have:=Hp.out.2;omega
  have pp1:(0:Int)≤(p:Int):=by omega
  have pp2:(p:Int)≤16:=by omega
  have nn1:(0:Int)≤(n:Int):=by omega
  have nn3:(1:Int)≤(n:Int):=by have:=Hn.out.1;omega
  have pp3:(1:Int)≤(p:Int):=by have:=Hp.out.1;omega
  have nn2:(n:Int)≤8:=by omega
  have DG:=bk (fun W:World=>near_any (c:=c) W Hn.out);have HI:=bk hI;have Fk:=bk oU;have HP':=bk oP;rw [oU] at d0 g0 q0;rw [oP] at d1 g1 q1;clear oU oP hI;go_enter Tryz.func26,Tryz.ntmps26;go_wp2_with (first|refine da rfl _ rfl rfl ?_);have sN:=HB.out.drew;refine rgt [0,1,3,0,0,0,1,3,0,0,0,0,1,3,0,0,0,5,5,6,0,0] [none,none,none,none,none,some (11,false),some (11,false),some (11,false),some (11,false),none,none,some (17,false),some (17,false),some (17,false),some (17,false),none,none,some (23,false),some (23,false),some (23,false),some (23,false),none] (fun W=>CB W w.heap.size c) ?_;go_wp2_with (first|(refine dy fun K U=>?_;go_simp;refine (fy _ _ _ _).mono ?_;rintro e W7 ⟨rfl,rfl⟩;refine U _ _ ?_;clear U K)|refine ca 26 _ rfl rfl (fun w' kK=>load26 kK) sN ?_|refine cdA fun K U=>?_|refine cx ?_;go_simp|refine cy ?_|refine bn fun K U=>?_;go_simp|refine bq ?_);(refine cd sN fun K U=>?_);go_simp;refine (nX.out _).mono ?_;rintro e W2 ⟨rfl,kI⟩;have lV:CB W2 w.heap.size c:=sN.chg kI ab;refine U _ _ lV ?_;clear U K;have lE:=bk (HC.out.drew.stay kI);have r0:=CB.get lV (i:=0) (by omega);have r1:=CB.get lV (i:=1) (by omega);rw [Fk.out] at r0;rw [HP'.out] at r1;have oI:=bk lV;have hbl2:=lV.lt;clear lV kI sN HB HC q0 q1 q90 qR;go_wp2_with (first|refine aW _ _ _ rfl rfl rfl HR.out ?_|refine cdA fun K U=>?_|refine cx ?_;go_simp|refine cy ?_|refine bn fun K U=>?_;go_simp|refine bq ?_);generalize w.heap.size = b at r0 r1 oI hbl2 ⊢;go_loopw [34] (fun i wr=>wr = W2∧∃k:Nat,k≤p∧i = .int .i64 k∧Hid (∀i:Nat,i < k→0≤c (2+i)∧c (2+i)≤c 0 - 1)) (fun i _=>p - (intOf i).toNat)
  case atStart=>exact ⟨rfl,0,by omega,rfl,bk (fun i hi=>by omega)⟩
  case round =>
   obtain ⟨rfl,k,hk,rfl,HH⟩:=hrel;by_cases hkt:k < p
   ·have kk1:(0:Int)≤(k:Int):=(by omega);have kk2:(k:Int) < (p:Int):=(by omega);have t1:=CB.get oI.out (i:=2+k) (by omega);by_cases hw:0≤c (2+k)∧c (2+k)≤c 0 - 1
    ·have hW:=bk hw;rw [Fk.out] at hw;have dw:decide (0≤c (2+k)∧c (2+k)≤(n:Int) - 1) = true:=ae hw;clear hw;go_wp2_with (first|(go_at_call 53;refine (fy _ _ _ _).mono ?_;rintro e W7 ⟨rfl,rfl⟩));go_roundw
     case rel=>exact ⟨trivial,k+1,by omega,by go_num,bk (fun i hi=>by
      by_cases e:i = k
      ·subst e;exact hW.out
      ·exact HH.out i (by omega))⟩
     case measure=>simp [intOf];omega
    ·have HF:=bk (fun h:jx c=>hw ((HI.out.1 h).1 k (by rw [HP'.out];exact kk2)));rw [Fk.out] at hw;have dw:decide (0≤c (2+k)∧c (2+k)≤(n:Int) - 1) = false:=ac hw;clear hw;go_wp2_with (first|(go_at_call 53;refine (fy _ _ _ _).mono ?_;rintro e W7 ⟨rfl,rfl⟩));go_ret;exact ⟨false,rfl,⟨fun h=>(by cases h),fun h=>(HF.out h).elim⟩,lE.out⟩
   ·obtain rfl:k = p:=(by omega);have HH2:=bk (show ∀i:Nat,(i:Int) < c 1→0≤c (2+i)∧c (2+i)≤c 0 - 1 from fun i hi=>HH.out i (by rw [HP'.out] at hi;omega));clear HH;go_wp2_with fail;go_loopw [50] (fun i wr'=>wr' = wr∧∃k:Nat,k≤n∧i = .int .i64 k∧Hid (∀i:Nat,i < k→(4≤c (18+i)∧c (18+i)≤128)∧c 93≤c (18+i))) (fun i _=>n - (intOf i).toNat)
    case atStart=>exact ⟨rfl,0,by omega,rfl,bk (fun i hi=>by omega)⟩
    case round =>
     obtain ⟨rfl,j,hj,rfl,HJ⟩:=hrel;by_cases hjt:j < n
     ·have jj1:(0:Int)≤(j:Int):=(by omega);have jj2:(j:Int) < (n:Int):=(by omega);have t1:=CB.get oI.out (i:=18+j) (by omega);have t93:=CB.get oI.out (i:=93) (by omega);by_cases hw:4≤c (18+j)∧c (18+j)≤128
      ·have dw:decide (4≤c (18+j)∧c (18+j)≤128) = true:=ae hw;have hW:=bk hw;clear hw;by_cases hh:c 93≤c (18+j)
       ·have dh:decide (c (18+j) < c 93) = false:=ac (by omega);have hH:=bk hh;clear hh;go_wp2_with (first|(go_at_call 53;refine (fy _ _ _ _).mono ?_;rintro e W7 ⟨rfl,rfl⟩));go_roundw
        case rel=>exact ⟨trivial,j+1,by omega,by go_num,bk (fun i hi=>by
         by_cases e:i = j
         ·subst e;exact ⟨hW.out,hH.out⟩
         ·exact HJ.out i (by omega))⟩
        case measure=>simp [intOf];omega
       ·have HF:=bk (fun h:jx c=>hh ((HI.out.1 h).2.1 j (by rw [Fk.out];exact jj2)).2);have dh:decide (c (18+j) < c 93) = true:=ae (by omega);clear hh;go_wp2_with (first|(go_at_call 53;refine (fy _ _ _ _).mono ?_;rintro e W7 ⟨rfl,rfl⟩));go_ret;exact ⟨false,rfl,⟨fun h=>(by cases h),fun h=>(HF.out h).elim⟩,lE.out⟩
      ·have HF:=bk (fun h:jx c=>hw ((HI.out.1 h).2.1 j (by rw [Fk.out];exact jj2)).1);have dw:decide (4≤c (18+j)∧c (18+j)≤128) = false:=ac hw;clear hw;go_wp2_with (first|(go_at_call 53;refine (fy _ _ _ _).mono ?_;rintro e W7 ⟨rfl,rfl⟩));go_ret;exact ⟨false,rfl,⟨fun h=>(by cases h),fun h=>(HF.out h).elim⟩,lE.out⟩
     ·obtain rfl:j = n:=(by omega);have HJ2:=bk (show ∀i:Nat,(i:Int) < c 0→(4≤c (18+i)∧c (18+i)≤128)∧c 93≤c (18+i) from fun i hi=>HJ.out i (by rw [Fk.out] at hi;omega));clear HJ;go_wp2_with (first|refine od oI.out rfl _ rfl rfl ?_);refine (DG.out _).mono ?_;rintro e W5 ⟨r5,rfl,hr5,kE⟩;have qQ:CB W5 b c:=oI.out.chg kE ab;have u91:=CB.get qQ (i:=91) (by omega);have u92:=CB.get qQ (i:=92) (by omega);have u93:=CB.get qQ (i:=93) (by omega);have kU:=bk (lE.out.stay kE);have hbl5:=qQ.lt;have CT:=bk hr5;clear qQ kE hr5;cases r5 with
      | false =>
       have HF:=bk (fun h:jx c=>Bool.false_ne_true (CT.out.2 (HI.out.1 h).2.2.1));go_wp2_with fail;go_ret;exact ⟨false,rfl,⟨fun h=>(by cases h),fun h=>(HF.out h).elim⟩,kU.out⟩
      | true =>
       by_cases m1:0≤c 91
       ·by_cases m2:c 91≤c 92
        ·by_cases m3:c 92≤c 93
         ·have HT:=bk (HI.out.2 ⟨HH2.out,HJ2.out,CT.out.1 rfl,m1,m2,m3⟩);go_wp2_with fail;go_ret;exact ⟨true,rfl,⟨fun _=>HT.out,fun _=>rfl⟩,kU.out⟩
         ·have HF:=bk (fun h:jx c=>m3 h.hi);have d3:decide (c 92≤c 93) = false:=ac m3;go_wp2_with fail;go_ret;exact ⟨false,rfl,⟨fun h=>(by cases h),fun h=>(HF.out h).elim⟩,kU.out⟩
        ·have HF:=bk (fun h:jx c=>m2 h.lo);have d3:decide (c 91≤c 92) = false:=ac m2;go_wp2_with fail;go_ret;exact ⟨false,rfl,⟨fun h=>(by cases h),fun h=>(HF.out h).elim⟩,kU.out⟩
       ·have HF:=bk (fun h:jx c=>m1 h.mi);have d3:decide (0≤c 91) = false:=ac m1;go_wp2_with fail;go_ret;exact ⟨false,rfl,⟨fun h=>(by cases h),fun h=>(HF.out h).elim⟩,kU.out⟩
theorem iD {r:Bool} (h:r = true↔jx c):r = mayB c:=by rw [Bool.eq_iff_iff,h,mayB_iff]
theorem wi (c:Cf) (w:World):Calls Tryz.prog 26 #[.agg (cg c)] w fun e w'=>e = .returned (.bool (mayB c))∧Chg [] w w':=by refine (kf c w).mono ?_;rintro e w' ⟨r,rfl,hr,hc⟩;rw [iD hr];exact ⟨rfl,hc⟩
def ucl (x:Nat):List Value:=[.int .u8 x]
theorem gk (x:Nat):(ucl x).length = 1:=rfl
abbrev SB (w:World) (v:Value) (B:List Nat):Prop:=SE ucl 1 5 w v B
abbrev RB (w:World) (v:Value) (B:List Nat):Prop:=RE ucl 1 w v B
theorem wv (l:List Nat):∀u∈fc ucl l,u.oneCell' = true:=fun u hu=>by
 unfold fc at hu
 obtain ⟨x,_,hx⟩:=List.mem_flatMap.1 hu
 simp [ucl] at hx
 subst hx
 rfl
theorem info5b:(Tryz.prog.info? 5).map (fun i=>(i.zero,i.size,i.bytes)) = some (some (.int .u8 0),1,1):=by kernel_rfl
theorem md (hg:o.guard = none) (s x:Operand)
  (ho:o.op = .call { callee:=.builtin .append,args:=#[s,x],argTypes:=#[38,38] }) (v y:Value) (hs:a.eval s = v) (hx:a.eval x = y) {l m:List Nat} (hv:SB w v l) (hy:RB w y m) (kQ:l.length+m.length≤1000000)
  (h:∀A n c w',Hid (n = (l ++ m).length)→SB w' (.slice A n c) (l ++ m)→Chg (own v) w w'→Grow w v (.slice A n c)→wpList Tryz.prog ops Q rest (a.put o.dst (.slice A n c)) w') :
  wpList Tryz.prog ops Q (o :: rest) a w:=by
 obtain ⟨i5,hi,hz,tC,tP⟩:=info_parts info5b;refine ll hg s x 38 ho 5 Tryz.underlying38 hi hz tC tP rfl hs hv hx hy (wv m) (by unfold maxLen;omega) (by omega) fun v' w' h2 h3 h4=>?_;have pY:SB w' v' (l ++ m):=by
  unfold SB SE;rw [List.length_append,lc];exact h2
 obtain ⟨A,c,rfl⟩:=pY.form;exact h A _ c w' rfl pY h3 (pq h4)
theorem RB_one (w:World) (k:Nat):RB (w.alloc (.cells #[.int .u8 (k:Nat)] 5)) (.slice (some ⟨w.heap.size,0,none⟩) 1 1) [k]:=ur w 5 1 1 [.int .u8 k] rfl
def ft (l:List Nat):ByteArray:=⟨(l.map UInt8.ofNat).toArray⟩
variable {l:List Nat} {v:Value}
theorem nr (h:RB w v l) (h8:∀x∈l,x < 256):(convert 38 9 v).run Tryz.prog w = .ok (.string (ft l)) w:=by
 obtain ⟨A,c,rfl⟩:=RE.form h;rcases Nat.eq_zero_or_pos l.length with h0 | h0
 ·obtain rfl:l = []:=List.eq_nil_of_length_eq_zero h0;rw [run_convert_bytes_string w 38 9 5 A _ c Tryz.underlying38 Tryz.underlying5 Tryz.underlying9];cases A with
  | none=>simp [Conv.bytesToString,ft];rfl
  | some a =>
   have:=run_bytesToString (P:=Tryz.prog) w a 0 c [] (by rfl);have e:ft [] = ByteArray.empty:=rfl;rw [e];simpa using this
 ·obtain ⟨g,off,rfl⟩:=RE.addr h h0;have hl:(l.map UInt8.ofNat).length = l.length:=by simp
  rw [← hl];refine run_convert_bytes_back w 38 9 5 ⟨g,off,none⟩ c (l.map UInt8.ofNat) Tryz.underlying38 Tryz.underlying5 Tryz.underlying9 fun j hj=>?_;rw [hl] at hj;have:=RE.cell gk h hj (j:=0) (by omega) rfl;rw [Addr.add_lit];rw [Nat.mul_one,Nat.add_zero] at this;rw [this,List.getElem_map];congr 2;have h2:=h8 _ (ao hj);simp [Nat.mod_eq_of_lt h2]
theorem strB_inj {m:List Nat} (hl:∀x∈l,x < 256) (hm:∀x∈m,x < 256) (h:ft l = ft m):l = m:=by
 unfold ft at h;injection h with h;have h1:l.map UInt8.ofNat = m.map UInt8.ofNat:=by simpa using h
 have kQ:l.length = m.length:=by simpa using congrArg List.length h1
 refine List.ext_getElem kQ fun i h2 h3=>?_;have h4:(l.map UInt8.ofNat)[i]? = (m.map UInt8.ofNat)[i]?:=by rw [h1]
 rw [List.getElem?_map,List.getElem?_map,List.getElem?_eq_getElem h2,List.getElem?_eq_getElem h3] at h4;have h5:UInt8.ofNat l[i] = UInt8.ofNat m[i]:=by simpa using h4
 have h6:=congrArg UInt8.toNat h5;have a1:=hl _ (ao h2);have a2:=hm _ (ao h3);simpa [Nat.mod_eq_of_lt a1,Nat.mod_eq_of_lt a2] using h6
theorem loopE (bs:ByteArray):∀(n i:Nat) (r:List UInt8),bs.size - i = n→ByteArray.toList.loop bs i r = r.reverse ++ bs.data.toList.drop i:=by
 have mW:bs.data.toList.length = bs.size:=by rw [Array.length_toList];rfl
 intro n
 induction n with
 | zero =>
  intro i r h;rw [ByteArray.toList.loop];have:¬ i < bs.size:=by omega
  rw [ag this,List.drop_eq_nil_of_le (by omega)];simp
 | succ n ih =>
  intro i r h;rw [ByteArray.toList.loop];have hi:i < bs.size:=by omega
  rw [ah hi,ih (i+1) _ (by omega)];have h2:i < bs.data.toList.length:=by omega
  rw [List.drop_eq_getElem_cons h2];have:bs.get! i = bs.data.toList[i]:=by show bs.data[i]! = _;rw [getElem!_pos bs.data i hi];simp
  simp [this]
theorem bW (bs:ByteArray):bs.toList = bs.data.toList:=by unfold ByteArray.toList;rw [loopE bs _ 0 [] rfl];simp
theorem vy (l:List Nat):(ft l).toList = l.map UInt8.ofNat:=by rw [bW];simp [ft]
theorem vf {m:List Nat} (hl:∀x∈l,x < 256) (hm:∀x∈m,x < 256):((ft l).toList == (ft m).toList) = decide (l = m):=by
 rw [bW,bW];by_cases h:l = m
 ·subst h;simp
 ·rw [ac h];refine aj fun e=>h (strB_inj hl hm ?_);have:(ft l).data = (ft m).data:=by
   have h1:=congrArg List.toArray e;simpa using h1
  exact congrArg ByteArray.mk this
def wcl (x:Nat):List Value:=[.int .u64 x]
theorem ww (x:Nat):(wcl x).length = 1:=rfl
abbrev RW (w:World) (v:Value) (B:List Nat):Prop:=RE wcl 1 w v B
def u64 (z:Int):Nat:=(z % 18446744073709551616).toNat
def i64 (n:Nat):Int:=if n < 9223372036854775808 then (n:Int) else (n:Int) - 18446744073709551616
structure Cl where
 k:Nat
 p:Int
 n:Int
 g:Int
 c:Int
 a:Int
 s:Int
 r:Nat
 ok:Nat
 om:Nat
 h:Nat
 l:List Nat
def clc (x:Cl) (v:Value):Array Value:=#[.int .u8 x.k,.int .i64 x.p,.int .i64 x.n,.int .i64 x.g,.int .i64 x.c,.int .i64 x.a,.int .i64 x.s,.int .u8 x.r,.int .u8 x.ok,.int .u8 x.om,.int .u64 x.h,v]
structure Cl.Ok (x:Cl):Prop where
 k:x.k < 256
 p:-9223372036854775808≤x.p∧x.p≤9223372036854775807
 n:-9223372036854775808≤x.n∧x.n≤9223372036854775807
 g:-9223372036854775808≤x.g∧x.g≤9223372036854775807
 c:-9223372036854775808≤x.c∧x.c≤9223372036854775807
 a:-9223372036854775808≤x.a∧x.a≤9223372036854775807
 s:-9223372036854775808≤x.s∧x.s≤9223372036854775807
 r:x.r < 256
 ok:x.ok < 256
 om:x.om < 256
 h:x.h < 18446744073709551616
 l:∀b∈x.l,b < 256
abbrev KB (w:World) (b:Nat) (x:Cl) (v:Value):Prop:=Blk w b 47 (clc x v)
variable {x:Cl}
theorem fq:(Tryz.prog.info? 47).map (·.size) = some (clc x v).size:=by
 have:(Tryz.prog.info? 47).map (·.size) = some 12:=by kernel_rfl
 exact this
theorem gV (x:Cl) (hv:v.oneCell' = true):((clc x v).all fun u=>u.oneCell') = true:=by simp [clc,show ∀k z,(Value.int k z).oneCell' = true from fun _ _=>rfl,hv]
section
variable {ops:Array Oper} {rest:List Oper} {o:Oper} {a:Act} {w:World} {Q:Exit→Act→World→Prop} {b:Nat} {x y:Cl} {v u:Value}
theorem KB.load (h:KB w b x v):(loadVar 47 ⟨b,0,none⟩).run Tryz.prog w = .ok (.agg (clc x v)) w :=
 run_loadVar_row w b 47 47 _ (0,0) _ h Tryz.underlying47 rfl fq
theorem KB.stay {w':World} (h:KB w b x v) (hc:Chg [] w w'):KB w' b x v:=aw h hc ab
theorem dk (hg:o.guard = none) (z:Operand) (ho:o.op = .load 47 z) (hx:a.eval z = .pointer (some ⟨b,0,none⟩)) (h0:KB w b x v) (h:wpList Tryz.prog ops Q rest (a.put o.dst (.agg (clc x v))) w):wpList Tryz.prog ops Q (o :: rest) a w :=
 wpList_load_row hg 47 z ho b hx 47 _ (0,0) _ h0 Tryz.underlying47 rfl fq h
theorem jq (hg:o.guard = none) (z t:Operand) (ho:o.op = .store 47 z t) (hx:a.eval z = .pointer (some ⟨b,0,none⟩)) (hy:a.eval t = .agg (clc y u)) (hu:u.oneCell' = true) (h0:KB w b x v)
  (h:∀w',KB w' b y u→Chg [b] w w'→wpList Tryz.prog ops Q rest (a.put o.dst undef) w'):wpList Tryz.prog ops Q (o :: rest) a w :=
 wpList_store_row hg 47 z t ho b _ hx hy 47 _ h0 fq rfl (gV y hu) (h _ (setRow_heap w b _ _ _ _ h0) ((av [b] w).setRow (.inl (by simp)) _))
theorem cc (hg:o.guard = none) (z:Operand) (ho:o.op = .box 47 z) (hx:a.eval z = .agg (clc x v))
  (h:wpList Tryz.prog ops Q rest (a.put o.dst (.pointer (some ⟨w.heap.size,0,none⟩))) (w.alloc (.cells (clc x v) 47))):wpList Tryz.prog ops Q (o :: rest) a w :=
 Great.wpList_runTo hg _ rfl _ _ (by unfold execOp;simp only [ho,hx,Sem.run_bind,Instr.box,newVar,newRow,run_newObj_alloc,Sem.run_pure,Result.andThen_ok,Value.cells]) h
def zCl:Cl:=⟨0,0,0,0,0,0,0,0,0,0,0,[]⟩
def zV:Value:=.slice none 0 0
theorem zero34:∀w,(zeroValue 47).run Tryz.prog w = .ok (.agg (clc zCl zV)) w:=by
 have h:(Tryz.prog.info? 47).map (fun i=>(i.zero,i.size)) = some (some (.agg (clc zCl zV)),12):=by kernel_rfl
 exact (zero_of_info h).1
theorem vr (w:World):(Instr.alloc 47 true (.tuple #[])).run Tryz.prog w = .ok (.pointer (some ⟨w.heap.size,0,none⟩)) (w.alloc (.cells (clc zCl zV) 47)):=by simp [Instr.alloc,Sem.run_bind,zero34,newVar,newRow,run_newObj_alloc,Value.cells,clc,zCl,zV]
theorem nc (hg:o.guard = none) (ho:o.op = .alloc 47)
  (h:wpList Tryz.prog ops Q rest (a.put o.dst (.pointer (some ⟨w.heap.size,0,none⟩))) (w.alloc (.cells (clc zCl zV) 47))):wpList Tryz.prog ops Q (o :: rest) a w :=
 Great.wpList_runTo hg _ rfl _ _ (by unfold execOp;simp only [ho,Sem.run_bind,vr,Sem.run_pure,Result.andThen_ok]) h
end
theorem KB.cells {w:World} {b:Nat} {x:Cl} {v:Value} (h:KB w b x v) :
  w.cell? ⟨b,0,none⟩ = some (.int .u8 x.k)∧w.cell? ⟨b,1,none⟩ = some (.int .i64 x.p)∧w.cell? ⟨b,2,none⟩ = some (.int .i64 x.n)∧w.cell? ⟨b,3,none⟩ = some (.int .i64 x.g)∧w.cell? ⟨b,4,none⟩ = some (.int .i64 x.c)∧w.cell? ⟨b,5,none⟩ = some (.int .i64 x.a)∧w.cell? ⟨b,6,none⟩ = some (.int .i64 x.s) ∧
   w.cell? ⟨b,7,none⟩ = some (.int .u8 x.r)∧w.cell? ⟨b,8,none⟩ = some (.int .u8 x.ok)∧w.cell? ⟨b,9,none⟩ = some (.int .u8 x.om)∧w.cell? ⟨b,10,none⟩ = some (.int .u64 x.h)∧w.cell? ⟨b,11,none⟩ = some v∧b < w.heap.size∧∀i,w.frozen? ⟨b,i,none⟩ = false :=
 ⟨by simpa [clc] using Blk.cell h 0,by simpa [clc] using Blk.cell h 1,by simpa [clc] using Blk.cell h 2,by simpa [clc] using Blk.cell h 3,by simpa [clc] using Blk.cell h 4,by simpa [clc] using Blk.cell h 5,by simpa [clc] using Blk.cell h 6,by simpa [clc] using Blk.cell h 7,by simpa [clc] using Blk.cell h 8,by simpa [clc] using Blk.cell h 9,by simpa [clc] using Blk.cell h 10,by simpa [clc] using Blk.cell h 11,bb h,Blk.frozen h⟩
def fld:Nat→List Nat
 | 1=>[46] | 2=>[112] | 3=>[112,103,99,114] | 4=>[112,103,99] | 5=>[112,103,99,114] | 6=>[112,103,99] | 7=>[112,103,99]
 | 8=>[112,97,115] | 9=>[112,97,98] | 10=>[115] | 11=>[104] | 12=>[104,97,115] | 13=>[104,97,98] | 14=>[112,111] | 15=>[112,103,99,111]
 | 16=>[112,103] | 17=>[112,103] | 18=>[112,103,99,110] | 19=>[110] | 20=>[110] | 21=>[46] | _=>[]
theorem sc (h:22≤k):fld k = []:=by obtain ⟨j,rfl⟩:∃j,k = j+22:=⟨k - 22,by omega⟩;rfl
def xk (f:Nat):Prop:=f = 46∨f = 112∨f = 103∨f = 99∨f = 110∨f = 97∨f = 115∨f = 114∨f = 111∨f = 104∨f = 98
variable {f:Nat}
theorem gZ (h:f∈fld k):xk f:=by
 by_cases hk:k < 22
 ·have:∀k:Fin 22,∀f∈fld k.val,f = 46∨f = 112∨f = 103∨f = 99∨f = 110∨f = 97∨f = 115∨f = 114∨f = 111∨f = 104∨f = 98:=by decide
  exact this ⟨k,hk⟩ f h
 ·rw [sc (by omega)] at h;cases h
theorem aE (h:xk f):f < 128:=by unfold xk at h;omega
theorem fld_lt (h:f∈fld k):f < 256:=by have:=aE (gZ h);omega
def FW (w:World):Prop:=∀k,k < 22→w.cell? ⟨0,k,none⟩ = some (.string (ft (fld k)))
theorem FW.chg {w':World} {F:List Nat} (h:FW w) (hc:Chg F w w') (hF:0∉F):FW w':=fun k hk=>Chg.cell hc (h k hk) hF
theorem FW.stay {w':World} (h:FW w) (hc:Chg [] w w'):FW w':=h.chg hc ab
theorem FW.pos (h:FW w):0 < w.heap.size:=World.block_lt_of_cell? w _ (h 0 (by omega))
theorem fE (hf:FW w) (hk:k < 256):Calls Tryz.prog 57 #[.int .u8 k] w fun e w'=>e = .returned (.string (ft (fld k)))∧w = w':=by
 by_cases h22:k < 22
 ·have hc:=hf k h22;have hp:=hf.pos;have d1:decide (22≤(k:Int)) = false:=ac (by omega);have d2:decide (22≤k) = false:=ac (by omega);have i0:(0:Int)≤(k:Int):=by omega
  have i1:(k:Int) < 22:=by omega
  generalize ft (fld k) = s at hc ⊢;clear hf;go_enter Tryz.func57,Tryz.ntmps57;go_wp2_with fail;go_ret;exact ⟨rfl,rfl⟩
 ·rw [sc (by omega)];have d1:decide (22≤(k:Int)) = true:=ae (by omega);have d2:decide (22≤k) = true:=ae (by omega);clear hf;go_enter Tryz.func57,Tryz.ntmps57;go_wp2_with fail;go_ret;exact ⟨rfl,rfl⟩
def Itr (w:World) (b:Nat) (l:List Nat) (j:Nat):Prop:=w.heap[b]? = some (.stringIter (ft l) j)
variable {j:Nat}
theorem Itr.lt (h:Itr w b l j):b < w.heap.size:=(Array.getElem?_eq_some_iff.1 h).1
theorem my (l:List Nat):(ft l).size = l.length:=by simp [ft,ByteArray.size]
theorem eC (hj:j < l.length) (hl:l[j] < 256):((ft l)[j]'(by rw [my];exact hj)).toNat = l[j]:=by
 have:(ft l)[j]'(by rw [my];exact hj) = UInt8.ofNat l[j]:=by show (ft l).data[j]'_ = _;simp [ft]
 rw [this];simp [Nat.mod_eq_of_lt hl]
theorem Itr.next {w:World} {b j:Nat} {l:List Nat} (h:Itr w b l j) (hj:j < l.length) (ha:l[j] < 128):∃w',(∀ty,(Instr.next (.pointer (some ⟨b,0,none⟩)) true ty).run Tryz.prog w = .ok (.tuple #[.bool true,.int .i64 j,.int .i32 l[j]]) w')∧Itr w' b l (j+1)∧Chg [b] w w':=by
 have hs:j < (ft l).size:=by rw [my];exact hj
 have hd:=decode_ascii (ft l) j hs (by rw [eC hj (by omega)];exact ha);rw [eC hj (by omega)] at hd;refine ⟨{ w with heap:=w.heap.setIfInBounds b (.stringIter (ft l) (j+1)) },fun ty=>?_,?_,⟨rfl,rfl,rfl,by simp,fun k hk hn=>?_⟩⟩
 ·simp only [Instr.next,getObj,setObj,Sem.run_bind,Sem.run,(show w.heap[b]? = _ from h),Result.andThen,hs,if_true,hd];simp [goInt]
 ·show (w.heap.setIfInBounds b _)[b]? = _;rw [Array.getElem?_setIfInBounds_self_of_lt h.lt]
 ·show (w.heap.setIfInBounds b _)[k]? = _;rw [Array.getElem?_setIfInBounds_ne (by simpa using fun e=>hn (by simp [e]))]
theorem Itr.done (h:Itr w b l l.length):∀ty,(Instr.next (.pointer (some ⟨b,0,none⟩)) true ty).run Tryz.prog w = .ok (.tuple #[.bool false]) w:=fun ty=>by
 have hs:¬ l.length < (ft l).size:=by rw [my];omega
 simp [Instr.next,getObj,Sem.run,(show w.heap[b]? = _ from h),hs]
theorem Itr.new (w:World) (l:List Nat):Itr (w.iter (ft l) 0) w.heap.size l 0:=World.iter_heap w _ 0
theorem chg_iter (w:World) (s:ByteArray):Chg [] w (w.iter s 0):=(av [] w).alloc _
def tx (f:Nat):Option Nat:=if f = 112 then some 1 else if f = 103 then some 3 else if f = 99 then some 4 else if f = 110 then some 2 else if f = 97 then some 5 else if f = 115 then some 6 else none
def vb (b:Nat):Option Nat→Value
 | none=>.pointer none
 | some o=>.pointer (some ⟨b,o,none⟩)
theorem xr (hb:b < w.heap.size) (hf:xk f):Calls Tryz.prog 113 #[.pointer (some ⟨b,0,none⟩),.int .i32 f] w fun e w'=>e = .returned (.tuple #[vb b (tx f),.bool (tx f).isSome])∧w = w':=by
 unfold xk at hf;rcases hf with rfl | rfl | rfl | rfl | rfl | rfl | rfl | rfl | rfl | rfl | rfl
 all_goals
  simp only [tx,vb,reduceIte,Nat.reduceEqDiff,Option.isSome]
  go_enter Tryz.func113,Tryz.ntmps113
  go_wp2_with fail
  go_ret2
  exact ⟨rfl,rfl⟩
abbrev ay:=@KB.cells
abbrev bh:=@KB.stay
def kx (x y:Cl) (f:Nat):Cl :=
 if f = 112 then { y with p:=x.p } else if f = 103 then { y with g:=x.g } else if f = 99 then { y with c:=x.c } else if f = 110 then { y with n:=x.n }
 else if f = 97 then { y with a:=x.a } else if f = 115 then { y with s:=x.s } else if f = 114 then { y with r:=x.r } else if f = 111 then { y with ok:=x.ok,om:=x.om }
 else if f = 104 then { y with h:=x.h } else if f = 98 then { y with l:=x.l } else y
def qy (v u:Value) (f:Nat):Value:=if f = 98 then v else u
def il (x:Cl) (F:List Nat):Cl:=F.foldl (kx x) { zCl with k:=x.k }
def jh (v:Value) (F:List Nat):Value:=F.foldl (qy v) zV
theorem fJ (x:Cl) (F:List Nat) (f:Nat):il x (F ++ [f]) = kx x (il x F) f:=by unfold il;rw [List.foldl_append];rfl
theorem fK (v:Value) (F:List Nat) (f:Nat):jh v (F ++ [f]) = qy v (jh v F) f:=by unfold jh;rw [List.foldl_append];rfl
theorem jQ (hv:v.oneCell' = true):∀F:List Nat,(jh v F).oneCell' = true:=by
 have:∀(F:List Nat) (u:Value),u.oneCell' = true→(F.foldl (qy v) u).oneCell' = true:=by
  intro F
  induction F with
  | nil=>intro u hu;exact hu
  | cons f F ih =>
   intro u hu;refine ih _ ?_;unfold qy;split
   ·exact hv
   ·exact hu
 exact fun F=>this F zV rfl
def jz (x:Cl):Cl:=il x (fld x.k)
def bareU (x:Cl) (v:Value):Value:=jh v (fld x.k)
theorem KB.put {y:Cl} {u:Value} (h:KB w b x v) (i:Nat) (z:Value) (he:(clc x v).setIfInBounds i z = clc y u):KB (w.setCell ⟨b,i,none⟩ z) b y u:=by have:=Blk.set_ h i z;rw [he] at this;exact this
theorem Itr.pos (h:Itr w b l j):w.iterPos b = j:=by unfold World.iterPos;rw [show w.heap[b]? = _ from h]
theorem kD {α:Type} {F:List α} (hj:j < F.length):F.take (j+1) = F.take j ++ [F[j]]:=List.take_succ_eq_append_getElem hj
theorem iV (hf:FW w) (hk:x.k < 256) (hv:∃A n c,v = .slice A n c):Calls Tryz.prog 87 #[.agg (clc x v)] w fun e w'=>e = .returned (.agg (clc (jz x) (bareU x v)))∧Chg [] w w':=by
 obtain ⟨A0,n0,c0,rfl⟩:=hv;unfold jz bareU;have tZ:=fun W (h:Chg [] w W)=>fE (hf.stay h) hk;have HFM:=bk (fun f (h:f∈fld x.k)=>gZ h);generalize fld x.k = F at tZ HFM ⊢;have tZ:=bk tZ;obtain ⟨W2,kJ⟩:∃W2,W2 = (w.alloc (.cells (clc x (.slice A0 n0 c0)) 47)).alloc (.cells (clc zCl zV) 47):=⟨_,rfl⟩;have pG:W2.heap.size = w.heap.size+1+1:=by rw [kJ];simp
 have lH:KB W2 w.heap.size x (.slice A0 n0 c0):=by rw [kJ];exact (ax w 47 _).alloc _
 have lV:KB W2 (w.heap.size+1) zCl zV:=by have:=ax (w.alloc (.cells (clc x (.slice A0 n0 c0)) 47)) 47 (clc zCl zV);rw [af] at this;rw [kJ];exact this
 have nG:Chg [] w W2:=by rw [kJ];exact ((av [] w).alloc _).alloc _
 obtain ⟨q0,-⟩:=lH.cells;have lD:KB (W2.alloc (.cells (clc zCl zV) 47)) (w.heap.size+1+1) zCl zV:=by rw [← pG];exact ax W2 47 _
 have tV:=bk (show KB (W2.alloc (.cells (clc zCl zV) 47)) w.heap.size x (.slice A0 n0 c0) from Blk.alloc lH _);have oI:=bk (show KB (W2.alloc (.cells (clc zCl zV) 47)) (w.heap.size+1) zCl zV from Blk.alloc lV _);have lI:=bk lD;have kL:=bk (nG.alloc (.cells (clc zCl zV) 47));have qR:w.heap.size < W2.heap.size:=by omega
 have kW:=bk kJ;have sP:=bk pG;rw [kJ] at q0 qR;clear lH lV lD nG kJ pG;go_enter Tryz.func87,Tryz.ntmps87;go_wp2_with (first|refine cc rfl _ rfl rfl ?_|refine nc rfl rfl ?_;try simp only [af];try go_simp|rw [← kW.out];refine jq (b:=w.heap.size+1+1) (y:={ zCl with k:=x.k }) (u:=zV) rfl _ _ rfl rfl rfl rfl lI.out ?_;intro W4 h4 kZ;obtain ⟨q4,-,-,-,-,-,-,-,-,-,-,-,l4,-⟩:=ay (x:=x) (v:=(.slice A0 n0 c0)) (aw tV.out kZ (by simp only [List.mem_singleton];omega)));have tV:=bk (show KB W4 w.heap.size x (.slice A0 n0 c0) from aw tV.out kZ (by simp only [List.mem_singleton];omega));have oI:=bk (show KB W4 (w.heap.size+1) zCl zV from aw oI.out kZ (by simp only [List.mem_singleton];omega));have lG:=bk h4;have lA:=bk (kL.out.trans kZ (fun y hy=>.inr (by obtain rfl:=aa hy;omega)));clear h4 kZ lI kL q0 qR;refine (tZ.out W4 lA.out).mono ?_;rintro e W5 ⟨rfl,rfl⟩;have xL:=Itr.new W4 (F);have Hq:=chg_iter W4 (ft (F));have qK:=bk (show w.heap.size < W4.heap.size∧w.heap.size+1 < W4.heap.size∧w.heap.size+1+1 < W4.heap.size from ⟨tV.out.lt,oI.out.lt,lG.out.lt⟩);have HI:=bk xL;have tV:=bk (show KB (W4.iter (ft (F)) 0) w.heap.size x (.slice A0 n0 c0) from tV.out.stay Hq);have oI:=bk (show KB (W4.iter (ft (F)) 0) (w.heap.size+1) zCl zV from oI.out.stay Hq);have lG:=bk (show KB (W4.iter (ft (F)) 0) (w.heap.size+1+1) (il x ((F).take 0)) (jh (.slice A0 n0 c0) ((F).take 0)) from lG.out.stay Hq);have lA:=bk (lA.out.stay Hq);clear xL Hq q4 l4 kW sP hf tZ;go_wp2_with fail;obtain ⟨W6,pN⟩:∃W6,W6 = W4.iter (ft F) 0:=⟨_,rfl⟩;rw [← pN] at HI tV oI lG lA ⊢;obtain ⟨b1,h1⟩:∃b,b = w.heap.size:=⟨_,rfl⟩;obtain ⟨b2,h2⟩:∃b,b = w.heap.size+1:=⟨_,rfl⟩;obtain ⟨b3,h3⟩:∃b,b = w.heap.size+1+1:=⟨_,rfl⟩;obtain ⟨bi,h5⟩:∃b,b = W4.heap.size:=⟨_,rfl⟩;rw [← h3] at lG qK ⊢;rw [← h2] at oI qK ⊢;rw [← h5] at HI qK ⊢;have lT:=bk (show b1≠b2∧b1≠b3∧b2≠b3∧b1≠bi∧b2≠bi∧b3≠bi∧w.heap.size≤b2∧w.heap.size≤b3∧w.heap.size≤bi from by have:=qK.out;omega);rw [← h1] at tV qK ⊢;have H1:=bk h1;clear pN h1 h2 h3 h5 qK;go_loopw [] (fun wr=>∃j:Nat,j≤F.length∧Hid (KB wr b1 x (.slice A0 n0 c0))∧Hid (KB wr b2 zCl zV)∧Hid (KB wr b3 (il x (F.take j)) (jh (.slice A0 n0 c0) (F.take j)))∧Hid (Itr wr bi F j)∧Hid (Chg [] w wr)) (fun wr=>F.length - wr.iterPos bi)
 case atStart=>exact ⟨0,by omega,tV,oI,lG,HI,lA⟩
 case round =>
  obtain ⟨j,hj,k1,k2,k3,ki,kc⟩:=hrel;by_cases kG:j < F.length
  ·have AS:=HFM.out _ (ao kG);obtain ⟨W1,Ir,tC,kO⟩:=ki.out.next kG (aE AS);have K1:=bk (show KB W1 b1 x (.slice A0 n0 c0) from aw k1.out kO (by simpa using lT.out.2.2.2.1));have K2:=bk (show KB W1 b2 zCl zV from aw k2.out kO (by simpa using lT.out.2.2.2.2.1));have K3:=bk (show KB W1 b3 (il x (F.take j)) (jh (.slice A0 n0 c0) (F.take j)) from aw k3.out kO (by simpa using lT.out.2.2.2.2.2.1));have KC:=bk (kc.out.trans kO (fun y hy=>.inr (by obtain rfl:=aa hy;exact lT.out.2.2.2.2.2.2.2.2)));have KI:=bk tC;have Cy:=kD kG;have rF:=bk (show il x (F.take (j+1)) = kx x (il x (F.take j)) F[j] from by rw [Cy,fJ]);have pF:=bk (show jh (.slice A0 n0 c0) (F.take (j+1)) = qy (.slice A0 n0 c0) (jh (.slice A0 n0 c0) (F.take j)) F[j] from by rw [Cy,fK]);have pD:wr.iterPos bi = j:=(by unfold World.iterPos;rw [show wr.heap[bi]? = _ from ki.out]);obtain ⟨c1,c2,c3,c4,c5,c6,c7,c8,c9,c10,c11,c12,cl,cf⟩:=K1.out.cells;obtain ⟨d1,d2,d3,d4,d5,d6,d7,d8,d9,d10,d11,d12,dl,df⟩:=K3.out.cells;have rP:=bk (fun W (h:b1 < W.heap.size)=>xr (w:=W) h AS);have qL:=bk (fun W (h:b3 < W.heap.size)=>xr (w:=W) h AS);generalize F[j] = f at AS Ir rF pF rP qL;generalize il x (F.take j) = y at K3 rF d1 d2 d3 d4 d5 d6 d7 d8 d9 d10 d11 d12;generalize jh (.slice A0 n0 c0) (F.take j) = u at K3 pF d12;clear tC kO Cy k1 k2 k3 ki kc;rcases AS with rfl | rfl | rfl | rfl | rfl | rfl | rfl | rfl | rfl | rfl | rfl
   ·simp only [tx,vb,reduceIte,Nat.reduceEqDiff,Option.isSome] at rP qL;simp only [kx,qy,reduceIte,Nat.reduceEqDiff] at rF pF;have HK:=bk (show KB W1 b3 (il x (F.take (j+1))) (jh (.slice A0 n0 c0) (F.take (j+1))) from by rw [rF.out,pF.out];exact K3.out);go_wp2_with fail;refine (rP.out _ cl).mono ?_;rintro e W9 ⟨rfl,rfl⟩;go_wp2_with fail;go_roundw
    case rel=>exact ⟨j+1,by omega,K1,K2,HK,KI,KC⟩
    case measure=>rw [pD,KI.out.pos];omega
   ·simp only [tx,vb,reduceIte,Nat.reduceEqDiff,Option.isSome] at rP qL;simp only [kx,qy,reduceIte,Nat.reduceEqDiff] at rF pF;have HK:=bk (show KB (W1.setCell ⟨b3,1,none⟩ (.int .i64 x.p)) b3 (il x (F.take (j+1))) (jh (.slice A0 n0 c0) (F.take (j+1))) from by rw [rF.out,pF.out];exact K3.out.put 1 _ rfl);have HW:=bk (ai (show KB (W1.setCell ⟨b3,1,none⟩ (.int .i64 x.p)) b1 x (.slice A0 n0 c0) from K1.out.far lT.out.2.1 _) (ai (show KB (W1.setCell ⟨b3,1,none⟩ (.int .i64 x.p)) b2 zCl zV from K2.out.far lT.out.2.2.1 _) (ai (show Itr (W1.setCell ⟨b3,1,none⟩ (.int .i64 x.p)) bi F (j+1) from (Below.heap_setCell W1 _ _ bi (Ne.symm lT.out.2.2.2.2.2.1)).trans KI.out) (KC.out.setCell (p:=⟨b3,1,none⟩) (.inr lT.out.2.2.2.2.2.2.2.1) (.int .i64 x.p)))));go_wp2_with fail;refine (rP.out _ cl).mono ?_;rintro e W9 ⟨rfl,rfl⟩;go_wp2_with fail;refine (qL.out _ dl).mono ?_;rintro e W9 ⟨rfl,rfl⟩;go_wp2_with fail;go_roundw
    case rel=>exact ⟨j+1,by omega,bk HW.out.1,bk HW.out.2.1,HK,bk HW.out.2.2.1,bk HW.out.2.2.2⟩
    case measure=>rw [pD,HW.out.2.2.1.pos];omega
   ·simp only [tx,vb,reduceIte,Nat.reduceEqDiff,Option.isSome] at rP qL;simp only [kx,qy,reduceIte,Nat.reduceEqDiff] at rF pF;have HK:=bk (show KB (W1.setCell ⟨b3,3,none⟩ (.int .i64 x.g)) b3 (il x (F.take (j+1))) (jh (.slice A0 n0 c0) (F.take (j+1))) from by rw [rF.out,pF.out];exact K3.out.put 3 _ rfl);have HW:=bk (ai (show KB (W1.setCell ⟨b3,3,none⟩ (.int .i64 x.g)) b1 x (.slice A0 n0 c0) from K1.out.far lT.out.2.1 _) (ai (show KB (W1.setCell ⟨b3,3,none⟩ (.int .i64 x.g)) b2 zCl zV from K2.out.far lT.out.2.2.1 _) (ai (show Itr (W1.setCell ⟨b3,3,none⟩ (.int .i64 x.g)) bi F (j+1) from (Below.heap_setCell W1 _ _ bi (Ne.symm lT.out.2.2.2.2.2.1)).trans KI.out) (KC.out.setCell (p:=⟨b3,3,none⟩) (.inr lT.out.2.2.2.2.2.2.2.1) (.int .i64 x.g)))));go_wp2_with fail;refine (rP.out _ cl).mono ?_;rintro e W9 ⟨rfl,rfl⟩;go_wp2_with fail;refine (qL.out _ dl).mono ?_;rintro e W9 ⟨rfl,rfl⟩;go_wp2_with fail;go_roundw
    case rel=>exact ⟨j+1,by omega,bk HW.out.1,bk HW.out.2.1,HK,bk HW.out.2.2.1,bk HW.out.2.2.2⟩
    case measure=>rw [pD,HW.out.2.2.1.pos];omega
   ·simp only [tx,vb,reduceIte,Nat.reduceEqDiff,Option.isSome] at rP qL;simp only [kx,qy,reduceIte,Nat.reduceEqDiff] at rF pF;have HK:=bk (show KB (W1.setCell ⟨b3,4,none⟩ (.int .i64 x.c)) b3 (il x (F.take (j+1))) (jh (.slice A0 n0 c0) (F.take (j+1))) from by rw [rF.out,pF.out];exact K3.out.put 4 _ rfl);have HW:=bk (ai (show KB (W1.setCell ⟨b3,4,none⟩ (.int .i64 x.c)) b1 x (.slice A0 n0 c0) from K1.out.far lT.out.2.1 _) (ai (show KB (W1.setCell ⟨b3,4,none⟩ (.int .i64 x.c)) b2 zCl zV from K2.out.far lT.out.2.2.1 _) (ai (show Itr (W1.setCell ⟨b3,4,none⟩ (.int .i64 x.c)) bi F (j+1) from (Below.heap_setCell W1 _ _ bi (Ne.symm lT.out.2.2.2.2.2.1)).trans KI.out) (KC.out.setCell (p:=⟨b3,4,none⟩) (.inr lT.out.2.2.2.2.2.2.2.1) (.int .i64 x.c)))));go_wp2_with fail;refine (rP.out _ cl).mono ?_;rintro e W9 ⟨rfl,rfl⟩;go_wp2_with fail;refine (qL.out _ dl).mono ?_;rintro e W9 ⟨rfl,rfl⟩;go_wp2_with fail;go_roundw
    case rel=>exact ⟨j+1,by omega,bk HW.out.1,bk HW.out.2.1,HK,bk HW.out.2.2.1,bk HW.out.2.2.2⟩
    case measure=>rw [pD,HW.out.2.2.1.pos];omega
   ·simp only [tx,vb,reduceIte,Nat.reduceEqDiff,Option.isSome] at rP qL;simp only [kx,qy,reduceIte,Nat.reduceEqDiff] at rF pF;have HK:=bk (show KB (W1.setCell ⟨b3,2,none⟩ (.int .i64 x.n)) b3 (il x (F.take (j+1))) (jh (.slice A0 n0 c0) (F.take (j+1))) from by rw [rF.out,pF.out];exact K3.out.put 2 _ rfl);have HW:=bk (ai (show KB (W1.setCell ⟨b3,2,none⟩ (.int .i64 x.n)) b1 x (.slice A0 n0 c0) from K1.out.far lT.out.2.1 _) (ai (show KB (W1.setCell ⟨b3,2,none⟩ (.int .i64 x.n)) b2 zCl zV from K2.out.far lT.out.2.2.1 _) (ai (show Itr (W1.setCell ⟨b3,2,none⟩ (.int .i64 x.n)) bi F (j+1) from (Below.heap_setCell W1 _ _ bi (Ne.symm lT.out.2.2.2.2.2.1)).trans KI.out) (KC.out.setCell (p:=⟨b3,2,none⟩) (.inr lT.out.2.2.2.2.2.2.2.1) (.int .i64 x.n)))));go_wp2_with fail;refine (rP.out _ cl).mono ?_;rintro e W9 ⟨rfl,rfl⟩;go_wp2_with fail;refine (qL.out _ dl).mono ?_;rintro e W9 ⟨rfl,rfl⟩;go_wp2_with fail;go_roundw
    case rel=>exact ⟨j+1,by omega,bk HW.out.1,bk HW.out.2.1,HK,bk HW.out.2.2.1,bk HW.out.2.2.2⟩
    case measure=>rw [pD,HW.out.2.2.1.pos];omega
   ·simp only [tx,vb,reduceIte,Nat.reduceEqDiff,Option.isSome] at rP qL;simp only [kx,qy,reduceIte,Nat.reduceEqDiff] at rF pF;have HK:=bk (show KB (W1.setCell ⟨b3,5,none⟩ (.int .i64 x.a)) b3 (il x (F.take (j+1))) (jh (.slice A0 n0 c0) (F.take (j+1))) from by rw [rF.out,pF.out];exact K3.out.put 5 _ rfl);have HW:=bk (ai (show KB (W1.setCell ⟨b3,5,none⟩ (.int .i64 x.a)) b1 x (.slice A0 n0 c0) from K1.out.far lT.out.2.1 _) (ai (show KB (W1.setCell ⟨b3,5,none⟩ (.int .i64 x.a)) b2 zCl zV from K2.out.far lT.out.2.2.1 _) (ai (show Itr (W1.setCell ⟨b3,5,none⟩ (.int .i64 x.a)) bi F (j+1) from (Below.heap_setCell W1 _ _ bi (Ne.symm lT.out.2.2.2.2.2.1)).trans KI.out) (KC.out.setCell (p:=⟨b3,5,none⟩) (.inr lT.out.2.2.2.2.2.2.2.1) (.int .i64 x.a)))));go_wp2_with fail;refine (rP.out _ cl).mono ?_;rintro e W9 ⟨rfl,rfl⟩;go_wp2_with fail;refine (qL.out _ dl).mono ?_;rintro e W9 ⟨rfl,rfl⟩;go_wp2_with fail;go_roundw
    case rel=>exact ⟨j+1,by omega,bk HW.out.1,bk HW.out.2.1,HK,bk HW.out.2.2.1,bk HW.out.2.2.2⟩
    case measure=>rw [pD,HW.out.2.2.1.pos];omega
   ·simp only [tx,vb,reduceIte,Nat.reduceEqDiff,Option.isSome] at rP qL;simp only [kx,qy,reduceIte,Nat.reduceEqDiff] at rF pF;have HK:=bk (show KB (W1.setCell ⟨b3,6,none⟩ (.int .i64 x.s)) b3 (il x (F.take (j+1))) (jh (.slice A0 n0 c0) (F.take (j+1))) from by rw [rF.out,pF.out];exact K3.out.put 6 _ rfl);have HW:=bk (ai (show KB (W1.setCell ⟨b3,6,none⟩ (.int .i64 x.s)) b1 x (.slice A0 n0 c0) from K1.out.far lT.out.2.1 _) (ai (show KB (W1.setCell ⟨b3,6,none⟩ (.int .i64 x.s)) b2 zCl zV from K2.out.far lT.out.2.2.1 _) (ai (show Itr (W1.setCell ⟨b3,6,none⟩ (.int .i64 x.s)) bi F (j+1) from (Below.heap_setCell W1 _ _ bi (Ne.symm lT.out.2.2.2.2.2.1)).trans KI.out) (KC.out.setCell (p:=⟨b3,6,none⟩) (.inr lT.out.2.2.2.2.2.2.2.1) (.int .i64 x.s)))));go_wp2_with fail;refine (rP.out _ cl).mono ?_;rintro e W9 ⟨rfl,rfl⟩;go_wp2_with fail;refine (qL.out _ dl).mono ?_;rintro e W9 ⟨rfl,rfl⟩;go_wp2_with fail;go_roundw
    case rel=>exact ⟨j+1,by omega,bk HW.out.1,bk HW.out.2.1,HK,bk HW.out.2.2.1,bk HW.out.2.2.2⟩
    case measure=>rw [pD,HW.out.2.2.1.pos];omega
   ·simp only [tx,vb,reduceIte,Nat.reduceEqDiff,Option.isSome] at rP qL;simp only [kx,qy,reduceIte,Nat.reduceEqDiff] at rF pF;have HK:=bk (show KB (W1.setCell ⟨b3,7,none⟩ (.int .u8 x.r)) b3 (il x (F.take (j+1))) (jh (.slice A0 n0 c0) (F.take (j+1))) from by rw [rF.out,pF.out];exact K3.out.put 7 _ rfl);have HW:=bk (ai (show KB (W1.setCell ⟨b3,7,none⟩ (.int .u8 x.r)) b1 x (.slice A0 n0 c0) from K1.out.far lT.out.2.1 _) (ai (show KB (W1.setCell ⟨b3,7,none⟩ (.int .u8 x.r)) b2 zCl zV from K2.out.far lT.out.2.2.1 _) (ai (show Itr (W1.setCell ⟨b3,7,none⟩ (.int .u8 x.r)) bi F (j+1) from (Below.heap_setCell W1 _ _ bi (Ne.symm lT.out.2.2.2.2.2.1)).trans KI.out) (KC.out.setCell (p:=⟨b3,7,none⟩) (.inr lT.out.2.2.2.2.2.2.2.1) (.int .u8 x.r)))));go_wp2_with fail;refine (rP.out _ cl).mono ?_;rintro e W9 ⟨rfl,rfl⟩;go_wp2_with fail;go_roundw
    case rel=>exact ⟨j+1,by omega,bk HW.out.1,bk HW.out.2.1,HK,bk HW.out.2.2.1,bk HW.out.2.2.2⟩
    case measure=>rw [pD,HW.out.2.2.1.pos];omega
   ·simp only [tx,vb,reduceIte,Nat.reduceEqDiff,Option.isSome] at rP qL;simp only [kx,qy,reduceIte,Nat.reduceEqDiff] at rF pF;have HK:=bk (show KB ((W1.setCell ⟨b3,8,none⟩ (.int .u8 x.ok)).setCell ⟨b3,9,none⟩ (.int .u8 x.om)) b3 (il x (F.take (j+1))) (jh (.slice A0 n0 c0) (F.take (j+1))) from by rw [rF.out,pF.out];exact (K3.out.put (y:={ y with ok:=x.ok }) 8 _ rfl).put 9 _ rfl);have HW:=bk (ai (show KB ((W1.setCell ⟨b3,8,none⟩ (.int .u8 x.ok)).setCell ⟨b3,9,none⟩ (.int .u8 x.om)) b1 x (.slice A0 n0 c0) from (K1.out.far (p:=⟨b3,8,none⟩) lT.out.2.1 _).far lT.out.2.1 _) (ai (show KB ((W1.setCell ⟨b3,8,none⟩ (.int .u8 x.ok)).setCell ⟨b3,9,none⟩ (.int .u8 x.om)) b2 zCl zV from (K2.out.far (p:=⟨b3,8,none⟩) lT.out.2.2.1 _).far lT.out.2.2.1 _) (ai (show Itr ((W1.setCell ⟨b3,8,none⟩ (.int .u8 x.ok)).setCell ⟨b3,9,none⟩ (.int .u8 x.om)) bi F (j+1) from (Below.heap_setCell _ ⟨b3,9,none⟩ _ bi (Ne.symm lT.out.2.2.2.2.2.1)).trans ((Below.heap_setCell W1 ⟨b3,8,none⟩ _ bi (Ne.symm lT.out.2.2.2.2.2.1)).trans KI.out)) ((KC.out.setCell (p:=⟨b3,8,none⟩) (.inr lT.out.2.2.2.2.2.2.2.1) (.int .u8 x.ok)).setCell (p:=⟨b3,9,none⟩) (.inr lT.out.2.2.2.2.2.2.2.1) (.int .u8 x.om)))));go_wp2_with fail;refine (rP.out _ cl).mono ?_;rintro e W9 ⟨rfl,rfl⟩;go_wp2_with fail;go_roundw
    case rel=>exact ⟨j+1,by omega,bk HW.out.1,bk HW.out.2.1,HK,bk HW.out.2.2.1,bk HW.out.2.2.2⟩
    case measure=>rw [pD,HW.out.2.2.1.pos];omega
   ·simp only [tx,vb,reduceIte,Nat.reduceEqDiff,Option.isSome] at rP qL;simp only [kx,qy,reduceIte,Nat.reduceEqDiff] at rF pF;have HK:=bk (show KB (W1.setCell ⟨b3,10,none⟩ (.int .u64 x.h)) b3 (il x (F.take (j+1))) (jh (.slice A0 n0 c0) (F.take (j+1))) from by rw [rF.out,pF.out];exact K3.out.put 10 _ rfl);have HW:=bk (ai (show KB (W1.setCell ⟨b3,10,none⟩ (.int .u64 x.h)) b1 x (.slice A0 n0 c0) from K1.out.far lT.out.2.1 _) (ai (show KB (W1.setCell ⟨b3,10,none⟩ (.int .u64 x.h)) b2 zCl zV from K2.out.far lT.out.2.2.1 _) (ai (show Itr (W1.setCell ⟨b3,10,none⟩ (.int .u64 x.h)) bi F (j+1) from (Below.heap_setCell W1 _ _ bi (Ne.symm lT.out.2.2.2.2.2.1)).trans KI.out) (KC.out.setCell (p:=⟨b3,10,none⟩) (.inr lT.out.2.2.2.2.2.2.2.1) (.int .u64 x.h)))));go_wp2_with fail;refine (rP.out _ cl).mono ?_;rintro e W9 ⟨rfl,rfl⟩;go_wp2_with fail;go_roundw
    case rel=>exact ⟨j+1,by omega,bk HW.out.1,bk HW.out.2.1,HK,bk HW.out.2.2.1,bk HW.out.2.2.2⟩
    case measure=>rw [pD,HW.out.2.2.1.pos];omega
   ·simp only [tx,vb,reduceIte,Nat.reduceEqDiff,Option.isSome] at rP qL;simp only [kx,qy,reduceIte,Nat.reduceEqDiff] at rF pF;have HK:=bk (show KB (W1.setCell ⟨b3,11,none⟩ (.slice A0 n0 c0)) b3 (il x (F.take (j+1))) (jh (.slice A0 n0 c0) (F.take (j+1))) from by rw [rF.out,pF.out];exact K3.out.put 11 _ rfl);have HW:=bk (ai (show KB (W1.setCell ⟨b3,11,none⟩ (.slice A0 n0 c0)) b1 x (.slice A0 n0 c0) from K1.out.far lT.out.2.1 _) (ai (show KB (W1.setCell ⟨b3,11,none⟩ (.slice A0 n0 c0)) b2 zCl zV from K2.out.far lT.out.2.2.1 _) (ai (show Itr (W1.setCell ⟨b3,11,none⟩ (.slice A0 n0 c0)) bi F (j+1) from (Below.heap_setCell W1 _ _ bi (Ne.symm lT.out.2.2.2.2.2.1)).trans KI.out) (KC.out.setCell (p:=⟨b3,11,none⟩) (.inr lT.out.2.2.2.2.2.2.2.1) (.slice A0 n0 c0)))));go_wp2_with fail;refine (rP.out _ cl).mono ?_;rintro e W9 ⟨rfl,rfl⟩;go_wp2_with fail;go_roundw
    case rel=>exact ⟨j+1,by omega,bk HW.out.1,bk HW.out.2.1,HK,bk HW.out.2.2.1,bk HW.out.2.2.2⟩
    case measure=>rw [pD,HW.out.2.2.1.pos];omega
  ·obtain rfl:j = F.length:=(by omega);rw [List.take_length] at k3;have Ir:=ki.out.done;go_wp2_with (first|refine dk rfl _ rfl rfl k3.out ?_|refine jq (y:=il x F) (u:=jh (.slice A0 n0 c0) F) rfl _ _ rfl rfl rfl (jQ rfl F) k2.out ?_;intro W7 h7 kN);refine bodyPost_ret (v:=.agg (clc (il x F) (jh (.slice A0 n0 c0) F))) (results_cell_row (p:=2) (ty:=47) rfl _ _ b2 47 _ (0,0) _ rfl h7 Tryz.underlying47 rfl fq) rfl ⟨rfl,?_⟩;exact kc.out.trans kN (fun y hy=>.inr (by obtain rfl:=aa hy;exact lT.out.2.2.2.2.2.2.1))
