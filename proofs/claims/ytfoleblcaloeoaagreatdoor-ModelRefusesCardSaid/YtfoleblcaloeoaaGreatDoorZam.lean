/- Texts merged for the claim. -/
import Derived.Test.YtfoleblcaloeoaaGreatDoorZah
import Derived.Lib.BytesEntry
import Derived.Lib.IndexLaws
import Derived.Lib.ConvBytes
set_option maxHeartbeats 40000000
set_option maxRecDepth 20000
namespace Go.Proofs.YtfoleblcaloeoaaGreatDoor
open Go Go.RowKit
def ints (l:List Nat):List Int:=l.map fun n:Nat=>(n:Int)
theorem iA {l:List Nat} (h8:∀b∈l,b < 256) {f:Nat} (hf:f < 256):0≤Lib.indexByte (Lib.bytesOf (ints l)) (UInt8.ofNat f)↔f∈l:=by
 induction l with
 | nil=>simp [Lib.bytesOf,Lib.indexByte,ints]
 | cons b l ih =>
  have ihl:=ih (fun b hb=>h8 b (List.mem_cons_of_mem _ hb))
  have hb:=h8 b (List.mem_cons_self ..)
  have qE:=Lib.indexByte_ge (Lib.bytesOf (ints l)) (UInt8.ofNat f)
  have he:Lib.bytesOf (ints (b :: l)) = UInt8.ofNat b :: Lib.bytesOf (ints l):=by simp [Lib.bytesOf,ints]
  rw [he]
  have hbf:(UInt8.ofNat b == UInt8.ofNat f) = decide (b = f):=by
   by_cases h:b = f
   ·subst h;simp
   ·rw [ac h]
    refine beq_false_of_ne fun e=>h ?_
    have:=congrArg UInt8.toNat e
    simpa [Nat.mod_eq_of_lt hb,Nat.mod_eq_of_lt hf] using this
  unfold Lib.indexByte
  rw [hbf]
  by_cases h:b = f
  ·subst h;simp
  ·have jO:¬ f = b:=fun e=>h e.symm
   simp only [h,decide_false,List.mem_cons,jO,false_or,← ihl]
   generalize Lib.indexByte (Lib.bytesOf (ints l)) (UInt8.ofNat f) = z at qE ⊢
   by_cases hz:z = -1
   ·subst hz;simp
   ·have:(z == -1) = false:=beq_false_of_ne hz
    simp [this]
    omega
set_option maxRecDepth 100000 in
theorem xx {w:World} {v:Value} {l:List Nat} (hv:RB w v l) (h8:∀b∈l,b < 256) (h0:0 < l.length) {f:Nat} (hf:f < 256) :
  Calls Tryz.prog 114 #[v,.int .u8 f] w fun e w'=>(∃z:Int,e = .returned (.int .i64 z)∧(0≤z↔f∈l))∧w = w':=by
 have oD:∃z:Int,(Extern.BytealgIndexByte.indexByte #[v,.int .u8 f]).run Tryz.prog w = .ok (.int .i64 z) w∧(0≤z↔f∈l):=by
  obtain ⟨A,c,rfl⟩:=RE.form hv
  obtain ⟨g,off,rfl⟩:=RE.addr hv h0
  refine ⟨_,Lib.run_indexByteSlice w g off l.length c (ints l) (by simp [ints]) (fun i hi=>?_) f,?_⟩
  ·have q:=RE.cell jb hv hi (j:=0) (by omega) rfl
   rw [Nat.mul_one,Nat.add_zero] at q
   rw [q]
   simp [ints,List.getD,List.getElem?_eq_getElem hi]
  ·have:=iA h8 hf
   simpa using this
 obtain ⟨z,hz,hi⟩:=oD
 have HI:=ah hi
 have hcall:∀args,(callFunc 135 args).run Tryz.prog w = ((Extern.BytealgIndexByte.indexByte args).run Tryz.prog w).andThen fun v w'=>.ok (.value v) w':=fun args =>
  run_callFunc_extern Tryz.func135 (by kernel_rfl) (by kernel_rfl) (by kernel_rfl) (e:=Extern.BytealgIndexByte.indexByte) (by kernel_rfl) args w
 clear hv h8 hi h0
 go_enter Tryz.func114,Tryz.ntmps114
 go_wp2_with fail
 go_ret
 exact ⟨⟨z,rfl,HI.out⟩,rfl⟩
set_option maxRecDepth 100000 in
theorem xy {w:World} {v:Value} {l:List Nat} (hv:RB w v l) (h8:∀b∈l,b < 256) (h0:0 < l.length) {f:Nat} (hf:f < 128) :
  Calls Tryz.prog 88 #[v,.int .i32 f] w fun e w'=>(∃z:Int,e = .returned (.int .i64 z)∧(0≤z↔f∈l))∧w = w':=by
 have HB:=ah (xx hv h8 h0 (f:=f) (by omega))
 have f0:(0:Int)≤(f:Int):=by omega
 have f1:(f:Int) < 128:=by omega
 have hw:IntKind.u8.wrap (f:Int) = (f:Int):=by rw [IntKind.wrap_u8];omega
 clear hv h8 h0
 go_enter Tryz.func88,Tryz.ntmps88
 go_wp2_with fail
 refine HB.out.mono ?_
 rintro e W ⟨⟨z,rfl,hz⟩,rfl⟩
 have HZ:=ah hz
 clear hz
 go_wp2_with fail
 go_ret
 exact ⟨⟨z,rfl,HZ.out⟩,rfl⟩
theorem tt {w:World} {v:Value} {l:List Nat} (hv:RB w v l) (h8:∀b∈l,b < 256) (h0:0 < l.length) {f:Nat} (hf:f < 128) :
  Calls Tryz.prog 59 #[v,.int .i32 f] w fun e w'=>e = .returned (.bool (l.contains f))∧w = w':=by
 have HB:=ah (xy hv h8 h0 hf)
 clear hv h8 h0 hf
 go_enter Tryz.func59,Tryz.ntmps59
 go_wp2_with fail
 refine HB.out.mono ?_
 rintro e W ⟨⟨z,rfl,hz⟩,rfl⟩
 have HZ:=ah hz
 clear hz
 go_wp2_with fail
 go_ret
 refine ⟨?_,rfl⟩
 have:decide (0≤z) = l.contains f:=by
  rw [Bool.eq_iff_iff]
  simpa using HZ.out
 simp [this]
theorem dQ (w:World) (F:List Nat) (h8:∀b∈F,b < 256):∃c w',(convert 9 38 (.string (dz F))).run Tryz.prog w = .ok (.slice (some ⟨w.heap.size,0,none⟩) F.length c) w'∧RB w' (.slice (some ⟨w.heap.size,0,none⟩) F.length c) F∧Chg [] w w':=by
 have h:=Lib.run_convert_string_bytes (P:=Tryz.prog) w 9 38 5 (dz F) Tryz.underlying9 Tryz.underlying38 Tryz.underlying5
 rw [lw] at h
 refine ⟨_,_,h,⟨by rw [ef jb],_,_,rfl,grownCap_ge _ _ _ _,fun _=>⟨_,_,rfl,fun j u hu=>?_⟩⟩,?_⟩
 ·have hj:j < F.length:=by
   have h1:=(List.getElem?_eq_some_iff.1 hu).1
   rw [ef jb] at h1
   omega
  have hg:=tx jb F j 0 hj (by omega)
  rw [Nat.mul_one,Nat.add_zero,hu] at hg
  have hc:=Lib.bytesWorld_cell w 5 (dz F) j (by rw [lw];exact hj)
  rw [Nat.zero_add,hc,hg]
  have h2:=h8 _ (List.getElem_mem hj)
  simp [ucl,dz,List.getD,List.getElem?_eq_getElem hj,Nat.mod_eq_of_lt h2]
 ·refine ⟨?_,?_,?_,by rw [Lib.bytesWorld_size];omega,fun k hk _=>Lib.bytesWorld_at_old w 5 (dz F) k hk⟩
  all_goals simp [Lib.bytesWorld,World.freeze,World.alloc,World.drew,-World.alloc_eq,-World.drew_eq]
set_option maxRecDepth 100000 in
theorem hasK_any {w:World} {b5:Nat} {F:List Nat} (hb:Blk w b5 9 #[.string (dz F)]) (h0:0 < F.length) (h8:∀b∈F,b < 256) {f:Nat} (hf:f < 128) :
  Calls Tryz.prog 58 #[.int .i32 f,.pointer (some ⟨b5,0,none⟩)] w fun e w'=>e = .returned (.bool (F.contains f))∧Chg [] w w':=by
 have q0:=hb.cell 0
 simp at q0
 have ql:=hb.lt
 obtain ⟨c,w1,Bd,hr,hc⟩:=dQ w F h8
 have HB:=ah (tt hr h8 h0 hf)
 have HC:=ah hc
 clear hb hr hc h8 h0 hf
 go_enter Tryz.func58,Tryz.ntmps58
 go_wp2_with fail
 refine HB.out.mono ?_
 rintro e W ⟨rfl,rfl⟩
 go_wp2_with fail
 go_ret
 exact ⟨by simp,HC.out⟩
theorem fx (n a b:Int) (w:World):Calls Tryz.prog 60 #[.int .i64 n,.int .i64 a,.int .i64 b] w fun e w'=>e = .returned (.bool (decide (a≤n∧n≤b)))∧w = w':=by
 by_cases h1:a≤n
 ·by_cases h2:n≤b
  ·rw [ae ⟨h1,h2⟩]
   have d1:decide (a≤n) = true:=ae h1
   have d2:decide (n≤b) = true:=ae h2
   go_enter Tryz.func60,Tryz.ntmps60
   go_wp2_with fail
   go_ret
   exact ⟨rfl,rfl⟩
  ·rw [ac (fun h=>h2 h.2)]
   have d1:decide (a≤n) = true:=ae h1
   have d2:decide (n≤b) = false:=ac h2
   go_enter Tryz.func60,Tryz.ntmps60
   go_wp2_with fail
   go_ret
   exact ⟨rfl,rfl⟩
 ·rw [ac (fun h=>h1 h.1)]
  have d1:decide (a≤n) = false:=ac h1
  go_enter Tryz.func60,Tryz.ntmps60
  go_wp2_with fail
  go_ret
  exact ⟨rfl,rfl⟩
theorem qd (addr size of:Int) (h0:0≤of) (h1:of≤1000000) (w:World):Calls Tryz.prog 62 #[.int .i64 addr,.int .i64 size,.int .i64 of] w fun e w'=>e = .returned (.bool (decide ((1≤size∧size≤8)∧0≤addr∧addr≤of - size)))∧w = w':=by
 have HA:=ah (fun W=>fx size 1 8 W)
 have HB:=ah (fun W=>fx addr 0 (of - size) W)
 by_cases hs:1≤size∧size≤8
 ·rw [ae hs] at HA
  have hd:decide ((1≤size∧size≤8)∧0≤addr∧addr≤of - size) = decide (0≤addr∧addr≤of - size):=by simp [hs]
  rw [hd]
  obtain ⟨s1,s2⟩:=hs
  have hw:wrap64 (of - size) = of - size:=by unfold wrap64;omega
  generalize decide (0≤addr∧addr≤of - size) = r at HB ⊢
  clear hd
  go_enter Tryz.func62,Tryz.ntmps62
  go_wp2_with fail
  refine (HA.out _).mono ?_
  rintro e W ⟨rfl,rfl⟩
  go_wp2_with fail
  refine (HB.out _).mono ?_
  rintro e W ⟨rfl,rfl⟩
  go_wp2_with fail
  go_ret
  exact ⟨rfl,rfl⟩
 ·rw [ac hs] at HA
  rw [ac (fun h=>hs h.1)]
  clear hs
  go_enter Tryz.func62,Tryz.ntmps62
  go_wp2_with fail
  refine (HA.out _).mono ?_
  rintro e W ⟨rfl,rfl⟩
  go_wp2_with fail
  go_ret
  exact ⟨rfl,rfl⟩
end Go.Proofs.YtfoleblcaloeoaaGreatDoor
namespace Go.Proofs.YtfoleblcaloeoaaGreatDoor
open Go
section
variable {P:Program} {ops:Array Oper}
def vj (l:List Oper) (ks:Array Nat) (Ls:List (List Nat)):Bool :=
 let ops:=l.toArray
 let m:=il l
 let n:=l.length
 let un:List (Nat × Nat):=(List.range n).flatMap fun j=>((List.range j).filter fun i=>!(m.getD j 0).testBit i).map fun i=>(i,j)
 let C:=un.filter fun (i,j)=>Ls.any fun L=>!(gd ops ks L i j true && gd ops ks L i j false)
 Region.noSelect ops &&
 (l.zipIdx.all fun (oj,j)=>kf oj (ks.getD j 3) && (oj.after.all fun e=>!Region.binds .any e || decide (e.on < j))) &&
 (Ls.all fun L=>decide L.Nodup && ((List.range n).all fun i=>L.contains i) && (L.all fun i=>decide (i < n)) && (List.range n).all fun j=>(List.range j).all fun i=>!(m.getD j 0).testBit i || bef L i j) &&
 (yr C.length).all fun σ =>
  (Ls.any fun L=>(C.zip σ).all fun (p,b)=>gd ops ks L p.1 p.2 b) ||
  ((C.zip σ).any fun (p,b)=>(C.zip σ).any fun (q,c) =>
   let x:=if b then p.1 else p.2
   let y:=if b then p.2 else p.1
   let u:=if c then q.1 else q.2
   let v:=if c then q.2 else q.1
   ju m y u && ju m v x) ||
  ((C.zip σ).any fun (p,b)=>(C.zip σ).any fun (q,c)=>(C.zip σ).any fun (r,d) =>
   let x:=if b then p.1 else p.2
   let y:=if b then p.2 else p.1
   let u:=if c then q.1 else q.2
   let v:=if c then q.2 else q.1
   let s:=if d then r.1 else r.2
   let t:=if d then r.2 else r.1
   ju m y u && (ju m v s && ju m t x))
theorem aM {l:List Oper} {ks:Array Nat} {Ls:List (List Nat)} (h:vj l ks Ls = true) {Q:Exit→Act→World→Prop} {S:World→Prop} {a:Act} {w:World}
  (hL:∀L∈Ls,wpR P l.toArray ks S Q L a w) (t:Nat):wpOps P l.toArray Q (Region.linearise .any l.toArray t) a w:=by
 simp only [vj,Bool.and_eq_true] at h
 obtain ⟨⟨⟨hs,Dz⟩,CS⟩,hσ⟩:=h
 have at_:∀(j:Nat) oj,l[j]? = some oj→(oj,j)∈l.zipIdx:=fun j oj hj=>by
  rw [List.mem_iff_getElem?];exact ⟨j,by simp [List.getElem?_zipIdx,hj]⟩
 have row:∀(j:Nat) oj,l[j]? = some oj→_:=fun j oj hj=>List.all_eq_true.1 Dz (oj,j) (at_ j oj hj)
 simp only [Bool.and_eq_true] at row
 have qH:∀(j:Nat) oj,l.toArray[j]? = some oj→kf oj (ks.getD j 3) = true:=fun j oj hj=>(row j oj (by simpa using hj)).1
 have tF:∀(j:Nat) oj,l.toArray[j]? = some oj→∀e∈oj.after,Region.binds .any e = true→e.on < j:=fun j oj hj e he hb=>by
  have:=(row j oj (by simpa using hj)).2
  have:=Array.all_eq_true_iff_forall_mem.1 this e he
  simpa [hb] using this
 have oS:pz l.toArray (Array.replicate l.toArray.size false) (Region.linearise .any l.toArray t):=by
  unfold Region.linearise
  refine cN tF _ t _ (by simp) ?_
  unfold cnt
  have:=List.countP_le_length (p:=fun b=>!b) (l:=(Array.replicate l.toArray.size false).toList)
  simpa using this
 have nH:tr l.toArray (Array.replicate l.toArray.size false):=by
  intro j o hj hl
  exfalso
  rcases Nat.lt_or_ge j l.length with jF | qE
  ·simp [Array.getD_eq_getD_getElem?,jF] at hl
  ·simp [Array.getD_eq_getD_getElem?,Nat.not_lt.2 qE] at hl
 have Bk:∀i,(Array.replicate l.toArray.size false).getD i false = false:=fun i=>by
  rcases Nat.lt_or_ge i l.length with jF | qE
  ·simp [Array.getD_eq_getD_getElem?,jF]
  ·simp [Array.getD_eq_getD_getElem?,Nat.not_lt.2 qE]
 generalize Region.linearise .any l.toArray t = τ at *
 have EK:∀i j,i < l.length→j < l.length→((il l).getD j 0).testBit i = true→bef τ i j = true:=fun i j hi hj hb=>by
  rcases st (bS l) (by simpa using wh l) (by simp) nH oS i j (lv (by simp) oS j (by simpa using hj) (Bk j)) hb with h | h
  ·rw [Bk] at h;cases h
  ·exact h
 have tM:=ms (by simp) oS
 have qL:∀i,i < l.length→i∈τ:=fun i hi=>lv (by simp) oS i (by simpa using hi) (Bk i)
 generalize hC:(List.filter (fun x:Nat × Nat=>Ls.any fun L=>!(gd l.toArray ks L x.1 x.2 true && gd l.toArray ks L x.1 x.2 false))
   ((List.range l.length).flatMap fun j=>((List.range j).filter fun i=>!((il l).getD j 0).testBit i).map fun i=>(i,j))) = C at hσ
 have El:∀p∈C,p.1 < p.2∧p.2 < l.length:=fun p hp=>by
  rw [← hC] at hp
  obtain ⟨hp,_⟩:=List.mem_filter.1 hp
  obtain ⟨j,hj,hp⟩:=List.mem_flatMap.1 hp
  obtain ⟨i,hi,rfl⟩:=List.mem_map.1 hp
  exact ⟨by simpa using (List.mem_range.1 (List.mem_filter.1 hi).1),by simpa using hj⟩
 have sC:=List.all_eq_true.1 hσ (C.map fun p=>bef τ p.1 p.2) (by have:=uc (C.map fun p=>bef τ p.1 p.2);simpa using this)
 have DO:C.zip (C.map fun p=>bef τ p.1 p.2) = C.map fun p=>(p,bef τ p.1 p.2):=by
  clear hC El hσ sC
  induction C with
  | nil=>rfl
  | cons p C ih=>simp [ih]
 rw [DO] at sC
 simp only [Bool.or_eq_true] at sC
 rcases sC with (sC | sC) | sC
 ·obtain ⟨L,CR,hLC⟩:=List.any_eq_true.1 sC
  have yJ:=List.all_eq_true.1 CS L CR
  simp only [Bool.and_eq_true,decide_eq_true_eq] at yJ
  obtain ⟨⟨⟨pM,jN⟩,jF⟩,zE⟩:=yJ
  have uQ:∀i∈L,i < l.length:=fun i hi=>by simpa using List.all_eq_true.1 jF i hi
  have jX:∀i,i < l.length→i∈L:=fun i hi=>by simpa using List.all_eq_true.1 jN i (by simpa using hi)
  refine ox hs qH τ _ L a w (by simp) oS pM (fun i=>⟨fun hi=>⟨by simpa using uQ i hi,Bk i⟩,fun hi=>jX i (by simpa using hi.1)⟩) ?_ (hL L CR)
  intro i j pI Gl
  have yY:=uQ i (kz pI).1
  have Dp:=uQ j (kz pI).2
  have jO:i≠j:=fun e=>by subst e;rw [fy pM] at pI;cases pI
  have uR:bef L j i = false:=by
   cases hb:bef L j i with
   | false=>rfl
   | true=>have:=eq pM pI hb;rw [fy pM] at this;cases this
  have Dw:bef τ i j = false:=by
   cases hb:bef τ i j with
   | false=>rfl
   | true=>have:=eq tM hb Gl;rw [fy tM] at this;cases this
  have m1:((il l).getD j 0).testBit i = false:=by
   cases hb:((il l).getD j 0).testBit i with
   | false=>rfl
   | true=>rw [EK i j yY Dp hb] at Dw;cases Dw
  have m2:i > j→((il l).getD i 0).testBit j = false:=fun qF=>by
   cases hb:((il l).getD i 0).testBit j with
   | false=>rfl
   | true =>
    have:=List.all_eq_true.1 (List.all_eq_true.1 zE i (by simpa using yY)) j (by simpa using qF)
    rw [hb] at this
    simp only [Bool.not_true,Bool.false_or] at this
    rw [this] at uR;cases uR
  have key:∀x y,x < y→y < l.length→((il l).getD y 0).testBit x = false→∀b,bef τ x y = b→gd l.toArray ks L x y b = true:=by
   intro x y wR hy hb b Aj
   by_cases yZ:(x,y)∈C
   ·have:=List.all_eq_true.1 hLC ((x,y),bef τ x y) (List.mem_map.2 ⟨(x,y),yZ,rfl⟩)
    rw [← Aj];exact this
   ·have Dv:¬ (Ls.any fun L=>!(gd l.toArray ks L x y true && gd l.toArray ks L x y false)) = true:=fun CW=>yZ (by
     rw [← hC]
     refine List.mem_filter.2 ⟨List.mem_flatMap.2 ⟨y,List.mem_range.2 hy,List.mem_map.2 ⟨x,List.mem_filter.2 ⟨List.mem_range.2 wR,by simp only [hb,Bool.not_false]⟩,rfl⟩⟩,CW⟩)
    have h2:(gd l.toArray ks L x y true && gd l.toArray ks L x y false) = true:=by
     cases kU:(gd l.toArray ks L x y true && gd l.toArray ks L x y false) with
     | true=>rfl
     | false=>exact absurd (List.any_eq_true.2 ⟨L,CR,by rw [kU];rfl⟩) Dv
    rw [Bool.and_eq_true] at h2
    cases b
    ·exact h2.2
    ·exact h2.1
  rcases Nat.lt_or_gt_of_ne jO with pK | hgt1
  ·have:=key i j pK Dp m1 false Dw
   simpa [gd,pI] using this
  ·have:=key j i hgt1 yY (m2 hgt1) true Gl
   simpa [gd,uR] using this
 ·exfalso
  obtain ⟨⟨p,b⟩,hp,h2⟩:=List.any_eq_true.1 sC
  obtain ⟨⟨q,c⟩,hq,h3⟩:=List.any_eq_true.1 h2
  obtain ⟨p',nM,Gx⟩:=List.mem_map.1 hp
  obtain ⟨q',pN,Gz⟩:=List.mem_map.1 hq
  injection Gx with e1 e2
  injection Gz with e3 e4
  subst e1;subst e3
  have bound:∀p∈C,∀b,bef τ p.1 p.2 = b→bef τ (if b then p.1 else p.2) (if b then p.2 else p.1) = true∧(if b then p.1 else p.2) < l.length∧(if b then p.2 else p.1) < l.length:=fun p hp b hb=>by
   obtain ⟨h1,h2⟩:=El p hp
   cases b
   ·refine ⟨?_,by simpa using h2,by simp;omega⟩
    rcases rh (qL p.1 (by omega)) (qL p.2 h2) (by omega) with h | h
    ·rw [h] at hb;cases hb
    ·simpa using h
   ·exact ⟨by simpa using hb,by simp;omega,by simpa using h2⟩
  obtain ⟨b1,b2,b3⟩:=bound _ nM b e2
  obtain ⟨c1,c2,c3⟩:=bound _ pN c e4
  simp only [Bool.and_eq_true] at h3
  have reach:∀i j,i < l.length→j < l.length→ju (il l) i j = true→i = j∨bef τ i j = true:=fun i j hi hj h=>by
   simp only [ju,Bool.or_eq_true,beq_iff_eq] at h
   rcases h with h | h
   ·exact .inl h
   ·exact .inr (EK i j hi hj h)
  have step1:bef τ (if b then p'.1 else p'.2) (if c then q'.1 else q'.2) = true:=by
   rcases reach _ _ b3 c2 h3.1 with e | e
   ·rw [← e];exact b1
   ·exact eq tM b1 e
  have step2:=eq tM step1 c1
  have:=(by
   rcases reach _ _ c3 b2 h3.2 with e | e
   ·rw [e] at step2;exact step2
   ·exact eq tM step2 e:bef τ (if b then p'.1 else p'.2) (if b then p'.1 else p'.2) = true)
  rw [fy tM] at this
  cases this
 ·exfalso
  obtain ⟨⟨p,b⟩,hp,h2⟩:=List.any_eq_true.1 sC
  obtain ⟨⟨q,c⟩,hq,h3⟩:=List.any_eq_true.1 h2
  obtain ⟨⟨r,d⟩,hr,h4⟩:=List.any_eq_true.1 h3
  obtain ⟨p',nM,Gx⟩:=List.mem_map.1 hp
  obtain ⟨q',pN,Gz⟩:=List.mem_map.1 hq
  obtain ⟨r',hr',Ey⟩:=List.mem_map.1 hr
  injection Gx with e1 e2
  injection Gz with e3 e4
  injection Ey with e5 e6
  subst e1;subst e3;subst e5
  have bound:∀p∈C,∀b,bef τ p.1 p.2 = b→bef τ (if b then p.1 else p.2) (if b then p.2 else p.1) = true∧(if b then p.1 else p.2) < l.length∧(if b then p.2 else p.1) < l.length:=fun p hp b hb=>by
   obtain ⟨h1,h2⟩:=El p hp
   cases b
   ·refine ⟨?_,by simpa using h2,by simp;omega⟩
    rcases rh (qL p.1 (by omega)) (qL p.2 h2) (by omega) with h | h
    ·rw [h] at hb;cases hb
    ·simpa using h
   ·exact ⟨by simpa using hb,by simp;omega,by simpa using h2⟩
  obtain ⟨b1,b2,b3⟩:=bound _ nM b e2
  obtain ⟨c1,c2,c3⟩:=bound _ pN c e4
  obtain ⟨d1,d2,d3⟩:=bound _ hr' d e6
  simp only [Bool.and_eq_true] at h4
  have reach:∀i j,i < l.length→j < l.length→ju (il l) i j = true→i = j∨bef τ i j = true:=fun i j hi hj h=>by
   simp only [ju,Bool.or_eq_true,beq_iff_eq] at h
   rcases h with h | h
   ·exact .inl h
   ·exact .inr (EK i j hi hj h)
  have go:∀i j k,j < l.length→k < l.length→bef τ i j = true→ju (il l) j k = true→bef τ i k = true:=fun i j k hj hk h h'=>by
   rcases reach _ _ hj hk h' with e | e
   ·rw [← e];exact h
   ·exact eq tM h e
  have step1:=go _ _ _ b3 c2 b1 h4.1
  have step2:=go _ _ _ c3 d2 (eq tM step1 c1) h4.2.1
  have step3:=go _ _ _ d3 b2 (eq tM step2 d1) h4.2.2
  rw [fy tM] at step3
  cases step3
theorem tq {id:Nat} {l:List Oper} {Q:Exit→Act→World→Prop} {a:Act} {w:World} (ks:List Nat) (Ls:List (List Nat)) (S:World→Prop) (hm:P.follows .mixedOrders = true)
  (hB:vj l ks.toArray Ls = true) (h:∀L∈Ls,wpR P l.toArray ks.toArray S Q L a w.drew):(Code.region id l.toArray true).wp P Q a w :=
 wp_region_draw fun t=>by
  simp only [Region.schedule,hm,Bool.true_or,if_true]
  exact aM hB h t
theorem kw {id:Nat} {l:List Oper} {Q:Exit→Act→World→Prop} {a:Act} {w:World} (ks:List Nat) (gs:List (Option (Nat × Bool))) (Ls:List (List Nat)) (S:World→Prop) (hm:P.follows .mixedOrders = true)
  (hB:vj l ks.toArray Ls = true) (hR:pn l ks gs = true) (CS:(Ls.all fun L=>L.all fun i=>decide (i < l.length)) = true)
  (h:∀L∈Ls,wpG P S Q (dt l L) (dt ks L) (dt gs L) a w.drew):(Code.region id l.toArray true).wp P Q a w:=by
 simp only [pn,Bool.and_eq_true,beq_iff_eq] at hR
 obtain ⟨⟨hk,hg⟩,hgd⟩:=hR
 refine tq ks Ls S hm hB fun L hL=>?_
 have wF:∀i∈L,i < l.length:=fun i hi=>by simpa using List.all_eq_true.1 (List.all_eq_true.1 CS L hL) i hi
 have h1:=h L hL
 rw [fA (ops:=l.toArray) _ _ _ (by rw [te wF (by omega),mr (by intro i hi;rw [List.length_zip];have:=wF i hi;omega),mr wF]) (by
  rw [te wF (by omega)]
  exact List.all_eq_true.2 fun x hx=>List.all_eq_true.1 hgd x (bY hx))] at h1
 refine wpR_of (dt l L) (dt ks L) (by simpa using np wF) ?_ h1
 have e:=np (l:=ks) (L:=L) (by intro i hi;have:=wF i hi;omega)
 have e2:L.map (fun i=>ks.toArray.getD i 3) = (L.map fun i=>ks[i]?).map (·.getD 3):=by simp [Array.getD_eq_getD_getElem?]
 rw [e2,e]
 simp [Function.comp_def]
end
end Go.Proofs.YtfoleblcaloeoaaGreatDoor
