import Derived.Test.YtfoleblcaloeoaaGreatDoorZaf
import Derived.Test.YtfoleblcaloeoaaGreatDoorZag
import Derived.Test.YtfoleblcaloeoaaGreatDoorZae
import Derived.Lib.BytesEntry
import Derived.Lib.IndexLaws
import Derived.Lib.ConvBytes
import Derived.Carry
import Derived.OpenShut
set_option maxHeartbeats 40000000
set_option maxRecDepth 20000
namespace Go.Proofs.YtfoleblcaloeoaaGreatDoor
open Go Go.RowKit
theorem fW (x y:Cl) (f:Nat):(kx x y f).l = if f = 98 then x.l else y.l:=by
 unfold kx;by_cases h:f = 98
 ·subst h;rfl
 ·rw [ag h]
  repeat' split
  all_goals first | rfl | exact absurd (by assumption) h
variable {v:Value} {x:Cl} {w:World}
theorem part_rb (hv:RB w v x.l):∀(F:List Nat) (y:Cl) (u:Value),RB w u y.l→RB w (F.foldl (qy v) u) (F.foldl (kx x) y).l:=by
 intro F
 induction F with
 | nil=>intro y u h;exact h
 | cons f F ih =>
  intro y u h;refine ih _ _ ?_;rw [fW];unfold qy;split
  ·exact hv
  ·exact h
theorem bare_rb (hv:RB w v x.l):RB w (bareU x v) (jz x).l:=part_rb hv (fld x.k) { zCl with k:=x.k } zV (RE.nil ucl 1 w none 0)
theorem part_b8 (hx:∀b∈x.l,b < 256):∀(F:List Nat) (y:Cl),(∀b∈y.l,b < 256)→∀b∈(F.foldl (kx x) y).l,b < 256:=by
 intro F
 induction F with
 | nil=>intro y h;exact h
 | cons f F ih =>
  intro y h;refine ih _ ?_;rw [fW];split
  ·exact hx
  ·exact h
theorem bare_b8 (hx:∀b∈x.l,b < 256):∀b∈(jz x).l,b < 256:=part_b8 hx (fld x.k) { zCl with k:=x.k } (by intro b hb;cases hb)
def mg (x:Cl):Bool:=(fld x.k != []) && dx x (jz x) && decide (x.l.length≤8)
theorem str_ne (F:List Nat):((ft F).toList == []) = (F == []):=by rw [vy];cases F <;> rfl
theorem MayK_any (hf:FW w) (hx:x.Ok) (hv:RB w v x.l) :
  Calls Tryz.prog 56 #[.agg (clc x v)] w fun e w'=>e = .returned (.bool (mg x))∧Chg [] w w':=by
 obtain ⟨A0,c0,rfl⟩:=RE.form hv;have lH:=ax w 47 (clc x (.slice A0 x.l.length c0));have kO:Chg [] w (w.alloc (.cells (clc x (.slice A0 x.l.length c0)) 47)):=(av [] w).alloc _;obtain ⟨W2,kJ⟩:∃W2,W2 = w.alloc (.cells (clc x (.slice A0 x.l.length c0)) 47):=⟨_,rfl⟩;rw [← kJ] at lH kO;have HB:=bk (show KB W2 w.heap.size x (.slice A0 x.l.length c0) from lH);have HC:=bk kO;obtain ⟨c1,c2,c3,c4,c5,c6,c7,c8,c9,c10,c11,c12,cl,cf⟩:=ay lH;have tZ:=bk (fun W (h:Chg [] w W)=>fE (hf.stay h) hx.k);have Gb:=bk (fun W (h:Chg [] w W)=>iV (hf.stay h) (x:=x) (v:=.slice A0 x.l.length c0) hx.k ⟨_,_,_,rfl⟩);have uA:=bk (fun W (h:Chg [] w W)=>iR (x:=x) (y:=jz x) (hv.stay h) (bare_rb (hv.stay h)) hx.l (bare_b8 hx.l));have kW:=bk kJ;clear lH kO kJ hf hv hx c2 c3 c4 c5 c6 c7 c8 c9 c10 c11 cf;have hs:=str_ne (fld x.k);by_cases h0:fld x.k = []
 ·have hm:mg x = false:=by unfold mg;rw [h0];rfl
  rw [hm];rw [h0] at hs tZ;have e1:((ft []).toList == []) = true:=hs;have e2:((ft []).toList != []) = false:=by rw [bne,e1];rfl
  have e3:(ft []).toList = []:=by rw [vy];rfl
  generalize ft [] = s at e1 e2 e3 tZ;clear hm h0 hs Gb uA;go_enter Tryz.func56,Tryz.ntmps56;go_wp2_with (first|refine cc rfl _ rfl rfl ?_;try rw [← kW.out]);refine rgt [0,1,3,0,0,5,1,6,3,0,0,0,1,0,0,0,0] [none,none,none,none,none,some (7,true),some (7,true),some (7,true),some (7,true),none,none,some (13,true),some (13,true),some (13,true),some (13,true),none,none] (fun W=>KB W w.heap.size x (.slice A0 x.l.length c0)) ?_;go_wp2_with (first|refine cdA fun K U=>?_|refine cx ?_;go_simp|refine cy ?_|refine bn fun K U=>?_;go_simp|refine bq ?_);refine (tZ.out W2.drew HC.out.drew).mono ?_;rintro e W3 ⟨rfl,rfl⟩;refine U _ _ ?_;clear U K;go_wp2_with (first|refine cdA fun K U=>?_|refine cx ?_;go_simp|refine cy ?_|refine bn fun K U=>?_;go_simp|refine bq ?_);go_ret;exact ⟨rfl,HC.out.drew⟩
 ·have e1:((ft (fld x.k)).toList == []) = false:=by rw [hs];exact aj h0
  have e2:((ft (fld x.k)).toList != []) = true:=by rw [bne,e1];rfl
  have e3:¬ (ft (fld x.k)).toList = []:=by simpa using e1
  have hm:mg x = (dx x (jz x) && decide (x.l.length≤8)):=by
   unfold mg;rw [show (fld x.k != []) = true from bne_iff_ne.2 h0,Bool.true_and]
  rw [hm];clear hm h0 hs;generalize ft (fld x.k) = s at e1 e2 e3 tZ;obtain ⟨y,hy⟩:∃y,dx x (jz x) = y:=⟨_,rfl⟩;rw [hy] at uA ⊢;clear hy;generalize jz x = z at Gb uA;generalize bareU x (.slice A0 x.l.length c0) = u at Gb uA;have d1:((x.l.length:Int)≤8) = (x.l.length≤8):=by simp;omega
  cases y with
  | false =>
   rw [Bool.false_and];go_enter Tryz.func56,Tryz.ntmps56;go_wp2_with (first|refine cc rfl _ rfl rfl ?_;try rw [← kW.out]);refine rgt [0,1,3,0,0,5,5,6,3,0,0,0,1,0,0,0,0] [none,none,none,none,none,some (7,true),some (7,true),some (7,true),some (7,true),none,none,some (13,true),some (13,true),some (13,true),some (13,true),none,none] (fun W=>KB W w.heap.size x (.slice A0 x.l.length c0)) ?_;go_wp2_with (first|refine cdA fun K U=>?_|refine cx ?_;go_simp|refine cy ?_|refine bn fun K U=>?_;go_simp|refine bq ?_);refine (tZ.out W2.drew HC.out.drew).mono ?_;rintro e W3 ⟨rfl,rfl⟩;refine U _ _ ?_;clear U K;have hS:KB W2.drew w.heap.size x (.slice A0 x.l.length c0):=HB.out.drew;go_wp2_with (first|refine ca 47 _ rfl rfl (fun w' kK=>KB.load kK) hS ?_|refine cdA fun K U=>?_|refine cx ?_;go_simp|refine cy ?_|refine bn fun K U=>?_;go_simp|refine bq ?_);(refine cd hS fun K U=>?_);go_simp;refine (Gb.out W2.drew HC.out.drew).mono ?_;rintro e W3 ⟨rfl,kM⟩;have kL:=bk (HC.out.drew.stay kM);have nI:KB W3 w.heap.size x (.slice A0 x.l.length c0):=bh hS kM;refine U _ _ nI ?_;clear U K hS;have pM:=bk nI;clear nI;go_wp2_with (first|refine cdA fun K U=>?_|refine cx ?_;go_simp|refine cy ?_|refine bn fun K U=>?_;go_simp|refine bq ?_);refine (uA.out _ kL.out).mono ?_;rintro e W4 ⟨rfl,kZ⟩;refine U _ _ ?_;clear U K;obtain ⟨-,-,-,-,-,-,-,-,-,-,-,q12,ql,-⟩:=ay (bh pM.out kZ);have lA:=bk (kL.out.stay kZ);clear kM kZ;go_wp2_with (first|refine cdA fun K U=>?_|refine cx ?_;go_simp|refine cy ?_|refine bn fun K U=>?_;go_simp|refine bq ?_);go_ret;exact ⟨rfl,lA.out⟩
  | true =>
   rw [Bool.true_and];go_enter Tryz.func56,Tryz.ntmps56;go_wp2_with (first|refine cc rfl _ rfl rfl ?_;try rw [← kW.out]);refine rgt [0,1,3,0,0,5,5,6,3,0,0,0,1,0,0,0,0] [none,none,none,none,none,some (7,true),some (7,true),some (7,true),some (7,true),none,none,some (13,true),some (13,true),some (13,true),some (13,true),none,none] (fun W=>KB W w.heap.size x (.slice A0 x.l.length c0)) ?_;go_wp2_with (first|refine cdA fun K U=>?_|refine cx ?_;go_simp|refine cy ?_|refine bn fun K U=>?_;go_simp|refine bq ?_);refine (tZ.out W2.drew HC.out.drew).mono ?_;rintro e W3 ⟨rfl,rfl⟩;refine U _ _ ?_;clear U K;have hS:KB W2.drew w.heap.size x (.slice A0 x.l.length c0):=HB.out.drew;go_wp2_with (first|refine ca 47 _ rfl rfl (fun w' kK=>KB.load kK) hS ?_|refine cdA fun K U=>?_|refine cx ?_;go_simp|refine cy ?_|refine bn fun K U=>?_;go_simp|refine bq ?_);(refine cd hS fun K U=>?_);go_simp;refine (Gb.out W2.drew HC.out.drew).mono ?_;rintro e W3 ⟨rfl,kM⟩;have kL:=bk (HC.out.drew.stay kM);have nI:KB W3 w.heap.size x (.slice A0 x.l.length c0):=bh hS kM;refine U _ _ nI ?_;clear U K hS;have pM:=bk nI;clear nI;go_wp2_with (first|refine cdA fun K U=>?_|refine cx ?_;go_simp|refine cy ?_|refine bn fun K U=>?_;go_simp|refine bq ?_);refine (uA.out _ kL.out).mono ?_;rintro e W4 ⟨rfl,kZ⟩;refine U _ _ ?_;clear U K;obtain ⟨-,-,-,-,-,-,-,-,-,-,-,q12,ql,-⟩:=ay (bh pM.out kZ);have lA:=bk (kL.out.stay kZ);clear kM kZ;go_wp2_with (first|refine cdA fun K U=>?_|refine cx ?_;go_simp|refine cy ?_|refine bn fun K U=>?_;go_simp|refine bq ?_);go_ret;exact ⟨by simp,lA.out⟩
def ints (l:List Nat):List Int:=l.map fun n:Nat=>(n:Int)
variable {f:Nat}
theorem jG {l:List Nat} (h8:∀b∈l,b < 256) (hf:f < 256):0≤Lib.indexByte (Lib.bytesOf (ints l)) (UInt8.ofNat f)↔f∈l:=by
 induction l with
 | nil=>simp [Lib.bytesOf,Lib.indexByte,ints]
 | cons b l ih =>
  have ihl:=ih (fun b hb=>h8 b (List.mem_cons_of_mem _ hb));have hb:=h8 b (List.mem_cons_self ..);have tB:=Lib.indexByte_ge (Lib.bytesOf (ints l)) (UInt8.ofNat f);have he:Lib.bytesOf (ints (b :: l)) = UInt8.ofNat b :: Lib.bytesOf (ints l):=by simp [Lib.bytesOf,ints]
  rw [he];have hbf:(UInt8.ofNat b == UInt8.ofNat f) = decide (b = f):=by
   by_cases h:b = f
   ·subst h;simp
   ·rw [ac h];refine aj fun e=>h ?_;have:=congrArg UInt8.toNat e;simpa [Nat.mod_eq_of_lt hb,Nat.mod_eq_of_lt hf] using this
  unfold Lib.indexByte;rw [hbf];by_cases h:b = f
  ·subst h;simp
  ·have kT:¬ f = b:=fun e=>h e.symm;simp only [h,decide_false,List.mem_cons,kT,false_or,← ihl];generalize Lib.indexByte (Lib.bytesOf (ints l)) (UInt8.ofNat f) = z at tB ⊢;by_cases hz:z = -1
   ·subst hz;simp
   ·have:(z == -1) = false:=aj hz;simp [this];omega
set_option maxRecDepth 100000 in
theorem za {l:List Nat} (hv:RB w v l) (h8:∀b∈l,b < 256) (h0:0 < l.length) (hf:f < 256) :
  Calls Tryz.prog 114 #[v,.int .u8 f] w fun e w'=>(∃z:Int,e = .returned (.int .i64 z)∧(0≤z↔f∈l))∧w = w':=by
 have nL:∃z:Int,(Extern.BytealgIndexByte.indexByte #[v,.int .u8 f]).run Tryz.prog w = .ok (.int .i64 z) w∧(0≤z↔f∈l):=by
  obtain ⟨A,c,rfl⟩:=RE.form hv;obtain ⟨g,off,rfl⟩:=RE.addr hv h0;refine ⟨_,Lib.run_indexByteSlice w g off l.length c (ints l) (by simp [ints]) (fun i hi=>?_) f,?_⟩
  ·have q:=RE.cell gk hv hi (j:=0) (by omega) rfl;rw [Nat.mul_one,Nat.add_zero] at q;rw [q];simp [ints,List.getD,List.getElem?_eq_getElem hi]
  ·have:=jG h8 hf;simpa using this
 obtain ⟨z,hz,hi⟩:=nL;have HI:=bk hi;have hcall:∀args,(callFunc 135 args).run Tryz.prog w = ((Extern.BytealgIndexByte.indexByte args).run Tryz.prog w).andThen fun v w'=>.ok (.value v) w':=fun args =>
  run_callFunc_extern Tryz.func135 (by kernel_rfl) (by kernel_rfl) (by kernel_rfl) (e:=Extern.BytealgIndexByte.indexByte) (by kernel_rfl) args w
 clear hv h8 hi h0;go_enter Tryz.func114,Tryz.ntmps114;go_wp2_with fail;go_ret;exact ⟨⟨z,rfl,HI.out⟩,rfl⟩
set_option maxRecDepth 100000 in
theorem zd {l:List Nat} (hv:RB w v l) (h8:∀b∈l,b < 256) (h0:0 < l.length) (hf:f < 128) :
  Calls Tryz.prog 88 #[v,.int .i32 f] w fun e w'=>(∃z:Int,e = .returned (.int .i64 z)∧(0≤z↔f∈l))∧w = w':=by
 have HB:=bk (za hv h8 h0 (f:=f) (by omega));have f0:(0:Int)≤(f:Int):=by omega
 have f1:(f:Int) < 128:=by omega
 have hw:IntKind.u8.wrap (f:Int) = (f:Int):=by rw [IntKind.wrap_u8];omega
 clear hv h8 h0;go_enter Tryz.func88,Tryz.ntmps88;go_wp2_with fail;refine HB.out.mono ?_;rintro e W ⟨⟨z,rfl,hz⟩,rfl⟩;have HZ:=bk hz;clear hz;go_wp2_with fail;go_ret;exact ⟨⟨z,rfl,HZ.out⟩,rfl⟩
theorem uq {l:List Nat} (hv:RB w v l) (h8:∀b∈l,b < 256) (h0:0 < l.length) (hf:f < 128) :
  Calls Tryz.prog 59 #[v,.int .i32 f] w fun e w'=>e = .returned (.bool (l.contains f))∧w = w':=by
 have HB:=bk (zd hv h8 h0 hf);clear hv h8 h0 hf;go_enter Tryz.func59,Tryz.ntmps59;go_wp2_with fail;refine HB.out.mono ?_;rintro e W ⟨⟨z,rfl,hz⟩,rfl⟩;have HZ:=bk hz;clear hz;go_wp2_with fail;go_ret;refine ⟨?_,rfl⟩;have:decide (0≤z) = l.contains f:=by
  rw [Bool.eq_iff_iff];simpa using HZ.out
 simp [this]
theorem eX (w:World) (F:List Nat) (h8:∀b∈F,b < 256):∃c w',(convert 9 38 (.string (ft F))).run Tryz.prog w = .ok (.slice (some ⟨w.heap.size,0,none⟩) F.length c) w'∧RB w' (.slice (some ⟨w.heap.size,0,none⟩) F.length c) F∧Chg [] w w':=by
 have h:=Lib.run_convert_string_bytes (P:=Tryz.prog) w 9 38 5 (ft F) Tryz.underlying9 Tryz.underlying38 Tryz.underlying5;rw [my] at h;refine ⟨_,_,h,⟨by rw [fz gk],_,_,rfl,grownCap_ge _ _ _ _,fun _=>⟨_,_,rfl,fun j u hu=>?_⟩⟩,?_⟩
 ·have hj:j < F.length:=by
   have h1:=(List.getElem?_eq_some_iff.1 hu).1;rw [fz gk] at h1;omega
  have hg:=ut gk F j 0 hj (by omega);rw [Nat.mul_one,Nat.add_zero,hu] at hg;have hc:=Lib.bytesWorld_cell w 5 (ft F) j (by rw [my];exact hj);rw [Nat.zero_add,hc,hg];have h2:=h8 _ (ao hj);simp [ucl,ft,List.getD,List.getElem?_eq_getElem hj,Nat.mod_eq_of_lt h2]
 ·refine ⟨?_,?_,?_,by rw [Lib.bytesWorld_size];omega,fun k hk _=>Lib.bytesWorld_at_old w 5 (ft F) k hk⟩
  all_goals simp [Lib.bytesWorld,World.freeze,World.alloc,World.drew,-World.alloc_eq,-World.drew_eq]
variable {F:List Nat}
set_option maxRecDepth 100000 in
theorem hasK_any {b5:Nat} (hb:Blk w b5 9 #[.string (ft F)]) (h0:0 < F.length) (h8:∀b∈F,b < 256) (hf:f < 128) :
  Calls Tryz.prog 58 #[.int .i32 f,.pointer (some ⟨b5,0,none⟩)] w fun e w'=>e = .returned (.bool (F.contains f))∧Chg [] w w':=by
 have q0:=hb.cell 0;simp at q0;have ql:=hb.lt;obtain ⟨c,w1,Cp,hr,hc⟩:=eX w F h8;have HB:=bk (uq hr h8 h0 hf);have HC:=bk hc;clear hb hr hc h8 h0 hf;go_enter Tryz.func58,Tryz.ntmps58;go_wp2_with fail;refine HB.out.mono ?_;rintro e W ⟨rfl,rfl⟩;go_wp2_with fail;go_ret;exact ⟨by simp,HC.out⟩
theorem ig (n a b:Int) (w:World):Calls Tryz.prog 60 #[.int .i64 n,.int .i64 a,.int .i64 b] w fun e w'=>e = .returned (.bool (decide (a≤n∧n≤b)))∧w = w':=by
 by_cases h1:a≤n
 ·by_cases h2:n≤b
  ·rw [ae ⟨h1,h2⟩];have d1:decide (a≤n) = true:=ae h1;have d2:decide (n≤b) = true:=ae h2;go_enter Tryz.func60,Tryz.ntmps60;go_wp2_with fail;go_ret;exact ⟨rfl,rfl⟩
  ·rw [ac (fun h=>h2 h.2)];have d1:decide (a≤n) = true:=ae h1;have d2:decide (n≤b) = false:=ac h2;go_enter Tryz.func60,Tryz.ntmps60;go_wp2_with fail;go_ret;exact ⟨rfl,rfl⟩
 ·rw [ac (fun h=>h1 h.1)];have d1:decide (a≤n) = false:=ac h1;go_enter Tryz.func60,Tryz.ntmps60;go_wp2_with fail;go_ret;exact ⟨rfl,rfl⟩
theorem rb (addr size of:Int) (h0:0≤of) (h1:of≤1000000) (w:World):Calls Tryz.prog 62 #[.int .i64 addr,.int .i64 size,.int .i64 of] w fun e w'=>e = .returned (.bool (decide ((1≤size∧size≤8)∧0≤addr∧addr≤of - size)))∧w = w':=by
 have HA:=bk (fun W=>ig size 1 8 W);have HB:=bk (fun W=>ig addr 0 (of - size) W);by_cases hs:1≤size∧size≤8
 ·rw [ae hs] at HA;have hd:decide ((1≤size∧size≤8)∧0≤addr∧addr≤of - size) = decide (0≤addr∧addr≤of - size):=by simp [hs]
  rw [hd];obtain ⟨s1,s2⟩:=hs;have hw:wrap64 (of - size) = of - size:=by unfold wrap64;omega
  generalize decide (0≤addr∧addr≤of - size) = r at HB ⊢;clear hd;go_enter Tryz.func62,Tryz.ntmps62;go_wp2_with fail;refine (HA.out _).mono ?_;rintro e W ⟨rfl,rfl⟩;go_wp2_with fail;refine (HB.out _).mono ?_;rintro e W ⟨rfl,rfl⟩;go_wp2_with fail;go_ret;exact ⟨rfl,rfl⟩
 ·rw [ac hs] at HA;rw [ac (fun h=>hs h.1)];clear hs;go_enter Tryz.func62,Tryz.ntmps62;go_wp2_with fail;refine (HA.out _).mono ?_;rintro e W ⟨rfl,rfl⟩;go_wp2_with fail;go_ret;exact ⟨rfl,rfl⟩
structure BT (l:List (Nat × Value)) (d:Cf):Prop where
 h:Tryz.prog.built 26 l = some (cg d)
variable {Q:Exit→Act→World→Prop} {a:Act} {o:Oper} {rest:List Oper} {ops:Array Oper}
theorem yn {d:Cf} (hg:o.guard = none) (parts:Array (Nat × Operand)) (ho:o.op = .build 26 parts)
  {l:List (Nat × Value)} (hb:BT l d) (hl:(parts.map fun (i,x)=>(i,a.eval x)).toList = l) (h:wpList Tryz.prog ops Q rest (a.put o.dst (.agg (cg d))) w):wpList Tryz.prog ops Q (o :: rest) a w :=
 wpList_build hg 26 parts ho (by rw [hl,hb.h];rfl) (by rw [hl,hb.h];exact h)
variable {b:Nat}
theorem dd {c:Cf} (hg:o.guard = none) (x:Operand) (ho:o.op = .load 26 x)
  (hx:a.eval x = .pointer (some ⟨b,0,none⟩)) (h0:CB w b c) (h:wpList Tryz.prog ops Q rest (a.put o.dst (.agg (cg c))) w):wpList Tryz.prog ops Q (o :: rest) a w:=od h0 hg x ho hx h
theorem qw {c d:Cf} (hg:o.guard = none) (x y:Operand) (ho:o.op = .store 26 x y)
  (hx:a.eval x = .pointer (some ⟨b,0,none⟩)) (hy:a.eval y = .agg (cg d)) (h0:CB w b c) (h:∀w',CB w' b d→Chg [b] w w'→wpList Tryz.prog ops Q rest (a.put o.dst undef) w'):wpList Tryz.prog ops Q (o :: rest) a w:=rx h0 hg x y ho hx hy h
end Go.Proofs.YtfoleblcaloeoaaGreatDoor
namespace Go.Proofs.YtfoleblcaloeoaaGreatDoor.Ar
open Go Go.RowKit
theorem wst_new (w:World) (page count g:Int):WSt w (((((w.alloc (.cells #[.int .i64 page] 3)).alloc (.cells #[.int .i64 count] 3)).alloc (.cells #[.int .u8 g] 5)).alloc (.cells #[.slice none 0 0] 140)).alloc (.cells #[.bool false] 4)) w.heap.size (w.heap.size+1) (w.heap.size+1+1) (w.heap.size+1+1+1) (w.heap.size+1+1+1+1) page count g (.slice none 0 0) [] false where
 chg:=(((((av _ _).alloc _).alloc _).alloc _).alloc _).alloc _
 p:=((((ax w 3 _).alloc _).alloc _).alloc _).alloc _
 c:=by
  have:=ax (w.alloc (.cells #[.int .i64 page] 3)) 3 #[.int .i64 count];rw [af] at this;exact ((this.alloc _).alloc _).alloc _
 g:=by
  have:=ax ((w.alloc (.cells #[.int .i64 page] 3)).alloc (.cells #[.int .i64 count] 3)) 5 #[.int .u8 g];rw [af,af] at this;exact (this.alloc _).alloc _
 bl:=by
  have:=ax (((w.alloc (.cells #[.int .i64 page] 3)).alloc (.cells #[.int .i64 count] 3)).alloc (.cells #[.int .u8 g] 5)) 140 #[.slice none 0 0];rw [af,af,af] at this;exact this.alloc _
 d:=by
  have:=ax ((((w.alloc (.cells #[.int .i64 page] 3)).alloc (.cells #[.int .i64 count] 3)).alloc (.cells #[.int .u8 g] 5)).alloc (.cells #[.slice none 0 0] 140)) 4 #[.bool false];rw [af,af,af,af] at this;exact this
 s:=SE.nil _ _ _ _;nl:=by omega
 nd:=by omega
 nV:=fun k hk=>(cw hk).elim
variable {b:Nat}
theorem box3 {W:World} {p c g:Int} (h:Blk W b 144 #[.int .i64 p,.int .i64 c,.int .u8 g]):W.cell? ⟨b,0,none⟩ = some (.int .i64 p)∧W.cell? ⟨b,1,none⟩ = some (.int .i64 c)∧W.cell? ⟨b,2,none⟩ = some (.int .u8 g)∧b < W.heap.size:=⟨by simpa using h.cell 0,by simpa using h.cell 1,by simpa using h.cell 2,h.lt⟩
variable {page count:Int} {F:List Nat} {l:List Rn} {d:Nat} {w:World}
theorem bX (hm:AMem w d l F) (hl:Fit l) {g:Int} (h0:0≤page) (h1:1≤count) (h2:page+count≤1024) :
  Calls Tryz.prog 122 #[.pointer (some ⟨d,0,none⟩),.int .i64 page,.int .i64 count,.int .u8 g] w fun e w'=>∃A n c,e = .returned (.slice A n c)∧SR w' (.slice A n c) (withL l page count g)∧(∀k∈own (.slice A n c),w.heap.size≤k)∧Chg [] w w':=by
 obtain ⟨v,hb,hs,hF,kG⟩:=hm;obtain ⟨A,c0,rfl⟩:=hs.form;have b0:=hb.cell 0;simp at b0;have hdl:=hb.lt;have sV:=hl.len;have kM:count≤1024:=by omega
 have hp3:page≤1024:=by omega
 have Hs:=bk hs;have Hl:=bk hl;have Bb:=wst_new w page count g;have HW0:=bk Bb;clear hs hl hb hF kG Bb;obtain ⟨d1,d2,d3,d4⟩:d < w.heap.size+1∧d < w.heap.size+1+1∧d < w.heap.size+1+1+1∧d < w.heap.size+1+1+1+1:=by omega
 go_enter Tryz.func122,Tryz.ntmps122;go_wp2_with fail;have Bb:=HW0.out;clear HW0;generalize (((((w.alloc (.cells #[.int .i64 page] 3)).alloc (.cells #[.int .i64 count] 3)).alloc (.cells #[.int .u8 g] 5)).alloc (.cells #[.slice none 0 0] 140)).alloc (.cells #[.bool false] 4)) = W0 at Bb ⊢;clear d1 d2 d3 d4;generalize w.heap.size+1+1+1+1 = bd at Bb ⊢;generalize w.heap.size+1+1+1 = bl at Bb ⊢;generalize w.heap.size+1+1 = bg at Bb ⊢;generalize w.heap.size+1 = bc at Bb ⊢;obtain ⟨bp,hbp⟩:∃bp,bp = w.heap.size:=⟨_,rfl⟩;rw [← hbp] at Bb ⊢;clear hbp;go_loopw [24] (fun i wr=>∃(k:Nat) (A1:Option Addr) (n1 c1:Nat),k≤l.length∧i = .int .i64 k∧Hid (WSt w wr bp bc bg bl bd page count g (.slice A1 n1 c1) ((l.take k).foldl (jw page count g) ([],false)).1 ((l.take k).foldl (jw page count g) ([],false)).2)) (fun i _=>l.length - (intOf i).toNat)
 case atStart=>exact ⟨0,none,0,0,by omega,rfl,bk Bb⟩
 case round =>
  obtain ⟨k,A1,n1,c1,hk,rfl,uH⟩:=hrel;clear Bb;by_cases hkt:k < l.length
  ·have xN:=Hs.out.stay uH.out.chg;obtain ⟨g0,off,rfl⟩:=SE.addr xN (by omega);obtain ⟨q0,q1,q2⟩:=RR.cells xN.re hkt;have tO:g0 < wr.heap.size:=xN.own_lt g0 (by simp [own,Value.ownBlock]);have oV:=Hl.out.get hkt;have hfs:=jF (page:=page) (count:=count) (g:=g) hkt;have AI:=step_fit h0 h1 h2 (uv (g:=g) h0 h1 Hl.out k) (r:=l[k]) (by
    rw [← List.take_succ_eq_append_getElem hkt]
    have:Fit (l.take (k+1) ++ l.drop (k+1)):=by rw [List.take_append_drop];exact Hl.out
    exact this.cut)
   generalize (l.take k).foldl (jw page count g) ([],false) = s at uH hfs AI;obtain ⟨r,hr⟩:∃r,r = l[k]:=⟨_,rfl⟩;rw [← hr] at q0 q1 q2 oV hfs AI;obtain ⟨⟨rp1,rp2⟩,rc1,rc2,rc3⟩:=oV;clear hr xN;have Hfs:=bk hfs;have Aw:=bk AI;clear hfs AI;obtain ⟨p,c,rg⟩:=r;simp only at q0 q1 q2 rp1 rp2 rc1 rc2 rc3;obtain ⟨m1,BF⟩:∃m,m = min (p+c) page:=⟨_,rfl⟩;obtain ⟨m2,vO⟩:∃m,m = max p (page+count):=⟨_,rfl⟩;have u1:=fun ts ty w=>run_min ts ty .i64 .i64 (p+c) page w;have u2:=fun ts ty w=>run_max ts ty .i64 .i64 p (page+count) w;rw [← BF] at u1;rw [← vO] at u2;obtain ⟨a1,a2⟩:0≤m1∧m1≤2000:=(by omega);obtain ⟨a3,a4⟩:0≤m2∧m2≤4000:=(by omega);obtain ⟨a5,a6⟩:-8000≤m1 - p∧m1 - p≤8000:=(by omega);obtain ⟨a7,a8⟩:-8000≤p+c - m2∧p+c - m2≤8000:=(by omega);have Hm1:=bk BF;have Hm2:=bk vO;clear BF vO;go_wp2_with fail;have FD:wr.heap.size∉own (.slice A1 n1 c1):=fun h=>by have:=uH.out.s.own_lt _ h;omega
   have sM:=uH.out.stay ((av [] wr).alloc (.cells #[.int .i64 p,.int .i64 c,.int .u8 rg] 144)).drew;have pU:Blk ((wr.alloc (.cells #[.int .i64 p,.int .i64 c,.int .u8 rg] 144)).drew) wr.heap.size 144 #[.int .i64 p,.int .i64 c,.int .u8 rg]:=(ax wr 144 _).drew;have hdp:wr.heap.size < ((wr.alloc (.cells #[.int .i64 p,.int .i64 c,.int .u8 rg] 144)).drew).heap.size:=pU.lt;clear q0 q1 q2 tO uH;refine ep [5,0,5,5,6,5,0,0,5,0,0,5,0,3,3] (List.replicate 15 none) (fun W=>Blk W bl 140 #[.slice A1 n1 c1]∧Blk W wr.heap.size 144 #[.int .i64 p,.int .i64 c,.int .u8 rg]∧Blk W bp 3 #[.int .i64 page]) (by kernel_rfl) (by kernel_rfl) (by kernel_rfl) ?_;generalize (wr.alloc (.cells #[.int .i64 p,.int .i64 c,.int .u8 rg] 144)).drew = W1 at sM pU hdp ⊢;generalize wr.heap.size = br at FD pU hdp ⊢;go_wp2_with (first|refine ca 140 _ rfl rfl (fun w' kK=>gt Tryz.underlying140 (by simpa using Blk.cell kK.1 0)) ⟨sM.bl,pU,sM.p⟩ ?_;go_simp|refine ca 3 _ rfl rfl (fun w' kK=>dg Tryz.underlying3 (by simpa using Blk.cell kK.2.1 0)) ⟨sM.bl,pU,sM.p⟩ ?_;go_simp|refine ca 144 _ rfl rfl (fun w' kK=>tu (by simpa using Blk.cell kK.2.1 0) (by simpa using Blk.cell kK.2.1 1) (by simpa using Blk.cell kK.2.1 2)) ⟨sM.bl,pU,sM.p⟩ ?_;go_simp|refine cdA fun K U=>?_|refine cx ?_;go_simp|refine cy ?_|refine bn fun K U=>?_;go_simp|refine bq ?_);(refine cd ⟨sM.bl,pU,sM.p⟩ fun K U=>?_);go_simp;refine (lv p c rg _ ⟨by omega,by omega⟩ ⟨by omega,by omega⟩).mono ?_;rintro e W2 ⟨rfl,kI⟩;have tT:=sM.stay kI;have uX:=aw pU kI ab;have hdp2:br < W2.heap.size:=uX.lt;refine U _ _ ⟨tT.bl,uX,tT.p⟩ ?_;clear U K sM pU hdp kI;have HP1:=bk (ws (r:=⟨p,m1 - p,rg⟩) tT.s Aw.out.1.ok ⟨⟨by show _≤p;omega,by show p≤_;omega⟩,by show _≤m1 - p;omega,by show m1 - p≤_;omega⟩ (by have:=Aw.out.1.len;omega));have Hw2:=bk tT;go_wp2_with (first|refine ca 3 _ rfl rfl (fun w' kK=>dg Tryz.underlying3 (by simpa using Blk.cell kK.2.2 0)) ⟨tT.bl,uX,tT.p⟩ ?_;go_simp|refine ca 3 _ rfl rfl (fun w' kK=>dg Tryz.underlying3 (by simpa using Blk.cell kK.2.1 0)) ⟨tT.bl,uX,tT.p⟩ ?_;go_simp|refine ca 5 _ rfl rfl (fun w' kK=>dg Tryz.underlying5 (by simpa using Blk.cell kK.2.1 2)) ⟨tT.bl,uX,tT.p⟩ ?_;go_simp|refine cdA fun K U=>?_|refine cx ?_;go_simp|refine cy ?_|refine bn fun K U=>?_;go_simp|refine bq ?_);refine HP1.out.mono ?_;rintro e W3 ⟨A3,n3,c3,rfl,hs3,hc3',AJ⟩;have CD:=Hw2.out;obtain ⟨y1,y2,y3,y4,y5⟩:=CD.kept hc3';have CE:=CD.put hs3 hc3' AJ;have Ck:=(aw uX hc3' FD).far (p:=⟨bl,0,none⟩) (uX.ne_ CD.bl (by decide)) (.slice A3 n3 c3);have hn3:br∉own (.slice A3 n3 c3):=fun h=>(AJ _ h).elim FD (fun h'=>by omega);clear CD Hw2 HP1 hc3' AJ hs3 FD uX tT;go_wp2_with (first|refine cdA fun K U=>?_|refine cx ?_;go_simp|refine cy ?_|refine bn fun K U=>?_;go_simp|refine bq ?_);have hdp3:=Ck.lt;generalize W3.setCell ⟨bl,0,none⟩ (.slice A3 n3 c3) = W4 at CE Ck hdp3 ⊢;clear y1 y2 y3 y4 y5 hdp2;have hw4:=CE.stay (av [] W4).drew;have Cm:=Ck.drew;have CX:Hid (Fit (st1 page s ⟨p,c,rg⟩)):=bk Aw.out.2.1;have CF:WSt w W4.drew bp bc bg bl bd page count g (.slice A3 n3 c3) (st1 page s ⟨p,c,rg⟩) s.2:=(by rw [Hm1.out] at hw4;exact hw4);clear CE Ck hw4;refine ep [5,6,5,0] (List.replicate 4 none) (fun W=>Blk W br 144 #[.int .i64 p,.int .i64 c,.int .u8 rg]∧Blk W bp 3 #[.int .i64 page]) (by kernel_rfl) (by kernel_rfl) (by kernel_rfl) ?_;go_wp2_with (first|refine ca 144 _ rfl rfl (fun w' kK=>tu (by simpa using Blk.cell kK.1 0) (by simpa using Blk.cell kK.1 1) (by simpa using Blk.cell kK.1 2)) ⟨Cm,CF.p⟩ ?_;go_simp|refine cdA fun K U=>?_|refine cx ?_;go_simp|refine cy ?_|refine bn fun K U=>?_;go_simp|refine bq ?_);(refine cd ⟨Cm,CF.p⟩ fun K U=>?_);go_simp;refine (lv p c rg _ ⟨by omega,by omega⟩ ⟨by omega,by omega⟩).mono ?_;rintro e W5 ⟨rfl,kE⟩;have Bc:=CF.stay kE;have rQ:=aw Cm kE ab;refine U _ _ ⟨rQ,Bc.p⟩ ?_;clear U K CF Cm kE;obtain ⟨d2,Hw⟩:∃d2,sd2 page s ⟨p,c,rg⟩ = d2:=⟨_,rfl⟩;obtain ⟨L2,hL2⟩:∃L2,st2 page count g s ⟨p,c,rg⟩ = L2:=⟨_,rfl⟩;have Hd2:=bk Hw;have tH:=bk hL2;clear Hw hL2;have Ht:Hid (∀(W:World) (A:Option Addr) (n c0:Nat),True→True):=bk fun _ _ _ _ h=>h;clear Ht;have Hz:=rQ.lt;by_cases rS:page < p+c
   ·have e2:(if s.2 = true then st1 page s ⟨p,c,rg⟩ else jy (st1 page s ⟨p,c,rg⟩) ⟨page,count,g⟩) = L2:=(by rw [← tH.out];unfold st2;rw [ah (show page < (⟨p,c,rg⟩:Rn).e from rS)]);have ed2:true = d2:=(by rw [← Hd2.out];unfold sd2;rw [ah (show page < (⟨p,c,rg⟩:Rn).e from rS)]);subst ed2;have HI:=bk (in_any Bc CX.out.ok (by have:=CX.out.len;omega) ⟨⟨by show _≤page;omega,by show page≤_;omega⟩,by show _≤count;omega,by show count≤_;omega⟩);rw [e2] at HI;clear e2;have Hw5:=bk Bc;have hnl:br∉bl :: bd :: own (.slice A3 n3 c3):=fun h=>by
     rcases List.mem_cons.1 h with h | h
     ·exact rQ.ne_ Hw5.out.bl (by decide) h
     ·rcases List.mem_cons.1 h with h | h
      ·exact rQ.ne_ Hw5.out.d (by decide) h
      ·exact hn3 h
    go_wp2_with (first|refine ca 3 _ rfl rfl (fun w' kK=>dg Tryz.underlying3 (by simpa using Blk.cell kK.2 0)) ⟨rQ,Bc.p⟩ ?_;go_simp|go_at_call 138;refine HI.out.mono ?_;rintro e W6 ⟨rfl,⟨A6,n6,c6,CG,Ig⟩,kF⟩;have yH:=rQ.chg kF hnl;obtain ⟨e0,e1,e2,hdp6⟩:=box3 yH|refine cdA fun K U=>?_|refine cx ?_;go_simp|refine cy ?_|refine bn fun K U=>?_;go_simp|refine bq ?_);have uV:Hid (Fit L2):=bk (by rw [← tH.out];exact Aw.out.2.2);clear rQ kF hnl Hz HI Hw5 Bc Ig;clear e0 e1 e2;have vP:=CG.stay (av [] W6).drew;have rR:=yH.drew;clear CG yH;refine ep [5,0,5,6,0,0,0,5,0,3,3] (List.replicate 11 none) (fun W=>Blk W bl 140 #[.slice A6 n6 c6]∧Blk W br 144 #[.int .i64 p,.int .i64 c,.int .u8 rg]) (by kernel_rfl) (by kernel_rfl) (by kernel_rfl) ?_;go_wp2_with (first|refine ca 140 _ rfl rfl (fun w' kK=>gt Tryz.underlying140 (by simpa using Blk.cell kK.1 0)) ⟨vP.bl,rR⟩ ?_;go_simp|refine ca 144 _ rfl rfl (fun w' kK=>tu (by simpa using Blk.cell kK.2 0) (by simpa using Blk.cell kK.2 1) (by simpa using Blk.cell kK.2 2)) ⟨vP.bl,rR⟩ ?_;go_simp|refine cdA fun K U=>?_|refine cx ?_;go_simp|refine cy ?_|refine bn fun K U=>?_;go_simp|refine bq ?_);(refine cd ⟨vP.bl,rR⟩ fun K U=>?_);go_simp;refine (lv p c rg _ ⟨by omega,by omega⟩ ⟨by omega,by omega⟩).mono ?_;rintro e W8 ⟨rfl,oE⟩;have Bd:=vP.stay oE;have wG:=aw rR oE ab;refine U _ _ ⟨Bd.bl,wG⟩ ?_;clear U K vP rR oE;have GB:=bk (ws (r:=⟨m2,p+c - m2,rg⟩) Bd.s uV.out.ok ⟨⟨by show _≤m2;omega,by show m2≤_;omega⟩,by show _≤p+c - m2;omega,by show p+c - m2≤_;omega⟩ (by have:=uV.out.len;omega));have GS:=bk Bd;go_wp2_with (first|refine ca 5 _ rfl rfl (fun w' kK=>dg Tryz.underlying5 (by simpa using Blk.cell kK.2 2)) ⟨Bd.bl,wG⟩ ?_;go_simp|refine cdA fun K U=>?_|refine cx ?_;go_simp|refine cy ?_|refine bn fun K U=>?_;go_simp|refine bq ?_);refine GB.out.mono ?_;rintro e W9 ⟨A9,n9,c9,rfl,mY,lC,oF⟩;have wX:=GS.out;obtain ⟨y1,y2,y3,y4,y5⟩:=wX.kept lC;have II:=wX.put mY lC oF;clear wX GS GB lC oF mY wG Bd;go_wp2_with (first|refine cdA fun K U=>?_|refine cx ?_;go_simp|refine cy ?_|refine bn fun K U=>?_;go_simp|refine bq ?_);go_roundw
    case rel=>exact ⟨k+1,A9,n9,c9,by omega,by go_num,bk (by
     rw [Hfs.out,eA,tH.out,Hd2.out]
     rw [Hm2.out] at II
     exact II)⟩
    case measure=>simp [intOf];omega
   ·have ed2:s.2 = d2:=(by rw [← Hd2.out];unfold sd2;rw [ag (show ¬ page < (⟨p,c,rg⟩:Rn).e from rS)]);have e2:st1 page s ⟨p,c,rg⟩ = L2:=(by rw [← tH.out];unfold st2;rw [ag (show ¬ page < (⟨p,c,rg⟩:Rn).e from rS)]);rw [ed2,e2] at Bc;clear ed2 e2;have uV:Hid (Fit L2):=bk (by rw [← tH.out];exact Aw.out.2.2);obtain ⟨e0,e1,e2,hdp6⟩:=box3 rQ;clear Hz;go_wp2_with (first|refine ca 3 _ rfl rfl (fun w' kK=>dg Tryz.underlying3 (by simpa using Blk.cell kK.2 0)) ⟨rQ,Bc.p⟩ ?_;go_simp|refine cdA fun K U=>?_|refine cx ?_;go_simp|refine cy ?_|refine bn fun K U=>?_;go_simp|refine bq ?_);have CG:=Bc;have yH:=rQ;clear Bc rQ e0 e1 e2;have vP:=CG.stay (av [] W5).drew;have rR:=yH.drew;clear CG yH;refine ep [5,0,5,6,0,0,0,5,0,3,3] (List.replicate 11 none) (fun W=>Blk W bl 140 #[.slice A3 n3 c3]∧Blk W br 144 #[.int .i64 p,.int .i64 c,.int .u8 rg]) (by kernel_rfl) (by kernel_rfl) (by kernel_rfl) ?_;go_wp2_with (first|refine ca 140 _ rfl rfl (fun w' kK=>gt Tryz.underlying140 (by simpa using Blk.cell kK.1 0)) ⟨vP.bl,rR⟩ ?_;go_simp|refine ca 144 _ rfl rfl (fun w' kK=>tu (by simpa using Blk.cell kK.2 0) (by simpa using Blk.cell kK.2 1) (by simpa using Blk.cell kK.2 2)) ⟨vP.bl,rR⟩ ?_;go_simp|refine cdA fun K U=>?_|refine cx ?_;go_simp|refine cy ?_|refine bn fun K U=>?_;go_simp|refine bq ?_);(refine cd ⟨vP.bl,rR⟩ fun K U=>?_);go_simp;refine (lv p c rg _ ⟨by omega,by omega⟩ ⟨by omega,by omega⟩).mono ?_;rintro e W8 ⟨rfl,oE⟩;have Bd:=vP.stay oE;have wG:=aw rR oE ab;refine U _ _ ⟨Bd.bl,wG⟩ ?_;clear U K vP rR oE;have GB:=bk (ws (r:=⟨m2,p+c - m2,rg⟩) Bd.s uV.out.ok ⟨⟨by show _≤m2;omega,by show m2≤_;omega⟩,by show _≤p+c - m2;omega,by show p+c - m2≤_;omega⟩ (by have:=uV.out.len;omega));have GS:=bk Bd;go_wp2_with (first|refine ca 5 _ rfl rfl (fun w' kK=>dg Tryz.underlying5 (by simpa using Blk.cell kK.2 2)) ⟨Bd.bl,wG⟩ ?_;go_simp|refine cdA fun K U=>?_|refine cx ?_;go_simp|refine cy ?_|refine bn fun K U=>?_;go_simp|refine bq ?_);refine GB.out.mono ?_;rintro e W9 ⟨A9,n9,c9,rfl,mY,lC,oF⟩;have wX:=GS.out;obtain ⟨y1,y2,y3,y4,y5⟩:=wX.kept lC;have II:=wX.put mY lC oF;clear wX GS GB lC oF mY wG Bd;go_wp2_with (first|refine cdA fun K U=>?_|refine cx ?_;go_simp|refine cy ?_|refine bn fun K U=>?_;go_simp|refine bq ?_);go_roundw
    case rel=>exact ⟨k+1,A9,n9,c9,by omega,by go_num,bk (by
     rw [Hfs.out,eA,tH.out,Hd2.out]
     rw [Hm2.out] at II
     exact II)⟩
    case measure=>simp [intOf];omega
  ·have ek:l.take k = l:=List.take_of_length_le (by omega);rw [ek] at uH;clear ek;have hff:=cU (g:=g) h0 h1 h2 Hl.out l.length;rw [List.take_length] at hff;have HI:=bk (in_any uH.out hff.ok (by have:=hff.len;omega) ⟨⟨by show _≤page;omega,by show page≤_;omega⟩,by show _≤count;omega,by show count≤_;omega⟩);have ew:(if (l.foldl (jw page count g) ([],false)).2 = true then (l.foldl (jw page count g) ([],false)).1 else jy (l.foldl (jw page count g) ([],false)).1 ⟨page,count,g⟩) = withL l page count g:=rfl;rw [ew] at HI;clear ew hff uH;obtain ⟨L9,qO⟩:∃L9,withL l page count g = L9:=⟨_,rfl⟩;rw [qO] at HI;have H9:=bk qO;clear qO;go_wp2_with (go_at_call 138;refine HI.out.mono ?_;rintro e W6 ⟨rfl,⟨A6,n6,c6,CG,Ig⟩,kF⟩;have sG:=CG.cells;obtain ⟨z0,z1,z2,z3,z4,z5,z6⟩:=sG);have vP:=CG.put CG.s ((av _ _).mono (fun _ h=>.inl h)) (Grow.refl _ _);have z7:=vP.cells.2.2.2.1;exact bodyPost_ret (v:=.slice A6 n6 c6) (by simp [results,Tryz.results122,go_sem,z7]) rfl ⟨A6,n6,c6,rfl,by rw [H9.out];exact vP.s,vP.nV,vP.chg⟩
end Go.Proofs.YtfoleblcaloeoaaGreatDoor.Ar
namespace Go.Proofs.YtfoleblcaloeoaaGreatDoor.Ar
open Go Go.RowKit
variable {n d:Nat} {A:Option Addr} {F:List Nat} {l m:List Rn} {w:World}
theorem AMem.set {w':World} {c:Nat} (h:AMem w d l F) (hc:Chg [] w w') (hs:SR w' (.slice A n c) m) (hn:∀k∈own (.slice A n c),w.heap.size≤k) :
  AMem (w'.setCell ⟨d,0,none⟩ (.slice A n c)) d m (d :: own (.slice A n c)):=by
 obtain ⟨v,hb,rX,hF,kG⟩:=h;have nH:=hb.chg hc (by simp);refine ⟨.slice A n c,?_,?_,fun k hk=>hk,fun k hk=>?_⟩
 ·have:=nH.set_ 0 (.slice A n c);simpa using this
 ·exact Sl.far hs (p:=⟨d,0,none⟩) (fun e=>lu hs nH (by decide) (ip.2 e)) _
 ·rw [oy];rcases List.mem_cons.1 hk with rfl | hk
  ·exact nH.lt
  ·exact hs.own_lt k hk
def AOp (w:World) (d:Nat) (F:List Nat) (m:List Rn) (x:Int) (e:Ending) (w':World):Prop:=e = .returned (.int .i64 x)∧(∃F',AMem w' d m F'∧Step F F' w)∧Chg F w w'
theorem AOp.none {w':World} {x:Int} (h:AMem w d m F) (hc:Chg [] w w'):AOp w d F m x (.returned (.int .i64 x)) w':=⟨rfl,⟨F,h.stay hc,Step.refl _ _⟩,hc.up _⟩
theorem vd {w1:World} {c:Nat} (h:AMem w d l F) (hc:Chg [] w w1) (hs:SR w1 (.slice A n c) m) (hn:∀k∈own (.slice A n c),w.heap.size≤k) (hm:m.length≤100000) :
  Calls Tryz.prog 121 #[.pointer (some ⟨d,0,none⟩),.slice A n c] w1 (AOp w d F (setR l m) (setE m)):=by
 have e2:n = m.length:=by
  obtain ⟨A',c',e⟩:=hs.form;injection e
 have hd:=h.mem;have xI:w1.frozen? ⟨d,0,none⟩ = false:=(h.choose_spec.1.chg hc (by simp)).frozen 0;have nW:=((h.choose_spec.1.chg hc (by simp)).cell 0);simp at nW;have He2:=bk e2;have hmn:n≤100000:=by omega
 by_cases hbig:32 < n
 ·have e1:setE m = 9:=by unfold setE;rw [ah (by omega)]
  have e3:setR l m = l:=by unfold setR;rw [ah (by omega)]
  rw [e1,e3];clear e2 e1 e3;go_enter Tryz.func121,Tryz.ntmps121;go_wp2_with fail;go_ret;exact AOp.none h hc
 ·have e1:setE m = 0:=by unfold setE;rw [ag (by omega)]
  have e3:setR l m = m:=by unfold setR;rw [ag (by omega)]
  rw [e1,e3];clear e2 e1 e3;go_enter Tryz.func121,Tryz.ntmps121;go_wp2_with fail;go_ret;exact ⟨rfl,⟨_,h.set hc hs hn,fun k hk=>(List.mem_cons.1 hk).elim (fun e=>.inl (e ▸ hd)) (fun h'=>.inr (hn k h'))⟩,(hc.up F).setCell (.inl hd) _⟩
variable {page count:Int}
theorem Okm (h:Fit l) {g:Int} (h0:0≤page) (h1:1≤count) (h2:page+count≤1024):(withL l page count g).length≤100000:=by
 have hf:=cU (g:=g) h0 h1 h2 h l.length;have hw:=(with_spec (g:=g) h.1 h0 h1).1;have hwf:=uv (g:=g) h0 h1 h l.length;rw [List.take_length] at hf hwf;have h3:=hf.len;have:∀(m:List Rn) (r:Rn),(jy m r).length≤m.length+1:=fun m r=>by
  unfold jy;split
  ·omega
  ·split
   ·simp
   ·split
    ·simp
    ·simp
 unfold withL endL;split
 ·omega
 ·have:=this (l.foldl (jw page count g) ([],false)).1 ⟨page,count,g⟩;omega
theorem map_at (h:AMem w d l F) (hs:Sp l) (page count g:Int):Calls Tryz.prog 95 #[.pointer (some ⟨d,0,none⟩),.int .i64 page,.int .i64 count,.int .u8 g] w (AOp w d F (mapR l page count g) (mapE l page count g)):=by
 cases hb:mayB page count with
 | false =>
  have e1:mapE l page count g = 2:=by unfold mapE;rw [ah (.inl hb)]
  have e3:mapR l page count g = l:=by unfold mapR;rw [ah (.inl hb)]
  rw [e1,e3];clear e1 e3;have H:=bk h;clear h;go_enter Tryz.func95,Tryz.ntmps95;go_wp2_with (first|(go_at_call 100;refine (kf _ _ _).mono ?_;rintro e w' ⟨rfl,rfl⟩)|(go_at_call 120;refine (fm _ _).mono ?_;rintro e w' ⟨rfl,rfl⟩));go_ret;exact AOp.none H.out (av _ _)
 | true =>
  cases hg:rgB g with
  | false =>have e1:mapE l page count g = 2:=(by unfold mapE;rw [ah (.inr hg)]);have e3:mapR l page count g = l:=(by unfold mapR;rw [ah (.inr hg)]);rw [e1,e3];clear e1 e3;have H:=bk h;clear h;go_enter Tryz.func95,Tryz.ntmps95;go_wp2_with (first|(go_at_call 100;refine (kf _ _ _).mono ?_;rintro e w' ⟨rfl,rfl⟩)|(go_at_call 120;refine (fm _ _).mono ?_;rintro e w' ⟨rfl,rfl⟩));go_ret;exact AOp.none H.out (av _ _)
  | true =>
   have hm:=mayB_iff.1 hb;obtain ⟨m1,m2,m3,m4⟩:=hm;have HC:=bk (cS h hs.okl (by have:=hs.len;omega) page count ⟨m1,by omega⟩ ⟨by omega,m3⟩);have Ee:=cnt_le hs.nm (page:=page) (count:=count) (by omega);by_cases hcnt:0 < cntL l page count
   ·have e1:mapE l page count g = 8:=(by unfold mapE;rw [ag (by simp [hb,hg]),ah hcnt]);have e3:mapR l page count g = l:=(by unfold mapR;rw [ag (by simp [hb,hg]),ah hcnt]);rw [e1,e3];clear e1 e3;have H:=bk h;clear h;generalize cntL l page count = x at HC hcnt Ee;go_enter Tryz.func95,Tryz.ntmps95;go_wp2_with (first|(go_at_call 100;refine (kf _ _ _).mono ?_;rintro e w' ⟨rfl,rfl⟩)|(go_at_call 120;refine (fm _ _).mono ?_;rintro e w' ⟨rfl,rfl⟩)|go_at_call 101;refine HC.out.mono ?_;rintro e w1 ⟨rfl,kO⟩);go_ret;exact AOp.none H.out kO
   ·have e1:mapE l page count g = setE (withL l page count g):=(by unfold mapE;rw [ag (by simp [hb,hg]),ag hcnt]);have e3:mapR l page count g = setR l (withL l page count g):=(by unfold mapR;rw [ag (by simp [hb,hg]),ag hcnt]);rw [e1,e3];clear e1 e3;have HW:=bk (fun W (hc:Chg [] w W)=>bX (g:=g) (h.stay hc) hs.fit m1 m2 (by omega:page+count≤1024));have HS:=bk (fun W A n c (hc:Chg [] w W) (hs:SR W (.slice A n c) (withL l page count g)) hn=>vd h hc hs hn (Okm ‹Sp l›.fit m1 m2 (by omega)));have H:=bk h;clear h;generalize cntL l page count = x at HC hcnt Ee;go_enter Tryz.func95,Tryz.ntmps95;go_wp2_with (first|(go_at_call 100;refine (kf _ _ _).mono ?_;rintro e w' ⟨rfl,rfl⟩)|(go_at_call 120;refine (fm _ _).mono ?_;rintro e w' ⟨rfl,rfl⟩)|go_at_call 101;refine HC.out.mono ?_;rintro e w1 ⟨rfl,kO⟩|go_at_call 122;refine (HW.out _ kO).mono ?_;rintro e w2 ⟨A2,n2,c2,rfl,pG,vC,kI⟩|go_at_call 121;refine (HS.out _ _ _ _ (kO.stay kI) pG (fun k hk=>au kO.size (vC k hk))).mono ?_;rintro e w3 ⟨rfl,Ct,kM⟩);go_ret;exact ⟨rfl,Ct,kM⟩
theorem un_at (h:AMem w d l F) (hs:Sp l) (page count:Int):Calls Tryz.prog 96 #[.pointer (some ⟨d,0,none⟩),.int .i64 page,.int .i64 count] w (AOp w d F (unR l page count) (unE l page count)):=by
 cases hb:mayB page count with
 | false =>
  have e1:unE l page count = 2:=by unfold unE;rw [ah hb]
  have e3:unR l page count = l:=by unfold unR;rw [ah hb]
  rw [e1,e3];clear e1 e3;have H:=bk h;clear h;go_enter Tryz.func96,Tryz.ntmps96;go_wp2_with (first|(go_at_call 100;refine (kf _ _ _).mono ?_;rintro e w' ⟨rfl,rfl⟩)|(go_at_call 120;refine (fm _ _).mono ?_;rintro e w' ⟨rfl,rfl⟩));go_ret;exact AOp.none H.out (av _ _)
 | true =>
  have hm:=mayB_iff.1 hb;obtain ⟨m1,m2,m3,m4⟩:=hm;have e1:unE l page count = setE (withL l page count 0):=by unfold unE;rw [ag (by simp [hb])]
  have e3:unR l page count = setR l (withL l page count 0):=by unfold unR;rw [ag (by simp [hb])]
  rw [e1,e3];clear e1 e3;have HW:=bk (bX (g:=0) h hs.fit m1 m2 (by omega:page+count≤1024));have HS:=bk (fun W A n c (hc:Chg [] w W) (hs:SR W (.slice A n c) (withL l page count 0)) hn=>vd h hc hs hn (Okm ‹Sp l›.fit m1 m2 (by omega)));clear h;go_enter Tryz.func96,Tryz.ntmps96;go_wp2_with (first|(go_at_call 100;refine (kf _ _ _).mono ?_;rintro e w' ⟨rfl,rfl⟩)|(go_at_call 120;refine (fm _ _).mono ?_;rintro e w' ⟨rfl,rfl⟩)|go_at_call 122;refine HW.out.mono ?_;rintro e w2 ⟨A2,n2,c2,rfl,pG,vC,kI⟩|go_at_call 121;refine (HS.out _ _ _ _ kI pG vC).mono ?_;rintro e w3 ⟨rfl,Ct,kM⟩);go_ret;exact ⟨rfl,Ct,kM⟩
theorem mdE_eq (hb:mayB page count = true):mdE l page count = if cntL l page count < count then 7 else 0:=by unfold mdE;rw [ag (by simp [hb])]
theorem md_at (h:AMem w d l F) (hs:Sp l) (page count:Int):Calls Tryz.prog 70 #[.pointer (some ⟨d,0,none⟩),.int .i64 page,.int .i64 count] w fun e w'=>e = .returned (.int .i64 (mdE l page count))∧Chg [] w w':=by
 cases hb:mayB page count with
 | false =>
  have e1:mdE l page count = 2:=by unfold mdE;rw [ah hb]
  rw [e1];clear e1 h;go_enter Tryz.func70,Tryz.ntmps70;go_wp2_with (first|(go_at_call 100;refine (kf _ _ _).mono ?_;rintro e w' ⟨rfl,rfl⟩)|(go_at_call 120;refine (fm _ _).mono ?_;rintro e w' ⟨rfl,rfl⟩));go_ret;exact ⟨rfl,av _ _⟩
 | true =>
  have hm:=mayB_iff.1 hb;obtain ⟨m1,m2,m3,m4⟩:=hm;have HC:=bk (cS h hs.okl (by have:=hs.len;omega) page count ⟨m1,by omega⟩ ⟨by omega,m3⟩);have Ee:=cnt_le hs.nm (page:=page) (count:=count) (by omega);rw [mdE_eq hb];by_cases hcnt:cntL l page count < count
  ·rw [ah hcnt];clear h;generalize cntL l page count = x at HC hcnt Ee;go_enter Tryz.func70,Tryz.ntmps70;go_wp2_with (first|(go_at_call 100;refine (kf _ _ _).mono ?_;rintro e w' ⟨rfl,rfl⟩)|(go_at_call 120;refine (fm _ _).mono ?_;rintro e w' ⟨rfl,rfl⟩)|go_at_call 101;refine HC.out.mono ?_;rintro e w1 ⟨rfl,kO⟩);go_ret;exact ⟨rfl,kO⟩
  ·rw [ag hcnt];clear h;generalize cntL l page count = x at HC hcnt Ee;go_enter Tryz.func70,Tryz.ntmps70;go_wp2_with (first|(go_at_call 100;refine (kf _ _ _).mono ?_;rintro e w' ⟨rfl,rfl⟩)|(go_at_call 120;refine (fm _ _).mono ?_;rintro e w' ⟨rfl,rfl⟩)|go_at_call 101;refine HC.out.mono ?_;rintro e w1 ⟨rfl,kO⟩);go_ret;exact ⟨rfl,kO⟩
theorem pr_at (h:AMem w d l F) (hs:Sp l) (page count g:Int):Calls Tryz.prog 97 #[.pointer (some ⟨d,0,none⟩),.int .i64 page,.int .i64 count,.int .u8 g] w (AOp w d F (prR l page count g) (prE l page count g)):=by
 cases hg:rgB g with
 | false =>
  have e1:prE l page count g = 2:=by unfold prE;rw [ah hg]
  have e3:prR l page count g = l:=by unfold prR;rw [ah hg]
  rw [e1,e3];clear e1 e3;have H:=bk h;clear h;go_enter Tryz.func97,Tryz.ntmps97;go_wp2_with (first|(go_at_call 100;refine (kf _ _ _).mono ?_;rintro e w' ⟨rfl,rfl⟩)|(go_at_call 120;refine (fm _ _).mono ?_;rintro e w' ⟨rfl,rfl⟩));go_ret;exact AOp.none H.out (av _ _)
 | true =>
  have HM:=bk (md_at h hs page count);by_cases hmd:mdE l page count = 0
  ·have hb:=iF hmd;have hm:=mayB_iff.1 hb;obtain ⟨m1,m2,m3,m4⟩:=hm;have e1:prE l page count g = setE (withL l page count g):=(by unfold prE;rw [ag (by simp [hg]),ag (by simp [hmd])]);have e3:prR l page count g = setR l (withL l page count g):=(by unfold prR;rw [ag (by simp [hg]),ag (by simp [hmd])]);rw [e1,e3];rw [hmd] at HM;clear e1 e3 hmd;have HW:=bk (fun W (hc:Chg [] w W)=>bX (g:=g) (h.stay hc) hs.fit m1 m2 (by omega:page+count≤1024));have HS:=bk (fun W A n c (hc:Chg [] w W) (hs:SR W (.slice A n c) (withL l page count g)) hn=>vd h hc hs hn (Okm ‹Sp l›.fit m1 m2 (by omega)));clear h;go_enter Tryz.func97,Tryz.ntmps97;go_wp2_with (first|(go_at_call 120;refine (fm _ _).mono ?_;rintro e w' ⟨rfl,rfl⟩)|go_at_call 70;refine HM.out.mono ?_;rintro e w1 ⟨rfl,kO⟩|go_at_call 122;refine (HW.out _ kO).mono ?_;rintro e w2 ⟨A2,n2,c2,rfl,pG,vC,kI⟩|go_at_call 121;refine (HS.out _ _ _ _ (kO.stay kI) pG (fun k hk=>au kO.size (vC k hk))).mono ?_;rintro e w3 ⟨rfl,Ct,kM⟩);go_ret;exact ⟨rfl,Ct,kM⟩
  ·have e1:prE l page count g = mdE l page count:=(by unfold prE;rw [ag (by simp [hg]),ah hmd]);have e3:prR l page count g = l:=(by unfold prR;rw [ag (by simp [hg]),ah hmd]);rw [e1,e3];clear e1 e3;obtain ⟨x,hx⟩:∃x,mdE l page count = x:=⟨_,rfl⟩;rw [hx] at HM hmd ⊢;have BI:(x == 0) = false:=beq_eq_false_iff_ne.2 hmd;have H:=bk h;clear h hx hmd;go_enter Tryz.func97,Tryz.ntmps97;go_wp2_with (first|(go_at_call 120;refine (fm _ _).mono ?_;rintro e w' ⟨rfl,rfl⟩)|go_at_call 70;refine HM.out.mono ?_;rintro e w1 ⟨rfl,kO⟩);go_ret;exact AOp.none H.out kO
theorem new_any (w:World):Calls Tryz.prog 92 #[] w fun e w'=>e = .returned (.pointer (some ⟨w.heap.size,0,none⟩))∧AMem w' w.heap.size [] [w.heap.size]∧Chg [] w w':=by go_enter Tryz.func92,Tryz.ntmps92;go_wp2_with fail;go_ret;exact ⟨rfl,⟨.slice none 0 0,ax w 142 _,SE.nil _ _ _ _,fun k hk=>by simpa [own,Value.ownBlock] using hk,fun k hk=>by obtain rfl:=aa hk;simp⟩,(av _ _).alloc _⟩
end Go.Proofs.YtfoleblcaloeoaaGreatDoor.Ar
namespace Go.Proofs.YtfoleblcaloeoaaGreatDoor
open Go
section
variable {P:Program} {ops:Array Oper}
def wq (l:List Oper) (ks:Array Nat) (Ls:List (List Nat)):Bool :=
 let ops:=l.toArray
 let m:=jk l
 let n:=l.length
 let un:List (Nat × Nat):=(List.range n).flatMap fun j=>((List.range j).filter fun i=>!(m.getD j 0).testBit i).map fun i=>(i,j)
 let C:=un.filter fun (i,j)=>Ls.any fun L=>!(ik ops ks L i j true && ik ops ks L i j false)
 Region.noSelect ops &&
 (l.zipIdx.all fun (oj,j)=>lg oj (ks.getD j 3) && (oj.after.all fun e=>!Region.binds .any e || decide (e.on < j))) &&
 (Ls.all fun L=>decide L.Nodup && ((List.range n).all fun i=>L.contains i) && (L.all fun i=>decide (i < n)) && (List.range n).all fun j=>(List.range j).all fun i=>!(m.getD j 0).testBit i || bef L i j) &&
 (aB C.length).all fun σ =>
  (Ls.any fun L=>(C.zip σ).all fun (p,b)=>ik ops ks L p.1 p.2 b) ||
  ((C.zip σ).any fun (p,b)=>(C.zip σ).any fun (q,c) =>
   let x:=if b then p.1 else p.2
   let y:=if b then p.2 else p.1
   let u:=if c then q.1 else q.2
   let v:=if c then q.2 else q.1
   kw m y u && kw m v x) ||
  ((C.zip σ).any fun (p,b)=>(C.zip σ).any fun (q,c)=>(C.zip σ).any fun (r,d) =>
   let x:=if b then p.1 else p.2
   let y:=if b then p.2 else p.1
   let u:=if c then q.1 else q.2
   let v:=if c then q.2 else q.1
   let s:=if d then r.1 else r.2
   let t:=if d then r.2 else r.1
   kw m y u && (kw m v s && kw m t x))
theorem bP {l:List Oper} {ks:Array Nat} {Ls:List (List Nat)} (h:wq l ks Ls = true) {Q:Exit→Act→World→Prop} {S:World→Prop} {a:Act} {w:World}
  (hL:∀L∈Ls,wpR P l.toArray ks S Q L a w) (t:Nat):wpOps P l.toArray Q (Region.linearise .any l.toArray t) a w:=by
 simp only [wq,Bool.and_eq_true] at h;obtain ⟨⟨⟨hs,EF⟩,DX⟩,hσ⟩:=h;have at_:∀(j:Nat) oj,l[j]? = some oj→(oj,j)∈l.zipIdx:=fun j oj hj=>by
  rw [List.mem_iff_getElem?];exact ⟨j,by simp [List.getElem?_zipIdx,hj]⟩
 have row:∀(j:Nat) oj,l[j]? = some oj→_:=fun j oj hj=>List.all_eq_true.1 EF (oj,j) (at_ j oj hj);simp only [Bool.and_eq_true] at row;have rV:∀(j:Nat) oj,l.toArray[j]? = some oj→lg oj (ks.getD j 3) = true:=fun j oj hj=>(row j oj (by simpa using hj)).1;have uZ:∀(j:Nat) oj,l.toArray[j]? = some oj→∀e∈oj.after,Region.binds .any e = true→e.on < j:=fun j oj hj e he hb=>by
  have:=(row j oj (by simpa using hj)).2;have:=Array.all_eq_true_iff_forall_mem.1 this e he;simpa [hb] using this
 have pC:ra l.toArray (Array.replicate l.toArray.size false) (Region.linearise .any l.toArray t):=by
  unfold Region.linearise;refine dS uZ _ t _ (by simp) ?_;unfold cnt;have:=List.countP_le_length (p:=fun b=>!b) (l:=(Array.replicate l.toArray.size false).toList);simpa using this
 have nG:uo l.toArray (Array.replicate l.toArray.size false):=by
  intro j o hj hl;exfalso;rcases Nat.lt_or_ge j l.length with kG | tB
  ·simp [Array.getD_eq_getD_getElem?,kG] at hl
  ·simp [Array.getD_eq_getD_getElem?,Nat.not_lt.2 tB] at hl
 have Cz:∀i,(Array.replicate l.toArray.size false).getD i false = false:=fun i=>by
  rcases Nat.lt_or_ge i l.length with kG | tB
  ·simp [Array.getD_eq_getD_getElem?,kG]
  ·simp [Array.getD_eq_getD_getElem?,Nat.not_lt.2 tB]
 generalize Region.linearise .any l.toArray t = τ at *;have hτm:∀i j,i < l.length→j < l.length→((jk l).getD j 0).testBit i = true→bef τ i j = true:=fun i j hi hj hb=>by
  rcases tm (cX l) (by simpa using xl l) (by simp) nG pC i j (mv (by simp) pC j (by simpa using hj) (Cz j)) hb with h | h
  ·rw [Cz] at h;cases h
  ·exact h
 have vH:=ns (by simp) pC;have sB:∀i,i < l.length→i∈τ:=fun i hi=>mv (by simp) pC i (by simpa using hi) (Cz i);generalize hC:(List.filter (fun x:Nat × Nat=>Ls.any fun L=>!(ik l.toArray ks L x.1 x.2 true && ik l.toArray ks L x.1 x.2 false))
   ((List.range l.length).flatMap fun j=>((List.range j).filter fun i=>!((jk l).getD j 0).testBit i).map fun i=>(i,j))) = C at hσ
 have Fr:∀p∈C,p.1 < p.2∧p.2 < l.length:=fun p hp=>by
  rw [← hC] at hp;obtain ⟨hp,_⟩:=List.mem_filter.1 hp;obtain ⟨j,hj,hp⟩:=List.mem_flatMap.1 hp;obtain ⟨i,hi,rfl⟩:=List.mem_map.1 hp;exact ⟨by simpa using (List.mem_range.1 (List.mem_filter.1 hi).1),by simpa using hj⟩
 have tU:=List.all_eq_true.1 hσ (C.map fun p=>bef τ p.1 p.2) (by have:=ux (C.map fun p=>bef τ p.1 p.2);simpa using this);have EU:C.zip (C.map fun p=>bef τ p.1 p.2) = C.map fun p=>(p,bef τ p.1 p.2):=by
  clear hC Fr hσ tU
  induction C with
  | nil=>rfl
  | cons p C ih=>simp [ih]
 rw [EU] at tU;simp only [Bool.or_eq_true] at tU;rcases tU with (tU | tU) | tU
 ·obtain ⟨L,DW,hLC⟩:=List.any_eq_true.1 tU;have Az:=List.all_eq_true.1 DX L DW;simp only [Bool.and_eq_true,decide_eq_true_eq] at Az;obtain ⟨⟨⟨rA,kQ⟩,kG⟩,AT⟩:=Az;have wP:∀i∈L,i < l.length:=fun i hi=>by simpa using List.all_eq_true.1 kG i hi
  have kY:∀i,i < l.length→i∈L:=fun i hi=>by simpa using List.all_eq_true.1 kQ i (by simpa using hi)
  refine qj hs rV τ _ L a w (by simp) pC rA (fun i=>⟨fun hi=>⟨by simpa using wP i hi,Cz i⟩,fun hi=>kY i (by simpa using hi.1)⟩) ?_ (hL L DW);intro i j qX Ii;have AO:=wP i (mf qX).1;have Er:=wP j (mf qX).2;have kT:i≠j:=fun e=>by subst e;rw [ii rA] at qX;cases qX
  have wQ:bef L j i = false:=by
   cases hb:bef L j i with
   | false=>rfl
   | true=>have:=gg rA qX hb;rw [ii rA] at this;cases this
  have Ez:bef τ i j = false:=by
   cases hb:bef τ i j with
   | false=>rfl
   | true=>have:=gg vH hb Ii;rw [ii vH] at this;cases this
  have m1:((jk l).getD j 0).testBit i = false:=by
   cases hb:((jk l).getD j 0).testBit i with
   | false=>rfl
   | true=>rw [hτm i j AO Er hb] at Ez;cases Ez
  have m2:i > j→((jk l).getD i 0).testBit j = false:=fun rS=>by
   cases hb:((jk l).getD i 0).testBit j with
   | false=>rfl
   | true =>
    have:=List.all_eq_true.1 (List.all_eq_true.1 AT i (by simpa using AO)) j (by simpa using rS);rw [hb] at this;simp only [Bool.not_true,Bool.false_or] at this;rw [this] at wQ;cases wQ
  have key:∀x y,x < y→y < l.length→((jk l).getD y 0).testBit x = false→∀b,bef τ x y = b→ik l.toArray ks L x y b = true:=by
   intro x y yQ hy hb b Bw;by_cases AP:(x,y)∈C
   ·have:=List.all_eq_true.1 hLC ((x,y),bef τ x y) (List.mem_map.2 ⟨(x,y),AP,rfl⟩);rw [← Bw];exact this
   ·have Ey:¬ (Ls.any fun L=>!(ik l.toArray ks L x y true && ik l.toArray ks L x y false)) = true:=fun Eb=>AP (by
     rw [← hC]
     refine List.mem_filter.2 ⟨List.mem_flatMap.2 ⟨y,List.mem_range.2 hy,List.mem_map.2 ⟨x,List.mem_filter.2 ⟨List.mem_range.2 yQ,by simp only [hb,Bool.not_false]⟩,rfl⟩⟩,Eb⟩)
    have h2:(ik l.toArray ks L x y true && ik l.toArray ks L x y false) = true:=by
     cases lV:(ik l.toArray ks L x y true && ik l.toArray ks L x y false) with
     | true=>rfl
     | false=>exact absurd (List.any_eq_true.2 ⟨L,DW,by rw [lV];rfl⟩) Ey
    rw [Bool.and_eq_true] at h2;cases b
    ·exact h2.2
    ·exact h2.1
  rcases Nat.lt_or_gt_of_ne kT with qZ | hgt1
  ·have:=key i j qZ Er m1 false Ez;simpa [ik,qX] using this
  ·have:=key j i hgt1 AO (m2 hgt1) true Ii;simpa [ik,wQ] using this
 ·exfalso;obtain ⟨⟨p,b⟩,hp,h2⟩:=List.any_eq_true.1 tU;obtain ⟨⟨q,c⟩,hq,h3⟩:=List.any_eq_true.1 h2;obtain ⟨p',oP,Iu⟩:=List.mem_map.1 hp;obtain ⟨q',rB,Iv⟩:=List.mem_map.1 hq;injection Iu with e1 e2;injection Iv with e3 e4;subst e1;subst e3;have bound:∀p∈C,∀b,bef τ p.1 p.2 = b→bef τ (if b then p.1 else p.2) (if b then p.2 else p.1) = true∧(if b then p.1 else p.2) < l.length∧(if b then p.2 else p.1) < l.length:=fun p hp b hb=>by
   obtain ⟨h1,h2⟩:=Fr p hp;cases b
   ·refine ⟨?_,by simpa using h2,by simp;omega⟩;rcases sb (sB p.1 (by omega)) (sB p.2 h2) (by omega) with h | h
    ·rw [h] at hb;cases hb
    ·simpa using h
   ·exact ⟨by simpa using hb,by simp;omega,by simpa using h2⟩
  obtain ⟨b1,b2,b3⟩:=bound _ oP b e2;obtain ⟨c1,c2,c3⟩:=bound _ rB c e4;simp only [Bool.and_eq_true] at h3;have reach:∀i j,i < l.length→j < l.length→kw (jk l) i j = true→i = j∨bef τ i j = true:=fun i j hi hj h=>by
   simp only [kw,Bool.or_eq_true,beq_iff_eq] at h;rcases h with h | h
   ·exact .inl h
   ·exact .inr (hτm i j hi hj h)
  have step1:bef τ (if b then p'.1 else p'.2) (if c then q'.1 else q'.2) = true:=by
   rcases reach _ _ b3 c2 h3.1 with e | e
   ·rw [← e];exact b1
   ·exact gg vH b1 e
  have step2:=gg vH step1 c1;have:=(by
   rcases reach _ _ c3 b2 h3.2 with e | e
   ·rw [e] at step2;exact step2
   ·exact gg vH step2 e:bef τ (if b then p'.1 else p'.2) (if b then p'.1 else p'.2) = true)
  rw [ii vH] at this;cases this
 ·exfalso;obtain ⟨⟨p,b⟩,hp,h2⟩:=List.any_eq_true.1 tU;obtain ⟨⟨q,c⟩,hq,h3⟩:=List.any_eq_true.1 h2;obtain ⟨⟨r,d⟩,hr,h4⟩:=List.any_eq_true.1 h3;obtain ⟨p',oP,Iu⟩:=List.mem_map.1 hp;obtain ⟨q',rB,Iv⟩:=List.mem_map.1 hq;obtain ⟨r',hr',Iw⟩:=List.mem_map.1 hr;injection Iu with e1 e2;injection Iv with e3 e4;injection Iw with e5 e6;subst e1;subst e3;subst e5;have bound:∀p∈C,∀b,bef τ p.1 p.2 = b→bef τ (if b then p.1 else p.2) (if b then p.2 else p.1) = true∧(if b then p.1 else p.2) < l.length∧(if b then p.2 else p.1) < l.length:=fun p hp b hb=>by
   obtain ⟨h1,h2⟩:=Fr p hp;cases b
   ·refine ⟨?_,by simpa using h2,by simp;omega⟩;rcases sb (sB p.1 (by omega)) (sB p.2 h2) (by omega) with h | h
    ·rw [h] at hb;cases hb
    ·simpa using h
   ·exact ⟨by simpa using hb,by simp;omega,by simpa using h2⟩
  obtain ⟨b1,b2,b3⟩:=bound _ oP b e2;obtain ⟨c1,c2,c3⟩:=bound _ rB c e4;obtain ⟨d1,d2,d3⟩:=bound _ hr' d e6;simp only [Bool.and_eq_true] at h4;have reach:∀i j,i < l.length→j < l.length→kw (jk l) i j = true→i = j∨bef τ i j = true:=fun i j hi hj h=>by
   simp only [kw,Bool.or_eq_true,beq_iff_eq] at h;rcases h with h | h
   ·exact .inl h
   ·exact .inr (hτm i j hi hj h)
  have go:∀i j k,j < l.length→k < l.length→bef τ i j = true→kw (jk l) j k = true→bef τ i k = true:=fun i j k hj hk h h'=>by
   rcases reach _ _ hj hk h' with e | e
   ·rw [← e];exact h
   ·exact gg vH h e
  have step1:=go _ _ _ b3 c2 b1 h4.1;have step2:=go _ _ _ c3 d2 (gg vH step1 c1) h4.2.1;have step3:=go _ _ _ d3 b2 (gg vH step2 d1) h4.2.2;rw [ii vH] at step3;cases step3
theorem um {id:Nat} {l:List Oper} {Q:Exit→Act→World→Prop} {a:Act} {w:World} (ks:List Nat) (Ls:List (List Nat)) (S:World→Prop) (hm:P.follows .mixedOrders = true)
  (hB:wq l ks.toArray Ls = true) (h:∀L∈Ls,wpR P l.toArray ks.toArray S Q L a w.drew):(Code.region id l.toArray true).wp P Q a w :=
 wp_region_draw fun t=>by
  simp only [Region.schedule,hm,Bool.true_or,if_true]
  exact bP hB h t
theorem rz {id:Nat} {l:List Oper} {Q:Exit→Act→World→Prop} {a:Act} {w:World} (ks:List Nat) (gs:List (Option (Nat × Bool))) (Ls:List (List Nat)) (S:World→Prop) (hm:P.follows .mixedOrders = true)
  (hB:wq l ks.toArray Ls = true) (hR:ly l ks gs = true) (DX:(Ls.all fun L=>L.all fun i=>decide (i < l.length)) = true)
  (h:∀L∈Ls,wpG P S Q (fv l L) (fv ks L) (fv gs L) a w.drew):(Code.region id l.toArray true).wp P Q a w:=by
 simp only [ly,Bool.and_eq_true,beq_iff_eq] at hR;obtain ⟨⟨hk,hg⟩,hgd⟩:=hR;refine um ks Ls S hm hB fun L hL=>?_;have yE:∀i∈L,i < l.length:=fun i hi=>by simpa using List.all_eq_true.1 (List.all_eq_true.1 DX L hL) i hi
 have h1:=h L hL;rw [gJ (ops:=l.toArray) _ _ _ (by rw [tz yE (by omega),nq (by intro i hi;rw [List.length_zip];have:=yE i hi;omega),nq yE]) (by
  rw [tz yE (by omega)]
  exact List.all_eq_true.2 fun x hx=>List.all_eq_true.1 hgd x (dE hx))] at h1
 refine wpR_of (fv l L) (fv ks L) (by simpa using oo yE) ?_ h1;have e:=oo (l:=ks) (L:=L) (by intro i hi;have:=yE i hi;omega);have e2:L.map (fun i=>ks.toArray.getD i 3) = (L.map fun i=>ks[i]?).map (·.getD 3):=by simp [Array.getD_eq_getD_getElem?]
 rw [e2,e];simp [Function.comp_def]
end
end Go.Proofs.YtfoleblcaloeoaaGreatDoor
namespace Go.Proofs.YtfoleblcaloeoaaGreatDoor
open Go Go.RowKit
variable {v:Value} {w:World}
theorem ta {x y:Rs} {u:Value} (hv:RB w v x.l) (hu:RB w u y.l) (hl:∀b∈x.l,b < 256) (hm:∀b∈y.l,b < 256) :
  Calls Tryz.prog 29 #[.agg (rsc x v),.agg (rsc y u)] w fun e w'=>e = .returned (.bool (ed x y))∧Chg [] w w':=by
 obtain ⟨A0,c0,rfl⟩:=RE.form hv;obtain ⟨A1,c1,rfl⟩:=RE.form hu;obtain ⟨W2,kJ⟩:∃W2,W2 = (w.alloc (.cells (rsc x (.slice A0 x.l.length c0)) 40)).alloc (.cells (rsc y (.slice A1 y.l.length c1)) 40):=⟨_,rfl⟩;have kI:Chg [] w W2:=by rw [kJ];exact ((av [] w).alloc _).alloc _
 have lH:XB W2 w.heap.size x (.slice A0 x.l.length c0):=by rw [kJ];exact (ax w _ _).alloc _
 have lV:XB W2 (w.heap.size+1) y (.slice A1 y.l.length c1):=by
  have:=ax (w.alloc (.cells (rsc x (.slice A0 x.l.length c0)) 40)) 40 (rsc y (.slice A1 y.l.length c1));rw [af] at this;rw [kJ];exact this
 have Gj:=bk (zu (hv.stay kI) (hu.stay kI) hl hm);have HC:=bk kI;have kW:=bk kJ;obtain ⟨p0,p1,p2,pl,-⟩:=XB.cells lH;obtain ⟨q0,q1,q2,ql,-⟩:=XB.cells lV;clear hv hu hl hm kJ kI lH lV;obtain ⟨e,z,l⟩:=x;obtain ⟨e',z',l'⟩:=y;simp only at p0 p1 p2 q0 q1 q2 Gj kW;by_cases h1:e = e'
 ·subst h1;by_cases h2:z = z'
  ·subst h2;have hR:ed ⟨e,z,l⟩ ⟨e,z,l'⟩ = decide (l = l'):=(by simp [ed]);rw [hR];generalize decide (l = l') = r at Gj;clear hR;go_enter Tryz.func29,Tryz.ntmps29;go_wp2_with (first|refine gd rfl _ rfl rfl ?_;try simp only [af];try rw [← kW.out]);refine Gj.out.mono ?_;rintro e' W3 ⟨rfl,rfl⟩;go_wp2_with fail;go_ret;exact ⟨by simp,HC.out⟩
  ·have d2:((z:Int) == (z':Int)) = false:=aj (by omega);have d2':decide (z = z') = false:=ac h2;have hR:ed ⟨e,z,l⟩ ⟨e,z',l'⟩ = false:=(by simp [ed,h2]);rw [hR];clear hR Gj h2;go_enter Tryz.func29,Tryz.ntmps29;go_wp2_with (first|refine gd rfl _ rfl rfl ?_;try simp only [af];try rw [← kW.out]);go_ret;exact ⟨rfl,HC.out⟩
 ·have d1:(e == e') = false:=aj h1;have hR:ed ⟨e,z,l⟩ ⟨e',z',l'⟩ = false:=by simp [ed,h1]
  rw [hR];clear hR Gj h1;go_enter Tryz.func29,Tryz.ntmps29;go_wp2_with (first|refine gd rfl _ rfl rfl ?_;try simp only [af];try rw [← kW.out]);go_ret;exact ⟨rfl,HC.out⟩
def gh (z:Int):Nat:=(z % 18446744073709551616).toNat
def ct (n:Nat):Int:=if n < 9223372036854775808 then (n:Int) else (n:Int) - 18446744073709551616
theorem sh (z:Int):gh z < 18446744073709551616:=by unfold gh;omega
theorem aD {z:Int} (h1:-9223372036854775808≤z) (h2:z≤9223372036854775807):ct (gh z) = z:=by unfold ct gh;split <;> omega
def xt (x:Cl) (f:Nat):List Nat :=
 if f = 112 then [gh x.p] else if f = 103 then [gh x.g] else if f = 99 then [gh x.c] else if f = 110 then [gh x.n] else if f = 97 then [gh x.a] else if f = 115 then [gh x.s]
 else if f = 114 then [x.r] else if f = 111 then [x.ok,x.om] else if f = 104 then [x.h] else []
theorem kq (z:Int):IntKind.u64.wrap z = ((gh z:Nat):Int):=by rw [IntKind.wrap_u64];unfold gh;omega
variable {n:Nat}
theorem dp (h:n < 18446744073709551616):IntKind.i64.wrap (n:Int) = ct n:=by unfold ct;rw [IntKind.wrap_i64];split <;> omega
variable {x:Cl}
theorem eZ (h:mg x = true):fld x.k≠[]∧jz x = x∧x.l.length≤8:=by unfold mg at h;simp only [Bool.and_eq_true,bne_iff_ne,ne_eq,decide_eq_true_eq] at h;exact ⟨h.1.1,((ox _ _).1 h.1.2).symm,h.2⟩
end Go.Proofs.YtfoleblcaloeoaaGreatDoor
namespace Go.Proofs.YtfoleblcaloeoaaGreatDoor
open Go Go.RowKit Go.ChangeShapes Go.WideShapes Go.ChangeAt Go.Deep
theorem Tryz.own:ownKnob Tryz.prog.godebug = none:=by kernel_rfl
section
variable {H:Type} {enc:TypeId × Value→H} {w:World} {base:Nat} {spare:Nat→Bool} {held:Bool}
theorem xu {L:List Value} {i:Nat} {v:Value} (h:(L.drop i).take 1 = [v]):L[i]? = some v:=by
 have:((L.drop i).take 1)[0]? = some v:=by rw [h];rfl
 rw [List.getElem?_take_of_lt (by omega),List.getElem?_drop] at this;simpa using this
theorem pw {fuel:Nat} {L:List Value} {i:Nat} {x:DataW H × List MemPlace} (h:DataW.trod enc Tryz.prog w base spare held fuel 3 ((L.drop i).take 1) = some x):∃z,L[i]? = some (.int .i64 z):=by obtain ⟨z,e,_⟩:=DataW.trod_int Tryz.underlying3 h;exact ⟨z,xu e⟩
theorem aZ {fuel t n:Nat} {L:List Value} {x:DataW H × List MemPlace} (hu:Tryz.prog.underlying t = some (.array n 3)) (h:DataW.trod enc Tryz.prog w base spare held fuel t L = some x):∀i,i < n→∃z,L[i]? = some (.int .i64 z):=by obtain ⟨xs,m,_,_,_,hl,Ib⟩:=DataW.trod_array hu h;intro i hi;have h1:=Ib i hi;rw [kg,Nat.mul_one,List.getElem?_eq_getElem (by rw [hl];exact hi)] at h1;exact pw h1
theorem vh {L:List Value} {o n i:Nat} {v:Value} (h:((L.drop o).take n)[i]? = some v):L[o+i]? = some v:=by
 have hi:i < n:=by have:=(List.getElem?_eq_some_iff.1 h).1;rw [List.length_take] at this;omega
 rw [List.getElem?_take_of_lt hi,List.getElem?_drop] at h;exact h
theorem cells22:Tryz.prog.cellsOf 22 = 16:=by kernel_rfl
theorem cells24:Tryz.prog.cellsOf 24 = 64:=by kernel_rfl
theorem cells26:Tryz.prog.cellsOf 26 = 94:=by kernel_rfl
theorem open_cfg {cs:Array Value} {d:DataW H} {p:List MemPlace} (hs:cs.size = 94) (h:DataW.Trod enc Tryz.prog w base spare held 26 (.agg cs) d p):∃c:Cf,cs = cg c:=by
 obtain ⟨fuel,hf⟩:=h;have sG:(Value.agg cs).cells.toList = cs.toList:=rfl;rw [sG] at hf;obtain ⟨n,hp⟩:=na Tryz.underlying26 hf;have each:∀i,i < 94→∃z,cs.toList[i]? = some (.int .i64 z):=by
  intro i hi;by_cases i0:i = 0
  ·subst i0;obtain ⟨y,hy⟩:=dv hp 0 rfl 3 0 1 rfl rfl kg;exact pw hy
  by_cases i1:i = 1
  ·subst i1;obtain ⟨y,hy⟩:=dv hp 1 rfl 3 1 1 rfl rfl kg;exact pw hy
  by_cases i2:i < 18
  ·obtain ⟨y,hy⟩:=dv hp 2 rfl 22 2 16 rfl rfl cells22;obtain ⟨z,hz⟩:=aZ Tryz.underlying22 hy (i - 2) (by omega);have:=vh hz;rw [show 2+(i - 2) = i by omega] at this;exact ⟨z,this⟩
  by_cases i3:i < 26
  ·obtain ⟨y,hy⟩:=dv hp 3 rfl 23 18 8 rfl rfl wj;obtain ⟨z,hz⟩:=aZ Tryz.underlying23 hy (i - 18) (by omega);have:=vh hz;rw [show 18+(i - 18) = i by omega] at this;exact ⟨z,this⟩
  by_cases i4:i < 90
  ·obtain ⟨y,hy⟩:=dv hp 4 rfl 24 26 64 rfl rfl cells24;obtain ⟨xs,m,_,_,_,hl,Ib⟩:=DataW.trod_array Tryz.underlying24 hy;have h1:=Ib ((i - 26) / 8) (by omega);rw [wj,List.getElem?_eq_getElem (by rw [hl];omega)] at h1;obtain ⟨z,hz⟩:=aZ Tryz.underlying23 h1 ((i - 26) % 8) (by omega);have:=vh (vh hz);rw [show 26+((i - 26) / 8 * 8+(i - 26) % 8) = i by omega] at this;exact ⟨z,this⟩
  rcases (by omega:i = 90∨i = 91∨i = 92∨i = 93) with rfl | rfl | rfl | rfl
  ·obtain ⟨y,hy⟩:=dv hp 5 rfl 3 90 1 rfl rfl kg;exact pw hy
  ·obtain ⟨y,hy⟩:=dv hp 6 rfl 3 91 1 rfl rfl kg;exact pw hy
  ·obtain ⟨y,hy⟩:=dv hp 7 rfl 3 92 1 rfl rfl kg;exact pw hy
  ·obtain ⟨y,hy⟩:=dv hp 8 rfl 3 93 1 rfl rfl kg;exact pw hy
 classical
 refine ⟨fun i=>if h:i < 94 then (each i h).choose else 0,cg_of hs fun i hi=>?_⟩;simp only [dif_pos hi];exact (Array.getElem?_toList (xs:=cs)).symm.trans (each i hi).choose_spec
end
variable {ps:List MemPlace} {w:World}
theorem eD {H:Type} {enc:TypeId × Value→H} {P:Program} {base:Nat} {spare:Nat→Bool} {held:Bool} {t0 t1:TypeId} {args:Array Value} {ds:List (DataW H)} (h:DataW.TrodAll enc P w base spare held [t0,t1] args.toList ds ps) :
  ∃v0 v1 d0 d1 p0 p1,args = #[v0,v1]∧ds = [d0,d1]∧ps = p0 ++ p1∧DataW.Trod enc P w base spare held t0 v0 d0 p0∧DataW.Trod enc P w base spare held t1 v1 d1 p1:=by
 obtain ⟨v0,vs0,d0,ds0,p0,q0,AD,rfl,rfl,h0,k0⟩:=trodAll_cons h;obtain ⟨v1,vs1,d1,ds1,p1,q1,rfl,rfl,rfl,h1,k1⟩:=trodAll_cons k0;obtain ⟨rfl,rfl,rfl⟩:=trodAll_nil k1;exact ⟨v0,v1,d0,d1,p0,p1,by cases args;simp_all,rfl,by simp,h0,h1⟩
