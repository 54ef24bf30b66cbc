import Derived.Test.YtfoleblcaloeoaaGreatDoorZaq
set_option maxHeartbeats 40000000
set_option maxRecDepth 20000
namespace Go.Proofs.YtfoleblcaloeoaaGreatDoor
open Go Go.RowKit
def wdl (x:Nat):List Value:=[.int .u64 (x:Int)]
theorem xa (x:Nat):(wdl x).length = 1:=rfl
def US (w:World) (g off c n:Nat) (S:Nat→Prop):Prop:=∃l:List Nat,l.length = n∧(∀x∈l,S x)∧SE wdl 1 37 w (.slice (some ⟨g,off,none⟩) n c) l
section
variable {w w':World} {g off c n:Nat} {S:Nat→Prop}
theorem US.lt (h:US w g off c n S):g < w.heap.size:=by obtain ⟨l,h1,h2,h3⟩:=h;exact h3.own_lt g (by simp [own,Value.ownBlock])
theorem US.frozen (h:US w g off c n S) (i:Nat):w.frozen? ⟨g,i,none⟩ = false:=by obtain ⟨l,h1,h2,h3⟩:=h;exact h3.frozen i
theorem US.chg (h:US w g off c n S) {F:List Nat} (hc:Chg F w w') (hg:g∉F):US w' g off c n S:=by obtain ⟨l,h1,h2,h3⟩:=h;exact ⟨l,h1,h2,h3.chg hc (fun k hk=>by rw [fd] at hk;obtain rfl:=aa hk;exact hg)⟩
theorem US.stay (h:US w g off c n S) (hc:Chg [] w w'):US w' g off c n S:=h.chg hc ab
theorem US.cell (h:US w g off c n S) {k:Nat} (hk:k < n):∃x,S x∧w.cell? ⟨g,off+k,none⟩ = some (.int .u64 (x:Nat)):=by obtain ⟨l,rfl,h2,h3⟩:=h;refine ⟨l[k],h2 _ (ao hk),?_⟩;have:=RE.cell xa (SE.re h3) hk (j:=0) (u:=.int .u64 (l[k]:Nat)) (Nat.zero_lt_one) rfl;simpa using this
theorem US.set (h:US w g off c n S) {k x:Nat} (hk:k < n) (hx:S x):US (w.setCell ⟨g,off+k,none⟩ (.int .u64 (x:Nat))) g off c n S:=by
 obtain ⟨l,rfl,h2,h3⟩:=h;refine ⟨l.set k x,by simp,fun y hy=>?_,?_⟩
 ·rcases List.mem_or_eq_of_mem_set hy with hy | rfl
  ·exact h2 _ hy
  ·exact hx
 ·have:=SE.set xa h3 hk (j:=0) (u:=.int .u64 (x:Nat)) (x:=x) (Nat.zero_lt_one) rfl;simpa using this
theorem US.swap (h:US w g off c n S) {i j x y:Nat} (hi:i < n) (hj:j < n) (hx:S x) (hy:S y):US ((w.setCell ⟨g,off+i,none⟩ (.int .u64 (x:Nat))).setCell ⟨g,off+j,none⟩ (.int .u64 (y:Nat))) g off c n S:=(h.set hi hx).set hj hy
theorem eh (w:World) (g i j:Nat) (u v:Value):Chg [g] w ((w.setCell ⟨g,i,none⟩ u).setCell ⟨g,j,none⟩ v) :=
 ((av [g] w).setCell (p:=⟨g,i,none⟩) (.inl (by simp)) _).setCell (p:=⟨g,j,none⟩) (.inl (by simp)) _
end
theorem nan_any (x:Nat) (w:World):Calls Tryz.prog 145 #[.int .u64 (x:Nat)] w fun e w'=>e = .returned (.bool false)∧w = w':=by go_enter Tryz.func145,Tryz.ntmps145;go_wp2_with fail;go_ret;exact ⟨rfl,rfl⟩
theorem gr (x y:Nat) (w:World):Calls Tryz.prog 130 #[.int .u64 (x:Nat),.int .u64 (y:Nat)] w fun e w'=>(∃b,e = .returned (.bool b))∧w = w':=by go_enter Tryz.func130,Tryz.ntmps130;go_wp2_with fail;refine (nan_any x w).mono ?_;rintro e w1 ⟨rfl,rfl⟩;go_wp2_with fail;go_ret;exact ⟨⟨_,rfl⟩,rfl⟩
variable {w:World} {b off c n:Nat} {S:Nat→Prop}
theorem ins_w {g:Nat} {a:Nat} (h:US w g off c n S) (hb:b≤n) (xG:a≤b) (hn:n≤1000) :
  Calls Tryz.prog 124 #[.slice (some ⟨g,off,none⟩) n c,.int .i64 (a:Nat),.int .i64 (b:Nat)] w fun e w'=>e = .returned (.tuple #[])∧US w' g off c n S∧Chg [g] w w':=by
 have HU:=bk h;clear h;have oU:(n:Int)≤1000:=by omega
 have nH:(b:Int)≤(n:Int):=by omega
 have Ci:(a:Int)≤(b:Int):=by omega
 go_enter Tryz.func124,Tryz.ntmps124;go_wp2_with fail;go_loopw [6] (fun t wr=>∃i:Nat,1≤i∧i≤b+1∧t = .int .i64 (i:Nat)∧Hid (US wr g off c n S)∧Hid (Chg [g] w wr)) (fun t _=>b+2 - (intOf t).toNat)
 case atStart=>exact ⟨a+1,by omega,by omega,by go_num,HU,bk (av _ _)⟩
 case round =>
  obtain ⟨i,tC,hi,rfl,hU,hC⟩:=hrel;by_cases kG:i < b
  ·have i1:(0:Int)≤(i:Int):=(by omega);have i2:(i:Int) < (b:Int):=(by omega);go_wp2_with fail;go_loopw [7] (fun t wr'=>∃j:Nat,j≤i∧t = .int .i64 (j:Nat)∧Hid (US wr' g off c n S)∧Hid (Chg [g] w wr')) (fun t _=>(intOf t).toNat)
   case atStart=>exact ⟨i,by omega,rfl,hU,hC⟩
   case round =>
    clear hU hC;obtain ⟨j,hj,rfl,hU,hC⟩:=hrel;by_cases hja:a < j
    ·obtain ⟨k,rfl⟩:∃k,j = k+1:=⟨j - 1,by omega⟩;obtain ⟨x,hx,q1⟩:=hU.out.cell (k:=k+1) (by omega);obtain ⟨y,hy,q0⟩:=hU.out.cell (k:=k) (by omega);have f1:=hU.out.frozen (off+(k+1));have f0:=hU.out.frozen (off+k);have kk0:decide ((a:Int) < (k:Int)+1) = true:=ae (by omega);have kk1:(0:Int)≤(k:Int)+1:=(by omega);have kk2:(k:Int)+1 < (n:Int):=(by omega);have kk3:(k:Int) < (n:Int):=(by omega);have sU:k+1 < n:=(by omega);have HS:=bk (ai hx (ai hy sU));clear hx hy sU;go_wp2_with fail;refine rgt [0,0,0,0,0,0,0,1,0,0,0,0,1,3,0] [none,none,none,none,some (19,true),some (19,true),some (19,true),some (19,true),some (19,true),some (19,true),some (19,true),some (19,true),some (19,true),some (19,true),none] (fun _=>True) ?_;go_wp2_with (first|refine cdA fun K U=>?_|refine cx ?_;go_simp|refine cy ?_|refine bn fun K U=>?_;go_simp|refine bq ?_);refine (gr x y _).mono ?_;rintro e W7 ⟨⟨z,rfl⟩,rfl⟩;refine U _ _ ?_;clear U K;cases z with
     | true =>
      go_wp2_with (first|refine cdA fun K U=>?_|refine cx ?_;go_simp|refine cy ?_|refine bn fun K U=>?_;go_simp|refine bq ?_);refine rgn18 [0,0,0,0,0,0,0,0,0,1,0,0,0,1,0,3,0,3] ?_;go_wp2_with (first|refine cdA fun K U=>?_|refine bn fun K U=>?_;go_simp|refine bq ?_);go_roundw
      case rel=>exact ⟨k,by omega,rfl,bk ((show US wr.drew g off c n S from hU.out).swap HS.out.2.2 (by have:=HS.out;omega) HS.out.2.1 HS.out.1),bk ((hC.out.trans (eh _ _ _ _ _ _) (fun y hy=>.inl hy)).drew.drew)⟩
      case measure=>simp [intOf]
     | false =>
      go_wp2_with (first|refine cdA fun K U=>?_|refine bn fun K U=>?_;go_simp|refine bq ?_);go_roundw
      case rel=>exact ⟨i+1,by omega,by omega,by go_num,bk (show US wr.drew g off c n S from hU.out),bk hC.out.drew⟩
      case measure=>simp [intOf];omega
    ·have kk0:decide ((a:Int) < (j:Int)) = false:=ac (by omega);go_wp2_with fail;refine rgt [0,0,0,0,0,0,0,1,0,0,0,0,1,3,0] [none,none,none,none,some (19,true),some (19,true),some (19,true),some (19,true),some (19,true),some (19,true),some (19,true),some (19,true),some (19,true),some (19,true),none] (fun _=>True) ?_;go_wp2_with (first|refine cdA fun K U=>?_|refine cx ?_;go_simp|refine cy ?_|refine bn fun K U=>?_;go_simp|refine bq ?_);go_roundw
     case rel=>exact ⟨i+1,by omega,by omega,by go_num,bk (show US wr.drew g off c n S from hU.out),bk hC.out.drew⟩
     case measure=>simp [intOf];omega
  ·have i2:decide ((i:Int) < (b:Int)) = false:=ac (by omega);go_wp2_with fail;go_end0;exact ⟨rfl,hU.out,hC.out⟩
theorem rev_w {g:Nat} {a:Nat} (h:US w g off c n S) (hb:b≤n) (xG:a≤b) (hn:n≤1000) :
  Calls Tryz.prog 128 #[.slice (some ⟨g,off,none⟩) n c,.int .i64 (a:Nat),.int .i64 (b:Nat)] w fun e w'=>e = .returned (.tuple #[])∧US w' g off c n S∧Chg [g] w w':=by
 have HU:=bk h;clear h;have oU:(n:Int)≤1000:=by omega
 have nH:(b:Int)≤(n:Int):=by omega
 have Ci:(a:Int)≤(b:Int):=by omega
 go_enter Tryz.func128,Tryz.ntmps128;go_wp2_with fail;go_loopw [6,7] (fun t u wr=>∃(i:Nat) (j:Int),-1≤j∧j < b∧i≤b∧t = .int .i64 (i:Nat)∧u = .int .i64 j∧Hid (US wr g off c n S)∧Hid (Chg [g] w wr)) (fun t _ _=>b+1 - (intOf t).toNat)
 case atStart=>exact ⟨a,(b:Int) - 1,by omega,by omega,by omega,rfl,by go_num,HU,bk (av _ _)⟩
 case round =>
  obtain ⟨i,j,BD,hj,hi,rfl,rfl,hU,hC⟩:=hrel;by_cases kG:(i:Int) < j
  ·obtain ⟨k,rfl⟩:∃k:Nat,j = k:=⟨j.toNat,by omega⟩;obtain ⟨x,hx,q1⟩:=hU.out.cell (k:=i) (by omega);obtain ⟨y,hy,q0⟩:=hU.out.cell (k:=k) (by omega);have f1:=hU.out.frozen (off+i);have f0:=hU.out.frozen (off+k);have kk0:decide ((i:Int) < (k:Int)) = true:=ae (by omega);have kk9:decide (i < k) = true:=ae (by omega);have kk1:(i:Int) < (n:Int):=(by omega);have kk2:(k:Int) < (n:Int):=(by omega);have kT:¬ i = k:=(by omega);have yN:¬ k = i:=(by omega);have HS:=bk (ai hx (ai hy (show i < n∧k < n∧k < b∧i < b by omega)));clear hx hy kG BD hj;go_wp2_with fail;refine mz [0,0,0,0,0,0,0,1,0,0,0,1,0,3,0,3] ?_;go_wp2_with (first|refine cdA fun K U=>?_|refine bn fun K U=>?_;go_simp|refine bq ?_);go_roundw
   case rel=>exact ⟨i+1,(k:Int) - 1,by omega,by have:=HS.out;omega,by have:=HS.out;omega,by go_num,by go_num,bk ((show US wr.drew g off c n S from hU.out).swap HS.out.2.2.1 HS.out.2.2.2.1 HS.out.2.1 HS.out.1),bk ((hC.out.trans (eh _ _ _ _ _ _) (fun y hy=>.inl hy)).drew)⟩
   case measure=>have:=HS.out;simp [intOf];omega
  ·have kk0:decide ((i:Int) < j) = false:=ac kG;go_wp2_with fail;go_end0;exact ⟨rfl,hU.out,hC.out⟩
theorem fI {g q s i j:Nat} (h:US w g off c n S) (hq:Blk w q 3 #[.int .i64 (s:Nat)]) (hs:s≤1000) (hi:i < n) (hj:j < n) (hn:n≤1000) :
  Calls Tryz.prog 146 #[.slice (some ⟨g,off,none⟩) n c,.int .i64 (i:Nat),.int .i64 (j:Nat),.pointer (some ⟨q,0,none⟩)] w fun e w' =>
   (∃x y:Nat,e = .returned (.tuple #[.int .i64 (x:Nat),.int .i64 (y:Nat)])∧(x = i∧y = j∨x = j∧y = i))∧(∃s',s'≤s+1∧Blk w' q 3 #[.int .i64 (s':Nat)])∧Chg [q] w w':=by
 obtain ⟨x,-,q1⟩:=h.cell hi;obtain ⟨y,-,q0⟩:=h.cell hj;have qc:=hq.cell 0;simp at qc;have qf:=hq.frozen 0;have HQ:=bk hq;clear h hq;have k1:(i:Int) < (n:Int):=by omega
 have k2:(j:Int) < (n:Int):=by omega
 have k3:(s:Int)≤1000:=by omega
 go_enter Tryz.func146,Tryz.ntmps146;go_wp2_with fail;refine rgn9 [0,0,0,1,0,0,0,1,3] ?_;go_wp2_with (first|refine cdA fun K U=>?_|refine bn fun K U=>?_;go_simp|refine bq ?_);refine (gr y x _).mono ?_;rintro e W7 ⟨⟨z,rfl⟩,rfl⟩;refine U _ _ ?_;clear U K;cases z with
 | true =>
  go_wp2_with (first|refine cdA fun K U=>?_|refine bn fun K U=>?_;go_simp|refine bq ?_);go_ret2;exact ⟨⟨j,i,rfl,.inr ⟨rfl,rfl⟩⟩,⟨s+1,Nat.le_refl _,by have:=HQ.out.set_ 0 (.int .i64 ((s+1:Nat):Int));simp at this ⊢;exact this⟩,((av [q] w).setCell (p:=⟨q,0,none⟩) (.inl (by simp)) _).drew⟩
 | false =>
  go_wp2_with (first|refine cdA fun K U=>?_|refine bn fun K U=>?_;go_simp|refine bq ?_);go_ret2;exact ⟨⟨i,j,rfl,.inl ⟨rfl,rfl⟩⟩,⟨s,by omega,HQ.out⟩,(av [q] w).drew⟩
theorem med_w {g q s i j k:Nat} (h:US w g off c n S) (hq:Blk w q 3 #[.int .i64 (s:Nat)]) (hg:q≠g) (hs:s≤900) (hi:i < n) (hj:j < n) (hk:k < n) (hn:n≤1000) :
  Calls Tryz.prog 144 #[.slice (some ⟨g,off,none⟩) n c,.int .i64 (i:Nat),.int .i64 (j:Nat),.int .i64 (k:Nat),.pointer (some ⟨q,0,none⟩)] w fun e w' =>
   (∃x:Nat,e = .returned (.int .i64 (x:Nat))∧(x = i∨x = j∨x = k))∧(∃s',s'≤s+3∧Blk w' q 3 #[.int .i64 (s':Nat)])∧Chg [q] w w':=by
 have HU:=bk h;have HQ:=bk hq;have HB:=bk (ai hi (ai hj (ai hk (ai hn (ai hs hg)))));clear h hq hi hj hk hn hs hg;go_enter Tryz.func144,Tryz.ntmps144;go_wp2_with fail;refine (fI HU.out HQ.out (by have:=HB.out;omega) HB.out.1 HB.out.2.1 HB.out.2.2.2.1).mono ?_;rintro e W1 ⟨⟨x1,y1,rfl,h1⟩,⟨s1,h2,h3⟩,h4⟩;have H1:=bk (ai h1 (ai h2 (ai h3 h4)));have yB:=bk (HU.out.chg h4 (by simp;exact fun e=>HB.out.2.2.2.2.2 e.symm));clear h1 h2 h3 h4;go_wp2_with fail;refine (fI yB.out H1.out.2.2.1 (by have:=HB.out;have:=H1.out.2.1;omega) (by have:=HB.out;have:=H1.out.1;omega) HB.out.2.2.1 HB.out.2.2.2.1).mono ?_;rintro e W2 ⟨⟨x2,y2,rfl,h1⟩,⟨s2,h2,h3⟩,h4⟩;have H2:=bk (ai h1 (ai h2 (ai h3 h4)));have GN:=bk (yB.out.chg h4 (by simp;exact fun e=>HB.out.2.2.2.2.2 e.symm));clear h1 h2 h3 h4;go_wp2_with fail;refine (fI GN.out H2.out.2.2.1 (by have:=HB.out;have:=H1.out.2.1;have:=H2.out.2.1;omega) (by have:=HB.out;have:=H1.out.1;omega) (by have:=HB.out;have:=H1.out.1;have:=H2.out.1;omega) HB.out.2.2.2.1).mono ?_;rintro e W3 ⟨⟨x3,y3,rfl,h1⟩,⟨s3,h2,h3⟩,h4⟩;have H3:=bk (ai h1 (ai h2 (ai h3 h4)));clear h1 h2 h3 h4;go_wp2_with fail;go_ret;exact ⟨⟨y3,rfl,by have:=H1.out.1;have:=H2.out.1;have:=H3.out.1;omega⟩,⟨s3,by have:=H1.out.2.1;have:=H2.out.2.1;have:=H3.out.2.1;omega,H3.out.2.2.1⟩,(H1.out.2.2.2.and_ H2.out.2.2.2).and_ H3.out.2.2.2⟩
theorem fB {g q s i:Nat} (h:US w g off c n S) (hq:Blk w q 3 #[.int .i64 (s:Nat)]) (hg:q≠g) (hs:s≤900) (hi:i+1 < n) (h1:1≤i) (hn:n≤1000) :
  Calls Tryz.prog 143 #[.slice (some ⟨g,off,none⟩) n c,.int .i64 (i:Nat),.pointer (some ⟨q,0,none⟩)] w fun e w' =>
   (∃x:Nat,e = .returned (.int .i64 (x:Nat))∧(x = i - 1∨x = i∨x = i+1))∧(∃s',s'≤s+3∧Blk w' q 3 #[.int .i64 (s':Nat)])∧Chg [q] w w':=by
 have HC:=bk (med_w h hq hg hs (i:=i - 1) (j:=i) (k:=i+1) (by omega) (by omega) hi hn);have e1:((i - 1:Nat):Int) = (i:Int) - 1:=by omega
 have e2:((i+1:Nat):Int) = (i:Int)+1:=by omega
 rw [e1,e2] at HC;clear h hq e1 e2;have oU:(n:Int)≤1000:=by omega
 have k1:(i:Int)+1 < (n:Int):=by omega
 go_enter Tryz.func143,Tryz.ntmps143;go_wp2_with fail;refine HC.out.mono ?_;rintro e W1 ⟨⟨x,rfl,h1⟩,h2,h3⟩;go_wp2_with fail;go_ret;exact ⟨⟨x,rfl,h1⟩,h2,h3⟩
theorem fX {g lo hi f:Nat} (h:US w g off c n S) (hf:f+hi≤n) (vB:lo≤n) (hn:n≤1000) :
  Calls Tryz.prog 140 #[.slice (some ⟨g,off,none⟩) n c,.int .i64 (lo:Nat),.int .i64 (hi:Nat),.int .i64 (f:Nat)] w fun e w'=>e = .returned (.tuple #[])∧US w' g off c n S∧Chg [g] w w':=by
 have HU:=bk h;clear h;have oU:(n:Int)≤1000:=by omega
 have hf':(f:Int)+(hi:Int)≤(n:Int):=by omega
 have hlo':(lo:Int)≤(n:Int):=by omega
 go_enter Tryz.func140,Tryz.ntmps140;go_wp2_with fail;go_loopw [8] (fun t wr=>∃r:Nat,r≤n∧t = .int .i64 (r:Nat)∧Hid (US wr g off c n S)∧Hid (Chg [g] w wr)) (fun t _=>n - (intOf t).toNat)
 case atStart=>exact ⟨lo,vB,rfl,HU,bk (av _ _)⟩
 case round =>
  obtain ⟨r,hr,rfl,hU,hC⟩:=hrel;obtain ⟨ch,lN⟩:∃ch:Nat,(2:Int) * (r:Int)+1 = (ch:Int):=⟨2 * r+1,by omega⟩;have r1:(r:Int)≤(n:Int):=by omega
  by_cases kG:ch < hi
  ·obtain ⟨p,hp⟩:∃p:Nat,(f:Int)+(ch:Int) = (p:Int):=⟨f+ch,by omega⟩;obtain ⟨o,ho⟩:∃o:Nat,(f:Int)+(r:Int) = (o:Int):=⟨f+r,by omega⟩;have kk0:decide ((hi:Int)≤(ch:Int)) = false:=ac (by omega);have kk1:decide (hi≤ch) = false:=ac (by omega);have HB:=bk (show p < n∧o < n∧r < ch∧p = f+ch∧o = f+r∧ch < hi∧hi≤n∧o < p by omega);clear kG hf vB hr;go_upto_region 3 with (fail)
   go_cut [36] from 17 to 36 (fun z W=>∃zb:Bool,z = .bool zb∧Hid (zb = true→ch+1 < hi)∧Hid (US W g off c n S)∧Hid (Chg [g] w W))
   case first =>
    by_cases h1:ch+1 < hi
    ·obtain ⟨x,-,q1⟩:=hU.out.cell (k:=p) HB.out.1;obtain ⟨y,-,q0⟩:=hU.out.cell (k:=p+1) (by have:=HB.out;omega);have k1:decide ((ch:Int)+1 < (hi:Int)) = true:=ae (by omega);have k3:(p:Int)+1 < (n:Int):=(by have:=HB.out;omega);have k4:(p:Int) < (n:Int):=(by omega);have H1:=bk h1;clear h1;refine rgt [0,0,0,0,0,0,0,0,0,0,1,0,0,0,0,0,0,1,3,0] [none,none,none,none,none,some (21,true),some (21,true),some (21,true),some (21,true),some (21,true),some (21,true),some (21,true),some (21,true),some (21,true),some (21,true),some (21,true),some (21,true),some (21,true),some (21,true),none] (fun _=>True) ?_;go_wp2_with (first|refine cdA fun K U=>?_|refine cx ?_;go_simp|refine cy ?_|refine bn fun K U=>?_;go_simp|refine bq ?_);refine (gr x y _).mono ?_;rintro e W7 ⟨⟨z,rfl⟩,rfl⟩;refine U _ _ ?_;clear U K;go_wp2_with (first|refine cdA fun K U=>?_|refine cx ?_;go_simp|refine cy ?_|refine bn fun K U=>?_;go_simp|refine bq ?_);go_meet
     case rel=>exact ⟨z,rfl,bk (fun _=>H1.out),bk (show US wr.drew g off c n S from hU.out),bk hC.out.drew⟩
    ·have k1:decide ((ch:Int)+1 < (hi:Int)) = false:=ac (by omega);clear h1;refine rgt [0,0,0,0,0,0,0,0,0,0,1,0,0,0,0,0,0,1,3,0] [none,none,none,none,none,some (21,true),some (21,true),some (21,true),some (21,true),some (21,true),some (21,true),some (21,true),some (21,true),some (21,true),some (21,true),some (21,true),some (21,true),some (21,true),some (21,true),none] (fun _=>True) ?_;go_wp2_with (first|refine cdA fun K U=>?_|refine cx ?_;go_simp|refine cy ?_|refine bn fun K U=>?_;go_simp|refine bq ?_);go_meet
     case rel=>exact ⟨false,rfl,bk (fun h=>by cases h),bk (show US wr.drew g off c n S from hU.out),bk hC.out.drew⟩
   case rest =>
    obtain ⟨zb,rfl,hz,oA,rH⟩:=hcut;clear hU hC;cases zb with
    | true =>
     obtain ⟨ch2,oJ⟩:∃y:Nat,(ch:Int)+1 = (y:Int):=⟨ch+1,by omega⟩;obtain ⟨p2,qG⟩:∃y:Nat,(f:Int)+(ch2:Int) = (y:Int):=⟨f+ch2,by omega⟩;have hch3:(ch:Int) < 100000:=(by have:=HB.out;omega);have H2:=bk (show ch2 = ch+1∧p2 = f+ch2∧ch+1 < hi by have:=hz.out rfl;omega);obtain ⟨x,hx,q1⟩:=oA.out.cell (k:=o) HB.out.2.1;obtain ⟨y,hy,q0⟩:=oA.out.cell (k:=p2) (by have:=HB.out;have:=H2.out;omega);have f1:=oA.out.frozen (off+o);have f0:=oA.out.frozen (off+p2);have HS:=bk (ai hx hy);have k3:(o:Int) < (n:Int):=(by have:=HB.out;omega);have k4:(p2:Int) < (n:Int):=(by have:=HB.out;have:=H2.out;omega);have kT:¬ o = p2:=(by have:=HB.out;have:=H2.out;omega);have yN:¬ p2 = o:=fun e=>kT e.symm;clear hx hy;go_upto_region 5 with (fail)
     refine rgn14 [0,0,0,0,0,1,0,0,0,0,0,1,3,0] ?_;go_wp2_with (first|refine cdA fun K U=>?_|refine bn fun K U=>?_;go_simp|refine bq ?_);refine (gr x y _).mono ?_;rintro e W7 ⟨⟨z,rfl⟩,rfl⟩;refine U _ _ ?_;clear U K;cases z with
     | true =>
      go_wp2_with (first|refine cdA fun K U=>?_|refine bn fun K U=>?_;go_simp|refine bq ?_);refine rgt [0,0,0,0,0,0,0,0,0,0,0,0,0,1,0,0,0,0,0,1,0,3,0,3] [none,none,none,none,none,none,none,none,none,none,none,none,none,none,none,none,none,none,none,none,none,none,none,none] (fun _=>True) ?_;go_wp2_with (first|refine cdA fun K U=>?_|refine bn fun K U=>?_;go_simp|refine bq ?_);go_roundw
      case rel=>exact ⟨ch2,by have:=HB.out;have:=H2.out;omega,by go_num,bk ((show US wc.drew g off c n S from oA.out).swap HB.out.2.1 (by have:=HB.out;have:=H2.out;omega) HS.out.2 HS.out.1),bk ((rH.out.trans (eh _ _ _ _ _ _) (fun y hy=>.inl hy)).drew.drew)⟩
      case measure=>have:=HB.out;have:=H2.out;simp [intOf];omega
     | false =>
      go_wp2_with (first|refine cdA fun K U=>?_|refine bn fun K U=>?_;go_simp|refine bq ?_);(try simp only [Exit.inBlock,Exit.then]);refine bodyPost_ret (results_none rfl _ _ _) rfl ?_;exact ⟨rfl,oA.out,rH.out.drew⟩
    | false =>
     have H2:=bk (show True from trivial);obtain ⟨x,hx,q1⟩:=oA.out.cell (k:=o) HB.out.2.1;obtain ⟨y,hy,q0⟩:=oA.out.cell (k:=p) (by have:=HB.out;have:=H2.out;omega);have f1:=oA.out.frozen (off+o);have f0:=oA.out.frozen (off+p);have HS:=bk (ai hx hy);have k3:(o:Int) < (n:Int):=(by have:=HB.out;omega);have k4:(p:Int) < (n:Int):=(by have:=HB.out;have:=H2.out;omega);have kT:¬ o = p:=(by have:=HB.out;have:=H2.out;omega);have yN:¬ p = o:=fun e=>kT e.symm;clear hx hy;go_upto_region 5 with (fail)
     refine rgn14 [0,0,0,0,0,1,0,0,0,0,0,1,3,0] ?_;go_wp2_with (first|refine cdA fun K U=>?_|refine bn fun K U=>?_;go_simp|refine bq ?_);refine (gr x y _).mono ?_;rintro e W7 ⟨⟨z,rfl⟩,rfl⟩;refine U _ _ ?_;clear U K;cases z with
     | true =>
      go_wp2_with (first|refine cdA fun K U=>?_|refine bn fun K U=>?_;go_simp|refine bq ?_);refine rgt [0,0,0,0,0,0,0,0,0,0,0,0,0,1,0,0,0,0,0,1,0,3,0,3] [none,none,none,none,none,none,none,none,none,none,none,none,none,none,none,none,none,none,none,none,none,none,none,none] (fun _=>True) ?_;go_wp2_with (first|refine cdA fun K U=>?_|refine bn fun K U=>?_;go_simp|refine bq ?_);go_roundw
      case rel=>exact ⟨ch,by have:=HB.out;have:=H2.out;omega,by go_num,bk ((show US wc.drew g off c n S from oA.out).swap HB.out.2.1 (by have:=HB.out;have:=H2.out;omega) HS.out.2 HS.out.1),bk ((rH.out.trans (eh _ _ _ _ _ _) (fun y hy=>.inl hy)).drew.drew)⟩
      case measure=>have:=HB.out;have:=H2.out;simp [intOf];omega
     | false =>
      go_wp2_with (first|refine cdA fun K U=>?_|refine bn fun K U=>?_;go_simp|refine bq ?_);(try simp only [Exit.inBlock,Exit.then]);refine bodyPost_ret (results_none rfl _ _ _) rfl ?_;exact ⟨rfl,oA.out,rH.out.drew⟩
  ·have kk0:decide ((hi:Int)≤(ch:Int)) = true:=ae (by omega);have kk1:decide (hi≤ch) = true:=ae (by omega);go_wp2_with fail;go_end0;exact ⟨rfl,hU.out,hC.out⟩
theorem heap_w {g a l:Nat} (h:US w g off c n S) (hb:a+l≤n) (hl:1≤l) (hn:n≤1000) :
  Calls Tryz.prog 125 #[.slice (some ⟨g,off,none⟩) n c,.int .i64 (a:Nat),.int .i64 ((a+l:Nat):Int)] w fun e w'=>e = .returned (.tuple #[])∧US w' g off c n S∧Chg [g] w w':=by
 have HU:=bk h;clear h;have oU:(n:Int)≤1000:=by omega
 have nH:(a:Int)+(l:Int)≤(n:Int):=by omega
 have HB:=bk (ai hb (ai hl hn));have e0:(a:Int)+(l:Int) - (a:Int) = (l:Int):=by omega
 go_enter Tryz.func125,Tryz.ntmps125;go_upto_region 4 with (fail)
 go_loopw [9] (fun t wr=>∃i:Int,-1≤i∧i≤l∧t = .int .i64 i∧Hid (US wr g off c n S)∧Hid (Chg [g] w wr)) (fun t _=>(intOf t+1).toNat)
 case atStart=>exact ⟨_,by omega,by omega,rfl,HU,bk (av _ _)⟩
 case round =>
  obtain ⟨i,sT,hi,rfl,hU,hC⟩:=hrel;by_cases kG:0≤i
  ·obtain ⟨k,rfl⟩:∃k:Nat,i = k:=⟨i.toNat,by omega⟩;have k1:(k:Int)≤(l:Int):=(by omega);have HK:=bk (show k≤l by omega);clear sT hi kG;go_wp2_with fail;refine (fX hU.out (lo:=k) (hi:=l) (f:=a) (by have:=HB.out;omega) (by have:=HB.out;have:=HK.out;omega) HB.out.2.2).mono ?_;rintro e W1 ⟨rfl,vE,kO⟩;have yB:=bk vE;have lU:=bk (hC.out.and_ kO);clear vE kO;go_wp2_with fail;go_roundw
   case rel =>
    (repeat apply Exists.intro);exact ⟨⟨(k:Int) - 1,by omega,by have:=HK.out;omega,by go_num,yB,lU⟩,rfl⟩
   case measure=>simp [intOf]
  ·obtain rfl:i = -1:=(by omega);clear sT hi kG;go_upto_region 8 with (fail)
   go_loopw [10] (fun t wr=>∃i:Int,-1≤i∧i < l∧t = .int .i64 i∧Hid (US wr g off c n S)∧Hid (Chg [g] w wr)) (fun t _=>(intOf t+1).toNat)
   case atStart=>exact ⟨_,by omega,by omega,rfl,hU,hC⟩
   case round =>
    clear hU hC;obtain ⟨i,sT,hi,rfl,hU,hC⟩:=hrel;by_cases kG:0≤i
    ·obtain ⟨k,rfl⟩:∃k:Nat,i = k:=⟨i.toNat,by omega⟩;have k1:(k:Int) < (l:Int):=(by omega);have ka:(a:Int) < (n:Int):=(by have:=HB.out;omega);obtain ⟨x,hx,q1⟩:=hU.out.cell (k:=a) (by have:=HB.out;omega);have f1:=hU.out.frozen (off+a);by_cases h0:k = 0
     ·subst h0;have HS:=bk (ai hx (show a < n∧0 < l by have:=HB.out;omega));clear sT hi kG hx;go_upto_region 10 with (fail)
      refine rgn20 [0,0,0,0,0,0,0,0,0,0,0,1,0,0,0,1,0,3,0,3] ?_;go_wp2_with (first|refine cdA fun K U=>?_|refine bn fun K U=>?_;go_simp|refine bq ?_);refine (fX (show US _ g off c n S from (show US wr.drew g off c n S from hU.out).swap HS.out.2.1 HS.out.2.1 HS.out.1 HS.out.1) (lo:=0) (hi:=0) (f:=a) (by have:=HS.out;omega) (by omega) HB.out.2.2).mono ?_;rintro e W1 ⟨rfl,vE,kO⟩;have yB:=bk vE;have lU:=bk (Chg.and_ ((hC.out.trans (eh _ _ _ _ _ _) (fun y hy=>.inl hy)).drew) kO);clear vE kO;go_wp2_with fail;go_roundw
      case rel =>
       (repeat apply Exists.intro);exact ⟨⟨(0:Int) - 1,by omega,by have:=HS.out;omega,by go_num,yB,lU⟩,rfl⟩
      case measure=>simp [intOf]
     ·obtain ⟨p,hp⟩:∃p:Nat,(a:Int)+(k:Int) = (p:Int):=⟨a+k,by omega⟩;obtain ⟨y,hy,q0⟩:=hU.out.cell (k:=p) (by have:=HB.out;omega);have f0:=hU.out.frozen (off+p);have kp:(p:Int) < (n:Int):=(by have:=HB.out;omega);have kT:¬ a = p:=(by omega);have yN:¬ p = a:=(by omega);have HS:=bk (ai hx (ai hy (show a < n∧p < n∧k < l∧a+l≤n by have:=HB.out;omega)));clear sT hi kG hx hy h0;go_upto_region 10 with (fail)
      refine rgn20 [0,0,0,0,0,0,0,0,0,0,0,1,0,0,0,1,0,3,0,3] ?_;go_wp2_with (first|refine cdA fun K U=>?_|refine bn fun K U=>?_;go_simp|refine bq ?_);refine (fX (show US _ g off c n S from (show US wr.drew g off c n S from hU.out).swap HS.out.2.2.1 HS.out.2.2.2.1 HS.out.2.1 HS.out.1) (lo:=0) (hi:=k) (f:=a) (by have:=HS.out;omega) (by omega) HB.out.2.2).mono ?_;rintro e W1 ⟨rfl,vE,kO⟩;have yB:=bk vE;have lU:=bk (Chg.and_ ((hC.out.trans (eh _ _ _ _ _ _) (fun y hy=>.inl hy)).drew) kO);clear vE kO;go_wp2_with fail;go_roundw
      case rel =>
       (repeat apply Exists.intro);exact ⟨⟨(k:Int) - 1,by omega,by have:=HS.out;omega,by go_num,yB,lU⟩,rfl⟩
      case measure=>simp [intOf]
    ·obtain rfl:i = -1:=(by omega);go_wp2_with fail;go_end0;exact ⟨rfl,hU.out,hC.out⟩
theorem ei (e:Int) (w:World):Calls Tryz.prog 75 #[.int .i64 e] w fun e' w'=>e' = .returned (.agg (rsc (bw e) zV))∧Chg [] w w':=by have HB:=bk (br_e e);go_enter Tryz.func75,Tryz.ntmps75;go_wp2_with (first|refine ck rfl rfl ?_;try go_simp|refine cz rfl _ rfl HB.out ?_ ?_;(focus (simp [Act.eval];done))|refine bu (b:=w.heap.size) (y:=bw e) (u:=zV) rfl _ _ rfl rfl rfl rfl (ax w _ _) ?_;intro W4 h4 kZ);refine bodyPost_ret (v:=.agg (rsc (bw e) zV)) (results_cell_row (p:=2) (ty:=40) rfl _ _ w.heap.size 40 _ (0,0) _ rfl h4 Tryz.underlying40 rfl dq) rfl ⟨rfl,wo kZ⟩
variable {m:Nat}
theorem cR {k:Nat} (hk:k < 256) (hm:m < 256) (w:World):Calls Tryz.prog 106 #[.agg #[.int .u8 k,.int .u8 m]] w fun e w'=>e = .returned (.int .u64 ((k * 256+m:Nat):Int))∧Chg [] w w':=by
 obtain ⟨W1,kP⟩:∃W1,W1 = w.alloc (.cells #[.int .u8 k,.int .u8 m] 45):=⟨_,rfl⟩;have kO:Chg [] w W1:=by rw [kP];exact (av [] w).alloc _
 have hb:PolB W1 w.heap.size k m:=by rw [kP];exact ax w _ _
 have q0:W1.cell? ⟨w.heap.size,0,none⟩ = some (.int .u8 k):=hb.cell 0;have q1:W1.cell? ⟨w.heap.size,1,none⟩ = some (.int .u8 m):=hb.cell 1;have ql:=hb.lt;have w1:IntKind.u64.wrap (k:Int) = (k:Int):=by rw [IntKind.wrap_u64];omega
 have w2:IntKind.u64.wrap (m:Int) = (m:Int):=by rw [IntKind.wrap_u64];omega
 have w3:IntKind.u64.wrap ((k:Int) * 256) = (k:Int) * 256:=by rw [IntKind.wrap_u64];omega
 have w4:IntKind.u64.wrap ((k:Int) * 256+(m:Int)) = (k:Int) * 256+(m:Int):=by rw [IntKind.wrap_u64];omega
 have HC:=bk kO;have mH:=bk kP;have e4:(k:Int) * 256+(m:Int) = ((k * 256+m:Nat):Int):=by omega
 have E4:=bk e4;clear hb kO kP e4 hk hm;go_enter Tryz.func106,Tryz.ntmps106;go_wp2_with (first|refine Great.wpList_runTo rfl (.pointer (some ⟨w.heap.size,0,none⟩)) rfl W1 _ (by unfold execOp;simp [Act.eval,Instr.box,newVar,newRow,run_newObj_alloc,Sem.run_bind,Sem.run_pure,Result.andThen_ok,Value.cells,mH.out];done) ?_);go_ret;exact ⟨congrArg Ending.returned (congrArg (Value.int IntKind.u64) E4.out),(av [] w).alloc _⟩
theorem td (k:Nat) (w:World):Calls Tryz.prog 38 #[.int .u8 k] w fun e w'=>e = .returned (.bool (k == 10 || k == 17))∧w = w':=by
 obtain ⟨R,hR⟩:∃R,R = (k == 10 || k == 17):=⟨_,rfl⟩;rw [← hR];obtain ⟨z,hz⟩:∃z:Int,z = (k:Int):=⟨_,rfl⟩;rw [← hz];have HR:=bk hR;have HZ:=bk hz;clear hR hz;by_cases h1:z = 10
 ·obtain rfl:R = true:=by rw [HR.out,show k = 10 by have:=HZ.out;omega];rfl
  subst h1;go_enter Tryz.func38,Tryz.ntmps38;go_wp2_with fail;go_ret;exact ⟨rfl,rfl⟩
 have d1:(z == 10) = false:=aj h1;by_cases h2:z = 17
 ·obtain rfl:R = true:=by rw [HR.out,show k = 17 by have:=HZ.out;omega];rfl
  subst h2;go_enter Tryz.func38,Tryz.ntmps38;go_wp2_with fail;go_ret;exact ⟨rfl,rfl⟩
 have d2:(z == 17) = false:=aj h2;obtain rfl:R = false:=by rw [HR.out,aj (show k≠10 by have:=HZ.out;omega),aj (show k≠17 by have:=HZ.out;omega)];rfl
 clear h1 h2;go_enter Tryz.func38,Tryz.ntmps38;go_wp2_with fail;go_ret;exact ⟨rfl,rfl⟩
theorem jV (k:Nat) (e:Int) (w:World):Calls Tryz.prog 35 #[.int .u8 k,.int .i64 e] w fun e' w'=>e' = .returned (.bool (gi k e))∧w = w':=by
 obtain ⟨R,hR⟩:∃R,R = gi k e:=⟨_,rfl⟩;rw [← hR];obtain ⟨z,hz⟩:∃z:Int,z = (k:Int):=⟨_,rfl⟩;rw [← hz];have HR:=bk hR;have HZ:=bk hz;clear hR hz;by_cases e4:e = 40
 ·subst e4;by_cases h6:z = 6
  ·have hk:k = 6:=(by have:=HZ.out;omega);have HK:=bk hk;subst h6;clear hk;obtain rfl:R = true:=(by rw [HR.out];unfold gi;rw [HK.out];simp);go_enter Tryz.func35,Tryz.ntmps35;go_wp2_with fail;go_ret;exact ⟨rfl,rfl⟩
  have d6:(z == 6) = false:=aj h6;by_cases h8:z = 8
  ·have hk:k = 8:=(by have:=HZ.out;omega);have HK:=bk hk;subst h8;clear hk;obtain rfl:R = true:=(by rw [HR.out];unfold gi;rw [HK.out];simp);go_enter Tryz.func35,Tryz.ntmps35;go_wp2_with fail;go_ret;exact ⟨rfl,rfl⟩
  have d8:(z == 8) = false:=aj h8;by_cases h9:z = 9
  ·have hk:k = 9:=(by have:=HZ.out;omega);have HK:=bk hk;subst h9;clear hk;obtain rfl:R = true:=(by rw [HR.out];unfold gi;rw [HK.out];simp);go_enter Tryz.func35,Tryz.ntmps35;go_wp2_with fail;go_ret;exact ⟨rfl,rfl⟩
  have d9:(z == 9) = false:=aj h9;by_cases h1:z = 1
  ·have hk:k = 1:=(by have:=HZ.out;omega);have HK:=bk hk;subst h1;clear hk;obtain rfl:R = false:=(by rw [HR.out];unfold gi;rw [HK.out];simp);go_enter Tryz.func35,Tryz.ntmps35;go_wp2_with fail;go_ret;exact ⟨rfl,rfl⟩
  have d1:(z == 1) = false:=aj h1;by_cases mX:z = 10
  ·have hk:k = 10:=(by have:=HZ.out;omega);have HK:=bk hk;subst mX;clear hk;obtain rfl:R = false:=(by rw [HR.out];unfold gi;rw [HK.out];simp);go_enter Tryz.func35,Tryz.ntmps35;go_wp2_with fail;go_ret;exact ⟨rfl,rfl⟩
  have d10:(z == 10) = false:=aj mX;by_cases h18:z = 18
  ·have hk:k = 18:=(by have:=HZ.out;omega);have HK:=bk hk;subst h18;clear hk;obtain rfl:R = false:=(by rw [HR.out];unfold gi;rw [HK.out];simp);go_enter Tryz.func35,Tryz.ntmps35;go_wp2_with fail;go_ret;exact ⟨rfl,rfl⟩
  have d18:(z == 18) = false:=aj h18;have GA:=bk (show k≠6∧k≠8∧k≠9∧k≠1∧k≠10∧k≠18 by have:=HZ.out;omega);clear h6 h8 h9 h1 mX h18;obtain rfl:R = false:=by rw [HR.out];unfold gi;obtain ⟨a1,a2,a3,a4,a5,a6⟩:=GA.out;simp [a1,a2,a3,a4,a5,a6]
  go_enter Tryz.func35,Tryz.ntmps35;go_wp2_with fail;go_ret;exact ⟨rfl,rfl⟩
 have f4:(e == 40) = false:=aj e4;by_cases e6:e = 6
 ·subst e6;clear e4;by_cases h6:z = 6
  ·have hk:k = 6:=(by have:=HZ.out;omega);have HK:=bk hk;subst h6;clear hk;obtain rfl:R = true:=(by rw [HR.out];unfold gi;rw [HK.out];simp);go_enter Tryz.func35,Tryz.ntmps35;go_wp2_with fail;go_ret;exact ⟨rfl,rfl⟩
  have d6:(z == 6) = false:=aj h6;by_cases h8:z = 8
  ·have hk:k = 8:=(by have:=HZ.out;omega);have HK:=bk hk;subst h8;clear hk;obtain rfl:R = true:=(by rw [HR.out];unfold gi;rw [HK.out];simp);go_enter Tryz.func35,Tryz.ntmps35;go_wp2_with fail;go_ret;exact ⟨rfl,rfl⟩
  have d8:(z == 8) = false:=aj h8;by_cases h9:z = 9
  ·have hk:k = 9:=(by have:=HZ.out;omega);have HK:=bk hk;subst h9;clear hk;obtain rfl:R = true:=(by rw [HR.out];unfold gi;rw [HK.out];simp);go_enter Tryz.func35,Tryz.ntmps35;go_wp2_with fail;go_ret;exact ⟨rfl,rfl⟩
  have d9:(z == 9) = false:=aj h9;by_cases h1:z = 1
  ·have hk:k = 1:=(by have:=HZ.out;omega);have HK:=bk hk;subst h1;clear hk;obtain rfl:R = true:=(by rw [HR.out];unfold gi;rw [HK.out];simp);go_enter Tryz.func35,Tryz.ntmps35;go_wp2_with fail;go_ret;exact ⟨rfl,rfl⟩
  have d1:(z == 1) = false:=aj h1;by_cases mX:z = 10
  ·have hk:k = 10:=(by have:=HZ.out;omega);have HK:=bk hk;subst mX;clear hk;obtain rfl:R = true:=(by rw [HR.out];unfold gi;rw [HK.out];simp);go_enter Tryz.func35,Tryz.ntmps35;go_wp2_with fail;go_ret;exact ⟨rfl,rfl⟩
  have d10:(z == 10) = false:=aj mX;by_cases h18:z = 18
  ·have hk:k = 18:=(by have:=HZ.out;omega);have HK:=bk hk;subst h18;clear hk;obtain rfl:R = true:=(by rw [HR.out];unfold gi;rw [HK.out];simp);go_enter Tryz.func35,Tryz.ntmps35;go_wp2_with fail;go_ret;exact ⟨rfl,rfl⟩
  have d18:(z == 18) = false:=aj h18;have GA:=bk (show k≠6∧k≠8∧k≠9∧k≠1∧k≠10∧k≠18 by have:=HZ.out;omega);clear h6 h8 h9 h1 mX h18;obtain rfl:R = false:=by rw [HR.out];unfold gi;obtain ⟨a1,a2,a3,a4,a5,a6⟩:=GA.out;simp [a1,a2,a3,a4,a5,a6]
  go_enter Tryz.func35,Tryz.ntmps35;go_wp2_with fail;go_ret;exact ⟨rfl,rfl⟩
 have f6:(e == 6) = false:=aj e6;have HE:=bk (ai e4 e6);clear e4 e6;by_cases h6:z = 6
 ·have hk:k = 6:=by have:=HZ.out;omega
  have HK:=bk hk;subst h6;clear hk;obtain rfl:R = false:=by rw [HR.out];unfold gi;rw [HK.out];simp [HE.out.1,HE.out.2]
  go_enter Tryz.func35,Tryz.ntmps35;go_wp2_with fail;go_ret;exact ⟨rfl,rfl⟩
 have d6:(z == 6) = false:=aj h6;by_cases h8:z = 8
 ·have hk:k = 8:=by have:=HZ.out;omega
  have HK:=bk hk;subst h8;clear hk;obtain rfl:R = false:=by rw [HR.out];unfold gi;rw [HK.out];simp [HE.out.1,HE.out.2]
  go_enter Tryz.func35,Tryz.ntmps35;go_wp2_with fail;go_ret;exact ⟨rfl,rfl⟩
 have d8:(z == 8) = false:=aj h8;by_cases h9:z = 9
 ·have hk:k = 9:=by have:=HZ.out;omega
  have HK:=bk hk;subst h9;clear hk;obtain rfl:R = false:=by rw [HR.out];unfold gi;rw [HK.out];simp [HE.out.1,HE.out.2]
  go_enter Tryz.func35,Tryz.ntmps35;go_wp2_with fail;go_ret;exact ⟨rfl,rfl⟩
 have d9:(z == 9) = false:=aj h9;by_cases h1:z = 1
 ·have hk:k = 1:=by have:=HZ.out;omega
  have HK:=bk hk;subst h1;clear hk;obtain rfl:R = false:=by rw [HR.out];unfold gi;rw [HK.out];simp [HE.out.1,HE.out.2]
  go_enter Tryz.func35,Tryz.ntmps35;go_wp2_with fail;go_ret;exact ⟨rfl,rfl⟩
 have d1:(z == 1) = false:=aj h1;by_cases mX:z = 10
 ·have hk:k = 10:=by have:=HZ.out;omega
  have HK:=bk hk;subst mX;clear hk;obtain rfl:R = false:=by rw [HR.out];unfold gi;rw [HK.out];simp [HE.out.1,HE.out.2]
  go_enter Tryz.func35,Tryz.ntmps35;go_wp2_with fail;go_ret;exact ⟨rfl,rfl⟩
 have d10:(z == 10) = false:=aj mX;by_cases h18:z = 18
 ·have hk:k = 18:=by have:=HZ.out;omega
  have HK:=bk hk;subst h18;clear hk;obtain rfl:R = false:=by rw [HR.out];unfold gi;rw [HK.out];simp [HE.out.1,HE.out.2]
  go_enter Tryz.func35,Tryz.ntmps35;go_wp2_with fail;go_ret;exact ⟨rfl,rfl⟩
 have d18:(z == 18) = false:=aj h18;have GA:=bk (show k≠6∧k≠8∧k≠9∧k≠1∧k≠10∧k≠18 by have:=HZ.out;omega);clear h6 h8 h9 h1 mX h18;obtain rfl:R = false:=by rw [HR.out];unfold gi;obtain ⟨a1,a2,a3,a4,a5,a6⟩:=GA.out;simp [a1,a2,a3,a4,a5,a6]
 go_enter Tryz.func35,Tryz.ntmps35;go_wp2_with fail;go_ret;exact ⟨rfl,rfl⟩
theorem SE.max {α:Type} {enc:α→List Value} {size:Nat} {e:TypeId} {v:Value} {l:List α} (h:SE enc size e w v l):l.length≤9223372036854775807:=by
 obtain ⟨_,⟨rfl,e2⟩ | ⟨g,off,cap,cur,rfl,hg,hn,hm,_⟩⟩:=h
 ·omega
 ·unfold maxLen at hm;omega
section
variable {w:World} {m:Nat} {M:Mo} {sp:Nat→Option Nat} {vo ve:Value} {L:List Ob} {E:List Nat} {gb gm:Nat→Nat} {gs:Nat→Sq}
theorem WIn.sp_at (h:WIn w m M sp vo ve L E gb gm gs) {n:Nat} (hn:n < 9):w.cell? ⟨m,94+n,none⟩ = some (.pointer ((M.pr n).map fun _=>⟨gb n,0,none⟩)):=by rw [WB.spc h.blk hn];unfold spv;rw [h.sp n hn];cases M.pr n <;> rfl
theorem WIn.none_at (h:WIn w m M sp vo ve L E gb gm gs) {z:Int} (hz:z < 1∨8 < z):M.pr z = none:=by
 cases hp:M.pr z with
 | none=>rfl
 | some p=>have:=h.rng z p hp;omega
theorem zw (h:WIn w m M sp vo ve L E gb gm gs) (pid:Int):Calls Tryz.prog 40 #[.pointer (some ⟨m,0,none⟩),.int .i64 pid] w fun e w'=>e = .returned (.pointer ((M.pr pid).map fun _=>⟨gb pid.toNat,0,none⟩))∧w = w':=by
 by_cases h1:pid < 1
 ·have e:M.pr pid = none:=h.none_at (.inl h1);rw [e];have d1:decide (pid < 1) = true:=ae h1;clear h e h1;go_enter Tryz.func40,Tryz.ntmps40;go_wp2_with fail;go_ret;exact ⟨rfl,rfl⟩
 by_cases h8:8 < pid
 ·have e:M.pr pid = none:=h.none_at (.inr h8);rw [e];have d1:decide (pid < 1) = false:=ac h1;have d2:decide (8 < pid) = true:=ae h8;clear h e h1 h8;go_enter Tryz.func40,Tryz.ntmps40;go_wp2_with fail;go_ret;exact ⟨rfl,rfl⟩
 obtain ⟨n,rfl⟩:∃n:Nat,pid = n:=⟨pid.toNat,by omega⟩;have q:=h.sp_at (n:=n) (by omega);rw [Int.toNat_natCast];have d1:decide ((n:Int) < 1) = false:=ac h1;have d1':n≠0:=by omega
 have d2:decide (8 < (n:Int)) = false:=ac h8;have d2':decide (8 < n) = false:=ac (by omega);have i0:(0:Int)≤(n:Int):=by omega
 have i1:(n:Int) < 9:=by omega
 have ql:=bb h.blk;obtain ⟨v,hv⟩:∃v,v = ((M.pr n).map fun _=>(⟨gb n,0,none⟩:Addr)):=⟨_,rfl⟩;rw [← hv] at q ⊢;clear h h1 h8 hv;go_enter Tryz.func40,Tryz.ntmps40;go_wp2_with fail;go_ret;exact ⟨rfl,rfl⟩
theorem rf (h:WIn w m M sp vo ve L E gb gm gs) (z:Nat):Calls Tryz.prog 39 #[.pointer (some ⟨m,0,none⟩),.int .u64 z] w fun e w'=>e = .returned (.bool (M.ev z))∧w = w':=by
 have q:=WB.vec h.blk;have ql:=bb h.blk;have HS:=bk h.ev.sl.re;have vJ:=bk (h.ev.lk z);have DF:=bk (SE.max h.ev.sl);obtain ⟨A,c,rfl⟩:=SE.form h.ev.sl;obtain ⟨R,hR⟩:∃R,R = M.ev z:=⟨_,rfl⟩;rw [← hR] at vJ ⊢;obtain ⟨zz,EY⟩:∃y:Int,y = (z:Int):=⟨_,rfl⟩;rw [← EY] at vJ ⊢;clear h hR EY;go_enter Tryz.func39,Tryz.ntmps39;go_wp2_with fail;go_loopw [5] (fun i wr=>wr = w∧∃k:Nat,k≤E.length∧i = .int .i64 k∧Hid ((E.take k).any (fun e=>decide ((e:Int) = zz)) = false)) (fun i _=>E.length - (intOf i).toNat)
 case atStart=>exact ⟨rfl,0,by omega,rfl,bk rfl⟩
 case round =>
  obtain ⟨rfl,k,hk,rfl,lR⟩:=hrel;by_cases nC:k < E.length
  ·obtain ⟨g,off,rfl⟩:=RE.addr HS.out (show 0 < E.length by omega);have q1:wr.cell? ⟨g,off+k,none⟩ = some (.int .u64 E[k]):=(by simpa using RE.cell ww HS.out nC (j:=0) (u:=.int .u64 E[k]) (by omega) rfl);obtain ⟨x,hx⟩:∃x:Int,x = (E[k]:Int):=⟨_,rfl⟩;rw [← hx] at q1;have HX:=bk hx;have sX:=DF.out;have dl:decide ((k:Int) < (E.length:Int)) = true:=ae (by omega);have dl':decide (k < E.length) = true:=ae nC;have i0:(0:Int)≤(k:Int):=(by omega);have i1:(k:Int) < (E.length:Int):=(by omega);have oW:IntKind.i64.wrap ((k:Int)+1) = (k:Int)+1:=(by rw [IntKind.wrap_i64];omega);have oT:=bk nC;have oH:=bk lR.out;clear hx hk lR sX;by_cases he:x = zz
   ·have de:(x == zz) = true:=(by rw [he];simp);obtain rfl:R = true:=by
     rw [vJ.out];exact List.any_eq_true.2 ⟨_,ao oT.out,ae (by rw [← HX.out];exact he)⟩
    clear he;go_wp2_with fail;go_ret;exact ⟨rfl,rfl⟩
   ·have de:(x == zz) = false:=aj he;have HE:=bk he;clear he;go_wp2_with fail;go_roundw
    case rel=>exact ⟨trivial,k+1,by have:=oT.out;omega,by go_num,bk (by rw [List.take_succ_eq_append_getElem oT.out,List.any_append,oH.out,Bool.false_or,List.any_cons,List.any_nil,Bool.or_false,← HX.out];exact ac HE.out)⟩
    case measure=>have:=oT.out;simp [intOf];omega
  ·obtain rfl:k = E.length:=(by omega);obtain rfl:R = false:=(by rw [vJ.out];have:=lR.out;rw [List.take_length] at this;exact this);clear lR;go_wp2_with fail;go_ret;exact ⟨rfl,rfl⟩
end
open Ar (pg pz ji ri va xx)
theorem iK:pg (fun _=>0) = Array.replicate 1024 (.int .u8 0):=by
 apply Array.ext_getElem?;intro j;by_cases hj:j < 1024
 ·rw [pz _ hj];simp [hj]
 ·rw [Array.getElem?_eq_none (by rw [ji];omega),Array.getElem?_eq_none (by simp;omega)]
theorem zeroA:∀w,(zeroValue 95).run Tryz.prog w = .ok (.agg (pg (fun _=>0))) w:=by
 have h:(Tryz.prog.info? 95).map (fun i=>(i.zero,i.size)) = some (some (.agg (Array.replicate 1024 (.int .u8 0))),1024):=by kernel_rfl
 rw [iK];exact (zero_of_info h).1
theorem fQ (w:World):(Instr.alloc 95 true (.tuple #[])).run Tryz.prog w = .ok (.pointer (some ⟨w.heap.size,0,none⟩)) (w.alloc (.cells (pg (fun _=>0)) 95)):=by
 have e:Tryz.zeroCells95 = pg (fun _=>0):=by rw [iK];kernel_rfl
 simp [Instr.alloc,Sem.run_bind,zeroA,newVar,newRow,run_newObj_alloc,Value.cells,e]
section
variable {ops:Array Oper} {rest:List Oper} {o:Oper} {a:Act} {w:World} {Q:Exit→Act→World→Prop} {b:Nat} {f g:Int→Int} {s:Sq} {bm:Nat}
theorem oc (hg:o.guard = none) (ho:o.op = .alloc 95)
  (h:∀w',PA w' w.heap.size (fun _=>0)→Chg [] w w'→wpList Tryz.prog ops Q rest (a.put o.dst (.pointer (some ⟨w.heap.size,0,none⟩))) w'):wpList Tryz.prog ops Q (o :: rest) a w :=
 Great.wpList_runTo hg _ rfl _ _ (by unfold execOp;simp only [ho,Sem.run_bind,fQ,Sem.run_pure,Result.andThen_ok]) (h _ (ax w _ _) ((av [] w).alloc _))
theorem jt (hg:o.guard = none) (x:Operand) (ho:o.op = .load 95 x) (hx:a.eval x = .pointer (some ⟨b,0,none⟩)) (h0:PA w b f) (h:wpList Tryz.prog ops Q rest (a.put o.dst (.agg (pg f))) w):wpList Tryz.prog ops Q (o :: rest) a w :=
 wpList_load_row hg 95 x ho b hx 95 (pg f) (0,0) _ h0 Tryz.underlying95 rfl infoA h
theorem oe (hg:o.guard = none) (x y:Operand) (ho:o.op = .store 95 x y) (hx:a.eval x = .pointer (some ⟨b,0,none⟩)) (hy:a.eval y = .agg (pg g)) (h0:PA w b f)
  (h:∀w',PA w' b g→Chg [b] w w'→wpList Tryz.prog ops Q rest (a.put o.dst undef) w'):wpList Tryz.prog ops Q (o :: rest) a w :=
 wpList_store_row hg 95 x y ho b (pg g) hx hy 95 (pg f) h0 infoA (by rw [ji,ji]) (xx g) (h _ (setRow_heap w b _ _ _ _ h0) ((av [b] w).setRow (.inl (by simp)) _))
theorem QB.range (h:QB w b s bm):w.rangeAt b 0 (pg s.rt).toList:=fun j v hv=>by
 have hj:j < 1024:=by have:=(List.getElem?_eq_some_iff.1 hv).1;rw [Array.length_toList,ji] at this;exact this
 rw [Nat.zero_add,QB.rt h hj]
 rw [Array.getElem?_toList,pz _ hj] at hv
 exact hv
theorem qi (hg:o.guard = none) (x:Operand) (ho:o.op = .load 95 x) (hx:a.eval x = .pointer (some ⟨b,0,none⟩)) (h0:QB w b s bm) (h:wpList Tryz.prog ops Q rest (a.put o.dst (.agg (pg s.rt))) w):wpList Tryz.prog ops Q (o :: rest) a w :=
 em hg x ho hx (by
  have:=run_loadVar_mid (P:=Tryz.prog) w b 0 95 (pg s.rt).toList _ (QB.range h0) Tryz.underlying95 rfl (by rw [Array.length_toList];exact infoA)
  simpa using this) h
theorem QB.set_rts (h:QB w b s bm):QB (w.setCells b 0 (pg f).toList) b { s with rt:=f } bm:=by
 have:=uf (t:=100) (pg f).toList 0 w _ h;rw [wu (g:=sqv { s with rt:=f } bm) fun q hq=>?_] at this
 ·exact this
 ·rw [Array.length_toList,ji,Nat.zero_add,Nat.sub_zero];by_cases c1:q < 1024
  ·rw [ah (by omega),List.getD_eq_getElem?_getD,Array.getElem?_toList,pz _ c1];unfold sqv;rw [ah c1];rfl
  ·rw [ag (by omega)];unfold sqv;rw [ag c1,ag c1]
theorem og (hg:o.guard = none) (x y:Operand) (ho:o.op = .store 95 x y) (hx:a.eval x = .pointer (some ⟨b,0,none⟩)) (hy:a.eval y = .agg (pg f)) (h0:QB w b s bm)
  (h:∀w',QB w' b { s with rt:=f } bm→Chg [b] w w'→wpList Tryz.prog ops Q rest (a.put o.dst undef) w'):wpList Tryz.prog ops Q (o :: rest) a w :=
 wpList_store_mid hg 95 x y ho b 0 (pg f) hx hy (fun j hj=>by
  rw [ji] at hj
  rw [Nat.zero_add]
  exact ⟨by rw [QB.rt h0 hj];rfl,Blk.frozen h0 j⟩) infoA (xx f) (h _ (QB.set_rts h0) (Chg.setCells _ 0 w (av [b] w) (.inl (by simp))))
end
variable {sp:Nat→Option Nat} {M:Mo}
theorem tr {vo ve:Value} {L:List Ob} {E:List Nat} {gb gm:Nat→Nat} {gs:Nat→Sq} (h:WIn w m M sp vo ve L E gb gm gs) (z:Nat) :
  Calls Tryz.prog 41 #[.pointer (some ⟨m,0,none⟩),.int .u64 z] w fun e w'=>((e = .returned (.int .i64 (-1))∧∀o∈L,o.h≠z)∨∃k:Nat,e = .returned (.int .i64 k)∧∃hk:k < L.length,L[k].h = z)∧w = w':=by
 have q:=WB.voc h.blk;have ql:=bb h.blk;have HS:=bk h.ob.sl.re;have DF:=bk (SE.max h.ob.sl);obtain ⟨A,c,rfl⟩:=SE.form h.ob.sl;obtain ⟨zz,EY⟩:∃y:Int,y = (z:Int):=⟨_,rfl⟩;rw [← EY];have HZ:=bk EY;clear h EY;go_enter Tryz.func41,Tryz.ntmps41;go_wp2_with fail;go_loopw [5] (fun i wr=>wr = w∧∃k:Nat,k≤L.length∧i = .int .i64 k∧Hid (∀o∈L.take k,o.h≠z)) (fun i _=>L.length - (intOf i).toNat)
 case atStart=>exact ⟨rfl,0,by omega,rfl,bk (fun o ho=>by cases ho)⟩
 case round =>
  obtain ⟨rfl,k,hk,rfl,lR⟩:=hrel;by_cases nC:k < L.length
  ·obtain ⟨g,off,rfl⟩:=RE.addr HS.out (show 0 < L.length by omega);have q1:wr.cell? ⟨g,off+k * 2,none⟩ = some (.int .u64 L[k].h):=(by simpa using RE.cell mj HS.out nC (j:=0) (u:=.int .u64 L[k].h) (by omega) rfl);obtain ⟨x,hx⟩:∃x:Int,x = (L[k].h:Int):=⟨_,rfl⟩;rw [← hx] at q1;have HX:=bk hx;have sX:=DF.out;have dl:decide ((k:Int) < (L.length:Int)) = true:=ae (by omega);have dl':decide (k < L.length) = true:=ae nC;have i0:(0:Int)≤(k:Int):=(by omega);have i1:(k:Int) < (L.length:Int):=(by omega);have oW:IntKind.i64.wrap ((k:Int)+1) = (k:Int)+1:=(by rw [IntKind.wrap_i64];omega);have oT:=bk nC;have oH:=bk lR.out;clear hx hk lR sX;by_cases he:x = zz
   ·have de:(x == zz) = true:=(by rw [he];simp);have HE:=bk he;clear he;go_wp2_with fail;go_ret;exact ⟨.inr ⟨k,rfl,oT.out,by have h1:=HX.out;have h2:=HE.out;have h3:=HZ.out;omega⟩,rfl⟩
   ·have de:(x == zz) = false:=aj he;have HE:=bk he;clear he;go_wp2_with fail;go_roundw
    case rel=>exact ⟨trivial,k+1,by have:=oT.out;omega,by go_num,bk (fun o ho=>by
     rw [List.take_succ_eq_append_getElem oT.out] at ho
     rcases List.mem_append.1 ho with ho | ho
     ·exact oH.out o ho
     ·obtain rfl:=aa ho
      intro e
      exact HE.out (by rw [HX.out,HZ.out,e]))⟩
    case measure=>have:=oT.out;simp [intOf];omega
  ·obtain rfl:k = L.length:=(by omega);have oH:=bk lR.out;clear lR;go_wp2_with fail;go_ret;exact ⟨.inl ⟨rfl,by have:=oH.out;rw [List.take_length] at this;exact this⟩,rfl⟩
variable {bm:Nat} {s:Sq}
theorem jm (h:QB w b s bm) {p:Nat} (hp:p+c≤1024) :
  Calls Tryz.prog 108 #[.pointer (some ⟨b,0,none⟩),.int .i64 p,.int .i64 c] w fun e w'=>((e = .returned (.bool true)∧∀q:Nat,p≤q→q < p+c→s.rt q≠0)∨(e = .returned (.bool false)∧∃q:Nat,p≤q∧q < p+c∧s.rt q = 0))∧w = w':=by
 have H:=bk h;have ql:=bb h;have hwe:IntKind.i64.wrap ((p:Int)+(c:Int)) = (p:Int)+(c:Int):=by rw [IntKind.wrap_i64];omega
 have HP:=bk hp;clear h hp;go_enter Tryz.func108,Tryz.ntmps108;go_wp2_with fail;go_loopw [7] (fun i wr=>wr = w∧∃k:Nat,k≤c∧i = .int .i64 ((p+k:Nat):Int)∧Hid (∀q:Nat,p≤q→q < p+k→s.rt q≠0)) (fun i _=>p+c - (intOf i).toNat)
 case atStart=>exact ⟨rfl,0,by omega,by simp,bk (fun q h1 h2=>by omega)⟩
 case round =>
  obtain ⟨rfl,k,hk,rfl,kY⟩:=hrel;have qT:=bk kY.out;clear kY;by_cases hkc:k < c
  ·have q1:=QB.rt H.out (i:=p+k) (by have:=HP.out;omega);obtain ⟨x,hx⟩:∃x,x = s.rt ((p+k:Nat):Int):=⟨_,rfl⟩;rw [← hx] at q1;have HX:=bk hx;have dl:decide (((p+k:Nat):Int) < (p:Int)+(c:Int)) = true:=ae (by omega);have i0:(0:Int)≤((p+k:Nat):Int):=(by omega);have i1:((p+k:Nat):Int) < 1024:=(by have:=HP.out;omega);have oW:IntKind.i64.wrap (((p+k:Nat):Int)+1) = ((p+k:Nat):Int)+1:=(by rw [IntKind.wrap_i64];omega);have HKC:=bk hkc;obtain ⟨n,hn⟩:∃n,n = p+k:=⟨_,rfl⟩;rw [← hn] at q1 dl i0 i1 oW HX ⊢;have HN:=bk hn;clear hx hk hkc hn;by_cases h0:x = 0
   ·subst h0;go_wp2_with fail;go_ret;exact ⟨.inr ⟨rfl,n,by rw [HN.out];omega,by rw [HN.out];have:=HKC.out;omega,HX.out.symm⟩,rfl⟩
   ·have n0:(x == 0) = false:=aj h0;have CW:=bk h0;clear h0;go_wp2_with fail;go_roundw
    case rel=>exact ⟨trivial,k+1,by have:=HKC.out;omega,by rw [HN.out];go_num,bk (fun q h1 h2=>by
     by_cases e:q = n
     ·subst e;rw [← HX.out];exact CW.out
     ·exact qT.out q h1 (by have:=HN.out;omega))⟩
    case measure=>have:=HKC.out;have:=HN.out;simp [intOf];omega
  ·obtain rfl:k = c:=(by omega);have dl:decide (((p+k:Nat):Int) < (p:Int)+(k:Int)) = false:=ac (by omega);clear hkc hk;go_wp2_with fail;go_ret;exact ⟨.inl ⟨rfl,qT.out⟩,rfl⟩
open Ar (pg pz ji ri va xx)
def ovr (f:Int→Int) (p j:Nat) (g:Int):Int→Int:=fun q=>if (p:Int)≤q∧q < ((p+j:Nat):Int) then g else f q
theorem xw (f:Int→Int) (p:Nat) (g:Int):ovr f p 0 g = f:=by funext q;unfold ovr;rw [ag (by omega)]
variable {g:Int} {f:Int→Int}
theorem dD {p j:Nat} (h:PA w b (ovr f p j g)):PA (w.setCell ⟨b,p+j,none⟩ (.int .u8 g)) b (ovr f p (j+1) g):=by
 have:=Blk.set_ h (p+j) (.int .u8 g);rw [va] at this;rw [PA,ri (g:=fun q=>if q = ((p+j:Nat):Int) then g else ovr f p j g q) fun q _ _=>?_]
 ·exact this
 ·unfold ovr;by_cases e:q = ((p+j:Nat):Int)
  ·rw [ah (by omega),ah e]
  ·rw [ag (c:=q = ((p+j:Nat):Int)) e];by_cases e2:(p:Int)≤q∧q < ((p+j:Nat):Int)
   ·rw [ah (by omega),ah e2]
   ·rw [ag (by omega),ag e2]
theorem ovr_two {p j:Nat} {g':Int} (h:PA w b (ovr f p j g)):PA ((w.setCell ⟨b,p+j,none⟩ (.int .u8 g')).setCell ⟨b,p+j,none⟩ (.int .u8 g)) b (ovr f p (j+1) g):=by
 have h1:=Blk.set_ (Blk.set_ h (p+j) (.int .u8 g')) (p+j) (.int .u8 g);rw [va,va] at h1;rw [PA,ri (g:=fun q=>if q = ((p+j:Nat):Int) then g else if q = ((p+j:Nat):Int) then g' else ovr f p j g q) fun q _ _=>?_]
 ·exact h1
 ·unfold ovr;by_cases e:q = ((p+j:Nat):Int)
  ·rw [ah (by omega),ah e]
  ·rw [ag (c:=q = ((p+j:Nat):Int)) e,ag (c:=q = ((p+j:Nat):Int)) e];by_cases e2:(p:Int)≤q∧q < ((p+j:Nat):Int)
   ·rw [ah (by omega),ah e2]
   ·rw [ag (by omega),ag e2]
variable {p:Pr}
theorem xv (hR:RelP p s) (hs:Ar.Sp p.rl) {pg_:Nat} (hc:1≤c) {q:Int} (h0:0≤q) (h1:q < 1024):ovr s.rt pg_ c g q = Ar.rt (Ar.withL p.rl pg_ c g) q:=by
 rw [(Ar.with_spec hs.nm (by omega) (by omega)).2];unfold ovr;by_cases e:(pg_:Int)≤q∧q < ((pg_+c:Nat):Int)
 ·rw [ah e,ah (by omega)]
 ·rw [ag e,ag (by omega)];obtain ⟨n,rfl⟩:∃n:Nat,q = n:=⟨q.toNat,by omega⟩;exact hR.rt n (by omega)
theorem bY {l:List Ar.Rn} (hs:Ar.Sp l) {pg_:Nat} (hc:1≤c) (hp:pg_+c≤1024) (q:Int):Ar.rt (Ar.withL l pg_ c g) q = if 0≤q∧q < 1024 then Ar.rt (Ar.withL l pg_ c g) q else 0:=by
 obtain ⟨w1,w2⟩:=Ar.with_spec (g:=g) hs.nm (page:=pg_) (count:=c) (by omega) (by omega);by_cases hq:0≤q∧q < 1024
 ·rw [ah hq]
 ·rw [ag hq];by_cases h1:q < 0
  ·exact Ar.rt_lo w1 h1
  ·rw [w2,ag (by omega)];exact hs.hi q (by omega)
variable {x:Cl}
theorem ch3 (h:x.k = 3):db p x = (Ar.mapE p.rl x.g x.c x.r,{ p with rl:=Ar.mapR p.rl x.g x.c x.r }):=by unfold db;rw [ah h]
theorem ch4 (h:x.k = 4):db p x = (Ar.unE p.rl x.g x.c,{ p with rl:=Ar.unR p.rl x.g x.c,pg:=fun q=>if inR x.g x.c q then none else p.pg q,ow:=fun q=>if inR x.g x.c q then none else p.ow q }):=by unfold db;rw [ag (by omega),ah h]
theorem ch5 (h:x.k = 5):db p x = (Ar.prE p.rl x.g x.c x.r,{ p with rl:=Ar.prR p.rl x.g x.c x.r }):=by unfold db;rw [ag (by omega),ag (by omega)]
theorem RelP.rights (h:RelP p s) (m:List Ar.Rn):RelP { p with rl:=m } { s with rt:=Ar.rt m }:=⟨fun _ _=>rfl,h.by_,h.b8,h.ow,h.po,h.ak,h.am⟩
def unS (s:Sq) (n j:Nat) (B:Int):Sq:={ s with by_:=fun a=>if 256 * (n:Int)≤a∧a < B then none else s.by_ a,ow:=fun q=>if n≤q∧q < n+j then false else s.ow q,po:=fun q=>if n≤q∧q < n+j then (0,0) else s.po q }
theorem eE (s:Sq) (n:Nat):unS s n 0 (256 * (n:Int)) = s:=by
 obtain ⟨a1,a2,a3,a4,a5,a6⟩:=s;unfold unS;simp only [Sq.mk.injEq,true_and,and_true];refine ⟨?_,?_,?_⟩
 ·funext a;rw [ag (by omega)]
 ·funext q;rw [ag (by omega)]
 ·funext q;rw [ag (by omega)]
theorem unS_step (s:Sq) (n j:Nat) (B:Int):({ ({ unS s n j B with ow:=upN (unS s n j B).ow (n+j) false }:Sq) with po:=upN (unS s n j B).po (n+j) (0,0) }:Sq) = unS s n (j+1) B:=by
 unfold unS;simp only [Sq.mk.injEq,true_and,and_true];refine ⟨?_,?_⟩
 ·funext q;unfold upN;dsimp only;by_cases e:q = n+j
  ·rw [ah e,ah (by omega)]
  ·rw [ag e];by_cases e2:n≤q∧q < n+j
   ·rw [ah e2,ah (by omega)]
   ·rw [ag e2,ag (by omega)]
 ·funext q;unfold upN;dsimp only;by_cases e:q = n+j
  ·rw [ah e,ah (by omega)]
  ·rw [ag e];by_cases e2:n≤q∧q < n+j
   ·rw [ah e2,ah (by omega)]
   ·rw [ag e2,ag (by omega)]
theorem unS_by (s:Sq) (n j:Nat) {B:Int} (hB:256 * (n:Int)≤B):(fun y=>if y = B then none else byF (unS s n j B) y) = byF (unS s n j (B+1)):=by
 funext y;unfold byF unS;simp only;by_cases e:y = B
 ·rw [ah e,ah (by omega)];rfl
 ·rw [ag e];by_cases e2:256 * (n:Int)≤y∧y < B
  ·rw [ah e2,ah (by omega)]
  ·rw [ag e2,ag (by omega)]
theorem RelP.un (h:RelP p s) (m:List Ar.Rn) (hc:n+c≤1024):RelP { p with rl:=m,pg:=fun q=>if inR n c q then none else p.pg q,ow:=fun q=>if inR n c q then none else p.ow q } (unS { s with rt:=Ar.rt m } n c (256 * ((n+c:Nat):Int))):=by
 refine ⟨fun _ _=>rfl,fun a h0 h1=>?_,fun a v hv=>?_,fun q hq=>?_,fun q hq v hv=>?_,h.ak,h.am⟩
 ·show ((if 256 * (n:Int)≤a∧a < 256 * ((n+c:Nat):Int) then none else s.by_ a:Option Nat)).getD 0 = (((if inR n c (a / 256) then none else p.pg (a / 256)):Option (List Nat)).getD zeroPg).getD (a % 256).toNat 0;by_cases e:256 * (n:Int)≤a∧a < 256 * ((n+c:Nat):Int)
  ·rw [ah e,show inR n c (a / 256) = true from ae (by omega)];show 0 = zeroPg.getD (a % 256).toNat 0;unfold zeroPg;rw [List.getD_eq_getElem?_getD,List.getElem?_replicate];split <;> rfl
  ·rw [ag e,show inR n c (a / 256) = false from ac (by omega)];exact h.by_ a h0 h1
 ·have sJ:(if 256 * (n:Int)≤a∧a < 256 * ((n+c:Nat):Int) then none else s.by_ a) = some v:=hv;split at sJ
  ·cases sJ
  ·exact h.b8 a v sJ
 ·show (if n≤q∧q < n+c then false else s.ow q) = ((if inR n c q then none else p.ow q:Option (Nat × Nat))).isSome;by_cases e:n≤q∧q < n+c
  ·rw [ah e,show inR n c q = true from ae (by omega)];rfl
  ·rw [ag e,show inR n c q = false from ac (by omega)];exact h.ow q hq
 ·have sJ:(if inR n c q then none else p.ow q:Option (Nat × Nat)) = some v:=hv;show (if n≤q∧q < n+c then (0,0) else s.po q) = v;by_cases e:n≤q∧q < n+c
  ·rw [show inR n c q = true from ae (by omega)] at sJ;cases sJ
  ·rw [show inR n c q = false from ac (by omega)] at sJ;rw [ag e];exact h.po q hq v sJ
section
variable {ops:Array Oper} {rest:List Oper} {o:Oper} {a:Act} {w:World} {Q:Exit→Act→World→Prop} {b:Nat} {s:Sq} {bm i:Nat}
theorem yt {k m:Nat} (hg:o.guard = none) (x y:Operand) (ho:o.op = .store 45 x y) (hx:a.eval x = .pointer (some ⟨b,2049+i * 2,none⟩)) (hy:a.eval y = .agg #[.int .u8 k,.int .u8 m]) (h0:QB w b s bm) (hi:i < 1024)
  (h:∀w',QB w' b { s with po:=upN s.po i (k,m) } bm→Chg [b] w w'→wpList Tryz.prog ops Q rest (a.put o.dst undef) w'):wpList Tryz.prog ops Q (o :: rest) a w :=
 wpList_store_mid hg 45 x y ho b (2049+i * 2) #[.int .u8 k,.int .u8 m] hx hy (fun j hj=>by
  have sH:j < 2:=hj
  refine ⟨?_,Blk.frozen h0 _⟩
  match j,sH with
  | 0,_=>rw [Nat.add_zero,(QB.po h0 hi).1];rfl
  | 1,_=>rw [(QB.po h0 hi).2];rfl) kv (by simp [show ∀k z,(Value.int k z).oneCell' = true from fun _ _=>rfl]) (h _ (QB.set_po h0 hi k m) (((av [b] w).setCell (p:=⟨b,2049+i * 2,none⟩) (.inl (by simp)) _).setCell (p:=⟨b,2049+i * 2+1,none⟩) (.inl (by simp)) _))
theorem zn {t kt et:TypeId} {q k:IntKind} {f:Int→Option Value} (hg:o.guard = none) (x y:Operand) (ho:o.op = .call { callee:=.builtin .delete,args:=#[x,y],argTypes:=#[t,kt] })
  (ht:Tryz.prog.underlying t = some (.map kt et)) (hk:Tryz.prog.underlying kt = some (.int q)) {key:Int} (hx:a.eval x = .map (some b)) (hy:a.eval y = .int k key) (h:MapB w b k f)
  (U:∀w',MapB w' b k (fun y=>if y = key then none else f y)→Chg [b] w w'→wpList Tryz.prog ops Q rest (a.put o.dst (.tuple #[])) w'):wpList Tryz.prog ops Q (o :: rest) a w :=
 wpList_plain hg fun _ mG=>pc x y ho ht hk hx hy h fun w' h1 h2=>mG _ _ (U w' h1 h2)
end
def ChR (w w':World) (b bm:Nat) (p:Pr) (x:Cl) (e:Ending):Prop :=
 e = .returned (.int .i64 (db p x).1)∧∃s',QB w' b s' bm∧MapB w' bm .i64 (byF s')∧RelP (if (db p x).1 = 0 then (db p x).2 else p) s'
theorem cO (h:QB w b s bm) (hm:MapB w bm .i64 (byF s)) (hR:RelP p s) (hs:Ar.Sp p.rl) (hk:x.k = 3) (hx:0≤x.g∧1≤x.c∧x.c≤1024∧x.g≤1024 - x.c) (hr:1≤x.r∧x.r≤3) (v:Value) (hv:v.oneCell' = true) :
  Calls Tryz.prog 107 #[.pointer (some ⟨b,0,none⟩),.agg (clc x v)] w fun e w'=>ChR w w' b bm p x e∧Chg [b,bm] w w':=by
 obtain ⟨n,hn⟩:∃n:Nat,x.g = n:=⟨x.g.toNat,by omega⟩;obtain ⟨c,hc⟩:∃c:Nat,x.c = c:=⟨x.c.toNat,by omega⟩;have zF:n+c≤1024:=by omega
 have kO:1≤c:=by omega
 obtain ⟨E,hE⟩:∃E,E = (db p x).1:=⟨_,rfl⟩;have zD:E = Ar.mapE p.rl n c x.r:=by rw [hE,ch3 hk,hn,hc]
 obtain ⟨W1,kP⟩:∃W1,W1 = w.alloc (.cells (clc x v) 47):=⟨_,rfl⟩;have lD:KB W1 w.heap.size x v:=by rw [kP];exact ax w _ _
 have nU:Chg [] w W1:=by rw [kP];exact (av [] w).alloc _
 have qZ:W1.heap.size = w.heap.size+1:=by rw [kP];exact af _ _
 have qR:=bb h;have sX:=hm.lt;have HQ:=bk (show QB W1 b s bm from aw h nU ab);have HM:=bk (hm.chg nU ab);have lI:=bk lD;have qC:=bk nU;have mH:=bk kP;have kR:=bk (show W1.heap.size = w.heap.size+1∧b < w.heap.size∧bm < w.heap.size from ⟨qZ,qR,sX⟩);have kX:=bk hR;have mS:=bk hs;have nO:=bk (ai zF kO);have HE:=bk hE;have wZ:=bk zD;have mN:=bk (ai hk (ai hn hc));have rG:=bk hr;have hwe:IntKind.i64.wrap ((n:Int)+(c:Int)) = (n:Int)+(c:Int):=by rw [IntKind.wrap_i64];omega
 clear h hm hR hs hE zD kP lD nU qZ hk hx hn hc qR sX zF kO hr;go_enter Tryz.func107,Tryz.ntmps107;go_upto_region 2 with (first|refine cc rfl _ rfl rfl ?_;try rw [← mH.out]|refine qi (b:=b) (s:=s) (bm:=bm) rfl _ rfl rfl HQ.out ?_|refine oc rfl rfl ?_;intro W2 h2 kI;have H2:=bk h2;have lE:=bk kI;clear h2 kI|refine oe (b:=W1.heap.size) (f:=fun _=>0) (g:=s.rt) rfl _ _ rfl rfl rfl H2.out ?_;intro W3 h3 kM;have H3:=bk h3;have kL:=bk (show Chg [] W1 W3 from lE.out.trans kM (fun y hy=>.inr (by obtain rfl:=aa hy;exact Nat.le_refl _)));clear h3 kM)
 obtain ⟨ba,oS⟩:∃y,y = W1.heap.size:=⟨_,rfl⟩;rw [← oS] at H3 ⊢;have nX:=bk oS;have uR:=bk (fun W (h:Chg [ba] W3 W)=>(aw (aw lI.out kL.out ab) h (by have:=nX.out;have:=kR.out;simp;omega):KB W w.heap.size x v));clear oS H2 lE;obtain ⟨r0,r1,-,r3,r4,-,-,r7,-,-,-,-,rl,-⟩:=ay (uR.out W3 (av _ _));rw [mN.out.1] at r0;rw [mN.out.2.1] at r3;rw [mN.out.2.2] at r4;go_upto_region 3 with (fail)
 clear r0 r1 r3 r4 r7 rl;go_loopw [6] (fun i wr=>∃j:Nat,j≤c∧i = .int .i64 ((n+j:Nat):Int)∧Hid (PA wr ba (ovr s.rt n j (x.r:Int)))∧Hid (Chg [ba] W3 wr)∧Hid (∀q:Nat,n≤q→q < n+j→s.rt q = 0)) (fun i _=>n+c - (intOf i).toNat)
 case atStart=>exact ⟨0,by omega,by simp,bk (by rw [xw];exact H3.out),bk (av _ _),bk (fun q h1 h2=>by omega)⟩
 case round =>
  obtain ⟨j,hj,rfl,rI,lN,kY⟩:=hrel;have uS:=bk rI.out;have oN:=bk lN.out;have qT:=bk kY.out;clear kY;obtain ⟨r0,r1,-,r3,r4,-,-,r7,-,-,-,-,rl,-⟩:=ay (uR.out wr oN.out);rw [mN.out.1] at r0;rw [mN.out.2.1] at r3;rw [mN.out.2.2] at r4;clear rI lN;by_cases hjc:j < c
  ·have dl:decide (((n+j:Nat):Int) < (n:Int)+(c:Int)) = true:=ae (by omega);have i0:(0:Int)≤((n+j:Nat):Int):=(by omega);have i1:((n+j:Nat):Int) < 1024:=(by have:=nO.out;omega);have oW:IntKind.i64.wrap (((n+j:Nat):Int)+1) = ((n+j:Nat):Int)+1:=(by rw [IntKind.wrap_i64];omega);have Dc:=PA.get uS.out (i:=n+j) (by have:=nO.out;omega);have xI:=Blk.frozen uS.out (n+j);have kT:¬ (w.heap.size = ba):=(by have:=nX.out;have:=kR.out;omega);have yN:¬ (ba = w.heap.size):=fun e=>kT e.symm;have hpl:=bb uS.out;have wT:ovr s.rt n j (x.r:Int) ((n+j:Nat):Int) = s.rt ((n+j:Nat):Int):=(by unfold ovr;rw [ag (by omega)]);rw [wT] at Dc;obtain ⟨y,hy⟩:∃y,y = s.rt ((n+j:Nat):Int):=⟨_,rfl⟩;rw [← hy] at Dc;have HY:=bk hy;have yS:=bk hjc;clear hy wT hj hjc;by_cases vF:y = 0
   ·subst vF;go_wp2_with fail;go_roundw
    case rel=>exact ⟨j+1,by have:=yS.out;omega,by go_num,bk (dD uS.out),bk (oN.out.setCell (p:=⟨ba,n+j,none⟩) (.inl (by simp)) _),bk (fun q h1 h2=>by by_cases e:q = n+j;(subst e;exact HY.out.symm);exact qT.out q h1 (by omega))⟩
    case measure=>have:=yS.out;simp [intOf];omega
   ·have ny:(y == 0) = false:=aj vF;have ny':(y != 0) = true:=(by simp [vF]);have HNY:=bk vF;clear vF;obtain rfl:E = 8:=(by rw [wZ.out];unfold Ar.mapE;rw [ag (by rintro (h | h);exact (show ¬ Ar.mayB (n:Int) (c:Int) = false by have:=nO.out;rw [Ar.mayB_iff.2 ⟨by omega,by omega,by omega,by omega⟩];decide) h;exact (show ¬ Ar.rgB (x.r:Int) = false by rw [Ar.rgB_iff.2 (by have:=rG.out;omega)];decide) h),ah ((Ar.cnt_pos mS.out.nm (by omega)).2 ⟨((n+j:Nat):Int),by omega,by have:=yS.out;omega,by rw [← kX.out.rt (n+j) (by have:=yS.out;have:=nO.out;omega),← HY.out];exact HNY.out⟩)]);go_wp2_with fail;go_ret;exact ⟨⟨by (have hh:=HE.out;rw [← hh];first | done | rfl),s,aw (aw HQ.out kL.out ab) oN.out (by have:=nX.out;have:=kR.out;simp;omega),(HM.out.chg kL.out ab).chg oN.out (by have:=nX.out;have:=kR.out;simp;omega),by rw [← HE.out,ag (by decide)];exact kX.out⟩,((qC.out.stay kL.out).trans oN.out (fun y hy=>.inr (by obtain rfl:=aa hy;have:=nX.out;have:=kR.out;omega))).up _⟩
  ·obtain rfl:j = c:=(by omega);have dl:decide (((n+j:Nat):Int) < (n:Int)+(j:Int)) = false:=ac (by omega);obtain ⟨m,hm⟩:∃m,m = Ar.withL p.rl n j (x.r:Int):=⟨_,rfl⟩;have wU:PA wr ba (Ar.rt m):=by
    rw [PA,ri (g:=ovr s.rt n j (x.r:Int)) (fun q h1 h2=>by rw [hm];exact (xv kX.out mS.out nO.out.2 h1 h2).symm)];exact uS.out
   have yA:=bk wU;have pJ:=bk (fun W=>ye (w:=W) (f:=Ar.rt m) (l:=m) (by rw [hm];exact (Ar.with_spec mS.out.nm (by omega) (by have:=nO.out;omega)).1) (fun q=>by rw [hm];exact bY mS.out nO.out.2 nO.out.1 q));have xY:=bk hm;obtain ⟨len,kQ⟩:∃len,len = m.length:=⟨_,rfl⟩;rw [← kQ] at pJ;have lX:=bk kQ;clear hjc hj hm wU kQ;go_wp2_with (first|refine jt (b:=ba) (f:=Ar.rt m) rfl _ rfl rfl ?_ ?_;(focus exact yA.out));refine (pJ.out _).mono ?_;rintro e W5 ⟨rfl,kE⟩;have kU:=bk (show Chg [ba] W3 W5 from oN.out.stay kE);have Aj:=bk (show PA W5 ba (Ar.rt m) from aw yA.out kE ab);have yW:=bk (show QB W5 b s bm from aw (aw HQ.out kL.out ab) kU.out (by have:=nX.out;have:=kR.out;simp;omega));have rE:=bk ((HM.out.chg kL.out ab).chg kU.out (by have:=nX.out;have:=kR.out;simp;omega));have uJ:=bk (show Chg [] w W5 from (qC.out.stay kL.out).trans kU.out (fun y hy=>.inr (by obtain rfl:=aa hy;have:=nX.out;have:=kR.out;omega)));clear kE yA pJ r0 r1 r3 r4 r7 rl dl;by_cases h32:32 < len
   ·have d32:decide (32 < (len:Int)) = true:=ae (by omega);have d32':decide (32 < len) = true:=ae h32;obtain rfl:E = 9:=(by rw [wZ.out];have lR:¬ 0 < Ar.cntL p.rl n j:=(fun hp=>by obtain ⟨q,a1,a2,a3⟩:=(Ar.cnt_pos mS.out.nm (by omega)).1 hp;obtain ⟨t,rfl⟩:∃t:Nat,q = t:=⟨q.toNat,by omega⟩;exact a3 (by rw [← kX.out.rt t (by have:=nO.out;omega)];exact qT.out t (by omega) (by omega)));unfold Ar.mapE Ar.setE;rw [ag (by rintro (h | h);exact (show ¬ Ar.mayB (n:Int) (j:Int) = false by have:=nO.out;rw [Ar.mayB_iff.2 ⟨by omega,by omega,by omega,by omega⟩];decide) h;exact (show ¬ Ar.rgB (x.r:Int) = false by rw [Ar.rgB_iff.2 (by have:=rG.out;omega)];decide) h),ag lR];rw [← xY.out,ah (by rw [← lX.out];exact h32)]);clear h32;go_wp2_with fail;go_ret;exact ⟨⟨by (have hh:=HE.out;rw [← hh];first | done | rfl),s,yW.out,rE.out,by rw [← HE.out,ag (by decide)];exact kX.out⟩,uJ.out.up _⟩
   ·have d32:decide (32 < (len:Int)) = false:=ac (by omega);have d32':decide (32 < len) = false:=ac h32;obtain rfl:E = 0:=(by rw [wZ.out];have lR:¬ 0 < Ar.cntL p.rl n j:=(fun hp=>by obtain ⟨q,a1,a2,a3⟩:=(Ar.cnt_pos mS.out.nm (by omega)).1 hp;obtain ⟨t,rfl⟩:∃t:Nat,q = t:=⟨q.toNat,by omega⟩;exact a3 (by rw [← kX.out.rt t (by have:=nO.out;omega)];exact qT.out t (by omega) (by omega)));unfold Ar.mapE Ar.setE;rw [ag (by rintro (h | h);exact (show ¬ Ar.mayB (n:Int) (j:Int) = false by have:=nO.out;rw [Ar.mayB_iff.2 ⟨by omega,by omega,by omega,by omega⟩];decide) h;exact (show ¬ Ar.rgB (x.r:Int) = false by rw [Ar.rgB_iff.2 (by have:=rG.out;omega)];decide) h),ag lR];rw [← xY.out,ag (by rw [← lX.out];exact h32)]);have FT:=bk h32;clear h32;obtain ⟨r0,r1,-,r3,r4,-,-,r7,-,-,-,-,rl,-⟩:=ay (uR.out W5 kU.out);rw [mN.out.1] at r0;rw [mN.out.2.1] at r3;rw [mN.out.2.2] at r4;clear r0 r1 r3 r4 r7 rl;go_wp2_with (first|refine jt (b:=ba) (f:=Ar.rt m) rfl _ rfl rfl ?_ ?_;(focus exact Aj.out)|refine og (b:=b) (s:=s) (bm:=bm) (f:=Ar.rt m) rfl _ _ rfl rfl rfl yW.out ?_;intro W6 h6 kF;have H6:=bk h6;have mA:=bk kF;obtain ⟨r0,r1,-,r3,r4,-,-,r7,-,-,-,-,rl,-⟩:=ay (show KB W6 w.heap.size x v from aw (uR.out W5 kU.out) kF (by have:=kR.out;simp;omega));rw [mN.out.1] at r0;rw [mN.out.2.1] at r3;rw [mN.out.2.2] at r4;clear h6 kF);go_loopw [7] (fun _ wr=>wr = W6) (fun _ _=>0)
    case atStart=>exact rfl
    case round =>
     obtain rfl:=hrel;go_wp2_with fail;go_ret;have Ch:(db p x).2 = { p with rl:=m }:=by
      rw [ch3 mN.out.1,mN.out.2.1,mN.out.2.2];have e:Ar.mapR p.rl n j x.r = m:=(by have lR:¬ 0 < Ar.cntL p.rl n j:=(fun hp=>by obtain ⟨q,a1,a2,a3⟩:=(Ar.cnt_pos mS.out.nm (by omega)).1 hp;obtain ⟨t,rfl⟩:∃t:Nat,q = t:=⟨q.toNat,by omega⟩;exact a3 (by rw [← kX.out.rt t (by have:=nO.out;omega)];exact qT.out t (by omega) (by omega)));unfold Ar.mapR Ar.setR;rw [ag (by rintro (h | h);exact (show ¬ Ar.mayB (n:Int) (j:Int) = false by have:=nO.out;rw [Ar.mayB_iff.2 ⟨by omega,by omega,by omega,by omega⟩];decide) h;exact (show ¬ Ar.rgB (x.r:Int) = false by rw [Ar.rgB_iff.2 (by have:=rG.out;omega)];decide) h),ag lR,← xY.out,ag (by rw [← lX.out];exact FT.out)]);rw [e]
     exact ⟨⟨by (have hh:=HE.out;rw [← hh];first | done | rfl),_,H6.out,by have:=rE.out.chg mA.out (fun hm=>by obtain rfl:=aa hm;exact bj yW.out rE.out rfl);exact this,by rw [← HE.out,ah rfl,Ch];exact kX.out.rights m⟩,(uJ.out.up [b,bm]).trans mA.out (fun y hy=>.inl (by obtain rfl:=aa hy;simp))⟩
theorem cQ (h:QB w b s bm) (hm:MapB w bm .i64 (byF s)) (hR:RelP p s) (hs:Ar.Sp p.rl) (hk:x.k = 5) (hx:0≤x.g∧1≤x.c∧x.c≤1024∧x.g≤1024 - x.c) (hr:1≤x.r∧x.r≤3) (v:Value) (hv:v.oneCell' = true) :
  Calls Tryz.prog 107 #[.pointer (some ⟨b,0,none⟩),.agg (clc x v)] w fun e w'=>ChR w w' b bm p x e∧Chg [b,bm] w w':=by
 obtain ⟨n,hn⟩:∃n:Nat,x.g = n:=⟨x.g.toNat,by omega⟩;obtain ⟨c,hc⟩:∃c:Nat,x.c = c:=⟨x.c.toNat,by omega⟩;have zF:n+c≤1024:=by omega
 have kO:1≤c:=by omega
 obtain ⟨E,hE⟩:∃E,E = (db p x).1:=⟨_,rfl⟩;have zD:E = Ar.prE p.rl n c x.r:=by rw [hE,ch5 hk,hn,hc]
 obtain ⟨W1,kP⟩:∃W1,W1 = w.alloc (.cells (clc x v) 47):=⟨_,rfl⟩;have lD:KB W1 w.heap.size x v:=by rw [kP];exact ax w _ _
 have nU:Chg [] w W1:=by rw [kP];exact (av [] w).alloc _
 have qZ:W1.heap.size = w.heap.size+1:=by rw [kP];exact af _ _
 have qR:=bb h;have sX:=hm.lt;have HQ:=bk (show QB W1 b s bm from aw h nU ab);have HM:=bk (hm.chg nU ab);have lI:=bk lD;have qC:=bk nU;have mH:=bk kP;have kR:=bk (show W1.heap.size = w.heap.size+1∧b < w.heap.size∧bm < w.heap.size from ⟨qZ,qR,sX⟩);have kX:=bk hR;have mS:=bk hs;have nO:=bk (ai zF kO);have HE:=bk hE;have wZ:=bk zD;have mN:=bk (ai hk (ai hn hc));have rG:=bk hr;have hwe:IntKind.i64.wrap ((n:Int)+(c:Int)) = (n:Int)+(c:Int):=by rw [IntKind.wrap_i64];omega
 clear h hm hR hs hE zD kP lD nU qZ hk hx hn hc qR sX zF kO hr;go_enter Tryz.func107,Tryz.ntmps107;go_upto_region 2 with (first|refine cc rfl _ rfl rfl ?_;try rw [← mH.out]|refine qi (b:=b) (s:=s) (bm:=bm) rfl _ rfl rfl HQ.out ?_|refine oc rfl rfl ?_;intro W2 h2 kI;have H2:=bk h2;have lE:=bk kI;clear h2 kI|refine oe (b:=W1.heap.size) (f:=fun _=>0) (g:=s.rt) rfl _ _ rfl rfl rfl H2.out ?_;intro W3 h3 kM;have H3:=bk h3;have kL:=bk (show Chg [] W1 W3 from lE.out.trans kM (fun y hy=>.inr (by obtain rfl:=aa hy;exact Nat.le_refl _)));clear h3 kM)
 obtain ⟨ba,oS⟩:∃y,y = W1.heap.size:=⟨_,rfl⟩;rw [← oS] at H3 ⊢;have nX:=bk oS;have uR:=bk (fun W (h:Chg [ba] W3 W)=>(aw (aw lI.out kL.out ab) h (by have:=nX.out;have:=kR.out;simp;omega):KB W w.heap.size x v));clear oS H2 lE;obtain ⟨r0,r1,-,r3,r4,-,-,r7,-,-,-,-,rl,-⟩:=ay (uR.out W3 (av _ _));rw [mN.out.1] at r0;rw [mN.out.2.1] at r3;rw [mN.out.2.2] at r4;go_upto_region 3 with (fail)
 clear r0 r1 r3 r4 r7 rl;go_loopw [6] (fun i wr=>∃j:Nat,j≤c∧i = .int .i64 ((n+j:Nat):Int)∧Hid (PA wr ba (ovr s.rt n j (x.r:Int)))∧Hid (Chg [ba] W3 wr)∧Hid (∀q:Nat,n≤q→q < n+j→s.rt q≠0)) (fun i _=>n+c - (intOf i).toNat)
 case atStart=>exact ⟨0,by omega,by simp,bk (by rw [xw];exact H3.out),bk (av _ _),bk (fun q h1 h2=>by omega)⟩
 case round =>
  obtain ⟨j,hj,rfl,rI,lN,kY⟩:=hrel;have uS:=bk rI.out;have oN:=bk lN.out;have qT:=bk kY.out;clear kY;obtain ⟨r0,r1,-,r3,r4,-,-,r7,-,-,-,-,rl,-⟩:=ay (uR.out wr oN.out);rw [mN.out.1] at r0;rw [mN.out.2.1] at r3;rw [mN.out.2.2] at r4;clear rI lN;by_cases hjc:j < c
  ·have dl:decide (((n+j:Nat):Int) < (n:Int)+(c:Int)) = true:=ae (by omega);have i0:(0:Int)≤((n+j:Nat):Int):=(by omega);have i1:((n+j:Nat):Int) < 1024:=(by have:=nO.out;omega);have oW:IntKind.i64.wrap (((n+j:Nat):Int)+1) = ((n+j:Nat):Int)+1:=(by rw [IntKind.wrap_i64];omega);have Dc:=PA.get uS.out (i:=n+j) (by have:=nO.out;omega);have xI:=Blk.frozen uS.out (n+j);have kT:¬ (w.heap.size = ba):=(by have:=nX.out;have:=kR.out;omega);have yN:¬ (ba = w.heap.size):=fun e=>kT e.symm;have hpl:=bb uS.out;have wT:ovr s.rt n j (x.r:Int) ((n+j:Nat):Int) = s.rt ((n+j:Nat):Int):=(by unfold ovr;rw [ag (by omega)]);rw [wT] at Dc;obtain ⟨y,hy⟩:∃y,y = s.rt ((n+j:Nat):Int):=⟨_,rfl⟩;rw [← hy] at Dc;have HY:=bk hy;have yS:=bk hjc;clear hy wT hj hjc;by_cases vF:y = 0
   ·subst vF;obtain rfl:E = 7:=(by rw [wZ.out];unfold Ar.prE Ar.mdE;rw [ag (show ¬ Ar.rgB (x.r:Int) = false by rw [Ar.rgB_iff.2 (by have:=rG.out;omega)];decide),ag (show ¬ Ar.mayB (n:Int) (c:Int) = false by have:=nO.out;rw [Ar.mayB_iff.2 ⟨by omega,by omega,by omega,by omega⟩];decide),ah ((Ar.cnt_lt mS.out.nm (by omega)).2 ⟨((n+j:Nat):Int),by omega,by have:=yS.out;omega,by rw [← kX.out.rt (n+j) (by have:=yS.out;have:=nO.out;omega)];exact HY.out.symm⟩),ah (by decide)]);go_wp2_with fail;go_ret;exact ⟨⟨by (have hh:=HE.out;rw [← hh];first | done | rfl),s,aw (aw HQ.out kL.out ab) oN.out (by have:=nX.out;have:=kR.out;simp;omega),(HM.out.chg kL.out ab).chg oN.out (by have:=nX.out;have:=kR.out;simp;omega),by rw [← HE.out,ag (by decide)];exact kX.out⟩,((qC.out.stay kL.out).trans oN.out (fun y hy=>.inr (by obtain rfl:=aa hy;have:=nX.out;have:=kR.out;omega))).up _⟩
   ·have ny:(y == 0) = false:=aj vF;have ny':(y != 0) = true:=(by simp [vF]);have HNY:=bk vF;clear vF;go_wp2_with fail;go_roundw
    case rel=>exact ⟨j+1,by have:=yS.out;omega,by go_num,bk (dD uS.out),bk (oN.out.setCell (p:=⟨ba,n+j,none⟩) (.inl (by simp)) _),bk (fun q h1 h2=>by by_cases e:q = n+j;(subst e;rw [← HY.out];exact HNY.out);exact qT.out q h1 (by omega))⟩
    case measure=>have:=yS.out;simp [intOf];omega
  ·obtain rfl:j = c:=(by omega);have dl:decide (((n+j:Nat):Int) < (n:Int)+(j:Int)) = false:=ac (by omega);obtain ⟨m,hm⟩:∃m,m = Ar.withL p.rl n j (x.r:Int):=⟨_,rfl⟩;have wU:PA wr ba (Ar.rt m):=by
    rw [PA,ri (g:=ovr s.rt n j (x.r:Int)) (fun q h1 h2=>by rw [hm];exact (xv kX.out mS.out nO.out.2 h1 h2).symm)];exact uS.out
   have yA:=bk wU;have pJ:=bk (fun W=>ye (w:=W) (f:=Ar.rt m) (l:=m) (by rw [hm];exact (Ar.with_spec mS.out.nm (by omega) (by have:=nO.out;omega)).1) (fun q=>by rw [hm];exact bY mS.out nO.out.2 nO.out.1 q));have xY:=bk hm;obtain ⟨len,kQ⟩:∃len,len = m.length:=⟨_,rfl⟩;rw [← kQ] at pJ;have lX:=bk kQ;clear hjc hj hm wU kQ;go_wp2_with (first|refine jt (b:=ba) (f:=Ar.rt m) rfl _ rfl rfl ?_ ?_;(focus exact yA.out));refine (pJ.out _).mono ?_;rintro e W5 ⟨rfl,kE⟩;have kU:=bk (show Chg [ba] W3 W5 from oN.out.stay kE);have Aj:=bk (show PA W5 ba (Ar.rt m) from aw yA.out kE ab);have yW:=bk (show QB W5 b s bm from aw (aw HQ.out kL.out ab) kU.out (by have:=nX.out;have:=kR.out;simp;omega));have rE:=bk ((HM.out.chg kL.out ab).chg kU.out (by have:=nX.out;have:=kR.out;simp;omega));have uJ:=bk (show Chg [] w W5 from (qC.out.stay kL.out).trans kU.out (fun y hy=>.inr (by obtain rfl:=aa hy;have:=nX.out;have:=kR.out;omega)));clear kE yA pJ r0 r1 r3 r4 r7 rl dl;by_cases h32:32 < len
   ·have d32:decide (32 < (len:Int)) = true:=ae (by omega);have d32':decide (32 < len) = true:=ae h32;obtain rfl:E = 9:=(by rw [wZ.out];have lR:¬ Ar.cntL p.rl n j < (j:Int):=(fun hp=>by obtain ⟨q,a1,a2,a3⟩:=(Ar.cnt_lt mS.out.nm (by omega)).1 hp;obtain ⟨t,rfl⟩:∃t:Nat,q = t:=⟨q.toNat,by omega⟩;exact qT.out t (by omega) (by omega) (by rw [kX.out.rt t (by have:=nO.out;omega)];exact a3));unfold Ar.prE Ar.mdE Ar.setE;rw [ag (show ¬ Ar.rgB (x.r:Int) = false by rw [Ar.rgB_iff.2 (by have:=rG.out;omega)];decide),ag (show ¬ Ar.mayB (n:Int) (j:Int) = false by have:=nO.out;rw [Ar.mayB_iff.2 ⟨by omega,by omega,by omega,by omega⟩];decide),ag lR,ag (by decide)];rw [← xY.out,ah (by rw [← lX.out];exact h32)]);clear h32;go_wp2_with fail;go_ret;exact ⟨⟨by (have hh:=HE.out;rw [← hh];first | done | rfl),s,yW.out,rE.out,by rw [← HE.out,ag (by decide)];exact kX.out⟩,uJ.out.up _⟩
   ·have d32:decide (32 < (len:Int)) = false:=ac (by omega);have d32':decide (32 < len) = false:=ac h32;obtain rfl:E = 0:=(by rw [wZ.out];have lR:¬ Ar.cntL p.rl n j < (j:Int):=(fun hp=>by obtain ⟨q,a1,a2,a3⟩:=(Ar.cnt_lt mS.out.nm (by omega)).1 hp;obtain ⟨t,rfl⟩:∃t:Nat,q = t:=⟨q.toNat,by omega⟩;exact qT.out t (by omega) (by omega) (by rw [kX.out.rt t (by have:=nO.out;omega)];exact a3));unfold Ar.prE Ar.mdE Ar.setE;rw [ag (show ¬ Ar.rgB (x.r:Int) = false by rw [Ar.rgB_iff.2 (by have:=rG.out;omega)];decide),ag (show ¬ Ar.mayB (n:Int) (j:Int) = false by have:=nO.out;rw [Ar.mayB_iff.2 ⟨by omega,by omega,by omega,by omega⟩];decide),ag lR,ag (by decide)];rw [← xY.out,ag (by rw [← lX.out];exact h32)]);have FT:=bk h32;clear h32;obtain ⟨r0,r1,-,r3,r4,-,-,r7,-,-,-,-,rl,-⟩:=ay (uR.out W5 kU.out);rw [mN.out.1] at r0;rw [mN.out.2.1] at r3;rw [mN.out.2.2] at r4;clear r0 r1 r3 r4 r7 rl;go_wp2_with (first|refine jt (b:=ba) (f:=Ar.rt m) rfl _ rfl rfl ?_ ?_;(focus exact Aj.out)|refine og (b:=b) (s:=s) (bm:=bm) (f:=Ar.rt m) rfl _ _ rfl rfl rfl yW.out ?_;intro W6 h6 kF;have H6:=bk h6;have mA:=bk kF;obtain ⟨r0,r1,-,r3,r4,-,-,r7,-,-,-,-,rl,-⟩:=ay (show KB W6 w.heap.size x v from aw (uR.out W5 kU.out) kF (by have:=kR.out;simp;omega));rw [mN.out.1] at r0;rw [mN.out.2.1] at r3;rw [mN.out.2.2] at r4;clear h6 kF);go_loopw [7] (fun _ wr=>wr = W6) (fun _ _=>0)
    case atStart=>exact rfl
    case round =>
     obtain rfl:=hrel;go_wp2_with fail;go_ret;have Ch:(db p x).2 = { p with rl:=m }:=by
      rw [ch5 mN.out.1,mN.out.2.1,mN.out.2.2];have e:Ar.prR p.rl n j x.r = m:=(by have lR:¬ Ar.cntL p.rl n j < (j:Int):=(fun hp=>by obtain ⟨q,a1,a2,a3⟩:=(Ar.cnt_lt mS.out.nm (by omega)).1 hp;obtain ⟨t,rfl⟩:∃t:Nat,q = t:=⟨q.toNat,by omega⟩;exact qT.out t (by omega) (by omega) (by rw [kX.out.rt t (by have:=nO.out;omega)];exact a3));unfold Ar.prR Ar.mdE Ar.setR;rw [ag (show ¬ Ar.rgB (x.r:Int) = false by rw [Ar.rgB_iff.2 (by have:=rG.out;omega)];decide),ag (show ¬ Ar.mayB (n:Int) (j:Int) = false by have:=nO.out;rw [Ar.mayB_iff.2 ⟨by omega,by omega,by omega,by omega⟩];decide),ag lR,ag (by decide),← xY.out,ag (by rw [← lX.out];exact FT.out)]);rw [e]
     exact ⟨⟨by (have hh:=HE.out;rw [← hh];first | done | rfl),_,H6.out,by have:=rE.out.chg mA.out (fun hm=>by obtain rfl:=aa hm;exact bj yW.out rE.out rfl);exact this,by rw [← HE.out,ah rfl,Ch];exact kX.out.rights m⟩,(uJ.out.up [b,bm]).trans mA.out (fun y hy=>.inl (by obtain rfl:=aa hy;simp))⟩
theorem cP (h:QB w b s bm) (hm:MapB w bm .i64 (byF s)) (hR:RelP p s) (hs:Ar.Sp p.rl) (hk:x.k = 4) (hx:0≤x.g∧1≤x.c∧x.c≤1024∧x.g≤1024 - x.c) (v:Value) (hv:v.oneCell' = true) :
  Calls Tryz.prog 107 #[.pointer (some ⟨b,0,none⟩),.agg (clc x v)] w fun e w'=>ChR w w' b bm p x e∧Chg [b,bm] w w':=by
 obtain ⟨n,hn⟩:∃n:Nat,x.g = n:=⟨x.g.toNat,by omega⟩;obtain ⟨c,hc⟩:∃c:Nat,x.c = c:=⟨x.c.toNat,by omega⟩;have zF:n+c≤1024:=by omega
 have kO:1≤c:=by omega
 obtain ⟨E,hE⟩:∃E,E = (db p x).1:=⟨_,rfl⟩;have zD:E = Ar.unE p.rl n c:=by rw [hE,ch4 hk,hn,hc]
 obtain ⟨W1,kP⟩:∃W1,W1 = w.alloc (.cells (clc x v) 47):=⟨_,rfl⟩;have lD:KB W1 w.heap.size x v:=by rw [kP];exact ax w _ _
 have nU:Chg [] w W1:=by rw [kP];exact (av [] w).alloc _
 have qZ:W1.heap.size = w.heap.size+1:=by rw [kP];exact af _ _
 have qR:=bb h;have sX:=hm.lt;have HQ:=bk (show QB W1 b s bm from aw h nU ab);have HM:=bk (hm.chg nU ab);have lI:=bk lD;have qC:=bk nU;have mH:=bk kP;have kR:=bk (show W1.heap.size = w.heap.size+1∧b < w.heap.size∧bm < w.heap.size from ⟨qZ,qR,sX⟩);have kX:=bk hR;have mS:=bk hs;have nO:=bk (ai zF kO);have HE:=bk hE;have wZ:=bk zD;have mN:=bk (ai hk (ai hn hc));skip;have hwe:IntKind.i64.wrap ((n:Int)+(c:Int)) = (n:Int)+(c:Int):=by rw [IntKind.wrap_i64];omega
 clear h hm hR hs hE zD kP lD nU qZ hk hx hn hc qR sX zF kO;go_enter Tryz.func107,Tryz.ntmps107;go_upto_region 2 with (first|refine cc rfl _ rfl rfl ?_;try rw [← mH.out]|refine qi (b:=b) (s:=s) (bm:=bm) rfl _ rfl rfl HQ.out ?_|refine oc rfl rfl ?_;intro W2 h2 kI;have H2:=bk h2;have lE:=bk kI;clear h2 kI|refine oe (b:=W1.heap.size) (f:=fun _=>0) (g:=s.rt) rfl _ _ rfl rfl rfl H2.out ?_;intro W3 h3 kM;have H3:=bk h3;have kL:=bk (show Chg [] W1 W3 from lE.out.trans kM (fun y hy=>.inr (by obtain rfl:=aa hy;exact Nat.le_refl _)));clear h3 kM)
 obtain ⟨ba,oS⟩:∃y,y = W1.heap.size:=⟨_,rfl⟩;rw [← oS] at H3 ⊢;have nX:=bk oS;have uR:=bk (fun W (h:Chg [ba] W3 W)=>(aw (aw lI.out kL.out ab) h (by have:=nX.out;have:=kR.out;simp;omega):KB W w.heap.size x v));clear oS H2 lE;obtain ⟨r0,r1,-,r3,r4,-,-,r7,-,-,-,-,rl,-⟩:=ay (uR.out W3 (av _ _));rw [mN.out.1] at r0;rw [mN.out.2.1] at r3;rw [mN.out.2.2] at r4;go_upto_region 3 with (fail)
 clear r0 r1 r3 r4 r7 rl;go_loopw [6] (fun i wr=>∃j:Nat,j≤c∧i = .int .i64 ((n+j:Nat):Int)∧Hid (PA wr ba (ovr s.rt n j 0))∧Hid (Chg [ba] W3 wr)) (fun i _=>n+c - (intOf i).toNat)
 case atStart=>exact ⟨0,by omega,by simp,bk (by rw [xw];exact H3.out),bk (av _ _)⟩
 case round =>
  obtain ⟨j,hj,rfl,rI,lN⟩:=hrel;have uS:=bk rI.out;have oN:=bk lN.out;skip;obtain ⟨r0,r1,-,r3,r4,-,-,r7,-,-,-,-,rl,-⟩:=ay (uR.out wr oN.out);rw [mN.out.1] at r0;rw [mN.out.2.1] at r3;rw [mN.out.2.2] at r4;clear rI lN;by_cases hjc:j < c
  ·have dl:decide (((n+j:Nat):Int) < (n:Int)+(c:Int)) = true:=ae (by omega);have i0:(0:Int)≤((n+j:Nat):Int):=(by omega);have i1:((n+j:Nat):Int) < 1024:=(by have:=nO.out;omega);have oW:IntKind.i64.wrap (((n+j:Nat):Int)+1) = ((n+j:Nat):Int)+1:=(by rw [IntKind.wrap_i64];omega);have Dc:=PA.get uS.out (i:=n+j) (by have:=nO.out;omega);have xI:=Blk.frozen uS.out (n+j);have kT:¬ (w.heap.size = ba):=(by have:=nX.out;have:=kR.out;omega);have yN:¬ (ba = w.heap.size):=fun e=>kT e.symm;have hpl:=bb uS.out;have wT:ovr s.rt n j 0 ((n+j:Nat):Int) = s.rt ((n+j:Nat):Int):=(by unfold ovr;rw [ag (by omega)]);rw [wT] at Dc;obtain ⟨y,hy⟩:∃y,y = s.rt ((n+j:Nat):Int):=⟨_,rfl⟩;rw [← hy] at Dc;have HY:=bk hy;have yS:=bk hjc;clear hy wT hj hjc;go_wp2_with fail;go_roundw
   case rel=>exact ⟨j+1,by have:=yS.out;omega,by go_num,bk (ovr_two uS.out),bk ((oN.out.setCell (p:=⟨ba,n+j,none⟩) (.inl (by simp)) _).setCell (p:=⟨ba,n+j,none⟩) (.inl (by simp)) _)⟩
   case measure=>have:=yS.out;simp [intOf];omega
  ·obtain rfl:j = c:=(by omega);have dl:decide (((n+j:Nat):Int) < (n:Int)+(j:Int)) = false:=ac (by omega);obtain ⟨m,hm⟩:∃m,m = Ar.withL p.rl n j 0:=⟨_,rfl⟩;have wU:PA wr ba (Ar.rt m):=by
    rw [PA,ri (g:=ovr s.rt n j 0) (fun q h1 h2=>by rw [hm];exact (xv kX.out mS.out nO.out.2 h1 h2).symm)];exact uS.out
   have yA:=bk wU;have pJ:=bk (fun W=>ye (w:=W) (f:=Ar.rt m) (l:=m) (by rw [hm];exact (Ar.with_spec mS.out.nm (by omega) (by have:=nO.out;omega)).1) (fun q=>by rw [hm];exact bY mS.out nO.out.2 nO.out.1 q));have xY:=bk hm;obtain ⟨len,kQ⟩:∃len,len = m.length:=⟨_,rfl⟩;rw [← kQ] at pJ;have lX:=bk kQ;clear hjc hj hm wU kQ;go_wp2_with (first|refine jt (b:=ba) (f:=Ar.rt m) rfl _ rfl rfl ?_ ?_;(focus exact yA.out));refine (pJ.out _).mono ?_;rintro e W5 ⟨rfl,kE⟩;have kU:=bk (show Chg [ba] W3 W5 from oN.out.stay kE);have Aj:=bk (show PA W5 ba (Ar.rt m) from aw yA.out kE ab);have yW:=bk (show QB W5 b s bm from aw (aw HQ.out kL.out ab) kU.out (by have:=nX.out;have:=kR.out;simp;omega));have rE:=bk ((HM.out.chg kL.out ab).chg kU.out (by have:=nX.out;have:=kR.out;simp;omega));have uJ:=bk (show Chg [] w W5 from (qC.out.stay kL.out).trans kU.out (fun y hy=>.inr (by obtain rfl:=aa hy;have:=nX.out;have:=kR.out;omega)));clear kE yA pJ r0 r1 r3 r4 r7 rl dl;by_cases h32:32 < len
   ·have d32:decide (32 < (len:Int)) = true:=ae (by omega);have d32':decide (32 < len) = true:=ae h32;obtain rfl:E = 9:=(by rw [wZ.out];unfold Ar.unE Ar.setE;rw [ag (show ¬ Ar.mayB (n:Int) (j:Int) = false by have:=nO.out;rw [Ar.mayB_iff.2 ⟨by omega,by omega,by omega,by omega⟩];decide)];rw [← xY.out,ah (by rw [← lX.out];exact h32)]);clear h32;go_wp2_with fail;go_ret;exact ⟨⟨by (have hh:=HE.out;rw [← hh];first | done | rfl),s,yW.out,rE.out,by rw [← HE.out,ag (by decide)];exact kX.out⟩,uJ.out.up _⟩
   ·have d32:decide (32 < (len:Int)) = false:=ac (by omega);have d32':decide (32 < len) = false:=ac h32;obtain rfl:E = 0:=(by rw [wZ.out];unfold Ar.unE Ar.setE;rw [ag (show ¬ Ar.mayB (n:Int) (j:Int) = false by have:=nO.out;rw [Ar.mayB_iff.2 ⟨by omega,by omega,by omega,by omega⟩];decide)];rw [← xY.out,ag (by rw [← lX.out];exact h32)]);have FT:=bk h32;clear h32;obtain ⟨r0,r1,-,r3,r4,-,-,r7,-,-,-,-,rl,-⟩:=ay (uR.out W5 kU.out);clear r0 r1 r3 r4 r7 rl;go_wp2_with (first|refine jt (b:=ba) (f:=Ar.rt m) rfl _ rfl rfl ?_ ?_;(focus exact Aj.out)|refine og (b:=b) (s:=s) (bm:=bm) (f:=Ar.rt m) rfl _ _ rfl rfl rfl yW.out ?_;intro W6 h6 kF;have H6:=bk h6;have mA:=bk kF;obtain ⟨r0,r1,-,r3,r4,-,-,r7,-,-,-,-,rl,-⟩:=ay (show KB W6 w.heap.size x v from aw (uR.out W5 kU.out) kF (by have:=kR.out;simp;omega));rw [mN.out.1] at r0;rw [mN.out.2.1] at r3;rw [mN.out.2.2] at r4;clear h6 kF);have DC:=bk (fun W (h:Chg [b,bm] W6 W)=>(aw (aw (uR.out W5 kU.out) mA.out (by have:=kR.out;simp;omega)) h (by have:=kR.out;simp;omega):KB W w.heap.size x v));have BS:=bk (show MapB W6 bm .i64 (byF { s with rt:=Ar.rt m }) from rE.out.chg mA.out (fun hm=>by obtain rfl:=aa hm;exact bj yW.out rE.out rfl));have Bw:b≠bm:=bj yW.out rE.out;have zO:=bk Bw;obtain ⟨s1,rY⟩:∃s1:Sq,s1 = { s with rt:=Ar.rt m }:=⟨_,rfl⟩;rw [← rY] at H6 BS;have HS1:=bk rY;clear rY Bw r0 r1 r3 r4 r7 rl;go_loopw [7] (fun i wr=>∃t:Nat,t≤j∧i = .int .i64 ((n+t:Nat):Int)∧Hid (QB wr b (unS s1 n t (256 * ((n+t:Nat):Int))) bm)∧Hid (MapB wr bm .i64 (byF (unS s1 n t (256 * ((n+t:Nat):Int)))))∧Hid (Chg [b,bm] W6 wr)) (fun i _=>n+j - (intOf i).toNat)
    case atStart=>exact ⟨0,by omega,by simp,bk (by rw [show ((n+0:Nat):Int) = (n:Int) by omega,eE];exact H6.out),bk (by rw [show ((n+0:Nat):Int) = (n:Int) by omega,eE];exact BS.out),bk (av _ _)⟩
    case round =>
     obtain ⟨t,ht,rfl,hq,Ew,oJ⟩:=hrel;have Ak:=bk hq.out;have Fj:=bk Ew.out;have oQ:=bk oJ.out;obtain ⟨r0,r1,-,r3,r4,-,-,r7,-,-,-,-,rl,-⟩:=ay (DC.out _ oQ.out);rw [mN.out.1] at r0;rw [mN.out.2.1] at r3;rw [mN.out.2.2] at r4;clear hq Ew oJ;by_cases htj:t < j
     ·have dl:decide (((n+t:Nat):Int) < (n:Int)+(j:Int)) = true:=ae (by omega);have i0:(0:Int)≤((n+t:Nat):Int):=(by omega);have i1:((n+t:Nat):Int) < 1024:=(by have:=nO.out;omega);have oW:IntKind.i64.wrap (((n+t:Nat):Int)+1) = ((n+t:Nat):Int)+1:=(by rw [IntKind.wrap_i64];omega);have hnt:n+t < 1024:=(by have:=nO.out;omega);have Cv:=QB.ow Ak.out hnt;have xI:=Blk.frozen Ak.out (1025+(n+t));have FI:=bb Ak.out;have HTJ:=bk htj;have HNT:=bk hnt;clear ht htj hnt;go_wp2_with (first|refine yt (b:=b) (i:=n+t) (k:=0) (m:=0) rfl _ _ rfl rfl rfl (QB.set_ow Ak.out HNT.out false) HNT.out ?_;intro W7 h7 kN;have H7:=bk h7;have qD:=bk kN;clear h7 kN);have HQ7:=bk (show QB W7 b (unS s1 n (t+1) (256 * ((n+t:Nat):Int))) bm by have:=H7.out;rw [← unS_step];exact this);have HC87:=bk (show Chg [b,bm] W6 W7 from (oQ.out.trans ((av [b] _).setCell (p:=⟨b,1025+(n+t),none⟩) (.inl (by simp)) _) (fun y hy=>.inl (by obtain rfl:=aa hy;simp))).trans qD.out (fun y hy=>.inl (by obtain rfl:=aa hy;simp)));have HM7:=bk (show MapB W7 bm .i64 (byF (unS s1 n (t+1) (256 * ((n+t:Nat):Int)))) from (Fj.out.chg ((av [b] _).setCell (p:=⟨b,1025+(n+t),none⟩) (.inl (by simp)) _) (by simp;exact fun e=>zO.out e.symm)).chg qD.out (by simp;exact fun e=>zO.out e.symm));clear H7 qD Ak Fj Cv xI FI r0 r1 r3 r4 r7 rl;go_loopw [8] (fun i wx=>∃u:Nat,u≤256∧i = .int .i64 u∧Hid (QB wx b (unS s1 n (t+1) (256 * ((n+t:Nat):Int)+u)) bm)∧Hid (MapB wx bm .i64 (byF (unS s1 n (t+1) (256 * ((n+t:Nat):Int)+u))))∧Hid (Chg [b,bm] W6 wx)) (fun i _=>256 - (intOf i).toNat)
      case atStart=>exact ⟨0,by omega,rfl,bk (by rw [show 256 * ((n+t:Nat):Int)+((0:Nat):Int) = 256 * ((n+t:Nat):Int) by omega];exact HQ7.out),bk (by rw [show 256 * ((n+t:Nat):Int)+((0:Nat):Int) = 256 * ((n+t:Nat):Int) by omega];exact HM7.out),HC87⟩
      case round =>
       obtain ⟨u,hu,rfl,hq,Ew,oJ⟩:=hrel;have Ak:=bk hq.out;have Fj:=bk Ew.out;have oQ:=bk oJ.out;clear hq Ew oJ;by_cases hut:u < 256
       ·have du:decide ((u:Int) < 256) = true:=ae (by omega);have du':decide (u < 256) = true:=ae hut;have hwu:IntKind.i64.wrap ((u:Int)+1) = (u:Int)+1:=(by rw [IntKind.wrap_i64];omega);have HUT:=bk hut;have AQ:IntKind.i64.wrap (((n:Int)+(t:Int)) * 256) = ((n:Int)+(t:Int)) * 256:=(by rw [IntKind.wrap_i64];omega);have rU:IntKind.i64.wrap (((n:Int)+(t:Int)) * 256+(u:Int)) = ((n:Int)+(t:Int)) * 256+(u:Int):=(by rw [IntKind.wrap_i64];omega);have Es:wrap64 (((n:Int)+(t:Int)) * 256+(u:Int)) = ((n:Int)+(t:Int)) * 256+(u:Int):=(by have h1:=HUT.out;have h2:=HNT.out;unfold wrap64;omega);have hbmc:=QB.bmap Ak.out;have FI:=bb Ak.out;clear hu hut;go_wp2_with (first|refine zn (b:=bm) (key:=((n:Int)+(t:Int)) * 256+(u:Int)) rfl _ _ rfl Tryz.underlying96 Tryz.underlying3 rfl rfl Fj.out ?_;intro W8 h8 oE;have H8:=bk h8;have mR:=bk oE;clear h8 oE);clear AQ rU Es;go_roundw
        case rel =>
         have e1:((n:Int)+(t:Int)) * 256+(u:Int) = 256 * ((n+t:Nat):Int)+(u:Int):=(by omega);have e2:256 * ((n+t:Nat):Int)+((u+1:Nat):Int) = 256 * ((n+t:Nat):Int)+(u:Int)+1:=(by omega);refine ⟨u+1,by have:=HUT.out;omega,by go_num,bk ?_,bk ?_,bk (oQ.out.trans mR.out (fun y hy=>.inl (by obtain rfl:=aa hy;simp)))⟩
         ·have hQ8:QB W8 b _ bm:=aw Ak.out mR.out (by simp;exact zO.out);exact hQ8
         ·have h8:=H8.out;rw [e1,unS_by s1 n (t+1) (by omega)] at h8;rw [e2];exact h8
        case measure=>have:=HUT.out;simp [intOf];omega
       ·obtain rfl:u = 256:=(by omega);have du:decide (((256:Nat):Int) < 256) = false:=(by decide);clear hut hu;go_wp2_with fail;go_roundw
        case rel =>
         have e1:256 * ((n+t:Nat):Int)+((256:Nat):Int) = 256 * ((n+(t+1):Nat):Int):=(by omega);refine ⟨t+1,by have:=HTJ.out;omega,by go_num,bk ?_,bk ?_,oQ⟩
         ·rw [← e1];exact Ak.out
         ·rw [← e1];exact Fj.out
        case measure=>have:=HTJ.out;simp [intOf];omega
     ·obtain rfl:t = j:=(by omega);have dl:decide (((n+t:Nat):Int) < (n:Int)+(t:Int)) = false:=ac (by omega);clear htj ht;go_wp2_with fail;go_ret;have Ch:(db p x).2 = { p with rl:=m,pg:=fun q=>if inR n t q then none else p.pg q,ow:=fun q=>if inR n t q then none else p.ow q }:=by
       rw [ch4 mN.out.1,mN.out.2.1,mN.out.2.2];have e:Ar.unR p.rl n t = m:=(by unfold Ar.unR Ar.setR;rw [ag (show ¬ Ar.mayB (n:Int) (t:Int) = false by have:=nO.out;rw [Ar.mayB_iff.2 ⟨by omega,by omega,by omega,by omega⟩];decide),← xY.out,ag (by rw [← lX.out];exact FT.out)]);rw [e]
      exact ⟨⟨by (have hh:=HE.out;rw [← hh];first | done | rfl),_,Ak.out,Fj.out,by rw [← HE.out,ah rfl,Ch,HS1.out];exact kX.out.un m nO.out.1⟩,((uJ.out.up [b,bm]).trans mA.out (fun y hy=>.inl (by obtain rfl:=aa hy;simp))).trans oQ.out (fun y hy=>.inl hy)⟩
def EvOk (M:Mo):Prop:=∀z B,M.ob z = some B→M.ev z = true
theorem EvOk.new (c:Cf):EvOk (np c):=fun _ _ h=>by cases h
theorem EvOk.ans {M':Mo} (h:EvOk M) {v:Nat} (e:(cj M x v).2 = some M'):EvOk M':=by
 unfold cj at e;split at e
 ·unfold jf at e;split at e
  ·obtain rfl:=aq e;exact h
  ·cases e
 split at e
 ·unfold jg at e;split at e
  ·cases e
  ·obtain rfl:=aq e;intro z B hz;show upd M.ev v true z = true;have Bk:upd M.ob v _ z = some B:=hz;unfold upd at Bk ⊢;split
   ·rfl
   ·rename_i kT;rw [ag kT] at Bk;exact h z B Bk
 split at e
 ·unfold gj at e;split at e
  ·cases e
  ·rename_i b hb;have key:∀(o:Option (List Nat)),EvOk { M with ob:=upd M.ob x.h o }:=fun o z B hz=>by
    have Bk:upd M.ob x.h o z = some B:=hz;unfold upd at Bk;split at Bk
    ·rename_i e1;rw [e1];exact h _ b hb
    ·exact h z B Bk
   split at e
   ·obtain rfl:=aq e;exact key none
   split at e
   ·cases e
   split at e
   ·cases e
   ·obtain rfl:=aq e;exact key (some _)
 split at e
 ·cases e
 split at e
 ·cases e
 ·unfold dc at e
  repeat' split at e
  all_goals first
   | (obtain rfl:=aq e;exact h)
   | (cases e;done)
   | (rw [Option.map_eq_some_iff] at e;obtain ⟨q,_,rfl⟩:=e;exact h)
theorem EvOk.step (h:EvOk M) (x:Cl) (r:Rs):EvOk (ie M x r):=by
 unfold ie;split
 ·exact h
 ·cases e:(cj M x r.v).2 with
  | none=>exact h
  | some M'=>exact h.ans e
noncomputable def pj (M:Mo) (x:Cl) (f:Nat):Rs:=if dr M.c x = true then bw 2 else if x.k = 10 then ⟨0,f,[]⟩ else (cj M x 0).1
theorem procA_v (yZ:x.k≠17) (v:Nat) (p:Pr):dc M x v p = dc M x 0 p:=by unfold dc;rw [ag (c:=x.k = 17) yZ,ag (c:=x.k = 17) yZ]
theorem ans_v (mX:x.k≠10) (yZ:x.k≠17) (v:Nat):cj M x v = cj M x 0:=by
 unfold cj;rw [ag (c:=x.k = 10) mX,ag (c:=x.k = 10) mX];cases M.pr x.p with
 | none=>rfl
 | some p=>simp only [procA_v yZ v]
theorem acc_e (p:Pr) (x:Cl):(dt p x).1.e = 7∨(dt p x).1.e = 190∨(dt p x).1.e = 0:=by
 unfold dt;simp only
 repeat' split
 all_goals first | exact .inl rfl | exact .inr (.inl rfl) | exact .inr (.inr rfl)
structure MoOk (M:Mo):Prop where
 pr:∀z p,M.pr z = some p→(1≤z∧z≤8)∧Ar.Sp p.rl∧(∀q:Int,(jl p q).length = 256)∧(∀q:Int,∀y∈jl p q,y < 256)∧p.pk < 256∧p.pm < 256∧∀q u,p.ow q = some u→u.1 < 256∧u.2 < 256
 ob:∀z B,M.ob z = some B→(∀y∈B,y < 256)∧B.length≤128
theorem MMem.ok {O:Nat→Prop} (h:MMem w m M O):MoOk M:=by
 obtain ⟨bp,bo,be,fp,fo,fe,gb,GF,ov,hI,-,-⟩:=h;refine ⟨fun z p hp=>?_,fun z B hB=>(hI.ob z B hB).2⟩;obtain ⟨d,FA,qp,qo,gp',go',gp,hP,-,-⟩:=hI.pr z p hp;refine ⟨hI.rng z p hp,hP.sp,fun q=>?_,fun q y hy=>?_,hP.pk,hP.pm,hP.ow⟩
 ·unfold jl;cases hg:p.pg q with
  | none=>exact List.length_replicate
  | some B=>exact (hP.pg q B hg).len
 ·unfold jl at hy;cases hg:p.pg q with
  | none =>
   rw [hg] at hy;have h2:y∈zeroPg:=hy;unfold zeroPg at h2;rw [List.mem_replicate] at h2;omega
  | some B =>
   rw [hg] at hy;exact (hP.pg q B hg).b8 y hy
theorem MoOk.ans_l (h:MoOk M) (x:Cl) (v:Nat):∀b∈(cj M x v).1.l,b < 256:=by
 have nl:∀(R:Rs),R.l = []→∀b∈R.l,b < 256:=fun R h b hb=>by rw [h] at hb;cases hb
 unfold cj;split
 ·refine nl _ ?_;unfold jf;split <;> rfl
 split
 ·refine nl _ ?_;unfold jg;split <;> rfl
 split
 ·unfold gj;cases hb:M.ob x.h with
  | none=>exact nl _ rfl
  | some B =>
   simp only;split
   ·exact nl _ rfl
   split
   ·exact nl _ rfl
   split
   ·intro b hh;exact (h.ob _ _ hb).1 b (List.mem_of_mem_drop (List.mem_of_mem_take hh))
   ·exact nl _ rfl
 split
 ·exact nl _ rfl
 cases hp:M.pr x.p with
 | none=>exact nl _ rfl
 | some p =>
  simp only;unfold dc;split
  ·exact nl _ rfl
  split
  ·exact nl _ rfl
  split
  ·exact nl _ rfl
  split
  ·exact nl _ rfl
  split
  ·unfold dt;simp only;split
   ·exact nl _ rfl
   split
   ·split
    ·exact nl _ rfl
    ·intro b hh;exact (h.pr _ _ hp).2.2.2.1 _ b (List.mem_of_mem_drop (List.mem_of_mem_take hh))
   ·split <;> exact nl _ rfl
  split
  ·exact nl _ rfl
  split
  ·exact nl _ rfl
  split <;> exact nl _ rfl
theorem ansR_ok (h:MoOk M) (x:Cl) (f:Nat):∀b∈(pj M x f).l,b < 256:=by
 unfold pj;split
 ·intro b hb;cases hb
 split
 ·intro b hb;cases hb
 ·exact h.ans_l x 0
def zB (k:Nat) (l:List Nat):Cl:={ zCl with k:=k,l:=l }
def ofK (k:Nat) (L l:List Nat):Cl :=
 match k,L with
 | 2,[p]=>{ zB 2 l with p:=ct p }
 | 3,[p,g,c,r]=>{ zB 3 l with p:=ct p,g:=ct g,c:=ct c,r:=r % 256 }
 | 5,[p,g,c,r]=>{ zB 5 l with p:=ct p,g:=ct g,c:=ct c,r:=r % 256 }
 | 4,[p,g,c]=>{ zB 4 l with p:=ct p,g:=ct g,c:=ct c }
 | 6,[p,g,c]=>{ zB 6 l with p:=ct p,g:=ct g,c:=ct c }
 | 7,[p,g,c]=>{ zB 7 l with p:=ct p,g:=ct g,c:=ct c }
 | 8,[p,a,s]=>{ zB 8 l with p:=ct p,a:=ct a,s:=ct s }
 | 9,[p,a]=>{ zB 9 l with p:=ct p,a:=ct a }
 | 10,[s]=>{ zB 10 l with s:=ct s }
 | 11,[h]=>{ zB 11 l with h:=h }
 | 12,[h,a,s]=>{ zB 12 l with h:=h,a:=ct a,s:=ct s }
 | 13,[h,a]=>{ zB 13 l with h:=h,a:=ct a }
 | 14,[p,ok,om]=>{ zB 14 l with p:=ct p,ok:=ok % 256,om:=om % 256 }
 | 15,[p,g,c,ok,om]=>{ zB 15 l with p:=ct p,g:=ct g,c:=ct c,ok:=ok % 256,om:=om % 256 }
 | 16,[p,g]=>{ zB 16 l with p:=ct p,g:=ct g }
 | 17,[p,g]=>{ zB 17 l with p:=ct p,g:=ct g }
 | 18,[p,g,c,n]=>{ zB 18 l with p:=ct p,g:=ct g,c:=ct c,n:=ct n }
 | 19,[n]=>{ zB 19 l with n:=ct n }
 | 20,[n]=>{ zB 20 l with n:=ct n }
 | k,_=>zB k l
def mayR (x:Cl):Bool:=isK x.k && decide (x.l.length≤8) && (ni x.k || decide (x.l.length = 0)) && dx (ofK x.k (ud x) x.l) x
theorem ofK_bare (hx:x.Ok) (hb:ni x.k = true∨x.l = []):ofK x.k (ud x) x.l = jz x:=by
 have h1:=aD hx.p.1 hx.p.2;have h2:=aD hx.n.1 hx.n.2;have h3:=aD hx.g.1 hx.g.2;have h4:=aD hx.c.1 hx.c.2;have h5:=aD hx.a.1 hx.a.2;have h6:=aD hx.s.1 hx.s.2;have h7:x.r % 256 = x.r:=Nat.mod_eq_of_lt hx.r;have h8:x.ok % 256 = x.ok:=Nat.mod_eq_of_lt hx.ok;have h9:x.om % 256 = x.om:=Nat.mod_eq_of_lt hx.om;obtain ⟨k,p,n,g,c,a,s,r,ok,om,h,l⟩:=x;simp only at h1 h2 h3 h4 h5 h6 h7 h8 h9 hb;unfold ud jz il;simp only;by_cases hk:k < 22
 ·rcases (by omega:k = 0∨k = 1∨k = 2∨k = 3∨k = 4∨k = 5∨k = 6∨k = 7∨k = 8∨k = 9∨k = 10∨k = 11∨k = 12∨k = 13∨k = 14∨k = 15∨k = 16∨k = 17∨k = 18∨k = 19∨k = 20∨k = 21) with rfl | rfl | rfl | rfl | rfl | rfl | rfl | rfl | rfl | rfl | rfl | rfl | rfl | rfl | rfl | rfl | rfl | rfl | rfl | rfl | rfl | rfl
  all_goals
   simp [ni,fld] at hb
   try subst hb
   simp [fld,xt,kx,ofK,zB,zCl,h1,h2,h3,h4,h5,h6,h7,h8,h9]
 ·obtain ⟨j,rfl⟩:∃j,k = j+22:=⟨k - 22,by omega⟩;have e1:fld (j+22) = []:=rfl;simp [ni,e1] at hb;subst hb;rw [e1];rfl
theorem bare_l (x:Cl) (h:ni x.k = false):(jz x).l = []:=by
 unfold jz il ni at *;have:∀(F:List Nat) (y:Cl),F.contains 98 = false→y.l = []→(F.foldl (kx x) y).l = []:=by
  intro F
  induction F with
  | nil=>intro y _ h;exact h
  | cons f F ih =>intro y hF hy;simp only [List.contains_cons,Bool.or_eq_false_iff,beq_eq_false_iff_ne] at hF;refine ih _ hF.2 ?_;rw [fW,ag (fun e=>hF.1 e.symm)];exact hy
 exact this _ _ h rfl
theorem fU (x y:Cl):dx x y = dx y x:=by
 cases h:dx x y with
 | true=>obtain rfl:=(ox _ _).1 h;exact h.symm
 | false =>
  cases h2:dx y x with
  | true=>obtain rfl:=(ox _ _).1 h2;rw [h] at h2;cases h2
  | false=>rfl
theorem iE (hx:x.Ok):mayR x = mg x:=by
 unfold mayR mg;show (isK x.k && _ && _ && _) = (isK x.k && _ && _);by_cases hb:ni x.k = true∨x.l = []
 ·rw [ofK_bare hx hb,fU];have e:(ni x.k || decide (x.l.length = 0)) = true:=by
   rcases hb with h | h
   ·rw [h];rfl
   ·rw [h];simp
  rw [e,Bool.and_true];cases isK x.k <;> cases dx x (jz x) <;> simp
 ·have hn:¬ ni x.k = true:=fun h=>hb (.inl h);have oU:ni x.k = false:=by simpa using hn
  have hl:x.l≠[]:=fun h=>hb (.inr h);have e1:decide (x.l.length = 0) = false:=ac (by intro e;exact hl (List.eq_nil_of_length_eq_zero e));have e2:dx x (jz x) = false:=by
   cases h:dx x (jz x) with
   | false=>rfl
   | true=>exact absurd (((ox _ _).1 h ▸ bare_l x oU:x.l = [])) hl
  rw [oU,e1,e2];simp
def cntK (k:Nat):Nat:=(ud (zB k [])).length
theorem jN (x y:Cl) (f:Nat):(xt x f).length = (xt y f).length:=by
 unfold xt
 repeat' split
 all_goals rfl
theorem dH (x:Cl):(ud x).length = cntK x.k:=by
 unfold cntK ud;show _ = ((fld x.k).flatMap (xt (zB x.k []))).length
 induction fld x.k with
 | nil=>rfl
 | cons f F ih=>rw [List.flatMap_cons,List.flatMap_cons,List.length_append,List.length_append,ih,jN x (zB x.k []) f]
theorem iL (hx:x.Ok):∀n∈ud x,n < 18446744073709551616:=by
 intro n hn;unfold ud at hn;obtain ⟨f,_,hf⟩:=List.mem_flatMap.1 hn;have hp:=sh x.p;have hg:=sh x.g;have hc:=sh x.c;have hn:=sh x.n;have ha:=sh x.a;have hs:=sh x.s;have hr:=hx.r;have oV:=hx.ok;have hom:=hx.om;have hh:=hx.h;unfold xt at hf
 repeat' split at hf
 all_goals simp only [List.mem_cons,ab,or_false] at hf
 all_goals first | omega|(rcases hf with rfl | rfl <;> omega)
def pgB (x:Cl):Bool:=decide ((0≤x.g∧x.g < 1024)∧(1≤x.c∧x.c≤1024)∧x.g+x.c≤1024)
def ot (x:Cl):Int:=if x.k = 9∨x.k = 13 then (x.l.length:Int) else x.s
def fewB (x:Cl):Bool:=decide (ot x < 1∨8 < ot x)
def ndB (c:Cf) (x:Cl):Bool:=decide (x.n < 0∨c 0≤x.n)
def r8B (x:Cl):Bool:=fewB x || decide (x.a < 0∨262144≤x.a∨x.a / 256≠(x.a+ot x - 1) / 256)
def r12B (x:Cl):Bool:=fewB x || decide (x.a < 0∨128 < x.a∨128 < x.a+ot x)
noncomputable def rwK (c:Cf) (x:Cl):Bool :=
 match x.k with
 | 3 | 5=>!pgB x || decide (x.r < 1∨3 < x.r)
 | 4 | 6 | 7=>!pgB x
 | 8 | 9=>r8B x
 | 10=>decide (x.s < 1∨128 < x.s)
 | 12 | 13=>r12B x
 | 14=>!ub c x.ok x.om
 | 15=>!pgB x || !ub c x.ok x.om
 | 16 | 17=>decide (x.g < 0∨1023 < x.g)
 | 18=>!pgB x || ndB c x
 | 19 | 20=>ndB c x
 | _=>false
noncomputable def eo (c:Cf) (x:Cl):Bool:=!mayB c || !mayR x || rwK c x
theorem isK_lt {k:Nat} (h:isK k = true):1≤k∧k < 22:=by
 unfold isK at h;by_cases hk:k < 22
 ·refine ⟨?_,hk⟩;rcases Nat.eq_zero_or_pos k with rfl | h2
  ·cases h
  ·exact h2
 ·rw [sc (by omega)] at h;cases h
theorem cY (h:mg x = true):isK x.k = true:=by have:=(eZ h).1;unfold isK;simpa using this
theorem eM (c:Cf) (hx:x.Ok):dr c x = eo c x:=by
 unfold dr eo;rw [iE hx];cases hc:mayB c with
 | false=>rfl
 | true =>
  cases hm:mg x with
  | false=>simp
  | true =>
   simp only [Bool.not_true,Bool.false_or];have hk:=isK_lt (cY hm);have hr:=hx.r;clear hm hx;obtain ⟨k,p,n,g,c',a,s,r,ok,om,h,l⟩:=x;simp only at hk hr;rcases (by omega:k = 1∨k = 2∨k = 3∨k = 4∨k = 5∨k = 6∨k = 7∨k = 8∨k = 9∨k = 10∨k = 11∨k = 12∨k = 13∨k = 14∨k = 15∨k = 16∨k = 17∨k = 18∨k = 19∨k = 20∨k = 21) with rfl | rfl | rfl | rfl | rfl | rfl | rfl | rfl | rfl | rfl | rfl | rfl | rfl | rfl | rfl | rfl | rfl | rfl | rfl | rfl | rfl
   all_goals
    simp only [t1K,t2K,t3K,t4K,t5K,t6K,t7K,t8K,hasB,kd,accB,fld,rwK,pgB,ot,fewB,ndB,r8B,r12B,List.contains_cons,List.contains_nil,Bool.and_true,Bool.true_and,Bool.false_and,Bool.and_false,Bool.or_false,Bool.false_or,Bool.or_true,Nat.reduceBEq,Nat.reduceEqDiff,if_true,if_false,or_self,or_false,or_true,Bool.false_eq_true,beq_self_eq_true]
    try rw [Bool.eq_iff_iff]
    try simp only [Bool.or_eq_true,Bool.not_eq_true',Bool.and_eq_false_iff,decide_eq_true_eq,decide_eq_false_iff_not]
    try omega
   ·by_cases ha:0≤a
    ·rw [Int.tmod_eq_emod_of_nonneg ha];omega
    ·generalize a.tmod 256 = z;omega
   ·by_cases ha:0≤a
    ·rw [Int.tmod_eq_emod_of_nonneg ha];omega
    ·generalize a.tmod 256 = z;omega
   ·generalize ub c ok om = z;cases z <;> simp <;> omega
