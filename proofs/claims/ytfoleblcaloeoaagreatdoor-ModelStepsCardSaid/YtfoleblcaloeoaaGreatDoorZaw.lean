import Derived.Test.YtfoleblcaloeoaaGreatDoorZat
import Derived.Test.YtfoleblcaloeoaaGreatDoorZas
set_option maxHeartbeats 40000000
set_option maxRecDepth 20000
namespace Go.Proofs.YtfoleblcaloeoaaGreatDoor
open Go Go.RowKit
variable {m:Nat}
theorem len64_w (hm:m < 256) (w:World):Calls Tryz.prog 134 #[.int .u64 (m:Nat)] w fun e w'=>e = .returned (.int .i64 (jr m:Nat))∧w = w':=by
 have m1:(0:Int)≤(m:Int):=by omega
 have m2:(m:Int) < 256:=by omega
 have h8:jr m≤8:=by unfold jr;first | omega|((repeat' split) <;> omega)
 have o1:(jr m:Int)≤8:=by omega
 have c1:decide ((4294967296:Int)≤(m:Int)) = false:=ac (by omega);have c1':decide (4294967296≤m) = false:=ac (by omega);have c2:decide ((65536:Int)≤(m:Int)) = false:=ac (by omega);have c2':decide (65536≤m) = false:=ac (by omega);have c3:decide ((256:Int)≤(m:Int)) = false:=ac (by omega);have c3':decide (256≤m) = false:=ac (by omega);generalize hx:jr m = x at h8 o1 ⊢;have HX:=bk hx;clear hx;go_enter Tryz.func134,Tryz.ntmps134;go_wp2_with (first|refine tq jr hm rfl _ rfl rfl ?_ ?_;(focus (decide +kernel));rw [HX.out]);go_ret;exact ⟨rfl,rfl⟩
theorem len_w (hm:m < 256) (w:World):Calls Tryz.prog 112 #[.int .u64 (m:Nat)] w fun e w'=>e = .returned (.int .i64 (jr m:Nat))∧w = w':=by go_enter Tryz.func112,Tryz.ntmps112;go_wp2_with fail;refine (len64_w hm w).mono ?_;rintro e w1 ⟨rfl,rfl⟩;go_wp2_with fail;go_ret;exact ⟨rfl,rfl⟩
theorem npow_w (h1:1≤m) (hm:m < 256) (w:World):Calls Tryz.prog 141 #[.int .i64 (m:Nat)] w fun e w'=>(∃q:Nat,e = .returned (.int .u64 (q:Nat))∧1≤q∧q≤2 * m)∧w = w':=by
 have HL:=len_w hm w;have hc:(jr m = 1∧1≤m)∨(jr m = 2∧2≤m)∨(jr m = 3∧4≤m)∨(jr m = 4∧8≤m)∨(jr m = 5∧16≤m)∨(jr m = 6∧32≤m)∨(jr m = 7∧64≤m)∨(jr m = 8∧128≤m):=by unfold jr;(repeat' split) <;> omega
 have m2:(m:Int) < 256:=by omega
 clear h1;rcases hc with ⟨h,g⟩ | ⟨h,g⟩ | ⟨h,g⟩ | ⟨h,g⟩ | ⟨h,g⟩ | ⟨h,g⟩ | ⟨h,g⟩ | ⟨h,g⟩
 ·rw [h] at HL;have HL:=bk HL;clear h;go_enter Tryz.func141,Tryz.ntmps141;go_wp2_with fail;refine HL.out.mono ?_;rintro e w1 ⟨rfl,rfl⟩;go_wp2_with fail;go_ret;exact ⟨⟨2,rfl,by omega,by omega⟩,rfl⟩
 ·rw [h] at HL;have HL:=bk HL;clear h;go_enter Tryz.func141,Tryz.ntmps141;go_wp2_with fail;refine HL.out.mono ?_;rintro e w1 ⟨rfl,rfl⟩;go_wp2_with fail;go_ret;exact ⟨⟨4,rfl,by omega,by omega⟩,rfl⟩
 ·rw [h] at HL;have HL:=bk HL;clear h;go_enter Tryz.func141,Tryz.ntmps141;go_wp2_with fail;refine HL.out.mono ?_;rintro e w1 ⟨rfl,rfl⟩;go_wp2_with fail;go_ret;exact ⟨⟨8,rfl,by omega,by omega⟩,rfl⟩
 ·rw [h] at HL;have HL:=bk HL;clear h;go_enter Tryz.func141,Tryz.ntmps141;go_wp2_with fail;refine HL.out.mono ?_;rintro e w1 ⟨rfl,rfl⟩;go_wp2_with fail;go_ret;exact ⟨⟨16,rfl,by omega,by omega⟩,rfl⟩
 ·rw [h] at HL;have HL:=bk HL;clear h;go_enter Tryz.func141,Tryz.ntmps141;go_wp2_with fail;refine HL.out.mono ?_;rintro e w1 ⟨rfl,rfl⟩;go_wp2_with fail;go_ret;exact ⟨⟨32,rfl,by omega,by omega⟩,rfl⟩
 ·rw [h] at HL;have HL:=bk HL;clear h;go_enter Tryz.func141,Tryz.ntmps141;go_wp2_with fail;refine HL.out.mono ?_;rintro e w1 ⟨rfl,rfl⟩;go_wp2_with fail;go_ret;exact ⟨⟨64,rfl,by omega,by omega⟩,rfl⟩
 ·rw [h] at HL;have HL:=bk HL;clear h;go_enter Tryz.func141,Tryz.ntmps141;go_wp2_with fail;refine HL.out.mono ?_;rintro e w1 ⟨rfl,rfl⟩;go_wp2_with fail;go_ret;exact ⟨⟨128,rfl,by omega,by omega⟩,rfl⟩
 ·rw [h] at HL;have HL:=bk HL;clear h;go_enter Tryz.func141,Tryz.ntmps141;go_wp2_with fail;refine HL.out.mono ?_;rintro e w1 ⟨rfl,rfl⟩;go_wp2_with fail;go_ret;exact ⟨⟨256,rfl,by omega,by omega⟩,rfl⟩
theorem xorN {a:Nat} {c:Int} (ha:a < 18446744073709551616) (h0:0≤c) (hc:c < 18446744073709551616):∃z:Nat,z < 18446744073709551616∧bits BinOp.xor .u64 (a:Int) c = (z:Int):=by
 obtain ⟨d,rfl⟩:∃d:Nat,c = d:=⟨c.toNat,by omega⟩;have hd:d < 18446744073709551616:=by omega
 exact ⟨a ^^^ d,Nat.xor_lt_two_pow (n:=64) ha hd,u64_xor_nat a d ha hd⟩
variable {w:World} {b:Nat}
theorem next_w {r:Nat} (hb:Blk w b 191 #[.int .u64 (r:Nat)]) (hr:r < 18446744073709551616) :
  Calls Tryz.prog 142 #[.pointer (some ⟨b,0,none⟩)] w fun e w'=>(∃z:Nat,e = .returned (.int .u64 (z:Nat))∧z < 18446744073709551616∧Blk w' b 191 #[.int .u64 (z:Nat)])∧Chg [b] w w':=by
 have q1:=hb.cell 0;simp at q1;have f1:=hb.frozen 0;obtain ⟨r1,h1,e1⟩:=xorN (a:=r) (c:=IntKind.u64.wrap ((r:Int) * 8192)) hr (by rw [IntKind.wrap_u64];omega) (by rw [IntKind.wrap_u64];omega);obtain ⟨r2,h2,e2⟩:=xorN (a:=r1) (c:=(r1:Int) / 128) h1 (by omega) (by omega);obtain ⟨r3,h3,e3⟩:=xorN (a:=r2) (c:=IntKind.u64.wrap ((r2:Int) * 131072)) h2 (by rw [IntKind.wrap_u64];omega) (by rw [IntKind.wrap_u64];omega);have HB:=bk hb;have HR:=bk h3;clear hb hr h1 h2 h3;go_enter Tryz.func142,Tryz.ntmps142;go_upto_region 1 with (fail)
 go_cut [] from 3 to 11 (fun W=>Hid (Blk W b 191 #[.int .u64 (r1:Nat)])∧Hid (Chg [b] w W))
 case first =>
  refine iu [0,0,1,0,0,1,0,0,0,3] ?_;go_wp2_with (first|refine cdA fun K U=>?_|refine bn fun K U=>?_;go_simp|refine bq ?_);go_meet
  case rel=>exact ⟨bk (by have:=HB.out.set_ 0 (.int .u64 ((r1:Nat):Int));simp at this;exact this),bk (((av [b] w).setCell (p:=⟨b,0,none⟩) (.inl (by simp)) _).drew)⟩
 case rest =>
  clear q1 f1;obtain ⟨hB,hC⟩:=hcut;have q1:=hB.out.cell 0;simp at q1;have f1:=hB.out.frozen 0;go_upto_region 2 with (fail)
  go_cut [] from 12 to 20 (fun W=>Hid (Blk W b 191 #[.int .u64 (r2:Nat)])∧Hid (Chg [b] w W))
  case first =>
   refine iu [0,0,1,0,0,1,0,0,0,3] ?_;go_wp2_with (first|refine cdA fun K U=>?_|refine bn fun K U=>?_;go_simp|refine bq ?_);go_meet
   case rel=>exact ⟨bk (by have:=hB.out.set_ 0 (.int .u64 ((r2:Nat):Int));simp at this;exact this),bk ((hC.out.setCell (p:=⟨b,0,none⟩) (.inl (by simp)) _).drew)⟩
  case rest =>
   clear q1 f1 hB hC;obtain ⟨hB,hC⟩:=hcut;have q1:=hB.out.cell 0;simp at q1;have f1:=hB.out.frozen 0;go_upto_region 3 with (fail)
   go_cut [] from 21 to 29 (fun W=>Hid (Blk W b 191 #[.int .u64 (r3:Nat)])∧Hid (Chg [b] w W))
   case first =>
    refine iu [0,0,1,0,0,1,0,0,0,3] ?_;go_wp2_with (first|refine cdA fun K U=>?_|refine bn fun K U=>?_;go_simp|refine bq ?_);go_meet
    case rel=>exact ⟨bk (by have:=hB.out.set_ 0 (.int .u64 ((r3:Nat):Int));simp at this;exact this),bk ((hC.out.setCell (p:=⟨b,0,none⟩) (.inl (by simp)) _).drew)⟩
   case rest =>
    clear q1 f1 hB hC;obtain ⟨hB,hC⟩:=hcut;have q1:=hB.out.cell 0;simp at q1;go_wp2_with fail;go_ret;exact ⟨⟨r3,rfl,HR.out,hB.out⟩,hC.out⟩
variable {S:Nat→Prop} {off:Nat}
theorem brk_w {g c n a l:Nat} (h:US w g off c n S) (hb:a+l≤n) (hn:n≤200) :
  Calls Tryz.prog 126 #[.slice (some ⟨g,off,none⟩) n c,.int .i64 (a:Nat),.int .i64 ((a+l:Nat):Int)] w fun e w'=>e = .returned (.tuple #[])∧US w' g off c n S∧Chg [g] w w':=by
 have hU:=bk h;clear h;have oU:(n:Int)≤200:=by omega
 have nH:(a:Int)+(l:Int)≤(n:Int):=by omega
 have e0:(a:Int)+(l:Int) - (a:Int) = (l:Int):=by omega
 have HB:=bk (ai hb hn);clear hb hn;by_cases h8:8≤l
 ·have d8:decide ((8:Int)≤(l:Int)) = true:=ae (by omega);have d8':decide (8≤l) = true:=ae h8;have HP:=bk (fun W=>npow_w (m:=l) (by omega) (by have:=HB.out;omega) W);obtain ⟨b0,Fv⟩:∃y:Nat,(a:Int)+(l:Int) / 4 * 2 = (y:Int):=⟨a+l / 4 * 2,by omega⟩;obtain ⟨i0,sT⟩:∃y:Nat,(b0:Int) - 1 = (y:Int):=⟨b0 - 1,by omega⟩;have H8:=bk (show 8≤l∧a < i0∧b0+1 < a+l∧i0+1 = b0 by omega);have b1:(b0:Int)≤1000:=by have:=HB.out;omega
  have l1:(l:Int)≤200:=by omega
  clear h8;go_enter Tryz.func126,Tryz.ntmps126;go_upto_region 3 with (fail)
  obtain ⟨q,hq⟩:∃q,q = w.heap.size:=⟨_,rfl⟩;have hB:Blk ((w.alloc (.cells #[.int .u64 (l:Nat)] 191))) q 191 #[.int .u64 (l:Nat)]:=by rw [hq];exact ax w _ _
  have zC:Chg [] w (w.alloc (.cells #[.int .u64 (l:Nat)] 191)):=(av [] w).alloc _;have AC:=hU.out.stay zC;have HQ:=bk (show w.heap.size≤q∧q≠g from ⟨by omega,by have:=hU.out.lt;omega⟩);rw [← hq];generalize w.alloc (.cells #[.int .u64 (l:Nat)] 191) = W1 at hB zC AC ⊢;have yB:=bk AC;have tV:=bk hB;have lU:=bk zC;clear hq hB zC AC hU;go_wp2_with fail;refine (HP.out _).mono ?_;rintro e W2 ⟨⟨m,rfl,BF,vO⟩,rfl⟩;have HM:=bk (ai BF vO);have m1:(0:Int)≤(m:Int) - 1:=by omega
  have m2:(m:Int)≤400:=by omega
  clear BF vO;go_wp2_with fail;go_loopw [9] (fun t W=>∃(i r:Nat),t = .int .i64 (i:Nat)∧Hid (i0≤i∧i≤b0+2∧r < 18446744073709551616)∧Hid (US W g off c n S)∧Hid (Blk W q 191 #[.int .u64 (r:Nat)])∧Hid (Chg [g] w W)) (fun t _=>b0+3 - (intOf t).toNat)
  case atStart=>exact ⟨i0,l,rfl,bk (by have:=H8.out;omega),yB,tV,bk (lU.out.up [g])⟩
  case round =>
   obtain ⟨i,r,rfl,hi,hU,Ce,hC⟩:=hrel;by_cases kG:i≤b0+1
   ·have d1:decide ((i:Int)≤(b0:Int)+1) = true:=ae (by omega);have HI:=bk (show i0≤i∧i≤b0+1 by have:=hi.out;omega);have i1:(i:Int)≤1001:=(by omega);clear kG;go_upto_region 7 with (fail)
    go_wp2_with fail;refine (next_w Ce.out hi.out.2.2).mono ?_;rintro e W3 ⟨⟨z,rfl,hz,Cn⟩,wM⟩;obtain ⟨o,FE,FF⟩:∃o:Nat,o < m∧bits BinOp.and .u64 (z:Int) ((m:Int) - 1) = (o:Int):=by
     have hm:=HM.out;refine ⟨z &&& (m - 1),Nat.lt_of_le_of_lt Nat.and_le_right (by omega),?_⟩;rw [show (m:Int) - 1 = ((m - 1:Nat):Int) by omega];exact u64_and_nat z (m - 1) hz (by have:=H8.out;have:=HB.out;omega)
    have hU3:=bk (hU.out.chg wM (by simp;exact fun e=>HQ.out.2 e.symm));have hC3:=bk (hC.out.trans wM (fun y hy=>.inr (by obtain rfl:=aa hy;exact HQ.out.1)));have HZ:=bk (ai hz Cn);have HO:=bk (show o < 2 * l by have:=HM.out;omega);have o1:(o:Int) < 500:=(by omega);clear hz Cn wM hU hC Ce FE;go_upto_if 43 with (fail)
    go_cut [10] from 26 to 64 (fun y W=>∃o2:Nat,y = .int .i64 (o2:Nat)∧Hid (o2 < l)∧W = W3)
    case first =>
     by_cases hol:l≤o
     ·have d2:decide ((l:Int)≤(o:Int)) = true:=ae (by omega);have d3:decide (l≤o) = true:=ae hol;have HL:=bk hol;have HS:=bk (show Value.int .i64 ((o:Int) - (l:Int)) = .int .i64 ((o - l:Nat):Int) by congr 1;omega);clear hol;go_wp2_with fail;go_meet
      case rel=>exact ⟨o - l,HS.out,bk (by have:=HO.out;have:=H8.out;omega),rfl⟩
     ·have d2:decide ((l:Int)≤(o:Int)) = false:=ac (by omega);have d3:decide (l≤o) = false:=ac hol;have HL:=bk hol;clear hol;go_wp2_with fail;go_meet
      case rel=>exact ⟨o,rfl,bk (by have:=HL.out;omega),rfl⟩
    case rest =>
     obtain ⟨o2,rfl,hO2,rfl⟩:=hcut;clear o1 FF;obtain ⟨p,hp⟩:∃p:Nat,(a:Int)+(o2:Int) = (p:Int):=⟨a+o2,by omega⟩;have HPp:=bk (show p < n by have:=hO2.out;have:=HB.out;omega);have hU:=hU3;have hC:=hC3;clear hU3 hC3;go_upto_region 10 with (fail)
     have HX:=bk (show i < n∧p < n by have:=HI.out;have:=H8.out;have:=HB.out;have:=HPp.out;omega);obtain ⟨x,hx,q1⟩:=hU.out.cell (k:=i) HX.out.1;have f1:=hU.out.frozen (off+i);have k1:(i:Int) < (n:Int):=(by have:=HX.out;omega);have k2:(p:Int) < (n:Int):=(by have:=HX.out;omega);by_cases e:i = p
     ·subst e;refine rgn20 [0,0,0,0,0,0,0,0,0,0,0,1,0,0,0,1,0,3,0,3] ?_;go_wp2_with (first|refine cdA fun K U=>?_|refine bn fun K U=>?_;go_simp|refine bq ?_);go_roundw
      case rel=>exact ⟨i+1,z,by go_num,bk (by have:=HI.out;have:=HZ.out.1;omega),bk ((show US wc.drew g off c n S from hU.out).swap HX.out.1 HX.out.2 hx hx),bk (HZ.out.2.chg (Chg.drew (eh _ _ _ _ _ _)) (by simp;exact HQ.out.2)),bk ((hC.out.trans (eh _ _ _ _ _ _) (fun y hy=>.inl hy)).drew)⟩
      case measure=>have:=HI.out;simp [intOf];omega
     ·have e':¬ p = i:=fun h=>e h.symm;obtain ⟨y,hy,q0⟩:=hU.out.cell (k:=p) HX.out.2;have f0:=hU.out.frozen (off+p);refine rgn20 [0,0,0,0,0,0,0,0,0,0,0,1,0,0,0,1,0,3,0,3] ?_;go_wp2_with (first|refine cdA fun K U=>?_|refine bn fun K U=>?_;go_simp|refine bq ?_);go_roundw
      case rel=>exact ⟨i+1,z,by go_num,bk (by have:=HI.out;have:=HZ.out.1;omega),bk ((show US wc.drew g off c n S from hU.out).swap HX.out.1 HX.out.2 hy hx),bk (HZ.out.2.chg (Chg.drew (eh _ _ _ _ _ _)) (by simp;exact HQ.out.2)),bk ((hC.out.trans (eh _ _ _ _ _ _) (fun y hy=>.inl hy)).drew)⟩
      case measure=>have:=HI.out;simp [intOf];omega
   ·have d1:decide ((i:Int)≤(b0:Int)+1) = false:=ac (by omega);clear kG;go_wp2_with fail;go_end0;exact ⟨rfl,hU.out,hC.out⟩
 ·have d8:decide ((8:Int)≤(l:Int)) = false:=ac (by omega);have d8':decide (8≤l) = false:=ac h8;go_enter Tryz.func126,Tryz.ntmps126;go_wp2_with fail;go_end0;exact ⟨rfl,hU.out,av _ _⟩
theorem part_w {g c n a:Nat} (h:US w g off c n S) (hb:b≤n) (xG:a < b) (hn:n≤1000) :
  Calls Tryz.prog 129 #[.slice (some ⟨g,off,none⟩) n c,.int .i64 (a:Nat),.int .i64 (b:Nat)] w fun e w'=>(∃z,e = .returned (.bool z))∧US w' g off c n S∧Chg [g] w w':=by
 have HU:=bk h;clear h;have oU:(n:Int)≤1000:=by omega
 have nH:(b:Int)≤(n:Int):=by omega
 have Ci:(a:Int) < (b:Int):=by omega
 have HB:=bk (ai hb (ai xG hn));clear hb xG hn;go_enter Tryz.func129,Tryz.ntmps129;go_wp2_with fail;go_loopw [7,8] (fun t u wr=>∃i j:Nat,a+1≤i∧i≤b∧j≤5∧t = .int .i64 (i:Nat)∧u = .int .i64 (j:Nat)∧Hid (US wr g off c n S)∧Hid (Chg [g] w wr)) (fun _ u _=>5 - (intOf u).toNat)
 case atStart=>exact ⟨a+1,0,by omega,by have:=HB.out;omega,by omega,by go_num,rfl,HU,bk (av _ _)⟩
 case round =>
  obtain ⟨i0,j,sT,tC,hj,rfl,rfl,hU,hC⟩:=hrel;by_cases hj5:j < 5
  ·have j5:decide ((j:Int) < 5) = true:=ae (by omega);have j6:decide (j < 5) = true:=ae (by omega);have HJ:=bk hj5;have j8:(j:Int)≤4:=(by omega);clear hj5 hj;go_upto_block 2 with (fail)
   go_cut [7] from 13 to 132 (fun z W=>∃i:Nat,z = .int .i64 (i:Nat)∧Hid (a+1≤i∧i≤b)∧Hid (US W g off c n S)∧Hid (Chg [g] w W))
   case first =>
    go_wp2_with fail;go_loopw [7] (fun t wr'=>∃i:Nat,a+1≤i∧i≤b∧t = .int .i64 (i:Nat)∧Hid (US wr' g off c n S)∧Hid (Chg [g] w wr')) (fun t _=>n+1 - (intOf t).toNat)
    case atStart=>exact ⟨i0,sT,tC,rfl,hU,hC⟩
    case round =>
     clear hU hC;obtain ⟨i,tP,hi3,rfl,hU,hC⟩:=hrel;by_cases kG:i < b
     ·obtain ⟨k,rfl⟩:∃k,i = k+1:=⟨i - 1,by omega⟩;obtain ⟨x,-,q1⟩:=hU.out.cell (k:=k+1) (by have:=HB.out;omega);obtain ⟨y,-,q0⟩:=hU.out.cell (k:=k) (by have:=HB.out;omega);have kk0:decide ((k:Int)+1 < (b:Int)) = true:=ae (by omega);have kk1:(0:Int)≤(k:Int)+1:=(by omega);have kk2:(k:Int)+1 < (n:Int):=(by have:=HB.out;omega);have kk3:(k:Int) < (n:Int):=(by omega);have HI:=bk (ai kG tP);clear kG tP hi3 sT tC;go_upto_region 5 with (fail)
      refine rgt [0,0,0,0,0,0,0,1,0,0,0,0,1,3,0,0] [none,none,none,none,some (20,true),some (20,true),some (20,true),some (20,true),some (20,true),some (20,true),some (20,true),some (20,true),some (20,true),some (20,true),some (20,true),none] (fun _=>True) ?_;go_wp2_with (first|refine cdA fun K U=>?_|refine cx ?_;go_simp|refine cy ?_|refine bn fun K U=>?_;go_simp|refine bq ?_);refine (gr x y _).mono ?_;rintro e W7 ⟨⟨z,rfl⟩,rfl⟩;refine U _ _ ?_;clear U K;cases z with
      | true =>
       go_wp2_with (first|refine cdA fun K U=>?_|refine cx ?_;go_simp|refine cy ?_|refine bn fun K U=>?_;go_simp|refine bq ?_);go_meet
       case rel=>exact ⟨k+1,by go_num,bk (by have:=HI.out;omega),bk (show US wr.drew g off c n S from hU.out),bk hC.out.drew⟩
      | false =>
       go_wp2_with (first|refine cdA fun K U=>?_|refine cx ?_;go_simp|refine cy ?_|refine bn fun K U=>?_;go_simp|refine bq ?_);go_roundw
       case rel=>exact ⟨k+1+1,by have:=HI.out;omega,by have:=HI.out;omega,by go_num,bk (show US wr.drew g off c n S from hU.out),bk hC.out.drew⟩
       case measure=>have:=HI.out;have:=HB.out;simp [intOf];omega
     ·have kk0:decide ((i:Int) < (b:Int)) = false:=ac (by omega);have kk9:decide (i < b) = false:=ac (by omega);have HI:=bk (show a+1≤i∧i≤b by omega);clear kG tP hi3 sT tC;go_upto_region 5 with (fail)
      refine rgt [0,0,0,0,0,0,0,1,0,0,0,0,1,3,0,0] [none,none,none,none,some (20,true),some (20,true),some (20,true),some (20,true),some (20,true),some (20,true),some (20,true),some (20,true),some (20,true),some (20,true),some (20,true),none] (fun _=>True) ?_;go_wp2_with (first|refine cdA fun K U=>?_|refine cx ?_;go_simp|refine cy ?_|refine bn fun K U=>?_;go_simp|refine bq ?_);go_meet
      case rel=>exact ⟨i,rfl,HI,bk (show US wr.drew g off c n S from hU.out),bk hC.out.drew⟩
   case rest =>
    clear hU hC sT tC;obtain ⟨i,rfl,hi,hU,hC⟩:=hcut;by_cases hib:i = b
    ·subst hib;go_wp2_with fail;go_ret;exact ⟨⟨_,rfl⟩,hU.out,hC.out⟩
    ·have e1:((i:Int) == (b:Int)) = false:=aj (by omega);have e1':(i == b) = false:=aj (by omega);by_cases h50:(b:Int) - (a:Int) < 50
     ·have e2:decide ((b:Int) - (a:Int) < 50) = true:=ae h50;go_wp2_with fail;go_ret;exact ⟨⟨_,rfl⟩,hU.out,hC.out⟩
     ·have e2:decide ((b:Int) - (a:Int) < 50) = false:=ac h50;clear h50;obtain ⟨i,rfl⟩:∃m,i = m+1:=⟨i - 1,by have:=hi.out;omega⟩;have HI:=bk (show i+1 < b∧a≤i by have:=hi.out;omega);clear hi hib;obtain ⟨x,hx,q1⟩:=hU.out.cell (k:=i+1) (by have:=HB.out;have:=HI.out;omega);obtain ⟨y,hy,q0⟩:=hU.out.cell (k:=i) (by have:=HB.out;have:=HI.out;omega);have f1:=hU.out.frozen (off+(i+1));have f0:=hU.out.frozen (off+i);have kk1:(0:Int)≤(i:Int)+1:=(by omega);have kk2:(i:Int)+1 < (n:Int):=(by have:=HB.out;have:=HI.out;omega);have kk3:(i:Int) < (n:Int):=(by omega);go_upto_region 11 with (fail)
      go_cut [] from 13 to 132 (fun W=>Hid (US W g off c n S)∧Hid (Chg [g] w W))
      case first =>
       refine rgn18 [0,0,0,0,0,0,0,0,0,1,0,0,0,1,0,3,0,3] ?_;go_wp2_with (first|refine cdA fun K U=>?_|refine bn fun K U=>?_;go_simp|refine bq ?_);go_meet
       case rel=>exact ⟨bk ((show US wc.drew g off c n S from hU.out).swap (i:=i+1) (j:=i) (by have:=HB.out;have:=HI.out;omega) (by have:=HB.out;have:=HI.out;omega) hy hx),bk ((hC.out.trans (eh _ _ _ _ _ _) (fun y hy=>.inl hy)).drew)⟩
      case rest =>
       clear hU hC hx hy q1 q0 f1 f0;obtain ⟨oA,rH⟩:=hcut;go_upto_if 61 with (fail)
       go_cut [9] from 13 to 132 (fun z W=>Hid (US W g off c n S)∧Hid (Chg [g] w W))
       case first =>
        generalize decide ((2:Int)≤(i:Int)+1 - (a:Int)) = z2;cases z2 with
        | true =>
         go_wp2_with fail;go_loopw [9] (fun t wr'=>∃k:Nat,0≤k∧k≤i∧t = .int .i64 (k:Nat)∧Hid (US wr' g off c n S)∧Hid (Chg [g] w wr')) (fun t _=>(intOf t).toNat)
         case atStart=>exact ⟨i,by omega,by omega,rfl,oA,rH⟩
         case round =>
          clear oA rH;obtain ⟨k,oK,hk,rfl,oA,rH⟩:=hrel;by_cases hlt2:1≤k
          ·obtain ⟨m,rfl⟩:∃m,k = m+1:=⟨k - 1,by omega⟩;obtain ⟨x,hx,q1⟩:=oA.out.cell (k:=m+1) (by have:=HB.out;omega);obtain ⟨y,hy,q0⟩:=oA.out.cell (k:=m) (by have:=HB.out;omega);have f1:=oA.out.frozen (off+(m+1));have f0:=oA.out.frozen (off+m);have kk0:decide ((1:Int)≤(m:Int)+1) = true:=ae (by omega);have kk1:(0:Int)≤(m:Int)+1:=(by omega);have kk2:(m:Int)+1 < (n:Int):=(by have:=HB.out;omega);have kk3:(m:Int) < (n:Int):=(by omega);have HS:=bk (ai hx (ai hy (show m+1 < n∧m+1≤i by have:=HB.out;omega)));have HM:=bk hlt2;clear hx hy hlt2 oK hk;go_upto_region 16 with (fail)
           refine km [0,0,0,1,0,0,0,0,1,3,0] ?_;go_wp2_with (first|refine cdA fun K U=>?_|refine bn fun K U=>?_;go_simp|refine bq ?_);refine (gr x y _).mono ?_;rintro e W7 ⟨⟨z,rfl⟩,rfl⟩;refine U _ _ ?_;clear U K;cases z with
           | true =>
            go_wp2_with (first|refine cdA fun K U=>?_|refine bn fun K U=>?_;go_simp|refine bq ?_);refine rgn18 [0,0,0,0,0,0,0,0,0,1,0,0,0,1,0,3,0,3] ?_;go_wp2_with (first|refine cdA fun K U=>?_|refine bn fun K U=>?_;go_simp|refine bq ?_);go_roundw
            case rel =>
             (repeat apply Exists.intro);exact ⟨⟨m,by have:=HS.out;omega,by have:=HS.out;omega,by go_num,bk ((show US wr.drew g off c n S from oA.out).swap HS.out.2.2.1 (by have:=HS.out;omega) HS.out.2.1 HS.out.1),bk ((rH.out.trans (eh _ _ _ _ _ _) (fun y hy=>.inl hy)).drew.drew)⟩,rfl⟩
            case measure=>have:=HM.out;simp [intOf]
           | false =>
            go_wp2_with (first|refine cdA fun K U=>?_|refine bn fun K U=>?_;go_simp|refine bq ?_);go_meet
            case rel=>exact ⟨bk (show US wr.drew g off c n S from oA.out),bk rH.out.drew⟩
          ·have kk0:decide ((1:Int)≤(k:Int)) = false:=ac (by omega);clear oK hk hlt2;go_wp2_with fail;go_meet
           case rel=>exact ⟨oA,rH⟩
        | false =>
         go_wp2_with fail;go_meet
         case rel=>exact ⟨oA,rH⟩
       case rest =>
        clear oA rH;obtain ⟨oA,rH⟩:=hcut;go_upto_if 98 with (fail)
        generalize decide ((2:Int)≤(b:Int) - ((i:Int)+1)) = z2;cases z2 with
        | true =>
         go_wp2_with fail;go_loopw [10] (fun t wr'=>∃k:Nat,1≤k∧k≤n∧t = .int .i64 (k:Nat)∧Hid (US wr' g off c n S)∧Hid (Chg [g] w wr')) (fun t _=>n+1 - (intOf t).toNat)
         case atStart=>exact ⟨i+1+1,by omega,by have:=HI.out;have:=HB.out;omega,by go_num,oA,rH⟩
         case round =>
          clear oA rH;obtain ⟨k,oK,hk,rfl,oA,rH⟩:=hrel;by_cases hlt2:k < b
          ·obtain ⟨m,rfl⟩:∃m,k = m+1:=⟨k - 1,by omega⟩;obtain ⟨x,hx,q1⟩:=oA.out.cell (k:=m+1) (by have:=HB.out;omega);obtain ⟨y,hy,q0⟩:=oA.out.cell (k:=m) (by have:=HB.out;omega);have f1:=oA.out.frozen (off+(m+1));have f0:=oA.out.frozen (off+m);have kk0:decide ((m:Int)+1 < (b:Int)) = true:=ae (by omega);have kk1:(0:Int)≤(m:Int)+1:=(by omega);have kk2:(m:Int)+1 < (n:Int):=(by have:=HB.out;omega);have kk3:(m:Int) < (n:Int):=(by omega);have HS:=bk (ai hx (ai hy (show m+1 < n∧m+1≤n by have:=HB.out;omega)));have HM:=bk hlt2;clear hx hy hlt2 oK hk;go_upto_region 22 with (fail)
           refine km [0,0,0,1,0,0,0,0,1,3,0] ?_;go_wp2_with (first|refine cdA fun K U=>?_|refine bn fun K U=>?_;go_simp|refine bq ?_);refine (gr x y _).mono ?_;rintro e W7 ⟨⟨z,rfl⟩,rfl⟩;refine U _ _ ?_;clear U K;cases z with
           | true =>
            go_wp2_with (first|refine cdA fun K U=>?_|refine bn fun K U=>?_;go_simp|refine bq ?_);refine rgn18 [0,0,0,0,0,0,0,0,0,1,0,0,0,1,0,3,0,3] ?_;go_wp2_with (first|refine cdA fun K U=>?_|refine bn fun K U=>?_;go_simp|refine bq ?_);go_roundw
            case rel =>
             (repeat apply Exists.intro);exact ⟨⟨m+1+1,by have:=HS.out;omega,by have:=HS.out;omega,by go_num,bk ((show US wr.drew g off c n S from oA.out).swap HS.out.2.2.1 (by have:=HS.out;omega) HS.out.2.1 HS.out.1),bk ((rH.out.trans (eh _ _ _ _ _ _) (fun y hy=>.inl hy)).drew.drew)⟩,rfl⟩
            case measure=>have:=HM.out;simp [intOf];omega
           | false =>
            go_wp2_with (first|refine cdA fun K U=>?_|refine bn fun K U=>?_;go_simp|refine bq ?_);go_roundw
            case rel=>exact ⟨i+1,j+1,by have:=HI.out;omega,by have:=HI.out;omega,by have:=HJ.out;omega,by go_num,by go_num,bk (show US wr.drew g off c n S from oA.out),bk rH.out.drew⟩
            case measure=>have:=HJ.out;simp [intOf];omega
          ·have kk0:decide ((k:Int) < (b:Int)) = false:=ac (by omega);have kk9:decide (k < b) = false:=ac (by omega);clear oK hk hlt2;go_wp2_with fail;go_roundw
           case rel=>exact ⟨i+1,j+1,by have:=HI.out;omega,by have:=HI.out;omega,by have:=HJ.out;omega,by go_num,by go_num,oA,rH⟩
           case measure=>have:=HJ.out;simp [intOf];omega
        | false =>
         go_wp2_with fail;go_roundw
         case rel=>exact ⟨i+1,j+1,by have:=HI.out;omega,by have:=HI.out;omega,by have:=HJ.out;omega,by go_num,by go_num,oA,rH⟩
         case measure=>have:=HJ.out;simp [intOf];omega
  ·have j5:decide ((j:Int) < 5) = false:=ac (by omega);have j6:decide (j < 5) = false:=ac (by omega);go_wp2_with fail;go_ret;exact ⟨⟨_,rfl⟩,hU.out,hC.out⟩
section
variable {g off c n a b:Nat} {S:Nat→Prop} {w:World}
theorem piv_b (h:US w g off c n S) (hb:b≤n) (xG:a < b) (hn:n≤1000) :
  Calls Tryz.prog 127 #[.slice (some ⟨g,off,none⟩) n c,.int .i64 (a:Nat),.int .i64 (b:Nat)] w fun e w'=>(∃p z:Nat,e = .returned (.tuple #[.int .i64 (p:Nat),.int .i64 (z:Nat)])∧a≤p∧p < b)∧Chg [] w w':=by
 obtain ⟨l,rfl⟩:∃l,b = a+l:=⟨b - a,by omega⟩;exact piv_w h hb (by omega) hn
theorem heap_b (h:US w g off c n S) (hb:b≤n) (xG:a < b) (hn:n≤1000) :
  Calls Tryz.prog 125 #[.slice (some ⟨g,off,none⟩) n c,.int .i64 (a:Nat),.int .i64 (b:Nat)] w fun e w'=>e = .returned (.tuple #[])∧US w' g off c n S∧Chg [g] w w':=by
 obtain ⟨l,rfl⟩:∃l,b = a+l:=⟨b - a,by omega⟩;exact heap_w h hb (by omega) hn
theorem brk_b (h:US w g off c n S) (hb:b≤n) (xG:a≤b) (hn:n≤200) :
  Calls Tryz.prog 126 #[.slice (some ⟨g,off,none⟩) n c,.int .i64 (a:Nat),.int .i64 (b:Nat)] w fun e w'=>e = .returned (.tuple #[])∧US w' g off c n S∧Chg [g] w w':=by
 obtain ⟨l,rfl⟩:∃l,b = a+l:=⟨b - a,by omega⟩;exact brk_w h hb hn
end
theorem pdq_w {g c n:Nat} (hn:n≤200):∀(N a b m:Nat) (w:World),b - a < N→US w g off c n S→b≤n→a≤b→m≤64 →
  Calls Tryz.prog 111 #[.slice (some ⟨g,off,none⟩) n c,.int .i64 (a:Nat),.int .i64 (b:Nat),.int .i64 (m:Nat)] w fun e w'=>e = .returned (.tuple #[])∧US w' g off c n S∧Chg [g] w w':=by
 intro N
 induction N with
 | zero=>intro _ _ _ _ h;omega
 | succ N ih =>
  intro a b m w hN h hb xG hm;have hU:=bk h;have hC:=bk (av [g] w);have IH:=bk ih;have HB:=bk (ai hN (ai hb (ai xG (ai hm hn))));have oU:(n:Int)≤200:=by omega
  clear h hN hb xG hm ih hn;go_enter Tryz.func111,Tryz.ntmps111;go_wp2_with fail;go_loopw [1,2,3,8,9] (fun s t u v z W=>∃(a' b' m':Nat) (wb wp:Bool),s = .int .i64 (a':Nat)∧t = .int .i64 (b':Nat)∧u = .int .i64 (m':Nat)∧v = .bool wb∧z = .bool wp∧Hid (a≤a'∧a'≤b'∧b'≤b∧m'≤64)∧Hid (US W g off c n S)∧Hid (Chg [g] w W)) (fun s t _ _ _ _=>(intOf t - intOf s).toNat)
  case atStart=>exact ⟨a,b,m,true,true,rfl,rfl,rfl,rfl,rfl,bk (by have:=HB.out;omega),hU,hC⟩
  case round =>
   clear hU hC;obtain ⟨a',b',m',wb,wp,rfl,rfl,rfl,rfl,rfl,hi,hU,hC⟩:=hrel;have b1:(b':Int)≤200:=(by have:=HB.out;have:=hi.out;omega);have b2:(a':Int)≤(b':Int):=(by have:=hi.out;omega);have b3:(m':Int)≤64:=(by have:=hi.out;omega);by_cases uD:(b':Int) - (a':Int)≤12
   ·have d1:decide ((b':Int) - (a':Int)≤12) = true:=ae uD;go_wp2_with fail;refine (ins_w hU.out (by have:=HB.out;have:=hi.out;omega) hi.out.2.1 (by have:=HB.out;omega)).mono ?_;rintro e W1 ⟨rfl,vE,kO⟩;have HR:=bk (ai vE (hC.out.and_ kO));clear vE kO;go_wp2_with fail;(try simp only [Exit.inBlock,Exit.then]);refine bodyPost_ret (results_none rfl _ _ _) rfl ?_;exact ⟨rfl,HR.out⟩
   ·have d1:decide ((b':Int) - (a':Int)≤12) = false:=ac uD;have HL:=bk (show a'+12 < b' by omega);by_cases pD:m' = 0
    ·subst pD;go_wp2_with fail;refine (heap_b hU.out (by have:=HB.out;have:=hi.out;omega) (by have:=HL.out;omega) (by have:=HB.out;omega)).mono ?_;rintro e W1 ⟨rfl,vE,kO⟩;have HR:=bk (ai vE (hC.out.and_ kO));clear vE kO;go_wp2_with fail;(try simp only [Exit.inBlock,Exit.then]);refine bodyPost_ret (results_none rfl _ _ _) rfl ?_;exact ⟨rfl,HR.out⟩
    ·have d2:((m':Int) == 0) = false:=aj (by omega);have d2':(m' == 0) = false:=aj pD;have HM:=bk (show Value.int .i64 ((m':Int) - 1) = .int .i64 ((m' - 1:Nat):Int) by congr 1;omega);clear uD pD;go_upto_if 35 with fail;go_cut [3] from 19 to 133 (fun z W=>∃m2:Nat,z = .int .i64 (m2:Nat)∧Hid (m2≤64)∧Hid (US W g off c n S)∧Hid (Chg [g] w W))
     case first =>
      cases wb with
      | false =>
       go_wp2_with fail;refine (brk_b hU.out (by have:=HB.out;have:=hi.out;omega) hi.out.2.1 (by have:=HB.out;omega)).mono ?_;rintro e W1 ⟨rfl,vE,kO⟩;have HR:=bk (ai vE (hC.out.and_ kO));clear vE kO;go_wp2_with fail;go_meet
       case rel=>exact ⟨m' - 1,HM.out,bk (by have:=hi.out;omega),bk HR.out.1,bk HR.out.2⟩
      | true =>
       go_wp2_with fail;go_meet
       case rel=>exact ⟨m',rfl,bk (by have:=hi.out;omega),hU,hC⟩
     case rest =>
      clear hU hC d2 d2' HM b3;obtain ⟨m2,rfl,vO,hU,hC⟩:=hcut;go_wp2_with fail;refine (piv_b hU.out (by have:=HB.out;have:=hi.out;omega) (by have:=HL.out;omega) (by have:=HB.out;omega)).mono ?_;rintro e W1 ⟨⟨p,z,rfl,zH,qG⟩,kO⟩;have hP:=bk (ai zH qG);have AC:=bk (hU.out.stay kO);have zC:=bk (hC.out.stay kO);have p1:(p:Int)≤200:=(by omega);have p2:(a':Int)≤(p:Int):=(by omega);clear hU hC zH qG kO;go_upto_if 50 with fail;go_cut [11,12] from 19 to 133 (fun s t W=>∃p z:Nat,s = .int .i64 (p:Nat)∧t = .int .i64 (z:Nat)∧Hid (a'≤p∧p < b')∧Hid (US W g off c n S)∧Hid (Chg [g] w W))
      case first =>
       by_cases hz:z = 2
       ·subst hz;go_wp2_with fail;refine (rev_w AC.out (by have:=HB.out;have:=hi.out;omega) hi.out.2.1 (by have:=HB.out;omega)).mono ?_;rintro e W2 ⟨rfl,xP,kI⟩;have HR:=bk (ai xP (zC.out.and_ kI));have pF:=bk (show Value.int .i64 ((b':Int) - 1 - ((p:Int) - (a':Int))) = .int .i64 ((b' - 1 - (p - a'):Nat):Int) by have:=hP.out;congr 1;omega);clear xP kI;go_wp2_with fail;go_meet
        case rel=>exact ⟨b' - 1 - (p - a'),1,pF.out,rfl,bk (by have:=hP.out;omega),bk HR.out.1,bk HR.out.2⟩
       ·have dz:((z:Int) == 2) = false:=aj (by omega);have dz':(z == 2) = false:=aj hz;go_wp2_with fail;go_meet
        case rel=>exact ⟨p,z,rfl,rfl,hP,AC,zC⟩
      case rest =>
       clear AC zC hP p1 p2;obtain ⟨p,z,rfl,rfl,hP,hU,hC⟩:=hcut;have p1:(p:Int)≤200:=(by have:=hP.out;omega);have p2:(p:Int) < (n:Int):=(by have:=hP.out;have:=HB.out;have:=hi.out;omega);go_upto_region 15 with fail;go_cut [68] from 19 to 133 (fun t W=>∃zb,t = .bool zb∧Hid (US W g off c n S)∧Hid (Chg [g] w W))
       case first =>
        by_cases hz:z = 1
        ·subst hz;cases wb <;> cases wp <;> (go_wp2_with fail;go_meet;exact ⟨_,rfl,hU,hC⟩)
        ·have dz:((z:Int) == 1) = false:=aj (by omega);have dz':(z == 1) = false:=aj hz;cases wb <;> cases wp <;> (go_wp2_with fail;go_meet;exact ⟨_,rfl,hU,hC⟩)
       case rest =>
        clear hU hC;obtain ⟨zb,rfl,hU,hC⟩:=hcut;go_upto_if 68 with fail;go_cut [] from 19 to 133 (fun W=>Hid (US W g off c n S)∧Hid (Chg [g] w W))
        case first =>
         cases zb with
         | true =>
          go_wp2_with fail;refine (part_w hU.out (by have:=HB.out;have:=hi.out;omega) (by have:=HL.out;omega) (by have:=HB.out;omega)).mono ?_;rintro e W2 ⟨⟨y,rfl⟩,xP,kI⟩;have HR:=bk (ai xP (hC.out.and_ kI));clear xP kI;cases y with
          | true =>
           go_wp2_with fail;(try simp only [Exit.inBlock,Exit.then]);refine bodyPost_ret (results_none rfl _ _ _) rfl ?_;exact ⟨rfl,HR.out⟩
          | false =>
           go_wp2_with fail;go_meet
           case rel=>exact ⟨bk HR.out.1,bk HR.out.2⟩
         | false =>
          go_wp2_with fail;go_meet
          case rel=>exact ⟨hU,hC⟩
        case rest =>
         clear hU hC;obtain ⟨hU,hC⟩:=hcut;go_upto_region 17 with fail;go_cut [87] from 19 to 133 (fun t W=>∃zb,t = .bool zb∧Hid (US W g off c n S)∧Hid (Chg [g] w W))
         case first =>
          by_cases ha:a' = 0
          ·subst ha;refine rgt [0,0,0,0,0,0,0,1,0,0,0,1,3,0,0] [none,none,none,some (75,true),some (75,true),some (75,true),some (75,true),some (75,true),some (75,true),some (75,true),some (75,true),some (75,true),some (75,true),some (75,true),none] (fun _=>True) ?_;go_wp2_with (first|refine cdA fun K U=>?_|refine cx ?_;go_simp|refine cy ?_|refine bn fun K U=>?_;go_simp|refine bq ?_);go_meet
           case rel=>exact ⟨_,rfl,bk (show US wc.drew g off c n S from hU.out),bk hC.out.drew⟩
          ·obtain ⟨k,hk⟩:∃k:Nat,(a':Int) - 1 = (k:Int):=⟨a' - 1,by omega⟩;have d3:decide ((0:Int) < (a':Int)) = true:=ae (by omega);have d4:decide (0 < a') = true:=ae (by omega);have kk:(k:Int) < (n:Int):=(by have:=HB.out;have:=hi.out;omega);obtain ⟨x,-,q1⟩:=hU.out.cell (k:=k) (by omega);obtain ⟨y,-,q0⟩:=hU.out.cell (k:=p) (by omega);clear ha;refine rgt [0,0,0,0,0,0,0,1,0,0,0,1,3,0,0] [none,none,none,some (75,true),some (75,true),some (75,true),some (75,true),some (75,true),some (75,true),some (75,true),some (75,true),some (75,true),some (75,true),some (75,true),none] (fun _=>True) ?_;go_wp2_with (first|refine cdA fun K U=>?_|refine cx ?_;go_simp|refine cy ?_|refine bn fun K U=>?_;go_simp|refine bq ?_);refine (gr x y _).mono ?_;rintro e W7 ⟨⟨y,rfl⟩,rfl⟩;refine U _ _ ?_;clear U K;go_wp2_with (first|refine cdA fun K U=>?_|refine cx ?_;go_simp|refine cy ?_|refine bn fun K U=>?_;go_simp|refine bq ?_);go_meet
           case rel=>exact ⟨_,rfl,bk (show US wc.drew g off c n S from hU.out),bk hC.out.drew⟩
         case rest =>
          clear hU hC;obtain ⟨zc,rfl,hU,hC⟩:=hcut;cases zc with
          | true =>
           go_wp2_with fail;refine (peq_w hU.out (by have:=HB.out;have:=hi.out;omega) hP.out.1 hP.out.2 (by have:=HB.out;omega)).mono ?_;rintro e W2 ⟨⟨q,rfl,rJ,mV⟩,xP,kI⟩;have HR:=bk (ai xP (hC.out.and_ kI));have HQ:=bk (ai rJ mV);clear xP kI rJ mV;go_wp2_with fail;go_roundw
           case rel=>exact ⟨q,b',m2,wb,wp,rfl,rfl,rfl,rfl,rfl,bk (by have:=HQ.out;have:=hi.out;have:=vO.out;omega),bk HR.out.1,bk HR.out.2⟩
           case measure=>have:=HQ.out;simp [intOf];omega
          | false =>
           go_wp2_with fail;refine (prt_w hU.out (by have:=HB.out;have:=hi.out;omega) hP.out.1 hP.out.2 (by have:=HB.out;omega)).mono ?_;rintro e W2 ⟨⟨q,y,rfl,rJ,mV⟩,xP,kI⟩;have oA:=bk xP;have rH:=bk (hC.out.and_ kI);have HQ:=bk (ai rJ mV);have q1:(q:Int) < 200:=(by omega);have q2:(a':Int)≤(q:Int):=(by omega);have q3:(q:Int) < (b':Int):=(by omega);clear xP kI rJ mV hU hC;by_cases hlr:(q:Int) - (a':Int) < (b':Int) - (q:Int)
           ·have d3:decide ((q:Int) - (a':Int) < (b':Int) - (q:Int)) = true:=ae hlr;go_wp2_with fail;refine (IH.out a' q m2 W2 (by have:=HB.out;have:=hi.out;have:=HQ.out;omega) oA.out (by have:=HB.out;have:=hi.out;have:=HQ.out;omega) HQ.out.1 vO.out).mono ?_;rintro e W3 ⟨rfl,IG,kM⟩;have HR:=bk (ai IG (rH.out.and_ kM));clear IG kM;go_wp2_with fail;go_roundw
            case rel=>exact ⟨q+1,b',m2,_,y,by go_num,rfl,rfl,rfl,rfl,bk (by have:=HQ.out;have:=hi.out;have:=vO.out;omega),bk HR.out.1,bk HR.out.2⟩
            case measure=>have:=HQ.out;simp [intOf];omega
           ·have d3:decide ((q:Int) - (a':Int) < (b':Int) - (q:Int)) = false:=ac hlr;have DA:=IH.out (q+1) b' m2 W2 (by have:=HB.out;have:=hi.out;have:=HQ.out;omega) oA.out (by have:=HB.out;have:=hi.out;omega) (by have:=HQ.out;omega) vO.out;have e2:((q+1:Nat):Int) = (q:Int)+1:=(by omega);rw [e2] at DA;have DA:=bk DA;clear e2;go_wp2_with fail;refine DA.out.mono ?_;rintro e W3 ⟨rfl,IG,kM⟩;have HR:=bk (ai IG (rH.out.and_ kM));clear IG kM;go_wp2_with fail;go_roundw
            case rel=>exact ⟨a',q,m2,_,y,rfl,rfl,rfl,rfl,rfl,bk (by have:=HQ.out;have:=hi.out;have:=vO.out;omega),bk HR.out.1,bk HR.out.2⟩
            case measure=>have:=HQ.out;simp [intOf];omega
theorem sort_w {g c n:Nat} (h:US w g off c n S) (hn:n≤200) :
  Calls Tryz.prog 84 #[.slice (some ⟨g,off,none⟩) n c] w fun e w'=>e = .returned (.tuple #[])∧US w' g off c n S∧Chg [g] w w':=by
 have HL:=bk (fun W=>len_w (m:=n) (by omega) W);have h8:jr n≤8:=by unfold jr;(repeat' split) <;> omega
 have HP:=bk (pdq_w hn (n+1) 0 n (jr n) w (by omega) h (Nat.le_refl _) (Nat.zero_le _) (by omega));have oU:(n:Int)≤200:=by omega
 clear h h8 hn;go_enter Tryz.func84,Tryz.ntmps84;go_wp2_with fail;refine (HL.out _).mono ?_;rintro e w1 ⟨rfl,rfl⟩;go_wp2_with fail;refine HP.out.mono ?_;rintro e w1 ⟨rfl,h1⟩;go_wp2_with fail;go_end0;exact ⟨rfl,h1⟩
end Go.Proofs.YtfoleblcaloeoaaGreatDoor
namespace Go.Proofs.YtfoleblcaloeoaaGreatDoor
open Go Go.RowKit Go.Shelf
attribute [local go_sem] Oper.semAt_some
variable {N:List Nat}
theorem tt (W:World) (r:Nat) (o:Obj) (hr:r∈N):Chg N W (W.putObj r o) :=
 ⟨rfl,rfl,rfl,by simp,fun k hk hn=>World.putObj_heap_other (fun e=>hn (e ▸ hr))⟩
def BodyK (I:List Nat→List Nat→World→Prop) (bo:Nat) (N ks:List Nat) (W:World):Exit→Act→World→Prop
 | .normal,_,W'=>Keep (bo :: N) W W'∧I N ks W'
 | _,_,_=>False
def markK (D:Nat):Deferred:={ target:=.collected D,args:=#[] }
variable {f:Int→Option Value} {bx bo:Nat} {w:World} {a:Act} {Q:Exit→Act→World→Prop}
theorem wp_keys {g:Operand} {p0:Tmp} {assign body:Code}
  (hg:a.eval g = .func (.func 85) #[] #[.pointer (some ⟨bx,0,none⟩)]) (pU:Blk w bx 59 #[.map (some bo)]) (hm:MapB w bo .u64 f) (hf:∀z,(f z).isSome = true→∃h:Nat,z = (h:Int))
  (I:List Nat→List Nat→World→Prop) (A:List Nat→List Nat→Nat→Act→World→Prop)
  (h0:∀N W,(∀b∈N,w.heap.size≤b∧b < W.heap.size)→Chg [] w W→I N [] W)
  (hI:∀N ks W W',I N ks W→Chg N W W'→I N ks W') (hA:∀N ks z a' W W',A N ks z a' W→Chg N W W'→A N ks z a' W')
  (hassign:∀(j:Nat) N ks (z:Nat) W (K:Act→World→Prop),KsOk f (ks ++ [z])→I N ks W→(∀a' W',A N ks z a' W'→Keep (bo :: N) W W'→K a' W') →
   assign.wpIn (Fence.wide.inRound j) 4 Tryz.prog (Exit.then K (fun _ _ _=>False)) { tmps:=a.tmps.setIfInBounds p0 (.int .u64 (z:Nat)),defers:=[] } W)
  (hbody:∀(j:Nat) N ks (z:Nat) a' W,A N ks z a' W→body.wpIn (Fence.wide.inRound j) 4 Tryz.prog (BodyK I bo N (ks ++ [z]) W) a' W)
  (hdone:∀N ks D W,D∈N→w.heap.size≤D→I N ks W→AllK f ks→W.heap[D]? = some (.deferred (some []))→Q .normal { a with defers:=markK D :: a.defers } W) :
  (Code.rangeFunc g #[p0] assign body).wp Tryz.prog Q a w:=by
 refine (wpIn_wide (n:=6)).1 (wpIn_rangeFunc fun fn hfn=>?_)
 have hbo:=hm.lt
 obtain ⟨D,hD⟩:∃D,D = w.heap.size:=⟨_,rfl⟩
 obtain ⟨L,hL⟩:∃L,L = w.heap.size+1:=⟨_,rfl⟩
 obtain ⟨rec,sZ⟩:∃rec:LoopState→Option Code→Loop,rec = fun st pe=>{ state:=st,pending:=pe,fn,tmps:=a.tmps,params:=#[p0],assign,body,defers:=w.heap.size }:=⟨_,rfl⟩
 obtain ⟨W1,kP⟩:∃W1,(w.alloc (.deferred (some []))).alloc (.loop (rec .ready none)) = W1:=⟨_,rfl⟩
 have c1:Chg [] w W1:=by rw [← kP];exact ((av _ _).alloc _).alloc _
 have s1:W1.heap.size = w.heap.size+2:=by rw [← kP];simp
 have r1:W1.heap[L]? = some (.loop (rec .ready none)):=by
  rw [← kP,hL]
  have:=World.alloc_heap_new (w.alloc (.deferred (some []))) (.loop (rec .ready none))
  rwa [af] at this
 have m1:W1.heap[D]? = some (.deferred (some [])):=by
  rw [← kP,hD]
  exact (Below.heap_alloc _ _ _ (by simp)).trans (World.alloc_heap_new w _)
 refine ⟨L,[markK D],W1,{ target:=.fn (.func 85) #[.pointer (some ⟨bx,0,none⟩)],args:=#[.func (.yield L) #[] #[]] },W1,85,#[.func (.yield L) #[] #[],.pointer (some ⟨bx,0,none⟩)],W1,?_,?_,fun _ _=>trivial,?_,fun _=>by omega,?_⟩
 ·rw [← kP,sZ,hL,hD]
  exact run_enterLoop_outer _ _ _ _ _
 ·simp only [resolve,hg]
  simp [go_sem]
 ·have:=enters_of Tryz.func85 (by kernel_rfl) rfl
  simp [invoke,this]
 ·refine (kit_in (pU.chg c1 ab) (hm.stay c1) hf
   (fun N0 ks W=>I (D :: L :: N0) ks W∧W.heap[L]? = some (.loop (rec .ready none))∧W.heap[D]? = some (.deferred (some []))∧∀b∈N0,W1.heap.size≤b)
   ?_ ?_ ?_).mono ?_
  ·intro N0 W2 hN hc
   refine ⟨h0 _ _ (fun b hb=>?_) (c1.stay hc),(hc.block L (by omega) ab).trans r1,(hc.block D (by omega) ab).trans m1,fun b hb=>(hN b hb).1⟩
   have:=hc.size
   rcases List.mem_cons.1 hb with rfl | hb
   ·omega
   ·rcases List.mem_cons.1 hb with rfl | hb
    ·omega
    ·have:=hN b hb;omega
  ·rintro N0 ks A2 B2 ⟨i1,i2,i3,i4⟩ hc
   have hLn:L∉N0:=fun h=>by have:=i4 L h;omega
   have hDn:D∉N0:=fun h=>by have:=i4 D h;omega
   exact ⟨hI _ _ _ _ i1 (hc.mono (fun x hx=>.inl (List.mem_cons_of_mem _ (List.mem_cons_of_mem _ hx)))),(hc.block L (Array.getElem?_eq_some_iff.1 i2).1 hLn).trans i2,(hc.block D (Array.getElem?_eq_some_iff.1 i3).1 hDn).trans i3,i4⟩
  ·rintro N0 ks W2 z Fz ⟨i1,i2,i3,i4⟩
   have Cg:L∈D :: L :: N0:=by simp
   have kT:D≠L:=by omega
   have hL0:L∉N0:=fun h=>by have:=i4 L h;omega
   have Fv:∀b∈bo :: N0,b≠L:=fun b hb (e:b = L)=>by
    rcases List.mem_cons.1 hb with rfl | hb
    ·omega
    ·exact hL0 (e ▸ hb)
   have mQ:∀b∈bo :: N0,b∈bo :: D :: L :: N0:=fun b hb=>by
    rcases List.mem_cons.1 hb with rfl | hb
    ·simp
    ·simp [hb]
   have hy:=run_yield (P:=Tryz.prog) (args:=#[.int .u64 (z:Nat)]) i2 (by rw [sZ];rfl)
   refine ⟨_,_,_,_,hy,roundIn_of_wpIn (by rw [sZ];exact hfn) ?_⟩
   have etm:(((rec .ready none).params.zip #[.int .u64 (z:Nat)]).foldl (fun tmps (t,a)=>tmps.setIfInBounds t a) (rec .ready none).tmps) = a.tmps.setIfInBounds p0 (.int .u64 (z:Nat)):=by rw [sZ];simp
   rw [etm]
   have ea:(rec .ready none).assign = assign:=by rw [sZ]
   have eb:(rec .ready none).body = body:=by rw [sZ]
   rw [ea,eb]
   refine hassign L _ ks z W2 _ Fz i1 fun a' W3 hA3 hK3=>?_
   have l3:W3.heap[L]? = some (.loop (rec .ready none)):=(hK3 L (by simp)).trans i2
   have d3:W3.heap[D]? = some (.deferred (some [])):=(hK3 D (by simp)).trans i3
   refine ⟨_,run_beginRound l3 (by rw [sZ]),?_⟩
   have l4:(W3.putObj L (.loop { rec .ready none with state:=.busy })).heap[L]? = some (.loop { rec .ready none with state:=.busy }):=World.putObj_heap_same (Array.getElem?_eq_some_iff.1 l3).1
   have d4:(W3.putObj L (.loop { rec .ready none with state:=.busy })).heap[D]? = some (.deferred (some [])):=(World.putObj_heap_other kT).trans d3
   refine wpIn_mono (hbody L _ ks z a' _ (hA _ _ _ _ _ _ hA3 (tt W3 L _ Cg))) ?_
   have k4:Keep (bo :: N0) W2 (W3.putObj L (.loop { rec .ready none with state:=.busy })):=fun b hb=>(World.putObj_heap_other (Fv b hb)).trans (hK3 b (mQ b hb))
   rintro e a5 W5 hp
   cases e with
   | normal =>
    obtain ⟨hK5,i5⟩:=hp
    have l5:=(hK5 L (by simp)).trans l4
    have nL:=run_endRound (P:=Tryz.prog) none l5
    refine ⟨_,_,nL,rfl,⟨hI _ _ _ _ i5 (tt W5 L _ Cg),?_,(World.putObj_heap_other kT).trans ((hK5 D (by simp)).trans d4),i4⟩,fun b hb=>(World.putObj_heap_other (Fv b hb)).trans ((hK5 b (mQ b hb)).trans (k4 b hb))⟩
    have:=World.putObj_heap_same (o:=.loop (rec .ready none)) (Array.getElem?_eq_some_iff.1 l5).1
    rw [sZ] at this ⊢
    exact this
   | exit id=>exact hp.elim
   | ret=>exact hp.elim
   | goto t=>exact hp.elim
   | panic ch=>exact hp.elim
   | outgrown=>exact hp.elim
  ·rintro e W5 ⟨⟨v,rfl⟩,N0,ks,⟨i1,i2,i3,i4⟩,kY⟩
   have nL:(Instr.endLoop L).run Tryz.prog W5 = .ok none (W5.putObj L (.loop { rec .ready none with state:=.exhausted })):=by
    have:=run_endLoop (P:=Tryz.prog) i2 (by rw [sZ];simp)
    rw [sZ] at this ⊢
    exact this
   exact ⟨none,_,nL,hdone (D :: L :: N0) ks D _ (by simp) (by omega) (hI _ _ _ _ i1 (tt W5 L _ (by simp))) kY ((World.putObj_heap_other (by omega)).trans i3)⟩
end Go.Proofs.YtfoleblcaloeoaaGreatDoor
namespace Go.Proofs.YtfoleblcaloeoaaGreatDoor
open Go Go.RowKit Go.Shelf
attribute [local go_sem] Oper.semAt_some
variable {R:Ending→World→Prop} {w:World} {fn:Func}
theorem bA {f:FuncId} {c:Code} {args:Array Value} (hf:Tryz.prog.funcs[f]? = some fn) (hb:fn.body = some c)
  (h:c.wp Tryz.prog (bodyPostM Fence.wide 6 Tryz.prog fn R) { tmps:=args ++ Array.replicate (fn.ntmps - args.size) undef,defers:=[] } w):Calls Tryz.prog f args w R :=
 callsIn_wide.1 (callsIn_of_wp_marks (n:=6) hf hb trivial (wpIn_wide.2 h))
variable {W:World} {v:Value}
theorem fM {tmps:Array Value} {D:Nat} (hM:W.heap[D]? = some (.deferred (some []))) (h:∀W',Chg [D] W W'→(results fn tmps).run Tryz.prog W' = .ok v W'∧R (.returned v) W') :
  bodyPostM Fence.wide 6 Tryz.prog fn R .ret { tmps:=tmps,defers:=[markK D] } W:=by
 show LeavesInM Fence.wide 6 Tryz.prog fn tmps R [markK D] .returning W;refine ⟨by simp,.inl ⟨D,_,rfl,run_takeDeferred hM,?_⟩⟩;obtain ⟨h1,h2⟩:=h _ (tt W D _ (List.mem_cons_self ..));exact ⟨v,h1,h2⟩
theorem iB:(Tryz.prog.info? 37).map (fun i=>(i.zero,i.size,i.bytes)) = some (some (.int .u64 0),1,8):=by kernel_rfl
theorem wdl_one (l:List Nat):∀u∈fc wdl l,u.oneCell' = true:=fun u hu=>by
 unfold fc at hu
 obtain ⟨x,_,hx⟩:=List.mem_flatMap.1 hu
 simp [wdl] at hx
 subst hx
 rfl
theorem bS {y:Value} {l m:List Nat} (hv:SE wdl 1 37 w v l) (hy:RE wdl 1 w y m) (kQ:l.length+m.length≤1000000) (ty:TypeId) :
  ∃v' w',(Builtin.append_ #[71,71] ty #[v,y]).run Tryz.prog w = .ok v' w'∧SE wdl 1 37 w' v' (l ++ m)∧Chg (own v) w w'∧(v'.ownBlock = v.ownBlock∨v'.ownBlock = some w.heap.size):=by
 cases hi:Tryz.prog.info? 37 with
 | none=>have h:=iB;rw [hi] at h;cases h
 | some i5 =>
  have h:=iB;rw [hi] at h;simp only [Option.map_some,Option.some.injEq,Prod.mk.injEq] at h;obtain ⟨hz,h1,h2⟩:=h;obtain ⟨v',w',hr,h3,h4,h5⟩:=ss (ty:=ty) Tryz.underlying71 hi hz h1 h2 rfl hv hy (wdl_one m) (by unfold maxLen;omega) (by omega);refine ⟨v',w',hr,?_,h4,h5⟩;unfold SE;rw [List.length_append,lc];exact h3
variable {Q:Exit→Act→World→Prop} {a:Act} {o:Oper}
theorem uk {F:Fence} {n':Nat} {ops:Array Oper} {rest:List Oper} (hg:o.guard = none) (s x:Operand)
  (ho:o.op = .call { callee:=.builtin .append,args:=#[s,x],argTypes:=#[71,71] }) (v y:Value) (hs:a.eval s = v) (hx:a.eval x = y) {l m:List Nat} (hv:SE wdl 1 37 w v l) (hy:RE wdl 1 w y m) (kQ:l.length+m.length≤1000000)
  (h:∀A n c w',SE wdl 1 37 w' (.slice A n c) (l ++ m)→Chg (own v) w w'→Grow w v (.slice A n c)→wpListIn F n' Tryz.prog ops Q rest (a.put o.dst (.slice A n c)) w') :
  wpListIn F n' Tryz.prog ops Q (o :: rest) a w:=by
 refine wpListIn_plain hg fun K U=>?_;obtain ⟨v',w',nL,h2,h3,h4⟩:=bS hv hy kQ o.type;obtain ⟨A,c,rfl⟩:=h2.form;have el:(l ++ m).length = l.length+m.length:=by simp
 rw [el] at h2 h4 nL;unfold Oper.wpIn;refine ⟨?_,?_⟩
 ·simp [Oper.about,ho,resolve,Target.leads,Sem.run_pure]
 ·rw [Oper.semAt_plain F _ _ (by rw [ho];intro c hc;cases hc)];simp [execOp,ho,resolve,invoke,builtin,hs,hx,nL,Result.andThen];exact U _ _ (h A _ c w' h2 h3 (pq h4))
structure CK (w W:World) (b1:Nat) (N ks:List Nat):Prop where
 chg:Chg [] w W
 g1:w.heap.size≤b1
 nw:∀b∈N,w.heap.size≤b∧b < W.heap.size∧b≠b1
 sl:∃A n c,Blk W b1 71 #[.slice A n c]∧SE wdl 1 37 W (.slice A n c) ks∧(∀k∈own (.slice A n c),w.heap.size≤k)∧∀b∈N,b∉own (.slice A n c)
variable {N ks:List Nat} {b1:Nat}
theorem CK.step {W':World} (h:CK w W b1 N ks) (hc:Chg N W W'):CK w W' b1 N ks:=by obtain ⟨h1,h2,h3,A,n,c,h4,h5,h6,h7⟩:=h;exact ⟨h1.trans hc (fun x hx=>.inr (h3 x hx).1),h2,fun b hb=>⟨(h3 b hb).1,al (h3 b hb).2.1 hc.size,(h3 b hb).2.2⟩,A,n,c,h4.chg hc (fun hb=>(h3 _ hb).2.2 rfl),h5.chg hc (fun k hk hn=>h7 k hn hk),h6,h7⟩
theorem iJ {cs:Array Value} (hs:SE wdl 1 37 W v ks) (hb:Blk W b1 71 cs):b1∉own v:=fun h=>iW hs hb (by decide) (ip.1 h)
variable {f:Int→Option Value} {bx bo:Nat}
theorem aseq_any (pU:Blk w bx 59 #[.map (some bo)]) (hm:MapB w bo .u64 f) (hf:∀z,(f z).isSome = true→∃h:Nat,z = (h:Int)) (hcnt:∀ks,KsOk f ks→ks.length≤1000) :
  Calls Tryz.prog 110 #[.slice none 0 0,.func (.func 85) #[] #[.pointer (some ⟨bx,0,none⟩)]] w fun e w' =>
   (∃A n c ks,e = .returned (.slice A n c)∧SE wdl 1 37 w' (.slice A n c) ks∧AllK f ks∧∀k∈own (.slice A n c),w.heap.size≤k)∧Chg [] w w':=by
 have HBX:=bk pU;have HM:=bk hm;have HF:=bk hf;have HCN:=bk hcnt;clear pU hm hf hcnt;refine bA Tryz.func110 rfl ?_;simp only [Tryz.ntmps110,List.size_toArray,List.length_cons,List.length_nil,Nat.reduceAdd,Nat.reduceSub,Array.replicate_succ,Array.replicate_zero,List.push_toArray,List.append_toArray,List.nil_append,List.cons_append];go_wp2_with fail;have zA:Blk (w.alloc (.cells #[.slice none 0 0] 71)) w.heap.size 71 #[.slice none 0 0]:=ax w _ _;have nG:Chg [] w (w.alloc (.cells #[.slice none 0 0] 71)):=(av [] w).alloc _;obtain ⟨b1,lH⟩:∃y,y = w.heap.size:=⟨_,rfl⟩;rw [← lH] at zA ⊢;have rX:(w.alloc (.cells #[.slice none 0 0] 71)).heap.size = b1+1:=by rw [lH];simp
 generalize w.alloc (.cells #[.slice none 0 0] 71) = W0 at zA nG rX ⊢;have HW:=bk (show w.heap.size≤b1∧W0.heap.size = b1+1 by omega);have xV:=bk nG;have HB0:=bk zA;clear nG zA rX lH;refine wp_keys rfl (HBX.out.chg xV.out ab) (HM.out.stay xV.out) HF.out (fun N ks W=>CK w W b1 N ks)
  (fun N ks z a' W=>a' = { tmps:=#[.slice none 0 0,.func (.func 85) #[] #[.pointer (some ⟨bx,0,none⟩)],.pointer (some ⟨b1,0,none⟩),undef,.slice none 0 0,.int .u64 (z:Nat),.func (.func 85) #[] #[.pointer (some ⟨bx,0,none⟩)],.int .u64 (z:Nat),undef,undef,undef,undef,undef],defers:=[] }∧KsOk f (ks ++ [z])∧CK w W b1 N ks)
  ?h0 (fun N ks W W' h hc=>h.step hc) (fun N ks z a' W W' h hc=>⟨h.1,h.2.1,h.2.2.step hc⟩) ?assign ?body ?done
 case h0 =>
  intro N W hN hc;have mW:=xV.out.size;have hw:=HW.out;exact ⟨xV.out.stay hc,hw.1,fun b hb=>by have:=hN b hb;omega,none,0,0,HB0.out.chg hc ab,SE.nil _ _ _ _,fun k hk=>(cw hk).elim,fun b hb hk=>cw hk⟩
 case assign =>
  intro j N ks z W K Fz Fw U;gi_wp2;exact U _ _ ⟨rfl,Fz,Fw⟩ (Keep.refl _ _)
 case body =>
  rintro j N ks z a' W ⟨rfl,Fz,Fw⟩;have kQ:(ks ++ [z]).length≤1000:=HCN.out _ Fz;have Eu:ks.length + [z].length≤1000000:=by simp at kQ ⊢;omega
  obtain ⟨h1,h2,h3,A,n,c,h4,h5,h6,h7⟩:=Fw;have x0:=h4.cell 0;simp at x0;have hR:RE wdl 1 (W.alloc (.cells #[.int .u64 (z:Nat)] 37)) (.slice (some ⟨W.heap.size,0,none⟩) 1 1) [z]:=ur W 37 1 1 _ rfl;have nP:Chg [] W (W.alloc (.cells #[.int .u64 (z:Nat)] 37)):=(av [] W).alloc _;have H1:=bk h1;have H3:=bk h3;have H4:=bk h4;have H5:=bk h5;have H6:=bk h6;have H7:=bk h7;have HR:=bk hR;have HA:=bk nP;have HL:=bk Eu;clear h1 h3 h4 h5 h6 h7 hR nP Eu kQ Fz;gi_wp2_with (gi_at_builtin;refine uk rfl _ _ rfl (.slice A n c) _ rfl rfl (H5.out.stay HA.out) HR.out HL.out ?_;intro A9 n9 c9 W9 mY lC oF;have mT:=(H4.out.chg HA.out ab).chg lC (iJ (H5.out.stay HA.out) (H4.out.chg HA.out ab));have y0:=mT.cell 0;have y1:=mT.frozen 0;simp at y0);have kT:∀b∈bo :: N,b < W.heap.size∧b≠b1∧b∉own (.slice A n c):=fun b hb=>by
   rcases List.mem_cons.1 hb with rfl | hb
   ·have h8:=HM.out.lt;have h9:=H1.out.size;exact ⟨by omega,by omega,fun hk=>by have:=H6.out _ hk;omega⟩
   ·exact ⟨(H3.out b hb).2.1,(H3.out b hb).2.2,H7.out b hb⟩
  have mJ:=HA.out.then_ lC;refine ⟨fun b hb=>?_,?_,h2,fun b hb=>⟨(H3.out b hb).1,?_,(H3.out b hb).2.2⟩,A9,n9,c9,?_,?_,?_,fun b hb hk=>?_⟩
  ·obtain ⟨k1,k2,k3⟩:=kT b hb;exact (Below.heap_setCell W9 ⟨b1,0,none⟩ _ b k2).trans (mJ.block b k1 k3)
  ·exact (H1.out.trans mJ (fun x hx=>.inr (H6.out x hx))).setCell (.inr h2) _
  ·rw [oy];exact al (H3.out b hb).2.1 mJ.size
  ·have:=mT.set_ 0 (.slice A9 n9 c9);simpa using this
  ·exact Sl.far mY (p:=⟨b1,0,none⟩) (fun e=>iJ mY mT (ip.2 e)) _
  ·intro k hk;rcases oF k hk with h | h
   ·exact H6.out k h
   ·have h8:=H1.out.size;have h9:=HA.out.size;omega
  ·rcases oF b hk with h | h
   ·exact H7.out b hb h
   ·have h8:=(H3.out b hb).2.1;have h9:=HA.out.size;omega
 case done =>
  rintro N ks D W hD hDw ⟨h1,h2,h3,A,n,c,h4,h5,h6,h7⟩ kY hdf;have x0:=h4.cell 0;simp at x0;have HR:=bk (ai h1 (ai h5 (ai h6 (ai kY hdf))));have HD:=bk (ai (h3 D hD) (h7 D hD));clear h1 h3 h4 h5 h6 h7 kY hdf;go_wp2_with fail;exact fM HR.out.2.2.2.2 fun W' hc=>⟨by simp [results,Tryz.results110],⟨A,n,c,ks,rfl,HR.out.2.1.chg hc (fun k hk rU=>HD.out.2 (by obtain rfl:=aa rU;exact hk)),HR.out.2.2.2.1,HR.out.2.2.1⟩,HR.out.1.trans hc (fun x hx=>.inr (by obtain rfl:=aa hx;exact HD.out.1.1))⟩
theorem jX (A:Option Addr) (c:Nat) (w:World):Calls Tryz.prog 84 #[.slice A 0 c] w fun e w'=>e = .returned (.tuple #[])∧w = w':=by
 have HL:=bk (fun W=>len_w (m:=0) (by omega) W);have HI:Hid (Calls Tryz.prog 124 #[.slice A 0 c,.int .i64 0,.int .i64 0] w fun e w'=>e = .returned (.tuple #[])∧w = w'):=bk (by
  go_enter Tryz.func124,Tryz.ntmps124
  go_wp2_with fail
  go_loopw [6] (fun t wr=>t = .int .i64 1∧wr = w) (fun _ _=>0)
  case atStart=>exact ⟨rfl,rfl⟩
  case round =>
   obtain ⟨rfl,rfl⟩:=hrel
   go_wp2_with fail
   go_end0
   exact ⟨rfl,rfl⟩)
 have HP:Hid (∀m:Nat,Calls Tryz.prog 111 #[.slice A 0 c,.int .i64 0,.int .i64 0,.int .i64 (m:Nat)] w fun e w'=>e = .returned (.tuple #[])∧w = w'):=bk (fun m=>by
  go_enter Tryz.func111,Tryz.ntmps111
  go_wp2_with fail
  go_loopw [1,2,3,8,9] (fun s t u v z W=>s = .int .i64 0∧t = .int .i64 0∧u = .int .i64 (m:Nat)∧v = .bool true∧z = .bool true∧W = w) (fun _ _ _ _ _ _=>0)
  case atStart=>exact ⟨rfl,rfl,rfl,rfl,rfl,rfl⟩
  case round =>
   obtain ⟨rfl,rfl,rfl,rfl,rfl,rfl⟩:=hrel
   go_wp2_with fail
   refine HI.out.mono ?_
   rintro e w1 ⟨rfl,rfl⟩
   go_wp2_with fail
   (try simp only [Exit.inBlock,Exit.then])
   refine bodyPost_ret (results_none rfl _ _ _) rfl ?_
   exact ⟨rfl,rfl⟩)
 go_enter Tryz.func84,Tryz.ntmps84;go_wp2_with fail;refine (HL.out _).mono ?_;rintro e w1 ⟨rfl,rfl⟩;go_wp2_with fail;refine (HP.out _).mono ?_;rintro e w1 ⟨rfl,rfl⟩;go_wp2_with fail;go_end0;exact ⟨rfl,rfl⟩
theorem coll_any (pU:Blk w bx 59 #[.map (some bo)]) (hm:MapB w bo .u64 f) (hf:∀z,(f z).isSome = true→∃h:Nat,z = (h:Int)) (hcnt:∀ks,KsOk f ks→ks.length≤1000) :
  Calls Tryz.prog 83 #[.func (.func 85) #[] #[.pointer (some ⟨bx,0,none⟩)]] w fun e w' =>
   (∃A n c ks,e = .returned (.slice A n c)∧SE wdl 1 37 w' (.slice A n c) ks∧AllK f ks∧∀k∈own (.slice A n c),w.heap.size≤k)∧Chg [] w w':=by
 have HA:=bk (aseq_any pU hm hf hcnt);clear pU hm hf hcnt;go_enter Tryz.func83,Tryz.ntmps83;go_wp2_with fail;refine HA.out.mono ?_;rintro e w1 ⟨⟨A,n,c,ks,rfl,h1⟩,hc⟩;have H1:=bk h1;clear h1;go_wp2_with fail;go_ret;exact ⟨⟨A,n,c,ks,rfl,H1.out⟩,hc⟩
theorem fY (pU:Blk w bx 59 #[.map (some bo)]) (hm:MapB w bo .u64 f) (hf:∀z,(f z).isSome = true→∃h:Nat,z = (h:Int)) (hcnt:∀ks,KsOk f ks→ks.length≤200) :
  Calls Tryz.prog 51 #[.func (.func 85) #[] #[.pointer (some ⟨bx,0,none⟩)]] w fun e w' =>
   (∃A n c l ks,e = .returned (.slice A n c)∧SE wdl 1 37 w' (.slice A n c) l∧AllK f ks∧l.length = ks.length∧(∀x∈l,(f (x:Nat)).isSome = true)∧∀k∈own (.slice A n c),w.heap.size≤k)∧Chg [] w w':=by
 have HA:=bk (coll_any pU hm hf (fun ks h=>by have:=hcnt ks h;omega));have HN:=bk hcnt;clear pU hm hf hcnt;go_enter Tryz.func51,Tryz.ntmps51;go_wp2_with fail;refine HA.out.mono ?_;rintro e w1 ⟨⟨A,n,c,ks,rfl,hs,kY,pC⟩,hc⟩;have kQ:ks.length≤200:=HN.out ks ⟨kY.1,fun x hx=>(kY.2 _).2 ⟨x,hx,rfl⟩⟩;obtain ⟨A',c',e'⟩:=hs.form;have hn:n = ks.length:=by injection e'
 clear e' A' c';by_cases h0:0 < n
 ·subst hn;obtain ⟨g,off,rfl⟩:=SE.addr hs h0;have hU:US w1 g off c ks.length (fun x=>(f (x:Nat)).isSome = true):=⟨ks,rfl,fun x hx=>(kY.2 _).2 ⟨x,hx,rfl⟩,hs⟩;have HS:=bk (sort_w hU (by omega));have HH:=bk (ai kY (ai pC hc));clear hs kY pC kQ hU h0 hc;go_wp2_with fail;refine HS.out.mono ?_;rintro e w2 ⟨rfl,xP,kI⟩;have GN:=bk xP;have lE:=bk kI;clear xP kI;go_wp2_with fail;go_ret;obtain ⟨l,h1,h2,h3⟩:=GN.out;refine ⟨⟨_,_,_,l,ks,rfl,h3,HH.out.1,h1,h2,HH.out.2.1⟩,HH.out.2.2.trans lE.out (fun x hx=>.inr ?_)⟩;exact HH.out.2.1 x (by rw [fd];exact hx)
 ·have h0':ks = []:=List.eq_nil_of_length_eq_zero (by omega);subst h0';have FD:n = 0:=by simpa using hn
  subst FD;have HS:=bk (jX A c w1);have HH:=bk (ai hs (ai kY (ai pC hc)));clear hs kY pC kQ hn h0 hc;go_wp2_with fail;refine HS.out.mono ?_;rintro e w2 ⟨rfl,rfl⟩;go_wp2_with fail;go_ret;exact ⟨⟨_,_,_,[],[],rfl,HH.out.1,HH.out.2.1,rfl,fun _ h=>(by cases h),HH.out.2.2.1⟩,HH.out.2.2.2⟩
end Go.Proofs.YtfoleblcaloeoaaGreatDoor
namespace Go.Proofs.YtfoleblcaloeoaaGreatDoor
open Go Go.RowKit
def rtA (M:Mo) (z q:Int):Int:=match M.pr z with | some p=>Ar.rt p.rl q | none=>0
def byA (M:Mo) (z a:Int):Nat:=match M.pr z with | some p=>if Ar.rt p.rl (a / 256) = 0 then 0 else (jl p (a / 256)).getD (a % 256).toNat 0 | none=>0
def poA (M:Mo) (z q:Int):Nat × Nat:=match M.pr z with | some p=>ku p q | none=>(0,0)
section
variable {w:World} {m:Nat} {M:Mo} {bp bo be:Nat} {fp fo fe:Int→Option Value} {gb:Int→Nat} {GF:Int→Nat→Prop} {ov:Int→Value}
theorem xd (hI:MIn w m M bp bo be fp fo fe gb GF ov) (z q:Int) :
  Calls Tryz.prog 19 #[.pointer (some ⟨m,0,none⟩),.int .i64 z,.int .i64 q] w fun e w'=>e = .returned (.tuple #[.int .u8 (rtA M z q),.bool (decide (rtA M z q≠0))])∧Chg [] w w':=by
 have HH:=bk (aY hI z);have qE:=sd hI z;obtain ⟨qp,-,-,qm,-⟩:=eq hI.blk;cases hp:M.pr z with
 | none =>
  have e1:rtA M z q = 0:=by unfold rtA;rw [hp]
  rw [e1];rw [hp] at HH;clear qE hI hp e1;go_enter Tryz.func19,Tryz.ntmps19;go_wp2_with fail;refine HH.out.mono ?_;rintro e W2 ⟨rfl,rfl⟩;go_wp2_with fail;go_ret2;exact ⟨rfl,av _ _⟩
 | some p =>
  obtain ⟨d,FA,qp',qo,gp',go',gp,hP,mI,pA⟩:=hI.pr z p hp;have e1:rtA M z q = Ar.rt p.rl q:=by unfold rtA;rw [hp]
  rw [e1];rw [hp] at HH qE;have HR:=bk (Ar.rights_at hP.ar hP.sp q);have q2:w.cell? ⟨gb z,0,none⟩ = some (.pointer (some ⟨d,0,none⟩)):=by simpa [prc] using hP.blk.cell 0
  have l2:=hP.blk.lt;clear hI hp e1 hP mI pA;go_enter Tryz.func19,Tryz.ntmps19;go_wp2_with fail;refine HH.out.mono ?_;rintro e W2 ⟨rfl,rfl⟩;go_wp2_with fail;refine HR.out.mono ?_;rintro e W3 ⟨rfl,hc⟩;go_wp2_with fail;go_ret2;exact ⟨rfl,hc⟩
theorem Byte_any (hI:MIn w m M bp bo be fp fo fe gb GF ov) (z:Int) {a:Int} (ha:a≤9223372036854775807) :
  Calls Tryz.prog 20 #[.pointer (some ⟨m,0,none⟩),.int .i64 z,.int .i64 a] w fun e w'=>e = .returned (.tuple #[.int .u8 (if a < 0 then (0:Int) else (byA M z a:Nat)),.bool (decide (0≤a∧rtA M z (a / 256)≠0))])∧Chg [] w w':=by
 by_cases h0:a < 0
 ·have d0:decide (a < 0) = true:=ae h0;have e1:decide (0≤a∧rtA M z (a / 256)≠0) = false:=ac (by omega);rw [ah h0,e1];clear e1 hI;go_enter Tryz.func20,Tryz.ntmps20;go_wp2_with fail;go_ret2;exact ⟨rfl,av _ _⟩
 have d0:decide (a < 0) = false:=ac h0;have d1:(0:Int)≤a:=by omega
 rw [ag h0];obtain ⟨an,qP⟩:∃y:Nat,(y:Int) = a % 256:=⟨(a % 256).toNat,by omega⟩;have e0:decide (0≤a∧rtA M z (a / 256)≠0) = decide (rtA M z (a / 256)≠0):=by simp [d1]
 rw [e0];have hb:byA M z a = match M.pr z with | some p=>if Ar.rt p.rl (a / 256) = 0 then 0 else (jl p (a / 256)).getD an 0 | none=>0:=by
  unfold byA;rw [show (a % 256).toNat = an by omega]
 obtain ⟨pg,sI⟩:∃y:Int,y = a / 256:=⟨_,rfl⟩;rw [← sI] at hb ⊢;have rJ:wrap64 (a.tdiv 256) = pg:=by rw [sI,Int.tdiv_eq_ediv_of_nonneg d1];unfold wrap64;omega
 have mV:wrap64 (a.tmod 256) = (an:Int):=by clear rJ;rw [qP,Int.tmod_eq_emod_of_nonneg d1];unfold wrap64;omega
 have Dd:a.tmod 256 = (an:Int):=by clear rJ mV;rw [qP,Int.tmod_eq_emod_of_nonneg d1]
 have han2:(an:Int) < 256:=by clear rJ mV Dd;omega
 have oY:=bk (xd hI z pg);obtain ⟨R,hR⟩:∃R,R = rtA M z pg:=⟨_,rfl⟩;rw [← hR] at oY ⊢;cases hp:M.pr z with
 | none =>
  have e1:R = 0:=by rw [hR];unfold rtA;rw [hp]
  subst e1;have e2:byA M z a = 0:=by rw [hb,hp]
  rw [e2];clear e2 hR hb hI hp h0 qP sI ha;go_enter Tryz.func20,Tryz.ntmps20;go_wp2_with fail;refine oY.out.mono ?_;rintro e W2 ⟨rfl,hc⟩;go_wp2_with fail;go_ret2;exact ⟨rfl,hc⟩
 | some p =>
  obtain ⟨d,FA,qp',qo,gp',go',gp,hP,mI,pA⟩:=hI.pr z p hp;have e1:R = Ar.rt p.rl pg:=by rw [hR];unfold rtA;rw [hp]
  rw [hp] at hb;simp only at hb;rw [← e1] at hb;by_cases rC:R = 0
  ·subst rC;rw [ah rfl] at hb;rw [hb];clear hR hb hI hp h0 qP sI ha e1 hP mI pA;go_enter Tryz.func20,Tryz.ntmps20;go_wp2_with fail;refine oY.out.mono ?_;rintro e W2 ⟨rfl,hc⟩;go_wp2_with fail;go_ret2;exact ⟨rfl,hc⟩
  ·rw [ag rC] at hb;have er:decide (R≠0) = true:=ae rC;rw [er] at oY ⊢;have HI:=bk (fun W (h:Chg [] w W)=>(show MIn W m M bp bo be fp fo fe gb GF ov from hI.cp (CP.of0 (F:=fun _=>False) h) (fun _ _ h=>h)));have HP:=bk (fun W (h:Chg [] w W)=>(show PIn W (gb z) p d FA qp' qo gp' go' gp from hP.cp (CP.of0 (F:=fun _=>False) h) (fun _ _ h=>h)));have HZ:=bk hp;have zO:=bk hb;obtain ⟨B,hB⟩:∃B,B = byA M z a:=⟨_,rfl⟩;rw [← hB] at zO ⊢;clear hR hb hI hp h0 qP sI ha e1 hP mI pA rC er hB;go_enter Tryz.func20,Tryz.ntmps20;go_wp2_with fail;refine oY.out.mono ?_;rintro e W2 ⟨rfl,hc⟩;have HC:=bk hc;have qE:=sd (HI.out W2 hc) z;rw [HZ.out] at qE;obtain ⟨qp,-,-,qm,-⟩:=eq (HI.out W2 hc).blk;have q2:W2.cell? ⟨gb z,1,none⟩ = some (.map (some qp')):=(by simpa [prc] using (HP.out W2 hc).blk.cell 1);have l2:=(HP.out W2 hc).blk.lt;cases hg:p.pg pg with
   | none =>
    have hlk2:=fg Tryz.underlying110 Tryz.underlying3 (HP.out W2 hc).mp (show gp' pg = none by rw [(HP.out W2 hc).hp,hg];rfl) (gN W2) true;obtain rfl:B = 0:=by
     rw [zO.out];unfold jl;rw [hg];show zeroPg.getD an 0 = 0;unfold zeroPg;rw [List.getD_eq_getElem?_getD,List.getElem?_replicate];split <;> rfl
    clear hc hg;go_wp2_with fail;go_ret2;exact ⟨rfl,HC.out⟩
   | some L =>
    have hlk2:=fh Tryz.underlying110 Tryz.underlying3 (HP.out W2 hc).mp (show gp' pg = some (.pointer (some ⟨gp pg,0,none⟩)) by rw [(HP.out W2 hc).hp,hg];rfl) true;have hPB:=(HP.out W2 hc).pg pg L hg;have lB:=hPB.blk.lt;have Hc:an < L.length:=(by rw [hPB.len];omega);have q3:W2.cell? ⟨gp pg,an,none⟩ = some (.int .u8 (B:Nat)):=by
     rw [hPB.blk.cell,zO.out];unfold jl pgc;rw [hg];simp [Hc]
    have an0:(0:Int)≤(an:Int):=(by omega);clear hc hg hPB Hc;go_wp2_with fail;go_ret2;exact ⟨rfl,HC.out⟩
theorem mq {fn:Func} {p q:Tmp} {w:World} {b:Nat} {k m:Int} (h:fn.results = #[.cell p 45,.tmp q]) (tmps:Array Value) (hp:tmps.getD p undef = .pointer (some ⟨b,0,none⟩)) (hb:PolB w b k m) :
  (results fn tmps).run Tryz.prog w = .ok (.tuple #[.agg #[.int .u8 k,.int .u8 m],tmps.getD q undef]) w:=by
 have oP:tmps[p]?.getD undef = .pointer (some ⟨b,0,none⟩):=by simpa using hp
 have hl:=run_loadVar_row w b 45 45 _ (0,0) _ hb Tryz.underlying45 rfl kv;simp [results,h,oP,asAddr,hl]
theorem eO (hI:MIn w m M bp bo be fp fo fe gb GF ov) (z q:Int) :
  Calls Tryz.prog 21 #[.pointer (some ⟨m,0,none⟩),.int .i64 z,.int .i64 q] w fun e w' =>
   e = .returned (.tuple #[.agg #[.int .u8 (if (M.pr z).isSome = true∧0≤q∧q < 1024 then (poA M z q).1 else 0:Nat),.int .u8 (if (M.pr z).isSome = true∧0≤q∧q < 1024 then (poA M z q).2 else 0:Nat)],.bool (decide ((M.pr z).isSome = true∧0≤q∧q < 1024))])∧Chg [] w w':=by
 have HH:=bk (fun W (h:Chg [] w W)=>aY (show MIn W m M bp bo be fp fo fe gb GF ov from hI.cp (CP.of0 (F:=fun _=>False) h) (fun _ _ h=>h)) z);have HI:=bk (fun W (h:Chg [] w W)=>(show MIn W m M bp bo be fp fo fe gb GF ov from hI.cp (CP.of0 (F:=fun _=>False) h) (fun _ _ h=>h)));by_cases hc:(M.pr z).isSome = true∧0≤q∧q < 1024
 ·rw [ah hc,ah hc,ae hc];obtain ⟨h1,h2,h3⟩:=hc;cases hp:M.pr z with
  | none=>rw [hp] at h1;cases h1
  | some p =>
   have d1:decide (q < 0) = false:=ac (by omega);have d2:decide ((1024:Int)≤q) = false:=ac (by omega);have Cv:poA M z q = ku p q:=(by unfold poA;rw [hp]);rw [Cv];obtain ⟨d,FA,qp',qo,gp',go',gp,hP,mI,pA⟩:=hI.pr z p hp;have HO:=bk (fun W (h:Chg [] w W)=>of_pr (show PIn W (gb z) p d FA qp' qo gp' go' gp from hP.cp (CP.of0 (F:=fun _=>False) h) (fun _ _ h=>h)) q);have HZ:=bk hp;rw [hp] at HH;obtain ⟨y,hy⟩:∃y,y = ku p q:=⟨_,rfl⟩;rw [← hy] at HO ⊢;obtain ⟨yk,ym⟩:=y;clear hp h1 h2 h3 Cv hP mI pA hI hy;go_enter Tryz.func21,Tryz.ntmps21;go_wp2_with (refine fk rfl rfl ?_;intro W1 h4 kO;have H4:=bk h4;have lU:=bk kO;clear h4 kO);refine (HH.out _ lU.out).mono ?_;rintro e W ⟨rfl,rfl⟩;have qE:=sd (HI.out W1 lU.out) z;rw [HZ.out] at qE;obtain ⟨qp,-,-,qm,-⟩:=eq (HI.out W1 lU.out).blk;go_wp2_with fail;refine (HO.out _ lU.out).mono ?_;rintro e W2 ⟨rfl,kI⟩;have FU:=bk (H4.out.chg kI ab);have lE:=bk (lU.out.stay kI);clear kI;go_wp2_with (first|refine ej (b:=w.heap.size) (k':=yk) (m':=ym) rfl _ _ rfl rfl rfl FU.out ?_;intro W3 h5 kM;have H5:=bk h5;have kL:=bk (lE.out.trans kM (fun y hy=>.inr (by obtain rfl:=aa hy;exact Nat.le_refl _)));clear h5 kM);exact bodyPost_ret (v:=.tuple #[.agg #[.int .u8 yk,.int .u8 ym],.bool true]) (mq (p:=6) (q:=7) rfl _ rfl H5.out) rfl ⟨rfl,kL.out⟩
 ·rw [ag hc,ag hc,ac hc];have HN:=bk hc;cases hs:(M.pr z).isSome with
  | false =>
   rw [hs] at HH;clear hc hs hI;go_enter Tryz.func21,Tryz.ntmps21;go_wp2_with (refine fk rfl rfl ?_;intro W1 h4 kO;have H4:=bk h4;have lU:=bk kO;clear h4 kO);refine (HH.out _ lU.out).mono ?_;rintro e W ⟨rfl,rfl⟩;go_wp2_with (first|refine ej (b:=w.heap.size) (k':=0) (m':=0) rfl _ _ rfl rfl rfl H4.out ?_;intro W2 h5 kI;have H5:=bk h5;have lE:=bk (lU.out.trans kI (fun y hy=>.inr (by obtain rfl:=aa hy;exact Nat.le_refl _)));clear h5 kI);exact bodyPost_ret (v:=.tuple #[.agg #[.int .u8 0,.int .u8 0],.bool false]) (mq (p:=6) (q:=7) rfl _ rfl H5.out) rfl ⟨rfl,lE.out⟩
  | true =>
   rw [hs] at HH;by_cases hq:q < 0
   ·have d1:decide (q < 0) = true:=ae hq;clear hc hs hI hq;go_enter Tryz.func21,Tryz.ntmps21;go_wp2_with (refine fk rfl rfl ?_;intro W1 h4 kO;have H4:=bk h4;have lU:=bk kO;clear h4 kO);refine (HH.out _ lU.out).mono ?_;rintro e W ⟨rfl,rfl⟩;go_wp2_with (first|refine ej (b:=w.heap.size) (k':=0) (m':=0) rfl _ _ rfl rfl rfl H4.out ?_;intro W2 h5 kI;have H5:=bk h5;have lE:=bk (lU.out.trans kI (fun y hy=>.inr (by obtain rfl:=aa hy;exact Nat.le_refl _)));clear h5 kI);exact bodyPost_ret (v:=.tuple #[.agg #[.int .u8 0,.int .u8 0],.bool false]) (mq (p:=6) (q:=7) rfl _ rfl H5.out) rfl ⟨rfl,lE.out⟩
   ·have d1:decide (q < 0) = false:=ac hq;have d2:decide ((1024:Int)≤q) = true:=ae (by rw [hs] at hc;simp at hc;omega);clear hc hs hI hq;go_enter Tryz.func21,Tryz.ntmps21;go_wp2_with (refine fk rfl rfl ?_;intro W1 h4 kO;have H4:=bk h4;have lU:=bk kO;clear h4 kO);refine (HH.out _ lU.out).mono ?_;rintro e W ⟨rfl,rfl⟩;go_wp2_with (first|refine ej (b:=w.heap.size) (k':=0) (m':=0) rfl _ _ rfl rfl rfl H4.out ?_;intro W2 h5 kI;have H5:=bk h5;have lE:=bk (lU.out.trans kI (fun y hy=>.inr (by obtain rfl:=aa hy;exact Nat.le_refl _)));clear h5 kI);exact bodyPost_ret (v:=.tuple #[.agg #[.int .u8 0,.int .u8 0],.bool false]) (mq (p:=6) (q:=7) rfl _ rfl H5.out) rfl ⟨rfl,lE.out⟩
theorem sclone_b {w:World} {v:Value} {l:List Nat} (hv:RB w v l) (kQ:l.length≤100000) :
  Calls Tryz.prog 50 #[v] w fun e w'=>NewB w w' l e∧Chg [] w w':=by
 obtain ⟨A,c,rfl⟩:=RE.form hv;cases A with
 | none =>
  have h0:l = []:=by
   cases l with
   | nil=>rfl
   | cons a l =>
    obtain ⟨g,off,e⟩:=RE.addr hv (by simp);cases e
  subst h0;have kT:∀W:World,(binOp .eql 38 (.slice none 0 c) (.slice none 0 0)).run Tryz.prog W = .ok (.bool true) W:=fun W=>Lib.run_eql_slice_nil W 38 5 _ _ _ 0 0 Tryz.underlying38;clear hv;go_enter Tryz.func50,Tryz.ntmps50;go_wp2_with fail;go_ret;exact ⟨⟨_,_,_,rfl,SE.nil _ _ _ _,fun _ h=>(cw h).elim⟩,av _ _⟩
 | some a =>
  have kT:∀W:World,(binOp .eql 38 (.slice (some a) l.length c) (.slice none 0 0)).run Tryz.prog W = .ok (.bool false) W:=fun W=>Lib.run_eql_slice_nil W 38 5 _ _ _ 0 0 Tryz.underlying38;have HS:=bk (pd w);have nP:Chg [] w (w.alloc (.cells #[] 5)):=(av [] w).alloc _;have HR:=bk (hv.stay nP);have pQ:=bk nP;have xX:=bk (show ([]:List Nat).length+l.length≤1000000 by simp;omega);clear hv nP;go_enter Tryz.func50,Tryz.ntmps50;go_wp2_with (at_builtin;refine md rfl _ _ rfl (.slice (some ⟨w.heap.size,0,none⟩) 0 0) _ rfl rfl (l:=[]) (m:=l) HS.out HR.out xX.out ?_;intro A9 n9 c9 W9 nQ mY lC oF);go_ret;refine ⟨⟨_,_,_,rfl,by simpa using mY,fun k hk=>(oF k hk).elim (fun h=>by simp [own,Value.ownBlock] at h;omega) (fun h=>by simp at h;omega)⟩,pQ.out.trans lC (fun k hk=>.inr (by simp [own,Value.ownBlock] at hk;omega))⟩
theorem eN (hI:MIn w m M bp bo be fp fo fe gb GF ov) (h:Nat) :
  Calls Tryz.prog 22 #[.pointer (some ⟨m,0,none⟩),.int .u64 (h:Nat)] w fun e w' =>
   (∃A n c,e = .returned (.tuple #[.slice A n c,.bool (M.ob h).isSome])∧SB w' (.slice A n c) ((M.ob h).getD [])∧∀k∈own (.slice A n c),w.heap.size≤k)∧Chg [] w w':=by
 have HN:=bk (tw hI.blk);obtain ⟨-,qo,-,qm,-⟩:=eq hI.blk;obtain ⟨A6,n6,c6,th,hth,qE,pZ,zE⟩:∃(A6:Option Addr) (n6 c6:Nat) (th:Bool),th = (M.ob h).isSome∧(Instr.lookup 59 (.map (some bo)) (.int .u64 (h:Nat)) true).run Tryz.prog w = .ok (.tuple #[.slice A6 n6 c6,.bool th]) w∧RB w (.slice A6 n6 c6) ((M.ob h).getD [])∧((M.ob h).getD []).length≤100000:=by
  cases hb:M.ob h with
  | some B =>
   obtain ⟨h1,h2,h3⟩:=hI.ob h B hb;obtain ⟨A,c,e⟩:=SE.form h1;refine ⟨A,B.length,c,true,rfl,?_,by rw [← e];exact SE.re h1,by show B.length≤_;omega⟩;rw [← e];exact fh Tryz.underlying59 Tryz.underlying37 hI.mo (by rw [hI.ho,hb];rfl) true
  | none=>exact ⟨none,0,0,false,rfl,fg Tryz.underlying59 Tryz.underlying37 hI.mo (by rw [hI.ho,hb];rfl) (cH w) true,RE.nil _ _ _ _ _,by simp⟩
 rw [← hth];have HC:=bk (sclone_b pZ zE);clear hI hth pZ zE;go_enter Tryz.func22,Tryz.ntmps22;go_wp2_with fail;refine HN.out.mono ?_;rintro e W ⟨rfl,rfl⟩;go_wp2_with fail;refine HC.out.mono ?_;rintro e W ⟨⟨A,n,c,rfl,h1,h2⟩,hc⟩;have H1:=bk (ai h1 h2);have lU:=bk hc;clear h1 h2 hc;go_wp2_with fail;go_ret2;exact ⟨⟨A,n,c,rfl,H1.out⟩,lU.out⟩
theorem cK (hI:MIn w m M bp bo be fp fo fe gb GF ov) (hf:∀z,(M.ob z).isSome = true→∃h:Nat,z = (h:Int)) (hcnt:∀ks:List Nat,ks.Nodup→(∀x∈ks,(M.ob (x:Nat)).isSome = true)→ks.length≤200) :
  Calls Tryz.prog 24 #[.pointer (some ⟨m,0,none⟩)] w fun e w' =>
   (∃(A:Option Addr) (n c:Nat) (l ks:List Nat),e = .returned (.slice A n c)∧SE wdl 1 37 w' (.slice A n c) l∧ks.Nodup∧(∀z:Int,(M.ob z).isSome = true↔∃x∈ks,(x:Int) = z)∧l.length = ks.length∧(∀x∈l,(M.ob (x:Nat)).isSome = true)∧∀k∈own (.slice A n c),w.heap.size≤k)∧Chg [] w w':=by
 have HN:=bk (tw hI.blk);obtain ⟨-,qo,-,qm,-⟩:=eq hI.blk;have hfo:∀z,(fo z).isSome = (M.ob z).isSome:=fun z=>by rw [hI.ho];cases M.ob z <;> rfl
 have kO:Chg [] w (w.alloc (.cells #[.map (some bo)] 59)):=(av [] w).alloc _;have hB:Blk (w.alloc (.cells #[.map (some bo)] 59)) w.heap.size 59 #[.map (some bo)]:=ax w _ _;have HS:=bk (fY hB (hI.mo.stay kO) (fun z hz=>hf z (by rw [← hfo];exact hz)) (fun ks hk=>hcnt ks hk.1 (fun x hx=>by rw [← hfo];exact hk.2 x hx)));have HFO:=bk hfo;have HK:Hid (Calls Tryz.prog 52 #[.map (some bo)] w fun e w'=>e = .returned (.func (.func 85) #[] #[.pointer (some ⟨w.heap.size,0,none⟩)])∧w' = w.alloc (.cells #[.map (some bo)] 59)):=bk (by
  go_enter Tryz.func52,Tryz.ntmps52
  go_wp2_with fail
  go_ret
  exact ⟨rfl,rfl⟩)
 have lU:=bk kO;clear hI hf hcnt hfo kO hB;go_enter Tryz.func24,Tryz.ntmps24;go_wp2_with fail;refine HN.out.mono ?_;rintro e W ⟨rfl,rfl⟩;go_wp2_with fail;refine HK.out.mono ?_;rintro e W ⟨rfl,rfl⟩;go_wp2_with fail;refine HS.out.mono ?_;rintro e W ⟨⟨A,n,c,l,ks,rfl,h1,h2,h3,h4,h5⟩,hc⟩;have H1:=bk (ai h1 (ai h2 (ai h3 (ai h4 (ai h5 hc)))));clear h1 h2 h3 h4 h5 hc;go_wp2_with fail;go_ret;obtain ⟨h1,h2,h3,h4,h5,h6⟩:=H1.out;exact ⟨⟨A,n,c,l,ks,rfl,h1,h2.1,fun z=>by rw [← HFO.out];exact h2.2 z,h3,fun x hx=>by rw [← HFO.out];exact h4 x hx,fun k hk=>by have:=h5 k hk;have:=lU.out.size;omega⟩,lU.out.stay h6⟩
end
variable {v:Value} {w:World}
theorem kl {x y:Rs} {u:Value} (hv:RB w v x.l) (hu:RB w u y.l) (hl:∀b∈x.l,b < 256) (hm:∀b∈y.l,b < 256) :
  Calls Tryz.prog 34 #[.agg (rsc x v),.agg (rsc y u)] w fun e w'=>e = .returned (.bool (ed x y))∧Chg [] w w':=by
 obtain ⟨A0,c0,rfl⟩:=RE.form hv;obtain ⟨A1,c1,rfl⟩:=RE.form hu;obtain ⟨W2,kJ⟩:∃W2,W2 = (w.alloc (.cells (rsc x (.slice A0 x.l.length c0)) 40)).alloc (.cells (rsc y (.slice A1 y.l.length c1)) 40):=⟨_,rfl⟩;have kI:Chg [] w W2:=by rw [kJ];exact ((av [] w).alloc _).alloc _
 have lH:XB W2 w.heap.size x (.slice A0 x.l.length c0):=by rw [kJ];exact (ax w _ _).alloc _
 have lV:XB W2 (w.heap.size+1) y (.slice A1 y.l.length c1):=by
  have:=ax (w.alloc (.cells (rsc x (.slice A0 x.l.length c0)) 40)) 40 (rsc y (.slice A1 y.l.length c1));rw [af] at this;rw [kJ];exact this
 have Cp:=nr (hv.stay kI) hl;have By:=nr (hu.stay kI) hm;have tE:=vf hl hm;have HC:=bk kI;have kW:=bk kJ;obtain ⟨p0,p1,p2,pl,-⟩:=XB.cells lH;obtain ⟨q0,q1,q2,ql,-⟩:=XB.cells lV;clear hv hu hl hm kJ kI lH lV;obtain ⟨e,z,l⟩:=x;obtain ⟨e',z',l'⟩:=y;simp only at p0 p1 p2 q0 q1 q2 kW Cp By tE;by_cases h1:e = e'
 ·subst h1;by_cases h2:z = z'
  ·subst h2;have hR:ed ⟨e,z,l⟩ ⟨e,z,l'⟩ = decide (l = l'):=(by simp [ed]);rw [hR];generalize ft l = sx at Cp tE;generalize ft l' = sy at By tE;generalize decide (l = l') = r at tE ⊢;clear hR;cases r with
   | true =>
    go_enter Tryz.func34,Tryz.ntmps34;go_wp2_with (first|refine gd rfl _ rfl rfl ?_;try simp only [af];try rw [← kW.out]);go_ret;exact ⟨rfl,HC.out⟩
   | false =>
    go_enter Tryz.func34,Tryz.ntmps34;go_wp2_with (first|refine gd rfl _ rfl rfl ?_;try simp only [af];try rw [← kW.out]);go_ret;exact ⟨rfl,HC.out⟩
  ·have d2:((z:Int) == (z':Int)) = false:=aj (by omega);have d2':decide (z = z') = false:=ac h2;have hR:ed ⟨e,z,l⟩ ⟨e,z',l'⟩ = false:=(by simp [ed,h2]);rw [hR];clear hR h2 Cp By tE;go_enter Tryz.func34,Tryz.ntmps34;go_wp2_with (first|refine gd rfl _ rfl rfl ?_;try simp only [af];try rw [← kW.out]);go_ret;exact ⟨rfl,HC.out⟩
 ·have d1:(e == e') = false:=aj h1;have hR:ed ⟨e,z,l⟩ ⟨e',z',l'⟩ = false:=by simp [ed,h1]
  rw [hR];clear hR h1 Cp By tE;go_enter Tryz.func34,Tryz.ntmps34;go_wp2_with (first|refine gd rfl _ rfl rfl ?_;try simp only [af];try rw [← kW.out]);go_ret;exact ⟨rfl,HC.out⟩
theorem info30:(Tryz.prog.info? 45).map (·.size) = some 2:=by kernel_rfl
variable {b:Nat}
theorem dN {x:Cl} (h0:KB w b x v) (p m:Int):(storeVar 45 ⟨b,8,none⟩ (.agg #[.int .u8 p,.int .u8 m])).run Tryz.prog w = .ok () ((w.setCell ⟨b,8,none⟩ (.int .u8 p)).setCell ⟨b,9,none⟩ (.int .u8 m)):=by
 obtain ⟨c0,c1,c2,c3,c4,c5,c6,c7,c8,c9,c10,c11,cl,cf⟩:=ay h0;have rK:(sizeOf 45).run Tryz.prog w = .ok 2 w:=by simp [sizeOf];kernel_rfl
 simp [storeVar,storeCells,Value.cells,rK,go_sem,c8,c9,cf,cl]
variable {Q:Exit→Act→World→Prop} {K:Act→World→Prop} {a:Act} {o:Oper}
theorem yw {x:Cl} {p m:Int} (z t:Operand) (ho:o.op = .store 45 z t) (hx:a.eval z = .pointer (some ⟨b,8,none⟩)) (hy:a.eval t = .agg #[.int .u8 p,.int .u8 m]) (h0:KB w b x v)
  (h:K (a.put o.dst undef) ((w.setCell ⟨b,8,none⟩ (.int .u8 p)).setCell ⟨b,9,none⟩ (.int .u8 m))):o.wp Tryz.prog a w K Q:=by
 unfold Oper.wp execOp;simp only [ho,hx,hy,Instr.storeAt,Instr.sureAddr,Sem.run_bind,Sem.run_pure,Result.andThen_ok,dN h0 p m];exact h
section
variable {w:World} {m:Nat} {M:Mo} {sp:Nat→Option Nat} {vo ve:Value} {L:List Ob} {E:List Nat} {gb gm:Nat→Nat} {gs:Nat→Sq}
end
end Go.Proofs.YtfoleblcaloeoaaGreatDoor
namespace Go.Proofs.YtfoleblcaloeoaaGreatDoor
open Go Go.RowKit Go.ChangeShapes Go.WideShapes Go.ChangeAt Go.Deep
theorem cellsTw:Tryz.prog.cellsOf 49 = 17:=by kernel_rfl
theorem cells4:Tryz.prog.cellsOf 4 = 1:=by kernel_rfl
section
variable {H:Type} {enc:TypeId × Value→H} {w:World} {base:Nat} {spare:Nat→Bool} {held:Bool}
theorem open_two {fuel:Nat} {cs:List Value} {x:DataW H × List MemPlace} (hs:cs.length = 17) (h:DataW.trod enc Tryz.prog w base spare held fuel 49 cs = some x):∃t:Tw,cs = twl t∧TwOk w t:=by
 obtain ⟨n,hp⟩:=na Tryz.underlying49 h;obtain ⟨y0,vF⟩:=dv hp 0 rfl 47 0 12 rfl rfl cells47;obtain ⟨y1,ES⟩:=dv hp 1 rfl 40 12 3 rfl rfl cells40;obtain ⟨y2,ET⟩:=dv hp 2 rfl 4 15 1 rfl rfl cells4;obtain ⟨y3,hy3⟩:=dv hp 3 rfl 37 16 1 rfl rfl bB;obtain ⟨x1,v1,e1,FP,hv1,-⟩:=jO (cs:=((cs.drop 0).take 12).toArray) (by simp [hs]) ⟨_,vF⟩;obtain ⟨x2,v2,e2,EO,hv2,-⟩:=open_res (cs:=((cs.drop 12).take 3).toArray) (by simp [hs]) ⟨_,ES⟩;obtain ⟨b,e3,-⟩:=DataW.trod_bool Tryz.underlying4 ET;obtain ⟨hh,e4,hhh⟩:=bM Tryz.underlying37 hy3;refine ⟨⟨x1,v1,x2,v2,b,hh⟩,?_,FP,EO,hv1,hv2,hhh⟩;have e1':cs.take 12 = (clc x1 v1).toList:=by rw [← e1];simp
 have e2':(cs.drop 12).take 3 = (rsc x2 v2).toList:=by rw [← e2]
 have e3':cs[15]? = some (.bool b):=xu e3;show cs = (clc x1 v1).toList ++ ((rsc x2 v2).toList ++ [.bool b,.int .u64 hh]);rw [← e1',← e2'];have h5:cs.drop 15 = [.bool b,.int .u64 hh]:=by
  refine List.ext_getElem? fun i=>?_;rw [List.getElem?_drop]
  match i with
  | 0=>exact e3'
  | 1=>exact e4
  | i+2=>rw [List.getElem?_eq_none (by omega)];rfl
 rw [← h5];have h6:(cs.drop 12).take 3 ++ cs.drop 15 = cs.drop 12:=by have:=List.take_append_drop 3 (cs.drop 12);rw [List.drop_drop] at this;exact this
 rw [h6,List.take_append_drop]
theorem jP {fuel:Nat} {v:Value} {x:DataW H × List MemPlace} (h:DataW.trod enc Tryz.prog w base spare held fuel 27 [v] = some x):∃l:List Tw,RE twl 17 w v l∧(∀t∈l,TwOk w t)∧(l.length:Int)≤9223372036854775807:=by
 rcases open_slice Tryz.underlying27 h with ⟨sG,_⟩ | ⟨a,len,cap,m,n,D,Pl,sG,hb,hl,hm,Ew,hx,hi⟩
 ·injection sG with e;subst e;exact ⟨[],Rd.nil w 17 0 none,by simp,by simp⟩
 ·injection sG with e;subst e;have sX:len≤m:=by rw [Ew];split <;> omega
  have each:∀i,i < len→∃t:Tw,TwOk w t∧∀j u,(twl t)[j]? = some u→w.cell? ((a.add (i * 17)).add j) = some u:=by
   intro i hil;obtain ⟨cs',hc,ht'⟩:=hi i (by omega);rw [cellsTw] at hc;obtain ⟨_,Em,Cj⟩:=World.cells?_some hc;obtain ⟨o,ho,hr⟩:=open_two (by omega) ht';refine ⟨o,hr,fun j u hu=>?_⟩;have hj:j < 17:=by have:=(List.getElem?_eq_some_iff.1 hu).1;rwa [uj] at this
   rw [Cj j hj,← ho] at *;rw [← hu,List.getElem?_eq_getElem (by omega)]
  obtain ⟨l,vN,hp⟩:=iC each;refine ⟨l,⟨by rw [fz uj],some a,cap,by rw [vN],by rw [vN];exact hl,fun Cw=>?_⟩,fun o ho=>?_,by rw [vN];unfold maxLen at hm;omega⟩
  ·obtain ⟨g,off,rfl⟩:=xy (by have:=(hp 0 Cw).2 0 _ rfl;simpa using this);refine ⟨g,off,rfl,fun j u hu=>?_⟩;have hj:j < l.length * 17:=(by rw [← fz uj];exact (List.getElem?_eq_some_iff.1 hu).1);obtain ⟨q,r,rfl,hr⟩:∃q r,j = q * 17+r∧r < 17:=⟨j / 17,j % 17,by omega,by omega⟩;have hq:q < l.length:=(by omega);rw [ut uj l q r hq hr] at hu;have:=(hp q hq).2 r u hu;rw [Addr.add_lit,Addr.add_lit,Nat.add_assoc] at this;exact this
  ·obtain ⟨i,hi,rfl⟩:=List.getElem_of_mem ho;exact (hp i hi).1
end
