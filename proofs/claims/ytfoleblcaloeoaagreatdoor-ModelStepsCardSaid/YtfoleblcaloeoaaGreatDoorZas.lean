import Derived.Test.YtfoleblcaloeoaaGreatDoorZar
set_option maxHeartbeats 40000000
set_option maxRecDepth 20000
namespace Go.Proofs.YtfoleblcaloeoaaGreatDoor
open Go Go.RowKit
theorem sub1 {j:Nat} (h:1≤j):Value.int .i64 ((j:Int) - 1) = .int .i64 ((j - 1:Nat):Int):=by congr 1;omega
variable {w:World} {S:Nat→Prop}
theorem peq_w {g off c n a b p:Nat} (h:US w g off c n S) (hb:b≤n) (Ec:a≤p) (sY:p < b) (hn:n≤1000) :
  Calls Tryz.prog 131 #[.slice (some ⟨g,off,none⟩) n c,.int .i64 (a:Nat),.int .i64 (b:Nat),.int .i64 (p:Nat)] w fun e w'=>(∃q:Nat,e = .returned (.int .i64 (q:Nat))∧a < q∧q≤b)∧US w' g off c n S∧Chg [g] w w':=by
 have hU:=bk h;have hC:=bk (av [g] w);have oU:(n:Int)≤1000:=by omega
 have nH:(b:Int)≤(n:Int):=by omega
 have Ci:(a:Int) < (b:Int):=by omega
 have HB:=bk (show b≤n∧a≤p∧p < b∧a < b∧n≤1000 by omega);clear h hb Ec sY hn;go_enter Tryz.func131,Tryz.ntmps131;go_upto_region 1 with (fail)
 go_cut [] from 11 to 24 (fun W=>Hid (US W g off c n S)∧Hid (Chg [g] w W))
 case first =>
  have HX:=bk (show a < n∧p < n by have:=HB.out;omega);obtain ⟨x,hx,q1⟩:=hU.out.cell (k:=a) HX.out.1;have f1:=hU.out.frozen (off+a);have k1:(a:Int) < (n:Int):=by have:=HX.out;omega
  have k2:(p:Int) < (n:Int):=by have:=HX.out;omega
  by_cases e:a = p
  ·subst e;refine mz [0,0,0,0,0,0,0,1,0,0,0,1,0,3,0,3] ?_;go_wp2_with (first|refine cdA fun K U=>?_|refine bn fun K U=>?_;go_simp|refine bq ?_);go_meet
   case rel=>exact ⟨bk ((show US w.drew g off c n S from hU.out).swap HX.out.1 HX.out.2 hx hx),bk ((hC.out.trans (eh _ _ _ _ _ _) (fun y hy=>.inl hy)).drew)⟩
  ·have e':¬ p = a:=fun h=>e h.symm;obtain ⟨y,hy,q0⟩:=hU.out.cell (k:=p) HX.out.2;have f0:=hU.out.frozen (off+p);refine mz [0,0,0,0,0,0,0,1,0,0,0,1,0,3,0,3] ?_;go_wp2_with (first|refine cdA fun K U=>?_|refine bn fun K U=>?_;go_simp|refine bq ?_);go_meet
   case rel=>exact ⟨bk ((show US w.drew g off c n S from hU.out).swap HX.out.1 HX.out.2 hy hx),bk ((hC.out.trans (eh _ _ _ _ _ _) (fun y hy=>.inl hy)).drew)⟩
 case rest =>
  clear hU hC;obtain ⟨hU,hC⟩:=hcut;go_wp2_with fail;go_loopw [9,10] (fun s t W=>∃i j:Nat,s = .int .i64 (i:Nat)∧t = .int .i64 (j:Nat)∧Hid (a+1≤i∧i≤b)∧Hid (a≤j∧j < b)∧Hid (US W g off c n S)∧Hid (Chg [g] w W)) (fun s _ _=>n+1 - (intOf s).toNat)
  case atStart=>exact ⟨a+1,b - 1,by go_num,sub1 (by have:=HB.out;omega),bk (by have:=HB.out;omega),bk (by have:=HB.out;omega),hU,hC⟩
  case round =>
   clear hU hC;obtain ⟨i0,j,rfl,rfl,sT,hj,hU,hC⟩:=hrel;go_upto_block 2 with (fail)
   go_cut [9] from 29 to 82 (fun z W=>∃i:Nat,z = .int .i64 (i:Nat)∧Hid (i0≤i∧a+1≤i∧i≤b)∧Hid (US W g off c n S)∧Hid (Chg [g] w W))
   case first =>
    go_wp2_with fail;go_loopw [9] (fun z W=>∃i:Nat,Hid (i0≤i∧a+1≤i∧i≤b)∧z = .int .i64 (i:Nat)∧Hid (US W g off c n S)∧Hid (Chg [g] w W)) (fun z _=>n+1 - (intOf z).toNat)
    case atStart=>exact ⟨i0,bk ⟨Nat.le_refl _,sT.out.1,sT.out.2⟩,rfl,hU,hC⟩
    case round =>
     clear hU hC;obtain ⟨i,hi,rfl,hU,hC⟩:=hrel;by_cases kG:i≤j
     ·have HI:=bk (show i0≤i∧a+1≤i∧i≤j∧j < b by have:=hi.out;have:=hj.out;omega);obtain ⟨x,-,q1⟩:=hU.out.cell (k:=a) (by have:=HB.out;have:=HI.out;omega);obtain ⟨y,-,q0⟩:=hU.out.cell (k:=i) (by have:=HB.out;have:=HI.out;omega);have d1:decide ((i:Int)≤(j:Int)) = true:=ae (by omega);have d2:decide (i≤j) = true:=ae kG;have k1:(a:Int) < (n:Int):=(by have:=HB.out;have:=HI.out;omega);have k2:(i:Int) < (n:Int):=(by have:=HB.out;have:=HI.out;omega);clear kG;go_upto_region 3 with (fail)
      refine rgt [0,0,0,0,0,0,0,1,0,0,0,1,3,0,0] [none,none,none,none,some (32,true),some (32,true),some (32,true),some (32,true),some (32,true),some (32,true),some (32,true),some (32,true),some (32,true),some (32,true),none] (fun _=>True) ?_;go_wp2_with (first|refine cdA fun K U=>?_|refine cx ?_;go_simp|refine cy ?_|refine bn fun K U=>?_;go_simp|refine bq ?_);refine (gr x y _).mono ?_;rintro e W7 ⟨⟨z,rfl⟩,rfl⟩;refine U _ _ ?_;clear U K;cases z with
      | true =>
       go_wp2_with (first|refine cdA fun K U=>?_|refine cx ?_;go_simp|refine cy ?_|refine bn fun K U=>?_;go_simp|refine bq ?_);go_meet
       case rel=>exact ⟨i,rfl,bk (by have:=HI.out;omega),bk (show US wr.drew g off c n S from hU.out),bk hC.out.drew⟩
      | false =>
       go_wp2_with (first|refine cdA fun K U=>?_|refine cx ?_;go_simp|refine cy ?_|refine bn fun K U=>?_;go_simp|refine bq ?_);go_roundw
       case rel=>exact ⟨i+1,bk (by have:=HI.out;omega),by go_num,bk (show US wr.drew g off c n S from hU.out),bk hC.out.drew⟩
       case measure=>have:=HI.out;have:=HB.out;simp [intOf];omega
     ·have HI:=bk (show i0≤i∧a+1≤i∧i≤b by have:=hi.out;omega);have d1:decide ((i:Int)≤(j:Int)) = false:=ac (by omega);have d2:decide (i≤j) = false:=ac kG;clear kG;go_upto_region 3 with (fail)
      refine rgt [0,0,0,0,0,0,0,1,0,0,0,1,3,0,0] [none,none,none,none,some (32,true),some (32,true),some (32,true),some (32,true),some (32,true),some (32,true),some (32,true),some (32,true),some (32,true),some (32,true),none] (fun _=>True) ?_;go_wp2_with (first|refine cdA fun K U=>?_|refine cx ?_;go_simp|refine cy ?_|refine bn fun K U=>?_;go_simp|refine bq ?_);go_meet
      case rel=>exact ⟨i,rfl,HI,bk (show US wr.drew g off c n S from hU.out),bk hC.out.drew⟩
   case rest =>
    clear hU hC;obtain ⟨i,rfl,hi,hU,hC⟩:=hcut;go_upto_block 4 with (fail)
    go_cut [10] from 29 to 82 (fun z W=>∃j:Nat,z = .int .i64 (j:Nat)∧Hid (a≤j∧j < b)∧Hid (US W g off c n S)∧Hid (Chg [g] w W))
    case first =>
     go_wp2_with fail;go_loopw [10] (fun z W=>∃j:Nat,Hid (a≤j∧j < b)∧z = .int .i64 (j:Nat)∧Hid (US W g off c n S)∧Hid (Chg [g] w W)) (fun z _=>(intOf z).toNat)
     case atStart=>exact ⟨j,hj,rfl,hU,hC⟩
     case round =>
      clear hU hC hj;obtain ⟨j,hj,rfl,hU,hC⟩:=hrel;by_cases kG:i≤j
      ·have HI:=bk (show a+1≤i∧i≤j∧j < b by have:=hi.out;have:=hj.out;omega);obtain ⟨x,-,q1⟩:=hU.out.cell (k:=a) (by have:=HB.out;have:=HI.out;omega);obtain ⟨y,-,q0⟩:=hU.out.cell (k:=j) (by have:=HB.out;have:=HI.out;omega);have d1:decide ((i:Int)≤(j:Int)) = true:=ae (by omega);have d2:decide (i≤j) = true:=ae kG;have k1:(a:Int) < (n:Int):=(by have:=HB.out;have:=HI.out;omega);have k2:(j:Int) < (n:Int):=(by have:=HB.out;have:=HI.out;omega);clear kG;go_upto_region 5 with (fail)
       refine rgt [0,0,0,0,0,0,0,1,0,0,0,1,3,0] [none,none,none,none,some (49,true),some (49,true),some (49,true),some (49,true),some (49,true),some (49,true),some (49,true),some (49,true),some (49,true),none] (fun _=>True) ?_;go_wp2_with (first|refine cdA fun K U=>?_|refine cx ?_;go_simp|refine cy ?_|refine bn fun K U=>?_;go_simp|refine bq ?_);refine (gr x y _).mono ?_;rintro e W7 ⟨⟨z,rfl⟩,rfl⟩;refine U _ _ ?_;clear U K;cases z with
       | true =>
        go_wp2_with (first|refine cdA fun K U=>?_|refine cx ?_;go_simp|refine cy ?_|refine bn fun K U=>?_;go_simp|refine bq ?_);go_roundw
        case rel=>exact ⟨j - 1,bk (by have:=HI.out;omega),sub1 (by have:=HI.out;omega),bk (show US wr.drew g off c n S from hU.out),bk hC.out.drew⟩
        case measure=>have:=HI.out;have:=HB.out;simp [intOf];omega
       | false =>
        go_wp2_with (first|refine cdA fun K U=>?_|refine cx ?_;go_simp|refine cy ?_|refine bn fun K U=>?_;go_simp|refine bq ?_);go_meet
        case rel=>exact ⟨j,rfl,bk (by have:=HI.out;omega),bk (show US wr.drew g off c n S from hU.out),bk hC.out.drew⟩
      ·have HI:=bk (show a≤j∧j < b by have:=hj.out;omega);have d1:decide ((i:Int)≤(j:Int)) = false:=ac (by omega);have d2:decide (i≤j) = false:=ac kG;clear kG;go_upto_region 5 with (fail)
       refine rgt [0,0,0,0,0,0,0,1,0,0,0,1,3,0] [none,none,none,none,some (49,true),some (49,true),some (49,true),some (49,true),some (49,true),some (49,true),some (49,true),some (49,true),some (49,true),none] (fun _=>True) ?_;go_wp2_with (first|refine cdA fun K U=>?_|refine cx ?_;go_simp|refine cy ?_|refine bn fun K U=>?_;go_simp|refine bq ?_);go_meet
       case rel=>exact ⟨j,rfl,HI,bk (show US wr.drew g off c n S from hU.out),bk hC.out.drew⟩
    case rest =>
     clear hU hC hj;obtain ⟨j,rfl,hj,hU,hC⟩:=hcut;by_cases kG:j < i
     ·have d1:decide ((j:Int) < (i:Int)) = true:=ae (by omega);have d2:decide (j < i) = true:=ae kG;have HI:=bk (show a < i∧i≤b by have:=hi.out;omega);clear kG;go_wp2_with fail;go_ret;exact ⟨⟨i,rfl,HI.out.1,HI.out.2⟩,hU.out,hC.out⟩
     ·have d1:decide ((j:Int) < (i:Int)) = false:=ac (by omega);have d2:decide (j < i) = false:=ac kG;have HI:=bk (show i0≤i∧a+1≤i∧i≤j∧j < b∧b≤n by have:=hi.out;have:=hj.out;have:=HB.out;omega);clear kG;go_upto_region 8 with (fail)
      go_cut [] from 29 to 82 (fun W=>Hid (US W g off c n S)∧Hid (Chg [g] w W))
      case first =>
       have HX:=bk (show i < n∧j < n by have:=HI.out;omega);obtain ⟨x,hx,q1⟩:=hU.out.cell (k:=i) HX.out.1;have f1:=hU.out.frozen (off+i);have k1:(i:Int) < (n:Int):=(by have:=HX.out;omega);have k2:(j:Int) < (n:Int):=(by have:=HX.out;omega);by_cases e:i = j
       ·subst e;refine mz [0,0,0,0,0,0,0,1,0,0,0,1,0,3,0,3] ?_;go_wp2_with (first|refine cdA fun K U=>?_|refine bn fun K U=>?_;go_simp|refine bq ?_);go_meet
        case rel=>exact ⟨bk ((show US wc.drew g off c n S from hU.out).swap HX.out.1 HX.out.2 hx hx),bk ((hC.out.trans (eh _ _ _ _ _ _) (fun y hy=>.inl hy)).drew)⟩
       ·have e':¬ j = i:=fun h=>e h.symm;obtain ⟨y,hy,q0⟩:=hU.out.cell (k:=j) HX.out.2;have f0:=hU.out.frozen (off+j);refine mz [0,0,0,0,0,0,0,1,0,0,0,1,0,3,0,3] ?_;go_wp2_with (first|refine cdA fun K U=>?_|refine bn fun K U=>?_;go_simp|refine bq ?_);go_meet
        case rel=>exact ⟨bk ((show US wc.drew g off c n S from hU.out).swap HX.out.1 HX.out.2 hy hx),bk ((hC.out.trans (eh _ _ _ _ _ _) (fun y hy=>.inl hy)).drew)⟩
      case rest =>
       clear hU hC;obtain ⟨hU,hC⟩:=hcut;have b1:(i:Int)≤1000:=(by have:=HI.out;omega);have b2:(j:Int)≤1000:=(by have:=HI.out;omega);go_wp2_with fail;go_roundw
       case rel=>exact ⟨i+1,j - 1,by go_num,sub1 (by have:=HI.out;omega),bk (by have:=HI.out;omega),bk (by have:=HI.out;omega),hU,hC⟩
       case measure=>have:=HI.out;simp [intOf];omega
theorem prt_w {g off c n a b p:Nat} (h:US w g off c n S) (hb:b≤n) (Ec:a≤p) (sY:p < b) (hn:n≤1000) :
  Calls Tryz.prog 132 #[.slice (some ⟨g,off,none⟩) n c,.int .i64 (a:Nat),.int .i64 (b:Nat),.int .i64 (p:Nat)] w fun e w'=>(∃(q:Nat) (z:Bool),e = .returned (.tuple #[.int .i64 (q:Nat),.bool z])∧a≤q∧q < b)∧US w' g off c n S∧Chg [g] w w':=by
 have hU:=bk h;have hC:=bk (av [g] w);have oU:(n:Int)≤1000:=by omega
 have nH:(b:Int)≤(n:Int):=by omega
 have Ci:(a:Int) < (b:Int):=by omega
 have HB:=bk (show b≤n∧a≤p∧p < b∧a < b∧n≤1000 by omega);clear h hb Ec sY hn;go_enter Tryz.func132,Tryz.ntmps132;go_upto_region 1 with (fail)
 go_cut [] from 12 to 25 (fun W=>Hid (US W g off c n S)∧Hid (Chg [g] w W))
 case first =>
  have HX:=bk (show a < n∧p < n by have:=HB.out;omega);obtain ⟨x,hx,q1⟩:=hU.out.cell (k:=a) HX.out.1;have f1:=hU.out.frozen (off+a);have k1:(a:Int) < (n:Int):=by have:=HX.out;omega
  have k2:(p:Int) < (n:Int):=by have:=HX.out;omega
  by_cases e:a = p
  ·subst e;refine mz [0,0,0,0,0,0,0,1,0,0,0,1,0,3,0,3] ?_;go_wp2_with (first|refine cdA fun K U=>?_|refine bn fun K U=>?_;go_simp|refine bq ?_);go_meet
   case rel=>exact ⟨bk ((show US w.drew g off c n S from hU.out).swap HX.out.1 HX.out.2 hx hx),bk ((hC.out.trans (eh _ _ _ _ _ _) (fun y hy=>.inl hy)).drew)⟩
  ·have e':¬ p = a:=fun h=>e h.symm;obtain ⟨y,hy,q0⟩:=hU.out.cell (k:=p) HX.out.2;have f0:=hU.out.frozen (off+p);refine mz [0,0,0,0,0,0,0,1,0,0,0,1,0,3,0,3] ?_;go_wp2_with (first|refine cdA fun K U=>?_|refine bn fun K U=>?_;go_simp|refine bq ?_);go_meet
   case rel=>exact ⟨bk ((show US w.drew g off c n S from hU.out).swap HX.out.1 HX.out.2 hy hx),bk ((hC.out.trans (eh _ _ _ _ _ _) (fun y hy=>.inl hy)).drew)⟩
 case rest =>
  clear hU hC;obtain ⟨hU,hC⟩:=hcut;obtain ⟨i0,hi0'⟩:∃i:Nat,(a:Int)+1 = (i:Int):=⟨a+1,by omega⟩;obtain ⟨j,sH⟩:∃j:Nat,(b:Int) - 1 = (j:Int):=⟨b - 1,by omega⟩;have sT:=bk (show a+1≤i0∧i0≤b by have:=HB.out;omega);have hj:=bk (show a≤j∧j < b by have:=HB.out;omega);go_upto_block 0 with (fail)
  go_cut [10] from 30 to 45 (fun z W=>∃i:Nat,z = .int .i64 (i:Nat)∧Hid (a+1≤i∧i≤b)∧Hid (US W g off c n S)∧Hid (Chg [g] w W))
  case first =>
   go_wp2_with fail;go_loopw [10] (fun z W=>∃i:Nat,Hid (a+1≤i∧i≤b)∧z = .int .i64 (i:Nat)∧Hid (US W g off c n S)∧Hid (Chg [g] w W)) (fun z _=>n+1 - (intOf z).toNat)
   case atStart=>exact ⟨i0,sT,rfl,hU,hC⟩
   case round =>
    clear hU hC;obtain ⟨i,hi,rfl,hU,hC⟩:=hrel;by_cases kG:i≤j
    ·have HI:=bk (show a+1≤i∧i≤j∧j < b by have:=hi.out;have:=hj.out;omega);obtain ⟨x,-,q1⟩:=hU.out.cell (k:=i) (by have:=HB.out;have:=HI.out;omega);obtain ⟨y,-,q0⟩:=hU.out.cell (k:=a) (by have:=HB.out;have:=HI.out;omega);have d1:decide ((i:Int)≤(j:Int)) = true:=ae (by omega);have d2:decide (i≤j) = true:=ae kG;have k1:(i:Int) < (n:Int):=(by have:=HB.out;have:=HI.out;omega);have k2:(a:Int) < (n:Int):=(by have:=HB.out;have:=HI.out;omega);clear kG;go_upto_region 3 with (fail)
     refine rgt [0,0,0,0,0,0,0,1,0,0,0,1,3,0] [none,none,none,none,some (33,true),some (33,true),some (33,true),some (33,true),some (33,true),some (33,true),some (33,true),some (33,true),some (33,true),none] (fun _=>True) ?_;go_wp2_with (first|refine cdA fun K U=>?_|refine cx ?_;go_simp|refine cy ?_|refine bn fun K U=>?_;go_simp|refine bq ?_);refine (gr x y _).mono ?_;rintro e W7 ⟨⟨z,rfl⟩,rfl⟩;refine U _ _ ?_;clear U K;cases z with
     | true =>
      go_wp2_with (first|refine cdA fun K U=>?_|refine cx ?_;go_simp|refine cy ?_|refine bn fun K U=>?_;go_simp|refine bq ?_);go_roundw
      case rel=>exact ⟨i+1,bk (by have:=HI.out;omega),by go_num,bk (show US wr.drew g off c n S from hU.out),bk hC.out.drew⟩
      case measure=>have:=HI.out;have:=HB.out;simp [intOf];omega
     | false =>
      go_wp2_with (first|refine cdA fun K U=>?_|refine cx ?_;go_simp|refine cy ?_|refine bn fun K U=>?_;go_simp|refine bq ?_);go_meet
      case rel=>exact ⟨i,rfl,bk (by have:=HI.out;omega),bk (show US wr.drew g off c n S from hU.out),bk hC.out.drew⟩
    ·have HI:=bk (show a+1≤i∧i≤b by have:=hi.out;omega);have d1:decide ((i:Int)≤(j:Int)) = false:=ac (by omega);have d2:decide (i≤j) = false:=ac kG;clear kG;go_upto_region 3 with (fail)
     refine rgt [0,0,0,0,0,0,0,1,0,0,0,1,3,0] [none,none,none,none,some (33,true),some (33,true),some (33,true),some (33,true),some (33,true),some (33,true),some (33,true),some (33,true),some (33,true),none] (fun _=>True) ?_;go_wp2_with (first|refine cdA fun K U=>?_|refine cx ?_;go_simp|refine cy ?_|refine bn fun K U=>?_;go_simp|refine bq ?_);go_meet
     case rel=>exact ⟨i,rfl,HI,bk (show US wr.drew g off c n S from hU.out),bk hC.out.drew⟩
  case rest =>
   clear hU hC sT hi0';obtain ⟨i,rfl,hi,hU,hC⟩:=hcut;go_upto_block 2 with (fail)
   go_cut [11] from 46 to 62 (fun z W=>∃j:Nat,z = .int .i64 (j:Nat)∧Hid (a≤j∧j < b)∧Hid (US W g off c n S)∧Hid (Chg [g] w W))
   case first =>
    go_wp2_with fail;go_loopw [11] (fun z W=>∃j:Nat,Hid (a≤j∧j < b)∧z = .int .i64 (j:Nat)∧Hid (US W g off c n S)∧Hid (Chg [g] w W)) (fun z _=>(intOf z).toNat)
    case atStart=>exact ⟨j,hj,rfl,hU,hC⟩
    case round =>
     clear hU hC hj;obtain ⟨j,hj,rfl,hU,hC⟩:=hrel;by_cases kG:i≤j
     ·have HI:=bk (show a+1≤i∧i≤j∧j < b by have:=hi.out;have:=hj.out;omega);obtain ⟨x,-,q1⟩:=hU.out.cell (k:=j) (by have:=HB.out;have:=HI.out;omega);obtain ⟨y,-,q0⟩:=hU.out.cell (k:=a) (by have:=HB.out;have:=HI.out;omega);have d1:decide ((i:Int)≤(j:Int)) = true:=ae (by omega);have d2:decide (i≤j) = true:=ae kG;have k1:(j:Int) < (n:Int):=(by have:=HB.out;have:=HI.out;omega);have k2:(a:Int) < (n:Int):=(by have:=HB.out;have:=HI.out;omega);clear kG;go_upto_region 5 with (fail)
      refine rgt [0,0,0,0,0,0,0,1,0,0,0,1,3,0,0] [none,none,none,none,some (49,true),some (49,true),some (49,true),some (49,true),some (49,true),some (49,true),some (49,true),some (49,true),some (49,true),some (49,true),none] (fun _=>True) ?_;go_wp2_with (first|refine cdA fun K U=>?_|refine cx ?_;go_simp|refine cy ?_|refine bn fun K U=>?_;go_simp|refine bq ?_);refine (gr x y _).mono ?_;rintro e W7 ⟨⟨z,rfl⟩,rfl⟩;refine U _ _ ?_;clear U K;cases z with
      | true =>
       go_wp2_with (first|refine cdA fun K U=>?_|refine cx ?_;go_simp|refine cy ?_|refine bn fun K U=>?_;go_simp|refine bq ?_);go_meet
       case rel=>exact ⟨j,rfl,bk (by have:=HI.out;omega),bk (show US wr.drew g off c n S from hU.out),bk hC.out.drew⟩
      | false =>
       go_wp2_with (first|refine cdA fun K U=>?_|refine cx ?_;go_simp|refine cy ?_|refine bn fun K U=>?_;go_simp|refine bq ?_);go_roundw
       case rel=>exact ⟨j - 1,bk (by have:=HI.out;omega),sub1 (by have:=HI.out;omega),bk (show US wr.drew g off c n S from hU.out),bk hC.out.drew⟩
       case measure=>have:=HI.out;have:=HB.out;simp [intOf];omega
     ·have HI:=bk (show a≤j∧j < b by have:=hj.out;omega);have d1:decide ((i:Int)≤(j:Int)) = false:=ac (by omega);have d2:decide (i≤j) = false:=ac kG;clear kG;go_upto_region 5 with (fail)
      refine rgt [0,0,0,0,0,0,0,1,0,0,0,1,3,0,0] [none,none,none,none,some (49,true),some (49,true),some (49,true),some (49,true),some (49,true),some (49,true),some (49,true),some (49,true),some (49,true),some (49,true),none] (fun _=>True) ?_;go_wp2_with (first|refine cdA fun K U=>?_|refine cx ?_;go_simp|refine cy ?_|refine bn fun K U=>?_;go_simp|refine bq ?_);go_meet
      case rel=>exact ⟨j,rfl,HI,bk (show US wr.drew g off c n S from hU.out),bk hC.out.drew⟩
   case rest =>
    clear hU hC hj sH;obtain ⟨j,rfl,hj,hU,hC⟩:=hcut;by_cases kG:j < i
    ·have d1:decide ((j:Int) < (i:Int)) = true:=ae (by omega);have d2:decide (j < i) = true:=ae kG;have HI:=hj;clear kG;go_upto_region 8 with (fail)
     go_cut [] from 66 to 79 (fun W=>Hid (US W g off c n S)∧Hid (Chg [g] w W))
     case first =>
      have HX:=bk (show j < n∧a < n by have:=HI.out;have:=HB.out;omega);obtain ⟨x,hx,q1⟩:=hU.out.cell (k:=j) HX.out.1;have f1:=hU.out.frozen (off+j);have k1:(j:Int) < (n:Int):=(by have:=HX.out;omega);have k2:(a:Int) < (n:Int):=(by have:=HX.out;omega);by_cases e:j = a
      ·subst e;refine mz [0,0,0,0,0,0,0,1,0,0,0,1,0,3,0,3] ?_;go_wp2_with (first|refine cdA fun K U=>?_|refine bn fun K U=>?_;go_simp|refine bq ?_);go_meet
       case rel=>exact ⟨bk ((show US wc.drew g off c n S from hU.out).swap HX.out.1 HX.out.2 hx hx),bk ((hC.out.trans (eh _ _ _ _ _ _) (fun y hy=>.inl hy)).drew)⟩
      ·have e':¬ a = j:=fun h=>e h.symm;obtain ⟨y,hy,q0⟩:=hU.out.cell (k:=a) HX.out.2;have f0:=hU.out.frozen (off+a);refine mz [0,0,0,0,0,0,0,1,0,0,0,1,0,3,0,3] ?_;go_wp2_with (first|refine cdA fun K U=>?_|refine bn fun K U=>?_;go_simp|refine bq ?_);go_meet
       case rel=>exact ⟨bk ((show US wc.drew g off c n S from hU.out).swap HX.out.1 HX.out.2 hy hx),bk ((hC.out.trans (eh _ _ _ _ _ _) (fun y hy=>.inl hy)).drew)⟩
     case rest =>
      clear hU hC;obtain ⟨hU,hC⟩:=hcut;go_wp2_with fail;go_ret2;exact ⟨⟨j,true,rfl,HI.out.1,HI.out.2⟩,hU.out,hC.out⟩
    ·have d1:decide ((j:Int) < (i:Int)) = false:=ac (by omega);have d2:decide (j < i) = false:=ac kG;have HI:=bk (show a+1≤i∧i≤j∧j < b∧b≤n by have:=hi.out;have:=hj.out;have:=HB.out;omega);clear kG;go_upto_region 10 with (fail)
     go_cut [] from 81 to 94 (fun W=>Hid (US W g off c n S)∧Hid (Chg [g] w W))
     case first =>
      have HX:=bk (show i < n∧j < n by have:=HI.out;omega);obtain ⟨x,hx,q1⟩:=hU.out.cell (k:=i) HX.out.1;have f1:=hU.out.frozen (off+i);have k1:(i:Int) < (n:Int):=(by have:=HX.out;omega);have k2:(j:Int) < (n:Int):=(by have:=HX.out;omega);by_cases e:i = j
      ·subst e;refine mz [0,0,0,0,0,0,0,1,0,0,0,1,0,3,0,3] ?_;go_wp2_with (first|refine cdA fun K U=>?_|refine bn fun K U=>?_;go_simp|refine bq ?_);go_meet
       case rel=>exact ⟨bk ((show US wc.drew g off c n S from hU.out).swap HX.out.1 HX.out.2 hx hx),bk ((hC.out.trans (eh _ _ _ _ _ _) (fun y hy=>.inl hy)).drew)⟩
      ·have e':¬ j = i:=fun h=>e h.symm;obtain ⟨y,hy,q0⟩:=hU.out.cell (k:=j) HX.out.2;have f0:=hU.out.frozen (off+j);refine mz [0,0,0,0,0,0,0,1,0,0,0,1,0,3,0,3] ?_;go_wp2_with (first|refine cdA fun K U=>?_|refine bn fun K U=>?_;go_simp|refine bq ?_);go_meet
       case rel=>exact ⟨bk ((show US wc.drew g off c n S from hU.out).swap HX.out.1 HX.out.2 hy hx),bk ((hC.out.trans (eh _ _ _ _ _ _) (fun y hy=>.inl hy)).drew)⟩
     case rest =>
      clear hU hC;obtain ⟨hU,hC⟩:=hcut;have b1:(i:Int)≤1000:=(by have:=HI.out;omega);have b2:(j:Int)≤1000:=(by have:=HI.out;omega);go_wp2_with fail;go_loopw [10,11] (fun s t W=>∃i j:Nat,s = .int .i64 (i:Nat)∧t = .int .i64 (j:Nat)∧Hid (a+1≤i∧i≤b)∧Hid (a≤j∧j < b)∧Hid (US W g off c n S)∧Hid (Chg [g] w W)) (fun s _ _=>n+1 - (intOf s).toNat)
      case atStart=>exact ⟨i+1,j - 1,by go_num,sub1 (by have:=HI.out;omega),bk (by have:=HI.out;omega),bk (by have:=HI.out;omega),hU,hC⟩
      case round =>
       clear hU hC hi hj HI b1 b2 d1 d2;obtain ⟨i0,j,rfl,rfl,sT,hj,hU,hC⟩:=hrel;go_upto_block 6 with (fail)
       go_cut [10] from 99 to 152 (fun z W=>∃i:Nat,z = .int .i64 (i:Nat)∧Hid (i0≤i∧a+1≤i∧i≤b)∧Hid (US W g off c n S)∧Hid (Chg [g] w W))
       case first =>
        go_wp2_with fail;go_loopw [10] (fun z W=>∃i:Nat,Hid (i0≤i∧a+1≤i∧i≤b)∧z = .int .i64 (i:Nat)∧Hid (US W g off c n S)∧Hid (Chg [g] w W)) (fun z _=>n+1 - (intOf z).toNat)
        case atStart=>exact ⟨i0,bk ⟨Nat.le_refl _,sT.out.1,sT.out.2⟩,rfl,hU,hC⟩
        case round =>
         clear hU hC;obtain ⟨i,hi,rfl,hU,hC⟩:=hrel;by_cases kG:i≤j
         ·have HI:=bk (show i0≤i∧a+1≤i∧i≤j∧j < b by have:=hi.out;have:=hj.out;omega);obtain ⟨x,-,q1⟩:=hU.out.cell (k:=i) (by have:=HB.out;have:=HI.out;omega);obtain ⟨y,-,q0⟩:=hU.out.cell (k:=a) (by have:=HB.out;have:=HI.out;omega);have d1:decide ((i:Int)≤(j:Int)) = true:=ae (by omega);have d2:decide (i≤j) = true:=ae kG;have k1:(i:Int) < (n:Int):=(by have:=HB.out;have:=HI.out;omega);have k2:(a:Int) < (n:Int):=(by have:=HB.out;have:=HI.out;omega);clear kG;go_upto_region 13 with (fail)
          refine rgt [0,0,0,0,0,0,0,1,0,0,0,1,3,0] [none,none,none,none,some (102,true),some (102,true),some (102,true),some (102,true),some (102,true),some (102,true),some (102,true),some (102,true),some (102,true),none] (fun _=>True) ?_;go_wp2_with (first|refine cdA fun K U=>?_|refine cx ?_;go_simp|refine cy ?_|refine bn fun K U=>?_;go_simp|refine bq ?_);refine (gr x y _).mono ?_;rintro e W7 ⟨⟨z,rfl⟩,rfl⟩;refine U _ _ ?_;clear U K;cases z with
          | true =>
           go_wp2_with (first|refine cdA fun K U=>?_|refine cx ?_;go_simp|refine cy ?_|refine bn fun K U=>?_;go_simp|refine bq ?_);go_roundw
           case rel=>exact ⟨i+1,bk (by have:=HI.out;omega),by go_num,bk (show US wr.drew g off c n S from hU.out),bk hC.out.drew⟩
           case measure=>have:=HI.out;have:=HB.out;simp [intOf];omega
          | false =>
           go_wp2_with (first|refine cdA fun K U=>?_|refine cx ?_;go_simp|refine cy ?_|refine bn fun K U=>?_;go_simp|refine bq ?_);go_meet
           case rel=>exact ⟨i,rfl,bk (by have:=HI.out;omega),bk (show US wr.drew g off c n S from hU.out),bk hC.out.drew⟩
         ·have HI:=bk (show i0≤i∧a+1≤i∧i≤b by have:=hi.out;omega);have d1:decide ((i:Int)≤(j:Int)) = false:=ac (by omega);have d2:decide (i≤j) = false:=ac kG;clear kG;go_upto_region 13 with (fail)
          refine rgt [0,0,0,0,0,0,0,1,0,0,0,1,3,0] [none,none,none,none,some (102,true),some (102,true),some (102,true),some (102,true),some (102,true),some (102,true),some (102,true),some (102,true),some (102,true),none] (fun _=>True) ?_;go_wp2_with (first|refine cdA fun K U=>?_|refine cx ?_;go_simp|refine cy ?_|refine bn fun K U=>?_;go_simp|refine bq ?_);go_meet
          case rel=>exact ⟨i,rfl,HI,bk (show US wr.drew g off c n S from hU.out),bk hC.out.drew⟩
       case rest =>
        clear hU hC;obtain ⟨i,rfl,hi,hU,hC⟩:=hcut;go_upto_block 8 with (fail)
        go_cut [11] from 99 to 152 (fun z W=>∃j:Nat,z = .int .i64 (j:Nat)∧Hid (a≤j∧j < b)∧Hid (US W g off c n S)∧Hid (Chg [g] w W))
        case first =>
         go_wp2_with fail;go_loopw [11] (fun z W=>∃j:Nat,Hid (a≤j∧j < b)∧z = .int .i64 (j:Nat)∧Hid (US W g off c n S)∧Hid (Chg [g] w W)) (fun z _=>(intOf z).toNat)
         case atStart=>exact ⟨j,hj,rfl,hU,hC⟩
         case round =>
          clear hU hC hj;obtain ⟨j,hj,rfl,hU,hC⟩:=hrel;by_cases kG:i≤j
          ·have HI:=bk (show a+1≤i∧i≤j∧j < b by have:=hi.out;have:=hj.out;omega);obtain ⟨x,-,q1⟩:=hU.out.cell (k:=j) (by have:=HB.out;have:=HI.out;omega);obtain ⟨y,-,q0⟩:=hU.out.cell (k:=a) (by have:=HB.out;have:=HI.out;omega);have d1:decide ((i:Int)≤(j:Int)) = true:=ae (by omega);have d2:decide (i≤j) = true:=ae kG;have k1:(j:Int) < (n:Int):=(by have:=HB.out;have:=HI.out;omega);have k2:(a:Int) < (n:Int):=(by have:=HB.out;have:=HI.out;omega);clear kG;go_upto_region 15 with (fail)
           refine rgt [0,0,0,0,0,0,0,1,0,0,0,1,3,0,0] [none,none,none,none,some (118,true),some (118,true),some (118,true),some (118,true),some (118,true),some (118,true),some (118,true),some (118,true),some (118,true),some (118,true),none] (fun _=>True) ?_;go_wp2_with (first|refine cdA fun K U=>?_|refine cx ?_;go_simp|refine cy ?_|refine bn fun K U=>?_;go_simp|refine bq ?_);refine (gr x y _).mono ?_;rintro e W7 ⟨⟨z,rfl⟩,rfl⟩;refine U _ _ ?_;clear U K;cases z with
           | true =>
            go_wp2_with (first|refine cdA fun K U=>?_|refine cx ?_;go_simp|refine cy ?_|refine bn fun K U=>?_;go_simp|refine bq ?_);go_meet
            case rel=>exact ⟨j,rfl,bk (by have:=HI.out;omega),bk (show US wr.drew g off c n S from hU.out),bk hC.out.drew⟩
           | false =>
            go_wp2_with (first|refine cdA fun K U=>?_|refine cx ?_;go_simp|refine cy ?_|refine bn fun K U=>?_;go_simp|refine bq ?_);go_roundw
            case rel=>exact ⟨j - 1,bk (by have:=HI.out;omega),sub1 (by have:=HI.out;omega),bk (show US wr.drew g off c n S from hU.out),bk hC.out.drew⟩
            case measure=>have:=HI.out;have:=HB.out;simp [intOf];omega
          ·have HI:=bk (show a≤j∧j < b by have:=hj.out;omega);have d1:decide ((i:Int)≤(j:Int)) = false:=ac (by omega);have d2:decide (i≤j) = false:=ac kG;clear kG;go_upto_region 15 with (fail)
           refine rgt [0,0,0,0,0,0,0,1,0,0,0,1,3,0,0] [none,none,none,none,some (118,true),some (118,true),some (118,true),some (118,true),some (118,true),some (118,true),some (118,true),some (118,true),some (118,true),some (118,true),none] (fun _=>True) ?_;go_wp2_with (first|refine cdA fun K U=>?_|refine cx ?_;go_simp|refine cy ?_|refine bn fun K U=>?_;go_simp|refine bq ?_);go_meet
           case rel=>exact ⟨j,rfl,HI,bk (show US wr.drew g off c n S from hU.out),bk hC.out.drew⟩
        case rest =>
         clear hU hC hj;obtain ⟨j,rfl,hj,hU,hC⟩:=hcut;by_cases kG:j < i
         ·have d1:decide ((j:Int) < (i:Int)) = true:=ae (by omega);have d2:decide (j < i) = true:=ae kG;have HI:=hj;clear kG;go_upto_region 21 with (fail)
          go_cut [] from 153 to 166 (fun W=>Hid (US W g off c n S)∧Hid (Chg [g] w W))
          case first =>
           have HX:=bk (show j < n∧a < n by have:=HI.out;have:=HB.out;omega);obtain ⟨x,hx,q1⟩:=hU.out.cell (k:=j) HX.out.1;have f1:=hU.out.frozen (off+j);have k1:(j:Int) < (n:Int):=(by have:=HX.out;omega);have k2:(a:Int) < (n:Int):=(by have:=HX.out;omega);by_cases e:j = a
           ·subst e;refine mz [0,0,0,0,0,0,0,1,0,0,0,1,0,3,0,3] ?_;go_wp2_with (first|refine cdA fun K U=>?_|refine bn fun K U=>?_;go_simp|refine bq ?_);go_meet
            case rel=>exact ⟨bk ((show US wc.drew g off c n S from hU.out).swap HX.out.1 HX.out.2 hx hx),bk ((hC.out.trans (eh _ _ _ _ _ _) (fun y hy=>.inl hy)).drew)⟩
           ·have e':¬ a = j:=fun h=>e h.symm;obtain ⟨y,hy,q0⟩:=hU.out.cell (k:=a) HX.out.2;have f0:=hU.out.frozen (off+a);refine mz [0,0,0,0,0,0,0,1,0,0,0,1,0,3,0,3] ?_;go_wp2_with (first|refine cdA fun K U=>?_|refine bn fun K U=>?_;go_simp|refine bq ?_);go_meet
            case rel=>exact ⟨bk ((show US wc.drew g off c n S from hU.out).swap HX.out.1 HX.out.2 hy hx),bk ((hC.out.trans (eh _ _ _ _ _ _) (fun y hy=>.inl hy)).drew)⟩
          case rest =>
           clear hU hC;obtain ⟨hU,hC⟩:=hcut;go_wp2_with fail;go_ret2;exact ⟨⟨j,false,rfl,HI.out.1,HI.out.2⟩,hU.out,hC.out⟩
         ·have d1:decide ((j:Int) < (i:Int)) = false:=ac (by omega);have d2:decide (j < i) = false:=ac kG;have HI:=bk (show i0≤i∧a+1≤i∧i≤j∧j < b∧b≤n by have:=hi.out;have:=hj.out;have:=HB.out;omega);clear kG;go_upto_region 18 with (fail)
          go_cut [] from 99 to 152 (fun W=>Hid (US W g off c n S)∧Hid (Chg [g] w W))
          case first =>
           have HX:=bk (show i < n∧j < n by have:=HI.out;omega);obtain ⟨x,hx,q1⟩:=hU.out.cell (k:=i) HX.out.1;have f1:=hU.out.frozen (off+i);have k1:(i:Int) < (n:Int):=(by have:=HX.out;omega);have k2:(j:Int) < (n:Int):=(by have:=HX.out;omega);by_cases e:i = j
           ·subst e;refine mz [0,0,0,0,0,0,0,1,0,0,0,1,0,3,0,3] ?_;go_wp2_with (first|refine cdA fun K U=>?_|refine bn fun K U=>?_;go_simp|refine bq ?_);go_meet
            case rel=>exact ⟨bk ((show US wc.drew g off c n S from hU.out).swap HX.out.1 HX.out.2 hx hx),bk ((hC.out.trans (eh _ _ _ _ _ _) (fun y hy=>.inl hy)).drew)⟩
           ·have e':¬ j = i:=fun h=>e h.symm;obtain ⟨y,hy,q0⟩:=hU.out.cell (k:=j) HX.out.2;have f0:=hU.out.frozen (off+j);refine mz [0,0,0,0,0,0,0,1,0,0,0,1,0,3,0,3] ?_;go_wp2_with (first|refine cdA fun K U=>?_|refine bn fun K U=>?_;go_simp|refine bq ?_);go_meet
            case rel=>exact ⟨bk ((show US wc.drew g off c n S from hU.out).swap HX.out.1 HX.out.2 hy hx),bk ((hC.out.trans (eh _ _ _ _ _ _) (fun y hy=>.inl hy)).drew)⟩
          case rest =>
           clear hU hC;obtain ⟨hU,hC⟩:=hcut;have b1:(i:Int)≤1000:=(by have:=HI.out;omega);have b2:(j:Int)≤1000:=(by have:=HI.out;omega);go_wp2_with fail;go_roundw
           case rel=>exact ⟨i+1,j - 1,by go_num,sub1 (by have:=HI.out;omega),bk (by have:=HI.out;omega),bk (by have:=HI.out;omega),hU,hC⟩
           case measure=>have:=HI.out;simp [intOf];omega
