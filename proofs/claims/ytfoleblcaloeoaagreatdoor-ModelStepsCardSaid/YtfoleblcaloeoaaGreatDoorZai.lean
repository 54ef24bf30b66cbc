import Derived.Test.YtfoleblcaloeoaaGreatDoorZah
set_option maxHeartbeats 40000000
set_option maxRecDepth 20000
namespace Go.Proofs.YtfoleblcaloeoaaGreatDoor
open Go Go.RowKit
variable {v:Value} {x:Cl} {b:Nat} {Q:Exit→Act→World→Prop} {w:World} {o:Oper} {rest:List Oper} {ops:Array Oper}
theorem ky {a:Act} (z:Operand) (ho:o.op = .load 47 z)
  (hx:a.eval z = .pointer (some ⟨b,0,none⟩)) (hw:Region.wanted o (yielded ops a.tmps) = true) (h0:KB w b x v) (h:wpList Tryz.prog ops Q rest (a.put o.dst (.agg (clc x v))) w):wpList Tryz.prog ops Q (o :: rest) a w :=
 wpList_step fun K U=>by
  rw [ah hw]
  exact wp_load_row 47 z ho b hx 47 _ (0,0) _ h0 Tryz.underlying47 rfl fq (U _ _ h)
def hasB (x:Cl) (f:Nat):Bool:=(fld x.k).contains f
def kd (x:Cl):Int:=if hasB x 98 then (x.l.length:Int) else x.s
def accB (addr size of:Int):Bool:=decide ((1≤size∧size≤8)∧0≤addr∧addr≤of - size)
def t1K (x:Cl):Bool:=hasB x 99 && !(decide (1≤x.c∧x.c≤1024) && decide (0≤x.g∧x.g≤1024 - x.c))
def t2K (x:Cl):Bool:=hasB x 103 && !decide (0≤x.g∧x.g≤1023)
def t3K (x:Cl):Bool:=hasB x 114 && !decide (1≤(x.r:Int)∧(x.r:Int)≤3)
def t4K (c:Cf) (x:Cl):Bool:=hasB x 110 && !decide (0≤x.n∧x.n≤c 0 - 1)
noncomputable def t5K (c:Cf) (x:Cl):Bool:=hasB x 111 && !ub c x.ok x.om
def t6K (x:Cl):Bool:=(hasB x 97 && hasB x 104) && !accB x.a (kd x) 128
def t7K (x:Cl):Bool:=(hasB x 97 && hasB x 112) && !(accB x.a (kd x) 262144 && decide (x.a.tmod 256≤256 - kd x))
def t8K (x:Cl):Bool:=(x.k == 10) && !decide (1≤x.s∧x.s≤128)
noncomputable def dr (c:Cf) (x:Cl):Bool:=!mayB c || !mg x || (t1K x || (t2K x || (t3K x || (t4K c x || (t5K c x || (t6K x || (t7K x || t8K x)))))))
theorem rp {a:Act} {c:Cf} (x:Operand) (ho:o.op = .load 26 x)
  (hx:a.eval x = .pointer (some ⟨b,0,none⟩)) (hw:Region.wanted o (yielded ops a.tmps) = true) (h0:CB w b c) (h:wpList Tryz.prog ops Q rest (a.put o.dst (.agg (cg c))) w):wpList Tryz.prog ops Q (o :: rest) a w :=
 wpList_step fun K U=>by
  rw [ah hw]
  exact wp_load_row 26 x ho b hx 26 (cg c) (0,0) _ h0 Tryz.underlying26 rfl nj (U _ _ h)
structure WS (w W:World) (c:Cf) (x:Cl) (v:Value) (b:Nat):Prop where
 cfg:CB W w.heap.size c
 kb:KB W (w.heap.size+1) x v
 str:Blk W b 9 #[.string (ft (fld x.k))]
 chg:Chg [] w W
theorem WS.stay {w W W':World} {c:Cf} {x:Cl} {v:Value} {b:Nat} (h:WS w W c x v b) (hc:Chg [] W W'):WS w W' c x v b :=
 ⟨aw h.cfg hc ab,bh h.kb hc,aw h.str hc ab,h.chg.stay hc⟩
theorem WS.has {W:World} {c:Cf} (h:WS w W c x v b) (h0:0 < (fld x.k).length) {f:Nat} (hf:f < 128) :
  Calls Tryz.prog 58 #[.int .i32 f,.pointer (some ⟨b,0,none⟩)] W fun e w'=>e = .returned (.bool (hasB x f))∧WS w w' c x v b:=by
 refine (hasK_any h.str h0 (fun b hb=>fld_lt hb) hf).mono ?_;rintro e w' ⟨rfl,hc⟩;exact ⟨rfl,h.stay hc⟩
theorem xe (hf:FW w) (c:Cf) (hx:x.Ok) (hv:RB w v x.l) :
  Calls Tryz.prog 28 #[.agg (cg c),.agg (clc x v)] w fun e w'=>e = .returned (.bool (dr c x))∧Chg [] w w':=by
 obtain ⟨A0,c0,rfl⟩:=RE.form hv;obtain ⟨W2,kJ⟩:∃W2,W2 = (w.alloc (.cells (cg c) 26)).alloc (.cells (clc x (.slice A0 x.l.length c0)) 47):=⟨_,rfl⟩;have kO:Chg [] w W2:=by rw [kJ];exact ((av [] w).alloc _).alloc _
 have lH:CB W2 w.heap.size c:=by rw [kJ];exact (ax w 26 _).alloc _
 have lV:KB W2 (w.heap.size+1) x (.slice A0 x.l.length c0):=by
  have:=ax (w.alloc (.cells (cg c) 26)) 47 (clc x (.slice A0 x.l.length c0));rw [af] at this;rw [kJ];exact this
 have HM:=bk (fun W (h:Chg [] w W)=>MayK_any (hf.stay h) hx (hv.stay h));have tZ:=bk (fun W (h:Chg [] w W)=>fE (hf.stay h) hx.k);have sD:=bk (fun W=>wi c W);have HB:=bk (ai lH lV);have HC:=bk kO;have kW:=bk kJ;have HX:=bk hx;clear hf hx hv lH lV kO kJ;by_cases xM:mayB c = true
 case neg =>
  have hr:dr c x = true:=by unfold dr;simp [xM]
  rw [hr];have pD:mayB c = false:=by simpa using xM
  rw [pD] at sD;clear hr xM pD;go_enter Tryz.func28,Tryz.ntmps28;go_wp2_with (first|refine da rfl _ rfl rfl ?_|refine cc rfl _ rfl rfl ?_;try simp only [af];try rw [← kW.out]|refine dd (b:=w.heap.size) (c:=c) rfl _ rfl rfl ?_ ?_;(focus exact HB.out.1));refine (sD.out _).mono ?_;rintro e W3 ⟨rfl,kM⟩;have kL:=bk kM;clear kM;go_wp2_with fail;go_ret;exact ⟨rfl,HC.out.stay kL.out⟩
 rw [xM] at sD;have Gv:=bk xM;clear xM;by_cases sW:mg x = true
 case neg =>
  have hr:dr c x = true:=by unfold dr;simp [sW]
  rw [hr];have pD:mg x = false:=by simpa using sW
  rw [pD] at HM;clear hr sW pD;go_enter Tryz.func28,Tryz.ntmps28;go_wp2_with (first|refine da rfl _ rfl rfl ?_|refine cc rfl _ rfl rfl ?_;try simp only [af];try rw [← kW.out]|refine dd (b:=w.heap.size) (c:=c) rfl _ rfl rfl ?_ ?_;(focus exact HB.out.1));refine (sD.out _).mono ?_;rintro e W3 ⟨rfl,kM⟩;have kL:=bk kM;clear kM;go_wp2_with (first|refine ky (b:=w.heap.size+1) _ rfl rfl ?_ (bh HB.out.2 kL.out) ?_;(focus (simp [Region.wanted,yielded];done)));refine (HM.out _ (HC.out.stay kL.out)).mono ?_;rintro e W4 ⟨rfl,kZ⟩;have lA:=bk kZ;clear kZ;go_wp2_with fail;go_ret;exact ⟨rfl,(HC.out.stay kL.out).stay lA.out⟩
 rw [sW] at HM;have tA:=bk sW;have kQ:0 < (fld x.k).length:=by
  cases h:fld x.k with
  | nil=>rw [mg,h] at sW;simp at sW
  | cons a l=>simp
 have lX:=bk kQ;clear sW kQ;go_enter Tryz.func28,Tryz.ntmps28;go_wp2_with (first|refine da rfl _ rfl rfl ?_|refine cc rfl _ rfl rfl ?_;try simp only [af];try rw [← kW.out]|refine dd (b:=w.heap.size) (c:=c) rfl _ rfl rfl ?_ ?_;(focus exact HB.out.1));refine (sD.out _).mono ?_;rintro e W3 ⟨rfl,kM⟩;have kL:=bk kM;clear kM;go_wp2_with (first|refine ky (b:=w.heap.size+1) _ rfl rfl ?_ (bh HB.out.2 kL.out) ?_;(focus (simp [Region.wanted,yielded];done)));refine (HM.out _ (HC.out.stay kL.out)).mono ?_;rintro e W4 ⟨rfl,kZ⟩;have lA:=bk ((HC.out.stay kL.out).stay kZ);have lG:Hid (CB W4 w.heap.size c∧KB W4 (w.heap.size+1) x (.slice A0 x.l.length c0)):=bk ⟨aw (aw HB.out.1 kL.out ab) kZ ab,bh (bh HB.out.2 kL.out) kZ⟩;clear kZ kL HB;obtain ⟨q0,-,-,-,-,-,-,-,-,-,-,-,ql,qf⟩:=ay lG.out.2;go_upto_region 4 with (fail)
 refine (tZ.out _ lA.out).mono ?_;rintro e W ⟨rfl,rfl⟩;go_upto_region 4 with (fail)
 have HS:Hid (WS w (W4.alloc (Obj.cells #[Value.string (ft (fld x.k))] 9)) c x (.slice A0 x.l.length c0) W4.heap.size):=bk ⟨Blk.alloc lG.out.1 _,Blk.alloc lG.out.2 _,ax _ _ _,lA.out.alloc _⟩;clear q0 ql qf lA lG tZ HM sD HC kW;generalize W4.alloc (Obj.cells #[Value.string (ft (fld x.k))] 9) = W5 at HS ⊢;generalize W4.heap.size = b5 at HS ⊢;clear W4 W3 W2;obtain ⟨q0,q1,q2,q3,q4,q5,q6,q7,q8,q9,q10,q11,ql,-⟩:=ay HS.out.kb;go_upto_region 6 with (fail)
 clear q0 q1 q2 q3 q4 q5 q6 q7 q8 q9 q10 q11 ql;go_upto_if 23 with (fail)
 refine (HS.out.has lX.out (f:=98) (by decide)).mono ?_;rintro e W ⟨rfl,h'⟩;have HT:=bk h';obtain ⟨q0,q1,q2,q3,q4,q5,q6,q7,q8,q9,q10,q11,ql,-⟩:=ay h'.kb;clear h' HS;go_upto_if 23 with (fail)
 go_cut [7] from 23 to 26 (fun z wc=>z = .int .i64 (kd x)∧WS w wc c x (.slice A0 x.l.length c0) b5)
 case first =>
  cases hb:hasB x 98 with
  | true =>
   have hz:kd x = (x.l.length:Int):=(by unfold kd;rw [hb];rfl);have HZ:=bk hz;clear hz hb;go_wp2_with fail;go_meet
   case rel=>exact ⟨by rw [HZ.out],HT.out⟩
  | false =>
   have hz:kd x = x.s:=(by unfold kd;rw [hb];rfl);have HZ:=bk hz;clear hz hb;go_wp2_with fail;go_meet
   case rel=>exact ⟨by rw [HZ.out],HT.out⟩
 obtain ⟨rfl,h5⟩:=hcut;have HS:=bk h5;clear h5 HT q0 q1 q2 q3 q4 q5 q6 q7 q8 q9 q10 q11 ql;go_upto_region 8 with (fail)
 go_cut [27] from 28 to 43 (fun z wc=>z = .bool (t1K x)∧WS w wc c x (.slice A0 x.l.length c0) b5)
 case first =>
  by_cases hb99:hasB x 99 = true
  case neg =>
   have hn:hasB x 99 = false:=(by simpa using hb99);clear hb99;have hh:=HS.out.has lX.out (f:=99) (by decide);rw [hn] at hh;have zY:=bk hh;have Ca:=bk hn;clear hh hn;go_wp2_with fail;refine zY.out.mono ?_;rintro e W ⟨rfl,h'⟩;have HA:=bk h';obtain ⟨q0,q1,q2,q3,q4,q5,q6,q7,q8,q9,q10,q11,ql,-⟩:=ay h'.kb;have qc:=CB.get h'.cfg (i:=0) (by omega);clear h' zY;go_wp2_with fail;go_meet
   case rel=>exact ⟨congrArg Value.bool (by simp [t1K,Ca.out]),HA.out⟩
  case pos =>
   have hh:=HS.out.has lX.out (f:=99) (by decide);rw [hb99] at hh;have zY:=bk hh;have Ca:=bk hb99;clear hh hb99;go_wp2_with fail;refine zY.out.mono ?_;rintro e W ⟨rfl,h'⟩;have HA:=bk h';obtain ⟨q0,q1,q2,q3,q4,q5,q6,q7,q8,q9,q10,q11,ql,-⟩:=ay h'.kb;have qc:=CB.get h'.cfg (i:=0) (by omega);clear h' zY;by_cases hq:1≤x.c∧x.c≤1024
   case neg =>
    have hw:=fun W=>ig x.c 1 1024 W;rw [ac hq] at hw;have HW:=bk hw;have HQ:=bk hq;clear hw hq;go_wp2_with fail;refine (HW.out _).mono ?_;rintro e W ⟨rfl,rfl⟩;go_wp2_with fail;go_meet
    case rel=>exact ⟨congrArg Value.bool (by simp [t1K,Ca.out,HQ.out]),HA.out⟩
   case pos =>
    have hw:=fun W=>ig x.c 1 1024 W;rw [ae hq] at hw;have mQ:wrap64 (1024 - x.c) = 1024 - x.c:=(by unfold wrap64;omega);have HW:=bk hw;have HQ:=bk hq;have kW:=bk (fun W=>ig x.g 0 (1024 - x.c) W);clear hw hq;go_wp2_with fail;refine (HW.out _).mono ?_;rintro e W ⟨rfl,rfl⟩;go_wp2_with fail;refine (kW.out _).mono ?_;rintro e W ⟨rfl,rfl⟩;go_wp2_with fail;go_meet
    case rel=>exact ⟨congrArg Value.bool (by simp [t1K,Ca.out,HQ.out]),HA.out⟩
 obtain ⟨rfl,h5⟩:=hcut;clear HS;have HS:=bk h5;clear h5;by_cases hb:t1K x = true
 case pos =>
  have HR1:=bk hb;rw [hb];have hr:dr c x = true:=by unfold dr;simp [hb]
  have kH:=bk hr;clear hb hr;go_wp2_with fail;go_ret;exact ⟨congrArg (fun b=>Ending.returned (.bool b)) kH.out.symm,HS.out.chg⟩
 have nH:t1K x = false:=by simpa using hb
 rw [nH];have HR1:=bk nH;clear hb nH;go_upto_region 10 with (fail)
 go_cut [44] from 45 to 52 (fun z wc=>z = .bool (t2K x)∧WS w wc c x (.slice A0 x.l.length c0) b5)
 case first =>
  by_cases hb103:hasB x 103 = true
  case neg =>
   have hn:hasB x 103 = false:=(by simpa using hb103);clear hb103;have hh:=HS.out.has lX.out (f:=103) (by decide);rw [hn] at hh;have uL:=bk hh;have Am:=bk hn;clear hh hn;go_wp2_with fail;refine uL.out.mono ?_;rintro e W ⟨rfl,h'⟩;have HA:=bk h';obtain ⟨q0,q1,q2,q3,q4,q5,q6,q7,q8,q9,q10,q11,ql,-⟩:=ay h'.kb;have qc:=CB.get h'.cfg (i:=0) (by omega);clear h' uL;go_wp2_with fail;go_meet
   case rel=>exact ⟨congrArg Value.bool (by simp [t2K,Am.out]),HA.out⟩
  case pos =>
   have hh:=HS.out.has lX.out (f:=103) (by decide);rw [hb103] at hh;have uL:=bk hh;have Am:=bk hb103;clear hh hb103;go_wp2_with fail;refine uL.out.mono ?_;rintro e W ⟨rfl,h'⟩;have HA:=bk h';obtain ⟨q0,q1,q2,q3,q4,q5,q6,q7,q8,q9,q10,q11,ql,-⟩:=ay h'.kb;have qc:=CB.get h'.cfg (i:=0) (by omega);clear h' uL;have HW:=bk (fun W=>ig x.g 0 1023 W);go_wp2_with fail;refine (HW.out _).mono ?_;rintro e W ⟨rfl,rfl⟩;go_wp2_with fail;go_meet
   case rel=>exact ⟨congrArg Value.bool (by simp [t2K,Am.out]),HA.out⟩
 obtain ⟨rfl,h5⟩:=hcut;clear HS;have HS:=bk h5;clear h5;by_cases hb:t2K x = true
 case pos =>
  have GE:=bk hb;rw [hb];have hr:dr c x = true:=by unfold dr;simp [hb]
  have kH:=bk hr;clear hb hr;go_wp2_with fail;go_ret;exact ⟨congrArg (fun b=>Ending.returned (.bool b)) kH.out.symm,HS.out.chg⟩
 have nH:t2K x = false:=by simpa using hb
 rw [nH];have GE:=bk nH;clear hb nH;go_upto_region 12 with (fail)
 go_cut [53] from 54 to 62 (fun z wc=>z = .bool (t3K x)∧WS w wc c x (.slice A0 x.l.length c0) b5)
 case first =>
  by_cases hb114:hasB x 114 = true
  case neg =>
   have hn:hasB x 114 = false:=(by simpa using hb114);clear hb114;have hh:=HS.out.has lX.out (f:=114) (by decide);rw [hn] at hh;have uQ:=bk hh;have As:=bk hn;clear hh hn;go_wp2_with fail;refine uQ.out.mono ?_;rintro e W ⟨rfl,h'⟩;have HA:=bk h';obtain ⟨q0,q1,q2,q3,q4,q5,q6,q7,q8,q9,q10,q11,ql,-⟩:=ay h'.kb;have qc:=CB.get h'.cfg (i:=0) (by omega);clear h' uQ;go_wp2_with fail;go_meet
   case rel=>exact ⟨congrArg Value.bool (by simp [t3K,As.out]),HA.out⟩
  case pos =>
   have hh:=HS.out.has lX.out (f:=114) (by decide);rw [hb114] at hh;have uQ:=bk hh;have As:=bk hb114;clear hh hb114;go_wp2_with fail;refine uQ.out.mono ?_;rintro e W ⟨rfl,h'⟩;have HA:=bk h';obtain ⟨q0,q1,q2,q3,q4,q5,q6,q7,q8,q9,q10,q11,ql,-⟩:=ay h'.kb;have qc:=CB.get h'.cfg (i:=0) (by omega);clear h' uQ;have uH:IntKind.i64.wrap (x.r:Int) = (x.r:Int):=(by have:=HX.out.r;rw [IntKind.wrap_i64];omega);have HW:=bk (fun W=>ig (x.r:Int) 1 3 W);go_wp2_with fail;refine (HW.out _).mono ?_;rintro e W ⟨rfl,rfl⟩;go_wp2_with fail;go_meet
   case rel=>exact ⟨congrArg Value.bool (by simp [t3K,As.out]),HA.out⟩
 obtain ⟨rfl,h5⟩:=hcut;clear HS;have HS:=bk h5;clear h5;by_cases hb:t3K x = true
 case pos =>
  have xB:=bk hb;rw [hb];have hr:dr c x = true:=by unfold dr;simp [hb]
  have kH:=bk hr;clear hb hr;go_wp2_with fail;go_ret;exact ⟨congrArg (fun b=>Ending.returned (.bool b)) kH.out.symm,HS.out.chg⟩
 have nH:t3K x = false:=by simpa using hb
 rw [nH];have xB:=bk nH;clear hb nH;go_upto_region 14 with (fail)
 go_cut [63] from 64 to 74 (fun z wc=>z = .bool (t4K c x)∧WS w wc c x (.slice A0 x.l.length c0) b5)
 case first =>
  by_cases hb110:hasB x 110 = true
  case neg =>
   have hn:hasB x 110 = false:=(by simpa using hb110);clear hb110;have hh:=HS.out.has lX.out (f:=110) (by decide);rw [hn] at hh;have uN:=bk hh;have Ap:=bk hn;clear hh hn;go_wp2_with fail;refine uN.out.mono ?_;rintro e W ⟨rfl,h'⟩;have HA:=bk h';obtain ⟨q0,q1,q2,q3,q4,q5,q6,q7,q8,q9,q10,q11,ql,-⟩:=ay h'.kb;have qc:=CB.get h'.cfg (i:=0) (by omega);clear h' uN;go_wp2_with fail;go_meet
   case rel=>exact ⟨congrArg Value.bool (by simp [t4K,Ap.out]),HA.out⟩
  case pos =>
   have hh:=HS.out.has lX.out (f:=110) (by decide);rw [hb110] at hh;have uN:=bk hh;have Ap:=bk hb110;clear hh hb110;go_wp2_with fail;refine uN.out.mono ?_;rintro e W ⟨rfl,h'⟩;have HA:=bk h';obtain ⟨q0,q1,q2,q3,q4,q5,q6,q7,q8,q9,q10,q11,ql,-⟩:=ay h'.kb;have qc:=CB.get h'.cfg (i:=0) (by omega);clear h' uN;have mQ:wrap64 (c 0 - 1) = c 0 - 1:=(by have:=(mayB_iff.1 Gv.out).n1;have:=(mayB_iff.1 Gv.out).n8;unfold wrap64;omega);have HW:=bk (fun W=>ig x.n 0 (c 0 - 1) W);go_wp2_with fail;refine (HW.out _).mono ?_;rintro e W ⟨rfl,rfl⟩;go_wp2_with fail;go_meet
   case rel=>exact ⟨congrArg Value.bool (by simp [t4K,Ap.out]),HA.out⟩
 obtain ⟨rfl,h5⟩:=hcut;clear HS;have HS:=bk h5;clear h5;by_cases hb:t4K c x = true
 case pos =>
  have GG:=bk hb;rw [hb];have hr:dr c x = true:=by unfold dr;simp [hb]
  have kH:=bk hr;clear hb hr;go_wp2_with fail;go_ret;exact ⟨congrArg (fun b=>Ending.returned (.bool b)) kH.out.symm,HS.out.chg⟩
 have nH:t4K c x = false:=by simpa using hb
 rw [nH];have GG:=bk nH;clear hb nH;go_upto_region 16 with (fail)
 go_cut [75] from 76 to 84 (fun z wc=>z = .bool (t5K c x)∧WS w wc c x (.slice A0 x.l.length c0) b5)
 case first =>
  by_cases hb111:hasB x 111 = true
  case neg =>
   have hn:hasB x 111 = false:=(by simpa using hb111);clear hb111;have hh:=HS.out.has lX.out (f:=111) (by decide);rw [hn] at hh;have uO:=bk hh;have Aq:=bk hn;clear hh hn;go_wp2_with fail;refine uO.out.mono ?_;rintro e W ⟨rfl,h'⟩;have HA:=bk h';obtain ⟨q0,q1,q2,q3,q4,q5,q6,q7,q8,q9,q10,q11,ql,-⟩:=ay h'.kb;have qc:=CB.get h'.cfg (i:=0) (by omega);clear h' uO;go_wp2_with fail;go_meet
   case rel=>exact ⟨congrArg Value.bool (by simp [t5K,Aq.out]),HA.out⟩
  case pos =>
   have hh:=HS.out.has lX.out (f:=111) (by decide);rw [hb111] at hh;have uO:=bk hh;have Aq:=bk hb111;clear hh hb111;go_wp2_with fail;refine uO.out.mono ?_;rintro e W ⟨rfl,h'⟩;have HA:=bk h';obtain ⟨q0,q1,q2,q3,q4,q5,q6,q7,q8,q9,q10,q11,ql,-⟩:=ay h'.kb;have qc:=CB.get h'.cfg (i:=0) (by omega);clear h' uO;have HP:=bk (fun W=>pmay_any c HX.out.ok HX.out.om W);go_wp2_with (first|refine rp (b:=w.heap.size) (c:=c) _ rfl rfl ?_ HA.out.cfg ?_;(focus (simp [Region.wanted,yielded];done)));refine (HP.out _).mono ?_;rintro e W ⟨rfl,Bx⟩;have Bl:=bk (HA.out.stay Bx);clear Bx;go_wp2_with fail;go_meet
   case rel=>exact ⟨congrArg Value.bool (by simp [t5K,Aq.out]),Bl.out⟩
 obtain ⟨rfl,h5⟩:=hcut;clear HS;have HS:=bk h5;clear h5;by_cases hb:t5K c x = true
 case pos =>
  have CT:=bk hb;rw [hb];have hr:dr c x = true:=by unfold dr;simp [hb]
  have kH:=bk hr;clear hb hr;go_wp2_with fail;go_ret;exact ⟨congrArg (fun b=>Ending.returned (.bool b)) kH.out.symm,HS.out.chg⟩
 have nH:t5K c x = false:=by simpa using hb
 rw [nH];have CT:=bk nH;clear hb nH;go_upto_region 18 with (fail)
 go_cut [85] from 86 to 98 (fun z wc=>z = .bool (t6K x)∧WS w wc c x (.slice A0 x.l.length c0) b5)
 case first =>
  by_cases hb97:hasB x 97 = true
  case neg =>
   have hn:hasB x 97 = false:=(by simpa using hb97);clear hb97;have hh:=HS.out.has lX.out (f:=97) (by decide);rw [hn] at hh;have rM:=bk hh;have sQ:=bk hn;clear hh hn;go_wp2_with fail;refine rM.out.mono ?_;rintro e W ⟨rfl,h'⟩;have HA:=bk h';obtain ⟨q0,q1,q2,q3,q4,q5,q6,q7,q8,q9,q10,q11,ql,-⟩:=ay h'.kb;have qc:=CB.get h'.cfg (i:=0) (by omega);clear h' rM;go_wp2_with fail;go_meet
   case rel=>exact ⟨congrArg Value.bool (by simp [t6K,sQ.out]),HA.out⟩
  case pos =>
   have hh:=HS.out.has lX.out (f:=97) (by decide);rw [hb97] at hh;have rM:=bk hh;have sQ:=bk hb97;clear hh hb97;go_wp2_with fail;refine rM.out.mono ?_;rintro e W ⟨rfl,h'⟩;have HA:=bk h';obtain ⟨q0,q1,q2,q3,q4,q5,q6,q7,q8,q9,q10,q11,ql,-⟩:=ay h'.kb;have qc:=CB.get h'.cfg (i:=0) (by omega);clear h' rM;clear q0 q1 q2 q3 q4 q5 q6 q7 q8 q9 q10 q11 ql qc;by_cases hb104:hasB x 104 = true
   case neg =>
    have hn:hasB x 104 = false:=(by simpa using hb104);clear hb104;have hh:=HA.out.has lX.out (f:=104) (by decide);rw [hn] at hh;have uM:=bk hh;have An:=bk hn;clear hh hn;go_wp2_with fail;refine uM.out.mono ?_;rintro e W ⟨rfl,h'⟩;have Bl:=bk h';obtain ⟨q0,q1,q2,q3,q4,q5,q6,q7,q8,q9,q10,q11,ql,-⟩:=ay h'.kb;have qc:=CB.get h'.cfg (i:=0) (by omega);clear h' uM;go_wp2_with fail;go_meet
    case rel=>exact ⟨congrArg Value.bool (by simp [t6K,sQ.out,An.out]),Bl.out⟩
   case pos =>
    have hh:=HA.out.has lX.out (f:=104) (by decide);rw [hb104] at hh;have uM:=bk hh;have An:=bk hb104;clear hh hb104;go_wp2_with fail;refine uM.out.mono ?_;rintro e W ⟨rfl,h'⟩;have Bl:=bk h';obtain ⟨q0,q1,q2,q3,q4,q5,q6,q7,q8,q9,q10,q11,ql,-⟩:=ay h'.kb;have qc:=CB.get h'.cfg (i:=0) (by omega);clear h' uM;have HW:=bk (fun W=>rb x.a (kd x) 128 (by omega) (by omega) W);go_wp2_with fail;refine (HW.out _).mono ?_;rintro e W ⟨rfl,rfl⟩;go_wp2_with fail;go_meet
    case rel=>exact ⟨congrArg Value.bool (by simp [t6K,sQ.out,An.out,accB]),Bl.out⟩
 obtain ⟨rfl,h5⟩:=hcut;clear HS;have HS:=bk h5;clear h5;by_cases hb:t6K x = true
 case pos =>
  have HR6:=bk hb;rw [hb];have hr:dr c x = true:=by unfold dr;simp [hb]
  have kH:=bk hr;clear hb hr;go_wp2_with fail;go_ret;exact ⟨congrArg (fun b=>Ending.returned (.bool b)) kH.out.symm,HS.out.chg⟩
 have nH:t6K x = false:=by simpa using hb
 rw [nH];have HR6:=bk nH;clear hb nH;go_upto_region 20 with (fail)
 go_cut [99] from 100 to 120 (fun z wc=>z = .bool (t7K x)∧WS w wc c x (.slice A0 x.l.length c0) b5)
 case first =>
  by_cases hb97:hasB x 97 = true
  case neg =>
   have hn:hasB x 97 = false:=(by simpa using hb97);clear hb97;have hh:=HS.out.has lX.out (f:=97) (by decide);rw [hn] at hh;have rM:=bk hh;have sQ:=bk hn;clear hh hn;go_wp2_with fail;refine rM.out.mono ?_;rintro e W ⟨rfl,h'⟩;have HA:=bk h';obtain ⟨q0,q1,q2,q3,q4,q5,q6,q7,q8,q9,q10,q11,ql,-⟩:=ay h'.kb;have qc:=CB.get h'.cfg (i:=0) (by omega);clear h' rM;go_wp2_with fail;go_meet
   case rel=>exact ⟨congrArg Value.bool (by simp [t7K,sQ.out]),HA.out⟩
  case pos =>
   have hh:=HS.out.has lX.out (f:=97) (by decide);rw [hb97] at hh;have rM:=bk hh;have sQ:=bk hb97;clear hh hb97;go_wp2_with fail;refine rM.out.mono ?_;rintro e W ⟨rfl,h'⟩;have HA:=bk h';obtain ⟨q0,q1,q2,q3,q4,q5,q6,q7,q8,q9,q10,q11,ql,-⟩:=ay h'.kb;have qc:=CB.get h'.cfg (i:=0) (by omega);clear h' rM;clear q0 q1 q2 q3 q4 q5 q6 q7 q8 q9 q10 q11 ql qc;by_cases hb112:hasB x 112 = true
   case neg =>
    have hn:hasB x 112 = false:=(by simpa using hb112);clear hb112;have hh:=HA.out.has lX.out (f:=112) (by decide);rw [hn] at hh;have uP:=bk hh;have xE:=bk hn;clear hh hn;go_wp2_with fail;refine uP.out.mono ?_;rintro e W ⟨rfl,h'⟩;have Bl:=bk h';obtain ⟨q0,q1,q2,q3,q4,q5,q6,q7,q8,q9,q10,q11,ql,-⟩:=ay h'.kb;have qc:=CB.get h'.cfg (i:=0) (by omega);clear h' uP;go_wp2_with fail;go_meet
    case rel=>exact ⟨congrArg Value.bool (by simp [t7K,sQ.out,xE.out]),Bl.out⟩
   case pos =>
    have hh:=HA.out.has lX.out (f:=112) (by decide);rw [hb112] at hh;have uP:=bk hh;have xE:=bk hb112;clear hh hb112;go_wp2_with fail;refine uP.out.mono ?_;rintro e W ⟨rfl,h'⟩;have Bl:=bk h';obtain ⟨q0,q1,q2,q3,q4,q5,q6,q7,q8,q9,q10,q11,ql,-⟩:=ay h'.kb;have qc:=CB.get h'.cfg (i:=0) (by omega);clear h' uP;by_cases hq:(1≤kd x∧kd x≤8)∧0≤x.a∧x.a≤262144 - kd x
    case neg =>
     have hw:=fun W=>rb x.a (kd x) 262144 (by omega) (by omega) W;rw [ac hq] at hw;have HW:=bk hw;have HQ:=bk hq;clear hw hq;go_wp2_with fail;refine (HW.out _).mono ?_;rintro e W ⟨rfl,rfl⟩;go_wp2_with fail;go_meet
     case rel=>exact ⟨congrArg Value.bool (by simp [t7K,sQ.out,xE.out,accB,HQ.out]),Bl.out⟩
    case pos =>
     have hw:=fun W=>rb x.a (kd x) 262144 (by omega) (by omega) W;rw [ae hq] at hw;have mQ:wrap64 (256 - kd x) = 256 - kd x:=(by unfold wrap64;omega);have hrem:wrap64 (x.a.tmod 256) = x.a.tmod 256:=(by rw [Int.tmod_eq_emod_of_nonneg hq.2.1];unfold wrap64;omega);have HW:=bk hw;have HQ:=bk hq;clear hw hq;go_wp2_with fail;refine (HW.out _).mono ?_;rintro e W ⟨rfl,rfl⟩;go_wp2_with fail;go_meet
     case rel=>exact ⟨congrArg Value.bool (by simp [t7K,sQ.out,xE.out,accB,HQ.out]),Bl.out⟩
 obtain ⟨rfl,h5⟩:=hcut;clear HS;have HS:=bk h5;clear h5;by_cases hb:t7K x = true
 case pos =>
  have Fm:=bk hb;rw [hb];have hr:dr c x = true:=by unfold dr;simp [hb]
  have kH:=bk hr;clear hb hr;go_wp2_with fail;go_ret;exact ⟨congrArg (fun b=>Ending.returned (.bool b)) kH.out.symm,HS.out.chg⟩
 have nH:t7K x = false:=by simpa using hb
 rw [nH];have Fm:=bk nH;clear hb nH;have hr:dr c x = t8K x:=by unfold dr;simp [Gv.out,tA.out,HR1.out,GE.out,xB.out,GG.out,CT.out,HR6.out,Fm.out]
 have HW8:=bk hr;clear hr HR1 GE xB GG CT HR6 Fm;obtain ⟨q0,q1,q2,q3,q4,q5,q6,q7,q8,q9,q10,q11,ql,-⟩:=ay HS.out.kb;by_cases hk:x.k = 10
 case neg =>
  have hr:t8K x = false:=by unfold t8K;simp [hk]
  have oK:((x.k:Int) == 10) = false:=by simp;omega
  have AQ:¬ ((x.k:Int) = 10):=by omega
  have kH:=bk (HW8.out.trans hr);clear hr hk;go_wp2_with fail;go_ret;exact ⟨congrArg (fun b=>Ending.returned (.bool b)) kH.out.symm,HS.out.chg⟩
 have hr:t8K x = !decide (1≤x.s∧x.s≤128):=by unfold t8K;simp [hk]
 have kH:=bk (HW8.out.trans hr);rw [hk] at q0;clear hr hk;have HW:=bk (fun W=>ig x.s 1 128 W);go_wp2_with fail;refine (HW.out _).mono ?_;rintro e W ⟨rfl,rfl⟩;go_wp2_with fail;go_ret;exact ⟨by rw [kH.out];simp,HS.out.chg⟩
