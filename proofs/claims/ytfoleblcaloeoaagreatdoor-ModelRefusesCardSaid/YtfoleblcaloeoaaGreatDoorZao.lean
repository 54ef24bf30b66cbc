/- Texts merged for the claim. -/
import Derived.Test.YtfoleblcaloeoaaGreatDoorZam
import Derived.Test.YtfoleblcaloeoaaGreatDoorZan
set_option maxHeartbeats 40000000
set_option maxRecDepth 20000
namespace Go.Proofs.YtfoleblcaloeoaaGreatDoor
open Go Go.RowKit
theorem jx {ops:Array Oper} {rest:List Oper} {o:Oper} {a:Act} {w:World} {Q:Exit→Act→World→Prop} {b:Nat} {x:Cl} {v:Value} (z:Operand) (ho:o.op = .load 47 z)
  (hx:a.eval z = .pointer (some ⟨b,0,none⟩)) (hw:Region.wanted o (yielded ops a.tmps) = true) (h0:KB w b x v) (h:wpList Tryz.prog ops Q rest (a.put o.dst (.agg (clc x v))) w):wpList Tryz.prog ops Q (o :: rest) a w :=
 wpList_step fun K I=>by
  rw [if_pos hw]
  exact wp_load_row 47 z ho b hx 47 _ (0,0) _ h0 Tryz.underlying47 rfl dx (I _ _ h)
def hasB (x:Cl) (f:Nat):Bool:=(fld x.k).contains f
def jk (x:Cl):Int:=if hasB x 98 then (x.l.length:Int) else x.s
def accB (addr size of:Int):Bool:=decide ((1≤size∧size≤8)∧0≤addr∧addr≤of - size)
def t1K (x:Cl):Bool:=hasB x 99 && !(decide (1≤x.c∧x.c≤1024) && decide (0≤x.g∧x.g≤1024 - x.c))
def t2K (x:Cl):Bool:=hasB x 103 && !decide (0≤x.g∧x.g≤1023)
def t3K (x:Cl):Bool:=hasB x 114 && !decide (1≤(x.r:Int)∧(x.r:Int)≤3)
def t4K (c:Cf) (x:Cl):Bool:=hasB x 110 && !decide (0≤x.n∧x.n≤c 0 - 1)
noncomputable def t5K (c:Cf) (x:Cl):Bool:=hasB x 111 && !tf c x.ok x.om
def t6K (x:Cl):Bool:=(hasB x 97 && hasB x 104) && !accB x.a (jk x) 128
def t7K (x:Cl):Bool:=(hasB x 97 && hasB x 112) && !(accB x.a (jk x) 262144 && decide (x.a.tmod 256≤256 - jk x))
def t8K (x:Cl):Bool:=(x.k == 10) && !decide (1≤x.s∧x.s≤128)
noncomputable def ci (c:Cf) (x:Cl):Bool:=!mayB c || !lc x || (t1K x || (t2K x || (t3K x || (t4K c x || (t5K c x || (t6K x || (t7K x || t8K x)))))))
theorem mb {ops:Array Oper} {rest:List Oper} {o:Oper} {a:Act} {w:World} {Q:Exit→Act→World→Prop} {b:Nat} {c:Cf} (x:Operand) (ho:o.op = .load 26 x)
  (hx:a.eval x = .pointer (some ⟨b,0,none⟩)) (hw:Region.wanted o (yielded ops a.tmps) = true) (h0:CB w b c) (h:wpList Tryz.prog ops Q rest (a.put o.dst (.agg (cg c))) w):wpList Tryz.prog ops Q (o :: rest) a w :=
 wpList_step fun K I=>by
  rw [if_pos hw]
  exact wp_load_row 26 x ho b hx 26 (cg c) (0,0) _ h0 Tryz.underlying26 rfl mh (I _ _ h)
structure WS (w W:World) (c:Cf) (x:Cl) (v:Value) (b:Nat):Prop where
 cfg:CB W w.heap.size c
 kb:KB W (w.heap.size+1) x v
 str:Blk W b 9 #[.string (dz (fld x.k))]
 chg:Chg [] w W
theorem WS.stay {w W W':World} {c:Cf} {x:Cl} {v:Value} {b:Nat} (h:WS w W c x v b) (hc:Chg [] W W'):WS w W' c x v b :=
 ⟨Blk.chg h.cfg hc ab,KB.stay h.kb hc,Blk.chg h.str hc ab,h.chg.stay hc⟩
theorem WS.has {w W:World} {c:Cf} {x:Cl} {v:Value} {b:Nat} (h:WS w W c x v b) (h0:0 < (fld x.k).length) {f:Nat} (hf:f < 128) :
  Calls Tryz.prog 58 #[.int .i32 f,.pointer (some ⟨b,0,none⟩)] W fun e w'=>e = .returned (.bool (hasB x f))∧WS w w' c x v b:=by
 refine (hasK_any h.str h0 (fun b hb=>fld_lt hb) hf).mono ?_
 rintro e w' ⟨rfl,hc⟩
 exact ⟨rfl,h.stay hc⟩
theorem vy {w:World} (hf:FW w) (c:Cf) {x:Cl} {v:Value} (hx:x.Ok) (hv:RB w v x.l) :
  Calls Tryz.prog 28 #[.agg (cg c),.agg (clc x v)] w fun e w'=>e = .returned (.bool (ci c x))∧Chg [] w w':=by
 obtain ⟨A0,c0,rfl⟩:=RE.form hv
 obtain ⟨W2,jB⟩:∃W2,W2 = (w.alloc (.cells (cg c) 26)).alloc (.cells (clc x (.slice A0 x.l.length c0)) 47):=⟨_,rfl⟩
 have jH:Chg [] w W2:=by rw [jB];exact ((Chg.refl [] w).alloc _).alloc _
 have kF:CB W2 w.heap.size c:=by rw [jB];exact (Blk.new w 26 _).alloc _
 have kU:KB W2 (w.heap.size+1) x (.slice A0 x.l.length c0):=by
  have:=Blk.new (w.alloc (.cells (cg c) 26)) 47 (clc x (.slice A0 x.l.length c0))
  rw [af] at this
  rw [jB]
  exact this
 have HM:=ah (fun W (h:Chg [] w W)=>MayK_any (hf.stay h) hx (hv.stay h))
 have sF:=ah (fun W (h:Chg [] w W)=>dZ (hf.stay h) hx.k)
 have qN:=ah (fun W=>zt c W)
 have HB:=ah (And.intro kF kU)
 have HC:=ah jH
 have jP:=ah jB
 have HX:=ah hx
 clear hf hx hv kF kU jH jB
 by_cases vR:mayB c = true
 case neg =>
  have hr:ci c x = true:=by unfold ci;simp [vR]
  rw [hr]
  have mV:mayB c = false:=by simpa using vR
  rw [mV] at qN
  clear hr vR mV
  go_enter Tryz.func28,Tryz.ntmps28
  go_wp2_with (first|refine cb rfl _ rfl rfl ?_|refine ax rfl _ rfl rfl ?_;try simp only [af];try rw [← jP.out]|refine cw (b:=w.heap.size) (c:=c) rfl _ rfl rfl ?_ ?_;(focus exact HB.out.1))
  refine (qN.out _).mono ?_
  rintro e W3 ⟨rfl,jD⟩
  have jE:=ah jD
  clear jD
  go_wp2_with fail
  go_ret
  exact ⟨rfl,HC.out.stay jE.out⟩
 rw [vR] at qN
 have Fj:=ah vR
 clear vR
 by_cases qI:lc x = true
 case neg =>
  have hr:ci c x = true:=by unfold ci;simp [qI]
  rw [hr]
  have mV:lc x = false:=by simpa using qI
  rw [mV] at HM
  clear hr qI mV
  go_enter Tryz.func28,Tryz.ntmps28
  go_wp2_with (first|refine cb rfl _ rfl rfl ?_|refine ax rfl _ rfl rfl ?_;try simp only [af];try rw [← jP.out]|refine cw (b:=w.heap.size) (c:=c) rfl _ rfl rfl ?_ ?_;(focus exact HB.out.1))
  refine (qN.out _).mono ?_
  rintro e W3 ⟨rfl,jD⟩
  have jE:=ah jD
  clear jD
  go_wp2_with (first|refine jx (b:=w.heap.size+1) _ rfl rfl ?_ (KB.stay HB.out.2 jE.out) ?_;(focus (simp [Region.wanted,yielded];done)))
  refine (HM.out _ (HC.out.stay jE.out)).mono ?_
  rintro e W4 ⟨rfl,jT⟩
  have jR:=ah jT
  clear jT
  go_wp2_with fail
  go_ret
  exact ⟨rfl,(HC.out.stay jE.out).stay jR.out⟩
 rw [qI] at HM
 have rJ:=ah qI
 have jN:0 < (fld x.k).length:=by
  cases h:fld x.k with
  | nil=>rw [lc,h] at qI;simp at qI
  | cons a l=>simp
 have kI:=ah jN
 clear qI jN
 go_enter Tryz.func28,Tryz.ntmps28
 go_wp2_with (first|refine cb rfl _ rfl rfl ?_|refine ax rfl _ rfl rfl ?_;try simp only [af];try rw [← jP.out]|refine cw (b:=w.heap.size) (c:=c) rfl _ rfl rfl ?_ ?_;(focus exact HB.out.1))
 refine (qN.out _).mono ?_
 rintro e W3 ⟨rfl,jD⟩
 have jE:=ah jD
 clear jD
 go_wp2_with (first|refine jx (b:=w.heap.size+1) _ rfl rfl ?_ (KB.stay HB.out.2 jE.out) ?_;(focus (simp [Region.wanted,yielded];done)))
 refine (HM.out _ (HC.out.stay jE.out)).mono ?_
 rintro e W4 ⟨rfl,jT⟩
 have jR:=ah ((HC.out.stay jE.out).stay jT)
 have jW:Hid (CB W4 w.heap.size c∧KB W4 (w.heap.size+1) x (.slice A0 x.l.length c0)):=ah ⟨Blk.chg (Blk.chg HB.out.1 jE.out ab) jT ab,KB.stay (KB.stay HB.out.2 jE.out) jT⟩
 clear jT jE HB
 obtain ⟨q0,-,-,-,-,-,-,-,-,-,-,-,ql,qf⟩:=KB.cells jW.out.2
 go_upto_region 4 with (fail)
 refine (sF.out _ jR.out).mono ?_
 rintro e W ⟨rfl,rfl⟩
 go_upto_region 4 with (fail)
 have HS:Hid (WS w (W4.alloc (Obj.cells #[Value.string (dz (fld x.k))] 9)) c x (.slice A0 x.l.length c0) W4.heap.size):=ah ⟨Blk.alloc jW.out.1 _,Blk.alloc jW.out.2 _,Blk.new _ _ _,jR.out.alloc _⟩
 clear q0 ql qf jR jW sF HM qN HC jP
 generalize W4.alloc (Obj.cells #[Value.string (dz (fld x.k))] 9) = W5 at HS ⊢
 generalize W4.heap.size = b5 at HS ⊢
 clear W4 W3 W2
 obtain ⟨q0,q1,q2,q3,q4,q5,q6,q7,q8,q9,q10,q11,ql,-⟩:=KB.cells HS.out.kb
 go_upto_region 6 with (fail)
 clear q0 q1 q2 q3 q4 q5 q6 q7 q8 q9 q10 q11 ql
 go_upto_if 23 with (fail)
 refine (HS.out.has kI.out (f:=98) (by decide)).mono ?_
 rintro e W ⟨rfl,h'⟩
 have HT:=ah h'
 obtain ⟨q0,q1,q2,q3,q4,q5,q6,q7,q8,q9,q10,q11,ql,-⟩:=KB.cells h'.kb
 clear h' HS
 go_upto_if 23 with (fail)
 go_cut [7] from 23 to 26 (fun z wc=>z = .int .i64 (jk x)∧WS w wc c x (.slice A0 x.l.length c0) b5)
 case first =>
  cases hb:hasB x 98 with
  | true =>
   have hz:jk x = (x.l.length:Int):=by unfold jk;rw [hb];rfl
   have HZ:=ah hz
   clear hz hb
   go_wp2_with fail
   go_meet
   case rel=>exact ⟨by rw [HZ.out],HT.out⟩
  | false =>
   have hz:jk x = x.s:=by unfold jk;rw [hb];rfl
   have HZ:=ah hz
   clear hz hb
   go_wp2_with fail
   go_meet
   case rel=>exact ⟨by rw [HZ.out],HT.out⟩
 obtain ⟨rfl,h5⟩:=hcut
 have HS:=ah h5
 clear h5 HT q0 q1 q2 q3 q4 q5 q6 q7 q8 q9 q10 q11 ql
 go_upto_region 8 with (fail)
 go_cut [27] from 28 to 43 (fun z wc=>z = .bool (t1K x)∧WS w wc c x (.slice A0 x.l.length c0) b5)
 case first =>
  by_cases hb99:hasB x 99 = true
  case neg =>
   have hn:hasB x 99 = false:=by simpa using hb99
   clear hb99
   have hh:=HS.out.has kI.out (f:=99) (by decide)
   rw [hn] at hh
   have xO:=ah hh
   have AT:=ah hn
   clear hh hn
   go_wp2_with fail
   refine xO.out.mono ?_
   rintro e W ⟨rfl,h'⟩
   have HA:=ah h'
   obtain ⟨q0,q1,q2,q3,q4,q5,q6,q7,q8,q9,q10,q11,ql,-⟩:=KB.cells h'.kb
   have qc:=CB.get h'.cfg (i:=0) (by omega)
   clear h' xO
   go_wp2_with fail
   go_meet
   case rel=>exact ⟨congrArg Value.bool (by simp [t1K,AT.out]),HA.out⟩
  case pos =>
   have hh:=HS.out.has kI.out (f:=99) (by decide)
   rw [hb99] at hh
   have xO:=ah hh
   have AT:=ah hb99
   clear hh hb99
   go_wp2_with fail
   refine xO.out.mono ?_
   rintro e W ⟨rfl,h'⟩
   have HA:=ah h'
   obtain ⟨q0,q1,q2,q3,q4,q5,q6,q7,q8,q9,q10,q11,ql,-⟩:=KB.cells h'.kb
   have qc:=CB.get h'.cfg (i:=0) (by omega)
   clear h' xO
   by_cases hq:1≤x.c∧x.c≤1024
   case neg =>
    have hw:=fun W=>fx x.c 1 1024 W
    rw [ac hq] at hw
    have HW:=ah hw
    have HQ:=ah hq
    clear hw hq
    go_wp2_with fail
    refine (HW.out _).mono ?_
    rintro e W ⟨rfl,rfl⟩
    go_wp2_with fail
    go_meet
    case rel=>exact ⟨congrArg Value.bool (by simp [t1K,AT.out,HQ.out]),HA.out⟩
   case pos =>
    have hw:=fun W=>fx x.c 1 1024 W
    rw [ae hq] at hw
    have lO:wrap64 (1024 - x.c) = 1024 - x.c:=by unfold wrap64;omega
    have HW:=ah hw
    have HQ:=ah hq
    have jP:=ah (fun W=>fx x.g 0 (1024 - x.c) W)
    clear hw hq
    go_wp2_with fail
    refine (HW.out _).mono ?_
    rintro e W ⟨rfl,rfl⟩
    go_wp2_with fail
    refine (jP.out _).mono ?_
    rintro e W ⟨rfl,rfl⟩
    go_wp2_with fail
    go_meet
    case rel=>exact ⟨congrArg Value.bool (by simp [t1K,AT.out,HQ.out]),HA.out⟩
 obtain ⟨rfl,h5⟩:=hcut
 clear HS
 have HS:=ah h5
 clear h5
 by_cases hb:t1K x = true
 case pos =>
  have Fo:=ah hb
  rw [hb]
  have hr:ci c x = true:=by unfold ci;simp [hb]
  have jC:=ah hr
  clear hb hr
  go_wp2_with fail
  go_ret
  exact ⟨congrArg (fun b=>Ending.returned (.bool b)) jC.out.symm,HS.out.chg⟩
 have mT:t1K x = false:=by simpa using hb
 rw [mT]
 have Fo:=ah mT
 clear hb mT
 go_upto_region 10 with (fail)
 go_cut [44] from 45 to 52 (fun z wc=>z = .bool (t2K x)∧WS w wc c x (.slice A0 x.l.length c0) b5)
 case first =>
  by_cases hb103:hasB x 103 = true
  case neg =>
   have hn:hasB x 103 = false:=by simpa using hb103
   clear hb103
   have hh:=HS.out.has kI.out (f:=103) (by decide)
   rw [hn] at hh
   have sU:=ah hh
   have yA:=ah hn
   clear hh hn
   go_wp2_with fail
   refine sU.out.mono ?_
   rintro e W ⟨rfl,h'⟩
   have HA:=ah h'
   obtain ⟨q0,q1,q2,q3,q4,q5,q6,q7,q8,q9,q10,q11,ql,-⟩:=KB.cells h'.kb
   have qc:=CB.get h'.cfg (i:=0) (by omega)
   clear h' sU
   go_wp2_with fail
   go_meet
   case rel=>exact ⟨congrArg Value.bool (by simp [t2K,yA.out]),HA.out⟩
  case pos =>
   have hh:=HS.out.has kI.out (f:=103) (by decide)
   rw [hb103] at hh
   have sU:=ah hh
   have yA:=ah hb103
   clear hh hb103
   go_wp2_with fail
   refine sU.out.mono ?_
   rintro e W ⟨rfl,h'⟩
   have HA:=ah h'
   obtain ⟨q0,q1,q2,q3,q4,q5,q6,q7,q8,q9,q10,q11,ql,-⟩:=KB.cells h'.kb
   have qc:=CB.get h'.cfg (i:=0) (by omega)
   clear h' sU
   have HW:=ah (fun W=>fx x.g 0 1023 W)
   go_wp2_with fail
   refine (HW.out _).mono ?_
   rintro e W ⟨rfl,rfl⟩
   go_wp2_with fail
   go_meet
   case rel=>exact ⟨congrArg Value.bool (by simp [t2K,yA.out]),HA.out⟩
 obtain ⟨rfl,h5⟩:=hcut
 clear HS
 have HS:=ah h5
 clear h5
 by_cases hb:t2K x = true
 case pos =>
  have CC:=ah hb
  rw [hb]
  have hr:ci c x = true:=by unfold ci;simp [hb]
  have jC:=ah hr
  clear hb hr
  go_wp2_with fail
  go_ret
  exact ⟨congrArg (fun b=>Ending.returned (.bool b)) jC.out.symm,HS.out.chg⟩
 have mT:t2K x = false:=by simpa using hb
 rw [mT]
 have CC:=ah mT
 clear hb mT
 go_upto_region 12 with (fail)
 go_cut [53] from 54 to 62 (fun z wc=>z = .bool (t3K x)∧WS w wc c x (.slice A0 x.l.length c0) b5)
 case first =>
  by_cases hb114:hasB x 114 = true
  case neg =>
   have hn:hasB x 114 = false:=by simpa using hb114
   clear hb114
   have hh:=HS.out.has kI.out (f:=114) (by decide)
   rw [hn] at hh
   have sZ:=ah hh
   have yE:=ah hn
   clear hh hn
   go_wp2_with fail
   refine sZ.out.mono ?_
   rintro e W ⟨rfl,h'⟩
   have HA:=ah h'
   obtain ⟨q0,q1,q2,q3,q4,q5,q6,q7,q8,q9,q10,q11,ql,-⟩:=KB.cells h'.kb
   have qc:=CB.get h'.cfg (i:=0) (by omega)
   clear h' sZ
   go_wp2_with fail
   go_meet
   case rel=>exact ⟨congrArg Value.bool (by simp [t3K,yE.out]),HA.out⟩
  case pos =>
   have hh:=HS.out.has kI.out (f:=114) (by decide)
   rw [hb114] at hh
   have sZ:=ah hh
   have yE:=ah hb114
   clear hh hb114
   go_wp2_with fail
   refine sZ.out.mono ?_
   rintro e W ⟨rfl,h'⟩
   have HA:=ah h'
   obtain ⟨q0,q1,q2,q3,q4,q5,q6,q7,q8,q9,q10,q11,ql,-⟩:=KB.cells h'.kb
   have qc:=CB.get h'.cfg (i:=0) (by omega)
   clear h' sZ
   have sQ:IntKind.i64.wrap (x.r:Int) = (x.r:Int):=by have:=HX.out.r;rw [IntKind.wrap_i64];omega
   have HW:=ah (fun W=>fx (x.r:Int) 1 3 W)
   go_wp2_with fail
   refine (HW.out _).mono ?_
   rintro e W ⟨rfl,rfl⟩
   go_wp2_with fail
   go_meet
   case rel=>exact ⟨congrArg Value.bool (by simp [t3K,yE.out]),HA.out⟩
 obtain ⟨rfl,h5⟩:=hcut
 clear HS
 have HS:=ah h5
 clear h5
 by_cases hb:t3K x = true
 case pos =>
  have AN:=ah hb
  rw [hb]
  have hr:ci c x = true:=by unfold ci;simp [hb]
  have jC:=ah hr
  clear hb hr
  go_wp2_with fail
  go_ret
  exact ⟨congrArg (fun b=>Ending.returned (.bool b)) jC.out.symm,HS.out.chg⟩
 have mT:t3K x = false:=by simpa using hb
 rw [mT]
 have AN:=ah mT
 clear hb mT
 go_upto_region 14 with (fail)
 go_cut [63] from 64 to 74 (fun z wc=>z = .bool (t4K c x)∧WS w wc c x (.slice A0 x.l.length c0) b5)
 case first =>
  by_cases hb110:hasB x 110 = true
  case neg =>
   have hn:hasB x 110 = false:=by simpa using hb110
   clear hb110
   have hh:=HS.out.has kI.out (f:=110) (by decide)
   rw [hn] at hh
   have sW:=ah hh
   have yC:=ah hn
   clear hh hn
   go_wp2_with fail
   refine sW.out.mono ?_
   rintro e W ⟨rfl,h'⟩
   have HA:=ah h'
   obtain ⟨q0,q1,q2,q3,q4,q5,q6,q7,q8,q9,q10,q11,ql,-⟩:=KB.cells h'.kb
   have qc:=CB.get h'.cfg (i:=0) (by omega)
   clear h' sW
   go_wp2_with fail
   go_meet
   case rel=>exact ⟨congrArg Value.bool (by simp [t4K,yC.out]),HA.out⟩
  case pos =>
   have hh:=HS.out.has kI.out (f:=110) (by decide)
   rw [hb110] at hh
   have sW:=ah hh
   have yC:=ah hb110
   clear hh hb110
   go_wp2_with fail
   refine sW.out.mono ?_
   rintro e W ⟨rfl,h'⟩
   have HA:=ah h'
   obtain ⟨q0,q1,q2,q3,q4,q5,q6,q7,q8,q9,q10,q11,ql,-⟩:=KB.cells h'.kb
   have qc:=CB.get h'.cfg (i:=0) (by omega)
   clear h' sW
   have lO:wrap64 (c 0 - 1) = c 0 - 1:=by have:=(mayB_iff.1 Fj.out).n1;have:=(mayB_iff.1 Fj.out).n8;unfold wrap64;omega
   have HW:=ah (fun W=>fx x.n 0 (c 0 - 1) W)
   go_wp2_with fail
   refine (HW.out _).mono ?_
   rintro e W ⟨rfl,rfl⟩
   go_wp2_with fail
   go_meet
   case rel=>exact ⟨congrArg Value.bool (by simp [t4K,yC.out]),HA.out⟩
 obtain ⟨rfl,h5⟩:=hcut
 clear HS
 have HS:=ah h5
 clear h5
 by_cases hb:t4K c x = true
 case pos =>
  have Fp:=ah hb
  rw [hb]
  have hr:ci c x = true:=by unfold ci;simp [hb]
  have jC:=ah hr
  clear hb hr
  go_wp2_with fail
  go_ret
  exact ⟨congrArg (fun b=>Ending.returned (.bool b)) jC.out.symm,HS.out.chg⟩
 have mT:t4K c x = false:=by simpa using hb
 rw [mT]
 have Fp:=ah mT
 clear hb mT
 go_upto_region 16 with (fail)
 go_cut [75] from 76 to 84 (fun z wc=>z = .bool (t5K c x)∧WS w wc c x (.slice A0 x.l.length c0) b5)
 case first =>
  by_cases hb111:hasB x 111 = true
  case neg =>
   have hn:hasB x 111 = false:=by simpa using hb111
   clear hb111
   have hh:=HS.out.has kI.out (f:=111) (by decide)
   rw [hn] at hh
   have sX:=ah hh
   have yD:=ah hn
   clear hh hn
   go_wp2_with fail
   refine sX.out.mono ?_
   rintro e W ⟨rfl,h'⟩
   have HA:=ah h'
   obtain ⟨q0,q1,q2,q3,q4,q5,q6,q7,q8,q9,q10,q11,ql,-⟩:=KB.cells h'.kb
   have qc:=CB.get h'.cfg (i:=0) (by omega)
   clear h' sX
   go_wp2_with fail
   go_meet
   case rel=>exact ⟨congrArg Value.bool (by simp [t5K,yD.out]),HA.out⟩
  case pos =>
   have hh:=HS.out.has kI.out (f:=111) (by decide)
   rw [hb111] at hh
   have sX:=ah hh
   have yD:=ah hb111
   clear hh hb111
   go_wp2_with fail
   refine sX.out.mono ?_
   rintro e W ⟨rfl,h'⟩
   have HA:=ah h'
   obtain ⟨q0,q1,q2,q3,q4,q5,q6,q7,q8,q9,q10,q11,ql,-⟩:=KB.cells h'.kb
   have qc:=CB.get h'.cfg (i:=0) (by omega)
   clear h' sX
   have HP:=ah (fun W=>pmay_any c HX.out.ok HX.out.om W)
   go_wp2_with (first|refine mb (b:=w.heap.size) (c:=c) _ rfl rfl ?_ HA.out.cfg ?_;(focus (simp [Region.wanted,yielded];done)))
   refine (HP.out _).mono ?_
   rintro e W ⟨rfl,Ak⟩
   have uZ:=ah (HA.out.stay Ak)
   clear Ak
   go_wp2_with fail
   go_meet
   case rel=>exact ⟨congrArg Value.bool (by simp [t5K,yD.out]),uZ.out⟩
 obtain ⟨rfl,h5⟩:=hcut
 clear HS
 have HS:=ah h5
 clear h5
 by_cases hb:t5K c x = true
 case pos =>
  have BD:=ah hb
  rw [hb]
  have hr:ci c x = true:=by unfold ci;simp [hb]
  have jC:=ah hr
  clear hb hr
  go_wp2_with fail
  go_ret
  exact ⟨congrArg (fun b=>Ending.returned (.bool b)) jC.out.symm,HS.out.chg⟩
 have mT:t5K c x = false:=by simpa using hb
 rw [mT]
 have BD:=ah mT
 clear hb mT
 go_upto_region 18 with (fail)
 go_cut [85] from 86 to 98 (fun z wc=>z = .bool (t6K x)∧WS w wc c x (.slice A0 x.l.length c0) b5)
 case first =>
  by_cases hb97:hasB x 97 = true
  case neg =>
   have hn:hasB x 97 = false:=by simpa using hb97
   clear hb97
   have hh:=HS.out.has kI.out (f:=97) (by decide)
   rw [hn] at hh
   have pY:=ah hh
   have rC:=ah hn
   clear hh hn
   go_wp2_with fail
   refine pY.out.mono ?_
   rintro e W ⟨rfl,h'⟩
   have HA:=ah h'
   obtain ⟨q0,q1,q2,q3,q4,q5,q6,q7,q8,q9,q10,q11,ql,-⟩:=KB.cells h'.kb
   have qc:=CB.get h'.cfg (i:=0) (by omega)
   clear h' pY
   go_wp2_with fail
   go_meet
   case rel=>exact ⟨congrArg Value.bool (by simp [t6K,rC.out]),HA.out⟩
  case pos =>
   have hh:=HS.out.has kI.out (f:=97) (by decide)
   rw [hb97] at hh
   have pY:=ah hh
   have rC:=ah hb97
   clear hh hb97
   go_wp2_with fail
   refine pY.out.mono ?_
   rintro e W ⟨rfl,h'⟩
   have HA:=ah h'
   obtain ⟨q0,q1,q2,q3,q4,q5,q6,q7,q8,q9,q10,q11,ql,-⟩:=KB.cells h'.kb
   have qc:=CB.get h'.cfg (i:=0) (by omega)
   clear h' pY
   clear q0 q1 q2 q3 q4 q5 q6 q7 q8 q9 q10 q11 ql qc
   by_cases hb104:hasB x 104 = true
   case neg =>
    have hn:hasB x 104 = false:=by simpa using hb104
    clear hb104
    have hh:=HA.out.has kI.out (f:=104) (by decide)
    rw [hn] at hh
    have sV:=ah hh
    have yB:=ah hn
    clear hh hn
    go_wp2_with fail
    refine sV.out.mono ?_
    rintro e W ⟨rfl,h'⟩
    have uZ:=ah h'
    obtain ⟨q0,q1,q2,q3,q4,q5,q6,q7,q8,q9,q10,q11,ql,-⟩:=KB.cells h'.kb
    have qc:=CB.get h'.cfg (i:=0) (by omega)
    clear h' sV
    go_wp2_with fail
    go_meet
    case rel=>exact ⟨congrArg Value.bool (by simp [t6K,rC.out,yB.out]),uZ.out⟩
   case pos =>
    have hh:=HA.out.has kI.out (f:=104) (by decide)
    rw [hb104] at hh
    have sV:=ah hh
    have yB:=ah hb104
    clear hh hb104
    go_wp2_with fail
    refine sV.out.mono ?_
    rintro e W ⟨rfl,h'⟩
    have uZ:=ah h'
    obtain ⟨q0,q1,q2,q3,q4,q5,q6,q7,q8,q9,q10,q11,ql,-⟩:=KB.cells h'.kb
    have qc:=CB.get h'.cfg (i:=0) (by omega)
    clear h' sV
    have HW:=ah (fun W=>qd x.a (jk x) 128 (by omega) (by omega) W)
    go_wp2_with fail
    refine (HW.out _).mono ?_
    rintro e W ⟨rfl,rfl⟩
    go_wp2_with fail
    go_meet
    case rel=>exact ⟨congrArg Value.bool (by simp [t6K,rC.out,yB.out,accB]),uZ.out⟩
 obtain ⟨rfl,h5⟩:=hcut
 clear HS
 have HS:=ah h5
 clear h5
 by_cases hb:t6K x = true
 case pos =>
  have HR6:=ah hb
  rw [hb]
  have hr:ci c x = true:=by unfold ci;simp [hb]
  have jC:=ah hr
  clear hb hr
  go_wp2_with fail
  go_ret
  exact ⟨congrArg (fun b=>Ending.returned (.bool b)) jC.out.symm,HS.out.chg⟩
 have mT:t6K x = false:=by simpa using hb
 rw [mT]
 have HR6:=ah mT
 clear hb mT
 go_upto_region 20 with (fail)
 go_cut [99] from 100 to 120 (fun z wc=>z = .bool (t7K x)∧WS w wc c x (.slice A0 x.l.length c0) b5)
 case first =>
  by_cases hb97:hasB x 97 = true
  case neg =>
   have hn:hasB x 97 = false:=by simpa using hb97
   clear hb97
   have hh:=HS.out.has kI.out (f:=97) (by decide)
   rw [hn] at hh
   have pY:=ah hh
   have rC:=ah hn
   clear hh hn
   go_wp2_with fail
   refine pY.out.mono ?_
   rintro e W ⟨rfl,h'⟩
   have HA:=ah h'
   obtain ⟨q0,q1,q2,q3,q4,q5,q6,q7,q8,q9,q10,q11,ql,-⟩:=KB.cells h'.kb
   have qc:=CB.get h'.cfg (i:=0) (by omega)
   clear h' pY
   go_wp2_with fail
   go_meet
   case rel=>exact ⟨congrArg Value.bool (by simp [t7K,rC.out]),HA.out⟩
  case pos =>
   have hh:=HS.out.has kI.out (f:=97) (by decide)
   rw [hb97] at hh
   have pY:=ah hh
   have rC:=ah hb97
   clear hh hb97
   go_wp2_with fail
   refine pY.out.mono ?_
   rintro e W ⟨rfl,h'⟩
   have HA:=ah h'
   obtain ⟨q0,q1,q2,q3,q4,q5,q6,q7,q8,q9,q10,q11,ql,-⟩:=KB.cells h'.kb
   have qc:=CB.get h'.cfg (i:=0) (by omega)
   clear h' pY
   clear q0 q1 q2 q3 q4 q5 q6 q7 q8 q9 q10 q11 ql qc
   by_cases hb112:hasB x 112 = true
   case neg =>
    have hn:hasB x 112 = false:=by simpa using hb112
    clear hb112
    have hh:=HA.out.has kI.out (f:=112) (by decide)
    rw [hn] at hh
    have sY:=ah hh
    have vI:=ah hn
    clear hh hn
    go_wp2_with fail
    refine sY.out.mono ?_
    rintro e W ⟨rfl,h'⟩
    have uZ:=ah h'
    obtain ⟨q0,q1,q2,q3,q4,q5,q6,q7,q8,q9,q10,q11,ql,-⟩:=KB.cells h'.kb
    have qc:=CB.get h'.cfg (i:=0) (by omega)
    clear h' sY
    go_wp2_with fail
    go_meet
    case rel=>exact ⟨congrArg Value.bool (by simp [t7K,rC.out,vI.out]),uZ.out⟩
   case pos =>
    have hh:=HA.out.has kI.out (f:=112) (by decide)
    rw [hb112] at hh
    have sY:=ah hh
    have vI:=ah hb112
    clear hh hb112
    go_wp2_with fail
    refine sY.out.mono ?_
    rintro e W ⟨rfl,h'⟩
    have uZ:=ah h'
    obtain ⟨q0,q1,q2,q3,q4,q5,q6,q7,q8,q9,q10,q11,ql,-⟩:=KB.cells h'.kb
    have qc:=CB.get h'.cfg (i:=0) (by omega)
    clear h' sY
    by_cases hq:(1≤jk x∧jk x≤8)∧0≤x.a∧x.a≤262144 - jk x
    case neg =>
     have hw:=fun W=>qd x.a (jk x) 262144 (by omega) (by omega) W
     rw [ac hq] at hw
     have HW:=ah hw
     have HQ:=ah hq
     clear hw hq
     go_wp2_with fail
     refine (HW.out _).mono ?_
     rintro e W ⟨rfl,rfl⟩
     go_wp2_with fail
     go_meet
     case rel=>exact ⟨congrArg Value.bool (by simp [t7K,rC.out,vI.out,accB,HQ.out]),uZ.out⟩
    case pos =>
     have hw:=fun W=>qd x.a (jk x) 262144 (by omega) (by omega) W
     rw [ae hq] at hw
     have lO:wrap64 (256 - jk x) = 256 - jk x:=by unfold wrap64;omega
     have hrem:wrap64 (x.a.tmod 256) = x.a.tmod 256:=by rw [Int.tmod_eq_emod_of_nonneg hq.2.1];unfold wrap64;omega
     have HW:=ah hw
     have HQ:=ah hq
     clear hw hq
     go_wp2_with fail
     refine (HW.out _).mono ?_
     rintro e W ⟨rfl,rfl⟩
     go_wp2_with fail
     go_meet
     case rel=>exact ⟨congrArg Value.bool (by simp [t7K,rC.out,vI.out,accB,HQ.out]),uZ.out⟩
 obtain ⟨rfl,h5⟩:=hcut
 clear HS
 have HS:=ah h5
 clear h5
 by_cases hb:t7K x = true
 case pos =>
  have Eg:=ah hb
  rw [hb]
  have hr:ci c x = true:=by unfold ci;simp [hb]
  have jC:=ah hr
  clear hb hr
  go_wp2_with fail
  go_ret
  exact ⟨congrArg (fun b=>Ending.returned (.bool b)) jC.out.symm,HS.out.chg⟩
 have mT:t7K x = false:=by simpa using hb
 rw [mT]
 have Eg:=ah mT
 clear hb mT
 have hr:ci c x = t8K x:=by unfold ci;simp [Fj.out,rJ.out,Fo.out,CC.out,AN.out,Fp.out,BD.out,HR6.out,Eg.out]
 have HW8:=ah hr
 clear hr Fo CC AN Fp BD HR6 Eg
 obtain ⟨q0,q1,q2,q3,q4,q5,q6,q7,q8,q9,q10,q11,ql,-⟩:=KB.cells HS.out.kb
 by_cases hk:x.k = 10
 case neg =>
  have hr:t8K x = false:=by unfold t8K;simp [hk]
  have oB:((x.k:Int) == 10) = false:=by simp;omega
  have rX:¬ ((x.k:Int) = 10):=by omega
  have jC:=ah (HW8.out.trans hr)
  clear hr hk
  go_wp2_with fail
  go_ret
  exact ⟨congrArg (fun b=>Ending.returned (.bool b)) jC.out.symm,HS.out.chg⟩
 have hr:t8K x = !decide (1≤x.s∧x.s≤128):=by unfold t8K;simp [hk]
 have jC:=ah (HW8.out.trans hr)
 rw [hk] at q0
 clear hr hk
 have HW:=ah (fun W=>fx x.s 1 128 W)
 go_wp2_with fail
 refine (HW.out _).mono ?_
 rintro e W ⟨rfl,rfl⟩
 go_wp2_with fail
 go_ret
 exact ⟨by rw [jC.out];simp,HS.out.chg⟩
end Go.Proofs.YtfoleblcaloeoaaGreatDoor
