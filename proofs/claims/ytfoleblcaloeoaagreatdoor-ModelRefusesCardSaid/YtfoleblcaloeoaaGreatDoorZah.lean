/- Texts merged for the claim. -/
import Derived.Test.YtfoleblcaloeoaaGreatDoorZag
set_option maxHeartbeats 40000000
set_option maxRecDepth 20000
namespace Go.Proofs.YtfoleblcaloeoaaGreatDoor
open Go Go.RowKit
theorem eQ (x y:Cl) (f:Nat):(jv x y f).l = if f = 98 then x.l else y.l:=by
 unfold jv
 by_cases h:f = 98
 ·subst h;rfl
 ·rw [if_neg h]
  repeat' split
  all_goals first | rfl | exact absurd (by assumption) h
theorem part_rb {w:World} {x:Cl} {v:Value} (hv:RB w v x.l):∀(F:List Nat) (y:Cl) (u:Value),RB w u y.l→RB w (F.foldl (pu v) u) (F.foldl (jv x) y).l:=by
 intro F
 induction F with
 | nil=>intro y u h;exact h
 | cons f F ih =>
  intro y u h
  refine ih _ _ ?_
  rw [eQ]
  unfold pu
  split
  ·exact hv
  ·exact h
theorem bare_rb {w:World} {x:Cl} {v:Value} (hv:RB w v x.l):RB w (bareU x v) (jj x).l:=part_rb hv (fld x.k) { zCl with k:=x.k } zV (RE.nil ucl 1 w none 0)
theorem part_b8 {x:Cl} (hx:∀b∈x.l,b < 256):∀(F:List Nat) (y:Cl),(∀b∈y.l,b < 256)→∀b∈(F.foldl (jv x) y).l,b < 256:=by
 intro F
 induction F with
 | nil=>intro y h;exact h
 | cons f F ih =>
  intro y h
  refine ih _ ?_
  rw [eQ]
  split
  ·exact hx
  ·exact h
theorem bare_b8 {x:Cl} (hx:∀b∈x.l,b < 256):∀b∈(jj x).l,b < 256:=part_b8 hx (fld x.k) { zCl with k:=x.k } (by intro b hb;cases hb)
def lc (x:Cl):Bool:=(fld x.k != []) && cz x (jj x) && decide (x.l.length≤8)
theorem str_ne (F:List Nat):((dz F).toList == []) = (F == []):=by
 rw [ux]
 cases F <;> rfl
theorem MayK_any {w:World} (hf:FW w) {x:Cl} {v:Value} (hx:x.Ok) (hv:RB w v x.l) :
  Calls Tryz.prog 56 #[.agg (clc x v)] w fun e w'=>e = .returned (.bool (lc x))∧Chg [] w w':=by
 obtain ⟨A0,c0,rfl⟩:=RE.form hv
 have kF:=Blk.new w 47 (clc x (.slice A0 x.l.length c0))
 have jH:Chg [] w (w.alloc (.cells (clc x (.slice A0 x.l.length c0)) 47)):=(Chg.refl [] w).alloc _
 obtain ⟨W2,jB⟩:∃W2,W2 = w.alloc (.cells (clc x (.slice A0 x.l.length c0)) 47):=⟨_,rfl⟩
 rw [← jB] at kF jH
 have HB:=ah (show KB W2 w.heap.size x (.slice A0 x.l.length c0) from kF)
 have HC:=ah jH
 obtain ⟨c1,c2,c3,c4,c5,c6,c7,c8,c9,c10,c11,c12,cl,cf⟩:=KB.cells kF
 have sF:=ah (fun W (h:Chg [] w W)=>dZ (hf.stay h) hx.k)
 have ET:=ah (fun W (h:Chg [] w W)=>gS (hf.stay h) (x:=x) (v:=.slice A0 x.l.length c0) hx.k ⟨_,_,_,rfl⟩)
 have sG:=ah (fun W (h:Chg [] w W)=>gJ (x:=x) (y:=jj x) (hv.stay h) (bare_rb (hv.stay h)) hx.l (bare_b8 hx.l))
 have jP:=ah jB
 clear kF jH jB hf hv hx c2 c3 c4 c5 c6 c7 c8 c9 c10 c11 cf
 have hs:=str_ne (fld x.k)
 by_cases h0:fld x.k = []
 ·have hm:lc x = false:=by unfold lc;rw [h0];rfl
  rw [hm]
  rw [h0] at hs sF
  have e1:((dz []).toList == []) = true:=hs
  have e2:((dz []).toList != []) = false:=by rw [bne,e1];rfl
  have e3:(dz []).toList = []:=by rw [ux];rfl
  generalize dz [] = s at e1 e2 e3 sF
  clear hm h0 hs ET sG
  go_enter Tryz.func56,Tryz.ntmps56
  go_wp2_with (first|refine ax rfl _ rfl rfl ?_;try rw [← jP.out])
  refine rgt [0,1,3,0,0,5,1,6,3,0,0,0,1,0,0,0,0] [none,none,none,none,none,some (7,true),some (7,true),some (7,true),some (7,true),none,none,some (13,true),some (13,true),some (13,true),some (13,true),none,none] (fun W=>KB W w.heap.size x (.slice A0 x.l.length c0)) ?_
  go_wp2_with (first|refine av fun K I=>?_|refine ay ?_ ?_;(focus (simp [bb];done));go_simp|refine bh ?_ ?_;(focus (simp [bb];done))|refine ai fun K I=>?_;go_simp;refine I _ _ ?_;clear I K|refine ao fun K I=>?_;go_simp|refine aj ?_)
  refine (sF.out W2.drew HC.out.drew).mono ?_
  rintro e W3 ⟨rfl,rfl⟩
  refine I _ _ ?_
  clear I K
  go_wp2_with (first|refine av fun K I=>?_|refine ay ?_ ?_;(focus (simp [bb];done));go_simp|refine bh ?_ ?_;(focus (simp [bb];done))|refine ai fun K I=>?_;go_simp;refine I _ _ ?_;clear I K|refine ao fun K I=>?_;go_simp|refine aj ?_)
  go_ret
  exact ⟨rfl,HC.out.drew⟩
 ·have e1:((dz (fld x.k)).toList == []) = false:=by rw [hs];exact beq_false_of_ne h0
  have e2:((dz (fld x.k)).toList != []) = true:=by rw [bne,e1];rfl
  have e3:¬ (dz (fld x.k)).toList = []:=by simpa using e1
  have hm:lc x = (cz x (jj x) && decide (x.l.length≤8)):=by
   unfold lc
   rw [show (fld x.k != []) = true from bne_iff_ne.2 h0,Bool.true_and]
  rw [hm]
  clear hm h0 hs
  generalize dz (fld x.k) = s at e1 e2 e3 sF
  obtain ⟨y,hy⟩:∃y,cz x (jj x) = y:=⟨_,rfl⟩
  rw [hy] at sG ⊢
  clear hy
  generalize jj x = z at ET sG
  generalize bareU x (.slice A0 x.l.length c0) = u at ET sG
  have d1:((x.l.length:Int)≤8) = (x.l.length≤8):=by simp;omega
  cases y with
  | false =>
   rw [Bool.false_and]
   go_enter Tryz.func56,Tryz.ntmps56
   go_wp2_with (first|refine ax rfl _ rfl rfl ?_;try rw [← jP.out])
   refine rgt [0,1,3,0,0,5,5,6,3,0,0,0,1,0,0,0,0] [none,none,none,none,none,some (7,true),some (7,true),some (7,true),some (7,true),none,none,some (13,true),some (13,true),some (13,true),some (13,true),none,none] (fun W=>KB W w.heap.size x (.slice A0 x.l.length c0)) ?_
   go_wp2_with (first|refine av fun K I=>?_|refine ay ?_ ?_;(focus (simp [bb];done));go_simp|refine bh ?_ ?_;(focus (simp [bb];done))|refine ai fun K I=>?_;go_simp;refine I _ _ ?_;clear I K|refine ao fun K I=>?_;go_simp|refine aj ?_)
   refine (sF.out W2.drew HC.out.drew).mono ?_
   rintro e W3 ⟨rfl,rfl⟩
   refine I _ _ ?_
   clear I K
   have hS:KB W2.drew w.heap.size x (.slice A0 x.l.length c0):=HB.out.drew
   go_wp2_with (first|refine al 47 _ rfl rfl (fun w' J=>KB.load J) hS ?_|refine av fun K I=>?_|refine ay ?_ ?_;(focus (simp [bb];done));go_simp|refine bh ?_ ?_;(focus (simp [bb];done))|refine ai fun K I=>?_;go_simp;refine I _ _ ?_;clear I K|refine ao fun K I=>?_;go_simp|refine aj ?_)
   (refine aw hS fun K I=>?_)
   go_simp
   refine (ET.out W2.drew HC.out.drew).mono ?_
   rintro e W3 ⟨rfl,jD⟩
   have jE:=ah (HC.out.drew.stay jD)
   have lM:KB W3 w.heap.size x (.slice A0 x.l.length c0):=KB.stay hS jD
   refine I _ _ lM ?_
   clear I K hS
   have oF:=ah lM
   clear lM
   go_wp2_with (first|refine av fun K I=>?_|refine ay ?_ ?_;(focus (simp [bb];done));go_simp|refine bh ?_ ?_;(focus (simp [bb];done))|refine ai fun K I=>?_;go_simp;refine I _ _ ?_;clear I K|refine ao fun K I=>?_;go_simp|refine aj ?_)
   refine (sG.out _ jE.out).mono ?_
   rintro e W4 ⟨rfl,jT⟩
   refine I _ _ ?_
   clear I K
   obtain ⟨-,-,-,-,-,-,-,-,-,-,-,q12,ql,-⟩:=KB.cells (KB.stay oF.out jT)
   have jR:=ah (jE.out.stay jT)
   clear jD jT
   go_wp2_with (first|refine av fun K I=>?_|refine ay ?_ ?_;(focus (simp [bb];done));go_simp|refine bh ?_ ?_;(focus (simp [bb];done))|refine ai fun K I=>?_;go_simp;refine I _ _ ?_;clear I K|refine ao fun K I=>?_;go_simp|refine aj ?_)
   go_ret
   exact ⟨rfl,jR.out⟩
  | true =>
   rw [Bool.true_and]
   go_enter Tryz.func56,Tryz.ntmps56
   go_wp2_with (first|refine ax rfl _ rfl rfl ?_;try rw [← jP.out])
   refine rgt [0,1,3,0,0,5,5,6,3,0,0,0,1,0,0,0,0] [none,none,none,none,none,some (7,true),some (7,true),some (7,true),some (7,true),none,none,some (13,true),some (13,true),some (13,true),some (13,true),none,none] (fun W=>KB W w.heap.size x (.slice A0 x.l.length c0)) ?_
   go_wp2_with (first|refine av fun K I=>?_|refine ay ?_ ?_;(focus (simp [bb];done));go_simp|refine bh ?_ ?_;(focus (simp [bb];done))|refine ai fun K I=>?_;go_simp;refine I _ _ ?_;clear I K|refine ao fun K I=>?_;go_simp|refine aj ?_)
   refine (sF.out W2.drew HC.out.drew).mono ?_
   rintro e W3 ⟨rfl,rfl⟩
   refine I _ _ ?_
   clear I K
   have hS:KB W2.drew w.heap.size x (.slice A0 x.l.length c0):=HB.out.drew
   go_wp2_with (first|refine al 47 _ rfl rfl (fun w' J=>KB.load J) hS ?_|refine av fun K I=>?_|refine ay ?_ ?_;(focus (simp [bb];done));go_simp|refine bh ?_ ?_;(focus (simp [bb];done))|refine ai fun K I=>?_;go_simp;refine I _ _ ?_;clear I K|refine ao fun K I=>?_;go_simp|refine aj ?_)
   (refine aw hS fun K I=>?_)
   go_simp
   refine (ET.out W2.drew HC.out.drew).mono ?_
   rintro e W3 ⟨rfl,jD⟩
   have jE:=ah (HC.out.drew.stay jD)
   have lM:KB W3 w.heap.size x (.slice A0 x.l.length c0):=KB.stay hS jD
   refine I _ _ lM ?_
   clear I K hS
   have oF:=ah lM
   clear lM
   go_wp2_with (first|refine av fun K I=>?_|refine ay ?_ ?_;(focus (simp [bb];done));go_simp|refine bh ?_ ?_;(focus (simp [bb];done))|refine ai fun K I=>?_;go_simp;refine I _ _ ?_;clear I K|refine ao fun K I=>?_;go_simp|refine aj ?_)
   refine (sG.out _ jE.out).mono ?_
   rintro e W4 ⟨rfl,jT⟩
   refine I _ _ ?_
   clear I K
   obtain ⟨-,-,-,-,-,-,-,-,-,-,-,q12,ql,-⟩:=KB.cells (KB.stay oF.out jT)
   have jR:=ah (jE.out.stay jT)
   clear jD jT
   go_wp2_with (first|refine av fun K I=>?_|refine ay ?_ ?_;(focus (simp [bb];done));go_simp|refine bh ?_ ?_;(focus (simp [bb];done))|refine ai fun K I=>?_;go_simp;refine I _ _ ?_;clear I K|refine ao fun K I=>?_;go_simp|refine aj ?_)
   go_ret
   exact ⟨by simp,jR.out⟩
def eu (z:Int):Nat:=(z % 18446744073709551616).toNat
def bu (n:Nat):Int:=if n < 9223372036854775808 then (n:Int) else (n:Int) - 18446744073709551616
theorem rs (z:Int):eu z < 18446744073709551616:=by unfold eu;omega
theorem yw {z:Int} (h1:-9223372036854775808≤z) (h2:z≤9223372036854775807):bu (eu z) = z:=by unfold bu eu;split <;> omega
def wl (x:Cl) (f:Nat):List Nat :=
 if f = 112 then [eu x.p] else if f = 103 then [eu x.g] else if f = 99 then [eu x.c] else if f = 110 then [eu x.n] else if f = 97 then [eu x.a] else if f = 115 then [eu x.s]
 else if f = 114 then [x.r] else if f = 111 then [x.ok,x.om] else if f = 104 then [x.h] else []
theorem js (z:Int):IntKind.u64.wrap z = ((eu z:Nat):Int):=by
 rw [IntKind.wrap_u64]
 unfold eu
 omega
theorem cq {n:Nat} (h:n < 18446744073709551616):IntKind.i64.wrap (n:Int) = bu n:=by
 unfold bu
 rw [IntKind.wrap_i64]
 split <;> omega
theorem dV {x:Cl} (h:lc x = true):fld x.k≠[]∧jj x = x∧x.l.length≤8:=by
 unfold lc at h
 simp only [Bool.and_eq_true,bne_iff_ne,ne_eq,decide_eq_true_eq] at h
 exact ⟨h.1.1,((nu _ _).1 h.1.2).symm,h.2⟩
end Go.Proofs.YtfoleblcaloeoaaGreatDoor
