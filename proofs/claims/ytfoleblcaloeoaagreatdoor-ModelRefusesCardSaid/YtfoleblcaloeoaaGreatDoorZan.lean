/- Texts merged for the claim. -/
import Derived.Test.YtfoleblcaloeoaaGreatDoorZal
import Derived.Test.YtfoleblcaloeoaaGreatDoorZak
import Derived.Test.YtfoleblcaloeoaaGreatDoorZag
import Derived.Carry
import Derived.OpenShut
set_option maxHeartbeats 40000000
set_option maxRecDepth 20000
namespace Go.Proofs.YtfoleblcaloeoaaGreatDoor
open Go Go.RowKit
structure BT (l:List (Nat × Value)) (d:Cf):Prop where
 h:Tryz.prog.built 26 l = some (cg d)
theorem xj {ops:Array Oper} {rest:List Oper} {o:Oper} {a:Act} {w:World} {Q:Exit→Act→World→Prop} {d:Cf} (hg:o.guard = none) (parts:Array (Nat × Operand)) (ho:o.op = .build 26 parts)
  {l:List (Nat × Value)} (hb:BT l d) (hl:(parts.map fun (i,x)=>(i,a.eval x)).toList = l) (h:wpList Tryz.prog ops Q rest (a.put o.dst (.agg (cg d))) w):wpList Tryz.prog ops Q (o :: rest) a w :=
 wpList_build hg 26 parts ho (by rw [hl,hb.h];rfl) (by rw [hl,hb.h];exact h)
theorem cw {ops:Array Oper} {rest:List Oper} {o:Oper} {a:Act} {w:World} {Q:Exit→Act→World→Prop} {b:Nat} {c:Cf} (hg:o.guard = none) (x:Operand) (ho:o.op = .load 26 x)
  (hx:a.eval x = .pointer (some ⟨b,0,none⟩)) (h0:CB w b c) (h:wpList Tryz.prog ops Q rest (a.put o.dst (.agg (cg c))) w):wpList Tryz.prog ops Q (o :: rest) a w:=ng h0 hg x ho hx h
theorem pq {ops:Array Oper} {rest:List Oper} {o:Oper} {a:Act} {w:World} {Q:Exit→Act→World→Prop} {b:Nat} {c d:Cf} (hg:o.guard = none) (x y:Operand) (ho:o.op = .store 26 x y)
  (hx:a.eval x = .pointer (some ⟨b,0,none⟩)) (hy:a.eval y = .agg (cg d)) (h0:CB w b c) (h:∀w',CB w' b d→Chg [b] w w'→wpList Tryz.prog ops Q rest (a.put o.dst undef) w'):wpList Tryz.prog ops Q (o :: rest) a w:=qz h0 hg x y ho hx hy h
end Go.Proofs.YtfoleblcaloeoaaGreatDoor
namespace Go.Proofs.YtfoleblcaloeoaaGreatDoor.Ar
open Go Go.RowKit
theorem AMem.set {w w':World} {d:Nat} {l m:List Rn} {F:List Nat} {A:Option Addr} {n c:Nat} (h:AMem w d l F) (hc:Chg [] w w') (hs:SR w' (.slice A n c) m) (hn:∀k∈own (.slice A n c),w.heap.size≤k) :
  AMem (w'.setCell ⟨d,0,none⟩ (.slice A n c)) d m (d :: own (.slice A n c)):=by
 obtain ⟨v,hb,qU,hF,jF⟩:=h
 have mT:=hb.chg hc (by simp)
 refine ⟨.slice A n c,?_,?_,fun k hk=>hk,fun k hk=>?_⟩
 ·have:=mT.set_ 0 (.slice A n c)
  simpa using this
 ·exact Sl.far hs (p:=⟨d,0,none⟩) (fun e=>km hs mT (by decide) (gv.2 e)) _
 ·rw [qq]
  rcases List.mem_cons.1 hk with rfl | hk
  ·exact mT.lt
  ·exact hs.own_lt k hk
def AOp (w:World) (d:Nat) (F:List Nat) (m:List Rn) (x:Int) (e:Ending) (w':World):Prop:=e = .returned (.int .i64 x)∧(∃F',AMem w' d m F'∧Step F F' w)∧Chg F w w'
theorem AOp.none {w w':World} {d:Nat} {F:List Nat} {m:List Rn} {x:Int} (h:AMem w d m F) (hc:Chg [] w w'):AOp w d F m x (.returned (.int .i64 x)) w':=⟨rfl,⟨F,h.stay hc,Step.refl _ _⟩,hc.up _⟩
theorem ui {w w1:World} {d:Nat} {l m:List Rn} {F:List Nat} {A:Option Addr} {n c:Nat} (h:AMem w d l F) (hc:Chg [] w w1) (hs:SR w1 (.slice A n c) m) (hn:∀k∈own (.slice A n c),w.heap.size≤k) (hm:m.length≤100000) :
  Calls Tryz.prog 121 #[.pointer (some ⟨d,0,none⟩),.slice A n c] w1 (AOp w d F (setR l m) (setE m)):=by
 have e2:n = m.length:=by
  obtain ⟨A',c',e⟩:=hs.form
  injection e
 have hd:=h.mem
 have vN:w1.frozen? ⟨d,0,none⟩ = false:=(h.choose_spec.1.chg hc (by simp)).frozen 0
 have nR:=((h.choose_spec.1.chg hc (by simp)).cell 0)
 simp at nR
 have He2:=ah e2
 have hmn:n≤100000:=by omega
 by_cases hbig:32 < n
 ·have e1:setE m = 9:=by unfold setE;rw [if_pos (by omega)]
  have e3:setR l m = l:=by unfold setR;rw [if_pos (by omega)]
  rw [e1,e3]
  clear e2 e1 e3
  go_enter Tryz.func121,Tryz.ntmps121
  go_wp2_with fail
  go_ret
  exact AOp.none h hc
 ·have e1:setE m = 0:=by unfold setE;rw [if_neg (by omega)]
  have e3:setR l m = m:=by unfold setR;rw [if_neg (by omega)]
  rw [e1,e3]
  clear e2 e1 e3
  go_enter Tryz.func121,Tryz.ntmps121
  go_wp2_with fail
  go_ret
  exact ⟨rfl,⟨_,h.set hc hs hn,fun k hk=>(List.mem_cons.1 hk).elim (fun e=>.inl (e ▸ hd)) (fun h'=>.inr (hn k h'))⟩,(hc.up F).setCell (.inl hd) _⟩
theorem Okm {l:List Rn} (h:Fit l) {page count g:Int} (h0:0≤page) (h1:1≤count) (h2:page+count≤1024):(withL l page count g).length≤100000:=by
 have hf:=bN (g:=g) h0 h1 h2 h l.length
 have hw:=(with_spec (g:=g) h.1 h0 h1).1
 have hwf:=ua (g:=g) h0 h1 h l.length
 rw [List.take_length] at hf hwf
 have h3:=hf.len
 have:∀(m:List Rn) (r:Rn),(ji m r).length≤m.length+1:=fun m r=>by
  unfold ji
  split
  ·omega
  ·split
   ·simp
   ·split
    ·simp
    ·simp
 unfold withL endL
 split
 ·omega
 ·have:=this (l.foldl (jg page count g) ([],false)).1 ⟨page,count,g⟩
  omega
theorem map_at {w:World} {d:Nat} {l:List Rn} {F:List Nat} (h:AMem w d l F) (hs:Sp l) (page count g:Int):Calls Tryz.prog 95 #[.pointer (some ⟨d,0,none⟩),.int .i64 page,.int .i64 count,.int .u8 g] w (AOp w d F (mapR l page count g) (mapE l page count g)):=by
 cases hb:mayB page count with
 | false =>
  have e1:mapE l page count g = 2:=by unfold mapE;rw [if_pos (.inl hb)]
  have e3:mapR l page count g = l:=by unfold mapR;rw [if_pos (.inl hb)]
  rw [e1,e3]
  clear e1 e3
  have H:=ah h
  clear h
  go_enter Tryz.func95,Tryz.ntmps95
  go_wp2_with (first|(go_at_call 100;refine (jm _ _ _).mono ?_;rintro e w' ⟨rfl,rfl⟩)|(go_at_call 120;refine (dv _ _).mono ?_;rintro e w' ⟨rfl,rfl⟩))
  go_ret
  exact AOp.none H.out (Chg.refl _ _)
 | true =>
  cases hg:rgB g with
  | false =>
   have e1:mapE l page count g = 2:=by unfold mapE;rw [if_pos (.inr hg)]
   have e3:mapR l page count g = l:=by unfold mapR;rw [if_pos (.inr hg)]
   rw [e1,e3]
   clear e1 e3
   have H:=ah h
   clear h
   go_enter Tryz.func95,Tryz.ntmps95
   go_wp2_with (first|(go_at_call 100;refine (jm _ _ _).mono ?_;rintro e w' ⟨rfl,rfl⟩)|(go_at_call 120;refine (dv _ _).mono ?_;rintro e w' ⟨rfl,rfl⟩))
   go_ret
   exact AOp.none H.out (Chg.refl _ _)
  | true =>
   have hm:=mayB_iff.1 hb
   obtain ⟨m1,m2,m3,m4⟩:=hm
   have HC:=ah (bL h hs.okl (by have:=hs.len;omega) page count ⟨m1,by omega⟩ ⟨by omega,m3⟩)
   have CY:=cnt_le hs.nm (page:=page) (count:=count) (by omega)
   by_cases hcnt:0 < cntL l page count
   ·have e1:mapE l page count g = 8:=by unfold mapE;rw [if_neg (by simp [hb,hg]),if_pos hcnt]
    have e3:mapR l page count g = l:=by unfold mapR;rw [if_neg (by simp [hb,hg]),if_pos hcnt]
    rw [e1,e3]
    clear e1 e3
    have H:=ah h
    clear h
    generalize cntL l page count = x at HC hcnt CY
    go_enter Tryz.func95,Tryz.ntmps95
    go_wp2_with (first|(go_at_call 100;refine (jm _ _ _).mono ?_;rintro e w' ⟨rfl,rfl⟩)|(go_at_call 120;refine (dv _ _).mono ?_;rintro e w' ⟨rfl,rfl⟩)|go_at_call 101;refine HC.out.mono ?_;rintro e w1 ⟨rfl,jH⟩)
    go_ret
    exact AOp.none H.out jH
   ·have e1:mapE l page count g = setE (withL l page count g):=by unfold mapE;rw [if_neg (by simp [hb,hg]),if_neg hcnt]
    have e3:mapR l page count g = setR l (withL l page count g):=by unfold mapR;rw [if_neg (by simp [hb,hg]),if_neg hcnt]
    rw [e1,e3]
    clear e1 e3
    have HW:=ah (fun W (hc:Chg [] w W)=>aV (g:=g) (h.stay hc) hs.fit m1 m2 (by omega:page+count≤1024))
    have HS:=ah (fun W A n c (hc:Chg [] w W) (hs:SR W (.slice A n c) (withL l page count g)) hn=>ui h hc hs hn (Okm ‹Sp l›.fit m1 m2 (by omega)))
    have H:=ah h
    clear h
    generalize cntL l page count = x at HC hcnt CY
    go_enter Tryz.func95,Tryz.ntmps95
    go_wp2_with (first|(go_at_call 100;refine (jm _ _ _).mono ?_;rintro e w' ⟨rfl,rfl⟩)|(go_at_call 120;refine (dv _ _).mono ?_;rintro e w' ⟨rfl,rfl⟩)|go_at_call 101;refine HC.out.mono ?_;rintro e w1 ⟨rfl,jH⟩|go_at_call 122;refine (HW.out _ jH).mono ?_;rintro e w2 ⟨A2,n2,c2,rfl,oH,tI,jA⟩|go_at_call 121;refine (HS.out _ _ _ _ (jH.stay jA) oH (fun k hk=>ag jH.size (tI k hk))).mono ?_;rintro e w3 ⟨rfl,zD,jD⟩)
    go_ret
    exact ⟨rfl,zD,jD⟩
theorem un_at {w:World} {d:Nat} {l:List Rn} {F:List Nat} (h:AMem w d l F) (hs:Sp l) (page count:Int):Calls Tryz.prog 96 #[.pointer (some ⟨d,0,none⟩),.int .i64 page,.int .i64 count] w (AOp w d F (unR l page count) (unE l page count)):=by
 cases hb:mayB page count with
 | false =>
  have e1:unE l page count = 2:=by unfold unE;rw [if_pos hb]
  have e3:unR l page count = l:=by unfold unR;rw [if_pos hb]
  rw [e1,e3]
  clear e1 e3
  have H:=ah h
  clear h
  go_enter Tryz.func96,Tryz.ntmps96
  go_wp2_with (first|(go_at_call 100;refine (jm _ _ _).mono ?_;rintro e w' ⟨rfl,rfl⟩)|(go_at_call 120;refine (dv _ _).mono ?_;rintro e w' ⟨rfl,rfl⟩))
  go_ret
  exact AOp.none H.out (Chg.refl _ _)
 | true =>
  have hm:=mayB_iff.1 hb
  obtain ⟨m1,m2,m3,m4⟩:=hm
  have e1:unE l page count = setE (withL l page count 0):=by unfold unE;rw [if_neg (by simp [hb])]
  have e3:unR l page count = setR l (withL l page count 0):=by unfold unR;rw [if_neg (by simp [hb])]
  rw [e1,e3]
  clear e1 e3
  have HW:=ah (aV (g:=0) h hs.fit m1 m2 (by omega:page+count≤1024))
  have HS:=ah (fun W A n c (hc:Chg [] w W) (hs:SR W (.slice A n c) (withL l page count 0)) hn=>ui h hc hs hn (Okm ‹Sp l›.fit m1 m2 (by omega)))
  clear h
  go_enter Tryz.func96,Tryz.ntmps96
  go_wp2_with (first|(go_at_call 100;refine (jm _ _ _).mono ?_;rintro e w' ⟨rfl,rfl⟩)|(go_at_call 120;refine (dv _ _).mono ?_;rintro e w' ⟨rfl,rfl⟩)|go_at_call 122;refine HW.out.mono ?_;rintro e w2 ⟨A2,n2,c2,rfl,oH,tI,jA⟩|go_at_call 121;refine (HS.out _ _ _ _ jA oH tI).mono ?_;rintro e w3 ⟨rfl,zD,jD⟩)
  go_ret
  exact ⟨rfl,zD,jD⟩
theorem mdE_eq {l:List Rn} {page count:Int} (hb:mayB page count = true):mdE l page count = if cntL l page count < count then 7 else 0:=by unfold mdE;rw [if_neg (by simp [hb])]
theorem md_at {w:World} {d:Nat} {l:List Rn} {F:List Nat} (h:AMem w d l F) (hs:Sp l) (page count:Int):Calls Tryz.prog 70 #[.pointer (some ⟨d,0,none⟩),.int .i64 page,.int .i64 count] w fun e w'=>e = .returned (.int .i64 (mdE l page count))∧Chg [] w w':=by
 cases hb:mayB page count with
 | false =>
  have e1:mdE l page count = 2:=by unfold mdE;rw [if_pos hb]
  rw [e1]
  clear e1 h
  go_enter Tryz.func70,Tryz.ntmps70
  go_wp2_with (first|(go_at_call 100;refine (jm _ _ _).mono ?_;rintro e w' ⟨rfl,rfl⟩)|(go_at_call 120;refine (dv _ _).mono ?_;rintro e w' ⟨rfl,rfl⟩))
  go_ret
  exact ⟨rfl,Chg.refl _ _⟩
 | true =>
  have hm:=mayB_iff.1 hb
  obtain ⟨m1,m2,m3,m4⟩:=hm
  have HC:=ah (bL h hs.okl (by have:=hs.len;omega) page count ⟨m1,by omega⟩ ⟨by omega,m3⟩)
  have CY:=cnt_le hs.nm (page:=page) (count:=count) (by omega)
  rw [mdE_eq hb]
  by_cases hcnt:cntL l page count < count
  ·rw [if_pos hcnt]
   clear h
   generalize cntL l page count = x at HC hcnt CY
   go_enter Tryz.func70,Tryz.ntmps70
   go_wp2_with (first|(go_at_call 100;refine (jm _ _ _).mono ?_;rintro e w' ⟨rfl,rfl⟩)|(go_at_call 120;refine (dv _ _).mono ?_;rintro e w' ⟨rfl,rfl⟩)|go_at_call 101;refine HC.out.mono ?_;rintro e w1 ⟨rfl,jH⟩)
   go_ret
   exact ⟨rfl,jH⟩
  ·rw [if_neg hcnt]
   clear h
   generalize cntL l page count = x at HC hcnt CY
   go_enter Tryz.func70,Tryz.ntmps70
   go_wp2_with (first|(go_at_call 100;refine (jm _ _ _).mono ?_;rintro e w' ⟨rfl,rfl⟩)|(go_at_call 120;refine (dv _ _).mono ?_;rintro e w' ⟨rfl,rfl⟩)|go_at_call 101;refine HC.out.mono ?_;rintro e w1 ⟨rfl,jH⟩)
   go_ret
   exact ⟨rfl,jH⟩
theorem pr_at {w:World} {d:Nat} {l:List Rn} {F:List Nat} (h:AMem w d l F) (hs:Sp l) (page count g:Int):Calls Tryz.prog 97 #[.pointer (some ⟨d,0,none⟩),.int .i64 page,.int .i64 count,.int .u8 g] w (AOp w d F (prR l page count g) (prE l page count g)):=by
 cases hg:rgB g with
 | false =>
  have e1:prE l page count g = 2:=by unfold prE;rw [if_pos hg]
  have e3:prR l page count g = l:=by unfold prR;rw [if_pos hg]
  rw [e1,e3]
  clear e1 e3
  have H:=ah h
  clear h
  go_enter Tryz.func97,Tryz.ntmps97
  go_wp2_with (first|(go_at_call 100;refine (jm _ _ _).mono ?_;rintro e w' ⟨rfl,rfl⟩)|(go_at_call 120;refine (dv _ _).mono ?_;rintro e w' ⟨rfl,rfl⟩))
  go_ret
  exact AOp.none H.out (Chg.refl _ _)
 | true =>
  have HM:=ah (md_at h hs page count)
  by_cases hmd:mdE l page count = 0
  ·have hb:=fW hmd
   have hm:=mayB_iff.1 hb
   obtain ⟨m1,m2,m3,m4⟩:=hm
   have e1:prE l page count g = setE (withL l page count g):=by unfold prE;rw [if_neg (by simp [hg]),if_neg (by simp [hmd])]
   have e3:prR l page count g = setR l (withL l page count g):=by unfold prR;rw [if_neg (by simp [hg]),if_neg (by simp [hmd])]
   rw [e1,e3]
   rw [hmd] at HM
   clear e1 e3 hmd
   have HW:=ah (fun W (hc:Chg [] w W)=>aV (g:=g) (h.stay hc) hs.fit m1 m2 (by omega:page+count≤1024))
   have HS:=ah (fun W A n c (hc:Chg [] w W) (hs:SR W (.slice A n c) (withL l page count g)) hn=>ui h hc hs hn (Okm ‹Sp l›.fit m1 m2 (by omega)))
   clear h
   go_enter Tryz.func97,Tryz.ntmps97
   go_wp2_with (first|(go_at_call 120;refine (dv _ _).mono ?_;rintro e w' ⟨rfl,rfl⟩)|go_at_call 70;refine HM.out.mono ?_;rintro e w1 ⟨rfl,jH⟩|go_at_call 122;refine (HW.out _ jH).mono ?_;rintro e w2 ⟨A2,n2,c2,rfl,oH,tI,jA⟩|go_at_call 121;refine (HS.out _ _ _ _ (jH.stay jA) oH (fun k hk=>ag jH.size (tI k hk))).mono ?_;rintro e w3 ⟨rfl,zD,jD⟩)
   go_ret
   exact ⟨rfl,zD,jD⟩
  ·have e1:prE l page count g = mdE l page count:=by unfold prE;rw [if_neg (by simp [hg]),if_pos hmd]
   have e3:prR l page count g = l:=by unfold prR;rw [if_neg (by simp [hg]),if_pos hmd]
   rw [e1,e3]
   clear e1 e3
   obtain ⟨x,hx⟩:∃x,mdE l page count = x:=⟨_,rfl⟩
   rw [hx] at HM hmd ⊢
   have Aw:(x == 0) = false:=beq_eq_false_iff_ne.2 hmd
   have H:=ah h
   clear h hx hmd
   go_enter Tryz.func97,Tryz.ntmps97
   go_wp2_with (first|(go_at_call 120;refine (dv _ _).mono ?_;rintro e w' ⟨rfl,rfl⟩)|go_at_call 70;refine HM.out.mono ?_;rintro e w1 ⟨rfl,jH⟩)
   go_ret
   exact AOp.none H.out jH
theorem new_any (w:World):Calls Tryz.prog 92 #[] w fun e w'=>e = .returned (.pointer (some ⟨w.heap.size,0,none⟩))∧AMem w' w.heap.size [] [w.heap.size]∧Chg [] w w':=by
 go_enter Tryz.func92,Tryz.ntmps92
 go_wp2_with fail
 go_ret
 exact ⟨rfl,⟨.slice none 0 0,Blk.new w 142 _,SE.nil _ _ _ _,fun k hk=>by simpa [own,Value.ownBlock] using hk,fun k hk=>by obtain rfl:=aa hk;simp⟩,(Chg.refl _ _).alloc _⟩
end Go.Proofs.YtfoleblcaloeoaaGreatDoor.Ar
namespace Go.Proofs.YtfoleblcaloeoaaGreatDoor.Ar
open Go Go.RowKit
def hasB (l:List Rn) (q:Int):Bool:=decide (rt l q≠0)
theorem rights_at {w:World} {d:Nat} {l:List Rn} {F:List Nat} (h:AMem w d l F) (hs:Sp l) (q:Int):Calls Tryz.prog 48 #[.pointer (some ⟨d,0,none⟩),.int .i64 q] w fun e w'=>e = .returned (.tuple #[.int .u8 (rt l q),.bool (hasB l q)])∧Chg [] w w':=by
 obtain ⟨v,hb,qU,hF,jF⟩:=h
 obtain ⟨A,c0,rfl⟩:=qU.form
 have b0:=hb.cell 0
 simp at b0
 have rN:=hs.len
 have Hs:=ah qU
 have Hl:=ah hs
 clear qU hs hb hF jF
 obtain ⟨x,hx⟩:∃x,rt l q = x:=⟨_,rfl⟩
 obtain ⟨y,hy⟩:∃y,hasB l q = y:=⟨_,rfl⟩
 rw [hx,hy]
 have Hx:=ah hx
 have Hy:=ah hy
 clear hx hy
 go_enter Tryz.func48,Tryz.ntmps48
 go_wp2_with fail
 go_loopw [15] (fun i wr=>∃k:Nat,k≤l.length∧i = .int .i64 k∧Hid (rt l q = rt (l.drop k) q)∧Chg [] w wr) (fun i _=>l.length - (intOf i).toNat)
 case atStart=>exact ⟨0,by omega,rfl,ah (by simp),Chg.refl _ _⟩
 case round =>
  obtain ⟨k,hk,rfl,sB,jV⟩:=hrel
  by_cases mQ:k < l.length
  ·have vT:=Hs.out.stay jV
   obtain ⟨g0,off,rfl⟩:=SE.addr vT (by omega)
   obtain ⟨q0,q1,q2⟩:=RR.cells vT.re mQ
   have rW:g0 < wr.heap.size:=vT.own_lt g0 (by simp [own,Value.ownBlock])
   have nS:=Hl.out.mem (List.getElem_mem mQ)
   have hdr:rt (l.drop k) q = if l[k].p≤q∧q < l[k].e then l[k].g else rt (l.drop (k+1)) q:=by rw [List.drop_eq_getElem_cons mQ];rfl
   obtain ⟨r,hr⟩:∃r,r = l[k]:=⟨_,rfl⟩
   rw [← hr] at q0 q1 q2 nS hdr
   obtain ⟨a1,a2,a3,a4,a5⟩:=nS
   clear hr vT
   obtain ⟨p,c,g⟩:=r
   simp only at q0 q1 q2 a1 a2 a3 a4 a5 hdr
   have Hdr:=ah hdr
   have uI:Blk (wr.alloc (.cells #[.int .i64 p,.int .i64 c,.int .u8 g] 144)) wr.heap.size 144 #[.int .i64 p,.int .i64 c,.int .u8 g]:=Blk.new wr 144 _
   clear hdr
   by_cases h1:p≤q
   ·by_cases h2:q < p+c
    ·have ex:g = x:=by rw [← Hx.out,sB.out,Hdr.out,if_pos ⟨h1,h2⟩]
     have ey:true = y:=by rw [← Hy.out];unfold hasB;rw [Hx.out,← ex];simp;omega
     subst ex;subst ey
     go_wp2_with (go_at_call 82;refine (kn p c g _ ⟨by omega,by omega⟩ ⟨by omega,by omega⟩).mono ?_;rintro e W1 ⟨rfl,jH⟩;have kF:=box3 (uI.chg jH ab);obtain ⟨e0,e1,e2,e3⟩:=kF)
     go_ret2
     exact ⟨rfl,(jV.alloc _).stay jH⟩
    ·go_wp2_with (go_at_call 82;refine (kn p c g _ ⟨by omega,by omega⟩ ⟨by omega,by omega⟩).mono ?_;rintro e W1 ⟨rfl,jH⟩)
     go_roundw
     case rel=>exact ⟨k+1,by omega,by go_num,ah (by rw [sB.out,Hdr.out,if_neg (by have e:(⟨p,c,g⟩:Rn).e = p+c:=rfl;omega)]),(jV.alloc _).stay jH⟩
     case measure=>simp [intOf];omega
   ·go_wp2_with fail
    go_roundw
    case rel=>exact ⟨k+1,by omega,by go_num,ah (by rw [sB.out,Hdr.out,if_neg (by omega)]),jV.alloc _⟩
    case measure=>simp [intOf];omega
  ·have ek:l.drop k = []:=List.drop_eq_nil_of_le (by omega)
   have ex:(0:Int) = x:=by rw [← Hx.out,sB.out,ek];rfl
   have ey:false = y:=by rw [← Hy.out];unfold hasB;rw [Hx.out,← ex];simp
   subst ex;subst ey
   clear ek
   go_wp2_with fail
   go_ret2
   exact ⟨rfl,jV⟩
theorem gW {w:World} {v:Value} {l:List Rn} (hl:RR w v l) (jN:l.length≤1000000):Calls Tryz.prog 109 #[v] w fun e w'=>∃A n c,e = .returned (.slice A n c)∧SR w' (.slice A n c) l∧(∀k∈own (.slice A n c),w.heap.size≤k)∧Chg [] w w':=by
 obtain ⟨A,c,rfl⟩:=hl.form
 cases A with
 | none =>
  have hl0:l = []:=by
   cases l with
   | nil=>rfl
   | cons a l =>
    obtain ⟨g,off,e⟩:=RE.addr hl (by simp)
    cases e
  subst hl0
  have jO:∀W:World,(binOp .eql 140 (.slice none ([]:List Rn).length c) (.slice none 0 0)).run Tryz.prog W = .ok (.bool true) W:=fun W=>Lib.run_eql_slice_nil W 140 144 _ _ _ 0 0 Tryz.underlying140
  clear hl
  simp only [List.length_nil] at jO ⊢
  go_enter Tryz.func109,Tryz.ntmps109
  go_wp2_with fail
  go_ret
  exact ⟨none,0,0,rfl,SE.nil _ _ _ _,fun k hk=>(bw hk).elim,Chg.refl _ _⟩
 | some a0 =>
  have jO:∀W:World,(binOp .eql 140 (.slice (some a0) l.length c) (.slice none 0 0)).run Tryz.prog W = .ok (.bool false) W:=fun W=>Lib.run_eql_slice_nil W 140 144 _ _ _ 0 0 Tryz.underlying140
  have Hl:=ah hl
  clear hl
  go_enter Tryz.func109,Tryz.ntmps109
  go_wp2_with (at_builtin;refine jc rfl _ _ rfl (.slice (some ⟨w.heap.size,0,none⟩) 0 0) _ rfl rfl (l:=[]) (m:=l) (nx w 144 3) (Hl.out.stay ((Chg.refl _ _).alloc _)) (by simpa using jN) ?_;intro A9 n9 c9 W9 mW nT kE mU)
  go_ret
  exact ⟨_,_,_,rfl,nT,fun k hk=>(mU k hk).elim (fun h=>by simp [own,Value.ownBlock] at h;omega) (fun h=>by simp at h;omega),((Chg.refl [] w).alloc _).trans kE (fun k hk=>.inr (by simp [own,Value.ownBlock] at hk;omega))⟩
theorem copy_at {w:World} {d:Nat} {l:List Rn} {F:List Nat} (h:AMem w d l F) (jN:l.length≤1000):Calls Tryz.prog 79 #[.pointer (some ⟨d,0,none⟩)] w fun e w'=>∃d' F',e = .returned (.pointer (some ⟨d',0,none⟩))∧AMem w' d' l F'∧(∀k∈F',w.heap.size≤k)∧Chg [] w w':=by
 obtain ⟨v,hb,hs,hF,jF⟩:=h
 obtain ⟨A,c0,rfl⟩:=hs.form
 have b0:=hb.cell 0
 simp at b0
 have HC:=ah (gW hs.re (by omega))
 clear hs hb hF jF
 go_enter Tryz.func79,Tryz.ntmps79
 go_wp2_with (go_at_call 109;refine HC.out.mono ?_;rintro e W1 ⟨A1,n1,c1,rfl,pC,zG,jH⟩)
 go_ret
 refine ⟨_,W1.heap.size :: own (.slice A1 n1 c1),rfl,⟨_,Blk.new W1 142 _,pC.stay ((Chg.refl _ _).alloc _),fun k hk=>hk,fun k hk=>?_⟩,fun k hk=>?_,jH.alloc _⟩
 ·rcases List.mem_cons.1 hk with rfl | hk
  ·simp
  ·have:=pC.own_lt k hk;simp;omega
 ·rcases List.mem_cons.1 hk with rfl | hk
  ·exact jH.size
  ·exact zG k hk
end Go.Proofs.YtfoleblcaloeoaaGreatDoor.Ar
namespace Go.Proofs.YtfoleblcaloeoaaGreatDoor
open Go Go.RowKit
theorem sd {w:World} {x y:Rs} {v u:Value} (hv:RB w v x.l) (hu:RB w u y.l) (hl:∀b∈x.l,b < 256) (hm:∀b∈y.l,b < 256) :
  Calls Tryz.prog 29 #[.agg (rsc x v),.agg (rsc y u)] w fun e w'=>e = .returned (.bool (da x y))∧Chg [] w w':=by
 obtain ⟨A0,c0,rfl⟩:=RE.form hv
 obtain ⟨A1,c1,rfl⟩:=RE.form hu
 obtain ⟨W2,jB⟩:∃W2,W2 = (w.alloc (.cells (rsc x (.slice A0 x.l.length c0)) 40)).alloc (.cells (rsc y (.slice A1 y.l.length c1)) 40):=⟨_,rfl⟩
 have jA:Chg [] w W2:=by rw [jB];exact ((Chg.refl [] w).alloc _).alloc _
 have kF:XB W2 w.heap.size x (.slice A0 x.l.length c0):=by rw [jB];exact (Blk.new w _ _).alloc _
 have kU:XB W2 (w.heap.size+1) y (.slice A1 y.l.length c1):=by
  have:=Blk.new (w.alloc (.cells (rsc x (.slice A0 x.l.length c0)) 40)) 40 (rsc y (.slice A1 y.l.length c1))
  rw [af] at this
  rw [jB]
  exact this
 have Cu:=ah (tu (hv.stay jA) (hu.stay jA) hl hm)
 have HC:=ah jA
 have jP:=ah jB
 obtain ⟨p0,p1,p2,pl,-⟩:=XB.cells kF
 obtain ⟨q0,q1,q2,ql,-⟩:=XB.cells kU
 clear hv hu hl hm jB jA kF kU
 obtain ⟨e,z,l⟩:=x
 obtain ⟨e',z',l'⟩:=y
 simp only at p0 p1 p2 q0 q1 q2 Cu jP
 by_cases h1:e = e'
 ·subst h1
  by_cases h2:z = z'
  ·subst h2
   have hR:da ⟨e,z,l⟩ ⟨e,z,l'⟩ = decide (l = l'):=by simp [da]
   rw [hR]
   generalize decide (l = l') = r at Cu
   clear hR
   go_enter Tryz.func29,Tryz.ntmps29
   go_wp2_with (first|refine em rfl _ rfl rfl ?_;try simp only [af];try rw [← jP.out])
   refine Cu.out.mono ?_
   rintro e' W3 ⟨rfl,rfl⟩
   go_wp2_with fail
   go_ret
   exact ⟨by simp,HC.out⟩
  ·have d2:((z:Int) == (z':Int)) = false:=beq_false_of_ne (by omega)
   have d2':decide (z = z') = false:=ac h2
   have hR:da ⟨e,z,l⟩ ⟨e,z',l'⟩ = false:=by simp [da,h2]
   rw [hR]
   clear hR Cu h2
   go_enter Tryz.func29,Tryz.ntmps29
   go_wp2_with (first|refine em rfl _ rfl rfl ?_;try simp only [af];try rw [← jP.out])
   go_ret
   exact ⟨rfl,HC.out⟩
 ·have d1:(e == e') = false:=beq_false_of_ne h1
  have hR:da ⟨e,z,l⟩ ⟨e',z',l'⟩ = false:=by simp [da,h1]
  rw [hR]
  clear hR Cu h1
  go_enter Tryz.func29,Tryz.ntmps29
  go_wp2_with (first|refine em rfl _ rfl rfl ?_;try simp only [af];try rw [← jP.out])
  go_ret
  exact ⟨rfl,HC.out⟩
end Go.Proofs.YtfoleblcaloeoaaGreatDoor
namespace Go.Proofs.YtfoleblcaloeoaaGreatDoor
open Go Go.RowKit Go.ChangeShapes Go.WideShapes Go.ChangeAt Go.Deep
theorem Tryz.own:ownKnob Tryz.prog.godebug = none:=by kernel_rfl
section
variable {H:Type} {enc:TypeId × Value→H} {w:World} {base:Nat} {spare:Nat→Bool} {held:Bool}
theorem wm {L:List Value} {i:Nat} {v:Value} (h:(L.drop i).take 1 = [v]):L[i]? = some v:=by
 have:((L.drop i).take 1)[0]? = some v:=by rw [h];rfl
 rw [List.getElem?_take_of_lt (by omega),List.getElem?_drop] at this
 simpa using this
theorem oo {fuel:Nat} {L:List Value} {i:Nat} {x:DataW H × List MemPlace} (h:DataW.trod enc Tryz.prog w base spare held fuel 3 ((L.drop i).take 1) = some x):∃z,L[i]? = some (.int .i64 z):=by
 obtain ⟨z,e,_⟩:=DataW.trod_int Tryz.underlying3 h
 exact ⟨z,wm e⟩
theorem zw {fuel t n:Nat} {L:List Value} {x:DataW H × List MemPlace} (hu:Tryz.prog.underlying t = some (.array n 3)) (h:DataW.trod enc Tryz.prog w base spare held fuel t L = some x):∀i,i < n→∃z,L[i]? = some (.int .i64 z):=by
 obtain ⟨xs,m,_,_,_,hl,Gc⟩:=DataW.trod_array hu h
 intro i hi
 have h1:=Gc i hi
 rw [jn,Nat.mul_one,List.getElem?_eq_getElem (by rw [hl];exact hi)] at h1
 exact oo h1
theorem uk {L:List Value} {o n i:Nat} {v:Value} (h:((L.drop o).take n)[i]? = some v):L[o+i]? = some v:=by
 have hi:i < n:=by
  have:=(List.getElem?_eq_some_iff.1 h).1
  rw [List.length_take] at this
  omega
 rw [List.getElem?_take_of_lt hi,List.getElem?_drop] at h
 exact h
theorem cells22:Tryz.prog.cellsOf 22 = 16:=by kernel_rfl
theorem cells24:Tryz.prog.cellsOf 24 = 64:=by kernel_rfl
theorem cells26:Tryz.prog.cellsOf 26 = 94:=by kernel_rfl
theorem open_cfg {cs:Array Value} {d:DataW H} {p:List MemPlace} (hs:cs.size = 94) (h:DataW.Trod enc Tryz.prog w base spare held 26 (.agg cs) d p):∃c:Cf,cs = cg c:=by
 obtain ⟨fuel,hf⟩:=h
 have tE:(Value.agg cs).cells.toList = cs.toList:=rfl
 rw [tE] at hf
 obtain ⟨n,hp⟩:=lz Tryz.underlying26 hf
 have each:∀i,i < 94→∃z,cs.toList[i]? = some (.int .i64 z):=by
  intro i hi
  by_cases i0:i = 0
  ·subst i0
   obtain ⟨y,hy⟩:=cy hp 0 rfl 3 0 1 rfl rfl jn
   exact oo hy
  by_cases i1:i = 1
  ·subst i1
   obtain ⟨y,hy⟩:=cy hp 1 rfl 3 1 1 rfl rfl jn
   exact oo hy
  by_cases i2:i < 18
  ·obtain ⟨y,hy⟩:=cy hp 2 rfl 22 2 16 rfl rfl cells22
   obtain ⟨z,hz⟩:=zw Tryz.underlying22 hy (i - 2) (by omega)
   have:=uk hz
   rw [show 2+(i - 2) = i by omega] at this
   exact ⟨z,this⟩
  by_cases i3:i < 26
  ·obtain ⟨y,hy⟩:=cy hp 3 rfl 23 18 8 rfl rfl vd
   obtain ⟨z,hz⟩:=zw Tryz.underlying23 hy (i - 18) (by omega)
   have:=uk hz
   rw [show 18+(i - 18) = i by omega] at this
   exact ⟨z,this⟩
  by_cases i4:i < 90
  ·obtain ⟨y,hy⟩:=cy hp 4 rfl 24 26 64 rfl rfl cells24
   obtain ⟨xs,m,_,_,_,hl,Gc⟩:=DataW.trod_array Tryz.underlying24 hy
   have h1:=Gc ((i - 26) / 8) (by omega)
   rw [vd,List.getElem?_eq_getElem (by rw [hl];omega)] at h1
   obtain ⟨z,hz⟩:=zw Tryz.underlying23 h1 ((i - 26) % 8) (by omega)
   have:=uk (uk hz)
   rw [show 26+((i - 26) / 8 * 8+(i - 26) % 8) = i by omega] at this
   exact ⟨z,this⟩
  rcases (by omega:i = 90∨i = 91∨i = 92∨i = 93) with rfl | rfl | rfl | rfl
  ·obtain ⟨y,hy⟩:=cy hp 5 rfl 3 90 1 rfl rfl jn
   exact oo hy
  ·obtain ⟨y,hy⟩:=cy hp 6 rfl 3 91 1 rfl rfl jn
   exact oo hy
  ·obtain ⟨y,hy⟩:=cy hp 7 rfl 3 92 1 rfl rfl jn
   exact oo hy
  ·obtain ⟨y,hy⟩:=cy hp 8 rfl 3 93 1 rfl rfl jn
   exact oo hy
 classical
 refine ⟨fun i=>if h:i < 94 then (each i h).choose else 0,cg_of hs fun i hi=>?_⟩
 simp only [dif_pos hi]
 exact (Array.getElem?_toList (xs:=cs)).symm.trans (each i hi).choose_spec
end
theorem cX {H:Type} {enc:TypeId × Value→H} {P:Program} {w:World} {base:Nat} {spare:Nat→Bool} {held:Bool} {t0 t1:TypeId} {args:Array Value} {ds:List (DataW H)} {ps:List MemPlace} (h:DataW.TrodAll enc P w base spare held [t0,t1] args.toList ds ps) :
  ∃v0 v1 d0 d1 p0 p1,args = #[v0,v1]∧ds = [d0,d1]∧ps = p0 ++ p1∧DataW.Trod enc P w base spare held t0 v0 d0 p0∧DataW.Trod enc P w base spare held t1 v1 d1 p1:=by
 obtain ⟨v0,vs0,d0,ds0,p0,q0,yN,rfl,rfl,h0,k0⟩:=trodAll_cons h
 obtain ⟨v1,vs1,d1,ds1,p1,q1,rfl,rfl,rfl,h1,k1⟩:=trodAll_cons k0
 obtain ⟨rfl,rfl,rfl⟩:=trodAll_nil k1
 exact ⟨v0,v1,d0,d1,p0,p1,by cases args;simp_all,rfl,by simp,h0,h1⟩
end Go.Proofs.YtfoleblcaloeoaaGreatDoor
