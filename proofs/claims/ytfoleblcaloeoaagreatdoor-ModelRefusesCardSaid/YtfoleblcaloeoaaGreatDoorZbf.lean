/- Texts merged for the claim. -/
import Derived.Test.YtfoleblcaloeoaaGreatDoorZbe
set_option maxHeartbeats 40000000
set_option maxRecDepth 20000
namespace Go.Proofs.YtfoleblcaloeoaaGreatDoor
open Go Go.RowKit
theorem fF {w:World} {m:Nat} {M:Mo} {bp bo be:Nat} {fp fo fe:Int→Option Value} {gb:Int→Nat} {GF:Int→Nat→Prop} {ov:Int→Value} (hI:MIn w m M bp bo be fp fo fe gb GF ov) (pid:Int) :
  Calls Tryz.prog 23 #[.pointer (some ⟨m,0,none⟩),.int .i64 pid] w fun e w'=>e = .returned (.bool (M.pr pid).isSome)∧w = w':=by
 have CA:=ah (qi hI.blk)
 have rF:=sz hI pid
 obtain ⟨qp,-,-,qm,-⟩:=cc hI.blk
 clear hI
 cases hp:M.pr pid with
 | none =>
  rw [hp] at rF
  clear hp
  go_enter Tryz.func23,Tryz.ntmps23
  go_wp2_with fail
  refine CA.out.mono ?_
  rintro e W2 ⟨rfl,rfl⟩
  go_wp2_with fail
  go_ret
  exact ⟨rfl,rfl⟩
 | some p =>
  rw [hp] at rF
  clear hp
  go_enter Tryz.func23,Tryz.ntmps23
  go_wp2_with fail
  refine CA.out.mono ?_
  rintro e W2 ⟨rfl,rfl⟩
  go_wp2_with fail
  go_ret
  exact ⟨rfl,rfl⟩
section
variable {M:Mo} {g:Int} {rl:List Ar.Rn} {b:List Nat} {o:Nat}
end
@[irreducible] def sqc (g:Nat→Value):Array Value:=Array.ofFn (n:=4099) fun i=>g i
theorem kp (g:Nat→Value):(sqc g).size = 4099:=by unfold sqc;simp
theorem tl (g:Nat→Value) {i:Nat} (h:i < 4099):(sqc g)[i]? = some (g i):=by unfold sqc;simp [h]
theorem vn {f g:Nat→Value} (h:∀q,q < 4099→f q = g q):sqc f = sqc g:=by
 unfold sqc
 congr 1
 funext i
 rw [h i i.2]
theorem gH (g:Nat→Value) (i:Nat) (v:Value):(sqc g).setIfInBounds i v = sqc (fun q=>if q = i then v else g q):=by
 apply Array.ext_getElem?
 intro j
 rw [Array.getElem?_setIfInBounds]
 by_cases hj:j < 4099
 ·rw [tl _ hj,tl _ hj]
  by_cases e:i = j
  ·subst e;simp [kp,hj]
  ·rw [if_neg e,if_neg (by omega)]
 ·have h1:(sqc g)[j]? = none:=Array.getElem?_eq_none (by rw [kp];omega)
  have h2:(sqc (fun q=>if q = i then v else g q))[j]? = none:=Array.getElem?_eq_none (by rw [kp];omega)
  rw [h1,h2,kp]
  split
  ·rename_i e;rw [if_neg (by omega)]
  ·rfl
structure Sq where
 rt:Int→Int
 by_:Int→Option Nat
 ow:Nat→Bool
 po:Nat→Nat × Nat
 ak:Nat
 am:Nat
def sqv (s:Sq) (bm:Nat) (i:Nat):Value :=
 if i < 1024 then .int .u8 (s.rt (i:Nat)) else if i = 1024 then .map (some bm) else if i < 2049 then .bool (s.ow (i - 1025))
 else if i < 4097 then (if (i - 2049) % 2 = 0 then .int .u8 (s.po ((i - 2049) / 2)).1 else .int .u8 (s.po ((i - 2049) / 2)).2)
 else if i = 4097 then .int .u8 s.ak else .int .u8 s.am
def upN {α:Type} (f:Nat→α) (i:Nat) (v:α):Nat→α:=fun j=>if j = i then v else f j
abbrev QB (w:World) (b:Nat) (s:Sq) (bm:Nat):Prop:=Blk w b 100 (sqc (sqv s bm))
section
variable {w:World} {b:Nat} {s:Sq} {bm:Nat}
theorem QB.at_ (h:QB w b s bm) {i:Nat} (hi:i < 4099):w.cell? ⟨b,i,none⟩ = some (sqv s bm i):=(Blk.cell h i).trans (tl _ hi)
theorem QB.rt (h:QB w b s bm) {i:Nat} (hi:i < 1024):w.cell? ⟨b,i,none⟩ = some (.int .u8 (s.rt (i:Nat))):=by
 rw [QB.at_ h (by omega)];unfold sqv;rw [if_pos hi]
theorem QB.bmap (h:QB w b s bm):w.cell? ⟨b,1024,none⟩ = some (.map (some bm)):=by
 rw [QB.at_ h (by omega)];rfl
theorem QB.ow (h:QB w b s bm) {i:Nat} (hi:i < 1024):w.cell? ⟨b,1025+i,none⟩ = some (.bool (s.ow i)):=by
 rw [QB.at_ h (by omega)];unfold sqv;rw [if_neg (by omega),if_neg (by omega),if_pos (by omega),show 1025+i - 1025 = i by omega]
theorem QB.po (h:QB w b s bm) {i:Nat} (hi:i < 1024):w.cell? ⟨b,2049+i * 2,none⟩ = some (.int .u8 (s.po i).1)∧w.cell? ⟨b,2049+i * 2+1,none⟩ = some (.int .u8 (s.po i).2):=by
 constructor
 ·rw [QB.at_ h (by omega)];unfold sqv
  rw [if_neg (by omega),if_neg (by omega),if_neg (by omega),if_pos (by omega),if_pos (by omega),show (2049+i * 2 - 2049) / 2 = i by omega]
 ·rw [QB.at_ h (by omega)];unfold sqv
  rw [if_neg (by omega),if_neg (by omega),if_neg (by omega),if_pos (by omega),if_neg (by omega),show (2049+i * 2+1 - 2049) / 2 = i by omega]
theorem QB.all (h:QB w b s bm):w.cell? ⟨b,4097,none⟩ = some (.int .u8 s.ak)∧w.cell? ⟨b,4098,none⟩ = some (.int .u8 s.am) :=
 ⟨by rw [QB.at_ h (by omega)];rfl,by rw [QB.at_ h (by omega)];rfl⟩
theorem QB.set (h:QB w b s bm) {i:Nat} {v:Value} {s':Sq} {bm':Nat} (he:∀q,q < 4099→(if q = i then v else sqv s bm q) = sqv s' bm' q):QB (w.setCell ⟨b,i,none⟩ v) b s' bm':=by
 have:=Blk.set_ h i v
 rw [gH,vn he] at this
 exact this
theorem QB.set_ow (h:QB w b s bm) {i:Nat} (hi:i < 1024) (v:Bool):QB (w.setCell ⟨b,1025+i,none⟩ (.bool v)) b { s with ow:=upN s.ow i v } bm:=by
 refine QB.set h fun q hq=>?_
 unfold sqv upN
 dsimp only
 by_cases e:q = 1025+i
 ·subst e
  rw [if_pos rfl,if_neg (by omega),if_neg (by omega),if_pos (by omega),if_pos (by omega)]
 ·rw [if_neg e]
  by_cases h1:q < 1024
  ·rw [if_pos h1,if_pos h1]
  rw [if_neg h1,if_neg h1]
  by_cases h2:q = 1024
  ·rw [if_pos h2,if_pos h2]
  rw [if_neg h2,if_neg h2]
  by_cases h3:q < 2049
  ·rw [if_pos h3,if_pos h3,if_neg (by omega)]
  ·rw [if_neg h3,if_neg h3]
theorem QB.set_po (h:QB w b s bm) {i:Nat} (hi:i < 1024) (k m:Nat):QB ((w.setCell ⟨b,2049+i * 2,none⟩ (.int .u8 k)).setCell ⟨b,2049+i * 2+1,none⟩ (.int .u8 m)) b { s with po:=upN s.po i (k,m) } bm:=by
 have h1:QB (w.setCell ⟨b,2049+i * 2,none⟩ (.int .u8 k)) b { s with po:=upN s.po i (k,(s.po i).2) } bm:=by
  refine QB.set h fun q hq=>?_
  unfold sqv upN
  dsimp only
  by_cases e:q = 2049+i * 2
  ·subst e
   rw [if_pos rfl,if_neg (by omega),if_neg (by omega),if_neg (by omega),if_pos (by omega),if_pos (by omega),if_pos (by omega)]
  ·rw [if_neg e]
   by_cases c1:q < 1024
   ·rw [if_pos c1,if_pos c1]
   rw [if_neg c1,if_neg c1]
   by_cases c2:q = 1024
   ·rw [if_pos c2,if_pos c2]
   rw [if_neg c2,if_neg c2]
   by_cases c3:q < 2049
   ·rw [if_pos c3,if_pos c3]
   rw [if_neg c3,if_neg c3]
   by_cases c4:q < 4097
   ·rw [if_pos c4,if_pos c4]
    by_cases c5:(q - 2049) / 2 = i
    ·rw [if_neg (by omega),if_neg (by omega),if_pos c5,c5]
    ·rw [if_neg c5]
   ·rw [if_neg c4,if_neg c4]
 refine QB.set h1 fun q hq=>?_
 unfold sqv upN
 dsimp only
 by_cases e:q = 2049+i * 2+1
 ·subst e
  rw [if_pos rfl,if_neg (by omega),if_neg (by omega),if_neg (by omega),if_pos (by omega),if_neg (by omega),if_pos (by omega)]
 ·rw [if_neg e]
  by_cases c1:q < 1024
  ·rw [if_pos c1,if_pos c1]
  rw [if_neg c1,if_neg c1]
  by_cases c2:q = 1024
  ·rw [if_pos c2,if_pos c2]
  rw [if_neg c2,if_neg c2]
  by_cases c3:q < 2049
  ·rw [if_pos c3,if_pos c3]
  rw [if_neg c3,if_neg c3]
  by_cases c4:q < 4097
  ·rw [if_pos c4,if_pos c4]
   by_cases c5:(q - 2049) / 2 = i
   ·have c6:(q - 2049) % 2 = 0:=by omega
    simp [c5,c6]
   ·rw [if_neg c5,if_neg c5]
  ·rw [if_neg c4,if_neg c4]
theorem QB.set_all (h:QB w b s bm) (k m:Nat):QB ((w.setCell ⟨b,4097,none⟩ (.int .u8 k)).setCell ⟨b,4098,none⟩ (.int .u8 m)) b { s with ak:=k,am:=m } bm:=by
 have h1:QB (w.setCell ⟨b,4097,none⟩ (.int .u8 k)) b { s with ak:=k } bm:=by
  refine QB.set h fun q hq=>?_
  unfold sqv
  by_cases e:q = 4097
  ·subst e;rfl
  ·rw [if_neg e];rw [if_neg e,if_neg e]
 refine QB.set h1 fun q hq=>?_
 unfold sqv
 by_cases e:q = 4098
 ·subst e;rfl
 ·rw [if_neg e]
  by_cases c1:q < 1024
  ·rw [if_pos c1,if_pos c1]
  rw [if_neg c1,if_neg c1]
  by_cases c2:q = 1024
  ·rw [if_pos c2,if_pos c2]
  rw [if_neg c2,if_neg c2]
  by_cases c3:q < 2049
  ·rw [if_pos c3,if_pos c3]
  rw [if_neg c3,if_neg c3]
  by_cases c4:q < 4097
  ·rw [if_pos c4,if_pos c4]
  ·rw [if_neg c4,if_neg c4,if_pos (by omega),if_pos (by omega)]
theorem QB.set_bm (h:QB w b s bm) (bm':Nat):QB (w.setCell ⟨b,1024,none⟩ (.map (some bm'))) b s bm':=by
 refine QB.set h fun q hq=>?_
 unfold sqv
 by_cases e:q = 1024
 ·subst e;rfl
 ·rw [if_neg e,if_neg e,if_neg e]
theorem tk {t:TypeId}:∀(vs:List Value) (o:Nat) (w:World) (g:Nat→Value),Blk w b t (sqc g)→Blk (w.setCells b o vs) b t (sqc (fun q=>if o≤q∧q < o+vs.length then vs.getD (q - o) undef else g q))
 | [],o,w,g,h=>by
  rw [vn (g:=g) fun q _=>by rw [if_neg (by simp)]]
  exact h
 | v :: vs,o,w,g,h=>by
  have h1:=h.set_ o v
  rw [gH] at h1
  have h2:=tk vs (o+1) (w.setCell ⟨b,o,none⟩ v) _ h1
  unfold World.setCells
  rw [vn (g:=fun q=>if o+1≤q∧q < o+1+vs.length then vs.getD (q - (o+1)) undef else if q = o then v else g q) fun q _=>?_]
  ·exact h2
  ·rw [List.length_cons]
   by_cases e:q = o
   ·subst e
    rw [if_pos (by omega),if_neg (by omega),if_pos rfl,Nat.sub_self];rfl
   ·by_cases e2:o+1≤q∧q < o+1+vs.length
    ·rw [if_pos (by omega),if_pos e2,show q - o = (q - (o+1))+1 by omega];rfl
    ·rw [if_neg (by omega),if_neg e2,if_neg e]
theorem Chg.setCells {F:List Nat} {a:World} {c:Nat}:∀(vs:List Value) (o:Nat) (w:World),Chg F a w→(c∈F∨a.heap.size≤c)→Chg F a (w.setCells c o vs)
 | [],_,_,h,_=>h
 | v :: vs,o,w,h,hc=>Chg.setCells vs (o+1) _ (h.setCell (p:=⟨c,o,none⟩) hc v) hc
end
structure Tw where
 x:Cl
 v:Value
 r:Rs
 u:Value
 rt:Bool
 h:Nat
def twl (t:Tw):List Value:=(clc t.x t.v).toList ++ ((rsc t.r t.u).toList ++ [.bool t.rt,.int .u64 t.h])
theorem tn (t:Tw):(twl t).length = 17:=rfl
structure TwOk (w:World) (t:Tw):Prop where
 x:t.x.Ok
 r:t.r.Ok
 v:RB w t.v t.x.l
 u:RB w t.u t.r.l
 h:t.h < 18446744073709551616
theorem TwOk.stay {w w':World} {t:Tw} (h:TwOk w t) (hc:Chg [] w w'):TwOk w' t:=⟨h.x,h.r,h.v.stay hc,h.u.stay hc,h.h⟩
def uy (t:Tw):Bool:=decide (t.x.l.length≤300) && decide (t.r.l.length≤300)
def xf (l:List Tw) (n:Nat):Bool:=decide (l.length≤n) && l.all uy
theorem ro {w:World} {g off n c:Nat} {l:List Tw} (h:RE twl 17 w (.slice (some ⟨g,off,none⟩) n c) l) {k:Nat} (hk:k < l.length) {j:Nat} {u:Value} (hj:j < 17) (hu:(twl l[k])[j]? = some u):w.cell? ⟨g,off+k * 17+j,none⟩ = some u :=
 RE.cell tn h hk hj hu
theorem tame_any {w:World} {l:List Tw} {V:Value} (hV:RE twl 17 w V l) (hO:∀t∈l,TwOk w t) {n:Nat} (hn:n≤100) :
  Calls Tryz.prog 6 #[V,.int .i64 n] w fun e w'=>e = .returned (.bool (xf l n))∧w = w':=by
 obtain ⟨A,c,rfl⟩:=RE.form hV
 obtain ⟨R,hR⟩:∃R,R = xf l n:=⟨_,rfl⟩
 rw [← hR]
 have HR:=ah hR
 have HV:=ah hV
 have HO:=ah hO
 clear hR hV hO
 by_cases hl:n < l.length
 ·have d1:decide ((n:Int) < (l.length:Int)) = true:=ae (by omega)
  have d1':decide (n < l.length) = true:=ae hl
  have e:R = false:=by rw [HR.out];unfold xf;rw [ac (by omega)];rfl
  subst e
  clear hl
  go_enter Tryz.func6,Tryz.ntmps6
  go_wp2_with fail
  go_ret
  (first | exact ⟨rfl,rfl⟩ | exact ⟨rfl,trivial⟩)
 have d1:decide ((n:Int) < (l.length:Int)) = false:=ac (by omega)
 have d1':decide (n < l.length) = false:=ac hl
 have HL:=ah hl
 have vQ:l.length≤100:=by omega
 clear hl
 go_enter Tryz.func6,Tryz.ntmps6
 go_upto_region 4 with (fail)
 clear d1 d1'
 go_loopw [12] (fun i wr=>wr = w∧∃k:Nat,k≤l.length∧i = .int .i64 k∧Hid ((l.take k).all uy = true)) (fun i _=>l.length - (intOf i).toNat)
 case atStart=>exact ⟨rfl,0,by omega,rfl,ah rfl⟩
 case round =>
  obtain ⟨rfl,k,hk,rfl,jX⟩:=hrel
  by_cases hkl:k < l.length
  ·obtain ⟨g,off,rfl⟩:=RE.addr HV.out (show 0 < l.length by omega)
   have ht:=HO.out _ (List.getElem_mem hkl)
   obtain ⟨A1,c1,e1⟩:=RE.form ht.v
   obtain ⟨A2,c2,e2⟩:=RE.form ht.u
   have q1:wr.cell? ⟨g,off+k * 17+11,none⟩ = some (.slice A1 l[k].x.l.length c1):=by
    have:=ro HV.out hkl (j:=11) (u:=l[k].v) (by omega) rfl
    rw [this,e1]
   have q2:wr.cell? ⟨g,off+k * 17+14,none⟩ = some (.slice A2 l[k].r.l.length c2):=by
    have:=ro HV.out hkl (j:=14) (u:=l[k].u) (by omega) rfl
    rw [this,e2]
   obtain ⟨n1,zG⟩:∃n,n = l[k].x.l.length:=⟨_,rfl⟩
   obtain ⟨n2,tI⟩:∃n,n = l[k].r.l.length:=⟨_,rfl⟩
   rw [← zG] at q1
   rw [← tI] at q2
   have Bj:(l.take (k+1)).all uy = (decide (n1≤300) && decide (n2≤300)):=by
    rw [List.take_succ_eq_append_getElem hkl,List.all_append,jX.out,Bool.true_and]
    show (uy l[k] && true) = _
    rw [Bool.and_true]
    unfold uy
    rw [zG,tI]
   have jZ:(l.take (k+1)).all uy = false→R = false:=fun h=>by
    rw [HR.out]
    unfold xf
    cases h2:l.all uy with
    | false=>simp
    | true =>
     have:(l.take (k+1)).all uy = true:=List.all_eq_true.2 fun x hx=>List.all_eq_true.1 h2 x (List.mem_of_mem_take hx)
     rw [h] at this;cases this
   have HTK:=ah Bj
   have mI:=ah jZ
   have d2:decide ((k:Int) < (l.length:Int)) = true:=ae (by omega)
   have d2':decide (k < l.length) = true:=ae hkl
   have i0:(0:Int)≤(k:Int):=by omega
   have i1:(k:Int) < (l.length:Int):=by omega
   have mS:IntKind.i64.wrap ((k:Int)+1) = (k:Int)+1:=by rw [IntKind.wrap_i64];omega
   have lZ:=ah hkl
   clear ht e1 e2 zG tI Bj jZ jX hk
   by_cases h1:n1≤300
   ·have d3:decide ((300:Int) < (n1:Int)) = false:=ac (by omega)
    have d3':decide (300 < n1) = false:=ac (by omega)
    have H1:=ah h1
    clear h1
    by_cases h2:n2≤300
    ·have d4:decide ((300:Int) < (n2:Int)) = false:=ac (by omega)
     have d4':decide (300 < n2) = false:=ac (by omega)
     have H2:=ah h2
     clear h2 hkl
     go_wp2_with fail
     go_roundw
     case rel=>exact ⟨trivial,k+1,by have:=lZ.out;omega,by go_num,ah (by rw [HTK.out,ae H1.out,ae H2.out];rfl)⟩
     case measure=>have:=lZ.out;simp [intOf];omega
    ·have d4:decide ((300:Int) < (n2:Int)) = true:=ae (by omega)
     have d4':decide (300 < n2) = true:=ae (by omega)
     have e:=mI.out (by rw [HTK.out,ac h2];simp)
     clear h2 hkl
     subst e
     go_wp2_with fail
     go_ret
     (first | exact ⟨rfl,rfl⟩ | exact ⟨rfl,trivial⟩)
   ·have d3:decide ((300:Int) < (n1:Int)) = true:=ae (by omega)
    have d3':decide (300 < n1) = true:=ae (by omega)
    have e:=mI.out (by rw [HTK.out,ac h1];rfl)
    clear h1 hkl
    subst e
    go_wp2_with fail
    go_ret
    (first | exact ⟨rfl,rfl⟩ | exact ⟨rfl,trivial⟩)
  ·obtain rfl:k = l.length:=by omega
   have e:R = true:=by
    rw [HR.out]
    unfold xf
    have h:=jX.out
    rw [List.take_length] at h
    have:=HL.out
    rw [h,ae (by omega)]
    rfl
   subst e
   clear jX
   go_wp2_with fail
   go_ret
   (first | exact ⟨rfl,rfl⟩ | exact ⟨rfl,trivial⟩)
theorem tw_ldX {w:World} {g off n c:Nat} {l:List Tw} (h:RE twl 17 w (.slice (some ⟨g,off,none⟩) n c) l) {k:Nat} (hk:k < l.length):(loadVar 47 ⟨g,off+k * 17,none⟩).run Tryz.prog w = .ok (.agg (clc l[k].x l[k].v)) w:=by
 have:=run_loadVar_mid (P:=Tryz.prog) w g (off+k * 17) 47 (clc l[k].x l[k].v).toList _ (fun j v hv=>by
  have hj:j < 12:=(List.getElem?_eq_some_iff.1 hv).1
  exact ro h hk (j:=j) (u:=v) (by omega) (by unfold twl;rw [List.getElem?_append_left hj];exact hv)) Tryz.underlying47 rfl (by rw [Array.length_toList];exact dx)
 simpa using this
theorem tw_ldR {w:World} {g off n c:Nat} {l:List Tw} (h:RE twl 17 w (.slice (some ⟨g,off,none⟩) n c) l) {k:Nat} (hk:k < l.length):(loadVar 40 ⟨g,off+k * 17+12,none⟩).run Tryz.prog w = .ok (.agg (rsc l[k].r l[k].u)) w:=by
 have:=run_loadVar_mid (P:=Tryz.prog) w g (off+k * 17+12) 40 (rsc l[k].r l[k].u).toList _ (fun j v hv=>by
  have hj:j < 3:=(List.getElem?_eq_some_iff.1 hv).1
  have:=ro h hk (j:=12+j) (u:=v) (by omega) (by
   unfold twl
   rw [List.getElem?_append_right (show (clc l[k].x l[k].v).toList.length≤12+j by show 12≤12+j;omega)]
   rw [show 12+j - (clc l[k].x l[k].v).toList.length = j by show 12+j - 12 = j;omega]
   rw [List.getElem?_append_left hj];exact hv)
  rwa [← Nat.add_assoc] at this) Tryz.underlying40 rfl (by rw [Array.length_toList];exact ct)
 simpa using this
section
variable {ops:Array Oper} {rest:List Oper} {o:Oper} {a:Act} {w:World} {Q:Exit→Act→World→Prop}
theorem iY {K:Act→World→Prop} {ty:TypeId} (z:Operand) (ho:o.op = .load ty z) {ad:Addr} (hx:a.eval z = .pointer (some ad)) {v:Value} (hl:(loadVar ty ad).run Tryz.prog w = .ok v w) (h:K (a.put o.dst v) w):o.wp Tryz.prog a w K Q:=by
 unfold Oper.wp execOp
 simp only [ho,hx,Sem.run_bind,Instr.loadAt,Instr.sureAddr,Sem.run_pure,Result.andThen_ok,hl]
 exact h
theorem gc {ty:TypeId} (hg:o.guard = none) (z:Operand) (ho:o.op = .load ty z) {ad:Addr} (hx:a.eval z = .pointer (some ad)) {v:Value} (hl:(loadVar ty ad).run Tryz.prog w = .ok v w) (h:wpList Tryz.prog ops Q rest (a.put o.dst v) w):wpList Tryz.prog ops Q (o :: rest) a w :=
 wpList_plain hg fun _ hk=>iY z ho hx hl (hk _ _ h)
end
section
variable {ops:Array Oper} {rest:List Oper} {o:Oper} {a:Act} {w:World} {Q:Exit→Act→World→Prop} {b:Nat} {t:Tw}
end
section
variable {ops:Array Oper} {rest:List Oper} {o:Oper} {act:Act} {w:World} {Q:Exit→Act→World→Prop}
end
section
variable {ops:Array Oper} {rest:List Oper} {o:Oper} {act:Act} {w:World} {Q:Exit→Act→World→Prop}
end
theorem jp {w:World} {x y:Rs} {v u:Value} (hv:RB w v x.l) (hu:RB w u y.l) (hl:∀b∈x.l,b < 256) (hm:∀b∈y.l,b < 256) :
  Calls Tryz.prog 34 #[.agg (rsc x v),.agg (rsc y u)] w fun e w'=>e = .returned (.bool (da x y))∧Chg [] w w':=by
 obtain ⟨A0,c0,rfl⟩:=RE.form hv
 obtain ⟨A1,c1,rfl⟩:=RE.form hu
 obtain ⟨W2,jB⟩:∃W2,W2 = (w.alloc (.cells (rsc x (.slice A0 x.l.length c0)) 40)).alloc (.cells (rsc y (.slice A1 y.l.length c1)) 40):=⟨_,rfl⟩
 have jA:Chg [] w W2:=by rw [jB];exact ((Chg.refl [] w).alloc _).alloc _
 have kF:XB W2 w.heap.size x (.slice A0 x.l.length c0):=by rw [jB];exact (Blk.new w _ _).alloc _
 have kU:XB W2 (w.heap.size+1) y (.slice A1 y.l.length c1):=by
  have:=Blk.new (w.alloc (.cells (rsc x (.slice A0 x.l.length c0)) 40)) 40 (rsc y (.slice A1 y.l.length c1))
  rw [af] at this
  rw [jB]
  exact this
 have Bd:=rm (hv.stay jA) hl
 have Al:=rm (hu.stay jA) hm
 have pE:=uj hl hm
 have HC:=ah jA
 have jP:=ah jB
 obtain ⟨p0,p1,p2,pl,-⟩:=XB.cells kF
 obtain ⟨q0,q1,q2,ql,-⟩:=XB.cells kU
 clear hv hu hl hm jB jA kF kU
 obtain ⟨e,z,l⟩:=x
 obtain ⟨e',z',l'⟩:=y
 simp only at p0 p1 p2 q0 q1 q2 jP Bd Al pE
 by_cases h1:e = e'
 ·subst h1
  by_cases h2:z = z'
  ·subst h2
   have hR:da ⟨e,z,l⟩ ⟨e,z,l'⟩ = decide (l = l'):=by simp [da]
   rw [hR]
   generalize dz l = sx at Bd pE
   generalize dz l' = sy at Al pE
   generalize decide (l = l') = r at pE ⊢
   clear hR
   cases r with
   | true =>
    go_enter Tryz.func34,Tryz.ntmps34
    go_wp2_with (first|refine em rfl _ rfl rfl ?_;try simp only [af];try rw [← jP.out])
    go_ret
    exact ⟨rfl,HC.out⟩
   | false =>
    go_enter Tryz.func34,Tryz.ntmps34
    go_wp2_with (first|refine em rfl _ rfl rfl ?_;try simp only [af];try rw [← jP.out])
    go_ret
    exact ⟨rfl,HC.out⟩
  ·have d2:((z:Int) == (z':Int)) = false:=beq_false_of_ne (by omega)
   have d2':decide (z = z') = false:=ac h2
   have hR:da ⟨e,z,l⟩ ⟨e,z',l'⟩ = false:=by simp [da,h2]
   rw [hR]
   clear hR h2 Bd Al pE
   go_enter Tryz.func34,Tryz.ntmps34
   go_wp2_with (first|refine em rfl _ rfl rfl ?_;try simp only [af];try rw [← jP.out])
   go_ret
   exact ⟨rfl,HC.out⟩
 ·have d1:(e == e') = false:=beq_false_of_ne h1
  have hR:da ⟨e,z,l⟩ ⟨e',z',l'⟩ = false:=by simp [da,h1]
  rw [hR]
  clear hR h1 Bd Al pE
  go_enter Tryz.func34,Tryz.ntmps34
  go_wp2_with (first|refine em rfl _ rfl rfl ?_;try simp only [af];try rw [← jP.out])
  go_ret
  exact ⟨rfl,HC.out⟩
theorem info30:(Tryz.prog.info? 45).map (·.size) = some 2:=by kernel_rfl
theorem cJ {w:World} {b:Nat} {x:Cl} {v:Value} (h0:KB w b x v) (p m:Int):(storeVar 45 ⟨b,8,none⟩ (.agg #[.int .u8 p,.int .u8 m])).run Tryz.prog w = .ok () ((w.setCell ⟨b,8,none⟩ (.int .u8 p)).setCell ⟨b,9,none⟩ (.int .u8 m)):=by
 obtain ⟨c0,c1,c2,c3,c4,c5,c6,c7,c8,c9,c10,c11,cl,cf⟩:=KB.cells h0
 have pU:(sizeOf 45).run Tryz.prog w = .ok 2 w:=by
  simp [sizeOf]
  kernel_rfl
 simp [storeVar,storeCells,Value.cells,pU,go_sem,c8,c9,cf,cl]
theorem xu {o:Oper} {a:Act} {w:World} {K:Act→World→Prop} {Q:Exit→Act→World→Prop} {b:Nat} {x:Cl} {v:Value} {p m:Int} (z t:Operand) (ho:o.op = .store 45 z t) (hx:a.eval z = .pointer (some ⟨b,8,none⟩)) (hy:a.eval t = .agg #[.int .u8 p,.int .u8 m]) (h0:KB w b x v)
  (h:K (a.put o.dst undef) ((w.setCell ⟨b,8,none⟩ (.int .u8 p)).setCell ⟨b,9,none⟩ (.int .u8 m))):o.wp Tryz.prog a w K Q:=by
 unfold Oper.wp execOp
 simp only [ho,hx,hy,Instr.storeAt,Instr.sureAddr,Sem.run_bind,Sem.run_pure,Result.andThen_ok,cJ h0 p m]
 exact h
end Go.Proofs.YtfoleblcaloeoaaGreatDoor
namespace Go.Proofs.YtfoleblcaloeoaaGreatDoor
open Go Go.RowKit Go.ChangeShapes Go.WideShapes Go.ChangeAt Go.Deep
theorem cellsTw:Tryz.prog.cellsOf 49 = 17:=by kernel_rfl
theorem cells4:Tryz.prog.cellsOf 4 = 1:=by kernel_rfl
section
variable {H:Type} {enc:TypeId × Value→H} {w:World} {base:Nat} {spare:Nat→Bool} {held:Bool}
theorem open_two {fuel:Nat} {cs:List Value} {x:DataW H × List MemPlace} (hs:cs.length = 17) (h:DataW.trod enc Tryz.prog w base spare held fuel 49 cs = some x):∃t:Tw,cs = twl t∧TwOk w t:=by
 obtain ⟨n,hp⟩:=lz Tryz.underlying49 h
 obtain ⟨y0,tK⟩:=cy hp 0 rfl 47 0 12 rfl rfl cells47
 obtain ⟨y1,DN⟩:=cy hp 1 rfl 40 12 3 rfl rfl cells40
 obtain ⟨y2,GL⟩:=cy hp 2 rfl 4 15 1 rfl rfl cells4
 obtain ⟨y3,hy3⟩:=cy hp 3 rfl 37 16 1 rfl rfl zx
 obtain ⟨x1,v1,e1,EG,EC,-⟩:=iI (cs:=((cs.drop 0).take 12).toArray) (by simp [hs]) ⟨_,tK⟩
 obtain ⟨x2,v2,e2,DK,hv2,-⟩:=open_res (cs:=((cs.drop 12).take 3).toArray) (by simp [hs]) ⟨_,DN⟩
 obtain ⟨b,e3,-⟩:=DataW.trod_bool Tryz.underlying4 GL
 obtain ⟨hh,e4,hhh⟩:=aJ Tryz.underlying37 hy3
 refine ⟨⟨x1,v1,x2,v2,b,hh⟩,?_,EG,DK,EC,hv2,hhh⟩
 have e1':cs.take 12 = (clc x1 v1).toList:=by rw [← e1];simp
 have e2':(cs.drop 12).take 3 = (rsc x2 v2).toList:=by rw [← e2]
 have e3':cs[15]? = some (.bool b):=wm e3
 show cs = (clc x1 v1).toList ++ ((rsc x2 v2).toList ++ [.bool b,.int .u64 hh])
 rw [← e1',← e2']
 have h5:cs.drop 15 = [.bool b,.int .u64 hh]:=by
  refine List.ext_getElem? fun i=>?_
  rw [List.getElem?_drop]
  match i with
  | 0=>exact e3'
  | 1=>exact e4
  | i+2=>rw [List.getElem?_eq_none (by omega)];rfl
 rw [← h5]
 have h6:(cs.drop 12).take 3 ++ cs.drop 15 = cs.drop 12:=by
  have:=List.take_append_drop 3 (cs.drop 12)
  rw [List.drop_drop] at this
  exact this
 rw [h6,List.take_append_drop]
theorem iJ {fuel:Nat} {v:Value} {x:DataW H × List MemPlace} (h:DataW.trod enc Tryz.prog w base spare held fuel 27 [v] = some x):∃l:List Tw,RE twl 17 w v l∧(∀t∈l,TwOk w t)∧(l.length:Int)≤9223372036854775807:=by
 rcases open_slice Tryz.underlying27 h with ⟨tE,_⟩ | ⟨a,len,cap,m,n,D,Pl,tE,hb,hl,hm,Dt,hx,hi⟩
 ·injection tE with e
  subst e
  exact ⟨[],Rd.nil w 17 0 none,by simp,by simp⟩
 ·injection tE with e
  subst e
  have pL:len≤m:=by rw [Dt];split <;> omega
  have each:∀i,i < len→∃t:Tw,TwOk w t∧∀j u,(twl t)[j]? = some u→w.cell? ((a.add (i * 17)).add j) = some u:=by
   intro i hil
   obtain ⟨cs',hc,ht'⟩:=hi i (by omega)
   rw [cellsTw] at hc
   obtain ⟨_,Dh,AZ⟩:=World.cells?_some hc
   obtain ⟨o,ho,hr⟩:=open_two (by omega) ht'
   refine ⟨o,hr,fun j u hu=>?_⟩
   have hj:j < 17:=by
    have:=(List.getElem?_eq_some_iff.1 hu).1
    rwa [tn] at this
   rw [AZ j hj,← ho] at *
   rw [← hu,List.getElem?_eq_getElem (by omega)]
  obtain ⟨l,vQ,hp⟩:=fT each
  refine ⟨l,⟨by rw [ef tn],some a,cap,by rw [vQ],by rw [vQ];exact hl,fun Bh=>?_⟩,fun o ho=>?_,by rw [vQ];unfold maxLen at hm;omega⟩
  ·obtain ⟨g,off,rfl⟩:=wt (by have:=(hp 0 Bh).2 0 _ rfl;simpa using this)
   refine ⟨g,off,rfl,fun j u hu=>?_⟩
   have hj:j < l.length * 17:=by rw [← ef tn];exact (List.getElem?_eq_some_iff.1 hu).1
   obtain ⟨q,r,rfl,hr⟩:∃q r,j = q * 17+r∧r < 17:=⟨j / 17,j % 17,by omega,by omega⟩
   have hq:q < l.length:=by omega
   rw [tx tn l q r hq hr] at hu
   have:=(hp q hq).2 r u hu
   rw [Addr.add_lit,Addr.add_lit,Nat.add_assoc] at this
   exact this
  ·obtain ⟨i,hi,rfl⟩:=List.getElem_of_mem ho
   exact (hp i hi).1
end
end Go.Proofs.YtfoleblcaloeoaaGreatDoor
