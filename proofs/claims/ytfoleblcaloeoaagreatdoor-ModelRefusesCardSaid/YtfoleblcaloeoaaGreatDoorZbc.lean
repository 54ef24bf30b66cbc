/- Texts merged for the claim. -/
import Derived.Test.YtfoleblcaloeoaaGreatDoorZay
import Derived.Test.YtfoleblcaloeoaaGreatDoorZbb
import Derived.Shelf.SlMaps.Clone
set_option maxHeartbeats 40000000
set_option maxRecDepth 20000
namespace Go.Proofs.YtfoleblcaloeoaaGreatDoor
open Go Go.RowKit
theorem MapB.clone {w:World} {b:Nat} {k:IntKind} {f:Int→Option Value} (h:MapB w b k f):∃es clock,w.heap[b]? = some (.map es clock)∧MapB (w.alloc (.map es clock)) w.heap.size k f∧Chg [] w (w.alloc (.map es clock)):=by
 obtain ⟨es,c,h1,h2⟩:=h
 exact ⟨es,c,h1,⟨es,c,heap_alloc_new w _,h2⟩,(Chg.refl [] w).alloc _⟩
theorem iz {w:World} {b:Nat} {k:IntKind} {f:Int→Option Value} (h:MapB w b k f) :
  Calls Tryz.prog 42 #[.map (some b)] w fun e w'=>∃b',e = .returned (.map (some b'))∧MapB w' b' k f∧Chg [] w w'∧w.heap.size≤b':=by
 obtain ⟨es,c,h1,h2,h3⟩:=h.clone
 have hq:∀W:World,(binOp .eql 60 (.map (some b)) (.map none)).run Tryz.prog W = .ok (.bool false) W:=fun W=>run_eql_map_nil_sl (P:=Tryz.prog) W 60 _ _ (some b) Tryz.underlying60
 have hr:(callFunc 78 #[.iface 60 (.map (some b))]).run Tryz.prog w = .ok (.value (.iface 60 (.map (some w.heap.size)))) (w.alloc (.map es c)):=by
  rw [run_callFunc_extern Tryz.func78 (by kernel_rfl) (by kernel_rfl) (by kernel_rfl) (e:=Extern.MapsClone.clone) (by kernel_rfl),run_maps_clone_sl w 60 h1]
  rfl
 have ha:∀W:World,(Instr.typeAssert (.iface 60 (.map (some w.heap.size))) 20 60 false).run Tryz.prog W = .ok (.map (some w.heap.size)) W:=fun W=>run_typeAssert_map_sl W 60 20 _ _ _ Tryz.underlying60
 have H:=ah (And.intro h2 h3)
 clear h h1 h2 h3
 go_enter Tryz.func42,Tryz.ntmps42
 go_wp2_with fail
 go_ret
 exact ⟨_,rfl,H.out.1,H.out.2,Nat.le_refl _⟩
theorem tw {w:World} {b:Nat} {k:IntKind} {f:Int→Option Value} (h:MapB w b k f) :
  Calls Tryz.prog 80 #[.map (some b)] w fun e w'=>∃b',e = .returned (.map (some b'))∧MapB w' b' k f∧Chg [] w w'∧w.heap.size≤b':=by
 obtain ⟨es,c,h1,h2,h3⟩:=h.clone
 have hq:∀W:World,(binOp .eql 111 (.map (some b)) (.map none)).run Tryz.prog W = .ok (.bool false) W:=fun W=>run_eql_map_nil_sl (P:=Tryz.prog) W 111 _ _ (some b) Tryz.underlying111
 have hr:(callFunc 78 #[.iface 111 (.map (some b))]).run Tryz.prog w = .ok (.value (.iface 111 (.map (some w.heap.size)))) (w.alloc (.map es c)):=by
  rw [run_callFunc_extern Tryz.func78 (by kernel_rfl) (by kernel_rfl) (by kernel_rfl) (e:=Extern.MapsClone.clone) (by kernel_rfl),run_maps_clone_sl w 111 h1]
  rfl
 have ha:∀W:World,(Instr.typeAssert (.iface 111 (.map (some w.heap.size))) 20 111 false).run Tryz.prog W = .ok (.map (some w.heap.size)) W:=fun W=>run_typeAssert_map_sl W 111 20 _ _ _ Tryz.underlying111
 have H:=ah (And.intro h2 h3)
 clear h h1 h2 h3
 go_enter Tryz.func80,Tryz.ntmps80
 go_wp2_with fail
 go_ret
 exact ⟨_,rfl,H.out.1,H.out.2,Nat.le_refl _⟩
theorem zu (w:World):SB (w.alloc (.cells #[] 5)) (.slice (some ⟨w.heap.size,0,none⟩) 0 0) []:=nx w 5 1
def NewB (w w':World) (l:List Nat) (e:Ending):Prop:=∃A n c,e = .returned (.slice A n c)∧SB w' (.slice A n c) l∧∀k∈own (.slice A n c),w.heap.size≤k
theorem clone_b {w:World} {v:Value} {l:List Nat} (hv:RB w v l) (jN:l.length≤100000) :
  Calls Tryz.prog 44 #[v] w fun e w'=>NewB w w' l e∧Chg [] w w':=by
 obtain ⟨A,c,rfl⟩:=RE.form hv
 cases A with
 | none =>
  have h0:l = []:=by
   cases l with
   | nil=>rfl
   | cons a l =>
    obtain ⟨g,off,e⟩:=RE.addr hv (by simp)
    cases e
  subst h0
  have jO:∀W:World,(binOp .eql 38 (.slice none 0 c) (.slice none 0 0)).run Tryz.prog W = .ok (.bool true) W:=fun W=>Lib.run_eql_slice_nil W 38 5 _ _ _ 0 0 Tryz.underlying38
  clear hv
  go_enter Tryz.func44,Tryz.ntmps44
  go_wp2_with fail
  go_ret
  exact ⟨⟨_,_,_,rfl,SE.nil _ _ _ _,fun _ h=>(bw h).elim⟩,Chg.refl _ _⟩
 | some a =>
  have jO:∀W:World,(binOp .eql 38 (.slice (some a) l.length c) (.slice none 0 0)).run Tryz.prog W = .ok (.bool false) W:=fun W=>Lib.run_eql_slice_nil W 38 5 _ _ _ 0 0 Tryz.underlying38
  have HS:=ah (zu w)
  have rE:Chg [] w (w.alloc (.cells #[] 5)):=(Chg.refl [] w).alloc _
  have HR:=ah (hv.stay rE)
  have tN:=ah rE
  have DZ:=ah (show ([]:List Nat).length+l.length≤1000000 by simp;omega)
  clear hv rE
  go_enter Tryz.func44,Tryz.ntmps44
  go_wp2_with (at_builtin;refine pp rfl _ _ rfl (.slice (some ⟨w.heap.size,0,none⟩) 0 0) _ rfl rfl (l:=[]) (m:=l) HS.out HR.out DZ.out ?_;intro A9 n9 c9 W9 mW nT kE mU)
  go_ret
  refine ⟨⟨_,_,_,rfl,by simpa using nT,fun k hk=>(mU k hk).elim (fun h=>by simp [own,Value.ownBlock] at h;omega) (fun h=>by simp at h;omega)⟩,tN.out.trans kE (fun k hk=>.inr (by simp [own,Value.ownBlock] at hk;omega))⟩
theorem bp_of (d bp bo:Nat) (p:Pr):BP [(0,.pointer (some ⟨d,0,none⟩)),(1,.map (some bp)),(2,.map (some bo)),(3,.agg #[.int .u8 p.pk,.int .u8 p.pm])] d bp bo p:=⟨by kernel_rfl⟩
theorem fm {w:World} {b d bp bo:Nat} {p:Pr} (h:Blk w b 113 (prc d bp bo p)):(loadVar 45 ⟨b,3,none⟩).run Tryz.prog w = .ok (.agg #[.int .u8 p.pk,.int .u8 p.pm]) w:=by
 have hr:w.rangeAt b 3 [.int .u8 p.pk,.int .u8 p.pm]:=by
  have:=World.rangeAt_of_block (C:=prc d bp bo p) h 3 2
  simpa [prc] using this
 exact run_loadVar_mid (P:=Tryz.prog) w b 3 45 _ _ hr Tryz.underlying45 rfl kx
theorem aC (l:List Nat) (h:l.length = 256):(Tryz.prog.info? 138).map (·.size) = some (pgc l).size:=by
 have e:(Tryz.prog.info? 138).map (·.size) = some 256:=by kernel_rfl
 rw [e]
 unfold pgc
 simp [h]
section
variable {ops:Array Oper} {rest:List Oper} {o:Oper} {a:Act} {w:World} {Q:Exit→Act→World→Prop}
theorem sb {b:Nat} {l:List Nat} (hg:o.guard = none) (z:Operand) (ho:o.op = .load 138 z) (hx:a.eval z = .pointer (some ⟨b,0,none⟩)) (h0:PgB w b l) (h:wpList Tryz.prog ops Q rest (a.put o.dst (.agg (pgc l))) w):wpList Tryz.prog ops Q (o :: rest) a w :=
 wpList_load_row hg 138 z ho b hx 138 _ (0,0) _ h0.blk Tryz.underlying138 rfl (aC l h0.len) h
theorem pgc_one (l:List Nat):(pgc l).all (·.oneCell') = true:=by
 unfold pgc
 simp [show ∀k z,(Value.int k z).oneCell' = true from fun _ _=>rfl]
theorem md {b:Nat} {l l':List Nat} (hg:o.guard = none) (z t:Operand) (ho:o.op = .store 138 z t) (hx:a.eval z = .pointer (some ⟨b,0,none⟩)) (hy:a.eval t = .agg (pgc l')) (hl:l'.length = 256) (h8:∀x∈l',x < 256) (h0:PgB w b l)
  (h:∀w',PgB w' b l'→Chg [b] w w'→wpList Tryz.prog ops Q rest (a.put o.dst undef) w'):wpList Tryz.prog ops Q (o :: rest) a w :=
 wpList_store_row hg 138 z t ho b _ hx hy 138 _ h0.blk (aC l' hl) (by unfold pgc;simp [hl,h0.len]) (pgc_one l') (h _ ⟨setRow_heap w b _ _ _ _ h0.blk,hl,h8⟩ ((Chg.refl [b] w).setRow (.inl (by simp)) _))
theorem gi {t kt e:TypeId} {k:IntKind} {b:Nat} {f:Int→Option Value} (hg:o.guard = none) (x:Operand) (ho:o.op = .range t x) (ht:Tryz.prog.underlying t = some (.map kt e)) (hx:a.eval x = .map (some b)) (h:MapB w b k f)
  (I:∀w' n,MapIt w' b w.heap.size k f (fun z=>(f z).isSome) n→Chg [] w w'→w'.heap.size = w.heap.size+1→wpList Tryz.prog ops Q rest (a.put o.dst (.pointer (some ⟨w.heap.size,0,none⟩))) w'):wpList Tryz.prog ops Q (o :: rest) a w :=
 wpList_plain hg fun _ hk=>bC x ho ht hx h fun w' n h1 h2 h3=>hk _ _ (I w' n h1 h2 h3)
theorem ie {k:IntKind} {b r n:Nat} {f:Int→Option Value} {left:Int→Bool} (hg:o.guard = none) (x:Operand) (ho:o.op = .next x false) (hx:a.eval x = .pointer (some ⟨r,0,none⟩)) (h:MapIt w b r k f left n)
  (hD:n = 0→(∀z,left z = false)→wpList Tryz.prog ops Q rest (a.put o.dst (.tuple #[.bool false])) w)
  (hM:∀z v w' n',left z = true→f z = some v→MapIt w' b r k f (fun y=>left y && !(y == z)) n'→n' < n→Chg [r] w w'→w'.heap.size = w.heap.size→(Instr.entry (.pointer (some ⟨r,0,none⟩))).run Tryz.prog w' = .ok (.tuple #[.int k z,v]) w'→wpList Tryz.prog ops Q rest (a.put o.dst (.tuple #[.bool true,.int k z,v])) w'):wpList Tryz.prog ops Q (o :: rest) a w :=
 wpList_plain hg fun _ hk=>dF x ho hx h (fun h1 h2=>hk _ _ (hD h1 h2)) fun z v w' n' h1 h2 h3 h4 h5 h6 h7=>hk _ _ (hM z v w' n' h1 h2 h3 h4 h5 h6 h7)
theorem sc {t kt et:TypeId} {q k:IntKind} {b:Nat} {f:Int→Option Value} (hg:o.guard = none) (x y z:Operand) (ho:o.op = .mapUpdate t x y z)
  (ht:Tryz.prog.underlying t = some (.map kt et)) (hk:Tryz.prog.underlying kt = some (.int q)) {key:Int} {val:Value} (hx:a.eval x = .map (some b)) (hy:a.eval y = .int k key) (hz:a.eval z = val) (h:MapB w b k f)
  (I:∀w',MapB w' b k (fun y=>if y = key then some val else f y)→Chg [b] w w'→wpList Tryz.prog ops Q rest (a.put o.dst undef) w'):wpList Tryz.prog ops Q (o :: rest) a w :=
 wpList_plain hg fun _ hkk=>fd x y z ho ht hk hx hy hz h fun w' h1 h2=>hkk _ _ (I w' h1 h2)
end
structure Cp0 (w W:World) (b d bp bo:Nat) (FA:List Nat) (p:Pr) (fo:Int→Option Value):Prop where
 chg:Chg [] w W
 blk:Blk W b 113 (prc d bp bo p)
 ar:Ar.AMem W d p.rl FA
 mp:MapB W bp .i64 fun _=>none
 mo:MapB W bo .i64 fo
 ga:∀k∈FA,w.heap.size≤k
 gb:w.heap.size≤b
 gp:w.heap.size≤bp
 go:w.heap.size≤bo
 ne:bp≠bo
 na:∀k∈FA,k≠b∧k≠bp∧k≠bo
structure CpI (w W:World) (S b d bp bo r:Nat) (FA:List Nat) (p:Pr) (fo:Int→Option Value) (left:Int→Bool) (gq:Int→Nat):Prop where
 chg:Chg [] w W
 blk:Blk W b 113 (prc d bp bo p)
 ar:Ar.AMem W d p.rl FA
 mp:MapB W bp .i64 fun z=>if left z then none else (p.pg z).map fun _=>.pointer (some ⟨gq z,0,none⟩)
 mo:MapB W bo .i64 fo
 pg:∀z B,left z = false→p.pg z = some B→PgB W (gq z) B∧S≤gq z
 inj:∀z z' B B',left z = false→left z' = false→p.pg z = some B→p.pg z' = some B'→gq z = gq z'→z = z'
 ga:∀k∈FA,w.heap.size≤k
 gb:w.heap.size≤b
 gp:w.heap.size≤bp
 go:w.heap.size≤bo
 gr:w.heap.size≤r
 ne:bp≠bo
 na:∀k∈FA,k≠b∧k≠bp∧k≠bo∧k≠r∧k < S
 nr:r≠b∧r≠bp∧r≠bo
 ls:b < S∧bp < S∧bo < S∧r < S∧w.heap.size≤S∧S≤W.heap.size
theorem Cp0.begin {w W W1:World} {b d bp bo:Nat} {FA:List Nat} {p:Pr} {fo:Int→Option Value} (h:Cp0 w W b d bp bo FA p fo) (hc:Chg [] W W1) (hs:W1.heap.size = W.heap.size+1) {left:Int→Bool} (hl:∀z,left z = (p.pg z).isSome) :
  CpI w W1 (W.heap.size+1) b d bp bo W.heap.size FA p fo left (fun _=>0):=by
 have l1:=h.blk.lt
 have l2:=h.mp.lt
 have l3:=h.mo.lt
 have l4:=h.ar.lt
 have l5:=h.chg.size
 refine ⟨h.chg.stay hc,h.blk.chg hc ab,h.ar.stay hc,?_,h.mo.stay hc,?_,?_,h.ga,h.gb,h.gp,h.go,l5,h.ne,fun k hk=>?_,?_,?_⟩
 ·have e:(fun z=>if left z then none else (p.pg z).map fun _=>Value.pointer (some ⟨0,0,none⟩)) = fun _=>none:=by
   funext z
   rw [hl z]
   cases p.pg z <;> rfl
  rw [e]
  exact h.mp.stay hc
 ·intro z B h1 h2
  rw [hl z,h2] at h1
  cases h1
 ·intro z z' B B' h1 h2 h3
  rw [hl z,h3] at h1
  cases h1
 ·have:=l4 k hk
  have:=h.na k hk
  omega
 ·omega
 ·omega
theorem CpI.next {w W W1:World} {S b d bp bo r:Nat} {FA:List Nat} {p:Pr} {fo:Int→Option Value} {left:Int→Bool} {gq:Int→Nat} (h:CpI w W S b d bp bo r FA p fo left gq) (hc:Chg [r] W W1):CpI w W1 S b d bp bo r FA p fo left gq:=by
 have hs:=hc.size
 have hls:=h.ls
 have hnr:=h.nr
 have pD:∀x,x≠r→x∉[r]:=fun x hx hm=>hx (aa hm)
 refine { h with chg:=h.chg.trans hc (fun x hx=>.inr (by obtain rfl:=aa hx;exact h.gr)),blk:=h.blk.chg hc (pD _ (by omega)),ar:=h.ar.chg hc (fun k hk=>pD _ (h.na k hk).2.2.2.1),mp:=h.mp.chg hc (pD _ (by omega)),mo:=h.mo.chg hc (pD _ (by omega)),pg:=fun z B h1 h2=>⟨⟨(h.pg z B h1 h2).1.blk.chg hc (pD _ (by have:=(h.pg z B h1 h2).2;omega)),(h.pg z B h1 h2).1.len,(h.pg z B h1 h2).1.b8⟩,(h.pg z B h1 h2).2⟩,ls:=by omega }
theorem CpI.step {w W W1:World} {S b d bp bo r g:Nat} {FA:List Nat} {p:Pr} {fo:Int→Option Value} {left:Int→Bool} {gq:Int→Nat} (h:CpI w W S b d bp bo r FA p fo left gq) {z:Int} {B:List Nat} (hz:left z = true) (hB:p.pg z = some B)
  (hc:Chg [bp] W W1) (hg:W.heap.size≤g) (hp:PgB W1 g B) (hm:MapB W1 bp .i64 fun y=>if y = z then some (.pointer (some ⟨g,0,none⟩)) else if left y then none else (p.pg y).map fun _=>.pointer (some ⟨gq y,0,none⟩)) :
  CpI w W1 S b d bp bo r FA p fo (fun y=>left y && !(y == z)) (upd gq z g):=by
 have hs:=hc.size
 have hls:=h.ls
 have hnr:=h.nr
 have jO:=h.ne
 have rD:=Blk.ne_map h.blk h.mp
 have pD:∀x,x≠bp→x∉[bp]:=fun x hx hm=>hx (aa hm)
 have lG:∀y,(left y && !(y == z)) = false→y≠z→left y = false:=fun y h1 h2=>by
  cases hl:left y with
  | false=>rfl
  | true=>rw [hl,beq_false_of_ne h2] at h1;cases h1
 have jF:∀y C,left y = false→p.pg y = some C→gq y < W.heap.size:=fun y C h1 h2=>(h.pg y C h1 h2).1.blk.lt
 refine { h with chg:=h.chg.trans hc (fun x hx=>.inr (by obtain rfl:=aa hx;exact h.gp)),blk:=h.blk.chg hc (pD _ rD),ar:=h.ar.chg hc (fun k hk=>pD _ (h.na k hk).2.1),mp:=?_,mo:=h.mo.chg hc (pD _ (by omega)),pg:=fun y C h1 h2=>?_,inj:=fun y y' C C' h1 h2 h3 h4 h5=>?_,ls:=by omega }
 ·have e:(fun y=>if y = z then some (Value.pointer (some ⟨g,0,none⟩)) else if left y then none else (p.pg y).map fun _=>.pointer (some ⟨gq y,0,none⟩)) = fun y=>if (left y && !(y == z)) = true then none else (p.pg y).map fun _=>.pointer (some ⟨upd gq z g y,0,none⟩):=by
   funext y
   by_cases h1:y = z
   ·subst h1
    simp [upd,hB]
   ·simp [upd,h1]
  rw [← e]
  exact hm
 ·by_cases h3:y = z
  ·subst h3
   obtain rfl:=Option.some.inj (hB.symm.trans h2)
   rw [di]
   exact ⟨hp,by omega⟩
  ·rw [db _ _ h3]
   obtain ⟨k1,k2⟩:=h.pg y C (lG y h1 h3) h2
   exact ⟨⟨k1.blk.chg hc (pD _ (by omega)),k1.len,k1.b8⟩,k2⟩
 ·by_cases e1:y = z
  ·by_cases e2:y' = z
   ·rw [e1,e2]
   ·rw [e1,di,db _ _ e2] at h5
    have:=jF y' C' (lG y' h2 e2) h4
    omega
  ·by_cases e2:y' = z
   ·rw [e2,di,db _ _ e1] at h5
    have:=jF y C (lG y h1 e1) h3
    omega
   ·rw [db _ _ e1,db _ _ e2] at h5
    exact h.inj y y' C C' (lG y h1 e1) (lG y' h2 e2) h3 h4 h5
theorem CpI.end_ {w W w0:World} {S b d bp bo r b0 d0 bp0 bo0:Nat} {FA FA0:List Nat} {p:Pr} {fp fo:Int→Option Value} {left:Int→Bool} {gq gp:Int→Nat} (h:CpI w W S b d bp bo r FA p fo left gq) (hP:PIn w0 b0 p d0 FA0 bp0 bo0 fp fo gp) (hl:∀z,left z = false) :
  ∃F,PMem W b p F∧∀k,F k→w.heap.size≤k:=by
 have hls:=h.ls
 have wN:MapB W bp .i64 fun z=>(p.pg z).map fun _=>.pointer (some ⟨gq z,0,none⟩):=by
  have:=h.mp
  simpa only [hl,Bool.false_eq_true,if_false] using this
 refine ⟨FPr p b FA bp bo gq,⟨d,FA,bp,bo,_,fo,gq,⟨h.blk,h.ar,hP.sp,wN,h.mo,fun _=>rfl,hP.ho,fun n B hB=>(h.pg n B (hl n) hB).1,fun n n' B B' h1 h2=>h.inj n n' B B' (hl n) (hl n') h1 h2,h.ne,hP.pk,hP.pm,hP.ow⟩,fun k hk=>hk,?_⟩,?_⟩
 ·rintro k (rfl | hk | rfl | rfl | ⟨n,B,hB,rfl⟩)
  ·exact h.blk.lt
  ·exact h.ar.lt k hk
  ·exact h.mp.lt
  ·exact h.mo.lt
  ·exact (h.pg n B (hl n) hB).1.blk.lt
 ·rintro k (rfl | hk | rfl | rfl | ⟨n,B,hB,rfl⟩)
  ·exact h.gb
  ·exact h.ga k hk
  ·exact h.gp
  ·exact h.go
  ·have:=(h.pg n B (hl n) hB).2;omega
theorem dR {w:World} {b0:Nat} {p:Pr} {F0:Nat→Prop} (h:PMem w b0 p F0) :
  Calls Tryz.prog 43 #[.pointer (some ⟨b0,0,none⟩)] w fun e W'=>(∃b F,e = .returned (.pointer (some ⟨b,0,none⟩))∧PMem W' b p F∧∀k,F k→w.heap.size≤k)∧Chg [] w W':=by
 obtain ⟨d0,FA0,bp0,bo0,fp,fo,gp,hI,-,-⟩:=h
 have HI:=ah (fun W (hc:Chg [] w W)=>hI.cp (CP.of0 (F:=fun _=>False) hc) (fun _ _ h=>h))
 have l0:=hI.blk.lt
 have qI:∀(t:TypeId) (W:World),(Instr.makeMap t none).run Tryz.prog W = .ok (.map (some W.heap.size)) (W.alloc (.map #[] 0)):=fun t W=>run_makeMap t W
 clear hI
 go_enter Tryz.func43,Tryz.ntmps43
 go_upto_region 1 with (fail)
 go_cut [3] from 7 to 23 (fun z3 W=>∃b d bp bo FA,z3 = .pointer (some ⟨b,0,none⟩)∧Hid (Cp0 w W b d bp bo FA p fo))
 case first =>
  refine kw [0,0,0,5,6,6,0,0,0,5,6,0,0,0,5,0,6,0] [none,none,none,none,none,none,none,none,none,none,none,none,none,none,none,none,none,none] [[0,1,2,3,4,5,6,7,8,9,10,11,12,13,14,15,16,17],[0,1,2,5,3,4,6,7,8,9,10,11,12,13,14,15,16,17],[0,1,2,3,4,6,7,8,9,10,5,11,12,13,14,15,16,17]] (fun W=>Chg [] w W) (by kernel_rfl) (by kernel_rfl) (by kernel_rfl) (by kernel_rfl) (fun L9 nQ=>?_)
  have hS:Chg [] w w.drew:=(Chg.refl [] w).drew
  generalize w.drew = W0 at hS ⊢
  simp only [List.mem_cons,List.mem_nil_iff,or_false] at nQ
  rcases nQ with rfl | rfl | rfl
  ·have z0:=hS.size
   simp only [dt,List.filterMap_cons,List.filterMap_nil,List.getElem?_cons_succ,List.getElem?_cons_zero]
   go_wp2_with (first|refine al 109 _ rfl rfl (fun w' J=>dk Tryz.underlying109 (by simpa [prc] using (HI.out w' J).blk.cell 0)) hS ?_|refine al 111 _ rfl rfl (fun w' J=>ca Tryz.underlying111 (by simpa [prc] using (HI.out w' J).blk.cell 2)) hS ?_|refine al 45 _ rfl rfl (fun w' J=>fm (HI.out w' J).blk) hS ?_|refine av fun K I=>?_|refine ai fun K I=>?_;go_simp;refine I _ _ ?_;clear I K|refine ao fun K I=>?_;go_simp|refine aj ?_)
   (refine aw hS fun K I=>?_)
   go_simp
   have yM:=(HI.out W0 hS).ar
   have pE:=(HI.out W0 hS).sp.len
   refine (Ar.copy_at yM (by omega)).mono ?_
   rintro e W1 ⟨dA,FA,rfl,hA,gA,jH⟩
   have lA:=hA.lt
   clear yM pE
   have z1:=jH.size
   replace hS:Chg [] w W1:=hS.stay jH
   refine I _ _ hS ?_
   clear I K
   clear jH
   go_wp2_with (first|refine al 109 _ rfl rfl (fun w' J=>dk Tryz.underlying109 (by simpa [prc] using (HI.out w' J).blk.cell 0)) hS ?_|refine al 111 _ rfl rfl (fun w' J=>ca Tryz.underlying111 (by simpa [prc] using (HI.out w' J).blk.cell 2)) hS ?_|refine al 45 _ rfl rfl (fun w' J=>fm (HI.out w' J).blk) hS ?_|refine av fun K I=>?_|refine ai fun K I=>?_;go_simp;refine I _ _ ?_;clear I K|refine ao fun K I=>?_;go_simp|refine aj ?_)
   (refine aw hS fun K I=>?_)
   go_simp
   obtain ⟨W2,jB⟩:∃W,W = W1.alloc (.map #[] 0):=⟨_,rfl⟩
   have jA:Chg [] W1 W2:=by rw [jB];exact (Chg.refl [] _).alloc _
   have hP:MapB W2 W1.heap.size .i64 (fun _=>none):=by rw [jB];exact MapB.new _ _
   obtain ⟨bP,nG⟩:∃b,b = W1.heap.size:=⟨_,rfl⟩
   have gP:W1.heap.size≤bP:=Nat.le_of_eq nG.symm
   try rw [← jB]
   rw [← nG] at hP ⊢
   have lP:=hP.lt
   clear jB nG
   have z2:=jA.size
   replace hS:Chg [] w W2:=hS.stay jA
   refine I _ _ hS ?_
   clear I K
   replace hA:=hA.stay jA
   clear jA
   go_wp2_with (first|refine al 109 _ rfl rfl (fun w' J=>dk Tryz.underlying109 (by simpa [prc] using (HI.out w' J).blk.cell 0)) hS ?_|refine al 111 _ rfl rfl (fun w' J=>ca Tryz.underlying111 (by simpa [prc] using (HI.out w' J).blk.cell 2)) hS ?_|refine al 45 _ rfl rfl (fun w' J=>fm (HI.out w' J).blk) hS ?_|refine av fun K I=>?_|refine ai fun K I=>?_;go_simp;refine I _ _ ?_;clear I K|refine ao fun K I=>?_;go_simp|refine aj ?_)
   (refine aw hS fun K I=>?_)
   go_simp
   refine (tw (HI.out W2 hS).mo).mono ?_
   rintro e W3 ⟨bO,rfl,hQ,jD,gQ⟩
   have lQ:=hQ.lt
   have z3:=jD.size
   replace hS:Chg [] w W3:=hS.stay jD
   refine I _ _ hS ?_
   clear I K
   replace hA:=hA.stay jD
   replace hP:=hP.stay jD
   clear jD
   have oJ:=ah (bp_of dA bP bO p)
   go_wp2_with (first|refine al 109 _ rfl rfl (fun w' J=>dk Tryz.underlying109 (by simpa [prc] using (HI.out w' J).blk.cell 0)) hS ?_|refine al 111 _ rfl rfl (fun w' J=>ca Tryz.underlying111 (by simpa [prc] using (HI.out w' J).blk.cell 2)) hS ?_|refine al 45 _ rfl rfl (fun w' J=>fm (HI.out w' J).blk) hS ?_|refine aw hS fun K I=>?_;refine kd _ rfl rfl ?_;refine I _ _ (hS.alloc _) ?_;clear I K|refine av fun K I=>?_;refine gy _ rfl oJ.out ?_ ?_;(focus (simp [Act.eval];done));refine I _ _ ?_;clear I K|refine av fun K I=>?_|refine ai fun K I=>?_;go_simp;refine I _ _ ?_;clear I K|refine ao fun K I=>?_;go_simp|refine aj ?_)
   go_meet
   case rel =>
    have hn:Chg [] W3 (W3.alloc (.cells (prc dA bP bO p) 113)):=(Chg.refl [] _).alloc _
    refine ⟨_,dA,bP,bO,FA,rfl,ah (Cp0.mk (hS.stay hn) (Blk.new W3 _ _) (hA.stay hn) (hP.stay hn) (hQ.stay hn) (fun k hk=>?_) ?_ ?_ ?_ ?_ fun k hk=>?_)⟩
    ·have:=gA k hk;omega
    ·omega
    ·omega
    ·omega
    ·omega
    ·have:=gA k hk;have:=lA k hk;omega
  ·have z0:=hS.size
   simp only [dt,List.filterMap_cons,List.filterMap_nil,List.getElem?_cons_succ,List.getElem?_cons_zero]
   go_wp2_with (first|refine al 109 _ rfl rfl (fun w' J=>dk Tryz.underlying109 (by simpa [prc] using (HI.out w' J).blk.cell 0)) hS ?_|refine al 111 _ rfl rfl (fun w' J=>ca Tryz.underlying111 (by simpa [prc] using (HI.out w' J).blk.cell 2)) hS ?_|refine al 45 _ rfl rfl (fun w' J=>fm (HI.out w' J).blk) hS ?_|refine av fun K I=>?_|refine ai fun K I=>?_;go_simp;refine I _ _ ?_;clear I K|refine ao fun K I=>?_;go_simp|refine aj ?_)
   (refine aw hS fun K I=>?_)
   go_simp
   obtain ⟨W1,jG⟩:∃W,W = W0.alloc (.map #[] 0):=⟨_,rfl⟩
   have jH:Chg [] W0 W1:=by rw [jG];exact (Chg.refl [] _).alloc _
   have hP:MapB W1 W0.heap.size .i64 (fun _=>none):=by rw [jG];exact MapB.new _ _
   obtain ⟨bP,nG⟩:∃b,b = W0.heap.size:=⟨_,rfl⟩
   have gP:W0.heap.size≤bP:=Nat.le_of_eq nG.symm
   try rw [← jG]
   rw [← nG] at hP ⊢
   have lP:=hP.lt
   clear jG nG
   have z1:=jH.size
   replace hS:Chg [] w W1:=hS.stay jH
   refine I _ _ hS ?_
   clear I K
   clear jH
   go_wp2_with (first|refine al 109 _ rfl rfl (fun w' J=>dk Tryz.underlying109 (by simpa [prc] using (HI.out w' J).blk.cell 0)) hS ?_|refine al 111 _ rfl rfl (fun w' J=>ca Tryz.underlying111 (by simpa [prc] using (HI.out w' J).blk.cell 2)) hS ?_|refine al 45 _ rfl rfl (fun w' J=>fm (HI.out w' J).blk) hS ?_|refine av fun K I=>?_|refine ai fun K I=>?_;go_simp;refine I _ _ ?_;clear I K|refine ao fun K I=>?_;go_simp|refine aj ?_)
   (refine aw hS fun K I=>?_)
   go_simp
   have yM:=(HI.out W1 hS).ar
   have pE:=(HI.out W1 hS).sp.len
   refine (Ar.copy_at yM (by omega)).mono ?_
   rintro e W2 ⟨dA,FA,rfl,hA,gA,jA⟩
   have lA:=hA.lt
   clear yM pE
   have z2:=jA.size
   replace hS:Chg [] w W2:=hS.stay jA
   refine I _ _ hS ?_
   clear I K
   replace hP:=hP.stay jA
   clear jA
   go_wp2_with (first|refine al 109 _ rfl rfl (fun w' J=>dk Tryz.underlying109 (by simpa [prc] using (HI.out w' J).blk.cell 0)) hS ?_|refine al 111 _ rfl rfl (fun w' J=>ca Tryz.underlying111 (by simpa [prc] using (HI.out w' J).blk.cell 2)) hS ?_|refine al 45 _ rfl rfl (fun w' J=>fm (HI.out w' J).blk) hS ?_|refine av fun K I=>?_|refine ai fun K I=>?_;go_simp;refine I _ _ ?_;clear I K|refine ao fun K I=>?_;go_simp|refine aj ?_)
   (refine aw hS fun K I=>?_)
   go_simp
   refine (tw (HI.out W2 hS).mo).mono ?_
   rintro e W3 ⟨bO,rfl,hQ,jD,gQ⟩
   have lQ:=hQ.lt
   have z3:=jD.size
   replace hS:Chg [] w W3:=hS.stay jD
   refine I _ _ hS ?_
   clear I K
   replace hP:=hP.stay jD
   replace hA:=hA.stay jD
   clear jD
   have oJ:=ah (bp_of dA bP bO p)
   go_wp2_with (first|refine al 109 _ rfl rfl (fun w' J=>dk Tryz.underlying109 (by simpa [prc] using (HI.out w' J).blk.cell 0)) hS ?_|refine al 111 _ rfl rfl (fun w' J=>ca Tryz.underlying111 (by simpa [prc] using (HI.out w' J).blk.cell 2)) hS ?_|refine al 45 _ rfl rfl (fun w' J=>fm (HI.out w' J).blk) hS ?_|refine aw hS fun K I=>?_;refine kd _ rfl rfl ?_;refine I _ _ (hS.alloc _) ?_;clear I K|refine av fun K I=>?_;refine gy _ rfl oJ.out ?_ ?_;(focus (simp [Act.eval];done));refine I _ _ ?_;clear I K|refine av fun K I=>?_|refine ai fun K I=>?_;go_simp;refine I _ _ ?_;clear I K|refine ao fun K I=>?_;go_simp|refine aj ?_)
   go_meet
   case rel =>
    have hn:Chg [] W3 (W3.alloc (.cells (prc dA bP bO p) 113)):=(Chg.refl [] _).alloc _
    refine ⟨_,dA,bP,bO,FA,rfl,ah (Cp0.mk (hS.stay hn) (Blk.new W3 _ _) (hA.stay hn) (hP.stay hn) (hQ.stay hn) (fun k hk=>?_) ?_ ?_ ?_ ?_ fun k hk=>?_)⟩
    ·have:=gA k hk;omega
    ·omega
    ·omega
    ·omega
    ·omega
    ·have:=gA k hk;have:=lA k hk;omega
  ·have z0:=hS.size
   simp only [dt,List.filterMap_cons,List.filterMap_nil,List.getElem?_cons_succ,List.getElem?_cons_zero]
   go_wp2_with (first|refine al 109 _ rfl rfl (fun w' J=>dk Tryz.underlying109 (by simpa [prc] using (HI.out w' J).blk.cell 0)) hS ?_|refine al 111 _ rfl rfl (fun w' J=>ca Tryz.underlying111 (by simpa [prc] using (HI.out w' J).blk.cell 2)) hS ?_|refine al 45 _ rfl rfl (fun w' J=>fm (HI.out w' J).blk) hS ?_|refine av fun K I=>?_|refine ai fun K I=>?_;go_simp;refine I _ _ ?_;clear I K|refine ao fun K I=>?_;go_simp|refine aj ?_)
   (refine aw hS fun K I=>?_)
   go_simp
   have yM:=(HI.out W0 hS).ar
   have pE:=(HI.out W0 hS).sp.len
   refine (Ar.copy_at yM (by omega)).mono ?_
   rintro e W1 ⟨dA,FA,rfl,hA,gA,jH⟩
   have lA:=hA.lt
   clear yM pE
   have z1:=jH.size
   replace hS:Chg [] w W1:=hS.stay jH
   refine I _ _ hS ?_
   clear I K
   clear jH
   go_wp2_with (first|refine al 109 _ rfl rfl (fun w' J=>dk Tryz.underlying109 (by simpa [prc] using (HI.out w' J).blk.cell 0)) hS ?_|refine al 111 _ rfl rfl (fun w' J=>ca Tryz.underlying111 (by simpa [prc] using (HI.out w' J).blk.cell 2)) hS ?_|refine al 45 _ rfl rfl (fun w' J=>fm (HI.out w' J).blk) hS ?_|refine av fun K I=>?_|refine ai fun K I=>?_;go_simp;refine I _ _ ?_;clear I K|refine ao fun K I=>?_;go_simp|refine aj ?_)
   (refine aw hS fun K I=>?_)
   go_simp
   refine (tw (HI.out W1 hS).mo).mono ?_
   rintro e W2 ⟨bO,rfl,hQ,jA,gQ⟩
   have lQ:=hQ.lt
   have z2:=jA.size
   replace hS:Chg [] w W2:=hS.stay jA
   refine I _ _ hS ?_
   clear I K
   replace hA:=hA.stay jA
   clear jA
   go_wp2_with (first|refine al 109 _ rfl rfl (fun w' J=>dk Tryz.underlying109 (by simpa [prc] using (HI.out w' J).blk.cell 0)) hS ?_|refine al 111 _ rfl rfl (fun w' J=>ca Tryz.underlying111 (by simpa [prc] using (HI.out w' J).blk.cell 2)) hS ?_|refine al 45 _ rfl rfl (fun w' J=>fm (HI.out w' J).blk) hS ?_|refine av fun K I=>?_|refine ai fun K I=>?_;go_simp;refine I _ _ ?_;clear I K|refine ao fun K I=>?_;go_simp|refine aj ?_)
   (refine aw hS fun K I=>?_)
   go_simp
   obtain ⟨W3,mC⟩:∃W,W = W2.alloc (.map #[] 0):=⟨_,rfl⟩
   have jD:Chg [] W2 W3:=by rw [mC];exact (Chg.refl [] _).alloc _
   have hP:MapB W3 W2.heap.size .i64 (fun _=>none):=by rw [mC];exact MapB.new _ _
   obtain ⟨bP,nG⟩:∃b,b = W2.heap.size:=⟨_,rfl⟩
   have gP:W2.heap.size≤bP:=Nat.le_of_eq nG.symm
   try rw [← mC]
   rw [← nG] at hP ⊢
   have lP:=hP.lt
   clear mC nG
   have z3:=jD.size
   replace hS:Chg [] w W3:=hS.stay jD
   refine I _ _ hS ?_
   clear I K
   replace hA:=hA.stay jD
   replace hQ:=hQ.stay jD
   clear jD
   have oJ:=ah (bp_of dA bP bO p)
   go_wp2_with (first|refine al 109 _ rfl rfl (fun w' J=>dk Tryz.underlying109 (by simpa [prc] using (HI.out w' J).blk.cell 0)) hS ?_|refine al 111 _ rfl rfl (fun w' J=>ca Tryz.underlying111 (by simpa [prc] using (HI.out w' J).blk.cell 2)) hS ?_|refine al 45 _ rfl rfl (fun w' J=>fm (HI.out w' J).blk) hS ?_|refine aw hS fun K I=>?_;refine kd _ rfl rfl ?_;refine I _ _ (hS.alloc _) ?_;clear I K|refine av fun K I=>?_;refine gy _ rfl oJ.out ?_ ?_;(focus (simp [Act.eval];done));refine I _ _ ?_;clear I K|refine av fun K I=>?_|refine ai fun K I=>?_;go_simp;refine I _ _ ?_;clear I K|refine ao fun K I=>?_;go_simp|refine aj ?_)
   go_meet
   case rel =>
    have hn:Chg [] W3 (W3.alloc (.cells (prc dA bP bO p) 113)):=(Chg.refl [] _).alloc _
    refine ⟨_,dA,bP,bO,FA,rfl,ah (Cp0.mk (hS.stay hn) (Blk.new W3 _ _) (hA.stay hn) (hP.stay hn) (hQ.stay hn) (fun k hk=>?_) ?_ ?_ ?_ ?_ fun k hk=>?_)⟩
    ·have:=gA k hk;omega
    ·omega
    ·omega
    ·omega
    ·omega
    ·have:=gA k hk;have:=lA k hk;omega
 obtain ⟨b,d,bp,bo,FA,rfl,h0⟩:=hcut
 have AK:=ah (HI.out wc h0.out.chg)
 have q1:wc.cell? ⟨b0,1,none⟩ = some (.map (some bp0)):=by simpa [prc] using AK.out.blk.cell 1
 have l1:=h0.out.blk.lt
 go_wp2_with (refine gi rfl _ rfl Tryz.underlying110 rfl AK.out.mp ?_;intro W1 n1 nJ jH pC;go_simp)
 have HC:=ah (Cp0.begin h0.out jH pC (left:=fun z=>(fp z).isSome) (fun z=>by show (fp z).isSome = _;rw [AK.out.hp];cases p.pg z <;> rfl))
 have xP:=ah nJ
 obtain ⟨r,hr⟩:∃r,r = wc.heap.size:=⟨_,rfl⟩
 rw [← hr] at HC xP ⊢
 obtain ⟨S,hS⟩:∃S,S = r+1:=⟨_,rfl⟩
 rw [← hS] at HC
 clear nJ jH pC q1 l1 l0 h0 hr hS AK
 go_loopw [] (fun wr=>∃left gq n,Hid (CpI w wr S b d bp bo r FA p fo left gq)∧Hid (MapIt wr bp0 r .i64 fp left n)) (fun wr=>si wr bp0 r)
 case atStart=>exact ⟨_,_,_,HC,xP⟩
 case round =>
  obtain ⟨left,gq,n,kO,nJ⟩:=hrel
  have mV:=nJ.out.left_eq
  have HP:=ah (HI.out wr kO.out.chg)
  go_wp2_with (refine ie rfl _ rfl rfl nJ.out ?_ ?_)
  ·intro h1 h2
   have HE:=ah (kO.out.end_ HP.out h2)
   have pQ:=ah kO.out.chg
   have lb:=kO.out.blk.lt
   clear kO nJ mV HP
   go_wp2_with fail
   go_ret
   obtain ⟨F,k1,k2⟩:=HE.out
   exact ⟨⟨_,F,rfl,k1,k2⟩,pQ.out⟩
  ·intro z v w' n' h1 h2 h3 h4 h5 h6 h7
   obtain ⟨B,hB,rfl⟩:∃B,p.pg z = some B∧v = .pointer (some ⟨gp z,0,none⟩):=by
    rw [HP.out.hp] at h2
    cases hB:p.pg z with
    | none=>rw [hB] at h2;cases h2
    | some B=>rw [hB] at h2;exact ⟨B,rfl,(Option.some.inj h2).symm⟩
   have lD:=ah (kO.out.next h5)
   have qO:=ah ((HI.out w' lD.out.chg).pg z B hB)
   have HB:=ah hB
   have HZ:=ah h1
   have qZ:=ah h3
   have q1:w'.cell? ⟨b,1,none⟩ = some (.map (some bp)):=by simpa [prc] using lD.out.blk.cell 1
   have l1:=lD.out.blk.lt
   have lg:=qO.out.blk.lt
   have jF:=h4
   clear kO nJ HP hB h1 h2 h3 h4 h5 h6
   go_wp2_with (first|refine sb rfl _ rfl rfl qO.out ?_|refine iu rfl rfl ?_;go_simp|refine md rfl _ _ rfl rfl rfl qO.out.len qO.out.b8 (PgB.new w') ?_;intro W2 oU jA;have q2:W2.cell? ⟨b,1,none⟩ = some (.map (some bp)):=(Blk.chg ((lD.out.blk).alloc _) jA (by simp;omega)).cell 1|refine sc rfl _ _ _ rfl Tryz.underlying110 Tryz.underlying3 rfl rfl rfl (MapB.chg (lD.out.mp.stay ((Chg.refl [] w').alloc _)) jA (by have:=lD.out.mp.lt;simp;omega)) ?_;intro W3 zD jD)
   have lbp:=lD.out.mp.lt
   have lb0:=(HI.out w (Chg.refl _ _)).mp.lt
   have gbp:=lD.out.gp
   have wJ:Chg [] w' W2:=((Chg.refl [] w').alloc _).trans jA (fun x hx=>.inr (by obtain rfl:=aa hx;exact Nat.le_refl _))
   have BK:Chg [bp] w' W3:=(wJ.up [bp]).trans jD (fun x hx=>.inl hx)
   have vG:=ah (lD.out.step (W1:=W3) (g:=w'.heap.size) HZ.out HB.out BK (Nat.le_refl _) ⟨oU.blk.chg jD (by simp;omega),oU.len,oU.b8⟩ zD)
   have rR:=ah (qZ.out.chg BK (by simp;omega) (by simpa using lD.out.nr.2.1))
   go_roundw
   case rel =>
    (repeat apply Exists.intro)
    refine ⟨⟨_,_,_,vG,rR⟩,rfl⟩
   case measure=>rw [mV,rR.out.left_eq];exact jF
def zB (k:Nat) (l:List Nat):Cl:={ zCl with k:=k,l:=l }
def ofK (k:Nat) (L l:List Nat):Cl :=
 match k,L with
 | 2,[p]=>{ zB 2 l with p:=bu p }
 | 3,[p,g,c,r]=>{ zB 3 l with p:=bu p,g:=bu g,c:=bu c,r:=r % 256 }
 | 5,[p,g,c,r]=>{ zB 5 l with p:=bu p,g:=bu g,c:=bu c,r:=r % 256 }
 | 4,[p,g,c]=>{ zB 4 l with p:=bu p,g:=bu g,c:=bu c }
 | 6,[p,g,c]=>{ zB 6 l with p:=bu p,g:=bu g,c:=bu c }
 | 7,[p,g,c]=>{ zB 7 l with p:=bu p,g:=bu g,c:=bu c }
 | 8,[p,a,s]=>{ zB 8 l with p:=bu p,a:=bu a,s:=bu s }
 | 9,[p,a]=>{ zB 9 l with p:=bu p,a:=bu a }
 | 10,[s]=>{ zB 10 l with s:=bu s }
 | 11,[h]=>{ zB 11 l with h:=h }
 | 12,[h,a,s]=>{ zB 12 l with h:=h,a:=bu a,s:=bu s }
 | 13,[h,a]=>{ zB 13 l with h:=h,a:=bu a }
 | 14,[p,ok,om]=>{ zB 14 l with p:=bu p,ok:=ok % 256,om:=om % 256 }
 | 15,[p,g,c,ok,om]=>{ zB 15 l with p:=bu p,g:=bu g,c:=bu c,ok:=ok % 256,om:=om % 256 }
 | 16,[p,g]=>{ zB 16 l with p:=bu p,g:=bu g }
 | 17,[p,g]=>{ zB 17 l with p:=bu p,g:=bu g }
 | 18,[p,g,c,n]=>{ zB 18 l with p:=bu p,g:=bu g,c:=bu c,n:=bu n }
 | 19,[n]=>{ zB 19 l with n:=bu n }
 | 20,[n]=>{ zB 20 l with n:=bu n }
 | k,_=>zB k l
def mayR (x:Cl):Bool:=isK x.k && decide (x.l.length≤8) && (mg x.k || decide (x.l.length = 0)) && cz (ofK x.k (tj x) x.l) x
theorem ofK_bare {x:Cl} (hx:x.Ok) (hb:mg x.k = true∨x.l = []):ofK x.k (tj x) x.l = jj x:=by
 have h1:=yw hx.p.1 hx.p.2
 have h2:=yw hx.n.1 hx.n.2
 have h3:=yw hx.g.1 hx.g.2
 have h4:=yw hx.c.1 hx.c.2
 have h5:=yw hx.a.1 hx.a.2
 have h6:=yw hx.s.1 hx.s.2
 have h7:x.r % 256 = x.r:=Nat.mod_eq_of_lt hx.r
 have h8:x.ok % 256 = x.ok:=Nat.mod_eq_of_lt hx.ok
 have h9:x.om % 256 = x.om:=Nat.mod_eq_of_lt hx.om
 obtain ⟨k,p,n,g,c,a,s,r,ok,om,h,l⟩:=x
 simp only at h1 h2 h3 h4 h5 h6 h7 h8 h9 hb
 unfold tj jj ge
 simp only
 by_cases hk:k < 22
 ·rcases (by omega:k = 0∨k = 1∨k = 2∨k = 3∨k = 4∨k = 5∨k = 6∨k = 7∨k = 8∨k = 9∨k = 10∨k = 11∨k = 12∨k = 13∨k = 14∨k = 15∨k = 16∨k = 17∨k = 18∨k = 19∨k = 20∨k = 21) with rfl | rfl | rfl | rfl | rfl | rfl | rfl | rfl | rfl | rfl | rfl | rfl | rfl | rfl | rfl | rfl | rfl | rfl | rfl | rfl | rfl | rfl
  all_goals
   simp [mg,fld] at hb
   try subst hb
   simp [fld,wl,jv,ofK,zB,zCl,h1,h2,h3,h4,h5,h6,h7,h8,h9]
 ·obtain ⟨j,rfl⟩:∃j,k = j+22:=⟨k - 22,by omega⟩
  have e1:fld (j+22) = []:=rfl
  simp [mg,e1] at hb
  subst hb
  rw [e1]
  rfl
theorem bare_l (x:Cl) (h:mg x.k = false):(jj x).l = []:=by
 unfold jj ge mg at *
 have:∀(F:List Nat) (y:Cl),F.contains 98 = false→y.l = []→(F.foldl (jv x) y).l = []:=by
  intro F
  induction F with
  | nil=>intro y _ h;exact h
  | cons f F ih =>
   intro y hF hy
   simp only [List.contains_cons,Bool.or_eq_false_iff,beq_eq_false_iff_ne] at hF
   refine ih _ hF.2 ?_
   rw [eQ,if_neg (fun e=>hF.1 e.symm)]
   exact hy
 exact this _ _ h rfl
theorem eO (x y:Cl):cz x y = cz y x:=by
 cases h:cz x y with
 | true=>obtain rfl:=(nu _ _).1 h;exact h.symm
 | false =>
  cases h2:cz y x with
  | true=>obtain rfl:=(nu _ _).1 h2;rw [h] at h2;cases h2
  | false=>rfl
theorem fV {x:Cl} (hx:x.Ok):mayR x = lc x:=by
 unfold mayR lc
 show (isK x.k && _ && _ && _) = (isK x.k && _ && _)
 by_cases hb:mg x.k = true∨x.l = []
 ·rw [ofK_bare hx hb,eO]
  have e:(mg x.k || decide (x.l.length = 0)) = true:=by
   rcases hb with h | h
   ·rw [h];rfl
   ·rw [h];simp
  rw [e,Bool.and_true]
  cases isK x.k <;> cases cz x (jj x) <;> simp
 ·have hn:¬ mg x.k = true:=fun h=>hb (.inl h)
  have qT:mg x.k = false:=by simpa using hn
  have hl:x.l≠[]:=fun h=>hb (.inr h)
  have e1:decide (x.l.length = 0) = false:=ac (by intro e;exact hl (List.eq_nil_of_length_eq_zero e))
  have e2:cz x (jj x) = false:=by
   cases h:cz x (jj x) with
   | false=>rfl
   | true=>exact absurd (((nu _ _).1 h ▸ bare_l x qT:x.l = [])) hl
  rw [qT,e1,e2]
  simp
def cntK (k:Nat):Nat:=(tj (zB k [])).length
theorem iH (x y:Cl) (f:Nat):(wl x f).length = (wl y f).length:=by
 unfold wl
 repeat' split
 all_goals rfl
theorem cB (x:Cl):(tj x).length = cntK x.k:=by
 unfold cntK tj
 show _ = ((fld x.k).flatMap (wl (zB x.k []))).length
 induction fld x.k with
 | nil=>rfl
 | cons f F ih=>rw [List.flatMap_cons,List.flatMap_cons,List.length_append,List.length_append,ih,iH x (zB x.k []) f]
theorem gF {x:Cl} (hx:x.Ok):∀n∈tj x,n < 18446744073709551616:=by
 intro n hn
 unfold tj at hn
 obtain ⟨f,_,hf⟩:=List.mem_flatMap.1 hn
 have hp:=rs x.p
 have hg:=rs x.g
 have hc:=rs x.c
 have hn:=rs x.n
 have ha:=rs x.a
 have hs:=rs x.s
 have hr:=hx.r
 have nS:=hx.ok
 have hom:=hx.om
 have hh:=hx.h
 unfold wl at hf
 repeat' split at hf
 all_goals simp only [List.mem_cons,ab,or_false] at hf
 all_goals first | omega|(rcases hf with rfl | rfl <;> omega)
def pgB (x:Cl):Bool:=decide ((0≤x.g∧x.g < 1024)∧(1≤x.c∧x.c≤1024)∧x.g+x.c≤1024)
def ns (x:Cl):Int:=if x.k = 9∨x.k = 13 then (x.l.length:Int) else x.s
def fewB (x:Cl):Bool:=decide (ns x < 1∨8 < ns x)
def ndB (c:Cf) (x:Cl):Bool:=decide (x.n < 0∨c 0≤x.n)
def r8B (x:Cl):Bool:=fewB x || decide (x.a < 0∨262144≤x.a∨x.a / 256≠(x.a+ns x - 1) / 256)
def r12B (x:Cl):Bool:=fewB x || decide (x.a < 0∨128 < x.a∨128 < x.a+ns x)
noncomputable def rwK (c:Cf) (x:Cl):Bool :=
 match x.k with
 | 3 | 5=>!pgB x || decide (x.r < 1∨3 < x.r)
 | 4 | 6 | 7=>!pgB x
 | 8 | 9=>r8B x
 | 10=>decide (x.s < 1∨128 < x.s)
 | 12 | 13=>r12B x
 | 14=>!tf c x.ok x.om
 | 15=>!pgB x || !tf c x.ok x.om
 | 16 | 17=>decide (x.g < 0∨1023 < x.g)
 | 18=>!pgB x || ndB c x
 | 19 | 20=>ndB c x
 | _=>false
noncomputable def dg (c:Cf) (x:Cl):Bool:=!mayB c || !mayR x || rwK c x
theorem isK_lt {k:Nat} (h:isK k = true):1≤k∧k < 22:=by
 unfold isK at h
 by_cases hk:k < 22
 ·refine ⟨?_,hk⟩
  rcases Nat.eq_zero_or_pos k with rfl | h2
  ·cases h
  ·exact h2
 ·rw [ri (by omega)] at h;cases h
theorem bT {x:Cl} (h:lc x = true):isK x.k = true:=by
 have:=(dV h).1
 unfold isK
 simpa using this
theorem dG (c:Cf) {x:Cl} (hx:x.Ok):ci c x = dg c x:=by
 unfold ci dg
 rw [fV hx]
 cases hc:mayB c with
 | false=>rfl
 | true =>
  cases hm:lc x with
  | false=>simp
  | true =>
   simp only [Bool.not_true,Bool.false_or]
   have hk:=isK_lt (bT hm)
   have hr:=hx.r
   clear hm hx
   obtain ⟨k,p,n,g,c',a,s,r,ok,om,h,l⟩:=x
   simp only at hk hr
   rcases (by omega:k = 1∨k = 2∨k = 3∨k = 4∨k = 5∨k = 6∨k = 7∨k = 8∨k = 9∨k = 10∨k = 11∨k = 12∨k = 13∨k = 14∨k = 15∨k = 16∨k = 17∨k = 18∨k = 19∨k = 20∨k = 21) with rfl | rfl | rfl | rfl | rfl | rfl | rfl | rfl | rfl | rfl | rfl | rfl | rfl | rfl | rfl | rfl | rfl | rfl | rfl | rfl | rfl
   all_goals
    simp only [t1K,t2K,t3K,t4K,t5K,t6K,t7K,t8K,hasB,jk,accB,fld,rwK,pgB,ns,fewB,ndB,r8B,r12B,List.contains_cons,List.contains_nil,Bool.and_true,Bool.true_and,Bool.false_and,Bool.and_false,Bool.or_false,Bool.false_or,Bool.or_true,Nat.reduceBEq,Nat.reduceEqDiff,if_true,if_false,or_self,or_false,or_true,Bool.false_eq_true,beq_self_eq_true]
    try rw [Bool.eq_iff_iff]
    try simp only [Bool.or_eq_true,Bool.not_eq_true',Bool.and_eq_false_iff,decide_eq_true_eq,decide_eq_false_iff_not]
    try omega
   ·by_cases ha:0≤a
    ·rw [Int.tmod_eq_emod_of_nonneg ha];omega
    ·generalize a.tmod 256 = z;omega
   ·by_cases ha:0≤a
    ·rw [Int.tmod_eq_emod_of_nonneg ha];omega
    ·generalize a.tmod 256 = z;omega
   ·generalize tf c ok om = z
    cases z <;> simp <;> omega
end Go.Proofs.YtfoleblcaloeoaaGreatDoor
