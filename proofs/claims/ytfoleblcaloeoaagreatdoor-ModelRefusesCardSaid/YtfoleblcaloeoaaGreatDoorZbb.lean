/- Texts merged for the claim. -/
import Derived.Test.YtfoleblcaloeoaaGreatDoorZah
set_option maxHeartbeats 40000000
set_option maxRecDepth 20000
namespace Go.Proofs.YtfoleblcaloeoaaGreatDoor
open Go Go.RowKit
abbrev SW (w:World) (v:Value) (L:List Nat):Prop:=SE wcl 1 37 w v L
def tj (x:Cl):List Nat:=(fld x.k).flatMap (wl x)
def mg (k:Nat):Bool:=(fld k).contains 98
def isK (k:Nat):Bool:=fld k != []
theorem gn (w:World) (L:List Nat) (hl:L.length≤100):SW (w.alloc (.cells (fc wcl L).toArray 37)) (.slice (some ⟨w.heap.size,0,none⟩) L.length L.length) L:=by
 have h:=Sl.made w 37 1 (fc wcl L).toArray L.length L.length (Nat.le_refl _) (by unfold maxLen;omega) (by rw [List.size_toArray,ef rq];exact Nat.le_refl _)
 unfold SW SE
 rw [Nat.mul_one,List.take_of_length_le (by rw [ef rq];omega)] at h
 exact h
def ListR (w w':World) (x:Cl) (e:Ending):Prop:=∃A n c,e = .returned (.tuple #[.slice A n c,.bool (mg x.k),.bool (isK x.k)])∧SW w' (.slice A n c) (tj x)∧∀k∈own (.slice A n c),w.heap.size≤k
theorem List_any {w:World} {x:Cl} (hx:x.Ok) (A0:Option Addr) (n0 c0:Nat) :
  Calls Tryz.prog 102 #[.agg (clc x (.slice A0 n0 c0))] w fun e w'=>ListR w w' x e∧Chg [] w w':=by
 obtain ⟨W2,jB⟩:∃W2,W2 = w.alloc (.cells (clc x (.slice A0 n0 c0)) 47):=⟨_,rfl⟩
 have kF:KB W2 w.heap.size x (.slice A0 n0 c0):=by rw [jB];exact Blk.new w 47 _
 have jH:Chg [] w W2:=by rw [jB];exact (Chg.refl [] w).alloc _
 have oH:W2.heap.size = w.heap.size+1:=by rw [jB];simp
 obtain ⟨c1,c2,c3,c4,c5,c6,c7,c8,c9,c10,c11,c12,cl,cf⟩:=KB.cells kF
 have HC:=ah jH
 have jP:=ah jB
 have rB:=ah oH
 have w1:=js x.p
 have w2:=js x.g
 have w3:=js x.c
 have w4:=js x.n
 have w5:=js x.a
 have w6:=js x.s
 have w7:IntKind.u64.wrap (x.r:Int) = (x.r:Int):=by rw [IntKind.wrap_u64];have:=hx.r;omega
 have w8:IntKind.u64.wrap (x.ok:Int) = (x.ok:Int):=by rw [IntKind.wrap_u64];have:=hx.ok;omega
 have w9:IntKind.u64.wrap (x.om:Int) = (x.om:Int):=by rw [IntKind.wrap_u64];have:=hx.om;omega
 clear kF jH jB oH hx cf
 obtain ⟨k,p,n,g,c,a,s,r,ok,om,h,l⟩:=x
 simp only at c1 c2 c3 c4 c5 c6 c7 c8 c9 c10 c11 c12 w1 w2 w3 w4 w5 w6 w7 w8 w9 jP
 unfold ListR
 rcases (by omega:k = 0∨k = 1∨k = 2∨k = 3∨k = 4∨k = 5∨k = 6∨k = 7∨k = 8∨k = 9∨k = 10∨k = 11∨k = 12∨k = 13∨k = 14∨k = 15∨k = 16∨k = 17∨k = 18∨k = 19∨k = 20∨k = 21∨22≤k) with rfl | rfl | rfl | rfl | rfl | rfl | rfl | rfl | rfl | rfl | rfl | rfl | rfl | rfl | rfl | rfl | rfl | rfl | rfl | rfl | rfl | rfl | hk
 ·go_enter Tryz.func102,Tryz.ntmps102
  go_wp2_with (first|refine ax rfl _ rfl rfl ?_;try rw [← jP.out])
  refine dq [0,1,0,0,1,0,0,1,0,0,0,0] ?_
  go_wp2_with (first|refine av fun K I=>?_|refine ai fun K I=>?_;go_simp;refine I _ _ ?_;clear I K|refine ao fun K I=>?_;go_simp|refine aj ?_)
  refine dq [0,1,0,0,1,0,0,1,0,0,0,0] ?_
  go_wp2_with (first|refine av fun K I=>?_|refine ai fun K I=>?_;go_simp;refine I _ _ ?_;clear I K|refine ao fun K I=>?_;go_simp|refine aj ?_)
  refine im [0,0,1,0,0,0,1,0,0,0] ?_
  go_wp2_with (first|refine av fun K I=>?_|refine ai fun K I=>?_;go_simp;refine I _ _ ?_;clear I K|refine ao fun K I=>?_;go_simp|refine aj ?_)
  refine bodyPost_ret (v:=.tuple #[.slice none 0 0,.bool false,.bool false]) (by simp [results,Tryz.results102]) rfl ⟨⟨_,_,_,rfl,SE.nil _ _ _ _,fun _ h=>(bw h).elim⟩,HC.out.drew.drew.drew⟩
 ·go_enter Tryz.func102,Tryz.ntmps102
  go_wp2_with (first|refine ax rfl _ rfl rfl ?_;try rw [← jP.out])
  refine dq [0,1,0,0,1,0,0,1,0,0,0,0] ?_
  go_wp2_with (first|refine av fun K I=>?_|refine ai fun K I=>?_;go_simp;refine I _ _ ?_;clear I K|refine ao fun K I=>?_;go_simp|refine aj ?_)
  refine dq [0,1,0,0,1,0,0,1,0,0,0,0] ?_
  go_wp2_with (first|refine av fun K I=>?_|refine ai fun K I=>?_;go_simp;refine I _ _ ?_;clear I K|refine ao fun K I=>?_;go_simp|refine aj ?_)
  refine im [0,0,1,0,0,0,1,0,0,0] ?_
  go_wp2_with (first|refine av fun K I=>?_|refine ai fun K I=>?_;go_simp;refine I _ _ ?_;clear I K|refine ao fun K I=>?_;go_simp|refine aj ?_)
  refine bodyPost_ret (v:=.tuple #[.slice none 0 0,.bool false,.bool true]) (by simp [results,Tryz.results102]) rfl ⟨⟨_,_,_,rfl,SE.nil _ _ _ _,fun _ h=>(bw h).elim⟩,HC.out.drew.drew.drew⟩
 ·go_enter Tryz.func102,Tryz.ntmps102
  go_wp2_with (first|refine ax rfl _ rfl rfl ?_;try rw [← jP.out])
  refine dq [0,1,0,0,1,0,0,1,0,0,0,0] ?_
  go_wp2_with (first|refine av fun K I=>?_|refine ai fun K I=>?_;go_simp;refine I _ _ ?_;clear I K|refine ao fun K I=>?_;go_simp|refine aj ?_)
  refine dq [0,1,0,0,1,0,0,1,0,0,0,0] ?_
  go_wp2_with (first|refine av fun K I=>?_|refine ai fun K I=>?_;go_simp;refine I _ _ ?_;clear I K|refine ao fun K I=>?_;go_simp|refine aj ?_)
  refine im [0,0,1,0,0,0,1,0,0,0] ?_
  go_wp2_with (first|refine av fun K I=>?_|refine ai fun K I=>?_;go_simp;refine I _ _ ?_;clear I K|refine ao fun K I=>?_;go_simp|refine aj ?_)
  refine bodyPost_ret (v:=.tuple #[.slice (some ⟨W2.heap.size,0,none⟩) 1 1,.bool false,.bool true]) (by simp [results,Tryz.results102]) rfl ⟨⟨_,_,_,rfl,gn W2.drew.drew.drew [eu p] (by simp),fun k hk=>?_⟩,HC.out.drew.drew.drew.alloc _⟩
  simp [own,Value.ownBlock] at hk
  have:=rB.out
  omega
 ·go_enter Tryz.func102,Tryz.ntmps102
  go_wp2_with (first|refine ax rfl _ rfl rfl ?_;try rw [← jP.out])
  refine dq [0,1,0,0,1,0,0,1,0,0,0,0] ?_
  go_wp2_with (first|refine av fun K I=>?_|refine ai fun K I=>?_;go_simp;refine I _ _ ?_;clear I K|refine ao fun K I=>?_;go_simp|refine aj ?_)
  refine dq [0,1,0,0,1,0,0,1,0,0,0,0] ?_
  go_wp2_with (first|refine av fun K I=>?_|refine ai fun K I=>?_;go_simp;refine I _ _ ?_;clear I K|refine ao fun K I=>?_;go_simp|refine aj ?_)
  refine im [0,0,1,0,0,0,1,0,0,0] ?_
  go_wp2_with (first|refine av fun K I=>?_|refine ai fun K I=>?_;go_simp;refine I _ _ ?_;clear I K|refine ao fun K I=>?_;go_simp|refine aj ?_)
  refine bodyPost_ret (v:=.tuple #[.slice (some ⟨W2.heap.size,0,none⟩) 4 4,.bool false,.bool true]) (by simp [results,Tryz.results102]) rfl ⟨⟨_,_,_,rfl,gn W2.drew.drew.drew [eu p,eu g,eu c,r] (by simp),fun k hk=>?_⟩,HC.out.drew.drew.drew.alloc _⟩
  simp [own,Value.ownBlock] at hk
  have:=rB.out
  omega
 ·go_enter Tryz.func102,Tryz.ntmps102
  go_wp2_with (first|refine ax rfl _ rfl rfl ?_;try rw [← jP.out])
  refine dq [0,1,0,0,1,0,0,1,0,0,0,0] ?_
  go_wp2_with (first|refine av fun K I=>?_|refine ai fun K I=>?_;go_simp;refine I _ _ ?_;clear I K|refine ao fun K I=>?_;go_simp|refine aj ?_)
  refine dq [0,1,0,0,1,0,0,1,0,0,0,0] ?_
  go_wp2_with (first|refine av fun K I=>?_|refine ai fun K I=>?_;go_simp;refine I _ _ ?_;clear I K|refine ao fun K I=>?_;go_simp|refine aj ?_)
  refine im [0,0,1,0,0,0,1,0,0,0] ?_
  go_wp2_with (first|refine av fun K I=>?_|refine ai fun K I=>?_;go_simp;refine I _ _ ?_;clear I K|refine ao fun K I=>?_;go_simp|refine aj ?_)
  refine bodyPost_ret (v:=.tuple #[.slice (some ⟨W2.heap.size,0,none⟩) 3 3,.bool false,.bool true]) (by simp [results,Tryz.results102]) rfl ⟨⟨_,_,_,rfl,gn W2.drew.drew.drew [eu p,eu g,eu c] (by simp),fun k hk=>?_⟩,HC.out.drew.drew.drew.alloc _⟩
  simp [own,Value.ownBlock] at hk
  have:=rB.out
  omega
 ·go_enter Tryz.func102,Tryz.ntmps102
  go_wp2_with (first|refine ax rfl _ rfl rfl ?_;try rw [← jP.out])
  refine dq [0,1,0,0,1,0,0,1,0,0,0,0] ?_
  go_wp2_with (first|refine av fun K I=>?_|refine ai fun K I=>?_;go_simp;refine I _ _ ?_;clear I K|refine ao fun K I=>?_;go_simp|refine aj ?_)
  refine dq [0,1,0,0,1,0,0,1,0,0,0,0] ?_
  go_wp2_with (first|refine av fun K I=>?_|refine ai fun K I=>?_;go_simp;refine I _ _ ?_;clear I K|refine ao fun K I=>?_;go_simp|refine aj ?_)
  refine im [0,0,1,0,0,0,1,0,0,0] ?_
  go_wp2_with (first|refine av fun K I=>?_|refine ai fun K I=>?_;go_simp;refine I _ _ ?_;clear I K|refine ao fun K I=>?_;go_simp|refine aj ?_)
  refine bodyPost_ret (v:=.tuple #[.slice (some ⟨W2.heap.size,0,none⟩) 4 4,.bool false,.bool true]) (by simp [results,Tryz.results102]) rfl ⟨⟨_,_,_,rfl,gn W2.drew.drew.drew [eu p,eu g,eu c,r] (by simp),fun k hk=>?_⟩,HC.out.drew.drew.drew.alloc _⟩
  simp [own,Value.ownBlock] at hk
  have:=rB.out
  omega
 ·go_enter Tryz.func102,Tryz.ntmps102
  go_wp2_with (first|refine ax rfl _ rfl rfl ?_;try rw [← jP.out])
  refine dq [0,1,0,0,1,0,0,1,0,0,0,0] ?_
  go_wp2_with (first|refine av fun K I=>?_|refine ai fun K I=>?_;go_simp;refine I _ _ ?_;clear I K|refine ao fun K I=>?_;go_simp|refine aj ?_)
  refine dq [0,1,0,0,1,0,0,1,0,0,0,0] ?_
  go_wp2_with (first|refine av fun K I=>?_|refine ai fun K I=>?_;go_simp;refine I _ _ ?_;clear I K|refine ao fun K I=>?_;go_simp|refine aj ?_)
  refine im [0,0,1,0,0,0,1,0,0,0] ?_
  go_wp2_with (first|refine av fun K I=>?_|refine ai fun K I=>?_;go_simp;refine I _ _ ?_;clear I K|refine ao fun K I=>?_;go_simp|refine aj ?_)
  refine bodyPost_ret (v:=.tuple #[.slice (some ⟨W2.heap.size,0,none⟩) 3 3,.bool false,.bool true]) (by simp [results,Tryz.results102]) rfl ⟨⟨_,_,_,rfl,gn W2.drew.drew.drew [eu p,eu g,eu c] (by simp),fun k hk=>?_⟩,HC.out.drew.drew.drew.alloc _⟩
  simp [own,Value.ownBlock] at hk
  have:=rB.out
  omega
 ·go_enter Tryz.func102,Tryz.ntmps102
  go_wp2_with (first|refine ax rfl _ rfl rfl ?_;try rw [← jP.out])
  refine dq [0,1,0,0,1,0,0,1,0,0,0,0] ?_
  go_wp2_with (first|refine av fun K I=>?_|refine ai fun K I=>?_;go_simp;refine I _ _ ?_;clear I K|refine ao fun K I=>?_;go_simp|refine aj ?_)
  refine dq [0,1,0,0,1,0,0,1,0,0,0,0] ?_
  go_wp2_with (first|refine av fun K I=>?_|refine ai fun K I=>?_;go_simp;refine I _ _ ?_;clear I K|refine ao fun K I=>?_;go_simp|refine aj ?_)
  refine im [0,0,1,0,0,0,1,0,0,0] ?_
  go_wp2_with (first|refine av fun K I=>?_|refine ai fun K I=>?_;go_simp;refine I _ _ ?_;clear I K|refine ao fun K I=>?_;go_simp|refine aj ?_)
  refine bodyPost_ret (v:=.tuple #[.slice (some ⟨W2.heap.size,0,none⟩) 3 3,.bool false,.bool true]) (by simp [results,Tryz.results102]) rfl ⟨⟨_,_,_,rfl,gn W2.drew.drew.drew [eu p,eu g,eu c] (by simp),fun k hk=>?_⟩,HC.out.drew.drew.drew.alloc _⟩
  simp [own,Value.ownBlock] at hk
  have:=rB.out
  omega
 ·go_enter Tryz.func102,Tryz.ntmps102
  go_wp2_with (first|refine ax rfl _ rfl rfl ?_;try rw [← jP.out])
  refine dq [0,1,0,0,1,0,0,1,0,0,0,0] ?_
  go_wp2_with (first|refine av fun K I=>?_|refine ai fun K I=>?_;go_simp;refine I _ _ ?_;clear I K|refine ao fun K I=>?_;go_simp|refine aj ?_)
  refine dq [0,1,0,0,1,0,0,1,0,0,0,0] ?_
  go_wp2_with (first|refine av fun K I=>?_|refine ai fun K I=>?_;go_simp;refine I _ _ ?_;clear I K|refine ao fun K I=>?_;go_simp|refine aj ?_)
  refine im [0,0,1,0,0,0,1,0,0,0] ?_
  go_wp2_with (first|refine av fun K I=>?_|refine ai fun K I=>?_;go_simp;refine I _ _ ?_;clear I K|refine ao fun K I=>?_;go_simp|refine aj ?_)
  refine bodyPost_ret (v:=.tuple #[.slice (some ⟨W2.heap.size,0,none⟩) 3 3,.bool false,.bool true]) (by simp [results,Tryz.results102]) rfl ⟨⟨_,_,_,rfl,gn W2.drew.drew.drew [eu p,eu a,eu s] (by simp),fun k hk=>?_⟩,HC.out.drew.drew.drew.alloc _⟩
  simp [own,Value.ownBlock] at hk
  have:=rB.out
  omega
 ·go_enter Tryz.func102,Tryz.ntmps102
  go_wp2_with (first|refine ax rfl _ rfl rfl ?_;try rw [← jP.out])
  refine dq [0,1,0,0,1,0,0,1,0,0,0,0] ?_
  go_wp2_with (first|refine av fun K I=>?_|refine ai fun K I=>?_;go_simp;refine I _ _ ?_;clear I K|refine ao fun K I=>?_;go_simp|refine aj ?_)
  refine dq [0,1,0,0,1,0,0,1,0,0,0,0] ?_
  go_wp2_with (first|refine av fun K I=>?_|refine ai fun K I=>?_;go_simp;refine I _ _ ?_;clear I K|refine ao fun K I=>?_;go_simp|refine aj ?_)
  refine im [0,0,1,0,0,0,1,0,0,0] ?_
  go_wp2_with (first|refine av fun K I=>?_|refine ai fun K I=>?_;go_simp;refine I _ _ ?_;clear I K|refine ao fun K I=>?_;go_simp|refine aj ?_)
  refine bodyPost_ret (v:=.tuple #[.slice (some ⟨W2.heap.size,0,none⟩) 2 2,.bool true,.bool true]) (by simp [results,Tryz.results102]) rfl ⟨⟨_,_,_,rfl,gn W2.drew.drew.drew [eu p,eu a] (by simp),fun k hk=>?_⟩,HC.out.drew.drew.drew.alloc _⟩
  simp [own,Value.ownBlock] at hk
  have:=rB.out
  omega
 ·go_enter Tryz.func102,Tryz.ntmps102
  go_wp2_with (first|refine ax rfl _ rfl rfl ?_;try rw [← jP.out])
  refine dq [0,1,0,0,1,0,0,1,0,0,0,0] ?_
  go_wp2_with (first|refine av fun K I=>?_|refine ai fun K I=>?_;go_simp;refine I _ _ ?_;clear I K|refine ao fun K I=>?_;go_simp|refine aj ?_)
  refine dq [0,1,0,0,1,0,0,1,0,0,0,0] ?_
  go_wp2_with (first|refine av fun K I=>?_|refine ai fun K I=>?_;go_simp;refine I _ _ ?_;clear I K|refine ao fun K I=>?_;go_simp|refine aj ?_)
  refine im [0,0,1,0,0,0,1,0,0,0] ?_
  go_wp2_with (first|refine av fun K I=>?_|refine ai fun K I=>?_;go_simp;refine I _ _ ?_;clear I K|refine ao fun K I=>?_;go_simp|refine aj ?_)
  refine bodyPost_ret (v:=.tuple #[.slice (some ⟨W2.heap.size,0,none⟩) 1 1,.bool false,.bool true]) (by simp [results,Tryz.results102]) rfl ⟨⟨_,_,_,rfl,gn W2.drew.drew.drew [eu s] (by simp),fun k hk=>?_⟩,HC.out.drew.drew.drew.alloc _⟩
  simp [own,Value.ownBlock] at hk
  have:=rB.out
  omega
 ·go_enter Tryz.func102,Tryz.ntmps102
  go_wp2_with (first|refine ax rfl _ rfl rfl ?_;try rw [← jP.out])
  refine dq [0,1,0,0,1,0,0,1,0,0,0,0] ?_
  go_wp2_with (first|refine av fun K I=>?_|refine ai fun K I=>?_;go_simp;refine I _ _ ?_;clear I K|refine ao fun K I=>?_;go_simp|refine aj ?_)
  refine dq [0,1,0,0,1,0,0,1,0,0,0,0] ?_
  go_wp2_with (first|refine av fun K I=>?_|refine ai fun K I=>?_;go_simp;refine I _ _ ?_;clear I K|refine ao fun K I=>?_;go_simp|refine aj ?_)
  refine im [0,0,1,0,0,0,1,0,0,0] ?_
  go_wp2_with (first|refine av fun K I=>?_|refine ai fun K I=>?_;go_simp;refine I _ _ ?_;clear I K|refine ao fun K I=>?_;go_simp|refine aj ?_)
  refine bodyPost_ret (v:=.tuple #[.slice (some ⟨W2.heap.size,0,none⟩) 1 1,.bool false,.bool true]) (by simp [results,Tryz.results102]) rfl ⟨⟨_,_,_,rfl,gn W2.drew.drew.drew [h] (by simp),fun k hk=>?_⟩,HC.out.drew.drew.drew.alloc _⟩
  simp [own,Value.ownBlock] at hk
  have:=rB.out
  omega
 ·go_enter Tryz.func102,Tryz.ntmps102
  go_wp2_with (first|refine ax rfl _ rfl rfl ?_;try rw [← jP.out])
  refine dq [0,1,0,0,1,0,0,1,0,0,0,0] ?_
  go_wp2_with (first|refine av fun K I=>?_|refine ai fun K I=>?_;go_simp;refine I _ _ ?_;clear I K|refine ao fun K I=>?_;go_simp|refine aj ?_)
  refine dq [0,1,0,0,1,0,0,1,0,0,0,0] ?_
  go_wp2_with (first|refine av fun K I=>?_|refine ai fun K I=>?_;go_simp;refine I _ _ ?_;clear I K|refine ao fun K I=>?_;go_simp|refine aj ?_)
  refine im [0,0,1,0,0,0,1,0,0,0] ?_
  go_wp2_with (first|refine av fun K I=>?_|refine ai fun K I=>?_;go_simp;refine I _ _ ?_;clear I K|refine ao fun K I=>?_;go_simp|refine aj ?_)
  refine bodyPost_ret (v:=.tuple #[.slice (some ⟨W2.heap.size,0,none⟩) 3 3,.bool false,.bool true]) (by simp [results,Tryz.results102]) rfl ⟨⟨_,_,_,rfl,gn W2.drew.drew.drew [h,eu a,eu s] (by simp),fun k hk=>?_⟩,HC.out.drew.drew.drew.alloc _⟩
  simp [own,Value.ownBlock] at hk
  have:=rB.out
  omega
 ·go_enter Tryz.func102,Tryz.ntmps102
  go_wp2_with (first|refine ax rfl _ rfl rfl ?_;try rw [← jP.out])
  refine dq [0,1,0,0,1,0,0,1,0,0,0,0] ?_
  go_wp2_with (first|refine av fun K I=>?_|refine ai fun K I=>?_;go_simp;refine I _ _ ?_;clear I K|refine ao fun K I=>?_;go_simp|refine aj ?_)
  refine dq [0,1,0,0,1,0,0,1,0,0,0,0] ?_
  go_wp2_with (first|refine av fun K I=>?_|refine ai fun K I=>?_;go_simp;refine I _ _ ?_;clear I K|refine ao fun K I=>?_;go_simp|refine aj ?_)
  refine im [0,0,1,0,0,0,1,0,0,0] ?_
  go_wp2_with (first|refine av fun K I=>?_|refine ai fun K I=>?_;go_simp;refine I _ _ ?_;clear I K|refine ao fun K I=>?_;go_simp|refine aj ?_)
  refine bodyPost_ret (v:=.tuple #[.slice (some ⟨W2.heap.size,0,none⟩) 2 2,.bool true,.bool true]) (by simp [results,Tryz.results102]) rfl ⟨⟨_,_,_,rfl,gn W2.drew.drew.drew [h,eu a] (by simp),fun k hk=>?_⟩,HC.out.drew.drew.drew.alloc _⟩
  simp [own,Value.ownBlock] at hk
  have:=rB.out
  omega
 ·go_enter Tryz.func102,Tryz.ntmps102
  go_wp2_with (first|refine ax rfl _ rfl rfl ?_;try rw [← jP.out])
  refine dq [0,1,0,0,1,0,0,1,0,0,0,0] ?_
  go_wp2_with (first|refine av fun K I=>?_|refine ai fun K I=>?_;go_simp;refine I _ _ ?_;clear I K|refine ao fun K I=>?_;go_simp|refine aj ?_)
  refine dq [0,1,0,0,1,0,0,1,0,0,0,0] ?_
  go_wp2_with (first|refine av fun K I=>?_|refine ai fun K I=>?_;go_simp;refine I _ _ ?_;clear I K|refine ao fun K I=>?_;go_simp|refine aj ?_)
  refine im [0,0,1,0,0,0,1,0,0,0] ?_
  go_wp2_with (first|refine av fun K I=>?_|refine ai fun K I=>?_;go_simp;refine I _ _ ?_;clear I K|refine ao fun K I=>?_;go_simp|refine aj ?_)
  refine bodyPost_ret (v:=.tuple #[.slice (some ⟨W2.heap.size,0,none⟩) 3 3,.bool false,.bool true]) (by simp [results,Tryz.results102]) rfl ⟨⟨_,_,_,rfl,gn W2.drew.drew.drew [eu p,ok,om] (by simp),fun k hk=>?_⟩,HC.out.drew.drew.drew.alloc _⟩
  simp [own,Value.ownBlock] at hk
  have:=rB.out
  omega
 ·go_enter Tryz.func102,Tryz.ntmps102
  go_wp2_with (first|refine ax rfl _ rfl rfl ?_;try rw [← jP.out])
  refine dq [0,1,0,0,1,0,0,1,0,0,0,0] ?_
  go_wp2_with (first|refine av fun K I=>?_|refine ai fun K I=>?_;go_simp;refine I _ _ ?_;clear I K|refine ao fun K I=>?_;go_simp|refine aj ?_)
  refine dq [0,1,0,0,1,0,0,1,0,0,0,0] ?_
  go_wp2_with (first|refine av fun K I=>?_|refine ai fun K I=>?_;go_simp;refine I _ _ ?_;clear I K|refine ao fun K I=>?_;go_simp|refine aj ?_)
  refine im [0,0,1,0,0,0,1,0,0,0] ?_
  go_wp2_with (first|refine av fun K I=>?_|refine ai fun K I=>?_;go_simp;refine I _ _ ?_;clear I K|refine ao fun K I=>?_;go_simp|refine aj ?_)
  refine bodyPost_ret (v:=.tuple #[.slice (some ⟨W2.heap.size,0,none⟩) 5 5,.bool false,.bool true]) (by simp [results,Tryz.results102]) rfl ⟨⟨_,_,_,rfl,gn W2.drew.drew.drew [eu p,eu g,eu c,ok,om] (by simp),fun k hk=>?_⟩,HC.out.drew.drew.drew.alloc _⟩
  simp [own,Value.ownBlock] at hk
  have:=rB.out
  omega
 ·go_enter Tryz.func102,Tryz.ntmps102
  go_wp2_with (first|refine ax rfl _ rfl rfl ?_;try rw [← jP.out])
  refine dq [0,1,0,0,1,0,0,1,0,0,0,0] ?_
  go_wp2_with (first|refine av fun K I=>?_|refine ai fun K I=>?_;go_simp;refine I _ _ ?_;clear I K|refine ao fun K I=>?_;go_simp|refine aj ?_)
  refine dq [0,1,0,0,1,0,0,1,0,0,0,0] ?_
  go_wp2_with (first|refine av fun K I=>?_|refine ai fun K I=>?_;go_simp;refine I _ _ ?_;clear I K|refine ao fun K I=>?_;go_simp|refine aj ?_)
  refine im [0,0,1,0,0,0,1,0,0,0] ?_
  go_wp2_with (first|refine av fun K I=>?_|refine ai fun K I=>?_;go_simp;refine I _ _ ?_;clear I K|refine ao fun K I=>?_;go_simp|refine aj ?_)
  refine bodyPost_ret (v:=.tuple #[.slice (some ⟨W2.heap.size,0,none⟩) 2 2,.bool false,.bool true]) (by simp [results,Tryz.results102]) rfl ⟨⟨_,_,_,rfl,gn W2.drew.drew.drew [eu p,eu g] (by simp),fun k hk=>?_⟩,HC.out.drew.drew.drew.alloc _⟩
  simp [own,Value.ownBlock] at hk
  have:=rB.out
  omega
 ·go_enter Tryz.func102,Tryz.ntmps102
  go_wp2_with (first|refine ax rfl _ rfl rfl ?_;try rw [← jP.out])
  refine dq [0,1,0,0,1,0,0,1,0,0,0,0] ?_
  go_wp2_with (first|refine av fun K I=>?_|refine ai fun K I=>?_;go_simp;refine I _ _ ?_;clear I K|refine ao fun K I=>?_;go_simp|refine aj ?_)
  refine dq [0,1,0,0,1,0,0,1,0,0,0,0] ?_
  go_wp2_with (first|refine av fun K I=>?_|refine ai fun K I=>?_;go_simp;refine I _ _ ?_;clear I K|refine ao fun K I=>?_;go_simp|refine aj ?_)
  refine im [0,0,1,0,0,0,1,0,0,0] ?_
  go_wp2_with (first|refine av fun K I=>?_|refine ai fun K I=>?_;go_simp;refine I _ _ ?_;clear I K|refine ao fun K I=>?_;go_simp|refine aj ?_)
  refine bodyPost_ret (v:=.tuple #[.slice (some ⟨W2.heap.size,0,none⟩) 2 2,.bool false,.bool true]) (by simp [results,Tryz.results102]) rfl ⟨⟨_,_,_,rfl,gn W2.drew.drew.drew [eu p,eu g] (by simp),fun k hk=>?_⟩,HC.out.drew.drew.drew.alloc _⟩
  simp [own,Value.ownBlock] at hk
  have:=rB.out
  omega
 ·go_enter Tryz.func102,Tryz.ntmps102
  go_wp2_with (first|refine ax rfl _ rfl rfl ?_;try rw [← jP.out])
  refine dq [0,1,0,0,1,0,0,1,0,0,0,0] ?_
  go_wp2_with (first|refine av fun K I=>?_|refine ai fun K I=>?_;go_simp;refine I _ _ ?_;clear I K|refine ao fun K I=>?_;go_simp|refine aj ?_)
  refine dq [0,1,0,0,1,0,0,1,0,0,0,0] ?_
  go_wp2_with (first|refine av fun K I=>?_|refine ai fun K I=>?_;go_simp;refine I _ _ ?_;clear I K|refine ao fun K I=>?_;go_simp|refine aj ?_)
  refine im [0,0,1,0,0,0,1,0,0,0] ?_
  go_wp2_with (first|refine av fun K I=>?_|refine ai fun K I=>?_;go_simp;refine I _ _ ?_;clear I K|refine ao fun K I=>?_;go_simp|refine aj ?_)
  refine bodyPost_ret (v:=.tuple #[.slice (some ⟨W2.heap.size,0,none⟩) 4 4,.bool false,.bool true]) (by simp [results,Tryz.results102]) rfl ⟨⟨_,_,_,rfl,gn W2.drew.drew.drew [eu p,eu g,eu c,eu n] (by simp),fun k hk=>?_⟩,HC.out.drew.drew.drew.alloc _⟩
  simp [own,Value.ownBlock] at hk
  have:=rB.out
  omega
 ·go_enter Tryz.func102,Tryz.ntmps102
  go_wp2_with (first|refine ax rfl _ rfl rfl ?_;try rw [← jP.out])
  refine dq [0,1,0,0,1,0,0,1,0,0,0,0] ?_
  go_wp2_with (first|refine av fun K I=>?_|refine ai fun K I=>?_;go_simp;refine I _ _ ?_;clear I K|refine ao fun K I=>?_;go_simp|refine aj ?_)
  refine dq [0,1,0,0,1,0,0,1,0,0,0,0] ?_
  go_wp2_with (first|refine av fun K I=>?_|refine ai fun K I=>?_;go_simp;refine I _ _ ?_;clear I K|refine ao fun K I=>?_;go_simp|refine aj ?_)
  refine im [0,0,1,0,0,0,1,0,0,0] ?_
  go_wp2_with (first|refine av fun K I=>?_|refine ai fun K I=>?_;go_simp;refine I _ _ ?_;clear I K|refine ao fun K I=>?_;go_simp|refine aj ?_)
  refine bodyPost_ret (v:=.tuple #[.slice (some ⟨W2.heap.size,0,none⟩) 1 1,.bool false,.bool true]) (by simp [results,Tryz.results102]) rfl ⟨⟨_,_,_,rfl,gn W2.drew.drew.drew [eu n] (by simp),fun k hk=>?_⟩,HC.out.drew.drew.drew.alloc _⟩
  simp [own,Value.ownBlock] at hk
  have:=rB.out
  omega
 ·go_enter Tryz.func102,Tryz.ntmps102
  go_wp2_with (first|refine ax rfl _ rfl rfl ?_;try rw [← jP.out])
  refine dq [0,1,0,0,1,0,0,1,0,0,0,0] ?_
  go_wp2_with (first|refine av fun K I=>?_|refine ai fun K I=>?_;go_simp;refine I _ _ ?_;clear I K|refine ao fun K I=>?_;go_simp|refine aj ?_)
  refine dq [0,1,0,0,1,0,0,1,0,0,0,0] ?_
  go_wp2_with (first|refine av fun K I=>?_|refine ai fun K I=>?_;go_simp;refine I _ _ ?_;clear I K|refine ao fun K I=>?_;go_simp|refine aj ?_)
  refine im [0,0,1,0,0,0,1,0,0,0] ?_
  go_wp2_with (first|refine av fun K I=>?_|refine ai fun K I=>?_;go_simp;refine I _ _ ?_;clear I K|refine ao fun K I=>?_;go_simp|refine aj ?_)
  refine bodyPost_ret (v:=.tuple #[.slice (some ⟨W2.heap.size,0,none⟩) 1 1,.bool false,.bool true]) (by simp [results,Tryz.results102]) rfl ⟨⟨_,_,_,rfl,gn W2.drew.drew.drew [eu n] (by simp),fun k hk=>?_⟩,HC.out.drew.drew.drew.alloc _⟩
  simp [own,Value.ownBlock] at hk
  have:=rB.out
  omega
 ·go_enter Tryz.func102,Tryz.ntmps102
  go_wp2_with (first|refine ax rfl _ rfl rfl ?_;try rw [← jP.out])
  refine dq [0,1,0,0,1,0,0,1,0,0,0,0] ?_
  go_wp2_with (first|refine av fun K I=>?_|refine ai fun K I=>?_;go_simp;refine I _ _ ?_;clear I K|refine ao fun K I=>?_;go_simp|refine aj ?_)
  refine dq [0,1,0,0,1,0,0,1,0,0,0,0] ?_
  go_wp2_with (first|refine av fun K I=>?_|refine ai fun K I=>?_;go_simp;refine I _ _ ?_;clear I K|refine ao fun K I=>?_;go_simp|refine aj ?_)
  refine im [0,0,1,0,0,0,1,0,0,0] ?_
  go_wp2_with (first|refine av fun K I=>?_|refine ai fun K I=>?_;go_simp;refine I _ _ ?_;clear I K|refine ao fun K I=>?_;go_simp|refine aj ?_)
  refine bodyPost_ret (v:=.tuple #[.slice none 0 0,.bool false,.bool true]) (by simp [results,Tryz.results102]) rfl ⟨⟨_,_,_,rfl,SE.nil _ _ _ _,fun _ h=>(bw h).elim⟩,HC.out.drew.drew.drew⟩
 ·have e1:fld k = []:=ri hk
  have e2:mg k = false:=by unfold mg;rw [e1];rfl
  have e3:isK k = false:=by unfold isK;rw [e1];rfl
  have e4:tj ⟨k,p,n,g,c,a,s,r,ok,om,h,l⟩ = []:=by unfold tj;simp only;rw [e1];rfl
  simp only
  rw [e2,e3,e4]
  have q1:((k:Int) == 1) = false:=beq_false_of_ne (by omega)
  have r1:decide (k = 1) = false:=ac (by omega)
  have q2:((k:Int) == 2) = false:=beq_false_of_ne (by omega)
  have r2:decide (k = 2) = false:=ac (by omega)
  have q3:((k:Int) == 3) = false:=beq_false_of_ne (by omega)
  have r3:decide (k = 3) = false:=ac (by omega)
  have q4:((k:Int) == 4) = false:=beq_false_of_ne (by omega)
  have r4:decide (k = 4) = false:=ac (by omega)
  have q5:((k:Int) == 5) = false:=beq_false_of_ne (by omega)
  have r5:decide (k = 5) = false:=ac (by omega)
  have q6:((k:Int) == 6) = false:=beq_false_of_ne (by omega)
  have r6:decide (k = 6) = false:=ac (by omega)
  have q7:((k:Int) == 7) = false:=beq_false_of_ne (by omega)
  have r7:decide (k = 7) = false:=ac (by omega)
  have q8:((k:Int) == 8) = false:=beq_false_of_ne (by omega)
  have r8:decide (k = 8) = false:=ac (by omega)
  have q9:((k:Int) == 9) = false:=beq_false_of_ne (by omega)
  have r9:decide (k = 9) = false:=ac (by omega)
  have q10:((k:Int) == 10) = false:=beq_false_of_ne (by omega)
  have r10:decide (k = 10) = false:=ac (by omega)
  have q11:((k:Int) == 11) = false:=beq_false_of_ne (by omega)
  have r11:decide (k = 11) = false:=ac (by omega)
  have q12:((k:Int) == 12) = false:=beq_false_of_ne (by omega)
  have r12:decide (k = 12) = false:=ac (by omega)
  have q13:((k:Int) == 13) = false:=beq_false_of_ne (by omega)
  have r13:decide (k = 13) = false:=ac (by omega)
  have q14:((k:Int) == 14) = false:=beq_false_of_ne (by omega)
  have r14:decide (k = 14) = false:=ac (by omega)
  have q15:((k:Int) == 15) = false:=beq_false_of_ne (by omega)
  have r15:decide (k = 15) = false:=ac (by omega)
  have q16:((k:Int) == 16) = false:=beq_false_of_ne (by omega)
  have r16:decide (k = 16) = false:=ac (by omega)
  have q17:((k:Int) == 17) = false:=beq_false_of_ne (by omega)
  have r17:decide (k = 17) = false:=ac (by omega)
  have q18:((k:Int) == 18) = false:=beq_false_of_ne (by omega)
  have r18:decide (k = 18) = false:=ac (by omega)
  have q19:((k:Int) == 19) = false:=beq_false_of_ne (by omega)
  have r19:decide (k = 19) = false:=ac (by omega)
  have q20:((k:Int) == 20) = false:=beq_false_of_ne (by omega)
  have r20:decide (k = 20) = false:=ac (by omega)
  have q21:((k:Int) == 21) = false:=beq_false_of_ne (by omega)
  have r21:decide (k = 21) = false:=ac (by omega)
  clear e1 e2 e3 e4
  go_enter Tryz.func102,Tryz.ntmps102
  go_wp2_with (first|refine ax rfl _ rfl rfl ?_;try rw [← jP.out])
  refine dq [0,1,0,0,1,0,0,1,0,0,0,0] ?_
  go_wp2_with (first|refine av fun K I=>?_|refine ai fun K I=>?_;go_simp;refine I _ _ ?_;clear I K|refine ao fun K I=>?_;go_simp|refine aj ?_)
  refine dq [0,1,0,0,1,0,0,1,0,0,0,0] ?_
  go_wp2_with (first|refine av fun K I=>?_|refine ai fun K I=>?_;go_simp;refine I _ _ ?_;clear I K|refine ao fun K I=>?_;go_simp|refine aj ?_)
  refine im [0,0,1,0,0,0,1,0,0,0] ?_
  go_wp2_with (first|refine av fun K I=>?_|refine ai fun K I=>?_;go_simp;refine I _ _ ?_;clear I K|refine ao fun K I=>?_;go_simp|refine aj ?_)
  refine bodyPost_ret (v:=.tuple #[.slice none 0 0,.bool false,.bool false]) (by simp [results,Tryz.results102]) rfl ⟨⟨_,_,_,rfl,SE.nil _ _ _ _,fun _ h=>(bw h).elim⟩,HC.out.drew.drew.drew⟩
end Go.Proofs.YtfoleblcaloeoaaGreatDoor
