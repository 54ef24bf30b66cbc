import Derived.Test.YtfoleblcaloeoaaGreatDoorZaa
import Derived.WalkSpells
import Derived.WalkLawsBesides
import Derived.Test.YtfoleblcaloeoaaGreatDoorRows
import Derived.ProofKit
import Derived.Deep.Slices
import Derived.Deep.Fields
import Derived.ChangeSame
set_option maxHeartbeats 40000000
set_option maxRecDepth 20000
namespace Go.Proofs.YtfoleblcaloeoaaGreatDoor
open Go Go.RowKit
theorem bk {p:Prop} (h:p):Hid p:=h
structure Chg (F:List Nat) (w w':World):Prop where
  os:w'.os = w.os
  tape:w'.tape = w.tape
  output:w'.output = w.output
  size:w.heap.size≤w'.heap.size
  block:∀k,k < w.heap.size→k∉F→w'.heap[k]? = w.heap[k]?
section
variable {F G:List Nat} {a b w w':World}
theorem Chg.refl (F:List Nat) (w:World):Chg F w w:=⟨rfl,rfl,rfl,Nat.le_refl _,fun _ _ _=>rfl⟩
theorem Chg.trans (h:Chg F a b) (k:Chg G b w) (hG:∀x∈G,x∈F∨a.heap.size≤x):Chg F a w :=
  ⟨k.os.trans h.os,k.tape.trans h.tape,k.output.trans h.output,au h.size k.size,fun i hi hF =>
    (k.block i (al hi h.size) (fun hg=>(hG i hg).elim hF (by omega))).trans (h.block i hi hF)⟩
theorem Chg.mono (h:Chg F a b) (hG:∀x∈F,x∈G∨a.heap.size≤x):Chg G a b :=
  ⟨h.os,h.tape,h.output,h.size,fun i hi hg=>h.block i hi fun hf=>(hG i hf).elim hg (by omega)⟩
theorem Chg.drew (h:Chg F a w):Chg F a w.drew:=⟨h.os,h.tape,h.output,h.size,h.block⟩
theorem Chg.alloc (h:Chg F a w) (o:Obj):Chg F a (w.alloc o) :=
  ⟨h.os,h.tape,h.output,au h.size (by simp),fun k hk hF=>(Below.heap_alloc w o k (al hk h.size)).trans (h.block k hk hF)⟩
theorem Chg.setCell (h:Chg F a w) {p:Addr} (hp:p.block∈F∨a.heap.size≤p.block) (u:Value):Chg F a (w.setCell p u) :=
  ⟨h.os,h.tape,h.output,by simpa [World.setCell] using h.size,fun k hk hF=>(Below.heap_setCell w p u k (fun e=>by subst e;exact hp.elim hF (by omega))).trans (h.block k hk hF)⟩
theorem Chg.setRow (h:Chg F a w) {g:Nat} (hp:g∈F∨a.heap.size≤g) (cs:Array Value):Chg F a (w.setRow g cs) :=
  ⟨h.os,h.tape,h.output,by simpa using h.size,fun k hk hF=>(setRow_other w g k cs (fun e=>by subst e;exact hp.elim hF (by omega))).trans (h.block k hk hF)⟩
theorem Chg.cell (h:Chg F a b) {p:Addr} {v:Value} (hc:a.cell? p = some v) (hF:p.block∉F):b.cell? p = some v :=
  (World.cell?_of_block (h.block p.block (World.block_lt_of_cell? a p hc) hF)).trans hc
end
def Blk (w:World) (g:Nat) (t:TypeId) (cs:Array Value):Prop:=w.heap[g]? = some (.cells cs t (0,0))
section
variable {w w':World} {g:Nat} {t:TypeId} {cs:Array Value} {F:List Nat}
theorem Blk.lt (h:Blk w g t cs):g < w.heap.size:=(Array.getElem?_eq_some_iff.1 h).1
theorem Blk.cell (h:Blk w g t cs) (i:Nat):w.cell? ⟨g,i,none⟩ = cs[i]?:=cell_of_row w g i cs t (0,0) h
theorem Blk.frozen (h:Blk w g t cs) (i:Nat):w.frozen? ⟨g,i,none⟩ = false:=by unfold Blk at h;simp [World.frozen?,h]
theorem Blk.new (w:World) (t:TypeId) (cs:Array Value):Blk (w.alloc (.cells cs t)) w.heap.size t cs:=heap_alloc_new w _
theorem Blk.drew (h:Blk w g t cs):Blk w.drew g t cs:=h
theorem Blk.alloc (h:Blk w g t cs) (o:Obj):Blk (w.alloc o) g t cs:=(Below.heap_alloc w o g h.lt).trans h
theorem Blk.set_ (h:Blk w g t cs) (i:Nat) (u:Value):Blk (w.setCell ⟨g,i,none⟩ u) g t (cs.setIfInBounds i u):=by unfold Blk at h ⊢;simp [World.setCell,Array.getElem?_modify,h]
theorem Blk.far (h:Blk w g t cs) {p:Addr} (hp:g≠p.block) (u:Value):Blk (w.setCell p u) g t cs:=(Below.heap_setCell w p u g hp).trans h
theorem Blk.chg (h:Blk w g t cs) (hb:Chg F w w') (hg:g∉F):Blk w' g t cs:=(hb.block g h.lt hg).trans h
theorem Blk.ne_ {g':Nat} {t':TypeId} {cs':Array Value} (h:Blk w g t cs) (h':Blk w g' t' cs') (kT:t≠t'):g≠g':=by rintro rfl;unfold Blk at h h';rw [h] at h';injection h' with h';injection h' with _ ht;exact kT ht
end
def Rd (w:World) (size:Nat) (v:Value) (n:Nat) (cs:List Value):Prop :=
  cs.length = n * size∧∃A c,v = .slice A n c∧n≤c∧(0 < n→∃g off,A = some ⟨g,off,none⟩∧∀j u,cs[j]? = some u→w.cell? ⟨g,off+j,none⟩ = some u)
section
variable {w w':World} {size n:Nat} {v:Value} {cs:List Value} {F:List Nat}
theorem Rd.nil (w:World) (size c:Nat) (A:Option Addr):Rd w size (.slice A 0 c) 0 []:=⟨by simp,A,c,rfl,Nat.zero_le _,fun h=>absurd h (by omega)⟩
theorem Rd.keep (h:Rd w size v n cs) (hk:∀(p:Addr) u,v.ownBlock = some p.block→w.cell? p = some u→w'.cell? p = some u):Rd w' size v n cs:=by obtain ⟨h1,A,c,rfl,hc,h2⟩:=h;refine ⟨h1,A,c,rfl,hc,fun hn=>?_⟩;obtain ⟨g,off,rfl,h3⟩:=h2 hn;exact ⟨g,off,rfl,fun j u hu=>hk _ _ rfl (h3 j u hu)⟩
theorem Rd.drew (h:Rd w size v n cs):Rd w.drew size v n cs:=h
theorem Rd.chg (h:Rd w size v n cs) (hc:Chg F w w') (hF:∀k,v.ownBlock = some k→k∉F):Rd w' size v n cs :=
  h.keep fun _ _ hp nW=>hc.cell nW (hF _ hp)
theorem Rd.form (h:Rd w size v n cs):∃A c,v = .slice A n c:=let ⟨_,A,c,e,_⟩:=h;⟨A,c,e⟩
theorem Rd.at_ {k:Nat} (h:Rd w size v n cs) (hk:k < n):∃g off c,v = .slice (some ⟨g,off,none⟩) n c∧n≤c∧∀j,j < size→∃u,cs[k * size+j]? = some u∧w.cell? ⟨g,off+k * size+j,none⟩ = some u:=by
  obtain ⟨h1,A,c,rfl,hc,h2⟩:=h;obtain ⟨g,off,rfl,h3⟩:=h2 (by omega);refine ⟨g,off,c,rfl,hc,fun j hj=>?_⟩;have kG:k * size+j < cs.length:=by
    rw [h1]
    calc k * size+j < k * size+size:=by omega
      _ = (k+1) * size:=by rw [Nat.add_mul,Nat.one_mul]
      _≤n * size:=Nat.mul_le_mul_right _ hk
  exact ⟨cs[k * size+j],List.getElem?_eq_getElem kG,by rw [Nat.add_assoc];exact h3 _ _ (List.getElem?_eq_getElem kG)⟩
end
def Sl (w:World) (e:TypeId) (size:Nat) (v:Value) (n:Nat) (cs:List Value):Prop :=
  cs.length = n * size ∧
  ((v = .slice none 0 0∧n = 0) ∨
   ∃g off cap cur,v = .slice (some ⟨g,off,none⟩) n cap∧Blk w g e cur∧n≤cap∧cap≤maxLen∧off+cap * size≤cur.size∧(cur.toList.drop off).take (n * size) = cs)
section
variable {w w':World} {e:TypeId} {size n:Nat} {v:Value} {cs:List Value} {F:List Nat}
theorem Sl.nil (w:World) (e:TypeId) (size:Nat):Sl w e size (.slice none 0 0) 0 []:=⟨by simp,.inl ⟨rfl,rfl⟩⟩
theorem Sl.rd (h:Sl w e size v n cs):Rd w size v n cs:=by
  obtain ⟨h1,⟨rfl,rfl⟩ | ⟨g,off,cap,cur,rfl,hb,hn,_,hs,ht⟩⟩:=h
  · exact ⟨h1,none,0,rfl,Nat.le_refl _,fun h=>absurd h (by omega)⟩
  · refine ⟨h1,_,_,rfl,hn,fun _=>⟨g,off,rfl,fun j u hu=>?_⟩⟩
    rw [hb.cell]
    rw [← ht,List.getElem?_take] at hu
    split at hu
    · rw [List.getElem?_drop] at hu;simpa using hu
    · cases hu
theorem Sl.lt (h:Sl w e size v n cs):∀k,v.ownBlock = some k→k < w.heap.size:=by
  intro k hk;obtain ⟨_,⟨rfl,_⟩ | ⟨g,off,cap,cur,rfl,hb,_⟩⟩:=h
  · cases hk
  · simp only [Value.ownBlock,Option.some.injEq] at hk;subst hk;exact hb.lt
theorem Sl.keep (h:Sl w e size v n cs) (hk:∀k,v.ownBlock = some k→w'.heap[k]? = w.heap[k]?):Sl w' e size v n cs:=by
  refine ⟨h.1,?_⟩;obtain ⟨_,h | ⟨g,off,cap,cur,rfl,hb,r⟩⟩:=h
  · exact .inl h
  · exact .inr ⟨g,off,cap,cur,rfl,(hk g rfl).trans hb,r⟩
theorem Sl.chg (h:Sl w e size v n cs) (hc:Chg F w w') (hF:∀k,v.ownBlock = some k→k∉F):Sl w' e size v n cs :=
  h.keep fun k hk=>hc.block k (h.lt k hk) (hF k hk)
theorem Sl.far (h:Sl w e size v n cs) {p:Addr} (hp:v.ownBlock≠some p.block) (u:Value):Sl (w.setCell p u) e size v n cs :=
  h.keep fun k hk=>Below.heap_setCell w p u k (fun e=>hp (by rw [hk,e]))
theorem Sl.cap_le (h:Sl w e size v n cs):∃A c,v = .slice A n c∧n≤c∧c≤maxLen:=by
  obtain ⟨_,⟨rfl,rfl⟩ | ⟨g,off,cap,cur,rfl,hb,h1,h2,_⟩⟩:=h
  · exact ⟨none,0,rfl,Nat.le_refl _,Nat.zero_le _⟩
  · exact ⟨_,_,rfl,h1,h2⟩
theorem Sl.form (h:Sl w e size v n cs):∃A c,v = .slice A n c:=h.rd.form
theorem Sl.made (w:World) (e:TypeId) (size:Nat) (cur:Array Value) (n cap:Nat) (hn:n≤cap) (hm:cap≤maxLen) (hs:cap * size≤cur.size) :
    Sl (w.alloc (.cells cur e)) e size (.slice (some ⟨w.heap.size,0,none⟩) n cap) n (cur.toList.take (n * size)):=by
  refine ⟨?_,.inr ⟨_,0,cap,cur,rfl,Blk.new w e cur,hn,hm,by omega,by simp⟩⟩;rw [List.length_take];have:n * size≤cap * size:=Nat.mul_le_mul_right _ hn;simp;omega
end
variable {size:Nat} {e:TypeId} {w:World} {P:Program}
theorem ss {t ty:TypeId} {i:TypeInfo} {z:Value} {bytes:Nat} (ht:P.underlying t = some (.slice e)) (hi:P.info? e = some i) (hz:i.zero = some z)
    (hsize:i.size = size) (Da:i.bytes = bytes) (hzs:z.cells.size = size)
    {v x:Value} {n m:Nat} {xs news:List Value} (hv:Sl w e size v n xs) (hx:Rd w size x m news) (h1:∀u∈news,u.oneCell' = true)
    (h63:n+m≤maxLen) (hbytes:(n+m) * bytes≤140737488355328) :
    ∃v' w',(Builtin.append_ #[t,t] ty #[v,x]).run P w = .ok v' w'∧Sl w' e size v' (n+m) (xs ++ news)∧Chg v.ownBlock.toList w w' ∧
      (v'.ownBlock = v.ownBlock∨v'.ownBlock = some w.heap.size):=by
  subst hsize;subst Da;have hsmall:n+m≤9223372036854775807:=by simp only [maxLen] at h63;omega
  have kQ:(xs ++ news).length = (n+m) * i.size:=by rw [List.length_append,hv.1,hx.1,Nat.add_mul]
  obtain ⟨xR,A,c,rfl,xM,qI⟩:=hx;have hfx:∀w1:World,(∀p u,w.cell? p = some u→w1.cell? p = some u)→(Builtin.firstCells i.size m (.slice A m c)).run P w1 = .ok news.toArray w1:=by
    intro w1 hk;rcases Nat.eq_zero_or_pos m with h0 | h0
    · subst h0
      have:news = []:=List.eq_nil_of_length_eq_zero (by simpa using xR)
      subst this
      cases A with
      | none=>simp [Builtin.firstCells]
      | some a=>exact run_firstCells_some (P:=P) w1 i.size 0 a 0 c [] (by simp) (by simp)
    · obtain ⟨g,off,rfl,hc⟩:=qI h0
      exact run_firstCells_some (P:=P) w1 i.size m _ m c news xR (fun j u hu=>by rw [Addr.add_lit];exact hk _ _ (hc j u hu))
  have grown:∀(old:Nat),old < n+m→∀(row:List Nat),
      Sl (w.drew.alloc (.cells (xs.toArray ++ news.toArray ++ Builtin.zeroCells z.cells (grownCap w (n+m) old e - (n+m))) e)) e i.size
        (.slice (some ⟨w.heap.size,0,none⟩) (n+m) (grownCap w (n+m) old e)) (n+m) (xs ++ news) ∧
      Chg row w (w.drew.alloc (.cells (xs.toArray ++ news.toArray ++ Builtin.zeroCells z.cells (grownCap w (n+m) old e - (n+m))) e)):=by
    intro old ho row
    have tB:=grownCap_ge w (n+m) old e
    have wK:grownCap w (n+m) old e≤maxLen:=grownCap_le_maxLen w (n+m) old e h63
    refine ⟨⟨kQ,.inr ⟨w.heap.size,0,_,_,rfl,heap_alloc_new w.drew _,tB,wK,?_,?_⟩⟩,((Chg.refl row w).drew).alloc _⟩
    · simp only [Array.size_append,List.size_toArray,size_zeroCells,hzs,hv.1,xR,← Nat.add_mul]
      refine Nat.le_of_eq ?_
      rw [Nat.zero_add]
      congr 1
      omega
    · simp only [Array.toList_append,List.append_assoc,List.drop_zero]
      rw [← List.append_assoc,← kQ]
      exact List.take_left
  have grows:∀(a0:Option Addr) (old:Nat),old < n+m →
      (Builtin.firstCells i.size n (.slice a0 n old)).run P w.drew = .ok xs.toArray w.drew→Builtin.nextslicecap (n+m) old * i.bytes≤281474976710656 →
      (Builtin.append_ #[t,t] ty #[.slice a0 n old,.slice A m c]).run P w = .ok (.slice (some ⟨w.heap.size,0,none⟩) (n+m) (grownCap w (n+m) old e))
        (w.drew.alloc (.cells (xs.toArray ++ news.toArray ++ Builtin.zeroCells z.cells (grownCap w (n+m) old e - (n+m))) e)):=by
    intro a0 old ho hf AI
    have hn:¬ (n+m≤old):=by omega
    have h63':¬ (9223372036854775807 < ((n:Int)+(m:Int))):=by omega
    have h48':¬ (281474976710656 < Builtin.nextslicecap (n+m) old * i.bytes):=by omega
    have Ep:=hfx w.drew (fun p u h=>h)
    simp [Builtin.append_,run_underlying ht,sizeOf,typeInfo,zeroValue,hi,hz,Builtin.lenOf,hn,h63',h48',Question.forced,hf,Ep,newRow,grownCap]
    congr 2
    apply Array.ext'
    simp
  obtain ⟨CC,⟨rfl,rfl⟩ | ⟨g,off,cap,cur,rfl,hb,hncap,wK,hs,Cy⟩⟩:=hv
  · have Bi:xs = []:=List.eq_nil_of_length_eq_zero (by simpa using CC)
    subst Bi
    rcases Nat.eq_zero_or_pos m with h0 | h0
    · subst h0
      have hnw:news = []:=List.eq_nil_of_length_eq_zero (by simpa using xR)
      subst hnw
      have hf:=hfx w (fun _ _ h=>h)
      refine ⟨.slice none 0 0,w,?_,Sl.nil w e _,Chg.refl _ _,.inl rfl⟩
      simp [Builtin.append_,run_underlying ht,sizeOf,typeInfo,hi,Builtin.lenOf,hf]
    · obtain ⟨g1,g2⟩:=grown 0 (by omega) (Value.slice none 0 0).ownBlock.toList
      refine ⟨_,_,grows none 0 (by omega) (by simp [Builtin.firstCells]) ?_,g1,g2,.inr rfl⟩
      rw [nextslicecap_zero (by omega)]
      omega
  · by_cases hroom:n+m≤cap
    · have hf:=hfx w (fun _ _ h=>h)
      have hmul:n * i.size+m * i.size≤cap * i.size:=by rw [← Nat.add_mul];exact Nat.mul_le_mul_right _ hroom
      have qH:=run_storeCells_at P g (off+n * i.size) e news 0 cur w hb (by rw [xR];omega) h1
      rw [Nat.add_zero] at qH
      refine ⟨.slice (some ⟨g,off,none⟩) (n+m) cap,w.setRow g (cur.toList.take (off+n * i.size) ++ news ++ cur.toList.drop (off+n * i.size+news.length)).toArray,?_,?_,(Chg.refl _ w).setRow (.inl (by simp [Value.ownBlock])) _,.inl rfl⟩
      · simp [Builtin.append_,run_underlying ht,sizeOf,typeInfo,hi,Builtin.lenOf,hroom,hf,Addr.add_lit,qH]
      · have Em:cur.toList.length = cur.size:=by simp
        refine ⟨kQ,.inr ⟨g,off,cap,_,rfl,setRow_heap w g cur _ e (0,0) hb,hroom,wK,?_,?_⟩⟩
        · simp only [List.size_toArray,List.length_append,List.length_take,List.length_drop,Em,xR]
          omega
        · have hh:(cur.toList.take (off+n * i.size)).length = off+n * i.size:=by rw [List.length_take];omega
          have e1:cur.toList.take (off+n * i.size) = cur.toList.take off ++ xs:=by
            rw [← Cy,List.take_add]
          simp only [e1,List.append_assoc]
          have e2:(cur.toList.take off).length = off:=by rw [List.length_take];omega
          rw [List.drop_append_of_le_length (by omega),List.drop_eq_nil_of_le (by omega),List.nil_append,← List.append_assoc,← kQ]
          exact List.take_left
    · obtain ⟨g1,g2⟩:=grown cap (by omega) (Value.slice (some ⟨g,off,none⟩) n cap).ownBlock.toList
      refine ⟨_,_,grows (some ⟨g,off,none⟩) cap (by omega) ?_ (growslice_fits (by omega) hbytes),g1,g2,.inr rfl⟩
      have hr:=(Sl.rd (w:=w) (v:=.slice (some ⟨g,off,none⟩) n cap) (e:=e) (size:=i.size) (n:=n) (cs:=xs) ⟨CC,.inr ⟨g,off,cap,cur,rfl,hb,hncap,wK,hs,Cy⟩⟩)
      obtain ⟨_,A',c',Fy,_,nW⟩:=hr
      injection Fy with ea eb ec
      subst ea
      refine run_firstCells_some (P:=P) w.drew i.size n _ n cap xs CC fun j u hu=>?_
      rcases Nat.eq_zero_or_pos n with h0 | h0
      · subst h0
        have:xs = []:=List.eq_nil_of_length_eq_zero (by simpa using CC)
        subst this
        simp at hu
      · obtain ⟨g',off',he,hc⟩:=nW h0
        injection he with he
        injection he with e1 e2
        subst e1;subst e2
        rw [Addr.add_lit]
        exact hc j u hu
variable {Q:Exit→Act→World→Prop} {K:Act→World→Prop} {o:Oper}
theorem mt {a:Act} (s x:Operand) (t:TypeId)
    (ho:o.op = .call { callee:=.builtin .append,args:=#[s,x],argTypes:=#[t,t] })
    (e:TypeId) {i:TypeInfo} {z:Value} {size bytes:Nat} (ht:P.underlying t = some (.slice e)) (hi:P.info? e = some i) (hz:i.zero = some z)
    (hsize:i.size = size) (Da:i.bytes = bytes) (hzs:z.cells.size = size)
    {v y:Value} {n m:Nat} {xs news:List Value} (hs:a.eval s = v) (hv:Sl w e size v n xs) (hy:a.eval x = y) (hx:Rd w size y m news) (h1:∀u∈news,u.oneCell' = true)
    (h63:n+m≤maxLen) (hbytes:(n+m) * bytes≤140737488355328)
    (h:∀v' w',Sl w' e size v' (n+m) (xs ++ news)→Chg v.ownBlock.toList w w'→(v'.ownBlock = v.ownBlock∨v'.ownBlock = some w.heap.size)→K (a.put o.dst v') w'):o.wp P a w K Q:=by
  obtain ⟨v',w',nL,h2,h3,h4⟩:=ss (ty:=o.type) ht hi hz hsize Da hzs hv hx h1 h63 hbytes;unfold Oper.wp execOp;simp only [ho,resolve,invoke,builtin,Sem.run_bind,Sem.run_pure,Result.andThen_ok,List.map_toArray,List.map_cons,List.map_nil,hs,hy,nL];exact h v' w' h2 h3 h4
abbrev av:=@Chg.refl
abbrev aw:=@Blk.chg
abbrev ax:=@Blk.new
abbrev bb:=@Blk.lt
abbrev own (v:Value):List Nat:=v.ownBlock.toList
variable {k:Nat} {v:Value}
theorem ip:k∈own v↔v.ownBlock = some k:=by simp [own]
theorem cw (h:k∈own (.slice none 0 0)):False:=by simp [own,Value.ownBlock] at h
variable {n:Nat}
theorem fd {g off c:Nat}:own (.slice (some ⟨g,off,none⟩) n c) = [g]:=rfl
theorem oy (w:World) (p:Addr) (u:Value):(w.setCell p u).heap.size = w.heap.size:=by simp [World.setCell]
variable {cs:List Value}
theorem iW {e':TypeId} (h:Sl w e size v n cs) {p:Nat} {cs':Array Value} (hb:Blk w p e' cs') (ht:e'≠e):v.ownBlock≠some p:=by
 intro e1;obtain ⟨_,⟨rfl,_⟩ | ⟨g,off,cap,cur,rfl,hg,_⟩⟩:=h
 ·cases e1
 ·simp only [Value.ownBlock,Option.some.injEq] at e1;subst e1;exact hg.ne_ hb (Ne.symm ht) rfl
theorem Sl.blk (h:Sl w e size v n cs) (hk:k∈own v):∃cur,Blk w k e cur:=by
 rw [ip] at hk;obtain ⟨_,⟨rfl,_⟩ | ⟨g,off,cap,cur,rfl,hg,_⟩⟩:=h
 ·cases hk
 ·simp only [Value.ownBlock,Option.some.injEq] at hk;subst hk;exact ⟨_,hg⟩
theorem Sl.own_lt (h:Sl w e size v n cs):∀k∈own v,k < w.heap.size:=fun k hk=>h.lt k (ip.1 hk)
theorem Sl.setc {g off c:Nat} (h:Sl w e size (.slice (some ⟨g,off,none⟩) n c) n cs) {j:Nat} (hj:j < n * size) (u:Value) :
  Sl (w.setCell ⟨g,off+j,none⟩ u) e size (.slice (some ⟨g,off,none⟩) n c) n (cs.set j u):=by
 obtain ⟨hl,⟨e1,e2⟩ | ⟨g',off',cap,cur,e1,hb,zF,wK,hs,ht⟩⟩:=h
 ·cases e1
 ·injection e1 with e1 _ e3;injection e1 with e1;injection e1 with e1 e2;subst e1;subst e2;subst e3;refine ⟨by simp [hl],.inr ⟨g,off,c,_,rfl,hb.set_ (off+j) u,zF,wK,by simpa using hs,?_⟩⟩;have tL:n * size≤c * size:=Nat.mul_le_mul_right _ zF;have kG:off+j < cur.size:=by omega
  rw [Array.toList_setIfInBounds,← ht];rw [List.drop_set,ag (by omega),List.take_set];congr 1;omega
variable {A:Option Addr}
theorem Sl.addr {c:Nat} (h:Sl w e size (.slice A n c) n cs) (hn:0 < n):∃g off,A = some ⟨g,off,none⟩:=by
 obtain ⟨_,⟨e1,e2⟩ | ⟨g',off',cap,cur,e1,hb,zF,wK,hs,ht⟩⟩:=h
 ·injection e1 with _ e1 _;omega
 ·injection e1 with e1 _ _;exact ⟨_,_,e1⟩
theorem Rd.addr {c:Nat} (h:Rd w size (.slice A n c) n cs) (hn:0 < n):∃g off,A = some ⟨g,off,none⟩:=by obtain ⟨g,off,c',e,_,_⟩:=h.at_ hn;injection e with e _ _;exact ⟨g,off,e⟩
theorem ur (w:World) (e:TypeId) (size n:Nat) (cs:List Value) (h:cs.length = n * size):Rd (w.alloc (.cells cs.toArray e)) size (.slice (some ⟨w.heap.size,0,none⟩) n n) n cs :=
 ⟨h,_,_,rfl,Nat.le_refl _,fun _=>⟨_,0,rfl,fun j u hu=>by rw [(ax w e cs.toArray).cell];simpa using hu⟩⟩
theorem pf (w:World) (e:TypeId) (size:Nat):Sl (w.alloc (.cells #[] e)) e size (.slice (some ⟨w.heap.size,0,none⟩) 0 0) 0 []:=by have:=Sl.made w e size #[] 0 0 (Nat.le_refl _) (Nat.zero_le _) (by simp);simpa using this
theorem ll {ops:Array Oper} {rest:List Oper} {a:Act} (hg:o.guard = none) (s x:Operand) (t:TypeId)
  (ho:o.op = .call { callee:=.builtin .append,args:=#[s,x],argTypes:=#[t,t] })
  (e:TypeId) {i:TypeInfo} {z:Value} {size bytes:Nat} (ht:P.underlying t = some (.slice e)) (hi:P.info? e = some i) (hz:i.zero = some z)
  (hsize:i.size = size) (Da:i.bytes = bytes) (hzs:z.cells.size = size)
  {v y:Value} {n m:Nat} {xs news:List Value} (hs:a.eval s = v) (hv:Sl w e size v n xs) (hy:a.eval x = y) (hx:Rd w size y m news) (h1:∀u∈news,u.oneCell' = true)
  (h63:n+m≤maxLen) (hbytes:(n+m) * bytes≤140737488355328)
  (h:∀v' w',Sl w' e size v' (n+m) (xs ++ news)→Chg (own v) w w'→(v'.ownBlock = v.ownBlock∨v'.ownBlock = some w.heap.size)→wpList P ops Q rest (a.put o.dst v') w'):wpList P ops Q (o :: rest) a w :=
 wpList_plain hg fun _ U=>mt s x t ho e ht hi hz hsize Da hzs hs hv hy hx h1 h63 hbytes fun v' w' a b c=>U _ _ (h v' w' a b c)
variable {a b:World}
theorem Chg.up (h:Chg [] a b) (F:List Nat):Chg F a b:=h.mono (fun _ hk=>by cases hk)
variable {F:List Nat}
theorem Chg.then_ {c:World} (h:Chg [] a b) (k:Chg F b c):Chg F a c:=(h.up F).trans k (fun _ hk=>.inl hk)
theorem Chg.and_ {c:World} (h:Chg F a b) (k:Chg F b c):Chg F a c:=h.trans k (fun _ hk=>.inl hk)
theorem Chg.stay {c:World} (h:Chg F a b) (k:Chg [] b c):Chg F a c:=h.trans k (fun _ hk=>by cases hk)
def Grow (W:World) (v V:Value):Prop:=∀k∈own V,k∈own v∨W.heap.size≤k
theorem pq {W:World} {V:Value} (h:V.ownBlock = v.ownBlock∨V.ownBlock = some W.heap.size):Grow W v V:=fun k hk=>by
 rw [ip] at hk
 rcases h with e | e
 ·exact .inl (ip.2 (by rw [← e];exact hk))
 ·rw [hk] at e;exact .inr (by simp at e;omega)
theorem Grow.refl (W:World) (v:Value):Grow W v v:=fun _ hk=>.inl hk
theorem Grow.of_le {W W':World} {V:Value} (h:Grow W' v V) (hs:W.heap.size≤W'.heap.size):Grow W v V:=fun i hi=>(h i hi).imp id (au hs)
def Step (F F':List Nat) (w:World):Prop:=∀k∈F',k∈F∨w.heap.size≤k
theorem Step.refl (F:List Nat) (w:World):Step F F w:=fun _ hk=>.inl hk
def Keep (N:List Nat) (W W':World):Prop:=∀k∈N,W'.heap[k]? = W.heap[k]?
theorem Keep.refl (N:List Nat) (W:World):Keep N W W:=fun _ _=>rfl
section
variable {α:Type} (enc:α→List Value)
def fc (l:List α):List Value:=l.flatMap enc
theorem lc (l m:List α):fc enc (l ++ m) = fc enc l ++ fc enc m:=by simp [fc]
variable {enc} {size:Nat} (he:∀x,(enc x).length = size)
include he
theorem fz (l:List α):(fc enc l).length = l.length * size:=by
 induction l with
 | nil=>simp [fc]
 | cons a l ih =>
  have e:fc enc (a :: l) = enc a ++ fc enc l:=by simp [fc]
  rw [e,List.length_append,ih,he,List.length_cons,Nat.add_mul];omega
theorem fc_take (l:List α) (k:Nat):(fc enc l).take (k * size) = fc enc (l.take k):=by
 induction l generalizing k with
 | nil=>simp [fc]
 | cons a l ih =>
  have e:fc enc (a :: l) = enc a ++ fc enc l:=by simp [fc]
  cases k with
  | zero=>simp [fc]
  | succ k =>have e2:fc enc ((a :: l).take (k+1)) = enc a ++ fc enc (l.take k):=(by simp [fc]);rw [e,e2,List.take_append,List.take_of_length_le (by rw [he,Nat.add_mul];omega),he,← ih];congr 2;rw [Nat.add_mul];omega
theorem gY (l:List α) (k:Nat):(fc enc l).drop (k * size) = fc enc (l.drop k):=by
 induction l generalizing k with
 | nil=>simp [fc]
 | cons a l ih =>
  have e:fc enc (a :: l) = enc a ++ fc enc l:=by simp [fc]
  cases k with
  | zero=>simp [fc]
  | succ k =>have e2:fc enc ((a :: l).drop (k+1)) = fc enc (l.drop k):=(by simp);rw [e,e2,List.drop_append,List.drop_of_length_le (by rw [he,Nat.add_mul];omega),he,← ih,List.nil_append];congr 1;rw [Nat.add_mul];omega
theorem ut (l:List α) (k j:Nat) (hk:k < l.length) (hj:j < size):(fc enc l)[k * size+j]? = (enc l[k])[j]?:=by
 have h1:(fc enc l)[k * size+j]? = ((fc enc l).drop (k * size))[j]?:=by rw [List.getElem?_drop]
 rw [h1,gY he,List.drop_eq_getElem_cons hk];have e:∀x (m:List α),fc enc (x :: m) = enc x ++ fc enc m:=fun x m=>by simp [fc]
 rw [e,List.getElem?_append_left (by rw [he];exact hj)]
theorem fc_set (l:List α) (k j:Nat) (hk:k < l.length) (hj:j < size) (u:Value) (x:α) (hx:enc x = (enc l[k]).set j u):fc enc (l.set k x) = (fc enc l).set (k * size+j) u:=by
 refine List.ext_getElem? fun i=>?_;rw [List.getElem?_set];by_cases hi:i < l.length * size
 ·have hs:0 < size:=by omega
  obtain ⟨a,b,rfl,hb⟩:∃a b,i = a * size+b∧b < size:=⟨i / size,i % size,by rw [Nat.mul_comm];exact (Nat.div_add_mod i size).symm,Nat.mod_lt _ hs⟩;have ha:a < l.length:=by refine Classical.byContradiction fun h=>?_;have:l.length * size≤a * size:=Nat.mul_le_mul_right _ (by omega);omega
  rw [ut he _ a b (by simpa using ha) hb,ut he _ a b ha hb,List.getElem_set];by_cases Fu:k = a
  ·subst Fu;rw [ah rfl,hx,List.getElem?_set];by_cases hjb:j = b
   ·subst hjb;rw [ah rfl,ah rfl,ah (by rw [he];exact hj),ah (by rw [fz he];omega)]
   ·rw [ag hjb,ag (by omega)]
  ·rw [ag Fu,ag];intro e;have h1:k * size+j < (k+1) * size:=(by rw [Nat.add_mul];omega);have h2:a * size+b < (a+1) * size:=(by rw [Nat.add_mul];omega);rcases Nat.lt_or_ge k a with h | h
   ·have:=Nat.mul_le_mul_right size (show k+1≤a by omega);omega
   ·have:=Nat.mul_le_mul_right size (show a+1≤k by omega);omega
 ·rw [List.getElem?_eq_none (by rw [fz he,List.length_set];omega)];have:(fc enc l)[i]? = none:=List.getElem?_eq_none (by rw [fz he];omega);rw [this];by_cases e:k * size+j = i
  ·rw [ah e,ag (by rw [fz he];omega)]
  ·rw [ag e]
end
def RE {α:Type} (enc:α→List Value) (size:Nat) (w:World) (v:Value) (l:List α):Prop:=Rd w size v l.length (fc enc l)
def SE {α:Type} (enc:α→List Value) (size:Nat) (e:TypeId) (w:World) (v:Value) (l:List α):Prop:=Sl w e size v l.length (fc enc l)
section
variable {α:Type} {enc:α→List Value} {size:Nat} {e:TypeId} {w w':World} {v:Value} {l:List α}
theorem SE.re (h:SE enc size e w v l):RE enc size w v l:=Sl.rd h
theorem SE.form (h:SE enc size e w v l):∃A c,v = .slice A l.length c:=Sl.form h
theorem RE.form (h:RE enc size w v l):∃A c,v = .slice A l.length c:=Rd.form h
theorem SE.nil (enc:α→List Value) (size:Nat) (e:TypeId) (w:World):SE enc size e w (.slice none 0 0) []:=Sl.nil _ _ _
theorem RE.nil (enc:α→List Value) (size:Nat) (w:World) (A:Option Addr) (c:Nat):RE enc size w (.slice A 0 c) []:=Rd.nil _ _ _ _
theorem SE.own_lt (h:SE enc size e w v l):∀k∈own v,k < w.heap.size:=Sl.own_lt h
theorem SE.chg (h:SE enc size e w v l) {F:List Nat} (hc:Chg F w w') (hF:∀k∈own v,k∉F):SE enc size e w' v l:=Sl.chg h hc fun k hk=>hF k (ip.2 hk)
theorem RE.chg (h:RE enc size w v l) {F:List Nat} (hc:Chg F w w') (hF:∀k∈own v,k∉F):RE enc size w' v l:=Rd.chg h hc fun k hk=>hF k (ip.2 hk)
theorem SE.stay (h:SE enc size e w v l) (hc:Chg [] w w'):SE enc size e w' v l:=h.chg hc (fun _ _ h=>by cases h)
theorem RE.stay (h:RE enc size w v l) (hc:Chg [] w w'):RE enc size w' v l:=h.chg hc (fun _ _ h=>by cases h)
theorem SE.addr {A:Option Addr} {n c:Nat} (h:SE enc size e w (.slice A n c) l) (hn:0 < n):∃g off,A = some ⟨g,off,none⟩:=by obtain ⟨A',c',e'⟩:=h.form;injection e' with _ e2 _;subst e2;exact Sl.addr h hn
theorem RE.addr {A:Option Addr} {n c:Nat} (h:RE enc size w (.slice A n c) l) (hn:0 < n):∃g off,A = some ⟨g,off,none⟩:=by obtain ⟨A',c',e'⟩:=h.form;injection e' with _ e2 _;subst e2;exact Rd.addr h hn
theorem SE.frozen {g off n c:Nat} (h:SE enc size e w (.slice (some ⟨g,off,none⟩) n c) l) (i:Nat):w.frozen? ⟨g,i,none⟩ = false:=by obtain ⟨cur,hb⟩:=Sl.blk h (k:=g) (by simp [own,Value.ownBlock]);exact hb.frozen i
theorem RE.cell (he:∀x,(enc x).length = size) {g off n c:Nat} (h:RE enc size w (.slice (some ⟨g,off,none⟩) n c) l) {k j:Nat} (hk:k < l.length) (hj:j < size) {u:Value} (hu:(enc l[k])[j]? = some u):w.cell? ⟨g,off+k * size+j,none⟩ = some u:=by obtain ⟨g',off',c',e,_,Cj⟩:=Rd.at_ h hk;injection e with e _ _;injection e with e;injection e with e1 e2;subst e1;subst e2;obtain ⟨u',FM,hc⟩:=Cj j hj;rw [ut he _ _ _ hk hj,hu] at FM;injection FM with FM;subst FM;exact hc
theorem SE.set (he:∀x,(enc x).length = size) {g off n c:Nat} (h:SE enc size e w (.slice (some ⟨g,off,none⟩) n c) l) {k j:Nat} (hk:k < l.length) (hj:j < size) {u:Value} {x:α} (hx:enc x = (enc l[k]).set j u):SE enc size e (w.setCell ⟨g,off+(k * size+j),none⟩ u) (.slice (some ⟨g,off,none⟩) n c) (l.set k x):=by obtain ⟨A,c',e⟩:=h.form;injection e with _ e2 _;subst e2;unfold SE at h ⊢;rw [List.length_set,fc_set he l k j hk hj u x hx];refine h.setc ?_ u;have:(k+1) * size≤l.length * size:=Nat.mul_le_mul_right _ (by omega);rw [Nat.add_mul] at this;omega
end
end Go.Proofs.YtfoleblcaloeoaaGreatDoor
namespace Go.Proofs.YtfoleblcaloeoaaGreatDoor
abbrev Cf:=Nat→Int
structure jx (c:Cf):Prop where
 n1:1≤c 0
 n8:c 0≤8
 p1:1≤c 1
 p16:c 1≤16
 s0:0≤c 90
 s1:c 90≤1024
 home:∀i:Nat,i < 16→(i:Int) < c 1→0≤c (2+i)∧c (2+i) < c 0
 home0:∀i:Nat,i < 16→c 1≤(i:Int)→c (2+i) = 0
 fr:∀i:Nat,i < 8→(i:Int) < c 0→4≤c (18+i)∧c (18+i)≤128∧c 93≤c (18+i)
 fr0:∀i:Nat,i < 8→c 0≤(i:Int)→c (18+i) = 0
 ds0:∀i k:Nat,i < 8→k < 8→c 0≤(i:Int)∨c 0≤(k:Int)∨i = k→c (26+i * 8+k) = 0
 ds1:∀i k:Nat,i < 8→k < 8→(i:Int) < c 0→(k:Int) < c 0→i≠k→1≤c (26+i * 8+k)∧c (26+i * 8+k)≤255∧c (26+i * 8+k) = c (26+k * 8+i)
 mi:0≤c 91
 lo:c 91≤c 92
 hi:c 92≤c 93
open Classical in
noncomputable def mayB (c:Cf):Bool:=decide (jx c)
theorem mayB_iff {c:Cf}:mayB c = true↔jx c:=by simp [mayB]
end Go.Proofs.YtfoleblcaloeoaaGreatDoor
namespace Go.Proofs.YtfoleblcaloeoaaGreatDoor
open Go Go.RowKit Go.ChangeShapes Go.WideShapes Go.Deep Go.ChangeAt
section
variable {H:Type} {enc:TypeId × Value→H} {P:Program} {w:World} {base:Nat} {spare:Nat→Bool} {held:Bool}
end
section
variable {H:Type} {enc:TypeId × Value→H} {P:Program}
theorem zf {f:Func} {s:ChangeSpec} {apart fresh handsOn again:Bool} {W W':World} {args:Array Value} {v:Value} {ds gs:List (DataW H)} {before pa pv:List MemPlace}
  (hW:DataW.Whole enc P f.params.toList s.vars apart W args.toList ds gs before)
  (hres:∀(b:Nat) (sp:Nat→Bool) (hd:Bool),DataW.TrodAll enc P W' b sp hd f.resultTypes.toList (v.resultList f.resultTypes.size) (s.fn H (ds ++ gs)).results [])
  (AD:∀sp:Nat→Bool,(∀p∈before,sp p.block = true)→DataW.TrodAll enc P W' 0 sp true f.params.toList args.toList (s.fn H (ds ++ gs)).args pa)
  (hvars:∀sp:Nat→Bool,(∀p∈before,sp p.block = true)→DataW.TrodVars enc P W' sp s.vars (s.fn H (ds ++ gs)).vars pv)
  (EC:before = pa ++ pv) (hb:Below W.heap.size W W')
  (oV:∀(j:Nat) (t:TypeId) (r:Value),f.resultTypes[j]? = some t→(v.resultList f.resultTypes.size)[j]? = some r→Value.okWide P W' .any 0 t r) :
  s.post enc P f apart fresh handsOn again W args v W':=by
 have kG:∀p∈before,p.block < W.heap.size:=fun p hp=>hW.lt p hp;have nK:∀p∈before,(fun b=>decide (b < W.heap.size)) p.block = true:=fun p hp=>by simpa using kG p hp
 refine ⟨ds,gs,before,[],pa,pv,hW,hres _ _ _,AD _ nK,hvars _ nK,World.keptBut_mono (fun p hp=>⟨hp,?_⟩) (hb.frame (·∈before)),fun _=>?_⟩
 ·rw [EC,List.mem_append] at hp;exact Or.inr hp
 ·obtain ⟨_,_,_,_,_,hz,hn⟩:=hW;refine ⟨oV,_,_,([] ++ pa) ++ pv,⟨[] ++ pa,pv,trodAll_append (AD _ (fun _ _=>rfl)) (hres _ _ _),hvars _ (fun _ _=>rfl),rfl,?_,?_⟩,?_⟩
  ·intro b off hp;have AP:MemPlace.cell b off∈before:=(by rw [EC];simpa using hp);rw [hb.frozen (kG _ AP)];exact hz b off AP
  ·intro ha;have:=hn ha;rw [EC] at this;simpa using this
  ·intro p hp _;rw [EC];simpa using hp
end
section
variable {H:Type} {enc:TypeId × Value→H} {P:Program}
theorem zx {W W':World} {sp:Nat→Bool} (hl:laidOutB P = true) (hb:Below W.heap.size W W'):∀(ts:List TypeId) (vs:List Value) (ds:List (DataW H)) (ps:List MemPlace),
  (∀t∈ts,P.readableRec t = true∧t < P.types.size)→DataW.TrodAll enc P W 0 (fun _=>true) true ts vs ds ps→(∀x∈ps,x.block < W.heap.size)→(∀x∈ps,sp x.block = true)→DataW.TrodAll enc P W' 0 sp true ts vs ds ps
 | [],vs,ds,ps,_,h,_,_=>by
  obtain ⟨rfl,rfl,rfl⟩:=trodAll_nil h
  exact trodAll_mk0
 | t :: ts,vs,ds,ps,hr,h,kG,hsp=>by
  obtain ⟨v,vs',d,ds',p,q,rfl,rfl,rfl,h1,h2⟩:=trodAll_cons h
  refine ⟨p,q,WideElems.Trod_stays hl (hr t (List.mem_cons_self ..)).1 (hr t (List.mem_cons_self ..)).2 h1 (fun x hx=>hb.same (kG x (List.mem_append_left _ hx))) (fun x hx=>hsp x (List.mem_append_left _ hx)),?_,rfl⟩
  exact zx hl hb ts vs' ds' q (fun t ht=>hr t (List.mem_cons_of_mem _ ht)) h2 (fun x hx=>kG x (List.mem_append_right _ hx)) (fun x hx=>hsp x (List.mem_append_right _ hx))
theorem law_end {f:Func} {s:ChangeSpec} {apart:Bool} {W W':World} {args:Array Value} {ds:List (DataW H)} {before:List MemPlace} {tb:TypeId}
  (hspec:(s.fn H (ds ++ [])).results = [.lit (.bool true)]∧(s.fn H (ds ++ [])).args = ds∧(s.fn H (ds ++ [])).vars = []) (hvars:s.vars = []) (qS:f.resultTypes = #[tb]) (htb:P.underlying tb = some .bool) (hl:laidOutB P = true)
  (rC:(f.params.toList.all fun t=>P.readableRec t && decide (t < P.types.size)) = true)
  (hW:DataW.Whole enc P f.params.toList s.vars apart W args.toList ds [] before) (hb:Below W.heap.size W W'):s.post enc P f apart true false false W args (.bool true) W':=by
 have hr:∀t∈f.params.toList,P.readableRec t = true∧t < P.types.size:=fun t ht=>by
  have:=List.all_eq_true.1 rC t ht;simpa using this
 have hW':=hW;obtain ⟨p,q,hA,hV,rfl,xI,rA⟩:=hW;rw [hvars] at hV;obtain ⟨_,rfl⟩:=trodVars_none hV;refine zf (pa:=p) (pv:=[]) hW' (fun _ _ _=>?_) (fun sp hsp=>?_) (fun sp _=>?_) rfl hb ?_
 ·rw [hspec.1,qS];exact trodAll_mk1 (shut_bool htb true)
 ·rw [hspec.2.1];exact zx hl hb _ _ _ _ hr hA (fun x hx=>hW'.lt x (List.mem_append_left _ hx)) (fun x hx=>hsp x (List.mem_append_left _ hx))
 ·rw [hspec.2.2,hvars];rfl
 ·exact ok_one (by rw [qS]) rfl (okWide_bool_mk htb true)
end
theorem iC {α:Type} {p:Nat→α→Prop}:∀{n:Nat},(∀i,i < n→∃a,p i a)→∃l:List α,l.length = n∧∀i (h:i < l.length),p i l[i]
 | 0,_=>⟨[],rfl,fun i h=>by cases h⟩
 | n+1,h=>by
  obtain ⟨l,hl,hp⟩:=iC (n:=n) (fun i hi=>h i (by omega))
  obtain ⟨a,ha⟩:=h n (by omega)
  refine ⟨l ++ [a],by simp [hl],fun i hi=>?_⟩
  by_cases AP:i < l.length
  ·rw [List.getElem_append_left AP];exact hp i AP
  ·have:i = l.length:=by simp at hi;omega
   subst this
   simp only [List.getElem_concat_length]
   rw [hl];exact ha
variable {v:Value} {w:World}
theorem xy {a:Addr} (h:w.cell? (a.add 0) = some v):∃g off,a = ⟨g,off,none⟩:=by
 obtain ⟨b,o,s⟩:=a;cases s with
 | none=>exact ⟨b,o,rfl⟩
 | some s =>
  exfalso;have e:(⟨b,o,some s⟩:Addr).add 0 = ⟨b,o,some s⟩:=by unfold Addr.add;rfl
  rw [e] at h;unfold World.cell? at h;split at h <;> simp at h
section
variable {H:Type} {enc:TypeId × Value→H} {P:Program} {w:World} {base:Nat} {spare:Nat→Bool} {held:Bool}
def Parts (enc:TypeId × Value→H) (P:Program) (w:World) (base:Nat) (spare:Nat→Bool) (held:Bool) (n:Nat) (fs:Array Field) (cs:List Value):Prop :=
 ∀(i:Nat) (f:Field),fs[i]? = some f→∃y,DataW.trod enc P w base spare held n f.type ((cs.drop f.offset).take (P.cellsOf f.type)) = some y
theorem na {t:TypeId} {fs:Array Field} {fuel:Nat} {cs:List Value} {x:DataW H × List MemPlace} (ht:P.underlying t = some (.struct fs)) (h:DataW.trod enc P w base spare held fuel t cs = some x) :
  ∃n,Parts enc P w base spare held n fs cs:=by
 obtain ⟨ys,n,_,_,_,hl,hf⟩:=DataW.trod_struct ht h;refine ⟨n,fun i f hi=>?_⟩;have h1:=hf i f hi;have kG:i < ys.length:=by rw [hl];exact (Array.getElem?_eq_some_iff.1 hi).1
 exact ⟨_,h1.trans (List.getElem?_eq_getElem kG)⟩
theorem dv {n:Nat} {fs:Array Field} {cs:List Value} (h:Parts enc P w base spare held n fs cs) (i:Nat) {f:Field} (hi:fs[i]? = some f) (T o c:Nat) (hT:f.type = T) (ho:f.offset = o) (hc:P.cellsOf T = c) :
  ∃y,DataW.trod enc P w base spare held n T ((cs.drop o).take c) = some y:=by
 subst hT;subst ho;subst hc;exact h i f hi
end
