/- Texts merged for the claim. -/
import Derived.Test.YtfoleblcaloeoaaGreatDoorZba
import Derived.Test.YtfoleblcaloeoaaGreatDoorZbd
set_option maxHeartbeats 40000000
set_option maxRecDepth 20000
namespace Go.Proofs.YtfoleblcaloeoaaGreatDoor
open Go Go.RowKit
def cSp:Cl:={ zCl with k:=1 }
def cMm (g c:Int) (r:Nat):Cl:={ zCl with k:=3,p:=1,g:=g,c:=c,r:=r }
def cLd (a s:Int):Cl:={ zCl with k:=8,p:=1,a:=a,s:=s }
def cKm:Cl:={ zCl with k:=10,s:=8 }
theorem sp_built:BC [(0,.int .u8 1)] cSp zV:=⟨by kernel_rfl⟩
theorem km_built:BC [(0,.int .u8 10),(6,.int .i64 8)] cKm zV:=⟨by kernel_rfl⟩
theorem iG:BC [(0,.int .u8 3),(1,.int .i64 1),(4,.int .i64 2),(7,.int .u8 3)] (cMm 0 2 3) zV:=⟨by kernel_rfl⟩
theorem iD:BC [(0,.int .u8 8),(1,.int .i64 1),(5,.int .i64 5),(6,.int .i64 2)] (cLd 5 2) zV:=⟨by kernel_rfl⟩
theorem sp_ok:cSp.Ok:=by constructor <;> simp [cSp,zCl]
theorem km_ok:cKm.Ok:=by constructor <;> simp [cKm,zCl]
theorem mm0_ok:(cMm 0 2 3).Ok:=by constructor <;> simp [cMm,zCl]
theorem ld0_ok:(cLd 5 2).Ok:=by constructor <;> simp [cLd,zCl]
theorem sp_nw {c:Cf} (h:mayB c = true):ci c cSp = false:=nw_of h (by decide) (by decide) (by decide) (by decide) (by decide) (by decide) (by decide) (by decide) (by decide)
theorem km_nw {c:Cf} (h:mayB c = true):ci c cKm = false:=nw_of h (by decide) (by decide) (by decide) (by decide) (by decide) (by decide) (by decide) (by decide) (by decide)
theorem mm0_nw {c:Cf} (h:mayB c = true):ci c (cMm 0 2 3) = false:=nw_of h (by decide) (by decide) (by decide) (by decide) (by decide) (by decide) (by decide) (by decide) (by decide)
theorem ld0_nw {c:Cf} (h:mayB c = true):ci c (cLd 5 2) = false:=nw_of h (by decide) (by decide) (by decide) (by decide) (by decide) (by decide) (by decide) (by decide) (by decide)
theorem zn {e:Int} {v:Nat} (h1:0≤e∧e≤1000) (h2:v < 18446744073709551616):(⟨e,v,[]⟩:Rs).Ok:=⟨⟨by show _≤e;omega,by show e≤_;omega⟩,h2,fun _ h=>by cases h⟩
def K1:Mo:={ nk rx with pr:=upd (fun _=>none) 1 (some jf) }
def K3:Mo:={ K1 with pr:=upd K1.pr 1 (some (ch jf (cMm 0 2 3)).2) }
def K6:Mo:={ K3 with ob:=upd K3.ob (7:Nat) (some (List.replicate 8 0)),ev:=upd K3.ev (7:Nat) true }
theorem k1:fv (nk rx) cSp ⟨0,1,[]⟩ = true∧ic (nk rx) cSp ⟨0,1,[]⟩ = K1:=by
 refine ⟨by rw [kq _ (sp_nw ia)];rfl,by rw [tm (sp_nw ia) rfl rfl rfl];rfl⟩
theorem k2:fv K1 cSp ⟨0,3,[]⟩ = false:=by rw [kq _ (sp_nw ia)];rfl
theorem k3:fv K1 (cMm 0 2 3) ⟨0,0,[]⟩ = true∧ic K1 (cMm 0 2 3) ⟨0,0,[]⟩ = K3 :=
 ⟨by rw [kq _ (mm0_nw ia)];rfl,by rw [tm (mm0_nw ia) rfl rfl rfl];rfl⟩
theorem k4:fv K3 (cLd 5 2) ⟨0,0,[0,0]⟩ = true∧ic K3 (cLd 5 2) ⟨0,0,[0,0]⟩ = K3 :=
 ⟨by rw [kq _ (ld0_nw ia)];rfl,by rw [tm (ld0_nw ia) rfl rfl rfl];rfl⟩
theorem k5:fv K3 cKm ⟨0,0,[]⟩ = false:=by rw [kq _ (km_nw ia)];rfl
theorem k6:fv K3 cKm ⟨0,7,[]⟩ = true∧ic K3 cKm ⟨0,7,[]⟩ = K6 :=
 ⟨by rw [kq _ (km_nw ia)];rfl,by rw [tm (km_nw ia) rfl rfl rfl];rfl⟩
theorem k7:fv K6 cKm ⟨0,7,[]⟩ = false:=by rw [kq _ (km_nw ia)];rfl
theorem iB {w:World} (hf:FW w):Calls Tryz.prog 7 #[] w fun e w'=>e = .returned (.bool true)∧Chg [] w w':=by
 have HF:=ah hf
 have D1:=ah sp_built
 have D3:=ah iG
 have D4:=ah iD
 have D5:=ah km_built
 have E0:=ah br_0
 have E1:=ah (br_v 1)
 have E3:=ah (br_v 3)
 have E7:=ah (br_v 7)
 have HO:=ah (fun W=>one_any W)
 clear hf
 go_enter Tryz.func7,Tryz.ntmps7
 go_wp2_with fail
 refine (HO.out _).mono ?_
 rintro e W0 ⟨rfl,nH⟩
 have AC:=ah nH
 clear nH
 go_wp2_with fail
 refine (New_ms (L:=[]) ia AC.out (fun k hk=>by cases hk)).mono ?_
 rintro e W0' ⟨⟨m,rfl,hms⟩,-⟩
 have HM0:=ah hms
 clear hms
 go_wp2_with (first|refine bq _ rfl ?_ D1.out ?_ ?_;(focus (simp [Region.wanted,yielded,Act.put];done));(focus (simp [Act.eval,Act.put];done))|refine bq _ rfl ?_ D3.out ?_ ?_;(focus (simp [Region.wanted,yielded,Act.put];done));(focus (simp [Act.eval,Act.put];done))|refine bq _ rfl ?_ D5.out ?_ ?_;(focus (simp [Region.wanted,yielded,Act.put];done));(focus (simp [Act.eval,Act.put];done))|refine bq _ rfl ?_ D4.out ?_ ?_;(focus (simp [Region.wanted,yielded,Act.put];done));(focus (simp [Act.eval,Act.put];done))|refine bk _ rfl ?_ E1.out ?_ ?_;(focus (simp [Region.wanted,yielded,Act.put];done));(focus (simp [Act.eval,Act.put];done))|refine bk _ rfl ?_ E3.out ?_ ?_;(focus (simp [Region.wanted,yielded,Act.put];done));(focus (simp [Act.eval,Act.put];done))|refine bk _ rfl ?_ E7.out ?_ ?_;(focus (simp [Region.wanted,yielded,Act.put];done));(focus (simp [Act.eval,Act.put];done))|refine bk _ rfl ?_ E0.out ?_ ?_;(focus (simp [Region.wanted,yielded,Act.put];done));(focus (simp [Act.eval,Act.put];done)))
 refine (nz (r:=⟨0,1,[]⟩) HM0.out HF.out sp_ok (RE.nil ucl 1 _ none 0) (zn (by omega) (by omega)) (RE.nil ucl 1 _ none 0)).mono ?_
 rintro e W1 ⟨rfl,hms,-⟩
 rw [k1.1]
 rw [k1.2] at hms
 have Ac:=ah hms
 clear hms
 go_wp2_with (first|refine bq _ rfl ?_ D1.out ?_ ?_;(focus (simp [Region.wanted,yielded,Act.put];done));(focus (simp [Act.eval,Act.put];done))|refine bq _ rfl ?_ D3.out ?_ ?_;(focus (simp [Region.wanted,yielded,Act.put];done));(focus (simp [Act.eval,Act.put];done))|refine bq _ rfl ?_ D5.out ?_ ?_;(focus (simp [Region.wanted,yielded,Act.put];done));(focus (simp [Act.eval,Act.put];done))|refine bq _ rfl ?_ D4.out ?_ ?_;(focus (simp [Region.wanted,yielded,Act.put];done));(focus (simp [Act.eval,Act.put];done))|refine bk _ rfl ?_ E1.out ?_ ?_;(focus (simp [Region.wanted,yielded,Act.put];done));(focus (simp [Act.eval,Act.put];done))|refine bk _ rfl ?_ E3.out ?_ ?_;(focus (simp [Region.wanted,yielded,Act.put];done));(focus (simp [Act.eval,Act.put];done))|refine bk _ rfl ?_ E7.out ?_ ?_;(focus (simp [Region.wanted,yielded,Act.put];done));(focus (simp [Act.eval,Act.put];done))|refine bk _ rfl ?_ E0.out ?_ ?_;(focus (simp [Region.wanted,yielded,Act.put];done));(focus (simp [Act.eval,Act.put];done)))
 refine (nz (r:=⟨0,3,[]⟩) Ac.out HF.out sp_ok (RE.nil ucl 1 _ none 0) (zn (by omega) (by omega)) (RE.nil ucl 1 _ none 0)).mono ?_
 rintro e W2 ⟨rfl,hms,-⟩
 rw [k2]
 rw [xe k2] at hms
 have HM2:=ah hms
 clear hms
 go_wp2_with (first|refine bq _ rfl ?_ D1.out ?_ ?_;(focus (simp [Region.wanted,yielded,Act.put];done));(focus (simp [Act.eval,Act.put];done))|refine bq _ rfl ?_ D3.out ?_ ?_;(focus (simp [Region.wanted,yielded,Act.put];done));(focus (simp [Act.eval,Act.put];done))|refine bq _ rfl ?_ D5.out ?_ ?_;(focus (simp [Region.wanted,yielded,Act.put];done));(focus (simp [Act.eval,Act.put];done))|refine bq _ rfl ?_ D4.out ?_ ?_;(focus (simp [Region.wanted,yielded,Act.put];done));(focus (simp [Act.eval,Act.put];done))|refine bk _ rfl ?_ E1.out ?_ ?_;(focus (simp [Region.wanted,yielded,Act.put];done));(focus (simp [Act.eval,Act.put];done))|refine bk _ rfl ?_ E3.out ?_ ?_;(focus (simp [Region.wanted,yielded,Act.put];done));(focus (simp [Act.eval,Act.put];done))|refine bk _ rfl ?_ E7.out ?_ ?_;(focus (simp [Region.wanted,yielded,Act.put];done));(focus (simp [Act.eval,Act.put];done))|refine bk _ rfl ?_ E0.out ?_ ?_;(focus (simp [Region.wanted,yielded,Act.put];done));(focus (simp [Act.eval,Act.put];done)))
 refine (nz (r:=⟨0,0,[]⟩) HM2.out HF.out mm0_ok (RE.nil ucl 1 _ none 0) (zn (by omega) (by omega)) (RE.nil ucl 1 _ none 0)).mono ?_
 rintro e W3 ⟨rfl,hms,-⟩
 rw [k3.1]
 rw [k3.2] at hms
 have HM3:=ah hms
 clear hms
 go_wp2_with (first|refine bq _ rfl ?_ D1.out ?_ ?_;(focus (simp [Region.wanted,yielded,Act.put];done));(focus (simp [Act.eval,Act.put];done))|refine bq _ rfl ?_ D3.out ?_ ?_;(focus (simp [Region.wanted,yielded,Act.put];done));(focus (simp [Act.eval,Act.put];done))|refine bq _ rfl ?_ D5.out ?_ ?_;(focus (simp [Region.wanted,yielded,Act.put];done));(focus (simp [Act.eval,Act.put];done))|refine bq _ rfl ?_ D4.out ?_ ?_;(focus (simp [Region.wanted,yielded,Act.put];done));(focus (simp [Act.eval,Act.put];done))|refine bk _ rfl ?_ E1.out ?_ ?_;(focus (simp [Region.wanted,yielded,Act.put];done));(focus (simp [Act.eval,Act.put];done))|refine bk _ rfl ?_ E3.out ?_ ?_;(focus (simp [Region.wanted,yielded,Act.put];done));(focus (simp [Act.eval,Act.put];done))|refine bk _ rfl ?_ E7.out ?_ ?_;(focus (simp [Region.wanted,yielded,Act.put];done));(focus (simp [Act.eval,Act.put];done))|refine bk _ rfl ?_ E0.out ?_ ?_;(focus (simp [Region.wanted,yielded,Act.put];done));(focus (simp [Act.eval,Act.put];done))|refine bk _ rfl ?_ (br_l (some ⟨W3.heap.size,0,none⟩) 2 2 [0,0]) ?_ ?_;(focus (simp [Region.wanted,yielded,Act.put];done));(focus (simp [Act.eval,Act.put];done)))
 refine (nz (r:=⟨0,0,[0,0]⟩) (HM3.out.stay ((Chg.refl [] W3).alloc _)) HF.out ld0_ok (RE.nil ucl 1 _ none 0) ⟨by decide,by decide,by decide⟩ (vw W3 5 1 2 (fc ucl [0,0]) rfl)).mono ?_
 rintro e W4 ⟨rfl,hms,-⟩
 rw [k4.1]
 rw [k4.2] at hms
 have HM4:=ah hms
 clear hms
 go_wp2_with (first|refine bq _ rfl ?_ D1.out ?_ ?_;(focus (simp [Region.wanted,yielded,Act.put];done));(focus (simp [Act.eval,Act.put];done))|refine bq _ rfl ?_ D3.out ?_ ?_;(focus (simp [Region.wanted,yielded,Act.put];done));(focus (simp [Act.eval,Act.put];done))|refine bq _ rfl ?_ D5.out ?_ ?_;(focus (simp [Region.wanted,yielded,Act.put];done));(focus (simp [Act.eval,Act.put];done))|refine bq _ rfl ?_ D4.out ?_ ?_;(focus (simp [Region.wanted,yielded,Act.put];done));(focus (simp [Act.eval,Act.put];done))|refine bk _ rfl ?_ E1.out ?_ ?_;(focus (simp [Region.wanted,yielded,Act.put];done));(focus (simp [Act.eval,Act.put];done))|refine bk _ rfl ?_ E3.out ?_ ?_;(focus (simp [Region.wanted,yielded,Act.put];done));(focus (simp [Act.eval,Act.put];done))|refine bk _ rfl ?_ E7.out ?_ ?_;(focus (simp [Region.wanted,yielded,Act.put];done));(focus (simp [Act.eval,Act.put];done))|refine bk _ rfl ?_ E0.out ?_ ?_;(focus (simp [Region.wanted,yielded,Act.put];done));(focus (simp [Act.eval,Act.put];done)))
 refine (nz (r:=⟨0,0,[]⟩) HM4.out HF.out km_ok (RE.nil ucl 1 _ none 0) (zn (by omega) (by omega)) (RE.nil ucl 1 _ none 0)).mono ?_
 rintro e W5 ⟨rfl,hms,-⟩
 rw [k5]
 rw [xe k5] at hms
 have rI:=ah hms
 clear hms
 go_wp2_with (first|refine bq _ rfl ?_ D1.out ?_ ?_;(focus (simp [Region.wanted,yielded,Act.put];done));(focus (simp [Act.eval,Act.put];done))|refine bq _ rfl ?_ D3.out ?_ ?_;(focus (simp [Region.wanted,yielded,Act.put];done));(focus (simp [Act.eval,Act.put];done))|refine bq _ rfl ?_ D5.out ?_ ?_;(focus (simp [Region.wanted,yielded,Act.put];done));(focus (simp [Act.eval,Act.put];done))|refine bq _ rfl ?_ D4.out ?_ ?_;(focus (simp [Region.wanted,yielded,Act.put];done));(focus (simp [Act.eval,Act.put];done))|refine bk _ rfl ?_ E1.out ?_ ?_;(focus (simp [Region.wanted,yielded,Act.put];done));(focus (simp [Act.eval,Act.put];done))|refine bk _ rfl ?_ E3.out ?_ ?_;(focus (simp [Region.wanted,yielded,Act.put];done));(focus (simp [Act.eval,Act.put];done))|refine bk _ rfl ?_ E7.out ?_ ?_;(focus (simp [Region.wanted,yielded,Act.put];done));(focus (simp [Act.eval,Act.put];done))|refine bk _ rfl ?_ E0.out ?_ ?_;(focus (simp [Region.wanted,yielded,Act.put];done));(focus (simp [Act.eval,Act.put];done)))
 refine (nz (r:=⟨0,7,[]⟩) rI.out HF.out km_ok (RE.nil ucl 1 _ none 0) (zn (by omega) (by omega)) (RE.nil ucl 1 _ none 0)).mono ?_
 rintro e W6 ⟨rfl,hms,-⟩
 rw [k6.1]
 rw [k6.2] at hms
 have AI:=ah hms
 clear hms
 go_wp2_with (first|refine bq _ rfl ?_ D1.out ?_ ?_;(focus (simp [Region.wanted,yielded,Act.put];done));(focus (simp [Act.eval,Act.put];done))|refine bq _ rfl ?_ D3.out ?_ ?_;(focus (simp [Region.wanted,yielded,Act.put];done));(focus (simp [Act.eval,Act.put];done))|refine bq _ rfl ?_ D5.out ?_ ?_;(focus (simp [Region.wanted,yielded,Act.put];done));(focus (simp [Act.eval,Act.put];done))|refine bq _ rfl ?_ D4.out ?_ ?_;(focus (simp [Region.wanted,yielded,Act.put];done));(focus (simp [Act.eval,Act.put];done))|refine bk _ rfl ?_ E1.out ?_ ?_;(focus (simp [Region.wanted,yielded,Act.put];done));(focus (simp [Act.eval,Act.put];done))|refine bk _ rfl ?_ E3.out ?_ ?_;(focus (simp [Region.wanted,yielded,Act.put];done));(focus (simp [Act.eval,Act.put];done))|refine bk _ rfl ?_ E7.out ?_ ?_;(focus (simp [Region.wanted,yielded,Act.put];done));(focus (simp [Act.eval,Act.put];done))|refine bk _ rfl ?_ E0.out ?_ ?_;(focus (simp [Region.wanted,yielded,Act.put];done));(focus (simp [Act.eval,Act.put];done)))
 refine (nz (r:=⟨0,7,[]⟩) AI.out HF.out km_ok (RE.nil ucl 1 _ none 0) (zn (by omega) (by omega)) (RE.nil ucl 1 _ none 0)).mono ?_
 rintro e W7 ⟨rfl,hms,-⟩
 rw [k7]
 have HM7:=ah hms
 clear hms
 go_wp2_with fail
 go_ret
 exact ⟨rfl,HM7.out.chg⟩
theorem dT:∀(l m:List Int),l.Pairwise (·≠·)→(∀a∈l,a∈m)→l.length≤m.length
 | [],_,_,_=>Nat.zero_le _
 | a :: l,m,hp,h=>by
  rw [List.pairwise_cons] at hp
  have ha:a∈m:=h a (List.mem_cons_self ..)
  have h1:(m.erase a).length = m.length - 1:=List.length_erase_of_mem ha
  have h2:=dT l (m.erase a) hp.2 (fun b hb=>(List.mem_erase_of_ne (fun e=>hp.1 b hb e.symm)).2 (h b (List.mem_cons_of_mem _ hb)))
  have h3:0 < m.length:=List.length_pos_of_mem ha
  rw [List.length_cons]
  omega
def keyZ:MapEntry→Int:=fun e=>match e.key with | .int _ z=>z | _=>0
theorem fS {k:IntKind} {l:List MapEntry} (hk:yl k l) (hd:vr l):(l.map keyZ).Pairwise (·≠·)∧∀z,z∈l.map keyZ↔((dr k z l 0).map (·.2)).isSome = true:=by
 refine ⟨?_,fun z=>?_⟩
 ·rw [List.pairwise_map]
  refine List.Pairwise.imp_of_mem ?_ hd
  intro a b ha hb jO e
  obtain ⟨x,hx⟩:=hk a ha
  obtain ⟨y,hy⟩:=hk b hb
  unfold keyZ at e
  rw [hx,hy] at e
  exact jO (by rw [hx,hy,show x = y from e])
 ·constructor
  ·intro hz
   obtain ⟨e,he,rfl⟩:=List.mem_map.1 hz
   obtain ⟨x,hx⟩:=hk e he
   have:keyZ e = x:=by unfold keyZ;rw [hx]
   rw [this,tc hd he hx];rfl
  ·intro hz
   cases h6:dr k z l 0 with
   | none=>rw [h6] at hz;cases hz
   | some p =>
    obtain ⟨i,v⟩:=p
    obtain ⟨j,_,hj,h7,h8⟩:=fg _ _ h6
    refine List.mem_map.2 ⟨_,List.getElem_mem hj,?_⟩
    unfold keyZ;rw [h7]
theorem map_lens {t kt e:TypeId} {k:IntKind} {w:World} {b b':Nat} {f g:Int→Option Value} (ht:Tryz.prog.underlying t = some (.map kt e)) (h:MapB w b k f) (h':MapB w b' k g) (hfg:∀z,(f z).isSome = (g z).isSome) :
  ∃n:Nat,(∀ty,(Builtin.len_ #[t] ty #[.map (some b)]).run Tryz.prog w = .ok (.int .i64 n) w)∧∀ty,(Builtin.len_ #[t] ty #[.map (some b')]).run Tryz.prog w = .ok (.int .i64 n) w:=by
 obtain ⟨es,c,h1,h2,h3,h4,h5⟩:=h
 obtain ⟨es',c',h1',oG,h3',h4',FF⟩:=h'
 obtain ⟨p1,p2⟩:=fS h2 h3
 obtain ⟨q1,q2⟩:=fS oG h3'
 have e1:∀z,z∈es.toList.map keyZ↔z∈es'.toList.map keyZ:=fun z=>by rw [p2,q2,h5,FF,hfg]
 have l1:=dT _ _ p1 (fun a ha=>(e1 a).1 ha)
 have l2:=dT _ _ q1 (fun a ha=>(e1 a).2 ha)
 rw [List.length_map,List.length_map] at l1 l2
 have e2:es'.size = es.size:=by have:=Array.length_toList (xs:=es);have:=Array.length_toList (xs:=es');omega
 refine ⟨es.size,fun ty=>?_,fun ty=>?_⟩
 ·simp [Builtin.len_,run_underlying ht,MapKept.run_getObj_map h1,goInt]
 ·rw [← e2]
  simp [Builtin.len_,run_underlying ht,MapKept.run_getObj_map h1',goInt]
theorem dS {w:World} {b1 b2:Nat} {f1 f2:Int→Option Value} (h1:MapB w b1 .u64 f1) (h2:MapB w b2 .u64 f2) (hd:∀z,(f1 z).isSome = (f2 z).isSome)
  (he:∀z v u,f1 z = some v→f2 z = some u→∃B,RB w v B∧RB w u B∧∀x∈B,x < 256) :
  Calls Tryz.prog 45 #[.map (some b1),.map (some b2),.func (.func 46) #[] #[]] w fun e w'=>e = .returned (.bool true)∧Chg [] w w':=by
 obtain ⟨n,l1,l2⟩:=map_lens Tryz.underlying59 h1 h2 hd
 have H1:=ah h1
 have H2:=ah (fun W (h:Chg [] w W)=>h2.chg h ab)
 have HD:=ah hd
 have HE:=ah he
 clear h1 h2 hd he
 go_enter Tryz.func45,Tryz.ntmps45
 go_wp2_with (refine gi rfl _ rfl Tryz.underlying59 rfl H1.out ?_;intro w0 n0 nJ nH qU;go_simp)
 have xP:=ah nJ
 have AC:=ah nH
 clear nJ nH l1 l2 qU
 go_loopw [] (fun wr=>∃left n,Hid (MapIt wr b1 w.heap.size .u64 f1 left n)∧Hid (Chg [] w wr)) (fun wr=>si wr b1 w.heap.size)
 case atStart=>exact ⟨_,_,xP,AC⟩
 case round =>
  obtain ⟨left,n,nJ,jV⟩:=hrel
  have mV:=nJ.out.left_eq
  go_wp2_with (refine ie rfl _ rfl rfl nJ.out ?_ ?_)
  ·intro g1 g2
   have HC:=ah jV.out
   clear nJ jV mV g1 g2
   go_wp2_with fail
   go_ret
   exact ⟨rfl,HC.out⟩
  ·intro z v w' n' g1 g2 g3 g4 g5 g6 g7
   have HCw:=ah (show Chg [] w w' from jV.out.trans g5 (fun y hy=>.inr (by obtain rfl:=aa hy;omega)))
   obtain ⟨u,hu⟩:∃u,f2 z = some u:=by
    have:=HD.out z
    rw [g2] at this
    cases hq:f2 z with
    | none=>rw [hq] at this;cases this
    | some u=>exact ⟨u,rfl⟩
   obtain ⟨B,r1,r2,r3⟩:=HE.out z v u g2 hu
   have rF:=dy Tryz.underlying59 Tryz.underlying37 (H2.out w' HCw.out) hu true
   have hEQ:=tu (r1.stay HCw.out) (r2.stay HCw.out) r3 r3
   rw [ae rfl] at hEQ
   have Cu:=ah hEQ
   have qZ:=ah g3
   clear nJ jV g1 g2 g3 g5 g6 hu r1 r2 r3 hEQ
   go_wp2_with fail
   refine Cu.out.mono ?_
   rintro e W2 ⟨rfl,rfl⟩
   go_wp2_with fail
   go_roundw
   case rel=>exact ⟨_,_,qZ,HCw⟩
   case measure=>rw [qZ.out.left_eq,mV];exact g4
theorem yu (w:World) {l:List Nat}:∀is:List Nat,(∀i∈is,i < l.length)→(Op.eqItems 9999 5 1 (pgc l) (pgc l) is).run Tryz.prog w = .ok true w
 | [],_=>rfl
 | i :: is,h=>by
  have hi:=h i (List.mem_cons_self ..)
  have hg:(pgc l)[i * 1]? = some (.int .u8 (l[i]:Nat)):=by unfold pgc;rw [Nat.mul_one,List.getElem?_toArray,List.getElem?_map,List.getElem?_eq_getElem hi];rfl
  have h1:(part 5 (pgc l) (i * 1)).run Tryz.prog w = .ok (.int .u8 (l[i]:Nat)) w:=run_part_plain w (by kernel_rfl) hg
  have h2:(Op.equalIn 9999 5 (.int .u8 (l[i]:Nat)) (.int .u8 (l[i]:Nat))).run Tryz.prog w = .ok true w:=by
   rw [run_equalIn_int w 9998 5 .u8 .u8 _ _ Tryz.underlying5]
   simp
  have ih:=yu w is (fun j hj=>h j (List.mem_cons_of_mem _ hj))
  simp only [Op.eqItems,Sem.run_bind,h1,h2,Result.andThen_ok]
  simpa using ih
theorem eq_pageI (w:World) {l:List Nat} (hl:l.length = 256):(Op.equalIn 10000 138 (.agg (pgc l)) (.agg (pgc l))).run Tryz.prog w = .ok true w:=by
 have h5:(Tryz.prog.info? 5).isSome = true:=by kernel_rfl
 obtain ⟨i,hi⟩:=Option.isSome_iff_exists.1 h5
 have hc:Tryz.prog.cellsOf 5 = 1:=by kernel_rfl
 rw [run_equalIn_array w 9999 _ _ Tryz.underlying138 hi,hc]
 exact yu w _ (fun i hi=>by rw [hl];exact List.mem_range.1 hi)
theorem cH (w:World):(Instr.build 138 #[]).run Tryz.prog w = .ok (.agg (pgc zeroPg)) w:=by
 have e:Tryz.zeroCells138 = pgc zeroPg:=by kernel_rfl
 simp [Instr.build,Sem.run_bind,zero99,Value.cells,run_underlying Tryz.underlying138,size5,Instr.fill,e]
theorem xl {ops:Array Oper} {rest:List Oper} {o:Oper} {a:Act} {w:World} {Q:Exit→Act→World→Prop} (hg:o.guard = none) (ho:o.op = .build 138 #[])
  (h:wpList Tryz.prog ops Q rest (a.put o.dst (.agg (pgc zeroPg))) w):wpList Tryz.prog ops Q (o :: rest) a w :=
 Great.wpList_runTo hg _ rfl _ _ (by unfold execOp;simp only [ho,List.map_toArray,List.map_nil,Sem.run_bind,cH,Sem.run_pure,Result.andThen_ok]) h
def gj (p:Pr) (n:Int):List Nat:=(p.pg n).getD zeroPg
theorem gC {w:World} {b:Nat} {p:Pr} {d:Nat} {FA:List Nat} {qp qo:Nat} {fp fo:Int→Option Value} {gp:Int→Nat} (hP:PIn w b p d FA qp qo fp fo gp) (q:Int) :
  Calls Tryz.prog 81 #[.pointer (some ⟨b,0,none⟩),.int .i64 q] w fun e w'=>e = .returned (.agg (pgc (gj p q)))∧Chg [] w w':=by
 obtain ⟨W1,jG⟩:∃W1,W1 = w.alloc (.cells (pgc zeroPg) 138):=⟨_,rfl⟩
 have jH:Chg [] w W1:=by rw [jG];exact (Chg.refl [] w).alloc _
 have Ay:PgB W1 w.heap.size zeroPg:=by rw [jG];exact PgB.new w
 have tO:=hP.cp (CP.of0 (F:=fun _=>False) jH) (fun _ _ h=>h)
 have q1:W1.cell? ⟨b,1,none⟩ = some (.map (some qp)):=by simpa [prc] using tO.blk.cell 1
 have l1:=tO.blk.lt
 have kW:=ah jG
 have lD:=ah jH
 have HZ1:=ah Ay
 cases hq:p.pg q with
 | some B =>
  have rF:=dy Tryz.underlying110 Tryz.underlying3 tO.mp (show fp q = some (.pointer (some ⟨gp q,0,none⟩)) by rw [tO.hp,hq];rfl) true
  have qO:=ah (tO.pg q B hq)
  have hlg:=qO.out.blk.lt
  have hr:gj p q = B:=by unfold gj;rw [hq];rfl
  rw [hr]
  clear hq hr tO hP jH Ay jG
  go_enter Tryz.func81,Tryz.ntmps81
  go_wp2_with (first|refine iu rfl rfl ?_;try rw [← kW.out]|refine sb rfl _ rfl rfl qO.out ?_|refine md rfl _ _ rfl rfl rfl qO.out.len qO.out.b8 HZ1.out ?_;intro W2 oU jA)
  refine bodyPost_ret (v:=.agg (pgc B)) (results_cell_row (p:=4) (ty:=138) rfl _ _ w.heap.size 138 _ (0,0) _ rfl oU.blk Tryz.underlying138 rfl (aC B qO.out.len)) rfl ⟨rfl,?_⟩
  exact lD.out.trans jA (fun y hy=>.inr (by obtain rfl:=aa hy;exact Nat.le_refl _))
 | none =>
  have rF:=ej Tryz.underlying110 Tryz.underlying3 tO.mp (show fp q = none by rw [tO.hp,hq];rfl) (fE W1) true
  have hr:gj p q = zeroPg:=by unfold gj;rw [hq];rfl
  rw [hr]
  have vY:=ah Ay.b8
  clear hq hr tO hP jH Ay jG
  go_enter Tryz.func81,Tryz.ntmps81
  go_wp2_with (first|refine iu rfl rfl ?_;try rw [← kW.out]|refine xl rfl rfl ?_|refine md rfl _ _ rfl rfl rfl pd vY.out HZ1.out ?_;intro W2 oU jA)
  refine bodyPost_ret (v:=.agg (pgc zeroPg)) (results_cell_row (p:=4) (ty:=138) rfl _ _ w.heap.size 138 _ (0,0) _ rfl oU.blk Tryz.underlying138 rfl (aC zeroPg pd)) rfl ⟨rfl,?_⟩
  exact lD.out.trans jA (fun y hy=>.inr (by obtain rfl:=aa hy;exact Nat.le_refl _))
end Go.Proofs.YtfoleblcaloeoaaGreatDoor
