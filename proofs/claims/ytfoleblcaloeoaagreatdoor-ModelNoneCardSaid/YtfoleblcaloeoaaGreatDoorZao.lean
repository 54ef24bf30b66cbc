/- Texts merged for the claim: MoI, MoJ, MoK, MoL, MoM, MoN, MoF, MoO. -/
import Derived.Test.YtfoleblcaloeoaaGreatDoorZan
import Derived.Test.YtfoleblcaloeoaaGreatDoorZal
import Derived.Laws.CopyRow
import Derived.Deep.CutRange
import Derived.Deep.CutBlock
/- Mapping, unmapping, other rights: what becomes of the process. -/
namespace Go.Proofs.YtfoleblcaloeoaaGreatDoor
open Go Go.RowKit

theorem MapB.congr {w : World} {b : Nat} {k : IntKind} {f g : Int → Option Value} (h : MapB w b k f) (e : ∀ z, f z = g z) : MapB w b k g := by
  have : f = g := funext e
  rwa [← this]
theorem inR_succ {g : Int} {k : Nat} {f : Int → Option Value} (y : Int) : (if y = g + (k : Int) then none else if inR g (k : Int) y then none else f y) = if inR g ((k + 1 : Nat) : Int) y then none else f y := by
  unfold inR
  by_cases h1 : y = g + (k : Int)
  · rw [if_pos h1, if_pos (by simp; omega)]
  · rw [if_neg h1]
    by_cases h2 : g ≤ y ∧ y < g + (k : Int)
    · rw [if_pos (by simpa using h2), if_pos (by simp; omega)]
    · rw [if_neg (by simpa using h2), if_neg (by simp; omega)]
theorem inR_zero {g : Int} {f : Int → Option Value} (y : Int) : f y = if inR g ((0 : Nat) : Int) y then none else f y := by
  unfold inR
  rw [if_neg (by simp)]
section
variable {w W : World} {m : Nat} {M : Mo} {O : Nat → Prop} {bp bo be : Nat} {fp fo fe : Int → Option Value} {gb : Int → Nat} {GF : Int → Nat → Prop} {ov : Int → Value}
theorem change_end (hI : MIn w m M bp bo be fp fo fe gb GF ov) (hO : ∀ k, FMo M m bp bo be GF ov k → O k) (hl : ∀ k, O k → k < w.heap.size) {pid : Int} {p : Pr} (hp : M.pr pid = some p)
    {d : Nat} {FA : List Nat} {qp qo : Nat} {gp' go' : Int → Option Value} {gp : Int → Nat} (hP : PIn w (gb pid) p d FA qp qo gp' go' gp) (hPF : ∀ k, FPr p (gb pid) FA qp qo gp k → GF pid k) (hPl : ∀ k, GF pid k → k < w.heap.size)
    {d' : Nat} {F' : List Nat} {rl' : List Ar.Rn} {pg' : Int → Option (List Nat)} {ow' : Int → Option (Nat × Nat)} {fp'' fo'' : Int → Option Value}
    (hc : Chg [gb pid, qp, qo] w W) (hb : Blk W (gb pid) 113 (prc d' qp qo p)) (hA : Ar.AMem W d' rl' F') (hS : Ar.Sp rl') (hF : ∀ k ∈ F', ¬ O k)
    (h1 : MapB W qp .i64 fp'') (h2 : MapB W qo .i64 fo'') (h3 : ∀ n, fp'' n = (pg' n).map fun _ => .pointer (some ⟨gp n, 0, none⟩)) (h4 : ∀ n, fo'' n = (ow' n).map fun q => .agg #[.int .u8 q.1, .int .u8 q.2])
    (h5 : ∀ n B, pg' n = some B → p.pg n = some B) (h6 : ∀ n q, ow' n = some q → p.ow n = some q) :
    CP O w W ∧ ∃ O', MMem W m { M with pr := upd M.pr pid (some { p with rl := rl', pg := pg', ow := ow' }) } O' ∧ ∀ k, O' k → O k ∨ k ∈ F' := by
  have hG : CP (fun k => k = gb pid ∨ k = qp ∨ k = qo) w W := CP.of hc (fun k hk => .inl (by simpa using hk))
  have hcp : CP (GF pid) w W := CP.of hc (fun k hk => .inl (by
    simp at hk
    rcases hk with rfl | rfl | rfl
    · exact hPF _ (.inl rfl)
    · exact hPF _ (.inr (.inr (.inl rfl)))
    · exact hPF _ (.inr (.inr (.inr (.inl rfl))))))
  have hsz := hc.size
  obtain ⟨r1, O', r2, r3⟩ := proc_end (F' := fun k => GF pid k ∨ k ∈ F') hI hO hl hp hcp (p' := { p with rl := rl', pg := pg', ow := ow' })
    ⟨d', F', qp, qo, fp'', fo'', gp, ⟨hb, hA, hS, h1, h2, h3, h4, fun n B hB => (hP.pg n B (h5 n B hB)).cp hG (by
        have hk := hP.pg n B (h5 n B hB)
        rintro (e | e | e)
        · exact Blk.ne_ hk.blk hP.blk (by decide) e
        · exact Blk.ne_map hk.blk hP.mp e
        · exact Blk.ne_map hk.blk hP.mo e), fun n n' B B' e e' => hP.inj n n' B B' (h5 n B e) (h5 n' B' e'), hP.ne, hP.pk, hP.pm, fun n q e => hP.ow n q (h6 n q e)⟩, by
      rintro k (rfl | hk | rfl | rfl | ⟨n, B, hB, rfl⟩)
      · exact .inl (hPF _ (.inl rfl))
      · exact .inr hk
      · exact .inl (hPF _ (.inr (.inr (.inl rfl))))
      · exact .inl (hPF _ (.inr (.inr (.inr (.inl rfl)))))
      · exact .inl (hPF _ (.inr (.inr (.inr (.inr ⟨n, B, h5 n B hB, rfl⟩))))), by
      rintro k (hk | hk)
      · have := hPl k hk; omega
      · exact hA.lt k hk⟩ (fun k hk => hk.imp id (hF k))
  refine ⟨r1, O', r2, fun k hk => ?_⟩
  rcases r3 k hk with h | h | h
  · exact .inl h
  · exact .inl (hO k (.inr (.inr (.inr (.inr (.inl ⟨pid, p, hp, h⟩))))))
  · exact .inr h
end
set_option maxRecDepth 20000 in
set_option maxHeartbeats 40000000 in
theorem change_do {w : World} {m : Nat} {M : Mo} {O : Nat → Prop} {bp bo be : Nat} {fp fo fe : Int → Option Value} {gb : Int → Nat} {GF : Int → Nat → Prop} {ov : Int → Value}
    (hI : MIn w m M bp bo be fp fo fe gb GF ov) (hO : ∀ k, FMo M m bp bo be GF ov k → O k) (hl : ∀ k, O k → k < w.heap.size) {pid : Int} {p : Pr} (hp : M.pr pid = some p)
    {b6 b2 b3 d' : Nat} {F' : List Nat} {rl' : List Ar.Rn} {x : Cl} {v : Value} (h6 : Blk w b6 109 #[.pointer (some ⟨d', 0, none⟩)]) (h2 : Blk w b2 103 #[.pointer (some ⟨gb pid, 0, none⟩)]) (h3 : KB w b3 x v)
    (hA : Ar.AMem w d' rl' F') (hS : Ar.Sp rl') (hF : ∀ k ∈ F', ¬ O k) (hx : x.k = 4 → 0 ≤ x.g ∧ x.g ≤ 1024 ∧ 0 ≤ x.c ∧ x.c ≤ 1024) :
    Calls Tryz.prog 98 #[.pointer (some ⟨b6, 0, none⟩), .pointer (some ⟨b2, 0, none⟩), .pointer (some ⟨b3, 0, none⟩)] w fun e W' => e = .returned (.tuple #[]) ∧ CP O w W' ∧
      ∃ O', MMem W' m { M with pr := upd M.pr pid (some (if x.k = 4 then { p with rl := rl', pg := fun q => if inR x.g x.c q then none else p.pg q, ow := fun q => if inR x.g x.c q then none else p.ow q } else { p with rl := rl' })) } O' ∧ ∀ k, O' k → O k ∨ k ∈ F' := by
  obtain ⟨d, FA, qp, qo, gp', go', gp, hP, hPF, hPl⟩ := hI.pr pid p hp
  have HEND := hide (fun W pg' ow' (fp'' fo'' : Int → Option Value) (hc : Chg [gb pid, qp, qo] w W) => @change_end w W m M O bp bo be fp fo fe gb GF ov hI hO hl pid p hp d FA qp qo gp' go' gp hP hPF hPl d' F' rl' pg' ow' fp'' fo'' hc)
  have hbl := hP.blk.lt
  have qA : w.cell? ⟨gb pid, 0, none⟩ = some (.pointer (some ⟨d, 0, none⟩)) := by simpa [prc] using hP.blk.cell 0
  have fzb := hP.blk.frozen
  have q6 : w.cell? ⟨b6, 0, none⟩ = some (.pointer (some ⟨d', 0, none⟩)) := by simpa using h6.cell 0
  have q2 : w.cell? ⟨b2, 0, none⟩ = some (.pointer (some ⟨gb pid, 0, none⟩)) := by simpa using h2.cell 0
  have l6 := h6.lt
  have l2 := h2.lt
  have n2 : b2 ≠ gb pid := Blk.ne_ h2 hP.blk (by decide)
  have n3 : b3 ≠ gb pid := Blk.ne_ h3 hP.blk (by decide)
  have hW1 : Blk (w.setCell ⟨gb pid, 0, none⟩ (.pointer (some ⟨d', 0, none⟩))) (gb pid) 113 (prc d' qp qo p) := Blk.set_ hP.blk 0 (.pointer (some ⟨d', 0, none⟩))
  have hcW1 : Chg [gb pid] w (w.setCell ⟨gb pid, 0, none⟩ (.pointer (some ⟨d', 0, none⟩))) := (Chg.refl [gb pid] w).setCell (p := ⟨gb pid, 0, none⟩) (.inl (by simp)) _
  have HB := hide hW1
  have HC := hide hcW1
  have nA : ∀ k ∈ F', k ≠ gb pid := fun k hk e => hF k hk (hO k (.inr (.inr (.inr (.inr (.inl ⟨pid, p, hp, e ▸ hPF _ (.inl rfl)⟩))))))
  have HA := hide (show Ar.AMem (w.setCell ⟨gb pid, 0, none⟩ (.pointer (some ⟨d', 0, none⟩))) d' rl' F' from hA.chg hcW1 (fun k hk => by simpa using nA k hk))
  have nAp : ∀ k ∈ F', k ≠ qp ∧ k ≠ qo := fun k hk => ⟨fun e => hF k hk (hO k (.inr (.inr (.inr (.inr (.inl ⟨pid, p, hp, e ▸ hPF _ (.inr (.inr (.inl rfl)))⟩)))))), fun e => hF k hk (hO k (.inr (.inr (.inr (.inr (.inl ⟨pid, p, hp, e ▸ hPF _ (.inr (.inr (.inr (.inl rfl))))⟩))))))⟩
  have NAP := hide nAp
  have HMP := hide (show MapB (w.setCell ⟨gb pid, 0, none⟩ (.pointer (some ⟨d', 0, none⟩))) qp .i64 gp' from hP.mp.chg hcW1 (by simp; exact fun e => Blk.ne_map hP.blk hP.mp e.symm))
  have HMO := hide (show MapB (w.setCell ⟨gb pid, 0, none⟩ (.pointer (some ⟨d', 0, none⟩))) qo .i64 go' from hP.mo.chg hcW1 (by simp; exact fun e => Blk.ne_map hP.blk hP.mo e.symm))
  have HK := hide (show KB (w.setCell ⟨gb pid, 0, none⟩ (.pointer (some ⟨d', 0, none⟩))) b3 x v from Blk.chg h3 hcW1 (by simpa using n3))
  have H2 := hide (show Blk (w.setCell ⟨gb pid, 0, none⟩ (.pointer (some ⟨d', 0, none⟩))) b2 103 #[.pointer (some ⟨gb pid, 0, none⟩)] from h2.chg hcW1 (by simpa using n2))
  have HN2 := hide (And.intro (show b2 ≠ qp from Blk.ne_map h2 hP.mp) (And.intro (show b2 ≠ qo from Blk.ne_map h2 hP.mo) (And.intro (show b3 ≠ qp from Blk.ne_map h3 hP.mp) (show b3 ≠ qo from Blk.ne_map h3 hP.mo))))
  have HNB := hide (And.intro (show gb pid ≠ qp from hP.blk.ne_map hP.mp) (And.intro (show gb pid ≠ qo from hP.blk.ne_map hP.mo) hP.ne))
  have HPH := hide hP.hp
  have HPO := hide hP.ho
  have HS := hide hS
  have HX := hide hx
  have HF := hide hF
  have hx3 := (KB.cells HK.out).1
  clear hI hO hl hp hP hPF hPl h6 h2 h3 hA hS hF hx hW1 hcW1 nA nAp
  obtain ⟨p2, hp2⟩ : ∃ p2, p2 = if x.k = 4 then { p with rl := rl', pg := fun q => if inR x.g x.c q then none else p.pg q, ow := fun q => if inR x.g x.c q then none else p.ow q } else { p with rl := rl' } := ⟨_, rfl⟩
  rw [← hp2]
  have HP2 := hide hp2
  clear hp2
  go_enter Tryz.func98, Tryz.ntmps98
  go_upto_region 1 with (fail)
  generalize w.setCell ⟨gb pid, 0, none⟩ (.pointer (some ⟨d', 0, none⟩)) = W1 at *
  clear qA fzb q6 q2
  by_cases h4 : x.k = 4
  case neg =>
    have e4 : ((x.k : Int) == 4) = false := beq_false_of_ne (by omega)
    have e4' : ¬ (x.k : Int) = 4 := by omega
    have H4 := hide h4
    clear h4
    go_wp2_with fail
    refine bodyPost_ret (results_none rfl _ _ _) rfl ?_
    rw [HP2.out, if_neg H4.out]
    exact ⟨rfl, HEND.out W1 p.pg p.ow gp' go' (HC.out.mono (fun y hy => .inl (by simp at hy; simp [hy]))) HB.out HA.out HS.out HF.out HMP.out HMO.out HPH.out HPO.out (fun _ _ h => h) (fun _ _ h => h)⟩
  obtain ⟨g0, g1, c0, c1⟩ := HX.out h4
  rw [if_pos h4] at HP2
  rw [h4] at hx3
  have hxc := (KB.cells HK.out).2.2.2.2.1
  obtain ⟨cn, hcn⟩ : ∃ n : Nat, x.c = n := ⟨x.c.toNat, by omega⟩
  rw [hcn] at hxc
  have hcn8 : (cn : Int) ≤ 1024 := by omega
  have l3 := KB.cells HK.out |>.2.2.2.2.2.2.2.2.2.2.2.2.1
  have HG := hide (And.intro g0 (And.intro g1 hcn))
  clear h4 g0 g1 c0 c1 hcn
  go_upto_region 3 with (fail)
  clear hx3 hxc l3 l2 l6 hbl
  go_loopw [13] (fun i wr => ∃ (k : Nat), k ≤ cn ∧ i = .int .i64 k ∧ Hid (Blk wr (gb pid) 113 (prc d' qp qo p)) ∧ Hid (MapB wr qp .i64 fun q => if inR x.g (k : Nat) q then none else gp' q) ∧ Hid (MapB wr qo .i64 fun q => if inR x.g (k : Nat) q then none else go' q) ∧ Hid (Chg [qp, qo] W1 wr)) (fun i _ => cn - (intOf i).toNat)
  case atStart => exact ⟨0, by omega, rfl, HB, hide (MapB.congr HMP.out inR_zero), hide (MapB.congr HMO.out inR_zero), hide (Chg.refl _ _)⟩
  case round =>
    obtain ⟨k, hk, rfl, hb, h1, h2, hc⟩ := hrel
    have hkb := Blk.chg HK.out hc.out (by simp; exact ⟨HN2.out.2.2.1, HN2.out.2.2.2⟩)
    have h2b := Blk.chg H2.out hc.out (by simp; exact ⟨HN2.out.1, HN2.out.2.1⟩)
    by_cases hkl : k < cn
    · have q2 : wr.cell? ⟨b2, 0, none⟩ = some (.pointer (some ⟨gb pid, 0, none⟩)) := by simpa using h2b.cell 0
      have qp1 : wr.cell? ⟨gb pid, 1, none⟩ = some (.map (some qp)) := by simpa [prc] using hb.out.cell 1
      have qp2 : wr.cell? ⟨gb pid, 2, none⟩ = some (.map (some qo)) := by simpa [prc] using hb.out.cell 2
      have qg := (KB.cells hkb).2.2.2.1
      have lb := hb.out.lt
      have l2 := h2b.lt
      have l3 := hkb.lt
      have d1 : decide ((k : Int) < (cn : Int)) = true := decide_eq_true (by omega)
      have hw1 : IntKind.i64.wrap (x.g + (k : Int)) = x.g + (k : Int) := by rw [IntKind.wrap_i64]; have := HG.out; omega
      have hw2 : IntKind.i64.wrap ((k : Int) + 1) = (k : Int) + 1 := by rw [IntKind.wrap_i64]; omega
      have HKL := hide hkl
      clear hkl hk
      have HM1 := hide (show MapB wr.drew qp .i64 _ from h1.out)
      have HM2 := hide (show MapB wr.drew qo .i64 _ from h2.out)
      have HBd := hide (show Blk wr.drew (gb pid) 113 (prc d' qp qo p) from hb.out)
      have HKd := hide (show KB wr.drew b3 x v from hkb)
      have H2d := hide (show Blk wr.drew b2 103 #[.pointer (some ⟨gb pid, 0, none⟩)] from h2b)
      have HCd := hide (show Chg [qp, qo] W1 wr.drew from hc.out.drew)
      clear hb h1 h2 hc hkb h2b
      go_upto_region 5 with (fail)
      refine wp_region_t [1, 0, 0, 1, 0, 1, 0, 0, 3] [none, none, none, none, none, none, none, none, none] (fun _ => True) (by kernel_rfl) (by kernel_rfl) (by kernel_rfl) ?_
      go_wp2_with (first | (refine wpG_deed (by decide) (fun K hK => ?_); refine wp_delete _ _ rfl Tryz.underlying110 Tryz.underlying3 rfl rfl HM1.out ?_; intro W5 h5 hc5; refine hK _ _ ?_; clear hK K) | (refine wpG_calc rfl (fun K hK => ?_)) | (refine wpG_skip ?_ ?_; (focus (simp [wantG]; done)); go_simp) | (refine wpG_take ?_ ?_; (focus (simp [wantG]; done))) | (refine wpG_pure (fun K hK => ?_); go_simp; refine hK _ _ ?_; clear hK K) | (refine wpG_deed (by decide) (fun K hK => ?_); go_simp) | (refine wpG_nil ?_))
      have HM5 := hide h5
      have HM6 := hide (MapB.stay (MapB.chg HM2.out hc5 (show qo ∉ [qp] by simp; exact fun e => HNB.out.2.2 e.symm)) (Chg.refl [] W5).drew)
      have HB5 := hide (Blk.drew (Blk.chg HBd.out hc5 (show gb pid ∉ [qp] by simp; exact HNB.out.1)))
      have HK5 := hide (show KB W5.drew b3 x v from Blk.drew (Blk.chg HKd.out hc5 (show b3 ∉ [qp] by simp; exact HN2.out.2.2.1)))
      have H25 := hide (Blk.drew (Blk.chg H2d.out hc5 (show b2 ∉ [qp] by simp; exact HN2.out.1)))
      have HC5 := hide (show Chg [qp, qo] W1 W5.drew from (HCd.out.trans hc5 (fun y hy => .inl (by simp at hy; simp [hy]))).drew)
      clear h5 hc5 q2 qp1 qp2 qg lb l2 l3 HM1 HM2 HBd HKd H2d HCd
      have q2 : W5.cell? ⟨b2, 0, none⟩ = some (.pointer (some ⟨gb pid, 0, none⟩)) := by simpa using H25.out.cell 0
      have qp1 : W5.cell? ⟨gb pid, 1, none⟩ = some (.map (some qp)) := by simpa [prc] using HB5.out.cell 1
      have qp2 : W5.cell? ⟨gb pid, 2, none⟩ = some (.map (some qo)) := by simpa [prc] using HB5.out.cell 2
      have qg : W5.cell? ⟨b3, 3, none⟩ = some (.int .i64 x.g) := (KB.cells HK5.out).2.2.2.1
      have lb : gb pid < W5.heap.size := HB5.out.lt
      have l2 : b2 < W5.heap.size := H25.out.lt
      have l3 : b3 < W5.heap.size := HK5.out.lt
      refine wp_region_t [1, 0, 0, 1, 0, 1, 0, 0, 3] [none, none, none, none, none, none, none, none, none] (fun _ => True) (by kernel_rfl) (by kernel_rfl) (by kernel_rfl) ?_
      go_wp2_with (first | (refine wpG_deed (by decide) (fun K hK => ?_); refine wp_delete _ _ rfl Tryz.underlying111 Tryz.underlying3 rfl rfl HM6.out ?_; intro W6 h6 hc6; refine hK _ _ ?_; clear hK K) | (refine wpG_calc rfl (fun K hK => ?_)) | (refine wpG_skip ?_ ?_; (focus (simp [wantG]; done)); go_simp) | (refine wpG_take ?_ ?_; (focus (simp [wantG]; done))) | (refine wpG_pure (fun K hK => ?_); go_simp; refine hK _ _ ?_; clear hK K) | (refine wpG_deed (by decide) (fun K hK => ?_); go_simp) | (refine wpG_nil ?_))
      go_roundw
      case rel => exact ⟨k + 1, by have := HKL.out; omega, by go_num, hide (HB5.out.chg hc6 (by simp; exact HNB.out.2.1)), hide ((MapB.congr (MapB.stay HM5.out (Chg.refl [] W5).drew) inR_succ).chg hc6 (by simp; exact HNB.out.2.2)), hide (MapB.congr h6 inR_succ), hide (HC5.out.trans hc6 (fun y hy => .inl (by simp at hy; simp [hy])))⟩
      case measure => have := HKL.out; simp [intOf]; omega
    · obtain rfl : k = cn := by omega
      have HH := hide (And.intro hb.out (And.intro h1.out (And.intro h2.out hc.out)))
      clear hb h1 h2 hc hkb h2b
      go_wp2_with fail
      go_end0
      rw [HP2.out]
      have hcn := HG.out.2.2
      have hcW : Chg [gb pid, qp, qo] w wr := (HC.out.mono (fun y hy => .inl (by simp at hy; simp [hy]))).trans HH.out.2.2.2 (fun y hy => .inl (by simp at hy; rcases hy with rfl | rfl <;> simp))
      refine ⟨rfl, HEND.out wr _ _ _ _ hcW HH.out.1 (HA.out.chg HH.out.2.2.2 (fun k hk => by simp; exact NAP.out k hk)) HS.out HF.out HH.out.2.1 HH.out.2.2.1 (fun n => ?_) (fun n => ?_) (fun n B e => ?_) (fun n q e => ?_)⟩
      · rw [hcn]
        by_cases hr : inR x.g (k : Nat) n = true
        · rw [if_pos hr, if_pos hr]; rfl
        · rw [if_neg hr, if_neg hr]; exact HPH.out n
      · rw [hcn]
        by_cases hr : inR x.g (k : Nat) n = true
        · rw [if_pos hr, if_pos hr]; rfl
        · rw [if_neg hr, if_neg hr]; exact HPO.out n
      · by_cases hr : inR x.g x.c n = true
        · rw [if_pos hr] at e; cases e
        · rwa [if_neg hr] at e
      · by_cases hr : inR x.g x.c n = true
        · rw [if_pos hr] at e; cases e
        · rwa [if_neg hr] at e
end Go.Proofs.YtfoleblcaloeoaaGreatDoor

/- change: mapping, unmapping, other rights (printed by genmoj.py). -/
namespace Go.Proofs.YtfoleblcaloeoaaGreatDoor
open Go Go.RowKit

section
variable {w w' : World} {m : Nat} {M : Mo} {O : Nat → Prop} {X : List Nat} {bp bo be : Nat} {fp fo fe : Int → Option Value} {gb : Int → Nat} {GF : Int → Nat → Prop} {ov : Int → Value}
theorem MIn.stay (hI : MIn w m M bp bo be fp fo fe gb GF ov) (hc : Chg [] w w') : MIn w' m M bp bo be fp fo fe gb GF ov := hI.cp (CP.of0 (F := fun _ => False) hc) (fun _ _ h => h)
theorem MIn.off (hI : MIn w m M bp bo be fp fo fe gb GF ov) (hO : ∀ k, FMo M m bp bo be GF ov k → O k) (hc : CP (fun k => ¬ O k) w w') : MIn w' m M bp bo be fp fo fe gb GF ov := hI.cp hc (fun k hk hn => hn (hO k hk))
theorem change_eff (hI : MIn w m M bp bo be fp fo fe gb GF ov) (hO : ∀ k, FMo M m bp bo be GF ov k → O k) (hl : ∀ k, O k → k < w.heap.size) {pid : Int} {p : Pr} (hp : M.pr pid = some p)
    {b6 b2 b3 d' : Nat} {F' : List Nat} {rl' : List Ar.Rn} {x : Cl} {v : Value} (hc : Chg [] w w') (h6 : Blk w' b6 109 #[.pointer (some ⟨d', 0, none⟩)]) (h2 : Blk w' b2 103 #[.pointer (some ⟨gb pid, 0, none⟩)]) (h3 : KB w' b3 x v)
    (hA : Ar.AMem w' d' rl' F') (hS : Ar.Sp rl') (hF : ∀ k ∈ F', w.heap.size ≤ k) (hn : w.heap.size ≤ b6 ∧ w.heap.size ≤ b2 ∧ w.heap.size ≤ b3) (hx : x.k = 4 → 0 ≤ x.g ∧ x.g ≤ 1024 ∧ 0 ≤ x.c ∧ x.c ≤ 1024) {p2 : Pr}
    (hp2 : p2 = if x.k = 4 then { p with rl := rl', pg := fun q => if inR x.g x.c q then none else p.pg q, ow := fun q => if inR x.g x.c q then none else p.ow q } else { p with rl := rl' }) :
    Eff w w' m O X (.func (.func 98) #[] #[.pointer (some ⟨b6, 0, none⟩), .pointer (some ⟨b2, 0, none⟩), .pointer (some ⟨b3, 0, none⟩)]) (some { M with pr := upd M.pr pid (some p2) }) := by
  refine ⟨_, _, rfl, ent_of Tryz.func98 (by kernel_rfl) (by kernel_rfl), fun G W hG hW => ?_⟩
  have hcW := hG.cp hc hW
  refine (change_do (hI.off hO hcW) hO (fun k hk => Nat.lt_of_lt_of_le (hl k hk) hcW.size) hp (h6.chg hW (hG.new hn.1)) (h2.chg hW (hG.new hn.2.1)) (show KB W b3 x v from Blk.chg h3 hW (hG.new hn.2.2)) (hA.chg hW (fun k hk => hG.new (hF k hk))) hS (fun k hk hk2 => by have := hF k hk; have := hl k hk2; omega) hx).mono ?_
  rintro e W' ⟨rfl, k1, O', k2, k3⟩
  rw [← hp2] at k2
  exact ⟨rfl, k1.or, O', k2, fun k hk => (k3 k hk).imp id (hF k)⟩
end
set_option maxRecDepth 20000 in
set_option maxHeartbeats 40000000 in
theorem change_any {w : World} {m : Nat} {M : Mo} {O : Nat → Prop} {X : List Nat} {bp bo be : Nat} {fp fo fe : Int → Option Value} {gb : Int → Nat} {GF : Int → Nat → Prop} {ov : Int → Value}
    (hI : MIn w m M bp bo be fp fo fe gb GF ov) (hO : ∀ k, FMo M m bp bo be GF ov k → O k) (hl : ∀ k, O k → k < w.heap.size) {pid : Int} {p : Pr} (hp : M.pr pid = some p)
    {x : Cl} {v : Value} (hv : v.oneCell' = true) (hk : x.k = 3 ∨ x.k = 4 ∨ x.k = 5) (hx : x.k = 4 → 0 ≤ x.g ∧ x.g ≤ 1024 ∧ 0 ≤ x.c ∧ x.c ≤ 1024) :
    Calls Tryz.prog 68 #[.pointer (some ⟨gb pid, 0, none⟩), .agg (clc x v)] w fun e w' => AnsR w w' m O X (plainR (changeA p x).1, some { M with pr := upd M.pr pid (some (changeA p x).2) }) e ∧ Chg [] w w' := by
  obtain ⟨d, FA, qp, qo, gp', go', gp, hP, hPF, hPl⟩ := hI.pr pid p hp
  obtain ⟨W2, hW2⟩ : ∃ W2, W2 = ((w.alloc (.cells #[.pointer (some ⟨gb pid, 0, none⟩)] 103)).alloc (.cells (clc x v) 47)).alloc (.cells (rsc zRs zV) 40) := ⟨_, rfl⟩
  have hc2 : Chg [] w W2 := by rw [hW2]; exact (((Chg.refl [] w).alloc _).alloc _).alloc _
  have hb2 : Blk W2 w.heap.size 103 #[.pointer (some ⟨gb pid, 0, none⟩)] := by rw [hW2]; exact ((Blk.new w _ _).alloc _).alloc _
  have hb3 : KB W2 (w.heap.size + 1) x v := by
    have := Blk.new (w.alloc (.cells #[.pointer (some ⟨gb pid, 0, none⟩)] 103)) 47 (clc x v)
    rw [World.size_alloc] at this
    rw [hW2]
    exact this.alloc _
  have hb4 : XB W2 (w.heap.size + 1 + 1) zRs zV := by
    have := Blk.new ((w.alloc (.cells #[.pointer (some ⟨gb pid, 0, none⟩)] 103)).alloc (.cells (clc x v) 47)) 40 (rsc zRs zV)
    rw [World.size_alloc, World.size_alloc] at this
    rw [hW2]
    exact this
  obtain ⟨b2, e2⟩ : ∃ b, b = w.heap.size := ⟨_, rfl⟩
  obtain ⟨b3, e3⟩ : ∃ b, b = w.heap.size + 1 := ⟨_, rfl⟩
  obtain ⟨b4, e4⟩ : ∃ b, b = w.heap.size + 1 + 1 := ⟨_, rfl⟩
  rw [← e4] at hb4
  rw [← e3] at hb3
  rw [← e2] at hb2
  have HE := hide (And.intro e2 (And.intro e3 e4))
  have HP2 := hide (show PIn W2 (gb pid) p d FA qp qo gp' go' gp from hP.cp (CP.of0 (F := fun _ => False) hc2) (fun _ _ h => h))
  have HEFF := hide (fun (w' : World) (b6 b2 b3 d' : Nat) (F' : List Nat) (rl' : List Ar.Rn) (hc : Chg [] w w') (h6 : Blk w' b6 109 #[.pointer (some ⟨d', 0, none⟩)]) (h2 : Blk w' b2 103 #[.pointer (some ⟨gb pid, 0, none⟩)]) (h3 : KB w' b3 x v) (hA : Ar.AMem w' d' rl' F') (hS : Ar.Sp rl') (hF : ∀ k ∈ F', w.heap.size ≤ k) (hn : w.heap.size ≤ b6 ∧ w.heap.size ≤ b2 ∧ w.heap.size ≤ b3) (p2 : Pr) => change_eff (X := X) hI hO hl hp hc h6 h2 h3 hA hS hF hn hx (p2 := p2))
  have HSP := hide hP.sp
  have HCO := hide (fun W (hc : Chg [] W2 W) => Ar.copy_at (HP2.out.ar.stay hc) (by have := hP.sp.len; omega))
  have HB2 := hide hb2
  have HB3 := hide hb3
  have HB4 := hide hb4
  have HC2 := hide hc2
  have HW2 := hide hW2
  have HLB := hide (And.intro hb2.lt (And.intro (KB.cells hb3).2.2.2.2.2.2.2.2.2.2.2.2.1 (XB.cells hb4).2.2.2.1))
  have q2 : W2.cell? ⟨b2, 0, none⟩ = some (.pointer (some ⟨gb pid, 0, none⟩)) := by simpa using hb2.cell 0
  have qA : W2.cell? ⟨gb pid, 0, none⟩ = some (.pointer (some ⟨d, 0, none⟩)) := by simpa [prc] using HP2.out.blk.cell 0
  have l2 := hb2.lt
  have lb := HP2.out.blk.lt
  clear hI hO hl hp hP hPF hPl hb2 hb3 hb4 hc2 hW2 e2 e3 e4 hx
  go_enter Tryz.func68, Tryz.ntmps68
  go_upto_region 1 with (first | (refine wpList_box34 rfl _ rfl rfl ?_; try simp only [World.size_alloc]) | (refine wpList_allocRs rfl rfl ?_; try simp only [World.size_alloc]; try rw [← HW2.out]))
  rw [← HE.out.2.2, ← HE.out.2.1, ← HE.out.1]
  go_wp2_with fail
  refine (HCO.out W2 (Chg.refl _ _)).mono ?_
  rintro e W3 ⟨d', F', rfl, hA3, hF3, hc3⟩
  have HA3 := hide hA3
  have HC3 := hide (HC2.out.stay hc3)
  have hF2 := hF3
  have HF3 := hide (show ∀ k ∈ F', w.heap.size ≤ k from fun k hk => Nat.le_trans HC2.out.size (hF3 k hk))
  have HB23 := hide (HB2.out.chg hc3 List.not_mem_nil)
  have HB33 := hide (KB.stay HB3.out hc3)
  have HB43 := hide (XB.stay HB4.out hc3)
  clear hA3 hF3 hc3 HB2 HB3 HB4 HC2 q2 qA l2 lb HCO
  have HF2 := hide hF2
  have HPL := hide (fun e W => plain_any e W)
  go_upto_region 3 with (fail)
  have hb6 := Blk.new W3 109 #[.pointer (some ⟨d', 0, none⟩)]
  have hc6 : Chg [] W3 (W3.alloc (.cells #[.pointer (some ⟨d', 0, none⟩)] 109)) := (Chg.refl [] W3).alloc _
  obtain ⟨b6, e6⟩ : ∃ b, b = W3.heap.size := ⟨_, rfl⟩
  have h6n : ∀ k ∈ F', k < b6 := fun k hk => by rw [e6]; exact HA3.out.lt k hk
  have HE6 := hide (show w.heap.size ≤ b6 by rw [e6]; exact HC3.out.size)
  rw [← e6] at hb6 ⊢
  clear e6
  generalize W3.alloc (.cells #[.pointer (some ⟨d', 0, none⟩)] 109) = W4 at hb6 hc6 ⊢
  have HA4 := hide (HA3.out.stay hc6)
  have HC4 := hide (HC3.out.stay hc6)
  have HB24 := hide (HB23.out.chg hc6 List.not_mem_nil)
  have HB34 := hide (KB.stay HB33.out hc6)
  have HB44 := hide (XB.stay HB43.out hc6)
  have HB64 := hide hb6
  have nb2 : b2 ∉ F' := fun h => by have := HF2.out b2 h; have := HLB.out; omega
  have nb3 : b3 ∉ F' := fun h => by have := HF2.out b3 h; have := HLB.out; omega
  have nb4 : b4 ∉ F' := fun h => by have := HF2.out b4 h; have := HLB.out; omega
  have nb6 : b6 ∉ F' := fun h => by have := h6n b6 h; omega
  have HNB := hide (And.intro nb2 (And.intro nb3 (And.intro nb4 nb6)))
  have q6 : W4.cell? ⟨b6, 0, none⟩ = some (.pointer (some ⟨d', 0, none⟩)) := by simpa using hb6.cell 0
  have l6 := hb6.lt
  obtain ⟨c0, -, -, c3, c4, -, -, c7, -, -, -, -, l3, -⟩ := KB.cells HB34.out
  clear hb6 hc6 h6n nb2 nb3 nb4 nb6 HA3 HC3 HB23 HB33 HB43
  rcases hk with hk | hk | hk
  · have HCA := hide (show changeA p x = (Ar.mapE p.rl x.g x.c x.r, _) by unfold changeA; rw [if_pos hk])
    have HK := hide hk
    rw [hk] at c0
    clear hk
    go_wp2_with fail
    refine (Ar.map_at HA4.out HSP.out x.g x.c (x.r : Int)).mono ?_
    rintro e W5 ⟨rfl, ⟨F'', hA5, hst⟩, hc5⟩
    have HA5 := hide hA5
    have HF5 := hide (show ∀ k ∈ F'', w.heap.size ≤ k from fun k hk => (hst k hk).elim (HF3.out k) (fun h => Nat.le_trans HC4.out.size h))
    have HC5 := hide (show Chg [] w W5 from HC4.out.trans hc5 (fun k hk => .inr (HF3.out k hk)))
    have HNA := hide (show ∀ k ∈ F'', k ≠ b4 from fun k hk e => (hst k hk).elim (fun h => HNB.out.2.2.1 (e ▸ h)) (fun h => by have := (XB.cells HB44.out).2.2.2.1; omega))
    have HB25 := hide (HB24.out.chg hc5 HNB.out.1)
    have HB35 := hide (show KB W5 b3 x v from Blk.chg HB34.out hc5 HNB.out.2.1)
    have HB45 := hide (show XB W5 b4 zRs zV from Blk.chg HB44.out hc5 HNB.out.2.2.1)
    have HB65 := hide (HB64.out.chg hc5 HNB.out.2.2.2)
    clear hA5 hst hc5 c0 c3 c4 c7 l3 q6 l6
    go_wp2_with fail
    refine (HPL.out _ _).mono ?_
    rintro e W6 ⟨rfl, hc6⟩
    have HB46 := hide (XB.stay HB45.out hc6)
    have HC6 := hide hc6
    clear hc6
    generalize hEE : Ar.mapE p.rl x.g x.c x.r = EE at *
    go_wp2_with (first | (refine wpList_storeRs (b := b4) (y := plainR EE) (u := zV) rfl _ _ rfl rfl rfl rfl HB46.out ?_; intro W7 h7 hc7))
    have hc47 : Chg [b4] W5 W7 := (HC6.out.up [b4]).and_ hc7
    have hcW : Chg [] w W7 := (HC5.out.stay HC6.out).trans hc7 (fun y hy => .inr (by obtain rfl := List.mem_singleton.1 hy; have := HE.out; omega))
    have he := HE.out
    have h6 := HB65.out
    refine bodyPost_ret (v := .tuple #[.agg (rsc (plainR EE) zV), .func (.func 98) #[] #[.pointer (some ⟨b6, 0, none⟩), .pointer (some ⟨b2, 0, none⟩), .pointer (some ⟨b3, 0, none⟩)]]) (results_twoRs (p := 4) (q := 5) rfl _ rfl h7) rfl ⟨?_, hcW⟩
    rw [HCA.out]
    have n4 : b6 ≠ b4 := Blk.ne_ HB65.out HB45.out (by decide)
    have nA := HNA.out
    exact ⟨none, 0, 0, _, rfl, RE.nil _ _ _ _ _, (fun _ h => (own_nil h).elim), HEFF.out W7 b6 b2 b3 d' F'' _ hcW (HB65.out.chg hc47 (by simpa using n4)) (HB25.out.chg hc47 (by simp; omega)) (Blk.chg HB35.out hc47 (by simp; omega)) (HA5.out.chg hc47 (fun k hk => by simpa using nA k hk)) (HSP.out.map x.g x.c (x.r : Int)) HF5.out ⟨HE6.out, by omega, by omega⟩ _ (by rw [if_neg (by rw [HK.out]; decide)])⟩
  · have HCA := hide (show changeA p x = (Ar.unE p.rl x.g x.c, _) by unfold changeA; rw [if_neg (by omega), if_pos hk])
    have HK := hide hk
    rw [hk] at c0
    clear hk
    go_wp2_with fail
    refine (Ar.un_at HA4.out HSP.out x.g x.c).mono ?_
    rintro e W5 ⟨rfl, ⟨F'', hA5, hst⟩, hc5⟩
    have HA5 := hide hA5
    have HF5 := hide (show ∀ k ∈ F'', w.heap.size ≤ k from fun k hk => (hst k hk).elim (HF3.out k) (fun h => Nat.le_trans HC4.out.size h))
    have HC5 := hide (show Chg [] w W5 from HC4.out.trans hc5 (fun k hk => .inr (HF3.out k hk)))
    have HNA := hide (show ∀ k ∈ F'', k ≠ b4 from fun k hk e => (hst k hk).elim (fun h => HNB.out.2.2.1 (e ▸ h)) (fun h => by have := (XB.cells HB44.out).2.2.2.1; omega))
    have HB25 := hide (HB24.out.chg hc5 HNB.out.1)
    have HB35 := hide (show KB W5 b3 x v from Blk.chg HB34.out hc5 HNB.out.2.1)
    have HB45 := hide (show XB W5 b4 zRs zV from Blk.chg HB44.out hc5 HNB.out.2.2.1)
    have HB65 := hide (HB64.out.chg hc5 HNB.out.2.2.2)
    clear hA5 hst hc5 c0 c3 c4 c7 l3 q6 l6
    go_wp2_with fail
    refine (HPL.out _ _).mono ?_
    rintro e W6 ⟨rfl, hc6⟩
    have HB46 := hide (XB.stay HB45.out hc6)
    have HC6 := hide hc6
    clear hc6
    generalize hEE : Ar.unE p.rl x.g x.c = EE at *
    go_wp2_with (first | (refine wpList_storeRs (b := b4) (y := plainR EE) (u := zV) rfl _ _ rfl rfl rfl rfl HB46.out ?_; intro W7 h7 hc7))
    have hc47 : Chg [b4] W5 W7 := (HC6.out.up [b4]).and_ hc7
    have hcW : Chg [] w W7 := (HC5.out.stay HC6.out).trans hc7 (fun y hy => .inr (by obtain rfl := List.mem_singleton.1 hy; have := HE.out; omega))
    have he := HE.out
    have h6 := HB65.out
    refine bodyPost_ret (v := .tuple #[.agg (rsc (plainR EE) zV), .func (.func 98) #[] #[.pointer (some ⟨b6, 0, none⟩), .pointer (some ⟨b2, 0, none⟩), .pointer (some ⟨b3, 0, none⟩)]]) (results_twoRs (p := 4) (q := 5) rfl _ rfl h7) rfl ⟨?_, hcW⟩
    rw [HCA.out]
    have n4 : b6 ≠ b4 := Blk.ne_ HB65.out HB45.out (by decide)
    have nA := HNA.out
    exact ⟨none, 0, 0, _, rfl, RE.nil _ _ _ _ _, (fun _ h => (own_nil h).elim), HEFF.out W7 b6 b2 b3 d' F'' _ hcW (HB65.out.chg hc47 (by simpa using n4)) (HB25.out.chg hc47 (by simp; omega)) (Blk.chg HB35.out hc47 (by simp; omega)) (HA5.out.chg hc47 (fun k hk => by simpa using nA k hk)) (HSP.out.un x.g x.c) HF5.out ⟨HE6.out, by omega, by omega⟩ _ (by rw [if_pos HK.out])⟩
  · have HCA := hide (show changeA p x = (Ar.prE p.rl x.g x.c x.r, _) by unfold changeA; rw [if_neg (by omega), if_neg (by omega)])
    have HK := hide hk
    rw [hk] at c0
    clear hk
    go_wp2_with fail
    refine (Ar.pr_at HA4.out HSP.out x.g x.c (x.r : Int)).mono ?_
    rintro e W5 ⟨rfl, ⟨F'', hA5, hst⟩, hc5⟩
    have HA5 := hide hA5
    have HF5 := hide (show ∀ k ∈ F'', w.heap.size ≤ k from fun k hk => (hst k hk).elim (HF3.out k) (fun h => Nat.le_trans HC4.out.size h))
    have HC5 := hide (show Chg [] w W5 from HC4.out.trans hc5 (fun k hk => .inr (HF3.out k hk)))
    have HNA := hide (show ∀ k ∈ F'', k ≠ b4 from fun k hk e => (hst k hk).elim (fun h => HNB.out.2.2.1 (e ▸ h)) (fun h => by have := (XB.cells HB44.out).2.2.2.1; omega))
    have HB25 := hide (HB24.out.chg hc5 HNB.out.1)
    have HB35 := hide (show KB W5 b3 x v from Blk.chg HB34.out hc5 HNB.out.2.1)
    have HB45 := hide (show XB W5 b4 zRs zV from Blk.chg HB44.out hc5 HNB.out.2.2.1)
    have HB65 := hide (HB64.out.chg hc5 HNB.out.2.2.2)
    clear hA5 hst hc5 c0 c3 c4 c7 l3 q6 l6
    go_wp2_with fail
    refine (HPL.out _ _).mono ?_
    rintro e W6 ⟨rfl, hc6⟩
    have HB46 := hide (XB.stay HB45.out hc6)
    have HC6 := hide hc6
    clear hc6
    generalize hEE : Ar.prE p.rl x.g x.c x.r = EE at *
    go_wp2_with (first | (refine wpList_storeRs (b := b4) (y := plainR EE) (u := zV) rfl _ _ rfl rfl rfl rfl HB46.out ?_; intro W7 h7 hc7))
    have hc47 : Chg [b4] W5 W7 := (HC6.out.up [b4]).and_ hc7
    have hcW : Chg [] w W7 := (HC5.out.stay HC6.out).trans hc7 (fun y hy => .inr (by obtain rfl := List.mem_singleton.1 hy; have := HE.out; omega))
    have he := HE.out
    have h6 := HB65.out
    refine bodyPost_ret (v := .tuple #[.agg (rsc (plainR EE) zV), .func (.func 98) #[] #[.pointer (some ⟨b6, 0, none⟩), .pointer (some ⟨b2, 0, none⟩), .pointer (some ⟨b3, 0, none⟩)]]) (results_twoRs (p := 4) (q := 5) rfl _ rfl h7) rfl ⟨?_, hcW⟩
    rw [HCA.out]
    have n4 : b6 ≠ b4 := Blk.ne_ HB65.out HB45.out (by decide)
    have nA := HNA.out
    exact ⟨none, 0, 0, _, rfl, RE.nil _ _ _ _ _, (fun _ h => (own_nil h).elim), HEFF.out W7 b6 b2 b3 d' F'' _ hcW (HB65.out.chg hc47 (by simpa using n4)) (HB25.out.chg hc47 (by simp; omega)) (Blk.chg HB35.out hc47 (by simp; omega)) (HA5.out.chg hc47 (fun k hk => by simpa using nA k hk)) (HSP.out.pr x.g x.c (x.r : Int)) HF5.out ⟨HE6.out, by omega, by omega⟩ _ (by rw [if_neg (by rw [HK.out]; decide)])⟩
end Go.Proofs.YtfoleblcaloeoaaGreatDoor

/- access: loads (printed by genmok.py). -/
namespace Go.Proofs.YtfoleblcaloeoaaGreatDoor
open Go Go.RowKit

section
variable {ops : Array Oper} {P : Program} {S : World → Prop} {Q : Exit → Act → World → Prop} {o : Oper} {rest : List Oper} {ks : List Nat} {gs : List (Option (Nat × Bool))} {a : Act} {w : World}
theorem wpG_hlook (t : TypeId) (x y : Operand) (c : Bool) (ho : o.op = .lookup t x y c) {u z v : Value} (hx : a.eval x = u) (hy : a.eval y = z) (hv : ∀ w', S w' → (Instr.lookup t u z c).run P w' = .ok v w') (hS : S w) (h : wpG P S Q rest ks gs (a.put o.dst v) w) :
    wpG P S Q (o :: rest) (5 :: ks) (none :: gs) a w := by
  refine wpG_held hS v (fun w' hw' => ?_) h
  unfold StillAt execOp
  simp [ho, hx, hy, hv w' hw', Sem.run_bind]
end
theorem wpG_buildRs {S : World → Prop} {Q : Exit → Act → World → Prop} {o : Oper} {rest : List Oper} {ks : List Nat} {gs : List (Option (Nat × Bool))} {a : Act} {w : World} {r : Rs} {v : Value} (parts : Array (Nat × Operand)) (ho : o.op = .build 40 parts)
    {l : List (Nat × Value)} (hb : BR l r v) (hl : (parts.map fun (i, x) => (i, a.eval x)).toList = l) (h : wpG Tryz.prog S Q rest ks gs (a.put o.dst (.agg (rsc r v))) w) : wpG Tryz.prog S Q (o :: rest) (0 :: ks) (none :: gs) a w :=
  wpG_pure (fun K hK => ⟨_, fun w' => by
    unfold execOp
    simp only [ho, Sem.run_bind, run_build w' 40 _ (rsc r v) (by rw [hl]; exact hb.h), Sem.run_pure, Result.andThen_ok], hK _ _ h⟩)
theorem wp_storeRs {o : Oper} {a : Act} {w : World} {K : Act → World → Prop} {Q : Exit → Act → World → Prop} {b : Nat} {x y : Rs} {v u : Value} (z t : Operand) (ho : o.op = .store 40 z t) (hx : a.eval z = .pointer (some ⟨b, 0, none⟩)) (hy : a.eval t = .agg (rsc y u)) (hu : u.oneCell' = true) (h0 : XB w b x v)
    (h : ∀ w', XB w' b y u → Chg [b] w w' → K (a.put o.dst undef) w') : o.wp Tryz.prog a w K Q :=
  wp_store_row 40 z t ho b _ hx hy 40 _ h0 infoRs rfl (rsc_one y hu) (h _ (setRow_heap w b _ _ _ _ h0) ((Chg.refl [b] w).setRow (.inl (by simp)) _))
theorem zero98 : ∀ w, (zeroValue 115).run Tryz.prog w = .ok (.pointer none) w := by
  have h : (Tryz.prog.info? 115).map (fun i => (i.zero, i.size)) = some (some (.pointer none), 1) := by kernel_rfl
  exact (zero_of_info h).1
theorem zero99 : ∀ w, (zeroValue 138).run Tryz.prog w = .ok (.agg (pgc zeroPg)) w := by
  have h : (Tryz.prog.info? 138).map (fun i => (i.zero, i.size)) = some (some (.agg (pgc zeroPg)), 256) := by kernel_rfl
  exact (zero_of_info h).1
theorem run_alloc99 (w : World) : (Instr.alloc 138 true (.tuple #[])).run Tryz.prog w = .ok (.pointer (some ⟨w.heap.size, 0, none⟩)) (w.alloc (.cells (pgc zeroPg) 138)) := by
  have e : Tryz.zeroCells138 = pgc zeroPg := by kernel_rfl
  simp [Instr.alloc, Sem.run_bind, newVar, newRow, run_newObj_alloc, Value.cells, e]
theorem wpList_alloc99 {ops : Array Oper} {rest : List Oper} {o : Oper} {a : Act} {w : World} {Q : Exit → Act → World → Prop} (hg : o.guard = none) (ho : o.op = .alloc 138)
    (h : wpList Tryz.prog ops Q rest (a.put o.dst (.pointer (some ⟨w.heap.size, 0, none⟩))) (w.alloc (.cells (pgc zeroPg) 138))) : wpList Tryz.prog ops Q (o :: rest) a w :=
  Great.wpList_runTo hg _ rfl _ _ (by unfold execOp; simp only [ho, Sem.run_bind, run_alloc99, Sem.run_pure, Result.andThen_ok]) h
theorem zeroPg_len : zeroPg.length = 256 := by unfold zeroPg; rw [List.length_replicate]
theorem PgB.new (w : World) : PgB (w.alloc (.cells (pgc zeroPg) 138)) w.heap.size zeroPg := ⟨Blk.new w _ _, zeroPg_len, fun x hx => by unfold zeroPg at hx; rw [List.mem_replicate] at hx; omega⟩
theorem PgB.stay {w w' : World} {b : Nat} {l : List Nat} (h : PgB w b l) (hc : Chg [] w w') : PgB w' b l := ⟨h.blk.chg hc List.not_mem_nil, h.len, h.b8⟩
theorem fc_ucl : ∀ L : List Nat, fc ucl L = L.map fun (x : Nat) => Value.int .u8 (x : Int)
  | [] => rfl
  | x :: L => by
    have ih := fc_ucl L
    unfold fc at ih ⊢
    rw [List.flatMap_cons, ih]
    rfl
/-- a piece of a page, as bytes -/
theorem PgB.piece {w : World} {b : Nat} {l : List Nat} (h : PgB w b l) {at_ n c : Nat} (hn : at_ + n ≤ 256) (hc : n ≤ c) : RB w (.slice (some ⟨b, at_, none⟩) n c) ((l.drop at_).take n) := by
  have hl : ((l.drop at_).take n).length = n := by rw [List.length_take, List.length_drop, h.len]; omega
  refine ⟨by rw [fc_length ucl_len], _, c, by rw [hl], by rw [hl]; exact hc, fun hp => ⟨b, at_, rfl, fun j u hu => ?_⟩⟩
  rw [fc_ucl, List.getElem?_map, List.getElem?_take] at hu
  by_cases hj : j < n
  · rw [if_pos hj, List.getElem?_drop] at hu
    rw [h.blk.cell]
    unfold pgc
    rw [List.getElem?_toArray, List.getElem?_map]
    exact hu
  · rw [if_neg hj] at hu; cases hu
theorem size5 : ∀ w, (sizeOf 5).run Tryz.prog w = .ok 1 w := fun w => by
  have h : (Tryz.prog.info? 5).map (·.size) = some 1 := by kernel_rfl
  cases hq : Tryz.prog.info? 5 with
  | none => rw [hq] at h; cases h
  | some i =>
    have hi : i.size = 1 := by rw [hq] at h; simpa using h
    simp [sizeOf, typeInfo, hq, hi]
theorem run_slicePg {pb an sn : Nat} (h : an + sn ≤ 256) (h1 : 1 ≤ sn) (W : World) :
    (Instr.sliceAt 138 (.pointer (some ⟨pb, 0, none⟩)) (some (.int .i64 (an : Int))) (some (.int .i64 ((an : Int) + (sn : Int)))) none).run Tryz.prog W = .ok (.slice (some ⟨pb, an, none⟩) sn (256 - an)) W := by
  have e1 : ((an : Int) + (sn : Int)).toNat = an + sn := by omega
  have e2 : (0 : Int) ≤ (an : Int) + (sn : Int) := by omega
  have e3 : (an : Int) + (sn : Int) ≤ 256 := by omega
  have e4 : ¬ 256 = an := by omega
  have e5 : (0 : Int) ≤ (an : Int) := by omega
  have e6 : (an : Int) ≤ (an : Int) + (sn : Int) := by omega
  have e7 : an + sn - an = sn := by omega
  simp [Instr.sliceAt, run_underlying Tryz.underlying138, Instr.sureAddr, Instr.sliceBounds, Instr.sliceBound, asIntOf, e1, e2, e3, e4, e5, e6, e7, size5, Addr.add_mid]
theorem run_tailPg {pb an : Nat} (h : an < 256) (W : World) :
    (Instr.sliceAt 138 (.pointer (some ⟨pb, 0, none⟩)) (some (.int .i64 (an : Int))) none none).run Tryz.prog W = .ok (.slice (some ⟨pb, an, none⟩) (256 - an) (256 - an)) W := by
  have e3 : (an : Int) ≤ 256 := by omega
  have e4 : ¬ 256 = an := by omega
  have e5 : (0 : Int) ≤ (an : Int) := by omega
  have e6 : ¬ 256 < an := by omega
  simp [Instr.sliceAt, run_underlying Tryz.underlying138, Instr.sureAddr, Instr.sliceBounds, Instr.sliceBound, asIntOf, e3, e4, e5, e6, size5, Addr.add_mid]
set_option maxRecDepth 20000 in
set_option maxHeartbeats 40000000 in
theorem load_any {w : World} {m : Nat} {M : Mo} {O : Nat → Prop} {X : List Nat} {bp bo be : Nat} {fp fo fe : Int → Option Value} {gb : Int → Nat} {GF : Int → Nat → Prop} {ov : Int → Value}
    (hI : MIn w m M bp bo be fp fo fe gb GF ov) (hO : ∀ k, FMo M m bp bo be GF ov k → O k) {pid : Int} {p : Pr} (hp : M.pr pid = some p)
    {x : Cl} {v : Value} (hk : x.k = 8) (hx : 0 ≤ x.a ∧ x.a < 262144 ∧ 1 ≤ x.s ∧ x.a % 256 + x.s ≤ 256) :
    Calls Tryz.prog 69 #[.pointer (some ⟨gb pid, 0, none⟩), .agg (clc x v)] w fun e w' => AnsR w w' m O X ((accessA p x).1, none) e ∧ Chg [] w w' := by
  obtain ⟨d, FA, qp, qo, gp', go', gp, hP, hPF, hPl⟩ := hI.pr pid p hp
  obtain ⟨W2, hW2⟩ : ∃ W2, W2 = ((w.alloc (.cells #[.pointer (some ⟨gb pid, 0, none⟩)] 103)).alloc (.cells (clc x v) 47)).alloc (.cells (rsc zRs zV) 40) := ⟨_, rfl⟩
  have hc2 : Chg [] w W2 := by rw [hW2]; exact (((Chg.refl [] w).alloc _).alloc _).alloc _
  have hb2 : Blk W2 w.heap.size 103 #[.pointer (some ⟨gb pid, 0, none⟩)] := by rw [hW2]; exact ((Blk.new w _ _).alloc _).alloc _
  have hb3 : KB W2 (w.heap.size + 1) x v := by
    have := Blk.new (w.alloc (.cells #[.pointer (some ⟨gb pid, 0, none⟩)] 103)) 47 (clc x v)
    rw [World.size_alloc] at this
    rw [hW2]
    exact this.alloc _
  have hb4 : XB W2 (w.heap.size + 1 + 1) zRs zV := by
    have := Blk.new ((w.alloc (.cells #[.pointer (some ⟨gb pid, 0, none⟩)] 103)).alloc (.cells (clc x v) 47)) 40 (rsc zRs zV)
    rw [World.size_alloc, World.size_alloc] at this
    rw [hW2]
    exact this
  obtain ⟨b2, e2⟩ : ∃ b, b = w.heap.size := ⟨_, rfl⟩
  obtain ⟨b3, e3⟩ : ∃ b, b = w.heap.size + 1 := ⟨_, rfl⟩
  obtain ⟨b4, e4⟩ : ∃ b, b = w.heap.size + 1 + 1 := ⟨_, rfl⟩
  rw [← e4] at hb4
  rw [← e3] at hb3
  rw [← e2] at hb2
  have HE := hide (And.intro e2 (And.intro e3 e4))
  have HP := hide (fun W (h : Chg [] W2 W) => (show PIn W (gb pid) p d FA qp qo gp' go' gp from hP.cp (CP.of0 (F := fun _ => False) (hc2.stay h)) (fun _ _ h => h)))
  have HB2 := hide (fun W (h : Chg [] W2 W) => hb2.chg h List.not_mem_nil)
  have HB3 := hide (fun W (h : Chg [] W2 W) => KB.stay hb3 h)
  have HB4 := hide hb4
  have HC2 := hide hc2
  have HW2 := hide hW2
  obtain ⟨pg, hpg⟩ : ∃ z : Int, z = x.a / 256 := ⟨_, rfl⟩
  obtain ⟨an, han⟩ : ∃ z : Nat, (z : Int) = x.a % 256 := ⟨(x.a % 256).toNat, by omega⟩
  obtain ⟨sn, hsn⟩ : ∃ z : Nat, (z : Int) = x.s := ⟨x.s.toNat, by omega⟩
  have HB := hide (show an + sn ≤ 256 by omega)
  have HS1 := hide (show 1 ≤ sn by omega)
  have t1 : (x.a % 256).toNat = an := by omega
  have t2 : x.s.toNat = sn := by omega
  have hsn0 : sn ≤ 256 := by omega
  have han0 : an ≤ 256 := by omega
  have hq1 : wrap64 (x.a.tdiv 256) = pg := by rw [hpg, Int.tdiv_eq_ediv_of_nonneg hx.1]; unfold wrap64; omega
  have hq2 : wrap64 (x.a.tmod 256) = (an : Int) := by clear hq1; rw [han, Int.tmod_eq_emod_of_nonneg hx.1]; unfold wrap64; omega
  have hq3 : x.a.tmod 256 = (an : Int) := by clear hq1 hq2; rw [han, Int.tmod_eq_emod_of_nonneg hx.1]
  have hw3 : wrap64 ((an : Int) + (sn : Int)) = (an : Int) + (sn : Int) := by clear hq1 hq2; unfold wrap64; omega
  have HAC := hide (show (accessA p x).1 = (if Ar.rt p.rl pg = 0 then plainR 7 else if Ar.rt p.rl pg % 2 = 0 then plainR 190 else ⟨0, 0, (((p.pg pg).getD zeroPg).drop an).take sn⟩) by
    unfold accessA
    simp only [hk, if_true, ← hpg]
    rw [t1, t2]
    split
    · rfl
    · split <;> rfl)
  have HK := hide hk
  have HPO := hide (show ∀ pb, (∃ B, p.pg pg = some B ∧ pb = gp pg) → O pb from fun pb ⟨B, h2, h3⟩ => h3 ▸ hO _ (.inr (.inr (.inr (.inr (.inl ⟨pid, p, hp, hPF _ (.inr (.inr (.inr (.inr ⟨pg, B, h2, rfl⟩))))⟩))))))
  obtain ⟨B', hB'⟩ : ∃ B, B = (p.pg pg).getD zeroPg := ⟨_, rfl⟩
  rw [← hB'] at HAC
  obtain ⟨pa, th, hpv⟩ : ∃ (pa : Option Addr) (th : Bool), (th = true ∧ pa = some ⟨gp pg, 0, none⟩ ∧ p.pg pg = some B') ∨ (th = false ∧ pa = none ∧ p.pg pg = none ∧ B' = zeroPg) := by
    cases h : p.pg pg with
    | some B => exact ⟨_, true, .inl ⟨rfl, rfl, by rw [hB', h]; rfl⟩⟩
    | none => exact ⟨_, false, .inr ⟨rfl, rfl, rfl, by rw [hB', h]; rfl⟩⟩
  have HPV := hide hpv
  have HLK := hide (show ∀ W, Chg [] W2 W → (Instr.lookup 110 (.map (some qp)) (.int .i64 pg) true).run Tryz.prog W = .ok (.tuple #[.pointer pa, .bool th]) W from fun W h => by
    rcases hpv with ⟨rfl, rfl, hb⟩ | ⟨rfl, rfl, hb, -⟩
    · exact run_look_some Tryz.underlying110 Tryz.underlying3 (HP.out W h).mp (by rw [(HP.out W h).hp, hb]; rfl) true
    · exact run_look_none Tryz.underlying110 Tryz.underlying3 (HP.out W h).mp (by rw [(HP.out W h).hp, hb]; rfl) (zero98 W) true)
  have HRT := hide (fun W (h : Chg [] W2 W) => Ar.rights_at (HP.out W h).ar hP.sp pg)
  clear hI hO hp hP hPF hPl hb2 hb3 hb4 hc2 hW2 e2 e3 e4 hx hpv hB' hpg han hk t1 t2
  obtain ⟨c0, -, -, -, -, c5, c6, -, -, -, -, -, l3, -⟩ := KB.cells (HB3.out W2 (Chg.refl _ _))
  clear c0 c6
  go_enter Tryz.func69, Tryz.ntmps69
  go_upto_region 1 with (first | (refine wpList_box34 rfl _ rfl rfl ?_; try simp only [World.size_alloc]) | (refine wpList_allocRs rfl rfl ?_; try simp only [World.size_alloc]; try rw [← HW2.out]))
  rw [← HE.out.2.2, ← HE.out.2.1, ← HE.out.1]
  go_cut [6, 7] from 13 to 18 (fun z6 z7 W => ∃ b6 b7, z6 = .pointer (some ⟨b6, 0, none⟩) ∧ z7 = .pointer (some ⟨b7, 0, none⟩) ∧ Blk W b6 3 #[.int .i64 pg] ∧ Blk W b7 3 #[.int .i64 (an : Nat)] ∧ Chg [] W2 W ∧ W2.heap.size ≤ b6 ∧ W2.heap.size ≤ b7)
  case first =>
    refine wp_region_g [0,5,0,0,5,0,6,6,6,3] [none, none, none, none, none, none, none, none, none, none] [[0,1,2,3,4,5,6,7,8,9], [0,1,2,3,4,5,7,6,8,9]] (fun W => Chg [] W2 W) (by kernel_rfl) (by kernel_rfl) (by kernel_rfl) (by kernel_rfl) (fun L9 hL9 => ?_)
    have hS : Chg [] W2 W2.drew := (Chg.refl [] W2).drew
    generalize W2.drew = W0 at hS ⊢
    simp only [List.mem_cons, List.mem_nil_iff, or_false] at hL9
    rcases hL9 with rfl | rfl
    · simp only [picks, List.filterMap_cons, List.filterMap_nil, List.getElem?_cons_succ, List.getElem?_cons_zero]
      go_wp2_with (first | (refine wpG_hload 3 _ rfl rfl (fun w' hw' => load_int Tryz.underlying3 (KB.cells (HB3.out w' hw')).2.2.2.2.2.1) hS ?_) | (refine wpG_calc rfl (fun K hK => ?_)) | (refine wpG_skip ?_ ?_; (focus (simp [wantG]; done)); go_simp) | (refine wpG_take ?_ ?_; (focus (simp [wantG]; done))) | (refine wpG_pure (fun K hK => ?_); go_simp; refine hK _ _ ?_; clear hK K) | (refine wpG_deed (by decide) (fun K hK => ?_); go_simp) | (refine wpG_nil ?_))
      (refine wpG_keeps hS (fun K hK => ?_))
      go_simp
      refine hK _ _ (hS.alloc _) ?_
      clear hK K
      (refine wpG_keeps (hS.alloc _) (fun K hK => ?_))
      go_simp
      refine hK _ _ ((hS.alloc _).alloc _) ?_
      clear hK K
      go_wp2_with (first | fail | (refine wpG_calc rfl (fun K hK => ?_)) | (refine wpG_skip ?_ ?_; (focus (simp [wantG]; done)); go_simp) | (refine wpG_take ?_ ?_; (focus (simp [wantG]; done))) | (refine wpG_pure (fun K hK => ?_); go_simp; refine hK _ _ ?_; clear hK K) | (refine wpG_deed (by decide) (fun K hK => ?_); go_simp) | (refine wpG_nil ?_))
      (refine wpG_keeps ((hS.alloc _).alloc _) (fun K hK => ?_))
      go_simp
      refine hK _ _ ((hS.alloc _).alloc _) ?_
      clear hK K
      go_wp2_with (first | fail | (refine wpG_calc rfl (fun K hK => ?_)) | (refine wpG_skip ?_ ?_; (focus (simp [wantG]; done)); go_simp) | (refine wpG_take ?_ ?_; (focus (simp [wantG]; done))) | (refine wpG_pure (fun K hK => ?_); go_simp; refine hK _ _ ?_; clear hK K) | (refine wpG_deed (by decide) (fun K hK => ?_); go_simp) | (refine wpG_nil ?_))
      go_meet
      case rel => exact ⟨_, _, rfl, rfl, ((Blk.new W0 3 #[.int .i64 pg]).alloc _), (by have h := Blk.new (W0.alloc (.cells #[.int .i64 pg] 3)) 3 #[.int .i64 (an : Nat)]; rwa [World.size_alloc] at h), (hS.alloc _).alloc _, hS.size, Nat.le_succ_of_le hS.size⟩
    · simp only [picks, List.filterMap_cons, List.filterMap_nil, List.getElem?_cons_succ, List.getElem?_cons_zero]
      go_wp2_with (first | (refine wpG_hload 3 _ rfl rfl (fun w' hw' => load_int Tryz.underlying3 (KB.cells (HB3.out w' hw')).2.2.2.2.2.1) hS ?_) | (refine wpG_calc rfl (fun K hK => ?_)) | (refine wpG_skip ?_ ?_; (focus (simp [wantG]; done)); go_simp) | (refine wpG_take ?_ ?_; (focus (simp [wantG]; done))) | (refine wpG_pure (fun K hK => ?_); go_simp; refine hK _ _ ?_; clear hK K) | (refine wpG_deed (by decide) (fun K hK => ?_); go_simp) | (refine wpG_nil ?_))
      (refine wpG_keeps hS (fun K hK => ?_))
      go_simp
      refine hK _ _ (hS.alloc _) ?_
      clear hK K
      (refine wpG_keeps (hS.alloc _) (fun K hK => ?_))
      go_simp
      refine hK _ _ ((hS.alloc _).alloc _) ?_
      clear hK K
      go_wp2_with (first | fail | (refine wpG_calc rfl (fun K hK => ?_)) | (refine wpG_skip ?_ ?_; (focus (simp [wantG]; done)); go_simp) | (refine wpG_take ?_ ?_; (focus (simp [wantG]; done))) | (refine wpG_pure (fun K hK => ?_); go_simp; refine hK _ _ ?_; clear hK K) | (refine wpG_deed (by decide) (fun K hK => ?_); go_simp) | (refine wpG_nil ?_))
      (refine wpG_keeps ((hS.alloc _).alloc _) (fun K hK => ?_))
      go_simp
      refine hK _ _ ((hS.alloc _).alloc _) ?_
      clear hK K
      go_wp2_with (first | fail | (refine wpG_calc rfl (fun K hK => ?_)) | (refine wpG_skip ?_ ?_; (focus (simp [wantG]; done)); go_simp) | (refine wpG_take ?_ ?_; (focus (simp [wantG]; done))) | (refine wpG_pure (fun K hK => ?_); go_simp; refine hK _ _ ?_; clear hK K) | (refine wpG_deed (by decide) (fun K hK => ?_); go_simp) | (refine wpG_nil ?_))
      go_meet
      case rel => exact ⟨_, _, rfl, rfl, (by have h := Blk.new (W0.alloc (.cells #[.int .i64 (an : Nat)] 3)) 3 #[.int .i64 pg]; rwa [World.size_alloc] at h), ((Blk.new W0 3 #[.int .i64 (an : Nat)]).alloc _), (hS.alloc _).alloc _, Nat.le_succ_of_le hS.size, hS.size⟩
  obtain ⟨b6, b7, rfl, rfl, h6, h7, hcw, hg67⟩ := hcut
  have HGB := hide hg67
  clear hg67
  have H6 := hide h6
  have H7 := hide h7
  have HCW := hide hcw
  have q2 : wc.cell? ⟨b2, 0, none⟩ = some (.pointer (some ⟨gb pid, 0, none⟩)) := by simpa using (HB2.out wc hcw).cell 0
  have qA : wc.cell? ⟨gb pid, 0, none⟩ = some (.pointer (some ⟨d, 0, none⟩)) := by simpa [prc] using (HP.out wc hcw).blk.cell 0
  have q6 : wc.cell? ⟨b6, 0, none⟩ = some (.int .i64 pg) := by simpa using h6.cell 0
  have l2 := (HB2.out wc hcw).lt
  have lb := (HP.out wc hcw).blk.lt
  have l6 := h6.lt
  obtain ⟨r0, hr0⟩ : ∃ z : Int, z = Ar.rt p.rl pg := ⟨_, rfl⟩
  have hrb : Ar.hasB p.rl pg = decide (r0 ≠ 0) := by rw [hr0]; rfl
  have hr3 := (HP.out wc hcw).sp.g pg
  rw [← hr0] at HAC HRT hr3
  rw [hrb] at HRT
  have HR3 := hide hr3
  clear h6 h7 hcw hr0 hrb hr3 c5 l3 hq1 hq2 hq3
  go_upto_region 2 with (fail)
  refine wp_region_t [1, 0, 0, 1, 1, 3, 0, 0, 0, 0, 0] [none, none, none, none, none, none, none, none, none, none, none] (fun _ => True) (by kernel_rfl) (by kernel_rfl) (by kernel_rfl) ?_
  go_wp2_with (first | (refine wpG_deed (by decide) (fun K hK => ?_); go_simp; refine (HRT.out _ HCW.out.drew).mono ?_; rintro e W3 ⟨rfl, hc3⟩; refine hK _ _ ?_; clear hK K; have HC3 := hide (HCW.out.drew.stay hc3); have H63 := hide (H6.out.drew.chg hc3 List.not_mem_nil); have H73 := hide (H7.out.drew.chg hc3 List.not_mem_nil); obtain ⟨c0, -, -, -, -, -, c6, -, -, -, -, -, l3, -⟩ := KB.cells (HB3.out W3 HC3.out); rw [HK.out] at c0; clear hc3 q2 qA q6 l2 lb l6) | (refine wpG_calc rfl (fun K hK => ?_)) | (refine wpG_skip ?_ ?_; (focus (simp [wantG]; done)); go_simp) | (refine wpG_take ?_ ?_; (focus (simp [wantG]; done))) | (refine wpG_pure (fun K hK => ?_); go_simp; refine hK _ _ ?_; clear hK K) | (refine wpG_deed (by decide) (fun K hK => ?_); go_simp) | (refine wpG_nil ?_))
  go_cut [11, 12] from 31 to 39 (fun z11 z12 W => ∃ b11, z11 = .pointer (some ⟨b11, 0, none⟩) ∧ z12 = .bool th ∧ Blk W b11 115 #[.pointer pa] ∧ Chg [] W3 W ∧ W3.heap.size ≤ b11)
  case first =>
    clear c0 c6 l3
    refine wp_region_t [5,0,0,5,5,5,0,0,0,6,3,0] [none, none, none, none, none, none, none, none, none, none, none, none] (fun W => Chg [] W3 W) (by kernel_rfl) (by kernel_rfl) (by kernel_rfl) ?_
    have hS : Chg [] W3 W3.drew := (Chg.refl [] W3).drew
    generalize W3.drew = W0 at hS ⊢
    go_wp2_with (first | (refine wpG_hload 103 _ rfl rfl (fun w' hw' => load_ptr Tryz.underlying103 (by simpa using (HB2.out w' (HC3.out.stay hw')).cell 0)) hS ?_) | (refine wpG_hload 110 _ rfl rfl (fun w' hw' => load_map Tryz.underlying110 (by simpa [prc] using (HP.out w' (HC3.out.stay hw')).blk.cell 1)) hS ?_) | (refine wpG_hload 3 _ rfl rfl (fun w' hw' => load_int Tryz.underlying3 (by simpa using (H63.out.chg hw' List.not_mem_nil).cell 0)) hS ?_) | (refine wpG_hlook 110 _ _ true rfl rfl rfl (fun w' hw' => HLK.out w' (HC3.out.stay hw')) hS ?_) | (refine wpG_calc rfl (fun K hK => ?_)) | (refine wpG_skip ?_ ?_; (focus (simp [wantG]; done)); go_simp) | (refine wpG_take ?_ ?_; (focus (simp [wantG]; done))) | (refine wpG_pure (fun K hK => ?_); go_simp; refine hK _ _ ?_; clear hK K) | (refine wpG_deed (by decide) (fun K hK => ?_); go_simp) | (refine wpG_nil ?_))
    (refine wpG_keeps hS (fun K hK => ?_))
    go_simp
    refine hK _ _ (hS.alloc _) ?_
    clear hK K
    go_wp2_with (first | fail | (refine wpG_calc rfl (fun K hK => ?_)) | (refine wpG_skip ?_ ?_; (focus (simp [wantG]; done)); go_simp) | (refine wpG_take ?_ ?_; (focus (simp [wantG]; done))) | (refine wpG_pure (fun K hK => ?_); go_simp; refine hK _ _ ?_; clear hK K) | (refine wpG_deed (by decide) (fun K hK => ?_); go_simp) | (refine wpG_nil ?_))
    go_meet
    case rel => exact ⟨_, rfl, rfl, Blk.new W0 _ _, hS.alloc _, hS.size⟩
  obtain ⟨b11, rfl, rfl, h11, hcw, hg11⟩ := hcut
  have HG11 := hide hg11
  have H11 := hide h11
  have HCX := hide (HC3.out.stay hcw)
  have HCY := hide hcw
  clear h11 hcw hg11 c0 c6 l3
  go_upto_if 41 with (fail)
  go_cut [] from 41 to 42 (fun W => ∃ pb, Blk W b11 115 #[.pointer (some ⟨pb, 0, none⟩)] ∧ PgB W pb B' ∧ Chg [] W3 W ∧ ((∃ B, p.pg pg = some B ∧ pb = gp pg) ∨ (p.pg pg = none ∧ w.heap.size ≤ pb)))
  case first =>
    have l11 := H11.out.lt
    have f11 := H11.out.frozen
    rcases HPV.out with ⟨ht, hv, hb⟩ | ⟨ht, hv, hb, hz⟩
    · subst ht
      have H112 := hide (show Blk wc b11 115 #[.pointer (some ⟨gp pg, 0, none⟩)] by rw [← hv]; exact H11.out)
      have HPG := hide ((HP.out wc HCX.out).pg pg B' hb)
      have HWAY := hide (show (∃ B, p.pg pg = some B ∧ gp pg = gp pg) ∨ (p.pg pg = none ∧ w.heap.size ≤ gp pg) from .inl ⟨_, hb, rfl⟩)
      clear hv hb
      go_wp2_with fail
      go_meet
      case rel => exact ⟨_, H112.out, HPG.out, HCY.out, HWAY.out.imp (fun ⟨B, h, _⟩ => ⟨B, h, rfl⟩) id⟩
    · subst ht
      have HZ := hide hz
      have HWAY := hide (show (∃ B, p.pg pg = some B ∧ wc.heap.size = gp pg) ∨ (p.pg pg = none ∧ w.heap.size ≤ wc.heap.size) from .inr ⟨hb, Nat.le_trans HC2.out.size HCX.out.size⟩)
      have q11 : wc.cell? ⟨b11, 0, none⟩ = some (.pointer pa) := by simpa using H11.out.cell 0
      clear hv hb hz
      go_wp2_with (first | (refine wpList_alloc99 rfl rfl ?_; try go_simp))
      go_meet
      case rel =>
        refine ⟨wc.heap.size, (Blk.set_ H11.out 0 _).alloc _, ?_, (HCY.out.setCell (p := ⟨b11, 0, none⟩) (.inr HG11.out) _).alloc _, HWAY.out⟩
        have h := PgB.new (wc.setCell ⟨b11, 0, none⟩ (.pointer (some ⟨wc.heap.size, 0, none⟩)))
        rw [size_set] at h
        rw [HZ.out]
        exact h
  obtain ⟨pb, hb11, hpb, hcz, hway⟩ := hcut
  have HWAY := hide hway
  have HPB := hide hpb
  have HCZW := hide hcz
  have HCZ := hide (HC3.out.stay hcz)
  have HB11 := hide hb11
  have HPL := hide (fun e W => plain_any e W)
  have HR := hide (show ∀ (R : Rs) A n c W W7, Chg [] W2 W → Chg [b4] W W7 → R = (if r0 = 0 then plainR 7 else if r0 % 2 = 0 then plainR 190 else ⟨0, 0, (B'.drop an).take sn⟩) → RB W7 (.slice A n c) R.l → (∀ k ∈ own (.slice A n c), O k ∨ w.heap.size ≤ k) → AnsR w W7 m O X ((accessA p x).1, none) (.returned (.tuple #[.agg (rsc R (.slice A n c)), .nilFunc])) ∧ Chg [] w W7 from fun R A n c W W7 h1 h2 h3 h4 h5 => by
    obtain rfl : R = (accessA p x).1 := h3.trans HAC.out.symm
    exact ⟨⟨A, n, c, .nilFunc, rfl, h4, h5, rfl⟩, (HC2.out.stay h1).trans h2 (fun y hy => .inr (by obtain rfl := List.mem_singleton.1 hy; have := HE.out; omega))⟩)
  obtain ⟨c0, -, -, -, -, -, c6, -, -, -, -, -, l3, -⟩ := KB.cells (HB3.out wc HCZ.out)
  rw [HK.out] at c0
  have HXB := hide (XB.stay HB4.out HCZ.out)
  clear hb11 hpb hcz hway HB2 HLK HRT HC3 HCX HCY H6
  rcases (by have := HR3.out; omega : r0 = 0 ∨ r0 = 1 ∨ r0 = 2 ∨ r0 = 3) with rfl | rfl | rfl | rfl
  · go_wp2_with fail
    refine (HPL.out _ _).mono ?_
    rintro e W6 ⟨rfl, hc6⟩
    have HX6 := hide (XB.stay HXB.out hc6)
    have HC6 := hide (HCZ.out.stay hc6)
    clear hc6
    go_wp2_with (first | (refine wpList_storeRs (b := b4) (y := plainR 7) (u := zV) rfl _ _ rfl rfl rfl rfl HX6.out ?_; intro W7 h7 hc7))
    exact bodyPost_ret (v := .tuple #[.agg (rsc (plainR 7) zV), .nilFunc]) (results_twoRs (p := 4) (q := 5) rfl _ rfl h7) rfl (HR.out _ _ _ _ _ W7 HC6.out hc7 rfl (RE.nil _ _ _ _ _) (fun _ h => (own_nil h).elim))
  · have hb : bits BinOp.and .u8 1 1 = 1 := by decide
    have hsn' : x.s = (sn : Int) := hsn.symm
    rw [hsn'] at c6
    have q11 : wc.cell? ⟨b11, 0, none⟩ = some (.pointer (some ⟨pb, 0, none⟩)) := by simpa using HB11.out.cell 0
    have q7 : wc.cell? ⟨b7, 0, none⟩ = some (.int .i64 (an : Nat)) := by simpa using (H73.out.chg HCZW.out List.not_mem_nil).cell 0
    have l11 := HB11.out.lt
    have l7 := (H73.out.chg HCZW.out List.not_mem_nil).lt
    have lp := HPB.out.blk.lt
    have HBL := hide (br_l (some ⟨pb, an, none⟩) sn (256 - an) ((B'.drop an).take sn))
    have HXd := hide (show XB wc.drew b4 zRs zV from HXB.out)
    have i0 : (0 : Int) ≤ (an : Int) := by omega
    have i1 : (an : Int) ≤ (an : Int) + (sn : Int) := by omega
    have i2 : (an : Int) + (sn : Int) ≤ 256 := by have := HB.out; omega
    have hsl := fun W => run_slicePg (pb := pb) HB.out HS1.out W
    clear hsn' hsn
    go_upto_region 14 with (fail)
    refine wp_region_t [1, 0, 1, 1, 0, 1, 0, 0, 0, 3, 0] [none, none, none, none, none, none, none, none, none, none, none] (fun _ => True) (by kernel_rfl) (by kernel_rfl) (by kernel_rfl) ?_
    go_wp2_with (first | (refine wpG_buildRs _ rfl HBL.out ?_ ?_; (focus (simp [Act.eval]; done))) | (refine wpG_deed (by decide) (fun K hK => ?_); refine wp_storeRs (y := ⟨0, 0, ((B'.drop an).take sn)⟩) (u := .slice (some ⟨pb, an, none⟩) sn (256 - an)) _ _ rfl rfl rfl rfl HXd.out ?_; intro W7 h7 hc7; refine hK _ _ ?_; clear hK K) | (refine wpG_calc rfl (fun K hK => ?_)) | (refine wpG_skip ?_ ?_; (focus (simp [wantG]; done)); go_simp) | (refine wpG_take ?_ ?_; (focus (simp [wantG]; done))) | (refine wpG_pure (fun K hK => ?_); go_simp; refine hK _ _ ?_; clear hK K) | (refine wpG_deed (by decide) (fun K hK => ?_); go_simp) | (refine wpG_nil ?_))
    exact bodyPost_ret (v := .tuple #[.agg (rsc ⟨0, 0, ((B'.drop an).take sn)⟩ (.slice (some ⟨pb, an, none⟩) sn (256 - an))), .nilFunc]) (results_twoRs (p := 4) (q := 5) rfl _ rfl h7) rfl (HR.out ⟨0, 0, ((B'.drop an).take sn)⟩ (some ⟨pb, an, none⟩) sn (256 - an) wc.drew W7 (HCZ.out.drew) hc7 rfl (by
    have hbb := HB.out
    exact PgB.piece (⟨Blk.chg (show Blk wc.drew pb _ _ from HPB.out.blk) hc7 (by simp; exact Blk.ne_ HPB.out.blk HXB.out (by decide)), HPB.out.len, HPB.out.b8⟩ : PgB W7 pb B') hbb (by omega)) (fun k hk => by rw [own_at] at hk; obtain rfl := List.mem_singleton.1 hk; exact HWAY.out.imp (HPO.out _) (fun h => h.2)))
  · have hb : bits BinOp.and .u8 2 1 = 0 := by decide
    go_wp2_with fail
    refine (HPL.out _ _).mono ?_
    rintro e W6 ⟨rfl, hc6⟩
    have HX6 := hide (XB.stay HXB.out hc6)
    have HC6 := hide (HCZ.out.stay hc6)
    clear hc6
    go_wp2_with (first | (refine wpList_storeRs (b := b4) (y := plainR 190) (u := zV) rfl _ _ rfl rfl rfl rfl HX6.out ?_; intro W7 h7 hc7))
    exact bodyPost_ret (v := .tuple #[.agg (rsc (plainR 190) zV), .nilFunc]) (results_twoRs (p := 4) (q := 5) rfl _ rfl h7) rfl (HR.out _ _ _ _ _ W7 HC6.out hc7 rfl (RE.nil _ _ _ _ _) (fun _ h => (own_nil h).elim))
  · have hb : bits BinOp.and .u8 3 1 = 1 := by decide
    have hsn' : x.s = (sn : Int) := hsn.symm
    rw [hsn'] at c6
    have q11 : wc.cell? ⟨b11, 0, none⟩ = some (.pointer (some ⟨pb, 0, none⟩)) := by simpa using HB11.out.cell 0
    have q7 : wc.cell? ⟨b7, 0, none⟩ = some (.int .i64 (an : Nat)) := by simpa using (H73.out.chg HCZW.out List.not_mem_nil).cell 0
    have l11 := HB11.out.lt
    have l7 := (H73.out.chg HCZW.out List.not_mem_nil).lt
    have lp := HPB.out.blk.lt
    have HBL := hide (br_l (some ⟨pb, an, none⟩) sn (256 - an) ((B'.drop an).take sn))
    have HXd := hide (show XB wc.drew b4 zRs zV from HXB.out)
    have i0 : (0 : Int) ≤ (an : Int) := by omega
    have i1 : (an : Int) ≤ (an : Int) + (sn : Int) := by omega
    have i2 : (an : Int) + (sn : Int) ≤ 256 := by have := HB.out; omega
    have hsl := fun W => run_slicePg (pb := pb) HB.out HS1.out W
    clear hsn' hsn
    go_upto_region 14 with (fail)
    refine wp_region_t [1, 0, 1, 1, 0, 1, 0, 0, 0, 3, 0] [none, none, none, none, none, none, none, none, none, none, none] (fun _ => True) (by kernel_rfl) (by kernel_rfl) (by kernel_rfl) ?_
    go_wp2_with (first | (refine wpG_buildRs _ rfl HBL.out ?_ ?_; (focus (simp [Act.eval]; done))) | (refine wpG_deed (by decide) (fun K hK => ?_); refine wp_storeRs (y := ⟨0, 0, ((B'.drop an).take sn)⟩) (u := .slice (some ⟨pb, an, none⟩) sn (256 - an)) _ _ rfl rfl rfl rfl HXd.out ?_; intro W7 h7 hc7; refine hK _ _ ?_; clear hK K) | (refine wpG_calc rfl (fun K hK => ?_)) | (refine wpG_skip ?_ ?_; (focus (simp [wantG]; done)); go_simp) | (refine wpG_take ?_ ?_; (focus (simp [wantG]; done))) | (refine wpG_pure (fun K hK => ?_); go_simp; refine hK _ _ ?_; clear hK K) | (refine wpG_deed (by decide) (fun K hK => ?_); go_simp) | (refine wpG_nil ?_))
    exact bodyPost_ret (v := .tuple #[.agg (rsc ⟨0, 0, ((B'.drop an).take sn)⟩ (.slice (some ⟨pb, an, none⟩) sn (256 - an))), .nilFunc]) (results_twoRs (p := 4) (q := 5) rfl _ rfl h7) rfl (HR.out ⟨0, 0, ((B'.drop an).take sn)⟩ (some ⟨pb, an, none⟩) sn (256 - an) wc.drew W7 (HCZ.out.drew) hc7 rfl (by
    have hbb := HB.out
    exact PgB.piece (⟨Blk.chg (show Blk wc.drew pb _ _ from HPB.out.blk) hc7 (by simp; exact Blk.ne_ HPB.out.blk HXB.out (by decide)), HPB.out.len, HPB.out.b8⟩ : PgB W7 pb B') hbb (by omega)) (fun k hk => by rw [own_at] at hk; obtain rfl := List.mem_singleton.1 hk; exact HWAY.out.imp (HPO.out _) (fun h => h.2)))
end Go.Proofs.YtfoleblcaloeoaaGreatDoor

/- What stores, frees and pokes do to the machine: plain ends. -/
namespace Go.Proofs.YtfoleblcaloeoaaGreatDoor
open Go Go.RowKit

theorem splice_length {b l : List Nat} {a : Nat} (h : a + l.length ≤ b.length) : (splice b a l).length = b.length := by
  unfold splice
  simp only [List.length_append, List.length_take, List.length_drop]
  omega
theorem splice_lt {b l : List Nat} {a : Nat} (hb : ∀ x ∈ b, x < 256) (hl : ∀ x ∈ l, x < 256) : ∀ x ∈ splice b a l, x < 256 := by
  unfold splice
  intro x hx
  rcases List.mem_append.1 hx with hx | hx
  · rcases List.mem_append.1 hx with hx | hx
    · exact hb x (List.mem_of_mem_take hx)
    · exact hl x hx
  · exact hb x (List.mem_of_mem_drop hx)
theorem Ar.AMem.tight {w : World} {d : Nat} {l : List Ar.Rn} {F : List Nat} (h : Ar.AMem w d l F) : ∃ F', Ar.AMem w d l F' ∧ (∀ k ∈ F', k ∈ F) ∧ ∀ k ∈ F', (∃ cs, Blk w k 142 cs) ∨ ∃ cs, Blk w k 144 cs := by
  obtain ⟨v, hb, hs, hF, hlt⟩ := h
  refine ⟨d :: own v, ⟨v, hb, hs, fun k hk => hk, fun k hk => hlt k (hF k hk)⟩, hF, fun k hk => ?_⟩
  rcases List.mem_cons.1 hk with rfl | hk
  · exact .inl ⟨_, hb⟩
  · obtain ⟨cur, hc⟩ := Sl.blk hs hk
    exact .inr ⟨_, hc⟩
section
variable {w W : World} {m : Nat} {M : Mo} {O : Nat → Prop} {bp bo be : Nat} {fp fo fe : Int → Option Value} {gb : Int → Nat} {GF : Int → Nat → Prop} {ov : Int → Value}
theorem access_end (hI : MIn w m M bp bo be fp fo fe gb GF ov) (hO : ∀ k, FMo M m bp bo be GF ov k → O k) (hl : ∀ k, O k → k < w.heap.size) {pid : Int} {p : Pr} (hp : M.pr pid = some p)
    {d : Nat} {FA : List Nat} {qp qo : Nat} {gp' go' : Int → Option Value} {gp : Int → Nat} (hP : PIn w (gb pid) p d FA qp qo gp' go' gp) (hPF : ∀ k, FPr p (gb pid) FA qp qo gp k → GF pid k) (hPl : ∀ k, GF pid k → k < w.heap.size)
    {pg : Int} {B2 : List Nat} {pb : Nat} (hpb : (∃ B, p.pg pg = some B ∧ pb = gp pg) ∨ (p.pg pg = none ∧ ¬ O pb)) (hB0 : ∃ B, PgB w pb B)
    (hc : Chg [pb, qp] w W) (hB : PgB W pb B2) (h1 : MapB W qp .i64 fun y => if y = pg then some (.pointer (some ⟨pb, 0, none⟩)) else gp' y) :
    CP (fun k => O k ∨ k = pb) w W ∧ ∃ O', MMem W m { M with pr := upd M.pr pid (some { p with pg := upd p.pg pg (some B2) }) } O' ∧ ∀ k, O' k → O k ∨ k = pb := by
  have hGO : ∀ k, GF pid k → O k := fun k hk => hO k (.inr (.inr (.inr (.inr (.inl ⟨pid, p, hp, hk⟩)))))
  have hG : CP (fun k => k = pb ∨ k = qp) w W := CP.of hc (fun k hk => .inl (by simpa using hk))
  have hpg : ∀ n B, p.pg n = some B → GF pid (gp n) := fun n B h => hPF _ (.inr (.inr (.inr (.inr ⟨n, B, h, rfl⟩))))
  have nqp : pb ≠ qp := by
    rcases hpb with ⟨B, h, e⟩ | ⟨_, h⟩
    · rw [e]; exact Blk.ne_map (hP.pg pg B h).blk hP.mp
    · exact fun e => h (e ▸ hGO _ (hPF _ (.inr (.inr (.inl rfl)))))
  obtain ⟨B0, hB0⟩ := hB0
  have npb : gb pid ≠ pb := (Blk.ne_ hB0.blk hP.blk (by decide)).symm
  have nqo : pb ≠ qo := Blk.ne_map hB0.blk hP.mo
  obtain ⟨FB, hAB, hsub, htyp⟩ := hP.ar.tight
  have nFA : pb ∉ FB := fun hk => by
    rcases htyp pb hk with ⟨cs, h⟩ | ⟨cs, h⟩
    · exact Blk.ne_ h hB0.blk (by decide) rfl
    · exact Blk.ne_ h hB0.blk (by decide) rfl
  have hinj : ∀ n B, p.pg n = some B → n ≠ pg → gp n ≠ pb := fun n B h hn e => by
    rcases hpb with ⟨B', h', e'⟩ | ⟨_, h'⟩
    · exact hn (hP.inj n pg B B' h h' (e.trans e'))
    · exact h' (e ▸ hGO _ (hpg n B h))
  have hold : ∀ n B, upd p.pg pg (some B2) n = some B → n ≠ pg → p.pg n = some B := fun n B h hn => by rwa [upd_ne _ _ hn] at h
  have hsz := hc.size
  obtain ⟨r1, O', r2, r3⟩ := proc_endG (G := fun k => k = pb ∨ k = qp) (F' := fun k => GF pid k ∨ k = pb) hI hO hl hp hG
    (by
      rintro k (rfl | rfl)
      · rcases hpb with ⟨B, h, e⟩ | ⟨_, h⟩
        · exact .inl (e ▸ hpg pg B h)
        · exact .inr h
      · exact .inl (hPF _ (.inr (.inr (.inl rfl)))))
    (p' := { p with pg := upd p.pg pg (some B2) })
    ⟨d, FB, qp, qo, _, go', upd gp pg pb, ⟨hP.blk.cp hG (by rintro (e | e); exact npb e; exact Blk.ne_map hP.blk hP.mp e), hAB.cp hG (by
        rintro k hk (e | e)
        · exact nFA (e ▸ hk)
        · rcases htyp k hk with ⟨cs, h⟩ | ⟨cs, h⟩
          · exact Blk.ne_map h hP.mp e
          · exact Blk.ne_map h hP.mp e), hP.sp, h1, hP.mo.cp hG (by rintro (e | e); exact nqo e.symm; exact hP.ne e.symm), fun n => by
        show (if n = pg then some (Value.pointer (some ⟨pb, 0, none⟩)) else gp' n) = (upd p.pg pg (some B2) n).map _
        by_cases hn : n = pg
        · rw [if_pos hn, hn, upd_at, upd_at]; rfl
        · rw [if_neg hn, upd_ne _ _ hn, upd_ne _ _ hn]; exact hP.hp n, hP.ho, fun n B h => by
        by_cases hn : n = pg
        · subst hn
          have h2 : upd p.pg n (some B2) n = some B := h
          rw [upd_at] at h2
          obtain rfl := Option.some.inj h2
          rw [upd_at]; exact hB
        · rw [upd_ne _ _ hn]
          have h2 := hold n B h hn
          exact (hP.pg n B h2).cp hG (by
            rintro (e | e)
            · exact hinj n B h2 hn e
            · exact Blk.ne_map (hP.pg n B h2).blk hP.mp e), fun n n' B B' h h' e => by
        by_cases hn : n = pg
        · by_cases hn' : n' = pg
          · rw [hn, hn']
          · rw [hn, upd_at, upd_ne _ _ hn'] at e
            exact absurd e.symm (hinj n' B' (hold n' B' h' hn') hn')
        · by_cases hn' : n' = pg
          · rw [hn', upd_at, upd_ne _ _ hn] at e
            exact absurd e (hinj n B (hold n B h hn) hn)
          · rw [upd_ne _ _ hn, upd_ne _ _ hn'] at e
            exact hP.inj n n' B B' (hold n B h hn) (hold n' B' h' hn') e, hP.ne, hP.pk, hP.pm, hP.ow⟩, by
      rintro k (rfl | hk | rfl | rfl | ⟨n, B, h, rfl⟩)
      · exact .inl (hPF _ (.inl rfl))
      · exact .inl (hPF _ (.inr (.inl (hsub k hk))))
      · exact .inl (hPF _ (.inr (.inr (.inl rfl))))
      · exact .inl (hPF _ (.inr (.inr (.inr (.inl rfl)))))
      · by_cases hn : n = pg
        · rw [hn, upd_at]; exact .inr rfl
        · rw [upd_ne _ _ hn]; exact .inl (hpg n B (hold n B h hn)), by
      rintro k (hk | rfl)
      · have := hPl k hk; omega
      · have := hB0.blk.lt; omega⟩
    (by
      rintro k (hk | rfl)
      · exact .inl hk
      · rcases hpb with ⟨B, h, e⟩ | ⟨_, h⟩
        · exact .inl (e ▸ hpg pg B h)
        · exact .inr h)
  refine ⟨?_, O', r2, fun k hk => ?_⟩
  · obtain ⟨L, g1, g2⟩ := r1
    refine ⟨L, g1, fun k hk => (g2 k hk).imp (fun h => ?_) id⟩
    rcases h with h | h | h
    · exact .inl h
    · exact .inr h
    · exact .inl (h ▸ hGO _ (hPF _ (.inr (.inr (.inl rfl)))))
  · rcases r3 k hk with h | h | h
    · exact .inl h
    · exact .inl (hGO _ h)
    · exact .inr h
theorem free_end (hI : MIn w m M bp bo be fp fo fe gb GF ov) (hO : ∀ k, FMo M m bp bo be GF ov k → O k) (hl : ∀ k, O k → k < w.heap.size) {z : Int} (hc : Chg [bo] w W)
    (ho : MapB W bo .u64 fun y => if y = z then none else fo y) :
    CP O w W ∧ ∃ O', MMem W m { M with ob := upd M.ob z none } O' ∧ ∀ k, O' k → O k ∨ w.heap.size ≤ k := by
  have hne : ∀ h B, upd M.ob z none h = some B → M.ob h = some B := fun h B e => by
    by_cases e2 : h = z
    · rw [e2, upd_at] at e; cases e
    · rwa [upd_ne _ _ e2] at e
  refine obj_end hI hO hl hc (fun k hk => .inl (List.mem_singleton.1 hk)) (ov' := ov) ho (hI.me.chg hc (by simp; exact fun e => hI.d3 e.symm)) (fun h => ?_) (fun h B e => ?_) (fun h h' B B' e e' => hI.oa h h' B B' (hne h B e) (hne h' B' e')) hI.he (fun h B e k hk => .inl ⟨h, B, hne h B e, hk⟩)
  · by_cases e : h = z
    · simp [upd, e]
    · simp only [upd, if_neg e]; exact hI.ho h
  · have hb := hI.ob h B (hne h B e)
    exact ⟨hb.1.chg hc (fun k hk h2 => by
      obtain rfl := List.mem_singleton.1 h2
      exact SB.ne_map hb.1 hI.mo hk), hb.2⟩
theorem poke_end (hI : MIn w m M bp bo be fp fo fe gb GF ov) (hO : ∀ k, FMo M m bp bo be GF ov k → O k) (hl : ∀ k, O k → k < w.heap.size) {z : Int} {B : List Nat} (hz : M.ob z = some B) {a : Nat} {l : List Nat} (ha : a + l.length ≤ B.length) (hl8 : ∀ x ∈ l, x < 256)
    (hc : Chg (own (ov z)) w W) (hS : SB W (ov z) (splice B a l)) :
    CP O w W ∧ ∃ O', MMem W m { M with ob := upd M.ob z (some (splice B a l)) } O' ∧ ∀ k, O' k → O k ∨ w.heap.size ≤ k := by
  have hob := hI.ob z B hz
  have hne : ∀ h B', upd M.ob z (some (splice B a l)) h = some B' → ∃ B'', M.ob h = some B'' := fun h B' e => by
    by_cases e2 : h = z
    · exact ⟨B, e2 ▸ hz⟩
    · rw [upd_ne _ _ e2] at e; exact ⟨B', e⟩
  have nmo : bo ∉ own (ov z) := SB.ne_map hob.1 hI.mo
  have nme : be ∉ own (ov z) := SB.ne_map hob.1 hI.me
  refine obj_end hI hO hl hc (fun k hk => .inr (.inr (.inl ⟨z, B, hz, hk⟩))) (ov' := ov) (hI.mo.chg hc nmo) (hI.me.chg hc nme) (fun h => ?_) (fun h B' e => ?_) (fun h h' B1 B2 e e' => ?_) hI.he (fun h B' e k hk => ?_)
  · by_cases e : h = z
    · subst e
      rw [upd_at, hI.ho, hz]; rfl
    · rw [upd_ne _ _ e]; exact hI.ho h
  · by_cases e2 : h = z
    · subst e2
      rw [upd_at] at e
      obtain rfl := Option.some.inj e
      exact ⟨hS, splice_lt hob.2.1 hl8, by rw [splice_length ha]; exact hob.2.2⟩
    · rw [upd_ne _ _ e2] at e
      have hb := hI.ob h B' e
      exact ⟨hb.1.chg hc (fun k hk hk2 => hI.oa h z B' B e hz e2 k hk hk2), hb.2⟩
  · obtain ⟨B1', e1⟩ := hne h B1 e
    obtain ⟨B2', e2⟩ := hne h' B2 e'
    exact hI.oa h h' B1' B2' e1 e2
  · obtain ⟨B'', e1⟩ := hne h B' e
    exact .inl ⟨h, B'', e1, hk⟩
end
end Go.Proofs.YtfoleblcaloeoaaGreatDoor

/- access: stores (printed by genmom.py). -/
namespace Go.Proofs.YtfoleblcaloeoaaGreatDoor
open Go Go.RowKit

theorem info5s : (Tryz.prog.info? 5).map (·.size) = some 1 := by kernel_rfl
theorem PgB.copy {w : World} {pb an : Nat} {B l : List Nat} {v : Value} (h : PgB w pb B) (hv : RB w v l) (h1 : 1 ≤ l.length) (hn : an + l.length ≤ 256) (hl : ∀ x ∈ l, x < 256) :
    ∃ w' u, (∀ ty, (Builtin.copy_ #[38, 38] ty #[.slice (some ⟨pb, an, none⟩) (256 - an) (256 - an), v]).run Tryz.prog w = .ok u w') ∧ PgB w' pb (splice B an l) ∧ Chg [pb] w w' := by
  obtain ⟨A, c, rfl⟩ := RE.form hv
  obtain ⟨g, off, rfl⟩ := RE.addr hv (by omega)
  have hlen := h.len
  have hfl : (fc ucl l).length = l.length := by rw [fc_ucl, List.length_map]
  have hsz : (pgc B).size = 256 := by unfold pgc; simp [hlen]
  have hsrc : ∀ j u, (fc ucl l)[j]? = some u → w.cell? ((⟨g, off, none⟩ : Addr).add j) = some u := fun j u hu => by
    obtain ⟨_, A', c', e, _, hat⟩ := hv
    obtain ⟨g2, off2, e', hc⟩ := hat (by omega)
    rw [e'] at e
    injection e with e _ _
    injection e with e
    injection e with ea eb
    subst ea; subst eb
    rw [Addr.add_lit]
    exact hc j u hu
  have e1 : ((pgc B).toList.take an ++ fc ucl l ++ (pgc B).toList.drop (an + (fc ucl l).length)).toArray = pgc (splice B an l) := by
    rw [hfl]
    unfold pgc splice
    rw [fc_ucl]
    simp [List.map_take, List.map_drop]
  refine ⟨_, _, fun ty => run_copy_row Tryz.prog w 38 38 ty 5 pb an (256 - an) (256 - an) ⟨g, off, none⟩ l.length c (pgc B) _ (fc ucl l) Tryz.underlying38 info5s h.blk (by rw [hfl]; exact (Nat.min_eq_left (by omega)).symm) hsrc (by rw [hfl]; omega) (ucl_one l), ?_, ?_⟩
  · refine ⟨?_, by rw [splice_length (by omega)]; exact hlen, splice_lt h.b8 hl⟩
    have := setRow_heap w pb _ ((pgc B).toList.take an ++ fc ucl l ++ (pgc B).toList.drop (an + (fc ucl l).length)).toArray _ _ h.blk
    rw [e1] at this ⊢
    exact this
  · exact (Chg.refl [pb] w).setRow (.inl (by simp)) _
theorem wp_copyRuns {o : Oper} {a : Act} {w w' : World} {K : Act → World → Prop} {Q : Exit → Act → World → Prop} (s x : Operand) (ho : o.op = .call { callee := .builtin .copy, args := #[s, x], argTypes := #[38, 38] })
    {v y u : Value} (hs : a.eval s = v) (hx : a.eval x = y) (hrun : ∀ ty, (Builtin.copy_ #[38, 38] ty #[v, y]).run Tryz.prog w = .ok u w') (h : K (a.put o.dst u) w') : o.wp Tryz.prog a w K Q := by
  unfold Oper.wp execOp
  simp only [ho, resolve, invoke, builtin, Sem.run_bind, Sem.run_pure, Result.andThen_ok, List.map_toArray, List.map_cons, List.map_nil, hs, hx, hrun]
  exact h
set_option maxRecDepth 20000 in
set_option maxHeartbeats 40000000 in
theorem access_do {w : World} {m : Nat} {M : Mo} {O : Nat → Prop} {bp bo be : Nat} {fp fo fe : Int → Option Value} {gb : Int → Nat} {GF : Int → Nat → Prop} {ov : Int → Value}
    (hI : MIn w m M bp bo be fp fo fe gb GF ov) (hO : ∀ k, FMo M m bp bo be GF ov k → O k) (hl : ∀ k, O k → k < w.heap.size) {pid : Int} {p : Pr} (hp : M.pr pid = some p)
    {d : Nat} {FA : List Nat} {qp qo : Nat} {gp' go' : Int → Option Value} {gp : Int → Nat} (hP : PIn w (gb pid) p d FA qp qo gp' go' gp) (hPF : ∀ k, FPr p (gb pid) FA qp qo gp k → GF pid k) (hPl : ∀ k, GF pid k → k < w.heap.size)
    {b11 b7 b3 b2 b6 pb an : Nat} {pg : Int} {B' : List Nat} {x : Cl} {v : Value} (hpb : (∃ B, p.pg pg = some B ∧ pb = gp pg) ∨ (p.pg pg = none ∧ ¬ O pb)) (hB : PgB w pb B')
    (h11 : Blk w b11 115 #[.pointer (some ⟨pb, 0, none⟩)]) (h7 : Blk w b7 3 #[.int .i64 (an : Nat)]) (h3 : KB w b3 x v) (h2 : Blk w b2 103 #[.pointer (some ⟨gb pid, 0, none⟩)]) (h6 : Blk w b6 3 #[.int .i64 pg])
    (hv : RB w v x.l) (h1 : 1 ≤ x.l.length) (hn : an + x.l.length ≤ 256) (hl8 : ∀ y ∈ x.l, y < 256) :
    Calls Tryz.prog 99 #[.pointer (some ⟨b11, 0, none⟩), .pointer (some ⟨b7, 0, none⟩), .pointer (some ⟨b3, 0, none⟩), .pointer (some ⟨b2, 0, none⟩), .pointer (some ⟨b6, 0, none⟩)] w fun e W' => e = .returned (.tuple #[]) ∧ CP (fun k => O k ∨ k = pb) w W' ∧
      ∃ O', MMem W' m { M with pr := upd M.pr pid (some { p with pg := upd p.pg pg (some (splice B' an x.l)) }) } O' ∧ ∀ k, O' k → O k ∨ k = pb := by
  have H99D := hide (fun W (hc : Chg [pb, qp] w W) (hB2 : PgB W pb (splice B' an x.l)) => @access_end w W m M O bp bo be fp fo fe gb GF ov hI hO hl pid p hp d FA qp qo gp' go' gp hP hPF hPl pg (splice B' an x.l) pb hpb ⟨B', hB⟩ hc hB2)
  obtain ⟨W5, u5, hrun, hB5, hc5⟩ := PgB.copy (w := w.drew) (show PgB w.drew pb B' from ⟨hB.blk, hB.len, hB.b8⟩) (show RB w.drew v x.l from hv) h1 hn hl8
  have q11 : w.cell? ⟨b11, 0, none⟩ = some (.pointer (some ⟨pb, 0, none⟩)) := by simpa using h11.cell 0
  have q7 : w.cell? ⟨b7, 0, none⟩ = some (.int .i64 (an : Nat)) := by simpa using h7.cell 0
  have q3 := (KB.cells h3).2.2.2.2.2.2.2.2.2.2.2.1
  have l11 := h11.lt
  have l7 := h7.lt
  have l3 := h3.lt
  have lpb := hB.blk.lt
  have n1 : (0 : Int) ≤ (an : Int) := by omega
  have n2 : (an : Int) ≤ 256 := by omega
  have n3 : ¬ (an : Int) = 256 := by omega
  have n4 : ¬ an = 256 := by omega
  have hsl := fun W => run_tailPg (pb := pb) (show an < 256 by omega) W
  have HRUN := hide hrun
  have HB5 := hide hB5
  have HC5 := hide hc5
  have hmp5 : MapB W5 qp .i64 gp' := (show MapB w.drew qp .i64 gp' from hP.mp).chg hc5 (fun e => Blk.ne_map hB.blk hP.mp (List.mem_singleton.1 e).symm)
  have HMP := hide (show MapB W5.drew qp .i64 gp' from hmp5)
  have h25 : Blk W5 b2 103 #[.pointer (some ⟨gb pid, 0, none⟩)] := (show Blk w.drew b2 _ _ from h2).chg hc5 (by simp; exact Blk.ne_ h2 hB.blk (by decide))
  have h65 : Blk W5 b6 3 #[.int .i64 pg] := (show Blk w.drew b6 _ _ from h6).chg hc5 (by simp; exact Blk.ne_ h6 hB.blk (by decide))
  have h115 : Blk W5 b11 115 #[.pointer (some ⟨pb, 0, none⟩)] := (show Blk w.drew b11 _ _ from h11).chg hc5 (by simp; exact Blk.ne_ h11 hB.blk (by decide))
  have hgb : Blk W5 (gb pid) 113 (prc d qp qo p) := (show Blk w.drew (gb pid) _ _ from hP.blk).chg hc5 (by simp; exact (Blk.ne_ hB.blk hP.blk (by decide)).symm)
  have HQ := hide (And.intro h25 (And.intro h65 (And.intro h115 hgb)))
  have HNQ := hide (show pb ≠ qp from Blk.ne_map hB.blk hP.mp)
  generalize splice B' an x.l = B2 at *
  clear hmp5 hI hO hl hp hP hPF hPl hpb hB h11 h7 h3 h2 h6 hv h1 hn hl8 hrun hB5 hc5 h25 h65 h115 hgb
  go_enter Tryz.func99, Tryz.ntmps99
  go_upto_region 0 with (fail)
  refine wp_region_t [1, 0, 1, 0, 0, 1, 3] [none, none, none, none, none, none, none] (fun _ => True) (by kernel_rfl) (by kernel_rfl) (by kernel_rfl) ?_
  go_wp2_with (first | (refine wpG_deed (by decide) (fun K hK => ?_); refine wp_copyRuns _ _ rfl rfl rfl HRUN.out ?_; refine hK _ _ ?_; clear hK K) | (refine wpG_calc rfl (fun K hK => ?_)) | (refine wpG_skip ?_ ?_; (focus (simp [wantG]; done)); go_simp) | (refine wpG_take ?_ ?_; (focus (simp [wantG]; done))) | (refine wpG_pure (fun K hK => ?_); go_simp; refine hK _ _ ?_; clear hK K) | (refine wpG_deed (by decide) (fun K hK => ?_); go_simp) | (refine wpG_nil ?_))
  clear q11 q7 q3 l11 l7 l3 lpb
  have q2 : W5.cell? ⟨b2, 0, none⟩ = some (.pointer (some ⟨gb pid, 0, none⟩)) := by simpa using HQ.out.1.cell 0
  have q6 : W5.cell? ⟨b6, 0, none⟩ = some (.int .i64 pg) := by simpa using HQ.out.2.1.cell 0
  have q11 : W5.cell? ⟨b11, 0, none⟩ = some (.pointer (some ⟨pb, 0, none⟩)) := by simpa using HQ.out.2.2.1.cell 0
  have qp1 : W5.cell? ⟨gb pid, 1, none⟩ = some (.map (some qp)) := by simpa [prc] using HQ.out.2.2.2.cell 1
  have l2 := HQ.out.1.lt
  have l6 := HQ.out.2.1.lt
  have l11 := HQ.out.2.2.1.lt
  have lb := HQ.out.2.2.2.lt
  refine wp_region_t [1, 0, 0, 1, 1, 1, 3] [none, none, none, none, none, none, none] (fun _ => True) (by kernel_rfl) (by kernel_rfl) (by kernel_rfl) ?_
  go_wp2_with (first | (refine wpG_deed (by decide) (fun K hK => ?_); refine wp_update _ _ _ rfl Tryz.underlying110 Tryz.underlying3 rfl rfl rfl HMP.out ?_; intro W6 h6 hc6; refine hK _ _ ?_; clear hK K) | (refine wpG_calc rfl (fun K hK => ?_)) | (refine wpG_skip ?_ ?_; (focus (simp [wantG]; done)); go_simp) | (refine wpG_take ?_ ?_; (focus (simp [wantG]; done))) | (refine wpG_pure (fun K hK => ?_); go_simp; refine hK _ _ ?_; clear hK K) | (refine wpG_deed (by decide) (fun K hK => ?_); go_simp) | (refine wpG_nil ?_))
  go_end0
  have hcW : Chg [pb, qp] w W6 := ((((Chg.refl [] w).drew).then_ (HC5.out)).drew.mono (fun y hy => .inl (by simp at hy; simp [hy]))).trans hc6 (fun y hy => .inl (by simp at hy; simp [hy]))
  exact ⟨rfl, H99D.out W6 hcW (by
    have := HNQ.out
    exact ⟨(show Blk W5.drew pb _ _ from HB5.out.blk).chg hc6 (by simpa using this), HB5.out.len, HB5.out.b8⟩) h6⟩
set_option maxRecDepth 20000 in
set_option maxHeartbeats 40000000 in
theorem store_any {w : World} {m : Nat} {M : Mo} {O : Nat → Prop} {X : List Nat} {bp bo be : Nat} {fp fo fe : Int → Option Value} {gb : Int → Nat} {GF : Int → Nat → Prop} {ov : Int → Value}
    (hI : MIn w m M bp bo be fp fo fe gb GF ov) (hO : ∀ k, FMo M m bp bo be GF ov k → O k) (hl : ∀ k, O k → k < w.heap.size) {pid : Int} {p : Pr} (hp : M.pr pid = some p)
    {x : Cl} {v : Value} (hk : x.k = 9) (hx : 0 ≤ x.a ∧ x.a < 262144 ∧ 1 ≤ x.l.length ∧ x.a % 256 + x.l.length ≤ 256) (hv : RB w v x.l) (hX : x.l ≠ [] → ∀ k ∈ own v, k ∈ X) (hl8 : ∀ y ∈ x.l, y < 256) :
    Calls Tryz.prog 69 #[.pointer (some ⟨gb pid, 0, none⟩), .agg (clc x v)] w fun e w' => AnsR w w' m O X ((accessA p x).1, (accessA p x).2.map fun q => { M with pr := upd M.pr pid (some q) }) e ∧ Chg [] w w' := by
  obtain ⟨d, FA, qp, qo, gp', go', gp, hP, hPF, hPl⟩ := hI.pr pid p hp
  obtain ⟨W2, hW2⟩ : ∃ W2, W2 = ((w.alloc (.cells #[.pointer (some ⟨gb pid, 0, none⟩)] 103)).alloc (.cells (clc x v) 47)).alloc (.cells (rsc zRs zV) 40) := ⟨_, rfl⟩
  have hc2 : Chg [] w W2 := by rw [hW2]; exact (((Chg.refl [] w).alloc _).alloc _).alloc _
  have hb2 : Blk W2 w.heap.size 103 #[.pointer (some ⟨gb pid, 0, none⟩)] := by rw [hW2]; exact ((Blk.new w _ _).alloc _).alloc _
  have hb3 : KB W2 (w.heap.size + 1) x v := by
    have := Blk.new (w.alloc (.cells #[.pointer (some ⟨gb pid, 0, none⟩)] 103)) 47 (clc x v)
    rw [World.size_alloc] at this
    rw [hW2]
    exact this.alloc _
  have hb4 : XB W2 (w.heap.size + 1 + 1) zRs zV := by
    have := Blk.new ((w.alloc (.cells #[.pointer (some ⟨gb pid, 0, none⟩)] 103)).alloc (.cells (clc x v) 47)) 40 (rsc zRs zV)
    rw [World.size_alloc, World.size_alloc] at this
    rw [hW2]
    exact this
  obtain ⟨b2, e2⟩ : ∃ b, b = w.heap.size := ⟨_, rfl⟩
  obtain ⟨b3, e3⟩ : ∃ b, b = w.heap.size + 1 := ⟨_, rfl⟩
  obtain ⟨b4, e4⟩ : ∃ b, b = w.heap.size + 1 + 1 := ⟨_, rfl⟩
  rw [← e4] at hb4
  rw [← e3] at hb3
  rw [← e2] at hb2
  have HE := hide (And.intro e2 (And.intro e3 e4))
  have HP := hide (fun W (h : Chg [] W2 W) => (show PIn W (gb pid) p d FA qp qo gp' go' gp from hP.cp (CP.of0 (F := fun _ => False) (hc2.stay h)) (fun _ _ h => h)))
  have HB2 := hide (fun W (h : Chg [] W2 W) => hb2.chg h List.not_mem_nil)
  have HB3 := hide (fun W (h : Chg [] W2 W) => KB.stay hb3 h)
  have HB4 := hide hb4
  have HC2 := hide hc2
  have HW2 := hide hW2
  obtain ⟨pg, hpg⟩ : ∃ z : Int, z = x.a / 256 := ⟨_, rfl⟩
  obtain ⟨an, han⟩ : ∃ z : Nat, (z : Int) = x.a % 256 := ⟨(x.a % 256).toNat, by omega⟩
  obtain ⟨sn, hsn⟩ : ∃ z : Nat, z = x.l.length := ⟨_, rfl⟩
  have HB := hide (show an + sn ≤ 256 by omega)
  have HN := hide (show 1 ≤ x.l.length ∧ an + x.l.length ≤ 256 by omega)
  have t1 : (x.a % 256).toNat = an := by omega
  have hsn0 : sn ≤ 256 := by omega
  have han0 : an ≤ 256 := by omega
  have hq1 : wrap64 (x.a.tdiv 256) = pg := by rw [hpg, Int.tdiv_eq_ediv_of_nonneg hx.1]; unfold wrap64; omega
  have hq2 : wrap64 (x.a.tmod 256) = (an : Int) := by clear hq1; rw [han, Int.tmod_eq_emod_of_nonneg hx.1]; unfold wrap64; omega
  have hq3 : x.a.tmod 256 = (an : Int) := by clear hq1 hq2; rw [han, Int.tmod_eq_emod_of_nonneg hx.1]
  have hw3 : wrap64 ((an : Int) + (sn : Int)) = (an : Int) + (sn : Int) := by clear hq1 hq2; unfold wrap64; omega
  have HAC := hide (show (((accessA p x).1, (accessA p x).2.map fun q => { M with pr := upd M.pr pid (some q) }) : Rs × Option Mo) = (if Ar.rt p.rl pg = 0 then (plainR 7, none) else if Ar.rt p.rl pg < 2 then (plainR 190, none) else (plainR 0, some { M with pr := upd M.pr pid (some { p with pg := upd p.pg pg (some (splice ((p.pg pg).getD zeroPg) an x.l)) }) })) by
    unfold accessA
    rw [← hpg, t1, hk]
    simp only [show (9 : Nat) ≠ 8 by decide, if_false]
    split
    · rfl
    · split <;> rfl)
  have HEFF := hide (fun (W : World) (w' : World) (G : List Nat) (hG : Off w O X G) (hc : Chg [] w w') (hW : Chg G w' W) b11 b7 b3 b2 b6 pb B' (hpb : (∃ B, p.pg pg = some B ∧ pb = gp pg) ∨ (p.pg pg = none ∧ w.heap.size ≤ pb)) (hB : PgB W pb B') (h11 : Blk W b11 115 #[.pointer (some ⟨pb, 0, none⟩)]) (h7 : Blk W b7 3 #[.int .i64 (an : Nat)]) (h3 : KB W b3 x v) (h2 : Blk W b2 103 #[.pointer (some ⟨gb pid, 0, none⟩)]) (h6 : Blk W b6 3 #[.int .i64 pg]) =>
    access_do (hI.off hO (hG.cp hc hW)) hO (fun k hk => Nat.lt_of_lt_of_le (hl k hk) (hG.cp hc hW).size) hp (hP.cp (hG.cp hc hW) (fun k hk hn => hn (hO k (.inr (.inr (.inr (.inr (.inl ⟨pid, p, hp, hPF k hk⟩)))))))) hPF (fun k hk => Nat.lt_of_lt_of_le (hPl k hk) (hG.cp hc hW).size) (hpb.imp id (fun h => ⟨h.1, fun ho => Nat.not_lt.2 h.2 (hl _ ho)⟩)) hB h11 h7 h3 h2 h6 ((hv.stay hc).chg hW (fun k hk => hG.out (hX (fun h => by rw [h] at hx; simp at hx) k hk))) HN.out.1 HN.out.2 hl8)
  have HEO := hide (show ∀ k pb, O k ∨ k = pb → w.heap.size ≤ pb ∨ (∃ B, p.pg pg = some B ∧ pb = gp pg) → O k ∨ w.heap.size ≤ k from fun k pb h1 h2 => by
    rcases h1 with h1 | rfl
    · exact .inl h1
    · rcases h2 with h2 | ⟨B, h2, h3⟩
      · exact .inr h2
      · exact .inl (h3 ▸ hO _ (.inr (.inr (.inr (.inr (.inl ⟨pid, p, hp, hPF _ (.inr (.inr (.inr (.inr ⟨pg, B, h2, rfl⟩))))⟩)))))))
  have HK := hide hk
  have HPO := hide (show ∀ pb, (∃ B, p.pg pg = some B ∧ pb = gp pg) → O pb from fun pb ⟨B, h2, h3⟩ => h3 ▸ hO _ (.inr (.inr (.inr (.inr (.inl ⟨pid, p, hp, hPF _ (.inr (.inr (.inr (.inr ⟨pg, B, h2, rfl⟩))))⟩))))))
  obtain ⟨B', hB'⟩ : ∃ B, B = (p.pg pg).getD zeroPg := ⟨_, rfl⟩
  rw [← hB'] at HAC
  obtain ⟨pa, th, hpv⟩ : ∃ (pa : Option Addr) (th : Bool), (th = true ∧ pa = some ⟨gp pg, 0, none⟩ ∧ p.pg pg = some B') ∨ (th = false ∧ pa = none ∧ p.pg pg = none ∧ B' = zeroPg) := by
    cases h : p.pg pg with
    | some B => exact ⟨_, true, .inl ⟨rfl, rfl, by rw [hB', h]; rfl⟩⟩
    | none => exact ⟨_, false, .inr ⟨rfl, rfl, rfl, by rw [hB', h]; rfl⟩⟩
  have HPV := hide hpv
  have HLK := hide (show ∀ W, Chg [] W2 W → (Instr.lookup 110 (.map (some qp)) (.int .i64 pg) true).run Tryz.prog W = .ok (.tuple #[.pointer pa, .bool th]) W from fun W h => by
    rcases hpv with ⟨rfl, rfl, hb⟩ | ⟨rfl, rfl, hb, -⟩
    · exact run_look_some Tryz.underlying110 Tryz.underlying3 (HP.out W h).mp (by rw [(HP.out W h).hp, hb]; rfl) true
    · exact run_look_none Tryz.underlying110 Tryz.underlying3 (HP.out W h).mp (by rw [(HP.out W h).hp, hb]; rfl) (zero98 W) true)
  have HRT := hide (fun W (h : Chg [] W2 W) => Ar.rights_at (HP.out W h).ar hP.sp pg)
  clear hI hO hl hv hX hl8 hp hP hPF hPl hb2 hb3 hb4 hc2 hW2 e2 e3 e4 hx hpv hB' hpg han hk t1
  obtain ⟨c0, -, -, -, -, c5, c6, -, -, -, -, -, l3, -⟩ := KB.cells (HB3.out W2 (Chg.refl _ _))
  clear c0 c6
  go_enter Tryz.func69, Tryz.ntmps69
  go_upto_region 1 with (first | (refine wpList_box34 rfl _ rfl rfl ?_; try simp only [World.size_alloc]) | (refine wpList_allocRs rfl rfl ?_; try simp only [World.size_alloc]; try rw [← HW2.out]))
  rw [← HE.out.2.2, ← HE.out.2.1, ← HE.out.1]
  go_cut [6, 7] from 13 to 18 (fun z6 z7 W => ∃ b6 b7, z6 = .pointer (some ⟨b6, 0, none⟩) ∧ z7 = .pointer (some ⟨b7, 0, none⟩) ∧ Blk W b6 3 #[.int .i64 pg] ∧ Blk W b7 3 #[.int .i64 (an : Nat)] ∧ Chg [] W2 W ∧ W2.heap.size ≤ b6 ∧ W2.heap.size ≤ b7)
  case first =>
    refine wp_region_g [0,5,0,0,5,0,6,6,6,3] [none, none, none, none, none, none, none, none, none, none] [[0,1,2,3,4,5,6,7,8,9], [0,1,2,3,4,5,7,6,8,9]] (fun W => Chg [] W2 W) (by kernel_rfl) (by kernel_rfl) (by kernel_rfl) (by kernel_rfl) (fun L9 hL9 => ?_)
    have hS : Chg [] W2 W2.drew := (Chg.refl [] W2).drew
    generalize W2.drew = W0 at hS ⊢
    simp only [List.mem_cons, List.mem_nil_iff, or_false] at hL9
    rcases hL9 with rfl | rfl
    · simp only [picks, List.filterMap_cons, List.filterMap_nil, List.getElem?_cons_succ, List.getElem?_cons_zero]
      go_wp2_with (first | (refine wpG_hload 3 _ rfl rfl (fun w' hw' => load_int Tryz.underlying3 (KB.cells (HB3.out w' hw')).2.2.2.2.2.1) hS ?_) | (refine wpG_calc rfl (fun K hK => ?_)) | (refine wpG_skip ?_ ?_; (focus (simp [wantG]; done)); go_simp) | (refine wpG_take ?_ ?_; (focus (simp [wantG]; done))) | (refine wpG_pure (fun K hK => ?_); go_simp; refine hK _ _ ?_; clear hK K) | (refine wpG_deed (by decide) (fun K hK => ?_); go_simp) | (refine wpG_nil ?_))
      (refine wpG_keeps hS (fun K hK => ?_))
      go_simp
      refine hK _ _ (hS.alloc _) ?_
      clear hK K
      (refine wpG_keeps (hS.alloc _) (fun K hK => ?_))
      go_simp
      refine hK _ _ ((hS.alloc _).alloc _) ?_
      clear hK K
      go_wp2_with (first | fail | (refine wpG_calc rfl (fun K hK => ?_)) | (refine wpG_skip ?_ ?_; (focus (simp [wantG]; done)); go_simp) | (refine wpG_take ?_ ?_; (focus (simp [wantG]; done))) | (refine wpG_pure (fun K hK => ?_); go_simp; refine hK _ _ ?_; clear hK K) | (refine wpG_deed (by decide) (fun K hK => ?_); go_simp) | (refine wpG_nil ?_))
      (refine wpG_keeps ((hS.alloc _).alloc _) (fun K hK => ?_))
      go_simp
      refine hK _ _ ((hS.alloc _).alloc _) ?_
      clear hK K
      go_wp2_with (first | fail | (refine wpG_calc rfl (fun K hK => ?_)) | (refine wpG_skip ?_ ?_; (focus (simp [wantG]; done)); go_simp) | (refine wpG_take ?_ ?_; (focus (simp [wantG]; done))) | (refine wpG_pure (fun K hK => ?_); go_simp; refine hK _ _ ?_; clear hK K) | (refine wpG_deed (by decide) (fun K hK => ?_); go_simp) | (refine wpG_nil ?_))
      go_meet
      case rel => exact ⟨_, _, rfl, rfl, ((Blk.new W0 3 #[.int .i64 pg]).alloc _), (by have h := Blk.new (W0.alloc (.cells #[.int .i64 pg] 3)) 3 #[.int .i64 (an : Nat)]; rwa [World.size_alloc] at h), (hS.alloc _).alloc _, hS.size, Nat.le_succ_of_le hS.size⟩
    · simp only [picks, List.filterMap_cons, List.filterMap_nil, List.getElem?_cons_succ, List.getElem?_cons_zero]
      go_wp2_with (first | (refine wpG_hload 3 _ rfl rfl (fun w' hw' => load_int Tryz.underlying3 (KB.cells (HB3.out w' hw')).2.2.2.2.2.1) hS ?_) | (refine wpG_calc rfl (fun K hK => ?_)) | (refine wpG_skip ?_ ?_; (focus (simp [wantG]; done)); go_simp) | (refine wpG_take ?_ ?_; (focus (simp [wantG]; done))) | (refine wpG_pure (fun K hK => ?_); go_simp; refine hK _ _ ?_; clear hK K) | (refine wpG_deed (by decide) (fun K hK => ?_); go_simp) | (refine wpG_nil ?_))
      (refine wpG_keeps hS (fun K hK => ?_))
      go_simp
      refine hK _ _ (hS.alloc _) ?_
      clear hK K
      (refine wpG_keeps (hS.alloc _) (fun K hK => ?_))
      go_simp
      refine hK _ _ ((hS.alloc _).alloc _) ?_
      clear hK K
      go_wp2_with (first | fail | (refine wpG_calc rfl (fun K hK => ?_)) | (refine wpG_skip ?_ ?_; (focus (simp [wantG]; done)); go_simp) | (refine wpG_take ?_ ?_; (focus (simp [wantG]; done))) | (refine wpG_pure (fun K hK => ?_); go_simp; refine hK _ _ ?_; clear hK K) | (refine wpG_deed (by decide) (fun K hK => ?_); go_simp) | (refine wpG_nil ?_))
      (refine wpG_keeps ((hS.alloc _).alloc _) (fun K hK => ?_))
      go_simp
      refine hK _ _ ((hS.alloc _).alloc _) ?_
      clear hK K
      go_wp2_with (first | fail | (refine wpG_calc rfl (fun K hK => ?_)) | (refine wpG_skip ?_ ?_; (focus (simp [wantG]; done)); go_simp) | (refine wpG_take ?_ ?_; (focus (simp [wantG]; done))) | (refine wpG_pure (fun K hK => ?_); go_simp; refine hK _ _ ?_; clear hK K) | (refine wpG_deed (by decide) (fun K hK => ?_); go_simp) | (refine wpG_nil ?_))
      go_meet
      case rel => exact ⟨_, _, rfl, rfl, (by have h := Blk.new (W0.alloc (.cells #[.int .i64 (an : Nat)] 3)) 3 #[.int .i64 pg]; rwa [World.size_alloc] at h), ((Blk.new W0 3 #[.int .i64 (an : Nat)]).alloc _), (hS.alloc _).alloc _, Nat.le_succ_of_le hS.size, hS.size⟩
  obtain ⟨b6, b7, rfl, rfl, h6, h7, hcw, hg67⟩ := hcut
  have HGB := hide hg67
  clear hg67
  have H6 := hide h6
  have H7 := hide h7
  have HCW := hide hcw
  have q2 : wc.cell? ⟨b2, 0, none⟩ = some (.pointer (some ⟨gb pid, 0, none⟩)) := by simpa using (HB2.out wc hcw).cell 0
  have qA : wc.cell? ⟨gb pid, 0, none⟩ = some (.pointer (some ⟨d, 0, none⟩)) := by simpa [prc] using (HP.out wc hcw).blk.cell 0
  have q6 : wc.cell? ⟨b6, 0, none⟩ = some (.int .i64 pg) := by simpa using h6.cell 0
  have l2 := (HB2.out wc hcw).lt
  have lb := (HP.out wc hcw).blk.lt
  have l6 := h6.lt
  obtain ⟨r0, hr0⟩ : ∃ z : Int, z = Ar.rt p.rl pg := ⟨_, rfl⟩
  have hrb : Ar.hasB p.rl pg = decide (r0 ≠ 0) := by rw [hr0]; rfl
  have hr3 := (HP.out wc hcw).sp.g pg
  rw [← hr0] at HAC HRT hr3
  rw [hrb] at HRT
  have HR3 := hide hr3
  clear h6 h7 hcw hr0 hrb hr3 c5 l3 hq1 hq2 hq3
  go_upto_region 2 with (fail)
  refine wp_region_t [1, 0, 0, 1, 1, 3, 0, 0, 0, 0, 0] [none, none, none, none, none, none, none, none, none, none, none] (fun _ => True) (by kernel_rfl) (by kernel_rfl) (by kernel_rfl) ?_
  go_wp2_with (first | (refine wpG_deed (by decide) (fun K hK => ?_); go_simp; refine (HRT.out _ HCW.out.drew).mono ?_; rintro e W3 ⟨rfl, hc3⟩; refine hK _ _ ?_; clear hK K; have HC3 := hide (HCW.out.drew.stay hc3); have H63 := hide (H6.out.drew.chg hc3 List.not_mem_nil); have H73 := hide (H7.out.drew.chg hc3 List.not_mem_nil); obtain ⟨c0, -, -, -, -, -, c6, -, -, -, -, -, l3, -⟩ := KB.cells (HB3.out W3 HC3.out); rw [HK.out] at c0; clear hc3 q2 qA q6 l2 lb l6) | (refine wpG_calc rfl (fun K hK => ?_)) | (refine wpG_skip ?_ ?_; (focus (simp [wantG]; done)); go_simp) | (refine wpG_take ?_ ?_; (focus (simp [wantG]; done))) | (refine wpG_pure (fun K hK => ?_); go_simp; refine hK _ _ ?_; clear hK K) | (refine wpG_deed (by decide) (fun K hK => ?_); go_simp) | (refine wpG_nil ?_))
  go_cut [11, 12] from 31 to 39 (fun z11 z12 W => ∃ b11, z11 = .pointer (some ⟨b11, 0, none⟩) ∧ z12 = .bool th ∧ Blk W b11 115 #[.pointer pa] ∧ Chg [] W3 W ∧ W3.heap.size ≤ b11)
  case first =>
    clear c0 c6 l3
    refine wp_region_t [5,0,0,5,5,5,0,0,0,6,3,0] [none, none, none, none, none, none, none, none, none, none, none, none] (fun W => Chg [] W3 W) (by kernel_rfl) (by kernel_rfl) (by kernel_rfl) ?_
    have hS : Chg [] W3 W3.drew := (Chg.refl [] W3).drew
    generalize W3.drew = W0 at hS ⊢
    go_wp2_with (first | (refine wpG_hload 103 _ rfl rfl (fun w' hw' => load_ptr Tryz.underlying103 (by simpa using (HB2.out w' (HC3.out.stay hw')).cell 0)) hS ?_) | (refine wpG_hload 110 _ rfl rfl (fun w' hw' => load_map Tryz.underlying110 (by simpa [prc] using (HP.out w' (HC3.out.stay hw')).blk.cell 1)) hS ?_) | (refine wpG_hload 3 _ rfl rfl (fun w' hw' => load_int Tryz.underlying3 (by simpa using (H63.out.chg hw' List.not_mem_nil).cell 0)) hS ?_) | (refine wpG_hlook 110 _ _ true rfl rfl rfl (fun w' hw' => HLK.out w' (HC3.out.stay hw')) hS ?_) | (refine wpG_calc rfl (fun K hK => ?_)) | (refine wpG_skip ?_ ?_; (focus (simp [wantG]; done)); go_simp) | (refine wpG_take ?_ ?_; (focus (simp [wantG]; done))) | (refine wpG_pure (fun K hK => ?_); go_simp; refine hK _ _ ?_; clear hK K) | (refine wpG_deed (by decide) (fun K hK => ?_); go_simp) | (refine wpG_nil ?_))
    (refine wpG_keeps hS (fun K hK => ?_))
    go_simp
    refine hK _ _ (hS.alloc _) ?_
    clear hK K
    go_wp2_with (first | fail | (refine wpG_calc rfl (fun K hK => ?_)) | (refine wpG_skip ?_ ?_; (focus (simp [wantG]; done)); go_simp) | (refine wpG_take ?_ ?_; (focus (simp [wantG]; done))) | (refine wpG_pure (fun K hK => ?_); go_simp; refine hK _ _ ?_; clear hK K) | (refine wpG_deed (by decide) (fun K hK => ?_); go_simp) | (refine wpG_nil ?_))
    go_meet
    case rel => exact ⟨_, rfl, rfl, Blk.new W0 _ _, hS.alloc _, hS.size⟩
  obtain ⟨b11, rfl, rfl, h11, hcw, hg11⟩ := hcut
  have HG11 := hide hg11
  have HGE := hide (show w.heap.size ≤ b11 ∧ w.heap.size ≤ b7 ∧ w.heap.size ≤ b6 from ⟨Nat.le_trans (Nat.le_trans HC2.out.size HC3.out.size) hg11, Nat.le_trans HC2.out.size HGB.out.2, Nat.le_trans HC2.out.size HGB.out.1⟩)
  have H11 := hide h11
  have HCX := hide (HC3.out.stay hcw)
  have HCY := hide hcw
  clear h11 hcw hg11 c0 c6 l3
  go_upto_if 41 with (fail)
  go_cut [] from 41 to 42 (fun W => ∃ pb, Blk W b11 115 #[.pointer (some ⟨pb, 0, none⟩)] ∧ PgB W pb B' ∧ Chg [] W3 W ∧ ((∃ B, p.pg pg = some B ∧ pb = gp pg) ∨ (p.pg pg = none ∧ w.heap.size ≤ pb)))
  case first =>
    have l11 := H11.out.lt
    have f11 := H11.out.frozen
    rcases HPV.out with ⟨ht, hv, hb⟩ | ⟨ht, hv, hb, hz⟩
    · subst ht
      have H112 := hide (show Blk wc b11 115 #[.pointer (some ⟨gp pg, 0, none⟩)] by rw [← hv]; exact H11.out)
      have HPG := hide ((HP.out wc HCX.out).pg pg B' hb)
      have HWAY := hide (show (∃ B, p.pg pg = some B ∧ gp pg = gp pg) ∨ (p.pg pg = none ∧ w.heap.size ≤ gp pg) from .inl ⟨_, hb, rfl⟩)
      clear hv hb
      go_wp2_with fail
      go_meet
      case rel => exact ⟨_, H112.out, HPG.out, HCY.out, HWAY.out.imp (fun ⟨B, h, _⟩ => ⟨B, h, rfl⟩) id⟩
    · subst ht
      have HZ := hide hz
      have HWAY := hide (show (∃ B, p.pg pg = some B ∧ wc.heap.size = gp pg) ∨ (p.pg pg = none ∧ w.heap.size ≤ wc.heap.size) from .inr ⟨hb, Nat.le_trans HC2.out.size HCX.out.size⟩)
      have q11 : wc.cell? ⟨b11, 0, none⟩ = some (.pointer pa) := by simpa using H11.out.cell 0
      clear hv hb hz
      go_wp2_with (first | (refine wpList_alloc99 rfl rfl ?_; try go_simp))
      go_meet
      case rel =>
        refine ⟨wc.heap.size, (Blk.set_ H11.out 0 _).alloc _, ?_, (HCY.out.setCell (p := ⟨b11, 0, none⟩) (.inr HG11.out) _).alloc _, HWAY.out⟩
        have h := PgB.new (wc.setCell ⟨b11, 0, none⟩ (.pointer (some ⟨wc.heap.size, 0, none⟩)))
        rw [size_set] at h
        rw [HZ.out]
        exact h
  obtain ⟨pb, hb11, hpb, hcz, hway⟩ := hcut
  have HWAY := hide hway
  have HPB := hide hpb
  have HCZW := hide hcz
  have HCZ := hide (HC3.out.stay hcz)
  have HB11 := hide hb11
  have HPL := hide (fun e W => plain_any e W)
  have HR := hide (show ∀ (R : Rs) W W7, Chg [] W2 W → Chg [b4] W W7 → (R, (none : Option Mo)) = (if r0 = 0 then (plainR 7, none) else if r0 < 2 then (plainR 190, none) else (plainR 0, some { M with pr := upd M.pr pid (some { p with pg := upd p.pg pg (some (splice B' an x.l)) }) })) → R.l = [] → AnsR w W7 m O X ((accessA p x).1, (accessA p x).2.map fun q => { M with pr := upd M.pr pid (some q) }) (.returned (.tuple #[.agg (rsc R zV), .nilFunc])) ∧ Chg [] w W7 from fun R W W7 h1 h2 h3 h4 => by
    rw [HAC.out, ← h3]
    refine ⟨⟨none, 0, 0, .nilFunc, rfl, ?_, (fun _ h => (own_nil h).elim), rfl⟩, (HC2.out.stay h1).trans h2 (fun y hy => .inr (by obtain rfl := List.mem_singleton.1 hy; have := HE.out; omega))⟩
    show RB W7 (.slice none 0 0) R.l
    rw [h4]
    exact RE.nil _ _ _ _ _)
  have HS := hide (show ∀ W W7, Chg [] W2 W → Chg [] wc W → Chg [b4] W W7 → XB W b4 zRs zV → (plainR 0, some { M with pr := upd M.pr pid (some { p with pg := upd p.pg pg (some (splice B' an x.l)) }) }) = (if r0 = 0 then (plainR 7, none) else if r0 < 2 then (plainR 190, none) else (plainR 0, some { M with pr := upd M.pr pid (some { p with pg := upd p.pg pg (some (splice B' an x.l)) }) })) → AnsR w W7 m O X ((accessA p x).1, (accessA p x).2.map fun q => { M with pr := upd M.pr pid (some q) }) (.returned (.tuple #[.agg (rsc (plainR 0) zV), .func (.func 99) #[] #[.pointer (some ⟨b11, 0, none⟩), .pointer (some ⟨b7, 0, none⟩), .pointer (some ⟨b3, 0, none⟩), .pointer (some ⟨b2, 0, none⟩), .pointer (some ⟨b6, 0, none⟩)]])) ∧ Chg [] w W7 from fun W W7 h1 h0 h2 h4 h3 => by
    rw [HAC.out, ← h3]
    have hcw7 : Chg [] w W7 := (HC2.out.stay h1).trans h2 (fun y hy => .inr (by obtain rfl := List.mem_singleton.1 hy; have := HE.out; omega))
    refine ⟨⟨none, 0, 0, _, rfl, RE.nil _ _ _ _ _, (fun _ h => (own_nil h).elim), _, _, rfl, ent_of Tryz.func99 (by kernel_rfl) (by kernel_rfl), fun G Z hG hZ => ?_⟩, hcw7⟩
    have k2 : Chg [b4] wc W7 := (h0.up [b4]).and_ h2
    have m11 := (HB11.out.chg k2 (by simp; exact Blk.ne_ (HB11.out.chg h0 List.not_mem_nil) h4 (by decide))).chg hZ (hG.new HGE.out.1)
    have m7 := ((H73.out.chg (HCZW.out.stay h0) List.not_mem_nil).chg h2 (by simp; exact Blk.ne_ (H73.out.chg (HCZW.out.stay h0) List.not_mem_nil) h4 (by decide))).chg hZ (hG.new HGE.out.2.1)
    have m6 := ((H63.out.chg (HCZW.out.stay h0) List.not_mem_nil).chg h2 (by simp; exact Blk.ne_ (H63.out.chg (HCZW.out.stay h0) List.not_mem_nil) h4 (by decide))).chg hZ (hG.new HGE.out.2.2)
    have m3 : KB Z b3 x v := Blk.chg (Blk.chg (HB3.out W h1) h2 (by simp; exact Blk.ne_ (HB3.out W h1) h4 (by decide))) hZ (hG.new (by have := HE.out; omega))
    have m2 := ((HB2.out W h1).chg h2 (by simp; exact Blk.ne_ (HB2.out W h1) h4 (by decide))).chg hZ (hG.new (by have := HE.out; omega))
    have mp : PgB Z pb B' := ⟨((HPB.out.blk.chg h0 List.not_mem_nil).chg h2 (by simp; exact Blk.ne_ (HPB.out.blk.chg h0 List.not_mem_nil) h4 (by decide))).chg hZ (fun hm => (HWAY.out.elim (fun h => (hG pb hm).2.1 (HPO.out pb h)) (fun h => hG.new h.2 hm))), HPB.out.len, HPB.out.b8⟩
    refine (HEFF.out Z W7 G hG hcw7 hZ b11 b7 b3 b2 b6 pb B' HWAY.out mp m11 m7 m3 m2 m6).mono ?_
    rintro e W' ⟨rfl, k1, O', k3, k4⟩
    have hw : w.heap.size ≤ pb ∨ (∃ B, p.pg pg = some B ∧ pb = gp pg) := HWAY.out.symm.imp (fun h => h.2) id
    obtain ⟨L, g1, g2⟩ := k1
    exact ⟨rfl, ⟨L, g1, fun k hk => (g2 k hk).imp (fun h => HEO.out k pb h hw) id⟩, O', k3, fun k hk => HEO.out k pb (k4 k hk) hw⟩)
  obtain ⟨c0, -, -, -, -, -, c6, -, -, -, -, -, l3, -⟩ := KB.cells (HB3.out wc HCZ.out)
  rw [HK.out] at c0
  have HXB := hide (XB.stay HB4.out HCZ.out)
  clear hb11 hpb hcz hway HLK HRT HC3 HCX HCY H6 HWAY HEFF HEO
  rcases (by have := HR3.out; omega : r0 = 0 ∨ r0 = 1 ∨ r0 = 2 ∨ r0 = 3) with rfl | rfl | rfl | rfl
  · go_wp2_with fail
    refine (HPL.out _ _).mono ?_
    rintro e W6 ⟨rfl, hc6⟩
    have HX6 := hide (XB.stay HXB.out hc6)
    have HC6 := hide (HCZ.out.stay hc6)
    clear hc6
    go_wp2_with (first | (refine wpList_storeRs (b := b4) (y := plainR 7) (u := zV) rfl _ _ rfl rfl rfl rfl HX6.out ?_; intro W7 h7 hc7))
    exact bodyPost_ret (v := .tuple #[.agg (rsc (plainR 7) zV), .nilFunc]) (results_twoRs (p := 4) (q := 5) rfl _ rfl h7) rfl (HR.out (plainR 7) _ W7 HC6.out hc7 rfl rfl)
  · have hb : bits BinOp.and .u8 1 2 = 0 := by decide
    go_wp2_with fail
    refine (HPL.out _ _).mono ?_
    rintro e W6 ⟨rfl, hc6⟩
    have HX6 := hide (XB.stay HXB.out hc6)
    have HC6 := hide (HCZ.out.stay hc6)
    clear hc6
    go_wp2_with (first | (refine wpList_storeRs (b := b4) (y := plainR 190) (u := zV) rfl _ _ rfl rfl rfl rfl HX6.out ?_; intro W7 h7 hc7))
    exact bodyPost_ret (v := .tuple #[.agg (rsc (plainR 190) zV), .nilFunc]) (results_twoRs (p := 4) (q := 5) rfl _ rfl h7) rfl (HR.out (plainR 190) _ W7 HC6.out hc7 rfl rfl)
  · have hb : bits BinOp.and .u8 2 2 = 2 := by decide
    go_wp2_with fail
    refine (HPL.out _ _).mono ?_
    rintro e W6 ⟨rfl, hc6⟩
    have HX6 := hide (XB.stay HXB.out hc6)
    have HC6 := hide (HCZ.out.stay hc6)
    have HC60 := hide hc6
    clear hc6
    go_wp2_with (first | (refine wpList_storeRs (b := b4) (y := plainR 0) (u := zV) rfl _ _ rfl rfl rfl rfl HX6.out ?_; intro W7 h7 hc7))
    exact bodyPost_ret (v := .tuple #[.agg (rsc (plainR 0) zV), .func (.func 99) #[] #[.pointer (some ⟨b11, 0, none⟩), .pointer (some ⟨b7, 0, none⟩), .pointer (some ⟨b3, 0, none⟩), .pointer (some ⟨b2, 0, none⟩), .pointer (some ⟨b6, 0, none⟩)]]) (results_twoRs (p := 4) (q := 5) rfl _ rfl h7) rfl (HS.out _ W7 HC6.out HC60.out hc7 HX6.out rfl)
  · have hb : bits BinOp.and .u8 3 2 = 2 := by decide
    go_wp2_with fail
    refine (HPL.out _ _).mono ?_
    rintro e W6 ⟨rfl, hc6⟩
    have HX6 := hide (XB.stay HXB.out hc6)
    have HC6 := hide (HCZ.out.stay hc6)
    have HC60 := hide hc6
    clear hc6
    go_wp2_with (first | (refine wpList_storeRs (b := b4) (y := plainR 0) (u := zV) rfl _ _ rfl rfl rfl rfl HX6.out ?_; intro W7 h7 hc7))
    exact bodyPost_ret (v := .tuple #[.agg (rsc (plainR 0) zV), .func (.func 99) #[] #[.pointer (some ⟨b11, 0, none⟩), .pointer (some ⟨b7, 0, none⟩), .pointer (some ⟨b3, 0, none⟩), .pointer (some ⟨b2, 0, none⟩), .pointer (some ⟨b6, 0, none⟩)]]) (results_twoRs (p := 4) (q := 5) rfl _ rfl h7) rfl (HS.out _ W7 HC6.out HC60.out hc7 HX6.out rfl)
end Go.Proofs.YtfoleblcaloeoaaGreatDoor

/- Objects: what frees and pokes do. -/
namespace Go.Proofs.YtfoleblcaloeoaaGreatDoor
open Go Go.RowKit

set_option maxRecDepth 20000 in
set_option maxHeartbeats 40000000 in
theorem free_do {w : World} {m b1 b2 : Nat} {M : Mo} {O : Nat → Prop} {x : Cl} {v : Value} (h : MMem w m M O) (h1 : Blk w b1 30 #[.pointer (some ⟨m, 0, none⟩)]) (h2 : KB w b2 x v) :
    Calls Tryz.prog 93 #[.pointer (some ⟨b1, 0, none⟩), .pointer (some ⟨b2, 0, none⟩)] w fun e W' => e = .returned (.tuple #[]) ∧ CP O w W' ∧ ∃ O', MMem W' m { M with ob := upd M.ob x.h none } O' ∧ ∀ k, O' k → O k ∨ w.heap.size ≤ k := by
  obtain ⟨bp, bo, be, fp, fo, fe, gb, GF, ov, hI, hO, hl⟩ := h
  have HEND := hide (fun W (hc : Chg [bo] w W) => @free_end w W m M O bp bo be fp fo fe gb GF ov hI hO hl x.h hc)
  have q1 : w.cell? ⟨b1, 0, none⟩ = some (.pointer (some ⟨m, 0, none⟩)) := by simpa using h1.cell 0
  obtain ⟨-, -, -, -, -, -, -, -, -, -, c10, -, cl, -⟩ := KB.cells h2
  obtain ⟨-, qo, -, qm, -⟩ := mo_cells hI.blk
  have l1 := h1.lt
  have HMO := hide (show MapB w.drew bo .u64 fo from hI.mo)
  clear hI hO hl h1 h2
  go_enter Tryz.func93, Tryz.ntmps93
  refine wp_region_t [1, 0, 0, 1, 0, 1, 3] [none, none, none, none, none, none, none] (fun _ => True) (by kernel_rfl) (by kernel_rfl) (by kernel_rfl) ?_
  go_wp2_with (first | (refine wpG_deed (by decide) (fun K hK => ?_); refine wp_delete _ _ rfl Tryz.underlying59 Tryz.underlying37 rfl rfl HMO.out ?_; intro W5 h5 hc5; refine hK _ _ ?_; clear hK K) | (refine wpG_calc rfl (fun K hK => ?_)) | (refine wpG_skip ?_ ?_; (focus (simp [wantG]; done)); go_simp) | (refine wpG_take ?_ ?_; (focus (simp [wantG]; done))) | (refine wpG_pure (fun K hK => ?_); go_simp; refine hK _ _ ?_; clear hK K) | (refine wpG_deed (by decide) (fun K hK => ?_); go_simp) | (refine wpG_nil ?_))
  go_end0
  exact ⟨rfl, HEND.out W5 ((Chg.refl [bo] w).drew.and_ hc5) h5⟩
theorem splice_cells {α : Type} {L : List α} {off n a k : Nat} {cs : List α} (h1 : off + n ≤ L.length) (h2 : a + k ≤ n) (h3 : cs.length = k) :
    ((L.take (off + a) ++ cs ++ L.drop (off + a + k)).drop off).take n = ((L.drop off).take n).take a ++ cs ++ ((L.drop off).take n).drop (a + k) := by
  refine List.ext_getElem? fun i => ?_
  simp only [List.getElem?_take, List.getElem?_drop, List.getElem?_append, List.length_append, List.length_take, List.length_drop]
  have e1 : min (off + a) L.length = off + a := by omega
  have e2 : min a (min n (L.length - off)) = a := by omega
  rw [e1, e2, h3]
  by_cases h4 : i < n
  · rw [if_pos h4]
    by_cases h5 : i < a
    · rw [if_pos (show off + i < off + a + k by omega), if_pos (show off + i < off + a by omega), if_pos (show off + i < off + a by omega), if_pos (show i < a + k by omega), if_pos h5, if_pos h5, if_pos h4]
    · by_cases h6 : i < a + k
      · rw [if_pos (show off + i < off + a + k by omega), if_neg (show ¬ off + i < off + a by omega), if_pos h6, if_neg h5]
        congr 1
        omega
      · rw [if_neg (show ¬ off + i < off + a + k by omega), if_neg h6, if_pos (show a + k + (i - (a + k)) < n by omega)]
        congr 1
        omega
  · rw [if_neg h4, if_neg (show ¬ i < a + k by omega), if_neg (show ¬ a + k + (i - (a + k)) < n by omega)]
/-- a piece of a slice of bytes -/
theorem RE.sub {w : World} {g off n c at_ k : Nat} {B : List Nat} (h : RB w (.slice (some ⟨g, off, none⟩) n c) B) (hn : at_ + k ≤ B.length) (hc : B.length ≤ c) : RB w (.slice (some ⟨g, off + at_, none⟩) k (c - at_)) ((B.drop at_).take k) := by
  have hl : ((B.drop at_).take k).length = k := by rw [List.length_take, List.length_drop]; omega
  refine ⟨by rw [fc_length ucl_len], _, c - at_, by rw [hl], by rw [hl]; omega, fun hp => ⟨g, off + at_, rfl, fun j u hu => ?_⟩⟩
  rw [hl] at hp
  rw [fc_ucl, List.getElem?_map, List.getElem?_take] at hu
  by_cases hj : j < k
  · rw [if_pos hj, List.getElem?_drop] at hu
    obtain ⟨_, A, c', e, _, hat⟩ := h
    obtain ⟨g', off', e', hcell⟩ := hat (by omega)
    rw [e'] at e
    injection e with e _ _
    injection e with e
    injection e with ea eb
    subst ea; subst eb
    have := hcell (at_ + j) u (by rw [fc_ucl, List.getElem?_map]; exact hu)
    rwa [Nat.add_assoc]
  · rw [if_neg hj] at hu; cases hu
theorem SB.copy {w : World} {g off n c a : Nat} {B l : List Nat} {v : Value} (h : SB w (.slice (some ⟨g, off, none⟩) n c) B) (hv : RB w v l) (h1 : 1 ≤ l.length) (hn : a + l.length ≤ n) :
    ∃ w' u, (∀ ty, (Builtin.copy_ #[38, 38] ty #[.slice (some ⟨g, off + a, none⟩) (n - a) (c - a), v]).run Tryz.prog w = .ok u w') ∧ SB w' (.slice (some ⟨g, off, none⟩) n c) (splice B a l) ∧ Chg [g] w w' := by
  obtain ⟨A, c', rfl⟩ := RE.form hv
  obtain ⟨g', off', rfl⟩ := RE.addr hv (by omega)
  have hfl : (fc ucl l).length = l.length := by rw [fc_ucl, List.length_map]
  obtain ⟨hB, ⟨e, _⟩ | ⟨g1, off1, cap, cur, e, hb, h4, h5, h6, h7⟩⟩ := h
  · cases e
  injection e with e e2 e3
  injection e with e
  injection e with ea eb
  subst ea; subst eb; subst e2; subst e3
  rw [fc_ucl, List.length_map, Nat.mul_one] at hB
  have hsrc : ∀ j u, (fc ucl l)[j]? = some u → w.cell? ((⟨g', off', none⟩ : Addr).add j) = some u := fun j u hu => by
    obtain ⟨_, A', c', e, _, hat⟩ := hv
    obtain ⟨g2, off2, e', hc⟩ := hat (by omega)
    rw [e'] at e
    injection e with e _ _
    injection e with e
    injection e with ea eb
    subst ea; subst eb
    rw [Addr.add_lit]
    exact hc j u hu
  have hlen : (splice B a l).length = B.length := splice_length (by omega)
  refine ⟨_, _, fun ty => run_copy_row Tryz.prog w _ _ ty 5 g (off + a) (B.length - a) (c - a) ⟨g', off', none⟩ l.length c' cur _ (fc ucl l) Tryz.underlying38 info5s hb (by rw [hfl]; exact (Nat.min_eq_left (by omega)).symm) hsrc (by rw [hfl]; omega) (ucl_one l), ?_, (Chg.refl [g] w).setRow (.inl (by simp)) _⟩
  unfold SB SE
  rw [hlen]
  refine ⟨by rw [fc_ucl, List.length_map, hlen, Nat.mul_one], .inr ⟨g, off, c, _, rfl, setRow_heap w g cur _ _ _ hb, h4, h5, ?_, ?_⟩⟩
  · simp only [List.size_toArray, List.length_append, List.length_take, List.length_drop, Array.length_toList, hfl]
    omega
  · show List.take (B.length * 1) (List.drop off (cur.toList.take (off + a) ++ fc ucl l ++ cur.toList.drop (off + a + (fc ucl l).length))) = _
    have h9 : off + B.length ≤ cur.toList.length := by simp only [Array.length_toList]; omega
    have h10 : a + l.length ≤ B.length := hn
    rw [hfl, Nat.mul_one, splice_cells h9 h10 hfl]
    rw [Nat.mul_one] at h7
    rw [h7]
    unfold splice
    simp only [fc_ucl, List.map_append, List.map_take, List.map_drop]
set_option maxRecDepth 20000 in
set_option maxHeartbeats 40000000 in
theorem poke_do {w : World} {m b6 b3 : Nat} {M : Mo} {O : Nat → Prop} {bp bo be : Nat} {fp fo fe : Int → Option Value} {gb : Int → Nat} {GF : Int → Nat → Prop} {ov : Int → Value}
    (hI : MIn w m M bp bo be fp fo fe gb GF ov) (hO : ∀ k, FMo M m bp bo be GF ov k → O k) (hl : ∀ k, O k → k < w.heap.size) {x : Cl} {v : Value} {B : List Nat} (hz : M.ob x.h = some B)
    {g off n c an : Nat} (hov : ov x.h = .slice (some ⟨g, off, none⟩) n c) (h6 : Blk w b6 38 #[.slice (some ⟨g, off, none⟩) n c]) (h3 : KB w b3 x v) (hv : RB w v x.l) (han : x.a = (an : Nat)) (h1 : 1 ≤ x.l.length) (hn : an + x.l.length ≤ B.length) (hl8 : ∀ y ∈ x.l, y < 256) :
    Calls Tryz.prog 94 #[.pointer (some ⟨b6, 0, none⟩), .pointer (some ⟨b3, 0, none⟩)] w fun e W' => e = .returned (.tuple #[]) ∧ CP O w W' ∧ ∃ O', MMem W' m { M with ob := upd M.ob x.h (some (splice B an x.l)) } O' ∧ ∀ k, O' k → O k ∨ w.heap.size ≤ k := by
  have hob := hI.ob x.h B hz
  rw [hov] at hob
  have hnB : n = B.length ∧ n ≤ c := by
    obtain ⟨A, c', e⟩ := SE.form hob.1
    obtain ⟨A2, c2, e2, h4, _⟩ := Sl.cap_le hob.1
    injection e with _ e _
    injection e2 with _ e3 e4
    omega
  have HEND := hide (fun W (hc : Chg (own (ov x.h)) w W) (hS : SB W (ov x.h) (splice B an x.l)) => @poke_end w W m M O bp bo be fp fo fe gb GF ov hI hO hl x.h B hz an x.l hn hl8 hc hS)
  rw [hov] at HEND
  obtain ⟨W5, u5, hrun, hB5, hc5⟩ := SB.copy (w := w.drew) (show SB w.drew (.slice (some ⟨g, off, none⟩) n c) B from hob.1) (show RB w.drew v x.l from hv) h1 (show an + x.l.length ≤ n by omega)
  have q6 : w.cell? ⟨b6, 0, none⟩ = some (.slice (some ⟨g, off, none⟩) n c) := by simpa using h6.cell 0
  obtain ⟨-, -, -, -, -, c5, -, -, -, -, -, q3, l3, -⟩ := KB.cells h3
  rw [han] at c5
  have l6 := h6.lt
  have n1 : (0 : Int) ≤ (an : Int) := by omega
  have n2 : (an : Int) ≤ (n : Int) := by omega
  have n3 : ¬ (an : Int) = (n : Int) := by omega
  have n4 : ¬ an = n := by omega
  have n5 : ¬ (an : Int) = (c : Int) := by omega
  have n6 : ¬ an = c := by omega
  have n7 : (n : Int) ≤ (c : Int) := by omega
  have HRUN := hide hrun
  have HB5 := hide hB5
  have HC5 := hide hc5
  clear hI hO hl hz hov h6 h3 hv han h1 hn hl8 hob hnB hrun hB5 hc5
  go_enter Tryz.func94, Tryz.ntmps94
  refine wp_region_t [1, 0, 1, 0, 0, 1, 3] [none, none, none, none, none, none, none] (fun _ => True) (by kernel_rfl) (by kernel_rfl) (by kernel_rfl) ?_
  go_wp2_with (first | (refine wpG_deed (by decide) (fun K hK => ?_); refine wp_copyRuns _ _ rfl rfl rfl HRUN.out ?_; refine hK _ _ ?_; clear hK K) | (refine wpG_calc rfl (fun K hK => ?_)) | (refine wpG_skip ?_ ?_; (focus (simp [wantG]; done)); go_simp) | (refine wpG_take ?_ ?_; (focus (simp [wantG]; done))) | (refine wpG_pure (fun K hK => ?_); go_simp; refine hK _ _ ?_; clear hK K) | (refine wpG_deed (by decide) (fun K hK => ?_); go_simp) | (refine wpG_nil ?_))
  go_end0
  exact ⟨rfl, HEND.out W5 ((((Chg.refl [] w).drew).then_ (HC5.out)).mono (fun y hy => .inl (by simpa [own_at] using hy))) HB5.out⟩
end Go.Proofs.YtfoleblcaloeoaaGreatDoor

/- spawn. -/
namespace Go.Proofs.YtfoleblcaloeoaaGreatDoor
open Go Go.RowKit

theorem find_pid {M : Mo} {pid : Int} (h1 : 1 ≤ pid ∧ pid ≤ 8) (hq : ∀ q ∈ pids, q < pid → (M.pr q).isNone = false) (hp : M.pr pid = none) : spawnA M = (⟨0, pid.toNat, []⟩, some { M with pr := upd M.pr pid (some newPr) }) := by
  have hf : (pids.find? fun p => (M.pr p).isNone) = some pid := by
    rcases (by omega : pid = 1 ∨ pid = 2 ∨ pid = 3 ∨ pid = 4 ∨ pid = 5 ∨ pid = 6 ∨ pid = 7 ∨ pid = 8) with rfl | rfl | rfl | rfl | rfl | rfl | rfl | rfl
    all_goals
      simp only [pids, List.mem_cons, List.not_mem_nil, or_false, forall_eq_or_imp, forall_eq] at hq
      simp [pids, List.find?_cons, hp, hq]
  unfold spawnA
  rw [hf]
theorem find_pidN {M : Mo} {pid : Nat} (h1 : 1 ≤ pid ∧ pid ≤ 8) (hq : ∀ q ∈ pids, q < (pid : Int) → (M.pr q).isNone = false) (hp : M.pr pid = none) : spawnA M = (⟨0, pid, []⟩, some { M with pr := upd M.pr pid (some newPr) }) := by
  have := find_pid (pid := (pid : Int)) (by omega) hq hp
  rwa [Int.toNat_natCast] at this
theorem find_full {M : Mo} (hq : ∀ q ∈ pids, q < 9 → (M.pr q).isNone = false) : spawnA M = (plainR 9, none) := by
  have hf : (pids.find? fun p => (M.pr p).isNone) = none := by
    rw [List.find?_eq_none]
    intro q hqm
    have := hq q hqm (by simp [pids] at hqm; omega)
    rw [this]
    decide
  unfold spawnA
  rw [hf]
def ptrInt (v : Value) (w : World) : Int := match v with
  | .pointer (some a) => intOf ((w.cell? a).getD undef)
  | _ => 0
set_option maxRecDepth 20000 in
set_option maxHeartbeats 40000000 in
theorem spawn_any {w : World} {m : Nat} {M : Mo} {O : Nat → Prop} {X : List Nat} (h : MMem w m M O) :
    Calls Tryz.prog 63 #[.pointer (some ⟨m, 0, none⟩)] w fun e w' => AnsR w w' m O X (spawnA M) e ∧ Chg [] w w' := by
  obtain ⟨bp, bo, be, fp, fo, fe, gb, GF, ov, hI, hO, hl⟩ := h
  have HM := hide (show MMem w m M O from ⟨bp, bo, be, fp, fo, fe, gb, GF, ov, hI, hO, hl⟩)
  have HI := hide (fun W (hc : Chg [] w W) => MIn.cp (G := fun _ => False) hI (CP.of0 hc) (fun _ _ h => h))
  clear hI hO hl
  have HP9 := hide (fun W => plain_any 9 W)
  go_enter Tryz.func63, Tryz.ntmps63
  go_wp2_with (first | (refine wpList_allocRs rfl rfl ?_; try go_simp))
  obtain ⟨b1, e1⟩ : ∃ b, b = w.heap.size := ⟨_, rfl⟩
  obtain ⟨b2, e2⟩ : ∃ b, b = w.heap.size + 1 := ⟨_, rfl⟩
  have hb1 : Blk (((w.alloc (Obj.cells #[Value.pointer (some { block := m, off := 0 })] 30)).alloc (Obj.cells (rsc zRs zV) 40)).alloc (Obj.cells #[Value.int IntKind.i64 1] 3)) b1 30 #[.pointer (some ⟨m, 0, none⟩)] := by rw [e1]; exact ((Blk.new w _ _).alloc _).alloc _
  have hb2 : XB (((w.alloc (Obj.cells #[Value.pointer (some { block := m, off := 0 })] 30)).alloc (Obj.cells (rsc zRs zV) 40)).alloc (Obj.cells #[Value.int IntKind.i64 1] 3)) b2 zRs zV := by
    have := Blk.new (w.alloc (Obj.cells #[Value.pointer (some { block := m, off := 0 })] 30)) 40 (rsc zRs zV)
    rw [World.size_alloc, ← e2] at this
    exact this.alloc _
  have hb4 : Blk (((w.alloc (Obj.cells #[Value.pointer (some { block := m, off := 0 })] 30)).alloc (Obj.cells (rsc zRs zV) 40)).alloc (Obj.cells #[Value.int IntKind.i64 1] 3)) (w.heap.size + 1 + 1) 3 #[.int .i64 1] := by
    have := Blk.new ((w.alloc (Obj.cells #[Value.pointer (some { block := m, off := 0 })] 30)).alloc (Obj.cells (rsc zRs zV) 40)) 3 #[.int .i64 1]
    rwa [World.size_alloc, World.size_alloc] at this
  have hc2 : Chg [] w (((w.alloc (Obj.cells #[Value.pointer (some { block := m, off := 0 })] 30)).alloc (Obj.cells (rsc zRs zV) 40)).alloc (Obj.cells #[Value.int IntKind.i64 1] 3)) := (((Chg.refl [] w).alloc _).alloc _).alloc _
  have HB1 := hide hb1
  have HB2 := hide hb2
  have HB4 := hide hb4
  have HC2 := hide hc2
  have HE := hide (And.intro e1 e2)
  rw [← e2, ← e1]
  clear hb1 hb2 hb4 hc2
  generalize ((w.alloc (Obj.cells #[Value.pointer (some { block := m, off := 0 })] 30)).alloc (Obj.cells (rsc zRs zV) 40)).alloc (Obj.cells #[Value.int IntKind.i64 1] 3) = W2 at HB1 HB2 HB4 HC2 ⊢
  rw [← e2] at HB4
  clear e1 e2
  go_loopw [4] (fun p wr => ∃ (b4 pid : Nat), p = .pointer (some ⟨b4, 0, none⟩) ∧ 1 ≤ pid ∧ pid ≤ 9 ∧ Hid (Blk wr b4 3 #[.int .i64 (pid : Nat)]) ∧ Hid (Chg [] w wr) ∧ Hid (Blk wr b1 30 #[.pointer (some ⟨m, 0, none⟩)]) ∧ Hid (XB wr b2 zRs zV) ∧ Hid (∀ q ∈ pids, q < (pid : Int) → (M.pr q).isNone = false) ∧ Hid (b2 < b4)) (fun p wr => (9 - ptrInt p wr).toNat)
  case atStart => exact ⟨b2 + 1, 1, rfl, by omega, by omega, HB4, HC2, HB1, HB2, hide (fun q hq h => by simp [pids] at hq; omega), hide (Nat.lt_succ_self _)⟩
  case round =>
    obtain ⟨b4, pid, rfl, h1, h9, hb4, hc, hb1, hb2, hq, hlt⟩ := hrel
    have hI := HI.out wr hc.out
    have q1 : wr.cell? ⟨b1, 0, none⟩ = some (.pointer (some ⟨m, 0, none⟩)) := by simpa using hb1.out.cell 0
    have q4 : wr.cell? ⟨b4, 0, none⟩ = some (.int .i64 (pid : Nat)) := by simpa using hb4.out.cell 0
    have hlk := look_pr (HI.out wr.drew hc.out.drew) pid
    obtain ⟨qp, -, -, qm, -⟩ := mo_cells hI.blk
    have l4 := hb4.out.lt
    have l1 := hb1.out.lt
    have f4 := hb4.out.frozen
    have hpm : ptrInt (.pointer (some ⟨b4, 0, none⟩)) wr = (pid : Int) := by simp [ptrInt, q4, intOf]
    have HPM := hide hpm
    clear hpm
    by_cases h8 : pid ≤ 8
    · have d8 : decide ((pid : Int) ≤ 8) = true := decide_eq_true (by omega)
      have hwp : IntKind.u64.wrap (pid : Int) = (pid : Int) := by rw [IntKind.wrap_u64]; omega
      have hwi : IntKind.i64.wrap ((pid : Int) + 1) = (pid : Int) + 1 := by rw [IntKind.wrap_i64]; omega
      have H18 := hide (And.intro h1 h8)
      cases hp : M.pr pid with
      | some p =>
        rw [hp] at hlk
        have HP := hide hp
        clear hI h1 h8 h9 hp
        go_upto_region 4 with (fail)
        refine wp_region_t [1, 0, 0, 1, 1, 3, 0] [none, none, none, none, none, none, none] (fun _ => True) (by kernel_rfl) (by kernel_rfl) (by kernel_rfl) ?_
        go_wp2_with (first | fail | (refine wpG_calc rfl (fun K hK => ?_)) | (refine wpG_skip ?_ ?_; (focus (simp [wantG]; done)); go_simp) | (refine wpG_take ?_ ?_; (focus (simp [wantG]; done))) | (refine wpG_pure (fun K hK => ?_); go_simp; refine hK _ _ ?_; clear hK K) | (refine wpG_deed (by decide) (fun K hK => ?_); go_simp) | (refine wpG_nil ?_))
        have hs := hc.out.size
        go_roundw
        case rel =>
          refine ⟨wr.heap.size, pid + 1, rfl, by omega, by have := H18.out; omega, hide ?_, hide (hc.out.alloc _).drew, hide (hb1.out.alloc _).drew, hide (hb2.out.alloc _).drew, hide (fun q hq1 hq2 => ?_), hide (Nat.lt_trans hlt.out l4)⟩
          · have h := (Blk.new wr 3 #[.int .i64 ((pid : Int) + 1)]).drew
            rw [show ((pid : Int) + 1) = ((pid + 1 : Nat) : Int) by omega] at h ⊢
            exact h
          · by_cases hqp : q < (pid : Int)
            · exact hq.out q hq1 hqp
            · obtain rfl : q = (pid : Int) := by omega
              rw [HP.out]
              rfl
        case measure =>
          have hcl : (wr.alloc (Obj.cells #[Value.int IntKind.i64 ((pid : Int) + 1)] 3)).drew.cell? ⟨wr.heap.size, 0, none⟩ = some (.int .i64 ((pid : Int) + 1)) := by simp
          have e1 : ptrInt (.pointer (some ⟨wr.heap.size, 0, none⟩)) (wr.alloc (Obj.cells #[Value.int IntKind.i64 ((pid : Int) + 1)] 3)).drew = (pid : Int) + 1 := by unfold ptrInt; simp only [hcl]; rfl
          have e2 := HPM.out
          have e3 := H18.out
          show (9 - ptrInt (.pointer (some ⟨wr.heap.size, 0, none⟩)) _).toNat < (9 - ptrInt (.pointer (some ⟨b4, 0, none⟩)) _).toNat
          rw [e1, e2]
          omega
      | none =>
        rw [hp] at hlk
        have HR := hide (find_pidN ⟨h1, h8⟩ hq.out hp)
        have HDO := hide (fun W (hcW : CP (fun k => ¬ O k) w W) (k1 : Blk W b1 30 #[.pointer (some ⟨m, 0, none⟩)]) (k4 : Blk W b4 3 #[.int .i64 (pid : Nat)]) => spawn_do (HM.out.off hcW) k1 k4 hp (by omega))
        have HBV := hide (br_v pid)
        have HB2d := hide (show XB wr.drew b2 zRs zV from hb2.out)
        clear hI h1 h8 h9 hp
        go_upto_region 4 with (fail)
        refine wp_region_t [1, 0, 0, 1, 1, 3, 0] [none, none, none, none, none, none, none] (fun _ => True) (by kernel_rfl) (by kernel_rfl) (by kernel_rfl) ?_
        go_wp2_with (first | (refine wpList_buildRs rfl _ rfl HBV.out ?_ ?_; (focus (simp [Act.eval]; done))) | (refine wpList_storeRs (b := b2) (y := ⟨0, pid, []⟩) (u := zV) rfl _ _ rfl rfl rfl rfl HB2d.out ?_; intro W4 h4 hc4) | (refine wpG_calc rfl (fun K hK => ?_)) | (refine wpG_skip ?_ ?_; (focus (simp [wantG]; done)); go_simp) | (refine wpG_take ?_ ?_; (focus (simp [wantG]; done))) | (refine wpG_pure (fun K hK => ?_); go_simp; refine hK _ _ ?_; clear hK K) | (refine wpG_deed (by decide) (fun K hK => ?_); go_simp) | (refine wpG_nil ?_))
        refine bodyPost_ret (v := .tuple #[.agg (rsc ⟨0, pid, []⟩ zV), .func (.func 91) #[] #[.pointer (some ⟨b1, 0, none⟩), .pointer (some ⟨b4, 0, none⟩)]]) (results_twoRs (p := 2) (q := 3) rfl _ rfl h4) rfl ⟨?_, ?_⟩
        · rw [HR.out]
          have hc4' : Chg [] w W4 := hc.out.drew.trans hc4 (fun y hy => .inr (by obtain rfl := List.mem_singleton.1 hy; have := HE.out; omega))
          have hl := hlt.out
          have he := HE.out
          refine ⟨none, 0, 0, _, rfl, RE.nil _ _ _ _ _, (fun _ h => (own_nil h).elim), _, _, rfl, ent_of Tryz.func91 (by kernel_rfl) (by kernel_rfl), fun F W hF hcW => (HDO.out W (hF.cp hc4' hcW) ((hb1.out.drew.chg hc4 (by simp; omega)).chg hcW (hF.new (by omega))) ((hb4.out.drew.chg hc4 (by simp; omega)).chg hcW (hF.new (by omega)))).mono ?_⟩
          rintro e W' ⟨rfl, k1, O', k2, k3⟩
          exact ⟨rfl, k1.or, O', k2, fun k hk => (k3 k hk).imp id (fun h => Nat.le_trans (Nat.le_trans hc4'.size hcW.size) h)⟩
        · exact hc.out.drew.trans hc4 (fun y hy => .inr (by obtain rfl := List.mem_singleton.1 hy; have := HE.out; omega))
    · obtain rfl : pid = 9 := by omega
      have HR := hide (find_full hq.out)
      clear hI hlk
      go_wp2_with fail
      refine (HP9.out _).mono ?_
      rintro e W3 ⟨rfl, hc3⟩
      have HB3 := hide (XB.stay hb2.out hc3)
      go_wp2_with (first | (refine wpList_storeRs (b := b2) (y := plainR 9) (u := zV) rfl _ _ rfl rfl rfl rfl HB3.out ?_; intro W4 h4 hc4))
      refine bodyPost_ret (v := .tuple #[.agg (rsc (plainR 9) zV), .nilFunc]) (results_twoRs (p := 2) (q := 3) rfl _ rfl h4) rfl ⟨?_, (hc.out.stay hc3).trans hc4 (fun y hy => .inr (by obtain rfl := List.mem_singleton.1 hy; have := HE.out; omega))⟩
      rw [HR.out]
      exact ⟨none, 0, 0, .nilFunc, rfl, RE.nil _ _ _ _ _, (fun _ h => (own_nil h).elim), rfl⟩
end Go.Proofs.YtfoleblcaloeoaaGreatDoor

/- Objects: free, peek, poke. -/
namespace Go.Proofs.YtfoleblcaloeoaaGreatDoor
open Go Go.RowKit

theorem wrap_small {a b : Nat} (h1 : a ≤ 1000) (h2 : b ≤ 1000) : wrap64 ((a : Int) + (b : Int)) = (a : Int) + (b : Int) := by unfold wrap64; omega
set_option maxRecDepth 20000 in
set_option maxHeartbeats 40000000 in
theorem object_any {w : World} {m : Nat} {M : Mo} {O : Nat → Prop} {X : List Nat} {bp bo be : Nat} {fp fo fe : Int → Option Value} {gb : Int → Nat} {GF : Int → Nat → Prop} {ov : Int → Value}
    (hI : MIn w m M bp bo be fp fo fe gb GF ov) (hO : ∀ k, FMo M m bp bo be GF ov k → O k) (hl : ∀ k, O k → k < w.heap.size) {x : Cl} {v : Value} (hv : RB w v x.l) (hX : x.l ≠ [] → ∀ k ∈ own v, k ∈ X) (hl8 : ∀ y ∈ x.l, y < 256) (hk : x.k = 11 ∨ x.k = 12 ∨ x.k = 13)
    (hx : x.k ≠ 11 → 0 ≤ x.a ∧ x.a ≤ 128 ∧ (x.k = 12 → x.l = [] ∧ 1 ≤ x.s ∧ x.s ≤ 128) ∧ (x.k = 13 → x.s = 0 ∧ 1 ≤ x.l.length ∧ x.l.length ≤ 128)) :
    Calls Tryz.prog 65 #[.pointer (some ⟨m, 0, none⟩), .agg (clc x v)] w fun e w' => AnsR w w' m O X (objA M x) e ∧ Chg [] w w' := by
  obtain ⟨A0, c0, rfl⟩ := RE.form hv
  obtain ⟨W2, hW2⟩ : ∃ W2, W2 = ((w.alloc (.cells #[.pointer (some ⟨m, 0, none⟩)] 30)).alloc (.cells (clc x (.slice A0 x.l.length c0)) 47)).alloc (.cells (rsc zRs zV) 40) := ⟨_, rfl⟩
  have hc2 : Chg [] w W2 := by rw [hW2]; exact (((Chg.refl [] w).alloc _).alloc _).alloc _
  have hb2 : Blk W2 w.heap.size 30 #[.pointer (some ⟨m, 0, none⟩)] := by rw [hW2]; exact ((Blk.new w _ _).alloc _).alloc _
  have hb3 : KB W2 (w.heap.size + 1) x (.slice A0 x.l.length c0) := by
    have := Blk.new (w.alloc (.cells #[.pointer (some ⟨m, 0, none⟩)] 30)) 47 (clc x (.slice A0 x.l.length c0))
    rw [World.size_alloc] at this
    rw [hW2]
    exact this.alloc _
  have hb4 : XB W2 (w.heap.size + 1 + 1) zRs zV := by
    have := Blk.new ((w.alloc (.cells #[.pointer (some ⟨m, 0, none⟩)] 30)).alloc (.cells (clc x (.slice A0 x.l.length c0)) 47)) 40 (rsc zRs zV)
    rw [World.size_alloc, World.size_alloc] at this
    rw [hW2]
    exact this
  obtain ⟨b2, e2⟩ : ∃ b, b = w.heap.size := ⟨_, rfl⟩
  obtain ⟨b3, e3⟩ : ∃ b, b = w.heap.size + 1 := ⟨_, rfl⟩
  obtain ⟨b4, e4⟩ : ∃ b, b = w.heap.size + 1 + 1 := ⟨_, rfl⟩
  rw [← e4] at hb4
  rw [← e3] at hb3
  rw [← e2] at hb2
  have HE := hide (And.intro e2 (And.intro e3 e4))
  have HI := hide (fun W (h : Chg [] W2 W) => hI.stay (hc2.stay h))
  have HB2 := hide (fun W (h : Chg [] W2 W) => hb2.chg h List.not_mem_nil)
  have HB3 := hide (fun W (h : Chg [] W2 W) => KB.stay hb3 h)
  have HB4 := hide hb4
  have HC2 := hide hc2
  have HW2 := hide hW2
  obtain ⟨A6, n6, c6', th, hu⟩ : ∃ (A6 : Option Addr) (n6 c6' : Nat) (th : Bool), (th = true ∧ Value.slice A6 n6 c6' = ov x.h ∧ ∃ B, M.ob x.h = some B) ∨ (th = false ∧ Value.slice A6 n6 c6' = .slice none 0 0 ∧ M.ob x.h = none) := by
    cases h : M.ob x.h with
    | some B =>
      obtain ⟨A, c, e⟩ := SE.form (hI.ob x.h B h).1
      exact ⟨A, B.length, c, true, .inl ⟨rfl, e.symm, B, rfl⟩⟩
    | none => exact ⟨none, 0, 0, false, .inr ⟨rfl, rfl, rfl⟩⟩
  have HU := hide hu
  have HLK := hide (show ∀ W, Chg [] W2 W → (Instr.lookup 59 (.map (some bo)) (.int .u64 x.h) true).run Tryz.prog W = .ok (.tuple #[.slice A6 n6 c6', .bool th]) W from fun W h => by
    rcases hu with ⟨rfl, e, B, hb⟩ | ⟨rfl, e, hb⟩ <;> rw [e]
    · exact run_look_some Tryz.underlying59 Tryz.underlying37 (HI.out W h).mo (by rw [(HI.out W h).ho, hb]; rfl) true
    · exact run_look_none Tryz.underlying59 Tryz.underlying37 (HI.out W h).mo (by rw [(HI.out W h).ho, hb]; rfl) (zero27 W) true)
  have HM := hide (show MMem w m M O from ⟨bp, bo, be, fp, fo, fe, gb, GF, ov, hI, hO, hl⟩)
  have HH := hide (And.intro hI (And.intro hO hl))
  have HV := hide (And.intro hv hl8)
  have HXX := hide hX
  have HX := hide hx
  have HK := hide hk
  clear hI hO hl hv hX hl8 hb2 hb3 hb4 hc2 hW2 e2 e3 e4 hx hk hu
  go_enter Tryz.func65, Tryz.ntmps65
  go_upto_region 1 with (first | (refine wpList_box34 rfl _ rfl rfl ?_; try simp only [World.size_alloc]) | (refine wpList_allocRs rfl rfl ?_; try simp only [World.size_alloc]; try rw [← HW2.out]))
  rw [← HE.out.2.2, ← HE.out.2.1, ← HE.out.1]
  go_cut [6, 7] from 8 to 17 (fun z6 z7 W => ∃ b6, z6 = .pointer (some ⟨b6, 0, none⟩) ∧ z7 = .bool th ∧ Blk W b6 38 #[.slice A6 n6 c6'] ∧ Chg [] W2 W ∧ W2.heap.size ≤ b6)
  case first =>
    refine wp_region_t [5,0,0,5,0,5,5,0,0,0,6,3,0] [none, none, none, none, none, none, none, none, none, none, none, none, none] (fun W => Chg [] W2 W) (by kernel_rfl) (by kernel_rfl) (by kernel_rfl) ?_
    have hS : Chg [] W2 W2.drew := (Chg.refl [] W2).drew
    generalize W2.drew = W0 at hS ⊢
    go_wp2_with (first | (refine wpG_hload 30 _ rfl rfl (fun w' hw' => load_ptr Tryz.underlying30 (by simpa using (HB2.out w' hw').cell 0)) hS ?_) | (refine wpG_hload 59 _ rfl rfl (fun w' hw' => load_map Tryz.underlying59 (mo_cells (HI.out w' hw').blk).2.1) hS ?_) | (refine wpG_hload 37 _ rfl rfl (fun w' hw' => load_int Tryz.underlying37 (KB.cells (HB3.out w' hw')).2.2.2.2.2.2.2.2.2.2.1) hS ?_) | (refine wpG_hlook 59 _ _ true rfl rfl rfl (fun w' hw' => HLK.out w' hw') hS ?_) | (refine wpG_calc rfl (fun K hK => ?_)) | (refine wpG_skip ?_ ?_; (focus (simp [wantG]; done)); go_simp) | (refine wpG_take ?_ ?_; (focus (simp [wantG]; done))) | (refine wpG_pure (fun K hK => ?_); go_simp; refine hK _ _ ?_; clear hK K) | (refine wpG_deed (by decide) (fun K hK => ?_); go_simp) | (refine wpG_nil ?_))
    (refine wpG_keeps hS (fun K hK => ?_))
    go_simp
    refine hK _ _ (hS.alloc _) ?_
    clear hK K
    go_wp2_with (first | fail | (refine wpG_calc rfl (fun K hK => ?_)) | (refine wpG_skip ?_ ?_; (focus (simp [wantG]; done)); go_simp) | (refine wpG_take ?_ ?_; (focus (simp [wantG]; done))) | (refine wpG_pure (fun K hK => ?_); go_simp; refine hK _ _ ?_; clear hK K) | (refine wpG_deed (by decide) (fun K hK => ?_); go_simp) | (refine wpG_nil ?_))
    go_meet
    case rel => exact ⟨_, rfl, rfl, Blk.new W0 _ _, hS.alloc _, hS.size⟩
  obtain ⟨b6, rfl, rfl, h6, hcw, hg6⟩ := hcut
  have H6 := hide h6
  have HCW := hide hcw
  have HG6 := hide hg6
  have HPL := hide (fun e W => plain_any e W)
  have HXB := hide (XB.stay HB4.out hcw)
  have HR := hide (show ∀ (R : Rs) W7 A n c, Chg [b4] wc W7 → (R, (none : Option Mo)) = objA M x → RB W7 (.slice A n c) R.l → (∀ k ∈ own (.slice A n c), O k ∨ w.heap.size ≤ k) → AnsR w W7 m O X (objA M x) (.returned (.tuple #[.agg (rsc R (.slice A n c)), .nilFunc])) ∧ Chg [] w W7 from fun R W7 A n c h2 h3 h4 h5 => by
    rw [← h3]
    exact ⟨⟨A, n, c, .nilFunc, rfl, h4, h5, rfl⟩, (HC2.out.stay hcw).trans h2 (fun y hy => .inr (by obtain rfl := List.mem_singleton.1 hy; have := HE.out; omega))⟩)
  obtain ⟨c0', -, -, -, -, c5, c6, -, -, -, -, c11, l3, -⟩ := KB.cells (HB3.out wc hcw)
  clear h6 hg6 HLK
  rcases HU.out with ⟨rfl, hu, B, hB⟩ | ⟨rfl, hu, hB⟩
  case inr =>
    have HO := hide (show ((plainR 120, none) : Rs × Option Mo) = objA M x by unfold objA; rw [hB])
    clear hu hB c0' c5 c6 c11 l3 hcw
    go_wp2_with fail
    refine (HPL.out _ _).mono ?_
    rintro e W6 ⟨rfl, hc6⟩
    have HX6 := hide (XB.stay HXB.out hc6)
    have HC6 := hide hc6
    clear hc6
    go_wp2_with (first | (refine wpList_storeRs (b := b4) (y := plainR 120) (u := zV) rfl _ _ rfl rfl rfl rfl HX6.out ?_; intro W7 h7 hc7))
    exact bodyPost_ret (v := .tuple #[.agg (rsc (plainR 120) zV), .nilFunc]) (results_twoRs (p := 4) (q := 5) rfl _ rfl h7) rfl (HR.out (plainR 120) W7 none 0 0 ((HC6.out.up [b4]).and_ hc7) HO.out (RE.nil _ _ _ _ _) (fun _ h => (own_nil h).elim))
  by_cases h11 : x.k = 11
  · have HO := hide (show objA M x = (plainR 0, some { M with ob := upd M.ob x.h none }) by unfold objA; rw [hB]; simp only [h11, if_true])
    rw [h11] at c0'
    clear hu hB c5 c6 c11 hcw h11
    go_wp2_with fail
    refine (HPL.out _ _).mono ?_
    rintro e W6 ⟨rfl, hc6⟩
    have HX6 := hide (XB.stay HXB.out hc6)
    have HC6 := hide hc6
    clear hc6
    go_wp2_with (first | (refine wpList_storeRs (b := b4) (y := plainR 0) (u := zV) rfl _ _ rfl rfl rfl rfl HX6.out ?_; intro W7 h7 hc7))
    have hc47 : Chg [b4] wc W7 := (HC6.out.up [b4]).and_ hc7
    have hcW : Chg [] w W7 := (HC2.out.stay HCW.out).trans hc47 (fun y hy => .inr (by obtain rfl := List.mem_singleton.1 hy; have := HE.out; omega))
    have he := HE.out
    refine bodyPost_ret (v := .tuple #[.agg (rsc (plainR 0) zV), .func (.func 93) #[] #[.pointer (some ⟨b2, 0, none⟩), .pointer (some ⟨b3, 0, none⟩)]]) (results_twoRs (p := 4) (q := 5) rfl _ rfl h7) rfl ⟨?_, hcW⟩
    rw [HO.out]
    refine ⟨none, 0, 0, _, rfl, RE.nil _ _ _ _ _, (fun _ h => (own_nil h).elim), _, _, rfl, ent_of Tryz.func93 (by kernel_rfl) (by kernel_rfl), fun G W hG hW => (free_do (HM.out.off (hG.cp hcW hW)) (((HB2.out wc HCW.out).chg hc47 (by simp; omega)).chg hW (hG.new (by omega))) (show KB W b3 x (.slice A0 x.l.length c0) from Blk.chg (Blk.chg (HB3.out wc HCW.out) hc47 (by simp; omega)) hW (hG.new (by omega)))).mono ?_⟩
    rintro e W' ⟨rfl, k1, O', k2, k3⟩
    exact ⟨rfl, k1.or, O', k2, fun k hk => (k3 k hk).imp id (fun h => Nat.le_trans (Nat.le_trans hcW.size hW.size) h)⟩
  have hsb := ((HI.out wc hcw).ob x.h B hB)
  rw [← hu] at hsb
  obtain rfl : n6 = B.length := by
    obtain ⟨_, _, e⟩ := SE.form hsb.1
    injection e
  obtain ⟨hx0, hx1, hx2, hx3⟩ := HX.out h11
  obtain ⟨an, han⟩ : ∃ n : Nat, x.a = n := ⟨x.a.toNat, by omega⟩
  have hcap : B.length ≤ c6' := by
    obtain ⟨A2, c2, e2, h4, _⟩ := Sl.cap_le hsb.1
    injection e2 with _ _ e4
    omega
  have hB8 := hsb.2.2
  have q6 : wc.cell? ⟨b6, 0, none⟩ = some (.slice A6 B.length c6') := by simpa using H6.out.cell 0
  have l6 := H6.out.lt
  rcases (show x.k = 12 ∨ x.k = 13 from HK.out.resolve_left h11) with h12 | h13
  · obtain ⟨hxl, hs0, hs1⟩ := hx2 h12
    obtain ⟨sn, hsn⟩ : ∃ n : Nat, x.s = n := ⟨x.s.toNat, by omega⟩
    have hmx : ∀ (ts : Array TypeId) (ty : TypeId) (W : World), (Builtin.max_ ts ty #[.int .i64 (sn : Int), .int .i64 0]).run Tryz.prog W = .ok (.int .i64 (sn : Int)) W := fun ts ty W => by
      rw [Ar.run_max]
      rw [show max (sn : Int) 0 = sn by omega]
    have hobj : objA M x = if B.length < an + sn then (plainR 2, none) else (⟨0, 0, (B.drop an).take sn⟩, none) := by
      have e : max x.s (x.l.length : Int) = sn := by rw [hxl, hsn, List.length_nil]; exact Int.max_eq_left (by omega)
      unfold objA
      rw [hB]
      show (if x.k = 11 then _ else if (B.length : Int) < x.a + max x.s x.l.length then _ else if x.k = 12 then _ else _) = _
      rw [if_neg h11, e, han, if_pos h12]
      by_cases h : B.length < an + sn
      · rw [if_pos h, if_pos (show (B.length : Int) < (an : Int) + (sn : Int) by omega)]
      · rw [if_neg h, if_neg (show ¬ (B.length : Int) < (an : Int) + (sn : Int) by omega), hsn, Int.toNat_natCast, Int.toNat_natCast]
    rw [h12] at c0'
    rw [han] at c5
    rw [hsn] at c6
    rw [hxl] at c11
    have HW1 := hide (wrap_small (a := an) (b := sn) (by omega) (by omega))
    have hs1' : 1 ≤ sn := by omega
    by_cases hlt : B.length < an + sn
    · rw [if_pos hlt] at hobj
      have HO := hide hobj.symm
      have d1 : decide ((B.length : Int) < (an : Int) + (sn : Int)) = true := decide_eq_true (by omega)
      have hw1 := HW1.out
      clear HW1 hu hB hcw h11 hsb hx0 hx1 hx2 hx3 han hcap hB8 h12 hxl hs0 hs1 hsn hobj hs1' hlt
      go_wp2_with fail
      refine (HPL.out _ _).mono ?_
      rintro e W6 ⟨rfl, hc6⟩
      have HX6 := hide (XB.stay HXB.out hc6)
      have HC6 := hide hc6
      clear hc6
      go_wp2_with (first | (refine wpList_storeRs (b := b4) (y := plainR 2) (u := zV) rfl _ _ rfl rfl rfl rfl HX6.out ?_; intro W7 h7 hc7))
      exact bodyPost_ret (v := .tuple #[.agg (rsc (plainR 2) zV), .nilFunc]) (results_twoRs (p := 4) (q := 5) rfl _ rfl h7) rfl (HR.out (plainR 2) W7 none 0 0 ((HC6.out.up [b4]).and_ hc7) HO.out (RE.nil _ _ _ _ _) (fun _ h => (own_nil h).elim))
    · rw [if_neg hlt] at hobj
      have HO := hide hobj.symm
      have d1 : decide ((B.length : Int) < (an : Int) + (sn : Int)) = false := decide_eq_false (by omega)
      obtain ⟨g, off, rfl⟩ := SE.addr hsb.1 (show 0 < B.length by omega)
      have i0 : (0 : Int) ≤ (an : Int) := by omega
      have i1 : (an : Int) ≤ (an : Int) + (sn : Int) := by omega
      have i2 : (an : Int) + (sn : Int) ≤ (c6' : Int) := by omega
      have i3 : ¬ (an : Int) = (c6' : Int) := by omega
      have i4 : ¬ an = c6' := by omega
      have HBL := hide (br_l (some ⟨g, off + an, none⟩) sn (c6' - an) ((B.drop an).take sn))
      have HSB := hide hsb
      have HLT := hide hlt
      have HOO := hide (show ∀ k ∈ own (.slice (some ⟨g, off + an, none⟩) sn (c6' - an)), O k ∨ w.heap.size ≤ k from fun k hk => .inl (HH.out.2.1 k (.inr (.inr (.inr (.inr (.inr ⟨x.h, B, hB, by rw [← hu]; exact hk⟩)))))))
      have HCAP := hide hcap
      have hw1 := HW1.out
      clear HW1 hu hB hcw h11 hsb hx0 hx1 hx2 hx3 han hcap hB8 h12 hxl hs0 hs1 hsn hobj hs1' hlt
      go_wp2_with (first | (refine wpList_buildRs rfl _ rfl HBL.out ?_ ?_; (focus (simp [Act.eval]; done))) | (refine wpList_storeRs (b := b4) (y := ⟨0, 0, (B.drop an).take sn⟩) (u := .slice (some ⟨g, off + an, none⟩) sn (c6' - an)) rfl _ _ rfl rfl rfl rfl HXB.out ?_; intro W7 h7 hc7))
      have n4 : g ≠ b4 := fun e => by
        obtain ⟨cur, hcur⟩ := Sl.blk HSB.out.1 (k := g) (by rw [own_at]; exact List.mem_singleton.2 rfl)
        exact Blk.ne_ hcur HXB.out (by decide) e
      have hlt := HLT.out
      have hcap := HCAP.out
      refine bodyPost_ret (v := .tuple #[.agg (rsc ⟨0, 0, (B.drop an).take sn⟩ (.slice (some ⟨g, off + an, none⟩) sn (c6' - an))), .nilFunc]) (results_twoRs (p := 4) (q := 5) rfl _ rfl h7) rfl (HR.out ⟨0, 0, (B.drop an).take sn⟩ W7 _ _ _ hc7 HO.out ?_ (fun k hk => HOO.out k hk))
      exact (RE.sub (SE.re HSB.out.1) (by omega) (by omega)).chg hc7 (fun k hk h => by rw [own_at] at hk; simp at hk h; omega)
  · obtain ⟨hs0, hl1, hl2⟩ := hx3 h13
    obtain ⟨ln, hln⟩ : ∃ n : Nat, n = x.l.length := ⟨_, rfl⟩
    have hmx : ∀ (ts : Array TypeId) (ty : TypeId) (W : World), (Builtin.max_ ts ty #[.int .i64 0, .int .i64 (ln : Int)]).run Tryz.prog W = .ok (.int .i64 (ln : Int)) W := fun ts ty W => by
      rw [Ar.run_max]
      rw [show max 0 (ln : Int) = ln by omega]
    have hobj : objA M x = if B.length < an + ln then (plainR 2, none) else (plainR 0, some { M with ob := upd M.ob x.h (some (splice B an x.l)) }) := by
      have e : max x.s (x.l.length : Int) = ln := by rw [hs0, ← hln]; exact Int.max_eq_right (by omega)
      have h12 : ¬ x.k = 12 := by omega
      unfold objA
      rw [hB]
      show (if x.k = 11 then _ else if (B.length : Int) < x.a + max x.s x.l.length then _ else if x.k = 12 then _ else _) = _
      rw [if_neg h11, e, han, if_neg h12]
      by_cases h : B.length < an + ln
      · rw [if_pos h, if_pos (show (B.length : Int) < (an : Int) + (ln : Int) by omega)]
      · rw [if_neg h, if_neg (show ¬ (B.length : Int) < (an : Int) + (ln : Int) by omega), Int.toNat_natCast]
    rw [h13] at c0'
    rw [han] at c5
    rw [hs0] at c6
    rw [← hln] at c11
    have HW1 := hide (wrap_small (a := an) (b := ln) (by omega) (by omega))
    by_cases hlt : B.length < an + ln
    · rw [if_pos hlt] at hobj
      have HO := hide hobj.symm
      have d1 : decide ((B.length : Int) < (an : Int) + (ln : Int)) = true := decide_eq_true (by omega)
      have hw1 := HW1.out
      clear HW1 hu hB hcw h11 hsb hx0 hx1 hx2 hx3 han hcap hB8 h13 hs0 hl1 hl2 hln hobj hlt
      go_wp2_with fail
      refine (HPL.out _ _).mono ?_
      rintro e W6 ⟨rfl, hc6⟩
      have HX6 := hide (XB.stay HXB.out hc6)
      have HC6 := hide hc6
      clear hc6
      go_wp2_with (first | (refine wpList_storeRs (b := b4) (y := plainR 2) (u := zV) rfl _ _ rfl rfl rfl rfl HX6.out ?_; intro W7 h7 hc7))
      exact bodyPost_ret (v := .tuple #[.agg (rsc (plainR 2) zV), .nilFunc]) (results_twoRs (p := 4) (q := 5) rfl _ rfl h7) rfl (HR.out (plainR 2) W7 none 0 0 ((HC6.out.up [b4]).and_ hc7) HO.out (RE.nil _ _ _ _ _) (fun _ h => (own_nil h).elim))
    · rw [if_neg hlt] at hobj
      have HO := hide hobj
      have d1 : decide ((B.length : Int) < (an : Int) + (ln : Int)) = false := decide_eq_false (by omega)
      obtain ⟨g, off, rfl⟩ := SE.addr hsb.1 (show 0 < B.length by omega)
      have HDO := hide (fun (W : World) (w' : World) (G : List Nat) (hG : Off w O X G) (hc : Chg [] w w') (hW : Chg G w' W) (k6 : Blk W b6 38 #[.slice (some ⟨g, off, none⟩) B.length c6']) (k3 : KB W b3 x (.slice A0 x.l.length c0)) => poke_do (HH.out.1.off HH.out.2.1 (hG.cp hc hW)) HH.out.2.1 (fun k hk => Nat.lt_of_lt_of_le (HH.out.2.2 k hk) (hG.cp hc hW).size) hB hu.symm k6 k3 ((HV.out.1.stay hc).chg hW (fun k hk => hG.out (HXX.out (fun h => by rw [h] at hl1; simp at hl1) k hk))) han hl1 (by omega) HV.out.2)
      have HLN := hide hln
      have hw1 := HW1.out
      clear HW1 hu hB hcw h11 hsb hx0 hx1 hx2 hx3 han hcap hB8 h13 hs0 hl1 hl2 hln hobj hlt
      go_wp2_with fail
      refine (HPL.out _ _).mono ?_
      rintro e W6 ⟨rfl, hc6⟩
      have HX6 := hide (XB.stay HXB.out hc6)
      have HC6 := hide hc6
      clear hc6
      go_wp2_with (first | (refine wpList_storeRs (b := b4) (y := plainR 0) (u := zV) rfl _ _ rfl rfl rfl rfl HX6.out ?_; intro W7 h7 hc7))
      have hc47 : Chg [b4] wc W7 := (HC6.out.up [b4]).and_ hc7
      have hcW : Chg [] w W7 := (HC2.out.stay HCW.out).trans hc47 (fun y hy => .inr (by obtain rfl := List.mem_singleton.1 hy; have := HE.out; omega))
      have he := HE.out
      refine bodyPost_ret (v := .tuple #[.agg (rsc (plainR 0) zV), .func (.func 94) #[] #[.pointer (some ⟨b6, 0, none⟩), .pointer (some ⟨b3, 0, none⟩)]]) (results_twoRs (p := 4) (q := 5) rfl _ rfl h7) rfl ⟨?_, hcW⟩
      rw [HO.out]
      refine ⟨none, 0, 0, _, rfl, RE.nil _ _ _ _ _, (fun _ h => (own_nil h).elim), _, _, rfl, ent_of Tryz.func94 (by kernel_rfl) (by kernel_rfl), fun G W hG hW => (HDO.out W W7 G hG hcW hW ((H6.out.chg hc47 (by simp; exact Blk.ne_ H6.out HXB.out (by decide))).chg hW (hG.new (Nat.le_trans HC2.out.size HG6.out))) (show KB W b3 x (.slice A0 x.l.length c0) from Blk.chg (Blk.chg (HB3.out wc HCW.out) hc47 (by simp; omega)) hW (hG.new (by omega)))).mono ?_⟩
      rintro e W' ⟨rfl, k1, O', k2, k3⟩
      exact ⟨rfl, k1.or, O', k2, fun k hk => (k3 k hk).imp id (fun h => Nat.le_trans (Nat.le_trans hcW.size hW.size) h)⟩
end Go.Proofs.YtfoleblcaloeoaaGreatDoor
