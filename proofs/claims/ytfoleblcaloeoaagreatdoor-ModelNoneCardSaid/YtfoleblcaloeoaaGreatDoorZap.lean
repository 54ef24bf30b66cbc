/- Texts merged for the claim: MpA, MpB, MpC. -/
import Derived.Test.YtfoleblcaloeoaaGreatDoorZaj
import Derived.Test.YtfoleblcaloeoaaGreatDoorZao
/- A call that is not malformed: its numbers. -/
namespace Go.Proofs.YtfoleblcaloeoaaGreatDoor
open Go Go.RowKit

theorem nw_parts {c : Cf} {x : Cl} (h : wrongK c x = false) : mayB c = true ∧ mayK x = true ∧ t1K x = false ∧ t2K x = false ∧ t3K x = false ∧ t4K c x = false ∧ t5K c x = false ∧ t6K x = false ∧ t7K x = false ∧ t8K x = false := by
  unfold wrongK at h
  simp only [Bool.or_eq_false_iff, Bool.not_eq_false'] at h
  exact ⟨h.1.1, h.1.2, h.2.1, h.2.2.1, h.2.2.2.1, h.2.2.2.2.1, h.2.2.2.2.2.1, h.2.2.2.2.2.2.1, h.2.2.2.2.2.2.2.1, h.2.2.2.2.2.2.2.2⟩
theorem stF_l (x y : Cl) {f : Nat} (h : f ≠ 98) : (setF x y f).l = y.l := by
  unfold setF
  (repeat' split) <;> first | rfl | exact absurd (by assumption) h
theorem fold_l (x : Cl) : ∀ (F : List Nat) (y : Cl), (∀ f ∈ F, f ≠ 98) → (F.foldl (setF x) y).l = y.l
  | [], _, _ => rfl
  | f :: F, y, h => by
    rw [List.foldl_cons, fold_l x F _ (fun g hg => h g (List.mem_cons_of_mem _ hg)), stF_l x y (h f (List.mem_cons_self ..))]
theorem stF_s (x y : Cl) {f : Nat} (h : f ≠ 115) : (setF x y f).s = y.s := by
  unfold setF
  (repeat' split) <;> first | rfl | exact absurd (by assumption) h
theorem fold_s (x : Cl) : ∀ (F : List Nat) (y : Cl), (∀ f ∈ F, f ≠ 115) → (F.foldl (setF x) y).s = y.s
  | [], _, _ => rfl
  | f :: F, y, h => by
    rw [List.foldl_cons, fold_s x F _ (fun g hg => h g (List.mem_cons_of_mem _ hg)), stF_s x y (h f (List.mem_cons_self ..))]
theorem may_same {x : Cl} (h : mayK x = true) : sameB x (bareK x) = true := by
  unfold mayK at h
  simp only [Bool.and_eq_true] at h
  exact h.1.2
theorem may_l {x : Cl} (h : mayK x = true) (hb : hasB x 98 = false) : x.l = [] := by
  have h1 := may_same h
  unfold sameB at h1
  simp only [Bool.and_eq_true, decide_eq_true_eq] at h1
  rw [h1.2]
  unfold bareK partC
  rw [fold_l x _ _ (fun f hf e => by
    unfold hasB at hb
    have : (fld x.k).contains 98 = true := by rw [List.contains_iff_mem]; exact e ▸ hf
    rw [hb] at this; cases this)]
  rfl
theorem may_s {x : Cl} (h : mayK x = true) (hb : hasB x 115 = false) : x.s = 0 := by
  have h1 := may_same h
  unfold sameB at h1
  simp only [Bool.and_eq_true, beq_iff_eq] at h1
  rw [h1.1.1.1.1.1.2]
  unfold bareK partC
  rw [fold_s x _ _ (fun f hf e => by
    unfold hasB at hb
    have : (fld x.k).contains 115 = true := by rw [List.contains_iff_mem]; exact e ▸ hf
    rw [hb] at this; cases this)]
  rfl
theorem has_at {x : Cl} {k f : Nat} (hk : x.k = k) : hasB x f = (fld k).contains f := by unfold hasB; rw [hk]
theorem nw_kind {c : Cf} {x : Cl} (h : wrongK c x = false) : 1 ≤ x.k ∧ x.k ≤ 21 := by
  have h1 := (nw_parts h).2.1
  unfold mayK at h1
  simp only [Bool.and_eq_true] at h1
  refine ⟨?_, ?_⟩
  · refine Classical.byContradiction fun h2 => ?_
    have : x.k = 0 := by omega
    rw [this] at h1
    simp [fld] at h1
  · refine Classical.byContradiction fun h2 => ?_
    rw [fld_big (show 22 ≤ x.k by omega)] at h1
    simp at h1
theorem nw_range {c : Cf} {x : Cl} (h : wrongK c x = false) (hc : hasB x 99 = true) : 1 ≤ x.c ∧ x.c ≤ 1024 ∧ 0 ≤ x.g ∧ x.g ≤ 1024 - x.c := by
  have h1 := (nw_parts h).2.2.1
  unfold t1K at h1
  rw [hc] at h1
  simp at h1
  omega
theorem nw_page {c : Cf} {x : Cl} (h : wrongK c x = false) (hc : hasB x 103 = true) : 0 ≤ x.g ∧ x.g ≤ 1023 := by
  have h1 := (nw_parts h).2.2.2.1
  unfold t2K at h1
  rw [hc] at h1
  simp at h1
  omega
theorem nw_right {c : Cf} {x : Cl} (h : wrongK c x = false) (hc : hasB x 114 = true) : 1 ≤ x.r ∧ x.r ≤ 3 := by
  have h1 := (nw_parts h).2.2.2.2.1
  unfold t3K at h1
  rw [hc] at h1
  simp at h1
  omega
theorem nw_malloc {c : Cf} {x : Cl} (h : wrongK c x = false) (hk : x.k = 10) : 1 ≤ x.s ∧ x.s ≤ 128 := by
  have h1 := (nw_parts h).2.2.2.2.2.2.2.2.2
  unfold t8K at h1
  rw [hk] at h1
  simp at h1
  omega
theorem nw_load {c : Cf} {x : Cl} (h : wrongK c x = false) (hk : x.k = 8) : 0 ≤ x.a ∧ x.a < 262144 ∧ 1 ≤ x.s ∧ x.a % 256 + x.s ≤ 256 := by
  have h1 := (nw_parts h).2.2.2.2.2.2.2.2.1
  unfold t7K sizeK accB at h1
  rw [has_at (f := 97) hk, has_at (f := 112) hk, has_at (f := 98) hk] at h1
  simp [fld] at h1
  obtain ⟨h0, h2⟩ := h1
  rw [Int.tmod_eq_emod_of_nonneg h0.2.1] at h2
  omega
theorem nw_store {c : Cf} {x : Cl} (h : wrongK c x = false) (hk : x.k = 9) : 0 ≤ x.a ∧ x.a < 262144 ∧ 1 ≤ x.l.length ∧ x.a % 256 + x.l.length ≤ 256 := by
  have h1 := (nw_parts h).2.2.2.2.2.2.2.2.1
  unfold t7K sizeK accB at h1
  rw [has_at (f := 97) hk, has_at (f := 112) hk, has_at (f := 98) hk] at h1
  simp [fld] at h1
  obtain ⟨h0, h2⟩ := h1
  rw [Int.tmod_eq_emod_of_nonneg h0.2.1] at h2
  omega
theorem nw_peek {c : Cf} {x : Cl} (h : wrongK c x = false) (hk : x.k = 12) : 0 ≤ x.a ∧ x.a ≤ 128 ∧ x.l = [] ∧ 1 ≤ x.s ∧ x.s ≤ 128 := by
  have h0 := may_l (nw_parts h).2.1 (by rw [has_at hk]; rfl)
  have h1 := (nw_parts h).2.2.2.2.2.2.2.1
  unfold t6K sizeK accB at h1
  rw [has_at (f := 97) hk, has_at (f := 104) hk, has_at (f := 98) hk] at h1
  simp [fld] at h1
  exact ⟨by omega, by omega, h0, by omega, by omega⟩
theorem nw_poke {c : Cf} {x : Cl} (h : wrongK c x = false) (hk : x.k = 13) : 0 ≤ x.a ∧ x.a ≤ 128 ∧ x.s = 0 ∧ 1 ≤ x.l.length ∧ x.l.length ≤ 128 := by
  have h0 := may_s (nw_parts h).2.1 (by rw [has_at hk]; rfl)
  have h1 := (nw_parts h).2.2.2.2.2.2.2.1
  unfold t6K sizeK accB at h1
  rw [has_at (f := 97) hk, has_at (f := 104) hk, has_at (f := 98) hk] at h1
  simp [fld] at h1
  exact ⟨by omega, by omega, h0, by omega, by omega⟩
end Go.Proofs.YtfoleblcaloeoaaGreatDoor

/- A page's policy; a policy for a process, and for pages. -/
namespace Go.Proofs.YtfoleblcaloeoaaGreatDoor
open Go Go.RowKit

theorem zero39 : ∀ w, (zeroValue 45).run Tryz.prog w = .ok (.agg #[.int .u8 0, .int .u8 0]) w := by
  have h : (Tryz.prog.info? 45).map (fun i => (i.zero, i.size)) = some (some (.agg #[.int .u8 0, .int .u8 0]), 2) := by kernel_rfl
  exact (zero_of_info h).1
theorem info39 : (Tryz.prog.info? 45).map (·.size) = some 2 := by kernel_rfl
abbrev PolB (w : World) (b : Nat) (k m : Int) : Prop := Blk w b 45 #[.int .u8 k, .int .u8 m]
section
variable {ops : Array Oper} {rest : List Oper} {o : Oper} {a : Act} {w : World} {Q : Exit → Act → World → Prop} {b : Nat} {k m k' m' : Int}
theorem run_alloc39 (w : World) : (Instr.alloc 45 true (.tuple #[])).run Tryz.prog w = .ok (.pointer (some ⟨w.heap.size, 0, none⟩)) (w.alloc (.cells #[.int .u8 0, .int .u8 0] 45)) := by
  simp [Instr.alloc, Sem.run_bind, zero39, newVar, newRow, run_newObj_alloc, Value.cells]
theorem wpList_alloc39 (hg : o.guard = none) (ho : o.op = .alloc 45)
    (h : ∀ w', PolB w' w.heap.size 0 0 → Chg [] w w' → wpList Tryz.prog ops Q rest (a.put o.dst (.pointer (some ⟨w.heap.size, 0, none⟩))) w') : wpList Tryz.prog ops Q (o :: rest) a w :=
  Great.wpList_runTo hg _ rfl _ _ (by unfold execOp; simp only [ho, Sem.run_bind, run_alloc39, Sem.run_pure, Result.andThen_ok]) (h _ (Blk.new w _ _) ((Chg.refl [] w).alloc _))
theorem wpList_store39 (hg : o.guard = none) (z t : Operand) (ho : o.op = .store 45 z t) (hx : a.eval z = .pointer (some ⟨b, 0, none⟩)) (hy : a.eval t = .agg #[.int .u8 k', .int .u8 m']) (h0 : PolB w b k m)
    (h : ∀ w', PolB w' b k' m' → Chg [b] w w' → wpList Tryz.prog ops Q rest (a.put o.dst undef) w') : wpList Tryz.prog ops Q (o :: rest) a w :=
  wpList_store_row hg 45 z t ho b _ hx hy 45 _ h0 info39 rfl (by simp [show ∀ k z, (Value.int k z).oneCell' = true from fun _ _ => rfl]) (h _ (setRow_heap w b _ _ _ _ h0) ((Chg.refl [b] w).setRow (.inl (by simp)) _))
theorem wpList_load39 (hg : o.guard = none) (z : Operand) (ho : o.op = .load 45 z) (hx : a.eval z = .pointer (some ⟨b, 0, none⟩)) (h0 : PolB w b k m) (h : wpList Tryz.prog ops Q rest (a.put o.dst (.agg #[.int .u8 k, .int .u8 m])) w) : wpList Tryz.prog ops Q (o :: rest) a w :=
  wpList_load_row hg 45 z ho b hx 45 _ (0, 0) _ h0 Tryz.underlying45 rfl info39 h
end
set_option maxRecDepth 20000 in
set_option maxHeartbeats 4000000 in
theorem of_pr {w : World} {b : Nat} {p : Pr} {d : Nat} {FA : List Nat} {qp qo : Nat} {gp' go' : Int → Option Value} {gp : Int → Nat} (hP : PIn w b p d FA qp qo gp' go' gp) (q : Int) :
    Calls Tryz.prog 49 #[.pointer (some ⟨b, 0, none⟩), .int .i64 q] w fun e w' => e = .returned (.agg #[.int .u8 (polA p q).1, .int .u8 (polA p q).2]) ∧ Chg [] w w' := by
  have HP := hide (fun W (h : Chg [] w W) => hP.cp (CP.of0 (F := fun _ => False) h) (fun _ _ h => h))
  have HOW := hide hP.ho
  clear hP
  obtain ⟨R, hR⟩ : ∃ R, R = polA p q := ⟨_, rfl⟩
  rw [← hR]
  have HR := hide hR
  clear hR
  go_enter Tryz.func49, Tryz.ntmps49
  go_upto_region 1 with (refine wpList_alloc39 rfl rfl ?_; intro W1 h4 hc1)
  have hP1 := HP.out W1 hc1
  have HC1 := hide hc1
  have H4 := hide h4
  have q2 : W1.cell? ⟨b, 2, none⟩ = some (.map (some qo)) := by simpa [prc] using hP1.blk.cell 2
  have l1 := hP1.blk.lt
  cases hq : p.ow q with
  | some y =>
    obtain ⟨yk, ym⟩ := y
    have hlk := run_look_some Tryz.underlying111 Tryz.underlying3 hP1.mo (show go' q = some (.agg #[.int .u8 yk, .int .u8 ym]) by rw [HOW.out, hq]; rfl) true
    have hr : polA p q = (yk, ym) := by unfold polA; rw [hq]; rfl
    obtain rfl : R = (yk, ym) := HR.out.trans hr
    clear hq hr hP1 h4 hc1
    go_wp2_with (first | (refine wpList_alloc39 rfl rfl ?_; intro W2 h5 hc2; have H42 := hide (H4.out.chg hc2 List.not_mem_nil); have H5 := hide h5; have HC2 := hide (HC1.out.stay hc2); have HNE := hide (show w.heap.size ≠ W1.heap.size by have := H4.out.lt; omega); clear h5 hc2) | (refine wpList_store39 (b := W1.heap.size) (k' := yk) (m' := ym) rfl _ _ rfl rfl rfl H5.out ?_; intro W3 h53 hc3) | (refine wpList_load39 (b := W1.heap.size) rfl _ rfl rfl h53 ?_) | (refine wpList_store39 (b := w.heap.size) (k' := yk) (m' := ym) rfl _ _ rfl rfl rfl (H42.out.chg hc3 (by simp; exact HNE.out)) ?_; intro W4 h44 hc4))
    refine bodyPost_ret (v := .agg #[.int .u8 yk, .int .u8 ym]) (results_cell_row (p := 4) (ty := 45) rfl _ _ w.heap.size 45 _ (0, 0) _ rfl h44 Tryz.underlying45 rfl info39) rfl ⟨rfl, ?_⟩
    exact ((HC2.out.up [w.heap.size, W1.heap.size]).trans hc3 (fun y hy => .inl (by simp at hy; simp [hy]))).trans hc4 (fun y hy => .inl (by simp at hy; simp [hy])) |>.mono (fun y hy => .inr (by simp at hy; have := HC1.out.size; omega))
  | none =>
    have hlk := run_look_none Tryz.underlying111 Tryz.underlying3 hP1.mo (show go' q = none by rw [HOW.out, hq]; rfl) (zero39 W1) true
    have hr : polA p q = (p.pk, p.pm) := by unfold polA; rw [hq]; rfl
    obtain rfl : R = (p.pk, p.pm) := HR.out.trans hr
    clear hq hr hP1 h4 hc1
    go_wp2_with (first | (refine wpList_alloc39 rfl rfl ?_; intro W2 h5 hc2; have H42 := hide (H4.out.chg hc2 List.not_mem_nil); have H5 := hide h5; have HC2 := hide (HC1.out.stay hc2); have HNE := hide (show w.heap.size ≠ W1.heap.size by have := H4.out.lt; omega); clear h5 hc2) | (refine wpList_store39 (b := W1.heap.size) (k' := 0) (m' := 0) rfl _ _ rfl rfl rfl H5.out ?_; intro W3 h53 hc3; have HC3 := hide ((HC2.out.up [W1.heap.size]).and_ hc3); have H43 := hide (H42.out.chg hc3 (by simp; exact HNE.out)); clear hc3; have hP3 := HP.out W3 (HC3.out.mono (fun y hy => .inr (by simp at hy; have := HC1.out.size; omega))); have q3 : W3.cell? ⟨b, 3, none⟩ = some (.int .u8 p.pk) := (by simpa [prc] using hP3.blk.cell 3); have q4 : W3.cell? ⟨b, 4, none⟩ = some (.int .u8 p.pm) := (by simpa [prc] using hP3.blk.cell 4); have l3 := hP3.blk.lt; clear hP3) | (refine wpList_store39 (b := w.heap.size) (k' := p.pk) (m' := p.pm) rfl _ _ rfl rfl rfl H43.out ?_; intro W4 h44 hc4))
    refine bodyPost_ret (v := .agg #[.int .u8 p.pk, .int .u8 p.pm]) (results_cell_row (p := 4) (ty := 45) rfl _ _ w.heap.size 45 _ (0, 0) _ rfl h44 Tryz.underlying45 rfl info39) rfl ⟨rfl, ?_⟩
    exact ((HC3.out.mono (fun y hy => .inl (by simp at hy; simp [hy]))).trans hc4 (fun y hy => .inl (by simp at hy; simp [hy])) : Chg [w.heap.size, W1.heap.size] w W4) |>.mono (fun y hy => .inr (by simp at hy; have := HC1.out.size; omega))
end Go.Proofs.YtfoleblcaloeoaaGreatDoor

/- Effects: a policy for a process, and for pages. -/
namespace Go.Proofs.YtfoleblcaloeoaaGreatDoor
open Go Go.RowKit

section
variable {w W : World} {m : Nat} {M : Mo} {O : Nat → Prop} {bp bo be : Nat} {fp fo fe : Int → Option Value} {gb : Int → Nat} {GF : Int → Nat → Prop} {ov : Int → Value}
theorem pol_end (hI : MIn w m M bp bo be fp fo fe gb GF ov) (hO : ∀ k, FMo M m bp bo be GF ov k → O k) (hl : ∀ k, O k → k < w.heap.size) {pid : Int} {p : Pr} (hp : M.pr pid = some p)
    {d : Nat} {FA : List Nat} {qp qo : Nat} {gp' go' : Int → Option Value} {gp : Int → Nat} (hP : PIn w (gb pid) p d FA qp qo gp' go' gp) (hPF : ∀ k, FPr p (gb pid) FA qp qo gp k → GF pid k) (hPl : ∀ k, GF pid k → k < w.heap.size)
    {pk pm : Nat} (hk : pk < 256 ∧ pm < 256) (hc : Chg [gb pid] w W) (hb : Blk W (gb pid) 113 (prc d qp qo { p with pk := pk, pm := pm })) :
    CP O w W ∧ ∃ O', MMem W m { M with pr := upd M.pr pid (some { p with pk := pk, pm := pm }) } O' ∧ ∀ k, O' k → O k := by
  have hGO : ∀ k, GF pid k → O k := fun k hk => hO k (.inr (.inr (.inr (.inr (.inl ⟨pid, p, hp, hk⟩)))))
  have hG : CP (fun k => k = gb pid) w W := CP.of hc (fun k hk => .inl (List.mem_singleton.1 hk))
  obtain ⟨FB, hAB, hsub, htyp⟩ := hP.ar.tight
  have hsz := hc.size
  obtain ⟨r1, O', r2, r3⟩ := proc_end (F' := GF pid) hI hO hl hp (CP.of hc (fun k hk => .inl (by obtain rfl := List.mem_singleton.1 hk; exact hPF _ (.inl rfl)))) (p' := { p with pk := pk, pm := pm })
    ⟨d, FB, qp, qo, gp', go', gp, ⟨hb, hAB.cp hG (by
        rintro k hk rfl
        rcases htyp _ hk with ⟨cs, h⟩ | ⟨cs, h⟩
        · exact Blk.ne_ h hP.blk (by decide) rfl
        · exact Blk.ne_ h hP.blk (by decide) rfl), hP.sp, hP.mp.cp hG (fun e => Blk.ne_map hP.blk hP.mp e.symm), hP.mo.cp hG (fun e => Blk.ne_map hP.blk hP.mo e.symm), hP.hp, hP.ho, fun n B h => (hP.pg n B h).cp hG (Blk.ne_ (hP.pg n B h).blk hP.blk (by decide)), hP.inj, hP.ne, hk.1, hk.2, hP.ow⟩, by
      rintro k (rfl | hk | rfl | rfl | ⟨n, B, h, rfl⟩)
      · exact hPF _ (.inl rfl)
      · exact hPF _ (.inr (.inl (hsub k hk)))
      · exact hPF _ (.inr (.inr (.inl rfl)))
      · exact hPF _ (.inr (.inr (.inr (.inl rfl))))
      · exact hPF _ (.inr (.inr (.inr (.inr ⟨n, B, h, rfl⟩)))), fun k hk => Nat.lt_of_lt_of_le (hPl k hk) hsz⟩ (fun k hk => .inl hk)
  exact ⟨r1, O', r2, fun k hk => (r3 k hk).elim id (hGO k)⟩
theorem own_end (hI : MIn w m M bp bo be fp fo fe gb GF ov) (hO : ∀ k, FMo M m bp bo be GF ov k → O k) (hl : ∀ k, O k → k < w.heap.size) {pid : Int} {p : Pr} (hp : M.pr pid = some p)
    {d : Nat} {FA : List Nat} {qp qo : Nat} {gp' go' : Int → Option Value} {gp : Int → Nat} (hP : PIn w (gb pid) p d FA qp qo gp' go' gp) (hPF : ∀ k, FPr p (gb pid) FA qp qo gp k → GF pid k) (hPl : ∀ k, GF pid k → k < w.heap.size)
    {ow' : Int → Option (Nat × Nat)} {fo'' : Int → Option Value} (hc : Chg [qo] w W) (hm : MapB W qo .i64 fo'') (ho : ∀ n, fo'' n = (ow' n).map fun q => .agg #[.int .u8 q.1, .int .u8 q.2]) (hk : ∀ n q, ow' n = some q → q.1 < 256 ∧ q.2 < 256) :
    CP O w W ∧ ∃ O', MMem W m { M with pr := upd M.pr pid (some { p with ow := ow' }) } O' ∧ ∀ k, O' k → O k := by
  have hGO : ∀ k, GF pid k → O k := fun k hk => hO k (.inr (.inr (.inr (.inr (.inl ⟨pid, p, hp, hk⟩)))))
  have hG : CP (fun k => k = qo) w W := CP.of hc (fun k hk => .inl (List.mem_singleton.1 hk))
  obtain ⟨FB, hAB, hsub, htyp⟩ := hP.ar.tight
  have hsz := hc.size
  obtain ⟨r1, O', r2, r3⟩ := proc_end (F' := GF pid) hI hO hl hp (CP.of hc (fun k hk => .inl (by obtain rfl := List.mem_singleton.1 hk; exact hPF _ (.inr (.inr (.inr (.inl rfl))))))) (p' := { p with ow := ow' })
    ⟨d, FB, qp, qo, gp', fo'', gp, ⟨hP.blk.cp hG (Blk.ne_map hP.blk hP.mo), hAB.cp hG (by
        rintro k hk rfl
        rcases htyp _ hk with ⟨cs, h⟩ | ⟨cs, h⟩
        · exact Blk.ne_map h hP.mo rfl
        · exact Blk.ne_map h hP.mo rfl), hP.sp, hP.mp.cp hG hP.ne, hm, hP.hp, ho, fun n B h => (hP.pg n B h).cp hG (Blk.ne_map (hP.pg n B h).blk hP.mo), hP.inj, hP.ne, hP.pk, hP.pm, hk⟩, by
      rintro k (rfl | hk | rfl | rfl | ⟨n, B, h, rfl⟩)
      · exact hPF _ (.inl rfl)
      · exact hPF _ (.inr (.inl (hsub k hk)))
      · exact hPF _ (.inr (.inr (.inl rfl)))
      · exact hPF _ (.inr (.inr (.inr (.inl rfl))))
      · exact hPF _ (.inr (.inr (.inr (.inr ⟨n, B, h, rfl⟩)))), fun k hk => Nat.lt_of_lt_of_le (hPl k hk) hsz⟩ (fun k hk => .inl hk)
  exact ⟨r1, O', r2, fun k hk => (r3 k hk).elim id (hGO k)⟩
end
set_option maxRecDepth 20000 in
set_option maxHeartbeats 40000000 in
theorem setpol_do {w : World} {m : Nat} {M : Mo} {O : Nat → Prop} {bp bo be : Nat} {fp fo fe : Int → Option Value} {gb : Int → Nat} {GF : Int → Nat → Prop} {ov : Int → Value}
    (hI : MIn w m M bp bo be fp fo fe gb GF ov) (hO : ∀ k, FMo M m bp bo be GF ov k → O k) (hl : ∀ k, O k → k < w.heap.size) {pid : Int} {p : Pr} (hp : M.pr pid = some p)
    {b4 b8 : Nat} {x : Cl} {v : Value} (h4 : KB w b4 x v) (h8 : Blk w b8 103 #[.pointer (some ⟨gb pid, 0, none⟩)]) (hk : x.ok < 256 ∧ x.om < 256) :
    Calls Tryz.prog 67 #[.pointer (some ⟨b4, 0, none⟩), .pointer (some ⟨b8, 0, none⟩)] w fun e W' => e = .returned (.tuple #[]) ∧ CP O w W' ∧ ∃ O', MMem W' m { M with pr := upd M.pr pid (some { p with pk := x.ok, pm := x.om }) } O' ∧ ∀ k, O' k → O k := by
  obtain ⟨d, FA, qp, qo, gp', go', gp, hP, hPF, hPl⟩ := hI.pr pid p hp
  have HEND := hide (fun W (hc : Chg [gb pid] w W) => @pol_end w W m M O bp bo be fp fo fe gb GF ov hI hO hl pid p hp d FA qp qo gp' go' gp hP hPF hPl x.ok x.om hk hc)
  obtain ⟨-, -, -, -, -, -, -, -, c8, c9, -, -, l4, -⟩ := KB.cells h4
  have q8 : w.cell? ⟨b8, 0, none⟩ = some (.pointer (some ⟨gb pid, 0, none⟩)) := by simpa using h8.cell 0
  have l8 := h8.lt
  have lb := hP.blk.lt
  have HT := hide (show w.there (gb pid) 3 2 from fun j hj => by
    rw [hP.blk.cell, hP.blk.frozen]
    refine ⟨?_, rfl⟩
    rcases (by omega : j = 0 ∨ j = 1) with rfl | rfl <;> simp [prc])
  have HS := hide (show Blk (w.setCells (gb pid) 3 [.int .u8 x.ok, .int .u8 x.om]) (gb pid) 113 (prc d qp qo { p with pk := x.ok, pm := x.om }) from
    (hP.blk.set_ 3 (.int .u8 x.ok)).set_ 4 (.int .u8 x.om))
  have HC := hide (show Chg [gb pid] w (w.setCells (gb pid) 3 [.int .u8 x.ok, .int .u8 x.om]) from
    ((Chg.refl [gb pid] w).setCell (p := ⟨gb pid, 3, none⟩) (.inl (by simp)) _).setCell (p := ⟨gb pid, 4, none⟩) (.inl (by simp)) _)
  clear hI hO hl hp hP hPF hPl h4 h8 hk
  go_enter Tryz.func67, Tryz.ntmps67
  go_wp2_with (refine wpList_store_mid rfl 45 _ _ rfl (gb pid) 3 #[.int .u8 x.ok, .int .u8 x.om] rfl rfl HT.out info39 (by simp [show ∀ k z, (Value.int k z).oneCell' = true from fun _ _ => rfl]) ?_)
  go_end0
  exact ⟨rfl, HEND.out _ HC.out HS.out⟩
theorem inR_add {g : Int} {k : Nat} {α : Type} {f : Int → Option α} {u : α} (y : Int) : (if y = g + (k : Int) then some u else if inR g (k : Int) y then some u else f y) = if inR g ((k + 1 : Nat) : Int) y then some u else f y := by
  unfold inR
  by_cases h1 : y = g + (k : Int)
  · rw [if_pos h1, if_pos (by simp; omega)]
  · rw [if_neg h1]
    by_cases h2 : g ≤ y ∧ y < g + (k : Int)
    · rw [if_pos (by simpa using h2), if_pos (by simp; omega)]
    · rw [if_neg (by simpa using h2), if_neg (by simp; omega)]
theorem inR_none {g : Int} {α : Type} {f : Int → Option α} {u : α} (y : Int) : f y = if inR g ((0 : Nat) : Int) y then some u else f y := by
  unfold inR
  rw [if_neg (by simp)]
set_option maxRecDepth 20000 in
set_option maxHeartbeats 40000000 in
theorem mbind_do {w : World} {m : Nat} {M : Mo} {O : Nat → Prop} {bp bo be : Nat} {fp fo fe : Int → Option Value} {gb : Int → Nat} {GF : Int → Nat → Prop} {ov : Int → Value}
    (hI : MIn w m M bp bo be fp fo fe gb GF ov) (hO : ∀ k, FMo M m bp bo be GF ov k → O k) (hl : ∀ k, O k → k < w.heap.size) {pid : Int} {p : Pr} (hp : M.pr pid = some p)
    {b4 b8 : Nat} {x : Cl} {v : Value} (h4 : KB w b4 x v) (h8 : Blk w b8 103 #[.pointer (some ⟨gb pid, 0, none⟩)]) (hk : x.ok < 256 ∧ x.om < 256) (hx : 0 ≤ x.g ∧ x.g ≤ 1024 ∧ 0 ≤ x.c ∧ x.c ≤ 1024) :
    Calls Tryz.prog 71 #[.pointer (some ⟨b4, 0, none⟩), .pointer (some ⟨b8, 0, none⟩)] w fun e W' => e = .returned (.tuple #[]) ∧ CP O w W' ∧ ∃ O', MMem W' m { M with pr := upd M.pr pid (some { p with ow := fun q => if inR x.g x.c q then some (x.ok, x.om) else p.ow q }) } O' ∧ ∀ k, O' k → O k := by
  obtain ⟨d, FA, qp, qo, gp', go', gp, hP, hPF, hPl⟩ := hI.pr pid p hp
  have HEND := hide (fun W (hc : Chg [qo] w W) (hm : MapB W qo .i64 fun q => if inR x.g x.c q then some (.agg #[.int .u8 x.ok, .int .u8 x.om]) else go' q) => @own_end w W m M O bp bo be fp fo fe gb GF ov hI hO hl pid p hp d FA qp qo gp' go' gp hP hPF hPl (fun q => if inR x.g x.c q then some (x.ok, x.om) else p.ow q) _ hc hm
    (fun n => by
      show (if inR x.g x.c n then some (Value.agg #[.int .u8 x.ok, .int .u8 x.om]) else go' n) = (if inR x.g x.c n then some (x.ok, x.om) else p.ow n).map _
      by_cases hr : inR x.g x.c n = true
      · rw [if_pos hr, if_pos hr]; rfl
      · rw [if_neg hr, if_neg hr]; exact hP.ho n)
    (fun n q e => by
      replace e : (if inR x.g x.c n then some (x.ok, x.om) else p.ow n) = some q := e
      by_cases hr : inR x.g x.c n = true
      · rw [if_pos hr] at e; obtain rfl := Option.some.inj e; exact hk
      · rw [if_neg hr] at e; exact hP.ow n q e))
  obtain ⟨cn, hcn⟩ : ∃ n : Nat, x.c = n := ⟨x.c.toNat, by omega⟩
  have hcn8 : (cn : Int) ≤ 1024 := by omega
  have HG := hide (And.intro hx.1 (And.intro hx.2.1 hcn))
  have hc4 := (KB.cells h4).2.2.2.2.1
  have l4 := h4.lt
  rw [hcn] at hc4 HEND
  have HN := hide (And.intro (show b4 ≠ qo from Blk.ne_map h4 hP.mo) (And.intro (show b8 ≠ qo from Blk.ne_map h8 hP.mo) (show gb pid ≠ qo from Blk.ne_map hP.blk hP.mo)))
  have HMO := hide hP.mo
  have HK := hide h4
  have H8 := hide h8
  have HB := hide hP.blk
  clear hI hO hl hp hP hPF hPl h4 h8 hk hx hcn
  go_enter Tryz.func71, Tryz.ntmps71
  go_upto_region 1 with (fail)
  clear hc4 l4
  go_loopw [5] (fun i wr => ∃ (k : Nat), k ≤ cn ∧ i = .int .i64 k ∧ Hid (MapB wr qo .i64 fun q => if inR x.g (k : Nat) q then some (.agg #[.int .u8 x.ok, .int .u8 x.om]) else go' q) ∧ Hid (Chg [qo] w wr)) (fun i _ => cn - (intOf i).toNat)
  case atStart => exact ⟨0, by omega, rfl, hide (MapB.congr HMO.out inR_none), hide (Chg.refl _ _)⟩
  case round =>
    obtain ⟨k, hk, rfl, h1, hc⟩ := hrel
    have h4 : KB wr b4 x v := Blk.chg HK.out hc.out (by simp; exact HN.out.1)
    have h8 := H8.out.chg hc.out (by simp; exact HN.out.2.1)
    have hb := HB.out.chg hc.out (by simp; exact HN.out.2.2)
    by_cases hkl : k < cn
    · obtain ⟨-, -, -, qg, -, -, -, -, c8, c9, -, -, l4, -⟩ := KB.cells h4
      have q8 : wr.cell? ⟨b8, 0, none⟩ = some (.pointer (some ⟨gb pid, 0, none⟩)) := by simpa using h8.cell 0
      have q2 : wr.cell? ⟨gb pid, 2, none⟩ = some (.map (some qo)) := by simpa [prc] using hb.cell 2
      have l8 := h8.lt
      have lb := hb.lt
      have d1 : decide ((k : Int) < (cn : Int)) = true := decide_eq_true (by omega)
      have hw1 : IntKind.i64.wrap (x.g + (k : Int)) = x.g + (k : Int) := by rw [IntKind.wrap_i64]; have := HG.out; omega
      have hw2 : IntKind.i64.wrap ((k : Int) + 1) = (k : Int) + 1 := by rw [IntKind.wrap_i64]; omega
      have HKL := hide hkl
      have HM1 := hide (show MapB wr.drew qo .i64 _ from h1.out)
      have HCd := hide (show Chg [qo] w wr.drew from hc.out.drew)
      clear hkl hk h1 hc h4 h8 hb
      go_upto_region 3 with (fail)
      refine wp_region_t [1, 0, 0, 1, 0, 1, 0, 0, 0, 1, 3] [none, none, none, none, none, none, none, none, none, none, none] (fun _ => True) (by kernel_rfl) (by kernel_rfl) (by kernel_rfl) ?_
      go_wp2_with (first | (refine wpG_deed (by decide) (fun K hK => ?_); refine wp_update (val := .agg #[.int .u8 x.ok, .int .u8 x.om]) _ _ _ rfl Tryz.underlying111 Tryz.underlying3 rfl rfl rfl HM1.out ?_; intro W5 h5 hc5; refine hK _ _ ?_; clear hK K) | (refine wpG_calc rfl (fun K hK => ?_)) | (refine wpG_skip ?_ ?_; (focus (simp [wantG]; done)); go_simp) | (refine wpG_take ?_ ?_; (focus (simp [wantG]; done))) | (refine wpG_pure (fun K hK => ?_); go_simp; refine hK _ _ ?_; clear hK K) | (refine wpG_deed (by decide) (fun K hK => ?_); go_simp) | (refine wpG_nil ?_))
      go_roundw
      case rel => exact ⟨k + 1, by have := HKL.out; omega, by go_num, hide (MapB.congr h5 inR_add), hide (HCd.out.and_ hc5)⟩
      case measure => have := HKL.out; simp [intOf]; omega
    · obtain rfl : k = cn := by omega
      have HH := hide (And.intro h1.out hc.out)
      obtain ⟨-, -, -, -, c4, -, -, -, -, -, -, -, l4, -⟩ := KB.cells h4
      clear h1 hc h4 h8 hb
      go_wp2_with fail
      go_end0
      rw [show x.c = (k : Int) from HG.out.2.2]
      exact ⟨rfl, HEND.out wr HH.out.2 HH.out.1⟩
end Go.Proofs.YtfoleblcaloeoaaGreatDoor
