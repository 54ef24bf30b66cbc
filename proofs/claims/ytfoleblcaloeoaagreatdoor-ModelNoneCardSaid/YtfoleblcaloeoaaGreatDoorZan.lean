/- Texts merged for the claim: MoH. -/
import Derived.Test.YtfoleblcaloeoaaGreatDoorZam
import Derived.Deep.OwnRows
import Derived.Laws.OwnMore
import Derived.Deep.CutRange
import Derived.Deep.CutBlock
/- Effects: exit, policy, kmalloc (printed by genmoh.py). -/
namespace Go.Proofs.YtfoleblcaloeoaaGreatDoor
open Go Go.RowKit

theorem wp_delete {o : Oper} {a : Act} {w : World} {K : Act → World → Prop} {Q : Exit → Act → World → Prop} {t kt et : TypeId} {q k : IntKind} {b : Nat} {f : Int → Option Value} (x y : Operand) (ho : o.op = .call { callee := .builtin .delete, args := #[x, y], argTypes := #[t, kt] })
    (ht : Tryz.prog.underlying t = some (.map kt et)) (hk : Tryz.prog.underlying kt = some (.int q)) {key : Int} (hx : a.eval x = .map (some b)) (hy : a.eval y = .int k key) (h : MapB w b k f)
    (hK : ∀ w', MapB w' b k (fun y => if y = key then none else f y) → Chg [b] w w' → K (a.put o.dst (.tuple #[])) w') : o.wp Tryz.prog a w K Q := by
  obtain ⟨w', h1, h2, h3⟩ := run_delete_int (ty := o.type) ht hk h key
  unfold Oper.wp execOp
  simp only [ho, resolve, invoke, builtin, Sem.run_bind, Sem.run_pure, Result.andThen_ok, List.map_toArray, List.map_cons, List.map_nil, hx, hy, h1]
  exact hK w' h2 h3
theorem wp_mapEntry {o : Oper} {a : Act} {w : World} {K : Act → World → Prop} {Q : Exit → Act → World → Prop} {t kt et : TypeId} {q k : IntKind} {b : Nat} {f : Int → Option Value} (x y : Operand) (ho : o.op = .mapEntry t x y)
    (ht : Tryz.prog.underlying t = some (.map kt et)) (hk : Tryz.prog.underlying kt = some (.int q)) {key : Int} (hx : a.eval x = .map (some b)) (hy : a.eval y = .int k key) (h : MapB w b k f) {z : Value} (hz : ∀ W, (zeroValue et).run Tryz.prog W = .ok z W)
    (hK : ∀ w' v s, MapS w' b k f key s → Chg [b] w w' → K (a.put o.dst (.tuple #[v, goInt (s : Nat)])) w') : o.wp Tryz.prog a w K Q := by
  obtain ⟨w', v, s, h1, h2, h3⟩ := run_entry_int ht hk h key hz
  unfold Oper.wp execOp
  simp only [ho, hx, hy, Sem.run_bind, h1, Sem.run_pure, Result.andThen_ok]
  exact hK w' v s h2 h3
theorem wp_entryStore {o : Oper} {a : Act} {w : World} {K : Act → World → Prop} {Q : Exit → Act → World → Prop} {t : TypeId} {k : IntKind} {b : Nat} {f : Int → Option Value} (x y z : Operand) (ho : o.op = .entryStore t x y z)
    {key : Int} {s : Nat} {val : Value} (hx : a.eval x = .map (some b)) (hy : a.eval y = goInt (s : Nat)) (hz : a.eval z = val) (h : MapS w b k f key s)
    (hK : ∀ w', MapB w' b k (fun y => if y = key then some val else f y) → Chg [b] w w' → K (a.put o.dst undef) w') : o.wp Tryz.prog a w K Q := by
  obtain ⟨w', h1, h2, h3⟩ := run_entryStore_int (P := Tryz.prog) (t := t) h val
  unfold Oper.wp execOp
  simp only [ho, hx, hy, hz, Sem.run_bind, h1, Sem.run_pure, Result.andThen_ok]
  exact hK w' h2 h3
set_option maxRecDepth 20000 in
set_option maxHeartbeats 40000000 in
theorem exit_do {w : World} {m b1 b2 : Nat} {M : Mo} {O : Nat → Prop} {x : Cl} {v : Value} (h : MMem w m M O) (h1 : Blk w b1 30 #[.pointer (some ⟨m, 0, none⟩)]) (h2 : KB w b2 x v) :
    Calls Tryz.prog 66 #[.pointer (some ⟨b1, 0, none⟩), .pointer (some ⟨b2, 0, none⟩)] w fun e W' => e = .returned (.tuple #[]) ∧ CP O w W' ∧ ∃ O', MMem W' m { M with pr := upd M.pr x.p none } O' ∧ ∀ k, O' k → O k ∨ w.heap.size ≤ k := by
  obtain ⟨bp, bo, be, fp, fo, fe, gb, GF, ov, hI, hO, hl⟩ := h
  have HEND := hide (fun W => @exit_end w W m M O bp bo be fp fo fe gb GF ov hI hO hl x.p)
  have q1 : w.cell? ⟨b1, 0, none⟩ = some (.pointer (some ⟨m, 0, none⟩)) := by simpa using h1.cell 0
  obtain ⟨-, c1, -, -, -, -, -, -, -, -, -, -, cl, -⟩ := KB.cells h2
  obtain ⟨qp, -, -, qm, -⟩ := mo_cells hI.blk
  have l1 := h1.lt
  have HMP := hide (show MapB w.drew bp .i64 fp from hI.mp)
  clear hI hO hl h1 h2
  go_enter Tryz.func66, Tryz.ntmps66
  refine wp_region_t [1, 0, 0, 1, 0, 1, 3] [none, none, none, none, none, none, none] (fun _ => True) (by kernel_rfl) (by kernel_rfl) (by kernel_rfl) ?_
  go_wp2_with (first | (refine wpG_deed (by decide) (fun K hK => ?_); refine wp_delete _ _ rfl Tryz.underlying58 Tryz.underlying3 rfl rfl HMP.out ?_; intro W5 h5 hc5; refine hK _ _ ?_; clear hK K) | (refine wpG_calc rfl (fun K hK => ?_)) | (refine wpG_skip ?_ ?_; (focus (simp [wantG]; done)); go_simp) | (refine wpG_take ?_ ?_; (focus (simp [wantG]; done))) | (refine wpG_pure (fun K hK => ?_); go_simp; refine hK _ _ ?_; clear hK K) | (refine wpG_deed (by decide) (fun K hK => ?_); go_simp) | (refine wpG_nil ?_))
  go_end0
  exact ⟨rfl, HEND.out W5 h5 ((Chg.refl [bp] w).drew.and_ hc5)⟩
theorem info5c : (Tryz.prog.info? 5).map (fun i => (i.zero, i.size, i.bytes)) = some (some (.int .u8 0), 1, 1) := by kernel_rfl
theorem made_zero (w : World) (n : Nat) (hn : n ≤ 1000) : SB (w.alloc (.cells (madeCells #[.int .u8 0] n) 5)) (.slice (some ⟨w.heap.size, 0, none⟩) n n) (List.replicate n 0) := by
  have h := Sl.made w 5 1 (madeCells #[.int .u8 0] n) n n (Nat.le_refl _) (by unfold maxLen; omega) (by rw [size_madeCells]; omega)
  unfold SB SE
  rw [List.length_replicate]
  have e : (madeCells #[.int .u8 0] n).toList.take (n * 1) = fc ucl (List.replicate n 0) := by
    rw [toList_madeCells_one, Nat.mul_one, List.take_of_length_le (by simp)]
    unfold fc
    induction n with
    | zero => rfl
    | succ n ih => rw [List.replicate_succ, List.replicate_succ, List.flatMap_cons, ← ih (by omega) (Sl.made w 5 1 (madeCells #[.int .u8 0] n) n n (Nat.le_refl _) (by unfold maxLen; omega) (by rw [size_madeCells]; omega))]; rfl
  rw [← e]
  exact h
theorem zero27 : ∀ w, (zeroValue 38).run Tryz.prog w = .ok (.slice none 0 0) w := by
  have h : (Tryz.prog.info? 38).map (fun i => (i.zero, i.size)) = some (some (.slice none 0 0), 1) := by kernel_rfl
  exact (zero_of_info h).1
theorem zero4 : ∀ w, (zeroValue 4).run Tryz.prog w = .ok (.bool false) w := by
  have h : (Tryz.prog.info? 4).map (fun i => (i.zero, i.size)) = some (some (.bool false), 1) := by kernel_rfl
  exact (zero_of_info h).1
theorem malloc_end {w W : World} {m : Nat} {M : Mo} {O : Nat → Prop} {bp bo be : Nat} {fp fo fe : Int → Option Value} {gb : Int → Nat} {GF : Int → Nat → Prop} {ov : Int → Value}
    (hI : MIn w m M bp bo be fp fo fe gb GF ov) (hO : ∀ k, FMo M m bp bo be GF ov k → O k) (hl : ∀ k, O k → k < w.heap.size) (hc : Chg [bo, be] w W) {z : Int} {S : Value} {n : Nat}
    (ho : MapB W bo .u64 fun y => if y = z then some S else fo y) (he : MapB W be .u64 fun y => if y = z then some (.bool true) else fe y) (hS : SB W S (List.replicate n 0)) (hn : ∀ k ∈ own S, w.heap.size ≤ k) (h8 : n ≤ 128) :
    CP O w W ∧ ∃ O', MMem W m { M with ob := upd M.ob z (some (List.replicate n 0)), ev := upd M.ev z true } O' ∧ ∀ k, O' k → O k ∨ w.heap.size ≤ k := by
  have hne : ∀ h B, upd M.ob z (some (List.replicate n 0)) h = some B → h ≠ z → M.ob h = some B := fun h B e e2 => by rwa [upd_ne _ _ e2] at e
  have hold : ∀ h B, M.ob h = some B → ∀ k ∈ own (ov h), k < w.heap.size := fun h B e k hk => hl k (hO k (.inr (.inr (.inr (.inr (.inr ⟨h, B, e, hk⟩))))))
  refine obj_end hI hO hl hc (fun k hk => by (simp at hk; rcases hk with rfl | rfl <;> simp)) (ov' := upd ov z S) ho he (fun h => ?_) (fun h B e => ?_) (fun h h' B B' e e' hh k hk hk' => ?_) (fun h => ?_) (fun h B e k hk => ?_)
  · by_cases e : h = z
    · simp [upd, e]
    · simp only [upd, if_neg e]; exact hI.ho h
  · by_cases e2 : h = z
    · subst e2
      rw [upd_at] at e ⊢
      obtain rfl := Option.some.inj e
      exact ⟨hS, (fun x hx => by rw [List.mem_replicate] at hx; omega), (by simp; omega)⟩
    · rw [upd_ne _ _ e2]
      have hb := hI.ob h B (hne h B e e2)
      exact ⟨hb.1.chg hc (fun k hk h2 => by
        simp at h2
        rcases h2 with rfl | rfl
        · exact SB.ne_map hb.1 hI.mo hk
        · exact SB.ne_map hb.1 hI.me hk), hb.2⟩
  · by_cases e1 : h = z
    · subst e1
      have e2 : h' ≠ h := fun e => hh e.symm
      rw [upd_at] at hk
      rw [upd_ne _ _ e2] at hk'
      have := hold h' B' (hne h' B' e' e2) k hk'
      have := hn k hk
      omega
    · rw [upd_ne _ _ e1] at hk
      by_cases e2 : h' = z
      · subst e2
        rw [upd_at] at hk'
        have := hold h B (hne h B e e1) k hk
        have := hn k hk'
        omega
      · rw [upd_ne _ _ e2] at hk'
        exact hI.oa h h' B B' (hne h B e e1) (hne h' B' e' e2) hh k hk hk'
  · by_cases e : h = z
    · simp [upd, e]
    · simp only [upd, if_neg e]; exact hI.he h
  · by_cases e1 : h = z
    · subst e1
      rw [upd_at] at hk
      exact .inr (hn k hk)
    · rw [upd_ne _ _ e1] at hk
      exact .inl ⟨h, B, hne h B e e1, hk⟩
set_option maxRecDepth 20000 in
set_option maxHeartbeats 40000000 in
theorem malloc_do {w : World} {m b0 b1 b2 : Nat} {M : Mo} {O : Nat → Prop} {x : Cl} {v u : Value} {r : Rs} (h : MMem w m M O) (h0 : KB w b0 x v) (h1 : Blk w b1 30 #[.pointer (some ⟨m, 0, none⟩)]) (h2 : XB w b2 r u) {n : Nat} (hn : x.s = (n : Nat)) (hn8 : n ≤ 128) :
    Calls Tryz.prog 64 #[.pointer (some ⟨b0, 0, none⟩), .pointer (some ⟨b1, 0, none⟩), .pointer (some ⟨b2, 0, none⟩)] w fun e W' => e = .returned (.tuple #[]) ∧ CP O w W' ∧ ∃ O', MMem W' m { M with ob := upd M.ob r.v (some (List.replicate n 0)), ev := upd M.ev r.v true } O' ∧ ∀ k, O' k → O k ∨ w.heap.size ≤ k := by
  obtain ⟨bp, bo, be, fp, fo, fe, gb, GF, ov, hI, hO, hl⟩ := h
  have HEND := hide (fun W hc S => @malloc_end w W m M O bp bo be fp fo fe gb GF ov hI hO hl hc r.v S n)
  have HI := hide hI
  have HK := hide h0
  have H1 := hide h1
  have HX := hide h2
  have HN := hide (show ¬ b1 ∈ [bo, be] ∧ ¬ m ∈ [bo, be] ∧ ¬ b2 ∈ [bo, be] ∧ ¬ b0 ∈ [bo, be] from ⟨by simp; exact ⟨h1.ne_map hI.mo, h1.ne_map hI.me⟩, by simp; exact ⟨hI.blk.ne_map hI.mo, hI.blk.ne_map hI.me⟩, by simp; exact ⟨Blk.ne_map h2 hI.mo, Blk.ne_map h2 hI.me⟩, by simp; exact ⟨Blk.ne_map h0 hI.mo, Blk.ne_map h0 hI.me⟩⟩)
  have HLT := hide (And.intro hI.mo.lt hI.me.lt)
  have HD3 := hide hI.d3
  have hmk : ∀ W : World, (Instr.makeSlice 38 (.int .i64 (n : Int)) (.int .i64 (n : Int))).run Tryz.prog W = .ok (.slice (some ⟨W.heap.size, 0, none⟩) n n) (W.alloc (.cells (madeCells #[.int .u8 0] n) 5)) := fun W =>
    run_make_row' 38 5 (.int .u8 0) 1 Tryz.underlying38 info5c rfl .i64 .i64 n (by omega) (by omega) W
  have HN8 := hide hn8
  have HNS := hide hn
  clear hI hO hl h0 h1 h2 hn8 hn
  go_enter Tryz.func64, Tryz.ntmps64
  refine wp_region_g [5,0,0,5,0,5,5,0,0,5,0,5,0,5,6,6,0,6,6,0,6] [none, none, none, none, none, none, none, none, none, none, none, none, none, none, none, none, none, none, none, none, none] [[0,1,2,3,4,5,6,7,8,9,10,11,12,13,14,15,16,17,18,19,20], [0,1,2,3,4,5,6,7,8,9,10,11,12,13,15,14,16,17,18,19,20]] (fun W => Chg [bo, be] w W) (by kernel_rfl) (by kernel_rfl) (by kernel_rfl) (by kernel_rfl) (fun L9 hL9 => ?_)
  have hS : Chg [bo, be] w w.drew := (Chg.refl [bo, be] w).drew
  have hs0 : Chg [] w w.drew := (Chg.refl [] w).drew
  generalize w.drew = W0 at hS hs0 ⊢
  simp only [List.mem_cons, List.mem_nil_iff, or_false] at hL9
  rcases hL9 with rfl | rfl
  · simp only [picks, List.filterMap_cons, List.filterMap_nil, List.getElem?_cons_succ, List.getElem?_cons_zero]
    go_wp2_with (first | (refine wpG_hload 30 _ rfl rfl (fun w' hw' => load_ptr Tryz.underlying30 (by simpa using (H1.out.cp (CP.of hw' (fun k hk => .inl hk)) HN.out.1).cell 0)) hS ?_) | (refine wpG_hload 59 _ rfl rfl (fun w' hw' => load_map Tryz.underlying59 (mo_cells (HI.out.blk.cp (CP.of hw' (fun k hk => .inl hk)) HN.out.2.1)).2.1) hS ?_) | (refine wpG_hload 60 _ rfl rfl (fun w' hw' => load_map Tryz.underlying60 (mo_cells (HI.out.blk.cp (CP.of hw' (fun k hk => .inl hk)) HN.out.2.1)).2.2.1) hS ?_) | (refine wpG_hload 37 _ rfl rfl (fun w' hw' => load_int Tryz.underlying37 (XB.cells (Blk.cp HX.out (CP.of hw' (fun k hk => .inl hk)) HN.out.2.2.1)).2.1) hS ?_) | (refine wpG_hload 3 _ rfl rfl (fun w' hw' => load_int Tryz.underlying3 (KB.cells (Blk.cp HK.out (CP.of hw' (fun k hk => .inl hk)) HN.out.2.2.2)).2.2.2.2.2.2.1) hS ?_) | (refine wpG_calc rfl (fun K hK => ?_)) | (refine wpG_skip ?_ ?_; (focus (simp [wantG]; done)); go_simp) | (refine wpG_take ?_ ?_; (focus (simp [wantG]; done))) | (refine wpG_pure (fun K hK => ?_); go_simp; refine hK _ _ ?_; clear hK K) | (refine wpG_deed (by decide) (fun K hK => ?_); go_simp) | (refine wpG_nil ?_))
    rw [HNS.out]
    (refine wpG_keeps hS (fun K hK => ?_))
    go_simp
    obtain ⟨W1, hW1⟩ : ∃ W, W = W0.alloc (.cells (madeCells #[.int .u8 0] n) 5) := ⟨_, rfl⟩
    have hc1 : Chg [] W0 W1 := by rw [hW1]; exact (Chg.refl [] _).alloc _
    have hM : SB W1 (.slice (some ⟨W0.heap.size, 0, none⟩) n n) (List.replicate n 0) := by rw [hW1]; exact made_zero _ n (by have := HN8.out; omega)
    have gM : w.heap.size ≤ W0.heap.size := hS.size
    have hS1 : Chg [bo, be] w W1 := hS.stay hc1
    try rw [← hW1]
    clear hW1
    refine hK _ _ hS1 ?_
    clear hK K
    (refine wpG_keeps hS1 (fun K hK => ?_))
    refine wp_mapEntry _ _ rfl Tryz.underlying59 Tryz.underlying37 rfl rfl (MapB.stay HI.out.mo (hs0.stay hc1)) zero27 ?_
    intro W2 v1 s1 hE1 hc2
    have hS2 : Chg [bo, be] w W2 := hS1.trans hc2 (fun y hy => .inl (by obtain rfl := List.mem_singleton.1 hy; simp))
    refine hK _ _ hS2 ?_
    clear hK K
    replace hM := hM.chg hc2 (fun k hk h => by simp [own, Value.ownBlock] at hk; simp at h; have := HLT.out; omega)
    go_wp2_with (first | fail | (refine wpG_calc rfl (fun K hK => ?_)) | (refine wpG_skip ?_ ?_; (focus (simp [wantG]; done)); go_simp) | (refine wpG_take ?_ ?_; (focus (simp [wantG]; done))) | (refine wpG_pure (fun K hK => ?_); go_simp; refine hK _ _ ?_; clear hK K) | (refine wpG_deed (by decide) (fun K hK => ?_); go_simp) | (refine wpG_nil ?_))
    (refine wpG_keeps hS2 (fun K hK => ?_))
    refine wp_entryStore _ _ _ rfl rfl rfl rfl hE1 ?_
    intro W3 hB3 hc3
    have hS3 : Chg [bo, be] w W3 := hS2.trans hc3 (fun y hy => .inl (by obtain rfl := List.mem_singleton.1 hy; simp))
    refine hK _ _ hS3 ?_
    clear hK K
    replace hM := hM.chg hc3 (fun k hk h => by simp [own, Value.ownBlock] at hk; simp at h; have := HLT.out; omega)
    have hme : MapB W3 be .u64 fe := (((MapB.stay HI.out.me (hs0.stay hc1)).chg hc2 (by simp; exact fun e => HD3.out e.symm)).chg hc3 (by simp; exact fun e => HD3.out e.symm))
    (refine wpG_keeps hS3 (fun K hK => ?_))
    refine wp_mapEntry _ _ rfl Tryz.underlying60 Tryz.underlying37 rfl rfl hme zero4 ?_
    intro W4 v2 s2 hE2 hc4
    have hS4 : Chg [bo, be] w W4 := hS3.trans hc4 (fun y hy => .inl (by obtain rfl := List.mem_singleton.1 hy; simp))
    refine hK _ _ hS4 ?_
    clear hK K
    replace hM := hM.chg hc4 (fun k hk h => by simp [own, Value.ownBlock] at hk; simp at h; have := HLT.out; omega)
    replace hB3 := hB3.chg hc4 (by simp; exact HD3.out)
    go_wp2_with (first | fail | (refine wpG_calc rfl (fun K hK => ?_)) | (refine wpG_skip ?_ ?_; (focus (simp [wantG]; done)); go_simp) | (refine wpG_take ?_ ?_; (focus (simp [wantG]; done))) | (refine wpG_pure (fun K hK => ?_); go_simp; refine hK _ _ ?_; clear hK K) | (refine wpG_deed (by decide) (fun K hK => ?_); go_simp) | (refine wpG_nil ?_))
    (refine wpG_keeps hS4 (fun K hK => ?_))
    refine wp_entryStore _ _ _ rfl rfl rfl rfl hE2 ?_
    intro W5 hB5 hc5
    have hS5 : Chg [bo, be] w W5 := hS4.trans hc5 (fun y hy => .inl (by obtain rfl := List.mem_singleton.1 hy; simp))
    refine hK _ _ hS5 ?_
    clear hK K
    replace hM := hM.chg hc5 (fun k hk h => by simp [own, Value.ownBlock] at hk; simp at h; have := HLT.out; omega)
    replace hB3 := hB3.chg hc5 (by simp; exact HD3.out)
    go_wp2_with (first | fail | (refine wpG_calc rfl (fun K hK => ?_)) | (refine wpG_skip ?_ ?_; (focus (simp [wantG]; done)); go_simp) | (refine wpG_take ?_ ?_; (focus (simp [wantG]; done))) | (refine wpG_pure (fun K hK => ?_); go_simp; refine hK _ _ ?_; clear hK K) | (refine wpG_deed (by decide) (fun K hK => ?_); go_simp) | (refine wpG_nil ?_))
    go_end0
    exact ⟨rfl, HEND.out W5 hS5 (.slice (some ⟨W0.heap.size, 0, none⟩) n n) hB3 hB5 hM (fun k hk => by simp [own, Value.ownBlock] at hk; omega) HN8.out⟩
  · simp only [picks, List.filterMap_cons, List.filterMap_nil, List.getElem?_cons_succ, List.getElem?_cons_zero]
    go_wp2_with (first | (refine wpG_hload 30 _ rfl rfl (fun w' hw' => load_ptr Tryz.underlying30 (by simpa using (H1.out.cp (CP.of hw' (fun k hk => .inl hk)) HN.out.1).cell 0)) hS ?_) | (refine wpG_hload 59 _ rfl rfl (fun w' hw' => load_map Tryz.underlying59 (mo_cells (HI.out.blk.cp (CP.of hw' (fun k hk => .inl hk)) HN.out.2.1)).2.1) hS ?_) | (refine wpG_hload 60 _ rfl rfl (fun w' hw' => load_map Tryz.underlying60 (mo_cells (HI.out.blk.cp (CP.of hw' (fun k hk => .inl hk)) HN.out.2.1)).2.2.1) hS ?_) | (refine wpG_hload 37 _ rfl rfl (fun w' hw' => load_int Tryz.underlying37 (XB.cells (Blk.cp HX.out (CP.of hw' (fun k hk => .inl hk)) HN.out.2.2.1)).2.1) hS ?_) | (refine wpG_hload 3 _ rfl rfl (fun w' hw' => load_int Tryz.underlying3 (KB.cells (Blk.cp HK.out (CP.of hw' (fun k hk => .inl hk)) HN.out.2.2.2)).2.2.2.2.2.2.1) hS ?_) | (refine wpG_calc rfl (fun K hK => ?_)) | (refine wpG_skip ?_ ?_; (focus (simp [wantG]; done)); go_simp) | (refine wpG_take ?_ ?_; (focus (simp [wantG]; done))) | (refine wpG_pure (fun K hK => ?_); go_simp; refine hK _ _ ?_; clear hK K) | (refine wpG_deed (by decide) (fun K hK => ?_); go_simp) | (refine wpG_nil ?_))
    rw [HNS.out]
    (refine wpG_keeps hS (fun K hK => ?_))
    refine wp_mapEntry _ _ rfl Tryz.underlying59 Tryz.underlying37 rfl rfl (MapB.stay HI.out.mo hs0) zero27 ?_
    intro W1 v1 s1 hE1 hc1
    have hS1 : Chg [bo, be] w W1 := hS.trans hc1 (fun y hy => .inl (by obtain rfl := List.mem_singleton.1 hy; simp))
    refine hK _ _ hS1 ?_
    clear hK K
    (refine wpG_keeps hS1 (fun K hK => ?_))
    go_simp
    obtain ⟨W2, hW2⟩ : ∃ W, W = W1.alloc (.cells (madeCells #[.int .u8 0] n) 5) := ⟨_, rfl⟩
    have hc2 : Chg [] W1 W2 := by rw [hW2]; exact (Chg.refl [] _).alloc _
    have hM : SB W2 (.slice (some ⟨W1.heap.size, 0, none⟩) n n) (List.replicate n 0) := by rw [hW2]; exact made_zero _ n (by have := HN8.out; omega)
    have gM : w.heap.size ≤ W1.heap.size := hS1.size
    have hS2 : Chg [bo, be] w W2 := hS1.stay hc2
    try rw [← hW2]
    clear hW2
    refine hK _ _ hS2 ?_
    clear hK K
    have hE1 := hE1.chg hc2 List.not_mem_nil
    go_wp2_with (first | fail | (refine wpG_calc rfl (fun K hK => ?_)) | (refine wpG_skip ?_ ?_; (focus (simp [wantG]; done)); go_simp) | (refine wpG_take ?_ ?_; (focus (simp [wantG]; done))) | (refine wpG_pure (fun K hK => ?_); go_simp; refine hK _ _ ?_; clear hK K) | (refine wpG_deed (by decide) (fun K hK => ?_); go_simp) | (refine wpG_nil ?_))
    (refine wpG_keeps hS2 (fun K hK => ?_))
    refine wp_entryStore _ _ _ rfl rfl rfl rfl hE1 ?_
    intro W3 hB3 hc3
    have hS3 : Chg [bo, be] w W3 := hS2.trans hc3 (fun y hy => .inl (by obtain rfl := List.mem_singleton.1 hy; simp))
    refine hK _ _ hS3 ?_
    clear hK K
    replace hM := hM.chg hc3 (fun k hk h => by simp [own, Value.ownBlock] at hk; simp at h; have := HLT.out; omega)
    have hme : MapB W3 be .u64 fe := (((MapB.stay HI.out.me hs0).chg hc1 (by simp; exact fun e => HD3.out e.symm)).stay hc2).chg hc3 (by simp; exact fun e => HD3.out e.symm)
    (refine wpG_keeps hS3 (fun K hK => ?_))
    refine wp_mapEntry _ _ rfl Tryz.underlying60 Tryz.underlying37 rfl rfl hme zero4 ?_
    intro W4 v2 s2 hE2 hc4
    have hS4 : Chg [bo, be] w W4 := hS3.trans hc4 (fun y hy => .inl (by obtain rfl := List.mem_singleton.1 hy; simp))
    refine hK _ _ hS4 ?_
    clear hK K
    replace hM := hM.chg hc4 (fun k hk h => by simp [own, Value.ownBlock] at hk; simp at h; have := HLT.out; omega)
    replace hB3 := hB3.chg hc4 (by simp; exact HD3.out)
    go_wp2_with (first | fail | (refine wpG_calc rfl (fun K hK => ?_)) | (refine wpG_skip ?_ ?_; (focus (simp [wantG]; done)); go_simp) | (refine wpG_take ?_ ?_; (focus (simp [wantG]; done))) | (refine wpG_pure (fun K hK => ?_); go_simp; refine hK _ _ ?_; clear hK K) | (refine wpG_deed (by decide) (fun K hK => ?_); go_simp) | (refine wpG_nil ?_))
    (refine wpG_keeps hS4 (fun K hK => ?_))
    refine wp_entryStore _ _ _ rfl rfl rfl rfl hE2 ?_
    intro W5 hB5 hc5
    have hS5 : Chg [bo, be] w W5 := hS4.trans hc5 (fun y hy => .inl (by obtain rfl := List.mem_singleton.1 hy; simp))
    refine hK _ _ hS5 ?_
    clear hK K
    replace hM := hM.chg hc5 (fun k hk h => by simp [own, Value.ownBlock] at hk; simp at h; have := HLT.out; omega)
    replace hB3 := hB3.chg hc5 (by simp; exact HD3.out)
    go_wp2_with (first | fail | (refine wpG_calc rfl (fun K hK => ?_)) | (refine wpG_skip ?_ ?_; (focus (simp [wantG]; done)); go_simp) | (refine wpG_take ?_ ?_; (focus (simp [wantG]; done))) | (refine wpG_pure (fun K hK => ?_); go_simp; refine hK _ _ ?_; clear hK K) | (refine wpG_deed (by decide) (fun K hK => ?_); go_simp) | (refine wpG_nil ?_))
    go_end0
    exact ⟨rfl, HEND.out W5 hS5 (.slice (some ⟨W1.heap.size, 0, none⟩) n n) hB3 hB5 hM (fun k hk => by simp [own, Value.ownBlock] at hk; omega) HN8.out⟩
end Go.Proofs.YtfoleblcaloeoaaGreatDoor
