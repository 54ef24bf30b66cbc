/- Texts merged for the claim: MoE. -/
import Derived.Test.YtfoleblcaloeoaaGreatDoorZak
/- A new process: spawn (printed by genmoe.py). -/
namespace Go.Proofs.YtfoleblcaloeoaaGreatDoor
open Go Go.RowKit

theorem load_ptr {w : World} {t e : TypeId} {ad : Addr} {v : Value} (ht : Tryz.prog.underlying t = some (.pointer e)) (h : w.cell? ad = some v) : (loadVar t ad).run Tryz.prog w = .ok v w := by
  simp [loadVar, isAgg, run_underlying ht, load, Sem.run, h]
theorem load_map {w : World} {t k e : TypeId} {ad : Addr} {v : Value} (ht : Tryz.prog.underlying t = some (.map k e)) (h : w.cell? ad = some v) : (loadVar t ad).run Tryz.prog w = .ok v w := by
  simp [loadVar, isAgg, run_underlying ht, load, Sem.run, h]
theorem Blk.ne_map {w : World} {g b : Nat} {t : TypeId} {cs : Array Value} {k : IntKind} {f : Int → Option Value} (h : Blk w g t cs) (h' : MapB w b k f) : g ≠ b := by
  rintro rfl
  obtain ⟨es, cl, h1, _⟩ := h'
  unfold Blk at h
  rw [h] at h1
  cases h1
theorem SB.ne_map {w : World} {v : Value} {l : List Nat} {b : Nat} {k : IntKind} {f : Int → Option Value} (h : SB w v l) (h' : MapB w b k f) : b ∉ own v := fun hk => by
  obtain ⟨cur, hc⟩ := Sl.blk h hk
  exact Blk.ne_map hc h' rfl
theorem spawn_end {w W W5 : World} {m : Nat} {M : Mo} {O : Nat → Prop} {bp bo be : Nat} {fp fo fe : Int → Option Value} {gb : Int → Nat} {GF : Int → Nat → Prop} {ov : Int → Value}
    (hI : MIn w m M bp bo be fp fo fe gb GF ov) (hO : ∀ k, FMo M m bp bo be GF ov k → O k) (hl : ∀ k, O k → k < w.heap.size) {pid : Int} (hp : M.pr pid = none) (hr : 1 ≤ pid ∧ pid ≤ 8)
    (hc : Chg [] w W) {dA dP dO : Nat} (hA : Ar.AMem W dA [] [dA]) (hP : MapB W dP .i64 fun _ => none) (hQ : MapB W dO .i64 fun _ => none) (hn : dP ≠ dO) (gA : w.heap.size ≤ dA) (gP : w.heap.size ≤ dP) (gO : w.heap.size ≤ dO)
    (h5 : MapB W5 bp .i64 fun y => if y = pid then some (.pointer (some ⟨W.heap.size, 0, none⟩)) else fp y) (hc5 : Chg [bp] (W.alloc (.cells (prc dA dP dO newPr) 113)) W5) :
    CP O w W5 ∧ ∃ O', MMem W5 m { M with pr := upd M.pr pid (some newPr) } O' ∧ ∀ k, O' k → O k ∨ w.heap.size ≤ k := by
  have hcW : Chg [bp] w W5 := ((hc.alloc _).up [bp]).trans hc5 (fun x hx => .inl hx)
  have hcp : CP (fun k => k = bp) w W5 := CP.of hcW (fun k hk => .inl (List.mem_singleton.1 hk))
  have hbp := hI.mp.lt
  have hs := hc.size
  have hs5 := hc5.size
  rw [World.size_alloc] at hs5
  have hpb : PMem W5 W.heap.size newPr fun k => k = W.heap.size ∨ k = dA ∨ k = dP ∨ k = dO := by
    have a1 : ∀ k ∈ [dA], k < W.heap.size := hA.lt
    have a2 := hP.lt
    have a3 := hQ.lt
    have a1' := a1 dA (List.mem_singleton.2 rfl)
    have s1 : Chg [bp] W W5 := (((Chg.refl [] W).alloc _).up [bp]).trans hc5 (fun x hx => .inl hx)
    refine ⟨dA, [dA], dP, dO, fun _ => none, fun _ => none, fun _ => 0, ⟨?_, hA.chg s1 (by simp; omega), ?_, hP.chg s1 (by simp; omega), hQ.chg s1 (by simp; omega), fun _ => rfl, fun _ => rfl, (fun n B h => by cases h), (fun n n' B B' h => by cases h), hn, (by decide), (by decide), (fun n q h => by cases h)⟩, ?_, ?_⟩
    · exact (Blk.new W _ _).chg hc5 (by simp; omega)
    · exact Ar.Sp.nil
    · rintro k (rfl | hk | rfl | rfl | ⟨n, B, h, _⟩)
      · exact .inl rfl
      · exact .inr (.inl (List.mem_singleton.1 hk))
      · exact .inr (.inr (.inl rfl))
      · exact .inr (.inr (.inr rfl))
      · cases h
    · rintro k (rfl | rfl | rfl | rfl) <;> omega
  have hne : ∀ n p, upd M.pr pid (some newPr) n = some p → n ≠ pid → M.pr n = some p := fun n p h h2 => by unfold upd at h; rwa [if_neg h2] at h
  have hlk : ∀ n p, M.pr n = some p → ∀ k, GF n k → k < w.heap.size := fun n p h k hk => hl k (hO k (.inr (.inr (.inr (.inr (.inl ⟨n, p, h, hk⟩))))))
  have hmlt := hI.blk.lt
  have hbo := hI.mo.lt
  have hbe := hI.me.lt
  refine ⟨CP.of hcW (fun k hk => .inl (by obtain rfl := List.mem_singleton.1 hk; exact hO _ (.inr (.inl rfl)))), fun k => O k ∨ k = W.heap.size ∨ k = dA ∨ k = dP ∨ k = dO, ⟨bp, bo, be, _, fo, fe, upd gb pid W.heap.size, upd GF pid (fun k => k = W.heap.size ∨ k = dA ∨ k = dP ∨ k = dO), ov, ⟨hI.blk.cp hcp (hI.blk.ne_map hI.mp), h5, hI.mo.cp hcp (fun e => hI.d1 e.symm), hI.me.cp hcp (fun e => hI.d2 e.symm), ?_, ?_, ?_, ?_, hI.ho, fun z B hB => ⟨SB.cp (hI.ob z B hB).1 hcp (fun k hk e => SB.ne_map (hI.ob z B hB).1 hI.mp (e ▸ hk)), (hI.ob z B hB).2⟩, hI.oa, hI.he, hI.d1, hI.d2, hI.d3, ?_⟩, ?_, ?_⟩, ?_⟩
  · intro n
    show (if n = pid then _ else _) = (upd M.pr pid (some newPr) n).map _
    by_cases h : n = pid
    · simp [upd, h]
    · simp only [upd, if_neg h]; exact hI.hp n
  · intro n p h
    by_cases hn : n = pid
    · subst hn
      have e1 : newPr = p := by
        have h' : upd M.pr n (some newPr) n = some p := h
        simpa [upd] using h'
      subst e1
      unfold upd
      rw [if_pos rfl, if_pos rfl]
      exact hpb
    · unfold upd
      rw [if_neg hn, if_neg hn]
      exact (hI.pr n p (hne n p h hn)).cp hcp (fun k hk e => (hI.dm n p (hne n p h hn) k hk).2.1 e)
  · intro n n' p p' h h' hnn k hk hk'
    unfold upd at hk hk'
    by_cases e1 : n = pid
    · have e2 : n' ≠ pid := fun e => hnn (e1.trans e.symm)
      rw [if_pos e1] at hk
      rw [if_neg e2] at hk'
      have := hlk n' p' (hne n' p' h' e2) k hk'
      rcases hk with rfl | rfl | rfl | rfl <;> omega
    · rw [if_neg e1] at hk
      by_cases e2 : n' = pid
      · rw [if_pos e2] at hk'
        have := hlk n p (hne n p h e1) k hk
        rcases hk' with rfl | rfl | rfl | rfl <;> omega
      · rw [if_neg e2] at hk'
        exact hI.ap n n' p p' (hne n p h e1) (hne n' p' h' e2) hnn k hk hk'
  · intro n p h
    by_cases e1 : n = pid
    · rw [e1]; exact hr
    · exact hI.rng n p (hne n p h e1)
  · intro n p h k hk
    by_cases e1 : n = pid
    · unfold upd at hk
      rw [if_pos e1] at hk
      have g : w.heap.size ≤ k := by rcases hk with rfl | rfl | rfl | rfl <;> omega
      refine ⟨by omega, by omega, by omega, by omega, fun z B hB hk2 => ?_⟩
      have := hl k (hO k (.inr (.inr (.inr (.inr (.inr ⟨z, B, hB, hk2⟩))))))
      omega
    · unfold upd at hk
      rw [if_neg e1] at hk
      exact hI.dm n p (hne n p h e1) k hk
  · rintro k (rfl | rfl | rfl | rfl | ⟨n, p, h, hk⟩ | ⟨z, B, hB, hk⟩)
    · exact .inl (hO _ (.inl rfl))
    · exact .inl (hO _ (.inr (.inl rfl)))
    · exact .inl (hO _ (.inr (.inr (.inl rfl))))
    · exact .inl (hO _ (.inr (.inr (.inr (.inl rfl)))))
    · by_cases e1 : n = pid
      · unfold upd at hk
        rw [if_pos e1] at hk
        exact .inr hk
      · unfold upd at hk
        rw [if_neg e1] at hk
        exact .inl (hO _ (.inr (.inr (.inr (.inr (.inl ⟨n, p, hne n p h e1, hk⟩))))))
    · exact .inl (hO _ (.inr (.inr (.inr (.inr (.inr ⟨z, B, hB, hk⟩))))))
  · have a1' : dA < W.heap.size := hA.lt dA (List.mem_singleton.2 rfl)
    have a2 := hP.lt
    have a3 := hQ.lt
    rintro k (h | rfl | rfl | rfl | rfl)
    · have := hl k h; omega
    · omega
    · omega
    · omega
    · omega
  · rintro k (h | rfl | rfl | rfl | rfl)
    · exact .inl h
    · exact .inr hs
    · exact .inr gA
    · exact .inr gP
    · exact .inr gO
set_option maxRecDepth 20000 in
set_option maxHeartbeats 40000000 in
theorem spawn_do {w : World} {m b1 b4 : Nat} {M : Mo} {O : Nat → Prop} (h : MMem w m M O) (h1 : Blk w b1 30 #[.pointer (some ⟨m, 0, none⟩)]) {pid : Int} (h4 : Blk w b4 3 #[.int .i64 pid]) (hp : M.pr pid = none) (hr : 1 ≤ pid ∧ pid ≤ 8) :
    Calls Tryz.prog 91 #[.pointer (some ⟨b1, 0, none⟩), .pointer (some ⟨b4, 0, none⟩)] w fun e W' => e = .returned (.tuple #[]) ∧ CP O w W' ∧ ∃ O', MMem W' m { M with pr := upd M.pr pid (some newPr) } O' ∧ ∀ k, O' k → O k ∨ w.heap.size ≤ k := by
  obtain ⟨bp, bo, be, fp, fo, fe, gb, GF, ov, hI, hO, hl⟩ := h
  have HEND := hide (fun (W W5 : World) (hc : Chg [] w W) (dA dP dO : Nat) => @spawn_end w W W5 m M O bp bo be fp fo fe gb GF ov hI hO hl pid hp hr hc dA dP dO)
  have HI := hide hI
  have H1 := hide h1
  have H4 := hide h4
  have hmk : ∀ (t : TypeId) (W : World), (Instr.makeMap t none).run Tryz.prog W = .ok (.map (some W.heap.size)) (W.alloc (.map #[] 0)) := fun t W => run_makeMap t W
  clear hI hO hl hp hr h1 h4
  go_enter Tryz.func91, Tryz.ntmps91
  refine wp_region_h [5,0,0,5,5,6,6,6,0,6,3] [none, none, none, none, none, none, none, none, none, none, none] [[0,1,2,3,4,5,6,7,8,9,10], [0,1,2,3,4,5,7,6,8,9,10], [0,1,2,3,4,6,5,7,8,9,10], [0,1,2,3,4,6,7,5,8,9,10], [0,1,2,3,4,7,5,6,8,9,10], [0,1,2,3,4,7,6,5,8,9,10]] (fun W => Chg [] w W) (by kernel_rfl) (by kernel_rfl) (by kernel_rfl) (by kernel_rfl) (fun L9 hL9 => ?_)
  have hS : Chg [] w w.drew := (Chg.refl [] w).drew
  generalize w.drew = W0 at hS ⊢
  simp only [List.mem_cons, List.mem_nil_iff, or_false] at hL9
  rcases hL9 with rfl | rfl | rfl | rfl | rfl | rfl
  · simp only [picks, List.filterMap_cons, List.filterMap_nil, List.getElem?_cons_succ, List.getElem?_cons_zero]
    go_wp2_with (first | (refine wpG_hload 30 _ rfl rfl (fun w' hw' => load_ptr Tryz.underlying30 (by simpa using (Blk.chg H1.out hw' List.not_mem_nil).cell 0)) hS ?_) | (refine wpG_hload 58 _ rfl rfl (fun w' hw' => load_map Tryz.underlying58 (mo_cells (Blk.chg HI.out.blk hw' List.not_mem_nil)).1) hS ?_) | (refine wpG_hload 3 _ rfl rfl (fun w' hw' => load_int Tryz.underlying3 (by simpa using (Blk.chg H4.out hw' List.not_mem_nil).cell 0)) hS ?_) | (refine wpG_calc rfl (fun K hK => ?_)) | (refine wpG_skip ?_ ?_; (focus (simp [wantG]; done)); go_simp) | (refine wpG_take ?_ ?_; (focus (simp [wantG]; done))) | (refine wpG_pure (fun K hK => ?_); go_simp; refine hK _ _ ?_; clear hK K) | (refine wpG_deed (by decide) (fun K hK => ?_); go_simp) | (refine wpG_nil ?_))
    (refine wpG_keeps hS (fun K hK => ?_))
    go_simp
    refine (Ar.new_any W0).mono ?_
    rintro e W1 ⟨rfl, hA, hc1⟩
    have hS1 : Chg [] w W1 := hS.stay hc1
    have gA : w.heap.size ≤ W0.heap.size := hS.size
    refine hK _ _ hS1 ?_
    clear hK K
    (refine wpG_keeps hS1 (fun K hK => ?_))
    go_simp
    obtain ⟨W2, hW2⟩ : ∃ W, W = W1.alloc (.map #[] 0) := ⟨_, rfl⟩
    have hc2 : Chg [] W1 W2 := by rw [hW2]; exact (Chg.refl [] _).alloc _
    have hP : MapB W2 W1.heap.size .i64 (fun _ => none) := by rw [hW2]; exact MapB.new _ _
    have gP : w.heap.size ≤ W1.heap.size := hS1.size
    have lP : W1.heap.size < W2.heap.size := hP.lt
    have hS2 : Chg [] w W2 := hS1.stay hc2
    try rw [← hW2]
    clear hW2
    refine hK _ _ hS2 ?_
    clear hK K
    replace hA := hA.stay hc2
    (refine wpG_keeps hS2 (fun K hK => ?_))
    go_simp
    obtain ⟨W3, hW3⟩ : ∃ W, W = W2.alloc (.map #[] 0) := ⟨_, rfl⟩
    have hc3 : Chg [] W2 W3 := by rw [hW3]; exact (Chg.refl [] _).alloc _
    have hQ : MapB W3 W2.heap.size .i64 (fun _ => none) := by rw [hW3]; exact MapB.new _ _
    have gQ : w.heap.size ≤ W2.heap.size := hS2.size
    have lQ : W2.heap.size < W3.heap.size := hQ.lt
    have hS3 : Chg [] w W3 := hS2.stay hc3
    try rw [← hW3]
    clear hW3
    refine hK _ _ hS3 ?_
    clear hK K
    replace hA := hA.stay hc3
    replace hP := hP.stay hc3
    have HA := hide hA
    have HP := hide hP
    have HQ := hide hQ
    have HG := hide (And.intro gA (And.intro gP gQ))
    have HNE := hide (show W1.heap.size ≠ W2.heap.size by have := hc1.size; have := hc2.size; have := hc3.size; omega)
    have HBP := hide (bp_new W0.heap.size W1.heap.size W2.heap.size)
    have HMP := hide (MapB.stay HI.out.mp hS3)
    have HS3 := hide hS3
    clear hA hP hQ gA gP gQ lP lQ hS hS1 hS2 hS3 hc1 hc2 hc3
    go_wp2_with (first | (refine wpG_keeps HS3.out (fun K hK => ?_); refine wp_boxPr _ rfl rfl ?_; refine hK _ _ (HS3.out.alloc _) ?_; clear hK K) | (refine wpG_calc rfl (fun K hK => ?_); refine wp_buildPr _ rfl HBP.out ?_ ?_; (focus (simp [Act.eval]; done)); refine hK _ _ ?_; clear hK K) | (refine wpG_deed (by decide) (fun K hK => ?_); refine wp_update _ _ _ rfl Tryz.underlying58 Tryz.underlying3 rfl rfl rfl (MapB.stay HMP.out ((Chg.refl [] W3).alloc _)) ?_; intro W5 h5 hc5; refine hK _ _ ?_; clear hK K) | (refine wpG_calc rfl (fun K hK => ?_)) | (refine wpG_skip ?_ ?_; (focus (simp [wantG]; done)); go_simp) | (refine wpG_take ?_ ?_; (focus (simp [wantG]; done))) | (refine wpG_pure (fun K hK => ?_); go_simp; refine hK _ _ ?_; clear hK K) | (refine wpG_deed (by decide) (fun K hK => ?_); go_simp) | (refine wpG_nil ?_))
    go_end0
    exact ⟨rfl, HEND.out _ _ HS3.out _ _ _ HA.out HP.out HQ.out HNE.out HG.out.1 HG.out.2.1 HG.out.2.2 h5 hc5⟩
  · simp only [picks, List.filterMap_cons, List.filterMap_nil, List.getElem?_cons_succ, List.getElem?_cons_zero]
    go_wp2_with (first | (refine wpG_hload 30 _ rfl rfl (fun w' hw' => load_ptr Tryz.underlying30 (by simpa using (Blk.chg H1.out hw' List.not_mem_nil).cell 0)) hS ?_) | (refine wpG_hload 58 _ rfl rfl (fun w' hw' => load_map Tryz.underlying58 (mo_cells (Blk.chg HI.out.blk hw' List.not_mem_nil)).1) hS ?_) | (refine wpG_hload 3 _ rfl rfl (fun w' hw' => load_int Tryz.underlying3 (by simpa using (Blk.chg H4.out hw' List.not_mem_nil).cell 0)) hS ?_) | (refine wpG_calc rfl (fun K hK => ?_)) | (refine wpG_skip ?_ ?_; (focus (simp [wantG]; done)); go_simp) | (refine wpG_take ?_ ?_; (focus (simp [wantG]; done))) | (refine wpG_pure (fun K hK => ?_); go_simp; refine hK _ _ ?_; clear hK K) | (refine wpG_deed (by decide) (fun K hK => ?_); go_simp) | (refine wpG_nil ?_))
    (refine wpG_keeps hS (fun K hK => ?_))
    go_simp
    refine (Ar.new_any W0).mono ?_
    rintro e W1 ⟨rfl, hA, hc1⟩
    have hS1 : Chg [] w W1 := hS.stay hc1
    have gA : w.heap.size ≤ W0.heap.size := hS.size
    refine hK _ _ hS1 ?_
    clear hK K
    (refine wpG_keeps hS1 (fun K hK => ?_))
    go_simp
    obtain ⟨W2, hW2⟩ : ∃ W, W = W1.alloc (.map #[] 0) := ⟨_, rfl⟩
    have hc2 : Chg [] W1 W2 := by rw [hW2]; exact (Chg.refl [] _).alloc _
    have hQ : MapB W2 W1.heap.size .i64 (fun _ => none) := by rw [hW2]; exact MapB.new _ _
    have gQ : w.heap.size ≤ W1.heap.size := hS1.size
    have lQ : W1.heap.size < W2.heap.size := hQ.lt
    have hS2 : Chg [] w W2 := hS1.stay hc2
    try rw [← hW2]
    clear hW2
    refine hK _ _ hS2 ?_
    clear hK K
    replace hA := hA.stay hc2
    (refine wpG_keeps hS2 (fun K hK => ?_))
    go_simp
    obtain ⟨W3, hW3⟩ : ∃ W, W = W2.alloc (.map #[] 0) := ⟨_, rfl⟩
    have hc3 : Chg [] W2 W3 := by rw [hW3]; exact (Chg.refl [] _).alloc _
    have hP : MapB W3 W2.heap.size .i64 (fun _ => none) := by rw [hW3]; exact MapB.new _ _
    have gP : w.heap.size ≤ W2.heap.size := hS2.size
    have lP : W2.heap.size < W3.heap.size := hP.lt
    have hS3 : Chg [] w W3 := hS2.stay hc3
    try rw [← hW3]
    clear hW3
    refine hK _ _ hS3 ?_
    clear hK K
    replace hA := hA.stay hc3
    replace hQ := hQ.stay hc3
    have HA := hide hA
    have HP := hide hP
    have HQ := hide hQ
    have HG := hide (And.intro gA (And.intro gP gQ))
    have HNE := hide (show W2.heap.size ≠ W1.heap.size by have := hc1.size; have := hc2.size; have := hc3.size; omega)
    have HBP := hide (bp_new W0.heap.size W2.heap.size W1.heap.size)
    have HMP := hide (MapB.stay HI.out.mp hS3)
    have HS3 := hide hS3
    clear hA hP hQ gA gP gQ lP lQ hS hS1 hS2 hS3 hc1 hc2 hc3
    go_wp2_with (first | (refine wpG_keeps HS3.out (fun K hK => ?_); refine wp_boxPr _ rfl rfl ?_; refine hK _ _ (HS3.out.alloc _) ?_; clear hK K) | (refine wpG_calc rfl (fun K hK => ?_); refine wp_buildPr _ rfl HBP.out ?_ ?_; (focus (simp [Act.eval]; done)); refine hK _ _ ?_; clear hK K) | (refine wpG_deed (by decide) (fun K hK => ?_); refine wp_update _ _ _ rfl Tryz.underlying58 Tryz.underlying3 rfl rfl rfl (MapB.stay HMP.out ((Chg.refl [] W3).alloc _)) ?_; intro W5 h5 hc5; refine hK _ _ ?_; clear hK K) | (refine wpG_calc rfl (fun K hK => ?_)) | (refine wpG_skip ?_ ?_; (focus (simp [wantG]; done)); go_simp) | (refine wpG_take ?_ ?_; (focus (simp [wantG]; done))) | (refine wpG_pure (fun K hK => ?_); go_simp; refine hK _ _ ?_; clear hK K) | (refine wpG_deed (by decide) (fun K hK => ?_); go_simp) | (refine wpG_nil ?_))
    go_end0
    exact ⟨rfl, HEND.out _ _ HS3.out _ _ _ HA.out HP.out HQ.out HNE.out HG.out.1 HG.out.2.1 HG.out.2.2 h5 hc5⟩
  · simp only [picks, List.filterMap_cons, List.filterMap_nil, List.getElem?_cons_succ, List.getElem?_cons_zero]
    go_wp2_with (first | (refine wpG_hload 30 _ rfl rfl (fun w' hw' => load_ptr Tryz.underlying30 (by simpa using (Blk.chg H1.out hw' List.not_mem_nil).cell 0)) hS ?_) | (refine wpG_hload 58 _ rfl rfl (fun w' hw' => load_map Tryz.underlying58 (mo_cells (Blk.chg HI.out.blk hw' List.not_mem_nil)).1) hS ?_) | (refine wpG_hload 3 _ rfl rfl (fun w' hw' => load_int Tryz.underlying3 (by simpa using (Blk.chg H4.out hw' List.not_mem_nil).cell 0)) hS ?_) | (refine wpG_calc rfl (fun K hK => ?_)) | (refine wpG_skip ?_ ?_; (focus (simp [wantG]; done)); go_simp) | (refine wpG_take ?_ ?_; (focus (simp [wantG]; done))) | (refine wpG_pure (fun K hK => ?_); go_simp; refine hK _ _ ?_; clear hK K) | (refine wpG_deed (by decide) (fun K hK => ?_); go_simp) | (refine wpG_nil ?_))
    (refine wpG_keeps hS (fun K hK => ?_))
    go_simp
    obtain ⟨W1, hW1⟩ : ∃ W, W = W0.alloc (.map #[] 0) := ⟨_, rfl⟩
    have hc1 : Chg [] W0 W1 := by rw [hW1]; exact (Chg.refl [] _).alloc _
    have hP : MapB W1 W0.heap.size .i64 (fun _ => none) := by rw [hW1]; exact MapB.new _ _
    have gP : w.heap.size ≤ W0.heap.size := hS.size
    have lP : W0.heap.size < W1.heap.size := hP.lt
    have hS1 : Chg [] w W1 := hS.stay hc1
    try rw [← hW1]
    clear hW1
    refine hK _ _ hS1 ?_
    clear hK K
    (refine wpG_keeps hS1 (fun K hK => ?_))
    go_simp
    refine (Ar.new_any W1).mono ?_
    rintro e W2 ⟨rfl, hA, hc2⟩
    have hS2 : Chg [] w W2 := hS1.stay hc2
    have gA : w.heap.size ≤ W1.heap.size := hS1.size
    refine hK _ _ hS2 ?_
    clear hK K
    replace hP := hP.stay hc2
    (refine wpG_keeps hS2 (fun K hK => ?_))
    go_simp
    obtain ⟨W3, hW3⟩ : ∃ W, W = W2.alloc (.map #[] 0) := ⟨_, rfl⟩
    have hc3 : Chg [] W2 W3 := by rw [hW3]; exact (Chg.refl [] _).alloc _
    have hQ : MapB W3 W2.heap.size .i64 (fun _ => none) := by rw [hW3]; exact MapB.new _ _
    have gQ : w.heap.size ≤ W2.heap.size := hS2.size
    have lQ : W2.heap.size < W3.heap.size := hQ.lt
    have hS3 : Chg [] w W3 := hS2.stay hc3
    try rw [← hW3]
    clear hW3
    refine hK _ _ hS3 ?_
    clear hK K
    replace hP := hP.stay hc3
    replace hA := hA.stay hc3
    have HA := hide hA
    have HP := hide hP
    have HQ := hide hQ
    have HG := hide (And.intro gA (And.intro gP gQ))
    have HNE := hide (show W0.heap.size ≠ W2.heap.size by have := hc1.size; have := hc2.size; have := hc3.size; omega)
    have HBP := hide (bp_new W1.heap.size W0.heap.size W2.heap.size)
    have HMP := hide (MapB.stay HI.out.mp hS3)
    have HS3 := hide hS3
    clear hA hP hQ gA gP gQ lP lQ hS hS1 hS2 hS3 hc1 hc2 hc3
    go_wp2_with (first | (refine wpG_keeps HS3.out (fun K hK => ?_); refine wp_boxPr _ rfl rfl ?_; refine hK _ _ (HS3.out.alloc _) ?_; clear hK K) | (refine wpG_calc rfl (fun K hK => ?_); refine wp_buildPr _ rfl HBP.out ?_ ?_; (focus (simp [Act.eval]; done)); refine hK _ _ ?_; clear hK K) | (refine wpG_deed (by decide) (fun K hK => ?_); refine wp_update _ _ _ rfl Tryz.underlying58 Tryz.underlying3 rfl rfl rfl (MapB.stay HMP.out ((Chg.refl [] W3).alloc _)) ?_; intro W5 h5 hc5; refine hK _ _ ?_; clear hK K) | (refine wpG_calc rfl (fun K hK => ?_)) | (refine wpG_skip ?_ ?_; (focus (simp [wantG]; done)); go_simp) | (refine wpG_take ?_ ?_; (focus (simp [wantG]; done))) | (refine wpG_pure (fun K hK => ?_); go_simp; refine hK _ _ ?_; clear hK K) | (refine wpG_deed (by decide) (fun K hK => ?_); go_simp) | (refine wpG_nil ?_))
    go_end0
    exact ⟨rfl, HEND.out _ _ HS3.out _ _ _ HA.out HP.out HQ.out HNE.out HG.out.1 HG.out.2.1 HG.out.2.2 h5 hc5⟩
  · simp only [picks, List.filterMap_cons, List.filterMap_nil, List.getElem?_cons_succ, List.getElem?_cons_zero]
    go_wp2_with (first | (refine wpG_hload 30 _ rfl rfl (fun w' hw' => load_ptr Tryz.underlying30 (by simpa using (Blk.chg H1.out hw' List.not_mem_nil).cell 0)) hS ?_) | (refine wpG_hload 58 _ rfl rfl (fun w' hw' => load_map Tryz.underlying58 (mo_cells (Blk.chg HI.out.blk hw' List.not_mem_nil)).1) hS ?_) | (refine wpG_hload 3 _ rfl rfl (fun w' hw' => load_int Tryz.underlying3 (by simpa using (Blk.chg H4.out hw' List.not_mem_nil).cell 0)) hS ?_) | (refine wpG_calc rfl (fun K hK => ?_)) | (refine wpG_skip ?_ ?_; (focus (simp [wantG]; done)); go_simp) | (refine wpG_take ?_ ?_; (focus (simp [wantG]; done))) | (refine wpG_pure (fun K hK => ?_); go_simp; refine hK _ _ ?_; clear hK K) | (refine wpG_deed (by decide) (fun K hK => ?_); go_simp) | (refine wpG_nil ?_))
    (refine wpG_keeps hS (fun K hK => ?_))
    go_simp
    obtain ⟨W1, hW1⟩ : ∃ W, W = W0.alloc (.map #[] 0) := ⟨_, rfl⟩
    have hc1 : Chg [] W0 W1 := by rw [hW1]; exact (Chg.refl [] _).alloc _
    have hP : MapB W1 W0.heap.size .i64 (fun _ => none) := by rw [hW1]; exact MapB.new _ _
    have gP : w.heap.size ≤ W0.heap.size := hS.size
    have lP : W0.heap.size < W1.heap.size := hP.lt
    have hS1 : Chg [] w W1 := hS.stay hc1
    try rw [← hW1]
    clear hW1
    refine hK _ _ hS1 ?_
    clear hK K
    (refine wpG_keeps hS1 (fun K hK => ?_))
    go_simp
    obtain ⟨W2, hW2⟩ : ∃ W, W = W1.alloc (.map #[] 0) := ⟨_, rfl⟩
    have hc2 : Chg [] W1 W2 := by rw [hW2]; exact (Chg.refl [] _).alloc _
    have hQ : MapB W2 W1.heap.size .i64 (fun _ => none) := by rw [hW2]; exact MapB.new _ _
    have gQ : w.heap.size ≤ W1.heap.size := hS1.size
    have lQ : W1.heap.size < W2.heap.size := hQ.lt
    have hS2 : Chg [] w W2 := hS1.stay hc2
    try rw [← hW2]
    clear hW2
    refine hK _ _ hS2 ?_
    clear hK K
    replace hP := hP.stay hc2
    (refine wpG_keeps hS2 (fun K hK => ?_))
    go_simp
    refine (Ar.new_any W2).mono ?_
    rintro e W3 ⟨rfl, hA, hc3⟩
    have hS3 : Chg [] w W3 := hS2.stay hc3
    have gA : w.heap.size ≤ W2.heap.size := hS2.size
    refine hK _ _ hS3 ?_
    clear hK K
    replace hP := hP.stay hc3
    replace hQ := hQ.stay hc3
    have HA := hide hA
    have HP := hide hP
    have HQ := hide hQ
    have HG := hide (And.intro gA (And.intro gP gQ))
    have HNE := hide (show W0.heap.size ≠ W1.heap.size by have := hc1.size; have := hc2.size; have := hc3.size; omega)
    have HBP := hide (bp_new W2.heap.size W0.heap.size W1.heap.size)
    have HMP := hide (MapB.stay HI.out.mp hS3)
    have HS3 := hide hS3
    clear hA hP hQ gA gP gQ lP lQ hS hS1 hS2 hS3 hc1 hc2 hc3
    go_wp2_with (first | (refine wpG_keeps HS3.out (fun K hK => ?_); refine wp_boxPr _ rfl rfl ?_; refine hK _ _ (HS3.out.alloc _) ?_; clear hK K) | (refine wpG_calc rfl (fun K hK => ?_); refine wp_buildPr _ rfl HBP.out ?_ ?_; (focus (simp [Act.eval]; done)); refine hK _ _ ?_; clear hK K) | (refine wpG_deed (by decide) (fun K hK => ?_); refine wp_update _ _ _ rfl Tryz.underlying58 Tryz.underlying3 rfl rfl rfl (MapB.stay HMP.out ((Chg.refl [] W3).alloc _)) ?_; intro W5 h5 hc5; refine hK _ _ ?_; clear hK K) | (refine wpG_calc rfl (fun K hK => ?_)) | (refine wpG_skip ?_ ?_; (focus (simp [wantG]; done)); go_simp) | (refine wpG_take ?_ ?_; (focus (simp [wantG]; done))) | (refine wpG_pure (fun K hK => ?_); go_simp; refine hK _ _ ?_; clear hK K) | (refine wpG_deed (by decide) (fun K hK => ?_); go_simp) | (refine wpG_nil ?_))
    go_end0
    exact ⟨rfl, HEND.out _ _ HS3.out _ _ _ HA.out HP.out HQ.out HNE.out HG.out.1 HG.out.2.1 HG.out.2.2 h5 hc5⟩
  · simp only [picks, List.filterMap_cons, List.filterMap_nil, List.getElem?_cons_succ, List.getElem?_cons_zero]
    go_wp2_with (first | (refine wpG_hload 30 _ rfl rfl (fun w' hw' => load_ptr Tryz.underlying30 (by simpa using (Blk.chg H1.out hw' List.not_mem_nil).cell 0)) hS ?_) | (refine wpG_hload 58 _ rfl rfl (fun w' hw' => load_map Tryz.underlying58 (mo_cells (Blk.chg HI.out.blk hw' List.not_mem_nil)).1) hS ?_) | (refine wpG_hload 3 _ rfl rfl (fun w' hw' => load_int Tryz.underlying3 (by simpa using (Blk.chg H4.out hw' List.not_mem_nil).cell 0)) hS ?_) | (refine wpG_calc rfl (fun K hK => ?_)) | (refine wpG_skip ?_ ?_; (focus (simp [wantG]; done)); go_simp) | (refine wpG_take ?_ ?_; (focus (simp [wantG]; done))) | (refine wpG_pure (fun K hK => ?_); go_simp; refine hK _ _ ?_; clear hK K) | (refine wpG_deed (by decide) (fun K hK => ?_); go_simp) | (refine wpG_nil ?_))
    (refine wpG_keeps hS (fun K hK => ?_))
    go_simp
    obtain ⟨W1, hW1⟩ : ∃ W, W = W0.alloc (.map #[] 0) := ⟨_, rfl⟩
    have hc1 : Chg [] W0 W1 := by rw [hW1]; exact (Chg.refl [] _).alloc _
    have hQ : MapB W1 W0.heap.size .i64 (fun _ => none) := by rw [hW1]; exact MapB.new _ _
    have gQ : w.heap.size ≤ W0.heap.size := hS.size
    have lQ : W0.heap.size < W1.heap.size := hQ.lt
    have hS1 : Chg [] w W1 := hS.stay hc1
    try rw [← hW1]
    clear hW1
    refine hK _ _ hS1 ?_
    clear hK K
    (refine wpG_keeps hS1 (fun K hK => ?_))
    go_simp
    refine (Ar.new_any W1).mono ?_
    rintro e W2 ⟨rfl, hA, hc2⟩
    have hS2 : Chg [] w W2 := hS1.stay hc2
    have gA : w.heap.size ≤ W1.heap.size := hS1.size
    refine hK _ _ hS2 ?_
    clear hK K
    replace hQ := hQ.stay hc2
    (refine wpG_keeps hS2 (fun K hK => ?_))
    go_simp
    obtain ⟨W3, hW3⟩ : ∃ W, W = W2.alloc (.map #[] 0) := ⟨_, rfl⟩
    have hc3 : Chg [] W2 W3 := by rw [hW3]; exact (Chg.refl [] _).alloc _
    have hP : MapB W3 W2.heap.size .i64 (fun _ => none) := by rw [hW3]; exact MapB.new _ _
    have gP : w.heap.size ≤ W2.heap.size := hS2.size
    have lP : W2.heap.size < W3.heap.size := hP.lt
    have hS3 : Chg [] w W3 := hS2.stay hc3
    try rw [← hW3]
    clear hW3
    refine hK _ _ hS3 ?_
    clear hK K
    replace hQ := hQ.stay hc3
    replace hA := hA.stay hc3
    have HA := hide hA
    have HP := hide hP
    have HQ := hide hQ
    have HG := hide (And.intro gA (And.intro gP gQ))
    have HNE := hide (show W2.heap.size ≠ W0.heap.size by have := hc1.size; have := hc2.size; have := hc3.size; omega)
    have HBP := hide (bp_new W1.heap.size W2.heap.size W0.heap.size)
    have HMP := hide (MapB.stay HI.out.mp hS3)
    have HS3 := hide hS3
    clear hA hP hQ gA gP gQ lP lQ hS hS1 hS2 hS3 hc1 hc2 hc3
    go_wp2_with (first | (refine wpG_keeps HS3.out (fun K hK => ?_); refine wp_boxPr _ rfl rfl ?_; refine hK _ _ (HS3.out.alloc _) ?_; clear hK K) | (refine wpG_calc rfl (fun K hK => ?_); refine wp_buildPr _ rfl HBP.out ?_ ?_; (focus (simp [Act.eval]; done)); refine hK _ _ ?_; clear hK K) | (refine wpG_deed (by decide) (fun K hK => ?_); refine wp_update _ _ _ rfl Tryz.underlying58 Tryz.underlying3 rfl rfl rfl (MapB.stay HMP.out ((Chg.refl [] W3).alloc _)) ?_; intro W5 h5 hc5; refine hK _ _ ?_; clear hK K) | (refine wpG_calc rfl (fun K hK => ?_)) | (refine wpG_skip ?_ ?_; (focus (simp [wantG]; done)); go_simp) | (refine wpG_take ?_ ?_; (focus (simp [wantG]; done))) | (refine wpG_pure (fun K hK => ?_); go_simp; refine hK _ _ ?_; clear hK K) | (refine wpG_deed (by decide) (fun K hK => ?_); go_simp) | (refine wpG_nil ?_))
    go_end0
    exact ⟨rfl, HEND.out _ _ HS3.out _ _ _ HA.out HP.out HQ.out HNE.out HG.out.1 HG.out.2.1 HG.out.2.2 h5 hc5⟩
  · simp only [picks, List.filterMap_cons, List.filterMap_nil, List.getElem?_cons_succ, List.getElem?_cons_zero]
    go_wp2_with (first | (refine wpG_hload 30 _ rfl rfl (fun w' hw' => load_ptr Tryz.underlying30 (by simpa using (Blk.chg H1.out hw' List.not_mem_nil).cell 0)) hS ?_) | (refine wpG_hload 58 _ rfl rfl (fun w' hw' => load_map Tryz.underlying58 (mo_cells (Blk.chg HI.out.blk hw' List.not_mem_nil)).1) hS ?_) | (refine wpG_hload 3 _ rfl rfl (fun w' hw' => load_int Tryz.underlying3 (by simpa using (Blk.chg H4.out hw' List.not_mem_nil).cell 0)) hS ?_) | (refine wpG_calc rfl (fun K hK => ?_)) | (refine wpG_skip ?_ ?_; (focus (simp [wantG]; done)); go_simp) | (refine wpG_take ?_ ?_; (focus (simp [wantG]; done))) | (refine wpG_pure (fun K hK => ?_); go_simp; refine hK _ _ ?_; clear hK K) | (refine wpG_deed (by decide) (fun K hK => ?_); go_simp) | (refine wpG_nil ?_))
    (refine wpG_keeps hS (fun K hK => ?_))
    go_simp
    obtain ⟨W1, hW1⟩ : ∃ W, W = W0.alloc (.map #[] 0) := ⟨_, rfl⟩
    have hc1 : Chg [] W0 W1 := by rw [hW1]; exact (Chg.refl [] _).alloc _
    have hQ : MapB W1 W0.heap.size .i64 (fun _ => none) := by rw [hW1]; exact MapB.new _ _
    have gQ : w.heap.size ≤ W0.heap.size := hS.size
    have lQ : W0.heap.size < W1.heap.size := hQ.lt
    have hS1 : Chg [] w W1 := hS.stay hc1
    try rw [← hW1]
    clear hW1
    refine hK _ _ hS1 ?_
    clear hK K
    (refine wpG_keeps hS1 (fun K hK => ?_))
    go_simp
    obtain ⟨W2, hW2⟩ : ∃ W, W = W1.alloc (.map #[] 0) := ⟨_, rfl⟩
    have hc2 : Chg [] W1 W2 := by rw [hW2]; exact (Chg.refl [] _).alloc _
    have hP : MapB W2 W1.heap.size .i64 (fun _ => none) := by rw [hW2]; exact MapB.new _ _
    have gP : w.heap.size ≤ W1.heap.size := hS1.size
    have lP : W1.heap.size < W2.heap.size := hP.lt
    have hS2 : Chg [] w W2 := hS1.stay hc2
    try rw [← hW2]
    clear hW2
    refine hK _ _ hS2 ?_
    clear hK K
    replace hQ := hQ.stay hc2
    (refine wpG_keeps hS2 (fun K hK => ?_))
    go_simp
    refine (Ar.new_any W2).mono ?_
    rintro e W3 ⟨rfl, hA, hc3⟩
    have hS3 : Chg [] w W3 := hS2.stay hc3
    have gA : w.heap.size ≤ W2.heap.size := hS2.size
    refine hK _ _ hS3 ?_
    clear hK K
    replace hQ := hQ.stay hc3
    replace hP := hP.stay hc3
    have HA := hide hA
    have HP := hide hP
    have HQ := hide hQ
    have HG := hide (And.intro gA (And.intro gP gQ))
    have HNE := hide (show W1.heap.size ≠ W0.heap.size by have := hc1.size; have := hc2.size; have := hc3.size; omega)
    have HBP := hide (bp_new W2.heap.size W1.heap.size W0.heap.size)
    have HMP := hide (MapB.stay HI.out.mp hS3)
    have HS3 := hide hS3
    clear hA hP hQ gA gP gQ lP lQ hS hS1 hS2 hS3 hc1 hc2 hc3
    go_wp2_with (first | (refine wpG_keeps HS3.out (fun K hK => ?_); refine wp_boxPr _ rfl rfl ?_; refine hK _ _ (HS3.out.alloc _) ?_; clear hK K) | (refine wpG_calc rfl (fun K hK => ?_); refine wp_buildPr _ rfl HBP.out ?_ ?_; (focus (simp [Act.eval]; done)); refine hK _ _ ?_; clear hK K) | (refine wpG_deed (by decide) (fun K hK => ?_); refine wp_update _ _ _ rfl Tryz.underlying58 Tryz.underlying3 rfl rfl rfl (MapB.stay HMP.out ((Chg.refl [] W3).alloc _)) ?_; intro W5 h5 hc5; refine hK _ _ ?_; clear hK K) | (refine wpG_calc rfl (fun K hK => ?_)) | (refine wpG_skip ?_ ?_; (focus (simp [wantG]; done)); go_simp) | (refine wpG_take ?_ ?_; (focus (simp [wantG]; done))) | (refine wpG_pure (fun K hK => ?_); go_simp; refine hK _ _ ?_; clear hK K) | (refine wpG_deed (by decide) (fun K hK => ?_); go_simp) | (refine wpG_nil ?_))
    go_end0
    exact ⟨rfl, HEND.out _ _ HS3.out _ _ _ HA.out HP.out HQ.out HNE.out HG.out.1 HG.out.2.1 HG.out.2.2 h5 hc5⟩
end Go.Proofs.YtfoleblcaloeoaaGreatDoor
