/- Copy, Mark. -/
import Derived.Test.YtblkfikcfgocgaaFrM
namespace Go.Proofs.Ytblkfikcfgocgaa
open Go Go.RowKit

/-- append onto nothing, of something: a new block, from its head on -/
theorem run_append_new {P : Program} {w : World} {t ty e : TypeId} {i : TypeInfo} {z : Value} {size bytes : Nat} (ht : P.underlying t = some (.slice e)) (hi : P.info? e = some i) (hz : i.zero = some z)
    (hsize : i.size = size) (hby : i.bytes = bytes) (hzs : z.cells.size = size) {a0 : Option Addr} {x : Value} {m : Nat} {news : List Value} (hx : Rd w size x m news) (hpos : 0 < m) (h63 : m ≤ maxLen) (hbytes : m * bytes ≤ 140737488355328) :
    ∃ c w', (Builtin.append_ #[t, t] ty #[.slice a0 0 0, x]).run P w = .ok (.slice (some ⟨w.heap.size, 0, none⟩) m c) w' ∧ Sl w' e size (.slice (some ⟨w.heap.size, 0, none⟩) m c) m news ∧ Chg [] w w' := by
  subst hsize
  subst hby
  have hsmall : m ≤ 9223372036854775807 := by simp only [maxLen] at h63; omega
  obtain ⟨hxl, A, c, rfl, hmc, hxa⟩ := hx
  obtain ⟨g, off, rfl, hc⟩ := hxa hpos
  have hfx : (Builtin.firstCells i.size m (.slice (some ⟨g, off, none⟩) m c)).run P w.drew = .ok news.toArray w.drew :=
    run_firstCells_some (P := P) w.drew i.size m _ m c news hxl (fun j u hu => by rw [Addr.add_lit]; exact hc j u hu)
  have hge := grownCap_ge w m 0 e
  have hcm : grownCap w m 0 e ≤ maxLen := grownCap_le_maxLen w m 0 e h63
  refine ⟨grownCap w m 0 e, w.drew.alloc (.cells (#[] ++ news.toArray ++ Builtin.zeroCells z.cells (grownCap w m 0 e - m)) e), ?_, ?_, ((Chg.refl [] w).drew).alloc _⟩
  · have hn : ¬ (m = 0) := by omega
    have h63' : ¬ (9223372036854775807 < (m : Int)) := by omega
    have h48' : ¬ (281474976710656 < Builtin.nextslicecap m 0 * i.bytes) := by rw [nextslicecap_zero hpos]; omega
    have hf0 : (Builtin.firstCells i.size 0 (.slice a0 0 0)).run P w.drew = .ok #[] w.drew := by
      cases a0 with
      | none => simp [Builtin.firstCells]
      | some a => simpa using run_firstCells_some (P := P) w.drew i.size 0 a 0 0 [] (by simp) (by simp)
    simp [Builtin.append_, run_underlying ht, sizeOf, typeInfo, zeroValue, hi, hz, Builtin.lenOf, hn, h63', h48', Question.forced, hf0, hfx, newRow, grownCap]
  · refine ⟨hxl, .inr ⟨w.heap.size, 0, _, _, rfl, heap_alloc_new w.drew _, hge, hcm, ?_, ?_⟩⟩
    · simp only [Array.size_append, List.size_toArray, size_zeroCells, hzs, hxl, List.length_nil]
      have : m * i.size + (grownCap w m 0 e - m) * i.size = grownCap w m 0 e * i.size := by rw [← Nat.add_mul]; congr 1; omega
      omega
    · rw [← hxl]
      simp
theorem wpList_append_runs {ops : Array Oper} {rest : List Oper} {o : Oper} {a : Act} {w w' : World} {Q : Exit → Act → World → Prop} (hg : o.guard = none) (s x : Operand) (ts : Array TypeId)
    (ho : o.op = .call { callee := .builtin .append, args := #[s, x], argTypes := ts }) {v y u : Value} (hs : a.eval s = v) (hx : a.eval x = y)
    (hrun : (Builtin.append_ ts o.type #[v, y]).run Try.prog w = .ok u w') (h : wpList Try.prog ops Q rest (a.put o.dst u) w') : wpList Try.prog ops Q (o :: rest) a w :=
  wpList_plain hg fun K hK => by
    unfold Oper.wp execOp
    simp only [ho, resolve, invoke, builtin, Sem.run_bind, Sem.run_pure, Result.andThen_ok, List.map_toArray, List.map_cons, List.map_nil, hs, hx, hrun]
    exact hK _ _ h
set_option maxHeartbeats 1000000 in
theorem clonem_new {w : World} {a0 : Addr} {n c : Nat} {l : List Mk} (hl : RE mcl 5 w (.slice (some a0) n c) l) (h0 : 0 < l.length) (hlen : l.length ≤ 1000000) : Calls Try.prog 45 #[.slice (some a0) n c] w fun e w' => (∃ g k, e = .returned (.slice (some ⟨g, 0, none⟩) l.length k) ∧ SE mcl 5 43 w' (.slice (some ⟨g, 0, none⟩) l.length k) l ∧ w.heap.size ≤ g) ∧ Chg [] w w' := by
  have hne : ∀ W : World, (binOp .eql 77 (.slice (some a0) n c) (.slice none 0 0)).run Try.prog W = .ok (.bool false) W := fun W => Lib.run_eql_slice_nil W 77 43 _ _ _ 0 0 Try.underlying77
  have HL := hide (RE.stay hl ((Chg.refl [] w).alloc (.cells #[] 43)))
  obtain ⟨i5, hi, hz, hi1, hi2⟩ := info_parts info43
  obtain ⟨k, w', hr, hs, hc⟩ := run_append_new (P := Try.prog) (ty := 77) (a0 := some ⟨w.heap.size, 0, none⟩) Try.underlying77 hi hz hi1 hi2 rfl HL.out h0 (by unfold maxLen; omega) (by omega)
  rw [World.size_alloc] at hr hs
  have HR := hide hr
  have hn := rlen_eq hl
  subst hn
  clear hl hr hi hz hi1 hi2
  go_enter Try.func45, Try.ntmps45
  go_wp2_with (at_builtin; refine wpList_append_runs rfl _ _ _ rfl rfl rfl HR.out ?_)
  go_ret
  exact ⟨⟨_, k, rfl, hs, by simp⟩, ((Chg.refl [] w).alloc _).stay hc⟩
set_option maxHeartbeats 1000000 in
theorem cloneb_new {w : World} {a0 : Addr} {n c : Nat} {l : List Nat} (hl : RE ucl 1 w (.slice (some a0) n c) l) (h0 : 0 < l.length) (hlen : l.length ≤ 1000000) : Calls Try.prog 40 #[.slice (some a0) n c] w fun e w' => (∃ g k, e = .returned (.slice (some ⟨g, 0, none⟩) l.length k) ∧ SE ucl 1 5 w' (.slice (some ⟨g, 0, none⟩) l.length k) l ∧ w.heap.size ≤ g) ∧ Chg [] w w' := by
  have hne : ∀ W : World, (binOp .eql 27 (.slice (some a0) n c) (.slice none 0 0)).run Try.prog W = .ok (.bool false) W := fun W => Lib.run_eql_slice_nil W 27 5 _ _ _ 0 0 Try.underlying27
  have HL := hide (RE.stay hl ((Chg.refl [] w).alloc (.cells #[] 5)))
  obtain ⟨i5, hi, hz, hi1, hi2⟩ := info_parts info5b
  obtain ⟨k, w', hr, hs, hc⟩ := run_append_new (P := Try.prog) (ty := 27) (a0 := some ⟨w.heap.size, 0, none⟩) Try.underlying27 hi hz hi1 hi2 rfl HL.out h0 (by unfold maxLen; omega) (by omega)
  rw [World.size_alloc] at hr hs
  have HR := hide hr
  have hn := rlen_eq hl
  subst hn
  clear hl hr hi hz hi1 hi2
  go_enter Try.func40, Try.ntmps40
  go_wp2_with (at_builtin; refine wpList_append_runs rfl _ _ _ rfl rfl rfl HR.out ?_)
  go_ret
  exact ⟨⟨_, k, rfl, hs, by simp⟩, ((Chg.refl [] w).alloc _).stay hc⟩
theorem load26c {w : World} {b : Nat} {c : Cf} (h : w.rangeAt b 0 (cg c).toList) : (loadVar 26 ⟨b, 0, none⟩).run Try.prog w = .ok (.agg (cg c)) w := by
  have := run_loadVar_mid (P := Try.prog) w b 0 26 (cg c).toList _ h Try.underlying26 rfl (by rw [info26, Array.length_toList, cg_size])
  rwa [Array.toArray_toList] at this
set_option maxRecDepth 20000 in
set_option maxHeartbeats 4000000 in
theorem Copy_any {w : World} {a gb gm : Nat} {c : Cf} {n : Nat} {B : List Nat} {M : List Mk} (h : FM w a gb gm c n B M) :
    Calls Try.prog 21 #[.pointer (some ⟨a, 0, none⟩)] w fun e w' => (∃ a' gb' gm' : Nat, e = .returned (.pointer (some ⟨a', 0, none⟩)) ∧ FM w' a' gb' gm' c n B M ∧ w.heap.size ≤ a' ∧ w.heap.size ≤ gb' ∧ w.heap.size ≤ gm') ∧ Chg [] w w' := by
  have HR := hide (ready_any h)
  obtain ⟨cb, cm, hblk, hsb, hsm⟩ := h.o
  have q94 : w.cell? ⟨a, 94, none⟩ = some (.slice (some ⟨gb, 0, none⟩) (n * 256) cb) := (hblk.cell 94).trans (mg_94 ..)
  have q95 : w.cell? ⟨a, 95, none⟩ = some (.slice (some ⟨gm, 0, none⟩) n cm) := (hblk.cell 95).trans (mg_95 ..)
  have HRA := hide (mg_rangeAt hblk)
  have HB := hide hsb
  have HM := hide hsm
  have HQ94 := hide q94
  have HQ95 := hide q95
  have n1 := h.n1
  have n2 := h.n2
  have hlb := h.lb
  have hlm := h.lm
  have HLB := hide hlb
  have HLM := hide hlm
  have HF := hide h
  have hal := h.lt.1
  clear hblk hsb hsm q94 q95 hlb hlm h
  go_enter Try.func21, Try.ntmps21
  go_wp2_with fail
  refine HR.out.mono ?_
  rintro e w' ⟨rfl, rfl⟩
  go_wp2_with fail
  refine wp_region_t [0, 0, 0, 5, 0, 0, 0, 5, 6, 0, 0, 0, 5, 6, 0, 6, 0] [none, none, none, none, none, none, none, none, none, none, none, none, none, none, none, none, none] (fun W => Chg [] w W) (by kernel_rfl) (by kernel_rfl) (by kernel_rfl) ?_
  have hS0 : Chg [] w w.drew := (Chg.refl _ _).drew
  go_wp2_with (first | (refine wpG_hload 26 _ rfl rfl (fun w' hw' => load26c (fun j u hu => hw'.cell (HRA.out j u hu) List.not_mem_nil)) hS0 ?_) | (refine wpG_hload 27 _ rfl rfl (fun w' hw' => load_slice Try.underlying27 (hw'.cell HQ94.out List.not_mem_nil)) hS0 ?_; go_simp) | (refine wpG_calc rfl (fun K hK => ?_)) | (refine wpG_skip ?_ ?_; (focus (simp [wantG]; done)); go_simp) | (refine wpG_take ?_ ?_; (focus (simp [wantG]; done))) | (refine wpG_pure (fun K hK => ?_); go_simp; refine hK _ _ ?_; clear hK K) | (refine wpG_deed (by decide) (fun K hK => ?_); go_simp) | (refine wpG_nil ?_))
  refine wpG_keeps hS0 (fun K hK => ?_)
  go_simp
  refine (cloneb_new (w := w.drew) (HB.out.stay hS0).re (by rw [HLB.out]; omega) (by rw [HLB.out]; omega)).mono ?_
  rintro e W2 ⟨⟨gb', kb, rfl, hs2, hg2⟩, hc2⟩
  have hS2 : Chg [] w W2 := hS0.stay hc2
  refine hK _ _ hS2 ?_
  clear hK K
  rw [HLB.out] at hs2 ⊢
  have HS2 := hide hs2
  have HG2 := hide hg2
  clear hs2 hg2 hc2 hS0
  go_wp2_with (first | (refine wpG_hload 77 _ rfl rfl (fun w' hw' => load_slice Try.underlying77 (hw'.cell HQ95.out List.not_mem_nil)) hS2 ?_; go_simp) | (refine wpG_calc rfl (fun K hK => ?_)) | (refine wpG_skip ?_ ?_; (focus (simp [wantG]; done)); go_simp) | (refine wpG_take ?_ ?_; (focus (simp [wantG]; done))) | (refine wpG_pure (fun K hK => ?_); go_simp; refine hK _ _ ?_; clear hK K) | (refine wpG_deed (by decide) (fun K hK => ?_); go_simp) | (refine wpG_nil ?_))
  refine wpG_keeps hS2 (fun K hK => ?_)
  go_simp
  refine (clonem_new (w := W2) (HM.out.stay hS2).re (by rw [HLM.out]; omega) (by rw [HLM.out]; omega)).mono ?_
  rintro e W3 ⟨⟨gm', km, rfl, hs3, hg3⟩, hc3⟩
  have hS3 : Chg [] w W3 := hS2.stay hc3
  refine hK _ _ hS3 ?_
  clear hK K
  rw [HLM.out] at hs3 ⊢
  have HS3 := hide hs3
  have HB3 := hide (HS2.out.stay hc3)
  have HG3 := hide (Nat.le_trans hS2.size hg3)
  clear hs3 hg3 hc3 hS2 HS2
  go_wp2_with (first | (refine wpG_build79 _ rfl ?_ (built_mem c (some ⟨gb', 0, none⟩) (n * 256) kb (some ⟨gm', 0, none⟩) n km).h ?_; (focus (simp [Act.eval]; done))) | (refine wpG_calc rfl (fun K hK => ?_)) | (refine wpG_skip ?_ ?_; (focus (simp [wantG]; done)); go_simp) | (refine wpG_take ?_ ?_; (focus (simp [wantG]; done))) | (refine wpG_pure (fun K hK => ?_); go_simp; refine hK _ _ ?_; clear hK K) | (refine wpG_deed (by decide) (fun K hK => ?_); go_simp) | (refine wpG_nil ?_))
  (refine wpG_keeps hS3 (fun K hK => ?_))
  go_simp
  refine hK _ _ (hS3.alloc _) ?_
  clear hK K
  have HFF := hide (show FM (W3.alloc (.cells (mg c (.slice (some ⟨gb', 0, none⟩) (n * 256) kb) (.slice (some ⟨gm', 0, none⟩) n km)) 79)) W3.heap.size gb' gm' c n B M from
    ⟨⟨kb, km, Blk.new _ _ _, HB3.out.stay ((Chg.refl [] _).alloc _), HS3.out.stay ((Chg.refl [] _).alloc _)⟩, HF.out.n1, HF.out.n2, HF.out.b8, HF.out.mc, HF.out.tn⟩)
  have HZ := hide hS3.size
  have HCZ := hide (hS3.alloc (.cells (mg c (.slice (some ⟨gb', 0, none⟩) (n * 256) kb) (.slice (some ⟨gm', 0, none⟩) n km)) 79))
  clear hS3
  go_wp2_with (first | fail | (refine wpG_calc rfl (fun K hK => ?_)) | (refine wpG_skip ?_ ?_; (focus (simp [wantG]; done)); go_simp) | (refine wpG_take ?_ ?_; (focus (simp [wantG]; done))) | (refine wpG_pure (fun K hK => ?_); go_simp; refine hK _ _ ?_; clear hK K) | (refine wpG_deed (by decide) (fun K hK => ?_); go_simp) | (refine wpG_nil ?_))
  go_ret
  exact ⟨⟨_, gb', gm', rfl, HFF.out, HZ.out, HG2.out, HG3.out⟩, HCZ.out⟩
set_option maxRecDepth 20000 in
set_option maxHeartbeats 4000000 in
theorem Mark_in {w : World} {a gb gm : Nat} {c : Cf} {n : Nat} {B : List Nat} {M : List Mk} (h : FM w a gb gm c n B M) {f : Nat} (hf : f < n) {m : Mk} (hm : M[f]? = some m) :
    Calls Try.prog 22 #[.pointer (some ⟨a, 0, none⟩), .int .i64 f] w fun e w' => e = .returned (.tuple #[.agg #[.int .u8 m.role, .int .i64 m.ord, .int .i64 m.owr, .int .i64 m.page, .int .i64 m.idx], .int .i64 0]) ∧ Chg [] w w' := by
  have ho : Chg [] w (w.alloc (.cells #[.int .u8 0, .int .i64 0, .int .i64 0, .int .i64 0, .int .i64 0] 43)) := (Chg.refl [] w).alloc _
  have hF := h.stay ho
  have HA := hide (asked_any hF f)
  rw [show frE n f = 0 by unfold frE; rw [if_pos (by omega)]] at HA
  obtain ⟨cm, hcm, qm, hsm⟩ := hF.cm
  have hal := hF.lt
  have hfM : f < M.length := by rw [h.lm]; exact hf
  obtain ⟨c0, c1, c2, c3, c4⟩ := SE.cells5 hsm.re hfM
  rw [show M[f] = m from by rw [List.getElem?_eq_getElem hfM] at hm; exact Option.some.inj hm, Nat.zero_add] at c0 c1 c2 c3 c4
  have hn := h.n2
  obtain ⟨ro, m1, m2, m3, m4⟩ := m
  simp only at c0 c1 c2 c3 c4 ⊢
  have f0 : (0 : Int) ≤ (f : Int) := by omega
  have f1 : (f : Int) < (n : Int) := by omega
  have hne : w.heap.size ≠ gm := by have := h.lt.2.2; omega
  have HC := hide ho
  clear h hF hsm hm ho hfM
  go_enter Try.func22, Try.ntmps22
  go_wp2_with fail
  refine HA.out.mono ?_
  rintro e w' ⟨rfl, rfl⟩
  go_wp2_with fail
  refine bodyPost_ret (v := .tuple #[.agg #[.int .u8 ro, .int .i64 m1, .int .i64 m2, .int .i64 m3, .int .i64 m4], .int .i64 0]) (by simp [results, Try.results22, go_sem]) rfl ⟨rfl, ?_⟩
  exact (Chg.refl [] w).alloc _
end Go.Proofs.Ytblkfikcfgocgaa
