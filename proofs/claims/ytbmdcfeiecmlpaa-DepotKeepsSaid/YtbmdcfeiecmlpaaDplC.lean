import Derived.Test.YtbmdcfeiecmlpaaDplB
namespace Go.Proofs.Ytbmdcfeiecmlpaa
open Go Go.RowKit

set_option maxRecDepth 20000 in
set_option maxHeartbeats 4000000 in
theorem dplays_any {w : World} {v : Value} {ops : List DOp} (x : Int) (hl : RDOps w v ops) : Calls Try.prog 10 #[.int .i64 x, v] w fun e w' => e = .returned (.bool true) ∧ Chg [] w w' := by
  obtain ⟨A, c, rfl⟩ := hl.form
  by_cases hbig : 200 < ops.length
  · go_enter Try.func10, Try.ntmps10
    go_wp2_with (go_at_call 13; refine (dknown_any _).mono ?_; rintro e w1 ⟨rfl, hc1⟩)
    go_ret
    exact ⟨rfl, hc1⟩
  have hcl := clamp_le x
  obtain ⟨r, hr⟩ : ∃ r, clamp x = r := ⟨_, rfl⟩
  rw [hr] at hcl
  have hnew := dnew2 x w
  have hnew2 := fun (W : World) (d : Nat) (hp : DMem 73 W d (clamp x) [] [] [d]) (hw : w.heap.size ≤ d) (hc : Chg [] w W) => qst_new x hp hw hc
  rw [hr] at hnew hnew2
  have HN := hide hnew
  have HR := hide hnew2
  clear hnew hnew2 hr
  obtain ⟨hr1, hr2⟩ := hcl
  have hlen : ops.length ≤ 200 := by omega
  clear hbig
  have hd : decide (200 < (ops.length : Int)) = false := by simp; omega
  go_enter Try.func10, Try.ntmps10
  go_wp2_with (go_at_call 14; refine HN.out.mono ?_; rintro e w1 ⟨d, rfl, hd0, hs1, hc1⟩)
  refine (HR.out w1 d hs1 hd0 hc1).mono ?_
  rintro e w2 ⟨z, rfl, h2⟩
  clear hs1 hc1 hd0 HN HR
  obtain ⟨_, _, _, z0, _, _⟩ := h2.cells
  go_wp2_with fail
  refine wp_region_t [0,5,0,0,0,1,0] (List.replicate 7 none) (fun W => Chg [] w2 W) (by kernel_rfl) (by kernel_rfl) (by kernel_rfl) ?_
  have hS : Chg [] w2 w2.drew := (Chg.refl _ _).drew
  go_wp2_with (first | fail | (refine wpG_calc rfl (fun K hK => ?_)) | (refine wpG_skip ?_ ?_; (focus (simp [wantG]; done)); go_simp) | (refine wpG_take ?_ ?_; (focus (simp [wantG]; done))) | (refine wpG_pure (fun K hK => ?_); go_simp; refine hK _ _ ?_; clear hK K) | (refine wpG_deed (by decide) (fun K hK => ?_); go_simp) | (refine wpG_nil ?_))
  refine wpG_hcall (f := 15) (v := .int .i64 r) (fun w9 => ?_) (fun w9 hw9 => (drounds_at _ r w9 ((h2.chg hw9).cells.1)).mono (fun e w8 h => ⟨h.1, h.2.symm⟩)) hS ?_
  · show (execOp _ _).run Try.prog w9 = _
    simp [execOp, resolve, invoke, go_sem]
  go_simp
  go_wp2_with (first | fail | (refine wpG_calc rfl (fun K hK => ?_)) | (refine wpG_skip ?_ ?_; (focus (simp [wantG]; done)); go_simp) | (refine wpG_take ?_ ?_; (focus (simp [wantG]; done))) | (refine wpG_pure (fun K hK => ?_); go_simp; refine hK _ _ ?_; clear hK K) | (refine wpG_deed (by decide) (fun K hK => ?_); go_simp) | (refine wpG_nil ?_))
  have h3 := h2.chg hS
  clear hS z0
  generalize w2.drew = w3 at h3 ⊢
  clear h2
  go_loopw [35] (fun i wr => ∃ (k : Nat) (fs : List (List Ob)) (q : List Ob), k ≤ ops.length ∧ i = .int .i64 k ∧ QSt w wr d z r fs q fs q [] ∧ Hid (Bd fs q k)) (fun i _ => ops.length - (intOf i).toNat)
  case atStart => exact ⟨0, [], [], Nat.zero_le _, rfl, h3, Bd.nil 0⟩
  case round =>
    obtain ⟨k, fs, q, hk, rfl, h4, hbd⟩ := hrel
    clear h3
    by_cases hlt : k < ops.length
    · obtain ⟨g, off, rfl⟩ := hl.addr hlt
      obtain ⟨x0, x1, x2, hro, hg⟩ := (hl.chg h4.below).cells hlt
      have hro0 := ((hl.cells hlt).2.2.2.1)
      obtain ⟨A2, c2, hv2⟩ := hro.form
      rw [hv2] at x2 hro hro0
      have HV := hide hv2
      clear hv2
      by_cases h60 : 60 < ops[k].l.length
      · go_wp2_with (go_at_call 13; refine (dknown_any _).mono ?_; rintro e w5 ⟨rfl, hc5⟩)
        go_ret
        exact ⟨rfl, (h4.below.alloc _).trans hc5 (fun _ h => by cases h)⟩
      · have hl60 : ops[k].l.length ≤ 60 := by omega
        have h60d : decide (60 < (ops[k].l.length : Int)) = false := by simp; omega
        go_upto_block 2 with (fail)
        obtain ⟨W0, hW0⟩ : ∃ W0, W0 = wr.alloc (.cells #[.int .i64 ops[k].k, .int .i64 ops[k].n, .slice A2 ops[k].l.length c2] 69) := ⟨_, rfl⟩
        have h5 : QSt w W0 d z r fs q fs q [wr.heap.size] := by rw [hW0]; exact h4.more ((Chg.refl _ _).alloc _) [wr.heap.size] (fun k hk => by obtain rfl := List.mem_singleton.1 hk; simp)
        have hbo : Blk W0 wr.heap.size 69 #[.int .i64 ops[k].k, .int .i64 ops[k].n, .slice A2 ops[k].l.length c2] := by rw [hW0]; exact Blk.new wr 69 _
        rw [← hW0]
        clear hW0 h4 x0 x1 x2 hg hro
        generalize wr.heap.size = o at h5 hbo ⊢
        generalize ops[k].k = kk at hbo ⊢
        generalize ops[k].n = on at hbo ⊢
        generalize ops[k].l = L at hbo hro0 hl60 h60d h60 HV ⊢
        clear h60 HV
        go_cut [9, 10] from 49 to 138 (fun a b wc => ∃ (fs : List (List Ob)) (q m : List Ob) (Aa : Option Addr) (ca : Nat) (Ab : Option Addr) (cb : Nat), a = .slice Aa m.length ca ∧ b = .slice Ab m.length cb ∧ QSt w wc d z r fs q fs q ((Value.slice Aa m.length ca).ownBlock.toList) ∧ SO wc (.slice Aa m.length ca) m ∧ RO wc (.slice Ab m.length cb) m ∧ Hid (Bd fs q (k + 1)) ∧ m.length ≤ 4000)
        case rest =>
          obtain ⟨fs', q', m, Aa, ca, Ab, cb, rfl, rfl, h6, hsa, hrb, hbd', hm4⟩ := hcut
          have hball := hbd'.out.all
          have hal : (dall fs' q').length ≤ 4000 := by omega
          have hf64 : fs'.length ≤ 64 := hbd'.out.f
          have HA := hide (qd_all2 h6 (by omega) (by omega))
          go_wp2_with (go_at_call 38; refine HA.out.mono ?_; rintro e W7 ⟨A7, c7, rfl, hs7, ho7, hc7⟩)
          have hne : ∀ k ∈ own (Value.slice A7 (dall fs' q').length c7), k ∉ own (Value.slice Aa m.length ca) := fun k hk hk' => by
            have := (ho7 k hk).1
            have := hsa.own_lt k hk'
            omega
          have h7 := h6.more hc7 ((Value.slice A7 (dall fs' q').length c7).ownBlock.toList) (fun k hk => ho7 k (own_mem.2 (by simpa using hk)))
          have hsa7 : SO W7 (.slice Aa m.length ca) m := Sl.chg hsa hc7 (fun _ _ h => by cases h)
          have hrb7 : RO W7 (.slice Ab m.length cb) m := Rd.chg hrb hc7 (fun _ _ h => by cases h)
          have Hne := hide hne
          clear hne hball HA hc7 hsa hrb ho7
          refine wp_region_t [0, 0, 3, 0, 0, 0, 0, 3, 3, 0, 0, 0, 0, 5, 0, 0, 0, 1, 0, 0, 0, 0, 0, 5, 0, 0, 0, 1, 0, 0, 0] [none, none, none, none, none, some (145, false), some (145, false), some (145, false), some (145, false), some (145, false), none, none, some (152, false), some (152, false), some (152, false), some (152, false), some (152, false), some (152, false), some (152, false), some (152, false), none, none, some (162, false), some (162, false), some (162, false), some (162, false), some (162, false), some (162, false), some (162, false), some (162, false), none] (fun W => Chg [] W7 W) (by kernel_rfl) (by kernel_rfl) (by kernel_rfl) ?_
          have hS7 : Chg [] W7 W7.drew := (Chg.refl _ _).drew
          go_wp2_with (first | fail | (refine wpG_calc rfl (fun K hK => ?_)) | (refine wpG_skip ?_ ?_; (focus (simp [wantG]; done)); go_simp) | (refine wpG_take ?_ ?_; (focus (simp [wantG]; done))) | (refine wpG_pure (fun K hK => ?_); go_simp; refine hK _ _ ?_; clear hK K) | (refine wpG_deed (by decide) (fun K hK => ?_); go_simp) | (refine wpG_nil ?_))
          refine (rsame_any (Rd.drew hsa7.ro) (Rd.drew hrb7) (by omega)).mono ?_
          rintro e W8 ⟨rfl, hc8⟩
          have hS8 := hS7.trans hc8 (fun _ h => by cases h)
          go_wp2_with (first | fail | (refine wpG_calc rfl (fun K hK => ?_)) | (refine wpG_skip ?_ ?_; (focus (simp [wantG]; done)); go_simp) | (refine wpG_take ?_ ?_; (focus (simp [wantG]; done))) | (refine wpG_pure (fun K hK => ?_); go_simp; refine hK _ _ ?_; clear hK K) | (refine wpG_deed (by decide) (fun K hK => ?_); go_simp) | (refine wpG_nil ?_))
          refine (qz_all2 (h7.chg hS8) (by omega) (by omega)).mono ?_
          rintro e W9 ⟨A9, c9, rfl, hr9, hc9⟩
          have hS9 := hS8.trans hc9 (fun _ h => by cases h)
          go_wp2_with (first | fail | (refine wpG_calc rfl (fun K hK => ?_)) | (refine wpG_skip ?_ ?_; (focus (simp [wantG]; done)); go_simp) | (refine wpG_take ?_ ?_; (focus (simp [wantG]; done))) | (refine wpG_pure (fun K hK => ?_); go_simp; refine hK _ _ ?_; clear hK K) | (refine wpG_deed (by decide) (fun K hK => ?_); go_simp) | (refine wpG_nil ?_))
          refine (rsame_any (Rd.chg hs7.ro hS9 (fun _ _ h => by cases h)) hr9 (by omega)).mono ?_
          rintro e W10 ⟨rfl, hc10⟩
          have hS10 := hS9.trans hc10 (fun _ h => by cases h)
          have h10' := h7.chg hS10
          obtain ⟨_, _, _, _, ⟨B1, e1, y1⟩, ⟨B2, e2, y2⟩⟩ := h10'.cells
          go_wp2_with (first | fail | (refine wpG_calc rfl (fun K hK => ?_)) | (refine wpG_skip ?_ ?_; (focus (simp [wantG]; done)); go_simp) | (refine wpG_take ?_ ?_; (focus (simp [wantG]; done))) | (refine wpG_pure (fun K hK => ?_); go_simp; refine hK _ _ ?_; clear hK K) | (refine wpG_deed (by decide) (fun K hK => ?_); go_simp) | (refine wpG_nil ?_))
          refine wpG_hcall (f := 37) (v := .int .i64 fs'.length) (fun w9 => ?_) (fun w9 hw9 => (qd_fulls (h7.chg hw9)).mono (fun e w8 h => ⟨h.1, h.2.symm⟩)) hS10 ?_
          · show (execOp _ _).run Try.prog w9 = _
            simp [execOp, resolve, invoke, go_sem]
          go_simp
          go_wp2_with (first | fail | (refine wpG_calc rfl (fun K hK => ?_)) | (refine wpG_skip ?_ ?_; (focus (simp [wantG]; done)); go_simp) | (refine wpG_take ?_ ?_; (focus (simp [wantG]; done))) | (refine wpG_pure (fun K hK => ?_); go_simp; refine hK _ _ ?_; clear hK K) | (refine wpG_deed (by decide) (fun K hK => ?_); go_simp) | (refine wpG_nil ?_))
          refine wpG_hcall (f := 21) (v := .int .i64 q'.length) (fun w9 => ?_) (fun w9 hw9 => (qd_queued (h7.chg hw9)).mono (fun e w8 h => ⟨h.1, h.2.symm⟩)) hS10 ?_
          · show (execOp _ _).run Try.prog w9 = _
            simp [execOp, resolve, invoke, go_sem]
          go_simp
          go_wp2_with (first | fail | (refine wpG_calc rfl (fun K hK => ?_)) | (refine wpG_skip ?_ ?_; (focus (simp [wantG]; done)); go_simp) | (refine wpG_take ?_ ?_; (focus (simp [wantG]; done))) | (refine wpG_pure (fun K hK => ?_); go_simp; refine hK _ _ ?_; clear hK K) | (refine wpG_deed (by decide) (fun K hK => ?_); go_simp) | (refine wpG_nil ?_))
          have hsa10 : SO W10 (.slice Aa m.length ca) m := Sl.chg hsa7 hS10 (fun _ _ h => by cases h)
          have hs10 : SO W10 (.slice A7 (dall fs' q').length c7) (dall fs' q') := Sl.chg hs7 hS10 (fun _ _ h => by cases h)
          have h10 : QSt w W10 d z r fs' q' fs' q' ((Value.slice Aa m.length ca).ownBlock.toList ++ (Value.slice A7 (dall fs' q').length c7).ownBlock.toList) := h10'.less (fun k hk => (List.mem_append.1 hk).elim (fun h => List.mem_append_right _ h) (fun h => List.mem_append_left _ h))
          clear h10' y1 y2 hS7 hS8 hS9 hS10 h7 hr9 hc8 hc9 hc10 hsa7 hs7 hrb7
          have hne := Hne.out
          clear Hne
          have Hne := hide hne
          clear hne
          go_wp2_with fail
          go_loopw [174] (fun i wi => ∃ (j : Nat) (l' : List Ob), j ≤ m.length ∧ i = .int .i64 j ∧ l'.length = m.length ∧ SO wi (.slice Aa m.length ca) l' ∧ SO wi (.slice A7 (dall fs' q').length c7) (dall fs' q') ∧ QSt w wi d z r fs' q' fs' q' ((Value.slice Aa m.length ca).ownBlock.toList ++ (Value.slice A7 (dall fs' q').length c7).ownBlock.toList)) (fun i _ => m.length - (intOf i).toNat)
          case atStart => exact ⟨0, _, Nat.zero_le _, rfl, rfl, hsa10, hs10, h10⟩
          case round =>
            obtain ⟨j, l', hj, rfl, hll, hso, hs15, hps⟩ := hrel
            by_cases hjt : j < m.length
            · obtain ⟨g3, o3, rfl⟩ := SO.addr hso (by omega)
              obtain ⟨e0, q0⟩ : ∃ e0, wr.cell? ⟨g3, o3 + j * 2, none⟩ = some (.int .i64 e0) := ⟨_, (RO.cellsN hso.ro (k := j) (by omega)).1⟩
              obtain ⟨e1, q1⟩ : ∃ e1, wr.cell? ⟨g3, o3 + j * 2 + 1, none⟩ = some (.int .i64 e1) := ⟨_, (RO.cellsN hso.ro (k := j) (by omega)).2⟩
              have q2 := SO.frozen hso (o3 + j * 2)
              have Hll := hide hll
              clear hll
              go_wp2_with fail
              go_roundw
              case rel => exact ⟨j + 1, _, by omega, by go_num, by rw [List.length_set]; exact Hll.out, SO.set0 hso (by rw [Hll.out]; exact hjt) _, Sl.far hs15 (p := ⟨g3, o3 + j * 2, none⟩) (fun e => Hne.out g3 (own_mem.2 e) (by simp [own, Value.ownBlock])) _, QSt.over (g := g3) hps ((Chg.refl _ _).setCell (.inl (by simp)) _) (by simp [Value.ownBlock])⟩
              case measure => simp [intOf]; omega
            · have Hll := hide hll
              clear hll
              go_wp2_with fail
              have hps2 := hps.less (M := (Value.slice A7 (dall fs' q').length c7).ownBlock.toList) (fun k hk => List.mem_append_right _ hk)
              go_loopw [188] (fun i wi => ∃ (j : Nat) (l' : List Ob), j ≤ (dall fs' q').length ∧ i = .int .i64 j ∧ l'.length = (dall fs' q').length ∧ SO wi (.slice A7 (dall fs' q').length c7) l' ∧ QSt w wi d z r fs' q' fs' q' ((Value.slice A7 (dall fs' q').length c7).ownBlock.toList)) (fun i _ => (dall fs' q').length - (intOf i).toNat)
              case atStart => exact ⟨0, _, Nat.zero_le _, rfl, rfl, hs15, hps2⟩
              case round =>
                obtain ⟨j, l', hj, rfl, hll, hso, hps⟩ := hrel
                by_cases hjt : j < (dall fs' q').length
                · obtain ⟨g3, o3, rfl⟩ := SO.addr hso (by omega)
                  obtain ⟨e0, q0⟩ : ∃ e0, wr.cell? ⟨g3, o3 + j * 2, none⟩ = some (.int .i64 e0) := ⟨_, (RO.cellsN hso.ro (k := j) (by omega)).1⟩
                  obtain ⟨e1, q1⟩ : ∃ e1, wr.cell? ⟨g3, o3 + j * 2 + 1, none⟩ = some (.int .i64 e1) := ⟨_, (RO.cellsN hso.ro (k := j) (by omega)).2⟩
                  have q2 := SO.frozen hso (o3 + j * 2 + 1)
                  have Hll := hide hll
                  clear hll
                  go_wp2_with fail
                  go_roundw
                  case rel => exact ⟨j + 1, _, by omega, by go_num, by rw [List.length_set]; exact Hll.out, SO.set1 hso (by rw [Hll.out]; exact hjt) _, QSt.over (g := g3) hps ((Chg.refl _ _).setCell (.inl (by simp)) _) (by simp [Value.ownBlock])⟩
                  case measure => simp [intOf]; omega
                · have Hll := hide hll
                  clear hll
                  go_wp2_with fail
                  go_roundw
                  case rel => exact ⟨k + 1, fs', q', by omega, by go_num, hps.less (fun _ h => by cases h), hbd'⟩
                  case measure => simp [intOf]; omega
        case first =>
          have b0 := hbo.cell 0
          have b1 := hbo.cell 1
          have b2 := hbo.cell 2
          simp at b0 b1 b2
          have bl := hbo.lt
          have hf64 : fs.length ≤ 64 := hbd.out.f
          have hq200 : q.length ≤ 200 := by have := hbd.out.q; omega
          have hal : (dall fs q).length ≤ 4000 := by have := hbd.out.all; omega
          have hroW0 : RO W0 (.slice A2 L.length c2) L := Rd.chg hro0 h5.below (fun _ _ h => by cases h)
          by_cases hk0 : kk = 0
          · subst hk0
            have e2 : ([] : List Ob).length + L.length = L.length := by simp
            have He2 := hide e2
            clear e2
            go_wp2_with (at_builtin; refine wpList_append_ob rfl _ _ rfl (.slice (some ⟨W0.heap.size, 0, none⟩) 0 0) (.slice A2 L.length c2) rfl rfl (SO_nil_new W0) (Rd.alloc hroW0 _) (by simp; omega) ?_; intro A3 c3 W3 hs3 hc3 ho3)
            rw [He2.out] at hs3 ho3
            rw [List.nil_append] at hs3
            have hcW : Chg [] W0 W3 := ((Chg.refl [] W0).alloc _).trans hc3 (fun k hk => .inr (by simp [Value.ownBlock] at hk; omega))
            have h6 : QSt w W3 d z r fs q fs q ((Value.slice A3 L.length c3).ownBlock.toList ++ [o]) := h5.more hcW _ (fun k hk => by
              have hk' : (Value.slice A3 L.length c3).ownBlock = some k := by simpa using hk
              refine ⟨?_, Sl.lt hs3 k hk'⟩
              rcases ho3 with e | e
              · rw [hk'] at e; simp [Value.ownBlock] at e; omega
              · rw [hk'] at e; simp at e; omega)
            have hbo3 := hbo.chg hcW List.not_mem_nil
            refine wp_region_t [0,0,6,0,0,5,3,0] (List.replicate 8 none) (fun W => Blk W o 69 #[.int .i64 0, .int .i64 on, .slice A2 L.length c2]) (by kernel_rfl) (by kernel_rfl) (by kernel_rfl) ?_
            go_wp2_with (first | fail | (refine wpG_calc rfl (fun K hK => ?_)) | (refine wpG_skip ?_ ?_; (focus (simp [wantG]; done)); go_simp) | (refine wpG_take ?_ ?_; (focus (simp [wantG]; done))) | (refine wpG_pure (fun K hK => ?_); go_simp; refine hK _ _ ?_; clear hK K) | (refine wpG_deed (by decide) (fun K hK => ?_); go_simp) | (refine wpG_nil ?_))
            refine wpG_keeps hbo3.drew (fun K hK => ?_)
            go_simp
            refine (qd_put (h6.chg ((Chg.refl _ _).drew)) hr1 (by omega) (Rd.drew hs3.ro) (by omega) (by omega)).mono ?_
            rintro e W4 ⟨rfl, h7, hk7⟩
            have hbo4 := hk7.blk hbo3.drew (by simp)
            have hs4 : SO W4 (.slice A3 L.length c3) L := hk7.so (Sl.drew hs3) (fun k hk => by rw [hk]; simp)
            refine hK _ _ hbo4 ?_
            clear hK K
            have hro4 : RO W4 (.slice A2 L.length c2) L := Rd.chg hro0 h7.below (fun _ _ h => by cases h)
            have HZ := hide (qz_put h7 (by omega) hro4 (by omega) (by omega))
            go_wp2_with (first | (refine wpG_hload 22 _ rfl rfl (fun w' hw' => load_slice Try.underlying22 (by simpa using Blk.cell hw' 2)) hbo4 ?_; go_simp) | (go_at_call 40; refine HZ.out.mono ?_; rintro e W5 ⟨rfl, h8, hk8⟩) | (refine wpG_calc rfl (fun K hK => ?_)) | (refine wpG_skip ?_ ?_; (focus (simp [wantG]; done)); go_simp) | (refine wpG_take ?_ ?_; (focus (simp [wantG]; done))) | (refine wpG_pure (fun K hK => ?_); go_simp; refine hK _ _ ?_; clear hK K) | (refine wpG_deed (by decide) (fun K hK => ?_); go_simp) | (refine wpG_nil ?_))
            have hs5 : SO W5 (.slice A3 L.length c3) L := hk8.so hs4 (fun k hk => by rw [hk]; simp)
            have Hb2 := hide ((hbd.out.put (l := L) hr2).up (show k ≤ k + 1 by omega))
            generalize putF r fs L = fs2 at h8 Hb2
            go_wp2_with fail
            go_loopw [65] (fun i wi => ∃ (j : Nat) (l' : List Ob), j ≤ L.length ∧ i = .int .i64 j ∧ l'.length = L.length ∧ SO wi (.slice A3 L.length c3) l' ∧ QSt w wi d z r fs2 q fs2 q ((Value.slice A3 L.length c3).ownBlock.toList ++ [o])) (fun i _ => L.length - (intOf i).toNat)
            case atStart => exact ⟨0, _, Nat.zero_le _, rfl, rfl, hs5, h8⟩
            case round =>
              obtain ⟨j, l', hj, rfl, hll, hso, hps⟩ := hrel
              by_cases hjt : j < L.length
              · obtain ⟨g3, o3, rfl⟩ := SO.addr hso (by omega)
                obtain ⟨e0, q0⟩ : ∃ e0, wr.cell? ⟨g3, o3 + j * 2, none⟩ = some (.int .i64 e0) := ⟨_, (RO.cellsN hso.ro (k := j) (by omega)).1⟩
                have q2 := SO.frozen hso (o3 + j * 2)
                have Hll := hide hll
                clear hll
                go_wp2_with fail
                go_roundw
                case rel => exact ⟨j + 1, _, by omega, by go_num, by rw [List.length_set]; exact Hll.out, SO.set0 hso (by rw [Hll.out]; exact hjt) _, QSt.over (g := g3) hps ((Chg.refl _ _).setCell (.inl (by simp)) _) (by simp [Value.ownBlock])⟩
                case measure => simp [intOf]; omega
              · have Hll := hide hll
                clear hll
                go_wp2_with fail
                go_meet
                case rel => exact ⟨fs2, q, [], none, 0, none, 0, rfl, rfl, hps.less (fun k hk => by simp [Value.ownBlock] at hk), Sl.nil _ _ _, Rd.nil _ 2 0 none, Hb2, by simp⟩
          by_cases hk1 : kk = 1
          · subst hk1
            rcases List.eq_nil_or_concat fs with rfl | ⟨fs', m, rfl⟩
            · go_wp2_with (first | (go_at_call 20; refine (qd_get_no h5).mono ?_; rintro e W1 ⟨rfl, rfl⟩) | (go_at_call 41; refine (qz_get_no h5).mono ?_; rintro e W1 ⟨rfl, rfl⟩))
              go_meet
              case rel => exact ⟨[], q, [], none, 0, none, 0, rfl, rfl, h5.less (fun k hk => by simp [Value.ownBlock] at hk), Sl.nil _ _ _, Rd.nil _ 2 0 none, hide (hbd.out.up (by omega)), by simp⟩
            · rw [List.concat_eq_append] at h5 hbd
              have hf' : fs'.length ≤ 1000 := by have := hbd.out.pop.f; omega
              go_wp2_with (go_at_call 20; refine (qd_get h5 hf').mono ?_; rintro e W1 ⟨⟨A3, c3, rfl, hs3, h6⟩, hk6⟩)
              refine (qz_get h6 hf').mono ?_
              rintro e W2 ⟨⟨A4, c4, rfl, hr4⟩, h7, hk7⟩
              have hs5 : SO W2 (.slice A3 m.length c3) m := hk7.so hs3 (fun k hk => by rw [hk]; simp)
              go_wp2_with fail
              go_meet
              case rel => exact ⟨fs', q, m, A3, c3, A4, c4, rfl, rfl, h7.less (fun k hk => List.mem_append_left _ hk), hs5, hr4, hide (hbd.out.pop.up (by omega)), by have := hbd.out.m m (by simp); omega⟩
          by_cases hk2 : kk = 2
          · subst hk2
            by_cases hL0 : L.length = 0
            · obtain rfl : L = [] := List.eq_nil_of_length_eq_zero hL0
              simp only [List.length_nil] at b2
              clear hL0
              go_wp2_with fail
              go_meet
              case rel => exact ⟨fs, q, [], none, 0, none, 0, rfl, rfl, h5.less (fun k hk => by simp [Value.ownBlock] at hk), Sl.nil _ _ _, Rd.nil _ 2 0 none, hide (hbd.out.up (by omega)), by simp⟩
            · have hLp : 0 < L.length := by omega
              obtain ⟨g2, o2, cc2, eA, hcc2, -⟩ := hroW0.at_ hLp
              injection eA with eA _ ec
              subst eA; subst ec
              obtain ⟨q0, q1⟩ := RO.cellsN hroW0 hLp
              obtain ⟨ex, hex⟩ : ∃ ex, L[0].1 = ex := ⟨_, rfl⟩
              obtain ⟨ey, hey⟩ : ∃ ey, L[0].2 = ey := ⟨_, rfl⟩
              rw [hex] at q0
              rw [hey] at q1
              simp at q0 q1
              have hLd : decide (0 < (L.length : Int)) = true := decide_eq_true (by omega)
              have hLe : (L == []) = false := by cases L with
                | nil => exact absurd hLp (by simp)
                | cons => rfl
              have HX := hide hex
              have HY := hide hey
              clear hL0 hex hey
              go_wp2_with fail
              refine (qd_queue h5 hr1 ex ey (by omega)).mono ?_
              rintro e W1 ⟨rfl, h6, hk6⟩
              have hbo1 := hk6.blk hbo (List.mem_singleton.2 rfl)
              have hro1 : RO W1 (.slice (some ⟨g2, o2, none⟩) L.length c2) L := Rd.chg hro0 h6.below (fun _ _ h => by cases h)
              clear b0 b1 b2 q0 q1 bl
              have b2 := hbo1.cell 2
              simp at b2
              obtain ⟨q0, q1⟩ := RO.cellsN hro1 hLp
              rw [HX.out] at q0
              rw [HY.out] at q1
              simp at q0 q1
              obtain ⟨Az, cz, y2, hsz, _⟩ := h6.queue_so
              have hS : Chg [] W1 ((W1.alloc (.cells #[.int .i64 ex, .int .i64 ey] 28)).drew) := ((Chg.refl _ _).alloc _).drew
              have hqL : Hid (q.length + 1 ≤ 1000000) := hide (by omega)
              go_wp2_with fail
              refine wp_region_t [0, 0, 0, 0, 1, 0, 1, 0, 1, 2, 3, 0, 0, 3] [none, none, none, none, none, none, none, none, none, none, none, none, none, none] (fun _ => True) (by kernel_rfl) (by kernel_rfl) (by kernel_rfl) ?_
              go_wp2_with (first | (refine wpG_deed (by decide) (fun K hK => ?_); refine wp_append_ob _ _ rfl (.slice Az q.length cz) (.slice (some ⟨W1.heap.size, 0, none⟩) 1 1) rfl rfl (Sl.chg hsz hS (fun _ _ h => by cases h)) (RO_one W1 ex ey).drew hqL.out ?_; intro A9 c9 W9 hs9 hc9 ho9; have hst := h6.stays y2 hS hc9; obtain ⟨z9, f9⟩ := hst; refine hK _ _ ?_; clear hK K) | (refine wpG_calc rfl (fun K hK => ?_)) | (refine wpG_skip ?_ ?_; (focus (simp [wantG]; done)); go_simp) | (refine wpG_take ?_ ?_; (focus (simp [wantG]; done))) | (refine wpG_pure (fun K hK => ?_); go_simp; refine hK _ _ ?_; clear hK K) | (refine wpG_deed (by decide) (fun K hK => ?_); go_simp) | (refine wpG_nil ?_))
              go_meet
              case rel =>
                obtain ⟨h7, hk7⟩ := h6.enq y2 hS hs9 hc9 ho9
                exact ⟨fs, q ++ [(ex, ey)], [], none, 0, none, 0, rfl, rfl, h7.less (fun k hk => by simp [Value.ownBlock] at hk), Sl.nil _ _ _, Rd.nil _ 2 0 none, hide (hbd.out.enq), by simp⟩
          by_cases hk3 : kk = 3
          · subst hk3
            have hD := qd_drain (h5.chg ((Chg.refl _ _).drew)) on (by omega)
            obtain ⟨t1, ht1⟩ : ∃ t1, q.take (drainN on q.length) = t1 := ⟨_, rfl⟩
            obtain ⟨t2, ht2⟩ : ∃ t2, q.drop (drainN on q.length) = t2 := ⟨_, rfl⟩
            have hZ := fun (W : World) (N : List Nat) (h : QSt w W d z r fs t2 fs q N) => qz_drain h on (by omega)
            rw [ht1, ht2] at hD
            rw [ht1, ht2] at hZ
            have HD := hide hD
            have HZ := hide hZ
            have Hb2 : Hid (Bd fs t2 (k + 1)) := hide (by rw [← ht2]; exact hbd.out.drop.up (by omega))
            have hl1 : t1.length ≤ 4000 := by rw [← ht1, List.length_take]; omega
            clear hD hZ ht1 ht2
            go_wp2_with fail
            refine wp_region_t [0,0,5,6,0,0,5,3,0,0] (List.replicate 10 none) (fun W => Blk W o 69 #[.int .i64 3, .int .i64 on, .slice A2 L.length c2]) (by kernel_rfl) (by kernel_rfl) (by kernel_rfl) ?_
            go_wp2_with (first | (refine wpG_hload 3 _ rfl rfl (fun w' hw' => load_i (v := .int .i64 on) (by simpa using Blk.cell hw' 1)) hbo.drew ?_; go_simp) | (refine wpG_calc rfl (fun K hK => ?_)) | (refine wpG_skip ?_ ?_; (focus (simp [wantG]; done)); go_simp) | (refine wpG_take ?_ ?_; (focus (simp [wantG]; done))) | (refine wpG_pure (fun K hK => ?_); go_simp; refine hK _ _ ?_; clear hK K) | (refine wpG_deed (by decide) (fun K hK => ?_); go_simp) | (refine wpG_nil ?_))
            refine wpG_keeps hbo.drew (fun K hK => ?_)
            go_simp
            refine HD.out.mono ?_
            rintro e W1 ⟨⟨A3, c3, rfl, hs3, h6⟩, hk6⟩
            have hbo1 := hk6.blk hbo.drew (List.mem_singleton.2 rfl)
            refine hK _ _ hbo1 ?_
            clear hK K
            go_wp2_with (first | (refine wpG_hload 3 _ rfl rfl (fun w' hw' => load_i (v := .int .i64 on) (by simpa using Blk.cell hw' 1)) hbo1 ?_; go_simp) | (go_at_call 42; refine (HZ.out _ _ h6).mono ?_; rintro e W2 ⟨⟨A4, c4, rfl, hr4⟩, h7, hk7⟩) | (refine wpG_calc rfl (fun K hK => ?_)) | (refine wpG_skip ?_ ?_; (focus (simp [wantG]; done)); go_simp) | (refine wpG_take ?_ ?_; (focus (simp [wantG]; done))) | (refine wpG_pure (fun K hK => ?_); go_simp; refine hK _ _ ?_; clear hK K) | (refine wpG_deed (by decide) (fun K hK => ?_); go_simp) | (refine wpG_nil ?_))
            have hs5 : SO W2 (.slice A3 t1.length c3) t1 := hk7.so hs3 (fun k hk => by rw [hk]; simp)
            go_meet
            case rel => exact ⟨fs, t2, t1, A3, c3, A4, c4, rfl, rfl, h7.less (fun k hk => List.mem_append_left _ hk), hs5, hr4, Hb2, hl1⟩
          by_cases hk4 : kk = 4
          · subst hk4
            have HF := hide (qd_flush h5 (by omega) (by omega))
            have HZ := hide (fun (W : World) (N : List Nat) (h : QSt w W d z r [] [] fs q N) => qz_all3 h (by omega) (by omega))
            go_wp2_with (go_at_call 43; refine HF.out.mono ?_; rintro e W1 ⟨⟨A3, c3, rfl, hs3, h6⟩, hk6⟩)
            refine (HZ.out _ _ h6).mono ?_
            rintro e W2 ⟨A4, c4, rfl, hs4, h7, hk7, hfar⟩
            obtain ⟨_, _, _, _, ⟨B1, e1, y1⟩, ⟨B2, e2, y2⟩⟩ := h7.cells
            obtain ⟨f1, hzl⟩ := h7.frozen 1
            obtain ⟨f2, _⟩ := h7.frozen 2
            have hs3' : SO W2 (.slice A3 (dall fs q).length c3) (dall fs q) := hk7.so hs3 (fun k hk => by rw [hk]; simp)
            have Hfar := hide hfar
            clear hfar
            go_wp2_with fail
            go_meet
            case rel =>
              obtain ⟨h8, hk8⟩ := h7.empty
              exact ⟨[], [], dall fs q, A3, c3, A4, c4, rfl, rfl, h8.less (fun k hk => List.mem_append_left _ hk), hk8.so hs3' (fun k hk => by rw [hk]; simp), (Hfar.out _ _).ro, hide (Bd.nil _), hal⟩
          · go_wp2_with fail
            go_meet
            case rel => exact ⟨fs, q, [], none, 0, none, 0, rfl, rfl, h5.less (fun k hk => by simp [Value.ownBlock] at hk), Sl.nil _ _ _, Rd.nil _ 2 0 none, hide (hbd.out.up (by omega)), by simp⟩
    · have hkn : ¬ k < ops.length := hlt
      have hf64 : fs.length ≤ 64 := hbd.out.f
      have hal : (dall fs q).length ≤ 4000 := by have := hbd.out.all; omega
      have HA := hide (qd_all2 h4 (by omega) (by omega))
      go_wp2_with fail
      refine HA.out.mono ?_
      rintro e W7 ⟨A7, c7, rfl, hs7, ho7, hc7⟩
      have h7 := h4.chg hc7
      go_wp2_with fail
      refine (qz_all2 h7 (by omega) (by omega)).mono ?_
      rintro e W8 ⟨A8, c8, rfl, hr8, hc8⟩
      have h8 := h7.chg hc8
      have hsame := hide (rsame_any (Rd.chg hs7.ro hc8 (fun _ _ h => by cases h)) hr8 (by omega))
      go_wp2_with (first | (go_at_call 18; refine hsame.out.mono ?_; rintro e W9 ⟨rfl, hc9⟩) | (go_at_call 13; refine (dknown_any _).mono ?_; rintro e W10 ⟨rfl, hc10⟩))
      go_ret
      exact ⟨rfl, (h8.below.trans hc9 (fun _ h => by cases h)).trans hc10 (fun _ h => by cases h)⟩
end Go.Proofs.Ytbmdcfeiecmlpaa
