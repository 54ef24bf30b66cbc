import Derived.Test.YtbmdcfeiecmlpaaPlyO
import Derived.Test.YtbmdcfeiecmlpaaTextG
import Derived.Deep.CutBlock
import Derived.Deep.CutRange
namespace Go.Proofs.Ytbmdcfeiecmlpaa
open Go Go.RowKit

set_option maxRecDepth 20000 in
set_option maxHeartbeats 4000000 in
theorem plays_any {w : World} {v : Value} {ops : List AOp} (x : Int) (hl : ROps w v ops) : Calls Try.prog 6 #[.int .i64 x, v] w fun e w' => e = .returned (.bool true) ∧ Chg [] w w' := by
  obtain ⟨A, c, rfl⟩ := hl.form
  by_cases hbig : 200 < ops.length
  · go_enter Try.func6, Try.ntmps6
    go_wp2_with (go_at_call 22; refine (known_any _).mono ?_; rintro e w1 ⟨rfl, hc1⟩)
    go_ret
    exact ⟨rfl, hc1⟩
  have hcl := clamp_le x
  obtain ⟨r, hr⟩ : ∃ r, clamp x = r := ⟨_, rfl⟩
  rw [hr] at hcl
  have hnew := pst_new x w
  have hnew2 := fun (W : World) (p : Nat) (hp : PStk W p (clamp x) [] [p]) (hw : w.heap.size ≤ p) (hc : Chg [] w W) => pst_new2 x hp hw hc
  rw [hr] at hnew hnew2
  have HN := hide hnew
  have HR := hide hnew2
  clear hnew hnew2 hr
  obtain ⟨hr1, hr2⟩ := hcl
  have hlen : ops.length ≤ 200 := by omega
  clear hbig
  have hd : decide (200 < (ops.length : Int)) = false := by simp; omega
  go_enter Try.func6, Try.ntmps6
  go_wp2_with (go_at_call 23; refine HN.out.mono ?_; rintro e w1 ⟨p, rfl, hp0, hs1, hc1⟩)
  refine (HR.out w1 p hs1 (by omega) hc1).mono ?_
  rintro e w2 ⟨z, rfl, h2⟩
  clear hs1 hc1 hp0 HN HR
  obtain ⟨y0, z0⟩ := h2.cells
  go_wp2_with fail
  refine wp_region_t [0,5,0,0,0,1,0] (List.replicate 7 none) (fun W => Chg [] w2 W) (by kernel_rfl) (by kernel_rfl) (by kernel_rfl) ?_
  have hS : Chg [] w2 w2.drew := (Chg.refl _ _).drew
  go_wp2_with (first | fail | (refine wpG_calc rfl (fun K hK => ?_)) | (refine wpG_skip ?_ ?_; (focus (simp [wantG]; done)); go_simp) | (refine wpG_take ?_ ?_; (focus (simp [wantG]; done))) | (refine wpG_pure (fun K hK => ?_); go_simp; refine hK _ _ ?_; clear hK K) | (refine wpG_deed (by decide) (fun K hK => ?_); go_simp) | (refine wpG_nil ?_))
  refine wpG_hcall (f := 27) (v := .int .i64 r) (fun w9 => ?_) (fun w9 hw9 => (rounds_at _ r w9 ((h2.chg hw9).cells.1)).mono (fun e w8 h => ⟨h.1, h.2.symm⟩)) hS ?_
  · show (execOp _ _).run Try.prog w9 = _
    simp [execOp, resolve, invoke, go_sem]
  go_simp
  go_wp2_with (first | fail | (refine wpG_calc rfl (fun K hK => ?_)) | (refine wpG_skip ?_ ?_; (focus (simp [wantG]; done)); go_simp) | (refine wpG_take ?_ ?_; (focus (simp [wantG]; done))) | (refine wpG_pure (fun K hK => ?_); go_simp; refine hK _ _ ?_; clear hK K) | (refine wpG_deed (by decide) (fun K hK => ?_); go_simp) | (refine wpG_nil ?_))
  have h3 := h2.chg hS
  clear hS y0 z0
  generalize w2.drew = w3 at h3 ⊢
  clear h2
  go_loopw [39] (fun i wr => ∃ (k : Nat) (s : List Ob), k ≤ ops.length ∧ i = .int .i64 k ∧ PSt w wr p z r s s []) (fun i _ => ops.length - (intOf i).toNat)
  case atStart => exact ⟨0, [], Nat.zero_le _, rfl, h3⟩
  case round =>
    obtain ⟨k, s, hk, rfl, h4⟩ := hrel
    by_cases hlt : k < ops.length
    · obtain ⟨g, off, rfl⟩ := hl.addr hlt
      obtain ⟨x0, x1, x2, x3, hro, hg⟩ := (hl.chg h4.below).cells hlt
      have hro0 := ((hl.cells hlt).2.2.2.2.1)
      obtain ⟨A2, c2, hv2⟩ := hro.form
      rw [hv2] at x3 hro hro0
      have HV := hide hv2
      clear hv2
      by_cases h60 : 60 < ops[k].l.length
      · go_wp2_with (go_at_call 22; refine (known_any _).mono ?_; rintro e w5 ⟨rfl, hc5⟩)
        go_ret
        exact ⟨rfl, (h4.below.alloc _).trans hc5 (fun _ h => by cases h)⟩
      · have hl60 : ops[k].l.length ≤ 60 := by omega
        have h60d : decide (60 < (ops[k].l.length : Int)) = false := by simp; omega
        go_upto_block 2 with (fail)
        obtain ⟨W0, hW0⟩ : ∃ W0, W0 = wr.alloc (.cells #[.int .i64 ops[k].k, .int .i64 ops[k].o.1, .int .i64 ops[k].o.2, .slice A2 ops[k].l.length c2] 42) := ⟨_, rfl⟩
        have h5 : PSt w W0 p z r s s [wr.heap.size] := by rw [hW0]; exact h4.more ((Chg.refl _ _).alloc _) [wr.heap.size] (fun k hk => by obtain rfl := List.mem_singleton.1 hk; simp)
        have hbo : Blk W0 wr.heap.size 42 #[.int .i64 ops[k].k, .int .i64 ops[k].o.1, .int .i64 ops[k].o.2, .slice A2 ops[k].l.length c2] := by rw [hW0]; exact Blk.new wr 42 _
        rw [← hW0]
        clear hW0 h4 x0 x1 x2 x3 hg hro
        generalize wr.heap.size = o at h5 hbo ⊢
        generalize ops[k].k = kk at hbo ⊢
        generalize ops[k].o.1 = ox at hbo ⊢
        generalize ops[k].o.2 = oy at hbo ⊢
        generalize ops[k].l = L at hbo hro0 hl60 h60d h60 HV ⊢
        clear h60 HV
        go_cut [] from 53 to 146 (fun wc => ∃ s', PSt w wc p z r s' s' [])
        case rest =>
          obtain ⟨s', h6⟩ := hcut
          go_wp2_with (go_at_call 35; refine (pp_all h6).mono ?_; rintro e W7 ⟨⟨A7, c7, rfl, hs7, h7⟩, hk7⟩)
          refine (rp_all h7).mono ?_
          rintro e W8 ⟨⟨A8, c8, rfl, hr8, h8⟩, hk8⟩
          have hs8 : SO W8 (.slice A7 s'.length c7) s' := hk8.so hs7 (fun k hk => by rw [hk]; simp)
          have hlens := h8.lens
          have hsame := hide (rsame_any hs8.ro hr8 (by omega))
          have hsl : s'.length ≤ 64 := by omega
          clear hlens
          go_wp2_with (go_at_call 18; refine hsame.out.mono ?_; rintro e W9 ⟨rfl, hc9⟩)
          have hs9 := Sl.chg hs8 hc9 (fun _ _ h => by cases h)
          have h9 := h8.chg hc9
          refine (pp_len h9).mono ?_
          rintro e W10 ⟨rfl, h10, hk10⟩
          have hs10 : SO W10 (.slice A7 s'.length c7) s' := hk10.so hs9 (fun k hk => by rw [hk]; simp)
          go_wp2_with (go_at_call 36; refine (rp_all h10).mono ?_; rintro e W11 ⟨⟨A11, c11, rfl, _, h11⟩, hk11⟩)
          have hs11 : SO W11 (.slice A7 s'.length c7) s' := hk11.so hs10 (fun k hk => by rw [hk]; simp)
          go_loopw [164] (fun i wi => ∃ (j : Nat) (l' : List Ob), j ≤ s'.length ∧ i = .int .i64 j ∧ l'.length = s'.length ∧ SO wi (Value.slice A7 s'.length c7) l' ∧ PSt w wi p z r s' s' ((Value.slice A7 s'.length c7).ownBlock.toList ++ [])) (fun i _ => s'.length - (intOf i).toNat)
          case atStart => exact ⟨0, _, Nat.zero_le _, rfl, rfl, hs11, h11⟩
          case round =>
            obtain ⟨j, l', hj, rfl, hll, hso, hps⟩ := hrel
            by_cases hjt : j < s'.length
            · obtain ⟨g3, o3, rfl⟩ := SO.addr hso (by omega)
              obtain ⟨e0, q0⟩ : ∃ e0, wr.cell? ⟨g3, o3 + j * 2, none⟩ = some (.int .i64 e0) := ⟨_, (RO.cellsN hso.ro (k := j) (by omega)).1⟩
              obtain ⟨e1, q1⟩ : ∃ e1, wr.cell? ⟨g3, o3 + j * 2 + 1, none⟩ = some (.int .i64 e1) := ⟨_, (RO.cellsN hso.ro (k := j) (by omega)).2⟩
              have q2 := SO.frozen hso (o3 + j * 2 + 1)
              have Hll := hide hll
              clear hll
              go_wp2_with fail
              go_roundw
              case rel => exact ⟨j + 1, _, by omega, by go_num, by rw [List.length_set]; exact Hll.out, SO.set1 hso (by rw [Hll.out]; exact hjt) _, PSt.over (g := g3) hps ((Chg.refl _ _).setCell (.inl (by simp)) _) (by simp [Value.ownBlock])⟩
              case measure => simp [intOf]; omega
            · have Hll := hide hll
              clear hll
              go_wp2_with fail
              go_roundw
              case rel => exact ⟨k + 1, s', by omega, by go_num, hps.less (fun _ h => by cases h)⟩
              case measure => simp [intOf]; omega
        case first =>
          have b0 := hbo.cell 0
          have b1 := hbo.cell 1
          have b2 := hbo.cell 2
          have b3 := hbo.cell 3
          simp at b0 b1 b2 b3
          have bl := hbo.lt
          by_cases hk0 : kk = 0
          · subst hk0
            go_wp2_with fail
            refine wp_region_t [0,0,5,6,0,0,5,3,0] (List.replicate 9 none) (fun W => Blk W o 42 #[.int .i64 0, .int .i64 ox, .int .i64 oy, .slice A2 L.length c2]) (by kernel_rfl) (by kernel_rfl) (by kernel_rfl) ?_
            go_wp2_with (first | (refine wpG_hload 28 _ rfl rfl (fun w' hw' => load_ob2 (x := ox) (y := oy) (by simpa using Blk.cell hw' 1) (by simpa using Blk.cell hw' 2)) hbo.drew ?_; go_simp) | (refine wpG_calc rfl (fun K hK => ?_)) | (refine wpG_skip ?_ ?_; (focus (simp [wantG]; done)); go_simp) | (refine wpG_take ?_ ?_; (focus (simp [wantG]; done))) | (refine wpG_pure (fun K hK => ?_); go_simp; refine hK _ _ ?_; clear hK K) | (refine wpG_deed (by decide) (fun K hK => ?_); go_simp) | (refine wpG_nil ?_))
            refine wpG_keeps hbo.drew (fun K hK => ?_)
            go_simp
            refine (pp_put (h5.chg ((Chg.refl _ _).drew)) ox oy).mono ?_
            rintro e W1 ⟨rfl, h6, hk6⟩
            have hbo1 := hk6.blk hbo.drew (List.mem_singleton.2 rfl)
            refine hK _ _ hbo1 ?_
            clear hK K
            go_wp2_with (first | (refine wpG_hload 28 _ rfl rfl (fun w' hw' => load_ob2 (x := ox) (y := oy) (by simpa using Blk.cell hw' 1) (by simpa using Blk.cell hw' 2)) hbo1 ?_; go_simp) | (go_at_call 29; refine (rp_put h6 ox oy).mono ?_; rintro e W2 ⟨rfl, h7, hk7⟩) | (refine wpG_calc rfl (fun K hK => ?_)) | (refine wpG_skip ?_ ?_; (focus (simp [wantG]; done)); go_simp) | (refine wpG_take ?_ ?_; (focus (simp [wantG]; done))) | (refine wpG_pure (fun K hK => ?_); go_simp; refine hK _ _ ?_; clear hK K) | (refine wpG_deed (by decide) (fun K hK => ?_); go_simp) | (refine wpG_nil ?_))
            go_meet
            case rel => exact ⟨_, h7.less (fun _ h => by cases h)⟩
          by_cases hk1 : kk = 1
          · subst hk1
            go_wp2_with (go_at_call 25; refine (pp_get h5).mono ?_; rintro e W1 ⟨rfl, h6, hk6⟩)
            have h6' := h6.more ((Chg.refl [] W1).alloc (.cells #[.int .i64 (getO s).1, .int .i64 (getO s).2] 28)) [W1.heap.size] (fun k hk => by obtain rfl := List.mem_singleton.1 hk; simp)
            have bq := Blk.new W1 28 #[.int .i64 (getO s).1, .int .i64 (getO s).2]
            generalize W1.alloc (.cells #[.int .i64 (getO s).1, .int .i64 (getO s).2] 28) = W2 at h6' bq ⊢
            generalize W1.heap.size = o9 at h6' bq ⊢
            refine (rp_get h6').mono ?_
            rintro e W3 ⟨rfl, h7, hk7⟩
            have bq3 := hk7.blk bq (by simp)
            have q0 := bq3.cell 0
            have q1 := bq3.cell 1
            have ql := bq3.lt
            simp at q0 q1
            go_wp2_with fail
            go_meet
            case rel => exact ⟨_, (h7.chg ((Chg.refl _ _).alloc _)).less (fun _ h => by cases h)⟩
          by_cases hk2 : kk = 2
          · subst hk2
            have hroW0 : RO W0 (.slice A2 L.length c2) L := Rd.chg hro0 h5.below (fun _ _ h => by cases h)
            have e2 : ([] : List Ob).length + L.length = L.length := by simp
            have He2 := hide e2
            clear e2
            go_wp2_with (at_builtin; refine wpList_append_ob rfl _ _ rfl (.slice (some ⟨W0.heap.size, 0, none⟩) 0 0) (.slice A2 L.length c2) rfl rfl (SO_nil_new W0) (Rd.alloc hroW0 _) (by simp; omega) ?_; intro A3 c3 W3 hs3 hc3 ho3)
            rw [He2.out] at hs3 ho3
            rw [List.nil_append] at hs3
            have hcW : Chg [] W0 W3 := ((Chg.refl [] W0).alloc _).trans hc3 (fun k hk => .inr (by simp [Value.ownBlock] at hk; omega))
            have h6 : PSt w W3 p z r s s ((Value.slice A3 L.length c3).ownBlock.toList ++ [o]) := h5.more hcW _ (fun k hk => by
              have hk' : (Value.slice A3 L.length c3).ownBlock = some k := by simpa using hk
              refine ⟨?_, Sl.lt hs3 k hk'⟩
              rcases ho3 with e | e
              · rw [hk'] at e; simp [Value.ownBlock] at e; omega
              · rw [hk'] at e; simp at e; omega)
            have hbo3 := hbo.chg hcW List.not_mem_nil
            refine wp_region_t [0,0,6,0,0,5,3,0] (List.replicate 8 none) (fun W => Blk W o 42 #[.int .i64 2, .int .i64 ox, .int .i64 oy, .slice A2 L.length c2]) (by kernel_rfl) (by kernel_rfl) (by kernel_rfl) ?_
            go_wp2_with (first | fail | (refine wpG_calc rfl (fun K hK => ?_)) | (refine wpG_skip ?_ ?_; (focus (simp [wantG]; done)); go_simp) | (refine wpG_take ?_ ?_; (focus (simp [wantG]; done))) | (refine wpG_pure (fun K hK => ?_); go_simp; refine hK _ _ ?_; clear hK K) | (refine wpG_deed (by decide) (fun K hK => ?_); go_simp) | (refine wpG_nil ?_))
            refine wpG_keeps hbo3.drew (fun K hK => ?_)
            go_simp
            refine (pp_load (h6.chg ((Chg.refl _ _).drew)) (Rd.drew hs3.ro) (by omega)).mono ?_
            rintro e W4 ⟨rfl, h7, hk7⟩
            have hbo4 := hk7.blk hbo3.drew (by simp)
            have hs4 : SO W4 (.slice A3 L.length c3) L := hk7.so (Sl.drew hs3) (fun k hk => by rw [hk]; simp)
            refine hK _ _ hbo4 ?_
            clear hK K
            have hro4 : RO W4 (.slice A2 L.length c2) L := Rd.chg hro0 h7.below (fun _ _ h => by cases h)
            go_wp2_with (first | (refine wpG_hload 22 _ rfl rfl (fun w' hw' => load_slice Try.underlying22 (by simpa using Blk.cell hw' 3)) hbo4 ?_; go_simp) | (go_at_call 32; refine (rp_load h7 hro4).mono ?_; rintro e W5 ⟨rfl, h8, hk8⟩) | (refine wpG_calc rfl (fun K hK => ?_)) | (refine wpG_skip ?_ ?_; (focus (simp [wantG]; done)); go_simp) | (refine wpG_take ?_ ?_; (focus (simp [wantG]; done))) | (refine wpG_pure (fun K hK => ?_); go_simp; refine hK _ _ ?_; clear hK K) | (refine wpG_deed (by decide) (fun K hK => ?_); go_simp) | (refine wpG_nil ?_))
            have hs5 : SO W5 (.slice A3 L.length c3) L := hk8.so hs4 (fun k hk => by rw [hk]; simp)
            generalize (if loadE r s L = 0 then L else s) = s' at h8
            go_wp2_with fail
            go_loopw [100] (fun i wi => ∃ (j : Nat) (l' : List Ob), j ≤ L.length ∧ i = .int .i64 j ∧ l'.length = L.length ∧ SO wi (Value.slice A3 L.length c3) l' ∧ PSt w wi p z r s' s' ((Value.slice A3 L.length c3).ownBlock.toList ++ [o])) (fun i _ => L.length - (intOf i).toNat)
            case atStart => exact ⟨0, _, Nat.zero_le _, rfl, rfl, hs5, h8⟩
            case round =>
              obtain ⟨j, l', hj, rfl, hll, hso, hps⟩ := hrel
              by_cases hjt : j < L.length
              · obtain ⟨g3, o3, rfl⟩ := SO.addr hso (by omega)
                obtain ⟨e0, q0⟩ : ∃ e0, wr.cell? ⟨g3, o3 + j * 2, none⟩ = some (.int .i64 e0) := ⟨_, (RO.cellsN hso.ro (k := j) (by omega)).1⟩
                obtain ⟨e1, q1⟩ : ∃ e1, wr.cell? ⟨g3, o3 + j * 2 + 1, none⟩ = some (.int .i64 e1) := ⟨_, (RO.cellsN hso.ro (k := j) (by omega)).2⟩
                have q2 := SO.frozen hso (o3 + j * 2)
                have Hll := hide hll
                clear hll
                go_wp2_with fail
                go_roundw
                case rel => exact ⟨j + 1, _, by omega, by go_num, by rw [List.length_set]; exact Hll.out, SO.set0 hso (by rw [Hll.out]; exact hjt) _, PSt.over (g := g3) hps ((Chg.refl _ _).setCell (.inl (by simp)) _) (by simp [Value.ownBlock])⟩
                case measure => simp [intOf]; omega
              · have Hll := hide hll
                clear hll
                go_wp2_with fail
                go_meet
                case rel => exact ⟨_, hps.less (fun _ h => by cases h)⟩
          by_cases hk3 : kk = 3
          · subst hk3
            by_cases hfull : s.length = 2 * r
            · go_wp2_with (go_at_call 33; refine (pp_unload h5 hfull).mono ?_; rintro e W1 ⟨⟨A3, c3, rfl, hs3, h6⟩, hk6⟩)
              refine (rp_unload h6 hfull).mono ?_
              rintro e W2 ⟨⟨A4, c4, rfl, hs4, h7⟩, hk7⟩
              have hs3' : SO W2 (.slice A3 r c3) (s.take r) := hk7.so hs3 (fun k hk => by rw [hk]; simp)
              have elt : (s.take r).length = r := by rw [List.length_take]; omega
              have hsame := hide (rsame_any hs3'.ro hs4 (by rw [elt]; omega))
              have Hlt := hide elt
              clear elt hfull
              go_wp2_with (go_at_call 18; refine hsame.out.mono ?_; rintro e W5 ⟨rfl, hc5⟩)
              have hs5 := Sl.chg hs3' hc5 (fun _ _ h => by cases h)
              have h8 := h7.chg hc5
              generalize s.drop r = s' at h8
              go_loopw [135] (fun i wi => ∃ (j : Nat) (l' : List Ob), j ≤ r ∧ i = .int .i64 j ∧ l'.length = r ∧ SO wi (Value.slice A3 r c3) l' ∧ PSt w wi p z r s' s' ((Value.slice A3 r c3).ownBlock.toList ++ [o])) (fun i _ => r - (intOf i).toNat)
              case atStart => exact ⟨0, _, Nat.zero_le _, rfl, Hlt.out, hs5, h8⟩
              case round =>
                obtain ⟨j, l', hj, rfl, hll, hso, hps⟩ := hrel
                by_cases hjt : j < r
                · obtain ⟨g3, o3, rfl⟩ := SO.addr hso (by omega)
                  obtain ⟨e0, q0⟩ : ∃ e0, wr.cell? ⟨g3, o3 + j * 2, none⟩ = some (.int .i64 e0) := ⟨_, (RO.cellsN hso.ro (k := j) (by omega)).1⟩
                  obtain ⟨e1, q1⟩ : ∃ e1, wr.cell? ⟨g3, o3 + j * 2 + 1, none⟩ = some (.int .i64 e1) := ⟨_, (RO.cellsN hso.ro (k := j) (by omega)).2⟩
                  have q2 := SO.frozen hso (o3 + j * 2)
                  have Hll := hide hll
                  clear hll
                  go_wp2_with fail
                  go_roundw
                  case rel => exact ⟨j + 1, _, by omega, by go_num, by rw [List.length_set]; exact Hll.out, SO.set0 hso (by rw [Hll.out]; exact hjt) _, PSt.over (g := g3) hps ((Chg.refl _ _).setCell (.inl (by simp)) _) (by simp [Value.ownBlock])⟩
                  case measure => simp [intOf]; omega
                · have Hll := hide hll
                  clear hll
                  go_wp2_with fail
                  go_meet
                  case rel => exact ⟨_, hps.less (fun _ h => by cases h)⟩
            · have hlt2 : s.length < 2 * r := by have := h5.lens.1; omega
              clear hfull
              go_wp2_with (go_at_call 33; refine (pp_unload_no h5 hlt2).mono ?_; rintro e W1 ⟨rfl, rfl⟩)
              refine (rp_unload_no h5 hlt2).mono ?_
              rintro e W2 ⟨rfl, h7, hk7⟩
              have hnil : RO W2 (.slice none 0 0) [] := Rd.nil W2 2 0 none
              have hsame := hide (rsame_any hnil hnil (by simp))
              go_wp2_with (go_at_call 18; refine hsame.out.mono ?_; rintro e W5 ⟨rfl, hc5⟩)
              have h8 := h7.chg hc5
              have hs5 : SO W5 (.slice none 0 0) [] := Sl.nil _ _ _
              go_loopw [135] (fun i wi => ∃ (j : Nat) (l' : List Ob), j ≤ 0 ∧ i = .int .i64 j ∧ l'.length = 0 ∧ SO wi (Value.slice none 0 0) l' ∧ PSt w wi p z r s s ((Value.slice none 0 0).ownBlock.toList ++ [o])) (fun i _ => 0 - (intOf i).toNat)
              case atStart => exact ⟨0, _, Nat.zero_le _, rfl, rfl, hs5, h8⟩
              case round =>
                obtain ⟨j, l', hj, rfl, hll, hso, hps⟩ := hrel
                by_cases hjt : j < 0
                · exact absurd hjt (by omega)
                · go_wp2_with fail
                  go_meet
                  case rel => exact ⟨_, hps.less (fun _ h => by cases h)⟩
          · go_wp2_with fail
            go_meet
            case rel => exact ⟨_, h5.less (fun _ h => by cases h)⟩
    · have hkn : ¬ k < ops.length := hlt
      go_wp2_with fail
      refine (pp_all h4).mono ?_
      rintro e W7 ⟨⟨A7, c7, rfl, hs7, h7⟩, hk7⟩
      go_wp2_with fail
      refine (rp_all h7).mono ?_
      rintro e W8 ⟨⟨A8, c8, rfl, hr8, h8⟩, hk8⟩
      have hs8 : SO W8 (.slice A7 s.length c7) s := hk8.so hs7 (fun k hk => by rw [hk]; simp)
      have hlens := h8.lens
      have hsame := hide (rsame_any hs8.ro hr8 (by omega))
      clear hlens
      go_wp2_with (first | (go_at_call 18; refine hsame.out.mono ?_; rintro e W9 ⟨rfl, hc9⟩) | (go_at_call 22; refine (known_any _).mono ?_; rintro e W10 ⟨rfl, hc10⟩))
      go_ret
      exact ⟨rfl, (h8.below.trans hc9 (fun _ h => by cases h)).trans hc10 (fun _ h => by cases h)⟩
end Go.Proofs.Ytbmdcfeiecmlpaa
