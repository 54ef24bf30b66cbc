import Derived.Test.YtmgjknlpcnakiaaArO
namespace Go.Proofs.Ytmgjknlpcnakiaa
open Go Go.RowKit Go.Shelf
attribute [local go_sem] Oper.semAt_some

set_option maxRecDepth 20000 in
set_option maxHeartbeats 2000000 in
theorem back_any {w : World} {v : Value} {ops : List AO} (hl : RA w v ops) (page count g : Int) : Calls Try.prog 4 #[v, .int .i64 page, .int .i64 count, .int .u8 g] w fun e w' => e = .returned (.bool true) ∧ Chg [] w w' := by
  obtain ⟨A, c, rfl⟩ := hl.form
  have HN := hide (ast_new (N := []) (Chg.refl [] w) (by simp))
  have Hl := hide hl
  clear hl
  refine calls_marks Try.func4 rfl ?_
  simp only [Try.ntmps4, List.size_toArray, List.length_cons, List.length_nil, Nat.reduceAdd, Nat.reduceSub, Array.replicate_succ, Array.replicate_zero, List.push_toArray, List.append_toArray, List.nil_append, List.cons_append]
  go_wp2_with fail
  refine HN.out.mono ?_
  rintro e W1 ⟨d, rfl, h1, -, -⟩
  clear HN
  by_cases hbig : 100 < ops.length
  · go_wp2_with fail
    refine (known_any W1).mono ?_
    rintro e W2 ⟨rfl, hc2⟩
    go_wp2_with fail
    exact post_marks (Ds := []) ⟨List.nodup_nil, by simp⟩ fun W' hc => ⟨by simp [results, Try.results4], rfl, (h1.stay hc2).chg.stay hc⟩
  have hlen : ops.length ≤ 100 := by omega
  have hd1 : decide (100 < (ops.length : Int)) = false := by simp; omega
  clear hbig
  go_wp2_with fail
  go_loopw [31] (fun i wr => ∃ (k : Nat) (l : List Rn), k ≤ ops.length ∧ i = .int .i64 k ∧ ASt w wr d l []) (fun i _ => ops.length - (intOf i).toNat)
  case atStart => exact ⟨0, [], by omega, rfl, h1⟩
  case round =>
    obtain ⟨k, l, hk, rfl, h2⟩ := hrel
    clear h1
    by_cases hlt : k < ops.length
    · have hr := Hl.out.stay h2.chg
      obtain ⟨g0, off, rfl⟩ := RE.addr hr (by omega)
      obtain ⟨q0, q1, q2, q3, hgl⟩ := RA.cells hr hlt
      have HP := hide (play_any h2 ops[k])
      generalize ops[k] = o at q0 q1 q2 q3 HP
      clear hr
      go_wp2_with (go_at_call 11; refine HP.out.mono ?_; rintro e W2 ⟨rfl, h3, -⟩)
      go_roundw
      case rel => exact ⟨k + 1, _, by omega, by go_num, h3⟩
      case measure => simp [intOf]; omega
    · clear Hl
      have h3 := h2.more (M := [wr.heap.size, wr.heap.size + 1]) (((Chg.refl [] wr).alloc (.cells #[.slice none 0 0] 38)).alloc (.cells #[.slice none 0 0] 38)) (by simp; omega)
      have hb1 : Blk ((wr.alloc (.cells #[.slice none 0 0] 38)).alloc (.cells #[.slice none 0 0] 38)) wr.heap.size 38 #[.slice none 0 0] := (Blk.new wr 38 _).alloc _
      have hb2 : Blk ((wr.alloc (.cells #[.slice none 0 0] 38)).alloc (.cells #[.slice none 0 0] 38)) (wr.heap.size + 1) 38 #[.slice none 0 0] := by
        have := Blk.new (wr.alloc (.cells #[.slice none 0 0] 38)) 38 #[.slice none 0 0]
        rwa [World.size_alloc] at this
      have hsz := h2.chg.size
      go_wp2_with fail
      generalize (wr.alloc (.cells #[.slice none 0 0] 38)).alloc (.cells #[.slice none 0 0] 38) = W0 at h3 hb1 hb2 ⊢
      have hne : wr.heap.size ≠ wr.heap.size + 1 := by omega
      generalize hb1e : wr.heap.size + 1 = b2 at h3 hb2 hne ⊢
      have hsz2 : w.heap.size ≤ b2 := by omega
      generalize wr.heap.size = b1 at h3 hb1 hne hsz ⊢
      clear hb1e h2
      refine (runs_any _ W0).mono ?_
      rintro e W2 ⟨rfl, -, hc2⟩
      have fnil := fn_nil
      go_wp2_with fail
      refine (runs_any _ W2).mono ?_
      rintro e W3 ⟨rfl, hbx, hc3⟩
      have h4 := (h3.stay hc2).stay hc3
      have hb1' := (hb1.chg hc2 List.not_mem_nil).chg hc3 List.not_mem_nil
      have hb2' := (hb2.chg hc2 List.not_mem_nil).chg hc3 List.not_mem_nil
      have hll := h4.sp.len
      clear h3 hb1 hb2 hc2 hc3
      go_wp2_with fail
      refine wp_collect (b1 := b1) (q0 := 13) (L0 := []) rfl hbx h4.choose_spec.1 (by omega) (by simp) hb1' (SE.nil _ _ _ _) ?assign ?body ?done
      case assign =>
        intro j r W K hK
        unfold rv
        gi_wp2
        exact hK
      case body =>
        rintro j B r A n c L W Q' hb hB hs hL hK
        have x0 := hb.cell 0
        simp at x0
        obtain ⟨z0, z1, z2, z3⟩ := box3 hB
        have hbl := hb.lt
        have HL : Hid (L.length + [r].length ≤ 1000000) := hide (by simp; omega)
        have Hb := hide hb
        have Hs := hide hs
        clear hb hs hB
        unfold rv
        gi_wp2_with (gi_at_builtin; refine wpListIn_append_rn rfl _ _ rfl (.slice A n c) _ rfl rfl (Hs.out.stay ((Chg.refl _ _).alloc _)) (RR_one W r.p r.c r.g) HL.out ?_; intro A9 n9 c9 W9 hn9 hs9 hc9 hg9; have hb9 := (Hb.out.alloc _).chg hc9 (blk_off (Sl.alloc Hs.out _) (Hb.out.alloc (.cells #[.int .i64 r.p, .int .i64 r.c, .int .u8 r.g] 30)) (by decide)); have y0 := hb9.cell 0; have y1 := hb9.frozen 0; simp at y0)
        exact hK _ _ _ _ _ hs9 (((Chg.refl [] W).alloc _).then_ hc9) (hg9.of_le (by simp))
      case done =>
        rintro D W A n c hDw hdf hDn hb hs hc hgr
        rw [List.nil_append] at hs
        have hDl : D < W.heap.size := (Array.getElem?_eq_some_iff.1 hdf).1
        have hsz3 := h4.chg.size
        have h5 : ASt w W d l ((D :: own (.slice A n c)) ++ [b1, b2]) := h4.grow (hc.mono (fun x hx => .inl (by
          rcases List.mem_cons.1 hx with rfl | hx
          · simp
          · exact (own_nil hx).elim))) (by simp; omega) (fun k hk => by
          rcases List.mem_cons.1 hk with rfl | hk
          · exact ⟨hDw, hDl⟩
          · exact ⟨(hgr k hk).elim (fun h => (own_nil h).elim) id, hs.own_lt k hk⟩)
        have hb25 : Blk W b2 38 #[.slice none 0 0] := hb2'.chg hc (by simp [own, Value.ownBlock]; omega)
        obtain ⟨y, hy⟩ : ∃ y, mapE l page count g = y := ⟨_, rfl⟩
        have HM := hide (ast_map h5 page count g hy rfl)
        clear h4 hb1' hb2' hc hgr hbx
        by_cases hy0 : y = 0
        · subst hy0
          obtain ⟨k1, k2, k3, k4⟩ := law_back h5.sp hy
          generalize mapR l page count g = m at HM k1 k2 k3
          have HK1 := hide k1
          have HK2 := hide k2
          have HK3 := hide k3
          have HK4 := hide k4
          clear hy k1 k2 k3 k4 h5
          go_wp2_with fail
          refine HM.out.mono ?_
          rintro e W4 ⟨rfl, h6, hk6⟩
          go_wp2_with fail
          refine (ast_md h6 page count HK1.out).mono ?_
          rintro e W5 ⟨rfl, hc7⟩
          have h7 := h6.stay hc7
          go_wp2_with fail
          refine (ast_un h7 page count HK2.out HK3.out).mono ?_
          rintro e W6 ⟨rfl, h8, hk8⟩
          go_wp2_with fail
          refine (ast_md h8 page 1 HK4.out).mono ?_
          rintro e W7 ⟨rfl, hc9⟩
          have h9 := h8.stay hc9
          have keepB : ∀ {b T : Nat} {cs : Array Value}, b ∈ (D :: own (.slice A n c)) ++ [b1, b2] → Blk W b T cs → Blk W7 b T cs := fun hbN hB => (hk8.blk ((hk6.blk hB hbN).chg hc7 List.not_mem_nil) hbN).chg hc9 List.not_mem_nil
          have hb7 : Blk W7 b1 38 #[.slice A n c] := keepB (by simp) hb
          have hb27 : Blk W7 b2 38 #[.slice none 0 0] := keepB (by simp) hb25
          have hs7 : SR W7 (.slice A n c) l := by
            have hN : ∀ k, (Value.slice A n c).ownBlock = some k → k ∈ (D :: own (.slice A n c)) ++ [b1, b2] := fun k hk => by simp [own, hk]
            have h1 : SR W4 (.slice A n c) l := hk6.sl hs hN
            have h2 : SR W6 (.slice A n c) l := hk8.sl (h1.stay hc7) hN
            exact h2.stay hc9
          have hd7 : W7.heap[D]? = some (.deferred (some [])) := by
            have e1 := (hk6 D (by simp)).trans hdf
            have e2 := (hc7.block D (Array.getElem?_eq_some_iff.1 e1).1 List.not_mem_nil).trans e1
            have e3 := (hk8 D (by simp)).trans e2
            exact (hc9.block D (Array.getElem?_eq_some_iff.1 e3).1 List.not_mem_nil).trans e3
          clear h6 h7 h8 hk6 hk8 hc7 hc9 keepB HM hdf hb hb25 hs
          go_wp2_with fail
          refine (runs_any _ W7).mono ?_
          rintro e W8 ⟨rfl, -, hc10⟩
          go_wp2_with fail
          refine (runs_any _ W8).mono ?_
          rintro e W9 ⟨rfl, hbx, hc11⟩
          have hc12 := hc10.stay hc11
          have h10 := h9.stay hc12
          have hb10 := hb7.chg hc12 List.not_mem_nil
          have hb210 := hb27.chg hc12 List.not_mem_nil
          have hs10 := hs7.stay hc12
          have hd10 : W9.heap[D]? = some (.deferred (some [])) := (hc12.block D (Array.getElem?_eq_some_iff.1 hd7).1 List.not_mem_nil).trans hd7
          clear h9 hc10 hc11 hc12 hb7 hb27 hs7 hd7
          go_wp2_with fail
          refine wp_collect (b1 := b2) (q0 := 14) (L0 := []) rfl hbx h10.choose_spec.1 (by omega) (by simp) hb210 (SE.nil _ _ _ _) ?assign2 ?body2 ?done2
          case assign2 =>
            intro j r W K hK
            unfold rv
            gi_wp2
            exact hK
          case body2 =>
            rintro j B r A n c L W Q' hb hB hs hL hK
            have x0 := hb.cell 0
            simp at x0
            obtain ⟨z0, z1, z2, z3⟩ := box3 hB
            have hbl := hb.lt
            have HL : Hid (L.length + [r].length ≤ 1000000) := hide (by simp; omega)
            have Hb := hide hb
            have Hs := hide hs
            clear hb hs hB
            unfold rv
            gi_wp2_with (gi_at_builtin; refine wpListIn_append_rn rfl _ _ rfl (.slice A n c) _ rfl rfl (Hs.out.stay ((Chg.refl _ _).alloc _)) (RR_one W r.p r.c r.g) HL.out ?_; intro A9 n9 c9 W9 hn9 hs9 hc9 hg9; have hb9 := (Hb.out.alloc _).chg hc9 (blk_off (Sl.alloc Hs.out _) (Hb.out.alloc (.cells #[.int .i64 r.p, .int .i64 r.c, .int .u8 r.g] 30)) (by decide)); have y0 := hb9.cell 0; have y1 := hb9.frozen 0; simp at y0)
            exact hK _ _ _ _ _ hs9 (((Chg.refl [] W).alloc _).then_ hc9) (hg9.of_le (by simp))
          case done2 =>
            rintro D2 W' A2 n2 c2 hDw2 hdf2 hDn2 hb2 hs2 hc2 hgr2
            rw [List.nil_append] at hs2
            have hD9 : D < W9.heap.size := (Array.getElem?_eq_some_iff.1 hd10).1
            have hDb : D ≠ b2 := fun e => by
              have h1 : W9.heap[b2]? = some (.deferred (some [])) := e ▸ hd10
              have h2 : W9.heap[b2]? = _ := hb210
              rw [h1] at h2
              injection h2 with h2
              cases h2
            have hN2 : ∀ x, x ≠ b2 → x ∉ b2 :: own (Value.slice none 0 0) := fun x hx h => (List.mem_cons.1 h).elim hx (fun h => (own_nil h).elim)
            have hd : W'.heap[D]? = some (.deferred (some [])) := (hc2.block D hD9 (hN2 D hDb)).trans hd10
            have hs' : SR W' (.slice A n c) l := hs10.chg hc2 (fun k hk => hN2 k (fun e => by
              subst e
              exact blk_off hs10 hb210 (by decide) hk))
            have hb1' := hb10.chg hc2 (hN2 b1 hne)
            have hch : Chg [] w W' := h10.chg.trans hc2 (fun x hx => .inr (by
              rcases List.mem_cons.1 hx with rfl | hx
              · exact hsz2
              · exact (own_nil hx).elim))
            have hM : Marks [D2, D] W' := ⟨by simp; omega, fun E hE => by
              rcases List.mem_cons.1 hE with rfl | hE
              · exact hdf2
              · obtain rfl := List.mem_singleton.1 hE; exact hd⟩
            have e1 : n = l.length := by
              obtain ⟨A', c', e⟩ := hs'.form
              injection e
            have e2 : n2 = l.length := by
              obtain ⟨A', c', e⟩ := hs2.form
              injection e
            subst e1
            subst e2
            have x1 := hb1'.cell 0
            have x2 := hb2.cell 0
            simp at x1 x2
            have HM := hide hM
            have Hs1 := hide hs'
            have Hs2 := hide hs2
            clear hM hs' hs2 hb1' hb2 hd hdf2 hDn2 hgr2 hb10 hb210 hs10 hd10 h10 hbx
            go_wp2_with fail
            obtain ⟨wo, rfl⟩ : ∃ wo : World, wo = W' := ⟨_, rfl⟩
            go_loopw [93] (fun i wr => ∃ k : Nat, k ≤ l.length ∧ i = .int .i64 k ∧ Chg [] wo wr) (fun i _ => l.length - (intOf i).toNat)
            case atStart => exact ⟨0, by omega, rfl, Chg.refl _ _⟩
            case round =>
              obtain ⟨k, hk, rfl, hcr⟩ := hrel
              have y1 := hcr.cell x1 List.not_mem_nil
              have y2 := hcr.cell x2 List.not_mem_nil
              by_cases hkt : k < l.length
              · have hr1 := Hs1.out.stay hcr
                have hr2 := Hs2.out.stay hcr
                obtain ⟨g1, o1, rfl⟩ := SE.addr hr1 (by omega)
                obtain ⟨g2, o2, rfl⟩ := SE.addr hr2 (by omega)
                obtain ⟨p0, p1, p2⟩ := RR.cells hr1.re hkt
                obtain ⟨q0, q1, q2⟩ := RR.cells hr2.re hkt
                obtain ⟨r, hr⟩ : ∃ r, r = l[k] := ⟨_, rfl⟩
                rw [← hr] at p0 p1 p2 q0 q1 q2
                clear hr hr1 hr2
                go_wp2_with fail
                refine wp_region_t [1, 0, 0, 1, 1, 0, 0, 1, 0] [none, none, none, none, none, none, none, none, none] (fun _ => True) (by kernel_rfl) (by kernel_rfl) (by kernel_rfl) ?_
                go_wp2_with (first | (refine wpG_neq_rn _ _ _ rfl rfl rfl false (by simp) ?_) | (refine wpG_calc rfl (fun K hK => ?_)) | (refine wpG_skip ?_ ?_; (focus (simp [wantG]; done)); go_simp) | (refine wpG_take ?_ ?_; (focus (simp [wantG]; done))) | (refine wpG_pure (fun K hK => ?_); go_simp; refine hK _ _ ?_; clear hK K) | (refine wpG_deed (by decide) (fun K hK => ?_); go_simp) | (refine wpG_nil ?_))
                go_roundw
                case rel => exact ⟨k + 1, by omega, by go_num, hcr.drew⟩
                case measure => simp [intOf]; omega
              · go_wp2_with fail
                refine (known_any wr).mono ?_
                rintro e W20 ⟨rfl, hc20⟩
                go_wp2_with fail
                have hM20 : Marks [D2, D] W20 := ⟨HM.out.1, fun E hE => ((hcr.stay hc20).block E (Array.getElem?_eq_some_iff.1 (HM.out.2 E hE)).1 List.not_mem_nil).trans (HM.out.2 E hE)⟩
                refine post_marks (Ds := [D2, D]) hM20 fun W' hc => ⟨by simp [results, Try.results4], rfl, ((hch.stay hcr).stay hc20).trans hc (fun x hx => .inr ?_)⟩
                rcases List.mem_cons.1 hx with rfl | hx
                · omega
                · obtain rfl := List.mem_singleton.1 hx; omega
        · have hyb : (y == 0) = false := beq_eq_false_iff_ne.2 hy0
          clear hy hy0
          have HD := hide hdf
          clear hdf
          go_wp2_with fail
          refine HM.out.mono ?_
          rintro e W4 ⟨rfl, h6, hk6⟩
          go_wp2_with fail
          refine (known_any W4).mono ?_
          rintro e W20 ⟨rfl, hc20⟩
          go_wp2_with fail
          have hd4 : W4.heap[D]? = some (.deferred (some [])) := (hk6 D (by simp)).trans HD.out
          have hM20 : Marks [D] W20 := ⟨by simp, fun E hE => by
            obtain rfl := List.mem_singleton.1 hE
            exact (hc20.block _ (Array.getElem?_eq_some_iff.1 hd4).1 List.not_mem_nil).trans hd4⟩
          refine post_marks (Ds := [D]) hM20 fun W' hc => ⟨by simp [results, Try.results4], rfl, (h6.chg.stay hc20).trans hc (fun x hx => .inr ?_)⟩
          obtain rfl := List.mem_singleton.1 hx; omega
end Go.Proofs.Ytmgjknlpcnakiaa
