import Derived.Test.YtmgjknlpcnakiaaArS
import Derived.Test.YtmgjknlpcnakiaaArP
namespace Go.Proofs.Ytmgjknlpcnakiaa
open Go Go.RowKit Go.Shelf
attribute [local go_sem] Oper.semAt_some

def box4 (o : AO) : Array Value := #[.int .i64 o.k, .int .i64 o.p, .int .i64 o.c, .int .u8 o.g]
set_option maxRecDepth 20000 in
set_option maxHeartbeats 4000000 in
theorem either_any {w : World} {v : Value} {ops : List AO} (hl : RA w v ops) (a b : AO) : Calls Try.prog 5 #[v, .agg #[.int .i64 a.k, .int .i64 a.p, .int .i64 a.c, .int .u8 a.g], .agg #[.int .i64 b.k, .int .i64 b.p, .int .i64 b.c, .int .u8 b.g]] w fun e w' => e = .returned (.bool true) ∧ Chg [] w w' := by
  obtain ⟨A, c, rfl⟩ := hl.form
  have Hl := hide hl
  clear hl
  obtain ⟨ak, ap, ac, ag⟩ := a
  obtain ⟨bk, bp, bc, bg⟩ := b
  simp only
  obtain ⟨W0, hW0⟩ : ∃ W0, W0 = ((w.alloc (.cells #[.int .i64 ak, .int .i64 ap, .int .i64 ac, .int .u8 ag] 28)).alloc (.cells #[.int .i64 bk, .int .i64 bp, .int .i64 bc, .int .u8 bg] 28)).alloc (.cells #[.bool false] 4) := ⟨_, rfl⟩
  have hc0 : Chg [] w W0 := by rw [hW0]; exact (((Chg.refl _ _).alloc _).alloc _).alloc _
  have ha : Blk W0 w.heap.size 28 #[.int .i64 ak, .int .i64 ap, .int .i64 ac, .int .u8 ag] := by rw [hW0]; exact ((Blk.new w 28 _).alloc _).alloc _
  have hb : Blk W0 (w.heap.size + 1) 28 #[.int .i64 bk, .int .i64 bp, .int .i64 bc, .int .u8 bg] := by
    rw [hW0]
    have := Blk.new (w.alloc (.cells #[.int .i64 ak, .int .i64 ap, .int .i64 ac, .int .u8 ag] 28)) 28 #[.int .i64 bk, .int .i64 bp, .int .i64 bc, .int .u8 bg]
    rw [World.size_alloc] at this
    exact this.alloc _
  have hr : Blk W0 (w.heap.size + 1 + 1) 4 #[.bool false] := by
    rw [hW0]
    have := Blk.new ((w.alloc (.cells #[.int .i64 ak, .int .i64 ap, .int .i64 ac, .int .u8 ag] 28)).alloc (.cells #[.int .i64 bk, .int .i64 bp, .int .i64 bc, .int .u8 bg] 28)) 4 #[.bool false]
    rw [World.size_alloc, World.size_alloc] at this
    exact this
  have HW := hide hW0
  have HN := hide (ast_new (w := w) (W := W0) (N := [w.heap.size, w.heap.size + 1, w.heap.size + 1 + 1]) hc0 (by rw [hW0]; simp; omega))
  clear hW0
  refine calls_marks Try.func5 rfl ?_
  simp only [Try.ntmps5, List.size_toArray, List.length_cons, List.length_nil, Nat.reduceAdd, Nat.reduceSub, Array.replicate_succ, Array.replicate_zero, List.push_toArray, List.append_toArray, List.nil_append, List.cons_append]
  go_wp2_with fail
  rw [← HW.out]
  clear HW
  refine HN.out.mono ?_
  rintro e W1 ⟨d, rfl, h1, -, hc1⟩
  clear HN
  have hbr0 : w.heap.size ≤ w.heap.size + 1 + 1 := by omega
  have hbb0 : w.heap.size ≤ w.heap.size + 1 := by omega
  have hne : w.heap.size ≠ w.heap.size + 1 := by omega
  generalize w.heap.size + 1 + 1 = br at h1 hr hbr0 ⊢
  generalize w.heap.size + 1 = bb at h1 hb hbb0 hne ⊢
  obtain ⟨ba, hba⟩ : ∃ ba, w.heap.size = ba := ⟨_, rfl⟩
  rw [hba] at h1 ha hne ⊢
  go_wp2_with fail
  refine (a2_new h1).mono ?_
  rintro e W2 ⟨d2, rfl, h2, hc2⟩
  have hc12 := hc1.stay hc2
  have ha2 := ha.chg hc12 List.not_mem_nil
  have hb2 := hb.chg hc12 List.not_mem_nil
  have hr2 := hr.chg hc12 List.not_mem_nil
  clear h1 ha hb hr hc1 hc2 hc12 hc0
  by_cases hbig : 50 < ops.length
  · go_wp2_with fail
    refine (known_any W2).mono ?_
    rintro e W5 ⟨rfl, hc5⟩
    obtain ⟨z1, z2, z3⟩ := blk_res (hr2.chg hc5 List.not_mem_nil)
    have hch := h2.chg.stay hc5
    clear hr2 h2
    go_wp2_with fail
    exact post_marks (Ds := []) ⟨List.nodup_nil, by simp⟩ fun W' hc => ⟨res_box rfl rfl (z3.chg hc List.not_mem_nil), rfl, (hch.setCell (.inr hbr0) _).stay hc⟩
  have hlen : ops.length ≤ 50 := by omega
  have hd1 : decide (50 < (ops.length : Int)) = false := by simp; omega
  clear hbig
  go_wp2_with fail
  go_loopw [42] (fun i wr => ∃ (k : Nat) (l : List Rn), k ≤ ops.length ∧ i = .int .i64 k ∧ A2 w wr d l d2 l [ba, bb, br] ∧ Blk wr ba 28 #[.int .i64 ak, .int .i64 ap, .int .i64 ac, .int .u8 ag] ∧ Blk wr bb 28 #[.int .i64 bk, .int .i64 bp, .int .i64 bc, .int .u8 bg] ∧ Blk wr br 4 #[.bool false]) (fun i _ => ops.length - (intOf i).toNat)
  case atStart => exact ⟨0, [], by omega, rfl, h2, ha2, hb2, hr2⟩
  case round =>
    obtain ⟨k, l, hk, rfl, h3, ha3, hb3, hr3⟩ := hrel
    clear h2 ha2 hb2 hr2
    by_cases hlt : k < ops.length
    · have hr := Hl.out.stay h3.chg
      obtain ⟨g0, off, rfl⟩ := RE.addr hr (by omega)
      obtain ⟨q0, q1, q2, q3, hgl⟩ := RA.cells hr hlt
      have HR := hide hr
      have HP := hide (a2_play h3 ops[k])
      obtain ⟨o, ho⟩ : ∃ o, o = ops[k] := ⟨_, rfl⟩
      have HP2 := hide (fun W m (h : A2 w W d2 l d m [ba, bb, br]) => a2_play h o)
      rw [← ho] at q0 q1 q2 q3 HP
      have Ho := hide ho
      have Ha3 := hide ha3
      have Hb3 := hide hb3
      have Hr3 := hide hr3
      have Hh3 := hide h3
      clear hr ho ha3 hb3 hr3 h3
      go_wp2_with fail
      refine HP.out.mono ?_
      rintro e W4 ⟨rfl, h4, hk4⟩
      have ha4 := hk4.blk Ha3.out (by simp)
      have hb4 := hk4.blk Hb3.out (by simp)
      have hr4 := hk4.blk Hr3.out (by simp)
      have hr' := Hl.out.stay h4.chg
      obtain ⟨r0, r1, r2, r3, hgl'⟩ := RA.cells hr' hlt
      rw [← Ho.out] at r0 r1 r2 r3
      have Ha4 := hide ha4
      have Hb4 := hide hb4
      have Hr4 := hide hr4
      clear hr' q0 q1 q2 q3 hgl hk4 ha4 hb4 hr4 HP
      go_wp2_with fail
      refine (HP2.out _ _ h4.symm).mono ?_
      rintro e W5 ⟨rfl, h5, hk5⟩
      have ha5 := hk5.blk Ha4.out (by simp)
      have hb5 := hk5.blk Hb4.out (by simp)
      have hr5 := hk5.blk Hr4.out (by simp)
      clear HP2 hk5 h4
      go_wp2_with fail
      go_roundw
      case rel => exact ⟨k + 1, _, by omega, by go_num, h5.symm, ha5, hb5, hr5⟩
      case measure => simp [intOf]; omega
    · clear Hl
      obtain ⟨y1, hy1⟩ : ∃ y, mapE l ap ac ag = y := ⟨_, rfl⟩
      obtain ⟨l1, hl1⟩ : ∃ m, mapR l ap ac ag = m := ⟨_, rfl⟩
      obtain ⟨y2, hy2⟩ : ∃ y, mapE l1 bp bc bg = y := ⟨_, rfl⟩
      obtain ⟨l2, hl2⟩ : ∃ m, mapR l1 bp bc bg = m := ⟨_, rfl⟩
      obtain ⟨y3, hy3⟩ : ∃ y, mapE l bp bc bg = y := ⟨_, rfl⟩
      obtain ⟨m1, hm1⟩ : ∃ m, mapR l bp bc bg = m := ⟨_, rfl⟩
      obtain ⟨y4, hy4⟩ : ∃ y, mapE m1 ap ac ag = y := ⟨_, rfl⟩
      obtain ⟨m2, hm2⟩ : ∃ m, mapR m1 ap ac ag = m := ⟨_, rfl⟩
      have HE := hide (fun (e1 : y1 = 0) (e2 : y2 = 0) (e3 : y3 = 0) (e4 : y4 = 0) => (by
        subst e1; subst e2; subst e3; subst e4
        have := law_either h3.sp hy1 (by rw [hl1]; exact hy2) hy3 (by rw [hm1]; exact hy4)
        rw [hl1, hm1, hl2, hm2] at this
        exact this : l2 = m2))
      have H1 := hide (a2_map (h3.stay (Chg.refl [] wr).drew) ap ac ag hy1 hl1)
      have H2 := hide (fun W (h : A2 w W d l1 d2 l [ba, bb, br]) => a2_map h bp bc bg hy2 hl2)
      have H3 := hide (fun W (h : A2 w W d2 l d l2 [ba, bb, br]) => a2_map h bp bc bg hy3 hm1)
      have H4 := hide (fun W (h : A2 w W d2 m1 d l2 [ba, bb, br]) => a2_map h ap ac ag hy4 hm2)
      clear hy1 hl1 hy2 hl2 hy3 hm1 hy4 hm2
      obtain ⟨a1, a2, a3⟩ : wr.cell? ⟨ba, 1, none⟩ = some (.int .i64 ap) ∧ wr.cell? ⟨ba, 2, none⟩ = some (.int .i64 ac) ∧ wr.cell? ⟨ba, 3, none⟩ = some (.int .u8 ag) := ⟨by simpa using ha3.cell 1, by simpa using ha3.cell 2, by simpa using ha3.cell 3⟩
      go_wp2_with fail
      refine wp_region_t [0,0,1,0,1,0,1,6,0,0,5,0,5,0,5,3,0,0] (List.replicate 18 none) (fun W => Blk W bb 28 #[.int .i64 bk, .int .i64 bp, .int .i64 bc, .int .u8 bg]) (by kernel_rfl) (by kernel_rfl) (by kernel_rfl) ?_
      go_wp2_with (first | fail | (refine wpG_calc rfl (fun K hK => ?_)) | (refine wpG_skip ?_ ?_; (focus (simp [wantG]; done)); go_simp) | (refine wpG_take ?_ ?_; (focus (simp [wantG]; done))) | (refine wpG_pure (fun K hK => ?_); go_simp; refine hK _ _ ?_; clear hK K) | (refine wpG_deed (by decide) (fun K hK => ?_); go_simp) | (refine wpG_nil ?_))
      (refine wpG_keeps hb3.drew (fun K hK => ?_))
      go_simp
      refine H1.out.mono ?_
      rintro e W4 ⟨rfl, h4, hk4⟩
      have hb4 := hk4.blk hb3.drew (by simp)
      have ha4 := hk4.blk ha3.drew (by simp)
      have hr4 := hk4.blk hr3.drew (by simp)
      refine hK _ _ hb4 ?_
      clear hK K a1 a2 a3 h3 ha3 hb3 hr3 hk4 H1
      go_wp2_with (first | (refine wpG_hload 3 _ rfl rfl (fun w' hw' => load_int Try.underlying3 (by simpa using Blk.cell hw' 1)) hb4 ?_; go_simp) | (refine wpG_hload 3 _ rfl rfl (fun w' hw' => load_int Try.underlying3 (by simpa using Blk.cell hw' 2)) hb4 ?_; go_simp) | (refine wpG_hload 5 _ rfl rfl (fun w' hw' => load_int Try.underlying5 (by simpa using Blk.cell hw' 3)) hb4 ?_; go_simp) | (refine wpG_calc rfl (fun K hK => ?_)) | (refine wpG_skip ?_ ?_; (focus (simp [wantG]; done)); go_simp) | (refine wpG_take ?_ ?_; (focus (simp [wantG]; done))) | (refine wpG_pure (fun K hK => ?_); go_simp; refine hK _ _ ?_; clear hK K) | (refine wpG_deed (by decide) (fun K hK => ?_); go_simp) | (refine wpG_nil ?_))
      refine (H2.out _ h4).mono ?_
      rintro e W5 ⟨rfl, h5, hk5⟩
      have hb5 := hk5.blk hb4 (by simp)
      have ha5 := hk5.blk ha4 (by simp)
      have hr5 := hk5.blk hr4 (by simp)
      have h5' := h5.symm.stay (Chg.refl [] W5).drew
      clear h4 ha4 hb4 hr4 hk5 H2
      obtain ⟨b1, b2, b3⟩ : W5.cell? ⟨bb, 1, none⟩ = some (.int .i64 bp) ∧ W5.cell? ⟨bb, 2, none⟩ = some (.int .i64 bc) ∧ W5.cell? ⟨bb, 3, none⟩ = some (.int .u8 bg) := ⟨by simpa using hb5.cell 1, by simpa using hb5.cell 2, by simpa using hb5.cell 3⟩
      go_wp2_with (first | fail | (refine wpG_calc rfl (fun K hK => ?_)) | (refine wpG_skip ?_ ?_; (focus (simp [wantG]; done)); go_simp) | (refine wpG_take ?_ ?_; (focus (simp [wantG]; done))) | (refine wpG_pure (fun K hK => ?_); go_simp; refine hK _ _ ?_; clear hK K) | (refine wpG_deed (by decide) (fun K hK => ?_); go_simp) | (refine wpG_nil ?_))
      refine wp_region_t [0,0,1,0,1,0,1,6,0,0,5,0,5,0,5,3,0,0] (List.replicate 18 none) (fun W => Blk W ba 28 #[.int .i64 ak, .int .i64 ap, .int .i64 ac, .int .u8 ag]) (by kernel_rfl) (by kernel_rfl) (by kernel_rfl) ?_
      go_wp2_with (first | fail | (refine wpG_calc rfl (fun K hK => ?_)) | (refine wpG_skip ?_ ?_; (focus (simp [wantG]; done)); go_simp) | (refine wpG_take ?_ ?_; (focus (simp [wantG]; done))) | (refine wpG_pure (fun K hK => ?_); go_simp; refine hK _ _ ?_; clear hK K) | (refine wpG_deed (by decide) (fun K hK => ?_); go_simp) | (refine wpG_nil ?_))
      (refine wpG_keeps ha5.drew (fun K hK => ?_))
      go_simp
      refine (H3.out _ h5').mono ?_
      rintro e W6 ⟨rfl, h6, hk6⟩
      have ha6 := hk6.blk ha5.drew (by simp)
      have hr6 := hk6.blk hr5.drew (by simp)
      refine hK _ _ ha6 ?_
      clear hK K b1 b2 b3 h5 h5' ha5 hb5 hr5 hk6 H3
      go_wp2_with (first | (refine wpG_hload 3 _ rfl rfl (fun w' hw' => load_int Try.underlying3 (by simpa using Blk.cell hw' 1)) ha6 ?_; go_simp) | (refine wpG_hload 3 _ rfl rfl (fun w' hw' => load_int Try.underlying3 (by simpa using Blk.cell hw' 2)) ha6 ?_; go_simp) | (refine wpG_hload 5 _ rfl rfl (fun w' hw' => load_int Try.underlying5 (by simpa using Blk.cell hw' 3)) ha6 ?_; go_simp) | (refine wpG_calc rfl (fun K hK => ?_)) | (refine wpG_skip ?_ ?_; (focus (simp [wantG]; done)); go_simp) | (refine wpG_take ?_ ?_; (focus (simp [wantG]; done))) | (refine wpG_pure (fun K hK => ?_); go_simp; refine hK _ _ ?_; clear hK K) | (refine wpG_deed (by decide) (fun K hK => ?_); go_simp) | (refine wpG_nil ?_))
      refine (H4.out _ h6).mono ?_
      rintro e W7 ⟨rfl, h7, hk7⟩
      have hr7 := hk7.blk hr6 (by simp)
      clear h6 ha6 hr6 hk7 H4
      by_cases hall : y1 = 0 ∧ y2 = 0 ∧ y3 = 0 ∧ y4 = 0
      · obtain ⟨rfl, rfl, rfl, rfl⟩ := hall
        have e9 := HE.out rfl rfl rfl rfl
        subst e9
        clear HE
        have fnil := fn_nil
        have hl7 := h7.sp.len
        have hbn0 := Blk.new W7 38 #[.slice none 0 0]
        have h8 := h7.grow (M := [W7.heap.size]) (((Chg.refl [] W7).alloc (.cells #[.slice none 0 0] 38)).up _) (by simp; omega) (by simp)
        have hr8 := hr7.alloc (.cells #[.slice none 0 0] 38)
        have hs7 := h7.chg.size
        clear h7 hr7
        go_wp2_with (first | fail | (refine wpG_calc rfl (fun K hK => ?_)) | (refine wpG_skip ?_ ?_; (focus (simp [wantG]; done)); go_simp) | (refine wpG_take ?_ ?_; (focus (simp [wantG]; done))) | (refine wpG_pure (fun K hK => ?_); go_simp; refine hK _ _ ?_; clear hK K) | (refine wpG_deed (by decide) (fun K hK => ?_); go_simp) | (refine wpG_nil ?_))
        generalize W7.alloc (.cells #[.slice none 0 0] 38) = W8 at hbn0 h8 hr8 ⊢
        generalize W7.heap.size = bm at hbn0 h8 hs7 ⊢
        refine (runs_any _ W8).mono ?_
        rintro e W9 ⟨rfl, -, hc9⟩
        go_wp2_with fail
        refine (runs_any _ W9).mono ?_
        rintro e W10 ⟨rfl, hbx, hc10⟩
        have hc910 := hc9.stay hc10
        have h10 := h8.stay hc910
        have hbm10 := hbn0.chg hc910 List.not_mem_nil
        have hr10 := hr8.chg hc910 List.not_mem_nil
        clear h8 hbn0 hr8 hc9 hc10 hc910
        go_wp2_with fail
        refine wp_collect (b1 := bm) (q0 := 15) (L0 := []) rfl hbx h10.symm.fst.choose_spec.1 (by have := h10.symm.sp.len; omega) (by simp) hbm10 (SE.nil _ _ _ _) ?assign ?body ?done
        case assign =>
          intro j r W K hK
          unfold rv
          gi_wp2
          exact hK
        case body =>
          rintro j B r A n c L W Q' hb hB hs hL hK
          have x0 := hb.cell 0
          simp at x0
          obtain ⟨z0, z1, z2, z3⟩ := box3 hB
          have hbl := hb.lt
          have HL : Hid (L.length + [r].length ≤ 1000000) := hide (by simp; omega)
          have Hb := hide hb
          have Hs := hide hs
          clear hb hs hB
          unfold rv
          gi_wp2_with (gi_at_builtin; refine wpListIn_append_rn rfl _ _ rfl (.slice A n c) _ rfl rfl (Hs.out.stay ((Chg.refl _ _).alloc _)) (RR_one W r.p r.c r.g) HL.out ?_; intro A9 n9 c9 W9 hn9 hs9 hc9 hg9; have hb9 := (Hb.out.alloc _).chg hc9 (blk_off (Sl.alloc Hs.out _) (Hb.out.alloc (.cells #[.int .i64 r.p, .int .i64 r.c, .int .u8 r.g] 30)) (by decide)); have y0 := hb9.cell 0; have y1 := hb9.frozen 0; simp at y0)
          exact hK _ _ _ _ _ hs9 (((Chg.refl [] W).alloc _).then_ hc9) (hg9.of_le (by simp))
        case done =>
          rintro D W A1 n1 c1 hDw hdf hDn hbm hs hc hgr
          rw [List.nil_append] at hs
          have hDl : D < W.heap.size := (Array.getElem?_eq_some_iff.1 hdf).1
          have hs10 := h10.chg.size
          have hbm10l := hbm10.lt
          have e1 : n1 = l2.length := by
            obtain ⟨A', c', e⟩ := hs.form
            injection e
          subst e1
          have hN2 : ∀ x, x ≠ bm → x ∉ bm :: own (Value.slice none 0 0) := fun x hx h => (List.mem_cons.1 h).elim hx (fun h => (own_nil h).elim)
          have h11 := h10.grow (M := D :: own (.slice A1 l2.length c1)) (hc.mono (fun x hx => .inl (by
            rcases List.mem_cons.1 hx with rfl | hx
            · simp
            · exact (own_nil hx).elim))) (by simp; omega) (fun k hk => by
            rcases List.mem_cons.1 hk with rfl | hk
            · exact ⟨hDw, hDl⟩
            · exact ⟨(hgr k hk).elim (fun h => (own_nil h).elim) id, hs.own_lt k hk⟩)
          have hr11 := hr10.chg hc (hN2 br (hr10.ne_ hbm10 (by decide)))
          have hc12 : Chg [] W (W.alloc (.cells #[.int .i64 ((0 : Nat) : Int)] 3)) := (Chg.refl [] W).alloc _
          have hbn := Blk.new W 3 #[.int .i64 ((0 : Nat) : Int)]
          have h12 := h11.stay hc12
          have hr12 := hr11.chg hc12 List.not_mem_nil
          have hs12 := hs.stay hc12
          have hbm12 := hbm.chg hc12 List.not_mem_nil
          have hd12 : (W.alloc (.cells #[.int .i64 ((0 : Nat) : Int)] 3)).heap[D]? = some (.deferred (some [])) := (hc12.block D hDl List.not_mem_nil).trans hdf
          have hll2 : l2.length ≤ 32 := h12.sp.len
          have hwW : w.heap.size ≤ W.heap.size := h11.chg.size
          have hbnown : W.heap.size ∉ own (.slice A1 l2.length c1) := fun h => by have := hs.own_lt _ h; omega
          clear h10 hr10 hbm10 hdf hbm hs hc hgr h11 hr11 hc12 hDn hbx
          go_wp2_with fail
          simp only [Int.natCast_zero] at hbn h12 hr12 hs12 hbm12 hd12
          generalize W.alloc (.cells #[.int .i64 0] 3) = W12 at hbn h12 hr12 hs12 hbm12 hd12 ⊢
          generalize W.heap.size = bn at hbn hwW hbnown hDl ⊢
          refine (runs_any _ W12).mono ?_
          rintro e W13 ⟨rfl, -, hc13⟩
          go_wp2_with fail
          refine (runs_any _ W13).mono ?_
          rintro e W14 ⟨rfl, hbx, hc14⟩
          have hcc := hc13.stay hc14
          have h14 := h12.stay hcc
          have hr14 := hr12.chg hcc List.not_mem_nil
          have hs14 := hs12.stay hcc
          have hbm14 := hbm12.chg hcc List.not_mem_nil
          have hbn14 := hbn.chg hcc List.not_mem_nil
          have hd14 : W14.heap[D]? = some (.deferred (some [])) := (hcc.block D (Array.getElem?_eq_some_iff.1 hd12).1 List.not_mem_nil).trans hd12
          clear h12 hr12 hs12 hbm12 hbn hd12 hc13 hc14 hcc
          go_wp2_with fail
          refine wp_count (bn := bn) (q0 := 17) rfl hbx h14.fst.choose_spec.1 (by omega) hbn14 ?assign2 ?body2 ?done2
          case assign2 =>
            intro j r W K hK
            unfold rv
            gi_wp2
            exact hK
          case body2 =>
            rintro j B k hk W' Q' hQ' hc hbk hB hK
            have hs9 := hs14.chg hc (fun x hx h => hbnown (by obtain rfl := List.mem_singleton.1 h; exact hx))
            have hm9 := hbm14.chg hc (by simp; exact hbm14.ne_ hbn14 (by decide))
            obtain ⟨g1, o1, rfl⟩ := SE.addr hs9 (by omega)
            obtain ⟨q0, q1, q2⟩ := RR.cells hs9.re hk
            obtain ⟨t0, t1, t2, t3⟩ := box3 hB
            have n0 := hbk.cell 0
            have n1 := hbk.frozen 0
            have m0 := hm9.cell 0
            simp at n0 m0
            obtain ⟨r, hr⟩ : ∃ r, r = l2[k] := ⟨_, rfl⟩
            rw [← hr] at q0 q1 q2 t0 t1 t2 hB ⊢
            have hld := load_rn (w := W'.drew) q0 q1 q2
            have hld2 := load_rn (w := W'.drew) t0 t1 t2
            have hkd : decide (l2.length ≤ k) = false := decide_eq_false (by omega)
            have hkd2 : decide ((l2.length : Int) ≤ (k : Int)) = false := decide_eq_false (by omega)
            have HQ := hide hQ'
            clear hQ' hr hs9 hm9 hB
            unfold rv
            gi_wp2
            refine wpIn_region_g [1,1,0,0,0,1,1,1,0,1,0,0] [none, none, none, none, none, some (125, false), some (125, false), some (125, false), some (125, false), some (125, false), some (125, false), none] (fun _ => True) (by kernel_rfl) (by kernel_rfl) (by kernel_rfl) (by kernel_rfl) (fun ⟨_, _, h⟩ => HQ.out ⟨_, _, h⟩) ?_
            go_wp2_with (first | (refine wpG_neq_rn _ _ _ rfl rfl rfl false (by simp) ?_) | (refine wpG_calc rfl (fun K hK => ?_)) | (refine wpG_skip ?_ ?_; (focus (simp [wantG]; done)); go_simp) | (refine wpG_take ?_ ?_; (focus (simp [wantG]; done))) | (refine wpG_pure (fun K hK => ?_); go_simp; refine hK _ _ ?_; clear hK K) | (refine wpG_deed (by decide) (fun K hK => ?_); go_simp) | (refine wpG_nil ?_))
            gi_wp2
            exact hK _ _ (Chg.refl [] W').drew
          case done2 =>
            rintro D2 W' hDw2 hdf2 hbk hc
            have n0 := hbk.cell 0
            simp at n0
            have m0 := (hbm14.chg hc (by simp; exact hbm14.ne_ hbn14 (by decide))).cell 0
            simp at m0
            have hD14 : D < W14.heap.size := (Array.getElem?_eq_some_iff.1 hd14).1
            have hDbn : D ∉ [bn] := fun h => by
              obtain rfl := List.mem_singleton.1 h
              omega
            have hd' : W'.heap[D]? = some (.deferred (some [])) := (hc.block D hD14 hDbn).trans hd14
            have hr' := hr14.chg hc (by simp; exact hr14.ne_ hbn14 (by decide))
            have hch : Chg [] w W' := h14.chg.trans hc (fun x hx => .inr (by obtain rfl := List.mem_singleton.1 hx; exact hwW))
            have hs14' := h14.chg.size
            have HD := hide hd'
            have HD2 := hide hdf2
            clear hd' hdf2 h14 hr14 hs14 hbm14 hbn14 hd14 hbk hc hbx
            go_wp2_with fail
            refine (known_any W').mono ?_
            rintro e W20 ⟨rfl, hc20⟩
            obtain ⟨z1, z2, z3⟩ := blk_res (hr'.chg hc20 List.not_mem_nil)
            have hM0 : ∀ E ∈ [D2, D], W20.heap[E]? = some (.deferred (some [])) := fun E hE => by
              rcases List.mem_cons.1 hE with rfl | hE
              · exact (hc20.block _ (Array.getElem?_eq_some_iff.1 HD2.out).1 List.not_mem_nil).trans HD2.out
              · obtain rfl := List.mem_singleton.1 hE
                exact (hc20.block _ (Array.getElem?_eq_some_iff.1 HD.out).1 List.not_mem_nil).trans HD.out
            have hEbr : ∀ E ∈ [D2, D], E ≠ br := fun E hE e => by
              have h1 := hM0 E hE
              rw [e] at h1
              have h2 := z1
              unfold World.cell? at h2
              simp [h1] at h2
            have HM0 := hide hM0
            clear hM0
            go_wp2_with fail
            exact post_marks (Ds := [D2, D]) ⟨by simp; omega, fun E hE => (Below.heap_setCell W20 ⟨br, 0, none⟩ _ E (hEbr E hE)).trans (HM0.out E hE)⟩ fun W' hc => ⟨res_box rfl rfl (z3.chg hc (fun h => hEbr br h rfl)), rfl, ((hch.stay hc20).setCell (.inr hbr0) _).trans hc (fun x hx => .inr (by
              rcases List.mem_cons.1 hx with rfl | hx
              · omega
              · obtain rfl := List.mem_singleton.1 hx; omega))⟩
      · go_wp2_with (first | fail | (refine wpG_calc rfl (fun K hK => ?_)) | (refine wpG_skip ?_ ?_; (focus (simp [wantG]; done)); go_simp) | (refine wpG_take ?_ ?_; (focus (simp [wantG]; done))) | (refine wpG_pure (fun K hK => ?_); go_simp; refine hK _ _ ?_; clear hK K) | (refine wpG_deed (by decide) (fun K hK => ?_); go_simp) | (refine wpG_nil ?_))
        all_goals first
        | (refine (known_any W7).mono ?_
           rintro e W20 ⟨rfl, hc20⟩
           obtain ⟨z1, z2, z3⟩ := blk_res (hr7.chg hc20 List.not_mem_nil)
           have hch := h7.chg.stay hc20
           clear hr7 h7
           go_wp2_with fail
           exact post_marks (Ds := []) ⟨List.nodup_nil, by simp⟩ fun W' hc => ⟨res_box rfl rfl (z3.chg hc List.not_mem_nil), rfl, (hch.setCell (.inr hbr0) _).stay hc⟩)
        | (exact absurd ⟨by assumption, by assumption, by assumption, by assumption⟩ hall)
end Go.Proofs.Ytmgjknlpcnakiaa
