/- AreasPlays: the walk. -/
import Derived.Test.YtmgjknlpcnakiaaRfE
namespace Go.Proofs.Ytmgjknlpcnakiaa
open Go Go.RowKit Go.Shelf
attribute [local go_sem] Oper.semAt_some

theorem ps_new {w W : World} {d : Nat} (h : ASt w W d [] []) : PSt w (W.alloc (.cells (pg (fun _ => 0)) 48)) d [] W.heap.size [] [] where
  st := h.more (M := [W.heap.size]) ((Chg.refl [] W).alloc _) (by simp)
  pa := Blk.new W 48 _
  sp := Sp.nil
  hb := h.chg.size
  hN := by simp
set_option maxRecDepth 20000 in
set_option maxHeartbeats 4000000 in
theorem plays_any {w : World} {v : Value} {ops : List AO} (hl : RA w v ops) : Calls Try.prog 7 #[v] w fun e w' => e = .returned (.bool true) ∧ Chg [] w w' := by
  obtain ⟨A, c, rfl⟩ := hl.form
  have HN := hide (ast_new (w := w) (W := w) (N := []) (Chg.refl [] w) (by simp))
  have Hl := hide hl
  clear hl
  go_enter Try.func7, Try.ntmps7
  go_wp2_with fail
  refine HN.out.mono ?_
  rintro e W1 ⟨d, rfl, h1, -, hc1⟩
  clear HN hc1
  have h2 := ps_new h1
  have hch1 := h1.chg
  clear h1
  by_cases hbig : 150 < ops.length
  · have hd1 : decide (150 < (ops.length : Int)) = true := by simp; omega
    go_wp2_with (first | (refine wpList_build48 rfl rfl ?_))
    refine (known_any _).mono ?_
    rintro e W5 ⟨rfl, hc5⟩
    have hch := h2.chg.stay hc5
    clear h2
    go_wp2_with fail
    go_ret
    exact ⟨rfl, hch⟩
  have hlen : ops.length ≤ 150 := by omega
  have hd1 : decide (150 < (ops.length : Int)) = false := by simp; omega
  clear hbig
  go_wp2_with (first | (refine wpList_build48 rfl rfl ?_))
  generalize W1.alloc (.cells (pg (fun _ => 0)) 48) = W2 at h2 ⊢
  generalize W1.heap.size = b at h2 ⊢
  go_loopw [3, 30] (fun v i wr => ∃ (k : Nat) (d : Nat) (l : List Rn), k ≤ ops.length ∧ v = .pointer (some ⟨d, 0, none⟩) ∧ i = .int .i64 k ∧ PSt w wr d l b l []) (fun _ i _ => ops.length - (intOf i).toNat)
  case atStart => exact ⟨0, d, [], by omega, rfl, rfl, h2⟩
  case round =>
    obtain ⟨k, d', l, hk, rfl, rfl, h3⟩ := hrel
    clear h2
    by_cases hlt : k < ops.length
    · have hrd := Hl.out.stay h3.chg
      obtain ⟨g0, off, rfl⟩ := RE.addr hrd (by omega)
      obtain ⟨q0, q1, q2, q3, hgl⟩ := RA.cells hrd hlt
      generalize ops[k] = o at q0 q1 q2 q3
      obtain ⟨ok, op, oc, og⟩ := o
      simp only at q0 q1 q2 q3
      clear hrd
      have hc4 : Chg [] wr (wr.alloc (.cells #[.int .i64 ok, .int .i64 op, .int .i64 oc, .int .u8 og] 28)) := (Chg.refl [] wr).alloc _
      have h4 := h3.more (bo := wr.heap.size) hc4 (by omega) (by simp)
      have hbo := Blk.new wr 28 #[.int .i64 ok, .int .i64 op, .int .i64 oc, .int .u8 og]
      clear h3 hc4
      by_cases k1 : ok = 1
      · subst k1
        go_wp2_with fail
        generalize wr.alloc (.cells #[.int .i64 1, .int .i64 op, .int .i64 oc, .int .u8 og] 28) = W3 at h4 hbo ⊢
        generalize wr.heap.size = bo at h4 hbo ⊢
        obtain ⟨y, hy⟩ : ∃ y, mapE l op oc og = y := ⟨_, rfl⟩
        have hboD := hbo.drew
        have h4D := hide (h4.stay (Chg.refl [] W3).drew)
        refine wp_region_t [0,0,5,0,5,0,5,6,0,0,5,0,5,0,5,6,0,0] (List.replicate 18 none) (fun W => Blk W bo 28 #[.int .i64 1, .int .i64 op, .int .i64 oc, .int .u8 og]) (by kernel_rfl) (by kernel_rfl) (by kernel_rfl) ?_
        go_wp2_with (first | (refine wpG_hload 3 _ rfl rfl (fun w' hw' => load_int Try.underlying3 (by simpa using Blk.cell hw' 1)) hboD ?_; go_simp) | (refine wpG_hload 3 _ rfl rfl (fun w' hw' => load_int Try.underlying3 (by simpa using Blk.cell hw' 2)) hboD ?_; go_simp) | (refine wpG_hload 5 _ rfl rfl (fun w' hw' => load_int Try.underlying5 (by simpa using Blk.cell hw' 3)) hboD ?_; go_simp) | (refine wpG_calc rfl (fun K hK => ?_)) | (refine wpG_skip ?_ ?_; (focus (simp [wantG]; done)); go_simp) | (refine wpG_take ?_ ?_; (focus (simp [wantG]; done))) | (refine wpG_pure (fun K hK => ?_); go_simp; refine hK _ _ ?_; clear hK K) | (refine wpG_deed (by decide) (fun K hK => ?_); go_simp) | (refine wpG_nil ?_))
        (refine wpG_keeps hboD (fun K hK => ?_))
        go_simp
        refine (ps_map h4D.out op oc og).mono ?_
        rintro e W5 ⟨rfl, h5, hk5⟩
        have hb5 := hk5.blk hboD (List.mem_singleton.2 rfl)
        refine hK _ _ hb5 ?_
        clear hK K
        have h5D := hide h5
        clear h5
        rw [hy]
        go_wp2_with (first | (refine wpG_hload 3 _ rfl rfl (fun w' hw' => load_int Try.underlying3 (by simpa using Blk.cell hw' 1)) hb5 ?_; go_simp) | (refine wpG_hload 3 _ rfl rfl (fun w' hw' => load_int Try.underlying3 (by simpa using Blk.cell hw' 2)) hb5 ?_; go_simp) | (refine wpG_hload 5 _ rfl rfl (fun w' hw' => load_int Try.underlying5 (by simpa using Blk.cell hw' 3)) hb5 ?_; go_simp) | (refine wpG_calc rfl (fun K hK => ?_)) | (refine wpG_skip ?_ ?_; (focus (simp [wantG]; done)); go_simp) | (refine wpG_take ?_ ?_; (focus (simp [wantG]; done))) | (refine wpG_pure (fun K hK => ?_); go_simp; refine hK _ _ ?_; clear hK K) | (refine wpG_deed (by decide) (fun K hK => ?_); go_simp) | (refine wpG_nil ?_))
        (refine wpG_keeps hb5 (fun K hK => ?_))
        go_simp
        refine (ps_rmap h5D.out op oc og).mono ?_
        rintro e W6 ⟨rfl, h7, hk6⟩
        have hb6 := hk6.blk hb5 (List.mem_singleton.2 rfl)
        refine hK _ _ hb6 ?_
        clear hK K
        rw [hy]
        go_wp2_with (first | fail | (refine wpG_calc rfl (fun K hK => ?_)) | (refine wpG_skip ?_ ?_; (focus (simp [wantG]; done)); go_simp) | (refine wpG_take ?_ ?_; (focus (simp [wantG]; done))) | (refine wpG_pure (fun K hK => ?_); go_simp; refine hK _ _ ?_; clear hK K) | (refine wpG_deed (by decide) (fun K hK => ?_); go_simp) | (refine wpG_nil ?_))
        refine (ps_same h7).mono ?_
        rintro e W8 ⟨rfl, h8, -⟩
        go_wp2_with fail
        go_roundw
        case rel => exact ⟨k + 1, d', _, by omega, rfl, by go_num, h8.less⟩
        case measure => simp [intOf]; omega
      have j1 : (ok == 1) = false := beq_eq_false_iff_ne.2 k1
      by_cases k2 : ok = 2
      · subst k2
        go_wp2_with fail
        generalize wr.alloc (.cells #[.int .i64 2, .int .i64 op, .int .i64 oc, .int .u8 og] 28) = W3 at h4 hbo ⊢
        generalize wr.heap.size = bo at h4 hbo ⊢
        obtain ⟨y, hy⟩ : ∃ y, unE l op oc = y := ⟨_, rfl⟩
        have hboD := hbo.drew
        have h4D := hide (h4.stay (Chg.refl [] W3).drew)
        refine wp_region_t [0,0,5,0,5,6,0,0,5,0,5,6,0,0] (List.replicate 14 none) (fun W => Blk W bo 28 #[.int .i64 2, .int .i64 op, .int .i64 oc, .int .u8 og]) (by kernel_rfl) (by kernel_rfl) (by kernel_rfl) ?_
        go_wp2_with (first | (refine wpG_hload 3 _ rfl rfl (fun w' hw' => load_int Try.underlying3 (by simpa using Blk.cell hw' 1)) hboD ?_; go_simp) | (refine wpG_hload 3 _ rfl rfl (fun w' hw' => load_int Try.underlying3 (by simpa using Blk.cell hw' 2)) hboD ?_; go_simp) | (refine wpG_hload 5 _ rfl rfl (fun w' hw' => load_int Try.underlying5 (by simpa using Blk.cell hw' 3)) hboD ?_; go_simp) | (refine wpG_calc rfl (fun K hK => ?_)) | (refine wpG_skip ?_ ?_; (focus (simp [wantG]; done)); go_simp) | (refine wpG_take ?_ ?_; (focus (simp [wantG]; done))) | (refine wpG_pure (fun K hK => ?_); go_simp; refine hK _ _ ?_; clear hK K) | (refine wpG_deed (by decide) (fun K hK => ?_); go_simp) | (refine wpG_nil ?_))
        (refine wpG_keeps hboD (fun K hK => ?_))
        go_simp
        refine (ps_un h4D.out op oc).mono ?_
        rintro e W5 ⟨rfl, h5, hk5⟩
        have hb5 := hk5.blk hboD (List.mem_singleton.2 rfl)
        refine hK _ _ hb5 ?_
        clear hK K
        have h5D := hide h5
        clear h5
        rw [hy]
        go_wp2_with (first | (refine wpG_hload 3 _ rfl rfl (fun w' hw' => load_int Try.underlying3 (by simpa using Blk.cell hw' 1)) hb5 ?_; go_simp) | (refine wpG_hload 3 _ rfl rfl (fun w' hw' => load_int Try.underlying3 (by simpa using Blk.cell hw' 2)) hb5 ?_; go_simp) | (refine wpG_hload 5 _ rfl rfl (fun w' hw' => load_int Try.underlying5 (by simpa using Blk.cell hw' 3)) hb5 ?_; go_simp) | (refine wpG_calc rfl (fun K hK => ?_)) | (refine wpG_skip ?_ ?_; (focus (simp [wantG]; done)); go_simp) | (refine wpG_take ?_ ?_; (focus (simp [wantG]; done))) | (refine wpG_pure (fun K hK => ?_); go_simp; refine hK _ _ ?_; clear hK K) | (refine wpG_deed (by decide) (fun K hK => ?_); go_simp) | (refine wpG_nil ?_))
        (refine wpG_keeps hb5 (fun K hK => ?_))
        go_simp
        refine (ps_run h5D.out op oc).mono ?_
        rintro e W6 ⟨rfl, h7, hk6⟩
        have hb6 := hk6.blk hb5 (List.mem_singleton.2 rfl)
        refine hK _ _ hb6 ?_
        clear hK K
        rw [hy]
        go_wp2_with (first | fail | (refine wpG_calc rfl (fun K hK => ?_)) | (refine wpG_skip ?_ ?_; (focus (simp [wantG]; done)); go_simp) | (refine wpG_take ?_ ?_; (focus (simp [wantG]; done))) | (refine wpG_pure (fun K hK => ?_); go_simp; refine hK _ _ ?_; clear hK K) | (refine wpG_deed (by decide) (fun K hK => ?_); go_simp) | (refine wpG_nil ?_))
        refine (ps_same h7).mono ?_
        rintro e W8 ⟨rfl, h8, -⟩
        go_wp2_with fail
        go_roundw
        case rel => exact ⟨k + 1, d', _, by omega, rfl, by go_num, h8.less⟩
        case measure => simp [intOf]; omega
      have j2 : (ok == 2) = false := beq_eq_false_iff_ne.2 k2
      by_cases k3 : ok = 3
      · subst k3
        go_wp2_with fail
        generalize wr.alloc (.cells #[.int .i64 3, .int .i64 op, .int .i64 oc, .int .u8 og] 28) = W3 at h4 hbo ⊢
        generalize wr.heap.size = bo at h4 hbo ⊢
        obtain ⟨y, hy⟩ : ∃ y, prE l op oc og = y := ⟨_, rfl⟩
        have hboD := hbo.drew
        have h4D := hide (h4.stay (Chg.refl [] W3).drew)
        refine wp_region_t [0,0,5,0,5,0,5,6,0,0,5,0,5,0,5,6,0,0] (List.replicate 18 none) (fun W => Blk W bo 28 #[.int .i64 3, .int .i64 op, .int .i64 oc, .int .u8 og]) (by kernel_rfl) (by kernel_rfl) (by kernel_rfl) ?_
        go_wp2_with (first | (refine wpG_hload 3 _ rfl rfl (fun w' hw' => load_int Try.underlying3 (by simpa using Blk.cell hw' 1)) hboD ?_; go_simp) | (refine wpG_hload 3 _ rfl rfl (fun w' hw' => load_int Try.underlying3 (by simpa using Blk.cell hw' 2)) hboD ?_; go_simp) | (refine wpG_hload 5 _ rfl rfl (fun w' hw' => load_int Try.underlying5 (by simpa using Blk.cell hw' 3)) hboD ?_; go_simp) | (refine wpG_calc rfl (fun K hK => ?_)) | (refine wpG_skip ?_ ?_; (focus (simp [wantG]; done)); go_simp) | (refine wpG_take ?_ ?_; (focus (simp [wantG]; done))) | (refine wpG_pure (fun K hK => ?_); go_simp; refine hK _ _ ?_; clear hK K) | (refine wpG_deed (by decide) (fun K hK => ?_); go_simp) | (refine wpG_nil ?_))
        (refine wpG_keeps hboD (fun K hK => ?_))
        go_simp
        refine (ps_pr h4D.out op oc og).mono ?_
        rintro e W5 ⟨rfl, h5, hk5⟩
        have hb5 := hk5.blk hboD (List.mem_singleton.2 rfl)
        refine hK _ _ hb5 ?_
        clear hK K
        have h5D := hide h5
        clear h5
        rw [hy]
        go_wp2_with (first | (refine wpG_hload 3 _ rfl rfl (fun w' hw' => load_int Try.underlying3 (by simpa using Blk.cell hw' 1)) hb5 ?_; go_simp) | (refine wpG_hload 3 _ rfl rfl (fun w' hw' => load_int Try.underlying3 (by simpa using Blk.cell hw' 2)) hb5 ?_; go_simp) | (refine wpG_hload 5 _ rfl rfl (fun w' hw' => load_int Try.underlying5 (by simpa using Blk.cell hw' 3)) hb5 ?_; go_simp) | (refine wpG_calc rfl (fun K hK => ?_)) | (refine wpG_skip ?_ ?_; (focus (simp [wantG]; done)); go_simp) | (refine wpG_take ?_ ?_; (focus (simp [wantG]; done))) | (refine wpG_pure (fun K hK => ?_); go_simp; refine hK _ _ ?_; clear hK K) | (refine wpG_deed (by decide) (fun K hK => ?_); go_simp) | (refine wpG_nil ?_))
        (refine wpG_keeps hb5 (fun K hK => ?_))
        go_simp
        refine (ps_rpr h5D.out op oc og).mono ?_
        rintro e W6 ⟨rfl, h7, hk6⟩
        have hb6 := hk6.blk hb5 (List.mem_singleton.2 rfl)
        refine hK _ _ hb6 ?_
        clear hK K
        rw [hy]
        go_wp2_with (first | fail | (refine wpG_calc rfl (fun K hK => ?_)) | (refine wpG_skip ?_ ?_; (focus (simp [wantG]; done)); go_simp) | (refine wpG_take ?_ ?_; (focus (simp [wantG]; done))) | (refine wpG_pure (fun K hK => ?_); go_simp; refine hK _ _ ?_; clear hK K) | (refine wpG_deed (by decide) (fun K hK => ?_); go_simp) | (refine wpG_nil ?_))
        refine (ps_same h7).mono ?_
        rintro e W8 ⟨rfl, h8, -⟩
        go_wp2_with fail
        go_roundw
        case rel => exact ⟨k + 1, d', _, by omega, rfl, by go_num, h8.less⟩
        case measure => simp [intOf]; omega
      have j3 : (ok == 3) = false := beq_eq_false_iff_ne.2 k3
      by_cases k4 : ok = 4
      · subst k4
        go_wp2_with fail
        generalize wr.alloc (.cells #[.int .i64 4, .int .i64 op, .int .i64 oc, .int .u8 og] 28) = W3 at h4 hbo ⊢
        generalize wr.heap.size = bo at h4 hbo ⊢
        obtain ⟨y, hy⟩ : ∃ y, mdE l op oc = y := ⟨_, rfl⟩
        have hboD := hbo.drew
        have h4D := hide (h4.stay (Chg.refl [] W3).drew)
        refine wp_region_t [0,0,5,0,5,6,0,0,5,0,5,6,0,0] (List.replicate 14 none) (fun W => Blk W bo 28 #[.int .i64 4, .int .i64 op, .int .i64 oc, .int .u8 og]) (by kernel_rfl) (by kernel_rfl) (by kernel_rfl) ?_
        go_wp2_with (first | (refine wpG_hload 3 _ rfl rfl (fun w' hw' => load_int Try.underlying3 (by simpa using Blk.cell hw' 1)) hboD ?_; go_simp) | (refine wpG_hload 3 _ rfl rfl (fun w' hw' => load_int Try.underlying3 (by simpa using Blk.cell hw' 2)) hboD ?_; go_simp) | (refine wpG_hload 5 _ rfl rfl (fun w' hw' => load_int Try.underlying5 (by simpa using Blk.cell hw' 3)) hboD ?_; go_simp) | (refine wpG_calc rfl (fun K hK => ?_)) | (refine wpG_skip ?_ ?_; (focus (simp [wantG]; done)); go_simp) | (refine wpG_take ?_ ?_; (focus (simp [wantG]; done))) | (refine wpG_pure (fun K hK => ?_); go_simp; refine hK _ _ ?_; clear hK K) | (refine wpG_deed (by decide) (fun K hK => ?_); go_simp) | (refine wpG_nil ?_))
        (refine wpG_keeps hboD (fun K hK => ?_))
        go_simp
        refine (ps_md h4D.out op oc).mono ?_
        rintro e W5 ⟨rfl, h5, hk5⟩
        have hb5 := hboD.chg hk5 List.not_mem_nil
        refine hK _ _ hb5 ?_
        clear hK K
        have h5D := hide h5
        clear h5
        rw [hy]
        go_wp2_with (first | (refine wpG_hload 3 _ rfl rfl (fun w' hw' => load_int Try.underlying3 (by simpa using Blk.cell hw' 1)) hb5 ?_; go_simp) | (refine wpG_hload 3 _ rfl rfl (fun w' hw' => load_int Try.underlying3 (by simpa using Blk.cell hw' 2)) hb5 ?_; go_simp) | (refine wpG_hload 5 _ rfl rfl (fun w' hw' => load_int Try.underlying5 (by simpa using Blk.cell hw' 3)) hb5 ?_; go_simp) | (refine wpG_calc rfl (fun K hK => ?_)) | (refine wpG_skip ?_ ?_; (focus (simp [wantG]; done)); go_simp) | (refine wpG_take ?_ ?_; (focus (simp [wantG]; done))) | (refine wpG_pure (fun K hK => ?_); go_simp; refine hK _ _ ?_; clear hK K) | (refine wpG_deed (by decide) (fun K hK => ?_); go_simp) | (refine wpG_nil ?_))
        (refine wpG_keeps hb5 (fun K hK => ?_))
        go_simp
        refine (ps_rmd h5D.out op oc).mono ?_
        rintro e W6 ⟨rfl, rfl⟩
        have hb6 := hb5; have h7 := h5D.out
        refine hK _ _ hb6 ?_
        clear hK K
        rw [hy]
        go_wp2_with (first | fail | (refine wpG_calc rfl (fun K hK => ?_)) | (refine wpG_skip ?_ ?_; (focus (simp [wantG]; done)); go_simp) | (refine wpG_take ?_ ?_; (focus (simp [wantG]; done))) | (refine wpG_pure (fun K hK => ?_); go_simp; refine hK _ _ ?_; clear hK K) | (refine wpG_deed (by decide) (fun K hK => ?_); go_simp) | (refine wpG_nil ?_))
        refine (ps_same h7).mono ?_
        rintro e W8 ⟨rfl, h8, -⟩
        go_wp2_with fail
        go_roundw
        case rel => exact ⟨k + 1, d', _, by omega, rfl, by go_num, h8.less⟩
        case measure => simp [intOf]; omega
      have j4 : (ok == 4) = false := beq_eq_false_iff_ne.2 k4
      by_cases k5 : ok = 5
      · subst k5
        go_wp2_with fail
        generalize wr.alloc (.cells #[.int .i64 5, .int .i64 op, .int .i64 oc, .int .u8 og] 28) = W3 at h4 hbo ⊢
        generalize wr.heap.size = bo at h4 hbo ⊢
        obtain ⟨y, hy⟩ : ∃ y, rt l op = y := ⟨_, rfl⟩
        obtain ⟨z, hz⟩ : ∃ z, hasB l op = z := ⟨_, rfl⟩
        refine (ps_rights h4 op).mono ?_
        rw [hy, hz]
        rintro e W5 ⟨rfl, h5, hk5⟩
        have hb5 := hbo.chg hk5 List.not_mem_nil
        have t1 := hb5.cell 1
        simp at t1
        go_wp2_with fail
        refine (ps_rrights h5 op).mono ?_
        rw [hy, hz]
        rintro e W6 ⟨rfl, rfl⟩
        have h7 := h5
        clear h4 h5 hbo hb5
        go_wp2_with fail
        refine (ps_same h7).mono ?_
        rintro e W8 ⟨rfl, h8, -⟩
        go_wp2_with fail
        go_roundw
        case rel => exact ⟨k + 1, d', _, by omega, rfl, by go_num, h8.less⟩
        case measure => simp [intOf]; omega
      have j5 : (ok == 5) = false := beq_eq_false_iff_ne.2 k5
      by_cases k6 : ok = 6
      · subst k6
        go_wp2_with fail
        generalize wr.alloc (.cells #[.int .i64 6, .int .i64 op, .int .i64 oc, .int .u8 og] 28) = W3 at h4 hbo ⊢
        generalize wr.heap.size = bo at h4 hbo ⊢
        refine (ps_copy h4).mono ?_
        rintro en W5 ⟨e, rfl, a5, p5, hk5⟩
        have hb5 := hbo.chg hk5 List.not_mem_nil
        go_wp2_with fail
        refine (a2_un a5 0 1024 rfl rfl).mono ?_
        rintro en W6 ⟨rfl, a6, hk6⟩
        have p6 := hk6.blk p5 (by simp)
        have hb6 := hk6.blk hb5 (by simp)
        have t1 := hb6.cell 1
        simp at t1
        clear a5 p5 hb5
        go_wp2_with fail
        refine (a2_map a6 op 1 1 rfl rfl).mono ?_
        rintro en W7 ⟨rfl, a7, hk7⟩
        have p7 := hk7.blk p6 (by simp)
        have h7 := h4.of_a2 a7 p7
        clear a6 a7 p6 p7 h4 hb6 hbo
        go_wp2_with fail
        refine (ps_same h7).mono ?_
        rintro e W8 ⟨rfl, h8, -⟩
        go_wp2_with fail
        go_roundw
        case rel => exact ⟨k + 1, e, _, by omega, rfl, by go_num, h8.less⟩
        case measure => simp [intOf]; omega
      have j6 : (ok == 6) = false := beq_eq_false_iff_ne.2 k6
      go_wp2_with fail
      generalize wr.alloc (.cells #[.int .i64 ok, .int .i64 op, .int .i64 oc, .int .u8 og] 28) = W3 at h4 hbo ⊢
      generalize wr.heap.size = bo at h4 hbo ⊢
      have h7 := h4
      refine (ps_same h7).mono ?_
      rintro e W8 ⟨rfl, h8, -⟩
      go_wp2_with fail
      go_roundw
      case rel => exact ⟨k + 1, d', _, by omega, rfl, by go_num, h8.less⟩
      case measure => simp [intOf]; omega
    · go_wp2_with fail
      refine (known_any _).mono ?_
      rintro e W5 ⟨rfl, hc5⟩
      have hch := h3.chg.stay hc5
      clear h3
      go_wp2_with fail
      go_ret
      exact ⟨rfl, hch⟩
end Go.Proofs.Ytmgjknlpcnakiaa
