import Derived.Test.YtmgjknlpcnakiaaArU
import Derived.Test.YtmgjknlpcnakiaaArS
namespace Go.Proofs.Ytmgjknlpcnakiaa
open Go Go.RowKit Go.Shelf
attribute [local go_sem] Oper.semAt_some

set_option maxRecDepth 20000 in
set_option maxHeartbeats 4000000 in
theorem runs_law {w : World} {v : Value} {ops : List AO} (hl : RA w v ops) : Calls Try.prog 3 #[v] w fun e w' => e = .returned (.bool true) ∧ Chg [] w w' := by
  obtain ⟨A, c, rfl⟩ := hl.form
  have hb0 : Blk (w.alloc (.cells #[.bool false] 4)) w.heap.size 4 #[.bool false] := Blk.new w 4 _
  have HN := hide (ast_new (w := w) (W := w.alloc (.cells #[.bool false] 4)) (N := [w.heap.size]) ((Chg.refl [] w).alloc _) (by simp))
  have Hl := hide hl
  clear hl
  refine calls_marks Try.func3 rfl ?_
  simp only [Try.ntmps3, List.size_toArray, List.length_cons, List.length_nil, Nat.reduceAdd, Nat.reduceSub, Array.replicate_succ, Array.replicate_zero, List.push_toArray, List.append_toArray, List.nil_append, List.cons_append]
  go_wp2_with fail
  refine HN.out.mono ?_
  rintro e W1 ⟨d, rfl, h1, -, hc1⟩
  clear HN
  have hb1 := hb0.chg hc1 List.not_mem_nil
  generalize hbr : w.heap.size = br at h1 hb1 hb0 ⊢
  clear hb0 hc1
  have hc2 : Chg [] W1 (W1.alloc (.cells #[.pointer (some ⟨d, 0, none⟩)] 23)) := (Chg.refl [] W1).alloc _
  have hba2 := Blk.new W1 23 #[.pointer (some ⟨d, 0, none⟩)]
  have h2 := h1.more (M := [W1.heap.size]) hc2 (by simp)
  have hb2 := hb1.chg hc2 List.not_mem_nil
  have hs1 := h1.chg.size
  clear h1 hb1 hc2
  by_cases hbig : 150 < ops.length
  · have hd1 : decide (150 < (ops.length : Int)) = true := by simp; omega
    have hch2 := h2.chg
    have hbr0 : w.heap.size ≤ br := by omega
    clear h2
    go_wp2_with fail
    refine (known_any _).mono ?_
    rintro e W5 ⟨rfl, hc5⟩
    obtain ⟨z1, z2, z3⟩ := blk_res (hb2.chg hc5 List.not_mem_nil)
    have hch := hch2.stay hc5
    clear hb2 hch2
    go_wp2_with fail
    exact post_marks (Ds := []) ⟨List.nodup_nil, by simp⟩ fun W' hc => ⟨res_box rfl rfl (z3.chg hc List.not_mem_nil), rfl, (hch.setCell (.inr hbr0) _).stay hc⟩
  have hlen : ops.length ≤ 150 := by omega
  have hd1 : decide (150 < (ops.length : Int)) = false := by simp; omega
  clear hbig
  go_wp2_with fail
  generalize W1.alloc (.cells #[.pointer (some ⟨d, 0, none⟩)] 23) = W2 at hba2 h2 hb2 ⊢
  generalize W1.heap.size = ba at hba2 h2 hs1 ⊢
  refine wp_loop_marks (ds0 := []) [4, 5, 6, 7, 26, 27, 28, 29, 30, 31, 32, 33, 34, 35, 36, 37, 38, 39, 126, 127, 128, 129, 130, 131, 132, 133, 134] (fun n us ds wr => ∃ (k : Nat) (l : List Rn) (u4 u5 u6 u7 u27 u28 u29 u30 u31 u32 u33 u34 u35 u36 u37 u38 u39 u126 u127 u128 u129 u130 u131 u132 u133 u134 : Value), us = [u4, u5, u6, u7, .int .i64 k, u27, u28, u29, u30, u31, u32, u33, u34, u35, u36, u37, u38, u39, u126, u127, u128, u129, u130, u131, u132, u133, u134] ∧ n = ops.length - k ∧ k ≤ ops.length ∧ ASt w wr d l (ds ++ [ba, br]) ∧ (∀ E ∈ ds, w.heap.size ≤ E) ∧ Blk wr ba 23 #[.pointer (some ⟨d, 0, none⟩)] ∧ Blk wr br 4 #[.bool false]) ops.length [undef, undef, undef, undef, .int .i64 ((0 : Nat) : Int), undef, undef, undef, undef, undef, undef, undef, undef, undef, undef, undef, undef, undef, undef, undef, undef, undef, undef, undef, undef, undef, undef] ?h0 ?hT ⟨List.nodup_nil, by simp⟩ ?round
  case h0 => exact ⟨0, [], _, _, _, _, _, _, _, _, _, _, _, _, _, _, _, _, _, _, _, _, _, _, _, _, _, _, rfl, rfl, by omega, h2, by simp, hba2, hb2⟩
  case hT => simp [setAll]
  case round =>
    rintro n us ds wr ⟨k, l, u4, u5, u6, u7, u27, u28, u29, u30, u31, u32, u33, u34, u35, u36, u37, u38, u39, u126, u127, u128, u129, u130, u131, u132, u133, u134, rfl, rfl, hk, h3, hds, ha3, hr3⟩ hM
    simp [setAll]
    have hr := hide hr3
    have hM0 := hM.1
    clear h2 hba2 hb2 hr3
    by_cases hlt : k < ops.length
    · have hrd := Hl.out.stay h3.chg
      obtain ⟨g0, off, rfl⟩ := RE.addr hrd (by omega)
      obtain ⟨q0, q1, q2, q3, hgl⟩ := RA.cells hrd hlt
      have HP := hide (play_any (h3.stay (Chg.refl [] wr).drew) ops[k])
      obtain ⟨o, ho⟩ : ∃ o, o = ops[k] := ⟨_, rfl⟩
      rw [← ho] at q0 q1 q2 q3 HP
      have a0 := ha3.cell 0
      simp at a0
      have Ha3 := hide ha3
      clear ho hrd ha3 h3
      go_wp2_with fail
      refine wp_region_t [1, 0, 0, 0, 1, 3] [none, none, none, none, none, none] (fun _ => True) (by kernel_rfl) (by kernel_rfl) (by kernel_rfl) ?_
      go_wp2_with (first | fail | (refine wpG_calc rfl (fun K hK => ?_)) | (refine wpG_skip ?_ ?_; (focus (simp [wantG]; done)); go_simp) | (refine wpG_take ?_ ?_; (focus (simp [wantG]; done))) | (refine wpG_pure (fun K hK => ?_); go_simp; refine hK _ _ ?_; clear hK K) | (refine wpG_deed (by decide) (fun K hK => ?_); go_simp) | (refine wpG_nil ?_))
      refine HP.out.mono ?_
      rintro e W4 ⟨rfl, h4, hk4⟩
      have ha4 := hk4.blk Ha3.out.drew (by simp)
      have hr4 := hk4.blk hr.out.drew (by simp)
      have a1 := ha4.cell 0
      simp at a1
      have hal := ha4.lt
      have hM4 : ∀ E ∈ ds, W4.heap[E]? = some (.deferred (some [])) := fun E hE => (hk4 E (List.mem_append_left _ hE)).trans (hM.2 E hE)
      obtain ⟨l1, hl1⟩ : ∃ l1, playL l o = l1 := ⟨_, rfl⟩
      rw [hl1] at h4
      clear HP Ha3 hr hk4 a0 q0 q1 q2 q3 hgl hl1
      have hal1 : ba < W4.heap.size + 1 := by omega
      have hal2 : ba < W4.heap.size + 1 + 1 := by omega
      go_wp2_with (first | fail | (refine wpG_calc rfl (fun K hK => ?_)) | (refine wpG_skip ?_ ?_; (focus (simp [wantG]; done)); go_simp) | (refine wpG_take ?_ ?_; (focus (simp [wantG]; done))) | (refine wpG_pure (fun K hK => ?_); go_simp; refine hK _ _ ?_; clear hK K) | (refine wpG_deed (by decide) (fun K hK => ?_); go_simp) | (refine wpG_nil ?_))
      obtain ⟨W5, hW5⟩ : ∃ W5, W5 = ((W4.alloc (.cells #[.int .i64 0, .int .i64 0, .int .u8 0] 30)).alloc (.cells #[.int .i64 0] 3)).alloc (.cells #[.int .i64 0] 3) := ⟨_, rfl⟩
      have hc5 : Chg [] W4 W5 := by rw [hW5]; exact (((Chg.refl _ _).alloc _).alloc _).alloc _
      have hb5 : Blk W5 W4.heap.size 30 #[.int .i64 (lst l1 0).p, .int .i64 (lst l1 0).c, .int .u8 (lst l1 0).g] := by rw [hW5]; exact ((Blk.new W4 30 _).alloc _).alloc _
      have hb6 : Blk W5 (W4.heap.size + 1) 3 #[.int .i64 ((0 : Nat) : Int)] := by
        rw [hW5]
        have := Blk.new (W4.alloc (.cells #[.int .i64 0, .int .i64 0, .int .u8 0] 30)) 3 #[.int .i64 ((0 : Nat) : Int)]
        rw [World.size_alloc] at this
        exact this.alloc _
      have hb7 : Blk W5 (W4.heap.size + 1 + 1) 3 #[.int .i64 (lst l1 0).e] := by
        rw [hW5]
        have := Blk.new ((W4.alloc (.cells #[.int .i64 0, .int .i64 0, .int .u8 0] 30)).alloc (.cells #[.int .i64 0] 3)) 3 #[.int .i64 (lst l1 0).e]
        rw [World.size_alloc, World.size_alloc] at this
        exact this
      have h5 := h4.more (M := [W4.heap.size, W4.heap.size + 1, W4.heap.size + 1 + 1]) hc5 (by rw [hW5]; simp; omega)
      have ha5 := ha4.chg hc5 List.not_mem_nil
      have hr5 := hr4.chg hc5 List.not_mem_nil
      have hM5 : ∀ E ∈ ds, W5.heap[E]? = some (.deferred (some [])) := fun E hE => (hc5.block E (Array.getElem?_eq_some_iff.1 (hM4 E hE)).1 List.not_mem_nil).trans (hM4 E hE)
      have hs4 := h4.chg.size
      rw [← hW5]
      clear hW5 h4 ha4 hr4 hM4 hal hal1 hal2 a1 hM hc5
      obtain ⟨x5, x6, x7⟩ : w.heap.size ≤ W4.heap.size ∧ w.heap.size ≤ W4.heap.size + 1 ∧ w.heap.size ≤ W4.heap.size + 1 + 1 := by omega
      have n56 : W4.heap.size ≠ W4.heap.size + 1 := by omega
      have n57 : W4.heap.size ≠ W4.heap.size + 1 + 1 := by omega
      have n67 : W4.heap.size + 1 ≠ W4.heap.size + 1 + 1 := by omega
      generalize W4.heap.size + 1 + 1 = b7 at hb7 h5 x7 n57 n67 ⊢
      generalize W4.heap.size + 1 = b6 at hb6 h5 x6 n56 n67 ⊢
      generalize W4.heap.size = b5 at hb5 h5 x5 n56 n57 ⊢
      clear hs4
      have a5 := ha5.cell 0
      simp at a5
      have fnil := fn_nil
      refine (runs_any _ W5).mono ?_
      rintro e W6 ⟨rfl, -, hc6⟩
      have a6 := (ha5.chg hc6 List.not_mem_nil).cell 0
      simp at a6
      clear a5
      go_wp2_with fail
      refine (runs_any _ W6).mono ?_
      rintro e W7 ⟨rfl, hbx, hc7⟩
      have hcc := hc6.stay hc7
      have h7 := h5.stay hcc
      have hb57 := hb5.chg hcc List.not_mem_nil
      have hb67 := hb6.chg hcc List.not_mem_nil
      have hb77 := hb7.chg hcc List.not_mem_nil
      have ha7 := ha5.chg hcc List.not_mem_nil
      have hr7 := hr5.chg hcc List.not_mem_nil
      have hM7 : ∀ E ∈ ds, W7.heap[E]? = some (.deferred (some [])) := fun E hE => (hcc.block E (Array.getElem?_eq_some_iff.1 (hM5 E hE)).1 List.not_mem_nil).trans (hM5 E hE)
      clear h5 hb5 hb6 hb7 ha5 hr5 hM5 hc6 hc7 hcc a6
      go_wp2_with fail
      have hll := h7.sp.len
      refine wp_watch (b5 := b5) (b6 := b6) (b7 := b7) (q0 := 8) rfl hbx h7.choose_spec.1 (by omega) hb57 hb67 hb77 ?assign ?body ?done
      case assign =>
        intro j r W K hK
        unfold rv
        gi_wp2
        exact hK
      case body =>
        rintro j B k' hk' W Q' hQ' hc i5 i6 i7 hB hBw hK
        have hN7 : ∀ x ∈ [b5, b6, b7] ++ (ds ++ [ba, br]), w.heap.size ≤ x := fun x hx => by
          rcases List.mem_append.1 hx with hx | hx
          · simp at hx; omega
          · rcases List.mem_append.1 hx with hx | hx
            · exact hds x hx
            · simp at hx; omega
        have HA := hide (fun W' (hc' : Chg [b5, b6, b7] W7 W') => h7.over (hc'.mono (fun x hx => .inl (List.mem_append_left _ hx))) hN7)
        have HB := hide (fun W' (hc' : Chg [b5, b6, b7] W7 W') => ha7.chg hc' (by
          simp only [List.mem_cons, List.not_mem_nil, or_false, not_or]
          exact ⟨ha7.ne_ hb57 (by decide), ha7.ne_ hb67 (by decide), ha7.ne_ hb77 (by decide)⟩))
        obtain ⟨n1, n2, n3⟩ := nm_at h7.sp.nm hk'
        obtain ⟨m1, m2, m3, m4, m5⟩ := h7.sp.mem (List.getElem_mem hk')
        obtain ⟨y1, y2, y3, y4, y5, y6⟩ := lst_bd h7.sp (k := k') (by omega)
        have hB5 : B ≠ b5 := fun h => by have := hb57.lt; omega
        have hB6 : B ≠ b6 := fun h => by have := hb67.lt; omega
        have hB7 : B ≠ b7 := fun h => by have := hb77.lt; omega
        obtain ⟨r, hr⟩ : ∃ r, r = l1[k'] := ⟨_, rfl⟩
        obtain ⟨s, hs⟩ : ∃ s, s = lst l1 k' := ⟨_, rfl⟩
        rw [← hr, ← hs] at n1 n2 n3
        rw [← hr] at m1 m2 m3 m4 m5 hB hK ⊢
        rw [← hs] at y1 y2 y3 y4 y5 y6 i5 i7
        have HN3 := hide n3
        have HQ := hide hQ'
        have HK := hide hK
        clear hr hs n3 hQ' hK h7 hb57 hb67 hb77 ha7 hr7 hM7 hbx
        obtain ⟨p, c', g⟩ := r
        obtain ⟨sp, sc, sg⟩ := s
        simp only [Rn.e] at n1 n2 m1 m2 m3 m4 m5 y1 y2 y3 y4 y5 y6 i5 i7 hB
        have dd1 : decide (c' < 1) = false := decide_eq_false (by omega)
        have dd2 : decide (p < sp + sc) = false := decide_eq_false (by omega)
        have dd3 : decide (1024 < p + c') = false := decide_eq_false (by omega)
        have dd4 : decide (g < 1) = false := decide_eq_false (by omega)
        have dd5 : decide (3 < g) = false := decide_eq_false (by omega)
        have hcase : k' = 0 ∨ (0 < k' ∧ p ≠ sp + sc) ∨ (0 < k' ∧ p = sp + sc ∧ g ≠ sg) := by
          by_cases h0 : k' = 0
          · exact .inl h0
          · by_cases h1 : p = sp + sc
            · exact .inr (.inr ⟨by omega, h1, n2 h1⟩)
            · exact .inr (.inl ⟨by omega, h1⟩)
        clear n2
        have ha := HB.out W hc
        have a8 := ha.cell 0
        have n6 := i6.cell 0
        have n7 := i7.cell 0
        have f7 := i7.frozen 0
        simp at a8 n6 n7
        obtain ⟨e0, e1, e2, e3⟩ := box3 i5
        obtain ⟨t0, t1, t2, t3⟩ := box3 hB
        clear hN7 hds Hl hs1 hbr hlen hd1 hk hM0 hlt x5 x6 x7 fnil ha
        unfold rv
        rcases hcase with hz | ⟨hz, hz2⟩ | ⟨hz, hz2, hz3⟩
        · subst hz
          gi_wp2
          gi_loopw [] (fun wr' => ∃ q : Int, sp + sc ≤ q ∧ q ≤ p + c' ∧ Chg [b5, b6, b7] W wr' ∧ Blk wr' b5 30 #[.int .i64 sp, .int .i64 sc, .int .u8 sg] ∧ Blk wr' b6 3 #[.int .i64 ((0 : Nat) : Int)] ∧ Blk wr' b7 3 #[.int .i64 q] ∧ Blk wr' B 30 #[.int .i64 p, .int .i64 c', .int .u8 g]) (fun wr' => (p + c' - intOf ((wr'.cell? ⟨b7, 0, none⟩).getD undef)).toNat)
          case atStart => exact ⟨sp + sc, by omega, by omega, Chg.refl _ _, i5, i6, i7, hB⟩
          case round =>
            obtain ⟨q, hq1, hq2, hcw, j5, j6, j7, jB⟩ := hrel
            clear i5 i6 i7 hB a8 n6 n7 f7 e0 e1 e2 e3 t0 t1 t2 t3
            have hcc := hc.and_ hcw
            have a8 := (HB.out _ hcc).cell 0
            have n7 := j7.cell 0
            simp at a8 n7
            obtain ⟨t0, t1, t2, t3⟩ := box3 jB
            by_cases hlt : q < p + c'
            · by_cases hpq : p ≤ q
              · have hy : rt l1 q = g := by rw [HN3.out q hq1 hlt, if_pos hpq]
                have H := hide (ast_rights (HA.out _ hcc) q hy (b := true) (by unfold hasB; rw [hy]; simp; omega))
                clear hy hcc
                gi_wp2_with (refine ⟨trivial, ?_⟩; gi_at_call 13; refine (CallsIn.inRound j (callsIn_wide.2 H.out)).mono ?_; rintro e W1 ⟨rfl, hc1⟩; have k7 := j7.chg hc1 List.not_mem_nil; have m7 := k7.cell 0; have f7 := k7.frozen 0; have s3 := k7.lt; simp at m7; have kB := jB.chg hc1 List.not_mem_nil; obtain ⟨s0, s1, s2, s4⟩ := box3 kB; have k5 := j5.chg hc1 List.not_mem_nil; have k6 := j6.chg hc1 List.not_mem_nil)
                have k7' := k7.set_ 0 (.int .i64 (q + 1))
                have mm := k7'.cell 0
                simp at mm
                go_roundw
                case rel => exact ⟨q + 1, by omega, by omega, (hcw.stay hc1).setCell (.inl (by simp)) _, k5.far n57 _, k6.far n67 _, by simpa using k7', kB.far hB7 _⟩
                case measure => simp [n7, mm, intOf]; omega
              · have hy : rt l1 q = 0 := by rw [HN3.out q hq1 hlt, if_neg hpq]
                have H := hide (ast_rights (HA.out _ hcc) q hy (b := false) (by unfold hasB; rw [hy]; simp))
                clear hy hcc
                gi_wp2_with (refine ⟨trivial, ?_⟩; gi_at_call 13; refine (CallsIn.inRound j (callsIn_wide.2 H.out)).mono ?_; rintro e W1 ⟨rfl, hc1⟩; have k7 := j7.chg hc1 List.not_mem_nil; have m7 := k7.cell 0; have f7 := k7.frozen 0; have s3 := k7.lt; simp at m7; have kB := jB.chg hc1 List.not_mem_nil; obtain ⟨s0, s1, s2, s4⟩ := box3 kB; have k5 := j5.chg hc1 List.not_mem_nil; have k6 := j6.chg hc1 List.not_mem_nil)
                have k7' := k7.set_ 0 (.int .i64 (q + 1))
                have mm := k7'.cell 0
                simp at mm
                go_roundw
                case rel => exact ⟨q + 1, by omega, by omega, (hcw.stay hc1).setCell (.inl (by simp)) _, k5.far n57 _, k6.far n67 _, by simpa using k7', kB.far hB7 _⟩
                case measure => simp [n7, mm, intOf]; omega
            · obtain rfl : q = p + c' := by omega
              obtain ⟨e0, e1, e2, e3⟩ := box3 j5
              have v0 := j5.frozen 0
              have v1 := j5.frozen 1
              have v2 := j5.frozen 2
              have n6 := j6.cell 0
              have f6 := j6.frozen 0
              simp at n6
              clear hcc
              gi_wp2
              exact HK.out _ _ ((((hcw.setCell (.inl (by simp)) _).setCell (.inl (by simp)) _).setCell (.inl (by simp)) _).setCell (.inl (by simp)) _)
                (by simpa using (((j5.set_ 0 (.int .i64 p)).set_ 1 (.int .i64 c')).set_ 2 (.int .u8 g)).far (p := ⟨b6, 0, none⟩) n56 (.int .i64 1))
                (by simpa using (((j6.far (p := ⟨b5, 0, none⟩) n56.symm (.int .i64 p)).far (p := ⟨b5, 1, none⟩) n56.symm (.int .i64 c')).far (p := ⟨b5, 2, none⟩) n56.symm (.int .u8 g)).set_ 0 (.int .i64 1))
                ((((j7.far n57.symm _).far n57.symm _).far n57.symm _).far n67.symm _)
        · have dd6 : decide (0 < (k' : Int)) = true := decide_eq_true (by omega)
          have dd7 : decide (p = sp + sc) = false := decide_eq_false hz2
          have dd9 : (p == sp + sc) = false := by simpa using hz2
          clear hz2
          gi_wp2
          gi_loopw [] (fun wr' => ∃ q : Int, sp + sc ≤ q ∧ q ≤ p + c' ∧ Chg [b5, b6, b7] W wr' ∧ Blk wr' b5 30 #[.int .i64 sp, .int .i64 sc, .int .u8 sg] ∧ Blk wr' b6 3 #[.int .i64 (k' : Int)] ∧ Blk wr' b7 3 #[.int .i64 q] ∧ Blk wr' B 30 #[.int .i64 p, .int .i64 c', .int .u8 g]) (fun wr' => (p + c' - intOf ((wr'.cell? ⟨b7, 0, none⟩).getD undef)).toNat)
          case atStart => exact ⟨sp + sc, by omega, by omega, Chg.refl _ _, i5, i6, i7, hB⟩
          case round =>
            obtain ⟨q, hq1, hq2, hcw, j5, j6, j7, jB⟩ := hrel
            clear i5 i6 i7 hB a8 n6 n7 f7 e0 e1 e2 e3 t0 t1 t2 t3
            have hcc := hc.and_ hcw
            have a8 := (HB.out _ hcc).cell 0
            have n7 := j7.cell 0
            simp at a8 n7
            obtain ⟨t0, t1, t2, t3⟩ := box3 jB
            by_cases hlt : q < p + c'
            · by_cases hpq : p ≤ q
              · have hy : rt l1 q = g := by rw [HN3.out q hq1 hlt, if_pos hpq]
                have H := hide (ast_rights (HA.out _ hcc) q hy (b := true) (by unfold hasB; rw [hy]; simp; omega))
                clear hy hcc
                gi_wp2_with (refine ⟨trivial, ?_⟩; gi_at_call 13; refine (CallsIn.inRound j (callsIn_wide.2 H.out)).mono ?_; rintro e W1 ⟨rfl, hc1⟩; have k7 := j7.chg hc1 List.not_mem_nil; have m7 := k7.cell 0; have f7 := k7.frozen 0; have s3 := k7.lt; simp at m7; have kB := jB.chg hc1 List.not_mem_nil; obtain ⟨s0, s1, s2, s4⟩ := box3 kB; have k5 := j5.chg hc1 List.not_mem_nil; have k6 := j6.chg hc1 List.not_mem_nil)
                have k7' := k7.set_ 0 (.int .i64 (q + 1))
                have mm := k7'.cell 0
                simp at mm
                go_roundw
                case rel => exact ⟨q + 1, by omega, by omega, (hcw.stay hc1).setCell (.inl (by simp)) _, k5.far n57 _, k6.far n67 _, by simpa using k7', kB.far hB7 _⟩
                case measure => simp [n7, mm, intOf]; omega
              · have hy : rt l1 q = 0 := by rw [HN3.out q hq1 hlt, if_neg hpq]
                have H := hide (ast_rights (HA.out _ hcc) q hy (b := false) (by unfold hasB; rw [hy]; simp))
                clear hy hcc
                gi_wp2_with (refine ⟨trivial, ?_⟩; gi_at_call 13; refine (CallsIn.inRound j (callsIn_wide.2 H.out)).mono ?_; rintro e W1 ⟨rfl, hc1⟩; have k7 := j7.chg hc1 List.not_mem_nil; have m7 := k7.cell 0; have f7 := k7.frozen 0; have s3 := k7.lt; simp at m7; have kB := jB.chg hc1 List.not_mem_nil; obtain ⟨s0, s1, s2, s4⟩ := box3 kB; have k5 := j5.chg hc1 List.not_mem_nil; have k6 := j6.chg hc1 List.not_mem_nil)
                have k7' := k7.set_ 0 (.int .i64 (q + 1))
                have mm := k7'.cell 0
                simp at mm
                go_roundw
                case rel => exact ⟨q + 1, by omega, by omega, (hcw.stay hc1).setCell (.inl (by simp)) _, k5.far n57 _, k6.far n67 _, by simpa using k7', kB.far hB7 _⟩
                case measure => simp [n7, mm, intOf]; omega
            · obtain rfl : q = p + c' := by omega
              obtain ⟨e0, e1, e2, e3⟩ := box3 j5
              have v0 := j5.frozen 0
              have v1 := j5.frozen 1
              have v2 := j5.frozen 2
              have n6 := j6.cell 0
              have f6 := j6.frozen 0
              simp at n6
              clear hcc
              gi_wp2
              exact HK.out _ _ ((((hcw.setCell (.inl (by simp)) _).setCell (.inl (by simp)) _).setCell (.inl (by simp)) _).setCell (.inl (by simp)) _)
                (by simpa using (((j5.set_ 0 (.int .i64 p)).set_ 1 (.int .i64 c')).set_ 2 (.int .u8 g)).far (p := ⟨b6, 0, none⟩) n56 (.int .i64 (k' + 1)))
                (by simpa using (((j6.far (p := ⟨b5, 0, none⟩) n56.symm (.int .i64 p)).far (p := ⟨b5, 1, none⟩) n56.symm (.int .i64 c')).far (p := ⟨b5, 2, none⟩) n56.symm (.int .u8 g)).set_ 0 (.int .i64 (k' + 1)))
                ((((j7.far n57.symm _).far n57.symm _).far n57.symm _).far n67.symm _)
        · have dd6 : decide (0 < (k' : Int)) = true := decide_eq_true (by omega)
          have dd7 : decide (p = sp + sc) = true := decide_eq_true hz2
          have dd9 : (p == sp + sc) = true := by simpa using hz2
          have dd8 : decide (g = sg) = false := decide_eq_false hz3
          have dd10 : (g == sg) = false := by simpa using hz3
          clear hz2 hz3
          gi_wp2
          gi_loopw [] (fun wr' => ∃ q : Int, sp + sc ≤ q ∧ q ≤ p + c' ∧ Chg [b5, b6, b7] W wr' ∧ Blk wr' b5 30 #[.int .i64 sp, .int .i64 sc, .int .u8 sg] ∧ Blk wr' b6 3 #[.int .i64 (k' : Int)] ∧ Blk wr' b7 3 #[.int .i64 q] ∧ Blk wr' B 30 #[.int .i64 p, .int .i64 c', .int .u8 g]) (fun wr' => (p + c' - intOf ((wr'.cell? ⟨b7, 0, none⟩).getD undef)).toNat)
          case atStart => exact ⟨sp + sc, by omega, by omega, Chg.refl _ _, i5, i6, i7, hB⟩
          case round =>
            obtain ⟨q, hq1, hq2, hcw, j5, j6, j7, jB⟩ := hrel
            clear i5 i6 i7 hB a8 n6 n7 f7 e0 e1 e2 e3 t0 t1 t2 t3
            have hcc := hc.and_ hcw
            have a8 := (HB.out _ hcc).cell 0
            have n7 := j7.cell 0
            simp at a8 n7
            obtain ⟨t0, t1, t2, t3⟩ := box3 jB
            by_cases hlt : q < p + c'
            · by_cases hpq : p ≤ q
              · have hy : rt l1 q = g := by rw [HN3.out q hq1 hlt, if_pos hpq]
                have H := hide (ast_rights (HA.out _ hcc) q hy (b := true) (by unfold hasB; rw [hy]; simp; omega))
                clear hy hcc
                gi_wp2_with (refine ⟨trivial, ?_⟩; gi_at_call 13; refine (CallsIn.inRound j (callsIn_wide.2 H.out)).mono ?_; rintro e W1 ⟨rfl, hc1⟩; have k7 := j7.chg hc1 List.not_mem_nil; have m7 := k7.cell 0; have f7 := k7.frozen 0; have s3 := k7.lt; simp at m7; have kB := jB.chg hc1 List.not_mem_nil; obtain ⟨s0, s1, s2, s4⟩ := box3 kB; have k5 := j5.chg hc1 List.not_mem_nil; have k6 := j6.chg hc1 List.not_mem_nil)
                have k7' := k7.set_ 0 (.int .i64 (q + 1))
                have mm := k7'.cell 0
                simp at mm
                go_roundw
                case rel => exact ⟨q + 1, by omega, by omega, (hcw.stay hc1).setCell (.inl (by simp)) _, k5.far n57 _, k6.far n67 _, by simpa using k7', kB.far hB7 _⟩
                case measure => simp [n7, mm, intOf]; omega
              · have hy : rt l1 q = 0 := by rw [HN3.out q hq1 hlt, if_neg hpq]
                have H := hide (ast_rights (HA.out _ hcc) q hy (b := false) (by unfold hasB; rw [hy]; simp))
                clear hy hcc
                gi_wp2_with (refine ⟨trivial, ?_⟩; gi_at_call 13; refine (CallsIn.inRound j (callsIn_wide.2 H.out)).mono ?_; rintro e W1 ⟨rfl, hc1⟩; have k7 := j7.chg hc1 List.not_mem_nil; have m7 := k7.cell 0; have f7 := k7.frozen 0; have s3 := k7.lt; simp at m7; have kB := jB.chg hc1 List.not_mem_nil; obtain ⟨s0, s1, s2, s4⟩ := box3 kB; have k5 := j5.chg hc1 List.not_mem_nil; have k6 := j6.chg hc1 List.not_mem_nil)
                have k7' := k7.set_ 0 (.int .i64 (q + 1))
                have mm := k7'.cell 0
                simp at mm
                go_roundw
                case rel => exact ⟨q + 1, by omega, by omega, (hcw.stay hc1).setCell (.inl (by simp)) _, k5.far n57 _, k6.far n67 _, by simpa using k7', kB.far hB7 _⟩
                case measure => simp [n7, mm, intOf]; omega
            · obtain rfl : q = p + c' := by omega
              obtain ⟨e0, e1, e2, e3⟩ := box3 j5
              have v0 := j5.frozen 0
              have v1 := j5.frozen 1
              have v2 := j5.frozen 2
              have n6 := j6.cell 0
              have f6 := j6.frozen 0
              simp at n6
              clear hcc
              gi_wp2
              exact HK.out _ _ ((((hcw.setCell (.inl (by simp)) _).setCell (.inl (by simp)) _).setCell (.inl (by simp)) _).setCell (.inl (by simp)) _)
                (by simpa using (((j5.set_ 0 (.int .i64 p)).set_ 1 (.int .i64 c')).set_ 2 (.int .u8 g)).far (p := ⟨b6, 0, none⟩) n56 (.int .i64 (k' + 1)))
                (by simpa using (((j6.far (p := ⟨b5, 0, none⟩) n56.symm (.int .i64 p)).far (p := ⟨b5, 1, none⟩) n56.symm (.int .i64 c')).far (p := ⟨b5, 2, none⟩) n56.symm (.int .u8 g)).set_ 0 (.int .i64 (k' + 1)))
                ((((j7.far n57.symm _).far n57.symm _).far n57.symm _).far n67.symm _)
      case done =>
        rintro D W hDw hdf i6 hc
        have hDl : D < W.heap.size := (Array.getElem?_eq_some_iff.1 hdf).1
        have hs7 := h7.chg.size
        have h8' : ASt w W d l1 ((D :: ([] : List Nat)) ++ (([b5, b6, b7] ++ (ds ++ [ba, br])))) := h7.grow (hc.mono (fun x hx => .inl (List.mem_append_left _ hx))) (fun x hx => by
          rcases List.mem_append.1 hx with hx | hx
          · simp at hx; omega
          · rcases List.mem_append.1 hx with hx | hx
            · exact hds x hx
            · simp at hx; omega) (fun x hx => by obtain rfl := List.mem_singleton.1 hx; exact ⟨hDw, hDl⟩)
        have h8 : ASt w W d l1 ((D :: ds) ++ [ba, br]) := h8'.less (fun x hx => by
          simp only [List.cons_append, List.nil_append, List.mem_cons, List.mem_append, List.not_mem_nil, or_false] at hx ⊢
          rcases hx with h | h | h | h <;> simp [h])
        have hcell : ∀ {b T : Nat} {cs : Array Value}, Blk W7 b T cs → T ≠ 30 → T ≠ 3 → Blk W b T cs := fun hB h30 h3 => hB.chg hc (by
          simp only [List.mem_cons, List.not_mem_nil, or_false, not_or]
          exact ⟨hB.ne_ hb57 h30, hB.ne_ hb67 h3, hB.ne_ hb77 h3⟩)
        have ha8 := hcell ha7 (by decide) (by decide)
        have hr8 := hcell hr7 (by decide) (by decide)
        have hM8 : Marks (D :: ds) W := ⟨List.nodup_cons.2 ⟨fun h => by have := (Array.getElem?_eq_some_iff.1 (hM7 D h)).1; omega, hM0⟩, fun E hE => by
          rcases List.mem_cons.1 hE with rfl | hE
          · exact hdf
          · refine (hc.block E (Array.getElem?_eq_some_iff.1 (hM7 E hE)).1 (fun h => ?_)).trans (hM7 E hE)
            have hx := hM7 E hE
            simp only [List.mem_cons, List.not_mem_nil, or_false] at h
            rcases h with rfl | rfl | rfl
            · rw [show W7.heap[E]? = _ from hb57] at hx; cases hx
            · rw [show W7.heap[E]? = _ from hb67] at hx; cases hx
            · rw [show W7.heap[E]? = _ from hb77] at hx; cases hx⟩
        have hds8 : ∀ E ∈ D :: ds, w.heap.size ≤ E := fun E hE => by
          rcases List.mem_cons.1 hE with rfl | hE
          · omega
          · exact hds E hE
        have HM8 := hide hM8
        have Hds8 := hide hds8
        have Hds := hide hds
        clear h7 h8' hb57 hb67 hb77 ha7 hr7 hM7 hcell hdf hM8 hds8 hds hbx hc
        have a8 := ha8.cell 0
        simp at a8
        go_wp2_with fail
        refine wp_region_t [5,1,6,0,0,1,0,0] [none, none, none, none, none, some (130, false), some (130, false), none] (fun W => Blk W b6 3 #[.int .i64 (l1.length : Int)]) (by kernel_rfl) (by kernel_rfl) (by kernel_rfl) ?_
        go_wp2_with (first | (refine wpG_hload 3 _ rfl rfl (fun w' hw' => load_int Try.underlying3 (by simpa using Blk.cell hw' 0)) i6.drew ?_; go_simp) | (refine wpG_calc rfl (fun K hK => ?_)) | (refine wpG_skip ?_ ?_; (focus (simp [wantG]; done)); go_simp) | (refine wpG_take ?_ ?_; (focus (simp [wantG]; done))) | (refine wpG_pure (fun K hK => ?_); go_simp; refine hK _ _ ?_; clear hK K) | (refine wpG_deed (by decide) (fun K hK => ?_); go_simp) | (refine wpG_nil ?_))
        (refine wpG_keeps i6.drew (fun K hK => ?_))
        go_simp
        refine (ast_len (h8.stay (Chg.refl [] W).drew)).mono ?_
        rintro e W9 ⟨rfl, rfl⟩
        refine hK _ _ i6.drew ?_
        clear hK K
        have n0 := i6.cell 0
        simp at n0
        go_wp2_with (first | fail | (refine wpG_calc rfl (fun K hK => ?_)) | (refine wpG_skip ?_ ?_; (focus (simp [wantG]; done)); go_simp) | (refine wpG_take ?_ ?_; (focus (simp [wantG]; done))) | (refine wpG_pure (fun K hK => ?_); go_simp; refine hK _ _ ?_; clear hK K) | (refine wpG_deed (by decide) (fun K hK => ?_); go_simp) | (refine wpG_nil ?_))
        exact ⟨ops.length - (k + 1), by omega, [.int .i64 k, .pointer (some ⟨b5, 0, none⟩), .pointer (some ⟨b6, 0, none⟩), .pointer (some ⟨b7, 0, none⟩), .int .i64 ((k + 1 : Nat) : Int), .bool true, .int .i64 k, .pointer (some ⟨d, 0, none⟩), .slice (some ⟨g0, off, none⟩) ops.length c, .int .i64 k, .pointer (some ⟨g0, off + k * 4, none⟩), .agg #[.int .i64 o.k, .int .i64 o.p, .int .i64 o.c, .int .u8 o.g], .tuple #[], .pointer (some ⟨d, 0, none⟩), .func (.func 26) #[] #[.pointer (some ⟨W5.heap.size, 0, none⟩)], .bool false, .pointer (some ⟨d, 0, none⟩), .func (.func 26) #[] #[.pointer (some ⟨W6.heap.size, 0, none⟩)], .int .i64 l1.length, .pointer (some ⟨d, 0, none⟩), .int .i64 l1.length, .bool false, .bool false, .int .i64 l1.length, .bool (decide (32 < (l1.length : Int))), .bool (decide (32 < (l1.length : Int))), .int .i64 ((k + 1 : Nat) : Int)], D :: ds, ⟨k + 1, ⟨_, _, _, _, _, _, _, _, _, _, _, _, _, _, _, _, _, _, _, _, _, _, _, _, _, _, rfl⟩, rfl, by omega, ⟨l1, h8.stay (Chg.refl [] W).drew⟩, Hds8.out, ha8.drew, hr8.drew⟩, ⟨HM8.out.1, HM8.out.2⟩, by simp [setAll]⟩
    · have hbr0 : w.heap.size ≤ br := by omega
      have HM := hide hM
      clear hM
      go_wp2_with fail
      refine (known_any wr).mono ?_
      rintro e W20 ⟨rfl, hc20⟩
      obtain ⟨z1, z2, z3⟩ := blk_res (hr.out.chg hc20 List.not_mem_nil)
      have hch := h3.chg.stay hc20
      have hMx : ∀ E ∈ ds, W20.heap[E]? = some (.deferred (some [])) := fun E hE => (hc20.block _ (Array.getElem?_eq_some_iff.1 (HM.out.2 E hE)).1 List.not_mem_nil).trans (HM.out.2 E hE)
      have hEbr : ∀ E ∈ ds, E ≠ br := fun E hE e => by
        have h1 := hMx E hE
        rw [e] at h1
        have h2 := z1
        unfold World.cell? at h2
        simp [h1] at h2
      have HMx := hide hMx
      clear hMx
      go_wp2_with fail
      exact post_marks (Ds := ds) ⟨hM0, fun E hE => (Below.heap_setCell W20 ⟨br, 0, none⟩ _ E (hEbr E hE)).trans (HMx.out E hE)⟩ fun W' hc => ⟨res_box rfl rfl (z3.chg hc (fun h => hEbr br h rfl)), rfl, (hch.setCell (.inr hbr0) _).trans hc (fun x hx => .inr (hds x hx))⟩
end Go.Proofs.Ytmgjknlpcnakiaa
