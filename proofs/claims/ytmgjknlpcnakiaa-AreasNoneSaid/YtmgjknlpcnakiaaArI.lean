import Derived.Test.YtmgjknlpcnakiaaArH
namespace Go.Proofs.Ytmgjknlpcnakiaa
open Go Go.RowKit

theorem wst_new (w : World) (page count g : Int) : WSt w (((((w.alloc (.cells #[.int .i64 page] 3)).alloc (.cells #[.int .i64 count] 3)).alloc (.cells #[.int .u8 g] 5)).alloc (.cells #[.slice none 0 0] 38)).alloc (.cells #[.bool false] 4)) w.heap.size (w.heap.size + 1) (w.heap.size + 1 + 1) (w.heap.size + 1 + 1 + 1) (w.heap.size + 1 + 1 + 1 + 1) page count g (.slice none 0 0) [] false where
  chg := (((((Chg.refl _ _).alloc _).alloc _).alloc _).alloc _).alloc _
  p := ((((Blk.new w 3 _).alloc _).alloc _).alloc _).alloc _
  c := by
    have := Blk.new (w.alloc (.cells #[.int .i64 page] 3)) 3 #[.int .i64 count]
    rw [World.size_alloc] at this
    exact ((this.alloc _).alloc _).alloc _
  g := by
    have := Blk.new ((w.alloc (.cells #[.int .i64 page] 3)).alloc (.cells #[.int .i64 count] 3)) 5 #[.int .u8 g]
    rw [World.size_alloc, World.size_alloc] at this
    exact (this.alloc _).alloc _
  bl := by
    have := Blk.new (((w.alloc (.cells #[.int .i64 page] 3)).alloc (.cells #[.int .i64 count] 3)).alloc (.cells #[.int .u8 g] 5)) 38 #[.slice none 0 0]
    rw [World.size_alloc, World.size_alloc, World.size_alloc] at this
    exact this.alloc _
  d := by
    have := Blk.new ((((w.alloc (.cells #[.int .i64 page] 3)).alloc (.cells #[.int .i64 count] 3)).alloc (.cells #[.int .u8 g] 5)).alloc (.cells #[.slice none 0 0] 38)) 4 #[.bool false]
    rw [World.size_alloc, World.size_alloc, World.size_alloc, World.size_alloc] at this
    exact this
  s := SE.nil _ _ _ _
  nl := by omega
  nd := by omega
  nV := fun k hk => (own_nil hk).elim

theorem box3 {W : World} {b : Nat} {p c g : Int} (h : Blk W b 30 #[.int .i64 p, .int .i64 c, .int .u8 g]) : W.cell? ⟨b, 0, none⟩ = some (.int .i64 p) ∧ W.cell? ⟨b, 1, none⟩ = some (.int .i64 c) ∧ W.cell? ⟨b, 2, none⟩ = some (.int .u8 g) ∧ b < W.heap.size := ⟨by simpa using h.cell 0, by simpa using h.cell 1, by simpa using h.cell 2, h.lt⟩

set_option maxRecDepth 20000 in
set_option maxHeartbeats 4000000 in
theorem with_at {w : World} {d : Nat} {l : List Rn} {F : List Nat} (hm : AMem w d l F) (hl : Fit l) {page count g : Int} (h0 : 0 ≤ page) (h1 : 1 ≤ count) (h2 : page + count ≤ 1024) :
    Calls Try.prog 33 #[.pointer (some ⟨d, 0, none⟩), .int .i64 page, .int .i64 count, .int .u8 g] w fun e w' => ∃ A n c, e = .returned (.slice A n c) ∧ SR w' (.slice A n c) (withL l page count g) ∧ (∀ k ∈ own (.slice A n c), w.heap.size ≤ k) ∧ Chg [] w w' := by
  obtain ⟨v, hb, hs, hF, hlt⟩ := hm
  obtain ⟨A, c0, rfl⟩ := hs.form
  have b0 := hb.cell 0
  simp at b0
  have hdl := hb.lt
  have hll := hl.len
  have hc3 : count ≤ 1024 := by omega
  have hp3 : page ≤ 1024 := by omega
  have Hs := hide hs
  have Hl := hide hl
  have hw0 := wst_new w page count g
  have HW0 := hide hw0
  clear hs hl hb hF hlt hw0
  obtain ⟨d1, d2, d3, d4⟩ : d < w.heap.size + 1 ∧ d < w.heap.size + 1 + 1 ∧ d < w.heap.size + 1 + 1 + 1 ∧ d < w.heap.size + 1 + 1 + 1 + 1 := by omega
  go_enter Try.func33, Try.ntmps33
  go_wp2_with fail
  have hw0 := HW0.out
  clear HW0
  generalize (((((w.alloc (.cells #[.int .i64 page] 3)).alloc (.cells #[.int .i64 count] 3)).alloc (.cells #[.int .u8 g] 5)).alloc (.cells #[.slice none 0 0] 38)).alloc (.cells #[.bool false] 4)) = W0 at hw0 ⊢
  clear d1 d2 d3 d4
  generalize w.heap.size + 1 + 1 + 1 + 1 = bd at hw0 ⊢
  generalize w.heap.size + 1 + 1 + 1 = bl at hw0 ⊢
  generalize w.heap.size + 1 + 1 = bg at hw0 ⊢
  generalize w.heap.size + 1 = bc at hw0 ⊢
  obtain ⟨bp, hbp⟩ : ∃ bp, bp = w.heap.size := ⟨_, rfl⟩
  rw [← hbp] at hw0 ⊢
  clear hbp
  go_loopw [24] (fun i wr => ∃ (k : Nat) (A1 : Option Addr) (n1 c1 : Nat), k ≤ l.length ∧ i = .int .i64 k ∧ Hid (WSt w wr bp bc bg bl bd page count g (.slice A1 n1 c1) ((l.take k).foldl (stepL page count g) ([], false)).1 ((l.take k).foldl (stepL page count g) ([], false)).2)) (fun i _ => l.length - (intOf i).toNat)
  case atStart => exact ⟨0, none, 0, 0, by omega, rfl, hide hw0⟩
  case round =>
    obtain ⟨k, A1, n1, c1, hk, rfl, hwr⟩ := hrel
    clear hw0
    by_cases hkt : k < l.length
    · have hsr := Hs.out.stay hwr.out.chg
      obtain ⟨g0, off, rfl⟩ := SE.addr hsr (by omega)
      obtain ⟨q0, q1, q2⟩ := RR.cells hsr.re hkt
      have hgl : g0 < wr.heap.size := hsr.own_lt g0 (by simp [own, Value.ownBlock])
      have hok := Hl.out.get hkt
      have hfs := fold_snoc (page := page) (count := count) (g := g) hkt
      have hfit := step_fit h0 h1 h2 (fold_take (g := g) h0 h1 Hl.out k) (r := l[k]) (by
        rw [← List.take_succ_eq_append_getElem hkt]
        have : Fit (l.take (k + 1) ++ l.drop (k + 1)) := by rw [List.take_append_drop]; exact Hl.out
        exact this.cut)
      generalize (l.take k).foldl (stepL page count g) ([], false) = s at hwr hfs hfit
      obtain ⟨r, hr⟩ : ∃ r, r = l[k] := ⟨_, rfl⟩
      rw [← hr] at q0 q1 q2 hok hfs hfit
      obtain ⟨⟨rp1, rp2⟩, rc1, rc2, rc3⟩ := hok
      clear hr hsr
      have Hfs := hide hfs
      have Hfit := hide hfit
      clear hfs hfit
      obtain ⟨p, c, rg⟩ := r
      simp only at q0 q1 q2 rp1 rp2 rc1 rc2 rc3
      obtain ⟨m1, hm1⟩ : ∃ m, m = min (p + c) page := ⟨_, rfl⟩
      obtain ⟨m2, hm2⟩ : ∃ m, m = max p (page + count) := ⟨_, rfl⟩
      have u1 := fun ts ty w => run_min ts ty .i64 .i64 (p + c) page w
      have u2 := fun ts ty w => run_max ts ty .i64 .i64 p (page + count) w
      rw [← hm1] at u1
      rw [← hm2] at u2
      obtain ⟨a1, a2⟩ : 0 ≤ m1 ∧ m1 ≤ 2000 := by omega
      obtain ⟨a3, a4⟩ : 0 ≤ m2 ∧ m2 ≤ 4000 := by omega
      obtain ⟨a5, a6⟩ : -8000 ≤ m1 - p ∧ m1 - p ≤ 8000 := by omega
      obtain ⟨a7, a8⟩ : -8000 ≤ p + c - m2 ∧ p + c - m2 ≤ 8000 := by omega
      have Hm1 := hide hm1
      have Hm2 := hide hm2
      clear hm1 hm2
      go_wp2_with fail
      have hn0 : wr.heap.size ∉ own (.slice A1 n1 c1) := fun h => by have := hwr.out.s.own_lt _ h; omega
      have hw1 := hwr.out.stay ((Chg.refl [] wr).alloc (.cells #[.int .i64 p, .int .i64 c, .int .u8 rg] 30)).drew
      have hbx : Blk ((wr.alloc (.cells #[.int .i64 p, .int .i64 c, .int .u8 rg] 30)).drew) wr.heap.size 30 #[.int .i64 p, .int .i64 c, .int .u8 rg] := (Blk.new wr 30 _).drew
      have hdp : wr.heap.size < ((wr.alloc (.cells #[.int .i64 p, .int .i64 c, .int .u8 rg] 30)).drew).heap.size := hbx.lt
      clear q0 q1 q2 hgl hwr
      refine wp_region_t [5,0,5,5,6,5,0,0,5,0,0,5,0,3,3] (List.replicate 15 none) (fun W => Blk W bl 38 #[.slice A1 n1 c1] ∧ Blk W wr.heap.size 30 #[.int .i64 p, .int .i64 c, .int .u8 rg] ∧ Blk W bp 3 #[.int .i64 page]) (by kernel_rfl) (by kernel_rfl) (by kernel_rfl) ?_
      generalize (wr.alloc (.cells #[.int .i64 p, .int .i64 c, .int .u8 rg] 30)).drew = W1 at hw1 hbx hdp ⊢
      generalize wr.heap.size = br at hn0 hbx hdp ⊢
      go_wp2_with (first | (refine wpG_hload 38 _ rfl rfl (fun w' hw' => load_slice Try.underlying38 (by simpa using Blk.cell hw'.1 0)) ⟨hw1.bl, hbx, hw1.p⟩ ?_; go_simp) | (refine wpG_hload 3 _ rfl rfl (fun w' hw' => load_int Try.underlying3 (by simpa using Blk.cell hw'.2.1 0)) ⟨hw1.bl, hbx, hw1.p⟩ ?_; go_simp) | (refine wpG_hload 30 _ rfl rfl (fun w' hw' => load_rn (by simpa using Blk.cell hw'.2.1 0) (by simpa using Blk.cell hw'.2.1 1) (by simpa using Blk.cell hw'.2.1 2)) ⟨hw1.bl, hbx, hw1.p⟩ ?_; go_simp) | (refine wpG_calc rfl (fun K hK => ?_)) | (refine wpG_skip ?_ ?_; (focus (simp [wantG]; done)); go_simp) | (refine wpG_take ?_ ?_; (focus (simp [wantG]; done))) | (refine wpG_pure (fun K hK => ?_); go_simp; refine hK _ _ ?_; clear hK K) | (refine wpG_deed (by decide) (fun K hK => ?_); go_simp) | (refine wpG_nil ?_))
      (refine wpG_keeps ⟨hw1.bl, hbx, hw1.p⟩ (fun K hK => ?_))
      go_simp
      refine (end_any p c rg _ ⟨by omega, by omega⟩ ⟨by omega, by omega⟩).mono ?_
      rintro e W2 ⟨rfl, hc2⟩
      have hw2 := hw1.stay hc2
      have hbx2 := Blk.chg hbx hc2 List.not_mem_nil
      have hdp2 : br < W2.heap.size := hbx2.lt
      refine hK _ _ ⟨hw2.bl, hbx2, hw2.p⟩ ?_
      clear hK K hw1 hbx hdp hc2
      have HP1 := hide (put_any (r := ⟨p, m1 - p, rg⟩) hw2.s Hfit.out.1.ok ⟨⟨by show _ ≤ p; omega, by show p ≤ _; omega⟩, by show _ ≤ m1 - p; omega, by show m1 - p ≤ _; omega⟩ (by have := Hfit.out.1.len; omega))
      have Hw2 := hide hw2
      go_wp2_with (first | (refine wpG_hload 3 _ rfl rfl (fun w' hw' => load_int Try.underlying3 (by simpa using Blk.cell hw'.2.2 0)) ⟨hw2.bl, hbx2, hw2.p⟩ ?_; go_simp) | (refine wpG_hload 3 _ rfl rfl (fun w' hw' => load_int Try.underlying3 (by simpa using Blk.cell hw'.2.1 0)) ⟨hw2.bl, hbx2, hw2.p⟩ ?_; go_simp) | (refine wpG_hload 5 _ rfl rfl (fun w' hw' => load_int Try.underlying5 (by simpa using Blk.cell hw'.2.1 2)) ⟨hw2.bl, hbx2, hw2.p⟩ ?_; go_simp) | (refine wpG_calc rfl (fun K hK => ?_)) | (refine wpG_skip ?_ ?_; (focus (simp [wantG]; done)); go_simp) | (refine wpG_take ?_ ?_; (focus (simp [wantG]; done))) | (refine wpG_pure (fun K hK => ?_); go_simp; refine hK _ _ ?_; clear hK K) | (refine wpG_deed (by decide) (fun K hK => ?_); go_simp) | (refine wpG_nil ?_))
      refine HP1.out.mono ?_
      rintro e W3 ⟨A3, n3, c3, rfl, hs3, hc3', hg3⟩
      have hw2' := Hw2.out
      obtain ⟨y1, y2, y3, y4, y5⟩ := hw2'.kept hc3'
      have hw3 := hw2'.put hs3 hc3' hg3
      have hbx3 := (Blk.chg hbx2 hc3' hn0).far (p := ⟨bl, 0, none⟩) (hbx2.ne_ hw2'.bl (by decide)) (.slice A3 n3 c3)
      have hn3 : br ∉ own (.slice A3 n3 c3) := fun h => (hg3 _ h).elim hn0 (fun h' => by omega)
      clear hw2' Hw2 HP1 hc3' hg3 hs3 hn0 hbx2 hw2
      go_wp2_with (first | fail | (refine wpG_calc rfl (fun K hK => ?_)) | (refine wpG_skip ?_ ?_; (focus (simp [wantG]; done)); go_simp) | (refine wpG_take ?_ ?_; (focus (simp [wantG]; done))) | (refine wpG_pure (fun K hK => ?_); go_simp; refine hK _ _ ?_; clear hK K) | (refine wpG_deed (by decide) (fun K hK => ?_); go_simp) | (refine wpG_nil ?_))
      have hdp3 := hbx3.lt
      generalize W3.setCell ⟨bl, 0, none⟩ (.slice A3 n3 c3) = W4 at hw3 hbx3 hdp3 ⊢
      clear y1 y2 y3 y4 y5 hdp2
      have hw4 := hw3.stay (Chg.refl [] W4).drew
      have hbx4 := hbx3.drew
      have Hfit3 : Hid (Fit (st1 page s ⟨p, c, rg⟩)) := hide Hfit.out.2.1
      have hw4' : WSt w W4.drew bp bc bg bl bd page count g (.slice A3 n3 c3) (st1 page s ⟨p, c, rg⟩) s.2 := by rw [Hm1.out] at hw4; exact hw4
      clear hw3 hbx3 hw4
      refine wp_region_t [5,6,5,0] (List.replicate 4 none) (fun W => Blk W br 30 #[.int .i64 p, .int .i64 c, .int .u8 rg] ∧ Blk W bp 3 #[.int .i64 page]) (by kernel_rfl) (by kernel_rfl) (by kernel_rfl) ?_
      go_wp2_with (first | (refine wpG_hload 30 _ rfl rfl (fun w' hw' => load_rn (by simpa using Blk.cell hw'.1 0) (by simpa using Blk.cell hw'.1 1) (by simpa using Blk.cell hw'.1 2)) ⟨hbx4, hw4'.p⟩ ?_; go_simp) | (refine wpG_calc rfl (fun K hK => ?_)) | (refine wpG_skip ?_ ?_; (focus (simp [wantG]; done)); go_simp) | (refine wpG_take ?_ ?_; (focus (simp [wantG]; done))) | (refine wpG_pure (fun K hK => ?_); go_simp; refine hK _ _ ?_; clear hK K) | (refine wpG_deed (by decide) (fun K hK => ?_); go_simp) | (refine wpG_nil ?_))
      (refine wpG_keeps ⟨hbx4, hw4'.p⟩ (fun K hK => ?_))
      go_simp
      refine (end_any p c rg _ ⟨by omega, by omega⟩ ⟨by omega, by omega⟩).mono ?_
      rintro e W5 ⟨rfl, hc5⟩
      have hw5 := hw4'.stay hc5
      have hbx5 := Blk.chg hbx4 hc5 List.not_mem_nil
      refine hK _ _ ⟨hbx5, hw5.p⟩ ?_
      clear hK K hw4' hbx4 hc5
      obtain ⟨d2, hd2⟩ : ∃ d2, sd2 page s ⟨p, c, rg⟩ = d2 := ⟨_, rfl⟩
      obtain ⟨L2, hL2⟩ : ∃ L2, st2 page count g s ⟨p, c, rg⟩ = L2 := ⟨_, rfl⟩
      have Hd2 := hide hd2
      have HL2 := hide hL2
      clear hd2 hL2
      have hcont : Hid (∀ (W : World) (A : Option Addr) (n c0 : Nat), True → True) := hide fun _ _ _ _ h => h
      clear hcont
      have hdp5 := hbx5.lt
      by_cases hgt : page < p + c
      · have e2 : (if s.2 = true then st1 page s ⟨p, c, rg⟩ else putL (st1 page s ⟨p, c, rg⟩) ⟨page, count, g⟩) = L2 := by rw [← HL2.out]; unfold st2; rw [if_pos (show page < (⟨p, c, rg⟩ : Rn).e from hgt)]
        have ed2 : true = d2 := by rw [← Hd2.out]; unfold sd2; rw [if_pos (show page < (⟨p, c, rg⟩ : Rn).e from hgt)]
        subst ed2
        have HI := hide (in_any hw5 Hfit3.out.ok (by have := Hfit3.out.len; omega) ⟨⟨by show _ ≤ page; omega, by show page ≤ _; omega⟩, by show _ ≤ count; omega, by show count ≤ _; omega⟩)
        rw [e2] at HI
        clear e2
        have Hw5 := hide hw5
        have hnl : br ∉ bl :: bd :: own (.slice A3 n3 c3) := fun h => by
          rcases List.mem_cons.1 h with h | h
          · exact hbx5.ne_ Hw5.out.bl (by decide) h
          · rcases List.mem_cons.1 h with h | h
            · exact hbx5.ne_ Hw5.out.d (by decide) h
            · exact hn3 h
        go_wp2_with (first | (refine wpG_hload 3 _ rfl rfl (fun w' hw' => load_int Try.underlying3 (by simpa using Blk.cell hw'.2 0)) ⟨hbx5, hw5.p⟩ ?_; go_simp) | (go_at_call 38; refine HI.out.mono ?_; rintro e W6 ⟨rfl, ⟨A6, n6, c6, hw6, hg6⟩, hc6⟩; have hbx6 := hbx5.chg hc6 hnl; obtain ⟨e0, e1, e2, hdp6⟩ := box3 hbx6) | (refine wpG_calc rfl (fun K hK => ?_)) | (refine wpG_skip ?_ ?_; (focus (simp [wantG]; done)); go_simp) | (refine wpG_take ?_ ?_; (focus (simp [wantG]; done))) | (refine wpG_pure (fun K hK => ?_); go_simp; refine hK _ _ ?_; clear hK K) | (refine wpG_deed (by decide) (fun K hK => ?_); go_simp) | (refine wpG_nil ?_))
        have Hfit2 : Hid (Fit L2) := hide (by rw [← HL2.out]; exact Hfit.out.2.2)
        clear hbx5 hc6 hnl hdp5 HI Hw5 hw5 hg6
        clear e0 e1 e2
        have hw7 := hw6.stay (Chg.refl [] W6).drew
        have hbx7 := hbx6.drew
        clear hw6 hbx6
        refine wp_region_t [5,0,5,6,0,0,0,5,0,3,3] (List.replicate 11 none) (fun W => Blk W bl 38 #[.slice A6 n6 c6] ∧ Blk W br 30 #[.int .i64 p, .int .i64 c, .int .u8 rg]) (by kernel_rfl) (by kernel_rfl) (by kernel_rfl) ?_
        go_wp2_with (first | (refine wpG_hload 38 _ rfl rfl (fun w' hw' => load_slice Try.underlying38 (by simpa using Blk.cell hw'.1 0)) ⟨hw7.bl, hbx7⟩ ?_; go_simp) | (refine wpG_hload 30 _ rfl rfl (fun w' hw' => load_rn (by simpa using Blk.cell hw'.2 0) (by simpa using Blk.cell hw'.2 1) (by simpa using Blk.cell hw'.2 2)) ⟨hw7.bl, hbx7⟩ ?_; go_simp) | (refine wpG_calc rfl (fun K hK => ?_)) | (refine wpG_skip ?_ ?_; (focus (simp [wantG]; done)); go_simp) | (refine wpG_take ?_ ?_; (focus (simp [wantG]; done))) | (refine wpG_pure (fun K hK => ?_); go_simp; refine hK _ _ ?_; clear hK K) | (refine wpG_deed (by decide) (fun K hK => ?_); go_simp) | (refine wpG_nil ?_))
        (refine wpG_keeps ⟨hw7.bl, hbx7⟩ (fun K hK => ?_))
        go_simp
        refine (end_any p c rg _ ⟨by omega, by omega⟩ ⟨by omega, by omega⟩).mono ?_
        rintro e W8 ⟨rfl, hc8⟩
        have hw8 := hw7.stay hc8
        have hbx8 := Blk.chg hbx7 hc8 List.not_mem_nil
        refine hK _ _ ⟨hw8.bl, hbx8⟩ ?_
        clear hK K hw7 hbx7 hc8
        have HP8 := hide (put_any (r := ⟨m2, p + c - m2, rg⟩) hw8.s Hfit2.out.ok ⟨⟨by show _ ≤ m2; omega, by show m2 ≤ _; omega⟩, by show _ ≤ p + c - m2; omega, by show p + c - m2 ≤ _; omega⟩ (by have := Hfit2.out.len; omega))
        have Hw8 := hide hw8
        go_wp2_with (first | (refine wpG_hload 5 _ rfl rfl (fun w' hw' => load_int Try.underlying5 (by simpa using Blk.cell hw'.2 2)) ⟨hw8.bl, hbx8⟩ ?_; go_simp) | (refine wpG_calc rfl (fun K hK => ?_)) | (refine wpG_skip ?_ ?_; (focus (simp [wantG]; done)); go_simp) | (refine wpG_take ?_ ?_; (focus (simp [wantG]; done))) | (refine wpG_pure (fun K hK => ?_); go_simp; refine hK _ _ ?_; clear hK K) | (refine wpG_deed (by decide) (fun K hK => ?_); go_simp) | (refine wpG_nil ?_))
        refine HP8.out.mono ?_
        rintro e W9 ⟨A9, n9, c9, rfl, hs9, hc9, hg9⟩
        have hw8' := Hw8.out
        obtain ⟨y1, y2, y3, y4, y5⟩ := hw8'.kept hc9
        have hw9 := hw8'.put hs9 hc9 hg9
        clear hw8' Hw8 HP8 hc9 hg9 hs9 hbx8 hw8
        go_wp2_with (first | fail | (refine wpG_calc rfl (fun K hK => ?_)) | (refine wpG_skip ?_ ?_; (focus (simp [wantG]; done)); go_simp) | (refine wpG_take ?_ ?_; (focus (simp [wantG]; done))) | (refine wpG_pure (fun K hK => ?_); go_simp; refine hK _ _ ?_; clear hK K) | (refine wpG_deed (by decide) (fun K hK => ?_); go_simp) | (refine wpG_nil ?_))
        go_roundw
        case rel => exact ⟨k + 1, A9, n9, c9, by omega, by go_num, hide (by
          rw [Hfs.out, stepL_eq, HL2.out, Hd2.out]
          rw [Hm2.out] at hw9
          exact hw9)⟩
        case measure => simp [intOf]; omega
      · have ed2 : s.2 = d2 := by rw [← Hd2.out]; unfold sd2; rw [if_neg (show ¬ page < (⟨p, c, rg⟩ : Rn).e from hgt)]
        have e2 : st1 page s ⟨p, c, rg⟩ = L2 := by rw [← HL2.out]; unfold st2; rw [if_neg (show ¬ page < (⟨p, c, rg⟩ : Rn).e from hgt)]
        rw [ed2, e2] at hw5
        clear ed2 e2
        have Hfit2 : Hid (Fit L2) := hide (by rw [← HL2.out]; exact Hfit.out.2.2)
        obtain ⟨e0, e1, e2, hdp6⟩ := box3 hbx5
        clear hdp5
        go_wp2_with (first | (refine wpG_hload 3 _ rfl rfl (fun w' hw' => load_int Try.underlying3 (by simpa using Blk.cell hw'.2 0)) ⟨hbx5, hw5.p⟩ ?_; go_simp) | (refine wpG_calc rfl (fun K hK => ?_)) | (refine wpG_skip ?_ ?_; (focus (simp [wantG]; done)); go_simp) | (refine wpG_take ?_ ?_; (focus (simp [wantG]; done))) | (refine wpG_pure (fun K hK => ?_); go_simp; refine hK _ _ ?_; clear hK K) | (refine wpG_deed (by decide) (fun K hK => ?_); go_simp) | (refine wpG_nil ?_))
        have hw6 := hw5
        have hbx6 := hbx5
        clear hw5 hbx5 e0 e1 e2
        have hw7 := hw6.stay (Chg.refl [] W5).drew
        have hbx7 := hbx6.drew
        clear hw6 hbx6
        refine wp_region_t [5,0,5,6,0,0,0,5,0,3,3] (List.replicate 11 none) (fun W => Blk W bl 38 #[.slice A3 n3 c3] ∧ Blk W br 30 #[.int .i64 p, .int .i64 c, .int .u8 rg]) (by kernel_rfl) (by kernel_rfl) (by kernel_rfl) ?_
        go_wp2_with (first | (refine wpG_hload 38 _ rfl rfl (fun w' hw' => load_slice Try.underlying38 (by simpa using Blk.cell hw'.1 0)) ⟨hw7.bl, hbx7⟩ ?_; go_simp) | (refine wpG_hload 30 _ rfl rfl (fun w' hw' => load_rn (by simpa using Blk.cell hw'.2 0) (by simpa using Blk.cell hw'.2 1) (by simpa using Blk.cell hw'.2 2)) ⟨hw7.bl, hbx7⟩ ?_; go_simp) | (refine wpG_calc rfl (fun K hK => ?_)) | (refine wpG_skip ?_ ?_; (focus (simp [wantG]; done)); go_simp) | (refine wpG_take ?_ ?_; (focus (simp [wantG]; done))) | (refine wpG_pure (fun K hK => ?_); go_simp; refine hK _ _ ?_; clear hK K) | (refine wpG_deed (by decide) (fun K hK => ?_); go_simp) | (refine wpG_nil ?_))
        (refine wpG_keeps ⟨hw7.bl, hbx7⟩ (fun K hK => ?_))
        go_simp
        refine (end_any p c rg _ ⟨by omega, by omega⟩ ⟨by omega, by omega⟩).mono ?_
        rintro e W8 ⟨rfl, hc8⟩
        have hw8 := hw7.stay hc8
        have hbx8 := Blk.chg hbx7 hc8 List.not_mem_nil
        refine hK _ _ ⟨hw8.bl, hbx8⟩ ?_
        clear hK K hw7 hbx7 hc8
        have HP8 := hide (put_any (r := ⟨m2, p + c - m2, rg⟩) hw8.s Hfit2.out.ok ⟨⟨by show _ ≤ m2; omega, by show m2 ≤ _; omega⟩, by show _ ≤ p + c - m2; omega, by show p + c - m2 ≤ _; omega⟩ (by have := Hfit2.out.len; omega))
        have Hw8 := hide hw8
        go_wp2_with (first | (refine wpG_hload 5 _ rfl rfl (fun w' hw' => load_int Try.underlying5 (by simpa using Blk.cell hw'.2 2)) ⟨hw8.bl, hbx8⟩ ?_; go_simp) | (refine wpG_calc rfl (fun K hK => ?_)) | (refine wpG_skip ?_ ?_; (focus (simp [wantG]; done)); go_simp) | (refine wpG_take ?_ ?_; (focus (simp [wantG]; done))) | (refine wpG_pure (fun K hK => ?_); go_simp; refine hK _ _ ?_; clear hK K) | (refine wpG_deed (by decide) (fun K hK => ?_); go_simp) | (refine wpG_nil ?_))
        refine HP8.out.mono ?_
        rintro e W9 ⟨A9, n9, c9, rfl, hs9, hc9, hg9⟩
        have hw8' := Hw8.out
        obtain ⟨y1, y2, y3, y4, y5⟩ := hw8'.kept hc9
        have hw9 := hw8'.put hs9 hc9 hg9
        clear hw8' Hw8 HP8 hc9 hg9 hs9 hbx8 hw8
        go_wp2_with (first | fail | (refine wpG_calc rfl (fun K hK => ?_)) | (refine wpG_skip ?_ ?_; (focus (simp [wantG]; done)); go_simp) | (refine wpG_take ?_ ?_; (focus (simp [wantG]; done))) | (refine wpG_pure (fun K hK => ?_); go_simp; refine hK _ _ ?_; clear hK K) | (refine wpG_deed (by decide) (fun K hK => ?_); go_simp) | (refine wpG_nil ?_))
        go_roundw
        case rel => exact ⟨k + 1, A9, n9, c9, by omega, by go_num, hide (by
          rw [Hfs.out, stepL_eq, HL2.out, Hd2.out]
          rw [Hm2.out] at hw9
          exact hw9)⟩
        case measure => simp [intOf]; omega
    · have ek : l.take k = l := List.take_of_length_le (by omega)
      rw [ek] at hwr
      clear ek
      have hff := fold_fit (g := g) h0 h1 h2 Hl.out l.length
      rw [List.take_length] at hff
      have HI := hide (in_any hwr.out hff.ok (by have := hff.len; omega) ⟨⟨by show _ ≤ page; omega, by show page ≤ _; omega⟩, by show _ ≤ count; omega, by show count ≤ _; omega⟩)
      have ew : (if (l.foldl (stepL page count g) ([], false)).2 = true then (l.foldl (stepL page count g) ([], false)).1 else putL (l.foldl (stepL page count g) ([], false)).1 ⟨page, count, g⟩) = withL l page count g := rfl
      rw [ew] at HI
      clear ew hff hwr
      obtain ⟨L9, hL9⟩ : ∃ L9, withL l page count g = L9 := ⟨_, rfl⟩
      rw [hL9] at HI
      have H9 := hide hL9
      clear hL9
      go_wp2_with (go_at_call 38; refine HI.out.mono ?_; rintro e W6 ⟨rfl, ⟨A6, n6, c6, hw6, hg6⟩, hc6⟩; have hcs := hw6.cells; obtain ⟨z0, z1, z2, z3, z4, z5, z6⟩ := hcs)
      have hw7 := hw6.put hw6.s ((Chg.refl _ _).mono (fun _ h => .inl h)) (Grow.refl _ _)
      have z7 := hw7.cells.2.2.2.1
      exact bodyPost_ret (v := .slice A6 n6 c6) (by simp [results, Try.results33, go_sem, z7]) rfl ⟨A6, n6, c6, rfl, by rw [H9.out]; exact hw7.s, hw7.nV, hw7.chg⟩
end Go.Proofs.Ytmgjknlpcnakiaa
