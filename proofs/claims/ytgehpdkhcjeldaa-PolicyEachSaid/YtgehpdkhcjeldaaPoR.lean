/- PolicyNear: the walk. -/
import Derived.Test.YtgehpdkhcjeldaaPoN
import Derived.Test.YtgehpdkhcjeldaaPoS
namespace Go.Proofs.Ytgehpdkhcjeldaa
open Go Go.RowKit

theorem pow_nn (m y : Nat) : 0 ≤ (m : Int) / 2 ^ y := Int.ediv_nonneg (by omega) (Int.pow_nonneg (by omega))
theorem mod_has {m y : Nat} (h : hasZ m (y : Nat) = true) : (m : Int) / 2 ^ y % 2 = 1 := by
  unfold hasZ at h
  simp only [decide_eq_true_eq, Int.toNat_natCast] at h
  have h1 : ((m / 2 ^ y % 2 : Nat) : Int) = 1 := by rw [h.2.2]; rfl
  push_cast at h1
  exact h1
theorem mod_not {m y : Nat} (hy : y < 8) (h : hasZ m (y : Nat) = false) : (m : Int) / 2 ^ y % 2 = 0 := by
  unfold hasZ at h
  simp only [decide_eq_false_iff_not, Int.toNat_natCast] at h
  have h1 : ¬ m / 2 ^ y % 2 = 1 := fun e => h ⟨by omega, by omega, e⟩
  have h2 : m / 2 ^ y % 2 = 0 := by have := Nat.mod_lt (m / 2 ^ y) (show 0 < 2 by omega); omega
  have h3 : ((m / 2 ^ y % 2 : Nat) : Int) = 0 := by rw [h2]; rfl
  push_cast at h3
  exact h3
set_option maxRecDepth 20000 in
set_option maxHeartbeats 8000000 in
theorem pnear_law (c : Cf) {kind m : Nat} (hk : kind < 256) (hm : m < 256) (node page : Int) (hpg : page ≤ 9223372036854775807) (w : World) :
    Calls Try.prog 10 #[.agg (cg c), .agg #[.int .u8 kind, .int .u8 m], .int .i64 node, .int .i64 page] w fun e w' => e = .returned (.bool true) ∧ Chg [] w w' := by
  have HB : Hid (CB ((w.alloc (.cells (cg c) 26)).alloc (.cells #[.int .u8 kind, .int .u8 m] 45)) w.heap.size c) := hide ((Blk.new w 26 (cg c)).alloc _)
  have HP : Hid (Blk ((w.alloc (.cells (cg c) 26)).alloc (.cells #[.int .u8 kind, .int .u8 m] 45)) (w.heap.size + 1) 45 #[.int .u8 kind, .int .u8 m]) := hide (by
    have := Blk.new (w.alloc (.cells (cg c) 26)) 45 #[.int .u8 kind, .int .u8 m]
    rwa [World.size_alloc] at this)
  have HC : Hid (Chg [] w ((w.alloc (.cells (cg c) 26)).alloc (.cells #[.int .u8 kind, .int .u8 m] 45))) := hide (((Chg.refl [] w).alloc _).alloc _)
  have H23 := hide (fun W => pOrder_any c hk hm node page hpg W)
  have H14 := hide (fun W => rMay_any c W)
  have HKN := hide known18_any
  have HM := hide hm
  clear hk hm hpg
  go_enter Try.func10, Try.ntmps10
  go_wp2_with (first | (refine wpList_box26 rfl _ rfl rfl ?_) | (refine wpList_load26L (b := w.heap.size) (c := c) rfl _ rfl rfl ?_ ?_; (focus exact HB.out)) | (refine wpList_load45L (b := w.heap.size + 1) (kind := kind) (m := m) rfl _ rfl rfl ?_ ?_; (focus exact HP.out)))
  refine (H23.out _).mono ?_
  rintro e W4 ⟨A, n, cap, x4, L, rfl, hx4, hs4, _, hL, hLn, hc4⟩
  have HC4 := hide (HC.out.stay hc4)
  have HB4 := hide (CB.stay_ HB.out hc4)
  have HP4 := hide (HP.out.chg hc4 List.not_mem_nil)
  have HX4 := hide hx4
  have HS4 := hide hs4
  have HL4 := hide hL
  have hn : n = L.length := by
    obtain ⟨A', c', e'⟩ := hs4.form
    injection e'
  subst hn
  clear hx4 hs4 hL hLn hc4 HB HP HC
  obtain ⟨b, hb⟩ : ∃ b, b = w.heap.size := ⟨_, rfl⟩
  rw [← hb] at HB4 HP4 ⊢
  clear hb
  by_cases hx0 : x4 = 0
  rotate_left
  · have j2 : (x4 == 0) = false := by simpa using hx0
    have j4 : (x4 != 0) = true := by simpa using hx0
    go_wp2_with fail
    refine (HKN.out _).mono ?_
    rintro e W3 ⟨rfl, hc3⟩
    have HC5 := hide (HC4.out.stay hc3)
    clear hc3
    go_wp2_with fail
    go_ret
    exact ⟨rfl, HC5.out⟩
  subst hx0
  obtain ⟨hpb, hpg0, hnd0, hnd1⟩ := polE_ok HX4.out.symm
  obtain ⟨hM, hlen, hkind⟩ := polB_may hpb
  obtain ⟨v, rfl⟩ : ∃ v : Nat, node = v := ⟨node.toNat, by omega⟩
  obtain ⟨p, rfl⟩ : ∃ p : Nat, page = p := ⟨page.toNat, by omega⟩
  obtain ⟨nn, hnn⟩ : ∃ nn : Nat, c 0 = nn := ⟨(c 0).toNat, by have := hM.n1; omega⟩
  have hn8 : nn ≤ 8 := by have := hM.n8; omega
  have hn1 : 1 ≤ nn := by have := hM.n1; omega
  have hll : len8 m ≤ nn := by omega
  have hPL : PolL c kind m v p L := HL4.out rfl
  have hF := hPL.facts HM.out hnn hn8 hll
  have hLen := hF.len
  have hpos := hF.pos HM.out hn1 hn8 hll (fun h => by omega)
  have d3 : decide ((nn : Int) ≤ (v : Int)) = false := decide_eq_false (by omega)
  have d4 : decide (nn ≤ v) = false := decide_eq_false (by omega)
  have d2 : decide ((v : Int) < 0) = false := decide_eq_false (by omega)
  have v1 : (0 : Int) ≤ (v : Int) := by omega
  have v2 : (v : Int) < (nn : Int) := by omega
  rw [mayB_true hM] at H14
  have HFA := hide hF
  have HNN := hide hnn
  have HMay := hide hM
  have HLO := hide (show kind = 1 → ∀ h : 0 < L.length, L[0] = low8 m ∧ low8 m < nn from fun hk1 h => by
    subst hk1
    have h1 : low8 m < len8 m := low8_lt HM.out (by omega)
    exact ⟨PolL.head1 hM (by omega) hPL h, by omega⟩)
  have HDS := hide (fun f (hf : f < 8) => hM.ds_le hf)
  have l0 : (0 : Int) < (L.length : Int) := by omega
  have l8 : (L.length : Int) ≤ 8 := by omega
  have dl : decide (0 < L.length) = true := decide_eq_true hpos
  have nn8 : (nn : Int) ≤ 8 := by omega
  clear hpb hpg0 hnd0 hnd1 hM hlen hkind hnn hPL hF HL4 HX4 H23
  go_wp2_with (first | (refine wpList_load26W (b := b) (c := c) _ rfl rfl ?_ ?_ ?_; (focus (simp [Region.wanted, yielded]; done)); (focus exact HB4.out)))
  refine (H14.out _).mono ?_
  rintro e W5 ⟨rfl, hc5⟩
  have HC5 := hide (HC4.out.stay hc5)
  have HB5 := hide (CB.stay_ HB4.out hc5)
  have HP5 := hide (HP4.out.chg hc5 List.not_mem_nil)
  have HS5 := hide (HS4.out.stay hc5)
  have g0 := CB.get HB5.out (i := 0) (by omega)
  rw [HNN.out] at g0
  have p0 := HP5.out.cell 0
  have p1 := HP5.out.cell 1
  simp at p0 p1
  have hb5 : b + 1 < W5.heap.size := HP5.out.lt
  have hb50 : b < W5.heap.size := HB5.out.lt
  obtain ⟨g, off, rfl⟩ := SE.addr HS5.out hpos
  have q0 := SI.cell HS5.out.re hpos
  rw [Nat.add_zero] at q0
  have hg5 : g < W5.heap.size := HS5.out.own_lt g (by simp [own, Value.ownBlock])
  clear hc5 HC4 HB4 HP4 HS4
  by_cases k1 : kind = 1
  · subst k1
    rw [(HLO.out rfl hpos).1] at q0
    obtain ⟨f, hf⟩ : ∃ f, f = low8 m := ⟨_, rfl⟩
    rw [← hf] at q0
    have fn : f < nn := by rw [hf]; exact (HLO.out rfl hpos).2
    have f1 : (0 : Int) ≤ (f : Int) := by omega
    have f2 : (f : Int) < (nn : Int) := by omega
    have HFE := hide (show fromN 1 m v = f by rw [hf]; rfl)
    clear hf
    go_wp2_with fail
    go_loopw [12, 54] (fun t i wr => ∃ (j : Nat) (d : Int), j ≤ L.length ∧ t = .int .i64 d ∧ i = .int .i64 j ∧ 0 ≤ d ∧ d ≤ 255 ∧ Hid (∀ x ∈ (L.drop j).filter (fun x => !skipZ 1 m x), d ≤ ds c f x) ∧ Chg [] W5 wr) (fun _ i _ => L.length - (intOf i).toNat)
    case atStart => exact ⟨0, 0, by omega, rfl, rfl, by omega, by omega, hide (fun x hx => by
      have hx' := (List.mem_filter.1 hx).1
      rw [List.drop_zero] at hx'
      have := ((HFA.out.mem x).1 hx').1
      exact (HDS.out f (by omega) x (by omega)).1), Chg.refl _ _⟩
    case round =>
      obtain ⟨j, d, hj, rfl, rfl, hd0, hd1, HD, hch⟩ := hrel
      clear q0
      by_cases hjt : j < L.length
      · have HBr := hide (CB.stay_ HB5.out hch)
        have HPr := hide (HP5.out.chg hch List.not_mem_nil)
        have HSr := hide (HS5.out.stay hch)
        have r0 := CB.get HBr.out (i := 0) (by omega)
        rw [HNN.out] at r0
        have t0 := HPr.out.cell 0
        have t1 := HPr.out.cell 1
        simp at t0 t1
        have hbr : b + 1 < wr.heap.size := HPr.out.lt
        have hbr0 : b < wr.heap.size := HBr.out.lt
        have hgr : g < wr.heap.size := HSr.out.own_lt g (by simp [own, Value.ownBlock])
        have qj := SI.cell HSr.out.re hjt
        have hyn : L[j] < nn := ((HFA.out.mem _).1 (List.getElem_mem hjt)).1
        have hdr : L.drop j = L[j] :: L.drop (j + 1) := List.drop_eq_getElem_cons hjt
        have hso := HFA.out.so
        obtain ⟨y, hy⟩ : ∃ y, L[j] = y := ⟨_, rfl⟩
        rw [hy] at qj hyn hdr
        have HDR := hide hdr
        have HTAIL := hide (show skipZ 1 m y = false → d ≤ ds c f y ∧ ∀ x ∈ (L.drop (j + 1)).filter (fun x => !skipZ 1 m x), ds c f y ≤ ds c f x from fun hs => by
          have h1 : (L.drop j).filter (fun x => !skipZ 1 m x) = y :: (L.drop (j + 1)).filter (fun x => !skipZ 1 m x) := by rw [hdr, List.filter_cons, if_pos (by rw [hs]; rfl)]
          refine ⟨HD.out y (by rw [h1]; exact List.mem_cons_self ..), ?_⟩
          have h2 : ((L.drop j).filter (fun x => !skipZ 1 m x)).Pairwise fun a b => ds c f a ≤ ds c f b := by
            rw [← HFE.out]
            exact List.Pairwise.sublist (List.Sublist.filter _ (List.drop_sublist j L)) hso
          rw [h1] at h2
          exact (List.pairwise_cons.1 h2).1)
        have HSKIP := hide (show skipZ 1 m y = true → ∀ x ∈ (L.drop (j + 1)).filter (fun x => !skipZ 1 m x), d ≤ ds c f x from fun hs x hx => HD.out x (by
          rw [hdr, List.filter_cons, if_neg (by rw [hs]; simp)]
          exact hx))
        have hdb := HDS.out f (by omega) y (by omega)
        have e1 := CB.get HBr.out (i := 26 + f * 8 + y) (by omega)
        obtain ⟨z, hz⟩ : ∃ z, ds c f y = z := ⟨_, rfl⟩
        rw [show c (26 + f * 8 + y) = z from hz] at e1
        rw [hz] at hdb HTAIL
        obtain ⟨z0, z1⟩ := hdb
        have m1 : (0 : Int) ≤ (m : Int) := by omega
        have m2 : (m : Int) < 256 := by have := HM.out; omega
        have j1 : (0 : Int) ≤ (j : Int) := by omega
        have j2 : (j : Int) < (L.length : Int) := by omega
        have y1 : (0 : Int) ≤ (y : Int) := by omega
        have y2 : (y : Int) < 8 := by omega
        have y3 : decide ((y : Int) < 0) = false := decide_eq_false (by omega)
        have y4 : decide ((nn : Int) ≤ (y : Int)) = false := decide_eq_false (by omega)
        have y5 : decide (nn ≤ y) = false := decide_eq_false (by omega)
        have f3 : decide ((f : Int) < 0) = false := decide_eq_false (by omega)
        have f4 : decide ((nn : Int) ≤ (f : Int)) = false := decide_eq_false (by omega)
        have f5 : decide (nn ≤ f) = false := decide_eq_false (by omega)
        have f6 : (f : Int) < 8 := by omega
        clear hy hdr hso hz HD
        by_cases hsk : skipZ 1 m y = true
        · exact absurd hsk (by simp [skipZ])
        · have HT := hide (HTAIL.out (by simpa using hsk))
          have hdz := HT.out.1
          have z3 : decide (z < d) = false := decide_eq_false (by omega)
          have HCH := hide hch
          clear hdz hch
          go_wp2_with fail
          refine wp_region_t [0, 0, 0, 1, 0, 0, 0, 0, 0, 1, 0, 1, 0, 0, 0, 0, 0, 0, 0, 0, 0, 1, 0, 0] [none, none, none, none, none, none, some (62, false), some (62, false), some (62, false), some (62, false), some (62, false), some (62, false), some (62, false), none, none, some (71, false), some (71, false), none, none, some (75, false), some (75, false), some (75, false), some (75, false), none] (fun _ => True) (by kernel_rfl) (by kernel_rfl) (by kernel_rfl) ?_
          go_wp2_with (first | (refine wpG_skip ?_ ?_; (focus (simp [wantG, undef]; done)); go_simp) | (refine wpG_calc rfl (fun K hK => ?_)) | (refine wpG_skip ?_ ?_; (focus (simp [wantG]; done)); go_simp) | (refine wpG_take ?_ ?_; (focus (simp [wantG]; done))) | (refine wpG_pure (fun K hK => ?_); go_simp; refine hK _ _ ?_; clear hK K) | (refine wpG_deed (by decide) (fun K hK => ?_); go_simp) | (refine wpG_nil ?_))
          refine wp_region_t [0, 1, 0, 0, 0, 1, 0, 0, 0, 0, 1, 0, 0, 0, 0] [none, none, none, none, some (84, true), some (84, true), some (84, true), some (84, true), some (84, true), some (84, true), some (84, true), some (84, true), some (84, true), some (84, true), none] (fun _ => True) (by kernel_rfl) (by kernel_rfl) (by kernel_rfl) ?_
          go_wp2_with (first | (refine wpG_skip ?_ ?_; (focus (simp [wantG, undef]; done)); go_simp) | (refine wpG_calc rfl (fun K hK => ?_)) | (refine wpG_skip ?_ ?_; (focus (simp [wantG]; done)); go_simp) | (refine wpG_take ?_ ?_; (focus (simp [wantG]; done))) | (refine wpG_pure (fun K hK => ?_); go_simp; refine hK _ _ ?_; clear hK K) | (refine wpG_deed (by decide) (fun K hK => ?_); go_simp) | (refine wpG_nil ?_))
          refine wp_region_t [0, 0, 0, 0, 1, 0, 0, 0, 1, 0, 0] [none, none, none, none, none, none, none, none, none, none, none] (fun _ => True) (by kernel_rfl) (by kernel_rfl) (by kernel_rfl) ?_
          go_wp2_with (first | (refine wpG_skip ?_ ?_; (focus (simp [wantG, undef]; done)); go_simp) | (refine wpG_calc rfl (fun K hK => ?_)) | (refine wpG_skip ?_ ?_; (focus (simp [wantG]; done)); go_simp) | (refine wpG_take ?_ ?_; (focus (simp [wantG]; done))) | (refine wpG_pure (fun K hK => ?_); go_simp; refine hK _ _ ?_; clear hK K) | (refine wpG_deed (by decide) (fun K hK => ?_); go_simp) | (refine wpG_nil ?_))
          refine wp_region_t [0, 0, 0, 0, 1, 0, 0, 0, 1, 0] [none, none, none, none, none, none, none, none, none, none] (fun _ => True) (by kernel_rfl) (by kernel_rfl) (by kernel_rfl) ?_
          go_wp2_with (first | (refine wpG_skip ?_ ?_; (focus (simp [wantG, undef]; done)); go_simp) | (refine wpG_calc rfl (fun K hK => ?_)) | (refine wpG_skip ?_ ?_; (focus (simp [wantG]; done)); go_simp) | (refine wpG_take ?_ ?_; (focus (simp [wantG]; done))) | (refine wpG_pure (fun K hK => ?_); go_simp; refine hK _ _ ?_; clear hK K) | (refine wpG_deed (by decide) (fun K hK => ?_); go_simp) | (refine wpG_nil ?_))
          go_roundw
          case rel => exact ⟨j + 1, z, by omega, rfl, by go_num, by omega, by omega, hide HT.out.2, HCH.out.drew.drew.drew.drew⟩
          case measure => simp [intOf]; omega
      · obtain rfl : j = L.length := by omega
        have HC9 := hide (HC5.out.stay hch)
        clear HD hch
        go_wp2_with fail
        refine (HKN.out _).mono ?_
        rintro e W9 ⟨rfl, hc9⟩
        have HC10 := hide (HC9.out.stay hc9)
        clear hc9
        go_wp2_with fail
        go_ret
        exact ⟨rfl, HC10.out⟩
  · have j1 : ((kind : Int) == 1) = false := by simp; omega
    have i1 : (kind == 1) = false := by simpa using k1
    obtain ⟨f, rfl⟩ : ∃ f, f = v := ⟨_, rfl⟩
    have fn : f < nn := by omega
    have HFE := hide (show fromN kind m f = f by unfold fromN; rw [if_neg k1])
    go_wp2_with fail
    go_loopw [12, 54] (fun t i wr => ∃ (j : Nat) (d : Int), j ≤ L.length ∧ t = .int .i64 d ∧ i = .int .i64 j ∧ 0 ≤ d ∧ d ≤ 255 ∧ Hid (∀ x ∈ (L.drop j).filter (fun x => !skipZ kind m x), d ≤ ds c f x) ∧ Chg [] W5 wr) (fun _ i _ => L.length - (intOf i).toNat)
    case atStart => exact ⟨0, 0, by omega, rfl, rfl, by omega, by omega, hide (fun x hx => by
      have hx' := (List.mem_filter.1 hx).1
      rw [List.drop_zero] at hx'
      have := ((HFA.out.mem x).1 hx').1
      exact (HDS.out f (by omega) x (by omega)).1), Chg.refl _ _⟩
    case round =>
      obtain ⟨j, d, hj, rfl, rfl, hd0, hd1, HD, hch⟩ := hrel
      clear q0
      by_cases hjt : j < L.length
      · have HBr := hide (CB.stay_ HB5.out hch)
        have HPr := hide (HP5.out.chg hch List.not_mem_nil)
        have HSr := hide (HS5.out.stay hch)
        have r0 := CB.get HBr.out (i := 0) (by omega)
        rw [HNN.out] at r0
        have t0 := HPr.out.cell 0
        have t1 := HPr.out.cell 1
        simp at t0 t1
        have hbr : b + 1 < wr.heap.size := HPr.out.lt
        have hbr0 : b < wr.heap.size := HBr.out.lt
        have hgr : g < wr.heap.size := HSr.out.own_lt g (by simp [own, Value.ownBlock])
        have qj := SI.cell HSr.out.re hjt
        have hyn : L[j] < nn := ((HFA.out.mem _).1 (List.getElem_mem hjt)).1
        have hdr : L.drop j = L[j] :: L.drop (j + 1) := List.drop_eq_getElem_cons hjt
        have hso := HFA.out.so
        obtain ⟨y, hy⟩ : ∃ y, L[j] = y := ⟨_, rfl⟩
        rw [hy] at qj hyn hdr
        have HDR := hide hdr
        have HTAIL := hide (show skipZ kind m y = false → d ≤ ds c f y ∧ ∀ x ∈ (L.drop (j + 1)).filter (fun x => !skipZ kind m x), ds c f y ≤ ds c f x from fun hs => by
          have h1 : (L.drop j).filter (fun x => !skipZ kind m x) = y :: (L.drop (j + 1)).filter (fun x => !skipZ kind m x) := by rw [hdr, List.filter_cons, if_pos (by rw [hs]; rfl)]
          refine ⟨HD.out y (by rw [h1]; exact List.mem_cons_self ..), ?_⟩
          have h2 : ((L.drop j).filter (fun x => !skipZ kind m x)).Pairwise fun a b => ds c f a ≤ ds c f b := by
            rw [← HFE.out]
            exact List.Pairwise.sublist (List.Sublist.filter _ (List.drop_sublist j L)) hso
          rw [h1] at h2
          exact (List.pairwise_cons.1 h2).1)
        have HSKIP := hide (show skipZ kind m y = true → ∀ x ∈ (L.drop (j + 1)).filter (fun x => !skipZ kind m x), d ≤ ds c f x from fun hs x hx => HD.out x (by
          rw [hdr, List.filter_cons, if_neg (by rw [hs]; simp)]
          exact hx))
        have hdb := HDS.out f (by omega) y (by omega)
        have e1 := CB.get HBr.out (i := 26 + f * 8 + y) (by omega)
        obtain ⟨z, hz⟩ : ∃ z, ds c f y = z := ⟨_, rfl⟩
        rw [show c (26 + f * 8 + y) = z from hz] at e1
        rw [hz] at hdb HTAIL
        obtain ⟨z0, z1⟩ := hdb
        have m1 : (0 : Int) ≤ (m : Int) := by omega
        have m2 : (m : Int) < 256 := by have := HM.out; omega
        have j1 : (0 : Int) ≤ (j : Int) := by omega
        have j2 : (j : Int) < (L.length : Int) := by omega
        have y1 : (0 : Int) ≤ (y : Int) := by omega
        have y2 : (y : Int) < 8 := by omega
        have y3 : decide ((y : Int) < 0) = false := decide_eq_false (by omega)
        have y4 : decide ((nn : Int) ≤ (y : Int)) = false := decide_eq_false (by omega)
        have y5 : decide (nn ≤ y) = false := decide_eq_false (by omega)
        have f3 : decide ((f : Int) < 0) = false := decide_eq_false (by omega)
        have f4 : decide ((nn : Int) ≤ (f : Int)) = false := decide_eq_false (by omega)
        have f5 : decide (nn ≤ f) = false := decide_eq_false (by omega)
        have f6 : (f : Int) < 8 := by omega
        clear hy hdr hso hz HD
        by_cases hsk : skipZ kind m y = true
        · have HT := hide (HSKIP.out hsk)
          have hk3 : kind = 3 ∧ hasZ m (y : Nat) = true := by simpa [skipZ] using hsk
          obtain ⟨k3, hzz⟩ := hk3
          have i3 : ((kind : Int) == 3) = true := by simp; omega
          have i4 : (kind == 3) = true := by simpa using k3
          clear k3
          have hq : (m : Int) / 2 ^ y % 2 = 1 := mod_has hzz
          have hq2 : ((m : Int) / 2 ^ y).tmod 2 = 1 := by rw [Int.tmod_eq_emod_of_nonneg (pow_nn m y)]; exact hq
          have HCH := hide hch
          clear hsk hzz HTAIL HSKIP hch
          go_wp2_with fail
          refine wp_region_t [0, 0, 0, 1, 0, 0, 0, 0, 0, 1, 0, 1, 0, 0, 0, 0, 0, 0, 0, 0, 0, 1, 0, 0] [none, none, none, none, none, none, some (62, false), some (62, false), some (62, false), some (62, false), some (62, false), some (62, false), some (62, false), none, none, some (71, false), some (71, false), none, none, some (75, false), some (75, false), some (75, false), some (75, false), none] (fun _ => True) (by kernel_rfl) (by kernel_rfl) (by kernel_rfl) ?_
          go_wp2_with (first | (refine wpG_skip ?_ ?_; (focus (simp [wantG, undef]; done)); go_simp) | (refine wpG_calc rfl (fun K hK => ?_)) | (refine wpG_skip ?_ ?_; (focus (simp [wantG]; done)); go_simp) | (refine wpG_take ?_ ?_; (focus (simp [wantG]; done))) | (refine wpG_pure (fun K hK => ?_); go_simp; refine hK _ _ ?_; clear hK K) | (refine wpG_deed (by decide) (fun K hK => ?_); go_simp) | (refine wpG_nil ?_))
          refine wp_region_t [0, 1, 0, 0, 0, 1, 0, 0, 0, 0, 1, 0, 0, 0, 0] [none, none, none, none, some (84, true), some (84, true), some (84, true), some (84, true), some (84, true), some (84, true), some (84, true), some (84, true), some (84, true), some (84, true), none] (fun _ => True) (by kernel_rfl) (by kernel_rfl) (by kernel_rfl) ?_
          go_wp2_with (first | (refine wpG_skip ?_ ?_; (focus (simp [wantG, undef]; done)); go_simp) | (refine wpG_calc rfl (fun K hK => ?_)) | (refine wpG_skip ?_ ?_; (focus (simp [wantG]; done)); go_simp) | (refine wpG_take ?_ ?_; (focus (simp [wantG]; done))) | (refine wpG_pure (fun K hK => ?_); go_simp; refine hK _ _ ?_; clear hK K) | (refine wpG_deed (by decide) (fun K hK => ?_); go_simp) | (refine wpG_nil ?_))
          go_roundw
          case rel => exact ⟨j + 1, d, by omega, rfl, by go_num, by omega, by omega, HT, HCH.out.drew.drew⟩
          case measure => simp [intOf]; omega
        · have HT := hide (HTAIL.out (by simpa using hsk))
          by_cases k3 : kind = 3
          · have hzz : hasZ m (y : Nat) = false := by simpa [skipZ, k3] using hsk
            have i3 : ((kind : Int) == 3) = true := by simp; omega
            have i4 : (kind == 3) = true := by simpa using k3
            clear k3
            have hq : (m : Int) / 2 ^ y % 2 = 0 := mod_not (by omega) hzz
            have hq2 : ((m : Int) / 2 ^ y).tmod 2 = 0 := by rw [Int.tmod_eq_emod_of_nonneg (pow_nn m y)]; exact hq
            clear hsk hzz HTAIL HSKIP
            have hdz := HT.out.1
            have z3 : decide (z < d) = false := decide_eq_false (by omega)
            have HCH := hide hch
            clear hdz hch
            go_wp2_with fail
            refine wp_region_t [0, 0, 0, 1, 0, 0, 0, 0, 0, 1, 0, 1, 0, 0, 0, 0, 0, 0, 0, 0, 0, 1, 0, 0] [none, none, none, none, none, none, some (62, false), some (62, false), some (62, false), some (62, false), some (62, false), some (62, false), some (62, false), none, none, some (71, false), some (71, false), none, none, some (75, false), some (75, false), some (75, false), some (75, false), none] (fun _ => True) (by kernel_rfl) (by kernel_rfl) (by kernel_rfl) ?_
            go_wp2_with (first | (refine wpG_skip ?_ ?_; (focus (simp [wantG, undef]; done)); go_simp) | (refine wpG_calc rfl (fun K hK => ?_)) | (refine wpG_skip ?_ ?_; (focus (simp [wantG]; done)); go_simp) | (refine wpG_take ?_ ?_; (focus (simp [wantG]; done))) | (refine wpG_pure (fun K hK => ?_); go_simp; refine hK _ _ ?_; clear hK K) | (refine wpG_deed (by decide) (fun K hK => ?_); go_simp) | (refine wpG_nil ?_))
            refine wp_region_t [0, 1, 0, 0, 0, 1, 0, 0, 0, 0, 1, 0, 0, 0, 0] [none, none, none, none, some (84, true), some (84, true), some (84, true), some (84, true), some (84, true), some (84, true), some (84, true), some (84, true), some (84, true), some (84, true), none] (fun _ => True) (by kernel_rfl) (by kernel_rfl) (by kernel_rfl) ?_
            go_wp2_with (first | (refine wpG_skip ?_ ?_; (focus (simp [wantG, undef]; done)); go_simp) | (refine wpG_calc rfl (fun K hK => ?_)) | (refine wpG_skip ?_ ?_; (focus (simp [wantG]; done)); go_simp) | (refine wpG_take ?_ ?_; (focus (simp [wantG]; done))) | (refine wpG_pure (fun K hK => ?_); go_simp; refine hK _ _ ?_; clear hK K) | (refine wpG_deed (by decide) (fun K hK => ?_); go_simp) | (refine wpG_nil ?_))
            refine wp_region_t [0, 0, 0, 0, 1, 0, 0, 0, 1, 0, 0] [none, none, none, none, none, none, none, none, none, none, none] (fun _ => True) (by kernel_rfl) (by kernel_rfl) (by kernel_rfl) ?_
            go_wp2_with (first | (refine wpG_skip ?_ ?_; (focus (simp [wantG, undef]; done)); go_simp) | (refine wpG_calc rfl (fun K hK => ?_)) | (refine wpG_skip ?_ ?_; (focus (simp [wantG]; done)); go_simp) | (refine wpG_take ?_ ?_; (focus (simp [wantG]; done))) | (refine wpG_pure (fun K hK => ?_); go_simp; refine hK _ _ ?_; clear hK K) | (refine wpG_deed (by decide) (fun K hK => ?_); go_simp) | (refine wpG_nil ?_))
            refine wp_region_t [0, 0, 0, 0, 1, 0, 0, 0, 1, 0] [none, none, none, none, none, none, none, none, none, none] (fun _ => True) (by kernel_rfl) (by kernel_rfl) (by kernel_rfl) ?_
            go_wp2_with (first | (refine wpG_skip ?_ ?_; (focus (simp [wantG, undef]; done)); go_simp) | (refine wpG_calc rfl (fun K hK => ?_)) | (refine wpG_skip ?_ ?_; (focus (simp [wantG]; done)); go_simp) | (refine wpG_take ?_ ?_; (focus (simp [wantG]; done))) | (refine wpG_pure (fun K hK => ?_); go_simp; refine hK _ _ ?_; clear hK K) | (refine wpG_deed (by decide) (fun K hK => ?_); go_simp) | (refine wpG_nil ?_))
            go_roundw
            case rel => exact ⟨j + 1, z, by omega, rfl, by go_num, by omega, by omega, hide HT.out.2, HCH.out.drew.drew.drew.drew⟩
            case measure => simp [intOf]; omega
          · have i3 : ((kind : Int) == 3) = false := by simp; omega
            have i4 : (kind == 3) = false := by simpa using k3
            clear hsk HTAIL HSKIP
            have hdz := HT.out.1
            have z3 : decide (z < d) = false := decide_eq_false (by omega)
            have HCH := hide hch
            clear hdz hch
            go_wp2_with fail
            refine wp_region_t [0, 0, 0, 1, 0, 0, 0, 0, 0, 1, 0, 1, 0, 0, 0, 0, 0, 0, 0, 0, 0, 1, 0, 0] [none, none, none, none, none, none, some (62, false), some (62, false), some (62, false), some (62, false), some (62, false), some (62, false), some (62, false), none, none, some (71, false), some (71, false), none, none, some (75, false), some (75, false), some (75, false), some (75, false), none] (fun _ => True) (by kernel_rfl) (by kernel_rfl) (by kernel_rfl) ?_
            go_wp2_with (first | (refine wpG_skip ?_ ?_; (focus (simp [wantG, undef]; done)); go_simp) | (refine wpG_calc rfl (fun K hK => ?_)) | (refine wpG_skip ?_ ?_; (focus (simp [wantG]; done)); go_simp) | (refine wpG_take ?_ ?_; (focus (simp [wantG]; done))) | (refine wpG_pure (fun K hK => ?_); go_simp; refine hK _ _ ?_; clear hK K) | (refine wpG_deed (by decide) (fun K hK => ?_); go_simp) | (refine wpG_nil ?_))
            refine wp_region_t [0, 1, 0, 0, 0, 1, 0, 0, 0, 0, 1, 0, 0, 0, 0] [none, none, none, none, some (84, true), some (84, true), some (84, true), some (84, true), some (84, true), some (84, true), some (84, true), some (84, true), some (84, true), some (84, true), none] (fun _ => True) (by kernel_rfl) (by kernel_rfl) (by kernel_rfl) ?_
            go_wp2_with (first | (refine wpG_skip ?_ ?_; (focus (simp [wantG, undef]; done)); go_simp) | (refine wpG_calc rfl (fun K hK => ?_)) | (refine wpG_skip ?_ ?_; (focus (simp [wantG]; done)); go_simp) | (refine wpG_take ?_ ?_; (focus (simp [wantG]; done))) | (refine wpG_pure (fun K hK => ?_); go_simp; refine hK _ _ ?_; clear hK K) | (refine wpG_deed (by decide) (fun K hK => ?_); go_simp) | (refine wpG_nil ?_))
            refine wp_region_t [0, 0, 0, 0, 1, 0, 0, 0, 1, 0, 0] [none, none, none, none, none, none, none, none, none, none, none] (fun _ => True) (by kernel_rfl) (by kernel_rfl) (by kernel_rfl) ?_
            go_wp2_with (first | (refine wpG_skip ?_ ?_; (focus (simp [wantG, undef]; done)); go_simp) | (refine wpG_calc rfl (fun K hK => ?_)) | (refine wpG_skip ?_ ?_; (focus (simp [wantG]; done)); go_simp) | (refine wpG_take ?_ ?_; (focus (simp [wantG]; done))) | (refine wpG_pure (fun K hK => ?_); go_simp; refine hK _ _ ?_; clear hK K) | (refine wpG_deed (by decide) (fun K hK => ?_); go_simp) | (refine wpG_nil ?_))
            refine wp_region_t [0, 0, 0, 0, 1, 0, 0, 0, 1, 0] [none, none, none, none, none, none, none, none, none, none] (fun _ => True) (by kernel_rfl) (by kernel_rfl) (by kernel_rfl) ?_
            go_wp2_with (first | (refine wpG_skip ?_ ?_; (focus (simp [wantG, undef]; done)); go_simp) | (refine wpG_calc rfl (fun K hK => ?_)) | (refine wpG_skip ?_ ?_; (focus (simp [wantG]; done)); go_simp) | (refine wpG_take ?_ ?_; (focus (simp [wantG]; done))) | (refine wpG_pure (fun K hK => ?_); go_simp; refine hK _ _ ?_; clear hK K) | (refine wpG_deed (by decide) (fun K hK => ?_); go_simp) | (refine wpG_nil ?_))
            go_roundw
            case rel => exact ⟨j + 1, z, by omega, rfl, by go_num, by omega, by omega, hide HT.out.2, HCH.out.drew.drew.drew.drew⟩
            case measure => simp [intOf]; omega
      · obtain rfl : j = L.length := by omega
        have HC9 := hide (HC5.out.stay hch)
        clear HD hch
        go_wp2_with fail
        refine (HKN.out _).mono ?_
        rintro e W9 ⟨rfl, hc9⟩
        have HC10 := hide (HC9.out.stay hc9)
        clear hc9
        go_wp2_with fail
        go_ret
        exact ⟨rfl, HC10.out⟩
end Go.Proofs.Ytgehpdkhcjeldaa
