import Derived.Test.YtbmdcfeiecmlpaaDepG
namespace Go.Proofs.Ytbmdcfeiecmlpaa
open Go Go.RowKit

/-- one more object behind the slice of one's own -/
theorem DSt.so {w W : World} {d r : Nat} {fs : List (List Ob)} {q l : List Ob} {v : Value} (h : DSt w W d r fs q v l) : SO W v l := by
  obtain ⟨F, hm, hF, hc0, hs0, hn⟩ := h
  exact hs0
theorem DSt.app {w W w' : World} {d r : Nat} {fs : List (List Ob)} {q l m : List Ob} {v V : Value} (h : DSt w W d r fs q v l) (hs : SO w' V (l ++ m)) (hc : Chg (own v) W w') (ho : V.ownBlock = v.ownBlock ∨ V.ownBlock = some W.heap.size) (hv : ∀ k ∈ own v, w.heap.size ≤ k) :
    DSt w w' d r fs q V (l ++ m) ∧ ∀ k ∈ own V, w.heap.size ≤ k := by
  obtain ⟨F, hm, hF, hc0, hs0, hn⟩ := h
  refine ⟨⟨F, hm.chg hc (fun k hk hk' => hn k hk' hk), hF, hc0.trans hc (fun k hk => .inr (hv k hk)), hs, fun k hk hk' => ?_⟩, fun k hk => ?_⟩
  · rw [own_mem] at hk
    rcases ho with e | e
    · exact hn k (own_mem.2 (by rw [← e]; exact hk)) hk'
    · rw [hk] at e
      have := hm.lt k hk'
      simp at e
      omega
  · rw [own_mem] at hk
    rcases ho with e | e
    · exact hv k (own_mem.2 (by rw [← e]; exact hk))
    · rw [hk] at e
      have := hc0.size
      simp at e
      omega

theorem turn_k (so : Int) (n : Nat) (hn : n ≤ 1000) : ∃ K : Nat, wrap64 ((IntKind.u64.wrap so).tmod ((n : Int) + 1)) = K ∧ K ≤ n := by
  have h0 : 0 ≤ IntKind.u64.wrap so := by rw [IntKind.wrap_u64]; omega
  have h1 : (IntKind.u64.wrap so).tmod ((n : Int) + 1) = (IntKind.u64.wrap so) % ((n : Int) + 1) := Int.tmod_eq_emod_of_nonneg h0
  have h2 := Int.emod_nonneg (IntKind.u64.wrap so) (show ((n : Int) + 1) ≠ 0 by omega)
  have h3 := Int.emod_lt_of_pos (IntKind.u64.wrap so) (show 0 < ((n : Int) + 1) by omega)
  rw [h1]
  generalize (IntKind.u64.wrap so) % ((n : Int) + 1) = z at h2 h3
  refine ⟨z.toNat, ?_, by omega⟩
  unfold wrap64
  omega
/-- a piece of a slice that is read -/
theorem RO.take {w : World} {A : Option Addr} {n c k : Nat} {l : List Ob} (h : RO w (.slice A n c) l) (hk : k ≤ l.length) : RO w (.slice A k c) (l.take k) := by
  obtain ⟨h1, A', c', e, hc, h2⟩ := h
  injection e with e1 e2 e3
  subst e1; subst e2; subst e3
  have el : (l.take k).length = k := by rw [List.length_take]; omega
  refine ⟨by rw [oc_length], A, c, by rw [el], by omega, fun hp => ?_⟩
  rw [el] at hp
  obtain ⟨g, off, eg, hat⟩ := h2 (by omega)
  refine ⟨g, off, eg, fun j u hu => ?_⟩
  rw [← oc_take, List.getElem?_take] at hu
  split at hu
  · exact hat j u hu
  · cases hu
theorem RO.drop {w : World} {A : Option Addr} {n c k : Nat} {l : List Ob} (h : RO w (.slice A n c) l) (hk : k ≤ l.length) : RO w (.slice (if c = k then A else A.map (·.add (k * 2))) (l.length - k) (c - k)) (l.drop k) := by
  obtain ⟨h1, A', c', e, hc, h2⟩ := h
  injection e with e1 e2 e3
  subst e1; subst e2; subst e3
  have el : (l.drop k).length = l.length - k := by rw [List.length_drop]
  refine ⟨by rw [oc_length], _, _, by rw [el], by omega, fun hp => ?_⟩
  rw [el] at hp
  obtain ⟨g, off, eg, hat⟩ := h2 (by omega)
  subst eg
  have ea : (⟨g, off, none⟩ : Addr).add (k * 2) = ⟨g, off + k * 2, none⟩ := by unfold Addr.add; split <;> simp_all
  rw [if_neg (by omega)]
  refine ⟨g, off + k * 2, by simp [ea], fun j u hu => ?_⟩
  rw [← oc_drop, List.getElem?_drop] at hu
  rw [Nat.add_assoc]
  exact hat _ u hu
/-- a full magazine of the law's -/
def mag (r i : Nat) : List Ob := (List.range r).map fun j : Nat => ((i : Int), (j : Int))
def mags (r k : Nat) : List (List Ob) := (List.range k).map (mag r)
theorem mags_succ (r k : Nat) : mags r (k + 1) = mags r k ++ [mag r k] := by simp [mags, List.range_succ]
theorem mag_length (r i : Nat) : (mag r i).length = r := by simp [mag]
theorem mags_length (r k : Nat) : (mags r k).length = k := by simp [mags]
def magp (i j : Nat) : List Ob := (List.range j).map fun j : Nat => ((i : Int), (j : Int))
theorem magp_succ (i j : Nat) : magp i (j + 1) = magp i j ++ [((i : Int), (j : Int))] := by simp [magp, List.range_succ]
theorem magp_length (i j : Nat) : (magp i j).length = j := by simp [magp]
theorem magp_full (r i : Nat) : magp i r = mag r i := rfl

set_option maxHeartbeats 3000000 in
theorem dturns_any (x n so : Int) {w : World} {v : Value} {l : List Ob} (hl : RO w v l) : Calls Try.prog 3 #[.int .i64 x, .int .i64 n, v, .int .i64 so] w fun e w' => e = .returned (.bool true) ∧ Chg [] w w' := by
  obtain ⟨A, c, rfl⟩ := hl.form
  by_cases hbig : n < 0 ∨ 20 < n ∨ 60 < l.length
  · have d0 : n < 0 ∨ (¬ n < 0 ∧ 20 < n) ∨ (¬ n < 0 ∧ ¬ 20 < n ∧ 60 < l.length) := by omega
    clear hbig
    rcases d0 with h | ⟨h, h'⟩ | ⟨h, h', h''⟩
    all_goals
      go_enter Try.func3, Try.ntmps3
      go_wp2_with (go_at_call 13; refine (dknown_any _).mono ?_; rintro e w1 ⟨rfl, hc1⟩)
      go_ret
      exact ⟨rfl, hc1⟩
  · have h0 : ¬ n < 0 := by omega
    have h20 : ¬ 20 < n := by omega
    have h60 : ¬ 60 < l.length := by omega
    have h61 : decide (60 < (l.length : Int)) = false := by simp; omega
    obtain ⟨N, rfl⟩ : ∃ N : Nat, n = N := ⟨n.toNat, by omega⟩
    have hN : N ≤ 20 := by omega
    have hL : l.length ≤ 60 := by omega
    have hcl := clamp_le x
    obtain ⟨r, hr⟩ : ∃ r, clamp x = r := ⟨_, rfl⟩
    have hn := dst_new x (Chg.refl [] w)
    rw [hr] at hn hcl
    obtain ⟨hr1, hr2⟩ := hcl
    have HN := hide hn
    clear hn hr hbig
    go_enter Try.func3, Try.ntmps3
    go_wp2_with (go_at_call 14; refine HN.out.mono ?_; rintro e W1 ⟨⟨d, rfl, h1, _⟩, _⟩)
    go_loopw [33] (fun i wr => ∃ k : Nat, k ≤ N ∧ i = .int .i64 k ∧ DSt w wr d r (mags r k) (l.take k) (.slice none 0 0) []) (fun i _ => N - (intOf i).toNat)
    case atStart => exact ⟨0, by omega, rfl, h1⟩
    case round =>
      obtain ⟨k, hk, rfl, h2⟩ := hrel
      by_cases hlt : k < N
      · go_wp2_with (go_at_call 15; refine (dst_rounds h2).mono ?_; rintro e w' ⟨rfl, rfl⟩)
        obtain ⟨wo, rfl⟩ : ∃ wo : World, wo = wr := ⟨_, rfl⟩
        go_loopw [11, 38] (fun m j wi => ∃ (b : Nat) (A' : Option Addr) (c' : Nat), b ≤ r ∧ j = .int .i64 b ∧ m = .slice A' b c' ∧ DSt w wi d r (mags r k) (l.take k) (.slice A' b c') (magp k b) ∧ Hid (∀ q ∈ own (.slice A' b c'), w.heap.size ≤ q)) (fun _ j _ => r - (intOf j).toNat)
        case atStart => exact ⟨0, none, 0, by omega, rfl, rfl, h2, fun q hq => by simp [own, Value.ownBlock] at hq⟩
        case round =>
          obtain ⟨b, A', c', hb, rfl, rfl, h3, hown⟩ := hrel
          by_cases hbt : b < r
          · have hlen1 : (magp k b).length + 1 ≤ 1000000 := by rw [magp_length]; omega
            have hso : SO (wr.alloc (.cells #[.int .i64 k, .int .i64 b] 28)) (.slice A' b c') (magp k b) := Sl.alloc h3.so _
            have h3a := h3.chg ((Chg.refl [] wr).alloc (.cells #[.int .i64 k, .int .i64 b] 28))
            have Hso := hide hso
            have Hlen := hide hlen1
            clear hlen1 hso
            go_wp2_with (at_builtin; refine wpList_append_ob rfl _ _ rfl (.slice A' b c') _ rfl rfl Hso.out (RO_one wr k b) Hlen.out ?_; intro A3 c3 w3 hs3 hc3 ho3)
            go_roundw
            case rel =>
              have el : (magp k b).length + [((k : Int), (b : Int))].length = b + 1 := by rw [magp_length]; rfl
              rw [el] at hs3 ho3
              obtain ⟨h5, h6⟩ := h3a.app hs3 hc3 ho3 hown.out
              rw [← magp_succ] at h5
              exact ⟨b + 1, A3, c3, by omega, by go_num, by rw [magp_length], h5, h6⟩
            case measure => simp [intOf]; omega
          · obtain rfl : b = r := by omega
            by_cases hkl : k < l.length
            · obtain ⟨g, off, cc, eA, hcc, _⟩ := hl.at_ hkl
              injection eA with eA _ ec
              subst eA; subst ec
              go_wp2_with (go_at_call 16; refine (dst_put h3 hr1 (by omega) h3.ro (magp_length _ _) (by rw [mags_length]; omega)).mono ?_; rintro e w4 ⟨rfl, h4⟩; obtain ⟨x0, x1, _⟩ := RO.cells (Rd.chg hl h4.below (fun _ _ h => by cases h)) hkl)
              refine (dst_queue h4 hr1 _ _ (by simp; omega)).mono ?_
              rintro e w5 ⟨rfl, h5⟩
              go_wp2_with fail
              go_roundw
              case rel =>
                have e1 : l.take (k + 1) = l.take k ++ [(l[k].1, l[k].2)] := List.take_succ_eq_append_getElem hkl
                refine ⟨k + 1, by omega, by go_num, ?_⟩
                rw [mags_succ, e1]
                exact h5.nil
              case measure => simp [intOf]; omega
            · go_wp2_with (go_at_call 16; refine (dst_put h3 hr1 (by omega) h3.ro (magp_length _ _) (by rw [mags_length]; omega)).mono ?_; rintro e w4 ⟨rfl, h4⟩)
              go_roundw
              case rel =>
                have e1 : l.take (k + 1) = l.take k := by rw [List.take_of_length_le (by omega), List.take_of_length_le (by omega)]
                refine ⟨k + 1, by omega, by go_num, ?_⟩
                rw [mags_succ, e1]
                exact h4.nil
              case measure => simp [intOf]; omega
      · obtain rfl : k = N := by omega
        go_wp2_with fail
        obtain ⟨wo, rfl⟩ : ∃ wo : World, wo = wr := ⟨_, rfl⟩
        go_loopw [13] (fun i wi => ∃ b : Nat, i = .int .i64 b ∧ b ≤ 100 ∧ (b ≤ l.length ∨ b = k) ∧ (k ≤ b) ∧ DSt w wi d r (mags r k) (l.take b) (.slice none 0 0) []) (fun i _ => l.length - (intOf i).toNat)
        case atStart => exact ⟨k, rfl, by omega, .inr rfl, Nat.le_refl _, h2⟩
        case round =>
          obtain ⟨b, rfl, hb100, hbl, hkb, h3⟩ := hrel
          have Hbl := hide hbl
          clear hbl
          by_cases hbt : b < l.length
          · obtain ⟨g, off, cc, eA, hcc, _⟩ := hl.at_ hbt
            injection eA with eA _ ec
            subst eA; subst ec
            obtain ⟨x0, x1, _⟩ := RO.cells (Rd.chg hl h3.below (fun _ _ h => by cases h)) hbt
            go_wp2_with fail
            refine (dst_queue h3 hr1 _ _ (by simp; omega)).mono ?_
            rintro e w5 ⟨rfl, h5⟩
            go_wp2_with fail
            go_roundw
            case rel =>
              have e1 : l.take (b + 1) = l.take b ++ [(l[b].1, l[b].2)] := List.take_succ_eq_append_getElem hbt
              refine ⟨b + 1, by go_num, by omega, by omega, by omega, ?_⟩
              rw [e1]
              exact h5
            case measure => simp [intOf]; omega
          · have e1 : l.take b = l := List.take_of_length_le (by omega)
            rw [e1] at h3
            clear e1
            obtain ⟨T, hT, hTl⟩ := turn_k so l.length (by omega)
            have HT := hide hT
            clear hT
            go_wp2_with fail
            rw [HT.out]
            have hd1 : l.take (drainN T l.length) = l.take T := by
              unfold drainN
              split
              · rw [show T = 0 by omega]
              · rw [show min (T : Int).toNat l.length = T by omega]
            have hd2 : l.drop (drainN T l.length) = l.drop T := by
              unfold drainN
              split
              · rw [show T = 0 by omega]
              · rw [show min (T : Int).toNat l.length = T by omega]
            have hdr := dst_drain_to (h3.chg ((Chg.refl [] wr).drew)) (T : Int) (by omega) hd1 hd2
            have elt : (l.take T).length ≤ 1000000 := by rw [List.length_take]; omega
            rw [show (l.take T).length = T by rw [List.length_take]; omega] at hdr
            have HD := hide hdr
            have HE := hide elt
            have Hc : T ≤ c := by
              obtain ⟨_, A', c', e, hc, _⟩ := hl
              injection e with _ _ e
              omega
            clear hd1 hd2 hdr elt
            refine wp_region_by (by kernel_rfl) (by kernel_rfl) ?_
            go_wp2_with (first | fail | (refine wpT_calc0 rfl rfl (fun K hK => ?_)) | (refine wpT_skipG rfl ?_ ?_; focus (simp [yielded]; done); go_simp) | (refine wpT_calcG rfl rfl ?_ (fun K hK => ?_); focus (simp [yielded]; done)) | (refine wpT_pure (fun K hK => ?_); go_simp; refine hK _ _ ?_; clear hK K) | (refine wpT_plain (by decide) rfl (fun K hK => ?_)) | (refine wpT_deed (by decide) (fun K hK => ?_); go_simp) | (refine wpT_nil ?_))
            refine HD.out.mono ?_
            rintro e W4 ⟨⟨A4, c4, rfl, hr4, h4⟩, _⟩
            have hr5 : RO W4 (.slice A T c) (l.take T) := RO.take (Rd.chg hl h4.below (fun _ _ h => by cases h)) hTl
            go_wp2_with (first | fail | (refine wpT_calc0 rfl rfl (fun K hK => ?_)) | (refine wpT_skipG rfl ?_ ?_; focus (simp [yielded]; done); go_simp) | (refine wpT_calcG rfl rfl ?_ (fun K hK => ?_); focus (simp [yielded]; done)) | (refine wpT_pure (fun K hK => ?_); go_simp; refine hK _ _ ?_; clear hK K) | (refine wpT_plain (by decide) rfl (fun K hK => ?_)) | (refine wpT_deed (by decide) (fun K hK => ?_); go_simp) | (refine wpT_nil ?_))
            refine (rsame_any hr4 hr5 HE.out).mono ?_
            rintro e W5 ⟨rfl, hc5⟩
            have h5 := (h4.nil).chg hc5
            go_wp2_with (first | fail | (refine wpT_calc0 rfl rfl (fun K hK => ?_)) | (refine wpT_skipG rfl ?_ ?_; focus (simp [yielded]; done); go_simp) | (refine wpT_calcG rfl rfl ?_ (fun K hK => ?_); focus (simp [yielded]; done)) | (refine wpT_pure (fun K hK => ?_); go_simp; refine hK _ _ ?_; clear hK K) | (refine wpT_plain (by decide) rfl (fun K hK => ?_)) | (refine wpT_deed (by decide) (fun K hK => ?_); go_simp) | (refine wpT_nil ?_))
            go_loopw [15] (fun i wi => ∃ a : Nat, a ≤ k ∧ i = .int .i64 ((a : Int) - 1) ∧ DSt w wi d r (mags r a) (l.drop T) (.slice none 0 0) []) (fun i _ => (intOf i + 1).toNat)
            case atStart => exact ⟨k, Nat.le_refl _, rfl, h5⟩
            case round =>
              obtain ⟨a, hak, rfl, h6⟩ := hrel
              rcases Nat.eq_zero_or_pos a with rfl | ha
              · have hd1 : (l.drop T).take (drainN 1000 (l.drop T).length) = l.drop T := by
                  refine List.take_of_length_le ?_
                  rw [List.length_drop]
                  unfold drainN
                  rw [if_neg (by omega)]
                  omega
                have hd2 : (l.drop T).drop (drainN 1000 (l.drop T).length) = [] := by
                  refine List.drop_eq_nil_of_le ?_
                  rw [List.length_drop]
                  unfold drainN
                  rw [if_neg (by omega)]
                  omega
                have hdr2 := dst_drain_to (h6.chg ((Chg.refl [] wr).drew)) 1000 (by rw [List.length_drop]; omega) hd1 hd2
                rw [List.length_drop] at hdr2
                have HD2 := hide hdr2
                have HE2 : Hid ((l.drop T).length ≤ 1000000) := hide (by rw [List.length_drop]; omega)
                clear hd1 hd2 hdr2
                by_cases hcT : c = T
                · subst hcT
                  go_wp2_with fail
                  refine wp_region_t [0, 3, 0, 0, 0, 3, 0, 0, 3, 0, 0, 0, 3, 0, 0] [none, none, none, none, none, none, none, some (126, true), some (126, true), some (126, true), none, none, some (131, true), none, none] (fun _ => True) (by kernel_rfl) (by kernel_rfl) (by kernel_rfl) ?_
                  go_wp2_with (first | fail | (refine wpG_calc rfl (fun K hK => ?_)) | (refine wpG_skip ?_ ?_; (focus (simp [wantG]; done)); go_simp) | (refine wpG_take ?_ ?_; (focus (simp [wantG]; done))) | (refine wpG_pure (fun K hK => ?_); go_simp; refine hK _ _ ?_; clear hK K) | (refine wpG_deed (by decide) (fun K hK => ?_); go_simp) | (refine wpG_nil ?_))
                  refine HD2.out.mono ?_
                  rintro e W8 ⟨⟨A8, c8, rfl, hr8, h8⟩, _⟩
                  have hr9 := RO.drop (Rd.chg hl h8.below (fun _ _ h => by cases h)) hTl
                  rw [if_pos rfl, Nat.sub_self] at hr9
                  have h8n := h8.nil
                  have hq0 : ([] : List Ob).length = 0 := rfl
                  have hqd : Hid (Calls Try.prog 18 _ _ _) := hide (rsame_any hr8 hr9 HE2.out)
                  go_wp2_with (first | fail | (refine wpG_calc rfl (fun K hK => ?_)) | (refine wpG_skip ?_ ?_; (focus (simp [wantG]; done)); go_simp) | (refine wpG_take ?_ ?_; (focus (simp [wantG]; done))) | (refine wpG_pure (fun K hK => ?_); go_simp; refine hK _ _ ?_; clear hK K) | (refine wpG_deed (by decide) (fun K hK => ?_); go_simp) | (refine wpG_nil ?_))
                  refine hqd.out.mono ?_
                  rintro e W9 ⟨rfl, hc9⟩
                  have h9 := h8n.chg hc9
                  go_wp2_with (first | (go_at_call 21; refine (dst_queued h9).mono ?_; rintro e w' ⟨rfl, rfl⟩) | (go_at_call 13; refine (dknown_any _).mono ?_; rintro e w10 ⟨rfl, hc10⟩) | (refine wpG_calc rfl (fun K hK => ?_)) | (refine wpG_skip ?_ ?_; (focus (simp [wantG]; done)); go_simp) | (refine wpG_take ?_ ?_; (focus (simp [wantG]; done))) | (refine wpG_pure (fun K hK => ?_); go_simp; refine hK _ _ ?_; clear hK K) | (refine wpG_deed (by decide) (fun K hK => ?_); go_simp) | (refine wpG_nil ?_))
                  go_ret
                  exact ⟨rfl, h9.below.trans hc10 (fun _ h => by cases h)⟩
                · go_wp2_with fail
                  refine wp_region_t [0, 3, 0, 0, 0, 3, 0, 0, 3, 0, 0, 0, 3, 0, 0] [none, none, none, none, none, none, none, some (126, true), some (126, true), some (126, true), none, none, some (131, true), none, none] (fun _ => True) (by kernel_rfl) (by kernel_rfl) (by kernel_rfl) ?_
                  go_wp2_with (first | fail | (refine wpG_calc rfl (fun K hK => ?_)) | (refine wpG_skip ?_ ?_; (focus (simp [wantG]; done)); go_simp) | (refine wpG_take ?_ ?_; (focus (simp [wantG]; done))) | (refine wpG_pure (fun K hK => ?_); go_simp; refine hK _ _ ?_; clear hK K) | (refine wpG_deed (by decide) (fun K hK => ?_); go_simp) | (refine wpG_nil ?_))
                  refine HD2.out.mono ?_
                  rintro e W8 ⟨⟨A8, c8, rfl, hr8, h8⟩, _⟩
                  have hr9 := RO.drop (Rd.chg hl h8.below (fun _ _ h => by cases h)) hTl
                  rw [if_neg hcT] at hr9
                  have h8n := h8.nil
                  have hq0 : ([] : List Ob).length = 0 := rfl
                  have hqd : Hid (Calls Try.prog 18 _ _ _) := hide (rsame_any hr8 hr9 HE2.out)
                  go_wp2_with (first | fail | (refine wpG_calc rfl (fun K hK => ?_)) | (refine wpG_skip ?_ ?_; (focus (simp [wantG]; done)); go_simp) | (refine wpG_take ?_ ?_; (focus (simp [wantG]; done))) | (refine wpG_pure (fun K hK => ?_); go_simp; refine hK _ _ ?_; clear hK K) | (refine wpG_deed (by decide) (fun K hK => ?_); go_simp) | (refine wpG_nil ?_))
                  refine hqd.out.mono ?_
                  rintro e W9 ⟨rfl, hc9⟩
                  have h9 := h8n.chg hc9
                  go_wp2_with (first | (go_at_call 21; refine (dst_queued h9).mono ?_; rintro e w' ⟨rfl, rfl⟩) | (go_at_call 13; refine (dknown_any _).mono ?_; rintro e w10 ⟨rfl, hc10⟩) | (refine wpG_calc rfl (fun K hK => ?_)) | (refine wpG_skip ?_ ?_; (focus (simp [wantG]; done)); go_simp) | (refine wpG_take ?_ ?_; (focus (simp [wantG]; done))) | (refine wpG_pure (fun K hK => ?_); go_simp; refine hK _ _ ?_; clear hK K) | (refine wpG_deed (by decide) (fun K hK => ?_); go_simp) | (refine wpG_nil ?_))
                  go_ret
                  exact ⟨rfl, h9.below.trans hc10 (fun _ h => by cases h)⟩
              · obtain ⟨a, rfl⟩ : ∃ a', a = a' + 1 := ⟨a - 1, by omega⟩
                rw [mags_succ] at h6
                have ea : ((a + 1 : Nat) : Int) - 1 = a := by omega
                rw [ea]
                clear ea
                go_wp2_with fail
                refine (dst_get h6 (by rw [mags_length]; omega)).mono ?_
                rintro e w7 ⟨⟨A7, c7, rfl, hr7, _⟩, h7⟩
                have e0 := hr7.at_ (k := 0) (by rw [mag_length]; omega)
                obtain ⟨g7, o7, c7', e7, hcc7, x0, x1⟩ := e0
                injection e7 with e7 _ e8
                subst e7; subst e8
                rw [mag_length] at hr7 ⊢
                have em : (mag r a)[0]'(by rw [mag_length]; omega) = ((a : Int), (0 : Int)) := by simp [mag]
                rw [em] at x0 x1
                simp at x0 x1
                clear em
                go_wp2_with (go_at_call 15; refine (dst_rounds h7).mono ?_; rintro e w' ⟨rfl, rfl⟩)
                go_roundw
                case rel => exact ⟨a, by omega, rfl, h7⟩
                case measure => simp [intOf]
end Go.Proofs.Ytbmdcfeiecmlpaa
