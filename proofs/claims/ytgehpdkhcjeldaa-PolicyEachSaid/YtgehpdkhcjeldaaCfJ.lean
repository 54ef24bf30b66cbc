/- The insertion sort by distance. -/
import Derived.Test.YtgehpdkhcjeldaaCfI
namespace Go.Proofs.Ytgehpdkhcjeldaa
open Go Go.RowKit

theorem ord_le {c : Cf} {node n : Nat} {P Q : List Nat} {p : Nat} (h : IsOrd c node n (P ++ [p] ++ Q)) : ∀ x ∈ P ++ [p], ds c node x ≤ ds c node p := by
  intro x hx
  rcases List.mem_append.1 hx with hx | hx
  · have h1 := (List.pairwise_append.1 (List.pairwise_append.1 h.2).1).2.2 x hx p (by simp)
    unfold Near at h1
    unfold ds
    omega
  · obtain rfl := List.mem_singleton.1 hx; exact Int.le_refl _
theorem ord_one (c : Cf) (node : Nat) : IsOrd c node 1 [0] := ⟨by simp [List.range_succ], by simp⟩
set_option maxHeartbeats 4000000 in
theorem ins_any {c : Cf} {bc bn : Nat} {w : World} (hc : CB w bc c) {node : Nat} (hn : Blk w bn 3 #[.int .i64 node]) (hn8 : node < 8) (hd : ∀ i, i < 8 → 0 ≤ ds c node i ∧ ds c node i ≤ 255)
    {g0 off n cap : Nat} (hs : SI w (.slice (some ⟨g0, off, none⟩) n cap) (List.range n)) (h8 : n ≤ 8) (h1 : 1 ≤ n) (hbc : bc ≠ g0) (hbn : bn ≠ g0) :
    Calls Try.prog 48 #[.slice (some ⟨g0, off, none⟩) n cap, .int .i64 0, .int .i64 n, .func (.func 31) #[] #[.pointer (some ⟨bc, 0, none⟩), .pointer (some ⟨bn, 0, none⟩)]] w fun e w' => e = .returned (.tuple #[]) ∧ ∃ L, IsOrd c node n L ∧ SI w' (.slice (some ⟨g0, off, none⟩) n cap) L ∧ Chg [g0] w w' := by
  have HC := hide hc
  have HN := hide hn
  have HD := hide hd
  have HS : Hid (SI w (.slice (some ⟨g0, off, none⟩) n cap) ([0] ++ (List.range n).drop 1)) := hide (by
    obtain ⟨m, rfl⟩ : ∃ m, n = m + 1 := ⟨n - 1, by omega⟩
    have : List.range (m + 1) = [0] ++ (List.range (m + 1)).drop 1 := by rw [List.range_succ_eq_map]; simp
    rw [← this]; exact hs)
  have hgl : g0 < w.heap.size := hs.own_lt g0 (by simp [own, Value.ownBlock])
  clear hc hn hd hs
  have h8' : (n : Int) ≤ 8 := by omega
  go_enter Try.func48, Try.ntmps48
  go_wp2_with fail
  go_loopw [8] (fun t wr => ∃ (i : Nat) (S : List Nat), 1 ≤ i ∧ i ≤ n ∧ t = .int .i64 i ∧ Hid (IsOrd c node i S) ∧ Hid (SI wr (.slice (some ⟨g0, off, none⟩) n cap) (S ++ (List.range n).drop i)) ∧ Chg [g0] w wr) (fun t _ => n - (intOf t).toNat)
  case atStart => exact ⟨1, [0], by omega, by omega, rfl, hide (ord_one c node), HS, Chg.refl _ _⟩
  case round =>
    obtain ⟨i, S, hi1, hi, rfl, hO, hSI, hch⟩ := hrel
    by_cases hlt : i < n
    · have i1 : (0 : Int) ≤ (i : Int) := by omega
      have i2 : (i : Int) < (n : Int) := by omega
      go_wp2_with fail
      go_loopw [9] (fun t wr' => ∃ (P Q : List Nat), t = .int .i64 (P.length : Nat) ∧ Hid (IsOrd c node i (P ++ Q)) ∧ Hid (∀ q ∈ Q, ds c node i < ds c node q) ∧ Hid (SI wr' (.slice (some ⟨g0, off, none⟩) n cap) (P ++ i :: (Q ++ (List.range n).drop (i + 1)))) ∧ Chg [g0] w wr') (fun t _ => (intOf t).toNat)
      case atStart =>
        refine ⟨S, [], ?_, hide (by rw [List.append_nil]; exact hO.out), hide (by simp), hide ?_, hch⟩
        · rw [hO.out.length]
        · have : (List.range n).drop i = i :: (List.range n).drop (i + 1) := by rw [List.drop_eq_getElem_cons (by simpa using hlt)]; simp
          have h := hSI.out
          rw [this] at h
          exact h
      case round =>
        obtain ⟨P, Q, rfl, hO2, hQ, hSI2, hch2⟩ := hrel
        clear hSI hch
        rcases List.eq_nil_or_concat P with rfl | ⟨P', p, rfl⟩
        · simp only [List.length_nil, Int.natCast_zero]
          have H2 := hide (show SI wr (.slice (some ⟨g0, off, none⟩) n cap) ((i :: Q) ++ (List.range n).drop (i + 1)) by simpa using hSI2.out)
          go_wp2_with fail
          refine wp_region_t [0, 0, 0, 0, 0, 0, 0, 0, 1, 0, 0, 0, 0, 1, 3, 0, 0] [none, none, none, none, some (21, true), some (21, true), some (21, true), some (21, true), some (21, true), some (21, true), some (21, true), some (21, true), some (21, true), some (21, true), some (21, true), some (21, true), none] (fun _ => True) (by kernel_rfl) (by kernel_rfl) (by kernel_rfl) ?_
          go_wp2_with (first | fail | (refine wpG_calc rfl (fun K hK => ?_)) | (refine wpG_skip ?_ ?_; (focus (simp [wantG]; done)); go_simp) | (refine wpG_take ?_ ?_; (focus (simp [wantG]; done))) | (refine wpG_pure (fun K hK => ?_); go_simp; refine hK _ _ ?_; clear hK K) | (refine wpG_deed (by decide) (fun K hK => ?_); go_simp) | (refine wpG_nil ?_))
          go_roundw
          case rel => exact ⟨i + 1, i :: Q, by omega, by omega, by go_num, hide (ord_ins (P := []) hO2.out hQ.out (by simp)), hide H2.out, hch2.drew⟩
          case measure => simp [intOf]; omega
        · rw [List.concat_eq_append] at hO2 hSI2 ⊢
          obtain ⟨k, hk⟩ : ∃ k, P'.length = k := ⟨_, rfl⟩
          have hpi : p < i := hO2.out.mem.1 (by simp)
          have el : (P' ++ [p]).length = k + 1 := by simp [hk]
          rw [el]
          obtain ⟨R, hR⟩ : ∃ R, R = (List.range n).drop (i + 1) := ⟨_, rfl⟩
          rw [← hR] at hSI2
          obtain ⟨M, hM⟩ : ∃ M, M = P' ++ [p] ++ i :: (Q ++ R) := ⟨_, rfl⟩
          rw [← hM] at hSI2
          have hML : n = M.length := by
            obtain ⟨A', c', e'⟩ := SE.form hSI2.out
            injection e'
          have hkM : k + 1 < M.length := by rw [hM]; simp [hk]
          have m1 : M[k + 1]'hkM = i := by subst hM; rw [List.getElem_append_right (by rw [el]; omega)]; simp [el]
          have m0 : M[k]'(by omega) = p := by subst hM; rw [List.getElem_append_left (by rw [el]; omega), List.getElem_append_right (by omega)]; simp
          have ms : (M.set (k + 1) p).set k i = P' ++ i :: ((p :: Q) ++ R) := by
            subst hM; subst hk
            rw [List.set_append_right _ _ (by simp), List.set_append_left _ _ (by simp)]
            simp
          have q1 := SI.cell (SE.re hSI2.out) hkM
          have q0 := SI.cell (SE.re hSI2.out) (k := k) (by omega)
          rw [m1] at q1
          rw [m0] at q0
          have HQ1 := hide q1
          have HQ0 := hide q0
          have HM := hide (show ∀ W, SI W (.slice (some ⟨g0, off, none⟩) n cap) M → SI ((W.setCell ⟨g0, off + (k + 1), none⟩ (.int .i64 p)).setCell ⟨g0, off + k, none⟩ (.int .i64 i)) (.slice (some ⟨g0, off, none⟩) n cap) (P' ++ i :: ((p :: Q) ++ R)) from fun W hW => by
            have h1 := SI.set hW hkM p
            have h2 := SI.set h1 (k := k) (by rw [List.length_set]; omega) i
            rw [ms] at h2
            exact h2)
          have HSTOP := hide (show ds c node p ≤ ds c node i → IsOrd c node (i + 1) (P' ++ [p] ++ i :: Q) from fun hle => ord_ins hO2.out hQ.out (fun x hx => Int.le_trans (ord_le hO2.out x hx) hle))
          have HL2 := hide (show M = (P' ++ [p] ++ i :: Q) ++ (List.range n).drop (i + 1) by rw [hM, hR]; simp)
          obtain ⟨x, hx⟩ : ∃ x, x = ds c node i - ds c node p := ⟨_, rfl⟩
          have HCMP := hide (fun W (hW : Chg [g0] w W) => cmp_any (HC.out.chg hW (by simp; exact hbc)) node (HN.out.chg hW (by simp; exact hbn)) hn8 (a := i) (b := p) (by omega) (by omega) HD.out)
          rw [← hx] at HCMP
          have HX := hide hx
          have hkn : k + 1 < n := by omega
          have kk1 : (0 : Int) < ((k + 1 : Nat) : Int) := by omega
          have kk2 : ((k + 1 : Nat) : Int) < (n : Int) := by omega
          have HP := hide hpi
          have HRr := hide hR
          have hbl2 : g0 < wr.heap.size := Nat.lt_of_lt_of_le hgl hch2.size
          clear hx hM m1 m0 ms el hpi hR hML hkM hkn
          by_cases hlt2 : x < 0
          · go_wp2_with fail
            refine wp_region_t [0, 0, 0, 0, 0, 0, 0, 0, 1, 0, 0, 0, 0, 1, 3, 0, 0] [none, none, none, none, some (21, true), some (21, true), some (21, true), some (21, true), some (21, true), some (21, true), some (21, true), some (21, true), some (21, true), some (21, true), some (21, true), some (21, true), none] (fun _ => True) (by kernel_rfl) (by kernel_rfl) (by kernel_rfl) ?_
            go_wp2_with (first | fail | (refine wpG_calc rfl (fun K hK => ?_)) | (refine wpG_skip ?_ ?_; (focus (simp [wantG]; done)); go_simp) | (refine wpG_take ?_ ?_; (focus (simp [wantG]; done))) | (refine wpG_pure (fun K hK => ?_); go_simp; refine hK _ _ ?_; clear hK K) | (refine wpG_deed (by decide) (fun K hK => ?_); go_simp) | (refine wpG_nil ?_))
            refine (HCMP.out _ hch2.drew).mono ?_
            rintro e W7 ⟨rfl, hc7⟩
            refine hK _ _ ?_
            clear hK K
            have hch7 := hch2.drew.stay hc7
            have hsi7 : SI W7 (.slice (some ⟨g0, off, none⟩) n cap) M := (show SI wr.drew _ _ from hSI2.out).stay hc7
            have r1 := hc7.cell (p := ⟨g0, off + (k + 1), none⟩) (show wr.drew.cell? _ = _ from HQ1.out) List.not_mem_nil
            have r0 := hc7.cell (p := ⟨g0, off + k, none⟩) (show wr.drew.cell? _ = _ from HQ0.out) List.not_mem_nil
            have f1 := SE.frozen hsi7 (off + (k + 1))
            have f0 := SE.frozen hsi7 (off + k)
            have HSI7 := hide hsi7
            clear hsi7 hc7
            go_wp2_with (first | fail | (refine wpG_calc rfl (fun K hK => ?_)) | (refine wpG_skip ?_ ?_; (focus (simp [wantG]; done)); go_simp) | (refine wpG_take ?_ ?_; (focus (simp [wantG]; done))) | (refine wpG_pure (fun K hK => ?_); go_simp; refine hK _ _ ?_; clear hK K) | (refine wpG_deed (by decide) (fun K hK => ?_); go_simp) | (refine wpG_nil ?_))
            refine wp_region_t [0, 0, 0, 0, 0, 0, 0, 0, 0, 1, 0, 0, 0, 1, 0, 3, 0, 3] [none, none, none, none, none, none, none, none, none, none, none, none, none, none, none, none, none, none] (fun _ => True) (by kernel_rfl) (by kernel_rfl) (by kernel_rfl) ?_
            go_wp2_with (first | fail | (refine wpG_calc rfl (fun K hK => ?_)) | (refine wpG_skip ?_ ?_; (focus (simp [wantG]; done)); go_simp) | (refine wpG_take ?_ ?_; (focus (simp [wantG]; done))) | (refine wpG_pure (fun K hK => ?_); go_simp; refine hK _ _ ?_; clear hK K) | (refine wpG_deed (by decide) (fun K hK => ?_); go_simp) | (refine wpG_nil ?_))
            go_roundw
            case rel =>
              refine ⟨P', p :: Q, by rw [hk], hide (by simpa using hO2.out), hide (fun q hq => ?_), hide (by rw [← HRr.out]; exact HM.out W7 HSI7.out), ((hch7.setCell (p := ⟨g0, off + (k + 1), none⟩) (.inl (by simp)) _).setCell (p := ⟨g0, off + k, none⟩) (.inl (by simp)) _).drew⟩
              rcases List.mem_cons.1 hq with rfl | hq
              · have := HX.out; omega
              · exact hQ.out q hq
            case measure => simp [intOf]
          · go_wp2_with fail
            refine wp_region_t [0, 0, 0, 0, 0, 0, 0, 0, 1, 0, 0, 0, 0, 1, 3, 0, 0] [none, none, none, none, some (21, true), some (21, true), some (21, true), some (21, true), some (21, true), some (21, true), some (21, true), some (21, true), some (21, true), some (21, true), some (21, true), some (21, true), none] (fun _ => True) (by kernel_rfl) (by kernel_rfl) (by kernel_rfl) ?_
            go_wp2_with (first | fail | (refine wpG_calc rfl (fun K hK => ?_)) | (refine wpG_skip ?_ ?_; (focus (simp [wantG]; done)); go_simp) | (refine wpG_take ?_ ?_; (focus (simp [wantG]; done))) | (refine wpG_pure (fun K hK => ?_); go_simp; refine hK _ _ ?_; clear hK K) | (refine wpG_deed (by decide) (fun K hK => ?_); go_simp) | (refine wpG_nil ?_))
            refine (HCMP.out _ hch2.drew).mono ?_
            rintro e W7 ⟨rfl, hc7⟩
            refine hK _ _ ?_
            clear hK K
            have hch7 := hch2.drew.stay hc7
            have hsi7 : SI W7 (.slice (some ⟨g0, off, none⟩) n cap) M := (show SI wr.drew _ _ from hSI2.out).stay hc7
            have r1 := hc7.cell (p := ⟨g0, off + (k + 1), none⟩) (show wr.drew.cell? _ = _ from HQ1.out) List.not_mem_nil
            have r0 := hc7.cell (p := ⟨g0, off + k, none⟩) (show wr.drew.cell? _ = _ from HQ0.out) List.not_mem_nil
            have f1 := SE.frozen hsi7 (off + (k + 1))
            have f0 := SE.frozen hsi7 (off + k)
            have HSI7 := hide hsi7
            clear hsi7 hc7
            go_wp2_with (first | fail | (refine wpG_calc rfl (fun K hK => ?_)) | (refine wpG_skip ?_ ?_; (focus (simp [wantG]; done)); go_simp) | (refine wpG_take ?_ ?_; (focus (simp [wantG]; done))) | (refine wpG_pure (fun K hK => ?_); go_simp; refine hK _ _ ?_; clear hK K) | (refine wpG_deed (by decide) (fun K hK => ?_); go_simp) | (refine wpG_nil ?_))
            go_roundw
            case rel => exact ⟨i + 1, P' ++ [p] ++ i :: Q, by omega, by omega, by go_num, hide (HSTOP.out (by have := HX.out; omega)), hide (by rw [← HL2.out]; exact HSI7.out), hch7⟩
            case measure => simp [intOf]; omega
    · obtain rfl : i = n := by omega
      go_wp2_with fail
      go_end0
      exact ⟨rfl, S, hO.out, by have h := hSI.out; rw [List.drop_eq_nil_of_le (by simp), List.append_nil] at h; exact h, hch⟩
set_option maxHeartbeats 4000000 in
/-- SortStableFunc -/
theorem sort_any {c : Cf} {bc bn : Nat} {w : World} (hc : CB w bc c) {node : Nat} (hn : Blk w bn 3 #[.int .i64 node]) (hn8 : node < 8) (hd : ∀ i, i < 8 → 0 ≤ ds c node i ∧ ds c node i ≤ 255)
    {g0 off n cap : Nat} (hs : SI w (.slice (some ⟨g0, off, none⟩) n cap) (List.range n)) (h8 : n ≤ 8) (h1 : 1 ≤ n) (hbc : bc ≠ g0) (hbn : bn ≠ g0) :
    Calls Try.prog 30 #[.slice (some ⟨g0, off, none⟩) n cap, .func (.func 31) #[] #[.pointer (some ⟨bc, 0, none⟩), .pointer (some ⟨bn, 0, none⟩)]] w fun e w' => e = .returned (.tuple #[]) ∧ ∃ L, IsOrd c node n L ∧ SI w' (.slice (some ⟨g0, off, none⟩) n cap) L ∧ Chg [g0] w w' := by
  have HI := hide (ins_any hc hn hn8 hd hs h8 h1 hbc hbn)
  clear hc hn hd hs
  have n1 : (n : Int) ≤ 8 := by omega
  have HST : Hid (Calls Try.prog 45 #[.slice (some ⟨g0, off, none⟩) n cap, .int .i64 n, .func (.func 31) #[] #[.pointer (some ⟨bc, 0, none⟩), .pointer (some ⟨bn, 0, none⟩)]] w fun e w' => e = .returned (.tuple #[]) ∧ ∃ L, IsOrd c node n L ∧ SI w' (.slice (some ⟨g0, off, none⟩) n cap) L ∧ Chg [g0] w w') := hide (by
    go_enter Try.func45, Try.ntmps45
    go_wp2_with fail
    go_loopw [7, 8] (fun s t wr => s = .int .i64 0 ∧ t = .int .i64 20 ∧ wr = w) (fun _ _ _ => 0)
    case atStart => exact ⟨rfl, rfl, rfl⟩
    case round =>
      obtain ⟨rfl, rfl, rfl⟩ := hrel
      go_wp2_with fail
      refine HI.out.mono ?_
      rintro e W2 ⟨rfl, L, hL, hs2, hc2⟩
      have HL := hide (show ∃ L, IsOrd c node n L ∧ SI W2 (.slice (some ⟨g0, off, none⟩) n cap) L ∧ Chg [g0] wr W2 from ⟨L, hL, hs2, hc2⟩)
      clear hL hs2 hc2
      go_wp2_with fail
      go_loopw [6] (fun t wr' => t = .int .i64 20 ∧ wr' = W2) (fun _ _ => 0)
      case atStart => exact ⟨rfl, rfl⟩
      case round =>
        obtain ⟨rfl, rfl⟩ := hrel
        go_wp2_with fail
        go_end0
        exact ⟨rfl, HL.out⟩)
  go_enter Try.func30, Try.ntmps30
  go_wp2_with (go_at_call 45; refine HST.out.mono ?_; rintro e W2 ⟨rfl, hL⟩)
  go_end0
  exact ⟨rfl, hL⟩
end Go.Proofs.Ytgehpdkhcjeldaa
