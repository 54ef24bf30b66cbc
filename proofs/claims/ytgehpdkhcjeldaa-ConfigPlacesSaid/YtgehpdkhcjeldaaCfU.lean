/- ConfigPlaces: the walk. -/
import Derived.Test.YtgehpdkhcjeldaaCfS
import Derived.Test.YtgehpdkhcjeldaaCfT
namespace Go.Proofs.Ytgehpdkhcjeldaa
open Go Go.RowKit

theorem FI.out_ {c : Cf} {L : List Nat} (hM : MayP c) (h : FI c (c 0).toNat L) {f i e : Int} (hN : NodeP c f i e) (hf : f < 0 ∨ (L.length : Int) ≤ f) : i = 0 ∧ e = 7 := by
  have h8 := hM.n8
  have h1 := h.1
  rcases hN with ⟨hN, _⟩ | ⟨_, ⟨rfl, j, rfl, hj, h3, h4⟩ | ⟨rfl, rfl, _⟩⟩
  · rw [mayB_true hM] at hN; cases hN
  · exfalso
    have := hM.sum_mono (i := j + 1) (c 0).toNat (by omega) (by omega)
    have := hM.sum_le j (by omega)
    omega
  · exact ⟨rfl, rfl⟩
theorem FI.in_ {c : Cf} {L : List Nat} (hM : MayP c) (h : FI c (c 0).toNat L) {f : Nat} {i e : Int} (hN : NodeP c f i e) (hf : f < L.length) : i = (L[f] : Nat) ∧ e = 0 := by
  have h8 := hM.n8
  obtain ⟨k, hk, h1, h2, h3⟩ := h.2 f hf
  rw [h3]
  exact NodeP.at_ hM (by omega) h1 h2 hN
theorem FI.lt_iff {c : Cf} {L : List Nat} (hM : MayP c) (h : FI c (c 0).toNat L) {t v : Nat} (ht : t < L.length) (hv : (v : Int) < c 0) : L[t] < v ↔ (t : Int) < sumF c v := by
  have h8 := hM.n8
  obtain ⟨k, hk, h1, h2, h3⟩ := h.2 t ht
  rw [h3]
  constructor
  · intro hkv
    have := hM.sum_mono (i := k + 1) v (by omega) (by omega)
    omega
  · intro hts
    refine Classical.byContradiction fun hn => ?_
    have := hM.sum_mono (i := v) k (by omega) (by omega)
    omega
theorem OrdR.none {c : Cf} {node : Int} {w : World} {e : Ending} {w' : World} (h : OrdR w c node e w') {x : Int} (hx : firstE c node = x) (h0 : x ≠ 0) : ∃ A cap, e = .returned (.tuple #[.slice A 0 cap, .int .i64 x]) ∧ Chg [] w w' := by
  obtain ⟨A, n, cap, y, l, rfl, hy, hs, _, _, h1, hc⟩ := h
  obtain rfl : y = x := hy.trans hx
  obtain rfl := h1 h0
  obtain ⟨A', c', e'⟩ := hs.form
  have : n = 0 := by injection e'
  subst this
  exact ⟨A, cap, rfl, hc⟩
theorem first_out {c : Cf} {node : Int} (hM : MayP c) (h : ¬ (0 ≤ node ∧ node ≤ c 0 - 1)) : firstN c node = 0 ∧ firstE c node = 7 := by
  constructor
  · unfold firstN
    rw [if_neg (fun h' => h h'.2)]
  · unfold firstE
    rw [if_neg (by rw [mayB_true hM]; simp), if_neg h]
theorem first_none {c : Cf} {node : Int} (h : mayB c = false) : firstN c node = 0 ∧ firstE c node = 2 := by
  constructor
  · unfold firstN
    rw [if_neg (by rw [h]; simp)]
  · unfold firstE
    rw [if_pos h]
set_option maxRecDepth 20000 in
set_option maxHeartbeats 8000000 in
theorem places_law (c : Cf) (node f : Int) (hf : f < 9223372036854775808) (w : World) : Calls Try.prog 3 #[.agg (cg c), .int .i64 node, .int .i64 f] w fun e w' => e = .returned (.bool true) ∧ Chg [] w w' := by
  have HB := hide (Blk.new w 26 (cg c))
  have HC := hide (show Chg [] w (w.alloc (.cells (cg c) 26)) from (Chg.refl [] w).alloc _)
  have H2 := hide (fun W => Node_any c f hf W)
  clear hf
  cases hm : mayB c with
  | false =>
    obtain ⟨e1, e2⟩ := first_none (node := node) hm
    have H1 := hide (fun W => First_any c node W)
    rw [e1, e2] at H1
    have H3 := hide (fun W => (Order_any c node W).mono fun e W' h => h.none e2 (by omega))
    have H4 := hide (fun W => rMay_any c W)
    rw [hm] at H4
    have HNo := hide (show ∀ i e, NodeP c f i e → i = 0 ∧ e = 2 from fun i e h => by
      rcases h with ⟨_, a, b⟩ | ⟨h, _⟩
      · exact ⟨a, b⟩
      · rw [hm] at h; cases h)
    clear e1 e2 hm
    go_enter Try.func3, Try.ntmps3
    go_wp2_with (first | (refine wpList_box26 rfl _ rfl rfl ?_) | (refine wpList_load26L (b := w.heap.size) (c := c) rfl _ rfl rfl ?_ ?_; (focus exact HB.out)))
    refine (H1.out _).mono ?_
    rintro e W2 ⟨rfl, hc2⟩
    have hc02 := HC.out.stay hc2
    have HB2 := hide (HB.out.chg hc2 List.not_mem_nil)
    clear HC hc2 HB H1
    generalize w.heap.size = b at HB2 ⊢
    go_wp2_with (first | (refine wpList_load26L (b := b) (c := c) rfl _ rfl rfl ?_ ?_; (focus exact HB2.out)))
    refine (H2.out _).mono ?_
    rintro e W3 ⟨i3, x3, rfl, hn3, hc3⟩
    have hc03 := hc02.stay hc3
    have HB3 := hide (HB2.out.chg hc3 List.not_mem_nil)
    clear hc02 hc3 HB2 H2
    go_wp2_with (first | (refine wpList_load26L (b := b) (c := c) rfl _ rfl rfl ?_ ?_; (focus exact HB3.out)))
    refine (H3.out _).mono ?_
    rintro e W4 ⟨A, cap, rfl, hc4⟩
    have hc04 := hc03.stay hc4
    have HB4 := hide (HB3.out.chg hc4 List.not_mem_nil)
    clear hc03 hc4 HB3 H3
    go_wp2_with (first | (refine wpList_load26L (b := b) (c := c) rfl _ rfl rfl ?_ ?_; (focus exact HB4.out)))
    refine (H4.out _).mono ?_
    rintro e W5 ⟨rfl, hc5⟩
    have hc05 := hc04.stay hc5
    obtain ⟨rfl, rfl⟩ := HNo.out _ _ hn3
    clear hc04 hc5 HB4 H4 hn3
    go_wp2_with fail
    refine (known_any _).mono ?_
    rintro e W6 ⟨rfl, hc6⟩
    have hc06 := hc05.stay hc6
    clear hc05 hc6
    go_wp2_with fail
    go_ret
    exact ⟨rfl, hc06⟩
  | true =>
    have hM := mayB_iff.1 hm
    have H4 := hide (fun W => rMay_any c W)
    rw [hm] at H4
    have H5 := hide (fun W => Frames_any c W)
    have Hm := hide hm
    have HM := hide hM
    obtain ⟨n, hn⟩ : ∃ n : Nat, c 0 = n := ⟨(c 0).toNat, by have := hM.n1; omega⟩
    have hn8 : n ≤ 8 := by have := hM.n8; omega
    have HN := hide hn
    have nn : (n : Int) ≤ 8 := by omega
    clear hm
    by_cases hnode : 0 ≤ node ∧ node ≤ (n : Int) - 1
    rotate_left
    · obtain ⟨e1, e2⟩ := first_out (node := node) hM (by rw [hn]; exact hnode)
      have H1 := hide (fun W => First_any c node W)
      rw [e1, e2] at H1
      have H3 := hide (fun W => (Order_any c node W).mono fun e W' h => h.none e2 (by omega))
      have HND := hide hnode
      clear e1 e2 hM hn hnode
      go_enter Try.func3, Try.ntmps3
      go_wp2_with (first | (refine wpList_box26 rfl _ rfl rfl ?_) | (refine wpList_load26L (b := w.heap.size) (c := c) rfl _ rfl rfl ?_ ?_; (focus exact HB.out)))
      refine (H1.out _).mono ?_
      rintro e W2 ⟨rfl, hc2⟩
      have hc02 := HC.out.stay hc2
      have HB2 := hide (HB.out.chg hc2 List.not_mem_nil)
      clear HC hc2 HB H1
      generalize w.heap.size = b at HB2 ⊢
      go_wp2_with (first | (refine wpList_load26L (b := b) (c := c) rfl _ rfl rfl ?_ ?_; (focus exact HB2.out)))
      refine (H2.out _).mono ?_
      rintro e W3 ⟨i3, x3, rfl, hn3, hc3⟩
      have hc03 := hc02.stay hc3
      have HB3 := hide (HB2.out.chg hc3 List.not_mem_nil)
      clear hc02 hc3 HB2 H2
      go_wp2_with (first | (refine wpList_load26L (b := b) (c := c) rfl _ rfl rfl ?_ ?_; (focus exact HB3.out)))
      refine (H3.out _).mono ?_
      rintro e W4 ⟨A, cap, rfl, hc4⟩
      have hc04 := hc03.stay hc4
      have HB4 := hide (HB3.out.chg hc4 List.not_mem_nil)
      clear hc03 hc4 HB3 H3
      have HN3 := hide hn3
      clear hn3
      go_wp2_with (first | (refine wpList_load26L (b := b) (c := c) rfl _ rfl rfl ?_ ?_; (focus exact HB4.out)))
      refine (H4.out _).mono ?_
      rintro e W5 ⟨rfl, hc5⟩
      have hc05 := hc04.stay hc5
      have HB5 := hide (HB4.out.chg hc5 List.not_mem_nil)

      clear hc04 hc5 HB4 H4
      go_wp2_with (first | (refine wpList_load26L (b := b) (c := c) rfl _ rfl rfl ?_ ?_; (focus exact HB5.out)))
      refine (H5.out _).mono ?_
      rintro e W6 ⟨G, gm, gcap, L, rfl, hsg, -, -, hfi, hc6⟩
      have hc06 := hc05.stay hc6
      have HB6 := hide (HB5.out.chg hc6 List.not_mem_nil)

      have hFI := hfi Hm.out
      have hgm : gm = L.length := by
        obtain ⟨A', c', e'⟩ := hsg.form
        injection e'
      subst hgm
      have HFI := hide hFI
      have HSG := hide hsg
      have g6 := CB.get HB6.out (i := 0) (by omega)
      rw [HN.out] at g6
      have hb6 := HB6.out.lt
      clear hc05 hc6 HB5 H5 hfi hsg hFI
      have hLb : (L.length : Int) ≤ 1024 := by
        have := HM.out.sum_le n (by omega)
        have := HFI.out.1
        rw [HN.out, Int.toNat_natCast] at this
        omega
      by_cases hfr : f < 0 ∨ (L.length : Int) ≤ f
      · obtain ⟨rfl, rfl⟩ := HFI.out.out_ HM.out HN3.out hfr
        clear HN3
        by_cases hf0 : f < 0
        · have d1 : decide (f < 0) = true := decide_eq_true hf0
          clear hfr
          by_cases hn0 : node < 0
          · have n0 : decide (node < 0) = true := decide_eq_true hn0
            go_wp2_with fail
            refine (known_any _).mono ?_
            rintro e W7 ⟨rfl, hc7⟩
            have hc07 := hc06.stay hc7
            clear hc06 hc7
            go_wp2_with fail
            go_ret
            exact ⟨rfl, hc07⟩
          · have n0 : decide (node < 0) = false := decide_eq_false hn0
            have n2 : decide ((n : Int) ≤ node) = true := decide_eq_true (by have := HND.out; omega)
            go_wp2_with fail
            refine (known_any _).mono ?_
            rintro e W7 ⟨rfl, hc7⟩
            have hc07 := hc06.stay hc7
            clear hc06 hc7
            go_wp2_with fail
            go_ret
            exact ⟨rfl, hc07⟩
        · have d1 : decide (f < 0) = false := decide_eq_false hf0
          have d2 : decide ((L.length : Int) ≤ f) = true := decide_eq_true (by omega)
          clear hfr
          by_cases hn0 : node < 0
          · have n0 : decide (node < 0) = true := decide_eq_true hn0
            go_wp2_with fail
            refine (known_any _).mono ?_
            rintro e W7 ⟨rfl, hc7⟩
            have hc07 := hc06.stay hc7
            clear hc06 hc7
            go_wp2_with fail
            go_ret
            exact ⟨rfl, hc07⟩
          · have n0 : decide (node < 0) = false := decide_eq_false hn0
            have n2 : decide ((n : Int) ≤ node) = true := decide_eq_true (by have := HND.out; omega)
            go_wp2_with fail
            refine (known_any _).mono ?_
            rintro e W7 ⟨rfl, hc7⟩
            have hc07 := hc06.stay hc7
            clear hc06 hc7
            go_wp2_with fail
            go_ret
            exact ⟨rfl, hc07⟩
      · obtain ⟨fr, rfl⟩ : ∃ fr : Nat, f = fr := ⟨f.toNat, by omega⟩
        have hfl : fr < L.length := by omega
        obtain ⟨rfl, rfl⟩ := HFI.out.in_ HM.out HN3.out hfl
        clear HN3
        obtain ⟨g, off, rfl⟩ := SE.addr HSG.out (by omega)
        have qf := SI.cell (SE.re HSG.out) hfl
        obtain ⟨u, hu⟩ : ∃ u : Nat, L[fr] = u := ⟨_, rfl⟩
        rw [hu] at qf ⊢
        have hgl : g < W6.heap.size := HSG.out.own_lt g (by simp [own, Value.ownBlock])
        have fr1 : (0 : Int) ≤ (fr : Int) := by omega
        have fr2 : (fr : Int) < (L.length : Int) := by omega
        have d1 : decide ((fr : Int) < 0) = false := decide_eq_false (by omega)
        have d2 : decide ((L.length : Int) ≤ (fr : Int)) = false := decide_eq_false (by omega)
        have d3 : decide (L.length ≤ fr) = false := decide_eq_false (by omega)
        clear hfr hu
        by_cases hn0 : node < 0
        · have n0 : decide (node < 0) = true := decide_eq_true hn0
          go_wp2_with fail
          refine (known_any _).mono ?_
          rintro e W7 ⟨rfl, hc7⟩
          have hc07 := hc06.stay hc7
          clear hc06 hc7
          go_wp2_with fail
          go_ret
          exact ⟨rfl, hc07⟩
        · have n0 : decide (node < 0) = false := decide_eq_false hn0
          have n2 : decide ((n : Int) ≤ node) = true := decide_eq_true (by have := HND.out; omega)
          go_wp2_with fail
          refine (known_any _).mono ?_
          rintro e W7 ⟨rfl, hc7⟩
          have hc07 := hc06.stay hc7
          clear hc06 hc7
          go_wp2_with fail
          go_ret
          exact ⟨rfl, hc07⟩
    · obtain ⟨v, rfl⟩ : ∃ v : Nat, node = v := ⟨node.toNat, by omega⟩
      obtain ⟨e1, e2⟩ := hM.first (k := v) (by rw [hn]; omega)
      have H1 := hide (fun W => First_any c v W)
      obtain ⟨s, hs⟩ : ∃ s, sumF c v = s := ⟨_, rfl⟩
      rw [e1, e2, hs] at H1
      have hsb := hM.sum_le v (by omega)
      rw [hs] at hsb
      obtain ⟨s1, s2⟩ := hsb
      have s3 : s ≤ 1024 := by omega
      have H6 := hide (fun W => rOrder_any hM v (by rw [hn]; omega) W)
      have HE := hide e2
      have HSS := hide hs
      have HV := hide (show (v : Int) < c 0 by rw [hn]; omega)
      have H3 := hide (fun W => Order_any c v W)
      have v1 : (0 : Int) ≤ (v : Int) := by omega
      have v2 : (v : Int) < (n : Int) := by omega
      have v3 : (v : Int) < 8 := by omega
      clear e1 e2 hM hn hs s2 hnode
      go_enter Try.func3, Try.ntmps3
      go_wp2_with (first | (refine wpList_box26 rfl _ rfl rfl ?_) | (refine wpList_load26L (b := w.heap.size) (c := c) rfl _ rfl rfl ?_ ?_; (focus exact HB.out)))
      refine (H1.out _).mono ?_
      rintro e W2 ⟨rfl, hc2⟩
      have hc02 := HC.out.stay hc2
      have HB2 := hide (HB.out.chg hc2 List.not_mem_nil)
      clear HC hc2 HB H1
      generalize w.heap.size = b at HB2 ⊢
      go_wp2_with (first | (refine wpList_load26L (b := b) (c := c) rfl _ rfl rfl ?_ ?_; (focus exact HB2.out)))
      refine (H2.out _).mono ?_
      rintro e W3 ⟨i3, x3, rfl, hn3, hc3⟩
      have hc03 := hc02.stay hc3
      have HB3 := hide (HB2.out.chg hc3 List.not_mem_nil)
      clear hc02 hc3 HB2 H2
      go_wp2_with (first | (refine wpList_load26L (b := b) (c := c) rfl _ rfl rfl ?_ ?_; (focus exact HB3.out)))
      refine (H3.out _).mono ?_
      rintro e W4 ⟨A, ln, cap, y, l, rfl, hy, hsl, -, hl0, -, hc4⟩
      obtain rfl : y = 0 := hy.trans HE.out
      have hlO := hl0 rfl
      rw [Int.toNat_natCast] at hlO
      have HSL := hide hsl
      have HLO := hide hlO
      clear hy hl0 hsl hlO
      have hc04 := hc03.stay hc4
      have HB4 := hide (HB3.out.chg hc4 List.not_mem_nil)
      clear hc03 hc4 HB3 H3
      have HN3 := hide hn3
      clear hn3
      go_wp2_with (first | (refine wpList_load26L (b := b) (c := c) rfl _ rfl rfl ?_ ?_; (focus exact HB4.out)))
      refine (H4.out _).mono ?_
      rintro e W5 ⟨rfl, hc5⟩
      have hc05 := hc04.stay hc5
      have HB5 := hide (HB4.out.chg hc5 List.not_mem_nil)
      have HSL := hide (HSL.out.stay hc5)
      clear hc04 hc5 HB4 H4
      go_wp2_with (first | (refine wpList_load26L (b := b) (c := c) rfl _ rfl rfl ?_ ?_; (focus exact HB5.out)))
      refine (H5.out _).mono ?_
      rintro e W6 ⟨G, gm, gcap, L, rfl, hsg, -, -, hfi, hc6⟩
      have hc06 := hc05.stay hc6
      have HB6 := hide (HB5.out.chg hc6 List.not_mem_nil)
      have HSL := hide (HSL.out.stay hc6)
      have hFI := hfi Hm.out
      have hgm : gm = L.length := by
        obtain ⟨A', c', e'⟩ := hsg.form
        injection e'
      subst hgm
      have HFI := hide hFI
      have HSG := hide hsg
      have g6 := CB.get HB6.out (i := 0) (by omega)
      rw [HN.out] at g6
      have hb6 := HB6.out.lt
      clear hc05 hc6 HB5 H5 hfi hsg hFI
      have hLb : (L.length : Int) ≤ 1024 := by
        have := HM.out.sum_le n (by omega)
        have := HFI.out.1
        rw [HN.out, Int.toNat_natCast] at this
        omega
      by_cases hfr : f < 0 ∨ (L.length : Int) ≤ f
      · obtain ⟨rfl, rfl⟩ := HFI.out.out_ HM.out HN3.out hfr
        clear HN3
        by_cases hf0 : f < 0
        · have d1 : decide (f < 0) = true := decide_eq_true hf0
          clear hfr
          have n0 : decide ((v : Int) < 0) = false := decide_eq_false (by omega)
          have n2 : decide ((n : Int) ≤ (v : Int)) = false := decide_eq_false (by omega)
          have n3 : decide (n ≤ v) = false := decide_eq_false (by omega)
          go_wp2_with fail
          go_loopw [14] (fun i wr => wr = W6 ∧ ∃ t : Nat, (t : Int) ≤ s ∧ t ≤ L.length ∧ i = .int .i64 t) (fun i _ => L.length - (intOf i).toNat)
          case atStart => exact ⟨rfl, 0, by omega, by omega, rfl⟩
          case round =>
            obtain ⟨rfl, t, hts, htl, rfl⟩ := hrel
            have hLs : s ≤ (L.length : Int) := by
              have h1 := HFI.out.1
              have h2 := HM.out.sum_mono (i := v) (c 0).toNat (by have := HV.out; omega) (by have := HM.out.n8; omega)
              rw [HSS.out] at h2
              omega
            by_cases hts2 : (t : Int) < s
            · have htl2 : t < L.length := by omega
              have hlt := (HFI.out.lt_iff HM.out htl2 HV.out).2 (by rw [HSS.out]; exact hts2)
              obtain ⟨gg, goff, rfl⟩ := SE.addr HSG.out (by omega)
              have qt := SI.cell (SE.re HSG.out) htl2
              obtain ⟨z, hz⟩ : ∃ z : Nat, L[t] = z := ⟨_, rfl⟩
              rw [hz] at qt hlt
              have hgg : gg < wr.heap.size := HSG.out.own_lt gg (by simp [own, Value.ownBlock])
              have t1 : (0 : Int) ≤ (t : Int) := by omega
              have t2 : (t : Int) < (L.length : Int) := by omega
              have z1 : decide ((z : Int) < (v : Int)) = true := decide_eq_true (by omega)
              clear hz
              go_wp2_with fail
              go_roundw
              case rel => exact ⟨trivial, t + 1, by omega, by omega, by go_num⟩
              case measure => simp [intOf]; omega
            · have hnl : ∀ h : t < L.length, ¬ L[t] < v := fun h hl => hts2 (by rw [← HSS.out]; exact (HFI.out.lt_iff HM.out h HV.out).1 hl)
              obtain rfl : s = (t : Int) := by omega
              by_cases htl2 : t < L.length
              · have hlt := hnl htl2
                clear hnl
                obtain ⟨gg, goff, rfl⟩ := SE.addr HSG.out (by omega)
                have qt := SI.cell (SE.re HSG.out) htl2
                obtain ⟨z, hz⟩ : ∃ z : Nat, L[t] = z := ⟨_, rfl⟩
                rw [hz] at qt hlt
                have hgg : gg < wr.heap.size := HSG.out.own_lt gg (by simp [own, Value.ownBlock])
                have t1 : (0 : Int) ≤ (t : Int) := by omega
                have t2 : (t : Int) < (L.length : Int) := by omega
                have z1 : decide ((z : Int) < (v : Int)) = false := decide_eq_false (by omega)
                have z2 : decide (z < v) = false := decide_eq_false (by omega)
                clear hz hlt
                go_wp2_with (first | (refine wpList_load26L (b := b) (c := c) rfl _ rfl rfl ?_ ?_; (focus exact HB6.out)))
                refine (H6.out _).mono ?_
                rintro e W7 ⟨B, bm, bcap, l2, rfl, hs2, hO2, hc7⟩
                have hl12 : l2 = l := hO2.unique HLO.out
                subst hl12
                have hc07 := hc06.stay hc7
                have hl8 : (l2.length : Int) ≤ 8 := by
                  have := HLO.out.length
                  rw [HN.out, Int.toNat_natCast] at this
                  omega
                have hln : ln = l2.length := by
                  obtain ⟨A', c', e'⟩ := HSL.out.form
                  injection e'
                have hbm : bm = l2.length := by
                  obtain ⟨A', c', e'⟩ := hs2.form
                  injection e'
                subst hln; subst hbm
                have HSL7 := hide (HSL.out.stay hc7)
                have HS2 := hide hs2
                clear hc06 hc7 HSL hs2 hO2 HLO H6
                go_wp2_with fail
                go_loopw [140] (fun i wr => Chg [] W7 wr ∧ ∃ k : Nat, k ≤ l2.length ∧ i = .int .i64 k) (fun i _ => l2.length - (intOf i).toNat)
                case atStart => exact ⟨Chg.refl _ _, 0, by omega, rfl⟩
                case round =>
                  obtain ⟨hch, k, hk, rfl⟩ := hrel
                  by_cases hkt : k < l2.length
                  · obtain ⟨a1, o1, rfl⟩ := SE.addr HSL7.out (by omega)
                    obtain ⟨a2, o2, rfl⟩ := SE.addr HS2.out (by omega)
                    have p1 := SI.cell (SE.re (HSL7.out.stay hch)) hkt
                    have p2 := SI.cell (SE.re (HS2.out.stay hch)) hkt
                    generalize l2[k] = x at p1 p2
                    have k1 : (0 : Int) ≤ (k : Int) := by omega
                    have k2 : (k : Int) < (l2.length : Int) := by omega
                    have al1 : a1 < wr.heap.size := (HSL7.out.stay hch).own_lt a1 (by simp [own, Value.ownBlock])
                    have al2 : a2 < wr.heap.size := (HS2.out.stay hch).own_lt a2 (by simp [own, Value.ownBlock])
                    go_wp2_with fail
                    refine wp_region_t [0, 0, 0, 1, 0, 0, 0, 1, 0] [none, none, none, none, none, none, none, none, none] (fun _ => True) (by kernel_rfl) (by kernel_rfl) (by kernel_rfl) ?_
                    go_wp2_with (first | fail | (refine wpG_calc rfl (fun K hK => ?_)) | (refine wpG_skip ?_ ?_; (focus (simp [wantG]; done)); go_simp) | (refine wpG_take ?_ ?_; (focus (simp [wantG]; done))) | (refine wpG_pure (fun K hK => ?_); go_simp; refine hK _ _ ?_; clear hK K) | (refine wpG_deed (by decide) (fun K hK => ?_); go_simp) | (refine wpG_nil ?_))
                    go_roundw
                    case rel => exact ⟨hch.drew, k + 1, by omega, by go_num⟩
                    case measure => simp [intOf]; omega
                  · obtain rfl : k = l2.length := by omega
                    go_wp2_with fail
                    refine (known_any _).mono ?_
                    rintro e W9 ⟨rfl, hc9⟩
                    have hc09 := (hc07.stay hch).stay hc9
                    clear hc07 hc9 hch
                    go_wp2_with fail
                    go_ret
                    exact ⟨rfl, hc09⟩
              · have t3 : decide ((t : Int) < (L.length : Int)) = false := decide_eq_false (by omega)
                have t4 : decide (t < L.length) = false := decide_eq_false (by omega)
                go_wp2_with (first | (refine wpList_load26L (b := b) (c := c) rfl _ rfl rfl ?_ ?_; (focus exact HB6.out)))
                refine (H6.out _).mono ?_
                rintro e W7 ⟨B, bm, bcap, l2, rfl, hs2, hO2, hc7⟩
                have hl12 : l2 = l := hO2.unique HLO.out
                subst hl12
                have hc07 := hc06.stay hc7
                have hl8 : (l2.length : Int) ≤ 8 := by
                  have := HLO.out.length
                  rw [HN.out, Int.toNat_natCast] at this
                  omega
                have hln : ln = l2.length := by
                  obtain ⟨A', c', e'⟩ := HSL.out.form
                  injection e'
                have hbm : bm = l2.length := by
                  obtain ⟨A', c', e'⟩ := hs2.form
                  injection e'
                subst hln; subst hbm
                have HSL7 := hide (HSL.out.stay hc7)
                have HS2 := hide hs2
                clear hc06 hc7 HSL hs2 hO2 HLO H6
                go_wp2_with fail
                go_loopw [140] (fun i wr => Chg [] W7 wr ∧ ∃ k : Nat, k ≤ l2.length ∧ i = .int .i64 k) (fun i _ => l2.length - (intOf i).toNat)
                case atStart => exact ⟨Chg.refl _ _, 0, by omega, rfl⟩
                case round =>
                  obtain ⟨hch, k, hk, rfl⟩ := hrel
                  by_cases hkt : k < l2.length
                  · obtain ⟨a1, o1, rfl⟩ := SE.addr HSL7.out (by omega)
                    obtain ⟨a2, o2, rfl⟩ := SE.addr HS2.out (by omega)
                    have p1 := SI.cell (SE.re (HSL7.out.stay hch)) hkt
                    have p2 := SI.cell (SE.re (HS2.out.stay hch)) hkt
                    generalize l2[k] = x at p1 p2
                    have k1 : (0 : Int) ≤ (k : Int) := by omega
                    have k2 : (k : Int) < (l2.length : Int) := by omega
                    have al1 : a1 < wr.heap.size := (HSL7.out.stay hch).own_lt a1 (by simp [own, Value.ownBlock])
                    have al2 : a2 < wr.heap.size := (HS2.out.stay hch).own_lt a2 (by simp [own, Value.ownBlock])
                    go_wp2_with fail
                    refine wp_region_t [0, 0, 0, 1, 0, 0, 0, 1, 0] [none, none, none, none, none, none, none, none, none] (fun _ => True) (by kernel_rfl) (by kernel_rfl) (by kernel_rfl) ?_
                    go_wp2_with (first | fail | (refine wpG_calc rfl (fun K hK => ?_)) | (refine wpG_skip ?_ ?_; (focus (simp [wantG]; done)); go_simp) | (refine wpG_take ?_ ?_; (focus (simp [wantG]; done))) | (refine wpG_pure (fun K hK => ?_); go_simp; refine hK _ _ ?_; clear hK K) | (refine wpG_deed (by decide) (fun K hK => ?_); go_simp) | (refine wpG_nil ?_))
                    go_roundw
                    case rel => exact ⟨hch.drew, k + 1, by omega, by go_num⟩
                    case measure => simp [intOf]; omega
                  · obtain rfl : k = l2.length := by omega
                    go_wp2_with fail
                    refine (known_any _).mono ?_
                    rintro e W9 ⟨rfl, hc9⟩
                    have hc09 := (hc07.stay hch).stay hc9
                    clear hc07 hc9 hch
                    go_wp2_with fail
                    go_ret
                    exact ⟨rfl, hc09⟩
        · have d1 : decide (f < 0) = false := decide_eq_false hf0
          have d2 : decide ((L.length : Int) ≤ f) = true := decide_eq_true (by omega)
          clear hfr
          have n0 : decide ((v : Int) < 0) = false := decide_eq_false (by omega)
          have n2 : decide ((n : Int) ≤ (v : Int)) = false := decide_eq_false (by omega)
          have n3 : decide (n ≤ v) = false := decide_eq_false (by omega)
          go_wp2_with fail
          go_loopw [14] (fun i wr => wr = W6 ∧ ∃ t : Nat, (t : Int) ≤ s ∧ t ≤ L.length ∧ i = .int .i64 t) (fun i _ => L.length - (intOf i).toNat)
          case atStart => exact ⟨rfl, 0, by omega, by omega, rfl⟩
          case round =>
            obtain ⟨rfl, t, hts, htl, rfl⟩ := hrel
            have hLs : s ≤ (L.length : Int) := by
              have h1 := HFI.out.1
              have h2 := HM.out.sum_mono (i := v) (c 0).toNat (by have := HV.out; omega) (by have := HM.out.n8; omega)
              rw [HSS.out] at h2
              omega
            by_cases hts2 : (t : Int) < s
            · have htl2 : t < L.length := by omega
              have hlt := (HFI.out.lt_iff HM.out htl2 HV.out).2 (by rw [HSS.out]; exact hts2)
              obtain ⟨gg, goff, rfl⟩ := SE.addr HSG.out (by omega)
              have qt := SI.cell (SE.re HSG.out) htl2
              obtain ⟨z, hz⟩ : ∃ z : Nat, L[t] = z := ⟨_, rfl⟩
              rw [hz] at qt hlt
              have hgg : gg < wr.heap.size := HSG.out.own_lt gg (by simp [own, Value.ownBlock])
              have t1 : (0 : Int) ≤ (t : Int) := by omega
              have t2 : (t : Int) < (L.length : Int) := by omega
              have z1 : decide ((z : Int) < (v : Int)) = true := decide_eq_true (by omega)
              clear hz
              go_wp2_with fail
              go_roundw
              case rel => exact ⟨trivial, t + 1, by omega, by omega, by go_num⟩
              case measure => simp [intOf]; omega
            · have hnl : ∀ h : t < L.length, ¬ L[t] < v := fun h hl => hts2 (by rw [← HSS.out]; exact (HFI.out.lt_iff HM.out h HV.out).1 hl)
              obtain rfl : s = (t : Int) := by omega
              by_cases htl2 : t < L.length
              · have hlt := hnl htl2
                clear hnl
                obtain ⟨gg, goff, rfl⟩ := SE.addr HSG.out (by omega)
                have qt := SI.cell (SE.re HSG.out) htl2
                obtain ⟨z, hz⟩ : ∃ z : Nat, L[t] = z := ⟨_, rfl⟩
                rw [hz] at qt hlt
                have hgg : gg < wr.heap.size := HSG.out.own_lt gg (by simp [own, Value.ownBlock])
                have t1 : (0 : Int) ≤ (t : Int) := by omega
                have t2 : (t : Int) < (L.length : Int) := by omega
                have z1 : decide ((z : Int) < (v : Int)) = false := decide_eq_false (by omega)
                have z2 : decide (z < v) = false := decide_eq_false (by omega)
                clear hz hlt
                go_wp2_with (first | (refine wpList_load26L (b := b) (c := c) rfl _ rfl rfl ?_ ?_; (focus exact HB6.out)))
                refine (H6.out _).mono ?_
                rintro e W7 ⟨B, bm, bcap, l2, rfl, hs2, hO2, hc7⟩
                have hl12 : l2 = l := hO2.unique HLO.out
                subst hl12
                have hc07 := hc06.stay hc7
                have hl8 : (l2.length : Int) ≤ 8 := by
                  have := HLO.out.length
                  rw [HN.out, Int.toNat_natCast] at this
                  omega
                have hln : ln = l2.length := by
                  obtain ⟨A', c', e'⟩ := HSL.out.form
                  injection e'
                have hbm : bm = l2.length := by
                  obtain ⟨A', c', e'⟩ := hs2.form
                  injection e'
                subst hln; subst hbm
                have HSL7 := hide (HSL.out.stay hc7)
                have HS2 := hide hs2
                clear hc06 hc7 HSL hs2 hO2 HLO H6
                go_wp2_with fail
                go_loopw [140] (fun i wr => Chg [] W7 wr ∧ ∃ k : Nat, k ≤ l2.length ∧ i = .int .i64 k) (fun i _ => l2.length - (intOf i).toNat)
                case atStart => exact ⟨Chg.refl _ _, 0, by omega, rfl⟩
                case round =>
                  obtain ⟨hch, k, hk, rfl⟩ := hrel
                  by_cases hkt : k < l2.length
                  · obtain ⟨a1, o1, rfl⟩ := SE.addr HSL7.out (by omega)
                    obtain ⟨a2, o2, rfl⟩ := SE.addr HS2.out (by omega)
                    have p1 := SI.cell (SE.re (HSL7.out.stay hch)) hkt
                    have p2 := SI.cell (SE.re (HS2.out.stay hch)) hkt
                    generalize l2[k] = x at p1 p2
                    have k1 : (0 : Int) ≤ (k : Int) := by omega
                    have k2 : (k : Int) < (l2.length : Int) := by omega
                    have al1 : a1 < wr.heap.size := (HSL7.out.stay hch).own_lt a1 (by simp [own, Value.ownBlock])
                    have al2 : a2 < wr.heap.size := (HS2.out.stay hch).own_lt a2 (by simp [own, Value.ownBlock])
                    go_wp2_with fail
                    refine wp_region_t [0, 0, 0, 1, 0, 0, 0, 1, 0] [none, none, none, none, none, none, none, none, none] (fun _ => True) (by kernel_rfl) (by kernel_rfl) (by kernel_rfl) ?_
                    go_wp2_with (first | fail | (refine wpG_calc rfl (fun K hK => ?_)) | (refine wpG_skip ?_ ?_; (focus (simp [wantG]; done)); go_simp) | (refine wpG_take ?_ ?_; (focus (simp [wantG]; done))) | (refine wpG_pure (fun K hK => ?_); go_simp; refine hK _ _ ?_; clear hK K) | (refine wpG_deed (by decide) (fun K hK => ?_); go_simp) | (refine wpG_nil ?_))
                    go_roundw
                    case rel => exact ⟨hch.drew, k + 1, by omega, by go_num⟩
                    case measure => simp [intOf]; omega
                  · obtain rfl : k = l2.length := by omega
                    go_wp2_with fail
                    refine (known_any _).mono ?_
                    rintro e W9 ⟨rfl, hc9⟩
                    have hc09 := (hc07.stay hch).stay hc9
                    clear hc07 hc9 hch
                    go_wp2_with fail
                    go_ret
                    exact ⟨rfl, hc09⟩
              · have t3 : decide ((t : Int) < (L.length : Int)) = false := decide_eq_false (by omega)
                have t4 : decide (t < L.length) = false := decide_eq_false (by omega)
                go_wp2_with (first | (refine wpList_load26L (b := b) (c := c) rfl _ rfl rfl ?_ ?_; (focus exact HB6.out)))
                refine (H6.out _).mono ?_
                rintro e W7 ⟨B, bm, bcap, l2, rfl, hs2, hO2, hc7⟩
                have hl12 : l2 = l := hO2.unique HLO.out
                subst hl12
                have hc07 := hc06.stay hc7
                have hl8 : (l2.length : Int) ≤ 8 := by
                  have := HLO.out.length
                  rw [HN.out, Int.toNat_natCast] at this
                  omega
                have hln : ln = l2.length := by
                  obtain ⟨A', c', e'⟩ := HSL.out.form
                  injection e'
                have hbm : bm = l2.length := by
                  obtain ⟨A', c', e'⟩ := hs2.form
                  injection e'
                subst hln; subst hbm
                have HSL7 := hide (HSL.out.stay hc7)
                have HS2 := hide hs2
                clear hc06 hc7 HSL hs2 hO2 HLO H6
                go_wp2_with fail
                go_loopw [140] (fun i wr => Chg [] W7 wr ∧ ∃ k : Nat, k ≤ l2.length ∧ i = .int .i64 k) (fun i _ => l2.length - (intOf i).toNat)
                case atStart => exact ⟨Chg.refl _ _, 0, by omega, rfl⟩
                case round =>
                  obtain ⟨hch, k, hk, rfl⟩ := hrel
                  by_cases hkt : k < l2.length
                  · obtain ⟨a1, o1, rfl⟩ := SE.addr HSL7.out (by omega)
                    obtain ⟨a2, o2, rfl⟩ := SE.addr HS2.out (by omega)
                    have p1 := SI.cell (SE.re (HSL7.out.stay hch)) hkt
                    have p2 := SI.cell (SE.re (HS2.out.stay hch)) hkt
                    generalize l2[k] = x at p1 p2
                    have k1 : (0 : Int) ≤ (k : Int) := by omega
                    have k2 : (k : Int) < (l2.length : Int) := by omega
                    have al1 : a1 < wr.heap.size := (HSL7.out.stay hch).own_lt a1 (by simp [own, Value.ownBlock])
                    have al2 : a2 < wr.heap.size := (HS2.out.stay hch).own_lt a2 (by simp [own, Value.ownBlock])
                    go_wp2_with fail
                    refine wp_region_t [0, 0, 0, 1, 0, 0, 0, 1, 0] [none, none, none, none, none, none, none, none, none] (fun _ => True) (by kernel_rfl) (by kernel_rfl) (by kernel_rfl) ?_
                    go_wp2_with (first | fail | (refine wpG_calc rfl (fun K hK => ?_)) | (refine wpG_skip ?_ ?_; (focus (simp [wantG]; done)); go_simp) | (refine wpG_take ?_ ?_; (focus (simp [wantG]; done))) | (refine wpG_pure (fun K hK => ?_); go_simp; refine hK _ _ ?_; clear hK K) | (refine wpG_deed (by decide) (fun K hK => ?_); go_simp) | (refine wpG_nil ?_))
                    go_roundw
                    case rel => exact ⟨hch.drew, k + 1, by omega, by go_num⟩
                    case measure => simp [intOf]; omega
                  · obtain rfl : k = l2.length := by omega
                    go_wp2_with fail
                    refine (known_any _).mono ?_
                    rintro e W9 ⟨rfl, hc9⟩
                    have hc09 := (hc07.stay hch).stay hc9
                    clear hc07 hc9 hch
                    go_wp2_with fail
                    go_ret
                    exact ⟨rfl, hc09⟩
      · obtain ⟨fr, rfl⟩ : ∃ fr : Nat, f = fr := ⟨f.toNat, by omega⟩
        have hfl : fr < L.length := by omega
        obtain ⟨rfl, rfl⟩ := HFI.out.in_ HM.out HN3.out hfl
        clear HN3
        obtain ⟨g, off, rfl⟩ := SE.addr HSG.out (by omega)
        have qf := SI.cell (SE.re HSG.out) hfl
        obtain ⟨u, hu⟩ : ∃ u : Nat, L[fr] = u := ⟨_, rfl⟩
        rw [hu] at qf ⊢
        have hgl : g < W6.heap.size := HSG.out.own_lt g (by simp [own, Value.ownBlock])
        have fr1 : (0 : Int) ≤ (fr : Int) := by omega
        have fr2 : (fr : Int) < (L.length : Int) := by omega
        have d1 : decide ((fr : Int) < 0) = false := decide_eq_false (by omega)
        have d2 : decide ((L.length : Int) ≤ (fr : Int)) = false := decide_eq_false (by omega)
        have d3 : decide (L.length ≤ fr) = false := decide_eq_false (by omega)
        clear hfr hu
        have n0 : decide ((v : Int) < 0) = false := decide_eq_false (by omega)
        have n2 : decide ((n : Int) ≤ (v : Int)) = false := decide_eq_false (by omega)
        have n3 : decide (n ≤ v) = false := decide_eq_false (by omega)
        go_wp2_with fail
        go_loopw [14] (fun i wr => wr = W6 ∧ ∃ t : Nat, (t : Int) ≤ s ∧ t ≤ L.length ∧ i = .int .i64 t) (fun i _ => L.length - (intOf i).toNat)
        case atStart => exact ⟨rfl, 0, by omega, by omega, rfl⟩
        case round =>
          obtain ⟨rfl, t, hts, htl, rfl⟩ := hrel
          have hLs : s ≤ (L.length : Int) := by
            have h1 := HFI.out.1
            have h2 := HM.out.sum_mono (i := v) (c 0).toNat (by have := HV.out; omega) (by have := HM.out.n8; omega)
            rw [HSS.out] at h2
            omega
          by_cases hts2 : (t : Int) < s
          · have htl2 : t < L.length := by omega
            have hlt := (HFI.out.lt_iff HM.out htl2 HV.out).2 (by rw [HSS.out]; exact hts2)
            have qt := SI.cell (SE.re HSG.out) htl2
            obtain ⟨z, hz⟩ : ∃ z : Nat, L[t] = z := ⟨_, rfl⟩
            rw [hz] at qt hlt
            have hgg : g < wr.heap.size := HSG.out.own_lt g (by simp [own, Value.ownBlock])
            have t1 : (0 : Int) ≤ (t : Int) := by omega
            have t2 : (t : Int) < (L.length : Int) := by omega
            have z1 : decide ((z : Int) < (v : Int)) = true := decide_eq_true (by omega)
            clear hz
            go_wp2_with fail
            go_roundw
            case rel => exact ⟨trivial, t + 1, by omega, by omega, by go_num⟩
            case measure => simp [intOf]; omega
          · have hnl : ∀ h : t < L.length, ¬ L[t] < v := fun h hl => hts2 (by rw [← HSS.out]; exact (HFI.out.lt_iff HM.out h HV.out).1 hl)
            obtain rfl : s = (t : Int) := by omega
            by_cases htl2 : t < L.length
            · have hlt := hnl htl2
              clear hnl
              have qt := SI.cell (SE.re HSG.out) htl2
              obtain ⟨z, hz⟩ : ∃ z : Nat, L[t] = z := ⟨_, rfl⟩
              rw [hz] at qt hlt
              have hgg : g < wr.heap.size := HSG.out.own_lt g (by simp [own, Value.ownBlock])
              have t1 : (0 : Int) ≤ (t : Int) := by omega
              have t2 : (t : Int) < (L.length : Int) := by omega
              have z1 : decide ((z : Int) < (v : Int)) = false := decide_eq_false (by omega)
              have z2 : decide (z < v) = false := decide_eq_false (by omega)
              clear hz hlt
              go_wp2_with (first | (refine wpList_load26L (b := b) (c := c) rfl _ rfl rfl ?_ ?_; (focus exact HB6.out)))
              refine (H6.out _).mono ?_
              rintro e W7 ⟨B, bm, bcap, l2, rfl, hs2, hO2, hc7⟩
              have hl12 : l2 = l := hO2.unique HLO.out
              subst hl12
              have hc07 := hc06.stay hc7
              have hl8 : (l2.length : Int) ≤ 8 := by
                have := HLO.out.length
                rw [HN.out, Int.toNat_natCast] at this
                omega
              have hln : ln = l2.length := by
                obtain ⟨A', c', e'⟩ := HSL.out.form
                injection e'
              have hbm : bm = l2.length := by
                obtain ⟨A', c', e'⟩ := hs2.form
                injection e'
              subst hln; subst hbm
              have HSL7 := hide (HSL.out.stay hc7)
              have HS2 := hide hs2
              clear hc06 hc7 HSL hs2 hO2 HLO H6
              go_wp2_with fail
              go_loopw [140] (fun i wr => Chg [] W7 wr ∧ ∃ k : Nat, k ≤ l2.length ∧ i = .int .i64 k) (fun i _ => l2.length - (intOf i).toNat)
              case atStart => exact ⟨Chg.refl _ _, 0, by omega, rfl⟩
              case round =>
                obtain ⟨hch, k, hk, rfl⟩ := hrel
                by_cases hkt : k < l2.length
                · obtain ⟨a1, o1, rfl⟩ := SE.addr HSL7.out (by omega)
                  obtain ⟨a2, o2, rfl⟩ := SE.addr HS2.out (by omega)
                  have p1 := SI.cell (SE.re (HSL7.out.stay hch)) hkt
                  have p2 := SI.cell (SE.re (HS2.out.stay hch)) hkt
                  generalize l2[k] = x at p1 p2
                  have k1 : (0 : Int) ≤ (k : Int) := by omega
                  have k2 : (k : Int) < (l2.length : Int) := by omega
                  have al1 : a1 < wr.heap.size := (HSL7.out.stay hch).own_lt a1 (by simp [own, Value.ownBlock])
                  have al2 : a2 < wr.heap.size := (HS2.out.stay hch).own_lt a2 (by simp [own, Value.ownBlock])
                  go_wp2_with fail
                  refine wp_region_t [0, 0, 0, 1, 0, 0, 0, 1, 0] [none, none, none, none, none, none, none, none, none] (fun _ => True) (by kernel_rfl) (by kernel_rfl) (by kernel_rfl) ?_
                  go_wp2_with (first | fail | (refine wpG_calc rfl (fun K hK => ?_)) | (refine wpG_skip ?_ ?_; (focus (simp [wantG]; done)); go_simp) | (refine wpG_take ?_ ?_; (focus (simp [wantG]; done))) | (refine wpG_pure (fun K hK => ?_); go_simp; refine hK _ _ ?_; clear hK K) | (refine wpG_deed (by decide) (fun K hK => ?_); go_simp) | (refine wpG_nil ?_))
                  go_roundw
                  case rel => exact ⟨hch.drew, k + 1, by omega, by go_num⟩
                  case measure => simp [intOf]; omega
                · obtain rfl : k = l2.length := by omega
                  go_wp2_with fail
                  refine (known_any _).mono ?_
                  rintro e W9 ⟨rfl, hc9⟩
                  have hc09 := (hc07.stay hch).stay hc9
                  clear hc07 hc9 hch
                  go_wp2_with fail
                  go_ret
                  exact ⟨rfl, hc09⟩
            · have t3 : decide ((t : Int) < (L.length : Int)) = false := decide_eq_false (by omega)
              have t4 : decide (t < L.length) = false := decide_eq_false (by omega)
              go_wp2_with (first | (refine wpList_load26L (b := b) (c := c) rfl _ rfl rfl ?_ ?_; (focus exact HB6.out)))
              refine (H6.out _).mono ?_
              rintro e W7 ⟨B, bm, bcap, l2, rfl, hs2, hO2, hc7⟩
              have hl12 : l2 = l := hO2.unique HLO.out
              subst hl12
              have hc07 := hc06.stay hc7
              have hl8 : (l2.length : Int) ≤ 8 := by
                have := HLO.out.length
                rw [HN.out, Int.toNat_natCast] at this
                omega
              have hln : ln = l2.length := by
                obtain ⟨A', c', e'⟩ := HSL.out.form
                injection e'
              have hbm : bm = l2.length := by
                obtain ⟨A', c', e'⟩ := hs2.form
                injection e'
              subst hln; subst hbm
              have HSL7 := hide (HSL.out.stay hc7)
              have HS2 := hide hs2
              clear hc06 hc7 HSL hs2 hO2 HLO H6
              go_wp2_with fail
              go_loopw [140] (fun i wr => Chg [] W7 wr ∧ ∃ k : Nat, k ≤ l2.length ∧ i = .int .i64 k) (fun i _ => l2.length - (intOf i).toNat)
              case atStart => exact ⟨Chg.refl _ _, 0, by omega, rfl⟩
              case round =>
                obtain ⟨hch, k, hk, rfl⟩ := hrel
                by_cases hkt : k < l2.length
                · obtain ⟨a1, o1, rfl⟩ := SE.addr HSL7.out (by omega)
                  obtain ⟨a2, o2, rfl⟩ := SE.addr HS2.out (by omega)
                  have p1 := SI.cell (SE.re (HSL7.out.stay hch)) hkt
                  have p2 := SI.cell (SE.re (HS2.out.stay hch)) hkt
                  generalize l2[k] = x at p1 p2
                  have k1 : (0 : Int) ≤ (k : Int) := by omega
                  have k2 : (k : Int) < (l2.length : Int) := by omega
                  have al1 : a1 < wr.heap.size := (HSL7.out.stay hch).own_lt a1 (by simp [own, Value.ownBlock])
                  have al2 : a2 < wr.heap.size := (HS2.out.stay hch).own_lt a2 (by simp [own, Value.ownBlock])
                  go_wp2_with fail
                  refine wp_region_t [0, 0, 0, 1, 0, 0, 0, 1, 0] [none, none, none, none, none, none, none, none, none] (fun _ => True) (by kernel_rfl) (by kernel_rfl) (by kernel_rfl) ?_
                  go_wp2_with (first | fail | (refine wpG_calc rfl (fun K hK => ?_)) | (refine wpG_skip ?_ ?_; (focus (simp [wantG]; done)); go_simp) | (refine wpG_take ?_ ?_; (focus (simp [wantG]; done))) | (refine wpG_pure (fun K hK => ?_); go_simp; refine hK _ _ ?_; clear hK K) | (refine wpG_deed (by decide) (fun K hK => ?_); go_simp) | (refine wpG_nil ?_))
                  go_roundw
                  case rel => exact ⟨hch.drew, k + 1, by omega, by go_num⟩
                  case measure => simp [intOf]; omega
                · obtain rfl : k = l2.length := by omega
                  go_wp2_with fail
                  refine (known_any _).mono ?_
                  rintro e W9 ⟨rfl, hc9⟩
                  have hc09 := (hc07.stay hch).stay hc9
                  clear hc07 hc9 hch
                  go_wp2_with fail
                  go_ret
                  exact ⟨rfl, hc09⟩
end Go.Proofs.Ytgehpdkhcjeldaa
