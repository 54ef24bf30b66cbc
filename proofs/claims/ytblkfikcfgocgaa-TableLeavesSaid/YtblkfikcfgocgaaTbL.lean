/- TableApart: the walk. -/
import Derived.Test.YtblkfikcfgocgaaTbK
namespace Go.Proofs.Ytblkfikcfgocgaa
open Go Go.RowKit

def icl (z : Int) : List Value := [.int .i64 z]
theorem icl_len (z : Int) : (icl z).length = 1 := rfl
theorem tof_zero : tof (List.replicate 96 (0, 0)) = fun _ => (0, 0) := by
  funext q
  unfold tof
  rw [List.getD_eq_getElem?_getD, List.getElem?_replicate]
  split <;> rfl
theorem TA.chg {w w' : World} {a gb gm : Nat} {T : Nat → Nat × Int} {F : List Nat} (h : TA w a gb gm T) (hc : Chg F w w') (h1 : a ∉ F) (h2 : gb ∉ F) (h3 : gm ∉ F) : TA w' a gb gm T := by
  obtain ⟨⟨B, hf, hv⟩, ht⟩ := h
  exact ⟨⟨B, hf.chg hc h1 h2 h3, hv⟩, ht⟩
theorem TA.lt {w : World} {a gb gm : Nat} {T : Nat → Nat × Int} (h : TA w a gb gm T) : a < w.heap.size ∧ gb < w.heap.size ∧ gm < w.heap.size := by
  obtain ⟨⟨B, hf, hv⟩, ht⟩ := h
  exact hf.lt
set_option maxRecDepth 20000 in
set_option maxHeartbeats 8000000 in
theorem apart_law {v0 v1 : Value} {P : List Int} {E : List (Nat × Int)} (w : World) (h0 : RE icl 1 w v0 P) (h1 : RE ecl 2 w v1 E) (hl0 : (P.length : Int) ≤ 9223372036854775807) (hl1 : (E.length : Int) ≤ 9223372036854775807) :
    Calls Try.prog 8 #[v0, v1] w fun e w' => e = .returned (.bool true) ∧ Chg [] w w' := by
  have HV0 := hide h0
  have HV1 := hide h1
  obtain ⟨A0, c0, rfl⟩ := RE.form h0
  obtain ⟨A1, c1, rfl⟩ := RE.form h1
  have HK := hide known14_any
  have HL := hide least14_any
  have HN := hide New14
  have HLS := hide (fun W a gb gm l (h : TM W a gb gm leastC 4 (VL l) (List.replicate 4 fMk)) hl => leaf_step h hl)
  have HV := hide (show V0 = VL 0 from by funext f i; unfold V0 VL; simp)
  rw [HV.out] at HN
  have HTS := hide (fun W a gb gm (h : TM W a gb gm leastC 4 (VL 3) (List.replicate 4 fMk)) => TA_start h)
  obtain ⟨D, hD⟩ : ∃ D, D = leastC := ⟨_, rfl⟩
  obtain ⟨M0, hM0⟩ : ∃ M0, M0 = List.replicate 4 fMk := ⟨_, rfl⟩
  rw [← hD] at HL HN HLS HTS
  rw [← hM0] at HN HLS HTS
  clear h0 h1 HV hD hM0
  by_cases hbad : 100 < P.length ∨ E.length < P.length
  · have hb : (decide (100 < (P.length : Int)) = true) ∨ (decide (100 < (P.length : Int)) = false ∧ decide ((E.length : Int) < (P.length : Int)) = true) := by
      by_cases h : 100 < P.length
      · exact .inl (decide_eq_true (by omega))
      · exact .inr ⟨decide_eq_false (by omega), decide_eq_true (by omega)⟩
    have hb2 : (decide (100 < P.length) = true) ∨ (decide (100 < P.length) = false ∧ decide (E.length < P.length) = true) := by
      by_cases h : 100 < P.length
      · exact .inl (decide_eq_true h)
      · exact .inr ⟨decide_eq_false h, decide_eq_true (by omega)⟩
    clear hbad
    rcases hb with d1 | ⟨d1, d2⟩ <;> rcases hb2 with e1 | ⟨e1, e2⟩
    · go_enter Try.func8, Try.ntmps8
      go_wp2_with fail
      refine (HL.out _).mono ?_
      rintro e W1 ⟨rfl, hc1⟩
      go_wp2_with fail
      refine (HN.out _).mono ?_
      rintro e W2 ⟨⟨a, gb, gm, rfl, hf, hb⟩, hc2⟩
      have HC2 := hide (hc1.stay hc2)
      clear hf hb hc1 hc2
      go_wp2_with fail
      refine (HK.out _).mono ?_
      rintro e W3 ⟨rfl, hc3⟩
      have HC3 := hide (HC2.out.stay hc3)
      clear hc3
      go_wp2_with fail
      go_ret
      exact ⟨rfl, HC3.out⟩
    · exact absurd (of_decide_eq_true d1) (by have := of_decide_eq_false e1; omega)
    · exact absurd (of_decide_eq_true e1) (by have := of_decide_eq_false d1; omega)
    · go_enter Try.func8, Try.ntmps8
      go_wp2_with fail
      refine (HL.out _).mono ?_
      rintro e W1 ⟨rfl, hc1⟩
      go_wp2_with fail
      refine (HN.out _).mono ?_
      rintro e W2 ⟨⟨a, gb, gm, rfl, hf, hb⟩, hc2⟩
      have HC2 := hide (hc1.stay hc2)
      clear hf hb hc1 hc2
      go_wp2_with fail
      refine (HK.out _).mono ?_
      rintro e W3 ⟨rfl, hc3⟩
      have HC3 := hide (HC2.out.stay hc3)
      clear hc3
      go_wp2_with fail
      go_ret
      exact ⟨rfl, HC3.out⟩
  have d1 : decide (100 < (P.length : Int)) = false := decide_eq_false (by omega)
  have d2 : decide ((E.length : Int) < (P.length : Int)) = false := decide_eq_false (by omega)
  have e1 : decide (100 < P.length) = false := decide_eq_false (by omega)
  have e2 : decide (E.length < P.length) = false := decide_eq_false (by omega)
  have hP : P.length ≤ 100 := by omega
  have hPE : P.length ≤ E.length := by omega
  clear hbad
  go_enter Try.func8, Try.ntmps8
  go_wp2_with fail
  refine (HL.out _).mono ?_
  rintro e W1 ⟨rfl, hc1⟩
  go_wp2_with fail
  refine (HN.out _).mono ?_
  rintro e W2 ⟨⟨a, gb, gm, rfl, hf, hb⟩, hc2⟩
  have HF := hide hf
  have HBB := hide (show w.heap.size ≤ gb from Nat.le_trans hc1.size hb)
  have HC2 := hide (hc1.stay hc2)
  clear hf hb hc1 hc2
  go_wp2_with fail
  go_loopw [49] (fun t wr => ∃ l : Nat, l ≤ 3 ∧ t = .int .i64 l ∧ Hid (TM wr a gb gm D 4 (VL l) M0) ∧ Hid (Chg [] w wr)) (fun t _ => 3 - (intOf t).toNat)
  case atStart => exact ⟨0, by omega, rfl, HF, HC2⟩
  case round =>
    obtain ⟨l, hl, rfl, hf, hch⟩ := hrel
    by_cases hlt : l < 3
    · have HS := hide (HLS.out _ _ _ _ _ hf.out hlt)
      have i0 : (0 : Int) ≤ (l : Int) := by omega
      have i1 : (l : Int) < 3 := by omega
      go_wp2_with fail
      refine HS.out.mono ?_
      rintro e W3 ⟨rfl, hf3, hc3⟩
      have HF3 := hide hf3
      have HC3 := hide (hch.out.trans hc3 (fun x hx => .inr (by obtain rfl := List.mem_singleton.1 hx; exact HBB.out)))
      clear hc3 hf3
      go_wp2_with fail
      go_roundw
      case rel => exact ⟨l + 1, by omega, by go_num, HF3, HC3⟩
      case measure => simp [intOf]; omega
    · obtain rfl : l = 3 := by omega
      have HT := hide (HTS.out _ _ _ _ hf.out)
      have hlt := HT.out.lt
      obtain ⟨W3, rfl⟩ : ∃ W3 : World, W3 = wr := ⟨_, rfl⟩
      go_wp2_with (first | (refine wpList_alloc68 rfl rfl ?_; intro W4 h4 hc4))
      obtain ⟨q1, q2, q3⟩ := hlt
      have HT4 := hide (HT.out.stay hc4)
      have HW4 := hide h4
      have HC4 := hide (hch.out.stay hc4)
      have HBW := hide (show w.heap.size ≤ W3.heap.size from hch.out.size)
      obtain ⟨bw, hbw⟩ : ∃ bw, bw = W3.heap.size := ⟨_, rfl⟩
      rw [← hbw] at HW4 HBW ⊢
      have HNE := hide (show bw ≠ a ∧ bw ≠ gb ∧ bw ≠ gm from ⟨by omega, by omega, by omega⟩)
      rw [← tof_zero] at HT4
      clear h4 hc4 hch hf HT HF HC2 HLS HTS HN HL q1 q2 q3 hbw hl
      go_wp2_with fail
      go_loopw [62] (fun t wr => ∃ (i : Nat) (L : List (Nat × Int)), i ≤ P.length ∧ t = .int .i64 i ∧ L.length = 96 ∧ Hid (TA wr a gb gm (tof L)) ∧ Hid (WB wr bw L) ∧ Hid (Chg [] w wr)) (fun t _ => P.length - (intOf t).toNat)
      case atStart => exact ⟨0, List.replicate 96 (0, 0), by omega, rfl, by simp, HT4, HW4, HC4⟩
      case round =>
        obtain ⟨i, L, hi, rfl, hL, hta, hwb, hch⟩ := hrel
        by_cases hit : i < P.length
        · have hiE : i < E.length := by omega
          have hv0 := HV0.out.stay hch.out
          have hv1 := HV1.out.stay hch.out
          obtain ⟨g0, o0, rfl⟩ := RE.addr hv0 (by omega)
          obtain ⟨g1, o1, rfl⟩ := RE.addr hv1 (by omega)
          have kp := RE.cell icl_len hv0 hit (j := 0) (by omega) rfl
          have k0 := RE.cell ecl_len hv1 hiE (j := 0) (by omega) rfl
          have k1 := RE.cell ecl_len hv1 hiE (j := 1) (by omega) rfl
          have HCW := hide (fun W (h : Chg [] w W) => And.intro (RE.cell icl_len (HV0.out.stay h) hit (j := 0) (by omega) rfl) (And.intro (RE.cell ecl_len (HV1.out.stay h) hiE (j := 0) (by omega) rfl) (RE.cell ecl_len (HV1.out.stay h) hiE (j := 1) (by omega) rfl)))
          generalize P[i] = p at kp HCW
          generalize E[i] = x at k0 k1 HCW
          obtain ⟨k, m⟩ := x
          simp only [Nat.mul_one, Nat.add_zero] at kp k0 k1 HCW
          have i0 : (0 : Int) ≤ (i : Int) := by omega
          have i1 : (i : Int) < (P.length : Int) := by omega
          have i2 : (i : Int) < (E.length : Int) := by omega
          have HS := hide (Set_a (w := wr.drew) (show TA wr.drew a gb gm (tof L) from hta.out.stay (Chg.refl _ _).drew) p k m)
          have HW := hide (fun W => Word_t W k m)
          have hgl0 : g0 < wr.heap.size := World.block_lt_of_cell? _ _ kp
          have hgl1 : g1 < wr.heap.size := World.block_lt_of_cell? _ _ k0
          go_wp2_with fail
          refine wp_region_t [0, 0, 0, 0, 1, 0, 0, 0, 1, 3, 0] [none, none, none, none, none, none, none, none, none, none, none] (fun _ => True) (by kernel_rfl) (by kernel_rfl) (by kernel_rfl) ?_
          go_wp2_with (first | fail | (refine wpG_calc rfl (fun K hK => ?_)) | (refine wpG_skip ?_ ?_; (focus (simp [wantG]; done)); go_simp) | (refine wpG_take ?_ ?_; (focus (simp [wantG]; done))) | (refine wpG_pure (fun K hK => ?_); go_simp; refine hK _ _ ?_; clear hK K) | (refine wpG_deed (by decide) (fun K hK => ?_); go_simp) | (refine wpG_nil ?_))
          refine HS.out.mono ?_
          rintro e W5 ⟨⟨z, rfl, hz⟩, hta5, hc5⟩
          refine hK _ _ ?_
          clear hK K
          have HTA5 := hide hta5
          have HC5 := hide ((hch.out.drew).trans hc5 (fun x hx => .inr (by obtain rfl := List.mem_singleton.1 hx; exact HBB.out)))
          have HWB5 := hide (show WB W5 bw L from Blk.chg (w := wr.drew) hwb.out hc5 (by have := HNE.out.2.1; simpa using this))
          have HZ := hide hz
          clear hz hta5 hc5 hta hwb hch kp k0 k1
          obtain ⟨kp, k0, k1⟩ := HCW.out _ HC5.out
          go_wp2_with (first | fail | (refine wpG_calc rfl (fun K hK => ?_)) | (refine wpG_skip ?_ ?_; (focus (simp [wantG]; done)); go_simp) | (refine wpG_take ?_ ?_; (focus (simp [wantG]; done))) | (refine wpG_pure (fun K hK => ?_); go_simp; refine hK _ _ ?_; clear hK K) | (refine wpG_deed (by decide) (fun K hK => ?_); go_simp) | (refine wpG_nil ?_))
          by_cases p0 : p < 0
          · have d1 : decide (0 ≤ p) = false := decide_eq_false (by omega)
            have hok : okT p k m = false := by unfold okT; rw [decide_eq_false (by omega), Bool.false_and]
            have z1 : (z == 0) = false := by rw [HZ.out, hok]
            have z2 : (z != 0) = true := by rw [bne, z1]; rfl
            have z3 : decide (z = 0) = false := decide_eq_false (by simpa using z1)
            rw [if_neg (by rw [hok]; simp)] at HTA5

            obtain ⟨L6, hL6⟩ : ∃ L6, L6 = L := ⟨_, rfl⟩
            rw [← hL6] at HTA5 HWB5
            have HL6 := hide (show L6.length = 96 from by rw [hL6]; exact hL)
            clear hL6

            refine (HW.out _).mono ?_
            rintro e W6 ⟨rfl, hc6⟩
            have HC6 := hide (HC5.out.stay hc6)
            have HTA6 := hide (HTA5.out.stay hc6)
            have HWB6 := hide (HWB5.out.stay hc6)
            clear hc6 HC5 HTA5 HWB5 kp k0 k1
            obtain ⟨kp, k0, k1⟩ := HCW.out _ HC6.out
            go_wp2_with fail
            go_loopw [114] (fun t wr => ∃ q : Nat, q ≤ 96 ∧ t = .int .i64 q ∧ Hid (Chg [] W6 wr)) (fun t _ => 96 - (intOf t).toNat)
            case atStart => exact ⟨0, by omega, rfl, hide (Chg.refl _ _)⟩
            case round =>
              obtain ⟨q, hq, rfl, hcq⟩ := hrel
              by_cases hqt : q < 96
              · have HG := hide (Get_a (HTA6.out.stay hcq.out) hqt)
                have HWC := hide (fun W (h : Chg [] W6 W) => (HWB6.out.stay h).cells (p := q) (by rw [HL6.out]; exact hqt))
                generalize tof L6 q = y at HG HWC
                obtain ⟨k9, m9⟩ := y
                simp only at HG HWC
                have j0 : (0 : Int) ≤ (q : Int) := by omega
                have j1 : (q : Int) < 96 := by omega
                go_wp2_with fail
                refine HG.out.mono ?_
                rintro e W7 ⟨rfl, hc7⟩
                have HC8 := hide ((hcq.out.stay hc7).alloc (.cells #[.int .u8 k9, .int .i64 m9] 59))
                have hx8 := Blk.new W7 59 #[.int .u8 k9, .int .i64 m9]
                obtain ⟨x0, x1, xl⟩ := ER.cells hx8
                clear hx8 hc7
                obtain ⟨y0, y1, yl⟩ := HWC.out _ HC8.out
                go_wp2_with fail
                refine wp_region_t [0, 0, 0, 1, 0, 0, 1, 0, 0] [none, none, none, some (125, false), some (125, false), some (125, false), some (125, false), some (125, false), none] (fun _ => True) (by kernel_rfl) (by kernel_rfl) (by kernel_rfl) ?_
                go_wp2_with (first | fail | (refine wpG_calc rfl (fun K hK => ?_)) | (refine wpG_skip ?_ ?_; (focus (simp [wantG]; done)); go_simp) | (refine wpG_take ?_ ?_; (focus (simp [wantG]; done))) | (refine wpG_pure (fun K hK => ?_); go_simp; refine hK _ _ ?_; clear hK K) | (refine wpG_deed (by decide) (fun K hK => ?_); go_simp) | (refine wpG_nil ?_))
                go_roundw
                case rel => exact ⟨q + 1, by omega, by go_num, hide HC8.out.drew⟩
                case measure => simp [intOf]; omega
              · obtain rfl : q = 96 := by omega
                have HT9 := hide (HTA6.out.stay hcq.out)
                have HW9 := hide (HWB6.out.stay hcq.out)
                have HC9 := hide (HC6.out.stay hcq.out)
                have h96 := HL6.out
                go_wp2_with fail
                go_roundw
                case rel => exact ⟨i + 1, L6, by omega, by go_num, h96, HT9, HW9, HC9⟩
                case measure => simp [intOf]; omega
          have d1 : decide (0 ≤ p) = true := decide_eq_true (by omega)
          by_cases p1 : 96 ≤ p
          · have d2 : decide (p < 96) = false := decide_eq_false (by omega)
            have hok : okT p k m = false := by unfold okT; rw [decide_eq_false (by omega), Bool.false_and]
            have z1 : (z == 0) = false := by rw [HZ.out, hok]
            have z2 : (z != 0) = true := by rw [bne, z1]; rfl
            have z3 : decide (z = 0) = false := decide_eq_false (by simpa using z1)
            rw [if_neg (by rw [hok]; simp)] at HTA5

            obtain ⟨L6, hL6⟩ : ∃ L6, L6 = L := ⟨_, rfl⟩
            rw [← hL6] at HTA5 HWB5
            have HL6 := hide (show L6.length = 96 from by rw [hL6]; exact hL)
            clear hL6

            refine (HW.out _).mono ?_
            rintro e W6 ⟨rfl, hc6⟩
            have HC6 := hide (HC5.out.stay hc6)
            have HTA6 := hide (HTA5.out.stay hc6)
            have HWB6 := hide (HWB5.out.stay hc6)
            clear hc6 HC5 HTA5 HWB5 kp k0 k1
            obtain ⟨kp, k0, k1⟩ := HCW.out _ HC6.out
            go_wp2_with fail
            go_loopw [114] (fun t wr => ∃ q : Nat, q ≤ 96 ∧ t = .int .i64 q ∧ Hid (Chg [] W6 wr)) (fun t _ => 96 - (intOf t).toNat)
            case atStart => exact ⟨0, by omega, rfl, hide (Chg.refl _ _)⟩
            case round =>
              obtain ⟨q, hq, rfl, hcq⟩ := hrel
              by_cases hqt : q < 96
              · have HG := hide (Get_a (HTA6.out.stay hcq.out) hqt)
                have HWC := hide (fun W (h : Chg [] W6 W) => (HWB6.out.stay h).cells (p := q) (by rw [HL6.out]; exact hqt))
                generalize tof L6 q = y at HG HWC
                obtain ⟨k9, m9⟩ := y
                simp only at HG HWC
                have j0 : (0 : Int) ≤ (q : Int) := by omega
                have j1 : (q : Int) < 96 := by omega
                go_wp2_with fail
                refine HG.out.mono ?_
                rintro e W7 ⟨rfl, hc7⟩
                have HC8 := hide ((hcq.out.stay hc7).alloc (.cells #[.int .u8 k9, .int .i64 m9] 59))
                have hx8 := Blk.new W7 59 #[.int .u8 k9, .int .i64 m9]
                obtain ⟨x0, x1, xl⟩ := ER.cells hx8
                clear hx8 hc7
                obtain ⟨y0, y1, yl⟩ := HWC.out _ HC8.out
                go_wp2_with fail
                refine wp_region_t [0, 0, 0, 1, 0, 0, 1, 0, 0] [none, none, none, some (125, false), some (125, false), some (125, false), some (125, false), some (125, false), none] (fun _ => True) (by kernel_rfl) (by kernel_rfl) (by kernel_rfl) ?_
                go_wp2_with (first | fail | (refine wpG_calc rfl (fun K hK => ?_)) | (refine wpG_skip ?_ ?_; (focus (simp [wantG]; done)); go_simp) | (refine wpG_take ?_ ?_; (focus (simp [wantG]; done))) | (refine wpG_pure (fun K hK => ?_); go_simp; refine hK _ _ ?_; clear hK K) | (refine wpG_deed (by decide) (fun K hK => ?_); go_simp) | (refine wpG_nil ?_))
                go_roundw
                case rel => exact ⟨q + 1, by omega, by go_num, hide HC8.out.drew⟩
                case measure => simp [intOf]; omega
              · obtain rfl : q = 96 := by omega
                have HT9 := hide (HTA6.out.stay hcq.out)
                have HW9 := hide (HWB6.out.stay hcq.out)
                have HC9 := hide (HC6.out.stay hcq.out)
                have h96 := HL6.out
                go_wp2_with fail
                go_roundw
                case rel => exact ⟨i + 1, L6, by omega, by go_num, h96, HT9, HW9, HC9⟩
                case measure => simp [intOf]; omega
          have d2 : decide (p < 96) = true := decide_eq_true (by omega)
          obtain ⟨b, hb⟩ : ∃ b, wok k m = b := ⟨_, rfl⟩
          have hok : okT p k m = b := by unfold okT; rw [decide_eq_true (by omega), Bool.true_and, hb]
          cases b with
          | false =>
            have hwe : wE k m = 2 := by unfold wE; rw [hb]; rfl
            rw [hwe] at HW
            have z1 : (z == 0) = false := by rw [HZ.out, hok]
            have z2 : (z != 0) = true := by rw [bne, z1]; rfl
            have z3 : decide (z = 0) = false := decide_eq_false (by simpa using z1)
            rw [if_neg (by rw [hok]; simp)] at HTA5

            obtain ⟨L6, hL6⟩ : ∃ L6, L6 = L := ⟨_, rfl⟩
            rw [← hL6] at HTA5 HWB5
            have HL6 := hide (show L6.length = 96 from by rw [hL6]; exact hL)
            clear hL6

            refine (HW.out _).mono ?_
            rintro e W6 ⟨rfl, hc6⟩
            have HC6 := hide (HC5.out.stay hc6)
            have HTA6 := hide (HTA5.out.stay hc6)
            have HWB6 := hide (HWB5.out.stay hc6)
            clear hc6 HC5 HTA5 HWB5 kp k0 k1
            obtain ⟨kp, k0, k1⟩ := HCW.out _ HC6.out
            go_wp2_with fail
            go_loopw [114] (fun t wr => ∃ q : Nat, q ≤ 96 ∧ t = .int .i64 q ∧ Hid (Chg [] W6 wr)) (fun t _ => 96 - (intOf t).toNat)
            case atStart => exact ⟨0, by omega, rfl, hide (Chg.refl _ _)⟩
            case round =>
              obtain ⟨q, hq, rfl, hcq⟩ := hrel
              by_cases hqt : q < 96
              · have HG := hide (Get_a (HTA6.out.stay hcq.out) hqt)
                have HWC := hide (fun W (h : Chg [] W6 W) => (HWB6.out.stay h).cells (p := q) (by rw [HL6.out]; exact hqt))
                generalize tof L6 q = y at HG HWC
                obtain ⟨k9, m9⟩ := y
                simp only at HG HWC
                have j0 : (0 : Int) ≤ (q : Int) := by omega
                have j1 : (q : Int) < 96 := by omega
                go_wp2_with fail
                refine HG.out.mono ?_
                rintro e W7 ⟨rfl, hc7⟩
                have HC8 := hide ((hcq.out.stay hc7).alloc (.cells #[.int .u8 k9, .int .i64 m9] 59))
                have hx8 := Blk.new W7 59 #[.int .u8 k9, .int .i64 m9]
                obtain ⟨x0, x1, xl⟩ := ER.cells hx8
                clear hx8 hc7
                obtain ⟨y0, y1, yl⟩ := HWC.out _ HC8.out
                go_wp2_with fail
                refine wp_region_t [0, 0, 0, 1, 0, 0, 1, 0, 0] [none, none, none, some (125, false), some (125, false), some (125, false), some (125, false), some (125, false), none] (fun _ => True) (by kernel_rfl) (by kernel_rfl) (by kernel_rfl) ?_
                go_wp2_with (first | fail | (refine wpG_calc rfl (fun K hK => ?_)) | (refine wpG_skip ?_ ?_; (focus (simp [wantG]; done)); go_simp) | (refine wpG_take ?_ ?_; (focus (simp [wantG]; done))) | (refine wpG_pure (fun K hK => ?_); go_simp; refine hK _ _ ?_; clear hK K) | (refine wpG_deed (by decide) (fun K hK => ?_); go_simp) | (refine wpG_nil ?_))
                go_roundw
                case rel => exact ⟨q + 1, by omega, by go_num, hide HC8.out.drew⟩
                case measure => simp [intOf]; omega
              · obtain rfl : q = 96 := by omega
                have HT9 := hide (HTA6.out.stay hcq.out)
                have HW9 := hide (HWB6.out.stay hcq.out)
                have HC9 := hide (HC6.out.stay hcq.out)
                have h96 := HL6.out
                go_wp2_with fail
                go_roundw
                case rel => exact ⟨i + 1, L6, by omega, by go_num, h96, HT9, HW9, HC9⟩
                case measure => simp [intOf]; omega
          | true =>
            have hwe : wE k m = 0 := by unfold wE; rw [hb]; rfl
            rw [hwe] at HW
            obtain rfl : z = 0 := by have := HZ.out; rw [hok] at this; simpa using this
            rw [if_pos hok] at HTA5
            obtain ⟨p, rfl⟩ : ∃ q : Nat, p = q := ⟨p.toNat, by omega⟩
            rw [Int.toNat_natCast] at HTA5
            have hpL : p < L.length := by omega
            rw [← tof_set L hpL] at HTA5

            refine (HW.out _).mono ?_
            rintro e W6 ⟨rfl, hc6⟩
            have HC6 := hide (HC5.out.stay hc6)
            have HTA6 := hide (HTA5.out.stay hc6)
            have HWB6 := hide (HWB5.out.stay hc6)
            clear hc6 HC5 HTA5 HWB5 kp k0 k1
            obtain ⟨kp, k0, k1⟩ := HCW.out _ HC6.out

            have p2 : (0 : Int) ≤ (p : Int) := by omega
            have p3 : (p : Int) < 96 := by omega
            have hwl := Blk.lt HWB6.out
            obtain ⟨W7, h7, hw7, hc7⟩ := WB.set (w := W6.drew) (show WB W6.drew bw L from HWB6.out) hpL k m
            have H7 := hide h7
            have HC7 := hide (show Chg [bw] W6 W7 from ((Chg.refl [bw] W6).drew).trans hc7 (fun x hx => .inl hx))
            obtain ⟨L6, hL6⟩ : ∃ L6, L6 = L.set p (k, m) := ⟨_, rfl⟩
            rw [← hL6] at hw7 HTA6
            have HL6 := hide (show L6.length = 96 from by rw [hL6, List.length_set]; exact hL)
            have HW7 := hide hw7
            have HT7 := hide (show TA W7 a gb gm (tof L6) from HTA6.out.chg HC7.out (by simpa using (Ne.symm HNE.out.1)) (by simpa using (Ne.symm HNE.out.2.1)) (by simpa using (Ne.symm HNE.out.2.2)))
            have HCC7 := hide (show Chg [] w W7 from HC6.out.trans HC7.out (fun x hx => .inr (by obtain rfl := List.mem_singleton.1 hx; exact HBW.out)))
            clear h7 hw7 hc7 hL6 hpL
            go_wp2_with fail
            refine wp_region_t [0, 0, 0, 1, 0, 0, 0, 1, 0, 3] [none, none, none, none, none, none, none, none, none, none] (fun _ => True) (by kernel_rfl) (by kernel_rfl) (by kernel_rfl) ?_
            go_wp2_with (first | (refine wpG_deed (by decide) (fun K hK => ?_); refine wp_store59 _ _ rfl rfl rfl H7.out ?_; refine hK _ _ ?_; clear hK K) | (refine wpG_calc rfl (fun K hK => ?_)) | (refine wpG_skip ?_ ?_; (focus (simp [wantG]; done)); go_simp) | (refine wpG_take ?_ ?_; (focus (simp [wantG]; done))) | (refine wpG_pure (fun K hK => ?_); go_simp; refine hK _ _ ?_; clear hK K) | (refine wpG_deed (by decide) (fun K hK => ?_); go_simp) | (refine wpG_nil ?_))
            clear HTA6 HWB6 HC6 kp k0 k1 HC7 H7
            rename_i _
            obtain ⟨W6, rfl⟩ : ∃ W6 : World, W6 = W7 := ⟨_, rfl⟩
            have HTA6 := HT7
            have HWB6 := HW7
            have HC6 := HCC7
            go_loopw [114] (fun t wr => ∃ q : Nat, q ≤ 96 ∧ t = .int .i64 q ∧ Hid (Chg [] W6 wr)) (fun t _ => 96 - (intOf t).toNat)
            case atStart => exact ⟨0, by omega, rfl, hide (Chg.refl _ _)⟩
            case round =>
              obtain ⟨q, hq, rfl, hcq⟩ := hrel
              by_cases hqt : q < 96
              · have HG := hide (Get_a (HTA6.out.stay hcq.out) hqt)
                have HWC := hide (fun W (h : Chg [] W6 W) => (HWB6.out.stay h).cells (p := q) (by rw [HL6.out]; exact hqt))
                generalize tof L6 q = y at HG HWC
                obtain ⟨k9, m9⟩ := y
                simp only at HG HWC
                have j0 : (0 : Int) ≤ (q : Int) := by omega
                have j1 : (q : Int) < 96 := by omega
                go_wp2_with fail
                refine HG.out.mono ?_
                rintro e W7 ⟨rfl, hc7⟩
                have HC8 := hide ((hcq.out.stay hc7).alloc (.cells #[.int .u8 k9, .int .i64 m9] 59))
                have hx8 := Blk.new W7 59 #[.int .u8 k9, .int .i64 m9]
                obtain ⟨x0, x1, xl⟩ := ER.cells hx8
                clear hx8 hc7
                obtain ⟨y0, y1, yl⟩ := HWC.out _ HC8.out
                go_wp2_with fail
                refine wp_region_t [0, 0, 0, 1, 0, 0, 1, 0, 0] [none, none, none, some (125, false), some (125, false), some (125, false), some (125, false), some (125, false), none] (fun _ => True) (by kernel_rfl) (by kernel_rfl) (by kernel_rfl) ?_
                go_wp2_with (first | fail | (refine wpG_calc rfl (fun K hK => ?_)) | (refine wpG_skip ?_ ?_; (focus (simp [wantG]; done)); go_simp) | (refine wpG_take ?_ ?_; (focus (simp [wantG]; done))) | (refine wpG_pure (fun K hK => ?_); go_simp; refine hK _ _ ?_; clear hK K) | (refine wpG_deed (by decide) (fun K hK => ?_); go_simp) | (refine wpG_nil ?_))
                go_roundw
                case rel => exact ⟨q + 1, by omega, by go_num, hide HC8.out.drew⟩
                case measure => simp [intOf]; omega
              · obtain rfl : q = 96 := by omega
                have HT9 := hide (HTA6.out.stay hcq.out)
                have HW9 := hide (HWB6.out.stay hcq.out)
                have HC9 := hide (HC6.out.stay hcq.out)
                have h96 := HL6.out
                go_wp2_with fail
                go_roundw
                case rel => exact ⟨i + 1, L6, by omega, by go_num, h96, HT9, HW9, HC9⟩
                case measure => simp [intOf]; omega
        · obtain rfl : i = P.length := by omega
          go_wp2_with fail
          refine (HK.out _).mono ?_
          rintro e W9 ⟨rfl, hc9⟩
          have HC9 := hide (hch.out.stay hc9)
          clear hc9
          go_wp2_with fail
          go_ret
          exact ⟨rfl, HC9.out⟩
end Go.Proofs.Ytblkfikcfgocgaa
