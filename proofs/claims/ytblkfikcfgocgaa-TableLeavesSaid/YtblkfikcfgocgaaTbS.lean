/- TableLeaves: the walk. -/
import Derived.Test.YtblkfikcfgocgaaTbR
import Derived.Test.YtblkfikcfgocgaaTbL
namespace Go.Proofs.Ytblkfikcfgocgaa
open Go Go.RowKit Go.Shelf
attribute [local go_sem] Oper.semAt_some

theorem VR_zero : VR (wtL (List.replicate 32 0)) = V0 := by
  funext f i
  have h : wtL (List.replicate 32 0) i = 0 := by
    unfold wtL
    rw [List.getD_eq_getElem?_getD, List.getElem?_replicate]
    split <;> rfl
  unfold VR V0
  rw [h]
  split <;> rfl
theorem wt_set3 {L : List Nat} {q x : Nat} (h : ∀ i, i < 32 → wtL L i ≤ 3) (hq : q < L.length) (hx : x ≤ 3) : ∀ i, i < 32 → wtL (L.set q x) i ≤ 3 := by
  intro i hi
  rw [wtL_set L hq]
  split
  · exact hx
  · exact h i hi
set_option maxRecDepth 20000 in
set_option maxHeartbeats 8000000 in
theorem leaves_law {v0 v1 : Value} {P E : List Int} (w : World) (h0 : RE icl 1 w v0 P) (h1 : RE icl 1 w v1 E) (hl0 : (P.length : Int) ≤ 9223372036854775807) (hl1 : (E.length : Int) ≤ 9223372036854775807) :
    Calls Try.prog 9 #[v0, v1] w fun e w' => e = .returned (.bool true) ∧ Chg [] w w' := by
  have HV0 := hide h0
  have HV1 := hide h1
  obtain ⟨A0, c0, rfl⟩ := RE.form h0
  obtain ⟨A1, c1, rfl⟩ := RE.form h1
  have HK := hide known14_any
  have HL := hide least14_any
  have HN := hide New14
  have HSL := hide (fun W a gb gm V p l (h : TM W a gb gm leastC 4 V (List.replicate 4 fMk)) => SetLeaf_t h 0 p l)
  obtain ⟨D0, hD⟩ : ∃ D, D = leastC := ⟨_, rfl⟩
  obtain ⟨M0, hM0⟩ : ∃ M0, M0 = List.replicate 4 fMk := ⟨_, rfl⟩
  rw [← hD] at HL HN HSL
  rw [← hM0] at HN HSL
  have HB0 := hide (show Blk (w.alloc (.cells #[.bool false] 4)) w.heap.size 4 #[.bool false] from Blk.new w 4 _)
  have HC0 := hide (show Chg [] w (w.alloc (.cells #[.bool false] 4)) from (Chg.refl [] w).alloc _)
  have hs0 : (w.alloc (.cells #[.bool false] 4)).heap.size = w.heap.size + 1 := World.size_alloc ..
  clear h0 h1 hD hM0
  refine calls_marks Try.func9 rfl ?_
  simp only [Try.ntmps9, List.size_toArray, List.length_cons, List.length_nil, Nat.reduceAdd, Nat.reduceSub, Array.replicate_succ, Array.replicate_zero, List.push_toArray, List.append_toArray, List.nil_append, List.cons_append]
  by_cases hbad : 60 < P.length ∨ E.length < P.length
  · have hb : (decide (60 < (P.length : Int)) = true ∧ decide (60 < P.length) = true) ∨ (decide (60 < (P.length : Int)) = false ∧ decide ((E.length : Int) < (P.length : Int)) = true ∧ decide (60 < P.length) = false ∧ decide (E.length < P.length) = true) := by
      by_cases h : 60 < P.length
      · exact .inl ⟨decide_eq_true (by omega), decide_eq_true h⟩
      · exact .inr ⟨decide_eq_false (by omega), decide_eq_true (by omega), decide_eq_false h, decide_eq_true (by omega)⟩
    clear hbad
    rcases hb with ⟨d1, e1⟩ | ⟨d1, d2, e1, e2⟩
    all_goals
      go_wp2_with fail
      refine (HL.out _).mono ?_
      rintro e W1 ⟨rfl, hc1⟩
      go_wp2_with fail
      refine (HN.out _).mono ?_
      rintro e W2 ⟨⟨a, gb, gm, rfl, hf, hb⟩, hc2⟩
      have HC2 := hide (HC0.out.stay (hc1.stay hc2))
      have HB2 := hide (HB0.out.chg (hc1.stay hc2) List.not_mem_nil)
      clear hf hb hc1 hc2 HB0
      go_wp2_with fail
      refine (HK.out _).mono ?_
      rintro e W3 ⟨rfl, hc3⟩
      have HC3 := hide (HC2.out.stay hc3)
      obtain ⟨z1, z2, z3⟩ := blk_res (HB2.out.chg hc3 List.not_mem_nil)
      clear hc3 HB2
      go_wp2_with fail
      exact post_marks (Ds := []) ⟨List.nodup_nil, by simp⟩ fun W' hc => ⟨res_box rfl rfl (z3.chg hc List.not_mem_nil), rfl, (HC3.out.setCell (.inr (Nat.le_refl _)) _).stay hc⟩
  have d1 : decide (60 < (P.length : Int)) = false := decide_eq_false (by omega)
  have d2 : decide ((E.length : Int) < (P.length : Int)) = false := decide_eq_false (by omega)
  have e1 : decide (60 < P.length) = false := decide_eq_false (by omega)
  have e2 : decide (E.length < P.length) = false := decide_eq_false (by omega)
  have hP : P.length ≤ 60 := by omega
  have hPE : P.length ≤ E.length := by omega
  clear hbad
  go_wp2_with fail
  refine (HL.out _).mono ?_
  rintro e W1 ⟨rfl, hc1⟩
  go_wp2_with fail
  refine (HN.out _).mono ?_
  rintro e W2 ⟨⟨a, gb, gm, rfl, hf, hb⟩, hc2⟩
  have HF := hide hf
  have HBB := hide (show w.heap.size < gb from by have := hc1.size; omega)
  have HC2 := hide (HC0.out.stay (hc1.stay hc2))
  have HB2 := hide (HB0.out.chg (hc1.stay hc2) List.not_mem_nil)
  clear hf hb hc1 hc2 HB0 HC0 hs0 HL HN
  go_wp2_with (first | (refine wpList_alloc72 rfl rfl ?_; intro W4 h4 hc4))
  have HW4 := hide h4
  have HC4 := hide (HC2.out.stay hc4)
  have HB4 := hide (HB2.out.chg hc4 List.not_mem_nil)
  have HT4 := hide (show TM W4 a gb gm D0 4 (VR (wtL (List.replicate 32 0))) M0 from by rw [VR_zero]; exact HF.out.stay hc4)
  have hlts := HF.out.lts
  have hwl : W2.heap.size < W4.heap.size := Blk.lt h4
  have hbl := HB2.out.lt
  obtain ⟨bw, hbw⟩ : ∃ bw, bw = W2.heap.size := ⟨_, rfl⟩
  obtain ⟨lo, hlo⟩ : ∃ lo, lo = W4.heap.size := ⟨_, rfl⟩
  rw [← hbw] at HW4 hwl ⊢
  have HX := hide (show a < lo ∧ gb < lo ∧ gm < lo ∧ bw < lo ∧ w.heap.size < lo ∧ bw ≠ a ∧ bw ≠ gb ∧ bw ≠ gm ∧ w.heap.size ≠ gb ∧ w.heap.size ≠ bw ∧ w.heap.size ≤ gb ∧ w.heap.size ≤ bw ∧ w.heap.size ≤ lo from by have := HBB.out; omega)
  have HLO := hide (show lo ≤ W4.heap.size from by omega)
  clear h4 hc4 HF HC2 HB2 hlts hwl hbl hbw hlo HBB
  refine wp_loop_marks (ds0 := []) [8, 9, 10, 11, 48, 49, 50, 51, 52, 53, 54, 55, 56, 57, 58, 59, 60, 61, 62, 63, 64, 65, 66, 67, 68, 69, 70, 71, 72, 73, 74, 75, 76, 77, 78, 79, 80, 81, 82, 83, 84, 85, 86, 87, 88, 89, 90, 91, 92, 93, 94, 95, 96, 97, 98, 99, 100, 101, 130, 131, 132, 133, 134, 135, 136, 137, 138] (fun n us ds wr => ∃ (k : Nat) (L : List Nat) (u8 u9 u10 u11 u49 u50 u51 u52 u53 u54 u55 u56 u57 u58 u59 u60 u61 u62 u63 u64 u65 u66 u67 u68 u69 u70 u71 u72 u73 u74 u75 u76 u77 u78 u79 u80 u81 u82 u83 u84 u85 u86 u87 u88 u89 u90 u91 u92 u93 u94 u95 u96 u97 u98 u99 u100 u101 u130 u131 u132 u133 u134 u135 u136 u137 u138 : Value), us = [u8, u9, u10, u11, .int .i64 k, u49, u50, u51, u52, u53, u54, u55, u56, u57, u58, u59, u60, u61, u62, u63, u64, u65, u66, u67, u68, u69, u70, u71, u72, u73, u74, u75, u76, u77, u78, u79, u80, u81, u82, u83, u84, u85, u86, u87, u88, u89, u90, u91, u92, u93, u94, u95, u96, u97, u98, u99, u100, u101, u130, u131, u132, u133, u134, u135, u136, u137, u138] ∧ n = P.length - k ∧ k ≤ P.length ∧ L.length = 32 ∧ Hid (∀ i, i < 32 → wtL L i ≤ 3) ∧ Hid (TM wr a gb gm D0 4 (VR (wtL L)) M0) ∧ Hid (WI wr bw L) ∧ Hid (Blk wr w.heap.size 4 #[.bool false]) ∧ Hid (Chg [] w wr) ∧ Hid (lo ≤ wr.heap.size) ∧ Hid (∀ E ∈ ds, lo ≤ E)) P.length [undef, undef, undef, undef, .int .i64 ((0 : Nat) : Int), undef, undef, undef, undef, undef, undef, undef, undef, undef, undef, undef, undef, undef, undef, undef, undef, undef, undef, undef, undef, undef, undef, undef, undef, undef, undef, undef, undef, undef, undef, undef, undef, undef, undef, undef, undef, undef, undef, undef, undef, undef, undef, undef, undef, undef, undef, undef, undef, undef, undef, undef, undef, undef, undef, undef, undef, undef, undef, undef, undef, undef, undef] ?h0 ?hT ⟨List.nodup_nil, by simp⟩ ?round
  case h0 => exact ⟨0, List.replicate 32 0, _, _, _, _, _, _, _, _, _, _, _, _, _, _, _, _, _, _, _, _, _, _, _, _, _, _, _, _, _, _, _, _, _, _, _, _, _, _, _, _, _, _, _, _, _, _, _, _, _, _, _, _, _, _, _, _, _, _, _, _, _, _, _, _, _, _, rfl, rfl, by omega, by simp, hide (fun i hi => by
    unfold wtL
    rw [List.getD_eq_getElem?_getD, List.getElem?_replicate]
    split <;> simp), HT4, HW4, HB4, HC4, HLO, hide (by simp)⟩
  case hT => simp only [setAll, List.setIfInBounds_toArray, List.set_cons_zero, List.set_cons_succ]; rfl
  case round =>
    rintro T' sl rel' n us ds wr hT' hsl hrel' ⟨k, L, u8, u9, u10, u11, u49, u50, u51, u52, u53, u54, u55, u56, u57, u58, u59, u60, u61, u62, u63, u64, u65, u66, u67, u68, u69, u70, u71, u72, u73, u74, u75, u76, u77, u78, u79, u80, u81, u82, u83, u84, u85, u86, u87, u88, u89, u90, u91, u92, u93, u94, u95, u96, u97, u98, u99, u100, u101, u130, u131, u132, u133, u134, u135, u136, u137, u138, rfl, rfl, hk, hL, h3, ht, hw, hr, hc, hlo, hds⟩ hM
    simp only [setAll, List.setIfInBounds_toArray, List.set_cons_zero, List.set_cons_succ]
    have HM := hide hM
    have HTT := hide (And.intro hT' (And.intro hsl hrel'))
    clear hT' hrel' hsl
    clear hM HT4 HW4 HB4 HC4 HLO
    by_cases hlt : k < P.length
    · have hkE : k < E.length := by omega
      have hv0 := HV0.out.stay hc.out
      have hv1 := HV1.out.stay hc.out
      obtain ⟨g0, o0, rfl⟩ := RE.addr hv0 (by omega)
      obtain ⟨g1, o1, rfl⟩ := RE.addr hv1 (by omega)
      have kp := RE.cell icl_len hv0 hlt (j := 0) (by omega) rfl
      have kz := RE.cell icl_len hv1 hkE (j := 0) (by omega) rfl
      have HCW := hide (fun W (h : Chg [] w W) => And.intro (RE.cell icl_len (HV0.out.stay h) hlt (j := 0) (by omega) rfl) (RE.cell icl_len (HV1.out.stay h) hkE (j := 0) (by omega) rfl))
      generalize P[k] = p at kp HCW
      generalize E[k] = z at kz HCW
      simp only [Nat.mul_one, Nat.add_zero] at kp kz HCW
      have i0 : (0 : Int) ≤ (k : Int) := by omega
      have i1 : (k : Int) < (P.length : Int) := by omega
      have i2 : (k : Int) < (E.length : Int) := by omega
      have hgl0 : g0 < wr.heap.size := World.block_lt_of_cell? _ _ kp
      have hgl1 : g1 < wr.heap.size := World.block_lt_of_cell? _ _ kz
      clear hv0 hv1
      by_cases z1 : z < -1
      · have dz1 : decide (z < -1) = true := decide_eq_true z1
        go_wp2_with fail

        obtain ⟨hT', hsl, hrel'⟩ := HTT.out
        refine RoundEnd.of (P.length - (k + 1)) (ds) (by omega) ⟨HM.out.1, HM.out.2⟩ ?_
        rw [hT', hsl, hrel']
        iterate 67 (refine exU ?_; apply Exists.intro)
        refine exNil ⟨?_, ?_⟩
        · simp only [setAll, List.setIfInBounds_toArray, List.set_cons_zero, List.set_cons_succ]
          rfl
        · exact ⟨k + 1, L, _, _, _, _, _, _, _, _, _, _, _, _, _, _, _, _, _, _, _, _, _, _, _, _, _, _, _, _, _, _, _, _, _, _, _, _, _, _, _, _, _, _, _, _, _, _, _, _, _, _, _, _, _, _, _, _, _, _, _, _, _, _, _, _, _, _, rfl, rfl, by omega, hL, h3, ht, hw, hr, hc, hlo, hds⟩

      have dz1 : decide (z < -1) = false := decide_eq_false z1
      by_cases z2 : z = 0
      · subst z2
        go_wp2_with fail

        obtain ⟨hT', hsl, hrel'⟩ := HTT.out
        refine RoundEnd.of (P.length - (k + 1)) (ds) (by omega) ⟨HM.out.1, HM.out.2⟩ ?_
        rw [hT', hsl, hrel']
        iterate 67 (refine exU ?_; apply Exists.intro)
        refine exNil ⟨?_, ?_⟩
        · simp only [setAll, List.setIfInBounds_toArray, List.set_cons_zero, List.set_cons_succ]
          rfl
        · exact ⟨k + 1, L, _, _, _, _, _, _, _, _, _, _, _, _, _, _, _, _, _, _, _, _, _, _, _, _, _, _, _, _, _, _, _, _, _, _, _, _, _, _, _, _, _, _, _, _, _, _, _, _, _, _, _, _, _, _, _, _, _, _, _, _, _, _, _, _, _, _, rfl, rfl, by omega, hL, h3, ht, hw, hr, hc, hlo, hds⟩

      have dz2 : (z == 0) = false := beq_false_of_ne z2
      have dz3 : decide (z = 0) = false := decide_eq_false z2
      by_cases z3 : 3 < z
      · have dz4 : decide (3 < z) = true := decide_eq_true z3
        go_wp2_with fail

        obtain ⟨hT', hsl, hrel'⟩ := HTT.out
        refine RoundEnd.of (P.length - (k + 1)) (ds) (by omega) ⟨HM.out.1, HM.out.2⟩ ?_
        rw [hT', hsl, hrel']
        iterate 67 (refine exU ?_; apply Exists.intro)
        refine exNil ⟨?_, ?_⟩
        · simp only [setAll, List.setIfInBounds_toArray, List.set_cons_zero, List.set_cons_succ]
          rfl
        · exact ⟨k + 1, L, _, _, _, _, _, _, _, _, _, _, _, _, _, _, _, _, _, _, _, _, _, _, _, _, _, _, _, _, _, _, _, _, _, _, _, _, _, _, _, _, _, _, _, _, _, _, _, _, _, _, _, _, _, _, _, _, _, _, _, _, _, _, _, _, _, _, rfl, rfl, by omega, hL, h3, ht, hw, hr, hc, hlo, hds⟩

      have dz4 : decide (3 < z) = false := decide_eq_false z3

      by_cases p0 : p < 0
      · have dp1 : decide (0 ≤ p) = false := decide_eq_false (by omega)
        have HS := HSL.out _ _ _ _ _ p z ht.out
        rw [(slE_bad (n := 4) (p := p) (l := z) (by omega) (VR (wtL L))).1, (slE_bad (n := 4) (p := p) (l := z) (by omega) (VR (wtL L))).2] at HS
        have HS := hide HS
        go_wp2_with fail
        refine HS.out.mono ?_
        rintro e W1 ⟨rfl, ht1, hc1⟩
        have HT1 := hide ht1

        have HC1 := hide (hc.out.trans hc1 (fun x hx => .inr (by obtain rfl := List.mem_singleton.1 hx; exact HX.out.2.2.2.2.2.2.2.2.2.2.1)))
        have HW1 := hide (WI.chg hw.out hc1 (by simpa using HX.out.2.2.2.2.2.2.1))
        have HR1 := hide (hr.out.chg hc1 (by simpa using HX.out.2.2.2.2.2.2.2.2.1))
        have HLO1 := hide (show lo ≤ W1.heap.size from Nat.le_trans hlo.out hc1.size)
        have HM1 := hide (show Marks ds W1 from ⟨HM.out.1, fun D hD => (hc1.block D (Array.getElem?_eq_some_iff.1 (HM.out.2 D hD)).1 (by have := hds.out D hD; have := HX.out.2.1; simp; omega)).trans (HM.out.2 D hD)⟩)
        obtain ⟨kp1, kz1⟩ := HCW.out _ HC1.out

        obtain ⟨L1, hL1e⟩ : ∃ L1, L1 = L := ⟨_, rfl⟩
        rw [← hL1e] at HT1 HW1
        have hL1 : L1.length = 32 := by rw [hL1e]; exact hL
        have H31 := hide (show ∀ i, i < 32 → wtL L1 i ≤ 3 from by rw [hL1e]; exact h3.out)
        clear kp kz ht hw hr hc hlo HM ht1 hc1 HS HSL hL1e hL h3
        go_wp2_with fail

        obtain ⟨W5, hW5⟩ : ∃ W5, W5 = W1.alloc (.cells #[.int .i64 0] 3) := ⟨_, rfl⟩
        have hc5 : Chg [] W1 W5 := by rw [hW5]; exact (Chg.refl _ _).alloc _
        have hb5 : Blk W5 W1.heap.size 3 #[.int .i64 ((nx (wtL L1) 0 : Nat) : Int)] := by rw [hW5]; exact Blk.new W1 3 _
        rw [← hW5]
        have HC5 := hide (HC1.out.stay hc5)
        have HT5 := hide (HT1.out.stay hc5)
        have HW5 := hide (HW1.out.stay hc5)
        have HR5 := hide (HR1.out.chg hc5 List.not_mem_nil)
        have HM5 := hide (show Marks ds W5 from ⟨HM1.out.1, fun D hD => (hc5.block D (Array.getElem?_eq_some_iff.1 (HM1.out.2 D hD)).1 List.not_mem_nil).trans (HM1.out.2 D hD)⟩)
        have HB5 := hide hb5
        have HBN := hide (show lo ≤ W1.heap.size from HLO1.out)
        have HDN := hide (show ∀ D ∈ ds, D < W1.heap.size from fun D hD => (Array.getElem?_eq_some_iff.1 (HM1.out.2 D hD)).1)
        obtain ⟨bn, hbn⟩ : ∃ bn, bn = W1.heap.size := ⟨_, rfl⟩
        rw [← hbn] at HB5 HBN HDN ⊢
        clear hW5 hc5 hb5 HC1 HT1 HW1 HR1 HM1 HLO1 hbn kp1 kz1
        have fnil := fn_nil
        refine (leaves_any W5 a 0).mono ?_
        rintro e W6 ⟨rfl, -, -, hc6⟩
        have HC6 := hide hc6
        clear hc6
        go_wp2_with fail
        refine (leaves_any W6 a 0).mono ?_
        rintro e W7 ⟨rfl, hb1, hb2, hc7⟩
        have hc57 := HC6.out.stay hc7
        have HC7 := hide (HC5.out.stay hc57)
        have HT7 := hide (HT5.out.stay hc57)
        have HW7 := hide (HW5.out.stay hc57)
        have HR7 := hide (HR5.out.chg hc57 List.not_mem_nil)
        have HM7 := hide (show Marks ds W7 from ⟨HM5.out.1, fun D hD => (hc57.block D (Array.getElem?_eq_some_iff.1 (HM5.out.2 D hD)).1 List.not_mem_nil).trans (HM5.out.2 D hD)⟩)
        have HB7 := hide (HB5.out.chg hc57 List.not_mem_nil)
        have hbl := HB5.out.lt
        have hs6 := HC6.out.size
        have HB1 := hide hb1
        have HB2 := hide hb2
        have HNE := hide (show a ≠ bn ∧ gb ≠ bn ∧ gm ≠ bn ∧ W6.heap.size + 1 ≠ bn ∧ bw ≠ bn ∧ w.heap.size ≠ bn from by have := HX.out; have := HBN.out; omega)
        have HS7 := hide (show bn < W7.heap.size from HB7.out.lt)
        clear hb1 hb2 hc7 hc57 HC6 HC5 HT5 HW5 HR5 HM5 HB5 hbl hs6 fnil
        go_wp2_with fail
        refine wp_told (b1 := W6.heap.size) (b2 := W6.heap.size + 1) (pa := a) (gb := gb) (gm := gm) (bw := bw) (bn := bn) (L := L1) (M := M0) (c := D0) (q0 := 12) (q1 := 13) H31.out rfl HT7.out HB1.out HB2.out HW7.out HB7.out ⟨HNE.out.1, HNE.out.2.1, HNE.out.2.2.1, HNE.out.2.2.2.1⟩ ?assign ?body ?done
        case assign =>
          intro j i x W K hK
          gi_wp2
          exact hK
        case body =>
          rintro j i W Q' hQ' hi hz hwb hnb hKb
          have HQ := hide hQ'
          have HKB := hide hKb
          have HWB := hide hwb
          have HLE := hide (nx_le (wtL L1) i)
          have HZ := hide (fun q (h1 : nx (wtL L1) i ≤ q) (h2 : q < i) => nx_zero (wtL L1) i q h1 h2)
          have HNB := hide hnb
          obtain ⟨x, hx⟩ : ∃ x, wtL L1 i = x := ⟨_, rfl⟩
          rw [hx] at hz ⊢
          have HXX := hide hx
          have b1 : ((x : Int) == 0) = false := beq_false_of_ne (by omega)
          have b2 : decide ((x : Int) = 0) = false := decide_eq_false (by omega)
          have i4 : (i : Int) < 32 := by omega
          have i5 : decide (31 < (i : Int)) = false := decide_eq_false (by omega)
          have HL1q := hide hL1
          clear hQ' hKb hwb hnb hx HT7 HB1 HB2 HW7 HB7 HC7 HR7 HM7 HTT HCW
          gi_wp2
          gi_loopw [] (fun wr' => ∃ q : Nat, nx (wtL L1) i ≤ q ∧ q ≤ i ∧ Hid (Chg [bn] W wr') ∧ Hid (Blk wr' bn 3 #[.int .i64 (q : Int)])) (fun wr' => i - (intOf ((wr'.cell? ⟨bn, 0, none⟩).getD undef)).toNat)
          case atStart => exact ⟨nx (wtL L1) i, Nat.le_refl _, HLE.out, hide (Chg.refl _ _), HNB⟩
          case round =>
            obtain ⟨q, hq1, hq2, hcq, hbq⟩ := hrel
            have n7 := hbq.out.cell 0
            have f7 := hbq.out.frozen 0
            have s7 := hbq.out.lt
            simp at n7
            have wc := (WI.chg HWB.out hcq.out (by simpa using HNE.out.2.2.2.2.1)).cells (p := q) (by rw [HL1q.out]; omega)
            have wl := Blk.lt (WI.chg HWB.out hcq.out (by simpa using HNE.out.2.2.2.2.1))
            have j0 : (0 : Int) ≤ (q : Int) := by omega
            have j1 : (q : Int) < 32 := by omega
            by_cases hqi : q < i
            · rw [HZ.out q hq1 hqi] at wc
              gi_wp2
              have k7' := hbq.out.set_ 0 (.int .i64 ((q : Int) + 1))
              have mm := k7'.cell 0
              simp at mm
              go_roundw
              case rel => exact ⟨q + 1, by omega, by omega, hide (hcq.out.setCell (.inl (by simp)) _), hide (by simpa using k7')⟩
              case measure => simp [n7, mm, intOf]; omega
            · obtain rfl : q = i := by omega
              rw [HXX.out] at wc
              gi_wp2
              have k7' := hbq.out.set_ 0 (.int .i64 ((q : Int) + 1))
              exact HKB.out _ _ (hcq.out.setCell (.inl (by simp)) _) (by simpa using k7')
        case done =>
          rintro D W hDw hdf hb6 hc
          have HB8 := hide hb6
          have HC8 := hide (HC7.out.trans hc (fun x hx => .inr (by obtain rfl := List.mem_singleton.1 hx; exact Nat.le_trans HX.out.2.2.2.2.2.2.2.2.2.2.2.2 HBN.out)))
          have HT8 := hide (HT7.out.chg hc (by simpa using HNE.out.1) (by simpa using HNE.out.2.1) (by simpa using HNE.out.2.2.1))
          have HW8 := hide (WI.chg HW7.out hc (by simpa using HNE.out.2.2.2.2.1))
          have HR8 := hide (HR7.out.chg hc (by simpa using HNE.out.2.2.2.2.2))
          have HM8 := hide (show Marks (D :: ds) W from ⟨List.nodup_cons.2 ⟨fun h => by have := HDN.out D h; have := HS7.out; omega, HM7.out.1⟩, fun E hE => by
            rcases List.mem_cons.1 hE with rfl | hE
            · exact hdf
            · exact (hc.block E (Array.getElem?_eq_some_iff.1 (HM7.out.2 E hE)).1 (by have := HDN.out E hE; simp; omega)).trans (HM7.out.2 E hE)⟩)
          have HD8 := hide (show ∀ E ∈ D :: ds, lo ≤ E ∧ E ≠ bn from fun E hE => by
            rcases List.mem_cons.1 hE with rfl | hE
            · have := HBN.out; have := HS7.out; omega
            · have := HDN.out E hE; have := hds.out E hE; omega)
          have HLO8 := hide (show lo ≤ W.heap.size from by have := HBN.out; have := HS7.out; have := hc.size; omega)
          have HZ := hide (fun q (h1 : nx (wtL L1) 32 ≤ q) (h2 : q < 32) => nx_zero (wtL L1) 32 q h1 h2)
          have HLE := hide (nx_le (wtL L1) 32)
          have HL1q := hide hL1
          clear hb6 hc hdf HT7 HB1 HB2 HW7 HB7 HC7 HR7 HM7 HDN hds HCW
          go_wp2_with fail
          go_loopw [] (fun wr' => ∃ q : Nat, nx (wtL L1) 32 ≤ q ∧ q ≤ 32 ∧ Hid (Chg [bn] W wr') ∧ Hid (Blk wr' bn 3 #[.int .i64 (q : Int)])) (fun wr' => 32 - (intOf ((wr'.cell? ⟨bn, 0, none⟩).getD undef)).toNat)
          case atStart => exact ⟨nx (wtL L1) 32, Nat.le_refl _, HLE.out, hide (Chg.refl _ _), HB8⟩
          case round =>
            obtain ⟨q, hq1, hq2, hcq, hbq⟩ := hrel
            obtain ⟨W9, rfl⟩ : ∃ W9 : World, W9 = wr := ⟨_, rfl⟩
            have n7 := hbq.out.cell 0
            have f7 := hbq.out.frozen 0
            have s7 := hbq.out.lt
            simp at n7
            have hwq := WI.chg HW8.out hcq.out (by simpa using HNE.out.2.2.2.2.1)
            have wl := Blk.lt hwq
            by_cases hqi : q < 32
            · have wc := hwq.cells (p := q) (by rw [HL1q.out]; omega)
              rw [HZ.out q hq1 hqi] at wc
              have j0 : (0 : Int) ≤ (q : Int) := by omega
              have j1 : (q : Int) < 32 := by omega
              clear hwq
              go_wp2_with fail
              have k7' := hbq.out.set_ 0 (.int .i64 ((q : Int) + 1))
              have mm := k7'.cell 0
              simp at mm
              go_roundw
              case rel => exact ⟨q + 1, by omega, by omega, hide (hcq.out.setCell (.inl (by simp)) _), hide (by simpa using k7')⟩
              case measure => simp [n7, mm, intOf]; omega
            · obtain rfl : q = 32 := by omega
              have HT9 := hide (HT8.out.chg hcq.out (by simpa using HNE.out.1) (by simpa using HNE.out.2.1) (by simpa using HNE.out.2.2.1))
              have HW9 := hide hwq
              have HR9 := hide (HR8.out.chg hcq.out (by simpa using HNE.out.2.2.2.2.2))
              have HC9 := hide (HC8.out.trans hcq.out (fun x hx => .inr (by obtain rfl := List.mem_singleton.1 hx; exact Nat.le_trans HX.out.2.2.2.2.2.2.2.2.2.2.2.2 HBN.out)))
              have HLO9 := hide (show lo ≤ W9.heap.size from Nat.le_trans HLO8.out hcq.out.size)
              have HM9 := hide (show Marks (D :: ds) W9 from ⟨HM8.out.1, fun E hE => (hcq.out.block E (Array.getElem?_eq_some_iff.1 (HM8.out.2 E hE)).1 (by have := (HD8.out E hE).2; simpa using this)).trans (HM8.out.2 E hE)⟩)
              clear hwq hcq hbq HT8 HW8 HR8 HC8 HLO8 HM8 HB8
              go_wp2_with fail
              obtain ⟨hT', hsl, hrel'⟩ := HTT.out
              refine RoundEnd.of (P.length - (k + 1)) (D :: ds) (by omega) ⟨HM9.out.1, HM9.out.2⟩ ?_
              rw [hT', hsl, hrel']
              iterate 67 (refine exU ?_; apply Exists.intro)
              refine exNil ⟨?_, ?_⟩
              · simp only [setAll, List.setIfInBounds_toArray, List.set_cons_zero, List.set_cons_succ]
                rfl
              · exact ⟨k + 1, L1, _, _, _, _, _, _, _, _, _, _, _, _, _, _, _, _, _, _, _, _, _, _, _, _, _, _, _, _, _, _, _, _, _, _, _, _, _, _, _, _, _, _, _, _, _, _, _, _, _, _, _, _, _, _, _, _, _, _, _, _, _, _, _, _, _, _, rfl, rfl, by omega, HL1q.out, H31, HT9, HW9, HR9, HC9, HLO9, hide (fun E hE => (HD8.out E hE).1)⟩

      have dp1 : decide (0 ≤ p) = true := decide_eq_true (by omega)
      by_cases p1 : 1024 ≤ p
      · have dp2 : decide (p < 1024) = false := decide_eq_false (by omega)
        have HS := HSL.out _ _ _ _ _ p z ht.out
        rw [(slE_bad (n := 4) (p := p) (l := z) (by omega) (VR (wtL L))).1, (slE_bad (n := 4) (p := p) (l := z) (by omega) (VR (wtL L))).2] at HS
        have HS := hide HS
        go_wp2_with fail
        refine HS.out.mono ?_
        rintro e W1 ⟨rfl, ht1, hc1⟩
        have HT1 := hide ht1

        have HC1 := hide (hc.out.trans hc1 (fun x hx => .inr (by obtain rfl := List.mem_singleton.1 hx; exact HX.out.2.2.2.2.2.2.2.2.2.2.1)))
        have HW1 := hide (WI.chg hw.out hc1 (by simpa using HX.out.2.2.2.2.2.2.1))
        have HR1 := hide (hr.out.chg hc1 (by simpa using HX.out.2.2.2.2.2.2.2.2.1))
        have HLO1 := hide (show lo ≤ W1.heap.size from Nat.le_trans hlo.out hc1.size)
        have HM1 := hide (show Marks ds W1 from ⟨HM.out.1, fun D hD => (hc1.block D (Array.getElem?_eq_some_iff.1 (HM.out.2 D hD)).1 (by have := hds.out D hD; have := HX.out.2.1; simp; omega)).trans (HM.out.2 D hD)⟩)
        obtain ⟨kp1, kz1⟩ := HCW.out _ HC1.out

        obtain ⟨L1, hL1e⟩ : ∃ L1, L1 = L := ⟨_, rfl⟩
        rw [← hL1e] at HT1 HW1
        have hL1 : L1.length = 32 := by rw [hL1e]; exact hL
        have H31 := hide (show ∀ i, i < 32 → wtL L1 i ≤ 3 from by rw [hL1e]; exact h3.out)
        clear kp kz ht hw hr hc hlo HM ht1 hc1 HS HSL hL1e hL h3
        go_wp2_with fail

        obtain ⟨W5, hW5⟩ : ∃ W5, W5 = W1.alloc (.cells #[.int .i64 0] 3) := ⟨_, rfl⟩
        have hc5 : Chg [] W1 W5 := by rw [hW5]; exact (Chg.refl _ _).alloc _
        have hb5 : Blk W5 W1.heap.size 3 #[.int .i64 ((nx (wtL L1) 0 : Nat) : Int)] := by rw [hW5]; exact Blk.new W1 3 _
        rw [← hW5]
        have HC5 := hide (HC1.out.stay hc5)
        have HT5 := hide (HT1.out.stay hc5)
        have HW5 := hide (HW1.out.stay hc5)
        have HR5 := hide (HR1.out.chg hc5 List.not_mem_nil)
        have HM5 := hide (show Marks ds W5 from ⟨HM1.out.1, fun D hD => (hc5.block D (Array.getElem?_eq_some_iff.1 (HM1.out.2 D hD)).1 List.not_mem_nil).trans (HM1.out.2 D hD)⟩)
        have HB5 := hide hb5
        have HBN := hide (show lo ≤ W1.heap.size from HLO1.out)
        have HDN := hide (show ∀ D ∈ ds, D < W1.heap.size from fun D hD => (Array.getElem?_eq_some_iff.1 (HM1.out.2 D hD)).1)
        obtain ⟨bn, hbn⟩ : ∃ bn, bn = W1.heap.size := ⟨_, rfl⟩
        rw [← hbn] at HB5 HBN HDN ⊢
        clear hW5 hc5 hb5 HC1 HT1 HW1 HR1 HM1 HLO1 hbn kp1 kz1
        have fnil := fn_nil
        refine (leaves_any W5 a 0).mono ?_
        rintro e W6 ⟨rfl, -, -, hc6⟩
        have HC6 := hide hc6
        clear hc6
        go_wp2_with fail
        refine (leaves_any W6 a 0).mono ?_
        rintro e W7 ⟨rfl, hb1, hb2, hc7⟩
        have hc57 := HC6.out.stay hc7
        have HC7 := hide (HC5.out.stay hc57)
        have HT7 := hide (HT5.out.stay hc57)
        have HW7 := hide (HW5.out.stay hc57)
        have HR7 := hide (HR5.out.chg hc57 List.not_mem_nil)
        have HM7 := hide (show Marks ds W7 from ⟨HM5.out.1, fun D hD => (hc57.block D (Array.getElem?_eq_some_iff.1 (HM5.out.2 D hD)).1 List.not_mem_nil).trans (HM5.out.2 D hD)⟩)
        have HB7 := hide (HB5.out.chg hc57 List.not_mem_nil)
        have hbl := HB5.out.lt
        have hs6 := HC6.out.size
        have HB1 := hide hb1
        have HB2 := hide hb2
        have HNE := hide (show a ≠ bn ∧ gb ≠ bn ∧ gm ≠ bn ∧ W6.heap.size + 1 ≠ bn ∧ bw ≠ bn ∧ w.heap.size ≠ bn from by have := HX.out; have := HBN.out; omega)
        have HS7 := hide (show bn < W7.heap.size from HB7.out.lt)
        clear hb1 hb2 hc7 hc57 HC6 HC5 HT5 HW5 HR5 HM5 HB5 hbl hs6 fnil
        go_wp2_with fail
        refine wp_told (b1 := W6.heap.size) (b2 := W6.heap.size + 1) (pa := a) (gb := gb) (gm := gm) (bw := bw) (bn := bn) (L := L1) (M := M0) (c := D0) (q0 := 12) (q1 := 13) H31.out rfl HT7.out HB1.out HB2.out HW7.out HB7.out ⟨HNE.out.1, HNE.out.2.1, HNE.out.2.2.1, HNE.out.2.2.2.1⟩ ?assign ?body ?done
        case assign =>
          intro j i x W K hK
          gi_wp2
          exact hK
        case body =>
          rintro j i W Q' hQ' hi hz hwb hnb hKb
          have HQ := hide hQ'
          have HKB := hide hKb
          have HWB := hide hwb
          have HLE := hide (nx_le (wtL L1) i)
          have HZ := hide (fun q (h1 : nx (wtL L1) i ≤ q) (h2 : q < i) => nx_zero (wtL L1) i q h1 h2)
          have HNB := hide hnb
          obtain ⟨x, hx⟩ : ∃ x, wtL L1 i = x := ⟨_, rfl⟩
          rw [hx] at hz ⊢
          have HXX := hide hx
          have b1 : ((x : Int) == 0) = false := beq_false_of_ne (by omega)
          have b2 : decide ((x : Int) = 0) = false := decide_eq_false (by omega)
          have i4 : (i : Int) < 32 := by omega
          have i5 : decide (31 < (i : Int)) = false := decide_eq_false (by omega)
          have HL1q := hide hL1
          clear hQ' hKb hwb hnb hx HT7 HB1 HB2 HW7 HB7 HC7 HR7 HM7 HTT HCW
          gi_wp2
          gi_loopw [] (fun wr' => ∃ q : Nat, nx (wtL L1) i ≤ q ∧ q ≤ i ∧ Hid (Chg [bn] W wr') ∧ Hid (Blk wr' bn 3 #[.int .i64 (q : Int)])) (fun wr' => i - (intOf ((wr'.cell? ⟨bn, 0, none⟩).getD undef)).toNat)
          case atStart => exact ⟨nx (wtL L1) i, Nat.le_refl _, HLE.out, hide (Chg.refl _ _), HNB⟩
          case round =>
            obtain ⟨q, hq1, hq2, hcq, hbq⟩ := hrel
            have n7 := hbq.out.cell 0
            have f7 := hbq.out.frozen 0
            have s7 := hbq.out.lt
            simp at n7
            have wc := (WI.chg HWB.out hcq.out (by simpa using HNE.out.2.2.2.2.1)).cells (p := q) (by rw [HL1q.out]; omega)
            have wl := Blk.lt (WI.chg HWB.out hcq.out (by simpa using HNE.out.2.2.2.2.1))
            have j0 : (0 : Int) ≤ (q : Int) := by omega
            have j1 : (q : Int) < 32 := by omega
            by_cases hqi : q < i
            · rw [HZ.out q hq1 hqi] at wc
              gi_wp2
              have k7' := hbq.out.set_ 0 (.int .i64 ((q : Int) + 1))
              have mm := k7'.cell 0
              simp at mm
              go_roundw
              case rel => exact ⟨q + 1, by omega, by omega, hide (hcq.out.setCell (.inl (by simp)) _), hide (by simpa using k7')⟩
              case measure => simp [n7, mm, intOf]; omega
            · obtain rfl : q = i := by omega
              rw [HXX.out] at wc
              gi_wp2
              have k7' := hbq.out.set_ 0 (.int .i64 ((q : Int) + 1))
              exact HKB.out _ _ (hcq.out.setCell (.inl (by simp)) _) (by simpa using k7')
        case done =>
          rintro D W hDw hdf hb6 hc
          have HB8 := hide hb6
          have HC8 := hide (HC7.out.trans hc (fun x hx => .inr (by obtain rfl := List.mem_singleton.1 hx; exact Nat.le_trans HX.out.2.2.2.2.2.2.2.2.2.2.2.2 HBN.out)))
          have HT8 := hide (HT7.out.chg hc (by simpa using HNE.out.1) (by simpa using HNE.out.2.1) (by simpa using HNE.out.2.2.1))
          have HW8 := hide (WI.chg HW7.out hc (by simpa using HNE.out.2.2.2.2.1))
          have HR8 := hide (HR7.out.chg hc (by simpa using HNE.out.2.2.2.2.2))
          have HM8 := hide (show Marks (D :: ds) W from ⟨List.nodup_cons.2 ⟨fun h => by have := HDN.out D h; have := HS7.out; omega, HM7.out.1⟩, fun E hE => by
            rcases List.mem_cons.1 hE with rfl | hE
            · exact hdf
            · exact (hc.block E (Array.getElem?_eq_some_iff.1 (HM7.out.2 E hE)).1 (by have := HDN.out E hE; simp; omega)).trans (HM7.out.2 E hE)⟩)
          have HD8 := hide (show ∀ E ∈ D :: ds, lo ≤ E ∧ E ≠ bn from fun E hE => by
            rcases List.mem_cons.1 hE with rfl | hE
            · have := HBN.out; have := HS7.out; omega
            · have := HDN.out E hE; have := hds.out E hE; omega)
          have HLO8 := hide (show lo ≤ W.heap.size from by have := HBN.out; have := HS7.out; have := hc.size; omega)
          have HZ := hide (fun q (h1 : nx (wtL L1) 32 ≤ q) (h2 : q < 32) => nx_zero (wtL L1) 32 q h1 h2)
          have HLE := hide (nx_le (wtL L1) 32)
          have HL1q := hide hL1
          clear hb6 hc hdf HT7 HB1 HB2 HW7 HB7 HC7 HR7 HM7 HDN hds HCW
          go_wp2_with fail
          go_loopw [] (fun wr' => ∃ q : Nat, nx (wtL L1) 32 ≤ q ∧ q ≤ 32 ∧ Hid (Chg [bn] W wr') ∧ Hid (Blk wr' bn 3 #[.int .i64 (q : Int)])) (fun wr' => 32 - (intOf ((wr'.cell? ⟨bn, 0, none⟩).getD undef)).toNat)
          case atStart => exact ⟨nx (wtL L1) 32, Nat.le_refl _, HLE.out, hide (Chg.refl _ _), HB8⟩
          case round =>
            obtain ⟨q, hq1, hq2, hcq, hbq⟩ := hrel
            obtain ⟨W9, rfl⟩ : ∃ W9 : World, W9 = wr := ⟨_, rfl⟩
            have n7 := hbq.out.cell 0
            have f7 := hbq.out.frozen 0
            have s7 := hbq.out.lt
            simp at n7
            have hwq := WI.chg HW8.out hcq.out (by simpa using HNE.out.2.2.2.2.1)
            have wl := Blk.lt hwq
            by_cases hqi : q < 32
            · have wc := hwq.cells (p := q) (by rw [HL1q.out]; omega)
              rw [HZ.out q hq1 hqi] at wc
              have j0 : (0 : Int) ≤ (q : Int) := by omega
              have j1 : (q : Int) < 32 := by omega
              clear hwq
              go_wp2_with fail
              have k7' := hbq.out.set_ 0 (.int .i64 ((q : Int) + 1))
              have mm := k7'.cell 0
              simp at mm
              go_roundw
              case rel => exact ⟨q + 1, by omega, by omega, hide (hcq.out.setCell (.inl (by simp)) _), hide (by simpa using k7')⟩
              case measure => simp [n7, mm, intOf]; omega
            · obtain rfl : q = 32 := by omega
              have HT9 := hide (HT8.out.chg hcq.out (by simpa using HNE.out.1) (by simpa using HNE.out.2.1) (by simpa using HNE.out.2.2.1))
              have HW9 := hide hwq
              have HR9 := hide (HR8.out.chg hcq.out (by simpa using HNE.out.2.2.2.2.2))
              have HC9 := hide (HC8.out.trans hcq.out (fun x hx => .inr (by obtain rfl := List.mem_singleton.1 hx; exact Nat.le_trans HX.out.2.2.2.2.2.2.2.2.2.2.2.2 HBN.out)))
              have HLO9 := hide (show lo ≤ W9.heap.size from Nat.le_trans HLO8.out hcq.out.size)
              have HM9 := hide (show Marks (D :: ds) W9 from ⟨HM8.out.1, fun E hE => (hcq.out.block E (Array.getElem?_eq_some_iff.1 (HM8.out.2 E hE)).1 (by have := (HD8.out E hE).2; simpa using this)).trans (HM8.out.2 E hE)⟩)
              clear hwq hcq hbq HT8 HW8 HR8 HC8 HLO8 HM8 HB8
              go_wp2_with fail
              obtain ⟨hT', hsl, hrel'⟩ := HTT.out
              refine RoundEnd.of (P.length - (k + 1)) (D :: ds) (by omega) ⟨HM9.out.1, HM9.out.2⟩ ?_
              rw [hT', hsl, hrel']
              iterate 67 (refine exU ?_; apply Exists.intro)
              refine exNil ⟨?_, ?_⟩
              · simp only [setAll, List.setIfInBounds_toArray, List.set_cons_zero, List.set_cons_succ]
                rfl
              · exact ⟨k + 1, L1, _, _, _, _, _, _, _, _, _, _, _, _, _, _, _, _, _, _, _, _, _, _, _, _, _, _, _, _, _, _, _, _, _, _, _, _, _, _, _, _, _, _, _, _, _, _, _, _, _, _, _, _, _, _, _, _, _, _, _, _, _, _, _, _, _, _, rfl, rfl, by omega, HL1q.out, H31, HT9, HW9, HR9, HC9, HLO9, hide (fun E hE => (HD8.out E hE).1)⟩

      have dp2 : decide (p < 1024) = true := decide_eq_true (by omega)

      obtain ⟨p, rfl⟩ : ∃ q : Nat, p = q := ⟨p.toNat, by omega⟩
      have hpL : p / 32 < L.length := by omega
      have HS := HSL.out _ _ _ _ _ (p : Int) z ht.out
      obtain ⟨s1, s2⟩ := VR_set L hL (p := p) (by omega) (l := z) (by omega) (by omega) z2
      rw [s1] at HS
      have HS := hide (HS.mono (fun e W h => And.intro h.1 (And.intro (h.2.1.congr s2) h.2.2)))
      have hq0 : (0 : Int) ≤ ((p / 32 : Nat) : Int) := by omega
      have hq1 : ((p / 32 : Nat) : Int) < 32 := by omega
      have htd := tdiv32 p
      have hmx : (if z < 0 then 0 else z) = ((z.toNat : Nat) : Int) := by split <;> omega
      clear s1 s2
      go_wp2_with fail
      refine HS.out.mono ?_
      rintro e W0 ⟨rfl, ht1, hc1⟩
      have HT0 := hide ht1

      have HC1 := hide (hc.out.trans hc1 (fun x hx => .inr (by obtain rfl := List.mem_singleton.1 hx; exact HX.out.2.2.2.2.2.2.2.2.2.2.1)))
      have HW0 := hide (WI.chg hw.out hc1 (by simpa using HX.out.2.2.2.2.2.2.1))
      have HR1 := hide (hr.out.chg hc1 (by simpa using HX.out.2.2.2.2.2.2.2.2.1))
      have HLO1 := hide (show lo ≤ W0.heap.size from Nat.le_trans hlo.out hc1.size)
      have HM1 := hide (show Marks ds W0 from ⟨HM.out.1, fun D hD => (hc1.block D (Array.getElem?_eq_some_iff.1 (HM.out.2 D hD)).1 (by have := hds.out D hD; have := HX.out.2.1; simp; omega)).trans (HM.out.2 D hD)⟩)
      obtain ⟨kp1, kz1⟩ := HCW.out _ HC1.out

      have wl := Blk.lt HW0.out
      have wf := Blk.frozen HW0.out (p / 32)
      have wc := HW0.out.cells hpL
      clear ht1 HS HSL ht hw hr hc hlo HM kp kz hc1
      go_wp2_with fail
      have hmz : max z 0 = ((z.toNat : Nat) : Int) := by omega
      rw [hmz]
      obtain ⟨W1, hW1⟩ : ∃ W1, W1 = W0.setCell ⟨bw, p / 32, none⟩ (.int .i64 ((z.toNat : Nat) : Int)) := ⟨_, rfl⟩
      have hc10 : Chg [bw] W0 W1 := by rw [hW1]; exact (Chg.refl _ _).setCell (.inl (by simp)) _
      have hw1 : WI W1 bw (L.set (p / 32) z.toNat) := by rw [hW1]; exact HW0.out.set hpL z.toNat
      rw [← hW1]
      have hsz : W0.heap.size = W1.heap.size := by rw [hW1, size_set]
      rw [hsz]
      have HT1 := hide (HT0.out.chg hc10 (by simpa using (Ne.symm HX.out.2.2.2.2.2.1)) (by simpa using (Ne.symm HX.out.2.2.2.2.2.2.1)) (by simpa using (Ne.symm HX.out.2.2.2.2.2.2.2.1)))
      have HW1 := hide hw1
      have HC1 := hide (HC1.out.trans hc10 (fun x hx => .inr (by obtain rfl := List.mem_singleton.1 hx; exact HX.out.2.2.2.2.2.2.2.2.2.2.2.1)))
      have HR1 := hide (HR1.out.chg hc10 (by simpa using HX.out.2.2.2.2.2.2.2.2.2.1))
      have HLO1 := hide (show lo ≤ W1.heap.size from Nat.le_trans HLO1.out hc10.size)
      have HM1 := hide (show Marks ds W1 from ⟨HM1.out.1, fun D hD => (hc10.block D (Array.getElem?_eq_some_iff.1 (HM1.out.2 D hD)).1 (by have := hds.out D hD; have := HX.out.2.2.2.1; simp; omega)).trans (HM1.out.2 D hD)⟩)
      obtain ⟨kp1, kz1⟩ := HCW.out _ HC1.out
      obtain ⟨L1, hL1e⟩ : ∃ L1, L1 = L.set (p / 32) z.toNat := ⟨_, rfl⟩
      rw [← hL1e] at HT1 HW1
      have hL1 : L1.length = 32 := by rw [hL1e, List.length_set]; exact hL
      have H31 := hide (show ∀ i, i < 32 → wtL L1 i ≤ 3 from by rw [hL1e]; exact wt_set3 h3.out hpL (by omega))
      clear hW1 hc10 hw1 HT0 HW0 wl wf wc hL1e hmz hmx htd hq0 hq1 hpL hL h3

      obtain ⟨W5, hW5⟩ : ∃ W5, W5 = W1.alloc (.cells #[.int .i64 0] 3) := ⟨_, rfl⟩
      have hc5 : Chg [] W1 W5 := by rw [hW5]; exact (Chg.refl _ _).alloc _
      have hb5 : Blk W5 W1.heap.size 3 #[.int .i64 ((nx (wtL L1) 0 : Nat) : Int)] := by rw [hW5]; exact Blk.new W1 3 _
      rw [← hW5]
      have HC5 := hide (HC1.out.stay hc5)
      have HT5 := hide (HT1.out.stay hc5)
      have HW5 := hide (HW1.out.stay hc5)
      have HR5 := hide (HR1.out.chg hc5 List.not_mem_nil)
      have HM5 := hide (show Marks ds W5 from ⟨HM1.out.1, fun D hD => (hc5.block D (Array.getElem?_eq_some_iff.1 (HM1.out.2 D hD)).1 List.not_mem_nil).trans (HM1.out.2 D hD)⟩)
      have HB5 := hide hb5
      have HBN := hide (show lo ≤ W1.heap.size from HLO1.out)
      have HDN := hide (show ∀ D ∈ ds, D < W1.heap.size from fun D hD => (Array.getElem?_eq_some_iff.1 (HM1.out.2 D hD)).1)
      obtain ⟨bn, hbn⟩ : ∃ bn, bn = W1.heap.size := ⟨_, rfl⟩
      rw [← hbn] at HB5 HBN HDN ⊢
      clear hW5 hc5 hb5 HC1 HT1 HW1 HR1 HM1 HLO1 hbn kp1 kz1
      have fnil := fn_nil
      refine (leaves_any W5 a 0).mono ?_
      rintro e W6 ⟨rfl, -, -, hc6⟩
      have HC6 := hide hc6
      clear hc6
      go_wp2_with fail
      refine (leaves_any W6 a 0).mono ?_
      rintro e W7 ⟨rfl, hb1, hb2, hc7⟩
      have hc57 := HC6.out.stay hc7
      have HC7 := hide (HC5.out.stay hc57)
      have HT7 := hide (HT5.out.stay hc57)
      have HW7 := hide (HW5.out.stay hc57)
      have HR7 := hide (HR5.out.chg hc57 List.not_mem_nil)
      have HM7 := hide (show Marks ds W7 from ⟨HM5.out.1, fun D hD => (hc57.block D (Array.getElem?_eq_some_iff.1 (HM5.out.2 D hD)).1 List.not_mem_nil).trans (HM5.out.2 D hD)⟩)
      have HB7 := hide (HB5.out.chg hc57 List.not_mem_nil)
      have hbl := HB5.out.lt
      have hs6 := HC6.out.size
      have HB1 := hide hb1
      have HB2 := hide hb2
      have HNE := hide (show a ≠ bn ∧ gb ≠ bn ∧ gm ≠ bn ∧ W6.heap.size + 1 ≠ bn ∧ bw ≠ bn ∧ w.heap.size ≠ bn from by have := HX.out; have := HBN.out; omega)
      have HS7 := hide (show bn < W7.heap.size from HB7.out.lt)
      clear hb1 hb2 hc7 hc57 HC6 HC5 HT5 HW5 HR5 HM5 HB5 hbl hs6 fnil
      go_wp2_with fail
      refine wp_told (b1 := W6.heap.size) (b2 := W6.heap.size + 1) (pa := a) (gb := gb) (gm := gm) (bw := bw) (bn := bn) (L := L1) (M := M0) (c := D0) (q0 := 12) (q1 := 13) H31.out rfl HT7.out HB1.out HB2.out HW7.out HB7.out ⟨HNE.out.1, HNE.out.2.1, HNE.out.2.2.1, HNE.out.2.2.2.1⟩ ?assign ?body ?done
      case assign =>
        intro j i x W K hK
        gi_wp2
        exact hK
      case body =>
        rintro j i W Q' hQ' hi hz hwb hnb hKb
        have HQ := hide hQ'
        have HKB := hide hKb
        have HWB := hide hwb
        have HLE := hide (nx_le (wtL L1) i)
        have HZ := hide (fun q (h1 : nx (wtL L1) i ≤ q) (h2 : q < i) => nx_zero (wtL L1) i q h1 h2)
        have HNB := hide hnb
        obtain ⟨x, hx⟩ : ∃ x, wtL L1 i = x := ⟨_, rfl⟩
        rw [hx] at hz ⊢
        have HXX := hide hx
        have b1 : ((x : Int) == 0) = false := beq_false_of_ne (by omega)
        have b2 : decide ((x : Int) = 0) = false := decide_eq_false (by omega)
        have i4 : (i : Int) < 32 := by omega
        have i5 : decide (31 < (i : Int)) = false := decide_eq_false (by omega)
        have HL1q := hide hL1
        clear hQ' hKb hwb hnb hx HT7 HB1 HB2 HW7 HB7 HC7 HR7 HM7 HTT HCW
        gi_wp2
        gi_loopw [] (fun wr' => ∃ q : Nat, nx (wtL L1) i ≤ q ∧ q ≤ i ∧ Hid (Chg [bn] W wr') ∧ Hid (Blk wr' bn 3 #[.int .i64 (q : Int)])) (fun wr' => i - (intOf ((wr'.cell? ⟨bn, 0, none⟩).getD undef)).toNat)
        case atStart => exact ⟨nx (wtL L1) i, Nat.le_refl _, HLE.out, hide (Chg.refl _ _), HNB⟩
        case round =>
          obtain ⟨q, hq1, hq2, hcq, hbq⟩ := hrel
          have n7 := hbq.out.cell 0
          have f7 := hbq.out.frozen 0
          have s7 := hbq.out.lt
          simp at n7
          have wc := (WI.chg HWB.out hcq.out (by simpa using HNE.out.2.2.2.2.1)).cells (p := q) (by rw [HL1q.out]; omega)
          have wl := Blk.lt (WI.chg HWB.out hcq.out (by simpa using HNE.out.2.2.2.2.1))
          have j0 : (0 : Int) ≤ (q : Int) := by omega
          have j1 : (q : Int) < 32 := by omega
          by_cases hqi : q < i
          · rw [HZ.out q hq1 hqi] at wc
            gi_wp2
            have k7' := hbq.out.set_ 0 (.int .i64 ((q : Int) + 1))
            have mm := k7'.cell 0
            simp at mm
            go_roundw
            case rel => exact ⟨q + 1, by omega, by omega, hide (hcq.out.setCell (.inl (by simp)) _), hide (by simpa using k7')⟩
            case measure => simp [n7, mm, intOf]; omega
          · obtain rfl : q = i := by omega
            rw [HXX.out] at wc
            gi_wp2
            have k7' := hbq.out.set_ 0 (.int .i64 ((q : Int) + 1))
            exact HKB.out _ _ (hcq.out.setCell (.inl (by simp)) _) (by simpa using k7')
      case done =>
        rintro D W hDw hdf hb6 hc
        have HB8 := hide hb6
        have HC8 := hide (HC7.out.trans hc (fun x hx => .inr (by obtain rfl := List.mem_singleton.1 hx; exact Nat.le_trans HX.out.2.2.2.2.2.2.2.2.2.2.2.2 HBN.out)))
        have HT8 := hide (HT7.out.chg hc (by simpa using HNE.out.1) (by simpa using HNE.out.2.1) (by simpa using HNE.out.2.2.1))
        have HW8 := hide (WI.chg HW7.out hc (by simpa using HNE.out.2.2.2.2.1))
        have HR8 := hide (HR7.out.chg hc (by simpa using HNE.out.2.2.2.2.2))
        have HM8 := hide (show Marks (D :: ds) W from ⟨List.nodup_cons.2 ⟨fun h => by have := HDN.out D h; have := HS7.out; omega, HM7.out.1⟩, fun E hE => by
          rcases List.mem_cons.1 hE with rfl | hE
          · exact hdf
          · exact (hc.block E (Array.getElem?_eq_some_iff.1 (HM7.out.2 E hE)).1 (by have := HDN.out E hE; simp; omega)).trans (HM7.out.2 E hE)⟩)
        have HD8 := hide (show ∀ E ∈ D :: ds, lo ≤ E ∧ E ≠ bn from fun E hE => by
          rcases List.mem_cons.1 hE with rfl | hE
          · have := HBN.out; have := HS7.out; omega
          · have := HDN.out E hE; have := hds.out E hE; omega)
        have HLO8 := hide (show lo ≤ W.heap.size from by have := HBN.out; have := HS7.out; have := hc.size; omega)
        have HZ := hide (fun q (h1 : nx (wtL L1) 32 ≤ q) (h2 : q < 32) => nx_zero (wtL L1) 32 q h1 h2)
        have HLE := hide (nx_le (wtL L1) 32)
        have HL1q := hide hL1
        clear hb6 hc hdf HT7 HB1 HB2 HW7 HB7 HC7 HR7 HM7 HDN hds HCW
        go_wp2_with fail
        go_loopw [] (fun wr' => ∃ q : Nat, nx (wtL L1) 32 ≤ q ∧ q ≤ 32 ∧ Hid (Chg [bn] W wr') ∧ Hid (Blk wr' bn 3 #[.int .i64 (q : Int)])) (fun wr' => 32 - (intOf ((wr'.cell? ⟨bn, 0, none⟩).getD undef)).toNat)
        case atStart => exact ⟨nx (wtL L1) 32, Nat.le_refl _, HLE.out, hide (Chg.refl _ _), HB8⟩
        case round =>
          obtain ⟨q, hq1, hq2, hcq, hbq⟩ := hrel
          obtain ⟨W9, rfl⟩ : ∃ W9 : World, W9 = wr := ⟨_, rfl⟩
          have n7 := hbq.out.cell 0
          have f7 := hbq.out.frozen 0
          have s7 := hbq.out.lt
          simp at n7
          have hwq := WI.chg HW8.out hcq.out (by simpa using HNE.out.2.2.2.2.1)
          have wl := Blk.lt hwq
          by_cases hqi : q < 32
          · have wc := hwq.cells (p := q) (by rw [HL1q.out]; omega)
            rw [HZ.out q hq1 hqi] at wc
            have j0 : (0 : Int) ≤ (q : Int) := by omega
            have j1 : (q : Int) < 32 := by omega
            clear hwq
            go_wp2_with fail
            have k7' := hbq.out.set_ 0 (.int .i64 ((q : Int) + 1))
            have mm := k7'.cell 0
            simp at mm
            go_roundw
            case rel => exact ⟨q + 1, by omega, by omega, hide (hcq.out.setCell (.inl (by simp)) _), hide (by simpa using k7')⟩
            case measure => simp [n7, mm, intOf]; omega
          · obtain rfl : q = 32 := by omega
            have HT9 := hide (HT8.out.chg hcq.out (by simpa using HNE.out.1) (by simpa using HNE.out.2.1) (by simpa using HNE.out.2.2.1))
            have HW9 := hide hwq
            have HR9 := hide (HR8.out.chg hcq.out (by simpa using HNE.out.2.2.2.2.2))
            have HC9 := hide (HC8.out.trans hcq.out (fun x hx => .inr (by obtain rfl := List.mem_singleton.1 hx; exact Nat.le_trans HX.out.2.2.2.2.2.2.2.2.2.2.2.2 HBN.out)))
            have HLO9 := hide (show lo ≤ W9.heap.size from Nat.le_trans HLO8.out hcq.out.size)
            have HM9 := hide (show Marks (D :: ds) W9 from ⟨HM8.out.1, fun E hE => (hcq.out.block E (Array.getElem?_eq_some_iff.1 (HM8.out.2 E hE)).1 (by have := (HD8.out E hE).2; simpa using this)).trans (HM8.out.2 E hE)⟩)
            clear hwq hcq hbq HT8 HW8 HR8 HC8 HLO8 HM8 HB8
            go_wp2_with fail
            obtain ⟨hT', hsl, hrel'⟩ := HTT.out
            refine RoundEnd.of (P.length - (k + 1)) (D :: ds) (by omega) ⟨HM9.out.1, HM9.out.2⟩ ?_
            rw [hT', hsl, hrel']
            iterate 67 (refine exU ?_; apply Exists.intro)
            refine exNil ⟨?_, ?_⟩
            · simp only [setAll, List.setIfInBounds_toArray, List.set_cons_zero, List.set_cons_succ]
              rfl
            · exact ⟨k + 1, L1, _, _, _, _, _, _, _, _, _, _, _, _, _, _, _, _, _, _, _, _, _, _, _, _, _, _, _, _, _, _, _, _, _, _, _, _, _, _, _, _, _, _, _, _, _, _, _, _, _, _, _, _, _, _, _, _, _, _, _, _, _, _, _, _, _, _, rfl, rfl, by omega, HL1q.out, H31, HT9, HW9, HR9, HC9, HLO9, hide (fun E hE => (HD8.out E hE).1)⟩
    · obtain rfl : k = P.length := by omega
      have HDB := hide (show ∀ E ∈ ds, E ≠ w.heap.size from fun E hE => by have := hds.out E hE; have := HX.out; omega)
      go_wp2_with fail
      refine (HK.out wr).mono ?_
      rintro e W20 ⟨rfl, hc20⟩
      obtain ⟨z1, z2, z3⟩ := blk_res (hr.out.chg hc20 List.not_mem_nil)
      have HC20 := hide (hc.out.stay hc20)
      have HMx := hide (show ∀ E ∈ ds, W20.heap[E]? = some (.deferred (some [])) from fun E hE => (hc20.block _ (Array.getElem?_eq_some_iff.1 (HM.out.2 E hE)).1 List.not_mem_nil).trans (HM.out.2 E hE))
      have HZ3 := hide z3
      clear z3 hc20 hr hc ht hw
      go_wp2_with fail
      exact post_marks (Ds := ds) ⟨HM.out.1, fun E hE => (Below.heap_setCell W20 ⟨w.heap.size, 0, none⟩ _ E (HDB.out E hE)).trans (HMx.out E hE)⟩ fun W' hc => ⟨res_box rfl rfl (HZ3.out.chg hc (fun h => HDB.out _ h rfl)), rfl, (HC20.out.setCell (.inr (Nat.le_refl _)) _).trans hc (fun x hx => .inr (by have := hds.out x hx; have := HX.out; omega))⟩
end Go.Proofs.Ytblkfikcfgocgaa
