/- CallsOnly: its walk. -/
import Derived.Test.YtinlpjgjjplceaaDoorCdA
import Derived.Test.YtinlpjgjjplceaaDoorCcG
namespace Go.Proofs.YtinlpjgjjplceaaDoor
open Go Go.RowKit

theorem readC_okk {B : List Nat} (h8 : ∀ b ∈ B, b < 256) : (readC B).Ok := by
  cases h : okR B with
  | true => rw [(readC_ok h).1]; exact stEnd_ok h8
  | false => rw [(readC_no h).1]; exact zCl_ok
theorem readRs_okk {B : List Nat} (h8 : ∀ b ∈ B, b < 256) : (readRs B).Ok := by
  unfold readRs
  split
  · exact rsX_ok h8
  · exact ⟨by show (-9223372036854775808 : Int) ≤ 0 ∧ (0 : Int) ≤ 9223372036854775807; omega, by show 0 < 18446744073709551616; omega, by intro b hb; cases hb⟩
/-- what the law holds -/
structure OSt (w W : World) (B : List Nat) (bx br : Nat) (vx vr vl : Value) (m : Nat) : Prop where
  chg : Chg [] w W
  kb : KB W bx (readC B) vx
  ks : SB W vx (readC B).l
  xb : XB W br (readRs B) vr
  xs : SB W vr (readRs B).l
  lg : SB W vl (B ++ [m])
theorem OSt.stay {w W W' : World} {B : List Nat} {bx br : Nat} {vx vr vl : Value} {m : Nat} (h : OSt w W B bx br vx vr vl m) (hc : Chg [] W W') : OSt w W' B bx br vx vr vl m :=
  ⟨h.chg.stay hc, KB.stay h.kb hc, h.ks.stay hc, XB.stay h.xb hc, h.xs.stay hc, h.lg.stay hc⟩
theorem Chg.made {W w' : World} {o : Obj} (hc : Chg [W.heap.size] (W.alloc o) w') : Chg [] W w' :=
  ((Chg.refl [] W).alloc _).trans hc (fun y hy => .inr (by obtain rfl := List.mem_singleton.1 hy; exact Nat.le_refl _))
set_option maxRecDepth 20000 in
set_option maxHeartbeats 40000000 in
theorem only_law {w : World} (hf : FW w) {v : Value} {B : List Nat} (hv : RB w v B) (h8 : ∀ b ∈ B, b < 256) {m : Nat} (hm : m < 256) :
    Calls Tryd.prog 8 #[v, .int .u8 m] w fun e w' => e = .returned (.bool true) ∧ Chg [] w w' := by
  obtain ⟨A0, c0, rfl⟩ := RE.form hv
  have HKN := hide (fun W (h : Chg [] w W) => knownK_any (hf.stay h))
  have HF := hide hf
  have HV := hide hv
  have H8 := hide h8
  have HM := hide hm
  by_cases l1 : 2000 < B.length
  · have d1 : decide ((2000 : Int) < (B.length : Int)) = true := decide_eq_true (by omega)
    have d1' : decide (2000 < B.length) = true := decide_eq_true l1
    clear l1 hf hv h8 hm
    go_enter Tryd.func8, Tryd.ntmps8
    go_wp2_with fail
    refine (HKN.out _ (Chg.refl _ _)).mono ?_
    rintro e W3 ⟨rfl, hc3⟩
    go_wp2_with fail
    go_ret
    exact ⟨rfl, hc3⟩
  have d1 : decide ((2000 : Int) < (B.length : Int)) = false := decide_eq_false (by omega)
  have d1' : decide (2000 < B.length) = false := decide_eq_false l1
  have HLB := hide (show B.length ≤ 2000 by omega)
  clear l1 hf hv h8 hm
  go_enter Tryd.func8, Tryd.ntmps8
  go_upto_region 3 with (fail)
  clear d1 d1'
  go_wp2_with fail
  refine (Read_any HF.out HV.out H8.out (by have := HLB.out; omega)).mono ?_
  rintro e W3 ⟨⟨A3, n3, k3, rfl, hs3, -⟩, hc3⟩
  have HS3 := hide hs3
  have HC3 := hide hc3
  clear hs3 hc3
  go_upto_region 4 with (first | (refine wpList_alloc34 rfl rfl ?_; try go_simp) | (refine wpList_store34 (b := W3.heap.size) (y := readC B) (u := .slice A3 n3 k3) rfl _ _ rfl rfl rfl rfl (Blk.new W3 _ _) ?_; intro W4 h4 hc4))
  have HK4 := hide (show KB W4 W3.heap.size (readC B) (.slice A3 n3 k3) from h4)
  have HS4 := hide (HS3.out.stay (Chg.made hc4))
  have HC4 := hide (HC3.out.stay (Chg.made hc4))
  clear h4 hc4 HS3 HC3
  generalize W3.heap.size = bx at *
  clear W3
  go_wp2_with fail
  refine (ReadRs_any (HV.out.stay HC4.out) H8.out (by have := HLB.out; omega)).mono ?_
  rintro e W5 ⟨⟨A5, n5, k5, rfl, hs5, -⟩, hc5⟩
  have HK5 := hide (KB.stay HK4.out hc5)
  have HS5 := hide (HS4.out.stay hc5)
  have HC5 := hide (HC4.out.stay hc5)
  have HX5 := hide hs5
  clear hs5 hc5 HK4 HS4 HC4
  go_upto_region 5 with (first | (refine wpList_allocRs rfl rfl ?_; try go_simp) | (refine wpList_storeRs (b := W5.heap.size) (y := readRs B) (u := .slice A5 n5 k5) rfl _ _ rfl rfl rfl rfl (Blk.new W5 _ _) ?_; intro W6 h6 hc6))
  have HR6 := hide (show XB W6 W5.heap.size (readRs B) (.slice A5 n5 k5) from h6)
  have HK6 := hide (KB.stay HK5.out (Chg.made hc6))
  have HS6 := hide (HS5.out.stay (Chg.made hc6))
  have HC6 := hide (HC5.out.stay (Chg.made hc6))
  have HX6 := hide (HX5.out.stay (Chg.made hc6))
  clear h6 hc6 HK5 HS5 HC5 HX5
  generalize W5.heap.size = br at *
  clear W5 W4
  have HVB := hide (HV.out.stay (HC6.out.alloc (.cells #[] 5)))
  have HLN := hide (show ([] : List Nat).length + B.length ≤ 1000000 by have := HLB.out; simp; omega)
  have HLN2 := hide (show ([] ++ B).length + [m].length ≤ 1000000 by have := HLB.out; simp; omega)
  go_upto_region 6 with (first | (at_builtin; refine wpList_append_b rfl _ _ rfl (.slice (some ⟨W6.heap.size, 0, none⟩) 0 0) _ rfl rfl (l := []) (m := B) (SB_none W6) HVB.out HLN.out ?_; intro A7 n7 c7 W7 hn7 hs7 hc7 hg7; have HS7 := hide hs7; have HC7 := hide hc7; have HG7 := hide hg7; clear hs7 hc7 hg7) | (at_builtin; refine wpList_append_b rfl _ _ rfl (.slice A7 n7 c7) _ rfl rfl (l := [] ++ B) (m := [m]) (HS7.out.stay ((Chg.refl [] W7).alloc _)) (RB_one W7 m) HLN2.out ?_; intro A8 n8 c8 W8 hn8 hs8 hc8 hg8; have HS8 := hide hs8; have HC8 := hide hc8; have HG8 := hide hg8; clear hs8 hc8 hg8))
  have hg67 : ∀ k ∈ own (.slice A7 n7 c7), W6.heap.size ≤ k := fun k hk => (HG7.out k hk).elim (fun h => by simp [own, Value.ownBlock] at h; omega) (fun h => by simp at h; omega)
  have hc67 : Chg [] W6 W7 := ((Chg.refl [] W6).alloc _).trans HC7.out (fun y hy => .inr (by simp [own, Value.ownBlock] at hy; omega))
  have hc68 : Chg [] W6 W8 := (hc67.alloc _).trans HC8.out (fun y hy => .inr (hg67 y hy))
  have hl8 : SB W8 (.slice A8 n8 c8) (B ++ [m]) := by have := HS8.out; rwa [List.nil_append] at this
  have HO := hide (show OSt w W8 B bx br (.slice A3 n3 k3) (.slice A5 n5 k5) (.slice A8 n8 c8) m from ⟨HC6.out.stay hc68, KB.stay HK6.out hc68, HS6.out.stay hc68, XB.stay HR6.out hc68, HX6.out.stay hc68, hl8⟩)
  have HB8 := hide (show ∀ b ∈ B ++ [m], b < 256 from fun b hb => (List.mem_append.1 hb).elim (H8.out b) (fun h => by obtain rfl := List.mem_singleton.1 h; exact HM.out))
  have HLM := hide (show (B ++ [m]).length ≤ 100000 by have := HLB.out; simp; omega)
  have HT8 := hide (show ∀ b ∈ B.take (B.length - 1), b < 256 from fun b hb => H8.out b (List.mem_of_mem_take hb))
  have HTL := hide (show (B.take (B.length - 1)).length ≤ 100000 by have := HLB.out; rw [List.length_take]; omega)
  have hcap := (RB_cap HV.out).2
  clear hg67 hc67 hc68 hl8 HG7 HC7 HC8 HG8 HS7 HS8 hn7 hn8 HC6 HK6 HS6 HR6 HX6 HVB HLN HLN2
  cases ho : okR B with
  | true =>
    have HOK := hide ho
    rw [(readC_ok ho).2]
    clear ho
    go_wp2_with (refine wpList_load34 rfl _ rfl rfl HO.out.kb ?_)
    refine (Bytes_any (HF.out.stay HO.out.chg) (readC_okk H8.out) HO.out.ks.re).mono ?_
    rintro e W9 ⟨hb9, hc9⟩
    obtain ⟨h, -⟩ | ⟨-, A9, n9, k9, rfl, hs9, -⟩ := hb9
    · rw [(readC_ok HOK.out).1, (okR_parts HOK.out).2.2] at h; cases h
    rw [show encC (readC B) = B by rw [(readC_ok HOK.out).1]; exact enc_read H8.out HOK.out] at hs9
    have HS9 := hide hs9
    have HO9 := hide (HO.out.stay hc9)
    clear hs9 hc9 HO
    go_wp2_with fail
    refine (Read_any (HF.out.stay HO9.out.chg) HO9.out.lg.re HB8.out HLM.out).mono ?_
    rintro e W10 ⟨⟨A10, n10, k10, rfl, -, -⟩, hc10⟩
    have hmore := okR_more' H8.out HOK.out (T := [m]) (by simp)
    rw [(readC_no hmore).1, (readC_no hmore).2]
    have HO10 := hide (HO9.out.stay hc10)
    have HS10 := hide (HS9.out.stay hc10)
    clear hc10 hmore HO9 HS9
    go_upto_region 9 with (first | (refine wpList_alloc34 rfl rfl ?_; try go_simp) | (refine wpList_store34 (b := W10.heap.size) (y := zCl) (u := .slice A10 n10 k10) rfl _ _ rfl rfl rfl rfl (Blk.new W10 _ _) ?_; intro W11 h11 hc11))
    have HO11 := hide (HO10.out.stay (Chg.made hc11))
    have hcy := run_str (SE.re (HS10.out.stay (Chg.made hc11))) H8.out
    have hcv := run_str (HV.out.stay HO11.out.chg) H8.out
    generalize strB B = sx at hcy hcv
    have hlong : 8 ≤ B.length := by rw [← enc_read H8.out HOK.out]; exact enc_long _
    have d3 : decide ((B.length : Int) < 8) = false := decide_eq_false (by omega)
    have d3' : decide (B.length < 8) = false := decide_eq_false (by omega)
    clear h11 hc11 HO10 HS10
    go_upto_region 11 with (fail)
    have hlb := HLB.out
    have d4 : IntKind.i64.wrap ((B.length : Int) - 1) = (B.length : Int) - 1 := by rw [IntKind.wrap_i64]; omega
    have d5 : (0 : Int) ≤ (B.length : Int) - 1 := by omega
    have d6 : (B.length : Int) - 1 ≤ (c0 : Int) := by omega
    have d7 : ((B.length : Int) - 1).toNat = B.length - 1 := by omega
    clear hcy hcv d3 d3' hlb
    go_wp2_with fail
    refine (Read_any (HF.out.stay HO11.out.chg) (RE_take (HV.out.stay HO11.out.chg) (k := B.length - 1) (by omega)) HT8.out HTL.out).mono ?_
    rintro e W12 ⟨⟨A12, n12, k12, rfl, -, -⟩, hc12⟩
    have hless := okR_less H8.out HOK.out (B.length - 1) (by omega)
    rw [(readC_no hless).1, (readC_no hless).2]
    have HO12 := hide (HO11.out.stay hc12)
    clear hc12 hless HO11 d4 d5 d6 d7 hlong
    go_upto_region 12 with (first | (refine wpList_alloc34 rfl rfl ?_; try go_simp) | (refine wpList_store34 (b := W12.heap.size) (y := zCl) (u := .slice A12 n12 k12) rfl _ _ rfl rfl rfl rfl (Blk.new W12 _ _) ?_; intro W13 h13 hc13))
    have HO13 := hide (HO12.out.stay (Chg.made hc13))
    clear h13 hc13 HO12
    go_upto_region 14 with (fail)
    cases hr : okRs B with
    | true =>
      have HRK := hide hr
      rw [show readRsE B = 0 by unfold readRsE; rw [hr]; rfl]
      clear hr
      go_wp2_with (refine wpList_loadRs rfl _ rfl rfl HO13.out.xb ?_)
      refine (RsBytes_any (readRs_okk H8.out) HO13.out.xs.re).mono ?_
      rintro e V1 ⟨hb9, hc9⟩
      have hrx : readRs B = rsX B := by unfold readRs; rw [HRK.out]; rfl
      obtain ⟨h, -⟩ | ⟨-, G1, g1, q1, rfl, hs9, -⟩ := hb9
      · rw [hrx, (enc_rs H8.out HRK.out).2] at h; cases h
      rw [show encRs (readRs B) = B by rw [hrx]; exact (enc_rs H8.out HRK.out).1] at hs9
      have GS1 := hide hs9
      have GO1 := hide (HO13.out.stay hc9)
      clear hs9 hc9 hrx
      go_wp2_with fail
      refine (ReadRs_any GO1.out.lg.re HB8.out HLM.out).mono ?_
      rintro e V2 ⟨⟨G2, g2, q2, rfl, -, -⟩, hc10⟩
      have hmore := okRs_more H8.out HRK.out (T := [m]) (by simp)
      rw [show readRs (B ++ [m]) = zRs by unfold readRs; rw [hmore]; rfl, show readRsE (B ++ [m]) = 5 by unfold readRsE; rw [hmore]; rfl]
      have GO2 := hide (GO1.out.stay hc10)
      have GS2 := hide (GS1.out.stay hc10)
      clear hc10 hmore GO1 GS1
      go_upto_region 17 with (first | (refine wpList_allocRs rfl rfl ?_; try go_simp) | (refine wpList_storeRs (b := V2.heap.size) (y := zRs) (u := .slice G2 g2 q2) rfl _ _ rfl rfl rfl rfl (Blk.new V2 _ _) ?_; intro V3 h11 hc11))
      have GO3 := hide (GO2.out.stay (Chg.made hc11))
      have hcy := run_str (SE.re (GS2.out.stay (Chg.made hc11))) H8.out
      have hcv := run_str (HV.out.stay GO3.out.chg) H8.out
      generalize strB B = sx at hcy hcv
      have hlong : 24 ≤ B.length := by rw [← (enc_rs H8.out HRK.out).1]; exact encRs_long _
      have d3 : decide ((B.length : Int) < 24) = false := decide_eq_false (by omega)
      have d3' : decide (B.length < 24) = false := decide_eq_false (by omega)
      clear h11 hc11 GO2 GS2
      go_upto_region 19 with (fail)
      have hlb := HLB.out
      have d4 : IntKind.i64.wrap ((B.length : Int) - 1) = (B.length : Int) - 1 := by rw [IntKind.wrap_i64]; omega
      have d5 : (0 : Int) ≤ (B.length : Int) - 1 := by omega
      have d6 : (B.length : Int) - 1 ≤ (c0 : Int) := by omega
      have d7 : ((B.length : Int) - 1).toNat = B.length - 1 := by omega
      clear hcy hcv d3 d3' hlb
      go_wp2_with fail
      refine (ReadRs_any (RE_take (HV.out.stay GO3.out.chg) (k := B.length - 1) (by omega)) HT8.out HTL.out).mono ?_
      rintro e V4 ⟨⟨G4, g4, q4, rfl, -, -⟩, hc12⟩
      have hless := okRs_less H8.out HRK.out (B.length - 1) (by omega)
      rw [show readRs (B.take (B.length - 1)) = zRs by unfold readRs; rw [hless]; rfl, show readRsE (B.take (B.length - 1)) = 5 by unfold readRsE; rw [hless]; rfl]
      have GO4 := hide (GO3.out.chg.stay hc12)
      clear hc12 hless GO3 d4 d5 d6 d7 hlong hcap
      go_upto_region 21 with (first | (refine wpList_allocRs rfl rfl ?_; try go_simp) | (refine wpList_storeRs (b := V4.heap.size) (y := zRs) (u := .slice G4 g4 q4) rfl _ _ rfl rfl rfl rfl (Blk.new V4 _ _) ?_; intro V5 h13 hc13))
      have GO5 := hide (GO4.out.stay (Chg.made hc13))
      clear h13 hc13
      go_wp2_with fail
      refine (HKN.out _ GO5.out).mono ?_
      rintro e V6 ⟨rfl, hc14⟩
      go_wp2_with fail
      go_ret
      exact ⟨rfl, GO5.out.stay hc14⟩
    | false =>
      rw [show readRsE B = 5 by unfold readRsE; rw [hr]; rfl]
      clear hr
      go_wp2_with fail
      refine (HKN.out _ HO13.out.chg).mono ?_
      rintro e V6 ⟨rfl, hc14⟩
      go_wp2_with fail
      go_ret
      exact ⟨rfl, HO13.out.chg.stay hc14⟩
  | false =>
    rw [(readC_no ho).2]
    clear ho
    go_upto_region 14 with (fail)
    cases hr : okRs B with
    | true =>
      have HRK := hide hr
      rw [show readRsE B = 0 by unfold readRsE; rw [hr]; rfl]
      clear hr
      go_wp2_with (refine wpList_loadRs rfl _ rfl rfl HO.out.xb ?_)
      refine (RsBytes_any (readRs_okk H8.out) HO.out.xs.re).mono ?_
      rintro e V1 ⟨hb9, hc9⟩
      have hrx : readRs B = rsX B := by unfold readRs; rw [HRK.out]; rfl
      obtain ⟨h, -⟩ | ⟨-, G1, g1, q1, rfl, hs9, -⟩ := hb9
      · rw [hrx, (enc_rs H8.out HRK.out).2] at h; cases h
      rw [show encRs (readRs B) = B by rw [hrx]; exact (enc_rs H8.out HRK.out).1] at hs9
      have GS1 := hide hs9
      have GO1 := hide (HO.out.stay hc9)
      clear hs9 hc9 hrx
      go_wp2_with fail
      refine (ReadRs_any GO1.out.lg.re HB8.out HLM.out).mono ?_
      rintro e V2 ⟨⟨G2, g2, q2, rfl, -, -⟩, hc10⟩
      have hmore := okRs_more H8.out HRK.out (T := [m]) (by simp)
      rw [show readRs (B ++ [m]) = zRs by unfold readRs; rw [hmore]; rfl, show readRsE (B ++ [m]) = 5 by unfold readRsE; rw [hmore]; rfl]
      have GO2 := hide (GO1.out.stay hc10)
      have GS2 := hide (GS1.out.stay hc10)
      clear hc10 hmore GO1 GS1
      go_upto_region 17 with (first | (refine wpList_allocRs rfl rfl ?_; try go_simp) | (refine wpList_storeRs (b := V2.heap.size) (y := zRs) (u := .slice G2 g2 q2) rfl _ _ rfl rfl rfl rfl (Blk.new V2 _ _) ?_; intro V3 h11 hc11))
      have GO3 := hide (GO2.out.stay (Chg.made hc11))
      have hcy := run_str (SE.re (GS2.out.stay (Chg.made hc11))) H8.out
      have hcv := run_str (HV.out.stay GO3.out.chg) H8.out
      generalize strB B = sx at hcy hcv
      have hlong : 24 ≤ B.length := by rw [← (enc_rs H8.out HRK.out).1]; exact encRs_long _
      have d3 : decide ((B.length : Int) < 24) = false := decide_eq_false (by omega)
      have d3' : decide (B.length < 24) = false := decide_eq_false (by omega)
      clear h11 hc11 GO2 GS2
      go_upto_region 19 with (fail)
      have hlb := HLB.out
      have d4 : IntKind.i64.wrap ((B.length : Int) - 1) = (B.length : Int) - 1 := by rw [IntKind.wrap_i64]; omega
      have d5 : (0 : Int) ≤ (B.length : Int) - 1 := by omega
      have d6 : (B.length : Int) - 1 ≤ (c0 : Int) := by omega
      have d7 : ((B.length : Int) - 1).toNat = B.length - 1 := by omega
      clear hcy hcv d3 d3' hlb
      go_wp2_with fail
      refine (ReadRs_any (RE_take (HV.out.stay GO3.out.chg) (k := B.length - 1) (by omega)) HT8.out HTL.out).mono ?_
      rintro e V4 ⟨⟨G4, g4, q4, rfl, -, -⟩, hc12⟩
      have hless := okRs_less H8.out HRK.out (B.length - 1) (by omega)
      rw [show readRs (B.take (B.length - 1)) = zRs by unfold readRs; rw [hless]; rfl, show readRsE (B.take (B.length - 1)) = 5 by unfold readRsE; rw [hless]; rfl]
      have GO4 := hide (GO3.out.chg.stay hc12)
      clear hc12 hless GO3 d4 d5 d6 d7 hlong hcap
      go_upto_region 21 with (first | (refine wpList_allocRs rfl rfl ?_; try go_simp) | (refine wpList_storeRs (b := V4.heap.size) (y := zRs) (u := .slice G4 g4 q4) rfl _ _ rfl rfl rfl rfl (Blk.new V4 _ _) ?_; intro V5 h13 hc13))
      have GO5 := hide (GO4.out.stay (Chg.made hc13))
      clear h13 hc13
      go_wp2_with fail
      refine (HKN.out _ GO5.out).mono ?_
      rintro e V6 ⟨rfl, hc14⟩
      go_wp2_with fail
      go_ret
      exact ⟨rfl, GO5.out.stay hc14⟩
    | false =>
      rw [show readRsE B = 5 by unfold readRsE; rw [hr]; rfl]
      clear hr
      go_wp2_with fail
      refine (HKN.out _ HO.out.chg).mono ?_
      rintro e V6 ⟨rfl, hc14⟩
      go_wp2_with fail
      go_ret
      exact ⟨rfl, HO.out.chg.stay hc14⟩
end Go.Proofs.YtinlpjgjjplceaaDoor
