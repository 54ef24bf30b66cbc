/- CallsReads: its walk. -/
import Derived.Test.YtinlpjgjjplceaaDoorCaP
import Derived.Test.YtinlpjgjjplceaaDoorCcE
import Derived.Test.YtinlpjgjjplceaaDoorCcN
namespace Go.Proofs.YtinlpjgjjplceaaDoor
open Go Go.RowKit

theorem readC_ok8 {B : List Nat} (h8 : ∀ b ∈ B, b < 256) : (readC B).Ok := by
  cases h : okR B with
  | true => rw [(readC_ok h).1]; exact stEnd_ok h8
  | false => rw [(readC_no h).1]; exact zCl_ok
theorem readRs_ok8 {B : List Nat} (h8 : ∀ b ∈ B, b < 256) : (readRs B).Ok := by
  unfold readRs
  split
  · exact rsX_ok h8
  · exact ⟨by show (-9223372036854775808 : Int) ≤ 0 ∧ (0 : Int) ≤ 9223372036854775807; omega, by show 0 < 18446744073709551616; omega, by intro b hb; cases hb⟩
theorem same_self (x : Cl) : sameB x x = true := (sameB_iff x x).2 rfl
theorem sameRs_self8 (r : Rs) : sameRs r r = true := (sameRs_iff r r).2 rfl
/-- what the law holds -/
structure QSt (w W : World) (B : List Nat) (bx by_ br bs : Nat) (vx vy vr vs vl : Value) : Prop where
  chg : Chg [] w W
  kx : KB W bx (readC B) vx
  sx : RB W vx (readC B).l
  ky : KB W by_ (readC B) vy
  sy : RB W vy (readC B).l
  xr : XB W br (readRs B) vr
  sr : RB W vr (readRs B).l
  xs : XB W bs (readRs B) vs
  ss : RB W vs (readRs B).l
  lg : SB W vl (B ++ [77])
theorem QSt.stay {w W W' : World} {B : List Nat} {bx by_ br bs : Nat} {vx vy vr vs vl : Value} (h : QSt w W B bx by_ br bs vx vy vr vs vl) (hc : Chg [] W W') : QSt w W' B bx by_ br bs vx vy vr vs vl :=
  ⟨h.chg.stay hc, KB.stay h.kx hc, h.sx.stay hc, KB.stay h.ky hc, h.sy.stay hc, XB.stay h.xr hc, h.sr.stay hc, XB.stay h.xs hc, h.ss.stay hc, h.lg.stay hc⟩
theorem take_in {w : World} {A : Option Addr} {c : Nat} {B : List Nat} (h : SB w (.slice A (B ++ [77]).length c) (B ++ [77])) : RB w (.slice A B.length c) B := by
  have := (SE.take ucl_len h (k := B.length) (by simp)).re
  rwa [List.take_left' rfl] at this
set_option maxRecDepth 20000 in
set_option maxHeartbeats 40000000 in
theorem reads_law {w : World} (hf : FW w) {v : Value} {B : List Nat} (hv : RB w v B) (h8 : ∀ b ∈ B, b < 256) :
    Calls Tryd.prog 7 #[v] w fun e w' => e = .returned (.bool true) ∧ Chg [] w w' := by
  obtain ⟨A0, c0, rfl⟩ := RE.form hv
  have HKN := hide (fun W (h : Chg [] w W) => knownK_any (hf.stay h))
  have HF := hide hf
  have HV := hide hv
  have H8 := hide h8
  by_cases l1 : 2000 < B.length
  · have d1 : decide ((2000 : Int) < (B.length : Int)) = true := decide_eq_true (by omega)
    have d1' : decide (2000 < B.length) = true := decide_eq_true l1
    clear l1 hf hv h8
    go_enter Tryd.func7, Tryd.ntmps7
    go_wp2_with fail
    refine (HKN.out _ (Chg.refl _ _)).mono ?_
    rintro e W3 ⟨rfl, hc3⟩
    go_wp2_with fail
    go_ret
    exact ⟨rfl, hc3⟩
  have d1 : decide ((2000 : Int) < (B.length : Int)) = false := decide_eq_false (by omega)
  have d1' : decide (2000 < B.length) = false := decide_eq_false l1
  have HLB := hide (show B.length ≤ 2000 by omega)
  have hcap := (RB_cap hv).2
  clear l1 hf hv h8
  have HVB := hide (HV.out.stay ((Chg.refl [] w).alloc (.cells #[] 5)))
  have HLN := hide (show ([] : List Nat).length + B.length ≤ 1000000 by have := HLB.out; simp; omega)
  have HLN2 := hide (show ([] ++ B).length + [77].length ≤ 1000000 by have := HLB.out; simp; omega)
  have hL0 : (0 : Int) ≤ (B.length : Int) := by omega
  go_enter Tryd.func7, Tryd.ntmps7
  go_upto_region 3 with (fail)
  clear d1 d1'
  go_upto_region 4 with (first | (at_builtin; refine wpList_append_b rfl _ _ rfl (.slice (some ⟨w.heap.size, 0, none⟩) 0 0) _ rfl rfl (l := []) (m := B) (SB_none w) HVB.out HLN.out ?_; intro A7 n7 c7 W7 hn7 hs7 hc7 hg7; have HS7 := hide hs7; have HC7 := hide hc7; have HG7 := hide hg7; clear hs7 hc7 hg7) | (at_builtin; refine wpList_append_b rfl _ _ rfl (.slice A7 n7 c7) _ rfl rfl (l := [] ++ B) (m := [77]) (HS7.out.stay ((Chg.refl [] W7).alloc _)) (RB_one W7 77) HLN2.out ?_; intro A8 n8 c8 W8 hn8 hs8 hc8 hg8; have HS8 := hide hs8; have HC8 := hide hc8; have HG8 := hide hg8; obtain ⟨n8l, hcap8⟩ := RB_cap hs8.re; rw [List.nil_append, List.length_append] at n8l hcap8; simp only [List.length_cons, List.length_nil] at n8l hcap8; subst n8l; clear hs8 hc8 hg8; have hcap9 : (B.length : Int) ≤ (c8 : Int) := by omega))
  have hg7 : ∀ k ∈ own (.slice A7 n7 c7), w.heap.size ≤ k := fun k hk => (HG7.out k hk).elim (fun h => by simp [own, Value.ownBlock] at h; omega) (fun h => by simp at h; omega)
  have hc7 : Chg [] w W7 := ((Chg.refl [] w).alloc _).trans HC7.out (fun y hy => .inr (by simp [own, Value.ownBlock] at hy; omega))
  have HC := hide (show Chg [] w W8 from (hc7.alloc _).trans HC8.out (fun y hy => .inr (hg7 y hy)))
  have hl8 : SB W8 (.slice A8 (B ++ [77]).length c8) (B ++ [77]) := by have := HS8.out; rw [List.nil_append] at this; rw [List.length_append]; exact this
  have HLG := hide hl8
  obtain ⟨g8, o8, rfl⟩ := SE.addr hl8 (by simp)
  have HIN := hide (fun W (h : Chg [] W8 W) => take_in (hl8.stay h))
  have HC8 := hide hcap8
  clear hg7 hc7 hl8 HG7 HC7 HS7 HG8 HS8 HVB HLN HLN2 hcap8 hcap hn7 hn8
  go_wp2_with fail
  refine (Read_any (HF.out.stay HC.out) (HIN.out W8 (Chg.refl _ _)) H8.out (by have := HLB.out; omega)).mono ?_
  rintro e W3 ⟨⟨A3, n3, k3, rfl, hs3, -⟩, hc3⟩
  have HX3 := hide hs3.re
  have HC3 := hide hc3
  clear hs3 hc3
  go_upto_region 5 with (first | (refine wpList_alloc34 rfl rfl ?_; try go_simp) | (refine wpList_store34 (b := W3.heap.size) (y := readC B) (u := .slice A3 n3 k3) rfl _ _ rfl rfl rfl rfl (Blk.new W3 _ _) ?_; intro W4 h4 hc4))
  have HK4 := hide (show KB W4 W3.heap.size (readC B) (.slice A3 n3 k3) from h4)
  have HX4 := hide (HX3.out.stay (made_kb hc4))
  have HC4 := hide (HC3.out.stay (made_kb hc4))
  clear h4 hc4 HX3 HC3
  generalize W3.heap.size = bx at *
  clear W3
  go_wp2_with fail
  refine (rRead_any (HV.out.stay (HC.out.stay HC4.out)) H8.out (by have := HLB.out; omega)).mono ?_
  rintro e W5 ⟨⟨A5, n5, k5, rfl, hs5⟩, hc5⟩
  rw [(rRead_eq H8.out).1, (rRead_eq H8.out).2]
  rw [(rRead_eq H8.out).1] at hs5
  have HK5 := hide (KB.stay HK4.out hc5)
  have HX5 := hide (HX4.out.stay hc5)
  have HC5 := hide (HC4.out.stay hc5)
  have HY5 := hide hs5
  clear hs5 hc5 HK4 HX4 HC4
  go_upto_region 6 with (first | (refine wpList_alloc34 rfl rfl ?_; try go_simp) | (refine wpList_store34 (b := W5.heap.size) (y := readC B) (u := .slice A5 n5 k5) rfl _ _ rfl rfl rfl rfl (Blk.new W5 _ _) ?_; intro W6 h6 hc6))
  have HJ6 := hide (show KB W6 W5.heap.size (readC B) (.slice A5 n5 k5) from h6)
  have HK6 := hide (KB.stay HK5.out (made_kb hc6))
  have HX6 := hide (HX5.out.stay (made_kb hc6))
  have HC6 := hide (HC5.out.stay (made_kb hc6))
  have HY6 := hide (HY5.out.stay (made_kb hc6))
  clear h6 hc6 HK5 HX5 HC5 HY5
  generalize W5.heap.size = by_ at *
  clear W5 W4
  go_wp2_with fail
  refine (ReadRs_any (HIN.out W6 HC6.out) H8.out (by have := HLB.out; omega)).mono ?_
  rintro e W7 ⟨⟨A7, n7, k7, rfl, hs7, -⟩, hc7⟩
  have HJ7 := hide (KB.stay HJ6.out hc7)
  have HK7 := hide (KB.stay HK6.out hc7)
  have HX7 := hide (HX6.out.stay hc7)
  have HC7 := hide (HC6.out.stay hc7)
  have HY7 := hide (HY6.out.stay hc7)
  have HR7 := hide hs7.re
  clear hs7 hc7 HJ6 HK6 HX6 HC6 HY6
  go_upto_region 7 with (first | (refine wpList_allocRs rfl rfl ?_; try go_simp) | (refine wpList_storeRs (b := W7.heap.size) (y := readRs B) (u := .slice A7 n7 k7) rfl _ _ rfl rfl rfl rfl (Blk.new W7 _ _) ?_; intro W9 h9 hc9))
  have HZ9 := hide (show XB W9 W7.heap.size (readRs B) (.slice A7 n7 k7) from h9)
  have HJ9 := hide (KB.stay HJ7.out (made_kb hc9))
  have HK9 := hide (KB.stay HK7.out (made_kb hc9))
  have HX9 := hide (HX7.out.stay (made_kb hc9))
  have HC9 := hide (HC7.out.stay (made_kb hc9))
  have HY9 := hide (HY7.out.stay (made_kb hc9))
  have HR9 := hide (HR7.out.stay (made_kb hc9))
  clear h9 hc9 HJ7 HK7 HX7 HC7 HY7 HR7
  generalize W7.heap.size = br at *
  clear W7 W6
  go_wp2_with fail
  refine (rReadRs_any (HV.out.stay (HC.out.stay HC9.out)) H8.out (by have := HLB.out; omega)).mono ?_
  rintro e W10 ⟨⟨A10, n10, k10, rfl, hs10⟩, hc10⟩
  rw [(rReadRs_eq H8.out).1, (rReadRs_eq H8.out).2]
  rw [(rReadRs_eq H8.out).1] at hs10
  have HZ10 := hide (XB.stay HZ9.out hc10)
  have HJ10 := hide (KB.stay HJ9.out hc10)
  have HK10 := hide (KB.stay HK9.out hc10)
  have HX10 := hide (HX9.out.stay hc10)
  have HC10 := hide (HC9.out.stay hc10)
  have HY10 := hide (HY9.out.stay hc10)
  have HR10 := hide (HR9.out.stay hc10)
  have HS10 := hide hs10
  clear hs10 hc10 HZ9 HJ9 HK9 HX9 HC9 HY9 HR9
  go_upto_region 8 with (first | (refine wpList_allocRs rfl rfl ?_; try go_simp) | (refine wpList_storeRs (b := W10.heap.size) (y := readRs B) (u := .slice A10 n10 k10) rfl _ _ rfl rfl rfl rfl (Blk.new W10 _ _) ?_; intro W11 h11 hc11))
  have hc' := made_kb hc11
  have HO := hide (show QSt w W11 B bx by_ br W10.heap.size (.slice A3 n3 k3) (.slice A5 n5 k5) (.slice A7 n7 k7) (.slice A10 n10 k10) (.slice (some ⟨g8, o8, none⟩) (B ++ [77]).length c8) from
    ⟨HC.out.stay (HC10.out.stay hc'), KB.stay HK10.out hc', HX10.out.stay hc', KB.stay HJ10.out hc', HY10.out.stay hc', XB.stay HZ10.out hc', HR10.out.stay hc', h11, HS10.out.stay hc', HLG.out.stay (HC10.out.stay hc')⟩)
  clear h11 hc11 hc' HZ10 HJ10 HK10 HX10 HC10 HY10 HR10 HS10 HC HLG HIN
  generalize W10.heap.size = bs at *
  clear W10 W9
  generalize readE B = e1
  generalize readRsE B = e2
  go_wp2_with (first | (refine wpList_load34 rfl _ rfl rfl HO.out.kx ?_) | (refine wpList_load34 rfl _ rfl rfl HO.out.ky ?_))
  refine (rSame_any HO.out.sx HO.out.sy (readC_ok8 H8.out).l (readC_ok8 H8.out).l).mono ?_
  rw [same_self]
  rintro e W12 ⟨rfl, hc12⟩
  have HO12 := hide (HO.out.stay hc12)
  clear hc12 HO
  go_wp2_with (first | (refine wpList_loadRsW _ rfl rfl ?_ HO12.out.xr ?_; (focus (simp [Region.wanted, yielded]; done))) | (refine wpList_loadRsW _ rfl rfl ?_ HO12.out.xs ?_; (focus (simp [Region.wanted, yielded, Act.put]; done))))
  refine (rSameRs_any HO12.out.sr HO12.out.ss (readRs_ok8 H8.out).l (readRs_ok8 H8.out).l).mono ?_
  rw [sameRs_self8]
  rintro e W13 ⟨rfl, hc13⟩
  have HO := hide (HO12.out.stay hc13)
  clear hc13 HO12
  have hcb := run_str (HV.out.stay HO.out.chg) H8.out
  have hci := run_str (take_in HO.out.lg) H8.out
  have q0 := RE.cell ucl_len HO.out.lg.re (k := B.length) (by simp) (j := 0) (by omega) (u := .int .u8 77) (by simp [ucl])
  have hgl := World.block_lt_of_cell? _ _ q0
  simp only [Nat.mul_one, Nat.add_zero] at q0
  have hw1 : IntKind.i64.wrap ((B.length : Int) + 1) = (B.length : Int) + 1 := by rw [IntKind.wrap_i64]; have := HLB.out; omega
  have ht1 : ((B.length : Int) + 1).toNat = B.length + 1 := by omega
  have hk1 : (0 : Int) ≤ (B.length : Int) + 1 := by omega
  have hk2 : (B.length : Int) + 1 ≤ (c8 : Int) := by have := HC8.out; omega
  have hk3 : (B.length : Int) < ((B.length + 1 : Nat) : Int) := by omega
  have hk4 : (B.length : Int) < (B.length : Int) + 1 := by omega
  go_wp2_with fail
  refine (HKN.out _ HO.out.chg).mono ?_
  rintro e W14 ⟨rfl, hc14⟩
  go_wp2_with fail
  go_ret
  exact ⟨rfl, HO.out.chg.stay hc14⟩
end Go.Proofs.YtinlpjgjjplceaaDoor
