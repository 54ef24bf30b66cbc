/- The law's known calls; a call copied. -/
import Derived.Test.YtinlpjgjjplceaaDoorCaO
import Derived.Test.YtinlpjgjjplceaaDoorCaK
import Derived.Test.YtinlpjgjjplceaaDoorCfH
import Derived.Deep.CutRange
import Derived.Deep.CutBlock
namespace Go.Proofs.YtinlpjgjjplceaaDoor
open Go Go.RowKit

structure BC (l : List (Nat × Value)) (x : Cl) : Prop where
  h : Tryd.prog.built 34 l = some (clc x zV)
theorem wpList_build34 {ops : Array Oper} {rest : List Oper} {o : Oper} {a : Act} {w : World} {Q : Exit → Act → World → Prop} {x : Cl} (hg : o.guard = none) (parts : Array (Nat × Operand)) (ho : o.op = .build 34 parts)
    {l : List (Nat × Value)} (hb : BC l x) (hl : (parts.map fun (i, x) => (i, a.eval x)).toList = l) (h : wpList Tryd.prog ops Q rest (a.put o.dst (.agg (clc x zV))) w) : wpList Tryd.prog ops Q (o :: rest) a w :=
  wpList_build hg 34 parts ho (by rw [hl, hb.h]; rfl) (by rw [hl, hb.h]; exact h)
theorem wpList_build34W {ops : Array Oper} {rest : List Oper} {o : Oper} {a : Act} {w : World} {Q : Exit → Act → World → Prop} {x : Cl} (parts : Array (Nat × Operand)) (ho : o.op = .build 34 parts)
    {l : List (Nat × Value)} (hw : Region.wanted o (yielded ops a.tmps) = true) (hb : BC l x) (hl : (parts.map fun (i, x) => (i, a.eval x)).toList = l) (h : wpList Tryd.prog ops Q rest (a.put o.dst (.agg (clc x zV))) w) : wpList Tryd.prog ops Q (o :: rest) a w :=
  wpList_step fun K hK => by
    rw [if_pos hw]
    exact wp_build 34 parts ho (by rw [hl, hb.h]; rfl) (hK _ _ (by rw [hl, hb.h]; exact h))
def kn0 : Cl := { zCl with k := 2, p := 3 }
def kn1 : Cl := { zCl with k := 8, p := 1, a := 250, s := 8 }
def kn2 : Cl := { zCl with k := 8, p := 1, a := 248, s := 8 }
theorem kn0_built : BC [(0, .int .u8 2), (1, .int .i64 3)] kn0 := ⟨by kernel_rfl⟩
theorem kn1_built : BC [(0, .int .u8 8), (1, .int .i64 1), (5, .int .i64 250), (6, .int .i64 8)] kn1 := ⟨by kernel_rfl⟩
theorem kn2_built : BC [(0, .int .u8 8), (1, .int .i64 1), (5, .int .i64 248), (6, .int .i64 8)] kn2 := ⟨by kernel_rfl⟩
theorem kn0_ok : kn0.Ok := by constructor <;> simp [kn0, zCl]
theorem kn1_ok : kn1.Ok := by constructor <;> simp [kn1, zCl]
theorem kn2_ok : kn2.Ok := by constructor <;> simp [kn2, zCl]
theorem kn0_may : mayK kn0 = true := by decide
theorem kn1_may : mayK kn1 = true := by decide
theorem kn2_may : mayK kn2 = true := by decide
theorem kn0_enc : encC kn0 = [2, 0, 0, 0, 0, 0, 0, 0, 3, 0, 0, 0, 0, 0, 0, 0] := by kernel_rfl
theorem kn0_str : strB (encC kn0) = { data := #[2, 0, 0, 0, 0, 0, 0, 0, 3, 0, 0, 0, 0, 0, 0, 0] } := by rw [kn0_enc]; rfl
theorem kn0_read : readC (encC kn0) = kn0 := by rw [kn0_enc]; kernel_rfl
theorem kn0_readE : readE (encC kn0) = 0 := by rw [kn0_enc]; kernel_rfl
theorem least_mayB : mayB leastC = true := mayB_iff.2 least_may
theorem kn1_wrong : wrongK leastC kn1 = true := by
  have : t7K kn1 = true := by decide
  unfold wrongK; simp [this]
theorem kn2_wrong : wrongK leastC kn2 = false := by
  have h1 : t1K kn2 = false := by decide
  have h2 : t2K kn2 = false := by decide
  have h3 : t3K kn2 = false := by decide
  have h4 : t4K leastC kn2 = false := by unfold t4K; rw [show hasB kn2 110 = false by decide]; rfl
  have h5 : t5K leastC kn2 = false := by unfold t5K; rw [show hasB kn2 111 = false by decide]; rfl
  have h6 : t6K kn2 = false := by decide
  have h7 : t7K kn2 = false := by decide
  have h8 : t8K kn2 = false := by decide
  unfold wrongK; simp [h1, h2, h3, h4, h5, h6, h7, h8, least_mayB, kn2_may]
set_option maxRecDepth 20000 in
set_option maxHeartbeats 40000000 in
theorem knownK_any {w : World} (hf : FW w) : Calls Tryd.prog 10 #[] w fun e w' => e = .returned (.bool true) ∧ Chg [] w w' := by
  have hnil : ∀ W, RB W zV [] := fun W => RE.nil ucl 1 W none 0
  have HBY := hide (Bytes_any hf kn0_ok (v := zV) (hnil w))
  have HRD := hide (fun W (h : Chg [] w W) v (hv : RB W v (encC kn0)) => Read_any (hf.stay h) hv (by rw [kn0_enc]; decide) (by rw [kn0_enc]; decide))
  have HL := hide (fun W => least_any W)
  have H1 := hide (fun W (h : Chg [] w W) => WrongK_any (hf.stay h) leastC kn1_ok (v := zV) (hnil W))
  have H2 := hide (fun W (h : Chg [] w W) => WrongK_any (hf.stay h) leastC kn2_ok (v := zV) (hnil W))
  have D0 := hide kn0_built
  have D1 := hide kn1_built
  have D2 := hide kn2_built
  have HR0 := hide kn0_read
  have HP0 := hide (show kn0.p = 3 from rfl)
  have HM0 := hide kn0_may
  have HS0 := hide kn0_str
  have h80 : ∀ b ∈ encC kn0, b < 256 := by rw [kn0_enc]; decide
  have H80 := hide h80
  clear h80
  rw [kn1_wrong] at H1
  rw [kn2_wrong] at H2
  generalize kn1 = k1 at H1 D1
  generalize kn2 = k2 at H2 D2
  have HE0 := hide kn0_readE
  generalize kn0 = k0 at HBY HRD D0 HR0 HP0 HM0 HS0 H80 HE0
  clear hnil
  go_enter Tryd.func10, Tryd.ntmps10
  go_wp2_with (first | (refine wpList_build34 rfl _ rfl D0.out ?_ ?_; (focus (simp [Act.eval]; done))))
  refine HBY.out.mono ?_
  rintro e W3 ⟨hb3, hc3⟩
  obtain ⟨h, -⟩ | ⟨-, A, n, c, rfl, hs, hfr⟩ := hb3
  · rw [HM0.out] at h; cases h
  go_wp2_with fail
  refine (HRD.out W3 hc3 _ hs.rd).mono ?_
  rintro e W4 ⟨⟨A4, n4, c4, rfl, hs4, hfr4⟩, hc4⟩
  rw [HR0.out, HE0.out] at *
  have hb4 : KB (W4.alloc (.cells (clc zCl zV) 34)) W4.heap.size zCl zV := Blk.new W4 34 _
  have HCV := hide (fun W (h : Chg [] W3 W) => run_str (SE.re (hs.stay h)) H80.out)
  rw [HS0.out] at HCV
  have HC4 := hide hc4
  have HC3 := hide hc3
  clear hfr hs hc3 hs4 hfr4 HBY HRD hf H80 HE0 HS0 HM0 D0 hc4
  go_upto_region 3 with (first | (refine wpList_alloc34 rfl rfl ?_) | (refine wpList_store34 (b := W4.heap.size) (y := k0) (u := .slice A4 n4 c4) rfl _ _ rfl rfl rfl rfl hb4 ?_; intro W5 h5 hc5))
  have hc45 : Chg [] W4 W5 := ((Chg.refl [] W4).alloc _).trans hc5 (fun y hy => .inr (by obtain rfl := List.mem_singleton.1 hy; omega))
  have HC5 := hide (HC4.out.trans hc45 (fun y hy => absurd hy List.not_mem_nil))
  have HC05 := hide (HC3.out.trans HC5.out (fun y hy => absurd hy List.not_mem_nil))
  obtain ⟨-, x1, -, -, -, -, -, -, -, -, -, -, xl, -⟩ := KB.cells h5
  rw [HP0.out] at x1
  have hcv := HCV.out W5 HC5.out
  clear h5 hc5 hb4 hc45 HCV HC4 HC3 HR0 HP0
  go_wp2_with fail
  refine (HL.out _).mono ?_
  rintro e W6 ⟨rfl, hc6⟩
  have HC6 := hide (HC05.out.stay hc6)
  clear hc6
  go_wp2_with (first | (refine wpList_build34W _ rfl ?_ D1.out ?_ ?_; (focus (simp [Region.wanted, yielded]; done)); (focus (simp [Act.eval]; done))))
  refine (H1.out _ HC6.out).mono ?_
  rintro e W7 ⟨rfl, hc7⟩
  have HC7 := hide hc7
  clear hc7
  go_wp2_with fail
  refine (HL.out _).mono ?_
  rintro e W8 ⟨rfl, hc8⟩
  have HC8 := hide ((HC6.out.stay HC7.out).stay hc8)
  clear hc8
  go_wp2_with (first | (refine wpList_build34W _ rfl ?_ D2.out ?_ ?_; (focus (simp [Region.wanted, yielded]; done)); (focus (simp [Act.eval]; done))))
  refine (H2.out _ HC8.out).mono ?_
  rintro e W9 ⟨rfl, hc9⟩
  have HC9 := hide (HC8.out.stay hc9)
  clear hc9
  go_wp2_with fail
  go_ret
  exact ⟨rfl, HC9.out⟩
end Go.Proofs.YtinlpjgjjplceaaDoor
