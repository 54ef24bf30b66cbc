/- Texts merged for the claim: MtB, MrA, CfO, CcD, MrO. -/
import Derived.Test.YtfoleblcaloeoaaDoorZas
import Derived.Test.YtfoleblcaloeoaaDoorZar
import Derived.Test.YtfoleblcaloeoaaDoorZab
import Derived.Test.YtfoleblcaloeoaaDoorZai
import Derived.Deep.CutRange
import Derived.Deep.CutBlock
import Derived.Carry
import Derived.ProofKit
import Derived.OpenShut
import Derived.Test.YtfoleblcaloeoaaDoorTie
import Derived.LaidMore
import Derived.Lay
import Derived.MakeChecks
/- ModelRights: its walk (printed by genmtb.py). -/
namespace Go.Proofs.YtfoleblcaloeoaaDoor
open Go Go.RowKit

theorem ix_two0 (a b : Int) (W : World) : (Instr.index 54 (.agg #[.int .u8 a, .int .u8 b]) (.int .i64 0)).run Tryd.prog W = .ok (.int .u8 a) W := by
  simp [Instr.index, run_underlying Tryd.underlying54, asIntOf, size5, go_sem, Result.andThen]
theorem ix_two1 (a b : Int) (W : World) : (Instr.index 54 (.agg #[.int .u8 a, .int .u8 b]) (.int .i64 1)).run Tryd.prog W = .ok (.int .u8 b) W := by
  simp [Instr.index, run_underlying Tryd.underlying54, asIntOf, size5, go_sem, Result.andThen]
theorem rt_one {g r : Int} : Ar.rt [⟨g, 1, r⟩] g = r := by
  unfold Ar.rt
  exact if_pos (show g ≤ g ∧ g < g + 1 by omega)
set_option maxRecDepth 20000 in
set_option maxHeartbeats 40000000 in
theorem rights_law {w : World} (hf : FW w) (c : Cf) {g : Int} {r1 r2 : Nat} {b : List Nat} {vb : Value} (hvb : RB w vb b) (hb8 : ∀ y ∈ b, y < 256) :
    Calls Tryd.prog 6 #[.agg (cg c), .int .i64 g, .int .u8 r1, .int .u8 r2, vb] w fun e w' => e = .returned (.bool true) ∧ Chg [] w w' := by
  obtain ⟨A0, c0, rfl⟩ := RE.form hvb
  obtain ⟨bl, hbl⟩ : ∃ n, n = b.length := ⟨_, rfl⟩
  rw [← hbl] at hvb ⊢
  obtain ⟨z1, hz1⟩ : ∃ z : Int, z = (r1 : Int) := ⟨_, rfl⟩
  obtain ⟨z2, hz2⟩ : ∃ z : Int, z = (r2 : Int) := ⟨_, rfl⟩
  rw [← hz1, ← hz2]
  have HZ1 := hide hz1
  have HZ2 := hide hz2
  have HBLN := hide hbl
  have HF := hide hf
  have HM := hide (fun W => rMay_any c W)
  have HK := hide (fun W (h : Chg [] w W) => known_any (hf.stay h))
  have HVB := hide (fun W (h : Chg [] w W) => RE.stay hvb h)
  have HB8 := hide hb8
  obtain ⟨W1, hW1⟩ : ∃ W1, W1 = w.alloc (.cells (cg c) 26) := ⟨_, rfl⟩
  have hb2 : CB W1 w.heap.size c := by rw [hW1]; exact Blk.new w 26 _
  have hc1 : Chg [] w W1 := by rw [hW1]; exact (Chg.refl [] w).alloc _
  have HB2 := hide hb2
  have HC1 := hide hc1
  have HW1 := hide hW1
  clear hf hb2 hc1 hW1 hvb hb8 hbl hz1 hz2
  go_enter Tryd.func6, Tryd.ntmps6
  go_wp2_with (first | (refine wpList_box26 rfl _ rfl rfl ?_; try rw [← HW1.out]) | (refine wpList_load26L (b := w.heap.size) (c := c) rfl _ rfl rfl ?_ ?_; (focus exact HB2.out)))
  refine (HM.out _).mono ?_
  rintro e W2 ⟨rfl, hc2⟩
  have HC2 := hide (HC1.out.stay hc2)
  have HB22 := hide (show CB W2 w.heap.size c from Blk.chg HB2.out hc2 List.not_mem_nil)
  clear hc2
  cases hm : mayB c with
  | false =>
    clear hm
    go_wp2_with fail
    refine (HK.out _ HC2.out).mono ?_
    rintro e W9 ⟨rfl, hc9⟩
    go_wp2_with fail
    go_ret
    exact ⟨rfl, HC2.out.stay hc9⟩
  | true =>
  have HMB := hide hm
  clear hm
  by_cases g0 : g < 0
  · have dg0 : decide (g < 0) = true := decide_eq_true g0
    clear g0
    go_wp2_with fail
    refine (HK.out _ HC2.out).mono ?_
    rintro e W9 ⟨rfl, hc9⟩
    go_wp2_with fail
    go_ret
    exact ⟨rfl, HC2.out.stay hc9⟩
  have dg0 : decide (g < 0) = false := decide_eq_false g0
  skip
  by_cases g1 : 1023 < g
  · have dg1 : decide (1023 < g) = true := decide_eq_true g1
    clear g1
    go_wp2_with fail
    refine (HK.out _ HC2.out).mono ?_
    rintro e W9 ⟨rfl, hc9⟩
    go_wp2_with fail
    go_ret
    exact ⟨rfl, HC2.out.stay hc9⟩
  have dg1 : decide (1023 < g) = false := decide_eq_false g1
  skip
  by_cases a0 : z1 < 1
  · have da0 : decide (z1 < 1) = true := decide_eq_true a0
    clear a0
    go_wp2_with fail
    refine (HK.out _ HC2.out).mono ?_
    rintro e W9 ⟨rfl, hc9⟩
    go_wp2_with fail
    go_ret
    exact ⟨rfl, HC2.out.stay hc9⟩
  have da0 : decide (z1 < 1) = false := decide_eq_false a0
  skip
  by_cases a1 : 3 < z1
  · have da1 : decide (3 < z1) = true := decide_eq_true a1
    clear a1
    go_wp2_with fail
    refine (HK.out _ HC2.out).mono ?_
    rintro e W9 ⟨rfl, hc9⟩
    go_wp2_with fail
    go_ret
    exact ⟨rfl, HC2.out.stay hc9⟩
  have da1 : decide (3 < z1) = false := decide_eq_false a1
  skip
  by_cases b0 : z2 < 1
  · have db0 : decide (z2 < 1) = true := decide_eq_true b0
    clear b0
    go_wp2_with fail
    refine (HK.out _ HC2.out).mono ?_
    rintro e W9 ⟨rfl, hc9⟩
    go_wp2_with fail
    go_ret
    exact ⟨rfl, HC2.out.stay hc9⟩
  have db0 : decide (z2 < 1) = false := decide_eq_false b0
  skip
  by_cases b1 : 3 < z2
  · have db1 : decide (3 < z2) = true := decide_eq_true b1
    clear b1
    go_wp2_with fail
    refine (HK.out _ HC2.out).mono ?_
    rintro e W9 ⟨rfl, hc9⟩
    go_wp2_with fail
    go_ret
    exact ⟨rfl, HC2.out.stay hc9⟩
  have db1 : decide (3 < z2) = false := decide_eq_false b1
  skip
  by_cases l0 : (bl : Int) < 1
  · have dl0 : decide ((bl : Int) < 1) = true := decide_eq_true l0
    obtain rfl : bl = 0 := by omega
    clear l0
    go_wp2_with fail
    refine (HK.out _ HC2.out).mono ?_
    rintro e W9 ⟨rfl, hc9⟩
    go_wp2_with fail
    go_ret
    exact ⟨rfl, HC2.out.stay hc9⟩
  have dl0 : decide ((bl : Int) < 1) = false := decide_eq_false l0
  have dl0' : bl ≠ 0 := by omega
  by_cases l1 : 8 < (bl : Int)
  · have dl1 : decide (8 < (bl : Int)) = true := decide_eq_true l1
    have dl1' : decide (8 < bl) = true := decide_eq_true (by omega)
    clear l1
    go_wp2_with fail
    refine (HK.out _ HC2.out).mono ?_
    rintro e W9 ⟨rfl, hc9⟩
    go_wp2_with fail
    go_ret
    exact ⟨rfl, HC2.out.stay hc9⟩
  have dl1 : decide (8 < (bl : Int)) = false := decide_eq_false l1
  have dl1' : decide (8 < bl) = false := decide_eq_false (by omega)
  go_wp2_with (first | (refine wpList_load26L (b := w.heap.size) (c := c) rfl _ rfl rfl ?_ ?_; (focus exact HB22.out)))
  refine (New_ms (L := []) HMB.out HC2.out (fun k hk => by cases hk)).mono ?_
  rintro e W3 ⟨⟨m, rfl, hms⟩, hc3⟩
  have HMS := hide hms
  have HG := hide (show 0 ≤ g ∧ g ≤ 1023 by omega)
  have HR1 := hide (show 1 ≤ r1 ∧ r1 ≤ 3 by have := HZ1.out; omega)
  have HR2 := hide (show 1 ≤ r2 ∧ r2 ≤ 3 by have := HZ2.out; omega)
  have HBL := hide (show 1 ≤ bl ∧ bl ≤ 8 by omega)
  have D1 := hide sp_built
  have DM := hide (mm_built g 3)
  have E0 := hide br_0
  have E1 := hide (br_v 1)
  have E190 := hide (br_e 190)
  have EB := hide (br_l A0 bl c0 b)
  clear hms hc3 dg0 g0 dg1 g1 da0 a0 da1 a1 db0 b0 db1 b1 dl0 l0 dl1 l1 dl0' dl1'
  go_wp2_with (first | (refine wpList_build34W _ rfl ?_ D1.out ?_ ?_; (focus (simp [Region.wanted, yielded, Act.put]; done)); (focus (simp [Act.eval, Act.put]; done))) | (refine wpList_buildRsW _ rfl ?_ E1.out ?_ ?_; (focus (simp [Region.wanted, yielded, Act.put]; done)); (focus (simp [Act.eval, Act.put]; done))))
  refine (Step_ms (r := ⟨0, 1, []⟩) HMS.out HF.out sp_ok (RE.nil ucl 1 _ none 0) (rs_ok (by omega) (by omega)) (RE.nil ucl 1 _ none 0)).mono ?_
  rintro e W4 ⟨rfl, hms, hkp⟩
  have hs := pi_map HMB.out HG.out
  rw [hs.1]
  have HS := hide hs.2
  have HMS4 := hide hms
  clear hs hms hkp
  go_wp2_with (first | (refine wpList_build34W _ rfl ?_ DM.out ?_ ?_; (focus (simp [Region.wanted, yielded, Act.put]; done)); (focus (simp [Act.eval, Act.put]; done))) | (refine wpList_buildRsW _ rfl ?_ E0.out ?_ ?_; (focus (simp [Region.wanted, yielded, Act.put]; done)); (focus (simp [Act.eval, Act.put]; done))))
  refine (Step_ms (r := ⟨0, 0, []⟩) HMS4.out HF.out (mm_ok HG.out (by omega)) (RE.nil ucl 1 _ none 0) (rs_ok (by omega) (by omega)) (RE.nil ucl 1 _ none 0)).mono ?_
  rintro e W5 ⟨rfl, hms, hkp⟩
  have hs := HS.out
  rw [hs.1]
  obtain ⟨M2, hM2⟩ : ∃ N, N = stepM (stepM (newMo c) cSp ⟨0, 1, []⟩) (cMm g 1 3) ⟨0, 0, []⟩ := ⟨_, rfl⟩
  rw [← hM2] at hms hs
  obtain ⟨-, hcc, q, hq, hqr, hqp⟩ := hs
  have HS2 := hide (pi_first (b := b) (o := 0) hcc HMB.out hq hqr hqp HG.out (by have := HBL.out; have := HBLN.out; omega) (by have := HBL.out; have := HBLN.out; omega))
  have e0 : 256 * g + ((0 : Nat) : Int) = 256 * g := by omega
  rw [e0] at HS2
  have HMS5 := hide hms
  have hwm : IntKind.i64.wrap (256 * g) = 256 * g := by have := HG.out; rw [IntKind.wrap_i64]; omega
  have DS := hide (st_built (256 * g) b A0 bl c0)
  have DL := hide (ld_built (256 * g) bl)
  clear hcc hq hqr hqp hms hkp hM2 HS HMS4 HMS
  go_upto_region 7 with (first | (refine wpList_build34 rfl _ rfl DS.out ?_ ?_; (focus (simp [Act.eval, Act.put]; done))) | (refine wpList_alloc34 rfl rfl ?_; try go_simp) | (refine wpList_store34 (b := W5.heap.size) (y := cSt (256 * g) b) (u := .slice A0 bl c0) rfl _ _ rfl rfl rfl rfl (Blk.new W5 _ _) ?_; intro W6 h4 hc4; have H13 := hide h4; have HC13 := hide (show Chg [] W5 W6 from ((Chg.refl [] W5).alloc _).trans hc4 (fun y hy => .inr (by obtain rfl := List.mem_singleton.1 hy; exact Nat.le_refl _))); clear h4 hc4))
  obtain ⟨b13, hb13⟩ : ∃ b, b = W5.heap.size := ⟨_, rfl⟩
  rw [← hb13] at H13 ⊢
  have HMS6 := hide (show MS w [b13] W6 m M2 from HMS5.out.guard HC13.out [b13] (fun k hk => by obtain rfl := List.mem_singleton.1 hk; have := H13.out.lt; omega))
  clear hb13
  go_upto_region 8 with (first | (refine wpList_build34 rfl _ rfl DL.out ?_ ?_; (focus (simp [Act.eval, Act.put]; done))) | (refine wpList_alloc34 rfl rfl ?_; try go_simp) | (refine wpList_store34 (b := W6.heap.size) (y := cLd (256 * g) bl) (u := zV) rfl _ _ rfl rfl rfl rfl (Blk.new W6 _ _) ?_; intro W7 h4 hc4; have H14 := hide h4; have HC14 := hide (show Chg [] W6 W7 from ((Chg.refl [] W6).alloc _).trans hc4 (fun y hy => .inr (by obtain rfl := List.mem_singleton.1 hy; exact Nat.le_refl _))); clear h4 hc4))
  obtain ⟨b14, hb14⟩ : ∃ b, b = W6.heap.size := ⟨_, rfl⟩
  rw [← hb14] at H14 ⊢
  have HMS7 := hide (show MS w ([b14] ++ [b13]) W7 m M2 from HMS6.out.guard HC14.out [b14] (fun k hk => by obtain rfl := List.mem_singleton.1 hk; have := H14.out.lt; omega))
  have H137 := hide (show KB W7 b13 (cSt (256 * g) b) (.slice A0 bl c0) from H13.out.chg HC14.out List.not_mem_nil)
  clear hb14 hwm
  go_wp2_with (first | (refine wpList_load34 rfl _ rfl rfl H137.out ?_) | (refine wpList_buildRs rfl _ rfl E0.out ?_ ?_; (focus (simp [Act.eval, Act.put]; done))))
  refine (Step_ms (r := ⟨0, 0, []⟩) HMS7.out HF.out (st_ok (by have := HG.out; omega) HB8.out) (HVB.out W7 HMS7.out.chg) (rs_ok (by omega) (by omega)) (RE.nil ucl 1 _ none 0)).mono ?_
  rintro e W8 ⟨rfl, hms, hkp⟩
  rw [HS2.out.1]
  obtain ⟨M3, hM3⟩ : ∃ N, N = stepM M2 (cSt (256 * g) b) ⟨0, 0, []⟩ := ⟨_, rfl⟩
  have HI := HS2.out.2
  rw [← hM3] at hms HI
  have HI3 := hide HI
  have HMS8 := hide hms
  have H138 := hide (show KB W8 b13 (cSt (256 * g) b) (.slice A0 bl c0) from hkp.blk H137.out (by simp))
  have H148 := hide (show KB W8 b14 (cLd (256 * g) bl) zV from hkp.blk H14.out (by simp))
  clear hM3 hms hkp HI HS2
  go_wp2_with fail
  go_loopw [95] (fun i wr => ∃ k : Nat, k ≤ 2 ∧ i = .int .i64 k ∧ ∃ M, ∃ r : Int, 1 ≤ r ∧ r ≤ 3 ∧ Hid (MS w ([b14] ++ [b13]) wr m M) ∧ Hid (PgI M g [⟨g, 1, r⟩] b 0) ∧ Hid (KB wr b13 (cSt (256 * g) b) (.slice A0 bl c0)) ∧ Hid (KB wr b14 (cLd (256 * g) bl) zV)) (fun i _ => 2 - (intOf i).toNat)
  case atStart => exact ⟨0, by omega, rfl, M3, 3, by omega, by omega, HMS8, HI3, H138, H148⟩
  case round =>
    obtain ⟨k, hk, rfl, M, r, h1, h3, hms, hpi, h13, h14⟩ := hrel
    have HR := hide (And.intro h1 h3)
    have HMSr := hide hms.out
    have HPI := hide hpi.out
    have H13r := hide h13.out
    have H14r := hide h14.out
    clear h1 h3 hms hpi h13 h14
    have e0 : 256 * g + ((0 : Nat) : Int) = 256 * g := by omega
    have hbb : 1 ≤ b.length ∧ b.length ≤ 8 := by have := HBL.out; have := HBLN.out; omega
    rcases (show k = 0 ∨ k = 1 ∨ k = 2 by omega) with rfl | rfl | rfl
    · obtain ⟨s, hs⟩ : ∃ s, s = r1 := ⟨_, rfl⟩
      have HZ := hide (show z1 = (s : Int) by rw [hs]; exact HZ1.out)
      have H13s := hide (show 1 ≤ s ∧ s ≤ 3 by rw [hs]; exact HR1.out)
      clear hs HZ1 HR1 hk
      rcases (show s = 1 ∨ s = 2 ∨ s = 3 by have := H13s.out; omega) with rfl | rfl | rfl
      · obtain rfl : z1 = 1 := HZ.out
        have hix0 := ix_two0 1 z2
        have hix1 := ix_two1 1 z2
        have DP := hide (show BC [(0, .int .u8 5), (1, .int .i64 1), (3, .int .i64 g), (4, .int .i64 1), (7, .int .u8 1)] (cPr g 1 1) zV from pr_built g 1)
        go_wp2_with (first | (refine wpList_build34 rfl _ rfl DP.out ?_ ?_; (focus (simp [Act.eval, Act.put]; done))) | (refine wpList_buildRs rfl _ rfl E0.out ?_ ?_; (focus (simp [Act.eval, Act.put]; done))))
        refine (Step_ms (r := ⟨0, 0, []⟩) HMSr.out HF.out (pr_ok (r := 1) HG.out (by omega)) (RE.nil ucl 1 _ none 0) (rs_ok (by omega) (by omega)) (RE.nil ucl 1 _ none 0)).mono ?_
        rintro e V5 ⟨rfl, hms, hkp⟩
        have hs := pi_prot (s := 1) (o := 0) HPI.out HG.out HR.out (by omega)
        rw [hs.1]
        obtain ⟨M4, hM4⟩ : ∃ N, N = stepM M (cPr g 1 1) ⟨0, 0, []⟩ := ⟨_, rfl⟩
        rw [← hM4] at hms hs
        have HPI4 := hide hs.2
        have h_l := pi_load hs.2 HG.out hbb (by omega) (by rw [rt_one]; decide)
        have h_s := pi_store hs.2 HG.out hbb (by omega) (by rw [rt_one]; decide)
        rw [rt_one, e0] at h_l h_s
        rw [← HBLN.out] at h_l
        have HL1 := hide (show stepB M4 (cLd (256 * g) bl) ⟨0, 0, b⟩ = true from h_l.1)
        have HL2 := hide (show stepB M4 (cLd (256 * g) bl) (plainR 190) = false from h_l.2.1)
        have HL3 := hide (show stepB M4 (cSt (256 * g) b) ⟨0, 0, []⟩ = false from h_s.1)
        have HL4 := hide (show stepB M4 (cSt (256 * g) b) (plainR 190) = true from h_s.2)
        have HMS5 := hide hms
        have H13q := hide (show KB V5 b13 (cSt (256 * g) b) (.slice A0 bl c0) from hkp.blk H13r.out (by simp))
        have H14q := hide (show KB V5 b14 (cLd (256 * g) bl) zV from hkp.blk H14r.out (by simp))
        clear hs hM4 hms hkp h_l h_s HMSr HPI
        go_upto_region 16 with (first | (refine wpList_allocRs rfl rfl ?_; try go_simp) | (refine wpList_buildRs rfl _ rfl E190.out ?_ ?_; (focus (simp [Act.eval, Act.put]; done))) | (refine wpList_storeRs (b := V5.heap.size) (y := plainR 190) (u := zV) rfl _ _ rfl rfl rfl rfl (Blk.new V5 _ _) ?_; intro V6 h4 hc4; have H17 := hide h4; have HC6 := hide (show Chg [] V5 V6 from ((Chg.refl [] V5).alloc _).trans hc4 (fun y hy => .inr (by obtain rfl := List.mem_singleton.1 hy; exact Nat.le_refl _))); clear h4 hc4))
        have HMSs := hide (HMS5.out.stay HC6.out)
        have H13p := hide (fun W (h : Chg [] V6 W) => KB.load (H13q.out.stay (HC6.out.stay h)))
        have H14p := hide (fun W (h : Chg [] V6 W) => KB.load (H14q.out.stay (HC6.out.stay h)))
        obtain ⟨b17, hb17⟩ : ∃ b, b = V5.heap.size := ⟨_, rfl⟩
        rw [← hb17] at H17 ⊢
        have H17p := hide (fun W (h : Chg [] V6 W) => XB.load (XB.stay H17.out h))
        have HLOK := hide (show (cLd (256 * g) (bl : Nat)).Ok from ld_ok (by have := HG.out; omega) (by have := HBL.out; omega))
        have HSOK := hide (show (cSt (256 * g) b).Ok from st_ok (by have := HG.out; omega) HB8.out)
        have HROK := hide (show (⟨0, 0, b⟩ : Rs).Ok from ⟨by (show (-9223372036854775808 : Int) ≤ 0 ∧ (0 : Int) ≤ _); omega, by (show (0 : Nat) < _); omega, HB8.out⟩)
        clear hb17 e0 hbb
        refine wp_region_t [0,6,5,0,0,6,0,0,0,0,0,0,6,5,5,6,0,0,0,0,0,0,0,6,5,0,6,0,0,0,0,0,0,6,5,5,6,0,0,0,0] [none, none, none, none, none, none, none, none, none, none, none, some (116, false), some (116, false), some (116, false), some (116, false), some (116, false), some (116, false), some (116, false), some (116, false), some (116, false), none, none, some (127, false), some (127, false), some (127, false), some (127, false), some (127, false), some (127, false), some (127, false), some (127, false), none, none, some (137, false), some (137, false), some (137, false), some (137, false), some (137, false), some (137, false), some (137, false), some (137, false), none] (fun W => Chg [] V6 W) (by kernel_rfl) (by kernel_rfl) (by kernel_rfl) ?_
        have hS : Chg [] V6 V6.drew := (Chg.refl [] V6).drew
        generalize V6.drew = W0 at hS ⊢
        go_wp2_with (first | (refine wpG_hload 42 _ rfl rfl (fun w' hw' => H13p.out w' hw') hS ?_) | (refine wpG_hload 42 _ rfl rfl (fun w' hw' => H14p.out w' hw') hS ?_) | (refine wpG_hload 45 _ rfl rfl (fun w' hw' => H17p.out w' hw') hS ?_) | (refine wpG_buildRs _ rfl EB.out ?_ ?_; (focus (simp [Act.eval, Act.put]; done))) | (refine wpG_buildRs _ rfl E0.out ?_ ?_; (focus (simp [Act.eval, Act.put]; done))) | (refine wpG_calc rfl (fun K hK => ?_)) | (refine wpG_skip ?_ ?_; (focus (simp [wantG]; done)); go_simp) | (refine wpG_take ?_ ?_; (focus (simp [wantG]; done))) | (refine wpG_pure (fun K hK => ?_); go_simp; refine hK _ _ ?_; clear hK K) | (refine wpG_deed (by decide) (fun K hK => ?_); go_simp) | (refine wpG_nil ?_))
        (refine wpG_keeps hS (fun K hK => ?_))
        go_simp
        have HF1 := hide (HF.out.stay (HMSs.out.chg.stay hS))
        refine (Copy_ms (HMSs.out.stay hS)).mono ?_
        rintro e X1 ⟨⟨mc, rfl, hmc⟩, hcx⟩
        have hS0 := hS
        replace hS := hS.stay hcx
        refine hK _ _ hS ?_
        clear hK K
        go_wp2_with (first | (refine wpG_hload 42 _ rfl rfl (fun w' hw' => H13p.out w' hw') hS ?_) | (refine wpG_hload 42 _ rfl rfl (fun w' hw' => H14p.out w' hw') hS ?_) | (refine wpG_hload 45 _ rfl rfl (fun w' hw' => H17p.out w' hw') hS ?_) | (refine wpG_buildRs _ rfl EB.out ?_ ?_; (focus (simp [Act.eval, Act.put]; done))) | (refine wpG_buildRs _ rfl E0.out ?_ ?_; (focus (simp [Act.eval, Act.put]; done))) | (refine wpG_calc rfl (fun K hK => ?_)) | (refine wpG_skip ?_ ?_; (focus (simp [wantG]; done)); go_simp) | (refine wpG_take ?_ ?_; (focus (simp [wantG]; done))) | (refine wpG_pure (fun K hK => ?_); go_simp; refine hK _ _ ?_; clear hK K) | (refine wpG_deed (by decide) (fun K hK => ?_); go_simp) | (refine wpG_nil ?_))
        have hv1 := HVB.out X1 (HMSs.out.chg.stay hS)
        (refine wpG_keeps hS (fun K hK => ?_))
        go_simp
        refine (Step_copy (r := ⟨0, 0, b⟩) hmc HF1.out HLOK.out (RE.nil ucl 1 _ none 0) HROK.out hv1).mono ?_
        rintro e Y1 ⟨rfl, hcy⟩
        rw [HL1.out]
        replace hS : Chg [] V6 Y1 := hS0.stay hcy
        clear hv1 hS0 hcx hcy hmc HF1
        refine hK _ _ hS ?_
        clear hK K
        go_wp2_with (first | (refine wpG_hload 42 _ rfl rfl (fun w' hw' => H13p.out w' hw') hS ?_) | (refine wpG_hload 42 _ rfl rfl (fun w' hw' => H14p.out w' hw') hS ?_) | (refine wpG_hload 45 _ rfl rfl (fun w' hw' => H17p.out w' hw') hS ?_) | (refine wpG_buildRs _ rfl EB.out ?_ ?_; (focus (simp [Act.eval, Act.put]; done))) | (refine wpG_buildRs _ rfl E0.out ?_ ?_; (focus (simp [Act.eval, Act.put]; done))) | (refine wpG_calc rfl (fun K hK => ?_)) | (refine wpG_skip ?_ ?_; (focus (simp [wantG]; done)); go_simp) | (refine wpG_take ?_ ?_; (focus (simp [wantG]; done))) | (refine wpG_pure (fun K hK => ?_); go_simp; refine hK _ _ ?_; clear hK K) | (refine wpG_deed (by decide) (fun K hK => ?_); go_simp) | (refine wpG_nil ?_))
        (refine wpG_keeps hS (fun K hK => ?_))
        go_simp
        have HF2 := hide (HF.out.stay (HMSs.out.chg.stay hS))
        refine (Copy_ms (HMSs.out.stay hS)).mono ?_
        rintro e X2 ⟨⟨mc, rfl, hmc⟩, hcx⟩
        have hS0 := hS
        replace hS := hS.stay hcx
        refine hK _ _ hS ?_
        clear hK K
        go_wp2_with (first | (refine wpG_hload 42 _ rfl rfl (fun w' hw' => H13p.out w' hw') hS ?_) | (refine wpG_hload 42 _ rfl rfl (fun w' hw' => H14p.out w' hw') hS ?_) | (refine wpG_hload 45 _ rfl rfl (fun w' hw' => H17p.out w' hw') hS ?_) | (refine wpG_buildRs _ rfl EB.out ?_ ?_; (focus (simp [Act.eval, Act.put]; done))) | (refine wpG_buildRs _ rfl E0.out ?_ ?_; (focus (simp [Act.eval, Act.put]; done))) | (refine wpG_calc rfl (fun K hK => ?_)) | (refine wpG_skip ?_ ?_; (focus (simp [wantG]; done)); go_simp) | (refine wpG_take ?_ ?_; (focus (simp [wantG]; done))) | (refine wpG_pure (fun K hK => ?_); go_simp; refine hK _ _ ?_; clear hK K) | (refine wpG_deed (by decide) (fun K hK => ?_); go_simp) | (refine wpG_nil ?_))
        have hv2 := HVB.out X2 (HMSs.out.chg.stay hS)
        (refine wpG_keeps hS (fun K hK => ?_))
        go_simp
        refine (Step_copy (r := plainR 190) hmc HF2.out HLOK.out (RE.nil ucl 1 _ none 0) (rs_ok (by omega) (by omega)) (RE.nil ucl 1 _ none 0)).mono ?_
        rintro e Y2 ⟨rfl, hcy⟩
        rw [HL2.out]
        replace hS : Chg [] V6 Y2 := hS0.stay hcy
        clear hv2 hS0 hcx hcy hmc HF2
        refine hK _ _ hS ?_
        clear hK K
        go_wp2_with (first | (refine wpG_hload 42 _ rfl rfl (fun w' hw' => H13p.out w' hw') hS ?_) | (refine wpG_hload 42 _ rfl rfl (fun w' hw' => H14p.out w' hw') hS ?_) | (refine wpG_hload 45 _ rfl rfl (fun w' hw' => H17p.out w' hw') hS ?_) | (refine wpG_buildRs _ rfl EB.out ?_ ?_; (focus (simp [Act.eval, Act.put]; done))) | (refine wpG_buildRs _ rfl E0.out ?_ ?_; (focus (simp [Act.eval, Act.put]; done))) | (refine wpG_calc rfl (fun K hK => ?_)) | (refine wpG_skip ?_ ?_; (focus (simp [wantG]; done)); go_simp) | (refine wpG_take ?_ ?_; (focus (simp [wantG]; done))) | (refine wpG_pure (fun K hK => ?_); go_simp; refine hK _ _ ?_; clear hK K) | (refine wpG_deed (by decide) (fun K hK => ?_); go_simp) | (refine wpG_nil ?_))
        (refine wpG_keeps hS (fun K hK => ?_))
        go_simp
        have HF3 := hide (HF.out.stay (HMSs.out.chg.stay hS))
        refine (Copy_ms (HMSs.out.stay hS)).mono ?_
        rintro e X3 ⟨⟨mc, rfl, hmc⟩, hcx⟩
        have hS0 := hS
        replace hS := hS.stay hcx
        refine hK _ _ hS ?_
        clear hK K
        go_wp2_with (first | (refine wpG_hload 42 _ rfl rfl (fun w' hw' => H13p.out w' hw') hS ?_) | (refine wpG_hload 42 _ rfl rfl (fun w' hw' => H14p.out w' hw') hS ?_) | (refine wpG_hload 45 _ rfl rfl (fun w' hw' => H17p.out w' hw') hS ?_) | (refine wpG_buildRs _ rfl EB.out ?_ ?_; (focus (simp [Act.eval, Act.put]; done))) | (refine wpG_buildRs _ rfl E0.out ?_ ?_; (focus (simp [Act.eval, Act.put]; done))) | (refine wpG_calc rfl (fun K hK => ?_)) | (refine wpG_skip ?_ ?_; (focus (simp [wantG]; done)); go_simp) | (refine wpG_take ?_ ?_; (focus (simp [wantG]; done))) | (refine wpG_pure (fun K hK => ?_); go_simp; refine hK _ _ ?_; clear hK K) | (refine wpG_deed (by decide) (fun K hK => ?_); go_simp) | (refine wpG_nil ?_))
        have hv3 := HVB.out X3 (HMSs.out.chg.stay hS)
        (refine wpG_keeps hS (fun K hK => ?_))
        go_simp
        refine (Step_copy (r := ⟨0, 0, []⟩) hmc HF3.out HSOK.out hv3 (rs_ok (by omega) (by omega)) (RE.nil ucl 1 _ none 0)).mono ?_
        rintro e Y3 ⟨rfl, hcy⟩
        rw [HL3.out]
        replace hS : Chg [] V6 Y3 := hS0.stay hcy
        clear hv3 hS0 hcx hcy hmc HF3
        refine hK _ _ hS ?_
        clear hK K
        go_wp2_with (first | (refine wpG_hload 42 _ rfl rfl (fun w' hw' => H13p.out w' hw') hS ?_) | (refine wpG_hload 42 _ rfl rfl (fun w' hw' => H14p.out w' hw') hS ?_) | (refine wpG_hload 45 _ rfl rfl (fun w' hw' => H17p.out w' hw') hS ?_) | (refine wpG_buildRs _ rfl EB.out ?_ ?_; (focus (simp [Act.eval, Act.put]; done))) | (refine wpG_buildRs _ rfl E0.out ?_ ?_; (focus (simp [Act.eval, Act.put]; done))) | (refine wpG_calc rfl (fun K hK => ?_)) | (refine wpG_skip ?_ ?_; (focus (simp [wantG]; done)); go_simp) | (refine wpG_take ?_ ?_; (focus (simp [wantG]; done))) | (refine wpG_pure (fun K hK => ?_); go_simp; refine hK _ _ ?_; clear hK K) | (refine wpG_deed (by decide) (fun K hK => ?_); go_simp) | (refine wpG_nil ?_))
        (refine wpG_keeps hS (fun K hK => ?_))
        go_simp
        have HF4 := hide (HF.out.stay (HMSs.out.chg.stay hS))
        refine (Copy_ms (HMSs.out.stay hS)).mono ?_
        rintro e X4 ⟨⟨mc, rfl, hmc⟩, hcx⟩
        have hS0 := hS
        replace hS := hS.stay hcx
        refine hK _ _ hS ?_
        clear hK K
        go_wp2_with (first | (refine wpG_hload 42 _ rfl rfl (fun w' hw' => H13p.out w' hw') hS ?_) | (refine wpG_hload 42 _ rfl rfl (fun w' hw' => H14p.out w' hw') hS ?_) | (refine wpG_hload 45 _ rfl rfl (fun w' hw' => H17p.out w' hw') hS ?_) | (refine wpG_buildRs _ rfl EB.out ?_ ?_; (focus (simp [Act.eval, Act.put]; done))) | (refine wpG_buildRs _ rfl E0.out ?_ ?_; (focus (simp [Act.eval, Act.put]; done))) | (refine wpG_calc rfl (fun K hK => ?_)) | (refine wpG_skip ?_ ?_; (focus (simp [wantG]; done)); go_simp) | (refine wpG_take ?_ ?_; (focus (simp [wantG]; done))) | (refine wpG_pure (fun K hK => ?_); go_simp; refine hK _ _ ?_; clear hK K) | (refine wpG_deed (by decide) (fun K hK => ?_); go_simp) | (refine wpG_nil ?_))
        have hv4 := HVB.out X4 (HMSs.out.chg.stay hS)
        (refine wpG_keeps hS (fun K hK => ?_))
        go_simp
        refine (Step_copy (r := plainR 190) hmc HF4.out HSOK.out hv4 (rs_ok (by omega) (by omega)) (RE.nil ucl 1 _ none 0)).mono ?_
        rintro e Y4 ⟨rfl, hcy⟩
        rw [HL4.out]
        replace hS : Chg [] V6 Y4 := hS0.stay hcy
        clear hv4 hS0 hcx hcy hmc HF4
        refine hK _ _ hS ?_
        clear hK K
        go_wp2_with (first | (refine wpG_hload 42 _ rfl rfl (fun w' hw' => H13p.out w' hw') hS ?_) | (refine wpG_hload 42 _ rfl rfl (fun w' hw' => H14p.out w' hw') hS ?_) | (refine wpG_hload 45 _ rfl rfl (fun w' hw' => H17p.out w' hw') hS ?_) | (refine wpG_buildRs _ rfl EB.out ?_ ?_; (focus (simp [Act.eval, Act.put]; done))) | (refine wpG_buildRs _ rfl E0.out ?_ ?_; (focus (simp [Act.eval, Act.put]; done))) | (refine wpG_calc rfl (fun K hK => ?_)) | (refine wpG_skip ?_ ?_; (focus (simp [wantG]; done)); go_simp) | (refine wpG_take ?_ ?_; (focus (simp [wantG]; done))) | (refine wpG_pure (fun K hK => ?_); go_simp; refine hK _ _ ?_; clear hK K) | (refine wpG_deed (by decide) (fun K hK => ?_); go_simp) | (refine wpG_nil ?_))
        exact ⟨⟨1, by omega, rfl, M4, ((1 : Nat) : Int), by omega, by omega, hide (HMSs.out.stay hS), HPI4, hide (H13q.out.stay (HC6.out.stay hS)), hide (H14q.out.stay (HC6.out.stay hS))⟩, by simp [intOf]⟩
      · obtain rfl : z1 = 2 := HZ.out
        have hix0 := ix_two0 2 z2
        have hix1 := ix_two1 2 z2
        have DP := hide (show BC [(0, .int .u8 5), (1, .int .i64 1), (3, .int .i64 g), (4, .int .i64 1), (7, .int .u8 2)] (cPr g 1 2) zV from pr_built g 2)
        go_wp2_with (first | (refine wpList_build34 rfl _ rfl DP.out ?_ ?_; (focus (simp [Act.eval, Act.put]; done))) | (refine wpList_buildRs rfl _ rfl E0.out ?_ ?_; (focus (simp [Act.eval, Act.put]; done))))
        refine (Step_ms (r := ⟨0, 0, []⟩) HMSr.out HF.out (pr_ok (r := 2) HG.out (by omega)) (RE.nil ucl 1 _ none 0) (rs_ok (by omega) (by omega)) (RE.nil ucl 1 _ none 0)).mono ?_
        rintro e V5 ⟨rfl, hms, hkp⟩
        have hs := pi_prot (s := 2) (o := 0) HPI.out HG.out HR.out (by omega)
        rw [hs.1]
        obtain ⟨M4, hM4⟩ : ∃ N, N = stepM M (cPr g 1 2) ⟨0, 0, []⟩ := ⟨_, rfl⟩
        rw [← hM4] at hms hs
        have HPI4 := hide hs.2
        have h_l := pi_load hs.2 HG.out hbb (by omega) (by rw [rt_one]; decide)
        have h_s := pi_store hs.2 HG.out hbb (by omega) (by rw [rt_one]; decide)
        rw [rt_one, e0] at h_l h_s
        rw [← HBLN.out] at h_l
        have HL1 := hide (show stepB M4 (cLd (256 * g) bl) ⟨0, 0, b⟩ = false from h_l.1)
        have HL2 := hide (show stepB M4 (cLd (256 * g) bl) (plainR 190) = true from h_l.2.1)
        have HL3 := hide (show stepB M4 (cSt (256 * g) b) ⟨0, 0, []⟩ = true from h_s.1)
        have HL4 := hide (show stepB M4 (cSt (256 * g) b) (plainR 190) = false from h_s.2)
        have HMS5 := hide hms
        have H13q := hide (show KB V5 b13 (cSt (256 * g) b) (.slice A0 bl c0) from hkp.blk H13r.out (by simp))
        have H14q := hide (show KB V5 b14 (cLd (256 * g) bl) zV from hkp.blk H14r.out (by simp))
        clear hs hM4 hms hkp h_l h_s HMSr HPI
        go_upto_region 16 with (first | (refine wpList_allocRs rfl rfl ?_; try go_simp) | (refine wpList_buildRs rfl _ rfl E190.out ?_ ?_; (focus (simp [Act.eval, Act.put]; done))) | (refine wpList_storeRs (b := V5.heap.size) (y := plainR 190) (u := zV) rfl _ _ rfl rfl rfl rfl (Blk.new V5 _ _) ?_; intro V6 h4 hc4; have H17 := hide h4; have HC6 := hide (show Chg [] V5 V6 from ((Chg.refl [] V5).alloc _).trans hc4 (fun y hy => .inr (by obtain rfl := List.mem_singleton.1 hy; exact Nat.le_refl _))); clear h4 hc4))
        have HMSs := hide (HMS5.out.stay HC6.out)
        have H13p := hide (fun W (h : Chg [] V6 W) => KB.load (H13q.out.stay (HC6.out.stay h)))
        have H14p := hide (fun W (h : Chg [] V6 W) => KB.load (H14q.out.stay (HC6.out.stay h)))
        obtain ⟨b17, hb17⟩ : ∃ b, b = V5.heap.size := ⟨_, rfl⟩
        rw [← hb17] at H17 ⊢
        have H17p := hide (fun W (h : Chg [] V6 W) => XB.load (XB.stay H17.out h))
        have HLOK := hide (show (cLd (256 * g) (bl : Nat)).Ok from ld_ok (by have := HG.out; omega) (by have := HBL.out; omega))
        have HSOK := hide (show (cSt (256 * g) b).Ok from st_ok (by have := HG.out; omega) HB8.out)
        have HROK := hide (show (⟨0, 0, b⟩ : Rs).Ok from ⟨by (show (-9223372036854775808 : Int) ≤ 0 ∧ (0 : Int) ≤ _); omega, by (show (0 : Nat) < _); omega, HB8.out⟩)
        clear hb17 e0 hbb
        refine wp_region_t [0,6,5,0,0,6,0,0,0,0,0,0,6,5,5,6,0,0,0,0,0,0,0,6,5,0,6,0,0,0,0,0,0,6,5,5,6,0,0,0,0] [none, none, none, none, none, none, none, none, none, none, none, some (116, false), some (116, false), some (116, false), some (116, false), some (116, false), some (116, false), some (116, false), some (116, false), some (116, false), none, none, some (127, false), some (127, false), some (127, false), some (127, false), some (127, false), some (127, false), some (127, false), some (127, false), none, none, some (137, false), some (137, false), some (137, false), some (137, false), some (137, false), some (137, false), some (137, false), some (137, false), none] (fun W => Chg [] V6 W) (by kernel_rfl) (by kernel_rfl) (by kernel_rfl) ?_
        have hS : Chg [] V6 V6.drew := (Chg.refl [] V6).drew
        generalize V6.drew = W0 at hS ⊢
        go_wp2_with (first | (refine wpG_hload 42 _ rfl rfl (fun w' hw' => H13p.out w' hw') hS ?_) | (refine wpG_hload 42 _ rfl rfl (fun w' hw' => H14p.out w' hw') hS ?_) | (refine wpG_hload 45 _ rfl rfl (fun w' hw' => H17p.out w' hw') hS ?_) | (refine wpG_buildRs _ rfl EB.out ?_ ?_; (focus (simp [Act.eval, Act.put]; done))) | (refine wpG_buildRs _ rfl E0.out ?_ ?_; (focus (simp [Act.eval, Act.put]; done))) | (refine wpG_calc rfl (fun K hK => ?_)) | (refine wpG_skip ?_ ?_; (focus (simp [wantG]; done)); go_simp) | (refine wpG_take ?_ ?_; (focus (simp [wantG]; done))) | (refine wpG_pure (fun K hK => ?_); go_simp; refine hK _ _ ?_; clear hK K) | (refine wpG_deed (by decide) (fun K hK => ?_); go_simp) | (refine wpG_nil ?_))
        (refine wpG_keeps hS (fun K hK => ?_))
        go_simp
        have HF1 := hide (HF.out.stay (HMSs.out.chg.stay hS))
        refine (Copy_ms (HMSs.out.stay hS)).mono ?_
        rintro e X1 ⟨⟨mc, rfl, hmc⟩, hcx⟩
        have hS0 := hS
        replace hS := hS.stay hcx
        refine hK _ _ hS ?_
        clear hK K
        go_wp2_with (first | (refine wpG_hload 42 _ rfl rfl (fun w' hw' => H13p.out w' hw') hS ?_) | (refine wpG_hload 42 _ rfl rfl (fun w' hw' => H14p.out w' hw') hS ?_) | (refine wpG_hload 45 _ rfl rfl (fun w' hw' => H17p.out w' hw') hS ?_) | (refine wpG_buildRs _ rfl EB.out ?_ ?_; (focus (simp [Act.eval, Act.put]; done))) | (refine wpG_buildRs _ rfl E0.out ?_ ?_; (focus (simp [Act.eval, Act.put]; done))) | (refine wpG_calc rfl (fun K hK => ?_)) | (refine wpG_skip ?_ ?_; (focus (simp [wantG]; done)); go_simp) | (refine wpG_take ?_ ?_; (focus (simp [wantG]; done))) | (refine wpG_pure (fun K hK => ?_); go_simp; refine hK _ _ ?_; clear hK K) | (refine wpG_deed (by decide) (fun K hK => ?_); go_simp) | (refine wpG_nil ?_))
        have hv1 := HVB.out X1 (HMSs.out.chg.stay hS)
        (refine wpG_keeps hS (fun K hK => ?_))
        go_simp
        refine (Step_copy (r := ⟨0, 0, b⟩) hmc HF1.out HLOK.out (RE.nil ucl 1 _ none 0) HROK.out hv1).mono ?_
        rintro e Y1 ⟨rfl, hcy⟩
        rw [HL1.out]
        replace hS : Chg [] V6 Y1 := hS0.stay hcy
        clear hv1 hS0 hcx hcy hmc HF1
        refine hK _ _ hS ?_
        clear hK K
        go_wp2_with (first | (refine wpG_hload 42 _ rfl rfl (fun w' hw' => H13p.out w' hw') hS ?_) | (refine wpG_hload 42 _ rfl rfl (fun w' hw' => H14p.out w' hw') hS ?_) | (refine wpG_hload 45 _ rfl rfl (fun w' hw' => H17p.out w' hw') hS ?_) | (refine wpG_buildRs _ rfl EB.out ?_ ?_; (focus (simp [Act.eval, Act.put]; done))) | (refine wpG_buildRs _ rfl E0.out ?_ ?_; (focus (simp [Act.eval, Act.put]; done))) | (refine wpG_calc rfl (fun K hK => ?_)) | (refine wpG_skip ?_ ?_; (focus (simp [wantG]; done)); go_simp) | (refine wpG_take ?_ ?_; (focus (simp [wantG]; done))) | (refine wpG_pure (fun K hK => ?_); go_simp; refine hK _ _ ?_; clear hK K) | (refine wpG_deed (by decide) (fun K hK => ?_); go_simp) | (refine wpG_nil ?_))
        (refine wpG_keeps hS (fun K hK => ?_))
        go_simp
        have HF2 := hide (HF.out.stay (HMSs.out.chg.stay hS))
        refine (Copy_ms (HMSs.out.stay hS)).mono ?_
        rintro e X2 ⟨⟨mc, rfl, hmc⟩, hcx⟩
        have hS0 := hS
        replace hS := hS.stay hcx
        refine hK _ _ hS ?_
        clear hK K
        go_wp2_with (first | (refine wpG_hload 42 _ rfl rfl (fun w' hw' => H13p.out w' hw') hS ?_) | (refine wpG_hload 42 _ rfl rfl (fun w' hw' => H14p.out w' hw') hS ?_) | (refine wpG_hload 45 _ rfl rfl (fun w' hw' => H17p.out w' hw') hS ?_) | (refine wpG_buildRs _ rfl EB.out ?_ ?_; (focus (simp [Act.eval, Act.put]; done))) | (refine wpG_buildRs _ rfl E0.out ?_ ?_; (focus (simp [Act.eval, Act.put]; done))) | (refine wpG_calc rfl (fun K hK => ?_)) | (refine wpG_skip ?_ ?_; (focus (simp [wantG]; done)); go_simp) | (refine wpG_take ?_ ?_; (focus (simp [wantG]; done))) | (refine wpG_pure (fun K hK => ?_); go_simp; refine hK _ _ ?_; clear hK K) | (refine wpG_deed (by decide) (fun K hK => ?_); go_simp) | (refine wpG_nil ?_))
        have hv2 := HVB.out X2 (HMSs.out.chg.stay hS)
        (refine wpG_keeps hS (fun K hK => ?_))
        go_simp
        refine (Step_copy (r := plainR 190) hmc HF2.out HLOK.out (RE.nil ucl 1 _ none 0) (rs_ok (by omega) (by omega)) (RE.nil ucl 1 _ none 0)).mono ?_
        rintro e Y2 ⟨rfl, hcy⟩
        rw [HL2.out]
        replace hS : Chg [] V6 Y2 := hS0.stay hcy
        clear hv2 hS0 hcx hcy hmc HF2
        refine hK _ _ hS ?_
        clear hK K
        go_wp2_with (first | (refine wpG_hload 42 _ rfl rfl (fun w' hw' => H13p.out w' hw') hS ?_) | (refine wpG_hload 42 _ rfl rfl (fun w' hw' => H14p.out w' hw') hS ?_) | (refine wpG_hload 45 _ rfl rfl (fun w' hw' => H17p.out w' hw') hS ?_) | (refine wpG_buildRs _ rfl EB.out ?_ ?_; (focus (simp [Act.eval, Act.put]; done))) | (refine wpG_buildRs _ rfl E0.out ?_ ?_; (focus (simp [Act.eval, Act.put]; done))) | (refine wpG_calc rfl (fun K hK => ?_)) | (refine wpG_skip ?_ ?_; (focus (simp [wantG]; done)); go_simp) | (refine wpG_take ?_ ?_; (focus (simp [wantG]; done))) | (refine wpG_pure (fun K hK => ?_); go_simp; refine hK _ _ ?_; clear hK K) | (refine wpG_deed (by decide) (fun K hK => ?_); go_simp) | (refine wpG_nil ?_))
        (refine wpG_keeps hS (fun K hK => ?_))
        go_simp
        have HF3 := hide (HF.out.stay (HMSs.out.chg.stay hS))
        refine (Copy_ms (HMSs.out.stay hS)).mono ?_
        rintro e X3 ⟨⟨mc, rfl, hmc⟩, hcx⟩
        have hS0 := hS
        replace hS := hS.stay hcx
        refine hK _ _ hS ?_
        clear hK K
        go_wp2_with (first | (refine wpG_hload 42 _ rfl rfl (fun w' hw' => H13p.out w' hw') hS ?_) | (refine wpG_hload 42 _ rfl rfl (fun w' hw' => H14p.out w' hw') hS ?_) | (refine wpG_hload 45 _ rfl rfl (fun w' hw' => H17p.out w' hw') hS ?_) | (refine wpG_buildRs _ rfl EB.out ?_ ?_; (focus (simp [Act.eval, Act.put]; done))) | (refine wpG_buildRs _ rfl E0.out ?_ ?_; (focus (simp [Act.eval, Act.put]; done))) | (refine wpG_calc rfl (fun K hK => ?_)) | (refine wpG_skip ?_ ?_; (focus (simp [wantG]; done)); go_simp) | (refine wpG_take ?_ ?_; (focus (simp [wantG]; done))) | (refine wpG_pure (fun K hK => ?_); go_simp; refine hK _ _ ?_; clear hK K) | (refine wpG_deed (by decide) (fun K hK => ?_); go_simp) | (refine wpG_nil ?_))
        have hv3 := HVB.out X3 (HMSs.out.chg.stay hS)
        (refine wpG_keeps hS (fun K hK => ?_))
        go_simp
        refine (Step_copy (r := ⟨0, 0, []⟩) hmc HF3.out HSOK.out hv3 (rs_ok (by omega) (by omega)) (RE.nil ucl 1 _ none 0)).mono ?_
        rintro e Y3 ⟨rfl, hcy⟩
        rw [HL3.out]
        replace hS : Chg [] V6 Y3 := hS0.stay hcy
        clear hv3 hS0 hcx hcy hmc HF3
        refine hK _ _ hS ?_
        clear hK K
        go_wp2_with (first | (refine wpG_hload 42 _ rfl rfl (fun w' hw' => H13p.out w' hw') hS ?_) | (refine wpG_hload 42 _ rfl rfl (fun w' hw' => H14p.out w' hw') hS ?_) | (refine wpG_hload 45 _ rfl rfl (fun w' hw' => H17p.out w' hw') hS ?_) | (refine wpG_buildRs _ rfl EB.out ?_ ?_; (focus (simp [Act.eval, Act.put]; done))) | (refine wpG_buildRs _ rfl E0.out ?_ ?_; (focus (simp [Act.eval, Act.put]; done))) | (refine wpG_calc rfl (fun K hK => ?_)) | (refine wpG_skip ?_ ?_; (focus (simp [wantG]; done)); go_simp) | (refine wpG_take ?_ ?_; (focus (simp [wantG]; done))) | (refine wpG_pure (fun K hK => ?_); go_simp; refine hK _ _ ?_; clear hK K) | (refine wpG_deed (by decide) (fun K hK => ?_); go_simp) | (refine wpG_nil ?_))
        (refine wpG_keeps hS (fun K hK => ?_))
        go_simp
        have HF4 := hide (HF.out.stay (HMSs.out.chg.stay hS))
        refine (Copy_ms (HMSs.out.stay hS)).mono ?_
        rintro e X4 ⟨⟨mc, rfl, hmc⟩, hcx⟩
        have hS0 := hS
        replace hS := hS.stay hcx
        refine hK _ _ hS ?_
        clear hK K
        go_wp2_with (first | (refine wpG_hload 42 _ rfl rfl (fun w' hw' => H13p.out w' hw') hS ?_) | (refine wpG_hload 42 _ rfl rfl (fun w' hw' => H14p.out w' hw') hS ?_) | (refine wpG_hload 45 _ rfl rfl (fun w' hw' => H17p.out w' hw') hS ?_) | (refine wpG_buildRs _ rfl EB.out ?_ ?_; (focus (simp [Act.eval, Act.put]; done))) | (refine wpG_buildRs _ rfl E0.out ?_ ?_; (focus (simp [Act.eval, Act.put]; done))) | (refine wpG_calc rfl (fun K hK => ?_)) | (refine wpG_skip ?_ ?_; (focus (simp [wantG]; done)); go_simp) | (refine wpG_take ?_ ?_; (focus (simp [wantG]; done))) | (refine wpG_pure (fun K hK => ?_); go_simp; refine hK _ _ ?_; clear hK K) | (refine wpG_deed (by decide) (fun K hK => ?_); go_simp) | (refine wpG_nil ?_))
        have hv4 := HVB.out X4 (HMSs.out.chg.stay hS)
        (refine wpG_keeps hS (fun K hK => ?_))
        go_simp
        refine (Step_copy (r := plainR 190) hmc HF4.out HSOK.out hv4 (rs_ok (by omega) (by omega)) (RE.nil ucl 1 _ none 0)).mono ?_
        rintro e Y4 ⟨rfl, hcy⟩
        rw [HL4.out]
        replace hS : Chg [] V6 Y4 := hS0.stay hcy
        clear hv4 hS0 hcx hcy hmc HF4
        refine hK _ _ hS ?_
        clear hK K
        go_wp2_with (first | (refine wpG_hload 42 _ rfl rfl (fun w' hw' => H13p.out w' hw') hS ?_) | (refine wpG_hload 42 _ rfl rfl (fun w' hw' => H14p.out w' hw') hS ?_) | (refine wpG_hload 45 _ rfl rfl (fun w' hw' => H17p.out w' hw') hS ?_) | (refine wpG_buildRs _ rfl EB.out ?_ ?_; (focus (simp [Act.eval, Act.put]; done))) | (refine wpG_buildRs _ rfl E0.out ?_ ?_; (focus (simp [Act.eval, Act.put]; done))) | (refine wpG_calc rfl (fun K hK => ?_)) | (refine wpG_skip ?_ ?_; (focus (simp [wantG]; done)); go_simp) | (refine wpG_take ?_ ?_; (focus (simp [wantG]; done))) | (refine wpG_pure (fun K hK => ?_); go_simp; refine hK _ _ ?_; clear hK K) | (refine wpG_deed (by decide) (fun K hK => ?_); go_simp) | (refine wpG_nil ?_))
        exact ⟨⟨1, by omega, rfl, M4, ((2 : Nat) : Int), by omega, by omega, hide (HMSs.out.stay hS), HPI4, hide (H13q.out.stay (HC6.out.stay hS)), hide (H14q.out.stay (HC6.out.stay hS))⟩, by simp [intOf]⟩
      · obtain rfl : z1 = 3 := HZ.out
        have hix0 := ix_two0 3 z2
        have hix1 := ix_two1 3 z2
        have DP := hide (show BC [(0, .int .u8 5), (1, .int .i64 1), (3, .int .i64 g), (4, .int .i64 1), (7, .int .u8 3)] (cPr g 1 3) zV from pr_built g 3)
        go_wp2_with (first | (refine wpList_build34 rfl _ rfl DP.out ?_ ?_; (focus (simp [Act.eval, Act.put]; done))) | (refine wpList_buildRs rfl _ rfl E0.out ?_ ?_; (focus (simp [Act.eval, Act.put]; done))))
        refine (Step_ms (r := ⟨0, 0, []⟩) HMSr.out HF.out (pr_ok (r := 3) HG.out (by omega)) (RE.nil ucl 1 _ none 0) (rs_ok (by omega) (by omega)) (RE.nil ucl 1 _ none 0)).mono ?_
        rintro e V5 ⟨rfl, hms, hkp⟩
        have hs := pi_prot (s := 3) (o := 0) HPI.out HG.out HR.out (by omega)
        rw [hs.1]
        obtain ⟨M4, hM4⟩ : ∃ N, N = stepM M (cPr g 1 3) ⟨0, 0, []⟩ := ⟨_, rfl⟩
        rw [← hM4] at hms hs
        have HPI4 := hide hs.2
        have h_l := pi_load hs.2 HG.out hbb (by omega) (by rw [rt_one]; decide)
        have h_s := pi_store hs.2 HG.out hbb (by omega) (by rw [rt_one]; decide)
        rw [rt_one, e0] at h_l h_s
        rw [← HBLN.out] at h_l
        have HL1 := hide (show stepB M4 (cLd (256 * g) bl) ⟨0, 0, b⟩ = true from h_l.1)
        have HL2 := hide (show stepB M4 (cLd (256 * g) bl) (plainR 190) = false from h_l.2.1)
        have HL3 := hide (show stepB M4 (cSt (256 * g) b) ⟨0, 0, []⟩ = true from h_s.1)
        have HL4 := hide (show stepB M4 (cSt (256 * g) b) (plainR 190) = false from h_s.2)
        have HMS5 := hide hms
        have H13q := hide (show KB V5 b13 (cSt (256 * g) b) (.slice A0 bl c0) from hkp.blk H13r.out (by simp))
        have H14q := hide (show KB V5 b14 (cLd (256 * g) bl) zV from hkp.blk H14r.out (by simp))
        clear hs hM4 hms hkp h_l h_s HMSr HPI
        go_upto_region 16 with (first | (refine wpList_allocRs rfl rfl ?_; try go_simp) | (refine wpList_buildRs rfl _ rfl E190.out ?_ ?_; (focus (simp [Act.eval, Act.put]; done))) | (refine wpList_storeRs (b := V5.heap.size) (y := plainR 190) (u := zV) rfl _ _ rfl rfl rfl rfl (Blk.new V5 _ _) ?_; intro V6 h4 hc4; have H17 := hide h4; have HC6 := hide (show Chg [] V5 V6 from ((Chg.refl [] V5).alloc _).trans hc4 (fun y hy => .inr (by obtain rfl := List.mem_singleton.1 hy; exact Nat.le_refl _))); clear h4 hc4))
        have HMSs := hide (HMS5.out.stay HC6.out)
        have H13p := hide (fun W (h : Chg [] V6 W) => KB.load (H13q.out.stay (HC6.out.stay h)))
        have H14p := hide (fun W (h : Chg [] V6 W) => KB.load (H14q.out.stay (HC6.out.stay h)))
        obtain ⟨b17, hb17⟩ : ∃ b, b = V5.heap.size := ⟨_, rfl⟩
        rw [← hb17] at H17 ⊢
        have H17p := hide (fun W (h : Chg [] V6 W) => XB.load (XB.stay H17.out h))
        have HLOK := hide (show (cLd (256 * g) (bl : Nat)).Ok from ld_ok (by have := HG.out; omega) (by have := HBL.out; omega))
        have HSOK := hide (show (cSt (256 * g) b).Ok from st_ok (by have := HG.out; omega) HB8.out)
        have HROK := hide (show (⟨0, 0, b⟩ : Rs).Ok from ⟨by (show (-9223372036854775808 : Int) ≤ 0 ∧ (0 : Int) ≤ _); omega, by (show (0 : Nat) < _); omega, HB8.out⟩)
        clear hb17 e0 hbb
        refine wp_region_t [0,6,5,0,0,6,0,0,0,0,0,0,6,5,5,6,0,0,0,0,0,0,0,6,5,0,6,0,0,0,0,0,0,6,5,5,6,0,0,0,0] [none, none, none, none, none, none, none, none, none, none, none, some (116, false), some (116, false), some (116, false), some (116, false), some (116, false), some (116, false), some (116, false), some (116, false), some (116, false), none, none, some (127, false), some (127, false), some (127, false), some (127, false), some (127, false), some (127, false), some (127, false), some (127, false), none, none, some (137, false), some (137, false), some (137, false), some (137, false), some (137, false), some (137, false), some (137, false), some (137, false), none] (fun W => Chg [] V6 W) (by kernel_rfl) (by kernel_rfl) (by kernel_rfl) ?_
        have hS : Chg [] V6 V6.drew := (Chg.refl [] V6).drew
        generalize V6.drew = W0 at hS ⊢
        go_wp2_with (first | (refine wpG_hload 42 _ rfl rfl (fun w' hw' => H13p.out w' hw') hS ?_) | (refine wpG_hload 42 _ rfl rfl (fun w' hw' => H14p.out w' hw') hS ?_) | (refine wpG_hload 45 _ rfl rfl (fun w' hw' => H17p.out w' hw') hS ?_) | (refine wpG_buildRs _ rfl EB.out ?_ ?_; (focus (simp [Act.eval, Act.put]; done))) | (refine wpG_buildRs _ rfl E0.out ?_ ?_; (focus (simp [Act.eval, Act.put]; done))) | (refine wpG_calc rfl (fun K hK => ?_)) | (refine wpG_skip ?_ ?_; (focus (simp [wantG]; done)); go_simp) | (refine wpG_take ?_ ?_; (focus (simp [wantG]; done))) | (refine wpG_pure (fun K hK => ?_); go_simp; refine hK _ _ ?_; clear hK K) | (refine wpG_deed (by decide) (fun K hK => ?_); go_simp) | (refine wpG_nil ?_))
        (refine wpG_keeps hS (fun K hK => ?_))
        go_simp
        have HF1 := hide (HF.out.stay (HMSs.out.chg.stay hS))
        refine (Copy_ms (HMSs.out.stay hS)).mono ?_
        rintro e X1 ⟨⟨mc, rfl, hmc⟩, hcx⟩
        have hS0 := hS
        replace hS := hS.stay hcx
        refine hK _ _ hS ?_
        clear hK K
        go_wp2_with (first | (refine wpG_hload 42 _ rfl rfl (fun w' hw' => H13p.out w' hw') hS ?_) | (refine wpG_hload 42 _ rfl rfl (fun w' hw' => H14p.out w' hw') hS ?_) | (refine wpG_hload 45 _ rfl rfl (fun w' hw' => H17p.out w' hw') hS ?_) | (refine wpG_buildRs _ rfl EB.out ?_ ?_; (focus (simp [Act.eval, Act.put]; done))) | (refine wpG_buildRs _ rfl E0.out ?_ ?_; (focus (simp [Act.eval, Act.put]; done))) | (refine wpG_calc rfl (fun K hK => ?_)) | (refine wpG_skip ?_ ?_; (focus (simp [wantG]; done)); go_simp) | (refine wpG_take ?_ ?_; (focus (simp [wantG]; done))) | (refine wpG_pure (fun K hK => ?_); go_simp; refine hK _ _ ?_; clear hK K) | (refine wpG_deed (by decide) (fun K hK => ?_); go_simp) | (refine wpG_nil ?_))
        have hv1 := HVB.out X1 (HMSs.out.chg.stay hS)
        (refine wpG_keeps hS (fun K hK => ?_))
        go_simp
        refine (Step_copy (r := ⟨0, 0, b⟩) hmc HF1.out HLOK.out (RE.nil ucl 1 _ none 0) HROK.out hv1).mono ?_
        rintro e Y1 ⟨rfl, hcy⟩
        rw [HL1.out]
        replace hS : Chg [] V6 Y1 := hS0.stay hcy
        clear hv1 hS0 hcx hcy hmc HF1
        refine hK _ _ hS ?_
        clear hK K
        go_wp2_with (first | (refine wpG_hload 42 _ rfl rfl (fun w' hw' => H13p.out w' hw') hS ?_) | (refine wpG_hload 42 _ rfl rfl (fun w' hw' => H14p.out w' hw') hS ?_) | (refine wpG_hload 45 _ rfl rfl (fun w' hw' => H17p.out w' hw') hS ?_) | (refine wpG_buildRs _ rfl EB.out ?_ ?_; (focus (simp [Act.eval, Act.put]; done))) | (refine wpG_buildRs _ rfl E0.out ?_ ?_; (focus (simp [Act.eval, Act.put]; done))) | (refine wpG_calc rfl (fun K hK => ?_)) | (refine wpG_skip ?_ ?_; (focus (simp [wantG]; done)); go_simp) | (refine wpG_take ?_ ?_; (focus (simp [wantG]; done))) | (refine wpG_pure (fun K hK => ?_); go_simp; refine hK _ _ ?_; clear hK K) | (refine wpG_deed (by decide) (fun K hK => ?_); go_simp) | (refine wpG_nil ?_))
        (refine wpG_keeps hS (fun K hK => ?_))
        go_simp
        have HF2 := hide (HF.out.stay (HMSs.out.chg.stay hS))
        refine (Copy_ms (HMSs.out.stay hS)).mono ?_
        rintro e X2 ⟨⟨mc, rfl, hmc⟩, hcx⟩
        have hS0 := hS
        replace hS := hS.stay hcx
        refine hK _ _ hS ?_
        clear hK K
        go_wp2_with (first | (refine wpG_hload 42 _ rfl rfl (fun w' hw' => H13p.out w' hw') hS ?_) | (refine wpG_hload 42 _ rfl rfl (fun w' hw' => H14p.out w' hw') hS ?_) | (refine wpG_hload 45 _ rfl rfl (fun w' hw' => H17p.out w' hw') hS ?_) | (refine wpG_buildRs _ rfl EB.out ?_ ?_; (focus (simp [Act.eval, Act.put]; done))) | (refine wpG_buildRs _ rfl E0.out ?_ ?_; (focus (simp [Act.eval, Act.put]; done))) | (refine wpG_calc rfl (fun K hK => ?_)) | (refine wpG_skip ?_ ?_; (focus (simp [wantG]; done)); go_simp) | (refine wpG_take ?_ ?_; (focus (simp [wantG]; done))) | (refine wpG_pure (fun K hK => ?_); go_simp; refine hK _ _ ?_; clear hK K) | (refine wpG_deed (by decide) (fun K hK => ?_); go_simp) | (refine wpG_nil ?_))
        have hv2 := HVB.out X2 (HMSs.out.chg.stay hS)
        (refine wpG_keeps hS (fun K hK => ?_))
        go_simp
        refine (Step_copy (r := plainR 190) hmc HF2.out HLOK.out (RE.nil ucl 1 _ none 0) (rs_ok (by omega) (by omega)) (RE.nil ucl 1 _ none 0)).mono ?_
        rintro e Y2 ⟨rfl, hcy⟩
        rw [HL2.out]
        replace hS : Chg [] V6 Y2 := hS0.stay hcy
        clear hv2 hS0 hcx hcy hmc HF2
        refine hK _ _ hS ?_
        clear hK K
        go_wp2_with (first | (refine wpG_hload 42 _ rfl rfl (fun w' hw' => H13p.out w' hw') hS ?_) | (refine wpG_hload 42 _ rfl rfl (fun w' hw' => H14p.out w' hw') hS ?_) | (refine wpG_hload 45 _ rfl rfl (fun w' hw' => H17p.out w' hw') hS ?_) | (refine wpG_buildRs _ rfl EB.out ?_ ?_; (focus (simp [Act.eval, Act.put]; done))) | (refine wpG_buildRs _ rfl E0.out ?_ ?_; (focus (simp [Act.eval, Act.put]; done))) | (refine wpG_calc rfl (fun K hK => ?_)) | (refine wpG_skip ?_ ?_; (focus (simp [wantG]; done)); go_simp) | (refine wpG_take ?_ ?_; (focus (simp [wantG]; done))) | (refine wpG_pure (fun K hK => ?_); go_simp; refine hK _ _ ?_; clear hK K) | (refine wpG_deed (by decide) (fun K hK => ?_); go_simp) | (refine wpG_nil ?_))
        (refine wpG_keeps hS (fun K hK => ?_))
        go_simp
        have HF3 := hide (HF.out.stay (HMSs.out.chg.stay hS))
        refine (Copy_ms (HMSs.out.stay hS)).mono ?_
        rintro e X3 ⟨⟨mc, rfl, hmc⟩, hcx⟩
        have hS0 := hS
        replace hS := hS.stay hcx
        refine hK _ _ hS ?_
        clear hK K
        go_wp2_with (first | (refine wpG_hload 42 _ rfl rfl (fun w' hw' => H13p.out w' hw') hS ?_) | (refine wpG_hload 42 _ rfl rfl (fun w' hw' => H14p.out w' hw') hS ?_) | (refine wpG_hload 45 _ rfl rfl (fun w' hw' => H17p.out w' hw') hS ?_) | (refine wpG_buildRs _ rfl EB.out ?_ ?_; (focus (simp [Act.eval, Act.put]; done))) | (refine wpG_buildRs _ rfl E0.out ?_ ?_; (focus (simp [Act.eval, Act.put]; done))) | (refine wpG_calc rfl (fun K hK => ?_)) | (refine wpG_skip ?_ ?_; (focus (simp [wantG]; done)); go_simp) | (refine wpG_take ?_ ?_; (focus (simp [wantG]; done))) | (refine wpG_pure (fun K hK => ?_); go_simp; refine hK _ _ ?_; clear hK K) | (refine wpG_deed (by decide) (fun K hK => ?_); go_simp) | (refine wpG_nil ?_))
        have hv3 := HVB.out X3 (HMSs.out.chg.stay hS)
        (refine wpG_keeps hS (fun K hK => ?_))
        go_simp
        refine (Step_copy (r := ⟨0, 0, []⟩) hmc HF3.out HSOK.out hv3 (rs_ok (by omega) (by omega)) (RE.nil ucl 1 _ none 0)).mono ?_
        rintro e Y3 ⟨rfl, hcy⟩
        rw [HL3.out]
        replace hS : Chg [] V6 Y3 := hS0.stay hcy
        clear hv3 hS0 hcx hcy hmc HF3
        refine hK _ _ hS ?_
        clear hK K
        go_wp2_with (first | (refine wpG_hload 42 _ rfl rfl (fun w' hw' => H13p.out w' hw') hS ?_) | (refine wpG_hload 42 _ rfl rfl (fun w' hw' => H14p.out w' hw') hS ?_) | (refine wpG_hload 45 _ rfl rfl (fun w' hw' => H17p.out w' hw') hS ?_) | (refine wpG_buildRs _ rfl EB.out ?_ ?_; (focus (simp [Act.eval, Act.put]; done))) | (refine wpG_buildRs _ rfl E0.out ?_ ?_; (focus (simp [Act.eval, Act.put]; done))) | (refine wpG_calc rfl (fun K hK => ?_)) | (refine wpG_skip ?_ ?_; (focus (simp [wantG]; done)); go_simp) | (refine wpG_take ?_ ?_; (focus (simp [wantG]; done))) | (refine wpG_pure (fun K hK => ?_); go_simp; refine hK _ _ ?_; clear hK K) | (refine wpG_deed (by decide) (fun K hK => ?_); go_simp) | (refine wpG_nil ?_))
        (refine wpG_keeps hS (fun K hK => ?_))
        go_simp
        have HF4 := hide (HF.out.stay (HMSs.out.chg.stay hS))
        refine (Copy_ms (HMSs.out.stay hS)).mono ?_
        rintro e X4 ⟨⟨mc, rfl, hmc⟩, hcx⟩
        have hS0 := hS
        replace hS := hS.stay hcx
        refine hK _ _ hS ?_
        clear hK K
        go_wp2_with (first | (refine wpG_hload 42 _ rfl rfl (fun w' hw' => H13p.out w' hw') hS ?_) | (refine wpG_hload 42 _ rfl rfl (fun w' hw' => H14p.out w' hw') hS ?_) | (refine wpG_hload 45 _ rfl rfl (fun w' hw' => H17p.out w' hw') hS ?_) | (refine wpG_buildRs _ rfl EB.out ?_ ?_; (focus (simp [Act.eval, Act.put]; done))) | (refine wpG_buildRs _ rfl E0.out ?_ ?_; (focus (simp [Act.eval, Act.put]; done))) | (refine wpG_calc rfl (fun K hK => ?_)) | (refine wpG_skip ?_ ?_; (focus (simp [wantG]; done)); go_simp) | (refine wpG_take ?_ ?_; (focus (simp [wantG]; done))) | (refine wpG_pure (fun K hK => ?_); go_simp; refine hK _ _ ?_; clear hK K) | (refine wpG_deed (by decide) (fun K hK => ?_); go_simp) | (refine wpG_nil ?_))
        have hv4 := HVB.out X4 (HMSs.out.chg.stay hS)
        (refine wpG_keeps hS (fun K hK => ?_))
        go_simp
        refine (Step_copy (r := plainR 190) hmc HF4.out HSOK.out hv4 (rs_ok (by omega) (by omega)) (RE.nil ucl 1 _ none 0)).mono ?_
        rintro e Y4 ⟨rfl, hcy⟩
        rw [HL4.out]
        replace hS : Chg [] V6 Y4 := hS0.stay hcy
        clear hv4 hS0 hcx hcy hmc HF4
        refine hK _ _ hS ?_
        clear hK K
        go_wp2_with (first | (refine wpG_hload 42 _ rfl rfl (fun w' hw' => H13p.out w' hw') hS ?_) | (refine wpG_hload 42 _ rfl rfl (fun w' hw' => H14p.out w' hw') hS ?_) | (refine wpG_hload 45 _ rfl rfl (fun w' hw' => H17p.out w' hw') hS ?_) | (refine wpG_buildRs _ rfl EB.out ?_ ?_; (focus (simp [Act.eval, Act.put]; done))) | (refine wpG_buildRs _ rfl E0.out ?_ ?_; (focus (simp [Act.eval, Act.put]; done))) | (refine wpG_calc rfl (fun K hK => ?_)) | (refine wpG_skip ?_ ?_; (focus (simp [wantG]; done)); go_simp) | (refine wpG_take ?_ ?_; (focus (simp [wantG]; done))) | (refine wpG_pure (fun K hK => ?_); go_simp; refine hK _ _ ?_; clear hK K) | (refine wpG_deed (by decide) (fun K hK => ?_); go_simp) | (refine wpG_nil ?_))
        exact ⟨⟨1, by omega, rfl, M4, ((3 : Nat) : Int), by omega, by omega, hide (HMSs.out.stay hS), HPI4, hide (H13q.out.stay (HC6.out.stay hS)), hide (H14q.out.stay (HC6.out.stay hS))⟩, by simp [intOf]⟩
    · obtain ⟨s, hs⟩ : ∃ s, s = r2 := ⟨_, rfl⟩
      have HZ := hide (show z2 = (s : Int) by rw [hs]; exact HZ2.out)
      have H13s := hide (show 1 ≤ s ∧ s ≤ 3 by rw [hs]; exact HR2.out)
      clear hs HZ2 HR2 hk
      rcases (show s = 1 ∨ s = 2 ∨ s = 3 by have := H13s.out; omega) with rfl | rfl | rfl
      · obtain rfl : z2 = 1 := HZ.out
        have hix0 := ix_two0 z1 1
        have hix1 := ix_two1 z1 1
        have DP := hide (show BC [(0, .int .u8 5), (1, .int .i64 1), (3, .int .i64 g), (4, .int .i64 1), (7, .int .u8 1)] (cPr g 1 1) zV from pr_built g 1)
        go_wp2_with (first | (refine wpList_build34 rfl _ rfl DP.out ?_ ?_; (focus (simp [Act.eval, Act.put]; done))) | (refine wpList_buildRs rfl _ rfl E0.out ?_ ?_; (focus (simp [Act.eval, Act.put]; done))))
        refine (Step_ms (r := ⟨0, 0, []⟩) HMSr.out HF.out (pr_ok (r := 1) HG.out (by omega)) (RE.nil ucl 1 _ none 0) (rs_ok (by omega) (by omega)) (RE.nil ucl 1 _ none 0)).mono ?_
        rintro e V5 ⟨rfl, hms, hkp⟩
        have hs := pi_prot (s := 1) (o := 0) HPI.out HG.out HR.out (by omega)
        rw [hs.1]
        obtain ⟨M4, hM4⟩ : ∃ N, N = stepM M (cPr g 1 1) ⟨0, 0, []⟩ := ⟨_, rfl⟩
        rw [← hM4] at hms hs
        have HPI4 := hide hs.2
        have h_l := pi_load hs.2 HG.out hbb (by omega) (by rw [rt_one]; decide)
        have h_s := pi_store hs.2 HG.out hbb (by omega) (by rw [rt_one]; decide)
        rw [rt_one, e0] at h_l h_s
        rw [← HBLN.out] at h_l
        have HL1 := hide (show stepB M4 (cLd (256 * g) bl) ⟨0, 0, b⟩ = true from h_l.1)
        have HL2 := hide (show stepB M4 (cLd (256 * g) bl) (plainR 190) = false from h_l.2.1)
        have HL3 := hide (show stepB M4 (cSt (256 * g) b) ⟨0, 0, []⟩ = false from h_s.1)
        have HL4 := hide (show stepB M4 (cSt (256 * g) b) (plainR 190) = true from h_s.2)
        have HMS5 := hide hms
        have H13q := hide (show KB V5 b13 (cSt (256 * g) b) (.slice A0 bl c0) from hkp.blk H13r.out (by simp))
        have H14q := hide (show KB V5 b14 (cLd (256 * g) bl) zV from hkp.blk H14r.out (by simp))
        clear hs hM4 hms hkp h_l h_s HMSr HPI
        go_upto_region 16 with (first | (refine wpList_allocRs rfl rfl ?_; try go_simp) | (refine wpList_buildRs rfl _ rfl E190.out ?_ ?_; (focus (simp [Act.eval, Act.put]; done))) | (refine wpList_storeRs (b := V5.heap.size) (y := plainR 190) (u := zV) rfl _ _ rfl rfl rfl rfl (Blk.new V5 _ _) ?_; intro V6 h4 hc4; have H17 := hide h4; have HC6 := hide (show Chg [] V5 V6 from ((Chg.refl [] V5).alloc _).trans hc4 (fun y hy => .inr (by obtain rfl := List.mem_singleton.1 hy; exact Nat.le_refl _))); clear h4 hc4))
        have HMSs := hide (HMS5.out.stay HC6.out)
        have H13p := hide (fun W (h : Chg [] V6 W) => KB.load (H13q.out.stay (HC6.out.stay h)))
        have H14p := hide (fun W (h : Chg [] V6 W) => KB.load (H14q.out.stay (HC6.out.stay h)))
        obtain ⟨b17, hb17⟩ : ∃ b, b = V5.heap.size := ⟨_, rfl⟩
        rw [← hb17] at H17 ⊢
        have H17p := hide (fun W (h : Chg [] V6 W) => XB.load (XB.stay H17.out h))
        have HLOK := hide (show (cLd (256 * g) (bl : Nat)).Ok from ld_ok (by have := HG.out; omega) (by have := HBL.out; omega))
        have HSOK := hide (show (cSt (256 * g) b).Ok from st_ok (by have := HG.out; omega) HB8.out)
        have HROK := hide (show (⟨0, 0, b⟩ : Rs).Ok from ⟨by (show (-9223372036854775808 : Int) ≤ 0 ∧ (0 : Int) ≤ _); omega, by (show (0 : Nat) < _); omega, HB8.out⟩)
        clear hb17 e0 hbb
        refine wp_region_t [0,6,5,0,0,6,0,0,0,0,0,0,6,5,5,6,0,0,0,0,0,0,0,6,5,0,6,0,0,0,0,0,0,6,5,5,6,0,0,0,0] [none, none, none, none, none, none, none, none, none, none, none, some (116, false), some (116, false), some (116, false), some (116, false), some (116, false), some (116, false), some (116, false), some (116, false), some (116, false), none, none, some (127, false), some (127, false), some (127, false), some (127, false), some (127, false), some (127, false), some (127, false), some (127, false), none, none, some (137, false), some (137, false), some (137, false), some (137, false), some (137, false), some (137, false), some (137, false), some (137, false), none] (fun W => Chg [] V6 W) (by kernel_rfl) (by kernel_rfl) (by kernel_rfl) ?_
        have hS : Chg [] V6 V6.drew := (Chg.refl [] V6).drew
        generalize V6.drew = W0 at hS ⊢
        go_wp2_with (first | (refine wpG_hload 42 _ rfl rfl (fun w' hw' => H13p.out w' hw') hS ?_) | (refine wpG_hload 42 _ rfl rfl (fun w' hw' => H14p.out w' hw') hS ?_) | (refine wpG_hload 45 _ rfl rfl (fun w' hw' => H17p.out w' hw') hS ?_) | (refine wpG_buildRs _ rfl EB.out ?_ ?_; (focus (simp [Act.eval, Act.put]; done))) | (refine wpG_buildRs _ rfl E0.out ?_ ?_; (focus (simp [Act.eval, Act.put]; done))) | (refine wpG_calc rfl (fun K hK => ?_)) | (refine wpG_skip ?_ ?_; (focus (simp [wantG]; done)); go_simp) | (refine wpG_take ?_ ?_; (focus (simp [wantG]; done))) | (refine wpG_pure (fun K hK => ?_); go_simp; refine hK _ _ ?_; clear hK K) | (refine wpG_deed (by decide) (fun K hK => ?_); go_simp) | (refine wpG_nil ?_))
        (refine wpG_keeps hS (fun K hK => ?_))
        go_simp
        have HF1 := hide (HF.out.stay (HMSs.out.chg.stay hS))
        refine (Copy_ms (HMSs.out.stay hS)).mono ?_
        rintro e X1 ⟨⟨mc, rfl, hmc⟩, hcx⟩
        have hS0 := hS
        replace hS := hS.stay hcx
        refine hK _ _ hS ?_
        clear hK K
        go_wp2_with (first | (refine wpG_hload 42 _ rfl rfl (fun w' hw' => H13p.out w' hw') hS ?_) | (refine wpG_hload 42 _ rfl rfl (fun w' hw' => H14p.out w' hw') hS ?_) | (refine wpG_hload 45 _ rfl rfl (fun w' hw' => H17p.out w' hw') hS ?_) | (refine wpG_buildRs _ rfl EB.out ?_ ?_; (focus (simp [Act.eval, Act.put]; done))) | (refine wpG_buildRs _ rfl E0.out ?_ ?_; (focus (simp [Act.eval, Act.put]; done))) | (refine wpG_calc rfl (fun K hK => ?_)) | (refine wpG_skip ?_ ?_; (focus (simp [wantG]; done)); go_simp) | (refine wpG_take ?_ ?_; (focus (simp [wantG]; done))) | (refine wpG_pure (fun K hK => ?_); go_simp; refine hK _ _ ?_; clear hK K) | (refine wpG_deed (by decide) (fun K hK => ?_); go_simp) | (refine wpG_nil ?_))
        have hv1 := HVB.out X1 (HMSs.out.chg.stay hS)
        (refine wpG_keeps hS (fun K hK => ?_))
        go_simp
        refine (Step_copy (r := ⟨0, 0, b⟩) hmc HF1.out HLOK.out (RE.nil ucl 1 _ none 0) HROK.out hv1).mono ?_
        rintro e Y1 ⟨rfl, hcy⟩
        rw [HL1.out]
        replace hS : Chg [] V6 Y1 := hS0.stay hcy
        clear hv1 hS0 hcx hcy hmc HF1
        refine hK _ _ hS ?_
        clear hK K
        go_wp2_with (first | (refine wpG_hload 42 _ rfl rfl (fun w' hw' => H13p.out w' hw') hS ?_) | (refine wpG_hload 42 _ rfl rfl (fun w' hw' => H14p.out w' hw') hS ?_) | (refine wpG_hload 45 _ rfl rfl (fun w' hw' => H17p.out w' hw') hS ?_) | (refine wpG_buildRs _ rfl EB.out ?_ ?_; (focus (simp [Act.eval, Act.put]; done))) | (refine wpG_buildRs _ rfl E0.out ?_ ?_; (focus (simp [Act.eval, Act.put]; done))) | (refine wpG_calc rfl (fun K hK => ?_)) | (refine wpG_skip ?_ ?_; (focus (simp [wantG]; done)); go_simp) | (refine wpG_take ?_ ?_; (focus (simp [wantG]; done))) | (refine wpG_pure (fun K hK => ?_); go_simp; refine hK _ _ ?_; clear hK K) | (refine wpG_deed (by decide) (fun K hK => ?_); go_simp) | (refine wpG_nil ?_))
        (refine wpG_keeps hS (fun K hK => ?_))
        go_simp
        have HF2 := hide (HF.out.stay (HMSs.out.chg.stay hS))
        refine (Copy_ms (HMSs.out.stay hS)).mono ?_
        rintro e X2 ⟨⟨mc, rfl, hmc⟩, hcx⟩
        have hS0 := hS
        replace hS := hS.stay hcx
        refine hK _ _ hS ?_
        clear hK K
        go_wp2_with (first | (refine wpG_hload 42 _ rfl rfl (fun w' hw' => H13p.out w' hw') hS ?_) | (refine wpG_hload 42 _ rfl rfl (fun w' hw' => H14p.out w' hw') hS ?_) | (refine wpG_hload 45 _ rfl rfl (fun w' hw' => H17p.out w' hw') hS ?_) | (refine wpG_buildRs _ rfl EB.out ?_ ?_; (focus (simp [Act.eval, Act.put]; done))) | (refine wpG_buildRs _ rfl E0.out ?_ ?_; (focus (simp [Act.eval, Act.put]; done))) | (refine wpG_calc rfl (fun K hK => ?_)) | (refine wpG_skip ?_ ?_; (focus (simp [wantG]; done)); go_simp) | (refine wpG_take ?_ ?_; (focus (simp [wantG]; done))) | (refine wpG_pure (fun K hK => ?_); go_simp; refine hK _ _ ?_; clear hK K) | (refine wpG_deed (by decide) (fun K hK => ?_); go_simp) | (refine wpG_nil ?_))
        have hv2 := HVB.out X2 (HMSs.out.chg.stay hS)
        (refine wpG_keeps hS (fun K hK => ?_))
        go_simp
        refine (Step_copy (r := plainR 190) hmc HF2.out HLOK.out (RE.nil ucl 1 _ none 0) (rs_ok (by omega) (by omega)) (RE.nil ucl 1 _ none 0)).mono ?_
        rintro e Y2 ⟨rfl, hcy⟩
        rw [HL2.out]
        replace hS : Chg [] V6 Y2 := hS0.stay hcy
        clear hv2 hS0 hcx hcy hmc HF2
        refine hK _ _ hS ?_
        clear hK K
        go_wp2_with (first | (refine wpG_hload 42 _ rfl rfl (fun w' hw' => H13p.out w' hw') hS ?_) | (refine wpG_hload 42 _ rfl rfl (fun w' hw' => H14p.out w' hw') hS ?_) | (refine wpG_hload 45 _ rfl rfl (fun w' hw' => H17p.out w' hw') hS ?_) | (refine wpG_buildRs _ rfl EB.out ?_ ?_; (focus (simp [Act.eval, Act.put]; done))) | (refine wpG_buildRs _ rfl E0.out ?_ ?_; (focus (simp [Act.eval, Act.put]; done))) | (refine wpG_calc rfl (fun K hK => ?_)) | (refine wpG_skip ?_ ?_; (focus (simp [wantG]; done)); go_simp) | (refine wpG_take ?_ ?_; (focus (simp [wantG]; done))) | (refine wpG_pure (fun K hK => ?_); go_simp; refine hK _ _ ?_; clear hK K) | (refine wpG_deed (by decide) (fun K hK => ?_); go_simp) | (refine wpG_nil ?_))
        (refine wpG_keeps hS (fun K hK => ?_))
        go_simp
        have HF3 := hide (HF.out.stay (HMSs.out.chg.stay hS))
        refine (Copy_ms (HMSs.out.stay hS)).mono ?_
        rintro e X3 ⟨⟨mc, rfl, hmc⟩, hcx⟩
        have hS0 := hS
        replace hS := hS.stay hcx
        refine hK _ _ hS ?_
        clear hK K
        go_wp2_with (first | (refine wpG_hload 42 _ rfl rfl (fun w' hw' => H13p.out w' hw') hS ?_) | (refine wpG_hload 42 _ rfl rfl (fun w' hw' => H14p.out w' hw') hS ?_) | (refine wpG_hload 45 _ rfl rfl (fun w' hw' => H17p.out w' hw') hS ?_) | (refine wpG_buildRs _ rfl EB.out ?_ ?_; (focus (simp [Act.eval, Act.put]; done))) | (refine wpG_buildRs _ rfl E0.out ?_ ?_; (focus (simp [Act.eval, Act.put]; done))) | (refine wpG_calc rfl (fun K hK => ?_)) | (refine wpG_skip ?_ ?_; (focus (simp [wantG]; done)); go_simp) | (refine wpG_take ?_ ?_; (focus (simp [wantG]; done))) | (refine wpG_pure (fun K hK => ?_); go_simp; refine hK _ _ ?_; clear hK K) | (refine wpG_deed (by decide) (fun K hK => ?_); go_simp) | (refine wpG_nil ?_))
        have hv3 := HVB.out X3 (HMSs.out.chg.stay hS)
        (refine wpG_keeps hS (fun K hK => ?_))
        go_simp
        refine (Step_copy (r := ⟨0, 0, []⟩) hmc HF3.out HSOK.out hv3 (rs_ok (by omega) (by omega)) (RE.nil ucl 1 _ none 0)).mono ?_
        rintro e Y3 ⟨rfl, hcy⟩
        rw [HL3.out]
        replace hS : Chg [] V6 Y3 := hS0.stay hcy
        clear hv3 hS0 hcx hcy hmc HF3
        refine hK _ _ hS ?_
        clear hK K
        go_wp2_with (first | (refine wpG_hload 42 _ rfl rfl (fun w' hw' => H13p.out w' hw') hS ?_) | (refine wpG_hload 42 _ rfl rfl (fun w' hw' => H14p.out w' hw') hS ?_) | (refine wpG_hload 45 _ rfl rfl (fun w' hw' => H17p.out w' hw') hS ?_) | (refine wpG_buildRs _ rfl EB.out ?_ ?_; (focus (simp [Act.eval, Act.put]; done))) | (refine wpG_buildRs _ rfl E0.out ?_ ?_; (focus (simp [Act.eval, Act.put]; done))) | (refine wpG_calc rfl (fun K hK => ?_)) | (refine wpG_skip ?_ ?_; (focus (simp [wantG]; done)); go_simp) | (refine wpG_take ?_ ?_; (focus (simp [wantG]; done))) | (refine wpG_pure (fun K hK => ?_); go_simp; refine hK _ _ ?_; clear hK K) | (refine wpG_deed (by decide) (fun K hK => ?_); go_simp) | (refine wpG_nil ?_))
        (refine wpG_keeps hS (fun K hK => ?_))
        go_simp
        have HF4 := hide (HF.out.stay (HMSs.out.chg.stay hS))
        refine (Copy_ms (HMSs.out.stay hS)).mono ?_
        rintro e X4 ⟨⟨mc, rfl, hmc⟩, hcx⟩
        have hS0 := hS
        replace hS := hS.stay hcx
        refine hK _ _ hS ?_
        clear hK K
        go_wp2_with (first | (refine wpG_hload 42 _ rfl rfl (fun w' hw' => H13p.out w' hw') hS ?_) | (refine wpG_hload 42 _ rfl rfl (fun w' hw' => H14p.out w' hw') hS ?_) | (refine wpG_hload 45 _ rfl rfl (fun w' hw' => H17p.out w' hw') hS ?_) | (refine wpG_buildRs _ rfl EB.out ?_ ?_; (focus (simp [Act.eval, Act.put]; done))) | (refine wpG_buildRs _ rfl E0.out ?_ ?_; (focus (simp [Act.eval, Act.put]; done))) | (refine wpG_calc rfl (fun K hK => ?_)) | (refine wpG_skip ?_ ?_; (focus (simp [wantG]; done)); go_simp) | (refine wpG_take ?_ ?_; (focus (simp [wantG]; done))) | (refine wpG_pure (fun K hK => ?_); go_simp; refine hK _ _ ?_; clear hK K) | (refine wpG_deed (by decide) (fun K hK => ?_); go_simp) | (refine wpG_nil ?_))
        have hv4 := HVB.out X4 (HMSs.out.chg.stay hS)
        (refine wpG_keeps hS (fun K hK => ?_))
        go_simp
        refine (Step_copy (r := plainR 190) hmc HF4.out HSOK.out hv4 (rs_ok (by omega) (by omega)) (RE.nil ucl 1 _ none 0)).mono ?_
        rintro e Y4 ⟨rfl, hcy⟩
        rw [HL4.out]
        replace hS : Chg [] V6 Y4 := hS0.stay hcy
        clear hv4 hS0 hcx hcy hmc HF4
        refine hK _ _ hS ?_
        clear hK K
        go_wp2_with (first | (refine wpG_hload 42 _ rfl rfl (fun w' hw' => H13p.out w' hw') hS ?_) | (refine wpG_hload 42 _ rfl rfl (fun w' hw' => H14p.out w' hw') hS ?_) | (refine wpG_hload 45 _ rfl rfl (fun w' hw' => H17p.out w' hw') hS ?_) | (refine wpG_buildRs _ rfl EB.out ?_ ?_; (focus (simp [Act.eval, Act.put]; done))) | (refine wpG_buildRs _ rfl E0.out ?_ ?_; (focus (simp [Act.eval, Act.put]; done))) | (refine wpG_calc rfl (fun K hK => ?_)) | (refine wpG_skip ?_ ?_; (focus (simp [wantG]; done)); go_simp) | (refine wpG_take ?_ ?_; (focus (simp [wantG]; done))) | (refine wpG_pure (fun K hK => ?_); go_simp; refine hK _ _ ?_; clear hK K) | (refine wpG_deed (by decide) (fun K hK => ?_); go_simp) | (refine wpG_nil ?_))
        exact ⟨⟨2, by omega, rfl, M4, ((1 : Nat) : Int), by omega, by omega, hide (HMSs.out.stay hS), HPI4, hide (H13q.out.stay (HC6.out.stay hS)), hide (H14q.out.stay (HC6.out.stay hS))⟩, by simp [intOf]⟩
      · obtain rfl : z2 = 2 := HZ.out
        have hix0 := ix_two0 z1 2
        have hix1 := ix_two1 z1 2
        have DP := hide (show BC [(0, .int .u8 5), (1, .int .i64 1), (3, .int .i64 g), (4, .int .i64 1), (7, .int .u8 2)] (cPr g 1 2) zV from pr_built g 2)
        go_wp2_with (first | (refine wpList_build34 rfl _ rfl DP.out ?_ ?_; (focus (simp [Act.eval, Act.put]; done))) | (refine wpList_buildRs rfl _ rfl E0.out ?_ ?_; (focus (simp [Act.eval, Act.put]; done))))
        refine (Step_ms (r := ⟨0, 0, []⟩) HMSr.out HF.out (pr_ok (r := 2) HG.out (by omega)) (RE.nil ucl 1 _ none 0) (rs_ok (by omega) (by omega)) (RE.nil ucl 1 _ none 0)).mono ?_
        rintro e V5 ⟨rfl, hms, hkp⟩
        have hs := pi_prot (s := 2) (o := 0) HPI.out HG.out HR.out (by omega)
        rw [hs.1]
        obtain ⟨M4, hM4⟩ : ∃ N, N = stepM M (cPr g 1 2) ⟨0, 0, []⟩ := ⟨_, rfl⟩
        rw [← hM4] at hms hs
        have HPI4 := hide hs.2
        have h_l := pi_load hs.2 HG.out hbb (by omega) (by rw [rt_one]; decide)
        have h_s := pi_store hs.2 HG.out hbb (by omega) (by rw [rt_one]; decide)
        rw [rt_one, e0] at h_l h_s
        rw [← HBLN.out] at h_l
        have HL1 := hide (show stepB M4 (cLd (256 * g) bl) ⟨0, 0, b⟩ = false from h_l.1)
        have HL2 := hide (show stepB M4 (cLd (256 * g) bl) (plainR 190) = true from h_l.2.1)
        have HL3 := hide (show stepB M4 (cSt (256 * g) b) ⟨0, 0, []⟩ = true from h_s.1)
        have HL4 := hide (show stepB M4 (cSt (256 * g) b) (plainR 190) = false from h_s.2)
        have HMS5 := hide hms
        have H13q := hide (show KB V5 b13 (cSt (256 * g) b) (.slice A0 bl c0) from hkp.blk H13r.out (by simp))
        have H14q := hide (show KB V5 b14 (cLd (256 * g) bl) zV from hkp.blk H14r.out (by simp))
        clear hs hM4 hms hkp h_l h_s HMSr HPI
        go_upto_region 16 with (first | (refine wpList_allocRs rfl rfl ?_; try go_simp) | (refine wpList_buildRs rfl _ rfl E190.out ?_ ?_; (focus (simp [Act.eval, Act.put]; done))) | (refine wpList_storeRs (b := V5.heap.size) (y := plainR 190) (u := zV) rfl _ _ rfl rfl rfl rfl (Blk.new V5 _ _) ?_; intro V6 h4 hc4; have H17 := hide h4; have HC6 := hide (show Chg [] V5 V6 from ((Chg.refl [] V5).alloc _).trans hc4 (fun y hy => .inr (by obtain rfl := List.mem_singleton.1 hy; exact Nat.le_refl _))); clear h4 hc4))
        have HMSs := hide (HMS5.out.stay HC6.out)
        have H13p := hide (fun W (h : Chg [] V6 W) => KB.load (H13q.out.stay (HC6.out.stay h)))
        have H14p := hide (fun W (h : Chg [] V6 W) => KB.load (H14q.out.stay (HC6.out.stay h)))
        obtain ⟨b17, hb17⟩ : ∃ b, b = V5.heap.size := ⟨_, rfl⟩
        rw [← hb17] at H17 ⊢
        have H17p := hide (fun W (h : Chg [] V6 W) => XB.load (XB.stay H17.out h))
        have HLOK := hide (show (cLd (256 * g) (bl : Nat)).Ok from ld_ok (by have := HG.out; omega) (by have := HBL.out; omega))
        have HSOK := hide (show (cSt (256 * g) b).Ok from st_ok (by have := HG.out; omega) HB8.out)
        have HROK := hide (show (⟨0, 0, b⟩ : Rs).Ok from ⟨by (show (-9223372036854775808 : Int) ≤ 0 ∧ (0 : Int) ≤ _); omega, by (show (0 : Nat) < _); omega, HB8.out⟩)
        clear hb17 e0 hbb
        refine wp_region_t [0,6,5,0,0,6,0,0,0,0,0,0,6,5,5,6,0,0,0,0,0,0,0,6,5,0,6,0,0,0,0,0,0,6,5,5,6,0,0,0,0] [none, none, none, none, none, none, none, none, none, none, none, some (116, false), some (116, false), some (116, false), some (116, false), some (116, false), some (116, false), some (116, false), some (116, false), some (116, false), none, none, some (127, false), some (127, false), some (127, false), some (127, false), some (127, false), some (127, false), some (127, false), some (127, false), none, none, some (137, false), some (137, false), some (137, false), some (137, false), some (137, false), some (137, false), some (137, false), some (137, false), none] (fun W => Chg [] V6 W) (by kernel_rfl) (by kernel_rfl) (by kernel_rfl) ?_
        have hS : Chg [] V6 V6.drew := (Chg.refl [] V6).drew
        generalize V6.drew = W0 at hS ⊢
        go_wp2_with (first | (refine wpG_hload 42 _ rfl rfl (fun w' hw' => H13p.out w' hw') hS ?_) | (refine wpG_hload 42 _ rfl rfl (fun w' hw' => H14p.out w' hw') hS ?_) | (refine wpG_hload 45 _ rfl rfl (fun w' hw' => H17p.out w' hw') hS ?_) | (refine wpG_buildRs _ rfl EB.out ?_ ?_; (focus (simp [Act.eval, Act.put]; done))) | (refine wpG_buildRs _ rfl E0.out ?_ ?_; (focus (simp [Act.eval, Act.put]; done))) | (refine wpG_calc rfl (fun K hK => ?_)) | (refine wpG_skip ?_ ?_; (focus (simp [wantG]; done)); go_simp) | (refine wpG_take ?_ ?_; (focus (simp [wantG]; done))) | (refine wpG_pure (fun K hK => ?_); go_simp; refine hK _ _ ?_; clear hK K) | (refine wpG_deed (by decide) (fun K hK => ?_); go_simp) | (refine wpG_nil ?_))
        (refine wpG_keeps hS (fun K hK => ?_))
        go_simp
        have HF1 := hide (HF.out.stay (HMSs.out.chg.stay hS))
        refine (Copy_ms (HMSs.out.stay hS)).mono ?_
        rintro e X1 ⟨⟨mc, rfl, hmc⟩, hcx⟩
        have hS0 := hS
        replace hS := hS.stay hcx
        refine hK _ _ hS ?_
        clear hK K
        go_wp2_with (first | (refine wpG_hload 42 _ rfl rfl (fun w' hw' => H13p.out w' hw') hS ?_) | (refine wpG_hload 42 _ rfl rfl (fun w' hw' => H14p.out w' hw') hS ?_) | (refine wpG_hload 45 _ rfl rfl (fun w' hw' => H17p.out w' hw') hS ?_) | (refine wpG_buildRs _ rfl EB.out ?_ ?_; (focus (simp [Act.eval, Act.put]; done))) | (refine wpG_buildRs _ rfl E0.out ?_ ?_; (focus (simp [Act.eval, Act.put]; done))) | (refine wpG_calc rfl (fun K hK => ?_)) | (refine wpG_skip ?_ ?_; (focus (simp [wantG]; done)); go_simp) | (refine wpG_take ?_ ?_; (focus (simp [wantG]; done))) | (refine wpG_pure (fun K hK => ?_); go_simp; refine hK _ _ ?_; clear hK K) | (refine wpG_deed (by decide) (fun K hK => ?_); go_simp) | (refine wpG_nil ?_))
        have hv1 := HVB.out X1 (HMSs.out.chg.stay hS)
        (refine wpG_keeps hS (fun K hK => ?_))
        go_simp
        refine (Step_copy (r := ⟨0, 0, b⟩) hmc HF1.out HLOK.out (RE.nil ucl 1 _ none 0) HROK.out hv1).mono ?_
        rintro e Y1 ⟨rfl, hcy⟩
        rw [HL1.out]
        replace hS : Chg [] V6 Y1 := hS0.stay hcy
        clear hv1 hS0 hcx hcy hmc HF1
        refine hK _ _ hS ?_
        clear hK K
        go_wp2_with (first | (refine wpG_hload 42 _ rfl rfl (fun w' hw' => H13p.out w' hw') hS ?_) | (refine wpG_hload 42 _ rfl rfl (fun w' hw' => H14p.out w' hw') hS ?_) | (refine wpG_hload 45 _ rfl rfl (fun w' hw' => H17p.out w' hw') hS ?_) | (refine wpG_buildRs _ rfl EB.out ?_ ?_; (focus (simp [Act.eval, Act.put]; done))) | (refine wpG_buildRs _ rfl E0.out ?_ ?_; (focus (simp [Act.eval, Act.put]; done))) | (refine wpG_calc rfl (fun K hK => ?_)) | (refine wpG_skip ?_ ?_; (focus (simp [wantG]; done)); go_simp) | (refine wpG_take ?_ ?_; (focus (simp [wantG]; done))) | (refine wpG_pure (fun K hK => ?_); go_simp; refine hK _ _ ?_; clear hK K) | (refine wpG_deed (by decide) (fun K hK => ?_); go_simp) | (refine wpG_nil ?_))
        (refine wpG_keeps hS (fun K hK => ?_))
        go_simp
        have HF2 := hide (HF.out.stay (HMSs.out.chg.stay hS))
        refine (Copy_ms (HMSs.out.stay hS)).mono ?_
        rintro e X2 ⟨⟨mc, rfl, hmc⟩, hcx⟩
        have hS0 := hS
        replace hS := hS.stay hcx
        refine hK _ _ hS ?_
        clear hK K
        go_wp2_with (first | (refine wpG_hload 42 _ rfl rfl (fun w' hw' => H13p.out w' hw') hS ?_) | (refine wpG_hload 42 _ rfl rfl (fun w' hw' => H14p.out w' hw') hS ?_) | (refine wpG_hload 45 _ rfl rfl (fun w' hw' => H17p.out w' hw') hS ?_) | (refine wpG_buildRs _ rfl EB.out ?_ ?_; (focus (simp [Act.eval, Act.put]; done))) | (refine wpG_buildRs _ rfl E0.out ?_ ?_; (focus (simp [Act.eval, Act.put]; done))) | (refine wpG_calc rfl (fun K hK => ?_)) | (refine wpG_skip ?_ ?_; (focus (simp [wantG]; done)); go_simp) | (refine wpG_take ?_ ?_; (focus (simp [wantG]; done))) | (refine wpG_pure (fun K hK => ?_); go_simp; refine hK _ _ ?_; clear hK K) | (refine wpG_deed (by decide) (fun K hK => ?_); go_simp) | (refine wpG_nil ?_))
        have hv2 := HVB.out X2 (HMSs.out.chg.stay hS)
        (refine wpG_keeps hS (fun K hK => ?_))
        go_simp
        refine (Step_copy (r := plainR 190) hmc HF2.out HLOK.out (RE.nil ucl 1 _ none 0) (rs_ok (by omega) (by omega)) (RE.nil ucl 1 _ none 0)).mono ?_
        rintro e Y2 ⟨rfl, hcy⟩
        rw [HL2.out]
        replace hS : Chg [] V6 Y2 := hS0.stay hcy
        clear hv2 hS0 hcx hcy hmc HF2
        refine hK _ _ hS ?_
        clear hK K
        go_wp2_with (first | (refine wpG_hload 42 _ rfl rfl (fun w' hw' => H13p.out w' hw') hS ?_) | (refine wpG_hload 42 _ rfl rfl (fun w' hw' => H14p.out w' hw') hS ?_) | (refine wpG_hload 45 _ rfl rfl (fun w' hw' => H17p.out w' hw') hS ?_) | (refine wpG_buildRs _ rfl EB.out ?_ ?_; (focus (simp [Act.eval, Act.put]; done))) | (refine wpG_buildRs _ rfl E0.out ?_ ?_; (focus (simp [Act.eval, Act.put]; done))) | (refine wpG_calc rfl (fun K hK => ?_)) | (refine wpG_skip ?_ ?_; (focus (simp [wantG]; done)); go_simp) | (refine wpG_take ?_ ?_; (focus (simp [wantG]; done))) | (refine wpG_pure (fun K hK => ?_); go_simp; refine hK _ _ ?_; clear hK K) | (refine wpG_deed (by decide) (fun K hK => ?_); go_simp) | (refine wpG_nil ?_))
        (refine wpG_keeps hS (fun K hK => ?_))
        go_simp
        have HF3 := hide (HF.out.stay (HMSs.out.chg.stay hS))
        refine (Copy_ms (HMSs.out.stay hS)).mono ?_
        rintro e X3 ⟨⟨mc, rfl, hmc⟩, hcx⟩
        have hS0 := hS
        replace hS := hS.stay hcx
        refine hK _ _ hS ?_
        clear hK K
        go_wp2_with (first | (refine wpG_hload 42 _ rfl rfl (fun w' hw' => H13p.out w' hw') hS ?_) | (refine wpG_hload 42 _ rfl rfl (fun w' hw' => H14p.out w' hw') hS ?_) | (refine wpG_hload 45 _ rfl rfl (fun w' hw' => H17p.out w' hw') hS ?_) | (refine wpG_buildRs _ rfl EB.out ?_ ?_; (focus (simp [Act.eval, Act.put]; done))) | (refine wpG_buildRs _ rfl E0.out ?_ ?_; (focus (simp [Act.eval, Act.put]; done))) | (refine wpG_calc rfl (fun K hK => ?_)) | (refine wpG_skip ?_ ?_; (focus (simp [wantG]; done)); go_simp) | (refine wpG_take ?_ ?_; (focus (simp [wantG]; done))) | (refine wpG_pure (fun K hK => ?_); go_simp; refine hK _ _ ?_; clear hK K) | (refine wpG_deed (by decide) (fun K hK => ?_); go_simp) | (refine wpG_nil ?_))
        have hv3 := HVB.out X3 (HMSs.out.chg.stay hS)
        (refine wpG_keeps hS (fun K hK => ?_))
        go_simp
        refine (Step_copy (r := ⟨0, 0, []⟩) hmc HF3.out HSOK.out hv3 (rs_ok (by omega) (by omega)) (RE.nil ucl 1 _ none 0)).mono ?_
        rintro e Y3 ⟨rfl, hcy⟩
        rw [HL3.out]
        replace hS : Chg [] V6 Y3 := hS0.stay hcy
        clear hv3 hS0 hcx hcy hmc HF3
        refine hK _ _ hS ?_
        clear hK K
        go_wp2_with (first | (refine wpG_hload 42 _ rfl rfl (fun w' hw' => H13p.out w' hw') hS ?_) | (refine wpG_hload 42 _ rfl rfl (fun w' hw' => H14p.out w' hw') hS ?_) | (refine wpG_hload 45 _ rfl rfl (fun w' hw' => H17p.out w' hw') hS ?_) | (refine wpG_buildRs _ rfl EB.out ?_ ?_; (focus (simp [Act.eval, Act.put]; done))) | (refine wpG_buildRs _ rfl E0.out ?_ ?_; (focus (simp [Act.eval, Act.put]; done))) | (refine wpG_calc rfl (fun K hK => ?_)) | (refine wpG_skip ?_ ?_; (focus (simp [wantG]; done)); go_simp) | (refine wpG_take ?_ ?_; (focus (simp [wantG]; done))) | (refine wpG_pure (fun K hK => ?_); go_simp; refine hK _ _ ?_; clear hK K) | (refine wpG_deed (by decide) (fun K hK => ?_); go_simp) | (refine wpG_nil ?_))
        (refine wpG_keeps hS (fun K hK => ?_))
        go_simp
        have HF4 := hide (HF.out.stay (HMSs.out.chg.stay hS))
        refine (Copy_ms (HMSs.out.stay hS)).mono ?_
        rintro e X4 ⟨⟨mc, rfl, hmc⟩, hcx⟩
        have hS0 := hS
        replace hS := hS.stay hcx
        refine hK _ _ hS ?_
        clear hK K
        go_wp2_with (first | (refine wpG_hload 42 _ rfl rfl (fun w' hw' => H13p.out w' hw') hS ?_) | (refine wpG_hload 42 _ rfl rfl (fun w' hw' => H14p.out w' hw') hS ?_) | (refine wpG_hload 45 _ rfl rfl (fun w' hw' => H17p.out w' hw') hS ?_) | (refine wpG_buildRs _ rfl EB.out ?_ ?_; (focus (simp [Act.eval, Act.put]; done))) | (refine wpG_buildRs _ rfl E0.out ?_ ?_; (focus (simp [Act.eval, Act.put]; done))) | (refine wpG_calc rfl (fun K hK => ?_)) | (refine wpG_skip ?_ ?_; (focus (simp [wantG]; done)); go_simp) | (refine wpG_take ?_ ?_; (focus (simp [wantG]; done))) | (refine wpG_pure (fun K hK => ?_); go_simp; refine hK _ _ ?_; clear hK K) | (refine wpG_deed (by decide) (fun K hK => ?_); go_simp) | (refine wpG_nil ?_))
        have hv4 := HVB.out X4 (HMSs.out.chg.stay hS)
        (refine wpG_keeps hS (fun K hK => ?_))
        go_simp
        refine (Step_copy (r := plainR 190) hmc HF4.out HSOK.out hv4 (rs_ok (by omega) (by omega)) (RE.nil ucl 1 _ none 0)).mono ?_
        rintro e Y4 ⟨rfl, hcy⟩
        rw [HL4.out]
        replace hS : Chg [] V6 Y4 := hS0.stay hcy
        clear hv4 hS0 hcx hcy hmc HF4
        refine hK _ _ hS ?_
        clear hK K
        go_wp2_with (first | (refine wpG_hload 42 _ rfl rfl (fun w' hw' => H13p.out w' hw') hS ?_) | (refine wpG_hload 42 _ rfl rfl (fun w' hw' => H14p.out w' hw') hS ?_) | (refine wpG_hload 45 _ rfl rfl (fun w' hw' => H17p.out w' hw') hS ?_) | (refine wpG_buildRs _ rfl EB.out ?_ ?_; (focus (simp [Act.eval, Act.put]; done))) | (refine wpG_buildRs _ rfl E0.out ?_ ?_; (focus (simp [Act.eval, Act.put]; done))) | (refine wpG_calc rfl (fun K hK => ?_)) | (refine wpG_skip ?_ ?_; (focus (simp [wantG]; done)); go_simp) | (refine wpG_take ?_ ?_; (focus (simp [wantG]; done))) | (refine wpG_pure (fun K hK => ?_); go_simp; refine hK _ _ ?_; clear hK K) | (refine wpG_deed (by decide) (fun K hK => ?_); go_simp) | (refine wpG_nil ?_))
        exact ⟨⟨2, by omega, rfl, M4, ((2 : Nat) : Int), by omega, by omega, hide (HMSs.out.stay hS), HPI4, hide (H13q.out.stay (HC6.out.stay hS)), hide (H14q.out.stay (HC6.out.stay hS))⟩, by simp [intOf]⟩
      · obtain rfl : z2 = 3 := HZ.out
        have hix0 := ix_two0 z1 3
        have hix1 := ix_two1 z1 3
        have DP := hide (show BC [(0, .int .u8 5), (1, .int .i64 1), (3, .int .i64 g), (4, .int .i64 1), (7, .int .u8 3)] (cPr g 1 3) zV from pr_built g 3)
        go_wp2_with (first | (refine wpList_build34 rfl _ rfl DP.out ?_ ?_; (focus (simp [Act.eval, Act.put]; done))) | (refine wpList_buildRs rfl _ rfl E0.out ?_ ?_; (focus (simp [Act.eval, Act.put]; done))))
        refine (Step_ms (r := ⟨0, 0, []⟩) HMSr.out HF.out (pr_ok (r := 3) HG.out (by omega)) (RE.nil ucl 1 _ none 0) (rs_ok (by omega) (by omega)) (RE.nil ucl 1 _ none 0)).mono ?_
        rintro e V5 ⟨rfl, hms, hkp⟩
        have hs := pi_prot (s := 3) (o := 0) HPI.out HG.out HR.out (by omega)
        rw [hs.1]
        obtain ⟨M4, hM4⟩ : ∃ N, N = stepM M (cPr g 1 3) ⟨0, 0, []⟩ := ⟨_, rfl⟩
        rw [← hM4] at hms hs
        have HPI4 := hide hs.2
        have h_l := pi_load hs.2 HG.out hbb (by omega) (by rw [rt_one]; decide)
        have h_s := pi_store hs.2 HG.out hbb (by omega) (by rw [rt_one]; decide)
        rw [rt_one, e0] at h_l h_s
        rw [← HBLN.out] at h_l
        have HL1 := hide (show stepB M4 (cLd (256 * g) bl) ⟨0, 0, b⟩ = true from h_l.1)
        have HL2 := hide (show stepB M4 (cLd (256 * g) bl) (plainR 190) = false from h_l.2.1)
        have HL3 := hide (show stepB M4 (cSt (256 * g) b) ⟨0, 0, []⟩ = true from h_s.1)
        have HL4 := hide (show stepB M4 (cSt (256 * g) b) (plainR 190) = false from h_s.2)
        have HMS5 := hide hms
        have H13q := hide (show KB V5 b13 (cSt (256 * g) b) (.slice A0 bl c0) from hkp.blk H13r.out (by simp))
        have H14q := hide (show KB V5 b14 (cLd (256 * g) bl) zV from hkp.blk H14r.out (by simp))
        clear hs hM4 hms hkp h_l h_s HMSr HPI
        go_upto_region 16 with (first | (refine wpList_allocRs rfl rfl ?_; try go_simp) | (refine wpList_buildRs rfl _ rfl E190.out ?_ ?_; (focus (simp [Act.eval, Act.put]; done))) | (refine wpList_storeRs (b := V5.heap.size) (y := plainR 190) (u := zV) rfl _ _ rfl rfl rfl rfl (Blk.new V5 _ _) ?_; intro V6 h4 hc4; have H17 := hide h4; have HC6 := hide (show Chg [] V5 V6 from ((Chg.refl [] V5).alloc _).trans hc4 (fun y hy => .inr (by obtain rfl := List.mem_singleton.1 hy; exact Nat.le_refl _))); clear h4 hc4))
        have HMSs := hide (HMS5.out.stay HC6.out)
        have H13p := hide (fun W (h : Chg [] V6 W) => KB.load (H13q.out.stay (HC6.out.stay h)))
        have H14p := hide (fun W (h : Chg [] V6 W) => KB.load (H14q.out.stay (HC6.out.stay h)))
        obtain ⟨b17, hb17⟩ : ∃ b, b = V5.heap.size := ⟨_, rfl⟩
        rw [← hb17] at H17 ⊢
        have H17p := hide (fun W (h : Chg [] V6 W) => XB.load (XB.stay H17.out h))
        have HLOK := hide (show (cLd (256 * g) (bl : Nat)).Ok from ld_ok (by have := HG.out; omega) (by have := HBL.out; omega))
        have HSOK := hide (show (cSt (256 * g) b).Ok from st_ok (by have := HG.out; omega) HB8.out)
        have HROK := hide (show (⟨0, 0, b⟩ : Rs).Ok from ⟨by (show (-9223372036854775808 : Int) ≤ 0 ∧ (0 : Int) ≤ _); omega, by (show (0 : Nat) < _); omega, HB8.out⟩)
        clear hb17 e0 hbb
        refine wp_region_t [0,6,5,0,0,6,0,0,0,0,0,0,6,5,5,6,0,0,0,0,0,0,0,6,5,0,6,0,0,0,0,0,0,6,5,5,6,0,0,0,0] [none, none, none, none, none, none, none, none, none, none, none, some (116, false), some (116, false), some (116, false), some (116, false), some (116, false), some (116, false), some (116, false), some (116, false), some (116, false), none, none, some (127, false), some (127, false), some (127, false), some (127, false), some (127, false), some (127, false), some (127, false), some (127, false), none, none, some (137, false), some (137, false), some (137, false), some (137, false), some (137, false), some (137, false), some (137, false), some (137, false), none] (fun W => Chg [] V6 W) (by kernel_rfl) (by kernel_rfl) (by kernel_rfl) ?_
        have hS : Chg [] V6 V6.drew := (Chg.refl [] V6).drew
        generalize V6.drew = W0 at hS ⊢
        go_wp2_with (first | (refine wpG_hload 42 _ rfl rfl (fun w' hw' => H13p.out w' hw') hS ?_) | (refine wpG_hload 42 _ rfl rfl (fun w' hw' => H14p.out w' hw') hS ?_) | (refine wpG_hload 45 _ rfl rfl (fun w' hw' => H17p.out w' hw') hS ?_) | (refine wpG_buildRs _ rfl EB.out ?_ ?_; (focus (simp [Act.eval, Act.put]; done))) | (refine wpG_buildRs _ rfl E0.out ?_ ?_; (focus (simp [Act.eval, Act.put]; done))) | (refine wpG_calc rfl (fun K hK => ?_)) | (refine wpG_skip ?_ ?_; (focus (simp [wantG]; done)); go_simp) | (refine wpG_take ?_ ?_; (focus (simp [wantG]; done))) | (refine wpG_pure (fun K hK => ?_); go_simp; refine hK _ _ ?_; clear hK K) | (refine wpG_deed (by decide) (fun K hK => ?_); go_simp) | (refine wpG_nil ?_))
        (refine wpG_keeps hS (fun K hK => ?_))
        go_simp
        have HF1 := hide (HF.out.stay (HMSs.out.chg.stay hS))
        refine (Copy_ms (HMSs.out.stay hS)).mono ?_
        rintro e X1 ⟨⟨mc, rfl, hmc⟩, hcx⟩
        have hS0 := hS
        replace hS := hS.stay hcx
        refine hK _ _ hS ?_
        clear hK K
        go_wp2_with (first | (refine wpG_hload 42 _ rfl rfl (fun w' hw' => H13p.out w' hw') hS ?_) | (refine wpG_hload 42 _ rfl rfl (fun w' hw' => H14p.out w' hw') hS ?_) | (refine wpG_hload 45 _ rfl rfl (fun w' hw' => H17p.out w' hw') hS ?_) | (refine wpG_buildRs _ rfl EB.out ?_ ?_; (focus (simp [Act.eval, Act.put]; done))) | (refine wpG_buildRs _ rfl E0.out ?_ ?_; (focus (simp [Act.eval, Act.put]; done))) | (refine wpG_calc rfl (fun K hK => ?_)) | (refine wpG_skip ?_ ?_; (focus (simp [wantG]; done)); go_simp) | (refine wpG_take ?_ ?_; (focus (simp [wantG]; done))) | (refine wpG_pure (fun K hK => ?_); go_simp; refine hK _ _ ?_; clear hK K) | (refine wpG_deed (by decide) (fun K hK => ?_); go_simp) | (refine wpG_nil ?_))
        have hv1 := HVB.out X1 (HMSs.out.chg.stay hS)
        (refine wpG_keeps hS (fun K hK => ?_))
        go_simp
        refine (Step_copy (r := ⟨0, 0, b⟩) hmc HF1.out HLOK.out (RE.nil ucl 1 _ none 0) HROK.out hv1).mono ?_
        rintro e Y1 ⟨rfl, hcy⟩
        rw [HL1.out]
        replace hS : Chg [] V6 Y1 := hS0.stay hcy
        clear hv1 hS0 hcx hcy hmc HF1
        refine hK _ _ hS ?_
        clear hK K
        go_wp2_with (first | (refine wpG_hload 42 _ rfl rfl (fun w' hw' => H13p.out w' hw') hS ?_) | (refine wpG_hload 42 _ rfl rfl (fun w' hw' => H14p.out w' hw') hS ?_) | (refine wpG_hload 45 _ rfl rfl (fun w' hw' => H17p.out w' hw') hS ?_) | (refine wpG_buildRs _ rfl EB.out ?_ ?_; (focus (simp [Act.eval, Act.put]; done))) | (refine wpG_buildRs _ rfl E0.out ?_ ?_; (focus (simp [Act.eval, Act.put]; done))) | (refine wpG_calc rfl (fun K hK => ?_)) | (refine wpG_skip ?_ ?_; (focus (simp [wantG]; done)); go_simp) | (refine wpG_take ?_ ?_; (focus (simp [wantG]; done))) | (refine wpG_pure (fun K hK => ?_); go_simp; refine hK _ _ ?_; clear hK K) | (refine wpG_deed (by decide) (fun K hK => ?_); go_simp) | (refine wpG_nil ?_))
        (refine wpG_keeps hS (fun K hK => ?_))
        go_simp
        have HF2 := hide (HF.out.stay (HMSs.out.chg.stay hS))
        refine (Copy_ms (HMSs.out.stay hS)).mono ?_
        rintro e X2 ⟨⟨mc, rfl, hmc⟩, hcx⟩
        have hS0 := hS
        replace hS := hS.stay hcx
        refine hK _ _ hS ?_
        clear hK K
        go_wp2_with (first | (refine wpG_hload 42 _ rfl rfl (fun w' hw' => H13p.out w' hw') hS ?_) | (refine wpG_hload 42 _ rfl rfl (fun w' hw' => H14p.out w' hw') hS ?_) | (refine wpG_hload 45 _ rfl rfl (fun w' hw' => H17p.out w' hw') hS ?_) | (refine wpG_buildRs _ rfl EB.out ?_ ?_; (focus (simp [Act.eval, Act.put]; done))) | (refine wpG_buildRs _ rfl E0.out ?_ ?_; (focus (simp [Act.eval, Act.put]; done))) | (refine wpG_calc rfl (fun K hK => ?_)) | (refine wpG_skip ?_ ?_; (focus (simp [wantG]; done)); go_simp) | (refine wpG_take ?_ ?_; (focus (simp [wantG]; done))) | (refine wpG_pure (fun K hK => ?_); go_simp; refine hK _ _ ?_; clear hK K) | (refine wpG_deed (by decide) (fun K hK => ?_); go_simp) | (refine wpG_nil ?_))
        have hv2 := HVB.out X2 (HMSs.out.chg.stay hS)
        (refine wpG_keeps hS (fun K hK => ?_))
        go_simp
        refine (Step_copy (r := plainR 190) hmc HF2.out HLOK.out (RE.nil ucl 1 _ none 0) (rs_ok (by omega) (by omega)) (RE.nil ucl 1 _ none 0)).mono ?_
        rintro e Y2 ⟨rfl, hcy⟩
        rw [HL2.out]
        replace hS : Chg [] V6 Y2 := hS0.stay hcy
        clear hv2 hS0 hcx hcy hmc HF2
        refine hK _ _ hS ?_
        clear hK K
        go_wp2_with (first | (refine wpG_hload 42 _ rfl rfl (fun w' hw' => H13p.out w' hw') hS ?_) | (refine wpG_hload 42 _ rfl rfl (fun w' hw' => H14p.out w' hw') hS ?_) | (refine wpG_hload 45 _ rfl rfl (fun w' hw' => H17p.out w' hw') hS ?_) | (refine wpG_buildRs _ rfl EB.out ?_ ?_; (focus (simp [Act.eval, Act.put]; done))) | (refine wpG_buildRs _ rfl E0.out ?_ ?_; (focus (simp [Act.eval, Act.put]; done))) | (refine wpG_calc rfl (fun K hK => ?_)) | (refine wpG_skip ?_ ?_; (focus (simp [wantG]; done)); go_simp) | (refine wpG_take ?_ ?_; (focus (simp [wantG]; done))) | (refine wpG_pure (fun K hK => ?_); go_simp; refine hK _ _ ?_; clear hK K) | (refine wpG_deed (by decide) (fun K hK => ?_); go_simp) | (refine wpG_nil ?_))
        (refine wpG_keeps hS (fun K hK => ?_))
        go_simp
        have HF3 := hide (HF.out.stay (HMSs.out.chg.stay hS))
        refine (Copy_ms (HMSs.out.stay hS)).mono ?_
        rintro e X3 ⟨⟨mc, rfl, hmc⟩, hcx⟩
        have hS0 := hS
        replace hS := hS.stay hcx
        refine hK _ _ hS ?_
        clear hK K
        go_wp2_with (first | (refine wpG_hload 42 _ rfl rfl (fun w' hw' => H13p.out w' hw') hS ?_) | (refine wpG_hload 42 _ rfl rfl (fun w' hw' => H14p.out w' hw') hS ?_) | (refine wpG_hload 45 _ rfl rfl (fun w' hw' => H17p.out w' hw') hS ?_) | (refine wpG_buildRs _ rfl EB.out ?_ ?_; (focus (simp [Act.eval, Act.put]; done))) | (refine wpG_buildRs _ rfl E0.out ?_ ?_; (focus (simp [Act.eval, Act.put]; done))) | (refine wpG_calc rfl (fun K hK => ?_)) | (refine wpG_skip ?_ ?_; (focus (simp [wantG]; done)); go_simp) | (refine wpG_take ?_ ?_; (focus (simp [wantG]; done))) | (refine wpG_pure (fun K hK => ?_); go_simp; refine hK _ _ ?_; clear hK K) | (refine wpG_deed (by decide) (fun K hK => ?_); go_simp) | (refine wpG_nil ?_))
        have hv3 := HVB.out X3 (HMSs.out.chg.stay hS)
        (refine wpG_keeps hS (fun K hK => ?_))
        go_simp
        refine (Step_copy (r := ⟨0, 0, []⟩) hmc HF3.out HSOK.out hv3 (rs_ok (by omega) (by omega)) (RE.nil ucl 1 _ none 0)).mono ?_
        rintro e Y3 ⟨rfl, hcy⟩
        rw [HL3.out]
        replace hS : Chg [] V6 Y3 := hS0.stay hcy
        clear hv3 hS0 hcx hcy hmc HF3
        refine hK _ _ hS ?_
        clear hK K
        go_wp2_with (first | (refine wpG_hload 42 _ rfl rfl (fun w' hw' => H13p.out w' hw') hS ?_) | (refine wpG_hload 42 _ rfl rfl (fun w' hw' => H14p.out w' hw') hS ?_) | (refine wpG_hload 45 _ rfl rfl (fun w' hw' => H17p.out w' hw') hS ?_) | (refine wpG_buildRs _ rfl EB.out ?_ ?_; (focus (simp [Act.eval, Act.put]; done))) | (refine wpG_buildRs _ rfl E0.out ?_ ?_; (focus (simp [Act.eval, Act.put]; done))) | (refine wpG_calc rfl (fun K hK => ?_)) | (refine wpG_skip ?_ ?_; (focus (simp [wantG]; done)); go_simp) | (refine wpG_take ?_ ?_; (focus (simp [wantG]; done))) | (refine wpG_pure (fun K hK => ?_); go_simp; refine hK _ _ ?_; clear hK K) | (refine wpG_deed (by decide) (fun K hK => ?_); go_simp) | (refine wpG_nil ?_))
        (refine wpG_keeps hS (fun K hK => ?_))
        go_simp
        have HF4 := hide (HF.out.stay (HMSs.out.chg.stay hS))
        refine (Copy_ms (HMSs.out.stay hS)).mono ?_
        rintro e X4 ⟨⟨mc, rfl, hmc⟩, hcx⟩
        have hS0 := hS
        replace hS := hS.stay hcx
        refine hK _ _ hS ?_
        clear hK K
        go_wp2_with (first | (refine wpG_hload 42 _ rfl rfl (fun w' hw' => H13p.out w' hw') hS ?_) | (refine wpG_hload 42 _ rfl rfl (fun w' hw' => H14p.out w' hw') hS ?_) | (refine wpG_hload 45 _ rfl rfl (fun w' hw' => H17p.out w' hw') hS ?_) | (refine wpG_buildRs _ rfl EB.out ?_ ?_; (focus (simp [Act.eval, Act.put]; done))) | (refine wpG_buildRs _ rfl E0.out ?_ ?_; (focus (simp [Act.eval, Act.put]; done))) | (refine wpG_calc rfl (fun K hK => ?_)) | (refine wpG_skip ?_ ?_; (focus (simp [wantG]; done)); go_simp) | (refine wpG_take ?_ ?_; (focus (simp [wantG]; done))) | (refine wpG_pure (fun K hK => ?_); go_simp; refine hK _ _ ?_; clear hK K) | (refine wpG_deed (by decide) (fun K hK => ?_); go_simp) | (refine wpG_nil ?_))
        have hv4 := HVB.out X4 (HMSs.out.chg.stay hS)
        (refine wpG_keeps hS (fun K hK => ?_))
        go_simp
        refine (Step_copy (r := plainR 190) hmc HF4.out HSOK.out hv4 (rs_ok (by omega) (by omega)) (RE.nil ucl 1 _ none 0)).mono ?_
        rintro e Y4 ⟨rfl, hcy⟩
        rw [HL4.out]
        replace hS : Chg [] V6 Y4 := hS0.stay hcy
        clear hv4 hS0 hcx hcy hmc HF4
        refine hK _ _ hS ?_
        clear hK K
        go_wp2_with (first | (refine wpG_hload 42 _ rfl rfl (fun w' hw' => H13p.out w' hw') hS ?_) | (refine wpG_hload 42 _ rfl rfl (fun w' hw' => H14p.out w' hw') hS ?_) | (refine wpG_hload 45 _ rfl rfl (fun w' hw' => H17p.out w' hw') hS ?_) | (refine wpG_buildRs _ rfl EB.out ?_ ?_; (focus (simp [Act.eval, Act.put]; done))) | (refine wpG_buildRs _ rfl E0.out ?_ ?_; (focus (simp [Act.eval, Act.put]; done))) | (refine wpG_calc rfl (fun K hK => ?_)) | (refine wpG_skip ?_ ?_; (focus (simp [wantG]; done)); go_simp) | (refine wpG_take ?_ ?_; (focus (simp [wantG]; done))) | (refine wpG_pure (fun K hK => ?_); go_simp; refine hK _ _ ?_; clear hK K) | (refine wpG_deed (by decide) (fun K hK => ?_); go_simp) | (refine wpG_nil ?_))
        exact ⟨⟨2, by omega, rfl, M4, ((3 : Nat) : Int), by omega, by omega, hide (HMSs.out.stay hS), HPI4, hide (H13q.out.stay (HC6.out.stay hS)), hide (H14q.out.stay (HC6.out.stay hS))⟩, by simp [intOf]⟩
    · clear hk e0 hbb
      have HCr := hide HMSr.out.chg
      go_wp2_with fail
      refine (HK.out _ HCr.out).mono ?_
      rintro e W9 ⟨rfl, hc9⟩
      go_wp2_with fail
      go_ret
      exact ⟨rfl, HCr.out.stay hc9⟩
end Go.Proofs.YtfoleblcaloeoaaDoor

/- Pairs of a call and an answer; tame. -/
namespace Go.Proofs.YtfoleblcaloeoaaDoor
open Go Go.RowKit

structure Tw where
  x : Cl
  v : Value
  r : Rs
  u : Value
  rt : Bool
  h : Nat
def twl (t : Tw) : List Value := (clc t.x t.v).toList ++ ((rsc t.r t.u).toList ++ [.bool t.rt, .int .u64 t.h])
theorem twl_len (t : Tw) : (twl t).length = 17 := rfl
structure TwOk (w : World) (t : Tw) : Prop where
  x : t.x.Ok
  r : t.r.Ok
  v : RB w t.v t.x.l
  u : RB w t.u t.r.l
  h : t.h < 18446744073709551616
theorem TwOk.stay {w w' : World} {t : Tw} (h : TwOk w t) (hc : Chg [] w w') : TwOk w' t := ⟨h.x, h.r, h.v.stay hc, h.u.stay hc, h.h⟩
def tameT (t : Tw) : Bool := decide (t.x.l.length ≤ 300) && decide (t.r.l.length ≤ 300)
def tameB (l : List Tw) (n : Nat) : Bool := decide (l.length ≤ n) && l.all tameT
theorem tw_cell {w : World} {g off n c : Nat} {l : List Tw} (h : RE twl 17 w (.slice (some ⟨g, off, none⟩) n c) l) {k : Nat} (hk : k < l.length) {j : Nat} {u : Value} (hj : j < 17) (hu : (twl l[k])[j]? = some u) : w.cell? ⟨g, off + k * 17 + j, none⟩ = some u :=
  RE.cell twl_len h hk hj hu
set_option maxRecDepth 20000 in
set_option maxHeartbeats 4000000 in
theorem tame_any {w : World} {l : List Tw} {V : Value} (hV : RE twl 17 w V l) (hO : ∀ t ∈ l, TwOk w t) {n : Nat} (hn : n ≤ 100) :
    Calls Tryd.prog 8 #[V, .int .i64 n] w fun e w' => e = .returned (.bool (tameB l n)) ∧ w = w' := by
  obtain ⟨A, c, rfl⟩ := RE.form hV
  obtain ⟨R, hR⟩ : ∃ R, R = tameB l n := ⟨_, rfl⟩
  rw [← hR]
  have HR := hide hR
  have HV := hide hV
  have HO := hide hO
  clear hR hV hO
  by_cases hl : n < l.length
  · have d1 : decide ((n : Int) < (l.length : Int)) = true := decide_eq_true (by omega)
    have d1' : decide (n < l.length) = true := decide_eq_true hl
    have e : R = false := by rw [HR.out]; unfold tameB; rw [decide_eq_false (by omega)]; rfl
    subst e
    clear hl
    go_enter Tryd.func8, Tryd.ntmps8
    go_wp2_with fail
    go_ret
    (first | exact ⟨rfl, rfl⟩ | exact ⟨rfl, trivial⟩)
  have d1 : decide ((n : Int) < (l.length : Int)) = false := decide_eq_false (by omega)
  have d1' : decide (n < l.length) = false := decide_eq_false hl
  have HL := hide hl
  have hl1 : l.length ≤ 100 := by omega
  clear hl
  go_enter Tryd.func8, Tryd.ntmps8
  go_upto_region 4 with (fail)
  clear d1 d1'
  go_loopw [12] (fun i wr => wr = w ∧ ∃ k : Nat, k ≤ l.length ∧ i = .int .i64 k ∧ Hid ((l.take k).all tameT = true)) (fun i _ => l.length - (intOf i).toNat)
  case atStart => exact ⟨rfl, 0, by omega, rfl, hide rfl⟩
  case round =>
    obtain ⟨rfl, k, hk, rfl, hall⟩ := hrel
    by_cases hkl : k < l.length
    · obtain ⟨g, off, rfl⟩ := RE.addr HV.out (show 0 < l.length by omega)
      have ht := HO.out _ (List.getElem_mem hkl)
      obtain ⟨A1, c1, e1⟩ := RE.form ht.v
      obtain ⟨A2, c2, e2⟩ := RE.form ht.u
      have q1 : wr.cell? ⟨g, off + k * 17 + 11, none⟩ = some (.slice A1 l[k].x.l.length c1) := by
        have := tw_cell HV.out hkl (j := 11) (u := l[k].v) (by omega) rfl
        rw [this, e1]
      have q2 : wr.cell? ⟨g, off + k * 17 + 14, none⟩ = some (.slice A2 l[k].r.l.length c2) := by
        have := tw_cell HV.out hkl (j := 14) (u := l[k].u) (by omega) rfl
        rw [this, e2]
      obtain ⟨n1, hn1⟩ : ∃ n, n = l[k].x.l.length := ⟨_, rfl⟩
      obtain ⟨n2, hn2⟩ : ∃ n, n = l[k].r.l.length := ⟨_, rfl⟩
      rw [← hn1] at q1
      rw [← hn2] at q2
      have htk : (l.take (k + 1)).all tameT = (decide (n1 ≤ 300) && decide (n2 ≤ 300)) := by
        rw [List.take_succ_eq_append_getElem hkl, List.all_append, hall.out, Bool.true_and]
        show (tameT l[k] && true) = _
        rw [Bool.and_true]
        unfold tameT
        rw [hn1, hn2]
      have hno : (l.take (k + 1)).all tameT = false → R = false := fun h => by
        rw [HR.out]
        unfold tameB
        cases h2 : l.all tameT with
        | false => simp
        | true =>
          have : (l.take (k + 1)).all tameT = true := List.all_eq_true.2 fun x hx => List.all_eq_true.1 h2 x (List.mem_of_mem_take hx)
          rw [h] at this; cases this
      have HTK := hide htk
      have HNO := hide hno
      have d2 : decide ((k : Int) < (l.length : Int)) = true := decide_eq_true (by omega)
      have d2' : decide (k < l.length) = true := decide_eq_true hkl
      have i0 : (0 : Int) ≤ (k : Int) := by omega
      have i1 : (k : Int) < (l.length : Int) := by omega
      have hwi : IntKind.i64.wrap ((k : Int) + 1) = (k : Int) + 1 := by rw [IntKind.wrap_i64]; omega
      have HKL := hide hkl
      clear ht e1 e2 hn1 hn2 htk hno hall hk
      by_cases h1 : n1 ≤ 300
      · have d3 : decide ((300 : Int) < (n1 : Int)) = false := decide_eq_false (by omega)
        have d3' : decide (300 < n1) = false := decide_eq_false (by omega)
        have H1 := hide h1
        clear h1
        by_cases h2 : n2 ≤ 300
        · have d4 : decide ((300 : Int) < (n2 : Int)) = false := decide_eq_false (by omega)
          have d4' : decide (300 < n2) = false := decide_eq_false (by omega)
          have H2 := hide h2
          clear h2 hkl
          go_wp2_with fail
          go_roundw
          case rel => exact ⟨trivial, k + 1, by have := HKL.out; omega, by go_num, hide (by rw [HTK.out, decide_eq_true H1.out, decide_eq_true H2.out]; rfl)⟩
          case measure => have := HKL.out; simp [intOf]; omega
        · have d4 : decide ((300 : Int) < (n2 : Int)) = true := decide_eq_true (by omega)
          have d4' : decide (300 < n2) = true := decide_eq_true (by omega)
          have e := HNO.out (by rw [HTK.out, decide_eq_false h2]; simp)
          clear h2 hkl
          subst e
          go_wp2_with fail
          go_ret
          (first | exact ⟨rfl, rfl⟩ | exact ⟨rfl, trivial⟩)
      · have d3 : decide ((300 : Int) < (n1 : Int)) = true := decide_eq_true (by omega)
        have d3' : decide (300 < n1) = true := decide_eq_true (by omega)
        have e := HNO.out (by rw [HTK.out, decide_eq_false h1]; rfl)
        clear h1 hkl
        subst e
        go_wp2_with fail
        go_ret
        (first | exact ⟨rfl, rfl⟩ | exact ⟨rfl, trivial⟩)
    · obtain rfl : k = l.length := by omega
      have e : R = true := by
        rw [HR.out]
        unfold tameB
        have h := hall.out
        rw [List.take_length] at h
        have := HL.out
        rw [h, decide_eq_true (by omega)]
        rfl
      subst e
      clear hall
      go_wp2_with fail
      go_ret
      (first | exact ⟨rfl, rfl⟩ | exact ⟨rfl, trivial⟩)
end Go.Proofs.YtfoleblcaloeoaaDoor

/- A config that a law is handed. -/
namespace Go.Proofs.YtfoleblcaloeoaaDoor
open Go Go.RowKit Go.ChangeShapes Go.WideShapes Go.ChangeAt Go.Deep

theorem Tryd.own : ownKnob Tryd.prog.godebug = none := by kernel_rfl
section
variable {H : Type} {enc : TypeId × Value → H} {w : World} {base : Nat} {spare : Nat → Bool} {held : Bool}
theorem one_of {L : List Value} {i : Nat} {v : Value} (h : (L.drop i).take 1 = [v]) : L[i]? = some v := by
  have : ((L.drop i).take 1)[0]? = some v := by rw [h]; rfl
  rw [List.getElem?_take_of_lt (by omega), List.getElem?_drop] at this
  simpa using this
theorem one_int {fuel : Nat} {L : List Value} {i : Nat} {x : DataW H × List MemPlace} (h : DataW.trod enc Tryd.prog w base spare held fuel 3 ((L.drop i).take 1) = some x) : ∃ z, L[i]? = some (.int .i64 z) := by
  obtain ⟨z, e, _⟩ := DataW.trod_int Tryd.underlying3 h
  exact ⟨z, one_of e⟩
theorem arr_int {fuel t n : Nat} {L : List Value} {x : DataW H × List MemPlace} (hu : Tryd.prog.underlying t = some (.array n 3)) (h : DataW.trod enc Tryd.prog w base spare held fuel t L = some x) : ∀ i, i < n → ∃ z, L[i]? = some (.int .i64 z) := by
  obtain ⟨xs, m, _, _, _, hl, hel⟩ := DataW.trod_array hu h
  intro i hi
  have h1 := hel i hi
  rw [cells3, Nat.mul_one, List.getElem?_eq_getElem (by rw [hl]; exact hi)] at h1
  exact one_int h1
theorem sub_at {L : List Value} {o n i : Nat} {v : Value} (h : ((L.drop o).take n)[i]? = some v) : L[o + i]? = some v := by
  have hi : i < n := by
    have := (List.getElem?_eq_some_iff.1 h).1
    rw [List.length_take] at this
    omega
  rw [List.getElem?_take_of_lt hi, List.getElem?_drop] at h
  exact h
theorem cells22 : Tryd.prog.cellsOf 22 = 16 := by kernel_rfl
theorem cells24 : Tryd.prog.cellsOf 24 = 64 := by kernel_rfl
theorem cells26 : Tryd.prog.cellsOf 26 = 94 := by kernel_rfl
theorem open_cfg {cs : Array Value} {d : DataW H} {p : List MemPlace} (hs : cs.size = 94) (h : DataW.Trod enc Tryd.prog w base spare held 26 (.agg cs) d p) : ∃ c : Cf, cs = cg c := by
  obtain ⟨fuel, hf⟩ := h
  have hcs : (Value.agg cs).cells.toList = cs.toList := rfl
  rw [hcs] at hf
  obtain ⟨n, hp⟩ := trod_parts Tryd.underlying26 hf
  have each : ∀ i, i < 94 → ∃ z, cs.toList[i]? = some (.int .i64 z) := by
    intro i hi
    by_cases i0 : i = 0
    · subst i0
      obtain ⟨y, hy⟩ := trod_part hp 0 rfl 3 0 1 rfl rfl cells3
      exact one_int hy
    by_cases i1 : i = 1
    · subst i1
      obtain ⟨y, hy⟩ := trod_part hp 1 rfl 3 1 1 rfl rfl cells3
      exact one_int hy
    by_cases i2 : i < 18
    · obtain ⟨y, hy⟩ := trod_part hp 2 rfl 22 2 16 rfl rfl cells22
      obtain ⟨z, hz⟩ := arr_int Tryd.underlying22 hy (i - 2) (by omega)
      have := sub_at hz
      rw [show 2 + (i - 2) = i by omega] at this
      exact ⟨z, this⟩
    by_cases i3 : i < 26
    · obtain ⟨y, hy⟩ := trod_part hp 3 rfl 23 18 8 rfl rfl cells23
      obtain ⟨z, hz⟩ := arr_int Tryd.underlying23 hy (i - 18) (by omega)
      have := sub_at hz
      rw [show 18 + (i - 18) = i by omega] at this
      exact ⟨z, this⟩
    by_cases i4 : i < 90
    · obtain ⟨y, hy⟩ := trod_part hp 4 rfl 24 26 64 rfl rfl cells24
      obtain ⟨xs, m, _, _, _, hl, hel⟩ := DataW.trod_array Tryd.underlying24 hy
      have h1 := hel ((i - 26) / 8) (by omega)
      rw [cells23, List.getElem?_eq_getElem (by rw [hl]; omega)] at h1
      obtain ⟨z, hz⟩ := arr_int Tryd.underlying23 h1 ((i - 26) % 8) (by omega)
      have := sub_at (sub_at hz)
      rw [show 26 + ((i - 26) / 8 * 8 + (i - 26) % 8) = i by omega] at this
      exact ⟨z, this⟩
    rcases (by omega : i = 90 ∨ i = 91 ∨ i = 92 ∨ i = 93) with rfl | rfl | rfl | rfl
    · obtain ⟨y, hy⟩ := trod_part hp 5 rfl 3 90 1 rfl rfl cells3
      exact one_int hy
    · obtain ⟨y, hy⟩ := trod_part hp 6 rfl 3 91 1 rfl rfl cells3
      exact one_int hy
    · obtain ⟨y, hy⟩ := trod_part hp 7 rfl 3 92 1 rfl rfl cells3
      exact one_int hy
    · obtain ⟨y, hy⟩ := trod_part hp 8 rfl 3 93 1 rfl rfl cells3
      exact one_int hy
  classical
  refine ⟨fun i => if h : i < 94 then (each i h).choose else 0, cg_of hs fun i hi => ?_⟩
  simp only [dif_pos hi]
  exact (Array.getElem?_toList (xs := cs)).symm.trans (each i hi).choose_spec
end
theorem trodAll_single {H : Type} {enc : TypeId × Value → H} {P : Program} {w : World} {base : Nat} {spare : Nat → Bool} {held : Bool} {t0 : TypeId} {args : Array Value} {ds : List (DataW H)} {ps : List MemPlace} (h : DataW.TrodAll enc P w base spare held [t0] args.toList ds ps) :
    ∃ v0 d0 p0, args = #[v0] ∧ ds = [d0] ∧ ps = p0 ∧ DataW.Trod enc P w base spare held t0 v0 d0 p0 := by
  obtain ⟨v0, vs0, d0, ds0, p0, q0, hargs, rfl, rfl, h0, k0⟩ := trodAll_cons h
  obtain ⟨rfl, rfl, rfl⟩ := trodAll_nil k0
  exact ⟨v0, d0, p0, by cases args; simp_all, rfl, by simp, h0⟩
theorem trodAll_two {H : Type} {enc : TypeId × Value → H} {P : Program} {w : World} {base : Nat} {spare : Nat → Bool} {held : Bool} {t0 t1 : TypeId} {args : Array Value} {ds : List (DataW H)} {ps : List MemPlace} (h : DataW.TrodAll enc P w base spare held [t0, t1] args.toList ds ps) :
    ∃ v0 v1 d0 d1 p0 p1, args = #[v0, v1] ∧ ds = [d0, d1] ∧ ps = p0 ++ p1 ∧ DataW.Trod enc P w base spare held t0 v0 d0 p0 ∧ DataW.Trod enc P w base spare held t1 v1 d1 p1 := by
  obtain ⟨v0, vs0, d0, ds0, p0, q0, hargs, rfl, rfl, h0, k0⟩ := trodAll_cons h
  obtain ⟨v1, vs1, d1, ds1, p1, q1, rfl, rfl, rfl, h1, k1⟩ := trodAll_cons k0
  obtain ⟨rfl, rfl, rfl⟩ := trodAll_nil k1
  exact ⟨v0, v1, d0, d1, p0, p1, by cases args; simp_all, rfl, by simp, h0, h1⟩
theorem trodAll_three {H : Type} {enc : TypeId × Value → H} {P : Program} {w : World} {base : Nat} {spare : Nat → Bool} {held : Bool} {t0 t1 t2 : TypeId} {args : Array Value} {ds : List (DataW H)} {ps : List MemPlace} (h : DataW.TrodAll enc P w base spare held [t0, t1, t2] args.toList ds ps) :
    ∃ v0 v1 v2 d0 d1 d2 p0 p1 p2, args = #[v0, v1, v2] ∧ ds = [d0, d1, d2] ∧ ps = p0 ++ p1 ++ p2 ∧ DataW.Trod enc P w base spare held t0 v0 d0 p0 ∧ DataW.Trod enc P w base spare held t1 v1 d1 p1 ∧ DataW.Trod enc P w base spare held t2 v2 d2 p2 := by
  obtain ⟨v0, vs0, d0, ds0, p0, q0, hargs, rfl, rfl, h0, k0⟩ := trodAll_cons h
  obtain ⟨v1, vs1, d1, ds1, p1, q1, rfl, rfl, rfl, h1, k1⟩ := trodAll_cons k0
  obtain ⟨v2, vs2, d2, ds2, p2, q2, rfl, rfl, rfl, h2, k2⟩ := trodAll_cons k1
  obtain ⟨rfl, rfl, rfl⟩ := trodAll_nil k2
  exact ⟨v0, v1, v2, d0, d1, d2, p0, p1, p2, by cases args; simp_all, rfl, by simp, h0, h1, h2⟩
end Go.Proofs.YtfoleblcaloeoaaDoor

/- What a law is handed: bytes, a call, a result; the listed variable. -/
namespace Go.Proofs.YtfoleblcaloeoaaDoor
open Go Go.RowKit Go.ChangeShapes Go.WideShapes Go.ChangeAt Go.Deep

theorem cells5 : Tryd.prog.cellsOf 5 = 1 := by kernel_rfl
theorem cells9 : Tryd.prog.cellsOf 9 = 1 := by kernel_rfl
theorem cells36 : Tryd.prog.cellsOf 36 = 1 := by kernel_rfl
theorem cells37 : Tryd.prog.cellsOf 37 = 1 := by kernel_rfl
theorem cells39 : Tryd.prog.cellsOf 39 = 2 := by kernel_rfl
theorem cells40 : Tryd.prog.cellsOf 40 = 1 := by kernel_rfl
theorem cells27 : Tryd.prog.cellsOf 27 = 1 := by kernel_rfl
theorem cells42 : Tryd.prog.cellsOf 42 = 12 := by kernel_rfl
theorem cells33 : Tryd.prog.cellsOf 33 = 1 := by kernel_rfl
theorem cells45 : Tryd.prog.cellsOf 45 = 3 := by kernel_rfl
section
variable {H : Type} {enc : TypeId × Value → H} {w : World} {base : Nat} {spare : Nat → Bool} {held : Bool}
theorem open_bytes {fuel : Nat} {v : Value} {x : DataW H × List MemPlace}
    (h : DataW.trod enc Tryd.prog w base spare held fuel 27 [v] = some x) : ∃ l : List Nat, RB w v l ∧ (∀ b ∈ l, b < 256) ∧ (l.length : Int) ≤ 9223372036854775807 := by
  rcases open_ints Tryd.underlying27 Tryd.underlying5 cells5 h with ⟨hcs, _⟩ | ⟨a, len, cap, zs, hcs, _, hlc, hcm, hlen, _, hcell, hwf⟩
  · injection hcs with e
    subst e
    exact ⟨[], Rd.nil w 1 0 none, by simp, by simp⟩
  · injection hcs with e
    subst e
    have hzl : len ≤ zs.length := by rw [hlen]; split <;> omega
    have hl : ((zs.take len).map Int.toNat).length = len := by simp; omega
    have hb : ∀ i, (hi : i < zs.length) → 0 ≤ zs[i] ∧ zs[i] ≤ 255 := fun i hi => bounds_u8 (hwf _ (List.getElem_mem hi))
    refine ⟨(zs.take len).map Int.toNat, ?_, fun b hbm => ?_, by rw [hl]; unfold maxLen at hcm; omega⟩
    · refine ⟨by rw [fc_length ucl_len], some a, cap, by rw [hl], by rw [hl]; exact hlc, fun hpos => ?_⟩
      rw [hl] at hpos
      obtain ⟨g, off, rfl⟩ := plain_addr (by have := hcell 0 (by omega); exact this)
      refine ⟨g, off, rfl, fun j u hu => ?_⟩
      have hj : j < len := by
        have := (List.getElem?_eq_some_iff.1 hu).1
        rw [fc_length ucl_len, hl] at this
        omega
      have hg := fc_get ucl_len ((zs.take len).map Int.toNat) j 0 (by rw [hl]; exact hj) (by omega)
      rw [Nat.mul_one, Nat.add_zero, hu] at hg
      have hc := hcell j (by omega)
      rw [Addr.add_lit] at hc
      rw [hc, hg]
      have hz := hb j (by omega)
      simp [ucl, List.getD, List.getElem?_eq_getElem (show j < zs.length by omega), Int.toNat_of_nonneg hz.1]
    · obtain ⟨z, hz, rfl⟩ := List.mem_map.1 hbm
      have := bounds_u8 (hwf z (List.mem_of_mem_take hz))
      omega
theorem one_u8 {fuel : Nat} {t : TypeId} (ht : Tryd.prog.underlying t = some (.int .u8)) {L : List Value} {i : Nat} {x : DataW H × List MemPlace} (h : DataW.trod enc Tryd.prog w base spare held fuel t ((L.drop i).take 1) = some x) : ∃ z : Nat, L[i]? = some (.int .u8 z) ∧ z < 256 := by
  obtain ⟨z, e, _, hw⟩ := DataW.trod_int ht h
  have := bounds_u8 hw
  exact ⟨z.toNat, by rw [one_of e, Int.toNat_of_nonneg this.1], by omega⟩
theorem one_u64 {fuel : Nat} {t : TypeId} (ht : Tryd.prog.underlying t = some (.int .u64)) {L : List Value} {i : Nat} {x : DataW H × List MemPlace} (h : DataW.trod enc Tryd.prog w base spare held fuel t ((L.drop i).take 1) = some x) : ∃ z : Nat, L[i]? = some (.int .u64 z) ∧ z < 18446744073709551616 := by
  obtain ⟨z, e, _, hw⟩ := DataW.trod_int ht h
  have := bounds_u64 hw
  exact ⟨z.toNat, by rw [one_of e, Int.toNat_of_nonneg this.1], by omega⟩
theorem one_i64 {fuel : Nat} {t : TypeId} (ht : Tryd.prog.underlying t = some (.int .i64)) {L : List Value} {i : Nat} {x : DataW H × List MemPlace} (h : DataW.trod enc Tryd.prog w base spare held fuel t ((L.drop i).take 1) = some x) : ∃ z : Int, L[i]? = some (.int .i64 z) ∧ -9223372036854775808 ≤ z ∧ z ≤ 9223372036854775807 := by
  obtain ⟨z, e, _, hw⟩ := DataW.trod_int ht h
  exact ⟨z, one_of e, bounds_i64 hw⟩
theorem one_bytes {fuel : Nat} {L : List Value} {i : Nat} {x : DataW H × List MemPlace} (hi : i < L.length) (h : DataW.trod enc Tryd.prog w base spare held fuel 27 ((L.drop i).take 1) = some x) : ∃ (v : Value) (l : List Nat), L[i]? = some v ∧ RB w v l ∧ (∀ b ∈ l, b < 256) ∧ (l.length : Int) ≤ 9223372036854775807 := by
  have e : (L.drop i).take 1 = [L[i]] := by rw [List.drop_eq_getElem_cons hi]; rfl
  rw [e] at h
  obtain ⟨l, h1, h2, h3⟩ := open_bytes h
  exact ⟨L[i], l, List.getElem?_eq_getElem hi, h1, h2, h3⟩
theorem open_call {cs : Array Value} {d : DataW H} {p : List MemPlace} (hs : cs.size = 12) (h : DataW.Trod enc Tryd.prog w base spare held 42 (.agg cs) d p) : ∃ (x : Cl) (v : Value), cs = clc x v ∧ x.Ok ∧ RB w v x.l ∧ (x.l.length : Int) ≤ 9223372036854775807 := by
  obtain ⟨fuel, hf⟩ := h
  have hcs : (Value.agg cs).cells.toList = cs.toList := rfl
  rw [hcs] at hf
  obtain ⟨n, hp⟩ := trod_parts Tryd.underlying42 hf
  obtain ⟨y0, hy0⟩ := trod_part hp 0 rfl 36 0 1 rfl rfl cells36
  obtain ⟨y1, hy1⟩ := trod_part hp 1 rfl 3 1 1 rfl rfl cells3
  obtain ⟨y2, hy2⟩ := trod_part hp 2 rfl 3 2 1 rfl rfl cells3
  obtain ⟨y3, hy3⟩ := trod_part hp 3 rfl 3 3 1 rfl rfl cells3
  obtain ⟨y4, hy4⟩ := trod_part hp 4 rfl 3 4 1 rfl rfl cells3
  obtain ⟨y5, hy5⟩ := trod_part hp 5 rfl 3 5 1 rfl rfl cells3
  obtain ⟨y6, hy6⟩ := trod_part hp 6 rfl 3 6 1 rfl rfl cells3
  obtain ⟨y7, hy7⟩ := trod_part hp 7 rfl 5 7 1 rfl rfl cells5
  obtain ⟨y8, hy8⟩ := trod_part hp 8 rfl 39 8 2 rfl rfl cells39
  obtain ⟨y9, hy9⟩ := trod_part hp 9 rfl 40 10 1 rfl rfl cells40
  obtain ⟨y10, hy10⟩ := trod_part hp 10 rfl 27 11 1 rfl rfl cells27
  obtain ⟨k, e0, hk⟩ := one_u8 Tryd.underlying36 hy0
  obtain ⟨p, e1, hp'⟩ := one_i64 Tryd.underlying3 hy1
  obtain ⟨nn, e2, hn⟩ := one_i64 Tryd.underlying3 hy2
  obtain ⟨g, e3, hg⟩ := one_i64 Tryd.underlying3 hy3
  obtain ⟨c, e4, hc⟩ := one_i64 Tryd.underlying3 hy4
  obtain ⟨a, e5, ha⟩ := one_i64 Tryd.underlying3 hy5
  obtain ⟨s, e6, hs'⟩ := one_i64 Tryd.underlying3 hy6
  obtain ⟨r, e7, hr⟩ := one_u8 Tryd.underlying5 hy7
  obtain ⟨n', hq⟩ := trod_parts Tryd.underlying39 hy8
  obtain ⟨z0, hz0⟩ := trod_part hq 0 rfl 37 0 1 rfl rfl cells37
  obtain ⟨z1, hz1⟩ := trod_part hq 1 rfl 5 1 1 rfl rfl cells5
  obtain ⟨ok, e8, hok⟩ := one_u8 Tryd.underlying37 hz0
  obtain ⟨om, e9, hom⟩ := one_u8 Tryd.underlying5 hz1
  obtain ⟨hh, e10, hhh⟩ := one_u64 Tryd.underlying40 hy9
  obtain ⟨v, l, e11, hv, hl, hlen⟩ := one_bytes (by simp [hs]) hy10
  refine ⟨⟨k, p, nn, g, c, a, s, r, ok, om, hh, l⟩, v, ?_, ⟨hk, hp', hn, hg, hc, ha, hs', hr, hok, hom, hhh, hl⟩, hv, hlen⟩
  apply Array.ext_getElem?
  intro i
  have ee : ∀ i, cs[i]? = cs.toList[i]? := fun i => (Array.getElem?_toList (xs := cs)).symm
  rw [ee]
  match i with
  | 0 => exact e0
  | 1 => exact e1
  | 2 => exact e2
  | 3 => exact e3
  | 4 => exact e4
  | 5 => exact e5
  | 6 => exact e6
  | 7 => exact e7
  | 8 => exact sub_at e8
  | 9 => exact sub_at e9
  | 10 => exact e10
  | 11 => exact e11
  | i + 12 => rw [List.getElem?_eq_none (by simp [hs])]; rfl
theorem open_res {cs : Array Value} {d : DataW H} {p : List MemPlace} (hs : cs.size = 3) (h : DataW.Trod enc Tryd.prog w base spare held 45 (.agg cs) d p) : ∃ (x : Rs) (v : Value), cs = rsc x v ∧ x.Ok ∧ RB w v x.l ∧ (x.l.length : Int) ≤ 9223372036854775807 := by
  obtain ⟨fuel, hf⟩ := h
  have hcs : (Value.agg cs).cells.toList = cs.toList := rfl
  rw [hcs] at hf
  obtain ⟨n, hp⟩ := trod_parts Tryd.underlying45 hf
  obtain ⟨y0, hy0⟩ := trod_part hp 0 rfl 33 0 1 rfl rfl cells33
  obtain ⟨y1, hy1⟩ := trod_part hp 1 rfl 40 1 1 rfl rfl cells40
  obtain ⟨y2, hy2⟩ := trod_part hp 2 rfl 27 2 1 rfl rfl cells27
  obtain ⟨e, e0, he⟩ := one_i64 Tryd.underlying33 hy0
  obtain ⟨z, e1, hz⟩ := one_u64 Tryd.underlying40 hy1
  obtain ⟨v, l, e2, hv, hl, hlen⟩ := one_bytes (by simp [hs]) hy2
  refine ⟨⟨e, z, l⟩, v, ?_, ⟨he, hz, hl⟩, hv, hlen⟩
  apply Array.ext_getElem?
  intro i
  have ee : ∀ i, cs[i]? = cs.toList[i]? := fun i => (Array.getElem?_toList (xs := cs)).symm
  rw [ee]
  match i with
  | 0 => exact e0
  | 1 => exact e1
  | 2 => exact e2
  | i + 3 => rw [List.getElem?_eq_none (by simp [hs])]; rfl
end
/-- what the rows list -/
abbrev LL : List (String × DataW Unit) := [("unicode/utf8.acceptRanges", Rows.laid_unicode_utf8_acceptRanges), ("byre/calls.fields", Rows.laid_byre_calls_fields), ("unicode/utf8.first", Rows.laid_unicode_utf8_first)]
def flds : List (List Nat) := (List.range 22).map fld
theorem laid_flds {H : Type} : (Rows.laid_byre_calls_fields : DataW H) = .agg (flds.map fun l => .lit (.string (l.map UInt8.ofNat))) := by kernel_rfl
theorem fields_of {W : World} (h : laidMetH Tryd.prog LL W) : FW W := by
  rw [MakeChecks.laidMetH_plain _ _ _ (by kernel_rfl)] at h
  obtain ⟨ps, ⟨_, _, _, _, _, _, _, _, _, _, ⟨g, t, cs, fuel, p, q, hg, ht, hv, hd, _, _⟩, _⟩, _, _⟩ := h
  obtain rfl := Option.some.inj ((show Tryd.prog.globalNamed "byre/calls.fields" = some 0 by kernel_rfl).symm.trans hg)
  obtain rfl := Option.some.inj ((show (Tryd.prog.globals[0]?).map (·.type) = some 107 by kernel_rfl).symm.trans ht)
  obtain ⟨xs, m, _, ex, _, hl, hel⟩ := DataW.trod_array Tryd.underlying107 hd
  intro r hr
  have hE := hel r hr
  rw [cells9, Nat.mul_one, List.getElem?_eq_getElem (by omega)] at hE
  obtain ⟨z, e1, e2, _⟩ := DataW.trod_string Tryd.underlying9 hE
  have e3 : (xs.map (·.1)) = flds.map fun l => (.lit (.string (l.map UInt8.ofNat)) : DataW Unit) := by
    have := (Prod.mk.inj ex).1
    rw [laid_flds] at this
    exact (DataW.agg.inj this).symm
  have e4 : (xs.map (·.1))[r]? = (flds.map fun l => (.lit (.string (l.map UInt8.ofNat)) : DataW Unit))[r]? := by rw [e3]
  have hfl : flds.length = 22 := by simp [flds]
  rw [List.getElem?_map, List.getElem?_map, List.getElem?_eq_getElem (by omega : r < xs.length), List.getElem?_eq_getElem (by omega : r < flds.length), e2] at e4
  have hz : z.data.toList = (fld r).map UInt8.ofNat := by
    simp only [Option.map_some, Option.some.injEq, DataW.lit.injEq, Lit.string.injEq] at e4
    rw [e4]
    simp [flds]
  have hz2 : z = strB (fld r) := by
    unfold strB
    cases z
    simp only at hz
    rw [← hz]
  rw [World.var?_cell hg hv r, ← hz2]
  have : cs.toList[r]? = some (.string z) := by
    have h0 : ((cs.toList.drop r).take 1)[0]? = some (.string z) := by rw [e1]; rfl
    simpa using h0
  simpa using this
end Go.Proofs.YtfoleblcaloeoaaDoor

/- What a law is handed: pairs of a call and an answer. -/
namespace Go.Proofs.YtfoleblcaloeoaaDoor
open Go Go.RowKit Go.ChangeShapes Go.WideShapes Go.ChangeAt Go.Deep

theorem cells47 : Tryd.prog.cellsOf 47 = 17 := by kernel_rfl
theorem cells4 : Tryd.prog.cellsOf 4 = 1 := by kernel_rfl
theorem trodAll_four {H : Type} {enc : TypeId × Value → H} {P : Program} {w : World} {base : Nat} {spare : Nat → Bool} {held : Bool} {t0 t1 t2 t3 : TypeId} {args : Array Value} {ds : List (DataW H)} {ps : List MemPlace} (h : DataW.TrodAll enc P w base spare held [t0, t1, t2, t3] args.toList ds ps) :
    ∃ v0 v1 v2 v3 d0 d1 d2 d3 p0 p1 p2 p3, args = #[v0, v1, v2, v3] ∧ ds = [d0, d1, d2, d3] ∧ ps = p0 ++ p1 ++ p2 ++ p3 ∧ DataW.Trod enc P w base spare held t0 v0 d0 p0 ∧ DataW.Trod enc P w base spare held t1 v1 d1 p1 ∧ DataW.Trod enc P w base spare held t2 v2 d2 p2 ∧ DataW.Trod enc P w base spare held t3 v3 d3 p3 := by
  obtain ⟨v0, vs0, d0, ds0, p0, q0, hargs, rfl, rfl, h0, k0⟩ := trodAll_cons h
  obtain ⟨v1, vs1, d1, ds1, p1, q1, rfl, rfl, rfl, h1, k1⟩ := trodAll_cons k0
  obtain ⟨v2, vs2, d2, ds2, p2, q2, rfl, rfl, rfl, h2, k2⟩ := trodAll_cons k1
  obtain ⟨v3, vs3, d3, ds3, p3, q3, rfl, rfl, rfl, h3, k3⟩ := trodAll_cons k2
  obtain ⟨rfl, rfl, rfl⟩ := trodAll_nil k3
  exact ⟨v0, v1, v2, v3, d0, d1, d2, d3, p0, p1, p2, p3, by cases args; simp_all, rfl, by simp, h0, h1, h2, h3⟩
theorem trodAll_five {H : Type} {enc : TypeId × Value → H} {P : Program} {w : World} {base : Nat} {spare : Nat → Bool} {held : Bool} {t0 t1 t2 t3 t4 : TypeId} {args : Array Value} {ds : List (DataW H)} {ps : List MemPlace} (h : DataW.TrodAll enc P w base spare held [t0, t1, t2, t3, t4] args.toList ds ps) :
    ∃ v0 v1 v2 v3 v4 d0 d1 d2 d3 d4 p0 p1 p2 p3 p4, args = #[v0, v1, v2, v3, v4] ∧ ds = [d0, d1, d2, d3, d4] ∧ ps = p0 ++ p1 ++ p2 ++ p3 ++ p4 ∧ DataW.Trod enc P w base spare held t0 v0 d0 p0 ∧ DataW.Trod enc P w base spare held t1 v1 d1 p1 ∧ DataW.Trod enc P w base spare held t2 v2 d2 p2 ∧ DataW.Trod enc P w base spare held t3 v3 d3 p3 ∧ DataW.Trod enc P w base spare held t4 v4 d4 p4 := by
  obtain ⟨v0, vs0, d0, ds0, p0, q0, hargs, rfl, rfl, h0, k0⟩ := trodAll_cons h
  obtain ⟨v1, vs1, d1, ds1, p1, q1, rfl, rfl, rfl, h1, k1⟩ := trodAll_cons k0
  obtain ⟨v2, vs2, d2, ds2, p2, q2, rfl, rfl, rfl, h2, k2⟩ := trodAll_cons k1
  obtain ⟨v3, vs3, d3, ds3, p3, q3, rfl, rfl, rfl, h3, k3⟩ := trodAll_cons k2
  obtain ⟨v4, vs4, d4, ds4, p4, q4, rfl, rfl, rfl, h4, k4⟩ := trodAll_cons k3
  obtain ⟨rfl, rfl, rfl⟩ := trodAll_nil k4
  exact ⟨v0, v1, v2, v3, v4, d0, d1, d2, d3, d4, p0, p1, p2, p3, p4, by cases args; simp_all, rfl, by simp, h0, h1, h2, h3, h4⟩
section
variable {H : Type} {enc : TypeId × Value → H} {w : World} {base : Nat} {spare : Nat → Bool} {held : Bool}
theorem open_two {fuel : Nat} {cs : List Value} {x : DataW H × List MemPlace} (hs : cs.length = 17) (h : DataW.trod enc Tryd.prog w base spare held fuel 47 cs = some x) : ∃ t : Tw, cs = twl t ∧ TwOk w t := by
  obtain ⟨n, hp⟩ := trod_parts Tryd.underlying47 h
  obtain ⟨y0, hy0⟩ := trod_part hp 0 rfl 42 0 12 rfl rfl cells42
  obtain ⟨y1, hy1⟩ := trod_part hp 1 rfl 45 12 3 rfl rfl cells45
  obtain ⟨y2, hy2⟩ := trod_part hp 2 rfl 4 15 1 rfl rfl cells4
  obtain ⟨y3, hy3⟩ := trod_part hp 3 rfl 40 16 1 rfl rfl cells40
  obtain ⟨x1, v1, e1, hx1, hv1, -⟩ := open_call (cs := ((cs.drop 0).take 12).toArray) (by simp [hs]) ⟨_, hy0⟩
  obtain ⟨x2, v2, e2, hx2, hv2, -⟩ := open_res (cs := ((cs.drop 12).take 3).toArray) (by simp [hs]) ⟨_, hy1⟩
  obtain ⟨b, e3, -⟩ := DataW.trod_bool Tryd.underlying4 hy2
  obtain ⟨hh, e4, hhh⟩ := one_u64 Tryd.underlying40 hy3
  refine ⟨⟨x1, v1, x2, v2, b, hh⟩, ?_, hx1, hx2, hv1, hv2, hhh⟩
  have e1' : cs.take 12 = (clc x1 v1).toList := by rw [← e1]; simp
  have e2' : (cs.drop 12).take 3 = (rsc x2 v2).toList := by rw [← e2]
  have e3' : cs[15]? = some (.bool b) := one_of e3
  show cs = (clc x1 v1).toList ++ ((rsc x2 v2).toList ++ [.bool b, .int .u64 hh])
  rw [← e1', ← e2']
  have h5 : cs.drop 15 = [.bool b, .int .u64 hh] := by
    refine List.ext_getElem? fun i => ?_
    rw [List.getElem?_drop]
    match i with
    | 0 => exact e3'
    | 1 => exact e4
    | i + 2 => rw [List.getElem?_eq_none (by omega)]; rfl
  rw [← h5]
  have h6 : (cs.drop 12).take 3 ++ cs.drop 15 = cs.drop 12 := by
    have := List.take_append_drop 3 (cs.drop 12)
    rw [List.drop_drop] at this
    exact this
  rw [h6, List.take_append_drop]
theorem open_twos {fuel : Nat} {v : Value} {x : DataW H × List MemPlace} (h : DataW.trod enc Tryd.prog w base spare held fuel 28 [v] = some x) : ∃ l : List Tw, RE twl 17 w v l ∧ (∀ t ∈ l, TwOk w t) ∧ (l.length : Int) ≤ 9223372036854775807 := by
  rcases open_slice Tryd.underlying28 h with ⟨hcs, _⟩ | ⟨a, len, cap, m, n, D, Pl, hcs, hb, hl, hm, hmm, hx, hi⟩
  · injection hcs with e
    subst e
    exact ⟨[], Rd.nil w 17 0 none, by simp, by simp⟩
  · injection hcs with e
    subst e
    have hml : len ≤ m := by rw [hmm]; split <;> omega
    have each : ∀ i, i < len → ∃ t : Tw, TwOk w t ∧ ∀ j u, (twl t)[j]? = some u → w.cell? ((a.add (i * 17)).add j) = some u := by
      intro i hil
      obtain ⟨cs', hc, ht'⟩ := hi i (by omega)
      rw [cells47] at hc
      obtain ⟨_, hcl, hat⟩ := World.cells?_some hc
      obtain ⟨o, ho, hr⟩ := open_two (by omega) ht'
      refine ⟨o, hr, fun j u hu => ?_⟩
      have hj : j < 17 := by
        have := (List.getElem?_eq_some_iff.1 hu).1
        rwa [twl_len] at this
      rw [hat j hj, ← ho] at *
      rw [← hu, List.getElem?_eq_getElem (by omega)]
    obtain ⟨l, hl1, hp⟩ := list_of each
    refine ⟨l, ⟨by rw [fc_length twl_len], some a, cap, by rw [hl1], by rw [hl1]; exact hl, fun hpos => ?_⟩, fun o ho => ?_, by rw [hl1]; unfold maxLen at hm; omega⟩
    · obtain ⟨g, off, rfl⟩ := plain_addr (by have := (hp 0 hpos).2 0 _ rfl; simpa using this)
      refine ⟨g, off, rfl, fun j u hu => ?_⟩
      have hj : j < l.length * 17 := by rw [← fc_length twl_len]; exact (List.getElem?_eq_some_iff.1 hu).1
      obtain ⟨q, r, rfl, hr⟩ : ∃ q r, j = q * 17 + r ∧ r < 17 := ⟨j / 17, j % 17, by omega, by omega⟩
      have hq : q < l.length := by omega
      rw [fc_get twl_len l q r hq hr] at hu
      have := (hp q hq).2 r u hu
      rw [Addr.add_lit, Addr.add_lit, Nat.add_assoc] at this
      exact this
    · obtain ⟨i, hi, rfl⟩ := List.getElem_of_mem ho
      exact (hp i hi).1
end
end Go.Proofs.YtfoleblcaloeoaaDoor
