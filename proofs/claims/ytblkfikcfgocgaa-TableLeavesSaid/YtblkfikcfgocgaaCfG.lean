/- config: Total, First. -/
import Derived.Test.YtblkfikcfgocgaaCfF
namespace Go.Proofs.Ytblkfikcfgocgaa
open Go Go.RowKit

theorem rangeAt_cg {w : World} {b : Nat} {c : Cf} (h : CB w b c) (o n : Nat) (ho : o + n ≤ 94) : w.rangeAt b o ((List.range n).map fun i => .int .i64 (c (o + i))) := fun j v hv => by
  have hj : j < n := by
    have := (List.getElem?_eq_some_iff.1 hv).1
    simpa using this
  rw [h.get (by omega)]
  rw [List.getElem?_map, List.getElem?_range hj] at hv
  simpa using hv
def ar (c : Cf) (o n : Nat) : Array Value := ((List.range n).map fun i => Value.int .i64 (c (o + i))).toArray
theorem ar_get (c : Cf) (o n : Nat) {k : Nat} (hk : k < n) : (ar c o n)[k]? = some (.int .i64 (c (o + k))) := by simp [ar, hk]
theorem run_index23 (w : World) (c : Cf) (o : Nat) {k : Nat} (hk : k < 8) : (Instr.index 23 (.agg (ar c o 8)) (.int .i64 k)).run Try.prog w = .ok (.int .i64 (c (o + k))) w := by
  have h1 := ar_get c o 8 hk
  simp [Instr.index, run_underlying Try.underlying23, asIntOf, part, isAgg, run_underlying Try.underlying3, size3, h1, hk]
theorem wpList_load23 {ops : Array Oper} {rest : List Oper} {op : Oper} {a : Act} {w : World} {Q : Exit → Act → World → Prop} {b o : Nat} {c : Cf} (h0 : CB w b c) (ho8 : o + 8 ≤ 94) (hg : op.guard = none) (x : Operand) (ho : op.op = .load 23 x)
    (hx : a.eval x = .pointer (some ⟨b, o, none⟩)) (h : wpList Try.prog ops Q rest (a.put op.dst (.agg (ar c o 8))) w) : wpList Try.prog ops Q (op :: rest) a w :=
  wpList_load_mid hg 23 x ho b o hx _ _ (rangeAt_cg h0 o 8 ho8) Try.underlying23 rfl (by rw [List.length_map, List.length_range]; kernel_rfl) h
noncomputable def totV (c : Cf) : Int := if mayB c = true then sumF c 8 else 0
set_option maxHeartbeats 2000000 in
theorem Total_any (c : Cf) (w : World) : Calls Try.prog 36 #[.agg (cg c)] w fun e w' => e = .returned (.int .i64 (totV c)) ∧ Chg [] w w' := by
  have HB := hide (Blk.new w 26 (cg c))
  have HC := hide (show Chg [] w (w.alloc (.cells (cg c) 26)) from (Chg.refl [] w).alloc _)
  obtain ⟨m, hm⟩ : ∃ m, mayB c = m := ⟨_, rfl⟩
  obtain ⟨T, hT⟩ : ∃ T, T = totV c := ⟨_, rfl⟩
  have HT := hide hT
  rw [← hT]
  clear hT
  have HM := hide (fun W => May_any c W)
  rw [hm] at HM
  have Hm := hide hm
  clear hm
  cases m with
  | false =>
    obtain rfl : T = 0 := by rw [HT.out, totV, Hm.out]; rfl
    go_enter Try.func36, Try.ntmps36
    go_wp2_with (first | (refine wpList_box26 rfl _ rfl rfl ?_) | (refine wpList_load26 HB.out rfl _ rfl rfl ?_) | (go_at_call 35; refine (HM.out _).mono ?_; rintro e W2 ⟨rfl, hc2⟩))
    go_ret
    exact ⟨rfl, HC.out.stay hc2⟩
  | true =>
    have hMay := mayB_iff.1 Hm.out
    have HS := hide (fun k hk => hMay.sum_le k hk)
    clear hMay
    go_enter Try.func36, Try.ntmps36
    go_wp2_with (first | (refine wpList_box26 rfl _ rfl rfl ?_) | (refine wpList_load26 HB.out rfl _ rfl rfl ?_) | (go_at_call 35; refine (HM.out _).mono ?_; rintro e W2 ⟨rfl, hc2⟩; have HB2 := hide (HB.out.chg hc2 List.not_mem_nil); have HC2 := hide (HC.out.stay hc2); clear hc2) | (refine wpList_load23 HB2.out (by omega) rfl _ rfl rfl ?_))
    go_loopw [2, 10] (fun t i wr => wr = W2 ∧ ∃ (k : Nat) (s : Int), k ≤ 8 ∧ t = .int .i64 s ∧ i = .int .i64 k ∧ Hid (s = sumF c k)) (fun _ i _ => 8 - (intOf i).toNat)
    case atStart => exact ⟨rfl, 0, 0, by omega, rfl, rfl, hide rfl⟩
    case round =>
      obtain ⟨rfl, k, s, hk, rfl, rfl, hs⟩ := hrel
      have hsk := HS.out k hk
      rw [← hs.out] at hsk
      obtain ⟨hs1, hs2⟩ := hsk
      have hs2 : s ≤ 1024 := by omega
      by_cases hkt : k < 8
      · have kk1 : (0 : Int) ≤ (k : Int) := by omega
        have kk2 : (k : Int) < 8 := by omega
        have a1 := fun w => run_index23 w c 18 hkt
        have hf := HS.out (k + 1) (by omega)
        rw [sumF_succ, ← hs.out] at hf
        obtain ⟨hf1, hf2⟩ := hf
        have hf2 : s + c (18 + k) ≤ 1024 := by omega
        go_wp2_with fail
        go_roundw
        case rel => exact ⟨trivial, k + 1, s + c (18 + k), by omega, rfl, by go_num, hide (by rw [sumF_succ, hs.out])⟩
        case measure => simp [intOf]; omega
      · obtain rfl : k = 8 := by omega
        obtain rfl : T = s := by rw [HT.out, totV, if_pos Hm.out, hs.out]
        go_wp2_with fail
        go_ret
        exact ⟨rfl, HC2.out⟩
noncomputable def firstN (c : Cf) (node : Int) : Int := if mayB c = true ∧ 0 ≤ node ∧ node ≤ c 0 - 1 then sumF c node.toNat else 0
noncomputable def firstE (c : Cf) (node : Int) : Int := if mayB c = false then 2 else if 0 ≤ node ∧ node ≤ c 0 - 1 then 0 else 7
set_option maxHeartbeats 2000000 in
theorem First_any (c : Cf) (node : Int) (w : World) : Calls Try.prog 44 #[.agg (cg c), .int .i64 node] w fun e w' => e = .returned (.tuple #[.int .i64 (firstN c node), .int .i64 (firstE c node)]) ∧ Chg [] w w' := by
  have HB := hide (Blk.new w 26 (cg c))
  have HC := hide (show Chg [] w (w.alloc (.cells (cg c) 26)) from (Chg.refl [] w).alloc _)
  obtain ⟨m, hm⟩ : ∃ m, mayB c = m := ⟨_, rfl⟩
  obtain ⟨T, hT⟩ : ∃ T, T = firstN c node := ⟨_, rfl⟩
  obtain ⟨E, hE⟩ : ∃ E, E = firstE c node := ⟨_, rfl⟩
  have HT := hide hT
  have HE := hide hE
  rw [← hT, ← hE]
  clear hT hE
  have HM := hide (fun W => May_any c W)
  rw [hm] at HM
  have Hm := hide hm
  clear hm
  cases m with
  | false =>
    obtain rfl : T = 0 := by rw [HT.out, firstN, if_neg (by rw [Hm.out]; simp)]
    obtain rfl : E = 2 := by rw [HE.out, firstE, if_pos Hm.out]
    go_enter Try.func44, Try.ntmps44
    go_wp2_with (first | (refine wpList_box26 rfl _ rfl rfl ?_) | (refine wpList_load26 HB.out rfl _ rfl rfl ?_) | (go_at_call 35; refine (HM.out _).mono ?_; rintro e W2 ⟨rfl, hc2⟩))
    go_ret2
    exact ⟨rfl, HC.out.stay hc2⟩
  | true =>
    have hMay := mayB_iff.1 Hm.out
    have HS := hide (fun k hk => hMay.sum_le k hk)
    obtain ⟨n, hn⟩ : ∃ n : Nat, c 0 = n := ⟨(c 0).toNat, by have := hMay.n1; omega⟩
    have hn8 : n ≤ 8 := by have := hMay.n8; omega
    have HN := hide hn
    clear hMay hn
    by_cases hnode : 0 ≤ node ∧ node ≤ (n : Int) - 1
    · have dw : decide (0 ≤ node ∧ node ≤ (n : Int) - 1) = true := decide_eq_true hnode
      obtain ⟨v, rfl⟩ : ∃ v : Nat, node = v := ⟨node.toNat, by omega⟩
      have HT2 := hide (show T = sumF c v by rw [HT.out, firstN, if_pos ⟨Hm.out, by rw [HN.out]; exact hnode⟩, Int.toNat_natCast])
      obtain rfl : E = 0 := by rw [HE.out, firstE, if_neg (by rw [Hm.out]; simp), if_pos (by rw [HN.out]; exact hnode)]
      have v1 : (0 : Int) ≤ (v : Int) := by omega
      have v2 : (v : Int) ≤ 8 := by omega
      have v3 : v ≤ 8 := by omega
      have v4 : (v : Int) ≤ (n : Int) - 1 := hnode.2
      clear hnode
      go_enter Try.func44, Try.ntmps44
      go_wp2_with (first | ((go_at_call 51; refine (within_any _ _ _ _).mono ?_; rintro e W7 ⟨rfl, rfl⟩)) | (refine wpList_box26 rfl _ rfl rfl ?_) | (refine wpList_load26 HB.out rfl _ rfl rfl ?_) | (go_at_call 35; refine (HM.out _).mono ?_; rintro e W2 ⟨rfl, hc2⟩; have HB2 := hide (HB.out.chg hc2 List.not_mem_nil); have HC2 := hide (HC.out.stay hc2); clear hc2; have g0 := CB.get HB2.out (i := 0) (by omega); rw [HN.out] at g0))
      go_loopw [4, 23] (fun t i wr => wr = W2 ∧ ∃ (k : Nat) (s : Int), k ≤ v ∧ t = .int .i64 s ∧ i = .int .i64 k ∧ Hid (s = sumF c k)) (fun _ i _ => v - (intOf i).toNat)
      case atStart => exact ⟨rfl, 0, 0, by omega, rfl, rfl, hide rfl⟩
      case round =>
        obtain ⟨rfl, k, s, hk, rfl, rfl, hs⟩ := hrel
        have hsk := HS.out k (by omega)
        rw [← hs.out] at hsk
        obtain ⟨hs1, hs2⟩ := hsk
        have hs2 : s ≤ 1024 := by omega
        by_cases hkt : k < v
        · have kk1 : (0 : Int) ≤ (k : Int) := by omega
          have kk2 : (k : Int) < (v : Int) := by omega
          have a1 := CB.get HB2.out (i := 18 + k) (by omega)
          have hf := HS.out (k + 1) (by omega)
          rw [sumF_succ, ← hs.out] at hf
          obtain ⟨hf1, hf2⟩ := hf
          have hf2 : s + c (18 + k) ≤ 1024 := by omega
          go_wp2_with fail
          go_roundw
          case rel => exact ⟨trivial, k + 1, s + c (18 + k), by omega, rfl, by go_num, hide (by rw [sumF_succ, hs.out])⟩
          case measure => simp [intOf]; omega
        · obtain rfl : k = v := by omega
          obtain rfl : T = s := by rw [HT2.out, hs.out]
          go_wp2_with fail
          go_ret2
          exact ⟨rfl, HC2.out⟩
    · have dw : decide (0 ≤ node ∧ node ≤ (n : Int) - 1) = false := decide_eq_false hnode
      obtain rfl : T = 0 := by rw [HT.out, firstN, if_neg (by rw [HN.out]; exact fun h => hnode h.2)]
      obtain rfl : E = 7 := by rw [HE.out, firstE, if_neg (by rw [Hm.out]; simp), if_neg (by rw [HN.out]; exact hnode)]
      clear hnode
      go_enter Try.func44, Try.ntmps44
      go_wp2_with (first | ((go_at_call 51; refine (within_any _ _ _ _).mono ?_; rintro e W7 ⟨rfl, rfl⟩)) | (refine wpList_box26 rfl _ rfl rfl ?_) | (refine wpList_load26 HB.out rfl _ rfl rfl ?_) | (go_at_call 35; refine (HM.out _).mono ?_; rintro e W2 ⟨rfl, hc2⟩; have HB2 := hide (HB.out.chg hc2 List.not_mem_nil); have HC2 := hide (HC.out.stay hc2); clear hc2; have g0 := CB.get HB2.out (i := 0) (by omega); rw [HN.out] at g0))
      go_ret2
      exact ⟨rfl, HC2.out⟩
end Go.Proofs.Ytblkfikcfgocgaa
