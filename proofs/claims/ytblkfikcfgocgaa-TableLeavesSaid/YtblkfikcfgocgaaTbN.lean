/- The iterator of Leaves. -/
import Derived.Test.YtblkfikcfgocgaaTbP
import Derived.RangeFuncNested
import Derived.RangeFuncBound
import Derived.RangeFuncCalls
import Derived.RangeFuncLeaves
import Derived.Shelf.Abstract
import Derived.Shelf.RegionOpen
import Derived.OwnWalkIn
import Derived.TacticsInMore
import Derived.LoopNIn
import Derived.LoopIn
namespace Go.Proofs.Ytblkfikcfgocgaa
open Go Go.RowKit Go.Shelf

attribute [local go_sem] Oper.semAt_some

set_option maxRecDepth 100000 in
set_option maxHeartbeats 4000000 in
/-- the iterator of Leaves, whatever the loop's body keeps -/
theorem iter2 {j b1 b2 a gb gm : Nat} {V : Nat → Nat → Nat} {M : List Mk} {c : Cf} {W : World} {wt : Nat → Nat} (hwt : ∀ i : Nat, i < 32 → lfE 4 V 0 (32 * (i : Int)) = (if wt i = 0 then 7 else 0) ∧ lfN 4 V 0 (32 * (i : Int)) = wt i) (J : Nat → World → Prop)
    (hJ : ∀ i W1, J i W1 → TM W1 a gb gm c 4 V M ∧ Blk W1 b1 28 #[.pointer (some ⟨a, 0, none⟩)] ∧ Blk W1 b2 3 #[.int .i64 0])
    (h0 : J 0 W) (hst : ∀ i W1 W2, J i W1 → Chg [] W1 W2 → J i W2) (hskip : ∀ i W1, i < 32 → wt i = 0 → J i W1 → J (i + 1) W1)
    (hY : ∀ i W1, i < 32 → wt i ≠ 0 → J i W1 → YieldAt Fence.wide 4 Try.prog j #[.int .i64 i, .int .i64 (wt i : Nat)] W1 fun e W2 => e = .returned (.bool true) ∧ J (i + 1) W2) :
    CallsIn Fence.wide 5 Try.prog 49 #[.func (.yield j) #[] #[], .pointer (some ⟨b1, 0, none⟩), .pointer (some ⟨b2, 0, none⟩)] W fun e W' => (∃ v, e = .returned v) ∧ J 32 W' := by
  have HWT := hide hwt
  have HJ := hide hJ
  have HY := hide hY
  have HS := hide hst
  have HK := hide hskip
  have H0 := hide h0
  clear hJ h0 hY hst hskip hwt
  refine callsIn_of_wp Try.func49 rfl trivial ?_ rfl
  simp only [Try.ntmps49, List.size_toArray, List.length_cons, List.length_nil, Nat.reduceAdd, Nat.reduceSub, Array.replicate_succ, Array.replicate_zero, List.push_toArray, List.append_toArray, List.nil_append, List.cons_append]
  gi_wp2
  gi_loopw [7] (fun t wr => ∃ i : Nat, i ≤ 32 ∧ t = .int .i64 i ∧ Hid (J i wr)) (fun t _ => 32 - (intOf t).toNat)
  case atStart => exact ⟨0, Nat.zero_le _, rfl, H0⟩
  case round =>
    obtain ⟨i, hi, rfl, hJi⟩ := hrel
    by_cases hlt : i < 32
    · obtain ⟨ht, hb1, hb2⟩ := HJ.out i wr hJi.out
      obtain ⟨e1, e2⟩ := HWT.out i hlt
      rw [Int.mul_comm 32 (i : Int)] at e1 e2
      have HL := hide (Leaf_t ht 0 ((i : Int) * 32))
      rw [e1, e2] at HL
      have x1 := hb1.cell 0
      have x2 := hb2.cell 0
      have l1 := hb1.lt
      have l2 := hb2.lt
      simp at x1 x2
      have i0 : (0 : Int) ≤ (i : Int) := by omega
      have i1 : (i : Int) < 32 := by omega
      have HY1 := hide (fun W1 h hJ => HY.out i W1 hlt h hJ)
      have HK1 := hide (fun W1 h hJ => HK.out i W1 hlt h hJ)
      generalize wt i = q at HL HY1 HK1
      clear ht hb1 hb2 e1 e2
      by_cases hq : q = 0
      · subst hq
        rw [if_pos rfl] at HL
        gi_wp2_with (refine ⟨trivial, ?_⟩; gi_at_call 46; refine (callsIn_wide.2 HL.out).mono ?_; rintro e W3 ⟨rfl, hc3⟩)
        refine ⟨(by intro f hf; cases hf), ?_⟩
        gi_wp2
        go_roundw
        case rel => exact ⟨i + 1, by omega, by go_num, hide (HK1.out _ trivial (HS.out _ _ _ hJi.out hc3))⟩
        case measure => simp [intOf]; omega
      · rw [if_neg hq] at HL
        gi_wp2_with (refine ⟨trivial, ?_⟩; gi_at_call 46; refine (callsIn_wide.2 HL.out).mono ?_; rintro e W3 ⟨rfl, hc3⟩; obtain ⟨fn, tmps, assign, body, hy, hR⟩ := HY1.out W3 hq (HS.out _ _ _ hJi.out hc3))
        refine hR.mono ?_
        rintro e W4 ⟨rfl, hJ4⟩
        have HJ4 := hide hJ4
        clear hJ4 hc3 hJi HL HK1 HY1
        gi_wp2
        go_roundw
        case rel => exact ⟨i + 1, by omega, by go_num, HJ4⟩
        case measure => simp [intOf]; omega
    · obtain rfl : i = 32 := by omega
      gi_wp2
      go_end0
      exact ⟨⟨_, rfl⟩, hJi.out⟩
end Go.Proofs.Ytblkfikcfgocgaa
