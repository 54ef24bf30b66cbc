/- The words of a table's entries. -/
import Derived.Test.YtblkfikcfgocgaaFrU
import Derived.Test.YtblkfikcfgocgaaFrK
namespace Go.Proofs.Ytblkfikcfgocgaa
open Go Go.RowKit

/-- an entry that has a word -/
def wok (k : Nat) (n : Int) : Bool := decide (k ≤ 3 ∧ 0 ≤ n ∧ n ≤ 65535 ∧ (k = 0 → n = 0))
def wnum (k : Nat) (n : Int) : Nat := if wok k n = true then k + 4 * n.toNat else 0
def wE (k : Nat) (n : Int) : Int := if wok k n = true then 0 else 2
/-- a word that has an entry -/
def eok (x : Nat) : Bool := decide (x / 4 ≤ 65535 ∧ (x ≠ 0 → x % 4 ≠ 0))
def eK (x : Nat) : Nat := if eok x = true then x % 4 else 0
def eN (x : Nat) : Nat := if eok x = true then x / 4 else 0
def eE (x : Nat) : Int := if eok x = true then 0 else 5
theorem or_entry {k : Nat} {n : Nat} (hk : k < 4) (hn : n ≤ 65535) : bits BinOp.or IntKind.u64 (k : Int) ((n * 4 : Nat) : Int) = ((k + 4 * n : Nat) : Int) := by
  rw [u64_or_nat _ _ (by omega) (by omega)]
  have h8 := Nat.shiftLeft_add_eq_or_of_lt (show k < 2 ^ 2 by omega) n
  rw [Nat.shiftLeft_eq] at h8
  rw [Nat.or_comm, show n * 4 = n * 2 ^ 2 by rfl, ← h8]
  congr 1
  omega
theorem shl2 {n : Nat} (hn : n ≤ 65535) : IntKind.u64.wrap ((n : Int) * 2 ^ 2) = ((n * 4 : Nat) : Int) := by rw [IntKind.wrap_u64]; omega
set_option maxRecDepth 20000 in
set_option maxHeartbeats 4000000 in
theorem Word_0 (w : World) (n : Int) :
    Calls Try.prog 23 #[.agg #[.int .u8 (0 : Nat), .int .i64 n]] w fun e w' => e = .returned (.tuple #[.int .u64 (wnum 0 n : Nat), .int .i64 (wE 0 n)]) ∧ Chg [] w w' := by
  have HC := hide (show Chg [] w (w.alloc (.cells #[.int .u8 (0 : Nat), .int .i64 n] 59)) from (Chg.refl [] w).alloc _)
  by_cases hn : n = 0
  · subst hn
    have e1 : wnum 0 0 = 0 := rfl
    have e2 : wE 0 0 = 0 := rfl
    rw [e1, e2]
    go_enter Try.func23, Try.ntmps23
    go_wp2_with fail
    go_ret2
    exact ⟨rfl, HC.out⟩
  · have e1 : wok 0 n = false := decide_eq_false (by omega)
    have e2 : wnum 0 n = 0 := by unfold wnum; rw [e1]; rfl
    have e3 : wE 0 n = 2 := by unfold wE; rw [e1]; rfl
    rw [e2, e3]
    have d1 : decide (n = 0) = false := decide_eq_false hn
    have d2 : (n == 0) = false := beq_false_of_ne hn
    have d3 : (n != 0) = true := bne_iff_ne.2 hn
    go_enter Try.func23, Try.ntmps23
    go_wp2_with fail
    go_ret2
    exact ⟨rfl, HC.out⟩
set_option maxRecDepth 20000 in
set_option maxHeartbeats 4000000 in
theorem Word_1 (w : World) (n : Int) :
    Calls Try.prog 23 #[.agg #[.int .u8 (1 : Nat), .int .i64 n]] w fun e w' => e = .returned (.tuple #[.int .u64 (wnum 1 n : Nat), .int .i64 (wE 1 n)]) ∧ Chg [] w w' := by
  have HC := hide (show Chg [] w (w.alloc (.cells #[.int .u8 (1 : Nat), .int .i64 n] 59)) from (Chg.refl [] w).alloc _)
  by_cases h0 : n < 0
  · have d1 : decide (0 ≤ n) = false := decide_eq_false (by omega)
    have e1 : wok 1 n = false := decide_eq_false (by omega)
    have e2 : wnum 1 n = 0 := by unfold wnum; rw [e1]; rfl
    have e3 : wE 1 n = 2 := by unfold wE; rw [e1]; rfl
    rw [e2, e3]

    go_enter Try.func23, Try.ntmps23
    go_wp2_with fail
    go_ret2
    exact ⟨rfl, HC.out⟩
  by_cases h1 : 65535 < n
  · have d1 : decide (0 ≤ n) = true := decide_eq_true (by omega)
    have d2 : decide (n ≤ 65535) = false := decide_eq_false (by omega)
    have e1 : wok 1 n = false := decide_eq_false (by omega)
    have e2 : wnum 1 n = 0 := by unfold wnum; rw [e1]; rfl
    have e3 : wE 1 n = 2 := by unfold wE; rw [e1]; rfl
    rw [e2, e3]

    go_enter Try.func23, Try.ntmps23
    go_wp2_with fail
    go_ret2
    exact ⟨rfl, HC.out⟩
  obtain ⟨n, rfl⟩ : ∃ m : Nat, n = m := ⟨n.toNat, by omega⟩
  have i1 : (n : Int) ≤ 65535 := by omega
  have j1 : n ≤ 65535 := by omega
  have d2 : decide ((n : Int) ≤ 65535) = true := decide_eq_true i1
  have e1 : wok 1 n = true := decide_eq_true (by omega)
  have e2 : wnum 1 n = 1 + 4 * n := by unfold wnum; rw [e1]; rfl
  have e3 : wE 1 n = 0 := by unfold wE; rw [e1]; rfl
  have HB := hide (show bits BinOp.or IntKind.u64 1 ((n : Int) * 4) = ((1 + 4 * n : Nat) : Int) from by have := or_entry (k := 1) (by omega) j1; push_cast at this ⊢; exact this)
  rw [e2, e3]
  clear h0 h1
  go_enter Try.func23, Try.ntmps23
  go_wp2_with fail
  rw [HB.out]
  go_ret2
  exact ⟨rfl, HC.out⟩
set_option maxRecDepth 20000 in
set_option maxHeartbeats 4000000 in
theorem Word_2 (w : World) (n : Int) :
    Calls Try.prog 23 #[.agg #[.int .u8 (2 : Nat), .int .i64 n]] w fun e w' => e = .returned (.tuple #[.int .u64 (wnum 2 n : Nat), .int .i64 (wE 2 n)]) ∧ Chg [] w w' := by
  have HC := hide (show Chg [] w (w.alloc (.cells #[.int .u8 (2 : Nat), .int .i64 n] 59)) from (Chg.refl [] w).alloc _)
  by_cases h0 : n < 0
  · have d1 : decide (0 ≤ n) = false := decide_eq_false (by omega)
    have e1 : wok 2 n = false := decide_eq_false (by omega)
    have e2 : wnum 2 n = 0 := by unfold wnum; rw [e1]; rfl
    have e3 : wE 2 n = 2 := by unfold wE; rw [e1]; rfl
    rw [e2, e3]

    go_enter Try.func23, Try.ntmps23
    go_wp2_with fail
    go_ret2
    exact ⟨rfl, HC.out⟩
  by_cases h1 : 65535 < n
  · have d1 : decide (0 ≤ n) = true := decide_eq_true (by omega)
    have d2 : decide (n ≤ 65535) = false := decide_eq_false (by omega)
    have e1 : wok 2 n = false := decide_eq_false (by omega)
    have e2 : wnum 2 n = 0 := by unfold wnum; rw [e1]; rfl
    have e3 : wE 2 n = 2 := by unfold wE; rw [e1]; rfl
    rw [e2, e3]

    go_enter Try.func23, Try.ntmps23
    go_wp2_with fail
    go_ret2
    exact ⟨rfl, HC.out⟩
  obtain ⟨n, rfl⟩ : ∃ m : Nat, n = m := ⟨n.toNat, by omega⟩
  have i1 : (n : Int) ≤ 65535 := by omega
  have j1 : n ≤ 65535 := by omega
  have d2 : decide ((n : Int) ≤ 65535) = true := decide_eq_true i1
  have e1 : wok 2 n = true := decide_eq_true (by omega)
  have e2 : wnum 2 n = 2 + 4 * n := by unfold wnum; rw [e1]; rfl
  have e3 : wE 2 n = 0 := by unfold wE; rw [e1]; rfl
  have HB := hide (show bits BinOp.or IntKind.u64 2 ((n : Int) * 4) = ((2 + 4 * n : Nat) : Int) from by have := or_entry (k := 2) (by omega) j1; push_cast at this ⊢; exact this)
  rw [e2, e3]
  clear h0 h1
  go_enter Try.func23, Try.ntmps23
  go_wp2_with fail
  rw [HB.out]
  go_ret2
  exact ⟨rfl, HC.out⟩
set_option maxRecDepth 20000 in
set_option maxHeartbeats 4000000 in
theorem Word_3 (w : World) (n : Int) :
    Calls Try.prog 23 #[.agg #[.int .u8 (3 : Nat), .int .i64 n]] w fun e w' => e = .returned (.tuple #[.int .u64 (wnum 3 n : Nat), .int .i64 (wE 3 n)]) ∧ Chg [] w w' := by
  have HC := hide (show Chg [] w (w.alloc (.cells #[.int .u8 (3 : Nat), .int .i64 n] 59)) from (Chg.refl [] w).alloc _)
  by_cases h0 : n < 0
  · have d1 : decide (0 ≤ n) = false := decide_eq_false (by omega)
    have e1 : wok 3 n = false := decide_eq_false (by omega)
    have e2 : wnum 3 n = 0 := by unfold wnum; rw [e1]; rfl
    have e3 : wE 3 n = 2 := by unfold wE; rw [e1]; rfl
    rw [e2, e3]

    go_enter Try.func23, Try.ntmps23
    go_wp2_with fail
    go_ret2
    exact ⟨rfl, HC.out⟩
  by_cases h1 : 65535 < n
  · have d1 : decide (0 ≤ n) = true := decide_eq_true (by omega)
    have d2 : decide (n ≤ 65535) = false := decide_eq_false (by omega)
    have e1 : wok 3 n = false := decide_eq_false (by omega)
    have e2 : wnum 3 n = 0 := by unfold wnum; rw [e1]; rfl
    have e3 : wE 3 n = 2 := by unfold wE; rw [e1]; rfl
    rw [e2, e3]

    go_enter Try.func23, Try.ntmps23
    go_wp2_with fail
    go_ret2
    exact ⟨rfl, HC.out⟩
  obtain ⟨n, rfl⟩ : ∃ m : Nat, n = m := ⟨n.toNat, by omega⟩
  have i1 : (n : Int) ≤ 65535 := by omega
  have j1 : n ≤ 65535 := by omega
  have d2 : decide ((n : Int) ≤ 65535) = true := decide_eq_true i1
  have e1 : wok 3 n = true := decide_eq_true (by omega)
  have e2 : wnum 3 n = 3 + 4 * n := by unfold wnum; rw [e1]; rfl
  have e3 : wE 3 n = 0 := by unfold wE; rw [e1]; rfl
  have HB := hide (show bits BinOp.or IntKind.u64 3 ((n : Int) * 4) = ((3 + 4 * n : Nat) : Int) from by have := or_entry (k := 3) (by omega) j1; push_cast at this ⊢; exact this)
  rw [e2, e3]
  clear h0 h1
  go_enter Try.func23, Try.ntmps23
  go_wp2_with fail
  rw [HB.out]
  go_ret2
  exact ⟨rfl, HC.out⟩
set_option maxRecDepth 20000 in
set_option maxHeartbeats 4000000 in
theorem Word_t (w : World) (k : Nat) (n : Int) :
    Calls Try.prog 23 #[.agg #[.int .u8 k, .int .i64 n]] w fun e w' => e = .returned (.tuple #[.int .u64 (wnum k n : Nat), .int .i64 (wE k n)]) ∧ Chg [] w w' := by
  rcases (by omega : k = 0 ∨ k = 1 ∨ k = 2 ∨ k = 3 ∨ 3 < k) with rfl | rfl | rfl | rfl | h3
  · exact Word_0 w n
  · exact Word_1 w n
  · exact Word_2 w n
  · exact Word_3 w n
  have HC := hide (show Chg [] w (w.alloc (.cells #[.int .u8 k, .int .i64 n] 59)) from (Chg.refl [] w).alloc _)
  have e1 : wok k n = false := decide_eq_false (by omega)
  have e2 : wnum k n = 0 := by unfold wnum; rw [e1]; rfl
  have e3 : wE k n = 2 := by unfold wE; rw [e1]; rfl
  rw [e2, e3]
  have d0 : decide ((k : Int) = 0) = false := decide_eq_false (by omega)
  have d1 : decide ((k : Int) = 1) = false := decide_eq_false (by omega)
  have d2 : decide ((k : Int) = 2) = false := decide_eq_false (by omega)
  have d3 : decide ((k : Int) = 3) = false := decide_eq_false (by omega)
  have b0 : ((k : Int) == 0) = false := beq_false_of_ne (by omega)
  have b1 : ((k : Int) == 1) = false := beq_false_of_ne (by omega)
  have b2 : ((k : Int) == 2) = false := beq_false_of_ne (by omega)
  have b3 : ((k : Int) == 3) = false := beq_false_of_ne (by omega)
  have n0 : ¬ k = 0 := by omega
  have n1 : ¬ k = 1 := by omega
  have n2 : ¬ k = 2 := by omega
  have n3 : ¬ k = 3 := by omega
  go_enter Try.func23, Try.ntmps23
  go_wp2_with fail
  go_ret2
  exact ⟨rfl, HC.out⟩
set_option maxRecDepth 20000 in
set_option maxHeartbeats 4000000 in
theorem Word_r (w : World) (k : Nat) (hk : k < 256) (n : Int) :
    Calls Try.prog 24 #[.agg #[.int .u8 k, .int .i64 n]] w fun e w' => e = .returned (.tuple #[.int .u64 (wnum k n : Nat), .int .i64 (wE k n)]) ∧ Chg [] w w' := by
  have HC := hide (show Chg [] w (w.alloc (.cells #[.int .u8 k, .int .i64 n] 59)) from (Chg.refl [] w).alloc _)
  by_cases h3 : 3 < k
  · have d0 : decide (3 < (k : Int)) = true := decide_eq_true (by omega)
    have d1 : decide (3 < k) = true := decide_eq_true (by omega)
    have e1 : wok k n = false := decide_eq_false (by omega)
    have e2 : wnum k n = 0 := by unfold wnum; rw [e1]; rfl
    have e3 : wE k n = 2 := by unfold wE; rw [e1]; rfl
    rw [e2, e3]
    go_enter Try.func24, Try.ntmps24
    go_wp2_with fail
    go_ret2
    exact ⟨rfl, HC.out⟩
  have d0 : decide (3 < (k : Int)) = false := decide_eq_false (by omega)
  have d1 : decide (3 < k) = false := decide_eq_false (by omega)
  by_cases h0 : n < 0
  · have d2 : decide (n < 0) = true := decide_eq_true (by omega)
    have e1 : wok k n = false := decide_eq_false (by omega)
    have e2 : wnum k n = 0 := by unfold wnum; rw [e1]; rfl
    have e3 : wE k n = 2 := by unfold wE; rw [e1]; rfl
    rw [e2, e3]
    go_enter Try.func24, Try.ntmps24
    go_wp2_with fail
    go_ret2
    exact ⟨rfl, HC.out⟩
  have d2 : decide (n < 0) = false := decide_eq_false (by omega)
  by_cases h1 : 65535 < n
  · have d3 : decide (65535 < n) = true := decide_eq_true (by omega)
    have e1 : wok k n = false := decide_eq_false (by omega)
    have e2 : wnum k n = 0 := by unfold wnum; rw [e1]; rfl
    have e3 : wE k n = 2 := by unfold wE; rw [e1]; rfl
    rw [e2, e3]
    go_enter Try.func24, Try.ntmps24
    go_wp2_with fail
    go_ret2
    exact ⟨rfl, HC.out⟩
  have d3 : decide (65535 < n) = false := decide_eq_false (by omega)
  by_cases h2 : k = 0
  · subst h2
    by_cases h4 : n = 0
    · subst h4
      have e1 : wnum 0 0 = 0 := rfl
      have e2 : wE 0 0 = 0 := rfl
      rw [e1, e2]
      go_enter Try.func24, Try.ntmps24
      go_wp2_with fail
      go_ret2
      exact ⟨rfl, HC.out⟩
    · have e1 : wok 0 n = false := decide_eq_false (by omega)
      have e2 : wnum 0 n = 0 := by unfold wnum; rw [e1]; rfl
      have e3 : wE 0 n = 2 := by unfold wE; rw [e1]; rfl
      rw [e2, e3]
      have c1 : decide (n = 0) = false := decide_eq_false h4
      have c2 : (n == 0) = false := beq_false_of_ne h4
      have c3 : (n != 0) = true := bne_iff_ne.2 h4
      go_enter Try.func24, Try.ntmps24
      go_wp2_with fail
      go_ret2
      exact ⟨rfl, HC.out⟩
  obtain ⟨n, rfl⟩ : ∃ m : Nat, n = m := ⟨n.toNat, by omega⟩
  have e1 : wok k n = true := decide_eq_true (by omega)
  have e2 : wnum k n = k + 4 * n := by unfold wnum; rw [e1]; rfl
  have e3 : wE k n = 0 := by unfold wE; rw [e1]; rfl
  rw [e2, e3]
  have i1 : (n : Int) ≤ 65535 := by omega
  have i2 : (k : Int) ≤ 3 := by omega
  have c1 : decide ((k : Int) = 0) = false := decide_eq_false (by omega)
  have c2 : ((k : Int) == 0) = false := beq_false_of_ne (by omega)
  have c3 : decide (k = 0) = false := decide_eq_false (by omega)
  have HB := hide (show IntKind.u64.wrap ((k : Int) + 4 * n) = ((k + 4 * n : Nat) : Int) from by rw [IntKind.wrap_u64]; omega)
  have HP := hide (show ((k + 4 * n : Nat) : Int) = (k : Int) + 4 * n from by omega)
  clear h0 h1 h3 d0 e1 e2 e3
  have d0 : decide (3 < (k : Int)) = false := decide_eq_false (by omega)
  go_enter Try.func24, Try.ntmps24
  go_wp2_with fail
  try rw [← HP.out]
  go_ret2
  exact ⟨rfl, HC.out⟩
end Go.Proofs.Ytblkfikcfgocgaa
