/- Policies: the bits of a mask. -/
import Derived.Test.YtinlpjgjjplceaaDoorCaB
namespace Go.Proofs.YtinlpjgjjplceaaDoor
open Go Go.RowKit

/-- is the node k one of the mask m? -/
def hasZ (m : Nat) (k : Int) : Bool := decide (0 ≤ k ∧ k < 8 ∧ m / 2 ^ k.toNat % 2 = 1)
set_option maxRecDepth 100000 in
theorem and_one : ∀ x : Fin 256, bits BinOp.and .u8 (x.1 : Int) 1 = ((x.1 % 2 : Nat) : Int) := by decide
theorem and_shr {m : Nat} (hm : m < 256) (v : Nat) : (bits BinOp.and .u8 ((m : Int) / 2 ^ v) 1 == 1) = decide (m / 2 ^ v % 2 = 1) := by
  have h1 : m / 2 ^ v < 256 := Nat.lt_of_le_of_lt (Nat.div_le_self _ _) hm
  have h2 : ((m : Int) / 2 ^ v) = ((m / 2 ^ v : Nat) : Int) := by push_cast; rfl
  rw [h2, and_one ⟨_, h1⟩, Bool.eq_iff_iff]
  simp
  omega
/-- the document's -/
theorem rhas_any {m : Nat} (hm : m < 256) (k : Int) (w : World) : Calls Tryd.prog 58 #[.int .u8 m, .int .i64 k] w fun e w' => e = .returned (.bool (hasZ m k)) ∧ w = w' := by
  by_cases h0 : k < 0
  · have hr : hasZ m k = false := decide_eq_false (by omega)
    rw [hr]
    have d1 : decide (k < 0) = true := decide_eq_true h0
    go_enter Tryd.func58, Tryd.ntmps58
    go_wp2_with fail
    go_ret
    exact ⟨rfl, rfl⟩
  · have d1 : decide (k < 0) = false := decide_eq_false h0
    by_cases h8 : 7 < k
    · have hr : hasZ m k = false := decide_eq_false (by omega)
      rw [hr]
      have d2 : decide (7 < k) = true := decide_eq_true h8
      go_enter Tryd.func58, Tryd.ntmps58
      go_wp2_with fail
      go_ret
      exact ⟨rfl, rfl⟩
    · obtain ⟨v, rfl⟩ : ∃ v : Nat, k = v := ⟨k.toNat, by omega⟩
      have d2 : decide (7 < (v : Int)) = false := decide_eq_false h8
      have hv : v < 8 := by omega
      obtain ⟨r, hr⟩ : ∃ r, r = hasZ m v := ⟨_, rfl⟩
      rw [← hr]
      have HR := hide hr
      clear hr
      have hm' : (m : Int) < 256 := by omega
      go_enter Tryd.func58, Tryd.ntmps58
      go_wp2_with fail
      go_loopw [5, 6] (fun x i wr => wr = w ∧ ∃ (j y : Nat), j ≤ v ∧ y < 256 ∧ x = .int .i64 y ∧ i = .int .i64 j ∧ Hid (y = m / 2 ^ j)) (fun _ i _ => v - (intOf i).toNat)
      case atStart => exact ⟨rfl, 0, m, by omega, hm, rfl, rfl, hide (by simp)⟩
      case round =>
        obtain ⟨rfl, j, y, hj, hy, rfl, rfl, HY⟩ := hrel
        by_cases hjv : j < v
        · have j1 : (j : Int) ≤ 8 := by omega
          have y1 : (0 : Int) ≤ (y : Int) := by omega
          have y2 : (y : Int) < 256 := by omega
          go_wp2_with fail
          go_roundw
          case rel => exact ⟨trivial, j + 1, y / 2, by omega, by omega, by simp, by go_num, hide (by rw [HY.out, Nat.pow_succ, Nat.div_div_eq_div_mul])⟩
          case measure => simp [intOf]; omega
        · obtain rfl : j = v := by omega
          have hr : r = ((y : Int) % 2 == 1) := by
            rw [HR.out]
            unfold hasZ
            rw [Int.toNat_natCast, ← HY.out, Bool.eq_iff_iff]
            simp
            omega
          clear HR
          subst hr
          go_wp2_with fail
          go_ret
          exact ⟨rfl, rfl⟩
/-- how many nodes a mask has; one more than the highest; the lowest -/
def ones (m : Nat) : Nat := m % 2 + m / 2 % 2 + m / 4 % 2 + m / 8 % 2 + m / 16 % 2 + m / 32 % 2 + m / 64 % 2 + m / 128 % 2
def len8 (m : Nat) : Nat := if m = 0 then 0 else if m < 2 then 1 else if m < 4 then 2 else if m < 8 then 3 else if m < 16 then 4 else if m < 32 then 5 else if m < 64 then 6 else if m < 128 then 7 else 8
def low8 (m : Nat) : Nat := if m = 0 then 8 else if m % 2 = 1 then 0 else if m / 2 % 2 = 1 then 1 else if m / 4 % 2 = 1 then 2 else if m / 8 % 2 = 1 then 3 else if m / 16 % 2 = 1 then 4 else if m / 32 % 2 = 1 then 5 else if m / 64 % 2 = 1 then 6 else 7
theorem run_tab {S : ByteArray} {f : Nat → Nat} (hS : ∀ i : Fin 256, (S[i.1]?).map (·.toNat) = some (f i.1)) {m : Nat} (hm : m < 256) (w : World) : (Instr.index 9 (.string S) (.int .u8 m)).run Tryd.prog w = .ok (.int .u8 (f m : Nat)) w := by
  have h := hS ⟨m, hm⟩
  cases hq : S[m]? with
  | none => simp [hq] at h
  | some b =>
    simp [hq] at h
    simp [Instr.index, run_underlying Tryd.underlying9, asIntOf, hq, h]
theorem wpList_tab {ops : Array Oper} {rest : List Oper} {o : Oper} {a : Act} {w : World} {Q : Exit → Act → World → Prop} {S : ByteArray} {m : Nat} (f : Nat → Nat) (hm : m < 256) (hg : o.guard = none) (x : Operand) (ho : o.op = .index 9 (.const (.string S)) x)
    (hx : a.eval x = .int .u8 m) (hS : ∀ i : Fin 256, (S[i.1]?).map (·.toNat) = some (f i.1)) (h : wpList Tryd.prog ops Q rest (a.put o.dst (.int .u8 (f m : Nat))) w) : wpList Tryd.prog ops Q (o :: rest) a w :=
  have hc : a.eval (.const (.string S)) = .string S := rfl
  Great.wpList_runTo hg _ rfl _ _ (by unfold execOp; simp only [ho, hx, hc, Sem.run_bind, run_tab hS hm, Sem.run_pure, Result.andThen_ok]) h
set_option maxRecDepth 20000 in
theorem ones_any {m : Nat} (hm : m < 256) (w : World) : Calls Tryd.prog 57 #[.int .u8 m] w fun e w' => e = .returned (.int .i64 (ones m : Nat)) ∧ w = w' := by
  have m1 : (0 : Int) ≤ (m : Int) := by omega
  have m2 : (m : Int) < 256 := by omega
  have h8 : ones m ≤ 8 := by unfold ones; first | omega | ((repeat' split) <;> omega)
  have o1 : (ones m : Int) ≤ 8 := by omega
  generalize hx : ones m = x at h8 o1 ⊢
  have HX := hide hx
  clear hx
  go_enter Tryd.func57, Tryd.ntmps57
  go_wp2_with (first | (refine wpList_tab ones hm rfl _ rfl rfl ?_ ?_; (focus (decide +kernel)); rw [HX.out]))
  go_ret
  exact ⟨rfl, rfl⟩
set_option maxRecDepth 20000 in
theorem len8_any {m : Nat} (hm : m < 256) (w : World) : Calls Tryd.prog 56 #[.int .u8 m] w fun e w' => e = .returned (.int .i64 (len8 m : Nat)) ∧ w = w' := by
  have m1 : (0 : Int) ≤ (m : Int) := by omega
  have m2 : (m : Int) < 256 := by omega
  have h8 : len8 m ≤ 8 := by unfold len8; first | omega | ((repeat' split) <;> omega)
  have o1 : (len8 m : Int) ≤ 8 := by omega
  generalize hx : len8 m = x at h8 o1 ⊢
  have HX := hide hx
  clear hx
  go_enter Tryd.func56, Tryd.ntmps56
  go_wp2_with (first | (refine wpList_tab len8 hm rfl _ rfl rfl ?_ ?_; (focus (decide +kernel)); rw [HX.out]))
  go_ret
  exact ⟨rfl, rfl⟩
end Go.Proofs.YtinlpjgjjplceaaDoor
