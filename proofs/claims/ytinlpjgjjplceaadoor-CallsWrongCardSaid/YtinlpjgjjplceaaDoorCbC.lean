/- Malformed calls: plain laws. -/
import Derived.Test.YtinlpjgjjplceaaDoorCaO
import Derived.Test.YtinlpjgjjplceaaDoorCbB
namespace Go.Proofs.YtinlpjgjjplceaaDoor
open Go Go.RowKit

/-! ## Malformed -/
def pgB (x : Cl) : Bool := decide ((0 ≤ x.g ∧ x.g < 1024) ∧ (1 ≤ x.c ∧ x.c ≤ 1024) ∧ x.g + x.c ≤ 1024)
def rSize (x : Cl) : Int := if x.k = 9 ∨ x.k = 13 then (x.l.length : Int) else x.s
def fewB (x : Cl) : Bool := decide (rSize x < 1 ∨ 8 < rSize x)
def ndB (c : Cf) (x : Cl) : Bool := decide (x.n < 0 ∨ c 0 ≤ x.n)
def r8B (x : Cl) : Bool := fewB x || decide (x.a < 0 ∨ 262144 ≤ x.a ∨ x.a / 256 ≠ (x.a + rSize x - 1) / 256)
def r12B (x : Cl) : Bool := fewB x || decide (x.a < 0 ∨ 128 < x.a ∨ 128 < x.a + rSize x)
noncomputable def rwK (c : Cf) (x : Cl) : Bool :=
  match x.k with
  | 3 | 5 => !pgB x || decide (x.r < 1 ∨ 3 < x.r)
  | 4 | 6 | 7 => !pgB x
  | 8 | 9 => r8B x
  | 10 => decide (x.s < 1 ∨ 128 < x.s)
  | 12 | 13 => r12B x
  | 14 => !polB c x.ok x.om
  | 15 => !pgB x || !polB c x.ok x.om
  | 16 | 17 => decide (x.g < 0 ∨ 1023 < x.g)
  | 18 => !pgB x || ndB c x
  | 19 | 20 => ndB c x
  | _ => false
noncomputable def rWrongK (c : Cf) (x : Cl) : Bool := !mayB c || !mayR x || rwK c x
theorem isK_lt {k : Nat} (h : isK k = true) : 1 ≤ k ∧ k < 22 := by
  unfold isK at h
  by_cases hk : k < 22
  · refine ⟨?_, hk⟩
    rcases Nat.eq_zero_or_pos k with rfl | h2
    · cases h
    · exact h2
  · rw [fld_big (by omega)] at h; cases h
theorem mayK_isK {x : Cl} (h : mayK x = true) : isK x.k = true := by
  have := (mayK_parts h).1
  unfold isK
  simpa using this
theorem wrong_eq (c : Cf) {x : Cl} (hx : x.Ok) : wrongK c x = rWrongK c x := by
  unfold wrongK rWrongK
  rw [mayR_eq hx]
  cases hc : mayB c with
  | false => rfl
  | true =>
    cases hm : mayK x with
    | false => simp
    | true =>
      simp only [Bool.not_true, Bool.false_or]
      have hk := isK_lt (mayK_isK hm)
      have hr := hx.r
      clear hm hx
      obtain ⟨k, p, n, g, c', a, s, r, ok, om, h, l⟩ := x
      simp only at hk hr
      rcases (by omega : k = 1 ∨ k = 2 ∨ k = 3 ∨ k = 4 ∨ k = 5 ∨ k = 6 ∨ k = 7 ∨ k = 8 ∨ k = 9 ∨ k = 10 ∨ k = 11 ∨ k = 12 ∨ k = 13 ∨ k = 14 ∨ k = 15 ∨ k = 16 ∨ k = 17 ∨ k = 18 ∨ k = 19 ∨ k = 20 ∨ k = 21) with rfl | rfl | rfl | rfl | rfl | rfl | rfl | rfl | rfl | rfl | rfl | rfl | rfl | rfl | rfl | rfl | rfl | rfl | rfl | rfl | rfl
      all_goals
        simp only [t1K, t2K, t3K, t4K, t5K, t6K, t7K, t8K, hasB, sizeK, accB, fld, rwK, pgB, rSize, fewB, ndB, r8B, r12B, List.contains_cons, List.contains_nil, Bool.and_true, Bool.true_and, Bool.false_and, Bool.and_false, Bool.or_false, Bool.false_or, Bool.or_true, Nat.reduceBEq, Nat.reduceEqDiff, if_true, if_false, or_self, or_false, or_true, Bool.false_eq_true, beq_self_eq_true]
        try rw [Bool.eq_iff_iff]
        try simp only [Bool.or_eq_true, Bool.not_eq_true', Bool.and_eq_false_iff, decide_eq_true_eq, decide_eq_false_iff_not]
        try omega
      · by_cases ha : 0 ≤ a
        · rw [Int.tmod_eq_emod_of_nonneg ha]; omega
        · generalize a.tmod 256 = z; omega
      · by_cases ha : 0 ≤ a
        · rw [Int.tmod_eq_emod_of_nonneg ha]; omega
        · generalize a.tmod 256 = z; omega
      · generalize polB c ok om = z
        cases z <;> simp <;> omega
/-! ## On a machine with more nodes -/
theorem more_nodes {c m : Cf} {x : Cl} (hw : wrongK c x = false) (hm : mayB m = true) (hn : c 0 ≤ m 0) (h14 : x.k ≠ 14) (h15 : x.k ≠ 15) : wrongK m x = false := by
  unfold wrongK at hw ⊢
  rw [hm]
  have h5 : t5K m x = false := by
    unfold t5K
    have : hasB x 111 = false := by
      unfold hasB
      by_cases hk : x.k < 22
      · have h : ∀ k : Fin 22, k.val ≠ 14 → k.val ≠ 15 → (fld k.val).contains 111 = false := by decide
        exact h ⟨x.k, hk⟩ h14 h15
      · rw [fld_big (by omega)]; rfl
    rw [this]; rfl
  simp only [Bool.or_eq_false_iff, Bool.not_eq_false'] at hw ⊢
  obtain ⟨⟨-, a2⟩, a3, a4, a5, a6, -, a7, a8, a9⟩ := hw
  refine ⟨⟨trivial, a2⟩, a3, a4, a5, ?_, h5, a7, a8, a9⟩
  unfold t4K at a6 ⊢
  simp only [Bool.and_eq_false_iff, Bool.not_eq_false', decide_eq_true_eq] at a6 ⊢
  rcases a6 with h | h
  · exact .inl h
  · exact .inr ⟨h.1, by omega⟩
end Go.Proofs.YtinlpjgjjplceaaDoor
