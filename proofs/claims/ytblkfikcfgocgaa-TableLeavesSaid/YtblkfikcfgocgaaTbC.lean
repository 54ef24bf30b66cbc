/- The words of a memory; a table's entry in it. -/
import Derived.Test.YtblkfikcfgocgaaTbB
namespace Go.Proofs.Ytblkfikcfgocgaa
open Go Go.RowKit

theorem wordN_lt {B : List Nat} (h : ∀ x ∈ B, x < 256) (f i : Nat) : wordN B f i < 18446744073709551616 := by
  have h1 := leN_lt ((B.drop (f * 256 + 8 * i)).take 8) (fun b hb => h b (List.mem_of_mem_drop (List.mem_of_mem_take hb)))
  have h2 : 2 ^ (8 * ((B.drop (f * 256 + 8 * i)).take 8).length) ≤ 2 ^ 64 := Nat.pow_le_pow_right (by omega) (by rw [List.length_take]; omega)
  exact Nat.lt_of_lt_of_le h1 h2
theorem wordN_splice {B : List Nat} {f i f' i' x : Nat} (hfit : f * 256 + 8 * i + 8 ≤ B.length) (hx : x < 18446744073709551616) (hi : i ≤ 31) (hi' : i' ≤ 31) :
    wordN (splice B (f * 256 + 8 * i) (le8 x)) f' i' = if f' = f ∧ i' = i then x else wordN B f' i' := by
  have hf : f * 256 + 8 * i + (le8 x).length ≤ B.length := by rw [le8_length]; exact hfit
  unfold wordN
  split
  · rename_i h
    obtain ⟨rfl, rfl⟩ := h
    have e : ((splice B (f' * 256 + 8 * i') (le8 x)).drop (f' * 256 + 8 * i')).take 8 = le8 x := by
      refine List.ext_getElem? fun j => ?_
      by_cases hj : j < 8
      · rw [List.getElem?_take_of_lt hj, List.getElem?_drop, splice_get hf, if_pos (by rw [le8_length]; omega)]
        congr 1
        omega
      · rw [List.getElem?_eq_none (by rw [List.length_take]; omega), List.getElem?_eq_none (by rw [le8_length]; omega)]
    rw [e, leN_le8 hx]
  · rename_i h
    congr 1
    refine List.ext_getElem? fun j => ?_
    by_cases hj : j < 8
    · rw [List.getElem?_take_of_lt hj, List.getElem?_drop, List.getElem?_take_of_lt hj, List.getElem?_drop, splice_get hf, if_neg (by rw [le8_length]; omega)]
    · rw [List.getElem?_eq_none (by rw [List.length_take]; omega), List.getElem?_eq_none (by rw [List.length_take]; omega)]
/-- a memory by its words -/
def TM (w : World) (a gb gm : Nat) (c : Cf) (n : Nat) (V : Nat → Nat → Nat) (M : List Mk) : Prop := ∃ B, FM w a gb gm c n B M ∧ ∀ f i, f < n → i ≤ 31 → wordN B f i = V f i
section
variable {w w' : World} {a gb gm : Nat} {c : Cf} {n : Nat} {V : Nat → Nat → Nat} {M : List Mk}
theorem TM.stay (h : TM w a gb gm c n V M) (hc : Chg [] w w') : TM w' a gb gm c n V M := by
  obtain ⟨B, h1, h2⟩ := h
  exact ⟨B, h1.stay hc, h2⟩
theorem TM.lt {f i : Nat} (h : TM w a gb gm c n V M) (hf : f < n) (hi : i ≤ 31) : V f i < 18446744073709551616 := by
  obtain ⟨B, h1, h2⟩ := h
  rw [← h2 f i hf hi]
  exact wordN_lt h1.b8 f i
/-- the word that is read -/
def rdW (n : Nat) (V : Nat → Nat → Nat) (f i : Int) : Nat := if woE n f i = 0 then V f.toNat i.toNat else 0
theorem TM.rd_lt (h : TM w a gb gm c n V M) (f i : Int) : rdW n V f i < 18446744073709551616 := by
  unfold rdW
  split
  · rename_i h0
    obtain ⟨h1, h2, h3, h4⟩ := woE_ok h0
    exact h.lt (by omega) (by omega)
  · omega
theorem TM.word (h : TM w a gb gm c n V M) (f i : Int) :
    Calls Try.prog 20 #[.pointer (some ⟨a, 0, none⟩), .int .i64 f, .int .i64 i] w fun e w' => e = .returned (.tuple #[.int .u64 (rdW n V f i : Nat), .int .i64 (woE n f i)]) ∧ w = w' := by
  obtain ⟨B, h1, h2⟩ := h
  refine (Word_any h1 f i).mono ?_
  rintro e W ⟨rfl, rfl⟩
  refine ⟨?_, rfl⟩
  unfold rdW
  split
  · rename_i h0
    obtain ⟨q1, q2, q3, q4⟩ := woE_ok h0
    rw [h2 _ _ (by omega) (by omega)]
  · rfl
/-- a word that is set -/
def setV (V : Nat → Nat → Nat) (f i x : Nat) : Nat → Nat → Nat := fun f' i' => if f' = f ∧ i' = i then x else V f' i'
theorem TM.set (h : TM w a gb gm c n V M) (f i : Int) {x : Nat} (hx : x < 18446744073709551616) :
    Calls Try.prog 19 #[.pointer (some ⟨a, 0, none⟩), .int .i64 f, .int .i64 i, .int .u64 x] w fun e w' => e = .returned (.int .i64 (woE n f i)) ∧ TM w' a gb gm c n (if woE n f i = 0 then setV V f.toNat i.toNat x else V) M ∧ Chg [gb] w w' := by
  obtain ⟨B, h1, h2⟩ := h
  refine (SetWord_any h1 f i hx).mono ?_
  rintro e W ⟨rfl, h3, h4⟩
  refine ⟨rfl, ⟨_, h3, fun f' i' hf' hi' => ?_⟩, h4⟩
  split
  · rename_i h0
    obtain ⟨q1, q2, q3, q4⟩ := woE_ok h0
    have hlb := h1.lb
    rw [wordN_splice (by omega) hx (by omega) hi', h2 f' i' hf' hi']
    rfl
  · exact h2 f' i' hf' hi'
end
end Go.Proofs.Ytblkfikcfgocgaa
