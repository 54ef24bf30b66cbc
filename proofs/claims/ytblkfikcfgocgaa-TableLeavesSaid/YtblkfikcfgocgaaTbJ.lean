/- A table of three leaves: the calls. -/
import Derived.Test.YtblkfikcfgocgaaTbI
namespace Go.Proofs.Ytblkfikcfgocgaa
open Go Go.RowKit

theorem TM.congr {w : World} {a gb gm : Nat} {c : Cf} {n : Nat} {V V' : Nat → Nat → Nat} {M : List Mk} (h : TM w a gb gm c n V M) (hV : ∀ f i, i ≤ 31 → V f i = V' f i) : TM w a gb gm c n V' M := by
  obtain ⟨B, h1, h2⟩ := h
  exact ⟨B, h1, fun f i hf hi => (h2 f i hf hi).trans (hV f i hi)⟩
/-- the least machine, its table in frame 0, with leaves 1, 2, 3 -/
def TA (w : World) (a gb gm : Nat) (T : Nat → Nat × Int) : Prop := TM w a gb gm leastC 4 (VT T) (List.replicate 4 fMk) ∧ ∀ p, p < 96 → wok (T p).1 (T p).2 = true
section
variable {w w' : World} {a gb gm : Nat} {T : Nat → Nat × Int}
theorem TA.stay (h : TA w a gb gm T) (hc : Chg [] w w') : TA w' a gb gm T := ⟨h.1.stay hc, h.2⟩
theorem Set_a (h : TA w a gb gm T) (p : Int) (k : Nat) (m : Int) :
    Calls Try.prog 30 #[.pointer (some ⟨a, 0, none⟩), .int .i64 0, .int .i64 p, .agg #[.int .u8 k, .int .i64 m]] w fun e w' => (∃ z, e = .returned (.int .i64 z) ∧ (z == 0) = okT p k m) ∧ TA w' a gb gm (if okT p k m = true then putT T p.toNat k m else T) ∧ Chg [gb] w w' := by
  refine (Set_t h.1 0 p k m).mono ?_
  rintro e W ⟨rfl, ht, hc⟩
  rcases VT_set T p k m with ⟨h1, h2, h3⟩ | ⟨h1, h2, h3⟩
  · refine ⟨⟨_, rfl, by rw [h1, h2]; rfl⟩, ?_, hc⟩
    rw [if_pos h1]
    refine ⟨ht.congr h3, fun q hq => ?_⟩
    unfold putT
    split
    · unfold okT at h1
      exact (Bool.and_eq_true_iff.1 h1).2
    · exact h.2 q hq
  · refine ⟨⟨_, rfl, by rw [h1]; exact beq_false_of_ne h2⟩, ?_, hc⟩
    rw [if_neg (by rw [h1]; simp), ]
    rw [h3] at ht
    exact ⟨ht, h.2⟩
theorem Get_a (h : TA w a gb gm T) {p : Nat} (hp : p < 96) :
    Calls Try.prog 31 #[.pointer (some ⟨a, 0, none⟩), .int .i64 0, .int .i64 p] w fun e w' => e = .returned (.tuple #[.agg #[.int .u8 (T p).1, .int .i64 (T p).2], .int .i64 0]) ∧ Chg [] w w' := by
  refine (Get_t h.1 0 p).mono ?_
  rintro e W ⟨rfl, hc⟩
  obtain ⟨h1, h2, h3⟩ := VT_get T hp (h.2 p hp)
  refine ⟨?_, hc⟩
  rw [h1, h2, h3]
end
/-- the words of a root whose first leaves are set -/
def VL (l : Nat) : Nat → Nat → Nat := fun f i => if f = 0 then (if i < l then 4 * i + 5 else 0) else 0
theorem leaf_step {w : World} {a gb gm : Nat} {l : Nat} (h : TM w a gb gm leastC 4 (VL l) (List.replicate 4 fMk)) (hl : l < 3) :
    Calls Try.prog 29 #[.pointer (some ⟨a, 0, none⟩), .int .i64 0, .int .i64 (32 * (l : Int)), .int .i64 ((l : Int) + 1)] w fun e w' => e = .returned (.int .i64 0) ∧ TM w' a gb gm leastC 4 (VL (l + 1)) (List.replicate 4 fMk) ∧ Chg [gb] w w' := by
  refine (SetLeaf_t h 0 (32 * (l : Int)) ((l : Int) + 1)).mono ?_
  rintro e W ⟨rfl, ht, hc⟩
  have h1 : (32 * (l : Int)).tdiv 32 = (l : Int) := by rw [Int.tdiv_eq_ediv_of_nonneg (by omega)]; omega
  have hs : slE 4 0 (32 * (l : Int)) ((l : Int) + 1) = 0 := by
    rw [slE_ok (by omega) (by omega) (by omega) (by omega), h1]
    exact woE_in (by omega) (by omega) (by omega) (by omega)
  have hw : slW ((l : Int) + 1) = 4 * l + 5 := by unfold slW; rw [if_neg (by omega)]; omega
  have hV : slV 4 (VL l) 0 (32 * (l : Int)) ((l : Int) + 1) = setV (VL l) 0 l (4 * l + 5) := by unfold slV; rw [if_pos hs, h1, hw]; rfl
  rw [hV] at ht
  refine ⟨by rw [hs], ht.congr fun f i hi => ?_, hc⟩
  unfold setV VL
  by_cases hf : f = 0
  · subst hf
    by_cases hil : i = l
    · subst hil
      simp
    · have : (0 = 0 ∧ i = l) = False := by simp [hil]
      simp only [hil, and_false, if_false, if_true]
      by_cases h3 : i < l
      · rw [if_pos h3, if_pos (by omega)]
      · rw [if_neg h3, if_neg (by omega)]
  · simp [hf]
theorem TA_start {w : World} {a gb gm : Nat} (h : TM w a gb gm leastC 4 (VL 3) (List.replicate 4 fMk)) : TA w a gb gm (fun _ => (0, 0)) := ⟨h.congr fun f i hi => by
  unfold VL VT
  rfl, fun _ _ => rfl⟩
end Go.Proofs.Ytblkfikcfgocgaa
