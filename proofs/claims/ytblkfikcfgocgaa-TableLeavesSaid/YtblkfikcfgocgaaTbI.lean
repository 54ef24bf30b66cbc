/- A table of three leaves: what is set, what is got. -/
import Derived.Test.YtblkfikcfgocgaaTbH
namespace Go.Proofs.Ytblkfikcfgocgaa
open Go Go.RowKit

theorem woE_in {n : Nat} {f i : Int} (h0 : 0 ≤ f) (h1 : f < n) (h2 : 0 ≤ i) (h3 : i ≤ 31) : woE n f i = 0 := by
  unfold woE paE
  rw [if_neg (by omega), if_neg (by omega)]
theorem tdiv32 (p : Nat) : ((p : Int).tdiv 32) = ((p / 32 : Nat) : Int) := by
  rw [Int.tdiv_eq_ediv_of_nonneg (by omega)]; omega
theorem tmod32 (p : Nat) : ((p : Int).tmod 32) = ((p % 32 : Nat) : Int) := by
  rw [Int.tmod_eq_emod_of_nonneg (by omega)]; omega
theorem rdW_nat {n : Nat} {V : Nat → Nat → Nat} {f i : Nat} (hf : f < n) (hi : i ≤ 31) : rdW n V f i = V f i := by
  unfold rdW
  rw [if_pos (woE_in (by omega) (by omega) (by omega) (by omega)), Int.toNat_natCast, Int.toNat_natCast]
theorem rdE_nat {n : Nat} {V : Nat → Nat → Nat} {f i : Nat} (hf : f < n) (hi : i ≤ 31) : rdE n V f i = eE (V f i) := by
  unfold rdE
  rw [if_pos (woE_in (by omega) (by omega) (by omega) (by omega)), rdW_nat hf hi]
/-- the words of a root whose leaves are 1, 2, 3, and of the leaves -/
def VT (T : Nat → Nat × Int) : Nat → Nat → Nat := fun f i => if f = 0 then (if i < 3 then 4 * i + 5 else 0) else wnum (T (32 * (f - 1) + i)).1 (T (32 * (f - 1) + i)).2
theorem VT_leaf (T : Nat → Nat × Int) {p : Nat} (hp : p < 96) : lfE 4 (VT T) 0 p = 0 ∧ lfN 4 (VT T) 0 p = p / 32 + 1 := by
  have hq : p / 32 < 3 := by omega
  have hV : VT T 0 (p / 32) = 4 * (p / 32) + 5 := by unfold VT; rw [if_pos rfl, if_pos hq]
  have hok : eok (4 * (p / 32) + 5) = true := decide_eq_true (by omega)
  have h1 : rdW 4 (VT T) 0 ((p / 32 : Nat) : Int) = 4 * (p / 32) + 5 := by
    have := rdW_nat (n := 4) (V := VT T) (f := 0) (i := p / 32) (by omega) (by omega)
    rw [hV] at this
    exact this
  have h2 : rdE 4 (VT T) 0 ((p / 32 : Nat) : Int) = 0 := by
    have := rdE_nat (n := 4) (V := VT T) (f := 0) (i := p / 32) (by omega) (by omega)
    rw [hV] at this
    rw [show eE (4 * (p / 32) + 5) = 0 by unfold eE; rw [hok]; rfl] at this
    exact this
  have h3 : eK (4 * (p / 32) + 5) = 1 := by unfold eK; rw [hok, if_pos rfl]; omega
  have h4 : eN (4 * (p / 32) + 5) = p / 32 + 1 := by unfold eN; rw [hok, if_pos rfl]; omega
  have E : lfE 4 (VT T) 0 p = 0 := by
    unfold lfE
    rw [if_neg (by omega), tdiv32, h2, if_neg (by simp), h1, h3, if_neg (by simp), if_neg (by simp)]
  exact ⟨E, by unfold lfN; rw [E, if_pos rfl, tdiv32, h1, h4]⟩
theorem VT_none (T : Nat → Nat × Int) {p : Nat} (h1 : 96 ≤ p) (h2 : p < 1024) : lfE 4 (VT T) 0 p = 7 := by
  have hV : VT T 0 (p / 32) = 0 := by unfold VT; rw [if_pos rfl, if_neg (by omega)]
  have h3 : rdW 4 (VT T) 0 ((p / 32 : Nat) : Int) = 0 := by
    have := rdW_nat (n := 4) (V := VT T) (f := 0) (i := p / 32) (by omega) (by omega)
    rw [hV] at this
    exact this
  have h4 : rdE 4 (VT T) 0 ((p / 32 : Nat) : Int) = 0 := by
    have := rdE_nat (n := 4) (V := VT T) (f := 0) (i := p / 32) (by omega) (by omega)
    rw [hV] at this
    exact this
  unfold lfE
  rw [if_neg (by omega), tdiv32, h4, if_neg (by simp), h3, if_pos (by rfl)]
/-- an entry is put in -/
def putT (T : Nat → Nat × Int) (p k : Nat) (m : Int) : Nat → Nat × Int := fun q => if q = p then (k, m) else T q
theorem VT_put (T : Nat → Nat × Int) {p k : Nat} {m : Int} (hp : p < 96) : ∀ f i, i ≤ 31 → setV (VT T) (p / 32 + 1) (p % 32) (wnum k m) f i = VT (putT T p k m) f i := by
  intro f i hi
  unfold setV VT putT
  by_cases h : f = p / 32 + 1 ∧ i = p % 32
  · obtain ⟨rfl, rfl⟩ := h
    rw [if_pos ⟨rfl, rfl⟩, if_neg (by omega), if_pos (by omega)]
  · rw [if_neg h]
    by_cases hf : f = 0
    · rw [if_pos hf, if_pos hf]
    · rw [if_neg hf, if_neg hf, if_neg (by omega)]
/-- an entry may be set there -/
def okT (p : Int) (k : Nat) (m : Int) : Bool := decide (0 ≤ p ∧ p < 96) && wok k m
theorem VT_set (T : Nat → Nat × Int) (p : Int) (k : Nat) (m : Int) :
    (okT p k m = true ∧ stE 4 (VT T) 0 p k m = 0 ∧ ∀ f i, i ≤ 31 → stV 4 (VT T) 0 p k m f i = VT (putT T p.toNat k m) f i) ∨ (okT p k m = false ∧ stE 4 (VT T) 0 p k m ≠ 0 ∧ stV 4 (VT T) 0 p k m = VT T) := by
  have hne : stE 4 (VT T) 0 p k m ≠ 0 → stV 4 (VT T) 0 p k m = VT T := fun h => by unfold stV; rw [if_neg h]
  obtain ⟨ok, hok⟩ : ∃ ok, wok k m = ok := ⟨_, rfl⟩
  by_cases h1 : 0 ≤ p ∧ p < 96
  · obtain ⟨p, rfl⟩ : ∃ q : Nat, p = q := ⟨p.toNat, by omega⟩
    obtain ⟨l1, l2⟩ := VT_leaf T (p := p) (by omega)
    cases ok with
    | true =>
      left
      have hw : wE k m = 0 := by unfold wE; rw [hok]; rfl
      have hs : stE 4 (VT T) 0 p k m = 0 := by
        unfold stE
        rw [if_neg (by rw [hw]; omega), l1, if_neg (by simp), l2, tmod32, woE_in (by omega) (by omega) (by omega) (by omega)]
      refine ⟨by unfold okT; rw [decide_eq_true h1, hok]; rfl, hs, fun f i hi => ?_⟩
      unfold stV
      rw [if_pos hs, l2, tmod32, Int.toNat_natCast, Int.toNat_natCast]
      exact VT_put T (by omega) f i hi
    | false =>
      right
      have hw : wE k m = 2 := by unfold wE; rw [hok]; rfl
      have hs : stE 4 (VT T) 0 p k m ≠ 0 := by
        unfold stE
        rw [if_pos (by rw [hw]; omega)]
        omega
      exact ⟨by unfold okT; rw [hok, Bool.and_false], hs, hne hs⟩
  · right
    have hs : stE 4 (VT T) 0 p k m ≠ 0 := by
      unfold stE
      by_cases h2 : p < 0 ∨ 1024 ≤ p ∨ wE k m ≠ 0
      · rw [if_pos h2]; omega
      · rw [if_neg h2]
        obtain ⟨p, rfl⟩ : ∃ q : Nat, p = q := ⟨p.toNat, by omega⟩
        rw [VT_none T (by omega) (by omega), if_pos (by omega)]
        omega
    exact ⟨by unfold okT; rw [decide_eq_false h1, Bool.false_and], hs, hne hs⟩
theorem VT_get (T : Nat → Nat × Int) {p : Nat} (hp : p < 96) (hT : wok (T p).1 (T p).2 = true) : gtE 4 (VT T) 0 p = 0 ∧ eK (gtW 4 (VT T) 0 p) = (T p).1 ∧ (eN (gtW 4 (VT T) 0 p) : Int) = (T p).2 := by
  obtain ⟨l1, l2⟩ := VT_leaf T hp
  obtain ⟨b1, b2, b3⟩ := wnum_back hT
  have hV : VT T (p / 32 + 1) (p % 32) = wnum (T p).1 (T p).2 := by
    unfold VT
    rw [if_neg (by omega), show 32 * (p / 32 + 1 - 1) + p % 32 = p by omega]
  have hw : gtW 4 (VT T) 0 p = wnum (T p).1 (T p).2 := by
    unfold gtW
    rw [if_pos l1, l2, tmod32, rdW_nat (by omega) (by omega), hV]
  refine ⟨?_, by rw [hw, b2], by rw [hw, b3]⟩
  unfold gtE
  rw [l1, if_neg (by omega), if_neg (by simp), l2, tmod32, rdE_nat (by omega) (by omega), hV, b1]
end Go.Proofs.Ytblkfikcfgocgaa
