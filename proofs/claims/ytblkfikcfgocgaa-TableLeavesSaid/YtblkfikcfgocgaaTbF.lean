/- Set, SetLeaf. -/
import Derived.Test.YtblkfikcfgocgaaTbE
namespace Go.Proofs.Ytblkfikcfgocgaa
open Go Go.RowKit

section
variable {w : World} {a gb gm : Nat} {c : Cf} {n : Nat} {V : Nat → Nat → Nat} {M : List Mk}
theorem wnum_lt (k : Nat) (m : Int) : wnum k m < 18446744073709551616 := by
  unfold wnum
  split
  · rename_i h
    have := of_decide_eq_true h
    omega
  · omega
/-- an entry that is set -/
def stE (n : Nat) (V : Nat → Nat → Nat) (f p : Int) (k : Nat) (m : Int) : Int :=
  if p < 0 ∨ 1024 ≤ p ∨ wE k m ≠ 0 then 2 else if lfE n V f p ≠ 0 then lfE n V f p else woE n (lfN n V f p) (p.tmod 32)
def stV (n : Nat) (V : Nat → Nat → Nat) (f p : Int) (k : Nat) (m : Int) : Nat → Nat → Nat :=
  if stE n V f p k m = 0 then setV V (lfN n V f p) (p.tmod 32).toNat (wnum k m) else V
set_option maxRecDepth 20000 in
set_option maxHeartbeats 4000000 in
theorem Set_t (h : TM w a gb gm c n V M) (f p : Int) (k : Nat) (m : Int) :
    Calls Try.prog 30 #[.pointer (some ⟨a, 0, none⟩), .int .i64 f, .int .i64 p, .agg #[.int .u8 k, .int .i64 m]] w fun e w' => e = .returned (.int .i64 (stE n V f p k m)) ∧ TM w' a gb gm c n (stV n V f p k m) M ∧ Chg [gb] w w' := by
  have HC := hide (show Chg [] w (w.alloc (.cells #[.int .u8 k, .int .i64 m] 59)) from (Chg.refl [] w).alloc _)
  have HT := hide (h.stay HC.out)
  have HW := hide (fun W => Word_t W k m)
  have hne : ∀ v : Int, stE n V f p k m = v → v ≠ 0 → stV n V f p k m = V := fun v h1 h2 => by unfold stV; rw [h1, if_neg h2]
  by_cases p0 : p < 0
  · have d1 : decide (p < 0) = true := decide_eq_true p0
    have E : stE n V f p k m = 2 := by unfold stE; rw [if_pos (.inl p0)]
    rw [E, hne 2 E (by omega)]
    clear h hne E
    go_enter Try.func30, Try.ntmps30
    go_wp2_with fail
    refine (HW.out _).mono ?_
    rintro e W3 ⟨rfl, hc3⟩
    have HC3 := hide (HC.out.stay hc3)
    have HT3 := hide (HT.out.stay hc3)
    clear hc3 HC HT
    go_wp2_with fail
    go_ret
    exact ⟨rfl, HT3.out, HC3.out.up _⟩
  have d1 : decide (p < 0) = false := decide_eq_false p0
  by_cases p1 : 1024 ≤ p
  · have d2 : decide (1024 ≤ p) = true := decide_eq_true p1
    have E : stE n V f p k m = 2 := by unfold stE; rw [if_pos (.inr (.inl p1))]
    rw [E, hne 2 E (by omega)]
    clear h hne E
    go_enter Try.func30, Try.ntmps30
    go_wp2_with fail
    refine (HW.out _).mono ?_
    rintro e W3 ⟨rfl, hc3⟩
    have HC3 := hide (HC.out.stay hc3)
    have HT3 := hide (HT.out.stay hc3)
    clear hc3 HC HT
    go_wp2_with fail
    go_ret
    exact ⟨rfl, HT3.out, HC3.out.up _⟩
  have d2 : decide (1024 ≤ p) = false := decide_eq_false p1
  obtain ⟨y, hy⟩ : ∃ y, wE k m = y := ⟨_, rfl⟩
  rw [hy] at HW
  by_cases y0 : y = 0
  rotate_left
  · have j2 : (y == 0) = false := by simpa using y0
    have j4 : (y != 0) = true := by simpa using y0
    have E : stE n V f p k m = 2 := by unfold stE; rw [if_pos (.inr (.inr (by omega)))]
    rw [E, hne 2 E (by omega)]
    clear h hne E hy
    go_enter Try.func30, Try.ntmps30
    go_wp2_with fail
    refine (HW.out _).mono ?_
    rintro e W3 ⟨rfl, hc3⟩
    have HC3 := hide (HC.out.stay hc3)
    have HT3 := hide (HT.out.stay hc3)
    clear hc3 HC HT
    go_wp2_with fail
    go_ret
    exact ⟨rfl, HT3.out, HC3.out.up _⟩
  subst y0
  obtain ⟨p, rfl⟩ : ∃ q : Nat, p = q := ⟨p.toNat, by omega⟩
  have i0 : (0 : Int) ≤ (p : Int) := by omega
  have i1 : (p : Int) < 1024 := by omega
  have HL := hide (fun W (h : TM W a gb gm c n V M) => Leaf_t h f p)
  have E : stE n V f p k m = if lfE n V f p ≠ 0 then lfE n V f p else woE n (lfN n V f p) ((p : Int).tmod 32) := by unfold stE; rw [if_neg (by omega)]
  have D : stV n V f p k m = if stE n V f p k m = 0 then setV V (lfN n V f p) ((p : Int).tmod 32).toNat (wnum k m) else V := rfl
  obtain ⟨z, hz⟩ : ∃ z, stE n V f p k m = z := ⟨_, rfl⟩
  obtain ⟨U, hU⟩ : ∃ U, stV n V f p k m = U := ⟨_, rfl⟩
  rw [hz] at E D ⊢
  rw [hU] at D ⊢
  have hx := wnum_lt k m
  generalize wnum k m = x at HW D hx
  obtain ⟨r, hr⟩ : ∃ r, lfE n V f p = r := ⟨_, rfl⟩
  rw [hr] at E HL
  generalize lfN n V f p = l at E D HL
  clear h hne hy hz hU hr p0 p1
  by_cases h0 : r = 0
  · subst h0
    rw [if_neg (by omega)] at E
    have HS := hide (fun W (h : TM W a gb gm c n V M) => h.set l ((p : Int).tmod 32) hx)
    rw [← E, Int.toNat_natCast, ← D] at HS
    clear E D hx
    go_enter Try.func30, Try.ntmps30
    go_wp2_with fail
    refine (HW.out _).mono ?_
    rintro e W3 ⟨rfl, hc3⟩
    have HC3 := hide (HC.out.stay hc3)
    have HT3 := hide (HT.out.stay hc3)
    clear hc3 HC HT
    go_wp2_with fail
    refine (HL.out _ HT3.out).mono ?_
    rintro e W4 ⟨rfl, hc4⟩
    have HC4 := hide (HC3.out.stay hc4)
    have HT4 := hide (HT3.out.stay hc4)
    clear hc4 HC3 HT3
    go_wp2_with fail
    refine (HS.out _ HT4.out).mono ?_
    rintro e W5 ⟨rfl, ht5, hc5⟩
    have HC5 := hide ((HC4.out.up [gb]).trans hc5 (fun x hx => .inl hx))
    have HT5 := hide ht5
    clear hc5 ht5 HC4 HT4
    go_wp2_with fail
    go_ret
    exact ⟨rfl, HT5.out, HC5.out⟩
  · rw [if_pos h0] at E
    subst E
    rw [if_neg h0] at D
    subst D
    have j2 : (z == 0) = false := by simpa using h0
    have j4 : (z != 0) = true := by simpa using h0
    clear hx
    go_enter Try.func30, Try.ntmps30
    go_wp2_with fail
    refine (HW.out _).mono ?_
    rintro e W3 ⟨rfl, hc3⟩
    have HC3 := hide (HC.out.stay hc3)
    have HT3 := hide (HT.out.stay hc3)
    clear hc3 HC HT
    go_wp2_with fail
    refine (HL.out _ HT3.out).mono ?_
    rintro e W4 ⟨rfl, hc4⟩
    have HC4 := hide (HC3.out.stay hc4)
    have HT4 := hide (HT3.out.stay hc4)
    clear hc4 HC3 HT3
    go_wp2_with fail
    go_ret
    exact ⟨rfl, HT4.out, HC4.out.up _⟩
/-- a leaf that is set -/
def slW (l : Int) : Nat := if l < 0 then 0 else 1 + 4 * l.toNat
def slE (n : Nat) (f p l : Int) : Int := if p < 0 ∨ 1024 ≤ p ∨ l < -1 ∨ 65535 < l then 2 else woE n f (p.tdiv 32)
def slV (n : Nat) (V : Nat → Nat → Nat) (f p l : Int) : Nat → Nat → Nat := if slE n f p l = 0 then setV V f.toNat (p.tdiv 32).toNat (slW l) else V
theorem slE_ok {n : Nat} {f p l : Int} (h0 : 0 ≤ p) (h1 : p < 1024) (h2 : -1 ≤ l) (h3 : l ≤ 65535) : slE n f p l = woE n f (p.tdiv 32) := by unfold slE; rw [if_neg (by omega)]
set_option maxRecDepth 20000 in
set_option maxHeartbeats 4000000 in
theorem SetLeaf_t (h : TM w a gb gm c n V M) (f p l : Int) :
    Calls Try.prog 29 #[.pointer (some ⟨a, 0, none⟩), .int .i64 f, .int .i64 p, .int .i64 l] w fun e w' => e = .returned (.int .i64 (slE n f p l)) ∧ TM w' a gb gm c n (slV n V f p l) M ∧ Chg [gb] w w' := by
  by_cases hbad : p < 0 ∨ 1024 ≤ p ∨ l < -1 ∨ 65535 < l
  · have E : slE n f p l = 2 := by unfold slE; rw [if_pos hbad]
    have D : slV n V f p l = V := by unfold slV; rw [E]; rfl
    rw [E, D]
    have HT := hide h
    clear E D h
    by_cases p0 : p < 0
    · have d1 : decide (p < 0) = true := decide_eq_true p0
      clear hbad
      go_enter Try.func29, Try.ntmps29
      go_wp2_with fail
      go_ret
      exact ⟨rfl, HT.out, Chg.refl _ _⟩
    have d1 : decide (p < 0) = false := decide_eq_false p0
    by_cases p1 : 1024 ≤ p
    · have d2 : decide (1024 ≤ p) = true := decide_eq_true p1
      clear hbad
      go_enter Try.func29, Try.ntmps29
      go_wp2_with fail
      go_ret
      exact ⟨rfl, HT.out, Chg.refl _ _⟩
    have d2 : decide (1024 ≤ p) = false := decide_eq_false p1
    by_cases l0 : l < -1
    · have d3 : decide (l < -1) = true := decide_eq_true l0
      clear hbad
      go_enter Try.func29, Try.ntmps29
      go_wp2_with fail
      go_ret
      exact ⟨rfl, HT.out, Chg.refl _ _⟩
    have d3 : decide (l < -1) = false := decide_eq_false l0
    have l1 : 65535 < l := by omega
    have d4 : decide (65535 < l) = true := decide_eq_true l1
    clear hbad
    go_enter Try.func29, Try.ntmps29
    go_wp2_with fail
    go_ret
    exact ⟨rfl, HT.out, Chg.refl _ _⟩
  have d1 : decide (p < 0) = false := decide_eq_false (by omega)
  have d2 : decide (1024 ≤ p) = false := decide_eq_false (by omega)
  have d3 : decide (l < -1) = false := decide_eq_false (by omega)
  have d4 : decide (65535 < l) = false := decide_eq_false (by omega)
  obtain ⟨p, rfl⟩ : ∃ q : Nat, p = q := ⟨p.toNat, by omega⟩
  have i0 : (0 : Int) ≤ (p : Int) := by omega
  have i1 : (p : Int) < 1024 := by omega
  have hx : slW l < 18446744073709551616 := by unfold slW; split <;> omega
  have HS := hide (fun W (h : TM W a gb gm c n V M) => h.set f ((p : Int).tdiv 32) hx)
  have E : slE n f p l = woE n f ((p : Int).tdiv 32) := slE_ok i0 i1 (by omega) (by omega)
  have D : slV n V f p l = if slE n f p l = 0 then setV V f.toNat ((p : Int).tdiv 32).toNat (slW l) else V := rfl
  rw [← E, ← D] at HS
  generalize slE n f p l = z at HS ⊢
  generalize slV n V f p l = U at HS ⊢
  clear E D hx
  by_cases hl : l < 0
  · obtain rfl : l = -1 := by omega
    have HC := hide (show Chg [] w (w.alloc (.cells #[.int .u8 (0 : Nat), .int .i64 0] 59)) from (Chg.refl [] w).alloc _)
    have HT := hide (h.stay HC.out)
    have HW := hide (fun W => Word_t W 0 0)
    rw [show wnum 0 0 = 0 from rfl, show wE 0 0 = 0 from rfl] at HW
    rw [show slW (-1) = 0 from rfl] at HS
    clear h hbad hl
    go_enter Try.func29, Try.ntmps29
    go_wp2_with fail
    refine (HW.out _).mono ?_
    rintro e W3 ⟨rfl, hc3⟩
    have HC3 := hide (HC.out.stay hc3)
    have HT3 := hide (HT.out.stay hc3)
    clear hc3 HC HT
    go_wp2_with fail
    refine (HS.out _ HT3.out).mono ?_
    rintro e W5 ⟨rfl, ht5, hc5⟩
    have HC5 := hide ((HC3.out.up [gb]).trans hc5 (fun x hx => .inl hx))
    have HT5 := hide ht5
    clear hc5 ht5 HC3 HT3
    go_wp2_with fail
    go_ret
    exact ⟨rfl, HT5.out, HC5.out⟩
  · obtain ⟨l, rfl⟩ : ∃ q : Nat, l = q := ⟨l.toNat, by omega⟩
    have HC := hide (show Chg [] w (w.alloc (.cells #[.int .u8 (1 : Nat), .int .i64 l] 59)) from (Chg.refl [] w).alloc _)
    have HT := hide (h.stay HC.out)
    have HW := hide (fun W => Word_t W 1 l)
    have g1 : wok 1 l = true := decide_eq_true (by omega)
    have g2 : wnum 1 l = 1 + 4 * l := by unfold wnum; rw [g1]; rfl
    have g3 : wE 1 l = 0 := by unfold wE; rw [g1]; rfl
    have g4 : slW l = 1 + 4 * l := by unfold slW; rw [if_neg hl]; rfl
    rw [g2, g3] at HW
    rw [g4] at HS
    generalize 1 + 4 * l = x at HW HS
    have q1 : decide ((l : Int) < 0) = false := decide_eq_false hl
    clear h hbad hl g1 g2 g3 g4
    go_enter Try.func29, Try.ntmps29
    go_wp2_with fail
    refine (HW.out _).mono ?_
    rintro e W3 ⟨rfl, hc3⟩
    have HC3 := hide (HC.out.stay hc3)
    have HT3 := hide (HT.out.stay hc3)
    clear hc3 HC HT
    go_wp2_with fail
    refine (HS.out _ HT3.out).mono ?_
    rintro e W5 ⟨rfl, ht5, hc5⟩
    have HC5 := hide ((HC3.out.up [gb]).trans hc5 (fun x hx => .inl hx))
    have HT5 := hide ht5
    clear hc5 ht5 HC3 HT3
    go_wp2_with fail
    go_ret
    exact ⟨rfl, HT5.out, HC5.out⟩
end
end Go.Proofs.Ytblkfikcfgocgaa
