/- read, Leaf, lacks. -/
import Derived.Test.YtblkfikcfgocgaaTbC
namespace Go.Proofs.Ytblkfikcfgocgaa
open Go Go.RowKit

section
variable {w : World} {a gb gm : Nat} {c : Cf} {n : Nat} {V : Nat → Nat → Nat} {M : List Mk}
/-- how an entry is read -/
def rdE (n : Nat) (V : Nat → Nat → Nat) (f i : Int) : Int := if woE n f i = 0 then eE (rdW n V f i) else woE n f i
theorem eK_le (x : Nat) : eK x ≤ 3 := by unfold eK; split <;> omega
theorem eN_le (x : Nat) : eN x ≤ 65535 := by
  unfold eN
  split
  · rename_i h
    unfold eok at h
    have := of_decide_eq_true h
    exact this.1
  · omega
theorem eE_cases (x : Nat) : eE x = 0 ∨ eE x = 5 := by unfold eE; split <;> simp
set_option maxRecDepth 20000 in
set_option maxHeartbeats 4000000 in
theorem read_t (h : TM w a gb gm c n V M) (f i : Int) :
    Calls Try.prog 48 #[.pointer (some ⟨a, 0, none⟩), .int .i64 f, .int .i64 i] w fun e w' => e = .returned (.tuple #[.agg #[.int .u8 (eK (rdW n V f i)), .int .i64 (eN (rdW n V f i))], .int .i64 (rdE n V f i)]) ∧ Chg [] w w' := by
  have hx := h.rd_lt f i
  have hz : woE n f i ≠ 0 → rdW n V f i = 0 := fun h => by unfold rdW; rw [if_neg h]
  have HC := hide (show Chg [] w (w.alloc (.cells #[.int .u8 (0 : Nat), .int .i64 0] 59)) from (Chg.refl [] w).alloc _)
  have HB0 := hide (show ER (w.alloc (.cells #[.int .u8 (0 : Nat), .int .i64 0] 59)) w.heap.size 0 0 from Blk.new w 59 _)
  have HW := hide ((h.stay HC.out).word f i)
  unfold rdE
  obtain ⟨r, hr⟩ : ∃ r, woE n f i = r := ⟨_, rfl⟩
  rw [hr] at hz HW ⊢
  generalize rdW n V f i = x at hx hz HW ⊢
  clear h hr
  by_cases h0 : r = 0
  · subst h0
    rw [if_pos rfl]
    have HE := hide (fun W => Entry_t W x hx)
    clear hz hx
    generalize eK x = k at HE ⊢
    generalize eN x = m at HE ⊢
    generalize eE x = y at HE ⊢
    go_enter Try.func48, Try.ntmps48
    go_wp2_with fail
    refine HW.out.mono ?_
    rintro e w' ⟨rfl, rfl⟩
    go_wp2_with fail
    refine (HE.out _).mono ?_
    rintro e W3 ⟨rfl, hc3⟩
    have H0 := hide (HB0.out.stay hc3)
    have HC3 := hide (HC.out.stay hc3)
    have ll := H0.out.cells.2.2
    clear HB0 HC hc3
    go_wp2_with (first | (refine wpList_store59 rfl _ _ rfl rfl rfl H0.out ?_; intro W4 h4 hc4))
    refine bodyPost_ret (v := .tuple #[.agg #[.int .u8 k, .int .i64 m], .int .i64 y]) (by simp [results, Try.results48, go_sem, h4.cells.1, h4.cells.2.1]) rfl ⟨rfl, ?_⟩
    exact HC3.out.trans hc4 (fun x hx => .inr (by obtain rfl := List.mem_singleton.1 hx; omega))
  · rw [if_neg h0, hz h0, show eK 0 = 0 from rfl, show eN 0 = 0 from rfl]
    rw [hz h0] at HW
    have j2 : (r == 0) = false := by simpa using h0
    have j4 : (r != 0) = true := by simpa using h0
    clear hz hx
    go_enter Try.func48, Try.ntmps48
    go_wp2_with fail
    refine HW.out.mono ?_
    rintro e w' ⟨rfl, rfl⟩
    go_wp2_with fail
    refine bodyPost_ret (v := .tuple #[.agg #[.int .u8 0, .int .i64 0], .int .i64 r]) (by simp [results, Try.results48, go_sem]) rfl ⟨rfl, ?_⟩
    exact (Chg.refl [] w).alloc _
/-- a leaf of a table -/
def lfE (n : Nat) (V : Nat → Nat → Nat) (f p : Int) : Int :=
  if p < 0 ∨ 1024 ≤ p then 2 else if rdE n V f (p.tdiv 32) ≠ 0 then rdE n V f (p.tdiv 32) else if eK (rdW n V f (p.tdiv 32)) = 0 then 7 else if eK (rdW n V f (p.tdiv 32)) ≠ 1 then 5 else 0
def lfN (n : Nat) (V : Nat → Nat → Nat) (f p : Int) : Nat := if lfE n V f p = 0 then eN (rdW n V f (p.tdiv 32)) else 0
set_option maxRecDepth 20000 in
set_option maxHeartbeats 4000000 in
theorem Leaf_t (h : TM w a gb gm c n V M) (f p : Int) :
    Calls Try.prog 46 #[.pointer (some ⟨a, 0, none⟩), .int .i64 f, .int .i64 p] w fun e w' => e = .returned (.tuple #[.int .i64 (lfN n V f p), .int .i64 (lfE n V f p)]) ∧ Chg [] w w' := by
  have bad2 : p < 0 ∨ 1024 ≤ p → lfE n V f p = 2 ∧ lfN n V f p = 0 := fun h => by
    have E : lfE n V f p = 2 := by unfold lfE; rw [if_pos h]
    exact ⟨E, by unfold lfN; rw [E]; rfl⟩
  by_cases p0 : p < 0
  · have d1 : decide (p < 0) = true := decide_eq_true p0
    obtain ⟨E, N⟩ := bad2 (.inl p0)
    rw [E, N]
    clear h bad2 E N
    go_enter Try.func46, Try.ntmps46
    go_wp2_with fail
    go_ret2
    exact ⟨rfl, Chg.refl _ _⟩
  by_cases p1 : 1024 ≤ p
  · have d1 : decide (p < 0) = false := decide_eq_false p0
    have d2 : decide (1024 ≤ p) = true := decide_eq_true p1
    obtain ⟨E, N⟩ := bad2 (.inr p1)
    rw [E, N]
    clear h bad2 E N
    go_enter Try.func46, Try.ntmps46
    go_wp2_with fail
    go_ret2
    exact ⟨rfl, Chg.refl _ _⟩
  clear bad2
  have d1 : decide (p < 0) = false := decide_eq_false p0
  have d2 : decide (1024 ≤ p) = false := decide_eq_false p1
  obtain ⟨p, rfl⟩ : ∃ q : Nat, p = q := ⟨p.toNat, by omega⟩
  have i0 : (0 : Int) ≤ (p : Int) := by omega
  have i1 : (p : Int) < 1024 := by omega
  have HR := hide (read_t h f ((p : Int).tdiv 32))
  obtain ⟨r, hr⟩ : ∃ r, rdE n V f ((p : Int).tdiv 32) = r := ⟨_, rfl⟩
  obtain ⟨x, hx⟩ : ∃ x, rdW n V f ((p : Int).tdiv 32) = x := ⟨_, rfl⟩
  obtain ⟨z, hz⟩ : ∃ z, lfE n V f p = z := ⟨_, rfl⟩
  obtain ⟨q, hq⟩ : ∃ q, lfN n V f p = q := ⟨_, rfl⟩
  have hz' := hz
  unfold lfE at hz'
  unfold lfN at hq
  rw [if_neg (by omega)] at hz'
  rw [hz, hx] at hq
  rw [hr, hx] at HR hz'
  have hq0 : lfN n V f p = q := by unfold lfN; rw [hz, hx]; exact hq
  rw [hz, hq0]
  have hk := eK_le x
  generalize eK x = k at HR hk hz' hq
  generalize eN x = m at HR hz' hq
  clear h p0 p1 hz hq0 hr hx
  by_cases h0 : r = 0
  · subst h0
    rw [if_neg (by simp)] at hz'
    rcases (by omega : k = 0 ∨ k = 1 ∨ 1 < k) with rfl | rfl | k1
    · rw [if_pos rfl] at hz'
      subst hz'
      rw [if_neg (by omega)] at hq
      subst hq
      go_enter Try.func46, Try.ntmps46
      go_wp2_with fail
      refine HR.out.mono ?_
      rintro e W3 ⟨rfl, hc3⟩
      have HC3 := hide (hc3.alloc (.cells #[.int .u8 (0 : Nat), .int .i64 m] 59))
      clear hc3
      go_wp2_with fail
      go_ret2
      exact ⟨rfl, HC3.out⟩
    · rw [if_neg (by omega), if_neg (by omega)] at hz'
      subst hz'
      rw [if_pos rfl] at hq
      subst hq
      go_enter Try.func46, Try.ntmps46
      go_wp2_with fail
      refine HR.out.mono ?_
      rintro e W3 ⟨rfl, hc3⟩
      have HC3 := hide (hc3.alloc (.cells #[.int .u8 (1 : Nat), .int .i64 m] 59))
      clear hc3
      go_wp2_with fail
      go_ret2
      exact ⟨rfl, HC3.out⟩
    · rw [if_neg (by omega), if_pos (by omega)] at hz'
      subst hz'
      rw [if_neg (by omega)] at hq
      subst hq
      have q0 : decide ((k : Int) = 0) = false := decide_eq_false (by omega)
      have q1 : decide ((k : Int) = 1) = false := decide_eq_false (by omega)
      have b0 : ((k : Int) == 0) = false := beq_false_of_ne (by omega)
      have b1 : ((k : Int) == 1) = false := beq_false_of_ne (by omega)
      have b2 : ((k : Int) != 1) = true := bne_iff_ne.2 (by omega)
      have n0 : ¬ k = 0 := by omega
      have n1 : ¬ k = 1 := by omega
      go_enter Try.func46, Try.ntmps46
      go_wp2_with fail
      refine HR.out.mono ?_
      rintro e W3 ⟨rfl, hc3⟩
      have HC3 := hide (hc3.alloc (.cells #[.int .u8 k, .int .i64 m] 59))
      clear hc3
      go_wp2_with fail
      go_ret2
      exact ⟨rfl, HC3.out⟩
  · rw [if_pos h0] at hz'
    subst hz'
    rw [if_neg h0] at hq
    subst hq
    have j2 : (r == 0) = false := by simpa using h0
    have j4 : (r != 0) = true := by simpa using h0
    go_enter Try.func46, Try.ntmps46
    go_wp2_with fail
    refine HR.out.mono ?_
    rintro e W3 ⟨rfl, hc3⟩
    have HC3 := hide (hc3.alloc (.cells #[.int .u8 k, .int .i64 m] 59))
    clear hc3
    go_wp2_with fail
    go_ret2
    exact ⟨rfl, HC3.out⟩
end
end Go.Proofs.Ytblkfikcfgocgaa
