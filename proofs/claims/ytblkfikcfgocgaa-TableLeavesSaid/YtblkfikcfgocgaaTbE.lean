/- lacks, Get. -/
import Derived.Test.YtblkfikcfgocgaaTbD
namespace Go.Proofs.Ytblkfikcfgocgaa
open Go Go.RowKit

section
variable {w : World} {a gb gm : Nat} {c : Cf} {n : Nat} {V : Nat → Nat → Nat} {M : List Mk}
/-- a root is there, and its word is none -/
def lkB (n : Nat) (V : Nat → Nat → Nat) (f p : Int) : Bool := decide (woE n f (p.tdiv 32) = 0 ∧ rdW n V f (p.tdiv 32) = 0)
set_option maxRecDepth 20000 in
set_option maxHeartbeats 4000000 in
theorem lacks_t (h : TM w a gb gm c n V M) (f : Int) (p : Nat) (hp : p < 1024) :
    Calls Try.prog 47 #[.pointer (some ⟨a, 0, none⟩), .int .i64 f, .int .i64 p] w fun e w' => e = .returned (.bool (lkB n V f p)) ∧ w = w' := by
  have i0 : (0 : Int) ≤ (p : Int) := by omega
  have i1 : (p : Int) < 1024 := by omega
  have HR := hide (h.word f ((p : Int).tdiv 32))
  obtain ⟨z, hz⟩ : ∃ z, lkB n V f p = z := ⟨_, rfl⟩
  rw [hz]
  unfold lkB at hz
  generalize woE n f ((p : Int).tdiv 32) = r at HR hz
  generalize rdW n V f ((p : Int).tdiv 32) = x at HR hz
  clear h hp
  by_cases h0 : r = 0
  · subst h0
    by_cases hx : x = 0
    · subst hx
      obtain rfl : z = true := by rw [← hz]; rfl
      clear hz
      go_enter Try.func47, Try.ntmps47
      go_wp2_with fail
      refine HR.out.mono ?_
      rintro e W3 ⟨rfl, rfl⟩
      go_wp2_with fail
      go_ret
      exact ⟨rfl, rfl⟩
    · obtain rfl : z = false := by rw [← hz]; exact decide_eq_false (fun h => hx h.2)
      clear hz
      have q0 : decide ((x : Int) = 0) = false := decide_eq_false (by omega)
      have b0 : ((x : Int) == 0) = false := beq_false_of_ne (by omega)
      go_enter Try.func47, Try.ntmps47
      go_wp2_with fail
      refine HR.out.mono ?_
      rintro e W3 ⟨rfl, rfl⟩
      go_wp2_with fail
      go_ret
      exact ⟨rfl, rfl⟩
  · obtain rfl : z = false := by rw [← hz]; exact decide_eq_false (fun h => h0 h.1)
    clear hz
    have j2 : (r == 0) = false := by simpa using h0
    have j4 : (r != 0) = true := by simpa using h0
    go_enter Try.func47, Try.ntmps47
    go_wp2_with fail
    refine HR.out.mono ?_
    rintro e W3 ⟨rfl, rfl⟩
    go_wp2_with fail
    go_ret
    exact ⟨rfl, rfl⟩
/-- an entry that is got -/
def gtE (n : Nat) (V : Nat → Nat → Nat) (f p : Int) : Int := if lfE n V f p = 7 ∧ lkB n V f p = true then 0 else if lfE n V f p ≠ 0 then lfE n V f p else rdE n V (lfN n V f p) (p.tmod 32)
def gtW (n : Nat) (V : Nat → Nat → Nat) (f p : Int) : Nat := if lfE n V f p = 0 then rdW n V (lfN n V f p) (p.tmod 32) else 0
set_option maxRecDepth 20000 in
set_option maxHeartbeats 4000000 in
theorem Get_t (h : TM w a gb gm c n V M) (f p : Int) :
    Calls Try.prog 31 #[.pointer (some ⟨a, 0, none⟩), .int .i64 f, .int .i64 p] w fun e w' => e = .returned (.tuple #[.agg #[.int .u8 (eK (gtW n V f p)), .int .i64 (eN (gtW n V f p))], .int .i64 (gtE n V f p)]) ∧ Chg [] w w' := by
  have HC := hide (show Chg [] w (w.alloc (.cells #[.int .u8 (0 : Nat), .int .i64 0] 59)) from (Chg.refl [] w).alloc _)
  have HB0 := hide (show ER (w.alloc (.cells #[.int .u8 (0 : Nat), .int .i64 0] 59)) w.heap.size 0 0 from Blk.new w 59 _)
  have hT := h.stay HC.out
  have HL := hide (Leaf_t hT f p)
  have p7 : lfE n V f p = 7 → 0 ≤ p ∧ p < 1024 := fun h => by unfold lfE at h; split at h <;> omega
  have p9 : lfE n V f p = 0 → 0 ≤ p ∧ p < 1024 := fun h => by unfold lfE at h; split at h <;> omega
  have HT := hide hT
  have e2 : gtE n V f p = gtE n V f p := rfl
  have e3 : gtW n V f p = gtW n V f p := rfl
  conv at e2 => rhs; unfold gtE
  conv at e3 => rhs; unfold gtW
  obtain ⟨z, hz⟩ : ∃ z, gtE n V f p = z := ⟨_, rfl⟩
  obtain ⟨x, hx⟩ : ∃ x, gtW n V f p = x := ⟨_, rfl⟩
  rw [hz] at e2 ⊢
  rw [hx] at e3 ⊢
  clear hz hx h hT
  obtain ⟨r, hr⟩ : ∃ r, lfE n V f p = r := ⟨_, rfl⟩
  rw [hr] at e2 e3 HL p7 p9
  generalize lfN n V f p = y at e2 e3 HL
  clear hr
  by_cases h0 : r = 0
  · subst h0
    obtain ⟨q0, q1⟩ := p9 rfl
    obtain ⟨p, rfl⟩ : ∃ q : Nat, p = q := ⟨p.toNat, by omega⟩
    rw [if_neg (by omega), if_neg (by omega)] at e2
    rw [if_pos rfl] at e3
    have HRR := hide (fun W (h : TM W a gb gm c n V M) => read_t h y ((p : Int).tmod 32))
    rw [← e2, ← e3] at HRR
    clear e2 e3 p7 p9
    generalize eK x = k at HRR ⊢
    generalize eN x = m at HRR ⊢
    go_enter Try.func31, Try.ntmps31
    go_wp2_with fail
    refine HL.out.mono ?_
    rintro e W3 ⟨rfl, hc3⟩
    have H0 := hide (HB0.out.stay hc3)
    have HC3 := hide (HC.out.stay hc3)
    have HT3 := hide (HT.out.stay hc3)
    clear HB0 HC HT hc3
    go_wp2_with fail
    refine (HRR.out _ HT3.out).mono ?_
    rintro e W4 ⟨rfl, hc4⟩
    have H4 := hide (H0.out.stay hc4)
    have HC4 := hide (HC3.out.stay hc4)
    have ll := H4.out.cells.2.2
    clear H0 HC3 hc4
    go_wp2_with (first | (refine wpList_store59 rfl _ _ rfl rfl rfl H4.out ?_; intro W5 h5 hc5))
    refine bodyPost_ret (v := .tuple #[.agg #[.int .u8 k, .int .i64 m], .int .i64 z]) (by simp [results, Try.results31, go_sem, h5.cells.1, h5.cells.2.1]) rfl ⟨rfl, ?_⟩
    exact HC4.out.trans hc5 (fun x hx => .inr (by obtain rfl := List.mem_singleton.1 hx; omega))
  rw [if_neg h0] at e3
  subst e3
  rw [show eK 0 = 0 from rfl, show eN 0 = 0 from rfl]
  have j2 : (r == 0) = false := by simpa using h0
  have j4 : (r != 0) = true := by simpa using h0
  by_cases h7 : r = 7
  · subst h7
    obtain ⟨q0, q1⟩ := p7 rfl
    obtain ⟨p, rfl⟩ : ∃ q : Nat, p = q := ⟨p.toNat, by omega⟩
    have HLK := hide (fun W (h : TM W a gb gm c n V M) => lacks_t h f p (by omega))
    generalize lkB n V f p = l at HLK e2
    cases l with
    | true =>
      rw [if_pos ⟨rfl, rfl⟩] at e2
      subst e2
      clear p7 p9
      go_enter Try.func31, Try.ntmps31
      go_wp2_with fail
      refine HL.out.mono ?_
      rintro e W3 ⟨rfl, hc3⟩
      have H0 := hide (HB0.out.stay hc3)
      have HC3 := hide (HC.out.stay hc3)
      have HT3 := hide (HT.out.stay hc3)
      have ll := H0.out.cells.2.2
      clear HB0 HC HT hc3
      go_wp2_with fail
      refine (HLK.out _ HT3.out).mono ?_
      rintro e W4 ⟨rfl, rfl⟩
      go_wp2_with (first | (refine wpList_store59 rfl _ _ rfl rfl rfl H0.out ?_; intro W5 h5 hc5))
      refine bodyPost_ret (v := .tuple #[.agg #[.int .u8 (0 : Nat), .int .i64 (0 : Nat)], .int .i64 0]) (by simp [results, Try.results31, go_sem, h5.cells.1, h5.cells.2.1]) rfl ⟨rfl, ?_⟩
      exact HC3.out.trans hc5 (fun x hx => .inr (by obtain rfl := List.mem_singleton.1 hx; omega))
    | false =>
      rw [if_neg (by simp), if_pos (by omega)] at e2
      subst e2
      clear p7 p9
      go_enter Try.func31, Try.ntmps31
      go_wp2_with fail
      refine HL.out.mono ?_
      rintro e W3 ⟨rfl, hc3⟩
      have H0 := hide (HB0.out.stay hc3)
      have HC3 := hide (HC.out.stay hc3)
      have HT3 := hide (HT.out.stay hc3)
      have ll := H0.out.cells.2.2
      clear HB0 HC HT hc3
      go_wp2_with fail
      refine (HLK.out _ HT3.out).mono ?_
      rintro e W4 ⟨rfl, rfl⟩
      go_wp2_with (first | (refine wpList_store59 rfl _ _ rfl rfl rfl H0.out ?_; intro W5 h5 hc5))
      refine bodyPost_ret (v := .tuple #[.agg #[.int .u8 (0 : Nat), .int .i64 (0 : Nat)], .int .i64 7]) (by simp [results, Try.results31, go_sem, h5.cells.1, h5.cells.2.1]) rfl ⟨rfl, ?_⟩
      exact HC3.out.trans hc5 (fun x hx => .inr (by obtain rfl := List.mem_singleton.1 hx; omega))
  · rw [if_neg (fun h => h7 h.1), if_pos h0] at e2
    subst e2
    have k2 : (z == 7) = false := by simpa using h7
    have k4 : (z != 7) = true := by simpa using h7
    clear p7 p9
    go_enter Try.func31, Try.ntmps31
    go_wp2_with fail
    refine HL.out.mono ?_
    rintro e W3 ⟨rfl, hc3⟩
    have H0 := hide (HB0.out.stay hc3)
    have HC3 := hide (HC.out.stay hc3)
    have ll := H0.out.cells.2.2
    clear HB0 HC HT hc3
    go_wp2_with (first | (refine wpList_store59 rfl _ _ rfl rfl rfl H0.out ?_; intro W5 h5 hc5))
    refine bodyPost_ret (v := .tuple #[.agg #[.int .u8 (0 : Nat), .int .i64 (0 : Nat)], .int .i64 z]) (by simp [results, Try.results31, go_sem, h5.cells.1, h5.cells.2.1]) rfl ⟨rfl, ?_⟩
    exact HC3.out.trans hc5 (fun x hx => .inr (by obtain rfl := List.mem_singleton.1 hx; omega))
end
end Go.Proofs.Ytblkfikcfgocgaa
