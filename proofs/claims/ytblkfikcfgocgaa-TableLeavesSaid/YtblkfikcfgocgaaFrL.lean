/- Marks: which may be, SetMark, Mark. -/
import Derived.Test.YtblkfikcfgocgaaFrJ
namespace Go.Proofs.Ytblkfikcfgocgaa
open Go Go.RowKit

def inB (x y : Int) : Bool := decide (0 ≤ x ∧ x ≤ y)
theorem in_any (x y : Int) (w : World) : Calls Try.prog 55 #[.int .i64 x, .int .i64 y] w fun e w' => e = .returned (.bool (inB x y)) ∧ w = w' := by
  by_cases h0 : 0 ≤ x
  · by_cases h1 : x ≤ y
    · have e : inB x y = true := decide_eq_true ⟨h0, h1⟩
      rw [e]
      have d1 : decide (0 ≤ x) = true := decide_eq_true h0
      have d2 : decide (x ≤ y) = true := decide_eq_true h1
      go_enter Try.func55, Try.ntmps55
      go_wp2_with fail
      go_ret
      exact ⟨rfl, rfl⟩
    · have e : inB x y = false := decide_eq_false (fun h => h1 h.2)
      rw [e]
      have d2 : decide (x ≤ y) = false := decide_eq_false h1
      go_enter Try.func55, Try.ntmps55
      go_wp2_with fail
      go_ret
      exact ⟨rfl, rfl⟩
  · have e : inB x y = false := decide_eq_false (fun h => h0 h.1)
    rw [e]
    have d1 : decide (0 ≤ x) = false := decide_eq_false h0
    go_enter Try.func55, Try.ntmps55
    go_wp2_with fail
    go_ret
    exact ⟨rfl, rfl⟩
/-- may it be a mark? -/
def mayM (m : Mk) : Bool := decide (1 ≤ m.role) && (decide (m.role ≤ 5) && (inB m.ord 10 && (inB m.owr 65535 && (inB m.page 65535 && decide (0 ≤ m.idx)))))
def mval (m : Mk) : Value := .agg #[.int .u8 m.role, .int .i64 m.ord, .int .i64 m.owr, .int .i64 m.page, .int .i64 m.idx]
set_option maxRecDepth 20000 in
set_option maxHeartbeats 4000000 in
theorem mayM_any (m : Mk) (hm : m.role < 256) (w : World) : Calls Try.prog 42 #[mval m] w fun e w' => e = .returned (.bool (mayM m)) ∧ Chg [] w w' := by
  obtain ⟨ro, m1, m2, m3, m4⟩ := m
  simp only at hm
  unfold mval
  simp only
  have HC := hide (show Chg [] w (w.alloc (.cells #[.int .u8 ro, .int .i64 m1, .int .i64 m2, .int .i64 m3, .int .i64 m4] 43)) from (Chg.refl [] w).alloc _)
  have H1 := hide (fun W => in_any m1 10 W)
  have H2 := hide (fun W => in_any m2 65535 W)
  have H3 := hide (fun W => in_any m3 65535 W)
  obtain ⟨r, hr⟩ : ∃ r, r = mayM ⟨ro, m1, m2, m3, m4⟩ := ⟨_, rfl⟩
  rw [← hr]
  unfold mayM at hr
  simp only at hr
  have ro0 : (0 : Int) ≤ (ro : Int) := by omega
  have ro1 : (ro : Int) < 256 := by omega
  by_cases c1 : 1 ≤ ro
  rotate_left
  · have d1 : decide ((1 : Int) ≤ (ro : Int)) = false := decide_eq_false (by omega)
    have d2 : decide (1 ≤ ro) = false := decide_eq_false c1
    obtain rfl : r = false := by rw [hr, d2]; rfl
    clear hr
    go_enter Try.func42, Try.ntmps42
    go_wp2_with fail
    go_ret
    exact ⟨rfl, HC.out⟩
  rw [decide_eq_true c1, Bool.true_and] at hr
  have d1 : decide ((1 : Int) ≤ (ro : Int)) = true := decide_eq_true (by omega)
  have d2 : decide (1 ≤ ro) = true := decide_eq_true c1
  by_cases c2 : ro ≤ 5
  rotate_left
  · have d3 : decide ((ro : Int) ≤ 5) = false := decide_eq_false (by omega)
    have d4 : decide (ro ≤ 5) = false := decide_eq_false c2
    obtain rfl : r = false := by rw [hr, d4]; rfl
    clear hr c1
    go_enter Try.func42, Try.ntmps42
    go_wp2_with fail
    go_ret
    exact ⟨rfl, HC.out⟩
  rw [decide_eq_true c2, Bool.true_and] at hr
  have d3 : decide ((ro : Int) ≤ 5) = true := decide_eq_true (by omega)
  have d4 : decide (ro ≤ 5) = true := decide_eq_true c2
  clear c1 c2
  generalize inB m1 10 = b1 at H1 hr
  generalize inB m2 65535 = b2 at H2 hr
  generalize inB m3 65535 = b3 at H3 hr
  cases b1 with
  | false =>
    obtain rfl : r = false := by rw [hr]; rfl
    clear hr
    go_enter Try.func42, Try.ntmps42
    go_wp2_with fail
    refine (H1.out _).mono ?_
    rintro e w' ⟨rfl, rfl⟩
    go_wp2_with fail
    go_ret
    exact ⟨rfl, HC.out⟩
  | true =>
    rw [Bool.true_and] at hr
    cases b2 with
    | false =>
      obtain rfl : r = false := by rw [hr]; rfl
      clear hr
      go_enter Try.func42, Try.ntmps42
      go_wp2_with fail
      refine (H1.out _).mono ?_
      rintro e w' ⟨rfl, rfl⟩
      go_wp2_with fail
      refine (H2.out _).mono ?_
      rintro e w' ⟨rfl, rfl⟩
      go_wp2_with fail
      go_ret
      exact ⟨rfl, HC.out⟩
    | true =>
      rw [Bool.true_and] at hr
      cases b3 with
      | false =>
        obtain rfl : r = false := by rw [hr]; rfl
        clear hr
        go_enter Try.func42, Try.ntmps42
        go_wp2_with fail
        refine (H1.out _).mono ?_
        rintro e w' ⟨rfl, rfl⟩
        go_wp2_with fail
        refine (H2.out _).mono ?_
        rintro e w' ⟨rfl, rfl⟩
        go_wp2_with fail
        refine (H3.out _).mono ?_
        rintro e w' ⟨rfl, rfl⟩
        go_wp2_with fail
        go_ret
        exact ⟨rfl, HC.out⟩
      | true =>
        rw [Bool.true_and] at hr
        subst hr
        go_enter Try.func42, Try.ntmps42
        go_wp2_with fail
        refine (H1.out _).mono ?_
        rintro e w' ⟨rfl, rfl⟩
        go_wp2_with fail
        refine (H2.out _).mono ?_
        rintro e w' ⟨rfl, rfl⟩
        go_wp2_with fail
        refine (H3.out _).mono ?_
        rintro e w' ⟨rfl, rfl⟩
        go_wp2_with fail
        go_ret
        exact ⟨rfl, HC.out⟩
theorem splice_one {α : Type} {L : List α} {k : Nat} (h : k < L.length) (x : α) : splice L k [x] = L.set k x := by
  unfold splice
  rw [List.set_eq_take_append_cons_drop, if_pos h]
  rfl
theorem FM.mark {w : World} {a gb gm : Nat} {c : Cf} {n : Nat} {B : List Nat} {M : List Mk} (h : FM w a gb gm c n B M) {f : Nat} (hf : f < n) (m : Mk) :
    ∃ w', (storeVar 43 ⟨gm, f * 5, none⟩ (mval m)).run Try.prog w = .ok () w' ∧ FM w' a gb gm c n B (M.set f m) ∧ Chg [gm] w w' := by
  have hlm := h.lm
  obtain ⟨n1, n2, n3⟩ := h.ne
  obtain ⟨⟨cb, cm, h0, h1, h2⟩, h3, h4, h5, h6, h7⟩ := h
  obtain ⟨w', hst, hs, hc⟩ := store_e mcl_len mcl_one h2 (o := f) (xs := [m]) (by simp; omega)
  rw [splice_one (by omega)] at hs
  refine ⟨w', ?_, ⟨⟨cb, cm, h0.chg hc (by simpa using n2), h1.chg hc (fun k hk => by obtain rfl := own_one hk; simpa using n3), hs⟩, h3, h4, h5, h6, h7⟩, hc⟩
  cases hq : Try.prog.info? 43 with
  | none => have := info43s; rw [hq] at this; cases this
  | some i =>
    have hi : i.size = 5 := by have := info43s; rw [hq] at this; simpa using this
    rw [fc_one] at hst
    simp only [storeVar, mval, sizeOf, typeInfo, Sem.run_bind]
    simp [program, Sem.run, hq, hi, Value.cells]
    exact hst
end Go.Proofs.Ytblkfikcfgocgaa
