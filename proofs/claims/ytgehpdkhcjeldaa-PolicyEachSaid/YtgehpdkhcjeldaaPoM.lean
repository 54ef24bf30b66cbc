/- Policies: what is known. -/
import Derived.Test.YtgehpdkhcjeldaaPoI
import Derived.Test.YtgehpdkhcjeldaaPoJ
import Derived.Test.YtgehpdkhcjeldaaPoK
namespace Go.Proofs.Ytgehpdkhcjeldaa
open Go Go.RowKit

instance (c : Cf) (n a b : Nat) : Decidable (Near c n a b) := by unfold Near; infer_instance
theorem ord_three1 : IsOrd threeC 1 3 [1, 0, 2] := ⟨by decide, by decide⟩
theorem ord_three2 : IsOrd threeC 2 3 [2, 0, 1] := ⟨by decide, by decide⟩
theorem three_n : (threeC 0).toNat = 3 := by decide
theorem polB_three {kind : Nat} (h : kind = 2 ∨ kind = 3) : polB threeC kind 5 = true := by
  unfold polB
  rw [mayB_true three_may]
  rcases h with rfl | rfl <;> decide
theorem polE_three {kind : Nat} (h : kind = 2 ∨ kind = 3) {node page : Nat} (hn : (node : Int) < threeC 0) : polE threeC kind 5 node page = 0 := by
  unfold polE
  rw [if_neg (by rw [polB_three h]; simp)]
  exact (three_may.first hn).2
theorem alike18_eq {w : World} {v u : Value} {l : List Nat} (hl : RI w v l) (hk : RI w u l) (h1 : l.length ≤ 1000) : Calls Try.prog 27 #[v, u] w fun e w' => e = .returned (.bool true) ∧ Chg [] w w' := by
  refine (alike18_any hl hk h1 h1).mono ?_
  rintro e w' ⟨rfl, h⟩
  exact ⟨by simp, h⟩
set_option maxRecDepth 20000 in
set_option maxHeartbeats 2000000 in
theorem known18_any (w : World) : Calls Try.prog 26 #[] w fun e w' => e = .returned (.bool true) ∧ Chg [] w w' := by
  have HT := hide three_any
  have H1 := hide (show ∀ W, Calls Try.prog 23 #[.agg (cg threeC), .agg #[.int .u8 3, .int .u8 5], .int .i64 1, .int .i64 5] W fun e w' => ∃ A cap, e = .returned (.tuple #[.slice A 3 cap, .int .i64 0]) ∧ SI w' (.slice A 3 cap) [2, 0, 1] ∧ Chg [] W w' from fun W =>
    (pOrder_any threeC (kind := 3) (m := 5) (by omega) (by omega) 1 5 (by omega) W).mono fun e w' ⟨A, n, cap, x, l, he, hx, hs, _, hl, _, hc⟩ => by
      have hx0 : x = 0 := hx.trans (polE_three (.inr rfl) (node := 1) (page := 5) (by decide))
      subst hx0
      have h2 := PolL.unique (hl rfl) (.inr (.inr (.inr ⟨rfl, [1, 0, 2], by rw [three_n]; exact ord_three1, rfl⟩)))
      have h3 : l = [2, 0, 1] := h2.trans (by decide)
      subst h3
      obtain ⟨A', c', e'⟩ := hs.form
      injection e' with _ e3 _
      subst e3
      exact ⟨A, cap, he, hs, hc⟩)
  have H2 := hide (show ∀ W, Calls Try.prog 23 #[.agg (cg threeC), .agg #[.int .u8 2, .int .u8 5], .int .i64 2, .int .i64 0] W fun e w' => ∃ A cap, e = .returned (.tuple #[.slice A 2 cap, .int .i64 0]) ∧ SI w' (.slice A 2 cap) [2, 0] ∧ Chg [] W w' from fun W =>
    (pOrder_any threeC (kind := 2) (m := 5) (by omega) (by omega) 2 0 (by omega) W).mono fun e w' ⟨A, n, cap, x, l, he, hx, hs, _, hl, _, hc⟩ => by
      have hx0 : x = 0 := hx.trans (polE_three (.inl rfl) (node := 2) (page := 0) (by decide))
      subst hx0
      have h2 := PolL.unique (hl rfl) (.inr (.inr (.inl ⟨rfl, [2, 0, 1], by rw [three_n]; exact ord_three2, rfl⟩)))
      have h3 : l = [2, 0] := h2.trans (by decide)
      subst h3
      obtain ⟨A', c', e'⟩ := hs.form
      injection e' with _ e3 _
      subst e3
      exact ⟨A, cap, he, hs, hc⟩)
  have H3 := hide (show ∀ W, Calls Try.prog 24 #[.agg #[.int .u8 2, .int .u8 5], .int .i64 1] W fun e w' => e = .returned (.bool false) ∧ Chg [] W w' from fun W =>
    (allowed_any (kind := 2) (m := 5) (by omega) 1 W).mono fun e w' ⟨he, hc⟩ => ⟨he, hc⟩)
  obtain ⟨D, hD⟩ : ∃ D, D = threeC := ⟨_, rfl⟩
  rw [← hD] at HT H1 H2
  clear hD
  go_enter Try.func26, Try.ntmps26
  go_wp2_with fail
  refine (HT.out _).mono ?_
  rintro e W1 ⟨rfl, hc1⟩
  go_wp2_with fail
  refine (H1.out _).mono ?_
  rintro e W2 ⟨A2, cap2, rfl, hs2, hc2⟩
  have HC2 := hide (hc1.stay hc2)
  have HS2 := hide hs2
  clear hc1 hc2 hs2
  go_wp2_with fail
  refine (HT.out _).mono ?_
  rintro e W3 ⟨rfl, hc3⟩
  have HC3 := hide (HC2.out.stay hc3)
  have HS3 := hide (HS2.out.stay hc3)
  clear hc3 HC2 HS2
  go_wp2_with fail
  refine (H2.out _).mono ?_
  rintro e W4 ⟨A4, cap4, rfl, hs4, hc4⟩
  have HC4 := hide (HC3.out.stay hc4)
  have HS4 := hide (HS3.out.stay hc4)
  have HT4 := hide hs4
  clear hc4 HC3 HS3 hs4
  go_wp2_with fail
  refine (alike18_eq (l := [2, 0, 1]) ((HS4.out.stay ((Chg.refl [] W4).alloc _)).re) (Rd_new W4 3 1 3 (fc ic [2, 0, 1]) rfl) (by simp)).mono ?_
  rintro e W5 ⟨rfl, hc5⟩
  have HC5 := hide ((HC4.out.alloc (.cells #[.int .i64 2, .int .i64 0, .int .i64 1] 3)).stay hc5)
  have HT5 := hide ((HT4.out.stay ((Chg.refl [] W4).alloc (.cells #[.int .i64 2, .int .i64 0, .int .i64 1] 3))).stay hc5)
  clear hc5 HC4 HT4 HS4
  go_wp2_with fail
  refine (alike18_eq (l := [2, 0]) ((HT5.out.stay ((Chg.refl [] W5).alloc _)).re) (Rd_new W5 3 1 2 (fc ic [2, 0]) rfl) (by simp)).mono ?_
  rintro e W6 ⟨rfl, hc6⟩
  have HC6 := hide ((HC5.out.alloc (.cells #[.int .i64 2, .int .i64 0] 3)).stay hc6)
  clear hc6 HC5 HT5
  go_wp2_with fail
  refine (H3.out _).mono ?_
  rintro e W7 ⟨rfl, hc7⟩
  have HC7 := hide (HC6.out.stay hc7)
  clear hc7 HC6
  go_wp2_with fail
  go_ret
  exact ⟨rfl, HC7.out⟩
end Go.Proofs.Ytgehpdkhcjeldaa
