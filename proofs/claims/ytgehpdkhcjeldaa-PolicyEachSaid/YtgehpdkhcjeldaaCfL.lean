/- The law's known config. -/
import Derived.Test.YtgehpdkhcjeldaaCfK
namespace Go.Proofs.Ytgehpdkhcjeldaa
open Go Go.RowKit

theorem wpList_load26W {ops : Array Oper} {rest : List Oper} {o : Oper} {a : Act} {w : World} {Q : Exit → Act → World → Prop} {b : Nat} {c : Cf} (x : Operand) (ho : o.op = .load 26 x)
    (hx : a.eval x = .pointer (some ⟨b, 0, none⟩)) (hw : Region.wanted o (yielded ops a.tmps) = true) (h0 : CB w b c) (h : wpList Try.prog ops Q rest (a.put o.dst (.agg (cg c))) w) : wpList Try.prog ops Q (o :: rest) a w :=
  wpList_step fun K hK => by
    rw [if_pos hw]
    exact wp_load_row 26 x ho b hx 26 (cg c) (0, 0) _ h0 Try.underlying26 rfl info26' (hK _ _ h)
theorem two_may : MayP twoC where
  n1 := by decide
  n8 := by decide
  p1 := by decide
  p16 := by decide
  s0 := by decide
  s1 := by decide
  home := by decide
  home0 := by decide
  fr := by decide
  fr0 := by decide
  ds0 := fun i k hi hk => (by decide : ∀ i : Nat, i < 8 → ∀ k : Nat, k < 8 → twoC 0 ≤ (i : Int) ∨ twoC 0 ≤ (k : Int) ∨ i = k → twoC (26 + i * 8 + k) = 0) i hi k hk
  ds1 := fun i k hi hk => fun h1 h2 h3 => (by decide : ∀ i : Nat, i < 8 → ∀ k : Nat, k < 8 → ((i : Int) < twoC 0 ∧ (k : Int) < twoC 0 ∧ ¬ i = k) → (1 ≤ twoC (26 + i * 8 + k) ∧ twoC (26 + i * 8 + k) ≤ 255 ∧ twoC (26 + i * 8 + k) = twoC (26 + k * 8 + i))) i hi k hk ⟨h1, h2, h3⟩
  mi := by decide
  lo := by decide
  hi := by decide
theorem NodeP.two {i e : Int} (h : NodeP twoC 4 i e) : i = 1 ∧ e = 0 := by
  rcases h with ⟨h, _⟩ | ⟨_, ⟨rfl, k, rfl, hk, h1, h2⟩ | ⟨rfl, rfl, h⟩⟩
  · rw [mayB_true two_may] at h; cases h
  · have hk2 : k < 2 := by have : twoC 0 = 2 := by decide
                           omega
    rcases (by omega : k = 0 ∨ k = 1) with rfl | rfl
    · exact absurd h2 (by decide)
    · exact ⟨rfl, rfl⟩
  · rcases h with h | h
    · omega
    · exact absurd h (by decide)
set_option maxHeartbeats 1000000 in
theorem known_any (w : World) : Calls Try.prog 15 #[] w fun e w' => e = .returned (.bool true) ∧ Chg [] w w' := by
  have HT := hide two_any
  have H1 := hide (fun W => First_any twoC 1 W)
  have H2 := hide (fun W => Node_any twoC 4 (by omega) W)
  have H3 := hide (fun W => Order_any twoC 1 W)
  have H4 := hide (fun W => May_any twoC W)
  have H5 := hide (fun W => Total_any twoC W)
  have e1 : firstN twoC 1 = 4 := by
    unfold firstN
    rw [if_pos ⟨mayB_true two_may, by decide, by decide⟩]
    decide
  have e2 : firstE twoC 1 = 0 := by
    unfold firstE
    rw [if_neg (by rw [mayB_true two_may]; simp), if_pos ⟨by decide, by decide⟩]
  have e3 : totV twoC = 12 := by
    unfold totV
    rw [if_pos (mayB_true two_may)]
    decide
  rw [e1, e2] at H1
  rw [mayB_true two_may] at H4
  rw [e3] at H5
  have HN := hide (fun i e (h : NodeP twoC 4 i e) => h.two)
  have HO := hide (show ∀ W W' e, OrdR W twoC 1 e W' → ∃ g off cap, e = .returned (.tuple #[.slice (some ⟨g, off, none⟩) 2 cap, .int .i64 0]) ∧ W'.cell? ⟨g, off, none⟩ = some (.int .i64 1) ∧ Chg [] W W' from fun W W' e ⟨A, n, cap, x, l, he, hx, hs, _, h0, _, hc⟩ => by
    have hx0 : x = 0 := hx.trans e2
    subst hx0
    have hl := h0 rfl
    have hlen : l.length = 2 := hl.length
    obtain ⟨A', c', e'⟩ := hs.form
    injection e' with _ e3 _
    obtain ⟨g, off, rfl⟩ := SE.addr hs (by omega)
    have hh := IsOrd.head two_may (node := 1) (by decide) hl (by omega)
    have hcell := SI.cell hs.re (k := 0) (by omega)
    rw [hh] at hcell
    exact ⟨g, off, cap, by rw [he, e3, hlen], hcell, hc⟩)
  clear e1 e2 e3
  obtain ⟨D, hD⟩ : ∃ D, D = twoC := ⟨_, rfl⟩
  rw [← hD] at HT H1 H2 H3 H4 H5 HN HO
  clear hD
  go_enter Try.func15, Try.ntmps15
  go_wp2_with fail
  refine (HT.out _).mono ?_
  rintro e W1 ⟨rfl, hc1⟩
  have HB1 := hide (Blk.new W1 26 (cg (fun _ => 0)))
  go_wp2_with (first | (refine wpList_alloc26 rfl rfl ?_) | (refine wpList_store26L (b := W1.heap.size) (c := fun _ => 0) rfl _ _ rfl rfl rfl ?_ ?_; (focus exact HB1.out); intro W2 h2 hc2; have HB2 := hide h2; clear h2) | (refine wpList_load26L (b := W1.heap.size) (c := D) rfl _ rfl rfl ?_ ?_; (focus exact HB2.out)))
  have hc02 : Chg [] w W2 := (hc1.alloc _).trans hc2 (fun x hx => .inr (by obtain rfl := List.mem_singleton.1 hx; exact hc1.size))
  generalize W1.heap.size = b at HB2 ⊢
  clear hc1 hc2 HT
  refine (H1.out _).mono ?_
  rintro e W3 ⟨rfl, hc3⟩
  have HB3 := hide (HB2.out.chg hc3 List.not_mem_nil)
  have hc03 := hc02.stay hc3
  clear HB2 hc02 hc3 H1
  go_wp2_with (first | (refine wpList_load26L (b := b) (c := D) rfl _ rfl rfl ?_ ?_; (focus exact HB3.out)))
  refine (H2.out _).mono ?_
  rintro e W4 ⟨i4, x4, rfl, hn4, hc4⟩
  obtain ⟨rfl, rfl⟩ := HN.out _ _ hn4
  have HB4 := hide (HB3.out.chg hc4 List.not_mem_nil)
  have hc04 := hc03.stay hc4
  clear HB3 hc03 hc4 H2 hn4
  go_wp2_with (first | (refine wpList_load26L (b := b) (c := D) rfl _ rfl rfl ?_ ?_; (focus exact HB4.out)))
  refine (H3.out _).mono ?_
  rintro e W5 hO
  obtain ⟨g, off, cap, rfl, hcell, hc5⟩ := HO.out _ _ _ hO
  have HB5 := hide (HB4.out.chg hc5 List.not_mem_nil)
  have hc05 := hc04.stay hc5
  have HL := hide hcell
  clear HB4 hc04 hc5 H3 hO hcell
  go_wp2_with (first | (refine wpList_load26L (b := b) (c := D) rfl _ rfl rfl ?_ ?_; (focus exact HB5.out)))
  refine (H4.out _).mono ?_
  rintro e W6 ⟨rfl, hc6⟩
  have HB6 := hide (HB5.out.chg hc6 List.not_mem_nil)
  have hc06 := hc05.stay hc6
  have HL6 := hide (hc6.cell HL.out List.not_mem_nil)
  clear HB5 hc05 hc6 H4 HL
  go_wp2_with (first | (refine wpList_load26W (b := b) (c := D) _ rfl rfl ?_ ?_ ?_; (focus (simp [Region.wanted, yielded]; done)); (focus exact HB6.out)))
  refine (H5.out _).mono ?_
  rintro e W7 ⟨rfl, hc7⟩
  have hc07 := hc06.stay hc7
  have hl7 := hc7.cell HL6.out List.not_mem_nil
  clear HB6 hc06 hc7 H5 HL6
  go_wp2_with fail
  go_ret
  exact ⟨rfl, hc07⟩
end Go.Proofs.Ytgehpdkhcjeldaa
