import Derived.Test.YtbmdcfeiecmlpaaMagF
namespace Go.Proofs.Ytbmdcfeiecmlpaa
open Go Go.RowKit

theorem stk_put_any {w : World} {p r : Nat} {s : List Ob} {F : List Nat} (h : PStk w p r s F) (x y : Int) (b : Bool) (hb : b = decide (s.length < 2 * r)) :
    Calls Try.prog 24 #[.pointer (some ⟨p, 0, none⟩), .agg #[.int .i64 x, .int .i64 y]] w fun e w' => e = .returned (.bool b) ∧ (∃ F', PStk w' p r (if b = true then s ++ [(x, y)] else s) F' ∧ Step F F' w) ∧ Chg F w w' := by
  by_cases hl : s.length < 2 * r
  · obtain rfl : b = true := by rw [hb]; simpa using hl
    simpa using stk_put h x y hl
  · obtain rfl : b = false := by rw [hb]; simpa using hl
    refine (stk_put_no h x y (by omega)).mono ?_
    rintro e w' ⟨he, hs, hc⟩
    exact ⟨he, ⟨F, by simpa using hs, fun k hk => .inl hk⟩, hc⟩

theorem RO.cells {w : World} {g off c : Nat} {l : List Ob} (h : RO w (.slice (some ⟨g, off, none⟩) l.length c) l) {k : Nat} (hk : k < l.length) :
    w.cell? ⟨g, off + k * 2, none⟩ = some (.int .i64 l[k].1) ∧ w.cell? ⟨g, off + k * 2 + 1, none⟩ = some (.int .i64 l[k].2) ∧ g < w.heap.size := by
  obtain ⟨g', off', c', e, _, h1, h2⟩ := h.at_ hk
  injection e with e1 _ _
  injection e1 with e1
  injection e1 with e1 e2
  subst e1; subst e2
  exact ⟨h1, h2, World.block_lt_of_cell? w _ h1⟩

set_option maxHeartbeats 4000000 in
theorem last_any {w : World} {v : Value} {l : List Ob} (x : Int) (hl : RO w v l) : Calls Try.prog 5 #[.int .i64 x, v] w fun e w' => e = .returned (.bool true) ∧ Chg [] w w' := by
  obtain ⟨A, c, rfl⟩ := hl.form
  by_cases hbig : 80 < l.length
  · go_enter Try.func5, Try.ntmps5
    go_wp2_with (go_at_call 22; refine (known_any _).mono ?_; rintro e w1 ⟨rfl, hc1⟩)
    go_ret
    exact ⟨rfl, hc1⟩
  · have hcl := clamp_le x
    obtain ⟨r, hr⟩ : ∃ r, clamp x = r := ⟨_, rfl⟩
    rw [hr] at hcl
    have hnew := stk_new x
    rw [hr] at hnew
    have HN := hide hnew
    clear hnew hr
    obtain ⟨hr1, hr2⟩ := hcl
    have hlen : l.length ≤ 80 := by omega
    clear hbig
    go_enter Try.func5, Try.ntmps5
    go_wp2_with (go_at_call 23; refine (HN.out _).mono ?_; rintro e w1 ⟨rfl, hs1, hc1⟩)
    go_loopw [6, 22] (fun n i wr => ∃ (k : Nat) (F : List Nat) (s : List Ob), k ≤ l.length ∧ i = .int .i64 k ∧ n = .int .i64 s.length ∧ PStk wr w.heap.size r s F ∧ Step [] F w ∧ Chg [] w wr ∧ Hid (s = l.take (min k (2 * r)))) (fun _ i _ => l.length - (intOf i).toNat)
    case atStart => exact ⟨0, _, [], Nat.zero_le _, rfl, rfl, hs1, fun k hk => by simp at hk; exact .inr (by omega), hc1, by show [] = _; simp⟩
    case round =>
      obtain ⟨k, F, s, hk, rfl, rfl, hs, hF, hc, HS⟩ := hrel
      have hsl : s.length = min k (2 * r) := by rw [HS.out, List.length_take]; omega
      have hz := hc.size
      by_cases hlt : k < l.length
      · have hroW : RO wr _ l := Rd.chg hl hc (fun _ _ h => by cases h)
        obtain ⟨g, off, c', e, hcc, q1, q2⟩ := hroW.at_ hlt
        injection e with e1 _ e2
        subst e1; subst e2
        obtain ⟨b, hb⟩ : ∃ b : Bool, b = decide (s.length < 2 * r) := ⟨_, rfl⟩
        have hbk : decide ((k : Int) < 2 * (r : Int)) = b := by rw [hb]; simp only [decide_eq_decide]; omega
        have hbb : (b != b) = false := by simp
        have hsb : s.length ≤ 64 := by omega
        have Hb := hide hb
        have Hsl := hide hsl
        clear hb hsl
        go_wp2_with (first | (go_at_call 24; refine (stk_put_any hs _ _ b Hb.out).mono ?_; rintro e w2 ⟨rfl, ⟨F2, hs2, hF2⟩, hc2⟩) | (go_at_call 27; refine (stk_rounds hs2).mono ?_; rintro e w3 ⟨rfl, rfl⟩))
        · rename_i hbt
          subst hbt
          have hl2 : s.length < 2 * r := by have := Hb.out; simpa using this.symm
          have hkk : k < 2 * r := by have := Hsl.out; omega
          simp only [if_true] at hs2
          go_roundw
          case rel =>
            refine ⟨k + 1, F2, _, by omega, by go_num, by rw [List.length_append]; simp, hs2, fun y hy => ?_, hc.trans hc2 hF, ?_⟩
            · rcases hF2 y hy with h | h
              · exact hF y h
              · exact .inr (by omega)
            · show s ++ [l[k]] = _
              rw [HS.out, Nat.min_eq_left (by omega), Nat.min_eq_left (by omega), List.take_succ_eq_append_getElem hlt]
          case measure => simp [intOf]; omega
        · rename_i hbt
          subst hbt
          have hl2 : ¬ s.length < 2 * r := by have := Hb.out; simpa using this.symm
          have hkk : ¬ k < 2 * r := by have := Hsl.out; omega
          simp only [Bool.false_eq_true, if_false] at hs2
          go_roundw
          case rel =>
            refine ⟨k + 1, F2, _, by omega, by go_num, rfl, hs2, fun y hy => ?_, hc.trans hc2 hF, ?_⟩
            · rcases hF2 y hy with h | h
              · exact hF y h
              · exact .inr (by omega)
            · show s = _
              rw [HS.out, Nat.min_eq_right (by omega), Nat.min_eq_right (by omega)]
          case measure => simp [intOf]; omega
      · have hkl : k = l.length := by omega
        obtain ⟨m, hm, hml⟩ : ∃ m, s = l.take m ∧ m = s.length := ⟨min k (2 * r), HS.out, hsl.symm⟩
        have hm2 : m ≤ l.length := by omega
        have Hm := hide hm
        have hs64 : s.length ≤ 80 := by omega
        rw [← hml]
        rw [← hml] at hs64
        clear hm hml hkl hsl
        go_wp2_with fail
        have hs' : PStk wr w.heap.size r (l.take m) F := by rw [← Hm.out]; exact hs
        go_loopw [9] (fun i wr => ∃ (k : Nat) (F : List Nat), k ≤ m ∧ i = .int .i64 ((k : Int) - 1) ∧ PStk wr w.heap.size r (l.take k) F ∧ Step [] F w ∧ Chg [] w wr) (fun i _ => (intOf i + 1).toNat)
        case atStart => exact ⟨m, F, Nat.le_refl _, rfl, hs', hF, hc⟩
        case round =>
          obtain ⟨k, F, hk, rfl, hs, hF, hc⟩ := hrel
          have hz := hc.size
          rcases Nat.eq_zero_or_pos k with h0 | h0
          · subst h0
            rw [List.take_zero] at hs
            go_wp2_with (go_at_call 25; refine (stk_get_no hs).mono ?_; rintro e w2 ⟨rfl, hs2, hc2⟩)
            refine (known_any _).mono ?_
            rintro e w3 ⟨rfl, hc3⟩
            go_wp2_with fail
            go_ret
            exact ⟨rfl, ((hc.trans hc2 hF).alloc _).trans hc3 (fun x hx => by cases hx)⟩
          · obtain ⟨q, rfl⟩ : ∃ q, k = q + 1 := ⟨k - 1, by omega⟩
            have hq : q < l.length := by omega
            obtain ⟨g, off, c', e, hcc, _⟩ := hl.at_ hq
            injection e with e1 _ e2
            subst e1; subst e2
            rw [List.take_succ_eq_append_getElem hq] at hs
            have hcast : ((q + 1 : Nat) : Int) - 1 = (q : Int) := by omega
            rw [hcast]
            clear hcast
            go_wp2_with (first | (go_at_call 25; refine (stk_get hs).mono ?_; rintro e w2 ⟨rfl, hs2, hc2⟩; obtain ⟨q1, q2, q3⟩ := RO.cells (Rd.chg hl (hc.trans hc2 hF) (fun _ _ h => by cases h)) hq))
            refine wp_region_by (by kernel_rfl) (by kernel_rfl) ?_
            go_wp2_with (first | fail | (refine wpT_calc0 rfl rfl (fun K hK => ?_)) | (refine wpT_skipG rfl ?_ ?_; focus (simp [yielded]; done); go_simp) | (refine wpT_calcG rfl rfl ?_ (fun K hK => ?_); focus (simp [yielded]; done)) | (refine wpT_pure (fun K hK => ?_); go_simp; refine hK _ _ ?_; clear hK K) | (refine wpT_plain (by decide) rfl (fun K hK => ?_)) | (refine wpT_deed (by decide) (fun K hK => ?_); go_simp) | (refine wpT_nil ?_))
            go_roundw
            case rel =>
              refine ⟨q, F, by omega, by go_num, hs2.chg ((Chg.refl [] _).alloc _).drew (by simp), fun y hy => hF y hy, ((hc.trans hc2 hF).alloc _).drew⟩
            case measure => simp [intOf]
end Go.Proofs.Ytbmdcfeiecmlpaa
