import Derived.Test.YtbmdcfeiecmlpaaMagG
namespace Go.Proofs.Ytbmdcfeiecmlpaa
open Go Go.RowKit

/-- a call, as it is told -/
structure AOp where
  k : Int
  o : Ob
  v : Value
  l : List Ob

/-- the slice v reads as these calls -/
def ROps (w : World) (v : Value) (ops : List AOp) : Prop :=
  ∃ A c, v = .slice A ops.length c ∧ (0 < ops.length → ∃ g off, A = some ⟨g, off, none⟩ ∧ ∀ i (h : i < ops.length),
    w.cell? ⟨g, off + i * 4, none⟩ = some (.int .i64 ops[i].k) ∧ w.cell? ⟨g, off + i * 4 + 1, none⟩ = some (.int .i64 ops[i].o.1) ∧ w.cell? ⟨g, off + i * 4 + 2, none⟩ = some (.int .i64 ops[i].o.2) ∧ w.cell? ⟨g, off + i * 4 + 3, none⟩ = some ops[i].v ∧
      RO w ops[i].v ops[i].l)
theorem ROps.form {w : World} {v : Value} {ops : List AOp} (h : ROps w v ops) : ∃ A c, v = .slice A ops.length c := let ⟨A, c, e, _⟩ := h; ⟨A, c, e⟩
theorem ROps.chg {w w' : World} {v : Value} {ops : List AOp} (h : ROps w v ops) (hc : Chg [] w w') : ROps w' v ops := by
  obtain ⟨A, c, rfl, h2⟩ := h
  refine ⟨A, c, rfl, fun hp => ?_⟩
  obtain ⟨g, off, rfl, h3⟩ := h2 hp
  refine ⟨g, off, rfl, fun i hi => ?_⟩
  obtain ⟨a, b, c, d, e⟩ := h3 i hi
  exact ⟨hc.cell a (by simp), hc.cell b (by simp), hc.cell c (by simp), hc.cell d (by simp), Rd.chg e hc (fun _ _ h => by cases h)⟩
theorem ROps.addr {w : World} {A : Option Addr} {c : Nat} {ops : List AOp} (h : ROps w (.slice A ops.length c) ops) {i : Nat} (hi : i < ops.length) : ∃ g off, A = some ⟨g, off, none⟩ := by
  obtain ⟨A', c', e, h2⟩ := h
  injection e with e1 _ _
  subst e1
  obtain ⟨g, off, e, _⟩ := h2 (by omega)
  exact ⟨g, off, e⟩
theorem ROps.cells {w : World} {g off c : Nat} {ops : List AOp} (h : ROps w (.slice (some ⟨g, off, none⟩) ops.length c) ops) {i : Nat} (hi : i < ops.length) :
    w.cell? ⟨g, off + i * 4, none⟩ = some (.int .i64 ops[i].k) ∧ w.cell? ⟨g, off + i * 4 + 1, none⟩ = some (.int .i64 ops[i].o.1) ∧ w.cell? ⟨g, off + i * 4 + 2, none⟩ = some (.int .i64 ops[i].o.2) ∧ w.cell? ⟨g, off + i * 4 + 3, none⟩ = some ops[i].v ∧
      RO w ops[i].v ops[i].l ∧ g < w.heap.size := by
  obtain ⟨A', c', e, h2⟩ := h
  injection e with e1 _ _
  obtain ⟨g', off', e2, h3⟩ := h2 (by omega)
  rw [← e1] at e2
  injection e2 with e2
  injection e2 with e2 e3
  subst e2; subst e3
  obtain ⟨a, b, c, d, e⟩ := h3 i hi
  exact ⟨a, b, c, d, e, World.block_lt_of_cell? w _ a⟩

theorem stk_get_any {w : World} {p r : Nat} {s : List Ob} {F : List Nat} (h : PStk w p r s F) :
    Calls Try.prog 25 #[.pointer (some ⟨p, 0, none⟩)] w fun e w' => (∃ (x y : Int) (b : Bool), e = .returned (.tuple #[.agg #[.int .i64 x, .int .i64 y], .bool b])) ∧ PStk w' p r s.dropLast F ∧ Chg F w w' := by
  rcases List.eq_nil_or_concat s with rfl | ⟨s', ⟨x, y⟩, rfl⟩
  · refine (stk_get_no h).mono ?_
    rintro e w' ⟨he, hs, hc⟩
    exact ⟨⟨_, _, _, he⟩, hs, hc⟩
  · rw [List.concat_eq_append] at h ⊢
    refine (stk_get h).mono ?_
    rintro e w' ⟨he, hs, hc⟩
    exact ⟨⟨_, _, _, he⟩, by rw [List.dropLast_concat]; exact hs, hc⟩

theorem Step.trans {F F' G : List Nat} {w w' : World} (h : Step F F' w) (k : Step F' G w') (hz : w.heap.size ≤ w'.heap.size) : Step F G w := fun x hx => by
  rcases k x hx with h1 | h1
  · exact h x h1
  · exact .inr (by omega)

set_option maxHeartbeats 4000000 in
theorem turns_any {w : World} {v : Value} {ops : List AOp} (x n : Int) (hl : ROps w v ops) : Calls Try.prog 4 #[.int .i64 x, v, .int .i64 n] w fun e w' => e = .returned (.bool true) ∧ Chg [] w w' := by
  obtain ⟨A, c, rfl⟩ := hl.form
  by_cases hbig : 100 < ops.length
  · go_enter Try.func4, Try.ntmps4
    go_wp2_with (go_at_call 22; refine (known_any _).mono ?_; rintro e w1 ⟨rfl, hc1⟩)
    go_ret
    exact ⟨rfl, hc1⟩
  by_cases hbn : 50 < n
  · have hlen : ops.length ≤ 100 := by omega
    have hd : decide (100 < (ops.length : Int)) = false := by simp; omega
    clear hbig
    go_enter Try.func4, Try.ntmps4
    go_wp2_with (go_at_call 22; refine (known_any _).mono ?_; rintro e w1 ⟨rfl, hc1⟩)
    go_ret
    exact ⟨rfl, hc1⟩
  have hcl := clamp_le x
  obtain ⟨r, hr⟩ : ∃ r, clamp x = r := ⟨_, rfl⟩
  rw [hr] at hcl
  have hnew := stk_new x
  rw [hr] at hnew
  have HN := hide hnew
  clear hnew hr
  obtain ⟨hr1, hr2⟩ := hcl
  have hlen : ops.length ≤ 100 := by omega
  have hn50 : n ≤ 50 := by omega
  clear hbig hbn
  have hd : decide (100 < (ops.length : Int)) = false := by simp; omega
  have hd2 : decide (50 < n) = false := by simp; omega
  go_enter Try.func4, Try.ntmps4
  go_wp2_with (go_at_call 23; refine (HN.out _).mono ?_; rintro e w1 ⟨rfl, hs1, hc1⟩)
  go_loopw [25] (fun i wr => ∃ (k : Nat) (F : List Nat) (s : List Ob), k ≤ ops.length ∧ i = .int .i64 k ∧ PStk wr w.heap.size r s F ∧ Step [] F w ∧ Chg [] w wr) (fun i _ => ops.length - (intOf i).toNat)
  case atStart => exact ⟨0, _, [], Nat.zero_le _, rfl, hs1, fun k hk => by simp at hk; exact .inr (by omega), hc1⟩
  case round =>
    obtain ⟨k, F, s, hk, rfl, hs, hF, hc⟩ := hrel
    have hz := hc.size
    by_cases hlt : k < ops.length
    · obtain ⟨g, off, rfl⟩ := hl.addr hlt
      obtain ⟨q0, q1, q2, q3, q4, q5⟩ := (hl.chg hc).cells hlt
      by_cases hk0 : ops[k].k = 0
      · have e0 : (ops[k].k == 0) = true := by simpa using hk0
        clear hk0
        go_wp2_with (first | (go_at_call 24; refine (stk_put_any hs _ _ _ rfl).mono ?_; rintro e w2 ⟨rfl, ⟨F2, hs2, hF2⟩, hc2⟩))
        go_roundw
        case rel => exact ⟨k + 1, F2, _, by omega, by go_num, hs2, hF.trans hF2 hz, hc.trans hc2 hF⟩
        case measure => simp [intOf]; omega
      · have e0 : (ops[k].k == 0) = false := by simpa using hk0
        clear hk0
        go_wp2_with (first | (go_at_call 25; refine (stk_get_any hs).mono ?_; rintro e w2 ⟨⟨x', y', b', rfl⟩, hs2, hc2⟩))
        go_roundw
        case rel => exact ⟨k + 1, F, _, by omega, by go_num, hs2, hF, hc.trans hc2 hF⟩
        case measure => simp [intOf]; omega
    · have hkl : k = ops.length := by omega
      have Hk := hide hkl
      clear hkl
      rcases List.eq_nil_or_concat s with rfl | ⟨s', ⟨a, b⟩, rfl⟩
      · go_wp2_with (first | (go_at_call 25; refine (stk_get_no hs).mono ?_; rintro e w2 ⟨rfl, hs2, hc2⟩) | (go_at_call 26; refine (stk_len (hs2.chg ((Chg.refl [] _).alloc _) (by simp))).mono ?_; rintro e w3 ⟨rfl, hc3⟩) | (go_at_call 22; refine (known_any _).mono ?_; rintro e w4 ⟨rfl, hc4⟩))
        go_ret
        exact ⟨rfl, (((hc.trans hc2 hF).alloc _).trans hc3 (fun x hx => by cases hx)).trans hc4 (fun x hx => by cases hx)⟩
      · rw [List.concat_eq_append] at hs
        have hsl : s'.length < 2 * r := by have := hs.len.1; rw [List.length_append] at this; simp at this; omega
        go_wp2_with (first | (go_at_call 25; refine (stk_get hs).mono ?_; rintro e w2 ⟨rfl, hs2, hc2⟩))
        have hz2 := hc2.size
        have hF2 := hs2.lt
        go_loopw [58] (fun i w4 => ∃ (j : Nat) (G : List Nat), i = .int .i64 j ∧ (j : Int) ≤ max n 0 ∧ PStk w4 w.heap.size r s' G ∧ Step [] G w ∧ Chg [] w w4 ∧ Blk w4 w2.heap.size 28 #[.int .i64 a, .int .i64 b] ∧ w2.heap.size ∉ G) (fun i _ => (n - intOf i).toNat)
        case atStart =>
          exact ⟨0, F, rfl, by omega, hs2.chg ((Chg.refl [] _).alloc _) (by simp), hF, (hc.trans hc2 hF).alloc _, Blk.new _ _ _, fun h => by have := hF2 _ h; omega⟩
        case round =>
          obtain ⟨j, G, rfl, hj, hs3, hG, hc3, hb3, hn3⟩ := hrel
          have hz3 := hc3.size
          have x0 := hb3.cell 0
          have x1 := hb3.cell 1
          simp at x0 x1
          by_cases hjn : (j : Int) < n
          · have hbp : w2.heap.size ≠ w.heap.size := fun e => hn3 (e ▸ hs3.mem)
            go_wp2_with (first | (go_at_call 24; refine (stk_put hs3 _ _ hsl).mono ?_; rintro e w5 ⟨rfl, ⟨G5, hs5, hG5⟩, hc5⟩) | (go_at_call 25; refine (stk_get hs5).mono ?_; rintro e w6 ⟨rfl, hs6, hc6⟩; have hn5 : w2.heap.size ∉ G5 := (fun h => (hG5 _ h).elim hn3 (fun h => by have := hb3.lt; omega)); have hb6 := (hb3.chg hc5 hn3).chg hc6 hn5; have y0 := hb6.cell 0; have y1 := hb6.cell 1; have y2 := hb6.lt; simp at y0 y1))
            go_roundw
            case rel =>
              have hF5 := hG.trans hG5 hz3
              refine ⟨j + 1, G5, by go_num, by omega, hs6.chg ((Chg.refl [] _).alloc _) (by simp), hF5, (((hc3.trans hc5 hG).trans hc6 hF5)).alloc _, hb6.alloc _, hn5⟩
            case measure => simp [intOf]; omega
          · go_wp2_with (go_at_call 22; refine (known_any _).mono ?_; rintro e w4 ⟨rfl, hc4⟩)
            go_ret
            exact ⟨rfl, hc3.trans hc4 (fun x hx => by cases hx)⟩
end Go.Proofs.Ytbmdcfeiecmlpaa
