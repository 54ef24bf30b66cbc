import Derived.Test.YtbmdcfeiecmlpaaMagE
namespace Go.Proofs.Ytbmdcfeiecmlpaa
open Go Go.RowKit

/-! ## The pair as a stack -/

def PStk (w : World) (p r : Nat) (s : List Ob) (F : List Nat) : Prop :=
  ∃ a b, PMem w p r a b F ∧ s = b ++ a ∧ a.length ≤ r ∧ (b = [] ∨ b.length = r) ∧ 1 ≤ r ∧ r ≤ 32

theorem PStk.chg {w w' : World} {p r : Nat} {s : List Ob} {F G : List Nat} (h : PStk w p r s F) (hc : Chg G w w') (hd : ∀ k ∈ F, k ∉ G) : PStk w' p r s F := by
  obtain ⟨a, b, hm, r⟩ := h
  exact ⟨a, b, hm.chg hc hd, r⟩
theorem PStk.lt {w : World} {p r : Nat} {s : List Ob} {F : List Nat} (h : PStk w p r s F) : ∀ k ∈ F, k < w.heap.size := by
  obtain ⟨a, b, ⟨_, _, _, _, _, _, _, _, _, hF⟩, _⟩ := h
  exact hF
theorem PStk.mem {w : World} {p r : Nat} {s : List Ob} {F : List Nat} (h : PStk w p r s F) : p ∈ F := by
  obtain ⟨a, b, ⟨_, _, _, _, _, hp, _⟩, _⟩ := h
  exact hp
theorem PStk.cell0 {w : World} {p r : Nat} {s : List Ob} {F : List Nat} (h : PStk w p r s F) : w.cell? ⟨p, 0, none⟩ = some (.int .i64 r) := by
  obtain ⟨a, b, ⟨_, _, hb, _⟩, _⟩ := h
  have := hb.cell 0
  simpa using this
theorem PStk.len {w : World} {p r : Nat} {s : List Ob} {F : List Nat} (h : PStk w p r s F) : s.length ≤ 2 * r ∧ 1 ≤ r ∧ r ≤ 32 := by
  obtain ⟨a, b, _, rfl, h1, h2, h3, h4⟩ := h
  rw [List.length_append]
  rcases h2 with rfl | h2
  · exact ⟨by simp; omega, h3, h4⟩
  · exact ⟨by omega, h3, h4⟩

theorem stk_new (x : Int) (w : World) : Calls Try.prog 23 #[.int .i64 x] w fun e w' => e = .returned (.pointer (some ⟨w.heap.size, 0, none⟩)) ∧ PStk w' w.heap.size (clamp x) [] [w.heap.size] ∧ Chg [] w w' :=
  (new_any x w).mono fun _ _ ⟨h1, h2, h3⟩ => ⟨h1, ⟨[], [], h2, rfl, Nat.zero_le _, .inl rfl, (clamp_le x).1, (clamp_le x).2⟩, h3⟩

/-- what has come to the footprint -/
def Step (F F' : List Nat) (w : World) : Prop := ∀ k ∈ F', k ∈ F ∨ w.heap.size ≤ k

theorem stk_put {w : World} {p r : Nat} {s : List Ob} {F : List Nat} (h : PStk w p r s F) (x y : Int) (hl : s.length < 2 * r) :
    Calls Try.prog 24 #[.pointer (some ⟨p, 0, none⟩), .agg #[.int .i64 x, .int .i64 y]] w fun e w' => e = .returned (.bool true) ∧ (∃ F', PStk w' p r (s ++ [(x, y)]) F' ∧ Step F F' w) ∧ Chg F w w' := by
  obtain ⟨a, b, hm, rfl, h1, h2, h3, h4⟩ := h
  have hne : a.length < r ∨ b.length < r := by
    rcases h2 with rfl | h2
    · exact .inr (by simp; omega)
    · rw [List.length_append] at hl; exact .inl (by omega)
  refine (put_walk h3 h4 hm x y (a' := if a.length < r then a else b) (b' := if a.length < r then b else a) (by split <;> rcases h2 with rfl | h2 <;> first | (simp; omega) | omega) (fun W hW => change_full hW hne)).mono ?_
  rintro e w' ⟨he, ⟨F', hm', hF'⟩, hc⟩
  refine ⟨he, ⟨F', ⟨_, _, hm', ?_, ?_, ?_, h3, h4⟩, hF'⟩, hc⟩
  · by_cases ha : a.length < r
    · simp [ha]
    · rcases h2 with rfl | h2
      · simp [ha]
      · rw [List.length_append] at hl; omega
  · by_cases ha : a.length < r
    · simp [ha]; omega
    · rcases h2 with rfl | h2
      · simp [ha]; omega
      · rw [List.length_append] at hl; omega
  · by_cases ha : a.length < r
    · simpa [ha] using h2
    · right; simp [ha]; omega
theorem stk_put_no {w : World} {p r : Nat} {s : List Ob} {F : List Nat} (h : PStk w p r s F) (x y : Int) (hl : 2 * r ≤ s.length) :
    Calls Try.prog 24 #[.pointer (some ⟨p, 0, none⟩), .agg #[.int .i64 x, .int .i64 y]] w fun e w' => e = .returned (.bool false) ∧ PStk w' p r s F ∧ Chg F w w' := by
  obtain ⟨a, b, hm, rfl, h1, h2, h3, h4⟩ := h
  rw [List.length_append] at hl
  have ha : r ≤ a.length ∧ r ≤ b.length := by
    rcases h2 with rfl | h2
    · simp at hl; omega
    · omega
  refine (put_full h3 h4 hm x y ha.1 ha.2).mono ?_
  rintro e w' ⟨he, hm', hc⟩
  exact ⟨he, ⟨a, b, hm', rfl, h1, h2, h3, h4⟩, hc⟩

theorem stk_get {w : World} {p r : Nat} {s : List Ob} {F : List Nat} {x y : Int} (h : PStk w p r (s ++ [(x, y)]) F) :
    Calls Try.prog 25 #[.pointer (some ⟨p, 0, none⟩)] w fun e w' => e = .returned (.tuple #[.agg #[.int .i64 x, .int .i64 y], .bool true]) ∧ PStk w' p r s F ∧ Chg F w w' := by
  obtain ⟨a, b, hm, hs, h1, h2, h3, h4⟩ := h
  by_cases ha : a = []
  · subst ha
    rw [List.append_nil] at hs
    subst hs
    have hl := h2.resolve_left (by simp)
    rw [List.length_append] at hl
    simp at hl
    refine (get_walk h3 h4 hm (a' := s ++ [(x, y)]) (b' := []) s.length (by omega) (by simp) (x, y) (by simp) (fun W hW => by simpa using change_empty hW (.inr (by simp)))).mono ?_
    rintro e w' ⟨he, hm', hc⟩
    rw [List.take_left] at hm'
    exact ⟨he, ⟨_, _, hm', by simp, by omega, .inl rfl, h3, h4⟩, hc⟩
  · obtain ⟨a0, o, rfl⟩ : ∃ a0 o, a = a0 ++ [o] := ⟨a.dropLast, a.getLast ha, (List.dropLast_concat_getLast ha).symm⟩
    rw [← List.append_assoc] at hs
    obtain ⟨rfl, ho⟩ := List.append_inj' hs rfl
    obtain rfl : (x, y) = o := by simpa using ho
    rw [List.length_append] at h1
    simp at h1
    refine (get_walk h3 h4 hm (a' := a0 ++ [(x, y)]) (b' := b) a0.length (by omega) (by simp) (x, y) (by simp) (fun W hW => by simpa using change_empty hW (.inl ha))).mono ?_
    rintro e w' ⟨he, hm', hc⟩
    rw [List.take_left] at hm'
    exact ⟨he, ⟨_, _, hm', rfl, by omega, h2, h3, h4⟩, hc⟩
theorem stk_get_no {w : World} {p r : Nat} {F : List Nat} (h : PStk w p r [] F) :
    Calls Try.prog 25 #[.pointer (some ⟨p, 0, none⟩)] w fun e w' => e = .returned (.tuple #[.agg #[.int .i64 0, .int .i64 0], .bool false]) ∧ PStk w' p r [] F ∧ Chg F w w' := by
  obtain ⟨a, b, hm, hs, h1, h2, h3, h4⟩ := h
  obtain ⟨rfl, rfl⟩ := List.append_eq_nil_iff.1 hs.symm
  refine (get_none h3 h4 hm).mono ?_
  rintro e w' ⟨he, hm', hc⟩
  exact ⟨he, ⟨[], [], hm', rfl, h1, h2, h3, h4⟩, hc⟩
theorem stk_all {w : World} {p r : Nat} {s : List Ob} {F : List Nat} (h : PStk w p r s F) :
    Calls Try.prog 35 #[.pointer (some ⟨p, 0, none⟩)] w fun e w' => NewO w w' s e ∧ Chg [] w w' := by
  obtain ⟨a, b, hm, rfl, h1, h2, h3, h4⟩ := h
  exact all_at hm (by omega) (by rcases h2 with rfl | h2; simp; omega)
theorem stk_len {w : World} {p r : Nat} {s : List Ob} {F : List Nat} (h : PStk w p r s F) :
    Calls Try.prog 26 #[.pointer (some ⟨p, 0, none⟩)] w fun e w' => e = .returned (.int .i64 s.length) ∧ Chg [] w w' := by
  obtain ⟨a, b, hm, rfl, h1, h2, h3, h4⟩ := h
  exact len_at hm (by omega) (by rcases h2 with rfl | h2; simp; omega)
theorem stk_rounds {w : World} {p r : Nat} {s : List Ob} {F : List Nat} (h : PStk w p r s F) :
    Calls Try.prog 27 #[.pointer (some ⟨p, 0, none⟩)] w fun e w' => e = .returned (.int .i64 r) ∧ w = w' := rounds_at p r w h.cell0

/-! ## The known case -/

set_option maxHeartbeats 2000000 in
theorem known_any (w : World) : Calls Try.prog 22 #[] w fun e w' => e = .returned (.bool true) ∧ Chg [] w w' := by
  go_enter Try.func22, Try.ntmps22
  go_wp2_with (go_at_call 23; refine (stk_new _ _).mono ?_; rintro e w1 ⟨rfl, hs1, hc1⟩)
  go_loopw [7] (fun i wr => ∃ (k : Nat) (F : List Nat) (s : List Ob), k ≤ 4 ∧ i = .int .i64 k ∧ PStk wr w.heap.size 2 s F ∧ Step [] F w ∧ Chg [] w wr ∧ Hid (s = (List.range k).map fun j : Nat => ((j : Int), (0 : Int)))) (fun i _ => 4 - (intOf i).toNat)
  case atStart => exact ⟨0, _, [], Nat.zero_le _, rfl, hs1, fun k hk => by simp at hk; exact .inr (by omega), hc1, rfl⟩
  case round =>
    obtain ⟨k, F, s, hk, rfl, hs, hF, hc, HS⟩ := hrel
    by_cases hlt : k < 4
    · have hl : s.length < 2 * 2 := by rw [HS.out]; simpa using hlt
      go_wp2_with (go_at_call 24; refine (stk_put hs _ _ hl).mono ?_; rintro e w2 ⟨rfl, ⟨F2, hs2, hF2⟩, hc2⟩)
      go_roundw
      case rel =>
        have hz := hc.size
        refine ⟨k + 1, F2, _, by omega, by go_num, hs2, fun x hx => ?_, hc.trans hc2 (fun x hx => hF x hx), ?_⟩
        · rcases hF2 x hx with h | h
          · exact hF x h
          · exact .inr (by omega)
        · show s ++ [((k : Int), 0)] = _
          rw [HS.out, List.range_succ, List.map_append]
          rfl
      case measure => simp [intOf]; omega
    · have hk4 : k = 4 := by omega
      subst hk4
      have hs4 : s = [(0, 0), (1, 0), (2, 0)] ++ [(3, 0)] := HS.out
      subst hs4
      clear HS hlt
      go_wp2_with (first | (go_at_call 24; refine (stk_put_no hs _ _ (by simp)).mono ?_; rintro e w2 ⟨rfl, hs2, hc2⟩) | (go_at_call 25; refine (stk_get hs2).mono ?_; rintro e w3 ⟨rfl, hs3, hc3⟩) | (go_at_call 26; refine (stk_len (hs3.chg ((Chg.refl [] _).alloc _) (by simp))).mono ?_; rintro e w4 ⟨rfl, hc4⟩))
      go_ret
      refine ⟨rfl, ?_⟩
      have h1 := hc.trans hc2 (fun x hx => hF x hx)
      have h2 := h1.trans hc3 (fun x hx => hF x hx)
      exact (h2.alloc _).trans hc4 (fun x hx => by cases hx)
end Go.Proofs.Ytbmdcfeiecmlpaa
