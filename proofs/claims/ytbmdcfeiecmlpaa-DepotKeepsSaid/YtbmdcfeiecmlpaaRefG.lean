import Derived.Test.YtbmdcfeiecmlpaaRefF
namespace Go.Proofs.Ytbmdcfeiecmlpaa
open Go Go.RowKit

theorem rstk_unload {w : World} {p r : Nat} {s : List Ob} {F : List Nat} (h : RStk w p r s F) (hf : s.length = 2 * r) :
    Calls Try.prog 34 #[.pointer (some ⟨p, 0, none⟩)] w fun e w' => (∃ A c, e = .returned (.tuple #[.slice A r c, .int .i64 0]) ∧ SO w' (.slice A r c) (s.take r) ∧ (∀ k, (Value.slice A r c).ownBlock = some k → k ∈ F ∧ k ≠ p) ∧
      RStk w' p r (s.drop r) (F.filter fun k => (Value.slice A r c).ownBlock != some k)) ∧ Chg F w w' := by
  obtain ⟨a, b, hm, rfl, h1, h2, h3, h4⟩ := h
  rw [List.length_append] at hf
  have hb : b.length = r := by
    rcases h2 with rfl | h2
    · rw [List.length_nil] at hf; omega
    · exact h2
  refine (runload_full h4 hm (by omega) (by omega) (by omega)).mono ?_
  rintro e w' ⟨⟨A, c, rfl, hs, ho, hm'⟩, hc⟩
  rw [hb] at hs ho hm'
  refine ⟨⟨A, c, by rw [hb], ?_, ho, ⟨a, [], hm', ?_, h1, .inl rfl, h3, h4⟩⟩, hc⟩
  · rw [List.take_left' hb]; exact hs
  · rw [List.drop_left' hb]; rfl
theorem stk_unload {w : World} {p r : Nat} {s : List Ob} {F : List Nat} (h : PStk w p r s F) (hf : s.length = 2 * r) :
    Calls Try.prog 33 #[.pointer (some ⟨p, 0, none⟩)] w fun e w' => (∃ A c, e = .returned (.tuple #[.slice A r c, .int .i64 0]) ∧ SO w' (.slice A r c) (s.take r) ∧ (∀ k, (Value.slice A r c).ownBlock = some k → k ∈ F ∧ k ≠ p) ∧
      PStk w' p r (s.drop r) (F.filter fun k => (Value.slice A r c).ownBlock != some k)) ∧ Chg F w w' := by
  obtain ⟨a, b, hm, rfl, h1, h2, h3, h4⟩ := h
  rw [List.length_append] at hf
  have hb : b.length = r := by
    rcases h2 with rfl | h2
    · rw [List.length_nil] at hf; omega
    · exact h2
  refine (unload_full h3 h4 hm (by omega) (by omega)).mono ?_
  rintro e w' ⟨⟨A, c, rfl, hs, ho, hm'⟩, hc⟩
  rw [hb] at hs ho hm'
  refine ⟨⟨A, c, by rw [hb], ?_, ho, ⟨a, [], hm', ?_, h1, .inl rfl, h3, h4⟩⟩, hc⟩
  · rw [List.take_left' hb]; exact hs
  · rw [List.drop_left' hb]; rfl
theorem rstk_unload_no {w : World} {p r : Nat} {s : List Ob} {F : List Nat} (h : RStk w p r s F) (hf : s.length < 2 * r) :
    Calls Try.prog 34 #[.pointer (some ⟨p, 0, none⟩)] w fun e w' => e = .returned (.tuple #[.slice none 0 0, .int .i64 80]) ∧ Chg [] w w' := by
  obtain ⟨a, b, hm, rfl, h1, h2, h3, h4⟩ := h
  rw [List.length_append] at hf
  exact runload_busy h4 hm (by omega)
theorem stk_unload_no {w : World} {p r : Nat} {s : List Ob} {F : List Nat} (h : PStk w p r s F) (hf : s.length < 2 * r) :
    Calls Try.prog 33 #[.pointer (some ⟨p, 0, none⟩)] w fun e w' => e = .returned (.tuple #[.slice none 0 0, .int .i64 80]) ∧ w = w' := by
  obtain ⟨a, b, hm, rfl, h1, h2, h3, h4⟩ := h
  rw [List.length_append] at hf
  exact unload_busy h3 h4 hm (by omega)
end Go.Proofs.Ytbmdcfeiecmlpaa
