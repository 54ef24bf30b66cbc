import Derived.Test.YtbmdcfeiecmlpaaRefE
namespace Go.Proofs.Ytbmdcfeiecmlpaa
open Go Go.RowKit

/-- what Load answers -/
def loadE (r : Nat) (s l : List Ob) : Int := if l = [] ∨ r < l.length then 2 else if s ≠ [] then 80 else 0
theorem rstk_load {w : World} {p r : Nat} {s : List Ob} {F : List Nat} (h : RStk w p r s F) {v : Value} {l : List Ob} (hl : RO w v l) :
    Calls Try.prog 32 #[.pointer (some ⟨p, 0, none⟩), v] w fun e w' => e = .returned (.int .i64 (loadE r s l)) ∧ (∃ F', RStk w' p r (if loadE r s l = 0 then l else s) F' ∧ Step F F' w) ∧ Chg F w w' := by
  obtain ⟨a, b, hm, rfl, h1, h2, h3, h4⟩ := h
  by_cases c1 : l = [] ∨ r < l.length
  · have e0 : loadE r (b ++ a) l = 2 := by unfold loadE; rw [if_pos c1]
    rw [e0]
    refine (rload_arg hm hl c1).mono ?_
    rintro e w' ⟨rfl, rfl⟩
    exact ⟨rfl, ⟨F, ⟨a, b, hm, rfl, h1, h2, h3, h4⟩, fun k hk => .inl hk⟩, Chg.refl _ _⟩
  · have c2 : l ≠ [] := fun e => c1 (.inl e)
    have c3 : l.length ≤ r := Nat.le_of_not_lt fun e => c1 (.inr e)
    by_cases c4 : b ++ a = []
    · have e0 : loadE r (b ++ a) l = 0 := by unfold loadE; rw [if_neg c1, if_neg (by simpa using c4)]
      rw [e0]
      obtain ⟨rfl, rfl⟩ := List.append_eq_nil_iff.1 c4
      refine (rload_walk h4 hm hl c2 c3).mono ?_
      rintro e w' ⟨rfl, ⟨F', hm', hF'⟩, hc⟩
      exact ⟨rfl, ⟨F', ⟨l, [], hm', by simp, c3, .inl rfl, h3, h4⟩, hF'⟩, hc⟩
    · have e0 : loadE r (b ++ a) l = 80 := by unfold loadE; rw [if_neg c1, if_pos c4]
      rw [e0]
      refine (rload_busy h4 hm hl (by omega) (by rcases h2 with rfl | h2 <;> first | (simp; done) | omega) c2 c3 c4).mono ?_
      rintro e w' ⟨rfl, hc⟩
      exact ⟨rfl, ⟨F, ⟨a, b, hm.chg hc (by simp), by simp, h1, h2, h3, h4⟩, fun k hk => .inl hk⟩, hc.mono (fun _ h => by cases h)⟩
theorem stk_load {w : World} {p r : Nat} {s : List Ob} {F : List Nat} (h : PStk w p r s F) {v : Value} {l : List Ob} (hl : RO w v l) (hlen : l.length ≤ 1000) :
    Calls Try.prog 31 #[.pointer (some ⟨p, 0, none⟩), v] w fun e w' => e = .returned (.int .i64 (loadE r s l)) ∧ (∃ F', PStk w' p r (if loadE r s l = 0 then l else s) F' ∧ Step F F' w) ∧ Chg F w w' := by
  obtain ⟨a, b, hm, rfl, h1, h2, h3, h4⟩ := h
  by_cases c1 : l = [] ∨ r < l.length
  · have e0 : loadE r (b ++ a) l = 2 := by unfold loadE; rw [if_pos c1]
    rw [e0]
    refine (load_arg h3 h4 hm hl hlen c1).mono ?_
    rintro e w' ⟨rfl, rfl⟩
    exact ⟨rfl, ⟨F, ⟨a, b, hm, rfl, h1, h2, h3, h4⟩, fun k hk => .inl hk⟩, Chg.refl _ _⟩
  · have c2 : l ≠ [] := fun e => c1 (.inl e)
    have c3 : l.length ≤ r := Nat.le_of_not_lt fun e => c1 (.inr e)
    by_cases c4 : b ++ a = []
    · have e0 : loadE r (b ++ a) l = 0 := by unfold loadE; rw [if_neg c1, if_neg (by simpa using c4)]
      rw [e0]
      obtain ⟨rfl, rfl⟩ := List.append_eq_nil_iff.1 c4
      refine (load_walk h3 h4 hm hl hlen (by simp) (by simp) c2 c3 rfl).mono ?_
      rintro e w' ⟨rfl, ⟨F', hm', hF'⟩, hc⟩
      exact ⟨rfl, ⟨F', ⟨l, [], hm', by simp, c3, .inl rfl, h3, h4⟩, hF'⟩, hc⟩
    · have e0 : loadE r (b ++ a) l = 80 := by unfold loadE; rw [if_neg c1, if_pos c4]
      rw [e0]
      refine (load_busy h3 h4 hm hl hlen (by omega) (by rcases h2 with rfl | h2 <;> first | (simp; done) | omega) c2 c3 c4).mono ?_
      rintro e w' ⟨rfl, hc⟩
      exact ⟨rfl, ⟨F, ⟨a, b, hm.chg hc (by simp), by simp, h1, h2, h3, h4⟩, fun k hk => .inl hk⟩, hc.mono (fun _ h => by cases h)⟩
end Go.Proofs.Ytbmdcfeiecmlpaa
