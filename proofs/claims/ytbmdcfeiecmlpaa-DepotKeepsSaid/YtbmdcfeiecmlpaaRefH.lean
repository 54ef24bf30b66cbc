import Derived.Test.YtbmdcfeiecmlpaaRefG
namespace Go.Proofs.Ytbmdcfeiecmlpaa
open Go Go.RowKit

/-- a slice of n objects that may be written over -/
def Wk (w : World) (g off n : Nat) : Prop := (∀ i, w.frozen? ⟨g, i, none⟩ = false) ∧ ∀ k, k < n → (∃ x : Int, w.cell? ⟨g, off + k * 2, none⟩ = some (.int .i64 x)) ∧ ∃ y : Int, w.cell? ⟨g, off + k * 2 + 1, none⟩ = some (.int .i64 y)
theorem Wk.set {w : World} {g off n i : Nat} (h : Wk w g off n) (z : Int) : Wk (w.setCell ⟨g, i, none⟩ (.int .i64 z)) g off n := by
  have key : ∀ j, (∃ x : Int, w.cell? ⟨g, j, none⟩ = some (.int .i64 x)) → ∃ x : Int, (w.setCell ⟨g, i, none⟩ (.int .i64 z)).cell? ⟨g, j, none⟩ = some (.int .i64 x) := fun j ⟨x, hx⟩ => by
    by_cases e : i = j
    · subst e; exact ⟨z, World.cell?_setCell_same _ _ _ hx⟩
    · exact ⟨x, by rw [World.cell?_setCell_other _ _ _ _ (fun h => e (by injection h))]; exact hx⟩
  exact ⟨fun j => by rw [World.frozen?_setCell]; exact h.1 j, fun k hk => ⟨key _ (h.2 k hk).1, key _ (h.2 k hk).2⟩⟩
theorem SO.wk {w : World} {V : Value} {l : List Ob} (h : SO w V l) : ∃ A c, V = .slice A l.length c ∧ (0 < l.length → ∃ g off, A = some ⟨g, off, none⟩ ∧ Wk w g off l.length) := by
  have h' := h
  obtain ⟨_, ⟨rfl, h0⟩ | ⟨g, off, cap, cur, rfl, hb, _⟩⟩ := h
  · exact ⟨none, 0, by rw [h0], fun hp => by omega⟩
  · refine ⟨_, _, rfl, fun _ => ⟨g, off, rfl, fun i => hb.frozen i, fun k hk => ?_⟩⟩
    obtain ⟨g', off', c', e, _, h1, h2⟩ := h'.ro.at_ hk
    injection e with e1 _ _
    injection e1 with e1
    injection e1 with e1 e2
    subst e1; subst e2
    exact ⟨⟨_, h1⟩, ⟨_, h2⟩⟩

/-- no block is of both -/
def Dis (F G : List Nat) : Prop := ∀ k ∈ F, k ∉ G
theorem Dis.symm {F G : List Nat} (h : Dis F G) : Dis G F := fun k hk hf => h k hf hk
theorem Dis.step {F G F' : List Nat} {w : World} (h : Dis F G) (hs : Step F F' w) (hG : ∀ k ∈ G, k < w.heap.size) : Dis F' G := fun k hk hg => (hs k hk).elim (fun hf => h k hf hg) (fun hb => by have := hG k hg; omega)
end Go.Proofs.Ytbmdcfeiecmlpaa
