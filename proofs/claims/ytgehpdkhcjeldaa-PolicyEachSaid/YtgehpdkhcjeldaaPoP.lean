/- Policies: the order of a policy, plain. -/
import Derived.Test.YtgehpdkhcjeldaaPoH
namespace Go.Proofs.Ytgehpdkhcjeldaa
open Go Go.RowKit

/-- the order -/
def PolL (c : Cf) (kind m node page : Nat) (l : List Nat) : Prop :=
  (kind = 0 ∧ IsOrd c node (c 0).toNat l) ∨ (kind = 1 ∧ IsOrd c (low8 m) (c 0).toNat l) ∨ (kind = 2 ∧ ∃ L, IsOrd c node (c 0).toNat L ∧ l = L.filter fun k => hasZ m (k : Nat)) ∨
  (kind = 3 ∧ ∃ L, IsOrd c node (c 0).toNat L ∧ l = rotL (inL m 8) page ++ L.filter fun k => !hasZ m (k : Nat))
theorem PolL.unique {c : Cf} {kind m node page : Nat} {l k : List Nat} (h : PolL c kind m node page l) (h' : PolL c kind m node page k) : l = k := by
  rcases h with ⟨rfl, h⟩ | ⟨rfl, h⟩ | ⟨rfl, L, h, rfl⟩ | ⟨rfl, L, h, rfl⟩
  · rcases h' with ⟨_, h'⟩ | ⟨e, _⟩ | ⟨e, _⟩ | ⟨e, _⟩ <;> first | (cases e; done) | exact h.unique h'
  · rcases h' with ⟨e, _⟩ | ⟨_, h'⟩ | ⟨e, _⟩ | ⟨e, _⟩ <;> first | (cases e; done) | exact h.unique h'
  · rcases h' with ⟨e, _⟩ | ⟨e, _⟩ | ⟨_, L', h', rfl⟩ | ⟨e, _⟩ <;> first | (cases e; done) | rw [h.unique h']
  · rcases h' with ⟨e, _⟩ | ⟨e, _⟩ | ⟨e, _⟩ | ⟨_, L', h', rfl⟩ <;> first | (cases e; done) | rw [h.unique h']
set_option maxRecDepth 100000 in
theorem low8_all : ∀ m : Fin 256, ones m.1 ≠ 0 → low8 m.1 < len8 m.1 := by decide +kernel
set_option maxRecDepth 100000 in
theorem inL_ones : ∀ m : Fin 256, (inL m.1 8).length = ones m.1 := by decide +kernel
set_option maxRecDepth 100000 in
theorem inL_low : ∀ m : Fin 256, ones m.1 ≠ 0 → (inL m.1 8)[0]? = some (low8 m.1) := by decide +kernel
set_option maxRecDepth 100000 in
theorem inL_len : ∀ m : Fin 256, ∀ n : Fin 9, len8 m.1 ≤ n.1 → inL m.1 n.1 = inL m.1 8 := by decide +kernel
theorem inL_ones' {m : Nat} (h : m < 256) : (inL m 8).length = ones m := inL_ones ⟨m, h⟩
theorem inL_low' {m : Nat} (h : m < 256) (h0 : ones m ≠ 0) : (inL m 8)[0]? = some (low8 m) := inL_low ⟨m, h⟩ h0
theorem low8_lt {m : Nat} (h : m < 256) (h0 : ones m ≠ 0) : low8 m < len8 m := low8_all ⟨m, h⟩ h0
theorem inL_to {m n : Nat} (h : m < 256) (hn : n ≤ 8) (hl : len8 m ≤ n) : inL m n = inL m 8 := inL_len ⟨m, h⟩ ⟨n, by omega⟩ hl
theorem rotL_length (l : List Nat) (p : Nat) : (rotL l p).length = l.length := by
  unfold rotL
  rw [List.length_append, List.length_drop, List.length_take]
  rcases Nat.eq_zero_or_pos l.length with h | h
  · rw [h]; simp
  · have := Nat.mod_lt p h; omega
theorem rotL_get {l : List Nat} {p k : Nat} (hk : k < l.length) : (rotL l p)[k]? = l[(p % l.length + k) % l.length]? := by
  unfold rotL
  have ha := Nat.mod_lt p (show 0 < l.length by omega)
  generalize p % l.length = a at ha
  by_cases h : k < l.length - a
  · rw [List.getElem?_append_left (by rw [List.length_drop]; exact h), List.getElem?_drop, Nat.mod_eq_of_lt (by omega)]
  · rw [List.getElem?_append_right (by rw [List.length_drop]; omega), List.length_drop, List.getElem?_take_of_lt (by omega)]
    congr 1
    rw [Nat.mod_eq_sub_mod (by omega), Nat.mod_eq_of_lt (by omega)]
    omega
end Go.Proofs.Ytgehpdkhcjeldaa
