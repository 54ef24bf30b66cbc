/- Policies, plain: what is in an order, and how it is sorted. -/
import Derived.Test.YtgehpdkhcjeldaaPoP
import Derived.Test.YtgehpdkhcjeldaaPoB
namespace Go.Proofs.Ytgehpdkhcjeldaa
open Go Go.RowKit

theorem inL_mem {m n x : Nat} : x ∈ inL m n ↔ x < n ∧ hasZ m (x : Nat) = true := by
  unfold inL
  rw [List.mem_filter, List.mem_range]
theorem inL_nodup (m n : Nat) : (inL m n).Nodup := List.Pairwise.filter _ List.nodup_range
theorem rotL_perm (l : List Nat) (p : Nat) : (rotL l p).Perm l := by
  unfold rotL
  refine List.perm_append_comm.trans ?_
  rw [List.take_append_drop]
theorem hasZ_len {m n : Nat} (hm : m < 256) (hn : n ≤ 8) (hl : len8 m ≤ n) {x : Nat} (h : hasZ m (x : Nat) = true) : x < n := by
  have h8 : x < 8 := by
    unfold hasZ at h
    simp only [decide_eq_true_eq] at h
    omega
  exact (len8_iff hm hn).1 hl x h8 h
theorem allowZ_iff {kind m x : Nat} : allowZ kind m (x : Nat) = true ↔ x < 8 ∧ (kind ≠ 2 ∨ hasZ m (x : Nat) = true) := by
  unfold allowZ
  simp only [decide_eq_true_eq]
  constructor
  · rintro ⟨_, h, k⟩; exact ⟨by omega, k⟩
  · rintro ⟨h, k⟩; exact ⟨by omega, by omega, k⟩
/-- by whom it is sorted -/
def fromN (kind m node : Nat) : Nat := if kind = 1 then low8 m else node
def skipZ (kind m x : Nat) : Bool := kind == 3 && hasZ m (x : Nat)
theorem near_le {c : Cf} {f a b : Nat} (h : Near c f a b) : ds c f a ≤ ds c f b := by
  unfold Near at h
  unfold ds
  omega
structure PolF (c : Cf) (kind m node n : Nat) (l : List Nat) : Prop where
  nd : l.Nodup
  mem : ∀ x, x ∈ l ↔ x < n ∧ allowZ kind m (x : Nat) = true
  so : (l.filter fun x => !skipZ kind m x).Pairwise fun a b => ds c (fromN kind m node) a ≤ ds c (fromN kind m node) b
theorem PolL.facts {c : Cf} {kind m node page n : Nat} {l : List Nat} (hm : m < 256) (hn : c 0 = n) (hn8 : n ≤ 8) (hl : len8 m ≤ n) (h : PolL c kind m node page l) : PolF c kind m node n l := by
  have hN : (c 0).toNat = n := by omega
  unfold PolL at h
  rw [hN] at h
  rcases h with ⟨rfl, h⟩ | ⟨rfl, h⟩ | ⟨rfl, L, h, rfl⟩ | ⟨rfl, L, h, rfl⟩
  · refine ⟨h.nodup, fun x => ?_, ?_⟩
    · rw [h.mem, allowZ_iff]
      exact ⟨fun h => ⟨h, by omega, .inl (by decide)⟩, fun h => h.1⟩
    · exact List.Pairwise.filter _ (h.2.imp near_le)
  · refine ⟨h.nodup, fun x => ?_, ?_⟩
    · rw [h.mem, allowZ_iff]
      exact ⟨fun h => ⟨h, by omega, .inl (by decide)⟩, fun h => h.1⟩
    · exact List.Pairwise.filter _ (h.2.imp near_le)
  · refine ⟨List.Pairwise.filter _ h.nodup, fun x => ?_, ?_⟩
    · rw [List.mem_filter, h.mem, allowZ_iff]
      constructor
      · rintro ⟨a, b⟩; exact ⟨a, by omega, .inr b⟩
      · rintro ⟨a, _, b⟩; exact ⟨a, b.resolve_left (by simp)⟩
    · exact List.Pairwise.filter _ (List.Pairwise.filter _ (h.2.imp near_le))
  · have hp := rotL_perm (inL m 8) page
    have hin : ∀ x, x ∈ rotL (inL m 8) page ↔ x < n ∧ hasZ m (x : Nat) = true := fun x => by
      rw [hp.mem_iff, inL_mem]
      exact ⟨fun h => ⟨hasZ_len hm hn8 hl h.2, h.2⟩, fun h => ⟨by omega, h.2⟩⟩
    refine ⟨?_, fun x => ?_, ?_⟩
    · rw [List.nodup_append]
      refine ⟨hp.nodup_iff.2 (inL_nodup m 8), List.Pairwise.filter _ h.nodup, fun a ha b hb e => ?_⟩
      subst e
      have h1 := ((hin a).1 ha).2
      have h2 := (List.mem_filter.1 hb).2
      rw [h1] at h2
      cases h2
    · rw [List.mem_append, hin, List.mem_filter, h.mem, allowZ_iff]
      constructor
      · rintro (⟨a, _⟩ | ⟨a, _⟩)
        · exact ⟨a, by omega, .inl (by decide)⟩
        · exact ⟨a, by omega, .inl (by decide)⟩
      · rintro ⟨a, _⟩
        cases hz : hasZ m (x : Nat) with
        | true => exact .inl ⟨a, rfl⟩
        | false => exact .inr ⟨a, rfl⟩
    · rw [List.filter_append]
      have e : (rotL (inL m 8) page).filter (fun x => !skipZ 3 m x) = [] := List.filter_eq_nil_iff.2 fun x hx => by
        have := ((hin x).1 hx).2
        simp [skipZ, this]
      rw [e, List.nil_append]
      exact List.Pairwise.filter _ (List.Pairwise.filter _ (h.2.imp near_le))
set_option maxRecDepth 100000 in
theorem low8_has : ∀ m : Fin 256, ones m.1 ≠ 0 → hasZ m.1 (low8 m.1 : Nat) = true := by decide +kernel
theorem PolF.pos {c : Cf} {kind m node n : Nat} {l : List Nat} (hm : m < 256) (hn1 : 1 ≤ n) (hn8 : n ≤ 8) (hl : len8 m ≤ n) (hk : kind = 2 → 0 < ones m) (h : PolF c kind m node n l) : 0 < l.length := by
  by_cases k2 : kind = 2
  · have h1 : hasZ m (low8 m : Nat) = true := low8_has ⟨m, hm⟩ (by have := hk k2; simp; omega)
    have h2 := hasZ_len hm hn8 hl h1
    exact List.length_pos_of_mem ((h.mem (low8 m)).2 ⟨h2, allowZ_iff.2 ⟨by omega, .inr h1⟩⟩)
  · exact List.length_pos_of_mem ((h.mem 0).2 ⟨by omega, allowZ_iff.2 ⟨by omega, .inl k2⟩⟩)
theorem PolL.head1 {c : Cf} (hM : MayP c) {m node page : Nat} {l : List Nat} (hlo : (low8 m : Int) < c 0) (h : PolL c 1 m node page l) (h0 : 0 < l.length) : l[0] = low8 m := by
  rcases h with ⟨e, _⟩ | ⟨_, h⟩ | ⟨e, _⟩ | ⟨e, _⟩ <;> first | (cases e; done) | exact IsOrd.head hM hlo h h0
theorem PolL.head3 {c : Cf} {m node page : Nat} {l : List Nat} (h : PolL c 3 m node page l) (hi : 0 < (inL m 8).length) : l[0]? = (rotL (inL m 8) page)[0]? := by
  rcases h with ⟨e, _⟩ | ⟨e, _⟩ | ⟨e, _⟩ | ⟨_, L, h, rfl⟩ <;> first | (cases e; done) | exact List.getElem?_append_left (by rw [rotL_length]; exact hi)
theorem PolF.len {c : Cf} {kind m node n : Nat} {l : List Nat} (h : PolF c kind m node n l) : l.length ≤ n := nodup_le h.nd (fun x hx => ((h.mem x).1 hx).1)
end Go.Proofs.Ytgehpdkhcjeldaa
