/- The depot's tally, plain: of each number how often it is there. -/
import Derived.Test.YtbmdcfeiecmlpaaKepB
namespace Go.Proofs.Ytbmdcfeiecmlpaa
open Go Go.RowKit

def tal (n : Nat) (L : List Int) : List Int := (List.range n).map fun v : Nat => ((L.count (v : Int) : Nat) : Int)
theorem tal_length (n : Nat) (L : List Int) : (tal n L).length = n := by simp [tal]
theorem tal_get (n : Nat) (L : List Int) (m : Nat) (h : m < (tal n L).length) : (tal n L)[m] = ((L.count (m : Int) : Nat) : Int) := by simp [tal]
theorem tal_perm {n : Nat} {L M : List Int} (h : L.Perm M) : tal n L = tal n M := by
  unfold tal
  exact List.map_congr_left fun v _ => by rw [h.count_eq]
theorem tal_one {n m : Nat} {L : List Int} (hd : ((m : Int) :: L).Nodup) (h : m < (tal n ((m : Int) :: L)).length) : (tal n ((m : Int) :: L))[m] = 1 := by
  rw [tal_get, List.count_cons_self, List.count_eq_zero.2 (List.nodup_cons.1 hd).1]
  rfl
theorem tal_off {n m : Nat} {L : List Int} (hd : ((m : Int) :: L).Nodup) : (tal n ((m : Int) :: L)).set m 0 = tal n L := by
  refine List.ext_getElem (by simp [tal_length]) fun i h1 h2 => ?_
  rw [List.getElem_set, tal_get, tal_get]
  by_cases e : m = i
  · subst e
    rw [if_pos rfl, List.count_eq_zero.2 (List.nodup_cons.1 hd).1]
    rfl
  · rw [if_neg e, List.count_cons_of_ne (by omega)]
theorem tal_on {n m : Nat} {L : List Int} (hd : (m : Int) ∉ L) : (tal n L).set m 1 = tal n ((m : Int) :: L) := by
  refine List.ext_getElem (by simp [tal_length]) fun i h1 h2 => ?_
  rw [List.getElem_set, tal_get, tal_get]
  by_cases e : m = i
  · subst e
    rw [if_pos rfl, List.count_cons_self, List.count_eq_zero.2 hd]
    rfl
  · rw [if_neg e, List.count_cons_of_ne (by omega)]
theorem tal_push0 {n : Nat} {L : List Int} (h : ∀ x ∈ L, x < (n : Int)) : tal n L ++ [0] = tal (n + 1) L := by
  have : L.count (n : Int) = 0 := List.count_eq_zero.2 fun hm => by have := h _ hm; omega
  simp [tal, List.range_succ, this]
theorem tal_push1 {n : Nat} {L : List Int} (h : ∀ x ∈ L, x < (n : Int)) : tal n L ++ [1] = tal (n + 1) (L ++ [(n : Int)]) := by
  have h0 : L.count (n : Int) = 0 := List.count_eq_zero.2 fun hm => by have := h _ hm; omega
  unfold tal
  rw [List.range_succ, List.map_append]
  congr 1
  · refine List.map_congr_left fun v hv => ?_
    have : v < n := by simpa using hv
    rw [List.count_append, List.count_eq_zero (l := [(n : Int)]).2 (by simp; omega)]
    rfl
  · simp [List.count_append, h0]
end Go.Proofs.Ytbmdcfeiecmlpaa
