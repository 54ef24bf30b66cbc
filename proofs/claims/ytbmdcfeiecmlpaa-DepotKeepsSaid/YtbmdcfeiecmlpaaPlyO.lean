import Derived.Test.YtbmdcfeiecmlpaaPlyA
import Derived.Test.YtbmdcfeiecmlpaaDepA
namespace Go.Proofs.Ytbmdcfeiecmlpaa
open Go Go.RowKit

/-- one cell of a slice of the call's own is stored to -/
theorem Sl.setc {w : World} {e : TypeId} {size n : Nat} {g off c : Nat} {cs : List Value} (h : Sl w e size (.slice (some ⟨g, off, none⟩) n c) n cs) {j : Nat} (hj : j < n * size) (u : Value) :
    Sl (w.setCell ⟨g, off + j, none⟩ u) e size (.slice (some ⟨g, off, none⟩) n c) n (cs.set j u) := by
  obtain ⟨hl, ⟨e1, e2⟩ | ⟨g', off', cap, cur, e1, hb, hnc, hcm, hs, ht⟩⟩ := h
  · cases e1
  · injection e1 with e1 _ e3
    injection e1 with e1
    injection e1 with e1 e2
    subst e1; subst e2; subst e3
    refine ⟨by simp [hl], .inr ⟨g, off, c, _, rfl, hb.set_ (off + j) u, hnc, hcm, by simpa using hs, ?_⟩⟩
    have hmul : n * size ≤ c * size := Nat.mul_le_mul_right _ hnc
    rw [← ht]
    refine List.ext_getElem? fun i => ?_
    simp only [Array.toList_setIfInBounds, List.getElem?_take, List.getElem?_drop, List.getElem?_set, List.length_take, List.length_drop, Array.length_toList]
    have hcl : cur.toList.length = cur.size := by simp
    by_cases hi : i < n * size
    · rw [if_pos hi]
      by_cases hij : j = i
      · subst hij
        rw [if_pos rfl, if_pos rfl, if_pos (by omega), if_pos (by omega)]
      · rw [if_neg (by omega), if_neg hij, if_pos hi]
    · rw [if_neg hi]
      by_cases hij : j = i
      · omega
      · rw [if_neg hij, if_neg hi]
theorem oc_set0 (l : List Ob) (k : Nat) (hk : k < l.length) (x : Int) : oc (l.set k (x, l[k].2)) = (oc l).set (k * 2) (.int .i64 x) := by
  induction l generalizing k with
  | nil => simp at hk
  | cons o l ih =>
    cases k with
    | zero => simp [oc_cons]
    | succ k => rw [List.set_cons_succ, oc_cons, oc_cons, show (k + 1) * 2 = k * 2 + 1 + 1 by omega, List.set_cons_succ, List.set_cons_succ]; simp only [List.getElem_cons_succ]; rw [ih k (by simpa using hk)]
theorem oc_set1 (l : List Ob) (k : Nat) (hk : k < l.length) (y : Int) : oc (l.set k (l[k].1, y)) = (oc l).set (k * 2 + 1) (.int .i64 y) := by
  induction l generalizing k with
  | nil => simp at hk
  | cons o l ih =>
    cases k with
    | zero => simp [oc_cons]
    | succ k => rw [List.set_cons_succ, oc_cons, oc_cons, show (k + 1) * 2 + 1 = k * 2 + 1 + 1 + 1 by omega, List.set_cons_succ, List.set_cons_succ]; simp only [List.getElem_cons_succ]; rw [ih k (by simpa using hk)]
theorem SO.set0 {w : World} {g off c n : Nat} {l : List Ob} (h : SO w (.slice (some ⟨g, off, none⟩) n c) l) {k : Nat} (hk : k < l.length) (x : Int) : SO (w.setCell ⟨g, off + k * 2, none⟩ (.int .i64 x)) (.slice (some ⟨g, off, none⟩) n c) (l.set k (x, l[k].2)) := by
  obtain ⟨A, c', e⟩ := h.form
  injection e with _ e2 _
  subst e2
  unfold SO at h ⊢
  rw [List.length_set, oc_set0 l k hk]
  exact h.setc (by omega) _
theorem SO.set1 {w : World} {g off c n : Nat} {l : List Ob} (h : SO w (.slice (some ⟨g, off, none⟩) n c) l) {k : Nat} (hk : k < l.length) (y : Int) : SO (w.setCell ⟨g, off + k * 2 + 1, none⟩ (.int .i64 y)) (.slice (some ⟨g, off, none⟩) n c) (l.set k (l[k].1, y)) := by
  obtain ⟨A, c', e⟩ := h.form
  injection e with _ e2 _
  subst e2
  unfold SO at h ⊢
  rw [List.length_set, oc_set1 l k hk, Nat.add_assoc]
  exact h.setc (by omega) _
theorem RO.cellsN {w : World} {g off n c : Nat} {l : List Ob} (h : RO w (.slice (some ⟨g, off, none⟩) n c) l) {k : Nat} (hk : k < l.length) : w.cell? ⟨g, off + k * 2, none⟩ = some (.int .i64 l[k].1) ∧ w.cell? ⟨g, off + k * 2 + 1, none⟩ = some (.int .i64 l[k].2) := by
  obtain ⟨g', off', c', e, _, x0, x1⟩ := RO.at_ h hk
  injection e with e _ _
  injection e with e
  injection e with e1 e2
  subst e1; subst e2
  exact ⟨x0, x1⟩
/-- the slice has memory where it has elements -/
theorem SO.addr {w : World} {A : Option Addr} {n c : Nat} {l : List Ob} (h : SO w (.slice A n c) l) (hn : 0 < n) : ∃ g off, A = some ⟨g, off, none⟩ := by
  obtain ⟨_, ⟨e1, e2⟩ | ⟨g', off', cap, cur, e1, hb, hnc, hcm, hs, ht⟩⟩ := h
  · injection e1 with _ e1 _; omega
  · injection e1 with e1 _ _; exact ⟨_, _, e1⟩
theorem SO.frozen {w : World} {g off n c : Nat} {l : List Ob} (h : SO w (.slice (some ⟨g, off, none⟩) n c) l) (i : Nat) : w.frozen? ⟨g, i, none⟩ = false := by
  obtain ⟨cur, hb⟩ := Sl.blk h (k := g) (by simp [own, Value.ownBlock])
  exact hb.frozen i
theorem load_ob2 {w : World} {g off : Nat} {x y : Int} (c0 : w.cell? ⟨g, off, none⟩ = some (.int .i64 x)) (c1 : w.cell? ⟨g, off + 1, none⟩ = some (.int .i64 y)) : (loadVar 28 ⟨g, off, none⟩).run Try.prog w = .ok (.agg #[.int .i64 x, .int .i64 y]) w := by
  obtain ⟨i28, hi, hz, hi1, hi2⟩ := info_parts info28
  simp [loadVar, isAgg, run_underlying Try.underlying28, sizeOf, typeInfo, hi, hi1, loadCells, loadCellsFrom, load, Sem.run, Addr.add, c0, c1]
end Go.Proofs.Ytbmdcfeiecmlpaa
