/- Configs, plain: when one may be; sums of frames; the order of the nodes. -/
namespace Go.Proofs.YtinlpjgjjplceaaDoor

/-- a config: its cells as numbers: 0 nodes, 1 CPUs, 2 to 17 homes, 18 to 25 frames, 26 to 89 distances, 90 slots, 91 to 93 min, low, high -/
abbrev Cf := Nat → Int
structure MayP (c : Cf) : Prop where
  n1 : 1 ≤ c 0
  n8 : c 0 ≤ 8
  p1 : 1 ≤ c 1
  p16 : c 1 ≤ 16
  s0 : 0 ≤ c 90
  s1 : c 90 ≤ 1024
  home : ∀ i : Nat, i < 16 → (i : Int) < c 1 → 0 ≤ c (2 + i) ∧ c (2 + i) < c 0
  home0 : ∀ i : Nat, i < 16 → c 1 ≤ (i : Int) → c (2 + i) = 0
  fr : ∀ i : Nat, i < 8 → (i : Int) < c 0 → 4 ≤ c (18 + i) ∧ c (18 + i) ≤ 128 ∧ c 93 ≤ c (18 + i)
  fr0 : ∀ i : Nat, i < 8 → c 0 ≤ (i : Int) → c (18 + i) = 0
  ds0 : ∀ i k : Nat, i < 8 → k < 8 → c 0 ≤ (i : Int) ∨ c 0 ≤ (k : Int) ∨ i = k → c (26 + i * 8 + k) = 0
  ds1 : ∀ i k : Nat, i < 8 → k < 8 → (i : Int) < c 0 → (k : Int) < c 0 → i ≠ k → 1 ≤ c (26 + i * 8 + k) ∧ c (26 + i * 8 + k) ≤ 255 ∧ c (26 + i * 8 + k) = c (26 + k * 8 + i)
  mi : 0 ≤ c 91
  lo : c 91 ≤ c 92
  hi : c 92 ≤ c 93

open Classical in
noncomputable def mayB (c : Cf) : Bool := decide (MayP c)
theorem mayB_true {c : Cf} (h : MayP c) : mayB c = true := by simp [mayB, h]
theorem mayB_false {c : Cf} (h : ¬ MayP c) : mayB c = false := by simp [mayB, h]
theorem mayB_iff {c : Cf} : mayB c = true ↔ MayP c := by simp [mayB]

/-- how many frames the first k nodes have -/
def sumF (c : Cf) : Nat → Int
  | 0 => 0
  | k + 1 => sumF c k + c (18 + k)
theorem sumF_zero (c : Cf) : sumF c 0 = 0 := rfl
theorem sumF_succ (c : Cf) (k : Nat) : sumF c (k + 1) = sumF c k + c (18 + k) := rfl
theorem MayP.fr_le {c : Cf} (h : MayP c) (i : Nat) (hi : i < 8) : 0 ≤ c (18 + i) ∧ c (18 + i) ≤ 128 := by
  by_cases hc : (i : Int) < c 0
  · have := h.fr i hi hc; omega
  · have := h.fr0 i hi (by omega); omega
theorem MayP.sum_le {c : Cf} (h : MayP c) : ∀ k : Nat, k ≤ 8 → 0 ≤ sumF c k ∧ sumF c k ≤ 128 * k
  | 0, _ => by simp [sumF]
  | k + 1, hk => by
    have h1 := h.sum_le k (by omega)
    have h2 := h.fr_le k (by omega)
    rw [sumF_succ]
    omega
theorem MayP.sum_tail {c : Cf} (h : MayP c) : ∀ k : Nat, k ≤ 8 → c 0 ≤ (k : Int) → sumF c k = sumF c (c 0).toNat
  | 0, _, hk => by have := h.n1; omega
  | k + 1, h8, hk => by
    by_cases e : c 0 ≤ (k : Int)
    · rw [sumF_succ, h.fr0 k (by omega) e, h.sum_tail k (by omega) e]; omega
    · have : (c 0).toNat = k + 1 := by omega
      rw [this]
theorem MayP.sum_mono {c : Cf} (h : MayP c) {i : Nat} : ∀ k : Nat, i ≤ k → k ≤ 8 → sumF c i ≤ sumF c k
  | 0, hi, _ => by obtain rfl : i = 0 := by omega
                   exact Int.le_refl _
  | k + 1, hi, hk => by
    by_cases e : i = k + 1
    · subst e; exact Int.le_refl _
    · have := h.sum_mono (i := i) k (by omega) (by omega)
      have := h.fr_le k (by omega)
      rw [sumF_succ]; omega

/-- is 'a' told ahead of 'b'? -/
def Near (c : Cf) (node : Nat) (a b : Nat) : Prop := c (26 + node * 8 + a) < c (26 + node * 8 + b) ∨ c (26 + node * 8 + a) = c (26 + node * 8 + b) ∧ a < b
theorem Near.trans {c : Cf} {node a b d : Nat} (h : Near c node a b) (k : Near c node b d) : Near c node a d := by unfold Near at *; omega
theorem Near.irr {c : Cf} {node a : Nat} : ¬ Near c node a a := by unfold Near; omega
theorem Near.asym {c : Cf} {node a b : Nat} (h : Near c node a b) : ¬ Near c node b a := by unfold Near at *; omega
theorem Near.tri {c : Cf} {node a b : Nat} (h : a ≠ b) : Near c node a b ∨ Near c node b a := by unfold Near; omega
/-- an order of the first n nodes -/
def IsOrd (c : Cf) (node n : Nat) (l : List Nat) : Prop := l.Perm (List.range n) ∧ l.Pairwise (Near c node)
theorem IsOrd.length {c : Cf} {node n : Nat} {l : List Nat} (h : IsOrd c node n l) : l.length = n := by simpa using h.1.length_eq
theorem IsOrd.mem {c : Cf} {node n : Nat} {l : List Nat} (h : IsOrd c node n l) {x : Nat} : x ∈ l ↔ x < n := by rw [h.1.mem_iff]; simp
theorem IsOrd.nodup {c : Cf} {node n : Nat} {l : List Nat} (h : IsOrd c node n l) : l.Nodup := h.1.nodup_iff.2 List.nodup_range
theorem IsOrd.unique {c : Cf} {node n : Nat} {l m : List Nat} (h : IsOrd c node n l) (k : IsOrd c node n m) : l = m :=
  List.Perm.eq_of_pairwise (le := Near c node) (fun _ _ _ _ h1 h2 => absurd h2 h1.asym) h.2 k.2 (h.1.trans k.1.symm)
theorem IsOrd.le {c : Cf} {node n : Nat} {l : List Nat} (h : IsOrd c node n l) {i j : Nat} (hj : j < l.length) (hij : i < j) : Near c node l[i] l[j] := List.pairwise_iff_getElem.1 h.2 i j (by omega) hj hij
/-- the own node is the first one -/
theorem IsOrd.head {c : Cf} (hc : MayP c) {node : Nat} {l : List Nat} (hn : (node : Int) < c 0) (h : IsOrd c node (c 0).toNat l) (h0 : 0 < l.length) : l[0] = node := by
  have h8 := hc.n8
  have hm : node ∈ l := h.mem.2 (by omega)
  obtain ⟨j, hj, e⟩ := List.getElem_of_mem hm
  rcases Nat.eq_zero_or_pos j with h1 | h1
  · subst h1; exact e
  · exfalso
    have h2 := h.le hj h1
    rw [e] at h2
    have h3 : l[0] < (c 0).toNat := h.mem.1 (List.getElem_mem h0)
    have e0 : c (26 + node * 8 + node) = 0 := hc.ds0 node node (by omega) (by omega) (.inr (.inr rfl))
    by_cases h4 : node = l[0]
    · rw [← h4] at h2; exact h2.irr
    · have h5 := hc.ds1 node l[0] (by omega) (by omega) hn (by omega) h4
      unfold Near at h2
      omega
/-- one more, put where it belongs -/
theorem ord_ins {c : Cf} {node n : Nat} {P S : List Nat} (h : IsOrd c node n (P ++ S)) (hS : ∀ s ∈ S, c (26 + node * 8 + n) < c (26 + node * 8 + s)) (hP : ∀ p ∈ P, c (26 + node * 8 + p) ≤ c (26 + node * 8 + n)) :
    IsOrd c node (n + 1) (P ++ n :: S) := by
  have hlt : ∀ p ∈ P, p < n := fun p hp => h.mem.1 (List.mem_append_left _ hp)
  refine ⟨?_, ?_⟩
  · rw [List.range_succ]
    exact (List.perm_middle).trans ((List.Perm.cons n h.1).trans (List.perm_append_singleton n _).symm)
  · obtain ⟨h1, h2, h3⟩ := List.pairwise_append.1 h.2
    refine List.pairwise_append.2 ⟨h1, List.pairwise_cons.2 ⟨fun s hs => .inl (hS s hs), h2⟩, fun p hp s hs => ?_⟩
    rcases List.mem_cons.1 hs with rfl | hs
    · have := hP p hp
      have := hlt p hp
      unfold Near
      omega
    · exact h3 p hp s hs

theorem nodup_le : ∀ {n : Nat} {l : List Nat}, l.Nodup → (∀ x ∈ l, x < n) → l.length ≤ n
  | 0, l, _, h => by
    cases l with
    | nil => simp
    | cons x l => exact absurd (h x (List.mem_cons_self ..)) (by omega)
  | n + 1, l, hd, h => by
    have h1 : ∀ x ∈ l.erase n, x < n := fun x hx => by
      have h2 := (hd.mem_erase_iff).1 hx
      have := h x h2.2
      have := h2.1
      omega
    have h3 := nodup_le (hd.erase n) h1
    rw [List.length_erase] at h3
    split at h3 <;> omega
/-- the nearest ones, picked one by one -/
structure Sel (c : Cf) (node n : Nat) (l : List Nat) : Prop where
  nd : l.Nodup
  lt : ∀ x ∈ l, x < n
  so : l.Pairwise (Near c node)
  out : ∀ x ∈ l, ∀ y, y < n → y ∉ l → Near c node x y
theorem Sel.nil (c : Cf) (node n : Nat) : Sel c node n [] := ⟨List.nodup_nil, by simp, List.Pairwise.nil, by simp⟩
theorem Sel.add {c : Cf} {node n : Nat} {l : List Nat} (h : Sel c node n l) {b : Nat} (hb : b < n) (hn : b ∉ l) (hm : ∀ j, j < n → j ∉ l → j = b ∨ Near c node b j) : Sel c node n (l ++ [b]) := by
  refine ⟨?_, ?_, ?_, ?_⟩
  · rw [List.nodup_append]
    refine ⟨h.nd, by simp, fun x hx y hy => ?_⟩
    obtain rfl := List.mem_singleton.1 hy
    exact fun e => hn (e ▸ hx)
  · intro x hx
    rcases List.mem_append.1 hx with hx | hx
    · exact h.lt x hx
    · obtain rfl := List.mem_singleton.1 hx; exact hb
  · refine List.pairwise_append.2 ⟨h.so, by simp, fun x hx y hy => ?_⟩
    obtain rfl := List.mem_singleton.1 hy
    exact h.out x hx y hb hn
  · intro x hx y hy hyn
    have h1 : y ∉ l := fun e => hyn (List.mem_append_left _ e)
    have h2 : y ≠ b := fun e => hyn (List.mem_append_right _ (by simp [e]))
    rcases List.mem_append.1 hx with hx | hx
    · exact h.out x hx y hy h1
    · obtain rfl := List.mem_singleton.1 hx
      exact (hm y hy h1).resolve_left h2
theorem Sel.full {c : Cf} {node n : Nat} {l : List Nat} (h : Sel c node n l) (hl : n ≤ l.length) : IsOrd c node n l := by
  refine ⟨(List.perm_ext_iff_of_nodup h.nd List.nodup_range).2 fun y => ⟨fun hy => by simpa using h.lt y hy, fun hy => ?_⟩, h.so⟩
  have hy' : y < n := by simpa using hy
  refine Classical.byContradiction fun hn => ?_
  have h2 : (y :: l).Nodup := List.nodup_cons.2 ⟨hn, h.nd⟩
  have := nodup_le (n := n) h2 (fun x hx => by
    rcases List.mem_cons.1 hx with rfl | hx
    · exact hy'
    · exact h.lt x hx)
  simp at this
  omega
theorem Sel.some {c : Cf} {node n : Nat} {l : List Nat} (h : Sel c node n l) (hl : l.length < n) : ∃ j, j < n ∧ j ∉ l := by
  refine Classical.byContradiction fun hn => ?_
  have h1 : ∀ j ∈ List.range n, j ∈ l := fun j hj => Classical.byContradiction fun hjl => hn ⟨j, by simpa using hj, hjl⟩
  have h2 : l.Perm (List.range n) := (List.perm_ext_iff_of_nodup h.nd List.nodup_range).2 fun y => ⟨fun hy => by simpa using h.lt y hy, h1 y⟩
  have := h2.length_eq
  simp at this
  omega
end Go.Proofs.YtinlpjgjjplceaaDoor
