/- Texts merged for the claim: CfA, Mem, Open, Own, Text. -/
import Derived.WalkKit
import Derived.WalkSpells
import Derived.WalkLawsBesides
import Derived.Test.YtfoleblcaloeoaaGreatDoorRows
import Derived.ProofKit
import Derived.Deep.Slices
import Derived.Deep.Fields
import Derived.ChangeSame
import Derived.Orders
import Derived.Tactics
/- Configs, plain: when one may be; sums of frames; the order of the nodes. -/
namespace Go.Proofs.YtfoleblcaloeoaaGreatDoor

/-- a config: its cells as numbers: 0 nodes, 1 CPUs, 2 to 17 homes, 18 to 25 frames, 26 to 89 distances, 90 slots, 91 to 93 min, low, high -/
abbrev Cf := Nat → Int
structure MayP (c : Cf) : Prop where
  n1 : 1 ≤ c 0
  n8 : c 0 ≤ 8
  p1 : 1 ≤ c 1
  p16 : c 1 ≤ 16
  s0 : 0 ≤ c 90
  s1 : c 90 ≤ 1024
  home : ∀ i : Nat, i < 16 → (i : Int) < c 1 → 0 ≤ c (2 + i) ∧ c (2 + i) < c 0
  home0 : ∀ i : Nat, i < 16 → c 1 ≤ (i : Int) → c (2 + i) = 0
  fr : ∀ i : Nat, i < 8 → (i : Int) < c 0 → 4 ≤ c (18 + i) ∧ c (18 + i) ≤ 128 ∧ c 93 ≤ c (18 + i)
  fr0 : ∀ i : Nat, i < 8 → c 0 ≤ (i : Int) → c (18 + i) = 0
  ds0 : ∀ i k : Nat, i < 8 → k < 8 → c 0 ≤ (i : Int) ∨ c 0 ≤ (k : Int) ∨ i = k → c (26 + i * 8 + k) = 0
  ds1 : ∀ i k : Nat, i < 8 → k < 8 → (i : Int) < c 0 → (k : Int) < c 0 → i ≠ k → 1 ≤ c (26 + i * 8 + k) ∧ c (26 + i * 8 + k) ≤ 255 ∧ c (26 + i * 8 + k) = c (26 + k * 8 + i)
  mi : 0 ≤ c 91
  lo : c 91 ≤ c 92
  hi : c 92 ≤ c 93

open Classical in
noncomputable def mayB (c : Cf) : Bool := decide (MayP c)
theorem mayB_true {c : Cf} (h : MayP c) : mayB c = true := by simp [mayB, h]
theorem mayB_false {c : Cf} (h : ¬ MayP c) : mayB c = false := by simp [mayB, h]
theorem mayB_iff {c : Cf} : mayB c = true ↔ MayP c := by simp [mayB]

/-- how many frames the first k nodes have -/
def sumF (c : Cf) : Nat → Int
  | 0 => 0
  | k + 1 => sumF c k + c (18 + k)
theorem sumF_zero (c : Cf) : sumF c 0 = 0 := rfl
theorem sumF_succ (c : Cf) (k : Nat) : sumF c (k + 1) = sumF c k + c (18 + k) := rfl
theorem MayP.fr_le {c : Cf} (h : MayP c) (i : Nat) (hi : i < 8) : 0 ≤ c (18 + i) ∧ c (18 + i) ≤ 128 := by
  by_cases hc : (i : Int) < c 0
  · have := h.fr i hi hc; omega
  · have := h.fr0 i hi (by omega); omega
theorem MayP.sum_le {c : Cf} (h : MayP c) : ∀ k : Nat, k ≤ 8 → 0 ≤ sumF c k ∧ sumF c k ≤ 128 * k
  | 0, _ => by simp [sumF]
  | k + 1, hk => by
    have h1 := h.sum_le k (by omega)
    have h2 := h.fr_le k (by omega)
    rw [sumF_succ]
    omega
theorem MayP.sum_tail {c : Cf} (h : MayP c) : ∀ k : Nat, k ≤ 8 → c 0 ≤ (k : Int) → sumF c k = sumF c (c 0).toNat
  | 0, _, hk => by have := h.n1; omega
  | k + 1, h8, hk => by
    by_cases e : c 0 ≤ (k : Int)
    · rw [sumF_succ, h.fr0 k (by omega) e, h.sum_tail k (by omega) e]; omega
    · have : (c 0).toNat = k + 1 := by omega
      rw [this]
theorem MayP.sum_mono {c : Cf} (h : MayP c) {i : Nat} : ∀ k : Nat, i ≤ k → k ≤ 8 → sumF c i ≤ sumF c k
  | 0, hi, _ => by obtain rfl : i = 0 := by omega
                   exact Int.le_refl _
  | k + 1, hi, hk => by
    by_cases e : i = k + 1
    · subst e; exact Int.le_refl _
    · have := h.sum_mono (i := i) k (by omega) (by omega)
      have := h.fr_le k (by omega)
      rw [sumF_succ]; omega

/-- is 'a' told ahead of 'b'? -/
def Near (c : Cf) (node : Nat) (a b : Nat) : Prop := c (26 + node * 8 + a) < c (26 + node * 8 + b) ∨ c (26 + node * 8 + a) = c (26 + node * 8 + b) ∧ a < b
theorem Near.trans {c : Cf} {node a b d : Nat} (h : Near c node a b) (k : Near c node b d) : Near c node a d := by unfold Near at *; omega
theorem Near.irr {c : Cf} {node a : Nat} : ¬ Near c node a a := by unfold Near; omega
theorem Near.asym {c : Cf} {node a b : Nat} (h : Near c node a b) : ¬ Near c node b a := by unfold Near at *; omega
theorem Near.tri {c : Cf} {node a b : Nat} (h : a ≠ b) : Near c node a b ∨ Near c node b a := by unfold Near; omega
/-- an order of the first n nodes -/
def IsOrd (c : Cf) (node n : Nat) (l : List Nat) : Prop := l.Perm (List.range n) ∧ l.Pairwise (Near c node)
theorem IsOrd.length {c : Cf} {node n : Nat} {l : List Nat} (h : IsOrd c node n l) : l.length = n := by simpa using h.1.length_eq
theorem IsOrd.mem {c : Cf} {node n : Nat} {l : List Nat} (h : IsOrd c node n l) {x : Nat} : x ∈ l ↔ x < n := by rw [h.1.mem_iff]; simp
theorem IsOrd.nodup {c : Cf} {node n : Nat} {l : List Nat} (h : IsOrd c node n l) : l.Nodup := h.1.nodup_iff.2 List.nodup_range
theorem IsOrd.unique {c : Cf} {node n : Nat} {l m : List Nat} (h : IsOrd c node n l) (k : IsOrd c node n m) : l = m :=
  List.Perm.eq_of_pairwise (le := Near c node) (fun _ _ _ _ h1 h2 => absurd h2 h1.asym) h.2 k.2 (h.1.trans k.1.symm)
theorem IsOrd.le {c : Cf} {node n : Nat} {l : List Nat} (h : IsOrd c node n l) {i j : Nat} (hj : j < l.length) (hij : i < j) : Near c node l[i] l[j] := List.pairwise_iff_getElem.1 h.2 i j (by omega) hj hij
/-- the own node is the first one -/
theorem IsOrd.head {c : Cf} (hc : MayP c) {node : Nat} {l : List Nat} (hn : (node : Int) < c 0) (h : IsOrd c node (c 0).toNat l) (h0 : 0 < l.length) : l[0] = node := by
  have h8 := hc.n8
  have hm : node ∈ l := h.mem.2 (by omega)
  obtain ⟨j, hj, e⟩ := List.getElem_of_mem hm
  rcases Nat.eq_zero_or_pos j with h1 | h1
  · subst h1; exact e
  · exfalso
    have h2 := h.le hj h1
    rw [e] at h2
    have h3 : l[0] < (c 0).toNat := h.mem.1 (List.getElem_mem h0)
    have e0 : c (26 + node * 8 + node) = 0 := hc.ds0 node node (by omega) (by omega) (.inr (.inr rfl))
    by_cases h4 : node = l[0]
    · rw [← h4] at h2; exact h2.irr
    · have h5 := hc.ds1 node l[0] (by omega) (by omega) hn (by omega) h4
      unfold Near at h2
      omega
/-- one more, put where it belongs -/
theorem ord_ins {c : Cf} {node n : Nat} {P S : List Nat} (h : IsOrd c node n (P ++ S)) (hS : ∀ s ∈ S, c (26 + node * 8 + n) < c (26 + node * 8 + s)) (hP : ∀ p ∈ P, c (26 + node * 8 + p) ≤ c (26 + node * 8 + n)) :
    IsOrd c node (n + 1) (P ++ n :: S) := by
  have hlt : ∀ p ∈ P, p < n := fun p hp => h.mem.1 (List.mem_append_left _ hp)
  refine ⟨?_, ?_⟩
  · rw [List.range_succ]
    exact (List.perm_middle).trans ((List.Perm.cons n h.1).trans (List.perm_append_singleton n _).symm)
  · obtain ⟨h1, h2, h3⟩ := List.pairwise_append.1 h.2
    refine List.pairwise_append.2 ⟨h1, List.pairwise_cons.2 ⟨fun s hs => .inl (hS s hs), h2⟩, fun p hp s hs => ?_⟩
    rcases List.mem_cons.1 hs with rfl | hs
    · have := hP p hp
      have := hlt p hp
      unfold Near
      omega
    · exact h3 p hp s hs

theorem nodup_le : ∀ {n : Nat} {l : List Nat}, l.Nodup → (∀ x ∈ l, x < n) → l.length ≤ n
  | 0, l, _, h => by
    cases l with
    | nil => simp
    | cons x l => exact absurd (h x (List.mem_cons_self ..)) (by omega)
  | n + 1, l, hd, h => by
    have h1 : ∀ x ∈ l.erase n, x < n := fun x hx => by
      have h2 := (hd.mem_erase_iff).1 hx
      have := h x h2.2
      have := h2.1
      omega
    have h3 := nodup_le (hd.erase n) h1
    rw [List.length_erase] at h3
    split at h3 <;> omega
/-- the nearest ones, picked one by one -/
structure Sel (c : Cf) (node n : Nat) (l : List Nat) : Prop where
  nd : l.Nodup
  lt : ∀ x ∈ l, x < n
  so : l.Pairwise (Near c node)
  out : ∀ x ∈ l, ∀ y, y < n → y ∉ l → Near c node x y
theorem Sel.nil (c : Cf) (node n : Nat) : Sel c node n [] := ⟨List.nodup_nil, by simp, List.Pairwise.nil, by simp⟩
theorem Sel.add {c : Cf} {node n : Nat} {l : List Nat} (h : Sel c node n l) {b : Nat} (hb : b < n) (hn : b ∉ l) (hm : ∀ j, j < n → j ∉ l → j = b ∨ Near c node b j) : Sel c node n (l ++ [b]) := by
  refine ⟨?_, ?_, ?_, ?_⟩
  · rw [List.nodup_append]
    refine ⟨h.nd, by simp, fun x hx y hy => ?_⟩
    obtain rfl := List.mem_singleton.1 hy
    exact fun e => hn (e ▸ hx)
  · intro x hx
    rcases List.mem_append.1 hx with hx | hx
    · exact h.lt x hx
    · obtain rfl := List.mem_singleton.1 hx; exact hb
  · refine List.pairwise_append.2 ⟨h.so, by simp, fun x hx y hy => ?_⟩
    obtain rfl := List.mem_singleton.1 hy
    exact h.out x hx y hb hn
  · intro x hx y hy hyn
    have h1 : y ∉ l := fun e => hyn (List.mem_append_left _ e)
    have h2 : y ≠ b := fun e => hyn (List.mem_append_right _ (by simp [e]))
    rcases List.mem_append.1 hx with hx | hx
    · exact h.out x hx y hy h1
    · obtain rfl := List.mem_singleton.1 hx
      exact (hm y hy h1).resolve_left h2
theorem Sel.full {c : Cf} {node n : Nat} {l : List Nat} (h : Sel c node n l) (hl : n ≤ l.length) : IsOrd c node n l := by
  refine ⟨(List.perm_ext_iff_of_nodup h.nd List.nodup_range).2 fun y => ⟨fun hy => by simpa using h.lt y hy, fun hy => ?_⟩, h.so⟩
  have hy' : y < n := by simpa using hy
  refine Classical.byContradiction fun hn => ?_
  have h2 : (y :: l).Nodup := List.nodup_cons.2 ⟨hn, h.nd⟩
  have := nodup_le (n := n) h2 (fun x hx => by
    rcases List.mem_cons.1 hx with rfl | hx
    · exact hy'
    · exact h.lt x hx)
  simp at this
  omega
theorem Sel.some {c : Cf} {node n : Nat} {l : List Nat} (h : Sel c node n l) (hl : l.length < n) : ∃ j, j < n ∧ j ∉ l := by
  refine Classical.byContradiction fun hn => ?_
  have h1 : ∀ j ∈ List.range n, j ∈ l := fun j hj => Classical.byContradiction fun hjl => hn ⟨j, by simpa using hj, hjl⟩
  have h2 : l.Perm (List.range n) := (List.perm_ext_iff_of_nodup h.nd List.nodup_range).2 fun y => ⟨fun hy => by simpa using h.lt y hy, h1 y⟩
  have := h2.length_eq
  simp at this
  omega
end Go.Proofs.YtfoleblcaloeoaaGreatDoor

/- Memory: slices that read as lists; what a call may have changed; append, by one law. -/
namespace Go.Proofs.YtfoleblcaloeoaaGreatDoor
open Go Go.RowKit

theorem hide {p : Prop} (h : p) : Hid p := h

/-! ## What may have changed -/

/-- of what was there only the blocks of F may have changed; new blocks may have come -/
structure Chg (F : List Nat) (w w' : World) : Prop where
  os : w'.os = w.os
  tape : w'.tape = w.tape
  output : w'.output = w.output
  size : w.heap.size ≤ w'.heap.size
  block : ∀ k, k < w.heap.size → k ∉ F → w'.heap[k]? = w.heap[k]?

section
variable {F G : List Nat} {a b w w' : World}
theorem Chg.refl (F : List Nat) (w : World) : Chg F w w := ⟨rfl, rfl, rfl, Nat.le_refl _, fun _ _ _ => rfl⟩
theorem Chg.trans (h : Chg F a b) (k : Chg G b w) (hG : ∀ x ∈ G, x ∈ F ∨ a.heap.size ≤ x) : Chg F a w :=
  ⟨k.os.trans h.os, k.tape.trans h.tape, k.output.trans h.output, Nat.le_trans h.size k.size, fun i hi hF =>
    (k.block i (Nat.lt_of_lt_of_le hi h.size) (fun hg => (hG i hg).elim hF (by omega))).trans (h.block i hi hF)⟩
theorem Chg.mono (h : Chg F a b) (hG : ∀ x ∈ F, x ∈ G ∨ a.heap.size ≤ x) : Chg G a b :=
  ⟨h.os, h.tape, h.output, h.size, fun i hi hg => h.block i hi fun hf => (hG i hf).elim hg (by omega)⟩
theorem Chg.drew (h : Chg F a w) : Chg F a w.drew := ⟨h.os, h.tape, h.output, h.size, h.block⟩
theorem Chg.alloc (h : Chg F a w) (o : Obj) : Chg F a (w.alloc o) :=
  ⟨h.os, h.tape, h.output, Nat.le_trans h.size (by simp), fun k hk hF => (Below.heap_alloc w o k (Nat.lt_of_lt_of_le hk h.size)).trans (h.block k hk hF)⟩
theorem Chg.setCell (h : Chg F a w) {p : Addr} (hp : p.block ∈ F ∨ a.heap.size ≤ p.block) (u : Value) : Chg F a (w.setCell p u) :=
  ⟨h.os, h.tape, h.output, by simpa [World.setCell] using h.size, fun k hk hF => (Below.heap_setCell w p u k (fun e => by subst e; exact hp.elim hF (by omega))).trans (h.block k hk hF)⟩
theorem Chg.setRow (h : Chg F a w) {g : Nat} (hp : g ∈ F ∨ a.heap.size ≤ g) (cs : Array Value) : Chg F a (w.setRow g cs) :=
  ⟨h.os, h.tape, h.output, by simpa using h.size, fun k hk hF => (setRow_other w g k cs (fun e => by subst e; exact hp.elim hF (by omega))).trans (h.block k hk hF)⟩
theorem Chg.below {B : Nat} (h : Chg F a b) (hF : ∀ x ∈ F, B ≤ x) (hB : B ≤ a.heap.size) : Below B a b :=
  ⟨h.os, h.tape, h.output, h.size, fun k hk => h.block k (by omega) fun hf => by have := hF k hf; omega⟩
theorem Chg.of_below {B : Nat} (h : Below B a b) (hF : ∀ k, B ≤ k → k < a.heap.size → k ∈ F) : Chg F a b :=
  ⟨h.os, h.tape, h.output, h.size, fun k hk hf => h.block k (by rcases Nat.lt_or_ge k B with h1 | h1; exact h1; exact absurd (hF k h1 hk) hf)⟩
theorem Chg.cell (h : Chg F a b) {p : Addr} {v : Value} (hc : a.cell? p = some v) (hF : p.block ∉ F) : b.cell? p = some v :=
  (World.cell?_of_block (h.block p.block (World.block_lt_of_cell? a p hc) hF)).trans hc
end

/-! ## Blocks -/

/-- block g is just these cells, none of them frozen -/
def Blk (w : World) (g : Nat) (t : TypeId) (cs : Array Value) : Prop := w.heap[g]? = some (.cells cs t (0, 0))

section
variable {w w' : World} {g : Nat} {t : TypeId} {cs : Array Value} {F : List Nat}
theorem Blk.lt (h : Blk w g t cs) : g < w.heap.size := (Array.getElem?_eq_some_iff.1 h).1
theorem Blk.cell (h : Blk w g t cs) (i : Nat) : w.cell? ⟨g, i, none⟩ = cs[i]? := cell_of_row w g i cs t (0, 0) h
theorem Blk.frozen (h : Blk w g t cs) (i : Nat) : w.frozen? ⟨g, i, none⟩ = false := by
  unfold Blk at h
  simp [World.frozen?, h]
theorem Blk.new (w : World) (t : TypeId) (cs : Array Value) : Blk (w.alloc (.cells cs t)) w.heap.size t cs := heap_alloc_new w _
theorem Blk.drew (h : Blk w g t cs) : Blk w.drew g t cs := h
theorem Blk.alloc (h : Blk w g t cs) (o : Obj) : Blk (w.alloc o) g t cs := (Below.heap_alloc w o g h.lt).trans h
theorem Blk.set_ (h : Blk w g t cs) (i : Nat) (u : Value) : Blk (w.setCell ⟨g, i, none⟩ u) g t (cs.setIfInBounds i u) := by
  unfold Blk at h ⊢
  simp [World.setCell, Array.getElem?_modify, h]
theorem Blk.far (h : Blk w g t cs) {p : Addr} (hp : g ≠ p.block) (u : Value) : Blk (w.setCell p u) g t cs := (Below.heap_setCell w p u g hp).trans h
theorem Blk.chg (h : Blk w g t cs) (hb : Chg F w w') (hg : g ∉ F) : Blk w' g t cs := (hb.block g h.lt hg).trans h
theorem Blk.below {B : Nat} (h : Blk w g t cs) (hb : Below B w w') (hg : g < B) : Blk w' g t cs := (hb.block g hg).trans h
theorem Blk.ne_ {g' : Nat} {t' : TypeId} {cs' : Array Value} (h : Blk w g t cs) (h' : Blk w g' t' cs') (hne : t ≠ t') : g ≠ g' := by
  rintro rfl
  unfold Blk at h h'
  rw [h] at h'
  injection h' with h'
  injection h' with _ ht
  exact hne ht
end

/-! ## Slices that are read -/

/-- the slice value v has n elements of so many cells each, which are cs -/
def Rd (w : World) (size : Nat) (v : Value) (n : Nat) (cs : List Value) : Prop :=
  cs.length = n * size ∧ ∃ A c, v = .slice A n c ∧ n ≤ c ∧ (0 < n → ∃ g off, A = some ⟨g, off, none⟩ ∧ ∀ j u, cs[j]? = some u → w.cell? ⟨g, off + j, none⟩ = some u)

section
variable {w w' : World} {size n : Nat} {v : Value} {cs : List Value} {F : List Nat}
theorem Rd.nil (w : World) (size c : Nat) (A : Option Addr) : Rd w size (.slice A 0 c) 0 [] := ⟨by simp, A, c, rfl, Nat.zero_le _, fun h => absurd h (by omega)⟩
theorem Rd.keep (h : Rd w size v n cs) (hk : ∀ (p : Addr) u, v.ownBlock = some p.block → w.cell? p = some u → w'.cell? p = some u) : Rd w' size v n cs := by
  obtain ⟨h1, A, c, rfl, hc, h2⟩ := h
  refine ⟨h1, A, c, rfl, hc, fun hn => ?_⟩
  obtain ⟨g, off, rfl, h3⟩ := h2 hn
  exact ⟨g, off, rfl, fun j u hu => hk _ _ rfl (h3 j u hu)⟩
theorem Rd.drew (h : Rd w size v n cs) : Rd w.drew size v n cs := h
theorem Rd.chg (h : Rd w size v n cs) (hc : Chg F w w') (hF : ∀ k, v.ownBlock = some k → k ∉ F) : Rd w' size v n cs :=
  h.keep fun _ _ hp hcell => hc.cell hcell (hF _ hp)
theorem Rd.below {B : Nat} (h : Rd w size v n cs) (hc : Below B w w') (hF : ∀ k, v.ownBlock = some k → k < B) : Rd w' size v n cs :=
  h.keep fun _ _ hp hcell => (hc.cell (hF _ hp)).trans hcell
theorem Rd.alloc (h : Rd w size v n cs) (o : Obj) : Rd (w.alloc o) size v n cs := h.keep fun p _ _ hc => (World.cell?_of_block (Below.heap_alloc w o p.block (World.block_lt_of_cell? w p hc))).trans hc
theorem Rd.form (h : Rd w size v n cs) : ∃ A c, v = .slice A n c := let ⟨_, A, c, e, _⟩ := h; ⟨A, c, e⟩
theorem Rd.at_ {k : Nat} (h : Rd w size v n cs) (hk : k < n) : ∃ g off c, v = .slice (some ⟨g, off, none⟩) n c ∧ n ≤ c ∧ ∀ j, j < size → ∃ u, cs[k * size + j]? = some u ∧ w.cell? ⟨g, off + k * size + j, none⟩ = some u := by
  obtain ⟨h1, A, c, rfl, hc, h2⟩ := h
  obtain ⟨g, off, rfl, h3⟩ := h2 (by omega)
  refine ⟨g, off, c, rfl, hc, fun j hj => ?_⟩
  have hlt : k * size + j < cs.length := by
    rw [h1]
    calc k * size + j < k * size + size := by omega
      _ = (k + 1) * size := by rw [Nat.add_mul, Nat.one_mul]
      _ ≤ n * size := Nat.mul_le_mul_right _ hk
  exact ⟨cs[k * size + j], List.getElem?_eq_getElem hlt, by rw [Nat.add_assoc]; exact h3 _ _ (List.getElem?_eq_getElem hlt)⟩
end

/-! ## Slices of a call's own -/

/-- the slice value v has n elements of type e, of so many cells each, which are cs: nil, or a piece of a block without frozen cells; all up to its capacity lies in the block -/
def Sl (w : World) (e : TypeId) (size : Nat) (v : Value) (n : Nat) (cs : List Value) : Prop :=
  cs.length = n * size ∧
  ((v = .slice none 0 0 ∧ n = 0) ∨
   ∃ g off cap cur, v = .slice (some ⟨g, off, none⟩) n cap ∧ Blk w g e cur ∧ n ≤ cap ∧ cap ≤ maxLen ∧ off + cap * size ≤ cur.size ∧ (cur.toList.drop off).take (n * size) = cs)

section
variable {w w' : World} {e : TypeId} {size n : Nat} {v : Value} {cs : List Value} {F : List Nat}
theorem Sl.nil (w : World) (e : TypeId) (size : Nat) : Sl w e size (.slice none 0 0) 0 [] := ⟨by simp, .inl ⟨rfl, rfl⟩⟩
theorem Sl.rd (h : Sl w e size v n cs) : Rd w size v n cs := by
  obtain ⟨h1, ⟨rfl, rfl⟩ | ⟨g, off, cap, cur, rfl, hb, hn, _, hs, ht⟩⟩ := h
  · exact ⟨h1, none, 0, rfl, Nat.le_refl _, fun h => absurd h (by omega)⟩
  · refine ⟨h1, _, _, rfl, hn, fun _ => ⟨g, off, rfl, fun j u hu => ?_⟩⟩
    rw [hb.cell]
    rw [← ht, List.getElem?_take] at hu
    split at hu
    · rw [List.getElem?_drop] at hu; simpa using hu
    · cases hu
theorem Sl.lt (h : Sl w e size v n cs) : ∀ k, v.ownBlock = some k → k < w.heap.size := by
  intro k hk
  obtain ⟨_, ⟨rfl, _⟩ | ⟨g, off, cap, cur, rfl, hb, _⟩⟩ := h
  · cases hk
  · simp only [Value.ownBlock, Option.some.injEq] at hk; subst hk; exact hb.lt
theorem Sl.keep (h : Sl w e size v n cs) (hk : ∀ k, v.ownBlock = some k → w'.heap[k]? = w.heap[k]?) : Sl w' e size v n cs := by
  refine ⟨h.1, ?_⟩
  obtain ⟨_, h | ⟨g, off, cap, cur, rfl, hb, r⟩⟩ := h
  · exact .inl h
  · exact .inr ⟨g, off, cap, cur, rfl, (hk g rfl).trans hb, r⟩
theorem Sl.chg (h : Sl w e size v n cs) (hc : Chg F w w') (hF : ∀ k, v.ownBlock = some k → k ∉ F) : Sl w' e size v n cs :=
  h.keep fun k hk => hc.block k (h.lt k hk) (hF k hk)
theorem Sl.below {B : Nat} (h : Sl w e size v n cs) (hc : Below B w w') (hF : ∀ k, v.ownBlock = some k → k < B) : Sl w' e size v n cs :=
  h.keep fun k hk => hc.block k (hF k hk)
theorem Sl.alloc (h : Sl w e size v n cs) (o : Obj) : Sl (w.alloc o) e size v n cs := h.keep fun k hk => Below.heap_alloc w o k (h.lt k hk)
theorem Sl.drew (h : Sl w e size v n cs) : Sl w.drew e size v n cs := h
theorem Sl.far (h : Sl w e size v n cs) {p : Addr} (hp : v.ownBlock ≠ some p.block) (u : Value) : Sl (w.setCell p u) e size v n cs :=
  h.keep fun k hk => Below.heap_setCell w p u k (fun e => hp (by rw [hk, e]))
theorem Sl.cap_le (h : Sl w e size v n cs) : ∃ A c, v = .slice A n c ∧ n ≤ c ∧ c ≤ maxLen := by
  obtain ⟨_, ⟨rfl, rfl⟩ | ⟨g, off, cap, cur, rfl, hb, h1, h2, _⟩⟩ := h
  · exact ⟨none, 0, rfl, Nat.le_refl _, Nat.zero_le _⟩
  · exact ⟨_, _, rfl, h1, h2⟩
theorem Sl.form (h : Sl w e size v n cs) : ∃ A c, v = .slice A n c := h.rd.form
/-- a block that was just made -/
theorem Sl.made (w : World) (e : TypeId) (size : Nat) (cur : Array Value) (n cap : Nat) (hn : n ≤ cap) (hm : cap ≤ maxLen) (hs : cap * size ≤ cur.size) :
    Sl (w.alloc (.cells cur e)) e size (.slice (some ⟨w.heap.size, 0, none⟩) n cap) n (cur.toList.take (n * size)) := by
  refine ⟨?_, .inr ⟨_, 0, cap, cur, rfl, Blk.new w e cur, hn, hm, by omega, by simp⟩⟩
  rw [List.length_take]
  have : n * size ≤ cap * size := Nat.mul_le_mul_right _ hn
  simp
  omega
/-- a piece from the beginning -/
theorem Sl.take (h : Sl w e size v n cs) {k : Nat} (hk : k ≤ n) {A : Option Addr} {c : Nat} (hv : v = .slice A n c) : Sl w e size (.slice A k c) k (cs.take (k * size)) := by
  have hle : k * size ≤ n * size := Nat.mul_le_mul_right _ hk
  refine ⟨by rw [List.length_take, h.1]; omega, ?_⟩
  obtain ⟨h1, ⟨rfl, rfl⟩ | ⟨g, off, cap, cur, rfl, hb, hn, hm, hs, ht⟩⟩ := h
  · injection hv with e1 e2 e3
    subst e1; subst e3
    exact .inl ⟨by rw [show k = 0 by omega], by omega⟩
  · injection hv with e1 e2 e3
    subst e1; subst e3
    refine .inr ⟨g, off, cap, cur, rfl, hb, by omega, hm, hs, ?_⟩
    rw [← ht, List.take_take, Nat.min_eq_left hle]
/-- a piece to the end -/
theorem Sl.drop (h : Sl w e size v n cs) {k : Nat} (hk : k ≤ n) {A : Option Addr} {c : Nat} (hv : v = .slice A n c) :
    Sl w e size (.slice (if c = k then A else A.map (·.add (k * size))) (n - k) (c - k)) (n - k) (cs.drop (k * size)) := by
  have hle : k * size ≤ n * size := Nat.mul_le_mul_right _ hk
  refine ⟨by rw [List.length_drop, h.1, Nat.sub_mul], ?_⟩
  obtain ⟨h1, ⟨rfl, rfl⟩ | ⟨g, off, cap, cur, rfl, hb, hn, hm, hs, ht⟩⟩ := h
  · injection hv with e1 e2 e3
    subst e1; subst e3
    exact .inl ⟨by simp, by omega⟩
  · injection hv with e1 e2 e3
    subst e1; subst e3
    by_cases hck : cap = k
    · rw [if_pos hck]
      have hnk : n = k := by omega
      refine .inr ⟨g, off, cap - k, cur, rfl, hb, by omega, by omega, ?_, ?_⟩
      · rw [show cap - k = 0 by omega]; simp; omega
      · rw [show n - k = 0 by omega, Nat.zero_mul, List.take_zero, List.drop_eq_nil_of_le (by rw [h1, hnk]; exact Nat.le_refl _)]
    · rw [if_neg hck]
      have hadd : (⟨g, off, none⟩ : Addr).add (k * size) = ⟨g, off + k * size, none⟩ := by unfold Addr.add; split <;> simp_all
      refine .inr ⟨g, off + k * size, cap - k, cur, by simp [hadd], hb, by omega, by omega, ?_, ?_⟩
      · rw [Nat.sub_mul]; have : k * size ≤ cap * size := Nat.mul_le_mul_right _ (by omega); omega
      · rw [← ht, List.drop_take, List.drop_drop, Nat.sub_mul]
end

/-- append, whatever the source, onto a slice of the call's own -/
theorem run_append_sl {P : Program} {w : World} {t ty e : TypeId} {i : TypeInfo} {z : Value} {size bytes : Nat} (ht : P.underlying t = some (.slice e)) (hi : P.info? e = some i) (hz : i.zero = some z)
    (hsize : i.size = size) (hby : i.bytes = bytes) (hzs : z.cells.size = size)
    {v x : Value} {n m : Nat} {xs news : List Value} (hv : Sl w e size v n xs) (hx : Rd w size x m news) (h1 : ∀ u ∈ news, u.oneCell' = true)
    (h63 : n + m ≤ maxLen) (hbytes : (n + m) * bytes ≤ 140737488355328) :
    ∃ v' w', (Builtin.append_ #[t, t] ty #[v, x]).run P w = .ok v' w' ∧ Sl w' e size v' (n + m) (xs ++ news) ∧ Chg v.ownBlock.toList w w' ∧
      (v'.ownBlock = v.ownBlock ∨ v'.ownBlock = some w.heap.size) := by
  subst hsize
  subst hby
  have hsmall : n + m ≤ 9223372036854775807 := by simp only [maxLen] at h63; omega
  have hlen : (xs ++ news).length = (n + m) * i.size := by rw [List.length_append, hv.1, hx.1, Nat.add_mul]
  obtain ⟨hxl, A, c, rfl, hmc, hxa⟩ := hx
  -- the first cells of both
  have hfx : ∀ w1 : World, (∀ p u, w.cell? p = some u → w1.cell? p = some u) → (Builtin.firstCells i.size m (.slice A m c)).run P w1 = .ok news.toArray w1 := by
    intro w1 hk
    rcases Nat.eq_zero_or_pos m with h0 | h0
    · subst h0
      have : news = [] := List.eq_nil_of_length_eq_zero (by simpa using hxl)
      subst this
      cases A with
      | none => simp [Builtin.firstCells]
      | some a => exact run_firstCells_some (P := P) w1 i.size 0 a 0 c [] (by simp) (by simp)
    · obtain ⟨g, off, rfl, hc⟩ := hxa h0
      exact run_firstCells_some (P := P) w1 i.size m _ m c news hxl (fun j u hu => by rw [Addr.add_lit]; exact hk _ _ (hc j u hu))
  -- what the growing arm leaves
  have grown : ∀ (old : Nat), old < n + m → ∀ (row : List Nat),
      Sl (w.drew.alloc (.cells (xs.toArray ++ news.toArray ++ Builtin.zeroCells z.cells (grownCap w (n + m) old e - (n + m))) e)) e i.size
        (.slice (some ⟨w.heap.size, 0, none⟩) (n + m) (grownCap w (n + m) old e)) (n + m) (xs ++ news) ∧
      Chg row w (w.drew.alloc (.cells (xs.toArray ++ news.toArray ++ Builtin.zeroCells z.cells (grownCap w (n + m) old e - (n + m))) e)) := by
    intro old ho row
    have hge := grownCap_ge w (n + m) old e
    have hcm : grownCap w (n + m) old e ≤ maxLen := grownCap_le_maxLen w (n + m) old e h63
    refine ⟨⟨hlen, .inr ⟨w.heap.size, 0, _, _, rfl, heap_alloc_new w.drew _, hge, hcm, ?_, ?_⟩⟩, ((Chg.refl row w).drew).alloc _⟩
    · simp only [Array.size_append, List.size_toArray, size_zeroCells, hzs, hv.1, hxl, ← Nat.add_mul]
      refine Nat.le_of_eq ?_
      rw [Nat.zero_add]
      congr 1
      omega
    · simp only [Array.toList_append, List.append_assoc, List.drop_zero]
      rw [← List.append_assoc, ← hlen]
      exact List.take_left
  have grows : ∀ (a0 : Option Addr) (old : Nat), old < n + m →
      (Builtin.firstCells i.size n (.slice a0 n old)).run P w.drew = .ok xs.toArray w.drew → Builtin.nextslicecap (n + m) old * i.bytes ≤ 281474976710656 →
      (Builtin.append_ #[t, t] ty #[.slice a0 n old, .slice A m c]).run P w = .ok (.slice (some ⟨w.heap.size, 0, none⟩) (n + m) (grownCap w (n + m) old e))
        (w.drew.alloc (.cells (xs.toArray ++ news.toArray ++ Builtin.zeroCells z.cells (grownCap w (n + m) old e - (n + m))) e)) := by
    intro a0 old ho hf hfit
    have hn : ¬ (n + m ≤ old) := by omega
    have h63' : ¬ (9223372036854775807 < ((n : Int) + (m : Int))) := by omega
    have h48' : ¬ (281474976710656 < Builtin.nextslicecap (n + m) old * i.bytes) := by omega
    have hf2 := hfx w.drew (fun p u h => h)
    simp [Builtin.append_, run_underlying ht, sizeOf, typeInfo, zeroValue, hi, hz, Builtin.lenOf, hn, h63', h48', Question.forced, hf, hf2, newRow, grownCap]
    congr 2
    apply Array.ext'
    simp
  obtain ⟨hvl, ⟨rfl, rfl⟩ | ⟨g, off, cap, cur, rfl, hb, hncap, hcm, hs, htk⟩⟩ := hv
  · have hxs : xs = [] := List.eq_nil_of_length_eq_zero (by simpa using hvl)
    subst hxs
    rcases Nat.eq_zero_or_pos m with h0 | h0
    · subst h0
      have hnw : news = [] := List.eq_nil_of_length_eq_zero (by simpa using hxl)
      subst hnw
      have hf := hfx w (fun _ _ h => h)
      refine ⟨.slice none 0 0, w, ?_, Sl.nil w e _, Chg.refl _ _, .inl rfl⟩
      simp [Builtin.append_, run_underlying ht, sizeOf, typeInfo, hi, Builtin.lenOf, hf]
    · obtain ⟨g1, g2⟩ := grown 0 (by omega) (Value.slice none 0 0).ownBlock.toList
      refine ⟨_, _, grows none 0 (by omega) (by simp [Builtin.firstCells]) ?_, g1, g2, .inr rfl⟩
      rw [nextslicecap_zero (by omega)]
      omega
  · by_cases hroom : n + m ≤ cap
    · have hf := hfx w (fun _ _ h => h)
      have hmul : n * i.size + m * i.size ≤ cap * i.size := by rw [← Nat.add_mul]; exact Nat.mul_le_mul_right _ hroom
      have hst := run_storeCells_at P g (off + n * i.size) e news 0 cur w hb (by rw [hxl]; omega) h1
      rw [Nat.add_zero] at hst
      refine ⟨.slice (some ⟨g, off, none⟩) (n + m) cap, w.setRow g (cur.toList.take (off + n * i.size) ++ news ++ cur.toList.drop (off + n * i.size + news.length)).toArray, ?_, ?_, (Chg.refl _ w).setRow (.inl (by simp [Value.ownBlock])) _, .inl rfl⟩
      · simp [Builtin.append_, run_underlying ht, sizeOf, typeInfo, hi, Builtin.lenOf, hroom, hf, Addr.add_lit, hst]
      · have hcl : cur.toList.length = cur.size := by simp
        refine ⟨hlen, .inr ⟨g, off, cap, _, rfl, setRow_heap w g cur _ e (0, 0) hb, hroom, hcm, ?_, ?_⟩⟩
        · simp only [List.size_toArray, List.length_append, List.length_take, List.length_drop, hcl, hxl]
          omega
        · have hh : (cur.toList.take (off + n * i.size)).length = off + n * i.size := by rw [List.length_take]; omega
          have e1 : cur.toList.take (off + n * i.size) = cur.toList.take off ++ xs := by
            rw [← htk, List.take_add]
          simp only [e1, List.append_assoc]
          have e2 : (cur.toList.take off).length = off := by rw [List.length_take]; omega
          rw [List.drop_append_of_le_length (by omega), List.drop_eq_nil_of_le (by omega), List.nil_append, ← List.append_assoc, ← hlen]
          exact List.take_left
    · obtain ⟨g1, g2⟩ := grown cap (by omega) (Value.slice (some ⟨g, off, none⟩) n cap).ownBlock.toList
      refine ⟨_, _, grows (some ⟨g, off, none⟩) cap (by omega) ?_ (growslice_fits (by omega) hbytes), g1, g2, .inr rfl⟩
      have hr := (Sl.rd (w := w) (v := .slice (some ⟨g, off, none⟩) n cap) (e := e) (size := i.size) (n := n) (cs := xs) ⟨hvl, .inr ⟨g, off, cap, cur, rfl, hb, hncap, hcm, hs, htk⟩⟩)
      obtain ⟨_, A', c', heq, _, hcell⟩ := hr
      injection heq with ea eb ec
      subst ea
      refine run_firstCells_some (P := P) w.drew i.size n _ n cap xs hvl (fun j u hu => ?_)
      rcases Nat.eq_zero_or_pos n with h0 | h0
      · subst h0
        have : xs = [] := List.eq_nil_of_length_eq_zero (by simpa using hvl)
        subst this
        simp at hu
      · obtain ⟨g', off', he, hc⟩ := hcell h0
        injection he with he
        injection he with e1 e2
        subst e1; subst e2
        rw [Addr.add_lit]
        exact hc j u hu

theorem wp_append_sl {P : Program} {w : World} {o : Oper} {a : Act} {K : Act → World → Prop} {Q : Exit → Act → World → Prop} (s x : Operand) (t : TypeId)
    (ho : o.op = .call { callee := .builtin .append, args := #[s, x], argTypes := #[t, t] })
    (e : TypeId) {i : TypeInfo} {z : Value} {size bytes : Nat} (ht : P.underlying t = some (.slice e)) (hi : P.info? e = some i) (hz : i.zero = some z)
    (hsize : i.size = size) (hby : i.bytes = bytes) (hzs : z.cells.size = size)
    {v y : Value} {n m : Nat} {xs news : List Value} (hs : a.eval s = v) (hv : Sl w e size v n xs) (hy : a.eval x = y) (hx : Rd w size y m news) (h1 : ∀ u ∈ news, u.oneCell' = true)
    (h63 : n + m ≤ maxLen) (hbytes : (n + m) * bytes ≤ 140737488355328)
    (h : ∀ v' w', Sl w' e size v' (n + m) (xs ++ news) → Chg v.ownBlock.toList w w' → (v'.ownBlock = v.ownBlock ∨ v'.ownBlock = some w.heap.size) → K (a.put o.dst v') w') : o.wp P a w K Q := by
  obtain ⟨v', w', hrun, h2, h3, h4⟩ := run_append_sl (ty := o.type) ht hi hz hsize hby hzs hv hx h1 h63 hbytes
  unfold Oper.wp execOp
  simp only [ho, resolve, invoke, builtin, Sem.run_bind, Sem.run_pure, Result.andThen_ok, List.map_toArray, List.map_cons, List.map_nil, hs, hy, hrun]
  exact h v' w' h2 h3 h4
end Go.Proofs.YtfoleblcaloeoaaGreatDoor

/- Arguments opened to lists; the end of a law's row. -/
namespace Go.Proofs.YtfoleblcaloeoaaGreatDoor
open Go Go.RowKit Go.ChangeShapes Go.WideShapes Go.Deep Go.ChangeAt

section
variable {H : Type} {enc : TypeId × Value → H} {P : Program} {w : World} {base : Nat} {spare : Nat → Bool} {held : Bool}
theorem open_slice_fields {t e : TypeId} {fs : Array Field} {fuel : Nat} {cs : List Value} {x : DataW H × List MemPlace} (ht : P.underlying t = some (.slice e)) (he : P.underlying e = some (.struct fs))
    (hone : oneCellFields P fs = true) (hC : P.cellsOf e = fs.size) (h : DataW.trod enc P w base spare held fuel t cs = some x) :
    (cs = [.slice none 0 0] ∧ x = (.nil, [])) ∨
    ∃ (a : Addr) (len cap m : Nat) (D : Nat → DataW H) (Pl : Nat → List MemPlace), cs = [.slice (some a) len cap] ∧ base ≤ a.block ∧ len ≤ cap ∧ cap ≤ maxLen ∧ m = (if spare a.block then cap else len) ∧
      x = (.slice ((List.range len).map D) ((List.range (m - len)).map fun j => D (len + j)), MemPlace.row a (m * fs.size) ++ (List.range m).flatMap Pl) ∧
      ∀ i, i < m → ∃ (ys : List (DataW H × List MemPlace)) (n : Nat), D i = .agg (ys.map (·.1)) ∧ Pl i = ys.flatMap (·.2) ∧ ys.length = fs.size ∧
        ∀ (j : Nat) (f : Field), fs[j]? = some f → ∃ (v : Value) (y : DataW H × List MemPlace), w.cell? (a.add (i * fs.size + j)) = some v ∧ ys[j]? = some y ∧ DataW.trod enc P w base spare held n f.type [v] = some y := by
  rcases open_slice ht h with h0 | ⟨a, len, cap, m, n, D, Pl, hcs, hb, hl, hm, hmm, hx, hi⟩
  · exact .inl h0
  · refine .inr ⟨a, len, cap, m, D, Pl, hcs, hb, hl, hm, hmm, by rw [hC] at hx; exact hx, fun i him => ?_⟩
    obtain ⟨cs', hc, ht'⟩ := hi i him
    rw [hC] at hc
    obtain ⟨ys, n', hn', hy, hlen, hyl, hf⟩ := DataW.trod_struct he ht'
    obtain ⟨_, hcl, hat⟩ := World.cells?_some hc
    simp only [Prod.mk.injEq] at hy
    refine ⟨ys, n', hy.1, hy.2, hyl, fun j f hj => ?_⟩
    obtain ⟨ho, hk⟩ := hone_of hone j f hj
    have hjl : j < fs.size := (Array.getElem?_eq_some_iff.1 hj).1
    have hcell := hat j hjl
    have hv : cs'[j]? = some (cs'[j]'(by omega)) := List.getElem?_eq_getElem (by omega)
    have h1 := hf j f hj
    rw [ho, hk] at h1
    have hone' : (cs'.drop j).take 1 = [cs'[j]'(by omega)] := by
      rw [List.drop_eq_getElem_cons (by omega)]
      rfl
    rw [hone'] at h1
    have hys : ys[j]? = some (ys[j]'(by omega)) := List.getElem?_eq_getElem (by omega)
    refine ⟨_, _, ?_, hys, h1.trans hys⟩
    rw [← Go.Deep.add_add, hcell, hv]
end
section
variable {H : Type} {enc : TypeId × Value → H} {P : Program}
theorem post_of_below {f : Func} {s : ChangeSpec} {apart fresh handsOn again : Bool} {W W' : World} {args : Array Value} {v : Value} {ds gs : List (DataW H)} {before pa pv : List MemPlace}
    (hW : DataW.Whole enc P f.params.toList s.vars apart W args.toList ds gs before)
    (hres : ∀ (b : Nat) (sp : Nat → Bool) (hd : Bool), DataW.TrodAll enc P W' b sp hd f.resultTypes.toList (v.resultList f.resultTypes.size) (s.fn H (ds ++ gs)).results [])
    (hargs : ∀ sp : Nat → Bool, (∀ p ∈ before, sp p.block = true) → DataW.TrodAll enc P W' 0 sp true f.params.toList args.toList (s.fn H (ds ++ gs)).args pa)
    (hvars : ∀ sp : Nat → Bool, (∀ p ∈ before, sp p.block = true) → DataW.TrodVars enc P W' sp s.vars (s.fn H (ds ++ gs)).vars pv)
    (hps : before = pa ++ pv) (hb : Below W.heap.size W W')
    (hok : ∀ (j : Nat) (t : TypeId) (r : Value), f.resultTypes[j]? = some t → (v.resultList f.resultTypes.size)[j]? = some r → Value.okWide P W' .any 0 t r) :
    s.post enc P f apart fresh handsOn again W args v W' := by
  have hlt : ∀ p ∈ before, p.block < W.heap.size := fun p hp => hW.lt p hp
  have hold : ∀ p ∈ before, (fun b => decide (b < W.heap.size)) p.block = true := fun p hp => by simpa using hlt p hp
  refine ⟨ds, gs, before, [], pa, pv, hW, hres _ _ _, hargs _ hold, hvars _ hold, World.keptBut_mono (fun p hp => ⟨hp, ?_⟩) (hb.frame (· ∈ before)), fun _ => ?_⟩
  · rw [hps, List.mem_append] at hp
    exact Or.inr hp
  · obtain ⟨_, _, _, _, _, hz, hn⟩ := hW
    refine ⟨hok, _, _, ([] ++ pa) ++ pv, ⟨[] ++ pa, pv, trodAll_append (hargs _ (fun _ _ => rfl)) (hres _ _ _), hvars _ (fun _ _ => rfl), rfl, ?_, ?_⟩, ?_⟩
    · intro b off hp
      have hin : MemPlace.cell b off ∈ before := by rw [hps]; simpa using hp
      rw [hb.frozen (hlt _ hin)]
      exact hz b off hin
    · intro ha
      have := hn ha
      rw [hps] at this
      simpa using this
    · intro p hp _
      rw [hps]
      simpa using hp
end

section
variable {H : Type} {enc : TypeId × Value → H} {P : Program}
theorem args_stay {W W' : World} {sp : Nat → Bool} (hl : laidOutB P = true) (hb : Below W.heap.size W W') : ∀ (ts : List TypeId) (vs : List Value) (ds : List (DataW H)) (ps : List MemPlace),
    (∀ t ∈ ts, P.readableRec t = true ∧ t < P.types.size) → DataW.TrodAll enc P W 0 (fun _ => true) true ts vs ds ps → (∀ x ∈ ps, x.block < W.heap.size) → (∀ x ∈ ps, sp x.block = true) → DataW.TrodAll enc P W' 0 sp true ts vs ds ps
  | [], vs, ds, ps, _, h, _, _ => by
    obtain ⟨rfl, rfl, rfl⟩ := trodAll_nil h
    exact trodAll_mk0
  | t :: ts, vs, ds, ps, hr, h, hlt, hsp => by
    obtain ⟨v, vs', d, ds', p, q, rfl, rfl, rfl, h1, h2⟩ := trodAll_cons h
    refine ⟨p, q, WideElems.Trod_stays hl (hr t (List.mem_cons_self ..)).1 (hr t (List.mem_cons_self ..)).2 h1 (fun x hx => hb.same (hlt x (List.mem_append_left _ hx))) (fun x hx => hsp x (List.mem_append_left _ hx)), ?_, rfl⟩
    exact args_stay hl hb ts vs' ds' q (fun t ht => hr t (List.mem_cons_of_mem _ ht)) h2 (fun x hx => hlt x (List.mem_append_right _ hx)) (fun x hx => hsp x (List.mem_append_right _ hx))

/-- the end of a law's row: true, and all arguments read as they did -/
theorem law_end {f : Func} {s : ChangeSpec} {apart : Bool} {W W' : World} {args : Array Value} {ds : List (DataW H)} {before : List MemPlace} {tb : TypeId}
    (hspec : (s.fn H (ds ++ [])).results = [.lit (.bool true)] ∧ (s.fn H (ds ++ [])).args = ds ∧ (s.fn H (ds ++ [])).vars = []) (hvars : s.vars = []) (hrt : f.resultTypes = #[tb]) (htb : P.underlying tb = some .bool) (hl : laidOutB P = true)
    (hr0 : (f.params.toList.all fun t => P.readableRec t && decide (t < P.types.size)) = true)
    (hW : DataW.Whole enc P f.params.toList s.vars apart W args.toList ds [] before) (hb : Below W.heap.size W W') : s.post enc P f apart true false false W args (.bool true) W' := by
  have hr : ∀ t ∈ f.params.toList, P.readableRec t = true ∧ t < P.types.size := fun t ht => by
    have := List.all_eq_true.1 hr0 t ht
    simpa using this
  have hW' := hW
  obtain ⟨p, q, hA, hV, rfl, hfz, hnd⟩ := hW
  rw [hvars] at hV
  obtain ⟨_, rfl⟩ := trodVars_none hV
  refine post_of_below (pa := p) (pv := []) hW' (fun _ _ _ => ?_) (fun sp hsp => ?_) (fun sp _ => ?_) rfl hb ?_
  · rw [hspec.1, hrt]; exact trodAll_mk1 (shut_bool htb true)
  · rw [hspec.2.1]
    exact args_stay hl hb _ _ _ _ hr hA (fun x hx => hW'.lt x (List.mem_append_left _ hx)) (fun x hx => hsp x (List.mem_append_left _ hx))
  · rw [hspec.2.2, hvars]; rfl
  · exact ok_one (by rw [hrt]) rfl (okWide_bool_mk htb true)
end

/-- one for each -/
theorem list_of {α : Type} {p : Nat → α → Prop} : ∀ {n : Nat}, (∀ i, i < n → ∃ a, p i a) → ∃ l : List α, l.length = n ∧ ∀ i (h : i < l.length), p i l[i]
  | 0, _ => ⟨[], rfl, fun i h => by cases h⟩
  | n + 1, h => by
    obtain ⟨l, hl, hp⟩ := list_of (n := n) (fun i hi => h i (by omega))
    obtain ⟨a, ha⟩ := h n (by omega)
    refine ⟨l ++ [a], by simp [hl], fun i hi => ?_⟩
    by_cases hin : i < l.length
    · rw [List.getElem_append_left hin]; exact hp i hin
    · have : i = l.length := by simp at hi; omega
      subst this
      simp only [List.getElem_concat_length]
      rw [hl]; exact ha

/-- an address whose cells are read is a plain one -/
theorem plain_addr {w : World} {a : Addr} {v : Value} (h : w.cell? (a.add 0) = some v) : ∃ g off, a = ⟨g, off, none⟩ := by
  obtain ⟨b, o, s⟩ := a
  cases s with
  | none => exact ⟨b, o, rfl⟩
  | some s =>
    exfalso
    have e : (⟨b, o, some s⟩ : Addr).add 0 = ⟨b, o, some s⟩ := by unfold Addr.add; rfl
    rw [e] at h
    unfold World.cell? at h
    split at h <;> simp at h
section
variable {H : Type} {enc : TypeId × Value → H} {P : Program} {w : World} {base : Nat} {spare : Nat → Bool} {held : Bool}
/-- a struct's parts, each read by its type -/
def Parts (enc : TypeId × Value → H) (P : Program) (w : World) (base : Nat) (spare : Nat → Bool) (held : Bool) (n : Nat) (fs : Array Field) (cs : List Value) : Prop :=
  ∀ (i : Nat) (f : Field), fs[i]? = some f → ∃ y, DataW.trod enc P w base spare held n f.type ((cs.drop f.offset).take (P.cellsOf f.type)) = some y
theorem trod_parts {t : TypeId} {fs : Array Field} {fuel : Nat} {cs : List Value} {x : DataW H × List MemPlace} (ht : P.underlying t = some (.struct fs)) (h : DataW.trod enc P w base spare held fuel t cs = some x) :
    ∃ n, Parts enc P w base spare held n fs cs := by
  obtain ⟨ys, n, _, _, _, hl, hf⟩ := DataW.trod_struct ht h
  refine ⟨n, fun i f hi => ?_⟩
  have h1 := hf i f hi
  have hlt : i < ys.length := by rw [hl]; exact (Array.getElem?_eq_some_iff.1 hi).1
  exact ⟨_, h1.trans (List.getElem?_eq_getElem hlt)⟩
theorem trod_part {n : Nat} {fs : Array Field} {cs : List Value} (h : Parts enc P w base spare held n fs cs) (i : Nat) {f : Field} (hi : fs[i]? = some f) (T o c : Nat) (hT : f.type = T) (ho : f.offset = o) (hc : P.cellsOf T = c) :
    ∃ y, DataW.trod enc P w base spare held n T ((cs.drop o).take c) = some y := by
  subst hT; subst ho; subst hc
  exact h i f hi
end
end Go.Proofs.YtfoleblcaloeoaaGreatDoor

/- Slices of a call's own, of elements of any width; what grows; what is kept. -/
namespace Go.Proofs.YtfoleblcaloeoaaGreatDoor
open Go Go.RowKit

abbrev own (v : Value) : List Nat := v.ownBlock.toList
theorem own_mem {v : Value} {k : Nat} : k ∈ own v ↔ v.ownBlock = some k := by simp [own]
theorem own_nil {k : Nat} (h : k ∈ own (.slice none 0 0)) : False := by simp [own, Value.ownBlock] at h
theorem own_at {g off n c : Nat} : own (.slice (some ⟨g, off, none⟩) n c) = [g] := rfl
theorem size_set (w : World) (p : Addr) (u : Value) : (w.setCell p u).heap.size = w.heap.size := by simp [World.setCell]
theorem blk_other {w : World} {e e' : TypeId} {size n : Nat} {v : Value} {cs : List Value} (h : Sl w e size v n cs) {p : Nat} {cs' : Array Value} (hb : Blk w p e' cs') (ht : e' ≠ e) : v.ownBlock ≠ some p := by
  intro e1
  obtain ⟨_, ⟨rfl, _⟩ | ⟨g, off, cap, cur, rfl, hg, _⟩⟩ := h
  · cases e1
  · simp only [Value.ownBlock, Option.some.injEq] at e1
    subst e1
    exact hg.ne_ hb (Ne.symm ht) rfl
theorem Sl.blk {w : World} {e : TypeId} {size n : Nat} {v : Value} {cs : List Value} (h : Sl w e size v n cs) {k : Nat} (hk : k ∈ own v) : ∃ cur, Blk w k e cur := by
  rw [own_mem] at hk
  obtain ⟨_, ⟨rfl, _⟩ | ⟨g, off, cap, cur, rfl, hg, _⟩⟩ := h
  · cases hk
  · simp only [Value.ownBlock, Option.some.injEq] at hk
    subst hk
    exact ⟨_, hg⟩
theorem Sl.own_lt {w : World} {e : TypeId} {size n : Nat} {v : Value} {cs : List Value} (h : Sl w e size v n cs) : ∀ k ∈ own v, k < w.heap.size := fun k hk => h.lt k (own_mem.1 hk)
theorem Sl.setc {w : World} {e : TypeId} {size n : Nat} {g off c : Nat} {cs : List Value} (h : Sl w e size (.slice (some ⟨g, off, none⟩) n c) n cs) {j : Nat} (hj : j < n * size) (u : Value) :
    Sl (w.setCell ⟨g, off + j, none⟩ u) e size (.slice (some ⟨g, off, none⟩) n c) n (cs.set j u) := by
  obtain ⟨hl, ⟨e1, e2⟩ | ⟨g', off', cap, cur, e1, hb, hnc, hcm, hs, ht⟩⟩ := h
  · cases e1
  · injection e1 with e1 _ e3
    injection e1 with e1
    injection e1 with e1 e2
    subst e1; subst e2; subst e3
    refine ⟨by simp [hl], .inr ⟨g, off, c, _, rfl, hb.set_ (off + j) u, hnc, hcm, by simpa using hs, ?_⟩⟩
    have hcap : n * size ≤ c * size := Nat.mul_le_mul_right _ hnc
    have hlt : off + j < cur.size := by omega
    rw [Array.toList_setIfInBounds, ← ht]
    rw [List.drop_set, if_neg (by omega), List.take_set]
    congr 1
    omega
theorem Sl.frozen {w : World} {e : TypeId} {size n : Nat} {g off c : Nat} {cs : List Value} (h : Sl w e size (.slice (some ⟨g, off, none⟩) n c) n cs) (i : Nat) : w.frozen? ⟨g, i, none⟩ = false := by
  obtain ⟨cur, hb⟩ := Sl.blk h (k := g) (by simp [own, Value.ownBlock])
  exact hb.frozen i
theorem Sl.addr {w : World} {e : TypeId} {size n c : Nat} {A : Option Addr} {cs : List Value} (h : Sl w e size (.slice A n c) n cs) (hn : 0 < n) : ∃ g off, A = some ⟨g, off, none⟩ := by
  obtain ⟨_, ⟨e1, e2⟩ | ⟨g', off', cap, cur, e1, hb, hnc, hcm, hs, ht⟩⟩ := h
  · injection e1 with _ e1 _; omega
  · injection e1 with e1 _ _; exact ⟨_, _, e1⟩
theorem Rd.addr {w : World} {size n c : Nat} {A : Option Addr} {cs : List Value} (h : Rd w size (.slice A n c) n cs) (hn : 0 < n) : ∃ g off, A = some ⟨g, off, none⟩ := by
  obtain ⟨g, off, c', e, _, _⟩ := h.at_ hn
  injection e with e _ _
  exact ⟨g, off, e⟩
theorem Rd_new (w : World) (e : TypeId) (size n : Nat) (cs : List Value) (h : cs.length = n * size) : Rd (w.alloc (.cells cs.toArray e)) size (.slice (some ⟨w.heap.size, 0, none⟩) n n) n cs :=
  ⟨h, _, _, rfl, Nat.le_refl _, fun _ => ⟨_, 0, rfl, fun j u hu => by rw [(Blk.new w e cs.toArray).cell]; simpa using hu⟩⟩
theorem Sl_nil_new (w : World) (e : TypeId) (size : Nat) : Sl (w.alloc (.cells #[] e)) e size (.slice (some ⟨w.heap.size, 0, none⟩) 0 0) 0 [] := by
  have := Sl.made w e size #[] 0 0 (Nat.le_refl _) (Nat.zero_le _) (by simp)
  simpa using this
theorem not_own {v : Value} {p : Nat} (h : v.ownBlock ≠ some p) : p ∉ own v := fun hm => h (own_mem.1 hm)

/-- the append law, in a plain region -/
theorem wpList_append_sl {P : Program} {ops : Array Oper} {rest : List Oper} {w : World} {o : Oper} {a : Act} {Q : Exit → Act → World → Prop} (hg : o.guard = none) (s x : Operand) (t : TypeId)
    (ho : o.op = .call { callee := .builtin .append, args := #[s, x], argTypes := #[t, t] })
    (e : TypeId) {i : TypeInfo} {z : Value} {size bytes : Nat} (ht : P.underlying t = some (.slice e)) (hi : P.info? e = some i) (hz : i.zero = some z)
    (hsize : i.size = size) (hby : i.bytes = bytes) (hzs : z.cells.size = size)
    {v y : Value} {n m : Nat} {xs news : List Value} (hs : a.eval s = v) (hv : Sl w e size v n xs) (hy : a.eval x = y) (hx : Rd w size y m news) (h1 : ∀ u ∈ news, u.oneCell' = true)
    (h63 : n + m ≤ maxLen) (hbytes : (n + m) * bytes ≤ 140737488355328)
    (h : ∀ v' w', Sl w' e size v' (n + m) (xs ++ news) → Chg (own v) w w' → (v'.ownBlock = v.ownBlock ∨ v'.ownBlock = some w.heap.size) → wpList P ops Q rest (a.put o.dst v') w') : wpList P ops Q (o :: rest) a w :=
  wpList_plain hg fun _ hK => wp_append_sl s x t ho e ht hi hz hsize hby hzs hs hv hy hx h1 h63 hbytes fun v' w' a b c => hK _ _ (h v' w' a b c)

/-! ## What grows, what is kept -/
theorem Chg.up {a b : World} (h : Chg [] a b) (F : List Nat) : Chg F a b := h.mono (fun _ hk => by cases hk)
theorem Chg.then_ {F : List Nat} {a b c : World} (h : Chg [] a b) (k : Chg F b c) : Chg F a c := (h.up F).trans k (fun _ hk => .inl hk)
theorem Chg.and_ {F : List Nat} {a b c : World} (h : Chg F a b) (k : Chg F b c) : Chg F a c := h.trans k (fun _ hk => .inl hk)
theorem Chg.stay {F : List Nat} {a b c : World} (h : Chg F a b) (k : Chg [] b c) : Chg F a c := h.trans k (fun _ hk => by cases hk)
def Grow (W : World) (v V : Value) : Prop := ∀ k ∈ own V, k ∈ own v ∨ W.heap.size ≤ k
theorem grow_of {W : World} {v V : Value} (h : V.ownBlock = v.ownBlock ∨ V.ownBlock = some W.heap.size) : Grow W v V := fun k hk => by
  rw [own_mem] at hk
  rcases h with e | e
  · exact .inl (own_mem.2 (by rw [← e]; exact hk))
  · rw [hk] at e; exact .inr (by simp at e; omega)
theorem Grow.refl (W : World) (v : Value) : Grow W v v := fun _ hk => .inl hk
theorem Grow.trans {W W' : World} {u v V : Value} (h : Grow W u v) (k : Grow W' v V) (hs : W.heap.size ≤ W'.heap.size) : Grow W u V := fun i hi => (k i hi).elim (h i) (fun h' => .inr (Nat.le_trans hs h'))
theorem Grow.of_le {W W' : World} {v V : Value} (h : Grow W' v V) (hs : W.heap.size ≤ W'.heap.size) : Grow W v V := fun i hi => (h i hi).imp id (Nat.le_trans hs)
def Dj (v u : Value) : Prop := ∀ k ∈ own v, k ∉ own u
theorem Dj.symm {v u : Value} (h : Dj v u) : Dj u v := fun k hk hk' => h k hk' hk
theorem Dj.nil (v : Value) : Dj v (.slice none 0 0) := fun _ _ h => own_nil h
theorem Dj.nil' (v : Value) : Dj (.slice none 0 0) v := fun _ h => (own_nil h).elim
def Step (F F' : List Nat) (w : World) : Prop := ∀ k ∈ F', k ∈ F ∨ w.heap.size ≤ k
theorem Step.refl (F : List Nat) (w : World) : Step F F w := fun _ hk => .inl hk
def Keep (N : List Nat) (W W' : World) : Prop := ∀ k ∈ N, W'.heap[k]? = W.heap[k]?
theorem Keep.refl (N : List Nat) (W : World) : Keep N W W := fun _ _ => rfl
theorem Keep.trans {N : List Nat} {A B C : World} (h : Keep N A B) (k : Keep N B C) : Keep N A C := fun i hi => (k i hi).trans (h i hi)
theorem Keep.sub {M N : List Nat} {A B : World} (h : Keep N A B) (hs : ∀ k ∈ M, k ∈ N) : Keep M A B := fun i hi => h i (hs i hi)
theorem Keep.blk {N : List Nat} {W W' : World} {g : Nat} {t : TypeId} {cs : Array Value} (h : Keep N W W') (hb : Blk W g t cs) (hg : g ∈ N) : Blk W' g t cs := (h g hg).trans hb
theorem Keep.sl {N : List Nat} {W W' : World} {e : TypeId} {size n : Nat} {v : Value} {cs : List Value} (h : Keep N W W') (hb : Sl W e size v n cs) (hg : ∀ k, v.ownBlock = some k → k ∈ N) : Sl W' e size v n cs := Sl.keep hb fun k hk => h k (hg k hk)
theorem keep_chg {F N : List Nat} {W W' : World} (hc : Chg F W W') (hN : ∀ k ∈ N, k < W.heap.size ∧ k ∉ F) : Keep N W W' := fun k hk => hc.block k (hN k hk).1 (hN k hk).2

/-! ## Elements of some cells each -/
section
variable {α : Type} (enc : α → List Value)
def fc (l : List α) : List Value := l.flatMap enc
theorem fc_nil : fc enc ([] : List α) = [] := rfl
theorem fc_append (l m : List α) : fc enc (l ++ m) = fc enc l ++ fc enc m := by simp [fc]
theorem fc_one (x : α) : fc enc [x] = enc x := by simp [fc]
variable {enc} {size : Nat} (he : ∀ x, (enc x).length = size)
include he
theorem fc_length (l : List α) : (fc enc l).length = l.length * size := by
  induction l with
  | nil => simp [fc]
  | cons a l ih =>
    have e : fc enc (a :: l) = enc a ++ fc enc l := by simp [fc]
    rw [e, List.length_append, ih, he, List.length_cons, Nat.add_mul]
    omega
theorem fc_take (l : List α) (k : Nat) : (fc enc l).take (k * size) = fc enc (l.take k) := by
  induction l generalizing k with
  | nil => simp [fc]
  | cons a l ih =>
    have e : fc enc (a :: l) = enc a ++ fc enc l := by simp [fc]
    cases k with
    | zero => simp [fc]
    | succ k =>
      have e2 : fc enc ((a :: l).take (k + 1)) = enc a ++ fc enc (l.take k) := by simp [fc]
      rw [e, e2, List.take_append, List.take_of_length_le (by rw [he, Nat.add_mul]; omega), he, ← ih]
      congr 2
      rw [Nat.add_mul]; omega
theorem fc_drop (l : List α) (k : Nat) : (fc enc l).drop (k * size) = fc enc (l.drop k) := by
  induction l generalizing k with
  | nil => simp [fc]
  | cons a l ih =>
    have e : fc enc (a :: l) = enc a ++ fc enc l := by simp [fc]
    cases k with
    | zero => simp [fc]
    | succ k =>
      have e2 : fc enc ((a :: l).drop (k + 1)) = fc enc (l.drop k) := by simp
      rw [e, e2, List.drop_append, List.drop_of_length_le (by rw [he, Nat.add_mul]; omega), he, ← ih, List.nil_append]
      congr 1
      rw [Nat.add_mul]; omega
theorem fc_get (l : List α) (k j : Nat) (hk : k < l.length) (hj : j < size) : (fc enc l)[k * size + j]? = (enc l[k])[j]? := by
  have h1 : (fc enc l)[k * size + j]? = ((fc enc l).drop (k * size))[j]? := by rw [List.getElem?_drop]
  rw [h1, fc_drop he, List.drop_eq_getElem_cons hk]
  have e : ∀ x (m : List α), fc enc (x :: m) = enc x ++ fc enc m := fun x m => by simp [fc]
  rw [e, List.getElem?_append_left (by rw [he]; exact hj)]
theorem fc_set (l : List α) (k j : Nat) (hk : k < l.length) (hj : j < size) (u : Value) (x : α) (hx : enc x = (enc l[k]).set j u) : fc enc (l.set k x) = (fc enc l).set (k * size + j) u := by
  refine List.ext_getElem? fun i => ?_
  rw [List.getElem?_set]
  by_cases hi : i < l.length * size
  · have hs : 0 < size := by omega
    obtain ⟨a, b, rfl, hb⟩ : ∃ a b, i = a * size + b ∧ b < size := ⟨i / size, i % size, by rw [Nat.mul_comm]; exact (Nat.div_add_mod i size).symm, Nat.mod_lt _ hs⟩
    have ha : a < l.length := by
      refine Classical.byContradiction fun h => ?_
      have : l.length * size ≤ a * size := Nat.mul_le_mul_right _ (by omega)
      omega
    rw [fc_get he _ a b (by simpa using ha) hb, fc_get he _ a b ha hb, List.getElem_set]
    by_cases hak : k = a
    · subst hak
      rw [if_pos rfl, hx, List.getElem?_set]
      by_cases hjb : j = b
      · subst hjb
        rw [if_pos rfl, if_pos rfl, if_pos (by rw [he]; exact hj), if_pos (by rw [fc_length he]; omega)]
      · rw [if_neg hjb, if_neg (by omega)]
    · rw [if_neg hak, if_neg]
      intro e
      have h1 : k * size + j < (k + 1) * size := by rw [Nat.add_mul]; omega
      have h2 : a * size + b < (a + 1) * size := by rw [Nat.add_mul]; omega
      rcases Nat.lt_or_ge k a with h | h
      · have := Nat.mul_le_mul_right size (show k + 1 ≤ a by omega)
        omega
      · have := Nat.mul_le_mul_right size (show a + 1 ≤ k by omega)
        omega
  · rw [List.getElem?_eq_none (by rw [fc_length he, List.length_set]; omega)]
    have : (fc enc l)[i]? = none := List.getElem?_eq_none (by rw [fc_length he]; omega)
    rw [this]
    by_cases e : k * size + j = i
    · rw [if_pos e, if_neg (by rw [fc_length he]; omega)]
    · rw [if_neg e]
end
/-- a slice that reads as a list -/
def RE {α : Type} (enc : α → List Value) (size : Nat) (w : World) (v : Value) (l : List α) : Prop := Rd w size v l.length (fc enc l)
/-- a slice of the call's own -/
def SE {α : Type} (enc : α → List Value) (size : Nat) (e : TypeId) (w : World) (v : Value) (l : List α) : Prop := Sl w e size v l.length (fc enc l)
section
variable {α : Type} {enc : α → List Value} {size : Nat} {e : TypeId} {w w' : World} {v : Value} {l : List α}
theorem SE.re (h : SE enc size e w v l) : RE enc size w v l := Sl.rd h
theorem SE.form (h : SE enc size e w v l) : ∃ A c, v = .slice A l.length c := Sl.form h
theorem RE.form (h : RE enc size w v l) : ∃ A c, v = .slice A l.length c := Rd.form h
theorem SE.nil (enc : α → List Value) (size : Nat) (e : TypeId) (w : World) : SE enc size e w (.slice none 0 0) [] := Sl.nil _ _ _
theorem RE.nil (enc : α → List Value) (size : Nat) (w : World) (A : Option Addr) (c : Nat) : RE enc size w (.slice A 0 c) [] := Rd.nil _ _ _ _
theorem SE.own_lt (h : SE enc size e w v l) : ∀ k ∈ own v, k < w.heap.size := Sl.own_lt h
theorem SE.chg (h : SE enc size e w v l) {F : List Nat} (hc : Chg F w w') (hF : ∀ k ∈ own v, k ∉ F) : SE enc size e w' v l := Sl.chg h hc fun k hk => hF k (own_mem.2 hk)
theorem RE.chg (h : RE enc size w v l) {F : List Nat} (hc : Chg F w w') (hF : ∀ k ∈ own v, k ∉ F) : RE enc size w' v l := Rd.chg h hc fun k hk => hF k (own_mem.2 hk)
theorem SE.stay (h : SE enc size e w v l) (hc : Chg [] w w') : SE enc size e w' v l := h.chg hc (fun _ _ h => by cases h)
theorem RE.stay (h : RE enc size w v l) (hc : Chg [] w w') : RE enc size w' v l := h.chg hc (fun _ _ h => by cases h)
theorem SE.addr {A : Option Addr} {n c : Nat} (h : SE enc size e w (.slice A n c) l) (hn : 0 < n) : ∃ g off, A = some ⟨g, off, none⟩ := by
  obtain ⟨A', c', e'⟩ := h.form
  injection e' with _ e2 _
  subst e2
  exact Sl.addr h hn
theorem RE.addr {A : Option Addr} {n c : Nat} (h : RE enc size w (.slice A n c) l) (hn : 0 < n) : ∃ g off, A = some ⟨g, off, none⟩ := by
  obtain ⟨A', c', e'⟩ := h.form
  injection e' with _ e2 _
  subst e2
  exact Rd.addr h hn
theorem SE.frozen {g off n c : Nat} (h : SE enc size e w (.slice (some ⟨g, off, none⟩) n c) l) (i : Nat) : w.frozen? ⟨g, i, none⟩ = false := by
  obtain ⟨cur, hb⟩ := Sl.blk h (k := g) (by simp [own, Value.ownBlock])
  exact hb.frozen i
theorem RE.cell (he : ∀ x, (enc x).length = size) {g off n c : Nat} (h : RE enc size w (.slice (some ⟨g, off, none⟩) n c) l) {k j : Nat} (hk : k < l.length) (hj : j < size) {u : Value} (hu : (enc l[k])[j]? = some u) : w.cell? ⟨g, off + k * size + j, none⟩ = some u := by
  obtain ⟨g', off', c', e, _, hat⟩ := Rd.at_ h hk
  injection e with e _ _
  injection e with e
  injection e with e1 e2
  subst e1; subst e2
  obtain ⟨u', hu', hc⟩ := hat j hj
  rw [fc_get he _ _ _ hk hj, hu] at hu'
  injection hu' with hu'
  subst hu'
  exact hc
theorem SE.set (he : ∀ x, (enc x).length = size) {g off n c : Nat} (h : SE enc size e w (.slice (some ⟨g, off, none⟩) n c) l) {k j : Nat} (hk : k < l.length) (hj : j < size) {u : Value} {x : α} (hx : enc x = (enc l[k]).set j u) : SE enc size e (w.setCell ⟨g, off + (k * size + j), none⟩ u) (.slice (some ⟨g, off, none⟩) n c) (l.set k x) := by
  obtain ⟨A, c', e⟩ := h.form
  injection e with _ e2 _
  subst e2
  unfold SE at h ⊢
  rw [List.length_set, fc_set he l k j hk hj u x hx]
  refine h.setc ?_ u
  have : (k + 1) * size ≤ l.length * size := Nat.mul_le_mul_right _ (by omega)
  rw [Nat.add_mul] at this
  omega
theorem SE.take (he : ∀ x, (enc x).length = size) {A : Option Addr} {n c k : Nat} (h : SE enc size e w (.slice A n c) l) (hk : k ≤ l.length) : SE enc size e w (.slice A k c) (l.take k) := by
  obtain ⟨A', c', e'⟩ := h.form
  injection e' with _ e2 _
  subst e2
  unfold SE at h ⊢
  have := Sl.take h hk rfl
  rw [fc_take he] at this
  rw [List.length_take, Nat.min_eq_left hk]
  exact this
end
end Go.Proofs.YtfoleblcaloeoaaGreatDoor

/- A region that draws its order is walked once, in the order of the text: whatever order is drawn comes to the same end, where the pairs that no edge orders commute. -/
namespace Go.Proofs.YtfoleblcaloeoaaGreatDoor
open Go

/-- the heap of the one is the heap of the other, and more -/
def Ext (w w' : World) : Prop := ∀ (i : Nat) (o : Obj), w.heap[i]? = some o → w'.heap[i]? = some o

theorem Ext.refl (w : World) : Ext w w := fun _ _ h => h
theorem Ext.trans {a b c : World} (h : Ext a b) (k : Ext b c) : Ext a c := fun i o hi => k i o (h i o hi)
theorem Ext.push (w : World) (o : Obj) : Ext w { w with heap := w.heap.push o } := fun i x hi => by
  have hlt : i < w.heap.size := (Array.getElem?_eq_some_iff.1 hi).1
  show (w.heap.push o)[i]? = some x
  rw [Array.getElem?_push_lt hlt]
  rw [Array.getElem?_eq_getElem hlt] at hi
  exact hi

theorem Ext.cell {w w' : World} (h : Ext w w') {a : Addr} {v : Value} (hc : w.cell? a = some v) : w'.cell? a = some v := by
  unfold World.cell? at *
  cases hb : w.heap[a.block]? with
  | none => rw [hb] at hc; cases hc
  | some o => rw [hb] at hc; rw [h _ _ hb]; exact hc

theorem Ext.seen {P : Program} {w w' : World} (h : Ext w w') {a k : Addr} {u : TypeId} {m : Bool} {r : _} (hs : w.seen P a u k m = .ok r) : w'.seen P a u k m = .ok r := by
  unfold World.seen at *
  cases hb : w.heap[a.block]? with
  | some o => rw [hb] at hs; rw [h _ _ hb]; exact hs
  | none =>
    exfalso
    rw [hb] at hs
    simp only [bind, Except.bind] at hs
    repeat' (split at hs)
    all_goals first | (cases hs; done) | (exact absurd hs (by simp))

theorem Ext.viewLoad {P : Program} {w w' : World} (h : Ext w w') {a k : Addr} {u : TypeId} {m : Bool} {r : _} (hs : w.viewLoad P a u k m = .ok r) : w'.viewLoad P a u k m = .ok r := by
  unfold World.viewLoad at *
  cases hb : w.seen P a u k m with
  | ok x => rw [hb] at hs; rw [h.seen hb]; exact hs
  | error e => rw [hb] at hs; cases hs

theorem Ext.farLoad {P : Program} {w w' : World} (h : Ext w w') {a : Addr} {m : Bool} {r : _} (hs : w.farLoad P a m = .ok r) : w'.farLoad P a m = .ok r := by
  unfold World.farLoad at *
  cases hb : w.heap[a.block]? with
  | none => rw [hb] at hs; cases hs
  | some o =>
    rw [hb] at hs; rw [h _ _ hb]
    cases o <;> simp only at hs ⊢ <;> try (cases hs; done)
    rename_i at_ u
    cases hv : w.viewLoad P at_ u a m with
    | ok x => rw [hv] at hs; rw [h.viewLoad hv]; exact hs
    | error e => rw [hv] at hs; cases hs

/-- where it runs to an end it changes nothing, and comes to the same end in every greater world -/
def OkMono {α : Type} (P : Program) (s : Sem α) : Prop := ∀ w x w', s.run P w = .ok x w' → w' = w ∧ ∀ w2, Ext w w2 → s.run P w2 = .ok x w2

theorem OkMono.pure {α : Type} (P : Program) (x : α) : OkMono P (Sem.pure x) := fun w y w' h => by
  simp only [Sem.run] at h
  cases h
  exact ⟨rfl, fun w2 _ => rfl⟩
theorem OkMono.halt {α : Type} (P : Program) (x : Halt) : OkMono P (Sem.halt x : Sem α) := fun w y w' h => by
  simp only [Sem.run] at h
  cases h
theorem OkMono.load {α : Type} {P : Program} {m : Mode} {a : Addr} {k : Value → Sem α} (hk : ∀ v, OkMono P (k v)) : OkMono P (.load m a k) := fun w x w' h => by
  simp only [Sem.run] at h ⊢
  cases hc : w.cell? a with
  | some v =>
    rw [hc] at h
    obtain ⟨e, hh⟩ := hk v w x w' h
    exact ⟨e, fun w2 h2 => by rw [h2.cell hc]; exact hh w2 h2⟩
  | none =>
    rw [hc] at h
    cases hf : w.farLoad P a (m == .atomic) with
    | error e => rw [hf] at h; cases h
    | ok r =>
      obtain ⟨v, l⟩ := r
      rw [hf] at h
      obtain ⟨e, hh⟩ := hk v w x w' h
      refine ⟨e, fun w2 h2 => ?_⟩
      have hf2 := h2.farLoad hf
      cases hc2 : w2.cell? a with
      | none => simp only [hf2]; exact hh w2 h2
      | some u =>
        exfalso
        unfold World.farLoad at hf2
        unfold World.cell? at hc2
        cases hb : w2.heap[a.block]? with
        | none => rw [hb] at hc2; cases hc2
        | some o =>
          rw [hb] at hc2 hf2
          cases o <;> simp only at hc2 hf2 <;> first | (cases hc2; done) | (cases hf2; done)
theorem OkMono.program {α : Type} {P : Program} {k : Program → Sem α} (hk : ∀ p, OkMono P (k p)) : OkMono P (.program k) := fun w x w' h => by
  simp only [Sem.run] at h ⊢
  exact hk P w x w' h
theorem OkMono.bind {α β : Type} {P : Program} {s : Sem α} {f : α → Sem β} (hs : OkMono P s) (hf : ∀ x, OkMono P (f x)) : OkMono P (s >>= f) := fun w x w' h => by
  simp only [Sem.run_bind] at h ⊢
  cases hr : s.run P w with
  | halt e w1 => rw [hr] at h; cases h
  | ok y w1 =>
    rw [hr] at h
    obtain ⟨rfl, h1⟩ := hs w y w1 hr
    simp only [Result.andThen] at h
    obtain ⟨e, h2⟩ := hf y _ x w' h
    exact ⟨e, fun w2 hw => by rw [h1 w2 hw]; exact h2 w2 hw⟩

theorem OkMono.typeInfo (P : Program) (t : TypeId) : OkMono P (typeInfo t) := by
  unfold Go.typeInfo Go.program
  refine OkMono.bind (OkMono.program fun p => OkMono.pure P p) fun p => ?_
  split
  · exact OkMono.pure _ _
  · exact OkMono.halt _ _
theorem OkMono.underlying (P : Program) (t : TypeId) : OkMono P (underlying t) := by
  unfold Go.underlying Go.program
  refine OkMono.bind (OkMono.program fun p => OkMono.pure P p) fun p => ?_
  split
  · exact OkMono.pure _ _
  · exact OkMono.halt _ _
theorem OkMono.sizeOf (P : Program) (t : TypeId) : OkMono P (sizeOf t) := by
  unfold Go.sizeOf
  exact OkMono.bind (OkMono.typeInfo P t) fun _ => OkMono.pure _ _
theorem OkMono.isAgg (P : Program) (t : TypeId) : OkMono P (isAgg t) := by
  unfold Go.isAgg
  refine OkMono.bind (OkMono.underlying P t) fun _ => ?_
  split <;> exact OkMono.pure _ _
theorem OkMono.loadCellsFrom (P : Program) (a : Addr) : ∀ (n i : Nat) (acc : Array Value), OkMono P (loadCellsFrom a i n acc)
  | 0, _, _ => OkMono.pure _ _
  | n + 1, i, acc => by
    unfold Go.loadCellsFrom
    exact OkMono.bind (OkMono.load fun v => OkMono.pure P v) fun v => OkMono.loadCellsFrom P a n (i + 1) (acc.push v)
theorem OkMono.loadVar (P : Program) (t : TypeId) (a : Addr) : OkMono P (loadVar t a) := by
  unfold Go.loadVar
  refine OkMono.bind (OkMono.isAgg P t) fun b => ?_
  split
  · exact OkMono.bind (OkMono.sizeOf P t) fun n => OkMono.bind (OkMono.loadCellsFrom P a n 0 #[]) fun _ => OkMono.pure _ _
  · exact OkMono.load fun v => OkMono.pure P v
theorem OkMono.loadAt (P : Program) (t : TypeId) (v : Value) : OkMono P (Instr.loadAt t v) := by
  unfold Instr.loadAt
  refine OkMono.bind ?_ fun a => OkMono.loadVar P t a
  unfold Instr.sureAddr
  split
  · exact OkMono.pure _ _
  · exact OkMono.halt _ _

/-- where it runs to an end all that was there is there still -/
def OkExt {α : Type} (P : Program) (s : Sem α) : Prop := ∀ w x w', s.run P w = .ok x w' → Ext w w'
theorem OkMono.ext {α : Type} {P : Program} {s : Sem α} (h : OkMono P s) : OkExt P s := fun w x w' hr => by
  obtain ⟨rfl, _⟩ := h w x w' hr
  exact Ext.refl _
theorem OkExt.bind {α β : Type} {P : Program} {s : Sem α} {f : α → Sem β} (hs : OkExt P s) (hf : ∀ x, OkExt P (f x)) : OkExt P (s >>= f) := fun w x w' h => by
  simp only [Sem.run_bind] at h
  cases hr : s.run P w with
  | halt e w1 => rw [hr] at h; cases h
  | ok y w1 =>
    rw [hr] at h
    simp only [Result.andThen] at h
    exact (hs w y w1 hr).trans (hf y w1 x w' h)
theorem OkExt.newRow (P : Program) (t : TypeId) (cs : Array Value) : OkExt P (newRow t cs) := by
  unfold Go.newRow Go.newObj
  refine OkExt.bind (fun w x w' h => ?_) fun _ => (OkMono.pure _ _).ext
  simp only [Sem.run] at h
  cases h
  exact Ext.push w _
theorem OkExt.newVar (P : Program) (t : TypeId) (v : Value) : OkExt P (newVar t v) := OkExt.newRow P t _
theorem OkExt.zeroValue (P : Program) (t : TypeId) : OkExt P (zeroValue t) := by
  unfold Go.zeroValue
  refine OkExt.bind (OkMono.typeInfo P t).ext fun i => ?_
  split
  · exact (OkMono.pure _ _).ext
  · exact (OkMono.halt _ _).ext
theorem OkExt.alloc (P : Program) (t : TypeId) : OkExt P (Instr.alloc t true (.tuple #[])) := by
  unfold Instr.alloc
  refine OkExt.bind (OkExt.zeroValue P t) fun z => ?_
  exact OkExt.bind (OkExt.newVar P t z) fun _ => (OkMono.pure _ _).ext
theorem OkExt.box (P : Program) (t : TypeId) (v : Value) : OkExt P (Instr.box t v) := by
  unfold Instr.box
  exact OkExt.bind (OkExt.newVar P t v) fun _ => (OkMono.pure _ _).ext
theorem OkExt.buildSlice (P : Program) (t : TypeId) (n : Nat) (ps : Array (Nat × Value)) : OkExt P (Instr.buildSlice t n ps) := by
  unfold Instr.buildSlice
  repeat' (first
    | exact (OkMono.pure _ _).ext
    | exact (OkMono.halt _ _).ext
    | exact (OkMono.underlying P _).ext
    | exact (OkMono.sizeOf P _).ext
    | exact OkExt.zeroValue P _
    | exact OkExt.newRow P _ _
    | (refine OkExt.bind ?_ fun _ => ?_)
    | split
    | (dsimp only; split))

/-! ## The steps -/

/-- nothing but an end by itself serves -/
def NoQ : Exit → Act → World → Prop := fun _ _ _ => False
theorem noQ_lets : ¬ LetsOut NoQ := fun ⟨_, _, h⟩ => h

/-- what an operation may have done to the frame -/
def Put (d : Option Tmp) (a a' : Act) : Prop := ∃ (u : Value) (ds : List Deferred), a' = ({ a with defers := ds } : Act).put d u

section
variable {P : Program} {ops : Array Oper}

theorem put_with (a : Act) (d : Option Tmp) (v : Value) (ds : List Deferred) : ({ a.put d v with defers := ds } : Act) = ({ a with defers := ds } : Act).put d v := by
  cases d <;> rfl

/-- whatever it comes to, as a deed -/
theorem wp_know {o : Oper} {a : Act} {w : World} {K : Act → World → Prop} (h : o.wp P a w K NoQ) : o.wp P a w (fun a' w' => Put o.dst a a' ∧ K a' w') NoQ := by
  unfold Oper.wp at *
  generalize (execOp a.eval o).run P w = r at *
  cases r with
  | ok n w1 =>
    cases n <;> simp only [Oper.upon] at h ⊢
    case value u => exact ⟨⟨u, a.defers, rfl⟩, h⟩
    case skip => exact ⟨⟨undef, a.defers, rfl⟩, h⟩
    case defer d => exact ⟨⟨undef, _, rfl⟩, h⟩
    case enter f args =>
      refine Calls.mono h fun e w2 he => ?_
      cases e with
      | returned u => exact ⟨⟨u, a.defers, rfl⟩, he⟩
      | panicked c => exact he
      | outgrown => exact he
    case row row args => exact Rows.mono h fun u w2 he => ⟨⟨u, a.defers, rfl⟩, he⟩
  | halt x w1 =>
    cases x <;> simp only [Oper.upon] at h ⊢
    exact h

theorem wp_some {o : Oper} {a : Act} {w : World} {K : Act → World → Prop} (h : o.wp P a w K NoQ) : ∃ a' w', Put o.dst a a' ∧ K a' w' := by
  unfold Oper.wp at h
  generalize (execOp a.eval o).run P w = r at h
  cases r with
  | ok n w1 =>
    cases n <;> simp only [Oper.upon] at h
    case value u => exact ⟨_, _, ⟨u, a.defers, rfl⟩, h⟩
    case skip => exact ⟨_, _, ⟨undef, a.defers, rfl⟩, h⟩
    case defer d => exact ⟨_, _, ⟨undef, _, rfl⟩, h⟩
    case enter f args =>
      obtain ⟨e, w2, fr, he, _⟩ := h []
      cases e with
      | returned u => exact ⟨_, _, ⟨u, a.defers, rfl⟩, he⟩
      | panicked c => exact he.elim
      | outgrown => exact (noQ_lets he).elim
    case row row args =>
      obtain ⟨u, w2, he, _⟩ := h default []
      exact ⟨_, _, ⟨u, a.defers, rfl⟩, he⟩
  | halt x w1 =>
    cases x <;> simp only [Oper.upon] at h
    exact h.elim

/-- an operation that looks at nothing of what was put -/
theorem wp_put_iff {o : Oper} (hs : ∀ cs b, o.op ≠ .select cs b) {a : Act} {d : Option Tmp} {v : Value} {w : World} {K : Act → World → Prop}
    (h1 : ∀ t, d = some t → t ∉ o.looksAt ops) (h2 : ∀ t, d = some t → o.dst ≠ some t) :
    o.wp P (a.put d v) w K NoQ ↔ o.wp P a w (fun a' w' => K (a'.put d v) w') NoQ := by
  unfold Oper.wp
  rw [execOp_put o hs a d v h1]
  generalize (execOp a.eval o).run P w = r
  cases r with
  | ok n w1 =>
    cases n <;> simp only [Oper.upon]
    case value u => rw [Act.put_comm a v u h2]
    case skip => rw [Act.put_comm a v undef h2]
    case defer x => rw [Act.put_defers, Act.put_comm _ v undef h2]
    case enter f args =>
      constructor
      · exact fun h => Calls.mono h fun e w2 he => by
          cases e with
          | returned u => show K ((a.put o.dst u).put d v) w2; rw [← Act.put_comm a v u h2]; exact he
          | panicked c => exact he
          | outgrown => exact he
      · exact fun h => Calls.mono h fun e w2 he => by
          cases e with
          | returned u => show K ((a.put d v).put o.dst u) w2; rw [Act.put_comm a v u h2]; exact he
          | panicked c => exact he
          | outgrown => exact he
    case row row args =>
      constructor
      · exact fun h => Rows.mono h fun u w2 he => by rw [← Act.put_comm a v u h2]; exact he
      · exact fun h => Rows.mono h fun u w2 he => by rw [Act.put_comm a v u h2]; exact he
  | halt x w1 => cases x <;> simp only [Oper.upon] <;> exact Iff.rfl

theorem wp_noQ {o : Oper} {a : Act} {w : World} {K : Act → World → Prop} {Q : Exit → Act → World → Prop} (h : o.wp P a w K NoQ) : o.wp P a w K Q := by
  unfold Oper.wp at *
  generalize (execOp a.eval o).run P w = r at *
  cases r with
  | ok n w1 =>
    cases n <;> simp only [Oper.upon] at h ⊢ <;> first | exact h | skip
    case enter f args =>
      refine Calls.mono h fun e w2 he => ?_
      cases e with
      | returned u => exact he
      | panicked c => exact he.elim
      | outgrown => exact (noQ_lets he).elim
  | halt x w1 =>
    cases x <;> simp only [Oper.upon] at h ⊢
    exact h.elim

/-- it yields 'v', and leaves the world as it is -/
def StillAt (P : Program) (o : Oper) (ρ : Operand → Value) (w : World) (v : Value) : Prop :=
  match (execOp ρ o).run P w with
  | .ok (.value u) w' => u = v ∧ w' = w
  | .ok .skip w' => undef = v ∧ w' = w
  | .ok (.enter f args) w' => w' = w ∧ Calls P f args w (fun e w'' => e = .returned v ∧ w'' = w)
  | _ => False

def isLoad (o : Oper) : Bool := match o.op with
  | .load _ _ => true
  | _ => false

theorem StillAt.wp {o : Oper} {a : Act} {w : World} {v : Value} (h : StillAt P o a.eval w v) {K : Act → World → Prop} (hK : K (a.put o.dst v) w) : o.wp P a w K NoQ := by
  unfold StillAt at h
  unfold Oper.wp
  generalize (execOp a.eval o).run P w = r at *
  cases r with
  | ok n w1 =>
    cases n <;> simp only [Oper.upon] at h ⊢ <;> try (exact h.elim)
    case value u => obtain ⟨rfl, rfl⟩ := h; exact hK
    case skip => obtain ⟨rfl, rfl⟩ := h; exact hK
    case enter f args =>
      obtain ⟨rfl, hc⟩ := h
      refine hc.mono fun e w2 ⟨he, hw⟩ => ?_
      subst he; subst hw
      exact hK
  | halt x w1 => simp only at h

theorem StillAt.one {o : Oper} (ho : isLoad o = true) {ρ : Operand → Value} {w : World} {u v : Value} (h : StillAt P o ρ w u) (k : StillAt P o ρ w v) : u = v := by
  obtain ⟨dst, op, type, pos, after, guard⟩ := o
  cases op <;> simp only [isLoad] at ho <;> first | (cases ho; done) | skip
  rename_i t x
  unfold StillAt execOp at h k
  simp only [Sem.run_bind] at h k
  cases hl : (Instr.loadAt t (ρ x)).run P w with
  | halt _ _ => rw [hl] at h; exact h.elim
  | ok y w2 =>
    rw [hl] at h k
    simp only [Result.andThen, Sem.run_pure] at h k
    exact h.1.symm.trans k.1

/-- one operation, by its kind: 0 yields one value in whatever world; 1 loads; 2 makes new memory; 5 yields one value, and changes nothing, in every world of which S holds; 6 keeps S; any other: any deed -/
def stepK (P : Program) (ops : Array Oper) (ks : Array Nat) (S : World → Prop) (i : Nat) (K : Act → World → Prop) (a : Act) (w : World) : Prop :=
  match ops[i]? with
  | none => K a w
  | some o =>
    if Region.wanted o (yielded ops a.tmps) = true then
      if ks.getD i 3 = 0 then ∃ v, (∀ w', (execOp a.eval o).run P w' = .ok (.value v) w') ∧ K (a.put o.dst v) w
      else if ks.getD i 3 = 5 then S w ∧ ∃ v, (∀ w', S w' → StillAt P o a.eval w' v) ∧ K (a.put o.dst v) w
      else if ks.getD i 3 = 6 then S w ∧ o.wp P a w (fun a' w' => S w' ∧ K a' w') NoQ
      else o.wp P a w K NoQ
    else K (a.put o.dst undef) w

section
variable {ks : Array Nat} {S : World → Prop} {i : Nat} {o : Oper} {K : Act → World → Prop} {a : Act} {w : World}
theorem stepK_none (hi : ops[i]? = none) : stepK P ops ks S i K a w = K a w := by simp only [stepK, hi]
theorem stepK_not (hi : ops[i]? = some o) (hw : ¬ Region.wanted o (yielded ops a.tmps) = true) : stepK P ops ks S i K a w = K (a.put o.dst undef) w := by
  simp only [stepK, hi, if_neg hw]
theorem stepK_0 (hi : ops[i]? = some o) (hw : Region.wanted o (yielded ops a.tmps) = true) (hk : ks.getD i 3 = 0) :
    stepK P ops ks S i K a w = ∃ v, (∀ w', (execOp a.eval o).run P w' = .ok (.value v) w') ∧ K (a.put o.dst v) w := by
  simp only [stepK, hi, if_pos hw, if_pos hk]
theorem stepK_5 (hi : ops[i]? = some o) (hw : Region.wanted o (yielded ops a.tmps) = true) (hk : ks.getD i 3 = 5) :
    stepK P ops ks S i K a w = (S w ∧ ∃ v, (∀ w', S w' → StillAt P o a.eval w' v) ∧ K (a.put o.dst v) w) := by
  simp only [stepK, hi, if_pos hw, if_neg (show ¬ ks.getD i 3 = 0 by omega), if_pos hk]
theorem stepK_6 (hi : ops[i]? = some o) (hw : Region.wanted o (yielded ops a.tmps) = true) (hk : ks.getD i 3 = 6) :
    stepK P ops ks S i K a w = (S w ∧ o.wp P a w (fun a' w' => S w' ∧ K a' w') NoQ) := by
  simp only [stepK, hi, if_pos hw, if_neg (show ¬ ks.getD i 3 = 0 by omega), if_neg (show ¬ ks.getD i 3 = 5 by omega), if_pos hk]
theorem stepK_else (hi : ops[i]? = some o) (hw : Region.wanted o (yielded ops a.tmps) = true) (h0 : ¬ ks.getD i 3 = 0) (h5 : ¬ ks.getD i 3 = 5) (h6 : ¬ ks.getD i 3 = 6) :
    stepK P ops ks S i K a w = o.wp P a w K NoQ := by
  simp only [stepK, hi, if_pos hw, if_neg h0, if_neg h5, if_neg h6]
end

theorem stepK_mono {ks : Array Nat} {S : World → Prop} {i : Nat} {K K' : Act → World → Prop} {a : Act} {w : World} (h : ∀ a w, K a w → K' a w) (hh : stepK P ops ks S i K a w) : stepK P ops ks S i K' a w := by
  cases ho : ops[i]? with
  | none => rw [stepK_none ho] at hh ⊢; exact h _ _ hh
  | some o =>
    by_cases hw : Region.wanted o (yielded ops a.tmps) = true
    · by_cases h0 : ks.getD i 3 = 0
      · rw [stepK_0 ho hw h0] at hh ⊢
        obtain ⟨v, h1, h2⟩ := hh
        exact ⟨v, h1, h _ _ h2⟩
      · by_cases h5 : ks.getD i 3 = 5
        · rw [stepK_5 ho hw h5] at hh ⊢
          obtain ⟨hs, v, h1, h2⟩ := hh
          exact ⟨hs, v, h1, h _ _ h2⟩
        · by_cases h6 : ks.getD i 3 = 6
          · rw [stepK_6 ho hw h6] at hh ⊢
            exact ⟨hh.1, Oper.wp_mono (fun a' w' ⟨s, k⟩ => ⟨s, h _ _ k⟩) hh.2⟩
          · rw [stepK_else ho hw h0 h5 h6] at hh ⊢
            exact Oper.wp_mono h hh
    · rw [stepK_not ho hw] at hh ⊢; exact h _ _ hh

theorem wpOp_of_stepK {ks : Array Nat} {S : World → Prop} {i : Nat} {K : Act → World → Prop} {Q : Exit → Act → World → Prop} {a : Act} {w : World} (hh : stepK P ops ks S i K a w) : wpOp P ops Q i K a w := by
  unfold wpOp
  cases ho : ops[i]? with
  | none => rw [stepK_none ho] at hh; exact hh
  | some o =>
    simp only
    by_cases hw : Region.wanted o (yielded ops a.tmps) = true
    · rw [if_pos hw]
      refine .inl ?_
      by_cases h0 : ks.getD i 3 = 0
      · rw [stepK_0 ho hw h0] at hh
        obtain ⟨v, h1, h2⟩ := hh
        unfold Oper.wp
        rw [h1]
        exact h2
      · by_cases h5 : ks.getD i 3 = 5
        · rw [stepK_5 ho hw h5] at hh
          obtain ⟨hs, v, h1, h2⟩ := hh
          exact wp_noQ ((h1 w hs).wp h2)
        · by_cases h6 : ks.getD i 3 = 6
          · rw [stepK_6 ho hw h6] at hh
            exact wp_noQ (Oper.wp_mono (fun a' w' ⟨_, k⟩ => k) hh.2)
          · rw [stepK_else ho hw h0 h5 h6] at hh
            exact wp_noQ hh
    · rw [stepK_not ho hw] at hh
      rw [if_neg hw]
      exact hh

theorem wanted_know {oi oj : Oper} {a a' : Act} (h : ∀ d, oj.dst = some d → d ∉ oi.looksAt ops) (hp : Put oj.dst a a') :
    Region.wanted oi (yielded ops a'.tmps) = Region.wanted oi (yielded ops a.tmps) := by
  obtain ⟨u, ds, rfl⟩ := hp
  exact wanted_put (ops := ops) oi { a with defers := ds } oj.dst u h
theorem exec_know {oi oj : Oper} (hs : ∀ cs b, oi.op ≠ .select cs b) {a a' : Act} (h : ∀ d, oj.dst = some d → d ∉ oi.looksAt ops) (hp : Put oj.dst a a') :
    execOp a'.eval oi = execOp a.eval oi := by
  obtain ⟨u, ds, rfl⟩ := hp
  exact execOp_put (ops := ops) oi hs { a with defers := ds } oj.dst u h
theorem still_know {oi oj : Oper} (hs : ∀ cs b, oi.op ≠ .select cs b) {a a' : Act} (h : ∀ d, oj.dst = some d → d ∉ oi.looksAt ops) (hp : Put oj.dst a a') {w : World} {v : Value} :
    StillAt P oi a'.eval w v ↔ StillAt P oi a.eval w v := by
  unfold StillAt
  rw [exec_know (ops := ops) hs h hp]

/-- the kinds that are asked of an operation's form -/
def kindOk (o : Oper) (k : Nat) : Bool :=
  match k, o.op with
  | 0, _ => true
  | 1, .load _ _ => true
  | 2, .alloc _ | 2, .box _ _ | 2, .buildSlice _ _ _ => true
  | 1, _ | 2, _ => false
  | _, _ => true

theorem load_runs {o : Oper} (h : kindOk o 1 = true) {a : Act} {w : World} {K : Act → World → Prop} (hh : o.wp P a w K NoQ) :
    ∃ v, K (a.put o.dst v) w ∧ ∀ w2, Ext w w2 → (execOp a.eval o).run P w2 = .ok (.value v) w2 := by
  obtain ⟨dst, op, type, pos, after, guard⟩ := o
  cases op <;> simp only [kindOk] at h <;> first | (cases h; done) | skip
  rename_i t x
  unfold Oper.wp at hh
  have hm : OkMono P (execOp a.eval ⟨dst, .load t x, type, pos, after, guard⟩) := by
    unfold execOp
    exact OkMono.bind (OkMono.loadAt P t _) fun _ => OkMono.pure _ _
  cases hr : (execOp a.eval ⟨dst, .load t x, type, pos, after, guard⟩).run P w with
  | halt x w1 =>
    rw [hr] at hh
    cases x <;> simp only [Oper.upon] at hh
    exact hh.elim
  | ok n w1 =>
    obtain ⟨rfl, h2⟩ := hm w n w1 hr
    have hv : ∃ v, n = .value v := by
      unfold execOp at hr
      simp only [Sem.run_bind] at hr
      cases hl : (Instr.loadAt t (a.eval x)).run P w1 with
      | halt _ _ => rw [hl] at hr; cases hr
      | ok v w2 =>
        rw [hl] at hr
        simp only [Result.andThen, Sem.run_pure] at hr
        cases hr
        exact ⟨v, rfl⟩
    obtain ⟨v, rfl⟩ := hv
    rw [hr] at hh
    exact ⟨v, hh, h2⟩

theorem make_ext {o : Oper} (h : kindOk o 2 = true) {a : Act} {w : World} {K : Act → World → Prop} (hh : o.wp P a w K NoQ) :
    o.wp P a w (fun a' w' => Ext w w' ∧ Put o.dst a a' ∧ K a' w') NoQ := by
  obtain ⟨dst, op, type, pos, after, guard⟩ := o
  have key : ∀ s : Sem Value, OkExt P s → execOp a.eval ⟨dst, op, type, pos, after, guard⟩ = (do let x ← s; Pure.pure (Next.value x)) →
      Oper.wp P ⟨dst, op, type, pos, after, guard⟩ a w (fun a' w' => Ext w w' ∧ Put dst a a' ∧ K a' w') NoQ := by
    intro s hs he
    unfold Oper.wp at *
    rw [he] at hh ⊢
    simp only [Sem.run_bind] at hh ⊢
    cases hr : s.run P w with
    | halt x w1 =>
      rw [hr] at hh
      simp only [Result.andThen] at hh ⊢
      cases x <;> simp only [Oper.upon] at hh ⊢
      exact hh
    | ok v w1 =>
      rw [hr] at hh
      simp only [Result.andThen, Sem.run_pure, Oper.upon] at hh ⊢
      exact ⟨hs w v w1 hr, ⟨v, a.defers, rfl⟩, hh⟩
  cases op <;> simp only [kindOk] at h <;> first | (cases h; done) | skip
  · exact key _ (OkExt.alloc P _) rfl
  · exact key _ (OkExt.box P _ _) rfl
  · exact key _ (OkExt.buildSlice P _ _ _) rfl

/-- which two may change places: the first one of kind k, the second one of kind l; is the second one a load? -/
def pairOk (k l : Nat) (ld : Bool) : Bool := k == 0 || l == 0 || (k == 1 && (l == 1 || l == 2 || l == 5)) || (k == 5 && (l == 1 || l == 5 || l == 6)) || (k == 6 && l == 5 && ld)

theorem swap {ks : Array Nat} {S : World → Prop} {i j : Nat} {oi oj : Oper} (hi : ops[i]? = some oi) (hj : ops[j]? = some oj)
    (hsi : ∀ cs b, oi.op ≠ .select cs b) (hsj : ∀ cs b, oj.op ≠ .select cs b) (hap : oi.apart ops oj = true)
    (hki : kindOk oi (ks.getD i 3) = true) (hkj : kindOk oj (ks.getD j 3) = true) (hp : pairOk (ks.getD i 3) (ks.getD j 3) (isLoad oj) = true)
    {K : Act → World → Prop} {a : Act} {w : World} (h : stepK P ops ks S i (stepK P ops ks S j K) a w) : stepK P ops ks S j (stepK P ops ks S i K) a w := by
  obtain ⟨h1, h2, h3⟩ := Oper.apart_spec hap
  have h2' : ∀ d, oj.dst = some d → oi.dst ≠ some d := fun d hd he => h2 d he hd
  generalize hki' : ks.getD i 3 = ki at *
  generalize hkj' : ks.getD j 3 = kj at *
  -- 'i' puts one and the same: what is put waits behind 'j'
  have late : ∀ (v : Value), stepK P ops ks S j K (a.put oi.dst v) w →
      (∀ a' w', Put oj.dst a a' → (kj = 0 ∨ kj = 1 ∨ kj = 5 → w' = w) → (kj = 2 → Ext w w') → (kj = 6 → S w') → K (a'.put oi.dst v) w' → stepK P ops ks S i K a' w') →
      (∀ a', Put oj.dst a a' → K (a'.put oi.dst v) w → stepK P ops ks S i K a' w) →
      stepK P ops ks S j (stepK P ops ks S i K) a w := by
    intro v hv hdo hdo'
    by_cases hw : Region.wanted oj (yielded ops a.tmps) = true
    · have hw' : Region.wanted oj (yielded ops (a.put oi.dst v).tmps) = true := by rw [wanted_put oj a oi.dst v h1]; exact hw
      by_cases hk0 : kj = 0
      · rw [stepK_0 hj hw' (hkj'.trans hk0)] at hv
        rw [stepK_0 hj hw (hkj'.trans hk0)]
        rw [execOp_put oj hsj a oi.dst v h1] at hv
        obtain ⟨u, hu, hK⟩ := hv
        refine ⟨u, hu, hdo _ _ ⟨u, a.defers, rfl⟩ (fun _ => rfl) (fun _ => Ext.refl _) (fun e => by omega) ?_⟩
        rw [← Act.put_comm a v u h2]; exact hK
      · by_cases hk5 : kj = 5
        · rw [stepK_5 hj hw' (hkj'.trans hk5)] at hv
          rw [stepK_5 hj hw (hkj'.trans hk5)]
          obtain ⟨hs, u, hu, hK⟩ := hv
          refine ⟨hs, u, fun w' hS => ?_, hdo _ _ ⟨u, a.defers, rfl⟩ (fun _ => rfl) (fun _ => Ext.refl _) (fun e => by omega) ?_⟩
          · have := hu w' hS
            unfold StillAt at this ⊢
            rw [execOp_put oj hsj a oi.dst v h1] at this
            exact this
          · rw [← Act.put_comm a v u h2]; exact hK
        · by_cases hk6 : kj = 6
          · rw [stepK_6 hj hw' (hkj'.trans hk6)] at hv
            rw [stepK_6 hj hw (hkj'.trans hk6)]
            obtain ⟨hs, hv⟩ := hv
            rw [wp_put_iff (ops := ops) hsj h1 h2] at hv
            exact ⟨hs, Oper.wp_mono (fun a' w' ⟨p, s, k⟩ => ⟨s, hdo a' w' p (fun e => by omega) (fun e => by omega) (fun _ => s) k⟩) (wp_know hv)⟩
          · rw [stepK_else hj hw' (by omega) (by omega) (by omega)] at hv
            rw [stepK_else hj hw (by omega) (by omega) (by omega)]
            rw [wp_put_iff (ops := ops) hsj h1 h2] at hv
            by_cases hk1 : kj = 1
            · rw [hk1] at hkj
              obtain ⟨u, hK, hr⟩ := load_runs hkj hv
              unfold Oper.wp
              rw [hr w (Ext.refl w)]
              exact hdo _ _ ⟨u, a.defers, rfl⟩ (fun _ => rfl) (fun _ => Ext.refl _) (fun e => by omega) hK
            · by_cases hk2 : kj = 2
              · rw [hk2] at hkj
                exact Oper.wp_mono (fun a' w' ⟨e, p, k⟩ => hdo a' w' p (fun e0 => by omega) (fun _ => e) (fun e => by omega) k) (make_ext hkj hv)
              · exact Oper.wp_mono (fun a' w' ⟨p, k⟩ => hdo a' w' p (fun e0 => by omega) (fun e2 => by omega) (fun e => by omega) k) (wp_know hv)
    · have hw' : ¬ Region.wanted oj (yielded ops (a.put oi.dst v).tmps) = true := by rw [wanted_put oj a oi.dst v h1]; exact hw
      rw [stepK_not hj hw'] at hv
      rw [stepK_not hj hw]
      refine hdo' _ ⟨undef, a.defers, rfl⟩ ?_
      rw [← Act.put_comm a v undef h2]; exact hv
  -- 'i' is a deed, 'j' puts one and the same
  have early : ki ≠ 0 → ki ≠ 5 → Region.wanted oi (yielded ops a.tmps) = true → (kj = 0 ∨ (kj = 5 ∧ ki = 6 ∧ isLoad oj = true)) → stepK P ops ks S j (stepK P ops ks S i K) a w := by
    intro hi0 hi5 hwi hkj05
    have h6 : (ki = 6 → S w) ∧ oi.wp P a w (fun a' w' => (ki = 6 → S w') ∧ stepK P ops ks S j K a' w') NoQ := by
      by_cases hk6 : ki = 6
      · rw [stepK_6 hi hwi (hki'.trans hk6)] at h
        exact ⟨fun _ => h.1, Oper.wp_mono (fun a' w' ⟨s, k⟩ => ⟨fun _ => s, k⟩) h.2⟩
      · rw [stepK_else hi hwi (by omega) (by omega) (by omega)] at h
        exact ⟨fun e => absurd e hk6, Oper.wp_mono (fun a' w' k => ⟨fun e => absurd e hk6, k⟩) h⟩
    -- back behind 'i'
    have back : ∀ v, oi.wp P a w (fun a' w' => (ki = 6 → S w') ∧ K (a'.put oj.dst v) w') NoQ → stepK P ops ks S i K (a.put oj.dst v) w := by
      intro v hv
      have hwi' : Region.wanted oi (yielded ops (a.put oj.dst v).tmps) = true := by rw [wanted_put oi a oj.dst v h3]; exact hwi
      by_cases hk6 : ki = 6
      · rw [stepK_6 hi hwi' (hki'.trans hk6), wp_put_iff (ops := ops) hsi h3 h2']
        exact ⟨h6.1 hk6, Oper.wp_mono (fun a' w' ⟨s, k⟩ => ⟨s hk6, k⟩) hv⟩
      · rw [stepK_else hi hwi' (by omega) (by omega) (by omega), wp_put_iff (ops := ops) hsi h3 h2']
        exact Oper.wp_mono (fun a' w' ⟨s, k⟩ => k) hv
    by_cases hwj : Region.wanted oj (yielded ops a.tmps) = true
    · obtain ⟨a1, w1, hp1, hS1, hs1⟩ := wp_some h6.2
      have hw1 : Region.wanted oj (yielded ops a1.tmps) = true := (wanted_know (ops := ops) h1 hp1).trans hwj
      rcases hkj05 with hj0 | ⟨hj5, hi6, hld⟩
      · rw [stepK_0 hj hw1 (hkj'.trans hj0), exec_know (ops := ops) hsj h1 hp1] at hs1
        obtain ⟨v, hv, _⟩ := hs1
        rw [stepK_0 hj hwj (hkj'.trans hj0)]
        refine ⟨v, hv, back v (Oper.wp_mono (fun a2 w2 ⟨hp2, hS2, hs2⟩ => ⟨hS2, ?_⟩) (wp_know h6.2))⟩
        have hw2 : Region.wanted oj (yielded ops a2.tmps) = true := (wanted_know (ops := ops) h1 hp2).trans hwj
        rw [stepK_0 hj hw2 (hkj'.trans hj0), exec_know (ops := ops) hsj h1 hp2] at hs2
        obtain ⟨u, hu, hk⟩ := hs2
        have : u = v := by
          have := (hu w).symm.trans (hv w)
          injection this with this
          injection this
        subst this
        exact hk
      · rw [stepK_5 hj hw1 (hkj'.trans hj5)] at hs1
        obtain ⟨_, v, hv, _⟩ := hs1
        have hv' : ∀ w', S w' → StillAt P oj a.eval w' v := fun w' hS => (still_know (ops := ops) hsj h1 hp1).1 (hv w' hS)
        rw [stepK_5 hj hwj (hkj'.trans hj5)]
        refine ⟨h6.1 hi6, v, hv', back v (Oper.wp_mono (fun a2 w2 ⟨hp2, hS2, hs2⟩ => ⟨hS2, ?_⟩) (wp_know h6.2))⟩
        have hw2 : Region.wanted oj (yielded ops a2.tmps) = true := (wanted_know (ops := ops) h1 hp2).trans hwj
        rw [stepK_5 hj hw2 (hkj'.trans hj5)] at hs2
        obtain ⟨_, u, hu, hk⟩ := hs2
        have hu' : StillAt P oj a.eval w u := (still_know (ops := ops) hsj h1 hp2).1 (hu w (h6.1 hi6))
        have : u = v := StillAt.one hld hu' (hv' w (h6.1 hi6))
        subst this
        exact hk
    · rw [stepK_not hj hwj]
      refine back undef (Oper.wp_mono (fun a2 w2 ⟨hp2, hS2, hs2⟩ => ⟨hS2, ?_⟩) (wp_know h6.2))
      have hw2 : ¬ Region.wanted oj (yielded ops a2.tmps) = true := by rw [wanted_know (ops := ops) h1 hp2]; exact hwj
      rw [stepK_not hj hw2] at hs2
      exact hs2
  simp only [pairOk, Bool.or_eq_true, Bool.and_eq_true, beq_iff_eq] at hp
  by_cases hwi : Region.wanted oi (yielded ops a.tmps) = true
  · by_cases hk0 : ki = 0
    · rw [stepK_0 hi hwi (hki'.trans hk0)] at h
      obtain ⟨v, hv, hK⟩ := h
      have go : ∀ a' w', Put oj.dst a a' → K (a'.put oi.dst v) w' → stepK P ops ks S i K a' w' := fun a' w' hp' hk' => by
        rw [stepK_0 hi ((wanted_know (ops := ops) h3 hp').trans hwi) (hki'.trans hk0), exec_know (ops := ops) hsi h3 hp']
        exact ⟨v, hv, hk'⟩
      exact late v hK (fun a' w' p _ _ _ k => go a' w' p k) (fun a' p k => go a' w p k)
    · by_cases hk5 : ki = 5
      · by_cases hj0 : kj = 0 ∨ kj = 1 ∨ kj = 5 ∨ kj = 6
        · rw [stepK_5 hi hwi (hki'.trans hk5)] at h
          obtain ⟨hs, v, hv, hK⟩ := h
          have go : ∀ a' w', Put oj.dst a a' → S w' → K (a'.put oi.dst v) w' → stepK P ops ks S i K a' w' := fun a' w' hp' hS hk' => by
            rw [stepK_5 hi ((wanted_know (ops := ops) h3 hp').trans hwi) (hki'.trans hk5)]
            exact ⟨hS, v, fun w2 h2S => (still_know (ops := ops) hsi h3 hp').2 (hv w2 h2S), hk'⟩
          refine late v hK (fun a' w' p e1 e2 e6 k => go a' w' p ?_ k) (fun a' p k => go a' w p hs k)
          rcases hj0 with e | e | e | e
          · rw [e1 (.inl e)]; exact hs
          · rw [e1 (.inr (.inl e))]; exact hs
          · rw [e1 (.inr (.inr e))]; exact hs
          · exact e6 e
        · omega
      · by_cases hj0 : kj = 0
        · exact early hk0 hk5 hwi (.inl hj0)
        · by_cases h65 : ki = 6 ∧ kj = 5 ∧ isLoad oj = true
          · exact early hk0 hk5 hwi (.inr ⟨h65.2.1, h65.1, h65.2.2⟩)
          · have hk1 : ki = 1 ∧ (kj = 1 ∨ kj = 2 ∨ kj = 5) := by
              rcases hp with (((hp | hp) | hp) | hp) | hp
              · exact absurd hp hk0
              · exact absurd hp hj0
              · exact ⟨hp.1, by omega⟩
              · exact absurd hp.1 hk5
              · exact absurd ⟨hp.1.1, hp.1.2, hp.2⟩ h65
            obtain ⟨e1, hkj12⟩ := hk1
            rw [stepK_else hi hwi (by omega) (by omega) (by omega)] at h
            rw [e1] at hki
            obtain ⟨v, hK, hr⟩ := load_runs hki h
            have go : ∀ a' w', Put oj.dst a a' → Ext w w' → K (a'.put oi.dst v) w' → stepK P ops ks S i K a' w' := fun a' w' hp' he hk' => by
              rw [stepK_else hi ((wanted_know (ops := ops) h3 hp').trans hwi) (by omega) (by omega) (by omega)]
              unfold Oper.wp
              rw [exec_know (ops := ops) hsi h3 hp', hr w' he]
              exact hk'
            refine late v hK (fun a' w' p f1 f2 _ k => go a' w' p ?_ k) (fun a' p k => go a' w p (Ext.refl _) k)
            rcases hkj12 with e | e | e
            · rw [f1 (.inr (.inl e))]; exact Ext.refl _
            · exact f2 e
            · rw [f1 (.inr (.inr e))]; exact Ext.refl _
  · rw [stepK_not hi hwi] at h
    have go : ∀ a' w', Put oj.dst a a' → K (a'.put oi.dst undef) w' → stepK P ops ks S i K a' w' := fun a' w' hp' hk' => by
      rw [stepK_not hi (by rw [wanted_know (ops := ops) h3 hp']; exact hwi)]
      exact hk'
    exact late undef h (fun a' w' p _ _ _ k => go a' w' p k) (fun a' p k => go a' w p k)

/-! ## All orders -/

/-- the rest, in the order of the text -/
def wpR (P : Program) (ops : Array Oper) (ks : Array Nat) (S : World → Prop) (Q : Exit → Act → World → Prop) : List Nat → Act → World → Prop
  | [], a, w => Q .normal a w
  | i :: rest, a, w => stepK P ops ks S i (wpR P ops ks S Q rest) a w

/-- ahead of which operations must each stand, as bits -/
def maskOf (acc : Array Nat) (o : Oper) : Nat := o.after.toList.foldl (fun s e => if Region.binds .any e then s ||| 2 ^ e.on ||| acc.getD e.on 0 else s) 0
def masks (l : List Oper) : Array Nat := l.foldl (fun acc o => acc.push (maskOf acc o)) #[]

def Closed (ops : Array Oper) (listed : Array Bool) : Prop := ∀ (j : Nat) (o : Oper), ops[j]? = some o → listed.getD j false = true → ∀ e ∈ o.after, Region.binds .any e = true → listed.getD e.on false = true

theorem bits_fold (acc : Array Nat) (i : Nat) : ∀ (es : List Edge) (s : Nat), (es.foldl (fun s e => if Region.binds .any e then s ||| 2 ^ e.on ||| acc.getD e.on 0 else s) s).testBit i = true →
    s.testBit i = true ∨ ∃ e ∈ es, Region.binds .any e = true ∧ (e.on = i ∨ (acc.getD e.on 0).testBit i = true)
  | [], s, h => .inl h
  | e :: es, s, h => by
    simp only [List.foldl_cons] at h
    rcases bits_fold acc i es _ h with h1 | ⟨e', he', h2⟩
    · by_cases hb : Region.binds .any e = true
      · rw [if_pos hb, Nat.testBit_or, Nat.testBit_or, Bool.or_eq_true, Bool.or_eq_true] at h1
        rcases h1 with (h1 | h1) | h1
        · exact .inl h1
        · refine .inr ⟨e, List.mem_cons_self .., hb, .inl ?_⟩
          rw [Nat.testBit_two_pow] at h1
          simpa using h1
        · exact .inr ⟨e, List.mem_cons_self .., hb, .inr h1⟩
      · rw [if_neg hb] at h1
        exact .inl h1
    · exact .inr ⟨e', List.mem_cons_of_mem _ he', h2⟩

/-- what the bits say of every prefix of an order -/
def MaskInv (ops : Array Oper) (acc : Array Nat) : Prop := ∀ (j i : Nat), j < acc.size → (acc.getD j 0).testBit i = true → ∀ listed, Closed ops listed →
  ∀ o, ops[j]? = some o → (∀ e ∈ o.after, Region.binds .any e = true → listed.getD e.on false = true) → listed.getD i false = true

theorem masks_inv (ops : Array Oper) : ∀ (l : List Oper) (acc : Array Nat), (∀ j, l[j]? = ops[acc.size + j]?) → MaskInv ops acc →
    MaskInv ops (l.foldl (fun acc o => acc.push (maskOf acc o)) acc)
  | [], acc, _, h => h
  | o :: l, acc, hl, h => by
    simp only [List.foldl_cons]
    have h0 : ops[acc.size]? = some o := by simpa using (hl 0).symm
    refine masks_inv ops l _ (fun j => by have := hl (j + 1); simpa [Nat.add_assoc, Nat.add_comm 1 j] using this) ?_
    intro j i hj hb listed hc o' ho' hall
    by_cases hlt : j < acc.size
    · refine h j i hlt ?_ listed hc o' ho' hall
      simpa [Array.getD_eq_getD_getElem?, Array.getElem?_push_lt hlt, Array.getElem?_eq_getElem hlt] using hb
    · have hjs : j = acc.size := by simp at hj; omega
      subst hjs
      have : o' = o := Option.some.inj (ho'.symm.trans h0)
      subst this
      have hb' : (maskOf acc o').testBit i = true := by simpa [Array.getD_eq_getD_getElem?] using hb
      rcases bits_fold acc i _ 0 hb' with hz | ⟨e, he, heb, hi⟩
      · simp at hz
      · have hl1 := hall e (by simpa using he) heb
        rcases hi with rfl | hi
        · exact hl1
        · by_cases hes : e.on < acc.size
          · have : e.on < ops.size := by
              have := hl 0
              have h1 := (Array.getElem?_eq_some_iff.1 h0).1
              omega
            have hoe : ops[e.on]? = some ops[e.on] := Array.getElem?_eq_getElem this
            exact h e.on i hes hi listed hc _ hoe (hc e.on _ hoe hl1)
          · rw [Array.getD_eq_getD_getElem?, Array.getElem?_eq_none (by omega)] at hi
            simp at hi

theorem bubble {ks : Array Nat} {S : World → Prop} {Q : Exit → Act → World → Prop} {j : Nat} {oj : Oper} (hj : ops[j]? = some oj) (hsel : Region.noSelect ops = true) (hkj : kindOk oj (ks.getD j 3) = true) :
    ∀ (R : List Nat) (a : Act) (w : World),
      (∀ i ∈ R, ∃ oi, ops[i]? = some oi ∧ kindOk oi (ks.getD i 3) = true ∧ pairOk (ks.getD i 3) (ks.getD j 3) (isLoad oj) = true ∧ oi.apart ops oj = true) →
      ∀ T, wpR P ops ks S Q (R ++ j :: T) a w → stepK P ops ks S j (wpR P ops ks S Q (R ++ T)) a w
  | [], a, w, _, T, h => h
  | i :: R, a, w, hR, T, h => by
    obtain ⟨oi, hoi, hki, hp, hap⟩ := hR i (List.mem_cons_self ..)
    refine swap hoi hj (fun cs b => Region.noSelect_spec hsel i oi cs b hoi) (fun cs b => Region.noSelect_spec hsel j oj cs b hj) hap hki hkj hp ?_
    exact stepK_mono (fun a' w' h' => bubble hj hsel hkj R a' w' (fun k hk => hR k (List.mem_cons_of_mem _ hk)) T h') h

/-! ### A drawn order -/

/-- 'i' stands ahead of 'j' -/
def bef : List Nat → Nat → Nat → Bool
  | [], _, _ => false
  | x :: l, i, j => if x == i then l.contains j else bef l i j

theorem bef_append {i j : Nat} : ∀ {R T : List Nat}, i ∈ R → j ∈ T → bef (R ++ T) i j = true
  | x :: R, T, hi, hj => by
    simp only [List.cons_append, bef]
    by_cases hx : x = i
    · simp [hx, hj]
    · rw [if_neg (by simpa using hx)]
      exact bef_append ((List.mem_cons.1 hi).resolve_left (Ne.symm hx)) hj
theorem bef_insert {i j k : Nat} : ∀ {R T : List Nat}, i ≠ k → bef (R ++ T) i j = true → bef (R ++ k :: T) i j = true
  | [], T, hk, h => by simp only [List.nil_append, bef] at *; rw [if_neg (by simpa using Ne.symm hk)]; exact h
  | x :: R, T, hk, h => by
    simp only [List.cons_append, bef] at *
    by_cases hx : x = i
    · simp only [hx, beq_self_eq_true, if_true, List.contains_eq_mem, List.mem_append, List.mem_cons, decide_eq_true_eq] at *
      rcases h with h | h
      · exact .inl h
      · exact .inr (.inr h)
    · rw [if_neg (by simpa using hx)] at *
      exact bef_insert hk h
theorem bef_mem {i j : Nat} : ∀ {l : List Nat}, bef l i j = true → i ∈ l ∧ j ∈ l
  | x :: l, h => by
    simp only [bef] at h
    by_cases hx : x = i
    · rw [if_pos (by simpa using hx)] at h
      exact ⟨by simp [hx], List.mem_cons_of_mem _ (by simpa using h)⟩
    · rw [if_neg (by simpa using hx)] at h
      have := bef_mem h
      exact ⟨List.mem_cons_of_mem _ this.1, List.mem_cons_of_mem _ this.2⟩
theorem bef_total {i j : Nat} : ∀ {l : List Nat}, i ∈ l → j ∈ l → i ≠ j → bef l i j = true ∨ bef l j i = true
  | x :: l, hi, hj, hne => by
    simp only [bef]
    by_cases hx : x = i
    · left
      have : j ∈ l := (List.mem_cons.1 hj).resolve_left (fun h => hne (hx.symm.trans h.symm))
      simp [hx, this]
    · by_cases hy : x = j
      · right
        have : i ∈ l := (List.mem_cons.1 hi).resolve_left (Ne.symm hx)
        simp [hy, this]
      · rw [if_neg (by simpa using hx), if_neg (by simpa using hy)]
        exact bef_total ((List.mem_cons.1 hi).resolve_left (Ne.symm hx)) ((List.mem_cons.1 hj).resolve_left (Ne.symm hy)) hne
theorem bef_trans {i j k : Nat} : ∀ {l : List Nat}, l.Nodup → bef l i j = true → bef l j k = true → bef l i k = true
  | x :: l, hd, h1, h2 => by
    obtain ⟨hx0, hd'⟩ := List.nodup_cons.1 hd
    simp only [bef] at *
    by_cases hx : x = i
    · rw [if_pos (by simpa using hx)] at h1 ⊢
      by_cases hy : x = j
      · subst hy; exact absurd (by simpa using h1) hx0
      · rw [if_neg (by simpa using hy)] at h2
        simpa using (bef_mem h2).2
    · rw [if_neg (by simpa using hx)] at h1 ⊢
      by_cases hy : x = j
      · subst hy; exact absurd (bef_mem h1).2 hx0
      · rw [if_neg (by simpa using hy)] at h2
        exact bef_trans hd' h1 h2
theorem bef_irrefl {i : Nat} : ∀ {l : List Nat}, l.Nodup → bef l i i = false
  | [], _ => rfl
  | x :: l, hd => by
    obtain ⟨hx0, hd'⟩ := List.nodup_cons.1 hd
    simp only [bef]
    by_cases hx : x = i
    · subst hx; simpa using hx0
    · rw [if_neg (by simpa using hx)]; exact bef_irrefl hd'

/-- an order that may be drawn, from here on -/
def Sched (ops : Array Oper) : Array Bool → List Nat → Prop
  | listed, [] => ∀ i, i < ops.size → listed.getD i false = true
  | listed, j :: τ => j ∈ Region.ready .any ops listed ∧ Sched ops (listed.setIfInBounds j true) τ

theorem ready_lt {listed : Array Bool} {j : Nat} (h : j ∈ Region.ready .any ops listed) : j < ops.size := by
  obtain ⟨_, o, ho, _⟩ := mem_ready.1 h
  exact (Array.getElem?_eq_some_iff.1 ho).1
theorem ready_un {listed : Array Bool} {j : Nat} (hsz : listed.size = ops.size) (h : j ∈ Region.ready .any ops listed) : listed.getD j false = false := by
  have hlt := ready_lt h
  obtain ⟨h0, _⟩ := mem_ready.1 h
  have hl' : j < listed.size := by omega
  simp [Array.getD_eq_getD_getElem?, Array.getElem?_eq_getElem hl'] at h0 ⊢; exact h0

theorem sched_mem : ∀ {τ : List Nat} {listed : Array Bool}, listed.size = ops.size → Sched ops listed τ → ∀ k ∈ τ, k < ops.size ∧ listed.getD k false = false
  | j :: τ, listed, hsz, ⟨hj, hs⟩, k, hk => by
    rcases List.mem_cons.1 hk with rfl | hk
    · exact ⟨ready_lt hj, ready_un hsz hj⟩
    · obtain ⟨h1, h2⟩ := sched_mem (by simpa using hsz) hs k hk
      refine ⟨h1, ?_⟩
      by_cases hkj : j = k
      · subst hkj; exact ready_un hsz hj
      · rwa [getD_set_ne false hkj] at h2
theorem sched_all : ∀ {τ : List Nat} {listed : Array Bool}, listed.size = ops.size → Sched ops listed τ → ∀ k, k < ops.size → listed.getD k false = false → k ∈ τ
  | [], listed, _, hs, k, hk, h => by rw [hs k hk] at h; cases h
  | j :: τ, listed, hsz, ⟨hj, hs⟩, k, hk, h => by
    by_cases hkj : j = k
    · subst hkj; exact List.mem_cons_self ..
    · exact List.mem_cons_of_mem _ (sched_all (by simpa using hsz) hs k hk (by rw [getD_set_ne false hkj]; exact h))
theorem sched_nodup : ∀ {τ : List Nat} {listed : Array Bool}, listed.size = ops.size → Sched ops listed τ → τ.Nodup
  | [], _, _, _ => List.nodup_nil
  | j :: τ, listed, hsz, ⟨hj, hs⟩ => by
    refine List.nodup_cons.2 ⟨fun hm => ?_, sched_nodup (by simpa using hsz) hs⟩
    have := (sched_mem (by simpa using hsz) hs j hm).2
    have hlt := ready_lt hj
    rw [Array.getD_eq_getD_getElem?, Array.getElem?_setIfInBounds_self_of_lt (by omega)] at this
    cases this
theorem closed_set {listed : Array Bool} {j : Nat} (hj : j ∈ Region.ready .any ops listed) (hc : Closed ops listed) : Closed ops (listed.setIfInBounds j true) := by
  obtain ⟨_, oj, hoj, hall⟩ := mem_ready.1 hj
  intro k ok hok hk e he hb
  by_cases hkj : j = k
  · subst hkj
    have : ok = oj := Option.some.inj (hok.symm.trans hoj)
    subst this
    exact getD_set_true (hall e he hb)
  · rw [getD_set_ne false hkj] at hk
    exact getD_set_true (hc k ok hok hk e he hb)
theorem sched_mask {m : Array Nat} (hm : MaskInv ops m) (hms : m.size = ops.size) : ∀ {τ : List Nat} {listed : Array Bool}, listed.size = ops.size → Closed ops listed → Sched ops listed τ →
    ∀ i j, j ∈ τ → (m.getD j 0).testBit i = true → listed.getD i false = true ∨ bef τ i j = true
  | k :: τ, listed, hsz, hc, ⟨hk, hs⟩, i, j, hj, hb => by
    rcases List.mem_cons.1 hj with rfl | hj
    · obtain ⟨_, o, ho, hall⟩ := mem_ready.1 hk
      exact .inl (hm j i (by have := ready_lt hk; omega) hb listed hc o ho hall)
    · rcases sched_mask hm hms (by simpa using hsz) (closed_set hk hc) hs i j hj hb with h | h
      · by_cases hki : k = i
        · right; simp [bef, hki, hj]
        · rw [getD_set_ne false hki] at h; exact .inl h
      · right
        simp only [bef]
        by_cases hki : k = i
        · simp [hki, hj]
        · rw [if_neg (by simpa using hki)]; exact h

def cnt (listed : Array Bool) : Nat := listed.toList.countP (fun b => !b)
theorem cnt_set {listed : Array Bool} {j : Nat} (hj : j < listed.size) (h : listed.getD j false = false) : cnt (listed.setIfInBounds j true) + 1 = cnt listed := by
  unfold cnt
  have hb : listed[j] = false := by simpa [Array.getD_eq_getD_getElem?, hj] using h
  have hpos : 0 < listed.toList.countP (fun b => !b) := List.countP_pos_iff.2 ⟨listed[j], by simp, by simp [hb]⟩
  rw [Array.toList_setIfInBounds, List.countP_set (by simpa using hj)]
  have hj2 : listed.toList[j]'(by simpa using hj) = false := by simpa using hb
  rw [hj2]
  simp only [Bool.not_false, Bool.not_true, if_true, Bool.false_eq_true, if_false, Nat.add_zero]
  omega
theorem cnt_zero {listed : Array Bool} (h : cnt listed = 0) (i : Nat) (hi : i < listed.size) : listed.getD i false = true := by
  unfold cnt at h
  have := List.countP_eq_zero.1 h listed[i] (by simp)
  simpa [Array.getD_eq_getD_getElem?, hi] using this

theorem sched_go (hdown : ∀ (j : Nat) oj, ops[j]? = some oj → ∀ e ∈ oj.after, Region.binds .any e = true → e.on < j) : ∀ (fuel t : Nat) (listed : Array Bool), listed.size = ops.size → cnt listed ≤ fuel →
    Sched ops listed (Region.linearise.go .any ops fuel t listed []) := by
  intro fuel
  induction fuel with
  | zero =>
    intro t listed hsz hc
    simp only [Region.linearise.go, List.reverse_nil]
    exact fun i hi => cnt_zero (by omega) i (by omega)
  | succ fuel ih =>
    intro t listed hsz hc
    simp only [Region.linearise.go]
    change Sched ops listed (match (Region.ready .any ops listed)[t % (Region.ready .any ops listed).length]? with
      | some i => Region.linearise.go .any ops fuel (t / (Region.ready .any ops listed).length) (listed.setIfInBounds i true) [i]
      | none => [].reverse)
    cases hi : (Region.ready .any ops listed)[t % (Region.ready .any ops listed).length]? with
    | none =>
      have hnil : Region.ready .any ops listed = [] := by
        cases hr : Region.ready .any ops listed with
        | nil => rfl
        | cons x xs =>
          rw [hr] at hi
          have hlt : t % (x :: xs).length < (x :: xs).length := Nat.mod_lt _ (by simp)
          simp at hi
          simp at hlt
          omega
      simp only [List.reverse_nil]
      -- the least that is not listed would be ready
      intro i hi'
      cases hl : listed.getD i false with
      | true => rfl
      | false =>
        exfalso
        have : ∀ k, k < ops.size → listed.getD k false = false → False := by
          intro k
          induction k using Nat.strongRecOn with
          | _ k ihk =>
            intro hk hl
            have ho := Array.getElem?_eq_getElem hk
            have hmem : k ∈ Region.ready .any ops listed := by
              refine mem_ready.2 ⟨?_, _, ho, fun e he hb => ?_⟩
              · have hl' : k < listed.size := by omega
                simp [Array.getD_eq_getD_getElem?, Array.getElem?_eq_getElem hl'] at hl ⊢; exact hl
              · have hlt := hdown k _ ho e he hb
                cases hle : listed.getD e.on false with
                | true => rfl
                | false => exact (ihk e.on hlt (by omega) hle).elim
            rw [hnil] at hmem
            cases hmem
        exact this i hi' hl
    | some j =>
      simp only []
      have hj := List.mem_of_getElem? hi
      rw [linearise_go_acc, List.reverse_singleton, List.singleton_append]
      refine ⟨hj, ih _ _ (by simpa using hsz) ?_⟩
      have := cnt_set (listed := listed) (j := j) (by have := ready_lt hj; omega) (ready_un hsz hj)
      omega

/-- may these two change places, the first one ahead of the second? -/
def freeB (ops : Array Oper) (ks : Array Nat) (i j : Nat) : Bool :=
  match ops[i]?, ops[j]? with
  | some oi, some oj => pairOk (ks.getD i 3) (ks.getD j 3) (isLoad oj) && oi.apart ops oj
  | _, _ => false

theorem wpOps_of_wpR {ks : Array Nat} {S : World → Prop} {Q : Exit → Act → World → Prop} (hsel : Region.noSelect ops = true) (hkind : ∀ j oj, ops[j]? = some oj → kindOk oj (ks.getD j 3) = true) :
    ∀ (τ : List Nat) (listed : Array Bool) (L : List Nat) (a : Act) (w : World), listed.size = ops.size → Sched ops listed τ → L.Nodup → (∀ i, i ∈ L ↔ (i < ops.size ∧ listed.getD i false = false)) →
      (∀ i j, bef L i j = true → bef τ j i = true → freeB ops ks i j = true) → wpR P ops ks S Q L a w → wpOps P ops Q τ a w
  | [], listed, L, a, w, hsz, hs, hnd, hL, hag, h => by
    have : L = [] := by
      refine List.eq_nil_iff_forall_not_mem.2 fun i hi => ?_
      obtain ⟨h1, h2⟩ := (hL i).1 hi
      rw [hs i h1] at h2
      cases h2
    subst this
    exact h
  | j :: τ, listed, L, a, w, hsz, ⟨hj, hs⟩, hnd, hL, hag, h => by
    have hjL : j ∈ L := (hL j).2 ⟨ready_lt hj, ready_un hsz hj⟩
    obtain ⟨R, T, rfl⟩ := List.append_of_mem hjL
    obtain ⟨_, oj, hoj, _⟩ := mem_ready.1 hj
    have hsz' : (listed.setIfInBounds j true).size = ops.size := by simpa using hsz
    have hjR : j ∉ R := fun hm => by
      have := (List.nodup_append.1 hnd).2.2 j hm j (List.mem_cons_self ..)
      exact this rfl
    have hjT : j ∉ T := (List.nodup_cons.1 (List.nodup_append.1 hnd).2.1).1
    have hjτ : j ∉ τ := (List.nodup_cons.1 (sched_nodup (listed := listed) hsz (show Sched ops listed (j :: τ) from ⟨hj, hs⟩))).1
    have hstep := bubble (P := P) (ks := ks) (S := S) (Q := Q) hoj hsel (hkind j oj hoj) R a w (fun i hi => by
      have hiL := (hL i).1 (List.mem_append_left _ hi)
      have hij : i ≠ j := fun e => hjR (e ▸ hi)
      have hiτ : i ∈ τ := sched_all hsz' hs i hiL.1 (by rw [getD_set_ne false (Ne.symm hij)]; exact hiL.2)
      have hfr := hag i j (bef_append hi (List.mem_cons_self ..)) (by simp [bef, hiτ])
      have hoi := Array.getElem?_eq_getElem hiL.1
      simp only [freeB, hoi, hoj, Bool.and_eq_true] at hfr
      exact ⟨_, hoi, hkind i _ hoi, hfr.1, hfr.2⟩) T h
    rw [wpOps_cons]
    refine wpOp_of_stepK (stepK_mono (fun a' w' h' => wpOps_of_wpR hsel hkind τ (listed.setIfInBounds j true) (R ++ T) a' w' hsz' hs ?_ ?_ ?_ h') hstep)
    · rw [List.nodup_append] at hnd ⊢
      exact ⟨hnd.1, (List.nodup_cons.1 hnd.2.1).2, fun x hx y hy => hnd.2.2 x hx y (List.mem_cons_of_mem _ hy)⟩
    · intro i
      by_cases hij : i = j
      · subst hij
        constructor
        · intro hm
          rcases List.mem_append.1 hm with hm | hm
          · exact absurd hm hjR
          · exact absurd hm hjT
        · rintro ⟨h1, hf⟩
          exfalso
          have hl' : i < listed.size := by omega
          simp [Array.getD_eq_getD_getElem?, hl'] at hf
      · rw [getD_set_ne false (Ne.symm hij), ← hL i]
        simp only [List.mem_append, List.mem_cons, hij, false_or]
    · intro x y hxy hyx
      have hx : x ≠ j := fun e => by
        subst e
        rcases List.mem_append.1 (bef_mem hxy).1 with hm | hm
        · exact hjR hm
        · exact hjT hm
      have hy : y ≠ j := fun e => by subst e; exact hjτ (bef_mem hyx).1
      refine hag x y (bef_insert hx hxy) ?_
      simp only [bef]
      rw [if_neg (by simpa using Ne.symm hy)]
      exact hyx

/-- is the order 'L' good whichever of 'i', 'j' comes first? -/
def okFor (ops : Array Oper) (ks : Array Nat) (L : List Nat) (i j : Nat) (first : Bool) : Bool :=
  if bef L i j then first || freeB ops ks i j else !first || freeB ops ks j i

/-- every row of so many bools -/
def bools : Nat → List (List Bool)
  | 0 => [[]]
  | n + 1 => (bools n).flatMap fun l => [true :: l, false :: l]
theorem mem_bools : ∀ (l : List Bool), l ∈ bools l.length
  | [] => by simp [bools]
  | b :: l => by
    simp only [bools, List.length_cons, List.mem_flatMap]
    exact ⟨l, mem_bools l, by cases b <;> simp⟩

def reachB (m : Array Nat) (i j : Nat) : Bool := i == j || (m.getD j 0).testBit i

/-- the whole look, by the kernel: 'Ls': orders, each a list of all places -/
def ordersB (l : List Oper) (ks : Array Nat) (Ls : List (List Nat)) : Bool :=
  let ops := l.toArray
  let m := masks l
  let n := l.length
  let un : List (Nat × Nat) := (List.range n).flatMap fun j => ((List.range j).filter fun i => !(m.getD j 0).testBit i).map fun i => (i, j)
  let C := un.filter fun (i, j) => Ls.any fun L => !(okFor ops ks L i j true && okFor ops ks L i j false)
  Region.noSelect ops &&
  (l.zipIdx.all fun (oj, j) => kindOk oj (ks.getD j 3) && (oj.after.all fun e => !Region.binds .any e || decide (e.on < j))) &&
  (Ls.all fun L => decide L.Nodup && ((List.range n).all fun i => L.contains i) && (L.all fun i => decide (i < n)) && (List.range n).all fun j => (List.range j).all fun i => !(m.getD j 0).testBit i || bef L i j) &&
  (bools C.length).all fun σ =>
    (Ls.any fun L => (C.zip σ).all fun (p, b) => okFor ops ks L p.1 p.2 b) ||
    ((C.zip σ).any fun (p, b) => (C.zip σ).any fun (q, c) =>
      let x := if b then p.1 else p.2
      let y := if b then p.2 else p.1
      let u := if c then q.1 else q.2
      let v := if c then q.2 else q.1
      reachB m y u && reachB m v x)

theorem masks_size (l : List Oper) : (masks l).size = l.length := by
  have : ∀ (l : List Oper) (acc : Array Nat), (l.foldl (fun acc o => acc.push (maskOf acc o)) acc).size = acc.size + l.length := by
    intro l
    induction l with
    | nil => intro acc; simp
    | cons o l ih => intro acc; simp [ih]; omega
  unfold masks
  simpa using this l #[]
theorem masks_ok (l : List Oper) : MaskInv l.toArray (masks l) := masks_inv l.toArray l #[] (by simp) (fun j i hj => by simp at hj)

theorem ordersB_spec {l : List Oper} {ks : Array Nat} {Ls : List (List Nat)} (h : ordersB l ks Ls = true) {Q : Exit → Act → World → Prop} {S : World → Prop} {a : Act} {w : World}
    (hL : ∀ L ∈ Ls, wpR P l.toArray ks S Q L a w) (t : Nat) : wpOps P l.toArray Q (Region.linearise .any l.toArray t) a w := by
  simp only [ordersB, Bool.and_eq_true] at h
  obtain ⟨⟨⟨hs, hrow⟩, hLs⟩, hσ⟩ := h
  have at_ : ∀ (j : Nat) oj, l[j]? = some oj → (oj, j) ∈ l.zipIdx := fun j oj hj => by
    rw [List.mem_iff_getElem?]; exact ⟨j, by simp [List.getElem?_zipIdx, hj]⟩
  have row : ∀ (j : Nat) oj, l[j]? = some oj → _ := fun j oj hj => List.all_eq_true.1 hrow (oj, j) (at_ j oj hj)
  simp only [Bool.and_eq_true] at row
  have hkind : ∀ (j : Nat) oj, l.toArray[j]? = some oj → kindOk oj (ks.getD j 3) = true := fun j oj hj => (row j oj (by simpa using hj)).1
  have hdown : ∀ (j : Nat) oj, l.toArray[j]? = some oj → ∀ e ∈ oj.after, Region.binds .any e = true → e.on < j := fun j oj hj e he hb => by
    have := (row j oj (by simpa using hj)).2
    have := Array.all_eq_true_iff_forall_mem.1 this e he
    simpa [hb] using this
  have hgo : Sched l.toArray (Array.replicate l.toArray.size false) (Region.linearise .any l.toArray t) := by
    unfold Region.linearise
    refine sched_go hdown _ t _ (by simp) ?_
    unfold cnt
    have := List.countP_le_length (p := fun b => !b) (l := (Array.replicate l.toArray.size false).toList)
    simpa using this
  have hc0 : Closed l.toArray (Array.replicate l.toArray.size false) := by
    intro j o hj hl
    exfalso
    rcases Nat.lt_or_ge j l.length with hlt | hge
    · simp [Array.getD_eq_getD_getElem?, hlt] at hl
    · simp [Array.getD_eq_getD_getElem?, Nat.not_lt.2 hge] at hl
  have hun : ∀ i, (Array.replicate l.toArray.size false).getD i false = false := fun i => by
    rcases Nat.lt_or_ge i l.length with hlt | hge
    · simp [Array.getD_eq_getD_getElem?, hlt]
    · simp [Array.getD_eq_getD_getElem?, Nat.not_lt.2 hge]
  generalize Region.linearise .any l.toArray t = τ at *
  have hτm : ∀ i j, i < l.length → j < l.length → ((masks l).getD j 0).testBit i = true → bef τ i j = true := fun i j hi hj hb => by
    rcases sched_mask (masks_ok l) (by simpa using masks_size l) (by simp) hc0 hgo i j (sched_all (by simp) hgo j (by simpa using hj) (hun j)) hb with h | h
    · rw [hun] at h; cases h
    · exact h
  have hτd := sched_nodup (by simp) hgo
  have hτall : ∀ i, i < l.length → i ∈ τ := fun i hi => sched_all (by simp) hgo i (by simpa using hi) (hun i)
  generalize hC : (List.filter (fun x : Nat × Nat => Ls.any fun L => !(okFor l.toArray ks L x.1 x.2 true && okFor l.toArray ks L x.1 x.2 false))
      ((List.range l.length).flatMap fun j => ((List.range j).filter fun i => !((masks l).getD j 0).testBit i).map fun i => (i, j))) = C at hσ
  have hCm : ∀ p ∈ C, p.1 < p.2 ∧ p.2 < l.length := fun p hp => by
    rw [← hC] at hp
    obtain ⟨hp, _⟩ := List.mem_filter.1 hp
    obtain ⟨j, hj, hp⟩ := List.mem_flatMap.1 hp
    obtain ⟨i, hi, rfl⟩ := List.mem_map.1 hp
    exact ⟨by simpa using (List.mem_range.1 (List.mem_filter.1 hi).1), by simpa using hj⟩
  have hσ1 := List.all_eq_true.1 hσ (C.map fun p => bef τ p.1 p.2) (by have := mem_bools (C.map fun p => bef τ p.1 p.2); simpa using this)
  have hzip : C.zip (C.map fun p => bef τ p.1 p.2) = C.map fun p => (p, bef τ p.1 p.2) := by
    clear hC hCm hσ hσ1
    induction C with
    | nil => rfl
    | cons p C ih => simp [ih]
  rw [hzip] at hσ1
  simp only [Bool.or_eq_true] at hσ1
  rcases hσ1 with hσ1 | hσ1
  · obtain ⟨L, hLm, hLC⟩ := List.any_eq_true.1 hσ1
    have hLok := List.all_eq_true.1 hLs L hLm
    simp only [Bool.and_eq_true, decide_eq_true_eq] at hLok
    obtain ⟨⟨⟨hnd, hlen⟩, hlt⟩, hmask⟩ := hLok
    have hlt' : ∀ i ∈ L, i < l.length := fun i hi => by simpa using List.all_eq_true.1 hlt i hi
    have hall : ∀ i, i < l.length → i ∈ L := fun i hi => by simpa using List.all_eq_true.1 hlen i (by simpa using hi)
    refine wpOps_of_wpR hs hkind τ _ L a w (by simp) hgo hnd (fun i => ⟨fun hi => ⟨by simpa using hlt' i hi, hun i⟩, fun hi => hall i (by simpa using hi.1)⟩) ?_ (hL L hLm)
    intro i j hij hji
    have hiL := hlt' i (bef_mem hij).1
    have hjL := hlt' j (bef_mem hij).2
    have hne : i ≠ j := fun e => by subst e; rw [bef_irrefl hnd] at hij; cases hij
    have hnij : bef L j i = false := by
      cases hb : bef L j i with
      | false => rfl
      | true => have := bef_trans hnd hij hb; rw [bef_irrefl hnd] at this; cases this
    have hnτ : bef τ i j = false := by
      cases hb : bef τ i j with
      | false => rfl
      | true => have := bef_trans hτd hb hji; rw [bef_irrefl hτd] at this; cases this
    have m1 : ((masks l).getD j 0).testBit i = false := by
      cases hb : ((masks l).getD j 0).testBit i with
      | false => rfl
      | true => rw [hτm i j hiL hjL hb] at hnτ; cases hnτ
    have m2 : i > j → ((masks l).getD i 0).testBit j = false := fun hgt => by
      cases hb : ((masks l).getD i 0).testBit j with
      | false => rfl
      | true =>
        have := List.all_eq_true.1 (List.all_eq_true.1 hmask i (by simpa using hiL)) j (by simpa using hgt)
        rw [hb] at this
        simp only [Bool.not_true, Bool.false_or] at this
        rw [this] at hnij; cases hnij
    have key : ∀ x y, x < y → y < l.length → ((masks l).getD y 0).testBit x = false → ∀ b, bef τ x y = b → okFor l.toArray ks L x y b = true := by
      intro x y hxy hy hb b hbb
      by_cases hin : (x, y) ∈ C
      · have := List.all_eq_true.1 hLC ((x, y), bef τ x y) (List.mem_map.2 ⟨(x, y), hin, rfl⟩)
        rw [← hbb]; exact this
      · have hnot : ¬ (Ls.any fun L => !(okFor l.toArray ks L x y true && okFor l.toArray ks L x y false)) = true := fun hany => hin (by
          rw [← hC]
          refine List.mem_filter.2 ⟨List.mem_flatMap.2 ⟨y, List.mem_range.2 hy, List.mem_map.2 ⟨x, List.mem_filter.2 ⟨List.mem_range.2 hxy, by simp only [hb, Bool.not_false]⟩, rfl⟩⟩, hany⟩)
        have h2 : (okFor l.toArray ks L x y true && okFor l.toArray ks L x y false) = true := by
          cases hb2 : (okFor l.toArray ks L x y true && okFor l.toArray ks L x y false) with
          | true => rfl
          | false => exact absurd (List.any_eq_true.2 ⟨L, hLm, by rw [hb2]; rfl⟩) hnot
        rw [Bool.and_eq_true] at h2
        cases b
        · exact h2.2
        · exact h2.1
    rcases Nat.lt_or_gt_of_ne hne with hlt1 | hgt1
    · have := key i j hlt1 hjL m1 false hnτ
      simpa [okFor, hij] using this
    · have := key j i hgt1 hiL (m2 hgt1) true hji
      simpa [okFor, hnij] using this
  · exfalso
    obtain ⟨⟨p, b⟩, hp, h2⟩ := List.any_eq_true.1 hσ1
    obtain ⟨⟨q, c⟩, hq, h3⟩ := List.any_eq_true.1 h2
    obtain ⟨p', hp', hpe⟩ := List.mem_map.1 hp
    obtain ⟨q', hq', hqe⟩ := List.mem_map.1 hq
    injection hpe with e1 e2
    injection hqe with e3 e4
    subst e1; subst e3
    have bound : ∀ p ∈ C, ∀ b, bef τ p.1 p.2 = b → bef τ (if b then p.1 else p.2) (if b then p.2 else p.1) = true ∧ (if b then p.1 else p.2) < l.length ∧ (if b then p.2 else p.1) < l.length := fun p hp b hb => by
      obtain ⟨h1, h2⟩ := hCm p hp
      cases b
      · refine ⟨?_, by simpa using h2, by simp; omega⟩
        rcases bef_total (hτall p.1 (by omega)) (hτall p.2 h2) (by omega) with h | h
        · rw [h] at hb; cases hb
        · simpa using h
      · exact ⟨by simpa using hb, by simp; omega, by simpa using h2⟩
    obtain ⟨b1, b2, b3⟩ := bound _ hp' b e2
    obtain ⟨c1, c2, c3⟩ := bound _ hq' c e4
    simp only [Bool.and_eq_true] at h3
    have reach : ∀ i j, i < l.length → j < l.length → reachB (masks l) i j = true → i = j ∨ bef τ i j = true := fun i j hi hj h => by
      simp only [reachB, Bool.or_eq_true, beq_iff_eq] at h
      rcases h with h | h
      · exact .inl h
      · exact .inr (hτm i j hi hj h)
    have step1 : bef τ (if b then p'.1 else p'.2) (if c then q'.1 else q'.2) = true := by
      rcases reach _ _ b3 c2 h3.1 with e | e
      · rw [← e]; exact b1
      · exact bef_trans hτd b1 e
    have step2 := bef_trans hτd step1 c1
    have := (by
      rcases reach _ _ c3 b2 h3.2 with e | e
      · rw [e] at step2; exact step2
      · exact bef_trans hτd step2 e : bef τ (if b then p'.1 else p'.2) (if b then p'.1 else p'.2) = true)
    rw [bef_irrefl hτd] at this
    cases this

/-- the walk over a list of operations -/
def wpT (P : Program) (ops : Array Oper) (S : World → Prop) (Q : Exit → Act → World → Prop) : List Oper → List Nat → Act → World → Prop
  | [], _, a, w => Q .normal a w
  | o :: rest, ks, a, w =>
    if Region.wanted o (yielded ops a.tmps) = true then
      if ks.headD 3 = 0 then ∃ v, (∀ w', (execOp a.eval o).run P w' = .ok (.value v) w') ∧ wpT P ops S Q rest ks.tail (a.put o.dst v) w
      else if ks.headD 3 = 5 then S w ∧ ∃ v, (∀ w', S w' → StillAt P o a.eval w' v) ∧ wpT P ops S Q rest ks.tail (a.put o.dst v) w
      else if ks.headD 3 = 6 then S w ∧ o.wp P a w (fun a' w' => S w' ∧ wpT P ops S Q rest ks.tail a' w') NoQ
      else o.wp P a w (wpT P ops S Q rest ks.tail) NoQ
    else wpT P ops S Q rest ks.tail (a.put o.dst undef) w

theorem wpT_eq {S : World → Prop} {Q : Exit → Act → World → Prop} {ks : Array Nat} : ∀ (L : List Nat) (l : List Oper), L.map (fun i => ops[i]?) = l.map some →
    wpT P ops S Q l (L.map fun i => ks.getD i 3) = wpR P ops ks S Q L
  | [], [], _ => rfl
  | [], _ :: _, h => by cases h
  | _ :: _, [], h => by cases h
  | i :: L, o :: l, h => by
    simp only [List.map_cons, List.cons.injEq] at h
    have ih := wpT_eq (S := S) (Q := Q) (ks := ks) L l h.2
    funext a w
    simp only [List.map_cons, wpR, wpT, stepK, h.1, List.headD_cons, List.tail_cons, ih]

/-- THE RULE: whatever order is drawn -/
theorem wp_region_orders {id : Nat} {l : List Oper} {Q : Exit → Act → World → Prop} {a : Act} {w : World} (ks : List Nat) (Ls : List (List Nat)) (S : World → Prop) (hm : P.follows .mixedOrders = true)
    (hB : ordersB l ks.toArray Ls = true) (h : ∀ L ∈ Ls, wpR P l.toArray ks.toArray S Q L a w.drew) : (Code.region id l.toArray true).wp P Q a w :=
  wp_region_draw fun t => by
    simp only [Region.schedule, hm, Bool.true_or, if_true]
    exact ordersB_spec hB h t

/-- one order, the text's own -/
theorem wp_region_text {id : Nat} {l : List Oper} {Q : Exit → Act → World → Prop} {a : Act} {w : World} (ks : List Nat) (S : World → Prop) (hm : P.follows .mixedOrders = true)
    (hl : ks.length = l.length) (hB : ordersB l ks.toArray [List.range l.length] = true) (h : wpT P l.toArray S Q l ks a w.drew) : (Code.region id l.toArray true).wp P Q a w := by
  refine wp_region_orders ks [List.range l.length] S hm hB fun L hL => ?_
  obtain rfl : L = List.range l.length := by simpa using hL
  have e := wpT_eq (P := P) (ops := l.toArray) (S := S) (Q := Q) (ks := ks.toArray) (List.range l.length) l (by
    refine List.ext_getElem? fun i => ?_
    rcases Nat.lt_or_ge i l.length with hlt | hge
    · simp [hlt]
    · simp [Nat.not_lt.2 hge])
  have e2 : (List.range l.length).map (fun i => ks.toArray.getD i 3) = ks := by
    refine List.ext_getElem? fun i => ?_
    rcases Nat.lt_or_ge i l.length with hlt | hge
    · have : i < ks.length := by omega
      simp [hlt, this, Array.getD_eq_getD_getElem?]
    · simp [Nat.not_lt.2 hge, show ks.length ≤ i by omega]
  rw [e2] at e
  rw [← e]; exact h

theorem wpT_nil {S : World → Prop} {Q : Exit → Act → World → Prop} {ks : List Nat} {a : Act} {w : World} (h : Q .normal a w) : wpT P ops S Q [] ks a w := h
theorem wpT_pure {S : World → Prop} {Q : Exit → Act → World → Prop} {o : Oper} {rest : List Oper} {ks : List Nat} {a : Act} {w : World}
    (h : ∀ K : Act → World → Prop, (∀ a w, wpT P ops S Q rest ks a w → K a w) →
      if Region.wanted o (yielded ops a.tmps) = true then ∃ v, (∀ w', (execOp a.eval o).run P w' = .ok (.value v) w') ∧ K (a.put o.dst v) w else K (a.put o.dst undef) w) :
    wpT P ops S Q (o :: rest) (0 :: ks) a w := by
  have := h _ (fun _ _ h => h)
  unfold wpT
  split
  · rename_i hw; rw [if_pos hw] at this; simpa using this
  · rename_i hw; rw [if_neg hw] at this; exact this
theorem wpT_deed {S : World → Prop} {Q : Exit → Act → World → Prop} {o : Oper} {rest : List Oper} {k : Nat} {ks : List Nat} {a : Act} {w : World} (hk : k ≠ 0 ∧ k ≠ 5 ∧ k ≠ 6)
    (h : ∀ K : Act → World → Prop, (∀ a w, wpT P ops S Q rest ks a w → K a w) → if Region.wanted o (yielded ops a.tmps) = true then o.wp P a w K NoQ else K (a.put o.dst undef) w) :
    wpT P ops S Q (o :: rest) (k :: ks) a w := by
  have := h _ (fun _ _ h => h)
  unfold wpT
  split
  · rename_i hw; rw [if_pos hw] at this; simpa [hk] using this
  · rename_i hw; rw [if_neg hw] at this; exact this
theorem wpT_plain {S : World → Prop} {Q : Exit → Act → World → Prop} {o : Oper} {rest : List Oper} {k : Nat} {ks : List Nat} {a : Act} {w : World} (hk : k ≠ 0 ∧ k ≠ 5 ∧ k ≠ 6) (hg : o.guard = none)
    (h : ∀ K : Act → World → Prop, (∀ a w, wpT P ops S Q rest ks a w → K a w) → o.wp P a w K NoQ) : wpT P ops S Q (o :: rest) (k :: ks) a w :=
  wpT_deed hk fun K hK => by rw [if_pos (by simp [Region.wanted, hg])]; exact h K hK
theorem wpT_held {S : World → Prop} {Q : Exit → Act → World → Prop} {o : Oper} {rest : List Oper} {ks : List Nat} {a : Act} {w : World} (hS : S w) (v : Value) (hg : o.guard = none)
    (hv : ∀ w', S w' → StillAt P o a.eval w' v) (h : wpT P ops S Q rest ks (a.put o.dst v) w) : wpT P ops S Q (o :: rest) (5 :: ks) a w := by
  unfold wpT
  rw [if_pos (by simp [Region.wanted, hg])]
  simp only [List.headD_cons, List.tail_cons]
  exact ⟨hS, v, hv, h⟩
theorem wpT_keeps {S : World → Prop} {Q : Exit → Act → World → Prop} {o : Oper} {rest : List Oper} {ks : List Nat} {a : Act} {w : World} (hS : S w) (hg : o.guard = none)
    (h : ∀ K : Act → World → Prop, (∀ a w, S w → wpT P ops S Q rest ks a w → K a w) → o.wp P a w K NoQ) : wpT P ops S Q (o :: rest) (6 :: ks) a w := by
  unfold wpT
  rw [if_pos (by simp [Region.wanted, hg])]
  simp only [List.headD_cons, List.tail_cons]
  exact ⟨hS, h _ fun _ _ s t => ⟨s, t⟩⟩
/-! ### Operations that compute: alike in every world -/

/-- where it runs to an end it changes nothing, and comes to the same end in every world -/
def OkAny {α : Type} (P : Program) (s : Sem α) : Prop := ∀ w x w', s.run P w = .ok x w' → w' = w ∧ ∀ w2, s.run P w2 = .ok x w2
def NeverOk {α : Type} (P : Program) (s : Sem α) : Prop := ∀ w x w', s.run P w ≠ .ok x w'
theorem NeverOk.any {α : Type} {P : Program} {s : Sem α} (h : NeverOk P s) : OkAny P s := fun w x w' hr => absurd hr (h w x w')
theorem NeverOk.halt {α : Type} (P : Program) (x : Halt) : NeverOk P (Sem.halt x : Sem α) := fun w y w' h => by simp only [Sem.run] at h; cases h
theorem NeverOk.bind {α β : Type} {P : Program} {s : Sem α} {f : α → Sem β} (hf : ∀ x, NeverOk P (f x)) : NeverOk P (s >>= f) := fun w x w' h => by
  simp only [Sem.run_bind] at h
  cases hr : s.run P w with
  | halt e w1 => rw [hr] at h; cases h
  | ok y w1 => rw [hr] at h; exact hf y w1 x w' h
theorem NeverOk.runtimePanic {α : Type} (P : Program) (e : RuntimeError) : NeverOk P (runtimePanic e : Sem α) := by
  unfold Go.runtimePanic
  refine NeverOk.bind fun p => ?_
  cases e <;> repeat' (first
    | exact NeverOk.halt P _
    | (refine NeverOk.bind fun _ => ?_)
    | dsimp only)
theorem NeverOk.boundsPanic {α : Type} (P : Program) (k : IntKind) (x y : Int) (c : BoundsCode) : NeverOk P (boundsPanic k x y c : Sem α) := by
  unfold Go.boundsPanic
  dsimp only
  split <;> exact NeverOk.bind fun _ => NeverOk.runtimePanic P _
theorem OkAny.pure {α : Type} (P : Program) (x : α) : OkAny P (Sem.pure x) := fun w y w' h => by
  simp only [Sem.run] at h
  cases h
  exact ⟨rfl, fun w2 => rfl⟩
theorem OkAny.halt {α : Type} (P : Program) (x : Halt) : OkAny P (Sem.halt x : Sem α) := (NeverOk.halt P x).any
theorem OkAny.program {α : Type} {P : Program} {k : Program → Sem α} (hk : ∀ p, OkAny P (k p)) : OkAny P (.program k) := fun w x w' h => by
  simp only [Sem.run] at h ⊢
  exact hk P w x w' h
theorem OkAny.bind {α β : Type} {P : Program} {s : Sem α} {f : α → Sem β} (hs : OkAny P s) (hf : ∀ x, OkAny P (f x)) : OkAny P (s >>= f) := fun w x w' h => by
  simp only [Sem.run_bind] at h ⊢
  cases hr : s.run P w with
  | halt e w1 => rw [hr] at h; cases h
  | ok y w1 =>
    rw [hr] at h
    obtain ⟨rfl, h1⟩ := hs w y w1 hr
    simp only [Result.andThen] at h
    obtain ⟨e, h2⟩ := hf y _ x w' h
    exact ⟨e, fun w2 => by rw [h1 w2]; exact h2 w2⟩
theorem OkAny.typeInfo (P : Program) (t : TypeId) : OkAny P (typeInfo t) := by
  unfold Go.typeInfo Go.program
  refine OkAny.bind (OkAny.program fun p => OkAny.pure P p) fun p => ?_
  split
  · exact OkAny.pure _ _
  · exact OkAny.halt _ _
theorem OkAny.underlying (P : Program) (t : TypeId) : OkAny P (underlying t) := by
  unfold Go.underlying Go.program
  refine OkAny.bind (OkAny.program fun p => OkAny.pure P p) fun p => ?_
  split
  · exact OkAny.pure _ _
  · exact OkAny.halt _ _
theorem OkAny.sizeOf (P : Program) (t : TypeId) : OkAny P (sizeOf t) := by
  unfold Go.sizeOf
  exact OkAny.bind (OkAny.typeInfo P t) fun _ => OkAny.pure _ _
theorem OkAny.isAgg (P : Program) (t : TypeId) : OkAny P (isAgg t) := by
  unfold Go.isAgg
  refine OkAny.bind (OkAny.underlying P t) fun _ => ?_
  split <;> exact OkAny.pure _ _
theorem OkAny.part (P : Program) (t : TypeId) (cs : Array Value) (n : Nat) : OkAny P (part t cs n) := by
  unfold Go.part
  refine OkAny.bind (OkAny.isAgg P t) fun b => ?_
  split
  · exact OkAny.bind (OkAny.sizeOf P t) fun _ => OkAny.pure _ _
  · split
    · exact OkAny.pure _ _
    · exact OkAny.halt _ _
theorem OkAny.asIntOf (P : Program) (v : Value) : OkAny P (asIntOf v) := by
  unfold Go.asIntOf
  split
  · exact OkAny.pure _ _
  · exact OkAny.halt _ _
  · exact OkAny.halt _ _
theorem OkAny.sliceBound (P : Program) (x : Value) (y : Nat) (c : BoundsCode) : OkAny P (Instr.sliceBound x y c) := by
  unfold Instr.sliceBound
  refine OkAny.bind (OkAny.asIntOf P x) fun p => ?_
  dsimp only
  split
  · exact OkAny.pure _ _
  · exact (NeverOk.boundsPanic P _ _ _ _).any
theorem OkAny.sureAddr (P : Program) (v : Value) : OkAny P (Instr.sureAddr v) := by
  unfold Instr.sureAddr
  split
  · exact OkAny.pure _ _
  · exact OkAny.halt _ _
theorem OkAny.asAddr (P : Program) (v : Value) : OkAny P (asAddr v) := by
  unfold Go.asAddr
  split
  · exact OkAny.pure _ _
  · exact (NeverOk.runtimePanic P _).any
  · exact OkAny.halt _ _
theorem OkAny.sliceBounds (P : Program) (b : Bool) (l c : Nat) (lo hi mx : Option Value) : OkAny P (Instr.sliceBounds b l c lo hi mx) := by
  unfold Instr.sliceBounds
  repeat' (first
    | exact OkAny.pure _ _
    | exact OkAny.halt _ _
    | exact OkAny.sliceBound P _ _ _
    | (refine OkAny.bind ?_ fun _ => ?_)
    | split
    | dsimp only)
theorem OkAny.slice (P : Program) (t : TypeId) (x : Value) (lo hi mx : Option Value) : OkAny P (Instr.slice t x lo hi mx) := by
  unfold Instr.slice
  repeat' (first
    | exact OkAny.pure _ _
    | exact OkAny.halt _ _
    | exact OkAny.underlying P _
    | exact OkAny.sizeOf P _
    | exact OkAny.asAddr P _
    | exact OkAny.sliceBounds P _ _ _ _ _ _
    | (refine OkAny.bind ?_ fun _ => ?_)
    | split
    | dsimp only)
theorem OkAny.sliceAt (P : Program) (t : TypeId) (x : Value) (lo hi mx : Option Value) : OkAny P (Instr.sliceAt t x lo hi mx) := by
  unfold Instr.sliceAt
  repeat' (first
    | exact OkAny.pure _ _
    | exact OkAny.halt _ _
    | exact OkAny.underlying P _
    | exact OkAny.sizeOf P _
    | exact OkAny.sureAddr P _
    | exact OkAny.slice P _ _ _ _ _
    | exact OkAny.sliceBounds P _ _ _ _ _ _
    | (refine OkAny.bind ?_ fun _ => ?_)
    | split
    | dsimp only)
theorem OkAny.indexAt (P : Program) (t : TypeId) (x ix : Value) : OkAny P (Instr.indexAt t x ix) := by
  unfold Instr.indexAt
  repeat' (first
    | exact OkAny.pure _ _
    | exact OkAny.halt _ _
    | exact OkAny.underlying P _
    | exact OkAny.sizeOf P _
    | exact OkAny.asIntOf P _
    | exact OkAny.sureAddr P _
    | exact (NeverOk.boundsPanic P _ _ _ _).any
    | (refine OkAny.bind ?_ fun _ => ?_)
    | split
    | dsimp only)
theorem OkAny.index (P : Program) (t : TypeId) (x ix : Value) : OkAny P (Instr.index t x ix) := by
  unfold Instr.index
  repeat' (first
    | exact OkAny.pure _ _
    | exact OkAny.halt _ _
    | exact OkAny.underlying P _
    | exact OkAny.sizeOf P _
    | exact OkAny.asIntOf P _
    | exact OkAny.part P _ _ _
    | exact (NeverOk.boundsPanic P _ _ _ _).any
    | (refine OkAny.bind ?_ fun _ => ?_)
    | split
    | dsimp only)
/-- two integers, two bools, or two strings -/
def twoPlain : Value → Value → Bool
  | .int _ _, .int _ _ => true
  | .bool _, .bool _ => true
  | .string _, .string _ => true
  | _, _ => false
theorem OkAny.equal (P : Program) (t : TypeId) (x y : Bool) : OkAny P (Op.equal t (.bool x) (.bool y)) := by
  unfold Op.equal Op.maxDepth Op.equalIn
  refine OkAny.bind (OkAny.underlying P t) fun d => ?_
  split <;> first | exact OkAny.pure _ _ | exact OkAny.halt _ _ | skip
  all_goals (rename_i h; first | (cases h; done) | skip)
  all_goals simp_all
theorem OkAny.binOp (P : Program) (op : BinOp) (t : TypeId) (x y : Value) (h : twoPlain x y = true) : OkAny P (binOp op t x y) := by
  unfold twoPlain at h
  split at h
  · rename_i k a l b
    cases op <;> simp only [Go.binOp, Op.shift, Op.intArith, Op.intDiv, Op.intBits, Op.intCmp] <;> repeat' (first
      | exact OkAny.pure _ _
      | exact OkAny.halt _ _
      | exact (NeverOk.runtimePanic P _).any
      | split)
  · rename_i a b
    cases op <;> simp only [Go.binOp] <;> repeat' (first
      | exact OkAny.pure _ _
      | exact OkAny.halt _ _
      | exact OkAny.equal P _ _ _
      | (refine OkAny.bind ?_ fun _ => ?_))
  · rename_i a b
    cases op <;> simp only [Go.binOp, Op.stringOp] <;> repeat' (first
      | exact OkAny.pure _ _
      | exact OkAny.halt _ _
      | split)
  · cases h
theorem OkAny.eqGuard (P : Program) (op : BinOp) (t : TypeId) (x y : Operand) (a b : Value) (h : twoPlain a b = true) : OkAny P (eqGuard op t x y a b) := by
  unfold twoPlain at h
  split at h
  · cases op <;> simp only [Go.eqGuard] <;> exact OkAny.pure _ _
  · cases op <;> simp only [Go.eqGuard] <;> exact OkAny.pure _ _
  · cases op <;> simp only [Go.eqGuard] <;> exact OkAny.pure _ _
  · cases h

/-- it computes: by its form, and by what its operands hold -/
def plainOp (o : Oper) (ρ : Operand → Value) : Bool :=
  match o.op with
  | .slice _ _ _ _ _ | .indexAddr _ _ _ | .index _ _ _ => true
  | .binOp _ _ x y _ => twoPlain (ρ x) (ρ y)
  | _ => false
theorem plain_runs {o : Oper} {a : Act} (h : plainOp o a.eval = true) {w : World} {K : Act → World → Prop} (hh : o.wp P a w K NoQ) :
    ∃ v, (∀ w', (execOp a.eval o).run P w' = .ok (.value v) w') ∧ K (a.put o.dst v) w := by
  obtain ⟨dst, op, type, pos, after, guard⟩ := o
  have key : ∀ s : Sem Value, OkAny P s → execOp a.eval ⟨dst, op, type, pos, after, guard⟩ = (do let x ← s; Pure.pure (Next.value x)) →
      ∃ v, (∀ w', (execOp a.eval ⟨dst, op, type, pos, after, guard⟩).run P w' = .ok (.value v) w') ∧ K (a.put dst v) w := by
    intro s hs he
    unfold Oper.wp at hh
    rw [he] at hh ⊢
    simp only [Sem.run_bind] at hh ⊢
    cases hr : s.run P w with
    | halt x w1 =>
      rw [hr] at hh
      simp only [Result.andThen] at hh
      cases x <;> simp only [Oper.upon] at hh
      exact hh.elim
    | ok v w1 =>
      rw [hr] at hh
      simp only [Result.andThen, Sem.run_pure, Oper.upon] at hh
      obtain ⟨rfl, h2⟩ := hs w v w1 hr
      exact ⟨v, fun w' => by rw [h2 w']; rfl, hh⟩
  cases op <;> simp only [plainOp] at h <;> first | (cases h; done) | skip
  · exact key _ (OkAny.bind (OkAny.eqGuard P _ _ _ _ _ _ h) fun _ => OkAny.binOp P _ _ _ _ h) rfl
  · exact key _ (OkAny.sliceAt P _ _ _ _ _) rfl
  · exact key _ (OkAny.indexAt P _ _ _) rfl
  · exact key _ (OkAny.index P _ _ _) rfl
theorem wpT_calc {S : World → Prop} {Q : Exit → Act → World → Prop} {o : Oper} {rest : List Oper} {ks : List Nat} {a : Act} {w : World} (hg : Region.wanted o (yielded ops a.tmps) = true) (hp : plainOp o a.eval = true)
    (h : ∀ K : Act → World → Prop, (∀ a w, wpT P ops S Q rest ks a w → K a w) → o.wp P a w K NoQ) : wpT P ops S Q (o :: rest) (0 :: ks) a w := by
  have := plain_runs hp (h _ (fun _ _ h => h))
  unfold wpT
  rw [if_pos hg]
  simpa using this
theorem wpT_calc0 {S : World → Prop} {Q : Exit → Act → World → Prop} {o : Oper} {rest : List Oper} {ks : List Nat} {a : Act} {w : World} (hg : o.guard = none) (hp : plainOp o a.eval = true)
    (h : ∀ K : Act → World → Prop, (∀ a w, wpT P ops S Q rest ks a w → K a w) → o.wp P a w K NoQ) : wpT P ops S Q (o :: rest) (0 :: ks) a w :=
  wpT_calc (by simp [Region.wanted, hg]) hp h
theorem wpT_skip {S : World → Prop} {Q : Exit → Act → World → Prop} {o : Oper} {rest : List Oper} {k : Nat} {ks : List Nat} {a : Act} {w : World} (hg : Region.wanted o (yielded ops a.tmps) = false)
    (h : wpT P ops S Q rest ks (a.put o.dst undef) w) : wpT P ops S Q (o :: rest) (k :: ks) a w := by
  unfold wpT
  rw [if_neg (by rw [hg]; exact Bool.false_ne_true)]
  exact h
theorem wpT_skipG {S : World → Prop} {Q : Exit → Act → World → Prop} {o : Oper} {rest : List Oper} {k : Nat} {ks : List Nat} {a : Act} {w : World} {j : Nat} {b : Bool} (hgd : o.guard = some (j, b)) (hy : (yielded ops a.tmps j == some b) = false)
    (h : wpT P ops S Q rest ks (a.put o.dst undef) w) : wpT P ops S Q (o :: rest) (k :: ks) a w :=
  wpT_skip (by simp only [Region.wanted, hgd]; exact hy) h
theorem wpT_calcG {S : World → Prop} {Q : Exit → Act → World → Prop} {o : Oper} {rest : List Oper} {ks : List Nat} {a : Act} {w : World} {j : Nat} {b : Bool} (hgd : o.guard = some (j, b)) (hp : plainOp o a.eval = true) (hy : (yielded ops a.tmps j == some b) = true)
    (h : ∀ K : Act → World → Prop, (∀ a w, wpT P ops S Q rest ks a w → K a w) → o.wp P a w K NoQ) : wpT P ops S Q (o :: rest) (0 :: ks) a w :=
  wpT_calc (by simp only [Region.wanted, hgd]; exact hy) hp h
/-- the operations in another order -/
theorem wpR_of {ks : Array Nat} {S : World → Prop} {Q : Exit → Act → World → Prop} {L : List Nat} {a : Act} {w : World} (l : List Oper) (ks' : List Nat) (h1 : L.map (fun i => ops[i]?) = l.map some) (h2 : L.map (fun i => ks.getD i 3) = ks')
    (h : wpT P ops S Q l ks' a w) : wpR P ops ks S Q L a w := by
  rw [← wpT_eq L l h1, h2]
  exact h

def pick (l : List Oper) (L : List Nat) : List Oper := L.filterMap fun i => l[i]?
theorem wpR_pick {l : List Oper} {ks : List Nat} {S : World → Prop} {Q : Exit → Act → World → Prop} {L : List Nat} {a : Act} {w : World} (hL : L.all (fun i => decide (i < l.length)) = true)
    (h : wpT P l.toArray S Q (pick l L) (L.map fun i => ks.toArray.getD i 3) a w) : wpR P l.toArray ks.toArray S Q L a w := by
  refine wpR_of (pick l L) _ ?_ rfl h
  have hL' : ∀ i ∈ L, i < l.length := fun i hi => by simpa using List.all_eq_true.1 hL i hi
  clear h hL
  unfold pick
  induction L with
  | nil => rfl
  | cons i L ih =>
    have hi := hL' i (List.mem_cons_self ..)
    rw [List.filterMap_cons, List.getElem?_eq_getElem hi, List.map_cons, List.map_cons, ih (fun j hj => hL' j (List.mem_cons_of_mem _ hj))]
    simp [hi]

/-- a load of a region that draws, held by S -/
theorem wpT_hload {S : World → Prop} {Q : Exit → Act → World → Prop} {o : Oper} {rest : List Oper} {ks : List Nat} {a : Act} {w : World} (t : TypeId) (x : Operand) (ho : o.op = .load t x) (hg : o.guard = none)
    {ad : Addr} (hx : a.eval x = .pointer (some ad)) {v : Value} (hv : ∀ w', S w' → (loadVar t ad).run P w' = .ok v w') (hS : S w) (h : wpT P ops S Q rest ks (a.put o.dst v) w) : wpT P ops S Q (o :: rest) (5 :: ks) a w := by
  refine wpT_held hS v hg (fun w' hw' => ?_) h
  unfold StillAt execOp
  simp [ho, hx, Instr.loadAt, Instr.sureAddr, hv w' hw']
/-- every kind by the operation's form -/
def kindBy (o : Oper) : Nat :=
  match o.op with
  | .load _ _ => 1
  | .alloc _ | .box _ _ | .buildSlice _ _ _ => 2
  | .store _ _ _ | .makeMap _ _ | .makeSlice _ _ _ | .makeChan _ _ | .lookup _ _ _ _ | .mapUpdate _ _ _ _ | .mapEntry _ _ _ | .entryStore _ _ _ _ | .insert _ _ _ _ | .range _ _ | .next _ _ | .entry _ | .panic _ | .go _ | .defer _ | .send _ _ | .recv _ _ _ | .select _ _ | .ready _ | .waits _ => 3
  | .call c => match c.callee with
    | .builtin .len | .builtin .cap | .builtin .min | .builtin .max => 0
    | _ => 3
  | _ => 0
theorem wp_region_by {id : Nat} {l : List Oper} {Q : Exit → Act → World → Prop} {a : Act} {w : World} (hm : P.follows .mixedOrders = true)
    (hB : ordersB l (l.map kindBy).toArray [List.range l.length] = true) (h : wpT P l.toArray (fun _ => True) Q l (l.map kindBy) a w.drew) : (Code.region id l.toArray true).wp P Q a w :=
  wp_region_text _ _ hm (by simp) hB h
end
end Go.Proofs.YtfoleblcaloeoaaGreatDoor
