/- Memory: slices that read as lists; what a call may have changed; append, by one law. -/
import Derived.WalkKit
import Derived.WalkSpells
import Derived.WalkLawsBesides
namespace Go.Proofs.YtinlpjgjjplceaaDoor
open Go Go.RowKit

theorem hide {p : Prop} (h : p) : Hid p := h

/-! ## What may have changed -/

/-- of what was there only the blocks of F may have changed; new blocks may have come -/
structure Chg (F : List Nat) (w w' : World) : Prop where
  os : w'.os = w.os
  tape : w'.tape = w.tape
  output : w'.output = w.output
  size : w.heap.size ≤ w'.heap.size
  block : ∀ k, k < w.heap.size → k ∉ F → w'.heap[k]? = w.heap[k]?

section
variable {F G : List Nat} {a b w w' : World}
theorem Chg.refl (F : List Nat) (w : World) : Chg F w w := ⟨rfl, rfl, rfl, Nat.le_refl _, fun _ _ _ => rfl⟩
theorem Chg.trans (h : Chg F a b) (k : Chg G b w) (hG : ∀ x ∈ G, x ∈ F ∨ a.heap.size ≤ x) : Chg F a w :=
  ⟨k.os.trans h.os, k.tape.trans h.tape, k.output.trans h.output, Nat.le_trans h.size k.size, fun i hi hF =>
    (k.block i (Nat.lt_of_lt_of_le hi h.size) (fun hg => (hG i hg).elim hF (by omega))).trans (h.block i hi hF)⟩
theorem Chg.mono (h : Chg F a b) (hG : ∀ x ∈ F, x ∈ G ∨ a.heap.size ≤ x) : Chg G a b :=
  ⟨h.os, h.tape, h.output, h.size, fun i hi hg => h.block i hi fun hf => (hG i hf).elim hg (by omega)⟩
theorem Chg.drew (h : Chg F a w) : Chg F a w.drew := ⟨h.os, h.tape, h.output, h.size, h.block⟩
theorem Chg.alloc (h : Chg F a w) (o : Obj) : Chg F a (w.alloc o) :=
  ⟨h.os, h.tape, h.output, Nat.le_trans h.size (by simp), fun k hk hF => (Below.heap_alloc w o k (Nat.lt_of_lt_of_le hk h.size)).trans (h.block k hk hF)⟩
theorem Chg.setCell (h : Chg F a w) {p : Addr} (hp : p.block ∈ F ∨ a.heap.size ≤ p.block) (u : Value) : Chg F a (w.setCell p u) :=
  ⟨h.os, h.tape, h.output, by simpa [World.setCell] using h.size, fun k hk hF => (Below.heap_setCell w p u k (fun e => by subst e; exact hp.elim hF (by omega))).trans (h.block k hk hF)⟩
theorem Chg.setRow (h : Chg F a w) {g : Nat} (hp : g ∈ F ∨ a.heap.size ≤ g) (cs : Array Value) : Chg F a (w.setRow g cs) :=
  ⟨h.os, h.tape, h.output, by simpa using h.size, fun k hk hF => (setRow_other w g k cs (fun e => by subst e; exact hp.elim hF (by omega))).trans (h.block k hk hF)⟩
theorem Chg.below {B : Nat} (h : Chg F a b) (hF : ∀ x ∈ F, B ≤ x) (hB : B ≤ a.heap.size) : Below B a b :=
  ⟨h.os, h.tape, h.output, h.size, fun k hk => h.block k (by omega) fun hf => by have := hF k hf; omega⟩
theorem Chg.of_below {B : Nat} (h : Below B a b) (hF : ∀ k, B ≤ k → k < a.heap.size → k ∈ F) : Chg F a b :=
  ⟨h.os, h.tape, h.output, h.size, fun k hk hf => h.block k (by rcases Nat.lt_or_ge k B with h1 | h1; exact h1; exact absurd (hF k h1 hk) hf)⟩
theorem Chg.cell (h : Chg F a b) {p : Addr} {v : Value} (hc : a.cell? p = some v) (hF : p.block ∉ F) : b.cell? p = some v :=
  (World.cell?_of_block (h.block p.block (World.block_lt_of_cell? a p hc) hF)).trans hc
end

/-! ## Blocks -/

/-- block g is just these cells, none of them frozen -/
def Blk (w : World) (g : Nat) (t : TypeId) (cs : Array Value) : Prop := w.heap[g]? = some (.cells cs t (0, 0))

section
variable {w w' : World} {g : Nat} {t : TypeId} {cs : Array Value} {F : List Nat}
theorem Blk.lt (h : Blk w g t cs) : g < w.heap.size := (Array.getElem?_eq_some_iff.1 h).1
theorem Blk.cell (h : Blk w g t cs) (i : Nat) : w.cell? ⟨g, i, none⟩ = cs[i]? := cell_of_row w g i cs t (0, 0) h
theorem Blk.frozen (h : Blk w g t cs) (i : Nat) : w.frozen? ⟨g, i, none⟩ = false := by
  unfold Blk at h
  simp [World.frozen?, h]
theorem Blk.new (w : World) (t : TypeId) (cs : Array Value) : Blk (w.alloc (.cells cs t)) w.heap.size t cs := heap_alloc_new w _
theorem Blk.drew (h : Blk w g t cs) : Blk w.drew g t cs := h
theorem Blk.alloc (h : Blk w g t cs) (o : Obj) : Blk (w.alloc o) g t cs := (Below.heap_alloc w o g h.lt).trans h
theorem Blk.set_ (h : Blk w g t cs) (i : Nat) (u : Value) : Blk (w.setCell ⟨g, i, none⟩ u) g t (cs.setIfInBounds i u) := by
  unfold Blk at h ⊢
  simp [World.setCell, Array.getElem?_modify, h]
theorem Blk.far (h : Blk w g t cs) {p : Addr} (hp : g ≠ p.block) (u : Value) : Blk (w.setCell p u) g t cs := (Below.heap_setCell w p u g hp).trans h
theorem Blk.chg (h : Blk w g t cs) (hb : Chg F w w') (hg : g ∉ F) : Blk w' g t cs := (hb.block g h.lt hg).trans h
theorem Blk.below {B : Nat} (h : Blk w g t cs) (hb : Below B w w') (hg : g < B) : Blk w' g t cs := (hb.block g hg).trans h
theorem Blk.ne_ {g' : Nat} {t' : TypeId} {cs' : Array Value} (h : Blk w g t cs) (h' : Blk w g' t' cs') (hne : t ≠ t') : g ≠ g' := by
  rintro rfl
  unfold Blk at h h'
  rw [h] at h'
  injection h' with h'
  injection h' with _ ht
  exact hne ht
end

/-! ## Slices that are read -/

/-- the slice value v has n elements of so many cells each, which are cs -/
def Rd (w : World) (size : Nat) (v : Value) (n : Nat) (cs : List Value) : Prop :=
  cs.length = n * size ∧ ∃ A c, v = .slice A n c ∧ n ≤ c ∧ (0 < n → ∃ g off, A = some ⟨g, off, none⟩ ∧ ∀ j u, cs[j]? = some u → w.cell? ⟨g, off + j, none⟩ = some u)

section
variable {w w' : World} {size n : Nat} {v : Value} {cs : List Value} {F : List Nat}
theorem Rd.nil (w : World) (size c : Nat) (A : Option Addr) : Rd w size (.slice A 0 c) 0 [] := ⟨by simp, A, c, rfl, Nat.zero_le _, fun h => absurd h (by omega)⟩
theorem Rd.keep (h : Rd w size v n cs) (hk : ∀ (p : Addr) u, v.ownBlock = some p.block → w.cell? p = some u → w'.cell? p = some u) : Rd w' size v n cs := by
  obtain ⟨h1, A, c, rfl, hc, h2⟩ := h
  refine ⟨h1, A, c, rfl, hc, fun hn => ?_⟩
  obtain ⟨g, off, rfl, h3⟩ := h2 hn
  exact ⟨g, off, rfl, fun j u hu => hk _ _ rfl (h3 j u hu)⟩
theorem Rd.drew (h : Rd w size v n cs) : Rd w.drew size v n cs := h
theorem Rd.chg (h : Rd w size v n cs) (hc : Chg F w w') (hF : ∀ k, v.ownBlock = some k → k ∉ F) : Rd w' size v n cs :=
  h.keep fun _ _ hp hcell => hc.cell hcell (hF _ hp)
theorem Rd.below {B : Nat} (h : Rd w size v n cs) (hc : Below B w w') (hF : ∀ k, v.ownBlock = some k → k < B) : Rd w' size v n cs :=
  h.keep fun _ _ hp hcell => (hc.cell (hF _ hp)).trans hcell
theorem Rd.alloc (h : Rd w size v n cs) (o : Obj) : Rd (w.alloc o) size v n cs := h.keep fun p _ _ hc => (World.cell?_of_block (Below.heap_alloc w o p.block (World.block_lt_of_cell? w p hc))).trans hc
theorem Rd.form (h : Rd w size v n cs) : ∃ A c, v = .slice A n c := let ⟨_, A, c, e, _⟩ := h; ⟨A, c, e⟩
theorem Rd.at_ {k : Nat} (h : Rd w size v n cs) (hk : k < n) : ∃ g off c, v = .slice (some ⟨g, off, none⟩) n c ∧ n ≤ c ∧ ∀ j, j < size → ∃ u, cs[k * size + j]? = some u ∧ w.cell? ⟨g, off + k * size + j, none⟩ = some u := by
  obtain ⟨h1, A, c, rfl, hc, h2⟩ := h
  obtain ⟨g, off, rfl, h3⟩ := h2 (by omega)
  refine ⟨g, off, c, rfl, hc, fun j hj => ?_⟩
  have hlt : k * size + j < cs.length := by
    rw [h1]
    calc k * size + j < k * size + size := by omega
      _ = (k + 1) * size := by rw [Nat.add_mul, Nat.one_mul]
      _ ≤ n * size := Nat.mul_le_mul_right _ hk
  exact ⟨cs[k * size + j], List.getElem?_eq_getElem hlt, by rw [Nat.add_assoc]; exact h3 _ _ (List.getElem?_eq_getElem hlt)⟩
end

/-! ## Slices of a call's own -/

/-- the slice value v has n elements of type e, of so many cells each, which are cs: nil, or a piece of a block without frozen cells; all up to its capacity lies in the block -/
def Sl (w : World) (e : TypeId) (size : Nat) (v : Value) (n : Nat) (cs : List Value) : Prop :=
  cs.length = n * size ∧
  ((v = .slice none 0 0 ∧ n = 0) ∨
   ∃ g off cap cur, v = .slice (some ⟨g, off, none⟩) n cap ∧ Blk w g e cur ∧ n ≤ cap ∧ cap ≤ maxLen ∧ off + cap * size ≤ cur.size ∧ (cur.toList.drop off).take (n * size) = cs)

section
variable {w w' : World} {e : TypeId} {size n : Nat} {v : Value} {cs : List Value} {F : List Nat}
theorem Sl.nil (w : World) (e : TypeId) (size : Nat) : Sl w e size (.slice none 0 0) 0 [] := ⟨by simp, .inl ⟨rfl, rfl⟩⟩
theorem Sl.rd (h : Sl w e size v n cs) : Rd w size v n cs := by
  obtain ⟨h1, ⟨rfl, rfl⟩ | ⟨g, off, cap, cur, rfl, hb, hn, _, hs, ht⟩⟩ := h
  · exact ⟨h1, none, 0, rfl, Nat.le_refl _, fun h => absurd h (by omega)⟩
  · refine ⟨h1, _, _, rfl, hn, fun _ => ⟨g, off, rfl, fun j u hu => ?_⟩⟩
    rw [hb.cell]
    rw [← ht, List.getElem?_take] at hu
    split at hu
    · rw [List.getElem?_drop] at hu; simpa using hu
    · cases hu
theorem Sl.lt (h : Sl w e size v n cs) : ∀ k, v.ownBlock = some k → k < w.heap.size := by
  intro k hk
  obtain ⟨_, ⟨rfl, _⟩ | ⟨g, off, cap, cur, rfl, hb, _⟩⟩ := h
  · cases hk
  · simp only [Value.ownBlock, Option.some.injEq] at hk; subst hk; exact hb.lt
theorem Sl.keep (h : Sl w e size v n cs) (hk : ∀ k, v.ownBlock = some k → w'.heap[k]? = w.heap[k]?) : Sl w' e size v n cs := by
  refine ⟨h.1, ?_⟩
  obtain ⟨_, h | ⟨g, off, cap, cur, rfl, hb, r⟩⟩ := h
  · exact .inl h
  · exact .inr ⟨g, off, cap, cur, rfl, (hk g rfl).trans hb, r⟩
theorem Sl.chg (h : Sl w e size v n cs) (hc : Chg F w w') (hF : ∀ k, v.ownBlock = some k → k ∉ F) : Sl w' e size v n cs :=
  h.keep fun k hk => hc.block k (h.lt k hk) (hF k hk)
theorem Sl.below {B : Nat} (h : Sl w e size v n cs) (hc : Below B w w') (hF : ∀ k, v.ownBlock = some k → k < B) : Sl w' e size v n cs :=
  h.keep fun k hk => hc.block k (hF k hk)
theorem Sl.alloc (h : Sl w e size v n cs) (o : Obj) : Sl (w.alloc o) e size v n cs := h.keep fun k hk => Below.heap_alloc w o k (h.lt k hk)
theorem Sl.drew (h : Sl w e size v n cs) : Sl w.drew e size v n cs := h
theorem Sl.far (h : Sl w e size v n cs) {p : Addr} (hp : v.ownBlock ≠ some p.block) (u : Value) : Sl (w.setCell p u) e size v n cs :=
  h.keep fun k hk => Below.heap_setCell w p u k (fun e => hp (by rw [hk, e]))
theorem Sl.cap_le (h : Sl w e size v n cs) : ∃ A c, v = .slice A n c ∧ n ≤ c ∧ c ≤ maxLen := by
  obtain ⟨_, ⟨rfl, rfl⟩ | ⟨g, off, cap, cur, rfl, hb, h1, h2, _⟩⟩ := h
  · exact ⟨none, 0, rfl, Nat.le_refl _, Nat.zero_le _⟩
  · exact ⟨_, _, rfl, h1, h2⟩
theorem Sl.form (h : Sl w e size v n cs) : ∃ A c, v = .slice A n c := h.rd.form
/-- a block that was just made -/
theorem Sl.made (w : World) (e : TypeId) (size : Nat) (cur : Array Value) (n cap : Nat) (hn : n ≤ cap) (hm : cap ≤ maxLen) (hs : cap * size ≤ cur.size) :
    Sl (w.alloc (.cells cur e)) e size (.slice (some ⟨w.heap.size, 0, none⟩) n cap) n (cur.toList.take (n * size)) := by
  refine ⟨?_, .inr ⟨_, 0, cap, cur, rfl, Blk.new w e cur, hn, hm, by omega, by simp⟩⟩
  rw [List.length_take]
  have : n * size ≤ cap * size := Nat.mul_le_mul_right _ hn
  simp
  omega
/-- a piece from the beginning -/
theorem Sl.take (h : Sl w e size v n cs) {k : Nat} (hk : k ≤ n) {A : Option Addr} {c : Nat} (hv : v = .slice A n c) : Sl w e size (.slice A k c) k (cs.take (k * size)) := by
  have hle : k * size ≤ n * size := Nat.mul_le_mul_right _ hk
  refine ⟨by rw [List.length_take, h.1]; omega, ?_⟩
  obtain ⟨h1, ⟨rfl, rfl⟩ | ⟨g, off, cap, cur, rfl, hb, hn, hm, hs, ht⟩⟩ := h
  · injection hv with e1 e2 e3
    subst e1; subst e3
    exact .inl ⟨by rw [show k = 0 by omega], by omega⟩
  · injection hv with e1 e2 e3
    subst e1; subst e3
    refine .inr ⟨g, off, cap, cur, rfl, hb, by omega, hm, hs, ?_⟩
    rw [← ht, List.take_take, Nat.min_eq_left hle]
/-- a piece to the end -/
theorem Sl.drop (h : Sl w e size v n cs) {k : Nat} (hk : k ≤ n) {A : Option Addr} {c : Nat} (hv : v = .slice A n c) :
    Sl w e size (.slice (if c = k then A else A.map (·.add (k * size))) (n - k) (c - k)) (n - k) (cs.drop (k * size)) := by
  have hle : k * size ≤ n * size := Nat.mul_le_mul_right _ hk
  refine ⟨by rw [List.length_drop, h.1, Nat.sub_mul], ?_⟩
  obtain ⟨h1, ⟨rfl, rfl⟩ | ⟨g, off, cap, cur, rfl, hb, hn, hm, hs, ht⟩⟩ := h
  · injection hv with e1 e2 e3
    subst e1; subst e3
    exact .inl ⟨by simp, by omega⟩
  · injection hv with e1 e2 e3
    subst e1; subst e3
    by_cases hck : cap = k
    · rw [if_pos hck]
      have hnk : n = k := by omega
      refine .inr ⟨g, off, cap - k, cur, rfl, hb, by omega, by omega, ?_, ?_⟩
      · rw [show cap - k = 0 by omega]; simp; omega
      · rw [show n - k = 0 by omega, Nat.zero_mul, List.take_zero, List.drop_eq_nil_of_le (by rw [h1, hnk]; exact Nat.le_refl _)]
    · rw [if_neg hck]
      have hadd : (⟨g, off, none⟩ : Addr).add (k * size) = ⟨g, off + k * size, none⟩ := by unfold Addr.add; split <;> simp_all
      refine .inr ⟨g, off + k * size, cap - k, cur, by simp [hadd], hb, by omega, by omega, ?_, ?_⟩
      · rw [Nat.sub_mul]; have : k * size ≤ cap * size := Nat.mul_le_mul_right _ (by omega); omega
      · rw [← ht, List.drop_take, List.drop_drop, Nat.sub_mul]
end

/-- append, whatever the source, onto a slice of the call's own -/
theorem run_append_sl {P : Program} {w : World} {t ty e : TypeId} {i : TypeInfo} {z : Value} {size bytes : Nat} (ht : P.underlying t = some (.slice e)) (hi : P.info? e = some i) (hz : i.zero = some z)
    (hsize : i.size = size) (hby : i.bytes = bytes) (hzs : z.cells.size = size)
    {v x : Value} {n m : Nat} {xs news : List Value} (hv : Sl w e size v n xs) (hx : Rd w size x m news) (h1 : ∀ u ∈ news, u.oneCell' = true)
    (h63 : n + m ≤ maxLen) (hbytes : (n + m) * bytes ≤ 140737488355328) :
    ∃ v' w', (Builtin.append_ #[t, t] ty #[v, x]).run P w = .ok v' w' ∧ Sl w' e size v' (n + m) (xs ++ news) ∧ Chg v.ownBlock.toList w w' ∧
      (v'.ownBlock = v.ownBlock ∨ v'.ownBlock = some w.heap.size) := by
  subst hsize
  subst hby
  have hsmall : n + m ≤ 9223372036854775807 := by simp only [maxLen] at h63; omega
  have hlen : (xs ++ news).length = (n + m) * i.size := by rw [List.length_append, hv.1, hx.1, Nat.add_mul]
  obtain ⟨hxl, A, c, rfl, hmc, hxa⟩ := hx
  -- the first cells of both
  have hfx : ∀ w1 : World, (∀ p u, w.cell? p = some u → w1.cell? p = some u) → (Builtin.firstCells i.size m (.slice A m c)).run P w1 = .ok news.toArray w1 := by
    intro w1 hk
    rcases Nat.eq_zero_or_pos m with h0 | h0
    · subst h0
      have : news = [] := List.eq_nil_of_length_eq_zero (by simpa using hxl)
      subst this
      cases A with
      | none => simp [Builtin.firstCells]
      | some a => exact run_firstCells_some (P := P) w1 i.size 0 a 0 c [] (by simp) (by simp)
    · obtain ⟨g, off, rfl, hc⟩ := hxa h0
      exact run_firstCells_some (P := P) w1 i.size m _ m c news hxl (fun j u hu => by rw [Addr.add_lit]; exact hk _ _ (hc j u hu))
  -- what the growing arm leaves
  have grown : ∀ (old : Nat), old < n + m → ∀ (row : List Nat),
      Sl (w.drew.alloc (.cells (xs.toArray ++ news.toArray ++ Builtin.zeroCells z.cells (grownCap w (n + m) old e - (n + m))) e)) e i.size
        (.slice (some ⟨w.heap.size, 0, none⟩) (n + m) (grownCap w (n + m) old e)) (n + m) (xs ++ news) ∧
      Chg row w (w.drew.alloc (.cells (xs.toArray ++ news.toArray ++ Builtin.zeroCells z.cells (grownCap w (n + m) old e - (n + m))) e)) := by
    intro old ho row
    have hge := grownCap_ge w (n + m) old e
    have hcm : grownCap w (n + m) old e ≤ maxLen := grownCap_le_maxLen w (n + m) old e h63
    refine ⟨⟨hlen, .inr ⟨w.heap.size, 0, _, _, rfl, heap_alloc_new w.drew _, hge, hcm, ?_, ?_⟩⟩, ((Chg.refl row w).drew).alloc _⟩
    · simp only [Array.size_append, List.size_toArray, size_zeroCells, hzs, hv.1, hxl, ← Nat.add_mul]
      refine Nat.le_of_eq ?_
      rw [Nat.zero_add]
      congr 1
      omega
    · simp only [Array.toList_append, List.append_assoc, List.drop_zero]
      rw [← List.append_assoc, ← hlen]
      exact List.take_left
  have grows : ∀ (a0 : Option Addr) (old : Nat), old < n + m →
      (Builtin.firstCells i.size n (.slice a0 n old)).run P w.drew = .ok xs.toArray w.drew → Builtin.nextslicecap (n + m) old * i.bytes ≤ 281474976710656 →
      (Builtin.append_ #[t, t] ty #[.slice a0 n old, .slice A m c]).run P w = .ok (.slice (some ⟨w.heap.size, 0, none⟩) (n + m) (grownCap w (n + m) old e))
        (w.drew.alloc (.cells (xs.toArray ++ news.toArray ++ Builtin.zeroCells z.cells (grownCap w (n + m) old e - (n + m))) e)) := by
    intro a0 old ho hf hfit
    have hn : ¬ (n + m ≤ old) := by omega
    have h63' : ¬ (9223372036854775807 < ((n : Int) + (m : Int))) := by omega
    have h48' : ¬ (281474976710656 < Builtin.nextslicecap (n + m) old * i.bytes) := by omega
    have hf2 := hfx w.drew (fun p u h => h)
    simp [Builtin.append_, run_underlying ht, sizeOf, typeInfo, zeroValue, hi, hz, Builtin.lenOf, hn, h63', h48', Question.forced, hf, hf2, newRow, grownCap]
    congr 2
    apply Array.ext'
    simp
  obtain ⟨hvl, ⟨rfl, rfl⟩ | ⟨g, off, cap, cur, rfl, hb, hncap, hcm, hs, htk⟩⟩ := hv
  · have hxs : xs = [] := List.eq_nil_of_length_eq_zero (by simpa using hvl)
    subst hxs
    rcases Nat.eq_zero_or_pos m with h0 | h0
    · subst h0
      have hnw : news = [] := List.eq_nil_of_length_eq_zero (by simpa using hxl)
      subst hnw
      have hf := hfx w (fun _ _ h => h)
      refine ⟨.slice none 0 0, w, ?_, Sl.nil w e _, Chg.refl _ _, .inl rfl⟩
      simp [Builtin.append_, run_underlying ht, sizeOf, typeInfo, hi, Builtin.lenOf, hf]
    · obtain ⟨g1, g2⟩ := grown 0 (by omega) (Value.slice none 0 0).ownBlock.toList
      refine ⟨_, _, grows none 0 (by omega) (by simp [Builtin.firstCells]) ?_, g1, g2, .inr rfl⟩
      rw [nextslicecap_zero (by omega)]
      omega
  · by_cases hroom : n + m ≤ cap
    · have hf := hfx w (fun _ _ h => h)
      have hmul : n * i.size + m * i.size ≤ cap * i.size := by rw [← Nat.add_mul]; exact Nat.mul_le_mul_right _ hroom
      have hst := run_storeCells_at P g (off + n * i.size) e news 0 cur w hb (by rw [hxl]; omega) h1
      rw [Nat.add_zero] at hst
      refine ⟨.slice (some ⟨g, off, none⟩) (n + m) cap, w.setRow g (cur.toList.take (off + n * i.size) ++ news ++ cur.toList.drop (off + n * i.size + news.length)).toArray, ?_, ?_, (Chg.refl _ w).setRow (.inl (by simp [Value.ownBlock])) _, .inl rfl⟩
      · simp [Builtin.append_, run_underlying ht, sizeOf, typeInfo, hi, Builtin.lenOf, hroom, hf, Addr.add_lit, hst]
      · have hcl : cur.toList.length = cur.size := by simp
        refine ⟨hlen, .inr ⟨g, off, cap, _, rfl, setRow_heap w g cur _ e (0, 0) hb, hroom, hcm, ?_, ?_⟩⟩
        · simp only [List.size_toArray, List.length_append, List.length_take, List.length_drop, hcl, hxl]
          omega
        · have hh : (cur.toList.take (off + n * i.size)).length = off + n * i.size := by rw [List.length_take]; omega
          have e1 : cur.toList.take (off + n * i.size) = cur.toList.take off ++ xs := by
            rw [← htk, List.take_add]
          simp only [e1, List.append_assoc]
          have e2 : (cur.toList.take off).length = off := by rw [List.length_take]; omega
          rw [List.drop_append_of_le_length (by omega), List.drop_eq_nil_of_le (by omega), List.nil_append, ← List.append_assoc, ← hlen]
          exact List.take_left
    · obtain ⟨g1, g2⟩ := grown cap (by omega) (Value.slice (some ⟨g, off, none⟩) n cap).ownBlock.toList
      refine ⟨_, _, grows (some ⟨g, off, none⟩) cap (by omega) ?_ (growslice_fits (by omega) hbytes), g1, g2, .inr rfl⟩
      have hr := (Sl.rd (w := w) (v := .slice (some ⟨g, off, none⟩) n cap) (e := e) (size := i.size) (n := n) (cs := xs) ⟨hvl, .inr ⟨g, off, cap, cur, rfl, hb, hncap, hcm, hs, htk⟩⟩)
      obtain ⟨_, A', c', heq, _, hcell⟩ := hr
      injection heq with ea eb ec
      subst ea
      refine run_firstCells_some (P := P) w.drew i.size n _ n cap xs hvl (fun j u hu => ?_)
      rcases Nat.eq_zero_or_pos n with h0 | h0
      · subst h0
        have : xs = [] := List.eq_nil_of_length_eq_zero (by simpa using hvl)
        subst this
        simp at hu
      · obtain ⟨g', off', he, hc⟩ := hcell h0
        injection he with he
        injection he with e1 e2
        subst e1; subst e2
        rw [Addr.add_lit]
        exact hc j u hu

theorem wp_append_sl {P : Program} {w : World} {o : Oper} {a : Act} {K : Act → World → Prop} {Q : Exit → Act → World → Prop} (s x : Operand) (t : TypeId)
    (ho : o.op = .call { callee := .builtin .append, args := #[s, x], argTypes := #[t, t] })
    (e : TypeId) {i : TypeInfo} {z : Value} {size bytes : Nat} (ht : P.underlying t = some (.slice e)) (hi : P.info? e = some i) (hz : i.zero = some z)
    (hsize : i.size = size) (hby : i.bytes = bytes) (hzs : z.cells.size = size)
    {v y : Value} {n m : Nat} {xs news : List Value} (hs : a.eval s = v) (hv : Sl w e size v n xs) (hy : a.eval x = y) (hx : Rd w size y m news) (h1 : ∀ u ∈ news, u.oneCell' = true)
    (h63 : n + m ≤ maxLen) (hbytes : (n + m) * bytes ≤ 140737488355328)
    (h : ∀ v' w', Sl w' e size v' (n + m) (xs ++ news) → Chg v.ownBlock.toList w w' → (v'.ownBlock = v.ownBlock ∨ v'.ownBlock = some w.heap.size) → K (a.put o.dst v') w') : o.wp P a w K Q := by
  obtain ⟨v', w', hrun, h2, h3, h4⟩ := run_append_sl (ty := o.type) ht hi hz hsize hby hzs hv hx h1 h63 hbytes
  unfold Oper.wp execOp
  simp only [ho, resolve, invoke, builtin, Sem.run_bind, Sem.run_pure, Result.andThen_ok, List.map_toArray, List.map_cons, List.map_nil, hs, hy, hrun]
  exact h v' w' h2 h3 h4
end Go.Proofs.YtinlpjgjjplceaaDoor
