/- Slices of a call's own, of elements of any width; what grows; what is kept. -/
import Derived.Test.YtinlpjgjjplceaaDoorMem
namespace Go.Proofs.YtinlpjgjjplceaaDoor
open Go Go.RowKit

abbrev own (v : Value) : List Nat := v.ownBlock.toList
theorem own_mem {v : Value} {k : Nat} : k ∈ own v ↔ v.ownBlock = some k := by simp [own]
theorem own_nil {k : Nat} (h : k ∈ own (.slice none 0 0)) : False := by simp [own, Value.ownBlock] at h
theorem own_at {g off n c : Nat} : own (.slice (some ⟨g, off, none⟩) n c) = [g] := rfl
theorem size_set (w : World) (p : Addr) (u : Value) : (w.setCell p u).heap.size = w.heap.size := by simp [World.setCell]
theorem blk_other {w : World} {e e' : TypeId} {size n : Nat} {v : Value} {cs : List Value} (h : Sl w e size v n cs) {p : Nat} {cs' : Array Value} (hb : Blk w p e' cs') (ht : e' ≠ e) : v.ownBlock ≠ some p := by
  intro e1
  obtain ⟨_, ⟨rfl, _⟩ | ⟨g, off, cap, cur, rfl, hg, _⟩⟩ := h
  · cases e1
  · simp only [Value.ownBlock, Option.some.injEq] at e1
    subst e1
    exact hg.ne_ hb (Ne.symm ht) rfl
theorem Sl.blk {w : World} {e : TypeId} {size n : Nat} {v : Value} {cs : List Value} (h : Sl w e size v n cs) {k : Nat} (hk : k ∈ own v) : ∃ cur, Blk w k e cur := by
  rw [own_mem] at hk
  obtain ⟨_, ⟨rfl, _⟩ | ⟨g, off, cap, cur, rfl, hg, _⟩⟩ := h
  · cases hk
  · simp only [Value.ownBlock, Option.some.injEq] at hk
    subst hk
    exact ⟨_, hg⟩
theorem Sl.own_lt {w : World} {e : TypeId} {size n : Nat} {v : Value} {cs : List Value} (h : Sl w e size v n cs) : ∀ k ∈ own v, k < w.heap.size := fun k hk => h.lt k (own_mem.1 hk)
theorem Sl.setc {w : World} {e : TypeId} {size n : Nat} {g off c : Nat} {cs : List Value} (h : Sl w e size (.slice (some ⟨g, off, none⟩) n c) n cs) {j : Nat} (hj : j < n * size) (u : Value) :
    Sl (w.setCell ⟨g, off + j, none⟩ u) e size (.slice (some ⟨g, off, none⟩) n c) n (cs.set j u) := by
  obtain ⟨hl, ⟨e1, e2⟩ | ⟨g', off', cap, cur, e1, hb, hnc, hcm, hs, ht⟩⟩ := h
  · cases e1
  · injection e1 with e1 _ e3
    injection e1 with e1
    injection e1 with e1 e2
    subst e1; subst e2; subst e3
    refine ⟨by simp [hl], .inr ⟨g, off, c, _, rfl, hb.set_ (off + j) u, hnc, hcm, by simpa using hs, ?_⟩⟩
    have hcap : n * size ≤ c * size := Nat.mul_le_mul_right _ hnc
    have hlt : off + j < cur.size := by omega
    rw [Array.toList_setIfInBounds, ← ht]
    rw [List.drop_set, if_neg (by omega), List.take_set]
    congr 1
    omega
theorem Sl.frozen {w : World} {e : TypeId} {size n : Nat} {g off c : Nat} {cs : List Value} (h : Sl w e size (.slice (some ⟨g, off, none⟩) n c) n cs) (i : Nat) : w.frozen? ⟨g, i, none⟩ = false := by
  obtain ⟨cur, hb⟩ := Sl.blk h (k := g) (by simp [own, Value.ownBlock])
  exact hb.frozen i
theorem Sl.addr {w : World} {e : TypeId} {size n c : Nat} {A : Option Addr} {cs : List Value} (h : Sl w e size (.slice A n c) n cs) (hn : 0 < n) : ∃ g off, A = some ⟨g, off, none⟩ := by
  obtain ⟨_, ⟨e1, e2⟩ | ⟨g', off', cap, cur, e1, hb, hnc, hcm, hs, ht⟩⟩ := h
  · injection e1 with _ e1 _; omega
  · injection e1 with e1 _ _; exact ⟨_, _, e1⟩
theorem Rd.addr {w : World} {size n c : Nat} {A : Option Addr} {cs : List Value} (h : Rd w size (.slice A n c) n cs) (hn : 0 < n) : ∃ g off, A = some ⟨g, off, none⟩ := by
  obtain ⟨g, off, c', e, _, _⟩ := h.at_ hn
  injection e with e _ _
  exact ⟨g, off, e⟩
theorem Rd_new (w : World) (e : TypeId) (size n : Nat) (cs : List Value) (h : cs.length = n * size) : Rd (w.alloc (.cells cs.toArray e)) size (.slice (some ⟨w.heap.size, 0, none⟩) n n) n cs :=
  ⟨h, _, _, rfl, Nat.le_refl _, fun _ => ⟨_, 0, rfl, fun j u hu => by rw [(Blk.new w e cs.toArray).cell]; simpa using hu⟩⟩
theorem Sl_nil_new (w : World) (e : TypeId) (size : Nat) : Sl (w.alloc (.cells #[] e)) e size (.slice (some ⟨w.heap.size, 0, none⟩) 0 0) 0 [] := by
  have := Sl.made w e size #[] 0 0 (Nat.le_refl _) (Nat.zero_le _) (by simp)
  simpa using this
theorem not_own {v : Value} {p : Nat} (h : v.ownBlock ≠ some p) : p ∉ own v := fun hm => h (own_mem.1 hm)

/-- the append law, in a plain region -/
theorem wpList_append_sl {P : Program} {ops : Array Oper} {rest : List Oper} {w : World} {o : Oper} {a : Act} {Q : Exit → Act → World → Prop} (hg : o.guard = none) (s x : Operand) (t : TypeId)
    (ho : o.op = .call { callee := .builtin .append, args := #[s, x], argTypes := #[t, t] })
    (e : TypeId) {i : TypeInfo} {z : Value} {size bytes : Nat} (ht : P.underlying t = some (.slice e)) (hi : P.info? e = some i) (hz : i.zero = some z)
    (hsize : i.size = size) (hby : i.bytes = bytes) (hzs : z.cells.size = size)
    {v y : Value} {n m : Nat} {xs news : List Value} (hs : a.eval s = v) (hv : Sl w e size v n xs) (hy : a.eval x = y) (hx : Rd w size y m news) (h1 : ∀ u ∈ news, u.oneCell' = true)
    (h63 : n + m ≤ maxLen) (hbytes : (n + m) * bytes ≤ 140737488355328)
    (h : ∀ v' w', Sl w' e size v' (n + m) (xs ++ news) → Chg (own v) w w' → (v'.ownBlock = v.ownBlock ∨ v'.ownBlock = some w.heap.size) → wpList P ops Q rest (a.put o.dst v') w') : wpList P ops Q (o :: rest) a w :=
  wpList_plain hg fun _ hK => wp_append_sl s x t ho e ht hi hz hsize hby hzs hs hv hy hx h1 h63 hbytes fun v' w' a b c => hK _ _ (h v' w' a b c)

/-! ## What grows, what is kept -/
theorem Chg.up {a b : World} (h : Chg [] a b) (F : List Nat) : Chg F a b := h.mono (fun _ hk => by cases hk)
theorem Chg.then_ {F : List Nat} {a b c : World} (h : Chg [] a b) (k : Chg F b c) : Chg F a c := (h.up F).trans k (fun _ hk => .inl hk)
theorem Chg.and_ {F : List Nat} {a b c : World} (h : Chg F a b) (k : Chg F b c) : Chg F a c := h.trans k (fun _ hk => .inl hk)
theorem Chg.stay {F : List Nat} {a b c : World} (h : Chg F a b) (k : Chg [] b c) : Chg F a c := h.trans k (fun _ hk => by cases hk)
def Grow (W : World) (v V : Value) : Prop := ∀ k ∈ own V, k ∈ own v ∨ W.heap.size ≤ k
theorem grow_of {W : World} {v V : Value} (h : V.ownBlock = v.ownBlock ∨ V.ownBlock = some W.heap.size) : Grow W v V := fun k hk => by
  rw [own_mem] at hk
  rcases h with e | e
  · exact .inl (own_mem.2 (by rw [← e]; exact hk))
  · rw [hk] at e; exact .inr (by simp at e; omega)
theorem Grow.refl (W : World) (v : Value) : Grow W v v := fun _ hk => .inl hk
theorem Grow.trans {W W' : World} {u v V : Value} (h : Grow W u v) (k : Grow W' v V) (hs : W.heap.size ≤ W'.heap.size) : Grow W u V := fun i hi => (k i hi).elim (h i) (fun h' => .inr (Nat.le_trans hs h'))
theorem Grow.of_le {W W' : World} {v V : Value} (h : Grow W' v V) (hs : W.heap.size ≤ W'.heap.size) : Grow W v V := fun i hi => (h i hi).imp id (Nat.le_trans hs)
def Dj (v u : Value) : Prop := ∀ k ∈ own v, k ∉ own u
theorem Dj.symm {v u : Value} (h : Dj v u) : Dj u v := fun k hk hk' => h k hk' hk
theorem Dj.nil (v : Value) : Dj v (.slice none 0 0) := fun _ _ h => own_nil h
theorem Dj.nil' (v : Value) : Dj (.slice none 0 0) v := fun _ h => (own_nil h).elim
def Step (F F' : List Nat) (w : World) : Prop := ∀ k ∈ F', k ∈ F ∨ w.heap.size ≤ k
theorem Step.refl (F : List Nat) (w : World) : Step F F w := fun _ hk => .inl hk
def Keep (N : List Nat) (W W' : World) : Prop := ∀ k ∈ N, W'.heap[k]? = W.heap[k]?
theorem Keep.refl (N : List Nat) (W : World) : Keep N W W := fun _ _ => rfl
theorem Keep.trans {N : List Nat} {A B C : World} (h : Keep N A B) (k : Keep N B C) : Keep N A C := fun i hi => (k i hi).trans (h i hi)
theorem Keep.sub {M N : List Nat} {A B : World} (h : Keep N A B) (hs : ∀ k ∈ M, k ∈ N) : Keep M A B := fun i hi => h i (hs i hi)
theorem Keep.blk {N : List Nat} {W W' : World} {g : Nat} {t : TypeId} {cs : Array Value} (h : Keep N W W') (hb : Blk W g t cs) (hg : g ∈ N) : Blk W' g t cs := (h g hg).trans hb
theorem Keep.sl {N : List Nat} {W W' : World} {e : TypeId} {size n : Nat} {v : Value} {cs : List Value} (h : Keep N W W') (hb : Sl W e size v n cs) (hg : ∀ k, v.ownBlock = some k → k ∈ N) : Sl W' e size v n cs := Sl.keep hb fun k hk => h k (hg k hk)
theorem keep_chg {F N : List Nat} {W W' : World} (hc : Chg F W W') (hN : ∀ k ∈ N, k < W.heap.size ∧ k ∉ F) : Keep N W W' := fun k hk => hc.block k (hN k hk).1 (hN k hk).2

/-! ## Elements of some cells each -/
section
variable {α : Type} (enc : α → List Value)
def fc (l : List α) : List Value := l.flatMap enc
theorem fc_nil : fc enc ([] : List α) = [] := rfl
theorem fc_append (l m : List α) : fc enc (l ++ m) = fc enc l ++ fc enc m := by simp [fc]
theorem fc_one (x : α) : fc enc [x] = enc x := by simp [fc]
variable {enc} {size : Nat} (he : ∀ x, (enc x).length = size)
include he
theorem fc_length (l : List α) : (fc enc l).length = l.length * size := by
  induction l with
  | nil => simp [fc]
  | cons a l ih =>
    have e : fc enc (a :: l) = enc a ++ fc enc l := by simp [fc]
    rw [e, List.length_append, ih, he, List.length_cons, Nat.add_mul]
    omega
theorem fc_take (l : List α) (k : Nat) : (fc enc l).take (k * size) = fc enc (l.take k) := by
  induction l generalizing k with
  | nil => simp [fc]
  | cons a l ih =>
    have e : fc enc (a :: l) = enc a ++ fc enc l := by simp [fc]
    cases k with
    | zero => simp [fc]
    | succ k =>
      have e2 : fc enc ((a :: l).take (k + 1)) = enc a ++ fc enc (l.take k) := by simp [fc]
      rw [e, e2, List.take_append, List.take_of_length_le (by rw [he, Nat.add_mul]; omega), he, ← ih]
      congr 2
      rw [Nat.add_mul]; omega
theorem fc_drop (l : List α) (k : Nat) : (fc enc l).drop (k * size) = fc enc (l.drop k) := by
  induction l generalizing k with
  | nil => simp [fc]
  | cons a l ih =>
    have e : fc enc (a :: l) = enc a ++ fc enc l := by simp [fc]
    cases k with
    | zero => simp [fc]
    | succ k =>
      have e2 : fc enc ((a :: l).drop (k + 1)) = fc enc (l.drop k) := by simp
      rw [e, e2, List.drop_append, List.drop_of_length_le (by rw [he, Nat.add_mul]; omega), he, ← ih, List.nil_append]
      congr 1
      rw [Nat.add_mul]; omega
theorem fc_get (l : List α) (k j : Nat) (hk : k < l.length) (hj : j < size) : (fc enc l)[k * size + j]? = (enc l[k])[j]? := by
  have h1 : (fc enc l)[k * size + j]? = ((fc enc l).drop (k * size))[j]? := by rw [List.getElem?_drop]
  rw [h1, fc_drop he, List.drop_eq_getElem_cons hk]
  have e : ∀ x (m : List α), fc enc (x :: m) = enc x ++ fc enc m := fun x m => by simp [fc]
  rw [e, List.getElem?_append_left (by rw [he]; exact hj)]
theorem fc_set (l : List α) (k j : Nat) (hk : k < l.length) (hj : j < size) (u : Value) (x : α) (hx : enc x = (enc l[k]).set j u) : fc enc (l.set k x) = (fc enc l).set (k * size + j) u := by
  refine List.ext_getElem? fun i => ?_
  rw [List.getElem?_set]
  by_cases hi : i < l.length * size
  · have hs : 0 < size := by omega
    obtain ⟨a, b, rfl, hb⟩ : ∃ a b, i = a * size + b ∧ b < size := ⟨i / size, i % size, by rw [Nat.mul_comm]; exact (Nat.div_add_mod i size).symm, Nat.mod_lt _ hs⟩
    have ha : a < l.length := by
      refine Classical.byContradiction fun h => ?_
      have : l.length * size ≤ a * size := Nat.mul_le_mul_right _ (by omega)
      omega
    rw [fc_get he _ a b (by simpa using ha) hb, fc_get he _ a b ha hb, List.getElem_set]
    by_cases hak : k = a
    · subst hak
      rw [if_pos rfl, hx, List.getElem?_set]
      by_cases hjb : j = b
      · subst hjb
        rw [if_pos rfl, if_pos rfl, if_pos (by rw [he]; exact hj), if_pos (by rw [fc_length he]; omega)]
      · rw [if_neg hjb, if_neg (by omega)]
    · rw [if_neg hak, if_neg]
      intro e
      have h1 : k * size + j < (k + 1) * size := by rw [Nat.add_mul]; omega
      have h2 : a * size + b < (a + 1) * size := by rw [Nat.add_mul]; omega
      rcases Nat.lt_or_ge k a with h | h
      · have := Nat.mul_le_mul_right size (show k + 1 ≤ a by omega)
        omega
      · have := Nat.mul_le_mul_right size (show a + 1 ≤ k by omega)
        omega
  · rw [List.getElem?_eq_none (by rw [fc_length he, List.length_set]; omega)]
    have : (fc enc l)[i]? = none := List.getElem?_eq_none (by rw [fc_length he]; omega)
    rw [this]
    by_cases e : k * size + j = i
    · rw [if_pos e, if_neg (by rw [fc_length he]; omega)]
    · rw [if_neg e]
end
/-- a slice that reads as a list -/
def RE {α : Type} (enc : α → List Value) (size : Nat) (w : World) (v : Value) (l : List α) : Prop := Rd w size v l.length (fc enc l)
/-- a slice of the call's own -/
def SE {α : Type} (enc : α → List Value) (size : Nat) (e : TypeId) (w : World) (v : Value) (l : List α) : Prop := Sl w e size v l.length (fc enc l)
section
variable {α : Type} {enc : α → List Value} {size : Nat} {e : TypeId} {w w' : World} {v : Value} {l : List α}
theorem SE.re (h : SE enc size e w v l) : RE enc size w v l := Sl.rd h
theorem SE.form (h : SE enc size e w v l) : ∃ A c, v = .slice A l.length c := Sl.form h
theorem RE.form (h : RE enc size w v l) : ∃ A c, v = .slice A l.length c := Rd.form h
theorem SE.nil (enc : α → List Value) (size : Nat) (e : TypeId) (w : World) : SE enc size e w (.slice none 0 0) [] := Sl.nil _ _ _
theorem RE.nil (enc : α → List Value) (size : Nat) (w : World) (A : Option Addr) (c : Nat) : RE enc size w (.slice A 0 c) [] := Rd.nil _ _ _ _
theorem SE.own_lt (h : SE enc size e w v l) : ∀ k ∈ own v, k < w.heap.size := Sl.own_lt h
theorem SE.chg (h : SE enc size e w v l) {F : List Nat} (hc : Chg F w w') (hF : ∀ k ∈ own v, k ∉ F) : SE enc size e w' v l := Sl.chg h hc fun k hk => hF k (own_mem.2 hk)
theorem RE.chg (h : RE enc size w v l) {F : List Nat} (hc : Chg F w w') (hF : ∀ k ∈ own v, k ∉ F) : RE enc size w' v l := Rd.chg h hc fun k hk => hF k (own_mem.2 hk)
theorem SE.stay (h : SE enc size e w v l) (hc : Chg [] w w') : SE enc size e w' v l := h.chg hc (fun _ _ h => by cases h)
theorem RE.stay (h : RE enc size w v l) (hc : Chg [] w w') : RE enc size w' v l := h.chg hc (fun _ _ h => by cases h)
theorem SE.addr {A : Option Addr} {n c : Nat} (h : SE enc size e w (.slice A n c) l) (hn : 0 < n) : ∃ g off, A = some ⟨g, off, none⟩ := by
  obtain ⟨A', c', e'⟩ := h.form
  injection e' with _ e2 _
  subst e2
  exact Sl.addr h hn
theorem RE.addr {A : Option Addr} {n c : Nat} (h : RE enc size w (.slice A n c) l) (hn : 0 < n) : ∃ g off, A = some ⟨g, off, none⟩ := by
  obtain ⟨A', c', e'⟩ := h.form
  injection e' with _ e2 _
  subst e2
  exact Rd.addr h hn
theorem SE.frozen {g off n c : Nat} (h : SE enc size e w (.slice (some ⟨g, off, none⟩) n c) l) (i : Nat) : w.frozen? ⟨g, i, none⟩ = false := by
  obtain ⟨cur, hb⟩ := Sl.blk h (k := g) (by simp [own, Value.ownBlock])
  exact hb.frozen i
theorem RE.cell (he : ∀ x, (enc x).length = size) {g off n c : Nat} (h : RE enc size w (.slice (some ⟨g, off, none⟩) n c) l) {k j : Nat} (hk : k < l.length) (hj : j < size) {u : Value} (hu : (enc l[k])[j]? = some u) : w.cell? ⟨g, off + k * size + j, none⟩ = some u := by
  obtain ⟨g', off', c', e, _, hat⟩ := Rd.at_ h hk
  injection e with e _ _
  injection e with e
  injection e with e1 e2
  subst e1; subst e2
  obtain ⟨u', hu', hc⟩ := hat j hj
  rw [fc_get he _ _ _ hk hj, hu] at hu'
  injection hu' with hu'
  subst hu'
  exact hc
theorem SE.set (he : ∀ x, (enc x).length = size) {g off n c : Nat} (h : SE enc size e w (.slice (some ⟨g, off, none⟩) n c) l) {k j : Nat} (hk : k < l.length) (hj : j < size) {u : Value} {x : α} (hx : enc x = (enc l[k]).set j u) : SE enc size e (w.setCell ⟨g, off + (k * size + j), none⟩ u) (.slice (some ⟨g, off, none⟩) n c) (l.set k x) := by
  obtain ⟨A, c', e⟩ := h.form
  injection e with _ e2 _
  subst e2
  unfold SE at h ⊢
  rw [List.length_set, fc_set he l k j hk hj u x hx]
  refine h.setc ?_ u
  have : (k + 1) * size ≤ l.length * size := Nat.mul_le_mul_right _ (by omega)
  rw [Nat.add_mul] at this
  omega
theorem SE.take (he : ∀ x, (enc x).length = size) {A : Option Addr} {n c k : Nat} (h : SE enc size e w (.slice A n c) l) (hk : k ≤ l.length) : SE enc size e w (.slice A k c) (l.take k) := by
  obtain ⟨A', c', e'⟩ := h.form
  injection e' with _ e2 _
  subst e2
  unfold SE at h ⊢
  have := Sl.take h hk rfl
  rw [fc_take he] at this
  rw [List.length_take, Nat.min_eq_left hk]
  exact this
end
end Go.Proofs.YtinlpjgjjplceaaDoor
