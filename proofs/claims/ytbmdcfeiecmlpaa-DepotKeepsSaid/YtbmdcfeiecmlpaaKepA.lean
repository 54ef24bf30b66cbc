import Derived.Test.YtbmdcfeiecmlpaaPlyO
import Derived.Test.YtbmdcfeiecmlpaaMagH
namespace Go.Proofs.Ytbmdcfeiecmlpaa
open Go Go.RowKit

/-! ## Slices of numbers -/
def ic (l : List Int) : List Value := l.map (Value.int .i64)
theorem ic_length (l : List Int) : (ic l).length = l.length := by simp [ic]
theorem ic_append (l m : List Int) : ic (l ++ m) = ic l ++ ic m := by simp [ic]
theorem ic_one (l : List Int) : ∀ u ∈ ic l, u.oneCell' = true := fun u hu => by
  obtain ⟨x, _, rfl⟩ := List.mem_map.1 hu
  rfl
def RI (w : World) (v : Value) (l : List Int) : Prop := Rd w 1 v l.length (ic l)
def SI (w : World) (v : Value) (l : List Int) : Prop := Sl w 3 1 v l.length (ic l)
theorem SI.ri {w : World} {v : Value} {l : List Int} (h : SI w v l) : RI w v l := Sl.rd h
theorem SI.form {w : World} {v : Value} {l : List Int} (h : SI w v l) : ∃ A c, v = .slice A l.length c := Sl.form h
theorem SI.nil (w : World) : SI w (.slice none 0 0) [] := Sl.nil _ _ _
theorem SI.own_lt {w : World} {v : Value} {l : List Int} (h : SI w v l) : ∀ k ∈ own v, k < w.heap.size := fun k hk => Sl.lt h k (own_mem.1 hk)
theorem RI_one (w : World) (x : Int) : RI (w.alloc (.cells #[.int .i64 x] 3)) (.slice (some ⟨w.heap.size, 0, none⟩) 1 1) [x] := Rd_new w 3 1 1 _ rfl
theorem info3 : (Try.prog.info? 3).map (fun i => (i.zero, i.size, i.bytes)) = some (some (.int .i64 0), 1, 8) := by kernel_rfl
theorem RI.cell {w : World} {g off n c : Nat} {l : List Int} (h : RI w (.slice (some ⟨g, off, none⟩) n c) l) {k : Nat} (hk : k < l.length) : w.cell? ⟨g, off + k, none⟩ = some (.int .i64 l[k]) := by
  obtain ⟨g', off', c', e, _, hat⟩ := Rd.at_ h hk
  injection e with e _ _
  injection e with e
  injection e with e1 e2
  subst e1; subst e2
  obtain ⟨u, hu, hc⟩ := hat 0 (by omega)
  have : u = .int .i64 l[k] := by
    simp [ic, hk] at hu
    exact hu.symm
  subst this
  simpa using hc
theorem SI.addr {w : World} {A : Option Addr} {n c : Nat} {l : List Int} (h : SI w (.slice A n c) l) (hn : 0 < n) : ∃ g off, A = some ⟨g, off, none⟩ := by
  obtain ⟨_, ⟨e1, e2⟩ | ⟨g', off', cap, cur, e1, hb, hnc, hcm, hs, ht⟩⟩ := h
  · injection e1 with _ e1 _; omega
  · injection e1 with e1 _ _; exact ⟨_, _, e1⟩
theorem SI.frozen {w : World} {g off n c : Nat} {l : List Int} (h : SI w (.slice (some ⟨g, off, none⟩) n c) l) (i : Nat) : w.frozen? ⟨g, i, none⟩ = false := by
  obtain ⟨cur, hb⟩ := Sl.blk h (k := g) (by simp [own, Value.ownBlock])
  exact hb.frozen i
theorem SI.set_ {w : World} {g off c n : Nat} {l : List Int} (h : SI w (.slice (some ⟨g, off, none⟩) n c) l) {k : Nat} (hk : k < l.length) (x : Int) : SI (w.setCell ⟨g, off + k, none⟩ (.int .i64 x)) (.slice (some ⟨g, off, none⟩) n c) (l.set k x) := by
  obtain ⟨A, c', e⟩ := h.form
  injection e with _ e2 _
  subst e2
  unfold SI at h ⊢
  rw [List.length_set]
  have e3 : ic (l.set k x) = (ic l).set k (.int .i64 x) := by unfold ic; rw [List.map_set]
  rw [e3]
  exact h.setc (by omega) _
theorem wpList_append_in {ops : Array Oper} {rest : List Oper} {o : Oper} {a : Act} {w : World} {Q : Exit → Act → World → Prop} (hg : o.guard = none) (s x : Operand)
    (ho : o.op = .call { callee := .builtin .append, args := #[s, x], argTypes := #[56, 56] }) (v y : Value) (hs : a.eval s = v) (hx : a.eval x = y) {l m : List Int} (hv : SI w v l) (hy : RI w y m) (hlen : l.length + m.length ≤ 1000000)
    (h : ∀ A c w', SI w' (.slice A (l.length + m.length) c) (l ++ m) → Chg (own v) w w' →
      ((Value.slice A (l.length + m.length) c).ownBlock = v.ownBlock ∨ (Value.slice A (l.length + m.length) c).ownBlock = some w.heap.size) → wpList Try.prog ops Q rest (a.put o.dst (.slice A (l.length + m.length) c)) w') :
    wpList Try.prog ops Q (o :: rest) a w := by
  obtain ⟨i3, hi, hz, hi1, hi2⟩ := info_parts info3
  obtain ⟨v', w', h1, h2, h3, h4⟩ := run_append_sl (ty := o.type) Try.underlying56 hi hz hi1 hi2 rfl hv hy (ic_one m) (by unfold maxLen; omega) (by omega)
  obtain ⟨A, c, rfl⟩ := Sl.form h2
  refine wpList_append_runs hg s x _ ho hs hx h1 (h A c w' ?_ h3 h4)
  unfold SI
  rw [ic_append, List.length_append]
  exact h2

/-! ## The state -/
/-- what grows of a slice of one's own -/
def Grow (W : World) (v V : Value) : Prop := ∀ k ∈ own V, k ∈ own v ∨ W.heap.size ≤ k
theorem grow_of {W : World} {v V : Value} (h : V.ownBlock = v.ownBlock ∨ V.ownBlock = some W.heap.size) : Grow W v V := fun k hk => by
  rw [own_mem] at hk
  rcases h with e | e
  · exact .inl (own_mem.2 (by rw [← e]; exact hk))
  · rw [hk] at e; exact .inr (by simp at e; omega)
def Dj (v u : Value) : Prop := ∀ k ∈ own v, k ∉ own u
theorem Dj.symm {v u : Value} (h : Dj v u) : Dj u v := fun k hk hk' => h k hk' hk
theorem Dj.nil (v : Value) : Dj v (.slice none 0 0) := fun k _ h => by simp [own, Value.ownBlock] at h
theorem Dj.nil' (v : Value) : Dj (.slice none 0 0) v := fun k h => by simp [own, Value.ownBlock] at h

/-- a pair that the call has made, and slices of its own: numbers I, O, X, objects M; all apart -/
structure KS (w W : World) (p r : Nat) (s : List Ob) (F : List Nat) (vi : Value) (I : List Int) (vo : Value) (O : List Int) (vx : Value) (X : List Int) (vm : Value) (M : List Ob) : Prop where
  stk : PStk W p r s F
  nF : ∀ k ∈ F, w.heap.size ≤ k
  chg : Chg [] w W
  si : SI W vi I
  so : SI W vo O
  sx : SI W vx X
  sm : SO W vm M
  io : Dj vi vo
  ix : Dj vi vx
  im : Dj vi vm
  ox : Dj vo vx
  om : Dj vo vm
  xm : Dj vx vm
  ni : ∀ k ∈ own vi, w.heap.size ≤ k ∧ k ∉ F
  no : ∀ k ∈ own vo, w.heap.size ≤ k ∧ k ∉ F
  nx : ∀ k ∈ own vx, w.heap.size ≤ k ∧ k ∉ F
  nm : ∀ k ∈ own vm, w.heap.size ≤ k ∧ k ∉ F
section
variable {w W W' : World} {p r : Nat} {s s' : List Ob} {F F' : List Nat} {vi vo vx vm V : Value} {I O X J : List Int} {M : List Ob}
theorem KS.later (h : KS w W p r s F vi I vo O vx X vm M) (hc : Chg [] W W') : KS w W' p r s F vi I vo O vx X vm M :=
  { h with stk := h.stk.chg hc (by simp), chg := h.chg.trans hc (fun _ h => by cases h), si := Sl.chg h.si hc (fun _ _ h => by cases h), so := Sl.chg h.so hc (fun _ _ h => by cases h), sx := Sl.chg h.sx hc (fun _ _ h => by cases h), sm := Sl.chg h.sm hc (fun _ _ h => by cases h) }
theorem KS.op (h : KS w W p r s F vi I vo O vx X vm M) (hp : PStk W' p r s' F') (hS : Step F F' W) (hc : Chg F W W') : KS w W' p r s' F' vi I vo O vx X vm M where
  stk := hp
  nF := fun k hk => (hS k hk).elim (h.nF k) (fun h' => Nat.le_trans h.chg.size h')
  chg := h.chg.trans hc (fun k hk => .inr (h.nF k hk))
  si := Sl.chg h.si hc (fun k hk => (h.ni k (own_mem.2 hk)).2)
  so := Sl.chg h.so hc (fun k hk => (h.no k (own_mem.2 hk)).2)
  sx := Sl.chg h.sx hc (fun k hk => (h.nx k (own_mem.2 hk)).2)
  sm := Sl.chg h.sm hc (fun k hk => (h.nm k (own_mem.2 hk)).2)
  io := h.io
  ix := h.ix
  im := h.im
  ox := h.ox
  om := h.om
  xm := h.xm
  ni := fun k hk => ⟨(h.ni k hk).1, fun h' => (hS k h').elim (h.ni k hk).2 (fun h2 => by have := h.si.own_lt k hk; omega)⟩
  no := fun k hk => ⟨(h.no k hk).1, fun h' => (hS k h').elim (h.no k hk).2 (fun h2 => by have := h.so.own_lt k hk; omega)⟩
  nx := fun k hk => ⟨(h.nx k hk).1, fun h' => (hS k h').elim (h.nx k hk).2 (fun h2 => by have := h.sx.own_lt k hk; omega)⟩
  nm := fun k hk => ⟨(h.nm k hk).1, fun h' => (hS k h').elim (h.nm k hk).2 (fun h2 => by have := h.sm.own_lt k hk; omega)⟩
theorem dj_grow {v u V : Value} (hd : Dj v u) (hg : Grow W v V) (hu : ∀ k ∈ own u, k < W.heap.size) : Dj V u := fun k hk hk' => by
  rcases hg k hk with h | h
  · exact hd k h hk'
  · have := hu k hk'; omega
theorem new_grow {v V : Value} (hw : w.heap.size ≤ W.heap.size) (hv : ∀ k ∈ own v, w.heap.size ≤ k ∧ k ∉ F) (hF : ∀ k ∈ F, k < W.heap.size) (hg : Grow W v V) : ∀ k ∈ own V, w.heap.size ≤ k ∧ k ∉ F := fun k hk => by
  rcases hg k hk with h | h
  · exact hv k h
  · exact ⟨Nat.le_trans hw h, fun h' => by have := hF k h'; omega⟩
theorem off_own {v : Value} (hv : ∀ k ∈ own v, w.heap.size ≤ k ∧ k ∉ F) : ∀ k ∈ F, k ∉ own v := fun k hk hk' => (hv k hk').2 hk
theorem KS.appI (h : KS w W p r s F vi I vo O vx X vm M) (hs : SI W' V J) (hc : Chg (own vi) W W') (hg : Grow W vi V) : KS w W' p r s F V J vo O vx X vm M where
  stk := h.stk.chg hc (off_own h.ni)
  nF := h.nF
  chg := h.chg.trans hc (fun k hk => .inr (h.ni k hk).1)
  si := hs
  so := Sl.chg h.so hc (fun k hk => h.io.symm k (own_mem.2 hk))
  sx := Sl.chg h.sx hc (fun k hk => h.ix.symm k (own_mem.2 hk))
  sm := Sl.chg h.sm hc (fun k hk => h.im.symm k (own_mem.2 hk))
  io := dj_grow h.io hg h.so.own_lt
  ix := dj_grow h.ix hg h.sx.own_lt
  im := dj_grow h.im hg h.sm.own_lt
  ox := h.ox
  om := h.om
  xm := h.xm
  ni := new_grow h.chg.size h.ni h.stk.lt hg
  no := h.no
  nx := h.nx
  nm := h.nm
theorem KS.appO (h : KS w W p r s F vi I vo O vx X vm M) (hs : SI W' V J) (hc : Chg (own vo) W W') (hg : Grow W vo V) : KS w W' p r s F vi I V J vx X vm M where
  stk := h.stk.chg hc (off_own h.no)
  nF := h.nF
  chg := h.chg.trans hc (fun k hk => .inr (h.no k hk).1)
  si := Sl.chg h.si hc (fun k hk => h.io k (own_mem.2 hk))
  so := hs
  sx := Sl.chg h.sx hc (fun k hk => h.ox.symm k (own_mem.2 hk))
  sm := Sl.chg h.sm hc (fun k hk => h.om.symm k (own_mem.2 hk))
  io := (dj_grow h.io.symm hg h.si.own_lt).symm
  ix := h.ix
  im := h.im
  ox := dj_grow h.ox hg h.sx.own_lt
  om := dj_grow h.om hg h.sm.own_lt
  xm := h.xm
  ni := h.ni
  no := new_grow h.chg.size h.no h.stk.lt hg
  nx := h.nx
  nm := h.nm
theorem KS.appX (h : KS w W p r s F vi I vo O vx X vm M) (hs : SI W' V J) (hc : Chg (own vx) W W') (hg : Grow W vx V) : KS w W' p r s F vi I vo O V J vm M where
  stk := h.stk.chg hc (off_own h.nx)
  nF := h.nF
  chg := h.chg.trans hc (fun k hk => .inr (h.nx k hk).1)
  si := Sl.chg h.si hc (fun k hk => h.ix k (own_mem.2 hk))
  so := Sl.chg h.so hc (fun k hk => h.ox k (own_mem.2 hk))
  sx := hs
  sm := Sl.chg h.sm hc (fun k hk => h.xm.symm k (own_mem.2 hk))
  io := h.io
  ix := (dj_grow h.ix.symm hg h.si.own_lt).symm
  im := h.im
  ox := (dj_grow h.ox.symm hg h.so.own_lt).symm
  om := h.om
  xm := dj_grow h.xm hg h.sm.own_lt
  ni := h.ni
  no := h.no
  nx := new_grow h.chg.size h.nx h.stk.lt hg
  nm := h.nm
theorem KS.appM {K : List Ob} (h : KS w W p r s F vi I vo O vx X vm M) (hs : SO W' V K) (hc : Chg (own vm) W W') (hg : Grow W vm V) : KS w W' p r s F vi I vo O vx X V K where
  stk := h.stk.chg hc (off_own h.nm)
  nF := h.nF
  chg := h.chg.trans hc (fun k hk => .inr (h.nm k hk).1)
  si := Sl.chg h.si hc (fun k hk => h.im k (own_mem.2 hk))
  so := Sl.chg h.so hc (fun k hk => h.om k (own_mem.2 hk))
  sx := Sl.chg h.sx hc (fun k hk => h.xm k (own_mem.2 hk))
  sm := hs
  io := h.io
  ix := h.ix
  im := (dj_grow h.im.symm hg h.si.own_lt).symm
  ox := h.ox
  om := (dj_grow h.om.symm hg h.so.own_lt).symm
  xm := (dj_grow h.xm.symm hg h.sx.own_lt).symm
  ni := h.ni
  no := h.no
  nx := h.nx
  nm := new_grow h.chg.size h.nm h.stk.lt hg
theorem KS.noX (h : KS w W p r s F vi I vo O vx X vm M) : KS w W p r s F vi I vo O (.slice none 0 0) [] vm M :=
  { h with sx := Sl.nil _ _ _, ix := Dj.nil _, ox := Dj.nil _, xm := Dj.nil' _, nx := fun k hk => by simp [own, Value.ownBlock] at hk }
theorem KS.noM (h : KS w W p r s F vi I vo O vx X vm M) : KS w W p r s F vi I vo O vx X (.slice none 0 0) [] :=
  { h with sm := Sl.nil _ _ _, im := Dj.nil _, om := Dj.nil _, xm := Dj.nil _, nm := fun k hk => by simp [own, Value.ownBlock] at hk }
/-- a new slice of objects -/
theorem KS.newM {K : List Ob} (h : KS w W p r s F vi I vo O vx X vm M) (hc : Chg [] W W') (hs : SO W' V K) (hn : ∀ k ∈ own V, W.heap.size ≤ k) : KS w W' p r s F vi I vo O vx X V K :=
  (h.noM).appM hs (hc.mono (fun _ h => by cases h)) (fun k hk => .inr (hn k hk))
theorem KS.newX (h : KS w W p r s F vi I vo O vx X vm M) (hc : Chg [] W W') (hs : SI W' V J) (hn : ∀ k ∈ own V, W.heap.size ≤ k) : KS w W' p r s F vi I vo O V J vm M :=
  (h.noX).appX hs (hc.mono (fun _ h => by cases h)) (fun k hk => .inr (hn k hk))
end
end Go.Proofs.Ytbmdcfeiecmlpaa
