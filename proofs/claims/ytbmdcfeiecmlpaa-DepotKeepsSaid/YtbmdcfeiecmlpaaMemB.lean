/- make, copy, clear over slices of a call's own. -/
import Derived.Test.YtbmdcfeiecmlpaaMem
import Derived.Laws.MakeOwn
import Derived.Laws.CopyRow
namespace Go.Proofs.Ytbmdcfeiecmlpaa
open Go Go.RowKit

section
variable {P : Program} {w : World} {e : TypeId} {size n : Nat} {v : Value} {cs : List Value}
/-- cells of a slice of the call's own are written, from its k-th cell on -/
theorem Sl.write (h : Sl w e size v n cs) {A : Option Addr} {c : Nat} (hv : v = .slice A n c) (news : List Value) (k : Nat) (hk : k + news.length ≤ n * size) (h1 : ∀ u ∈ news, u.oneCell' = true) (hn : 0 < n) :
    ∃ g off w', A = some ⟨g, off, none⟩ ∧ (storeCells ⟨g, off + k, none⟩ news).run P w = .ok () w' ∧ Sl w' e size v n (cs.take k ++ news ++ cs.drop (k + news.length)) ∧ Chg [g] w w' ∧ v.ownBlock = some g := by
  subst hv
  obtain ⟨hl, ⟨e1, e2⟩ | ⟨g, off, cap, cur, e1, hb, hnc, hcm, hs, ht⟩⟩ := h
  · omega
  · injection e1 with e1 _ e3
    subst e1; subst e3
    have hmul : n * size ≤ c * size := Nat.mul_le_mul_right _ hnc
    have hst := run_storeCells_at (P := P) g (off + k) e news 0 cur w hb (by omega) h1
    rw [Nat.add_zero] at hst
    refine ⟨g, off, _, rfl, hst, ⟨?_, .inr ⟨g, off, c, _, rfl, setRow_heap w g cur _ e (0, 0) hb, hnc, hcm, ?_, ?_⟩⟩, (Chg.refl _ w).setRow (.inl (by simp)) _, rfl⟩
    · simp only [List.length_append, List.length_take, List.length_drop, hl]; omega
    · have hcl : cur.toList.length = cur.size := by simp
      simp only [List.size_toArray, List.length_append, List.length_take, List.length_drop, hcl]
      omega
    · have hcl : cur.toList.length = cur.size := by simp
      refine List.ext_getElem? fun i => ?_
      simp only [List.getElem?_take, List.getElem?_drop, List.getElem?_append, List.length_take, List.length_append, List.length_drop, hcl, hl, ← ht]
      repeat' split
      all_goals (first | omega | rfl | (congr 1; omega))
theorem run_copy_sl {t t2 ty : TypeId} {i : TypeInfo} (ht : P.underlying t = some (.slice e)) (hi : P.info? e = some i) (hsize : i.size = size)
    (h : Sl w e size v n cs) {x : Value} {m : Nat} {news : List Value} (hx : Rd w size x m news) (hm : m ≤ n) (h1 : ∀ u ∈ news, u.oneCell' = true) :
    ∃ w', (Builtin.copy_ #[t, t2] ty #[v, x]).run P w = .ok (.int .i64 m) w' ∧ Sl w' e size v n (news ++ cs.drop (m * size)) ∧ Chg v.ownBlock.toList w w' := by
  subst hsize
  obtain ⟨A, c, rfl⟩ := h.form
  obtain ⟨hxl, A', c', rfl, hmc, hxa⟩ := hx
  have hmin : Nat.min m n = m := Nat.min_eq_left hm
  rcases Nat.eq_zero_or_pos m with h0 | h0
  · subst h0
    have hnw : news = [] := List.eq_nil_of_length_eq_zero (by simpa using hxl)
    subst hnw
    refine ⟨w, ?_, by simpa using h, Chg.refl _ _⟩
    have hf : (Builtin.firstCells i.size 0 (.slice A' 0 c')).run P w = .ok #[] w := by
      cases A' with
      | none => simp [Builtin.firstCells]
      | some a => exact run_firstCells_some (P := P) w i.size 0 a 0 c' [] (by simp) (by simp)
    cases A with
    | none => simp [Builtin.copy_, run_underlying ht, sizeOf, typeInfo, hi, Builtin.lenOf, hmin, hf, goInt, storeCells]
    | some a => simp [Builtin.copy_, run_underlying ht, sizeOf, typeInfo, hi, Builtin.lenOf, hmin, hf, goInt, storeCells]
  · obtain ⟨g', off', rfl, hc⟩ := hxa h0
    have hle : m * i.size ≤ n * i.size := Nat.mul_le_mul_right _ hm
    obtain ⟨g, off, w', rfl, hst, hs, hch, ho⟩ := h.write (P := P) rfl news 0 (by omega) h1 (by omega)
    have hf := run_firstCells_some (P := P) w i.size m ⟨g', off', none⟩ m c' news hxl (fun j u hu => by rw [Addr.add_lit]; exact hc j u hu)
    rw [Nat.add_zero] at hst
    refine ⟨w', ?_, ?_, by rw [ho]; simpa using hch⟩
    · simp [Builtin.copy_, run_underlying ht, sizeOf, typeInfo, hi, Builtin.lenOf, hmin, hf, goInt, hst]
    · rw [← hxl]
      simpa using hs
theorem run_copy_full {t t2 ty : TypeId} {i : TypeInfo} (ht : P.underlying t = some (.slice e)) (hi : P.info? e = some i) (hsize : i.size = size)
    (h : Sl w e size v n cs) {x : Value} {m : Nat} {news : List Value} (hx : Rd w size x m news) (hm : n ≤ m) (h1 : ∀ u ∈ news, u.oneCell' = true) :
    ∃ w', (Builtin.copy_ #[t, t2] ty #[v, x]).run P w = .ok (.int .i64 n) w' ∧ Sl w' e size v n (news.take (n * size)) ∧ Chg v.ownBlock.toList w w' := by
  subst hsize
  obtain ⟨A, c, rfl⟩ := h.form
  obtain ⟨hxl, A', c', rfl, hmc, hxa⟩ := hx
  have hmin : Nat.min m n = n := Nat.min_eq_right hm
  rcases Nat.eq_zero_or_pos n with h0 | h0
  · subst h0
    have hcs : cs = [] := List.eq_nil_of_length_eq_zero (by simpa using h.1)
    subst hcs
    refine ⟨w, ?_, by simpa using h, Chg.refl _ _⟩
    have hf : (Builtin.firstCells i.size 0 (.slice A' m c')).run P w = .ok #[] w := by
      cases A' with
      | none => simp [Builtin.firstCells]
      | some a => exact run_firstCells_some (P := P) w i.size 0 a m c' [] (by simp) (by simp)
    cases A with
    | none => simp [Builtin.copy_, run_underlying ht, sizeOf, typeInfo, hi, Builtin.lenOf, hmin, hf, goInt, storeCells]
    | some a => simp [Builtin.copy_, run_underlying ht, sizeOf, typeInfo, hi, Builtin.lenOf, hmin, hf, goInt, storeCells]
  · obtain ⟨g', off', rfl, hc⟩ := hxa (by omega)
    have hle : n * i.size ≤ m * i.size := Nat.mul_le_mul_right _ hm
    have hlt : (news.take (n * i.size)).length = n * i.size := by rw [List.length_take]; omega
    obtain ⟨g, off, w', rfl, hst, hs, hch, ho⟩ := h.write (P := P) rfl (news.take (n * i.size)) 0 (by omega) (fun u hu => h1 u (List.mem_of_mem_take hu)) (by omega)
    have hf := run_firstCells_some (P := P) w i.size n ⟨g', off', none⟩ m c' (news.take (n * i.size)) hlt (fun j u hu => by
      rw [Addr.add_lit]
      rw [List.getElem?_take] at hu
      split at hu
      · exact hc j u hu
      · cases hu)
    rw [Nat.add_zero] at hst
    generalize news.take (n * i.size) = nn at *
    refine ⟨w', ?_, ?_, by rw [ho]; simpa using hch⟩
    · simp [Builtin.copy_, run_underlying ht, sizeOf, typeInfo, hi, Builtin.lenOf, hmin, hf, goInt, hst]
    · have e1 : cs.drop (0 + nn.length) = [] := List.drop_eq_nil_of_le (by rw [hlt, h.1]; omega)
      rw [e1] at hs
      simpa using hs
theorem run_make_sl {t : TypeId} {i : TypeInfo} {z : Value} (ht : P.underlying t = some (.slice e)) (hi : P.info? e = some i) (hz : i.zero = some z) (hsize : i.size = size) (hzs : z.cells.size = size) (w : World) (n : Nat) (hb : i.bytes * n ≤ 281474976710656) (hm : n ≤ maxLen) :
    (Instr.makeSlice t (.int .i64 (n : Int)) (.int .i64 (n : Int))).run P w = .ok (.slice (some ⟨w.heap.size, 0, none⟩) n n) (w.alloc (.cells (madeCells z.cells (n * size)) e)) ∧
    Sl (w.alloc (.cells (madeCells z.cells (n * size)) e)) e size (.slice (some ⟨w.heap.size, 0, none⟩) n n) n (madeCells z.cells (n * size)).toList := by
  subst hsize
  have hb' : (i.bytes : Int) * (n : Int) ≤ 281474976710656 := by
    have h : ((i.bytes * n : Nat) : Int) ≤ 281474976710656 := by omega
    rwa [Int.natCast_mul] at h
  have hr := run_make (P := P) w t e i z ht hi hz .i64 .i64 n n (by omega) (Int.le_refl _) hb' (by simp only [maxLen] at hm; omega)
  simp only [Int.toNat_natCast] at hr
  refine ⟨hr, ?_⟩
  have := Sl.made w e i.size (madeCells z.cells (n * i.size)) n n (Nat.le_refl _) hm (by rw [size_madeCells]; exact Nat.le_refl _)
  rw [List.take_of_length_le (by simp [size_madeCells])] at this
  exact this
end

/-- copy, in a region's list that does not draw -/
theorem wpList_copy {P : Program} {ops : Array Oper} {rest : List Oper} {o : Oper} {a : Act} {w w' : World} {Q : Exit → Act → World → Prop} (hg : o.guard = none) (s x : Operand) (ts : Array TypeId)
    (ho : o.op = .call { callee := .builtin .copy, args := #[s, x], argTypes := ts }) {v y u : Value} (hs : a.eval s = v) (hx : a.eval x = y)
    (hrun : (Builtin.copy_ ts o.type #[v, y]).run P w = .ok u w') (h : wpList P ops Q rest (a.put o.dst u) w') : wpList P ops Q (o :: rest) a w :=
  wpList_plain hg fun K hK => by
    unfold Oper.wp execOp
    simp only [ho, resolve, invoke, builtin, Sem.run_bind, Sem.run_pure, Result.andThen_ok, List.map_toArray, List.map_cons, List.map_nil, hs, hx, hrun]
    exact hK _ _ h
theorem wpList_make {P : Program} {ops : Array Oper} {rest : List Oper} {o : Oper} {a : Act} {w w' : World} {Q : Exit → Act → World → Prop} (hg : o.guard = none) (t : TypeId) (l c : Operand)
    (ho : o.op = .makeSlice t l c) {x y u : Value} (hl : a.eval l = x) (hc : a.eval c = y) (hrun : (Instr.makeSlice t x y).run P w = .ok u w') (h : wpList P ops Q rest (a.put o.dst u) w') : wpList P ops Q (o :: rest) a w :=
  wpList_plain hg fun K hK => by
    unfold Oper.wp execOp
    simp only [ho, hl, hc, hrun, Sem.run_bind, Sem.run_pure, Result.andThen_ok]
    exact hK _ _ h
end Go.Proofs.Ytbmdcfeiecmlpaa
