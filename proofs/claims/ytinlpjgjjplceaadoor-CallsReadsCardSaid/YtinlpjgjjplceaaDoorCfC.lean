/- config's May: the parts. -/
import Derived.Test.YtinlpjgjjplceaaDoorCfB
namespace Go.Proofs.YtinlpjgjjplceaaDoor
open Go Go.RowKit

/-! ## Two configs, alike? -/
theorem ext8 (c : Cf) (o : Nat) (ho : o + 8 ≤ 94) (j : Nat) (hj : j < 8) : ((cg c).extract o (o + 8))[j]? = some (.int .i64 (c (o + j))) := by
  rw [Array.getElem?_extract, if_pos (by rw [cg_size]; omega), cg_get c (by omega)]
theorem run_items_int (d : Nat) (w : World) (xs ys : Array Value) (f g : Nat → Int) : ∀ (is : List Nat), (∀ i ∈ is, xs[i]? = some (.int .i64 (f i)) ∧ ys[i]? = some (.int .i64 (g i))) →
    (Op.eqItems (d + 1) 3 1 xs ys is).run Tryd.prog w = .ok (is.all fun i => f i == g i) w
  | [], _ => by simp [Op.eqItems]
  | i :: is, h => by
    obtain ⟨hx, hy⟩ := h i (List.mem_cons_self ..)
    have px : (part 3 xs (i * 1)).run Tryd.prog w = .ok (.int .i64 (f i)) w := by simp [part, isAgg, run_underlying Tryd.underlying3, hx]
    have py : (part 3 ys (i * 1)).run Tryd.prog w = .ok (.int .i64 (g i)) w := by simp [part, isAgg, run_underlying Tryd.underlying3, hy]
    have ih := run_items_int d w xs ys f g is (fun j hj => h j (List.mem_cons_of_mem _ hj))
    simp only [Op.eqItems, Sem.run_bind, px, py, Result.andThen_ok, run_equalIn_int w d 3 .i64 .i64 _ _ Tryd.underlying3, List.all_cons]
    cases hb : (f i == g i)
    · simp
    · simp [ih]
theorem info3 : ∃ i, Tryd.prog.info? 3 = some i := by
  have h : (Tryd.prog.info? 3).isSome = true := by kernel_rfl
  exact Option.isSome_iff_exists.1 h
theorem info23 : ∃ i, Tryd.prog.info? 23 = some i := by
  have h : (Tryd.prog.info? 23).isSome = true := by kernel_rfl
  exact Option.isSome_iff_exists.1 h
theorem cells3 : Tryd.prog.cellsOf 3 = 1 := by kernel_rfl
theorem cells23 : Tryd.prog.cellsOf 23 = 8 := by kernel_rfl
theorem run_eq_arr (d : Nat) (w : World) {t : TypeId} {n : Nat} (hu : Tryd.prog.underlying t = some (.array n 3)) (xs ys : Array Value) (f g : Nat → Int) (h : ∀ i, i < n → xs[i]? = some (.int .i64 (f i)) ∧ ys[i]? = some (.int .i64 (g i))) :
    (Op.equalIn (d + 2) t (.agg xs) (.agg ys)).run Tryd.prog w = .ok ((List.range n).all fun i => f i == g i) w := by
  obtain ⟨i, hi⟩ := info3
  rw [run_equalIn_array w (d + 1) xs ys hu hi, cells3]
  exact run_items_int d w xs ys f g _ (fun i hi => h i (by simpa using hi))
theorem size23 : ∀ w, (sizeOf 23).run Tryd.prog w = .ok 8 w := fun w => by
  obtain ⟨i, hi⟩ := info23
  rw [run_sizeOf w hi, cells23]
theorem run_items_arr (d : Nat) (w : World) (xs ys : Array Value) (f g : Nat → Int) : ∀ (is : List Nat), (∀ i ∈ is, ∀ j, j < 8 → xs[i * 8 + j]? = some (.int .i64 (f (i * 8 + j))) ∧ ys[i * 8 + j]? = some (.int .i64 (g (i * 8 + j)))) →
    (Op.eqItems (d + 2) 23 8 xs ys is).run Tryd.prog w = .ok (is.all fun i => (List.range 8).all fun j => f (i * 8 + j) == g (i * 8 + j)) w
  | [], _ => by simp [Op.eqItems]
  | i :: is, h => by
    have hh := h i (List.mem_cons_self ..)
    have px : (part 23 xs (i * 8)).run Tryd.prog w = .ok (.agg (xs.extract (i * 8) (i * 8 + 8))) w := by simp [part, isAgg, run_underlying Tryd.underlying23, size23]
    have py : (part 23 ys (i * 8)).run Tryd.prog w = .ok (.agg (ys.extract (i * 8) (i * 8 + 8))) w := by simp [part, isAgg, run_underlying Tryd.underlying23, size23]
    have ih := run_items_arr d w xs ys f g is (fun j hj => h j (List.mem_cons_of_mem _ hj))
    have lx : ∀ (zs : Array Value) (k : Nat → Int), (∀ j, j < 8 → zs[i * 8 + j]? = some (.int .i64 (k (i * 8 + j)))) → ∀ j, j < 8 → (zs.extract (i * 8) (i * 8 + 8))[j]? = some (.int .i64 (k (i * 8 + j))) := fun zs k hz j hj => by
      have h7 := (Array.getElem?_eq_some_iff.1 (hz 7 (by omega))).1
      rw [Array.getElem?_extract, if_pos (by omega)]
      exact hz j hj
    have pe := run_eq_arr d w Tryd.underlying23 (xs.extract (i * 8) (i * 8 + 8)) (ys.extract (i * 8) (i * 8 + 8)) (fun j => f (i * 8 + j)) (fun j => g (i * 8 + j)) (fun j hj => ⟨lx xs f (fun j hj => (hh j hj).1) j hj, lx ys g (fun j hj => (hh j hj).2) j hj⟩)
    simp only [Op.eqItems, Sem.run_bind, px, py, pe, Result.andThen_ok, List.all_cons]
    generalize ((List.range 8).all fun j => f (i * 8 + j) == g (i * 8 + j)) = r
    cases r
    · simp
    · simp [ih]
theorem size_22 : ∀ w, (sizeOf 22).run Tryd.prog w = .ok 16 w := fun w => by
  have h : (Tryd.prog.info? 22).map (·.size) = some 16 := by kernel_rfl
  cases hq : Tryd.prog.info? 22 with
  | none => simp [hq] at h
  | some i => simp [hq] at h; simp [sizeOf, typeInfo, hq, h]
theorem size_24 : ∀ w, (sizeOf 24).run Tryd.prog w = .ok 64 w := fun w => by
  have h : (Tryd.prog.info? 24).map (·.size) = some 64 := by kernel_rfl
  cases hq : Tryd.prog.info? 24 with
  | none => simp [hq] at h
  | some i => simp [hq] at h; simp [sizeOf, typeInfo, hq, h]
theorem run_eq_cg (w : World) (c d : Cf) : ∃ r : Bool, (Op.equalIn 10000 26 (.agg (cg c)) (.agg (cg d))).run Tryd.prog w = .ok r w ∧ (r = true ↔ ∀ i, i < 94 → c i = d i) := by
  have hf : ((Tryd.prog.fieldsOf 26).toList.map fun f => (f.type, f.offset, f.name)) = [(3, 0, "Nodes"), (3, 1, "CPUs"), (22, 2, "Home"), (23, 18, "Frames"), (24, 26, "Distance"), (3, 90, "Slots"), (3, 91, "Min"), (3, 92, "Low"), (3, 93, "High")] := by kernel_rfl
  rw [run_equalIn_agg w 9999 26 _ _ (by kernel_rfl) (by kernel_rfl)]
  generalize (Tryd.prog.fieldsOf 26).toList = fs at hf ⊢
  have pi : ∀ (e : Cf) (o : Nat), o < 94 → (part 3 (cg e) o).run Tryd.prog w = .ok (.int .i64 (e o)) w := fun e o ho => by simp [part, isAgg, run_underlying Tryd.underlying3, cg_get e ho]
  have p22 : ∀ (e : Cf), (part 22 (cg e) 2).run Tryd.prog w = .ok (.agg ((cg e).extract 2 18)) w := fun e => by simp [part, isAgg, run_underlying Tryd.underlying22, size_22]
  have p23 : ∀ (e : Cf), (part 23 (cg e) 18).run Tryd.prog w = .ok (.agg ((cg e).extract 18 26)) w := fun e => by simp [part, isAgg, run_underlying Tryd.underlying23, size23]
  have p24 : ∀ (e : Cf), (part 24 (cg e) 26).run Tryd.prog w = .ok (.agg ((cg e).extract 26 90)) w := fun e => by simp [part, isAgg, run_underlying Tryd.underlying24, size_24]
  have ex : ∀ (e : Cf) (o n i : Nat), o + n ≤ 94 → i < n → ((cg e).extract o (o + n))[i]? = some (.int .i64 (e (o + i))) := fun e o n i ho hi => by
    rw [Array.getElem?_extract, if_pos (by rw [cg_size]; omega), cg_get e (by omega)]
  have e3 : ∀ (a b : Int), (Op.equalIn 9999 3 (.int .i64 a) (.int .i64 b)).run Tryd.prog w = .ok (a == b) w := fun a b => run_equalIn_int w 9998 3 .i64 .i64 a b Tryd.underlying3
  have e22 := run_eq_arr 9997 w Tryd.underlying22 ((cg c).extract 2 18) ((cg d).extract 2 18) (fun i => c (2 + i)) (fun i => d (2 + i)) (fun i hi => ⟨ex c 2 16 i (by omega) hi, ex d 2 16 i (by omega) hi⟩)
  have e23 := run_eq_arr 9997 w Tryd.underlying23 ((cg c).extract 18 26) ((cg d).extract 18 26) (fun i => c (18 + i)) (fun i => d (18 + i)) (fun i hi => ⟨ex c 18 8 i (by omega) hi, ex d 18 8 i (by omega) hi⟩)
  have e24 : (Op.equalIn 9999 24 (.agg ((cg c).extract 26 90)) (.agg ((cg d).extract 26 90))).run Tryd.prog w = .ok ((List.range 8).all fun i => (List.range 8).all fun j => c (26 + (i * 8 + j)) == d (26 + (i * 8 + j))) w := by
    obtain ⟨i, hi⟩ := info23
    rw [run_equalIn_array w 9998 _ _ Tryd.underlying24 hi, cells23]
    exact run_items_arr 9996 w _ _ (fun i => c (26 + i)) (fun i => d (26 + i)) _ (fun i hi j hj => by
      have hi8 : i < 8 := by simpa using hi
      exact ⟨ex c 26 64 _ (by omega) (by omega), ex d 26 64 _ (by omega) (by omega)⟩)
  rcases fs with _ | ⟨f1, _ | ⟨f2, _ | ⟨f3, _ | ⟨f4, _ | ⟨f5, _ | ⟨f6, _ | ⟨f7, _ | ⟨f8, _ | ⟨f9, _ | ⟨f10, t⟩⟩⟩⟩⟩⟩⟩⟩⟩⟩
  all_goals first
  | (simp at hf; done)
  | skip
  simp only [List.map_cons, List.map_nil, List.cons.injEq, Prod.mk.injEq, and_true] at hf
  obtain ⟨⟨a1, a2, a3⟩, ⟨b1, b2, b3⟩, ⟨c1, c2, c3⟩, ⟨d1, d2, d3⟩, ⟨g1, g2, g3⟩, ⟨h1, h2, h3⟩, ⟨i1, i2, i3⟩, ⟨j1, j2, j3⟩, k1, k2, k3⟩ := hf
  refine ⟨(c 0 == d 0 && c 1 == d 1 && ((List.range 16).all fun i => c (2 + i) == d (2 + i)) && ((List.range 8).all fun i => c (18 + i) == d (18 + i)) && ((List.range 8).all fun i => (List.range 8).all fun j => c (26 + (i * 8 + j)) == d (26 + (i * 8 + j))) && c 90 == d 90 && c 91 == d 91 && c 92 == d 92 && c 93 == d 93), ?_, ?_⟩
  rotate_left
  · simp only [Bool.and_eq_true, beq_iff_eq, List.all_eq_true, List.mem_range]
    refine Iff.symm ?_
    constructor
    · intro h
      exact ⟨⟨⟨⟨⟨⟨⟨⟨h 0 (by omega), h 1 (by omega)⟩, fun i hi => h _ (by omega)⟩, fun i hi => h _ (by omega)⟩, fun i hi j hj => h _ (by omega)⟩, h 90 (by omega)⟩, h 91 (by omega)⟩, h 92 (by omega)⟩, h 93 (by omega)⟩
    · rintro ⟨⟨⟨⟨⟨⟨⟨⟨h0, h1⟩, h2⟩, h3⟩, h4⟩, h5⟩, h6⟩, h7⟩, h8⟩ i hi
      by_cases q2 : i < 2
      · rcases (by omega : i = 0 ∨ i = 1) with rfl | rfl <;> assumption
      · by_cases q3 : i < 18
        · have := h2 (i - 2) (by omega)
          rwa [show 2 + (i - 2) = i by omega] at this
        · by_cases q4 : i < 26
          · have := h3 (i - 18) (by omega)
            rwa [show 18 + (i - 18) = i by omega] at this
          · by_cases q5 : i < 90
            · have := h4 ((i - 26) / 8) (by omega) ((i - 26) % 8) (by omega)
              rwa [show 26 + ((i - 26) / 8 * 8 + (i - 26) % 8) = i by omega] at this
            · rcases (by omega : i = 90 ∨ i = 91 ∨ i = 92 ∨ i = 93) with rfl | rfl | rfl | rfl <;> assumption
  generalize ((List.range 16).all fun i => c (2 + i) == d (2 + i)) = r22 at e22 ⊢
  generalize ((List.range 8).all fun i => c (18 + i) == d (18 + i)) = r23 at e23 ⊢
  generalize ((List.range 8).all fun i => (List.range 8).all fun j => c (26 + (i * 8 + j)) == d (26 + (i * 8 + j))) = r24 at e24 ⊢
  have q0 := fun e : Cf => pi e 0 (by omega)
  have q1 := fun e : Cf => pi e 1 (by omega)
  have q5 := fun e : Cf => pi e 90 (by omega)
  have q6 := fun e : Cf => pi e 91 (by omega)
  have q7 := fun e : Cf => pi e 92 (by omega)
  have q8 := fun e : Cf => pi e 93 (by omega)
  have step : ∀ (f : Field) (fs : List Field) (a b : Value) (r s : Bool), f.name ≠ "_" → (part f.type (cg c) f.offset).run Tryd.prog w = .ok a w → (part f.type (cg d) f.offset).run Tryd.prog w = .ok b w → (Op.equalIn 9999 f.type a b).run Tryd.prog w = .ok r w →
      (Op.eqFields 9999 (cg c) (cg d) fs).run Tryd.prog w = .ok s w → (Op.eqFields 9999 (cg c) (cg d) (f :: fs)).run Tryd.prog w = .ok (r && s) w := fun f fs a b r s h0 h1 h2 h3 h4 => by
    simp only [Op.eqFields, h0, ne_eq, not_false_eq_true, if_true, Sem.run_bind, h1, h2, h3, Result.andThen_ok]
    cases r
    · simp
    · simp [h4]
  have s10 : (Op.eqFields 9999 (cg c) (cg d) []).run Tryd.prog w = .ok true w := by simp [Op.eqFields]
  have s9 := step f9 _ _ _ _ _ (by rw [k3]; decide) (by rw [k1, k2]; exact q8 c) (by rw [k1, k2]; exact q8 d) (by rw [k1]; exact e3 _ _) s10
  have s8 := step f8 _ _ _ _ _ (by rw [j3]; decide) (by rw [j1, j2]; exact q7 c) (by rw [j1, j2]; exact q7 d) (by rw [j1]; exact e3 _ _) s9
  have s7 := step f7 _ _ _ _ _ (by rw [i3]; decide) (by rw [i1, i2]; exact q6 c) (by rw [i1, i2]; exact q6 d) (by rw [i1]; exact e3 _ _) s8
  have s6 := step f6 _ _ _ _ _ (by rw [h3]; decide) (by rw [h1, h2]; exact q5 c) (by rw [h1, h2]; exact q5 d) (by rw [h1]; exact e3 _ _) s7
  have s5 := step f5 _ _ _ _ _ (by rw [g3]; decide) (by rw [g1, g2]; exact p24 c) (by rw [g1, g2]; exact p24 d) (by rw [g1]; exact e24) s6
  have s4 := step f4 _ _ _ _ _ (by rw [d3]; decide) (by rw [d1, d2]; exact p23 c) (by rw [d1, d2]; exact p23 d) (by rw [d1]; exact e23) s5
  have s3 := step f3 _ _ _ _ _ (by rw [c3]; decide) (by rw [c1, c2]; exact p22 c) (by rw [c1, c2]; exact p22 d) (by rw [c1]; exact e22) s4
  have s2 := step f2 _ _ _ _ _ (by rw [b3]; decide) (by rw [b1, b2]; exact q1 c) (by rw [b1, b2]; exact q1 d) (by rw [b1]; exact e3 _ _) s3
  have s1 := step f1 _ _ _ _ _ (by rw [a3]; decide) (by rw [a1, a2]; exact q0 c) (by rw [a1, a2]; exact q0 d) (by rw [a1]; exact e3 _ _) s2
  rw [s1]
  simp only [Bool.and_true, Bool.and_assoc]
end Go.Proofs.YtinlpjgjjplceaaDoor
