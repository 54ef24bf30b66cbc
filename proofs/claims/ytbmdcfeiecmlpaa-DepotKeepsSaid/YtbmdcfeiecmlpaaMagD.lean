import Derived.Test.YtbmdcfeiecmlpaaMagC
namespace Go.Proofs.Ytbmdcfeiecmlpaa
open Go Go.RowKit

/-- append(nil, make(n)...) -/
theorem run_append_make (w : World) (n : Nat) (h0 : 0 < n) (hn : n ≤ 1000000) (ty : TypeId) :
    ∃ c, n ≤ c ∧ c ≤ maxLen ∧ ∃ cur, cur.size = c * 2 ∧ (Builtin.append_ #[22, 3] ty #[.slice none 0 0, .int .i64 n]).run Try.prog w = .ok (.slice (some ⟨w.heap.size, 0, none⟩) n c) (w.drew.alloc (.cells cur 28)) := by
  obtain ⟨i28, hi, hz, hi1, hi2⟩ := info_parts info28
  have hge := grownCap_ge w n 0 28
  have hcm : grownCap w n 0 28 ≤ maxLen := grownCap_le_maxLen w n 0 28 (by unfold maxLen; omega)
  have wn : IntKind.i64.wrap (n : Int) = n := by rw [IntKind.wrap_i64]; omega
  refine ⟨grownCap w n 0 28, hge, hcm, #[] ++ Builtin.zeroCells #[.int .i64 0, .int .i64 0] n ++ Builtin.zeroCells #[.int .i64 0, .int .i64 0] (grownCap w n 0 28 - n), ?_, ?_⟩
  · simp only [Array.size_append, size_zeroCells, List.size_toArray, List.length_nil, List.length_cons]
    omega
  · have e1 : ¬ (281474976710656 < (n : Int) * 16) := by omega
    have e2 : ¬ ((n : Int) < 0) := by omega
    have e3 : ¬ (n * 2 = 0) := by omega
    have e4 : ¬ (9223372036854775807 < (n : Int)) := by omega
    have e5 : ¬ (n = 0) := by omega
    have e6 : ¬ (281474976710656 < Builtin.nextslicecap n 0 * 16) := by rw [nextslicecap_zero h0]; omega
    have e7 : ((n : Int) * 16).toNat = n * 16 := by omega
    simp [Builtin.append_, run_underlying Try.underlying22, run_underlying Try.underlying3, sizeOf, typeInfo, zeroValue, hi, hz, hi1, hi2, asInt, asIntOf, wn, e1, e2, e3, e4, e5, e6, Builtin.lenOf, Question.forced, Builtin.firstCells, newRow, grownCap]
    rfl

/-- an append whose run is known, in a plain region -/
theorem wpList_append_runs {ops : Array Oper} {rest : List Oper} {o : Oper} {a : Act} {w w' : World} {Q : Exit → Act → World → Prop} (hg : o.guard = none) (s x : Operand) (ts : Array TypeId)
    (ho : o.op = .call { callee := .builtin .append, args := #[s, x], argTypes := ts }) {v y u : Value} (hs : a.eval s = v) (hx : a.eval x = y)
    (hrun : (Builtin.append_ ts o.type #[v, y]).run Try.prog w = .ok u w') (h : wpList Try.prog ops Q rest (a.put o.dst u) w') : wpList Try.prog ops Q (o :: rest) a w :=
  wpList_plain hg fun K hK => by
    unfold Oper.wp execOp
    simp only [ho, resolve, invoke, builtin, Sem.run_bind, Sem.run_pure, Result.andThen_ok, List.map_toArray, List.map_cons, List.map_nil, hs, hx, hrun]
    exact hK _ _ h
/-- append, of objects, in a plain region -/
theorem wpList_append_ob {ops : Array Oper} {rest : List Oper} {o : Oper} {a : Act} {w : World} {Q : Exit → Act → World → Prop} (hg : o.guard = none) (s x : Operand)
    (ho : o.op = .call { callee := .builtin .append, args := #[s, x], argTypes := #[22, 22] }) (v y : Value) (hs : a.eval s = v) (hx : a.eval x = y) {l m : List Ob} (hv : SO w v l) (hy : RO w y m) (hlen : l.length + m.length ≤ 1000000)
    (h : ∀ A c w', SO w' (.slice A (l.length + m.length) c) (l ++ m) → Chg v.ownBlock.toList w w' →
      ((Value.slice A (l.length + m.length) c).ownBlock = v.ownBlock ∨ (Value.slice A (l.length + m.length) c).ownBlock = some w.heap.size) → wpList Try.prog ops Q rest (a.put o.dst (.slice A (l.length + m.length) c)) w') :
    wpList Try.prog ops Q (o :: rest) a w := by
  obtain ⟨A, c, w', hrun, h2, h3, h4⟩ := run_append_ob hv hy hlen o.type
  exact wpList_append_runs hg s x _ ho hs hx hrun (h A c w' h2 h3 h4)

set_option maxHeartbeats 1000000 in
theorem put_full {w : World} {p r : Nat} {a b : List Ob} {F : List Nat} (hr : 1 ≤ r) (hr2 : r ≤ 32) (hm : PMem w p r a b F) (x y : Int) (ha : r ≤ a.length) (hb' : r ≤ b.length) :
    Calls Try.prog 24 #[.pointer (some ⟨p, 0, none⟩), .agg #[.int .i64 x, .int .i64 y]] w fun e w' => e = .returned (.bool false) ∧ PMem w' p r a b F ∧ Chg F w w' := by
  have hr0 : ((r : Int) == 0) = false := beq_eq_false_iff_ne.2 (by omega)
  obtain ⟨A0, k0, A1, k1, hb, _, _, hp, _, _, _, hF⟩ := hm.open_
  have c0 := hb.cell 0
  simp at c0
  have hp1 := hF p hp
  have hb1 := hb.alloc (.cells #[.int .i64 x, .int .i64 y] 28)
  go_enter Try.func24, Try.ntmps24
  go_wp2_with (first | (go_at_call 27; refine (rounds_at p r _ (by go_simp)).mono ?_; rintro e w' ⟨rfl, rfl⟩) | (go_at_call 47; refine (cf_none p r A0 A1 _ k0 _ k1 _ hb1 (by simp; omega) (by simp; omega)).mono ?_; rintro e w' ⟨rfl, rfl⟩) | (refine wpT_calc0 rfl rfl (fun K hK => ?_)) | (refine wpT_skipG rfl ?_ ?_; focus (simp [yielded]; done); go_simp) | (refine wpT_calcG rfl rfl ?_ (fun K hK => ?_); focus (simp [yielded]; done)) | (refine wpT_pure (fun K hK => ?_); go_simp; refine hK _ _ ?_; clear hK K) | (refine wpT_plain (by decide) rfl (fun K hK => ?_)) | (refine wpT_deed (by decide) (fun K hK => ?_); go_simp) | (refine wpT_nil ?_))
  go_ret
  exact ⟨rfl, hm.chg ((Chg.refl [] _).alloc _) (by simp), (Chg.refl _ _).alloc _⟩

set_option maxHeartbeats 1000000 in
theorem grow_zero (w : World) : Calls Try.prog 53 #[.slice none 0 0, .int .i64 0] w fun e w' => e = .returned (.slice none 0 0) ∧ w = w' := by
  go_enter Try.func53, Try.ntmps53
  go_wp2_with (first | fail | (refine wpT_calc0 rfl rfl (fun K hK => ?_)) | (refine wpT_skipG rfl ?_ ?_; focus (simp [yielded]; done); go_simp) | (refine wpT_calcG rfl rfl ?_ (fun K hK => ?_); focus (simp [yielded]; done)) | (refine wpT_pure (fun K hK => ?_); go_simp; refine hK _ _ ?_; clear hK K) | (refine wpT_plain (by decide) rfl (fun K hK => ?_)) | (refine wpT_deed (by decide) (fun K hK => ?_); go_simp) | (refine wpT_nil ?_))
  go_ret
  exact ⟨rfl, rfl⟩

set_option maxHeartbeats 1000000 in
theorem grow_pos (w : World) (n : Nat) (h0 : 0 < n) (hn : n ≤ 1000000) : Calls Try.prog 53 #[.slice none 0 0, .int .i64 n] w fun e w' => (∃ A c, e = .returned (.slice A 0 c) ∧ SO w' (.slice A 0 c) [] ∧ ∀ k, (Value.slice A 0 c).ownBlock = some k → w.heap.size ≤ k) ∧ Chg [] w w' := by
  obtain ⟨c, hc1, hc2, cur, hcs, hrun⟩ := run_append_make w n h0 hn 22
  go_enter Try.func53, Try.ntmps53
  go_wp2_with (first | (at_builtin; refine wpList_append_runs rfl _ _ _ rfl rfl rfl hrun ?_) | (refine wpT_calc0 rfl rfl (fun K hK => ?_)) | (refine wpT_skipG rfl ?_ ?_; focus (simp [yielded]; done); go_simp) | (refine wpT_calcG rfl rfl ?_ (fun K hK => ?_); focus (simp [yielded]; done)) | (refine wpT_pure (fun K hK => ?_); go_simp; refine hK _ _ ?_; clear hK K) | (refine wpT_plain (by decide) rfl (fun K hK => ?_)) | (refine wpT_deed (by decide) (fun K hK => ?_); go_simp) | (refine wpT_nil ?_))
  go_ret
  refine ⟨⟨some ⟨w.heap.size, 0, none⟩, c, rfl, ?_, fun k hk => ?_⟩, ((Chg.refl [] w).alloc _).drew⟩
  · have := Sl.made w 28 2 cur 0 c (Nat.zero_le _) hc2 (by omega)
    simpa [SO, oc] using this.drew
  · simp [Value.ownBlock] at hk; omega

/-- a slice of objects that is new -/
def NewO (w w' : World) (l : List Ob) (e : Ending) : Prop := ∃ A c, e = .returned (.slice A l.length c) ∧ SO w' (.slice A l.length c) l ∧ ∀ k, (Value.slice A l.length c).ownBlock = some k → w.heap.size ≤ k

set_option maxHeartbeats 1000000 in
theorem clone_some {w : World} {a0 : Addr} {c : Nat} {l : List Ob} (hl : RO w (.slice (some a0) l.length c) l) (hlen : l.length ≤ 1000000) : Calls Try.prog 46 #[.slice (some a0) l.length c] w fun e w' => NewO w w' l e ∧ Chg [] w w' := by
  have hne : ∀ W : World, (binOp .eql 22 (.slice (some a0) l.length c) (.slice none 0 0)).run Try.prog W = .ok (.bool false) W := fun W => Lib.run_eql_slice_nil W 22 28 _ _ _ 0 0 Try.underlying22
  have h0 : SO (w.alloc (.cells #[] 28)) (.slice (some ⟨w.heap.size, 0, none⟩) 0 0) [] := Sl.made w 28 2 #[] 0 0 (Nat.le_refl _) (Nat.zero_le _) (Nat.le_refl _)
  go_enter Try.func46, Try.ntmps46
  go_wp2_with (first | (at_builtin; refine wpList_append_ob rfl _ _ rfl _ _ rfl rfl h0 (Rd.alloc hl _) (by simp; omega) ?_; intro A2 k2 w2 hv2 hc2 ho2) | (refine wpT_calc0 rfl rfl (fun K hK => ?_)) | (refine wpT_skipG rfl ?_ ?_; focus (simp [yielded]; done); go_simp) | (refine wpT_calcG rfl rfl ?_ (fun K hK => ?_); focus (simp [yielded]; done)) | (refine wpT_pure (fun K hK => ?_); go_simp; refine hK _ _ ?_; clear hK K) | (refine wpT_plain (by decide) rfl (fun K hK => ?_)) | (refine wpT_deed (by decide) (fun K hK => ?_); go_simp) | (refine wpT_nil ?_))
  go_ret
  have e0 : ([] : List Ob).length + l.length = l.length := by simp
  rw [e0] at hv2 ho2
  refine ⟨⟨A2, k2, by simp, by simpa using hv2, fun k hk => ?_⟩, ?_⟩
  · rcases ho2 with e | e
    · rw [hk] at e; simp [Value.ownBlock, Act.eval] at e; omega
    · rw [hk] at e; simp at e; omega
  · refine ((Chg.refl [] w).alloc _).trans hc2 (fun k hk => .inr ?_)
    have : k = w.heap.size := by simpa [Value.ownBlock, Act.eval, eq_comm] using hk
    omega
set_option maxHeartbeats 1000000 in
theorem clone_none {w : World} {n c : Nat} : Calls Try.prog 46 #[.slice none n c] w fun e w' => e = .returned (.slice none 0 0) ∧ w = w' := by
  have hne : ∀ W : World, (binOp .eql 22 (.slice none n c) (.slice none 0 0)).run Try.prog W = .ok (.bool true) W := fun W => Lib.run_eql_slice_nil W 22 28 _ _ _ 0 0 Try.underlying22
  go_enter Try.func46, Try.ntmps46
  go_wp2_with (first | fail | (refine wpT_calc0 rfl rfl (fun K hK => ?_)) | (refine wpT_skipG rfl ?_ ?_; focus (simp [yielded]; done); go_simp) | (refine wpT_calcG rfl rfl ?_ (fun K hK => ?_); focus (simp [yielded]; done)) | (refine wpT_pure (fun K hK => ?_); go_simp; refine hK _ _ ?_; clear hK K) | (refine wpT_plain (by decide) rfl (fun K hK => ?_)) | (refine wpT_deed (by decide) (fun K hK => ?_); go_simp) | (refine wpT_nil ?_))
  go_ret
  exact ⟨rfl, rfl⟩
theorem clone_any {w : World} {v : Value} {l : List Ob} (hl : RO w v l) (hlen : l.length ≤ 1000000) : Calls Try.prog 46 #[v] w fun e w' => NewO w w' l e ∧ Chg [] w w' := by
  obtain ⟨A, c, rfl⟩ := hl.form
  cases A with
  | some a0 => exact clone_some hl hlen
  | none =>
    refine clone_none.mono ?_
    rintro e w' ⟨rfl, rfl⟩
    have h0 : l.length = 0 := by
      rcases Nat.eq_zero_or_pos l.length with h | h
      · exact h
      · obtain ⟨g, off, c', e, _⟩ := hl.at_ h
        injection e with e
        cases e
    have : l = [] := List.eq_nil_of_length_eq_zero h0
    subst this
    exact ⟨⟨none, 0, rfl, Sl.nil _ _ _, fun k hk => by simp [Value.ownBlock] at hk⟩, Chg.refl _ _⟩

theorem grow_any (w : World) (n : Nat) (hn : n ≤ 1000000) : Calls Try.prog 53 #[.slice none 0 0, .int .i64 n] w fun e w' => NewO w w' [] e ∧ Chg [] w w' := by
  rcases Nat.eq_zero_or_pos n with rfl | h0
  · refine (grow_zero w).mono ?_
    rintro e w' ⟨rfl, rfl⟩
    exact ⟨⟨none, 0, rfl, Sl.nil _ _ _, fun k hk => by simp [Value.ownBlock] at hk⟩, Chg.refl _ _⟩
  · refine (grow_pos w n h0 hn).mono ?_
    rintro e w' ⟨⟨A, c, he, h1, h2⟩, h3⟩
    exact ⟨⟨A, c, he, h1, h2⟩, h3⟩

/-! ## Concat -/

/-- the slice of slices v reads as the lists ls -/
def RL (w : World) (v : Value) (ls : List (List Ob)) : Prop := ∃ vs : List Value, Rd w 1 v ls.length vs ∧ ∀ i (h : i < ls.length), ∃ u, vs[i]? = some u ∧ RO w u ls[i]
theorem RL.chg {w w' : World} {v : Value} {ls : List (List Ob)} (h : RL w v ls) (hc : Chg [] w w') : RL w' v ls := by
  obtain ⟨vs, h1, h2⟩ := h
  refine ⟨vs, h1.chg hc (fun k _ hk => by cases hk), fun i hi => ?_⟩
  obtain ⟨u, hu, h3⟩ := h2 i hi
  exact ⟨u, hu, Rd.chg h3 hc (fun k _ hk => by cases hk)⟩
theorem RL.at_ {w : World} {v : Value} {ls : List (List Ob)} (h : RL w v ls) {k : Nat} (hk : k < ls.length) :
    ∃ g off c A n, v = .slice (some ⟨g, off, none⟩) ls.length c ∧ w.cell? ⟨g, off + k, none⟩ = some (.slice A ls[k].length n) ∧ RO w (.slice A ls[k].length n) ls[k] := by
  obtain ⟨vs, h1, h2⟩ := h
  obtain ⟨g, off, c, e, _, hat⟩ := h1.at_ hk
  obtain ⟨u, hu, hcell⟩ := hat 0 (by omega)
  obtain ⟨u', hu', h3⟩ := h2 k hk
  have : u = u' := by
    simp only [Nat.mul_one, Nat.add_zero] at hu
    exact Option.some.inj (hu.symm.trans hu')
  subst this
  obtain ⟨A, n, rfl⟩ := h3.form
  exact ⟨g, off, c, A, n, e, by simpa using hcell, h3⟩
def lsum (ls : List (List Ob)) (k : Nat) : Nat := (ls.take k).flatten.length
theorem lsum_succ (ls : List (List Ob)) (k : Nat) (h : k < ls.length) : lsum ls (k + 1) = lsum ls k + ls[k].length := by
  unfold lsum
  rw [List.take_succ_eq_append_getElem h, List.flatten_append, List.length_append]
  simp only [List.flatten_cons, List.flatten_nil, List.append_nil]
theorem lsum_le (ls : List (List Ob)) (k : Nat) : lsum ls k ≤ ls.flatten.length := by
  unfold lsum
  conv => rhs; rw [← List.take_append_drop k ls]
  simp only [List.flatten_append, List.length_append]
  omega

set_option maxHeartbeats 2000000 in
theorem concat_any {w : World} {v : Value} {ls : List (List Ob)} (hl : RL w v ls) (hn : ls.length ≤ 1000000) (hlen : ls.flatten.length ≤ 1000000) : Calls Try.prog 51 #[v] w fun e w' => NewO w w' ls.flatten e ∧ Chg [] w w' := by
  obtain ⟨A, c, rfl⟩ : ∃ A c, v = .slice A ls.length c := by obtain ⟨vs, h1, _⟩ := hl; exact h1.form
  go_enter Try.func51, Try.ntmps51
  go_wp2_with fail
  go_loop [3, 11] (fun s i => ∃ k : Nat, k ≤ ls.length ∧ i = .int .i64 k ∧ s = .int .i64 (lsum ls k : Nat)) (fun _ i => ls.length - (intOf i).toNat)
  case atStart => exact ⟨0, Nat.zero_le _, rfl, rfl⟩
  case round =>
    obtain ⟨k, hk, rfl, rfl⟩ := hrel
    have hle := lsum_le ls k
    by_cases hlt : k < ls.length
    · obtain ⟨g, off, c', A', n', e, hcell, hro⟩ := hl.at_ hlt
      injection e with e1 _ e2
      subst e1; subst e2
      have hsu := lsum_succ ls k hlt
      have hle2 := lsum_le ls (k + 1)
      have HS := hide hsu
      have hb : lsum ls k + ls[k].length ≤ 1000000 := by omega
      clear hsu
      go_wp2_with (first | fail | (refine wpT_calc0 rfl rfl (fun K hK => ?_)) | (refine wpT_skipG rfl ?_ ?_; focus (simp [yielded]; done); go_simp) | (refine wpT_calcG rfl rfl ?_ (fun K hK => ?_); focus (simp [yielded]; done)) | (refine wpT_pure (fun K hK => ?_); go_simp; refine hK _ _ ?_; clear hK K) | (refine wpT_plain (by decide) rfl (fun K hK => ?_)) | (refine wpT_deed (by decide) (fun K hK => ?_); go_simp) | (refine wpT_nil ?_))
      go_round
      case rel => exact ⟨k + 1, by omega, by go_num, by rw [HS.out]; go_num⟩
      case measure => simp [intOf]; omega
    · have hkl : k = ls.length := by omega
      have Hk := hide hkl
      clear hkl
      go_wp2_with fail
      refine (grow_any w (lsum ls k) (by omega)).mono ?_
      rintro e w1 ⟨⟨A1, c1, rfl, hs1, hn1⟩, hc1⟩
      go_wp2_with fail
      go_loopw [6, 27] (fun v i wr => ∃ (j : Nat) (A2 : Option Addr) (c2 : Nat) (L : List Ob), j ≤ ls.length ∧ i = .int .i64 j ∧ v = .slice A2 L.length c2 ∧ SO wr (.slice A2 L.length c2) L ∧ (∀ b, (Value.slice A2 L.length c2).ownBlock = some b → w.heap.size ≤ b) ∧ Chg [] w wr ∧ Hid (L = (ls.take j).flatten)) (fun _ i _ => ls.length - (intOf i).toNat)
      case atStart => exact ⟨0, A1, c1, [], Nat.zero_le _, rfl, rfl, hs1, hn1, hc1, rfl⟩
      case round =>
        obtain ⟨j, A2, c2, L, hj, rfl, rfl, hs2, hn2, hc2, HL⟩ := hrel
        by_cases hlt2 : j < ls.length
        · have hl2 := hl.chg hc2
          obtain ⟨g, off, c', A', n', e, hcell, hro⟩ := hl2.at_ hlt2
          injection e with e1 _ e2
          subst e1; subst e2
          have hb : L.length + ls[j].length ≤ 1000000 := by
            have h1 := lsum_succ ls j hlt2
            have h2 := lsum_le ls (j + 1)
            have h3 : L.length = lsum ls j := by rw [HL.out]; rfl
            omega
          have HT : Hid ((ls.take (j + 1)).flatten = (ls.take j).flatten ++ ls[j]) := by
            show (ls.take (j + 1)).flatten = _
            rw [List.take_succ_eq_append_getElem hlt2, List.flatten_append]; simp only [List.flatten_cons, List.flatten_nil, List.append_nil]
          go_wp2_with (at_builtin; refine wpList_append_ob rfl _ _ rfl (.slice A2 L.length c2) _ rfl rfl hs2 hro hb ?_; intro A3 c3 w3 hs3 hc3 ho3)
          go_roundw
          case rel =>
            have hb3 : ∀ b, (Value.slice A3 (L ++ ls[j]).length c3).ownBlock = some b → w.heap.size ≤ b := fun b hb => by
              rcases ho3 with e | e
              · exact hn2 b (by rw [← e, ← hb, List.length_append])
              · rw [List.length_append] at hb
                have : some b = some _ := hb.symm.trans e
                injection this with this
                have := hc2.size
                omega
            refine ⟨j + 1, A3, c3, L ++ ls[j], by omega, by go_num, by rw [List.length_append], by rw [List.length_append]; exact hs3, hb3, hc2.trans hc3 (fun b hb => .inr (hn2 b (by simpa using hb))), ?_⟩
            show L ++ ls[j] = _
            rw [HT.out, HL.out]
          case measure => simp [intOf]; omega
        · have hjl : j = ls.length := by omega
          have Hj := hide hjl
          clear hjl
          go_wp2_with fail
          go_ret
          have e2 : L = ls.flatten := by rw [HL.out, Hj.out, List.take_length]
          rw [← e2]
          exact ⟨⟨A2, c2, rfl, hs2, hn2⟩, hc2⟩
end Go.Proofs.Ytbmdcfeiecmlpaa
