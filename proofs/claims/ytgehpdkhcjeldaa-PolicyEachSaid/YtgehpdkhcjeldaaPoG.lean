/- Policies: Grow, Concat of lists of nodes. -/
import Derived.Test.YtgehpdkhcjeldaaCfL
namespace Go.Proofs.Ytgehpdkhcjeldaa
open Go Go.RowKit

/-- append(nil, make(n)...) -/
theorem run_append_makeI (w : World) (n : Nat) (h0 : 0 < n) (hn : n ≤ 1000000) (ty : TypeId) :
    ∃ c, n ≤ c ∧ c ≤ maxLen ∧ ∃ cur, cur.size = c ∧ (Builtin.append_ #[30, 3] ty #[.slice none 0 0, .int .i64 n]).run Try.prog w = .ok (.slice (some ⟨w.heap.size, 0, none⟩) n c) (w.drew.alloc (.cells cur 3)) := by
  obtain ⟨i3, hi, hz, hi1, hi2⟩ := info_parts infoI
  have hge := grownCap_ge w n 0 3
  have hcm : grownCap w n 0 3 ≤ maxLen := grownCap_le_maxLen w n 0 3 (by unfold maxLen; omega)
  have wn : IntKind.i64.wrap (n : Int) = n := by rw [IntKind.wrap_i64]; omega
  refine ⟨grownCap w n 0 3, hge, hcm, #[] ++ Builtin.zeroCells #[.int .i64 0] n ++ Builtin.zeroCells #[.int .i64 0] (grownCap w n 0 3 - n), ?_, ?_⟩
  · simp only [Array.size_append, size_zeroCells, List.size_toArray, List.length_nil, List.length_cons]
    omega
  · have e1 : ¬ (281474976710656 < (n : Int) * 8) := by omega
    have e2 : ¬ ((n : Int) < 0) := by omega
    have e4 : ¬ (9223372036854775807 < (n : Int)) := by omega
    have e5 : ¬ (n = 0) := by omega
    have e6 : ¬ (281474976710656 < Builtin.nextslicecap n 0 * 8) := by rw [nextslicecap_zero h0]; omega
    have e7 : ((n : Int) * 8).toNat = n * 8 := by omega
    simp [Builtin.append_, run_underlying Try.underlying30, run_underlying Try.underlying3, sizeOf, typeInfo, zeroValue, hi, hz, hi1, hi2, asInt, asIntOf, wn, e1, e2, e4, e5, e6, Builtin.lenOf, Question.forced, Builtin.firstCells, newRow, grownCap]
    rfl
/-- an append whose run is known, in a plain region -/
theorem wpList_append_runs {ops : Array Oper} {rest : List Oper} {o : Oper} {a : Act} {w w' : World} {Q : Exit → Act → World → Prop} (hg : o.guard = none) (s x : Operand) (ts : Array TypeId)
    (ho : o.op = .call { callee := .builtin .append, args := #[s, x], argTypes := ts }) {v y u : Value} (hs : a.eval s = v) (hx : a.eval x = y)
    (hrun : (Builtin.append_ ts o.type #[v, y]).run Try.prog w = .ok u w') (h : wpList Try.prog ops Q rest (a.put o.dst u) w') : wpList Try.prog ops Q (o :: rest) a w :=
  wpList_plain hg fun K hK => by
    unfold Oper.wp execOp
    simp only [ho, resolve, invoke, builtin, Sem.run_bind, Sem.run_pure, Result.andThen_ok, List.map_toArray, List.map_cons, List.map_nil, hs, hx, hrun]
    exact hK _ _ h
/-- a list that is new -/
def NewI (w w' : World) (l : List Nat) (e : Ending) : Prop := ∃ A c, e = .returned (.slice A l.length c) ∧ SI w' (.slice A l.length c) l ∧ ∀ k ∈ own (.slice A l.length c), w.heap.size ≤ k
set_option maxHeartbeats 1000000 in
theorem growI_zero (w : World) : Calls Try.prog 50 #[.slice none 0 0, .int .i64 0] w fun e w' => e = .returned (.slice none 0 0) ∧ w = w' := by
  go_enter Try.func50, Try.ntmps50
  go_wp2_with fail
  go_ret
  exact ⟨rfl, rfl⟩
set_option maxHeartbeats 1000000 in
theorem growI_pos (w : World) (n : Nat) (h0 : 0 < n) (hn : n ≤ 1000000) : Calls Try.prog 50 #[.slice none 0 0, .int .i64 n] w fun e w' => NewI w w' [] e ∧ Chg [] w w' := by
  obtain ⟨c, hc1, hc2, cur, hcs, hrun⟩ := run_append_makeI w n h0 hn 30
  have H1 := hide hcs
  have h64 : (n : Int) ≤ 1000000 := by omega
  clear hcs
  go_enter Try.func50, Try.ntmps50
  go_wp2_with (at_builtin; refine wpList_append_runs rfl _ _ _ rfl rfl rfl hrun ?_)
  go_ret
  refine ⟨⟨some ⟨w.heap.size, 0, none⟩, c, rfl, ?_, fun k hk => ?_⟩, ((Chg.refl [] w).alloc _).drew⟩
  · have := Sl.made w 3 1 cur 0 c (Nat.zero_le _) hc2 (by have := H1.out; omega)
    simpa [SI, SE, fc] using this.drew
  · simp [own, Value.ownBlock] at hk; omega
theorem growI_any (w : World) (n : Nat) (hn : n ≤ 1000000) : Calls Try.prog 50 #[.slice none 0 0, .int .i64 n] w fun e w' => NewI w w' [] e ∧ Chg [] w w' := by
  rcases Nat.eq_zero_or_pos n with rfl | h0
  · refine (growI_zero w).mono ?_
    rintro e w' ⟨rfl, rfl⟩
    exact ⟨⟨none, 0, rfl, SE.nil _ _ _ _, fun k hk => (own_nil hk).elim⟩, Chg.refl _ _⟩
  · exact growI_pos w n h0 hn
/-! ## Concat -/
/-- the slice of slices v reads as the lists ls -/
def RLI (w : World) (v : Value) (ls : List (List Nat)) : Prop := ∃ vs : List Value, Rd w 1 v ls.length vs ∧ ∀ i (h : i < ls.length), ∃ u, vs[i]? = some u ∧ RI w u ls[i]
theorem RLI.chg {w w' : World} {v : Value} {ls : List (List Nat)} (h : RLI w v ls) (hc : Chg [] w w') : RLI w' v ls := by
  obtain ⟨vs, h1, h2⟩ := h
  refine ⟨vs, h1.chg hc (fun k _ hk => by cases hk), fun i hi => ?_⟩
  obtain ⟨u, hu, h3⟩ := h2 i hi
  exact ⟨u, hu, Rd.chg h3 hc (fun k _ hk => by cases hk)⟩
theorem RLI.at_ {w : World} {v : Value} {ls : List (List Nat)} (h : RLI w v ls) {k : Nat} (hk : k < ls.length) :
    ∃ g off c A n, v = .slice (some ⟨g, off, none⟩) ls.length c ∧ w.cell? ⟨g, off + k, none⟩ = some (.slice A ls[k].length n) ∧ RI w (.slice A ls[k].length n) ls[k] := by
  obtain ⟨vs, h1, h2⟩ := h
  obtain ⟨g, off, c, e, _, hat⟩ := h1.at_ hk
  obtain ⟨u, hu, hcell⟩ := hat 0 (by omega)
  obtain ⟨u', hu', h3⟩ := h2 k hk
  have : u = u' := by
    simp only [Nat.mul_one, Nat.add_zero] at hu
    exact Option.some.inj (hu.symm.trans hu')
  subst this
  obtain ⟨A, n, rfl⟩ := h3.form
  exact ⟨g, off, c, A, n, e, by simpa using hcell, h3⟩
def lsumI (ls : List (List Nat)) (k : Nat) : Nat := (ls.take k).flatten.length
theorem lsumI_succ (ls : List (List Nat)) (k : Nat) (h : k < ls.length) : lsumI ls (k + 1) = lsumI ls k + ls[k].length := by
  unfold lsumI
  rw [List.take_succ_eq_append_getElem h, List.flatten_append, List.length_append]
  simp only [List.flatten_cons, List.flatten_nil, List.append_nil]
theorem lsumI_le (ls : List (List Nat)) (k : Nat) : lsumI ls k ≤ ls.flatten.length := by
  unfold lsumI
  conv => rhs; rw [← List.take_append_drop k ls]
  simp only [List.flatten_append, List.length_append]
  omega
set_option maxHeartbeats 2000000 in
theorem concatI_any {w : World} {v : Value} {ls : List (List Nat)} (hl : RLI w v ls) (hn : ls.length ≤ 1000000) (hlen : ls.flatten.length ≤ 1000000) : Calls Try.prog 47 #[v] w fun e w' => NewI w w' ls.flatten e ∧ Chg [] w w' := by
  obtain ⟨A, c, rfl⟩ : ∃ A c, v = .slice A ls.length c := by obtain ⟨vs, h1, _⟩ := hl; exact h1.form
  have HL := hide hl
  clear hl
  go_enter Try.func47, Try.ntmps47
  go_wp2_with fail
  go_loop [3, 11] (fun s i => ∃ k : Nat, k ≤ ls.length ∧ i = .int .i64 k ∧ s = .int .i64 (lsumI ls k : Nat)) (fun _ i => ls.length - (intOf i).toNat)
  case atStart => exact ⟨0, Nat.zero_le _, rfl, rfl⟩
  case round =>
    obtain ⟨k, hk, rfl, rfl⟩ := hrel
    have hle := lsumI_le ls k
    by_cases hlt : k < ls.length
    · obtain ⟨g, off, c', A', n', e, hcell, hro⟩ := HL.out.at_ hlt
      injection e with e1 _ e2
      subst e1; subst e2
      have hsu := lsumI_succ ls k hlt
      have hle2 := lsumI_le ls (k + 1)
      have HS := hide hsu
      have hb : lsumI ls k + ls[k].length ≤ 1000000 := by omega
      have k1 : (0 : Int) ≤ (k : Int) := by omega
      have HRO := hide hro
      clear hsu hro
      go_wp2_with fail
      go_round
      case rel => exact ⟨k + 1, by omega, by go_num, by rw [HS.out]; go_num⟩
      case measure => simp [intOf]; omega
    · have hkl : k = ls.length := by omega
      have Hk := hide hkl
      clear hkl
      go_wp2_with fail
      refine (growI_any w (lsumI ls k) (by omega)).mono ?_
      rintro e w1 ⟨⟨A1, c1, rfl, hs1, hn1⟩, hc1⟩
      have HS1 := hide hs1
      have HN1 := hide hn1
      clear hs1 hn1
      go_wp2_with fail
      go_loopw [6, 27] (fun v i wr => ∃ (j : Nat) (A2 : Option Addr) (n2 c2 : Nat) (L : List Nat), j ≤ ls.length ∧ i = .int .i64 j ∧ v = .slice A2 n2 c2 ∧ Hid (SI wr (.slice A2 n2 c2) L) ∧ Hid (∀ b ∈ own (.slice A2 n2 c2), w.heap.size ≤ b) ∧ Chg [] w wr ∧ Hid (L = (ls.take j).flatten)) (fun _ i _ => ls.length - (intOf i).toNat)
      case atStart => exact ⟨0, A1, 0, c1, [], Nat.zero_le _, rfl, rfl, HS1, HN1, hc1, hide rfl⟩
      case round =>
        obtain ⟨j, A2, n2, c2, L, hj, rfl, rfl, hs2, hn2, hc2, HL2⟩ := hrel
        by_cases hlt2 : j < ls.length
        · have hl2 := HL.out.chg hc2
          obtain ⟨g, off, c', A', n', e, hcell, hro⟩ := hl2.at_ hlt2
          injection e with e1 _ e2
          subst e1; subst e2
          have hb : L.length + ls[j].length ≤ 1000000 := by
            have h1 := lsumI_succ ls j hlt2
            have h2 := lsumI_le ls (j + 1)
            have h3 : L.length = lsumI ls j := by rw [HL2.out]; rfl
            omega
          have HB := hide hb
          have HRO := hide hro
          have j1 : (0 : Int) ≤ (j : Int) := by omega
          have HT := hide (show (ls.take (j + 1)).flatten = (ls.take j).flatten ++ ls[j] by
            rw [List.take_succ_eq_append_getElem hlt2, List.flatten_append]; simp only [List.flatten_cons, List.flatten_nil, List.append_nil])
          clear hl2 hro hb
          go_wp2_with (at_builtin; refine wpList_append_i rfl _ _ rfl (.slice A2 n2 c2) _ rfl rfl hs2.out HRO.out HB.out ?_; intro A3 n3 c3 w3 hn3 hs3 hc3 hg3)
          go_roundw
          case rel => exact ⟨j + 1, A3, n3, c3, L ++ ls[j], by omega, by go_num, rfl, hide hs3, hide (fun b hb => (hg3 b hb).elim (hn2.out b) (fun h => by have := hc2.size; omega)), hc2.trans hc3 (fun b hb => .inr (hn2.out b hb)), hide (by rw [HT.out, HL2.out])⟩
          case measure => simp [intOf]; omega
        · have hjl : j = ls.length := by omega
          have Hj := hide hjl
          clear hjl
          go_wp2_with fail
          go_ret
          have e2 : L = ls.flatten := by rw [HL2.out, Hj.out, List.take_length]
          have e3 : n2 = L.length := by
            obtain ⟨A', c', e'⟩ := hs2.out.form
            injection e'
          subst e3
          rw [← e2]
          exact ⟨⟨A2, c2, rfl, hs2.out, hn2.out⟩, hc2⟩
end Go.Proofs.Ytgehpdkhcjeldaa
