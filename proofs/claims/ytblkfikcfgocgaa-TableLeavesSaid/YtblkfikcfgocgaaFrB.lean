/- Bytes laid over a memory's; Read, Write, Clear, Move, Frames. -/
import Derived.Test.YtblkfikcfgocgaaFrA
namespace Go.Proofs.Ytblkfikcfgocgaa
open Go Go.RowKit

theorem splice_nil {α : Type} (L : List α) (o : Nat) : splice L o [] = L := by simp [splice]
theorem fc_splice (B : List Nat) (o : Nat) (xs : List Nat) (h : o + xs.length ≤ B.length) : fc ucl (splice B o xs) = splice (fc ucl B) o (fc ucl xs) := by
  have h1 := fc_take ucl_len B o
  have h2 := fc_drop ucl_len B (o + xs.length)
  rw [Nat.mul_one] at h1 h2
  have h3 : (fc ucl xs).length = xs.length := by rw [fc_length ucl_len]; omega
  unfold splice
  rw [fc_append, fc_append, ← h1, ← h2, h3]
theorem splice_length (B : List Nat) (o : Nat) (xs : List Nat) (h : o + xs.length ≤ B.length) : (splice B o xs).length = B.length := length_splice B o xs h
theorem splice_mem {B : List Nat} {o : Nat} {xs : List Nat} {x : Nat} (h : x ∈ splice B o xs) : x ∈ B ∨ x ∈ xs := by
  unfold splice at h
  rcases List.mem_append.1 h with h | h
  · exact .inl (List.mem_of_mem_take h)
  · rcases List.mem_append.1 h with h | h
    · exact .inr h
    · exact .inl (List.mem_of_mem_drop h)
theorem take_splice {α : Type} (L X : List α) (o N : Nat) (h : o + X.length ≤ N) (hN : N ≤ L.length) : (L.take o ++ X ++ L.drop (o + X.length)).take N = splice (L.take N) o X := by
  have h1 : (L.take o ++ X).length = o + X.length := by rw [List.length_append, List.length_take]; omega
  rw [List.take_append, List.take_of_length_le (by rw [h1]; exact h), h1]
  unfold splice
  rw [List.take_take, Nat.min_eq_left (by omega), List.drop_take, List.append_assoc]
theorem ucl_one (l : List Nat) : ∀ u ∈ fc ucl l, u.oneCell' = true := fun u hu => by
  obtain ⟨r, _, hr⟩ := List.mem_flatMap.1 hu
  obtain rfl := List.mem_singleton.1 hr
  rfl
/-- bytes stored into a row -/
theorem store_b {w : World} {g N cb : Nat} {B xs : List Nat} (h : SB w (.slice (some ⟨g, 0, none⟩) N cb) B) {o : Nat} (ho : o + xs.length ≤ N) :
    ∃ w', (storeCells ⟨g, o, none⟩ (fc ucl xs)).run Try.prog w = .ok () w' ∧ SB w' (.slice (some ⟨g, 0, none⟩) N cb) (splice B o xs) ∧ Chg [g] w w' := by
  have hN := slen_eq h
  subst hN
  obtain ⟨hl, ⟨e1, _⟩ | ⟨g', off', cap, cur, e1, hb, hnc, hcm, hs, ht⟩⟩ := h
  · cases e1
  injection e1 with e1 _ e3
  injection e1 with e1
  injection e1 with e1 e2
  subst e1; subst e2; subst e3
  have hx : (fc ucl xs).length = xs.length := by rw [fc_length ucl_len]; omega
  rw [Nat.mul_one] at hs ht
  have hst := run_storeCells_at Try.prog g o 5 (fc ucl xs) 0 cur w hb (by rw [hx]; omega) (ucl_one xs)
  rw [Nat.add_zero] at hst
  refine ⟨_, hst, ?_, (Chg.refl _ w).setRow (.inl (by simp)) _⟩
  have hcl : cur.toList.length = cur.size := by simp
  rw [Nat.mul_one] at hl
  refine ⟨by rw [fc_splice B o xs ho, length_splice _ _ _ (by rw [hl, hx]; exact ho), hl, splice_length B o xs ho]; omega, .inr ⟨g, 0, cb, _, ?_, setRow_heap w g cur _ 5 (0, 0) hb, by rw [splice_length B o xs ho]; exact hnc, hcm, ?_, ?_⟩⟩
  · rw [splice_length B o xs ho]
  · simp only [List.size_toArray, List.length_append, List.length_take, List.length_drop, hcl, hx]
    omega
  · rw [fc_splice B o xs ho, splice_length B o xs ho, ← ht]
    simp only [List.drop_zero, Nat.mul_one]
    exact take_splice cur.toList (fc ucl xs) o B.length (by rw [hx]; exact ho) (by rw [hcl]; omega)
/-- a part of a slice, as it reads -/
theorem sub_b {w : World} {g N cb : Nat} {B : List Nat} (h : SB w (.slice (some ⟨g, 0, none⟩) N cb) B) {o o' k cap : Nat} (ho : o + k ≤ N) (hk : k ≤ cap) (h0 : 0 < k → o' = o) : RB w (.slice (some ⟨g, o', none⟩) k cap) ((B.drop o).take k) := by
  have hN := slen_eq h
  subst hN
  have hl : ((B.drop o).take k).length = k := by rw [List.length_take, List.length_drop]; omega
  refine ⟨by rw [fc_length ucl_len], some ⟨g, o', none⟩, cap, by rw [hl], by rw [hl]; exact hk, fun h1 => ⟨g, o', rfl, fun j u hu => ?_⟩⟩
  rw [hl] at h1
  obtain rfl := h0 h1
  have e1 := fc_drop ucl_len B o'
  have e2 := fc_take ucl_len (B.drop o') k
  rw [Nat.mul_one] at e1 e2
  rw [← e2, ← e1] at hu
  have hj : j < k := by
    have := (List.getElem?_eq_some_iff.1 hu).1
    rw [List.length_take] at this
    omega
  rw [List.getElem?_take_of_lt hj, List.getElem?_drop] at hu
  obtain ⟨_, A, c, e, _, hat⟩ := SE.re h
  obtain ⟨g', off', e', hc⟩ := hat (by omega)
  rw [e'] at e
  injection e with e _ _
  injection e with e
  injection e with ea eb
  subst ea; subst eb
  have := hc (o' + j) u hu
  rwa [Nat.zero_add] at this
theorem info5 : (Try.prog.info? 5).map (·.size) = some 1 := by kernel_rfl
/-- copy, into a part of a row -/
theorem run_copy_b {w : World} {g N cb : Nat} {B xs : List Nat} {y : Value} (h : SB w (.slice (some ⟨g, 0, none⟩) N cb) B) (hy : RB w y xs) {o o' k cap : Nat} (hk : xs.length = k) (ho : o + k ≤ N) (h0 : 0 < k → o' = o) (ty : TypeId) :
    ∃ w', (Builtin.copy_ #[27, 27] ty #[.slice (some ⟨g, o', none⟩) k cap, y]).run Try.prog w = .ok (.int .i64 k) w' ∧ SB w' (.slice (some ⟨g, 0, none⟩) N cb) (splice B o xs) ∧ Chg [g] w w' := by
  obtain ⟨A, c, rfl⟩ := RE.form hy
  rcases Nat.eq_zero_or_pos k with h1 | h1
  · obtain rfl : xs = [] := List.eq_nil_of_length_eq_zero (by omega)
    subst h1
    refine ⟨w, ?_, by rw [splice_nil]; exact h, Chg.refl _ _⟩
    exact run_copy_none (P := Try.prog) w 27 27 ty 5 _ _ _ _ _ _ Try.underlying27 info5 (by simp)
  · obtain rfl := h0 h1
    obtain ⟨w', hst, h2, h3⟩ := store_b h (o := o') (xs := xs) (by omega)
    obtain ⟨a0, rfl⟩ : ∃ a0, A = some a0 := by
      obtain ⟨g2, off2, e⟩ := RE.addr hy (by omega)
      exact ⟨_, e⟩
    have hl := run_loadCells_list (P := Try.prog) w a0 (fc ucl xs) (fun j u hu => by
      obtain ⟨_, A', c', e, _, hat⟩ := hy
      obtain ⟨g2, off2, e', hc⟩ := hat (by omega)
      rw [e'] at e
      injection e with e _ _
      injection e with e
      subst e
      rw [Addr.add_lit]
      exact hc j u hu)
    have hx : (fc ucl xs).length = k := by rw [fc_length ucl_len]; omega
    rw [hx] at hl
    refine ⟨w', ?_, h2, h3⟩
    have hmin : min xs.length k = k := by omega
    cases hq : Try.prog.info? 5 with
    | none => have := info5; rw [hq] at this; cases this
    | some i =>
      have hi : i.size = 1 := by have := info5; rw [hq] at this; simpa using this
      simp [Builtin.copy_, run_underlying Try.underlying27, Builtin.lenOf, Builtin.firstCells, sizeOf, typeInfo, hq, hi, hmin, hl, hst, goInt, hk]
theorem info5b : (Try.prog.info? 5).map (fun i => (i.zero, i.size, i.bytes)) = some (some (.int .u8 0), 1, 1) := by kernel_rfl
theorem wpList_append_b {ops : Array Oper} {rest : List Oper} {o : Oper} {a : Act} {w : World} {Q : Exit → Act → World → Prop} (hg : o.guard = none) (s x : Operand)
    (ho : o.op = .call { callee := .builtin .append, args := #[s, x], argTypes := #[27, 27] }) (v y : Value) (hs : a.eval s = v) (hx : a.eval x = y) {l m : List Nat} (hv : SB w v l) (hy : RB w y m) (hlen : l.length + m.length ≤ 1000000)
    (h : ∀ A n c w', Hid (n = (l ++ m).length) → SB w' (.slice A n c) (l ++ m) → Chg (own v) w w' → Grow w v (.slice A n c) → wpList Try.prog ops Q rest (a.put o.dst (.slice A n c)) w') :
    wpList Try.prog ops Q (o :: rest) a w := by
  obtain ⟨i5, hi, hz, hi1, hi2⟩ := info_parts info5b
  refine wpList_append_sl hg s x 27 ho 5 Try.underlying27 hi hz hi1 hi2 rfl hs hv hx hy (ucl_one m) (by unfold maxLen; omega) (by omega) fun v' w' h2 h3 h4 => ?_
  have h2' : SB w' v' (l ++ m) := by
    unfold SB SE
    rw [List.length_append, fc_append]
    exact h2
  obtain ⟨A, c, rfl⟩ := h2'.form
  exact h A _ c w' rfl h2' h3 (grow_of h4)
/-- a slice of bytes that is new -/
def NewB (w w' : World) (l : List Nat) (v : Value) : Prop := ∃ A c, v = .slice A l.length c ∧ SB w' (.slice A l.length c) l ∧ ∀ k ∈ own (.slice A l.length c), w.heap.size ≤ k
set_option maxHeartbeats 1000000 in
theorem cloneb_some {w : World} {a0 : Addr} {n c : Nat} {l : List Nat} (hl : RB w (.slice (some a0) n c) l) (hlen : l.length ≤ 1000000) : Calls Try.prog 40 #[.slice (some a0) n c] w fun e w' => (∃ v, e = .returned v ∧ NewB w w' l v) ∧ Chg [] w w' := by
  have hne : ∀ W : World, (binOp .eql 27 (.slice (some a0) n c) (.slice none 0 0)).run Try.prog W = .ok (.bool false) W := fun W => Lib.run_eql_slice_nil W 27 5 _ _ _ 0 0 Try.underlying27
  have h0 : SB (w.alloc (.cells #[] 5)) (.slice (some ⟨w.heap.size, 0, none⟩) 0 0) [] := Sl.made w 5 1 #[] 0 0 (Nat.le_refl _) (Nat.zero_le _) (Nat.le_refl _)
  have HL := hide (RE.stay hl ((Chg.refl [] w).alloc (.cells #[] 5)))
  have HLL := hide (show ([] : List Nat).length + l.length ≤ 1000000 by simpa using hlen)
  clear hl hlen
  go_enter Try.func40, Try.ntmps40
  go_wp2_with (at_builtin; refine wpList_append_b rfl _ _ rfl _ _ rfl rfl h0 HL.out HLL.out ?_; intro A2 n2 k2 w2 hn2 hv2 hc2 ho2)
  go_ret
  have e2 : n2 = l.length := by have := hn2.out; simpa using this
  subst e2
  rw [List.nil_append] at hv2
  refine ⟨⟨_, rfl, A2, k2, rfl, hv2, fun k hk => ?_⟩, ((Chg.refl [] w).alloc _).trans hc2 (fun k hk => .inr (by obtain rfl := own_one hk; omega))⟩
  rcases ho2 k hk with h | h
  · obtain rfl := own_one h; omega
  · simp at h; omega
set_option maxHeartbeats 1000000 in
theorem cloneb_none {w : World} {n c : Nat} : Calls Try.prog 40 #[.slice none n c] w fun e w' => e = .returned (.slice none 0 0) ∧ w = w' := by
  have hne : ∀ W : World, (binOp .eql 27 (.slice none n c) (.slice none 0 0)).run Try.prog W = .ok (.bool true) W := fun W => Lib.run_eql_slice_nil W 27 5 _ _ _ 0 0 Try.underlying27
  go_enter Try.func40, Try.ntmps40
  go_wp2_with fail
  go_ret
  exact ⟨rfl, rfl⟩
/-- the bytes of a part -/
def cut (B : List Nat) (f at_ k : Nat) : List Nat := (B.drop (f * 256 + at_)).take k
set_option maxRecDepth 20000 in
theorem part_rb {w : World} {a gb gm : Nat} {c : Cf} {n : Nat} {B : List Nat} {M : List Mk} (h : FM w a gb gm c n B M) {f at_ k : Nat} (hf : f < n) (hk : at_ + k ≤ 256) : RB w (paV gb f at_ k) (cut B f at_ k) := by
  obtain ⟨cb, _, _, hs⟩ := h.cb
  exact sub_b hs (by omega) (by omega) (fun h0 => by rw [if_neg (by omega)])
set_option maxRecDepth 20000 in
theorem cut_length {w : World} {a gb gm : Nat} {c : Cf} {n : Nat} {B : List Nat} {M : List Mk} (h : FM w a gb gm c n B M) {f at_ k : Nat} (hf : f < n) (hk : at_ + k ≤ 256) : (cut B f at_ k).length = k := by
  have := h.lb
  unfold cut
  rw [List.length_take, List.length_drop]
  omega
/-- what Read tells -/
def ReadR (w : World) (n : Nat) (B : List Nat) (f at_ k : Int) (e : Ending) (w' : World) : Prop :=
  ∃ v, e = .returned (.tuple #[v, .int .i64 (paE n f at_ k)]) ∧ ((paE n f at_ k ≠ 0 ∧ v = .slice none 0 0) ∨ (paE n f at_ k = 0 ∧ NewB w w' (cut B f.toNat at_.toNat k.toNat) v)) ∧ Chg [] w w'
set_option maxHeartbeats 1000000 in
theorem Read_any {w : World} {a gb gm : Nat} {c : Cf} {n : Nat} {B : List Nat} {M : List Mk} (h : FM w a gb gm c n B M) (f at_ k : Int) (hk : -9223372036854775808 ≤ k ∧ k ≤ 9223372036854775807) :
    Calls Try.prog 14 #[.pointer (some ⟨a, 0, none⟩), .int .i64 f, .int .i64 at_, .int .i64 k] w (ReadR w n B f at_ k) := by
  obtain ⟨x, hx⟩ : ∃ x, paE n f at_ k = x := ⟨_, rfl⟩
  unfold ReadR
  rw [hx]
  by_cases h0 : x = 0
  · subst h0
    obtain ⟨q1, q2, q3, q4, q5, q6⟩ := paE_ok hx
    obtain ⟨f', rfl⟩ : ∃ f' : Nat, f = f' := ⟨f.toNat, by omega⟩
    obtain ⟨t, rfl⟩ : ∃ t : Nat, at_ = t := ⟨at_.toNat, by omega⟩
    obtain ⟨m, rfl⟩ : ∃ m : Nat, k = m := ⟨k.toNat, by omega⟩
    have HP := hide (part_ok h (f := f') (at_ := t) (k := m) (by omega) (by omega))
    have hrb := part_rb h (f := f') (at_ := t) (k := m) (by omega) (by omega)
    obtain ⟨o', cp, e⟩ : ∃ o' cp, paV gb f' t m = .slice (some ⟨gb, o', none⟩) m cp := ⟨_, _, rfl⟩
    rw [e] at HP hrb
    have HC := hide (cloneb_some hrb (by rw [cut_length h (by omega) (by omega)]; omega))
    clear e hrb
    clear q1 q2 q3 q4 q5 q6 hx hk
    go_enter Try.func14, Try.ntmps14
    go_wp2_with fail
    refine HP.out.mono ?_
    rintro e w' ⟨rfl, rfl⟩
    go_wp2_with fail
    refine HC.out.mono ?_
    rintro e w' ⟨⟨v, rfl, hv⟩, hc⟩
    have HV := hide hv
    clear hv
    go_wp2_with fail
    go_ret2
    exact ⟨v, rfl, .inr ⟨trivial, HV.out⟩, hc⟩
  · have HP := hide (part_not h hx h0 hk)
    have h1 : (x == 0) = false := by simpa using h0
    clear hx hk
    go_enter Try.func14, Try.ntmps14
    go_wp2_with fail
    refine HP.out.mono ?_
    rintro e w' ⟨rfl, rfl⟩
    go_wp2_with fail
    refine cloneb_none.mono ?_
    rintro e w' ⟨rfl, rfl⟩
    go_wp2_with fail
    go_ret2
    exact ⟨_, rfl, .inl ⟨h0, rfl⟩, Chg.refl _ _⟩
end Go.Proofs.Ytblkfikcfgocgaa
