import Derived.Test.YtbmdcfeiecmlpaaKepA
namespace Go.Proofs.Ytbmdcfeiecmlpaa
open Go Go.RowKit

/-! ## Plain -/
/-- what is there and what came out is what was put in; numbers are from 1 to n -/
structure Good (s : List Ob) (I O : List Int) (n : Nat) : Prop where
  perm : (s.map Prod.fst ++ O).Perm I
  num : ∀ x ∈ I, 1 ≤ x ∧ x ≤ (n : Int)
  len : I.length ≤ n
theorem Good.sum {s : List Ob} {I O : List Int} {n : Nat} (h : Good s I O n) : s.length + O.length = I.length := by have := h.perm.length_eq; simpa using this
theorem Good.nil : Good [] [] [] 0 := ⟨by simp, by simp, by simp⟩
theorem Good.up {s : List Ob} {I O : List Int} {n m : Nat} (h : Good s I O n) (hm : n ≤ m) : Good s I O m := ⟨h.perm, fun x hx => by have := h.num x hx; omega, by have := h.len; omega⟩
theorem Good.put {s : List Ob} {I O : List Int} {n : Nat} (h : Good s I O n) (y : Int) : Good (s ++ [((n : Int) + 1, y)]) (I ++ [(n : Int) + 1]) O (n + 1) := by
  refine ⟨?_, fun x hx => ?_, by have := h.len; simp; omega⟩
  · simp only [List.map_append, List.map_cons, List.map_nil, List.append_assoc]
    refine ((List.perm_append_left_iff _).2 List.perm_append_comm).trans ?_
    rw [← List.append_assoc]
    exact h.perm.append_right _
  · rcases List.mem_append.1 hx with hx | hx
    · have := h.num x hx; omega
    · obtain rfl := List.mem_singleton.1 hx; omega
theorem Good.get {s : List Ob} {o : Ob} {I O : List Int} {n : Nat} (h : Good (s ++ [o]) I O n) : Good s I (O ++ [o.1]) n := by
  refine ⟨?_, h.num, h.len⟩
  have := h.perm
  simp only [List.map_append, List.map_cons, List.map_nil, List.append_assoc] at this
  exact ((List.perm_append_left_iff _).2 List.perm_append_comm).trans this
def nums (n j : Nat) : List Int := (List.range j).map fun i : Nat => (n : Int) + (i : Int) + 1
def numo (n j : Nat) : List Ob := (nums n j).map fun x => (x, (0 : Int))
theorem nums_succ (n j : Nat) : nums n (j + 1) = nums n j ++ [(n : Int) + (j : Int) + 1] := by simp [nums, List.range_succ]
theorem numo_succ (n j : Nat) : numo n (j + 1) = numo n j ++ [((n : Int) + (j : Int) + 1, 0)] := by simp [numo, nums_succ]
theorem nums_length (n j : Nat) : (nums n j).length = j := by simp [nums]
theorem loadE_nil {r : Nat} {s l : List Ob} (h : loadE r s l = 0) : s = [] := by
  unfold loadE at h
  split at h
  · omega
  · split at h
    · omega
    · rename_i h2; exact Classical.byContradiction h2
theorem numo_length (n j : Nat) : (numo n j).length = j := by simp [numo, nums]
theorem Good.load {I O : List Int} {n : Nat} (h : Good [] I O n) (j : Nat) : Good (numo n j) (I ++ nums n j) O (n + j) := by
  refine ⟨?_, fun x hx => ?_, by have := h.len; rw [List.length_append, nums_length]; omega⟩
  · have e : (numo n j).map Prod.fst = nums n j := by simp [numo, Function.comp_def]
    rw [e]
    exact List.perm_append_comm.trans ((by simpa using h.perm : O.Perm I).append_right _)
  · rcases List.mem_append.1 hx with hx | hx
    · have := h.num x hx; omega
    · obtain ⟨i, hi, rfl⟩ := List.mem_map.1 hx
      have : i < j := by simpa using hi
      omega
theorem Good.take {s : List Ob} {I O : List Int} {n : Nat} (h : Good s I O n) (r : Nat) : Good (s.drop r) I (O ++ (s.take r).map Prod.fst) n := by
  refine ⟨?_, h.num, h.len⟩
  refine List.Perm.trans ?_ h.perm
  have e : s.map Prod.fst = (s.take r).map Prod.fst ++ (s.drop r).map Prod.fst := by rw [← List.map_append, List.take_append_drop]
  rw [e]
  refine ((List.perm_append_left_iff _).2 List.perm_append_comm).trans ?_
  rw [← List.append_assoc]
  exact List.perm_append_comm.append_right _

/-- the tally: of each number from 0 to n how often it is in A, less how often in B -/
def tally (n : Nat) (A B : List Int) : List Int := (List.range (n + 1)).map fun v : Nat => ((A.count (v : Int) : Nat) : Int) - ((B.count (v : Int) : Nat) : Int)
theorem tally_length (n : Nat) (A B : List Int) : (tally n A B).length = n + 1 := by simp [tally]
theorem tally_get (n : Nat) (A B : List Int) (m : Nat) (h : m < (tally n A B).length) : (tally n A B)[m] = ((A.count (m : Int) : Nat) : Int) - ((B.count (m : Int) : Nat) : Int) := by simp [tally]
theorem tally_addA (n : Nat) (A B : List Int) (m : Nat) (h : m < (tally n A B).length) (c : Int) (hc : (tally n A B)[m] = c) : (tally n A B).set m (c + 1) = tally n (A ++ [(m : Int)]) B := by
  rw [tally_get] at hc
  refine List.ext_getElem (by simp [tally_length]) fun i h1 h2 => ?_
  rw [List.getElem_set, tally_get, tally_get, List.count_append]
  by_cases e : m = i
  · subst e; simp; omega
  · rw [if_neg e]
    have : List.count (i : Int) [(m : Int)] = 0 := by rw [List.count_eq_zero]; simp; omega
    omega
theorem tally_addB (n : Nat) (A B : List Int) (m : Nat) (h : m < (tally n A B).length) (c : Int) (hc : (tally n A B)[m] = c) : (tally n A B).set m (c - 1) = tally n A (B ++ [(m : Int)]) := by
  rw [tally_get] at hc
  refine List.ext_getElem (by simp [tally_length]) fun i h1 h2 => ?_
  rw [List.getElem_set, tally_get, tally_get, List.count_append]
  by_cases e : m = i
  · subst e; simp; omega
  · rw [if_neg e]
    have : List.count (i : Int) [(m : Int)] = 0 := by rw [List.count_eq_zero]; simp; omega
    omega
theorem tally_perm {n : Nat} {A B : List Int} (h : B.Perm A) (m : Nat) (hm : m < (tally n A B).length) : (tally n A B)[m] = 0 := by rw [tally_get, h.count_eq]; omega
theorem tally_bd {n : Nat} {A B : List Int} (hA : A.length ≤ 10000) (hB : B.length ≤ 10000) (m : Nat) (hm : m < (tally n A B).length) : -10000 ≤ (tally n A B)[m] ∧ (tally n A B)[m] ≤ 10000 := by
  rw [tally_get]
  have h1 := List.count_le_length (l := A) (a := (m : Int))
  have h2 := List.count_le_length (l := B) (a := (m : Int))
  omega
theorem tally_made (n : Nat) : (madeCells (Value.int .i64 0).cells ((n + 1) * 1)).toList = ic (tally n [] []) := by
  have e : (Value.int .i64 0).cells = #[.int .i64 0] := rfl
  rw [e]
  refine List.ext_getElem? fun i => ?_
  unfold madeCells tally ic
  by_cases hi : i < n + 1
  · simp [hi, Nat.mod_one]
  · rw [List.getElem?_eq_none (by simp; omega), List.getElem?_eq_none (by simp; omega)]

/-! ## Appends over the state -/
section
variable {w W W' : World} {p r : Nat} {s : List Ob} {F : List Nat} {vi vo vx vm : Value} {I O X J : List Int} {M K : List Ob} {A : Option Addr} {c n : Nat} {ob : Obj}
theorem KS.pushI (h : KS w W p r s F (.slice A I.length c) I vo O vx X vm M) {A' : Option Addr} {c' : Nat} (hs : SI W' (.slice A' (I.length + J.length) c') (I ++ J)) (hc : Chg (own (.slice A I.length c)) W W')
    (ho : (Value.slice A' (I.length + J.length) c').ownBlock = (Value.slice A I.length c).ownBlock ∨ (Value.slice A' (I.length + J.length) c').ownBlock = some W.heap.size) : KS w W' p r s F (.slice A' (I ++ J).length c') (I ++ J) vo O vx X vm M := by
  rw [List.length_append]
  exact h.appI hs hc (grow_of ho)
theorem KS.pushO (h : KS w W p r s F vi I (.slice A O.length c) O vx X vm M) {A' : Option Addr} {c' : Nat} (hs : SI W' (.slice A' (O.length + J.length) c') (O ++ J)) (hc : Chg (own (.slice A O.length c)) W W')
    (ho : (Value.slice A' (O.length + J.length) c').ownBlock = (Value.slice A O.length c).ownBlock ∨ (Value.slice A' (O.length + J.length) c').ownBlock = some W.heap.size) : KS w W' p r s F vi I (.slice A' (O ++ J).length c') (O ++ J) vx X vm M := by
  rw [List.length_append]
  exact h.appO hs hc (grow_of ho)
theorem KS.pushX (h : KS w W p r s F vi I vo O (.slice A X.length c) X vm M) {A' : Option Addr} {c' : Nat} (hs : SI W' (.slice A' (X.length + J.length) c') (X ++ J)) (hc : Chg (own (.slice A X.length c)) W W')
    (ho : (Value.slice A' (X.length + J.length) c').ownBlock = (Value.slice A X.length c).ownBlock ∨ (Value.slice A' (X.length + J.length) c').ownBlock = some W.heap.size) : KS w W' p r s F vi I vo O (.slice A' (X ++ J).length c') (X ++ J) vm M := by
  rw [List.length_append]
  exact h.appX hs hc (grow_of ho)
theorem KS.pushM (h : KS w W p r s F vi I vo O vx X (.slice A M.length c) M) {A' : Option Addr} {c' : Nat} (hs : SO W' (.slice A' (M.length + K.length) c') (M ++ K)) (hc : Chg (own (.slice A M.length c)) W W')
    (ho : (Value.slice A' (M.length + K.length) c').ownBlock = (Value.slice A M.length c).ownBlock ∨ (Value.slice A' (M.length + K.length) c').ownBlock = some W.heap.size) : KS w W' p r s F vi I vo O vx X (.slice A' (M ++ K).length c') (M ++ K) := by
  rw [List.length_append]
  exact h.appM hs hc (grow_of ho)
end
/-! ## Contracts over the state -/
section
variable {w W : World} {p r : Nat} {s : List Ob} {F : List Nat} {vi vo vx vm : Value} {I O X : List Int} {M : List Ob}
theorem ks_put (h : KS w W p r s F vi I vo O vx X vm M) (x y : Int) (hl : s.length < 2 * r) : Calls Try.prog 24 #[.pointer (some ⟨p, 0, none⟩), .agg #[.int .i64 x, .int .i64 y]] W fun e w' => e = .returned (.bool true) ∧ ∃ F', KS w w' p r (s ++ [(x, y)]) F' vi I vo O vx X vm M := by
  refine (stk_put h.stk x y hl).mono ?_
  rintro e w' ⟨rfl, ⟨F', hp', hS⟩, hc⟩
  exact ⟨rfl, F', h.op hp' hS hc⟩
theorem ks_put_no (h : KS w W p r s F vi I vo O vx X vm M) (x y : Int) (hl : 2 * r ≤ s.length) : Calls Try.prog 24 #[.pointer (some ⟨p, 0, none⟩), .agg #[.int .i64 x, .int .i64 y]] W fun e w' => e = .returned (.bool false) ∧ KS w w' p r s F vi I vo O vx X vm M := by
  refine (stk_put_no h.stk x y hl).mono ?_
  rintro e w' ⟨rfl, hp', hc⟩
  exact ⟨rfl, h.op hp' (fun _ hk => .inl hk) hc⟩
theorem ks_get {x y : Int} (h : KS w W p r (s ++ [(x, y)]) F vi I vo O vx X vm M) : Calls Try.prog 25 #[.pointer (some ⟨p, 0, none⟩)] W fun e w' => e = .returned (.tuple #[.agg #[.int .i64 x, .int .i64 y], .bool true]) ∧ KS w w' p r s F vi I vo O vx X vm M := by
  refine (stk_get h.stk).mono ?_
  rintro e w' ⟨rfl, hp', hc⟩
  exact ⟨rfl, h.op hp' (fun _ hk => .inl hk) hc⟩
theorem ks_get_no (h : KS w W p r [] F vi I vo O vx X vm M) : Calls Try.prog 25 #[.pointer (some ⟨p, 0, none⟩)] W fun e w' => e = .returned (.tuple #[.agg #[.int .i64 0, .int .i64 0], .bool false]) ∧ KS w w' p r [] F vi I vo O vx X vm M := by
  refine (stk_get_no h.stk).mono ?_
  rintro e w' ⟨rfl, hp', hc⟩
  exact ⟨rfl, h.op hp' (fun _ hk => .inl hk) hc⟩
theorem ks_load (h : KS w W p r s F vi I vo O vx X vm M) {v : Value} {l : List Ob} (hl : RO W v l) (hlen : l.length ≤ 1000) (z : Int) (hz : loadE r s l = z) : Calls Try.prog 31 #[.pointer (some ⟨p, 0, none⟩), v] W fun e w' => e = .returned (.int .i64 z) ∧ ∃ F', KS w w' p r (if z = 0 then l else s) F' vi I vo O vx X vm M := by
  subst hz
  refine (stk_load h.stk hl hlen).mono ?_
  rintro e w' ⟨rfl, ⟨F', hp', hS⟩, hc⟩
  exact ⟨rfl, F', h.op hp' hS hc⟩
theorem ks_unload (h : KS w W p r s F vi I vo O vx X vm M) (hf : s.length = 2 * r) : Calls Try.prog 33 #[.pointer (some ⟨p, 0, none⟩)] W fun e w' => ∃ A c F', e = .returned (.tuple #[.slice A r c, .int .i64 0]) ∧ KS w w' p r (s.drop r) F' vi I vo O vx X (.slice A r c) (s.take r) := by
  refine (stk_unload h.stk hf).mono ?_
  rintro e w' ⟨⟨A, c, rfl, hs, ho, hp'⟩, hc⟩
  have h1 := (h.noM).op (F' := F.filter fun k => (Value.slice A r c).ownBlock != some k) hp' (fun k hk => .inl (List.mem_filter.1 hk).1) hc
  have hA : ∀ k ∈ own (Value.slice A r c), k ∈ F := fun k hk => (ho k (own_mem.1 hk)).1
  exact ⟨A, c, _, rfl, { h1 with sm := hs, im := fun k hk hk' => (h.ni k hk).2 (hA k hk'), om := fun k hk hk' => (h.no k hk).2 (hA k hk'), xm := fun k hk hk' => (h.nx k hk).2 (hA k hk'), nm := fun k hk => ⟨h.nF k (hA k hk), fun h' => by
    have := (List.mem_filter.1 h').2
    rw [own_mem.1 hk] at this
    simp at this⟩ }⟩
theorem ks_unload_no (h : KS w W p r s F vi I vo O vx X vm M) (hf : s.length < 2 * r) : Calls Try.prog 33 #[.pointer (some ⟨p, 0, none⟩)] W fun e w' => e = .returned (.tuple #[.slice none 0 0, .int .i64 80]) ∧ W = w' := stk_unload_no h.stk hf
theorem ks_all (h : KS w W p r s F vi I vo O vx X vm M) : Calls Try.prog 35 #[.pointer (some ⟨p, 0, none⟩)] W fun e w' => ∃ A c, e = .returned (.slice A s.length c) ∧ KS w w' p r s F vi I vo O vx X (.slice A s.length c) s := by
  refine (stk_all h.stk).mono ?_
  rintro e w' ⟨⟨A, c, rfl, hs, ho⟩, hc⟩
  exact ⟨A, c, rfl, h.newM hc hs (fun k hk => ho k (own_mem.1 hk))⟩
theorem ks_len (h : KS w W p r s F vi I vo O vx X vm M) : Calls Try.prog 26 #[.pointer (some ⟨p, 0, none⟩)] W fun e w' => e = .returned (.int .i64 s.length) ∧ KS w w' p r s F vi I vo O vx X vm M := by
  refine (stk_len h.stk).mono ?_
  rintro e w' ⟨rfl, hc⟩
  exact ⟨rfl, h.later hc⟩
theorem ks_rounds (h : KS w W p r s F vi I vo O vx X vm M) : Calls Try.prog 27 #[.pointer (some ⟨p, 0, none⟩)] W fun e w' => e = .returned (.int .i64 r) ∧ W = w' := stk_rounds h.stk
end
theorem ks_new (x : Int) (w : World) : Calls Try.prog 23 #[.int .i64 x] w fun e w' => ∃ p F, e = .returned (.pointer (some ⟨p, 0, none⟩)) ∧ KS w w' p (clamp x) [] F (.slice none 0 0) [] (.slice none 0 0) [] (.slice none 0 0) [] (.slice none 0 0) [] := by
  refine (stk_new x w).mono ?_
  rintro e w' ⟨rfl, hp, hc⟩
  have hno : ∀ k ∈ own (Value.slice none 0 0), w.heap.size ≤ k ∧ k ∉ [w.heap.size] := fun k hk => by simp [own, Value.ownBlock] at hk
  exact ⟨_, _, rfl, hp, fun k hk => by obtain rfl := List.mem_singleton.1 hk; exact Nat.le_refl _, hc, Sl.nil _ _ _, Sl.nil _ _ _, Sl.nil _ _ _, Sl.nil _ _ _, Dj.nil _, Dj.nil _, Dj.nil _, Dj.nil _, Dj.nil _, Dj.nil _, hno, hno, hno, hno⟩
end Go.Proofs.Ytbmdcfeiecmlpaa
