import Derived.Test.YtbmdcfeiecmlpaaDKpC
namespace Go.Proofs.Ytbmdcfeiecmlpaa
open Go Go.RowKit

/-! ## Plain -/
def obq (n j : Nat) : List Ob := (List.range j).map fun i : Nat => (((n + i : Nat) : Int), (0 : Int))
theorem obq_succ (n j : Nat) : obq n (j + 1) = obq n j ++ [(((n + j : Nat) : Int), 0)] := by simp [obq, List.range_succ]
theorem obq_length (n j : Nat) : (obq n j).length = j := by simp [obq]
theorem obq_get (n j i : Nat) (h : i < (obq n j).length) : (obq n j)[i].1 = ((n + i : Nat) : Int) := by simp [obq]
theorem obq_mem {n j : Nat} {o : Ob} (h : o ∈ obq n j) : (n : Int) ≤ o.1 ∧ o.1 < ((n + j : Nat) : Int) := by
  obtain ⟨i, hi, rfl⟩ := List.mem_map.1 h
  have : i < j := by simpa using hi
  simp; omega
theorem obq_nodup (n : Nat) : ∀ j : Nat, ((obq n j).map Prod.fst).Nodup
  | 0 => by simp [obq]
  | j + 1 => by
    rw [obq_succ, List.map_append]
    refine List.nodup_append.2 ⟨obq_nodup n j, by simp, fun a ha b hb => ?_⟩
    obtain ⟨o, ho, rfl⟩ := List.mem_map.1 ha
    have := (obq_mem ho).2
    have : b = ((n + j : Nat) : Int) := by simpa using hb
    omega
def fr (fs : List (List Ob)) (q : List Ob) : List Int := (dall fs q).map Prod.fst
/-- what is there: numbers below n, none twice; each full magazine has r that rise by one -/
structure Inv (r n : Nat) (fs : List (List Ob)) (q : List Ob) : Prop where
  nd : (fr fs q).Nodup
  rg : ∀ o ∈ dall fs q, 0 ≤ o.1 ∧ o.1 < (n : Int)
  ln : ∀ m ∈ fs, m.length = r
  up : ∀ m ∈ fs, ∀ (k : Nat) (h : k < m.length), m[k].1 = (m[0]'(by omega)).1 + k
  f : fs.length ≤ 64
theorem len_all {r : Nat} {fs : List (List Ob)} (q : List Ob) (h : ∀ m ∈ fs, m.length = r) : (dall fs q).length = q.length + fs.length * r := by
  unfold dall
  induction fs with
  | nil => simp
  | cons a l ih =>
    have e1 := h a (List.mem_cons_self ..)
    have e2 := ih (fun m hm => h m (List.mem_cons_of_mem _ hm))
    simp only [List.flatten_cons, List.length_append, List.length_cons, Nat.add_mul, Nat.one_mul] at e2 ⊢
    omega
theorem Inv.nil (r n : Nat) : Inv r n [] [] := ⟨by simp [fr, dall], by simp [dall], by simp, by simp, by simp⟩
theorem Inv.perm {r n : Nat} {fs fs' : List (List Ob)} {q q' : List Ob} (h : Inv r n fs q) (hp : (dall fs' q').Sublist (dall fs q) ∨ (dall fs' q').Perm (dall fs q)) (hf : ∀ m ∈ fs', m ∈ fs) (hl : fs'.length ≤ fs.length) : Inv r n fs' q' where
  nd := by
    rcases hp with hp | hp
    · exact (hp.map Prod.fst).nodup h.nd
    · exact ((hp.map Prod.fst).nodup_iff).2 h.nd
  rg := fun o ho => h.rg o (by
    rcases hp with hp | hp
    · exact hp.subset ho
    · exact hp.subset ho)
  ln := fun m hm => h.ln m (hf m hm)
  up := fun m hm => h.up m (hf m hm)
  f := Nat.le_trans hl h.f
theorem Inv.mono {r n n' : Nat} {fs : List (List Ob)} {q : List Ob} (h : Inv r n fs q) (hn : n ≤ n') : Inv r n' fs q := { h with rg := fun o ho => by have := h.rg o ho; omega }
theorem dall_snoc (fs : List (List Ob)) (m q : List Ob) : (dall (fs ++ [m]) q).Perm (m ++ dall fs q) := by
  unfold dall
  rw [List.flatten_append]
  simp only [List.flatten_cons, List.flatten_nil, List.append_nil]
  rw [← List.append_assoc]
  exact (List.perm_append_comm).append_right q
theorem fr_snoc (fs : List (List Ob)) (m q : List Ob) : (fr (fs ++ [m]) q).Perm (m.map Prod.fst ++ fr fs q) := by
  have := (dall_snoc fs m q).map Prod.fst
  rw [List.map_append] at this
  exact this
theorem Inv.notin {r n j : Nat} {fs : List (List Ob)} {q : List Ob} (h : Inv r n fs q) : (fr fs q ++ (obq n j).map Prod.fst).Nodup := by
  refine List.nodup_append.2 ⟨h.nd, obq_nodup n j, fun a ha b hb => ?_⟩
  obtain ⟨o, ho, rfl⟩ := List.mem_map.1 ha
  obtain ⟨o', ho', rfl⟩ := List.mem_map.1 hb
  have := (h.rg o ho).2
  have := (obq_mem ho').1
  omega
theorem Inv.put {r n : Nat} {fs : List (List Ob)} {q : List Ob} (h : Inv r n fs q) (hf : fs.length < 64) : Inv r (n + r) (fs ++ [obq n r]) q where
  nd := by
    rw [(fr_snoc fs (obq n r) q).nodup_iff, List.perm_append_comm.nodup_iff]
    exact h.notin
  rg := fun o ho => by
    rcases List.mem_append.1 ((dall_snoc fs (obq n r) q).subset ho) with h' | h'
    · have := obq_mem h'; omega
    · have := h.rg o h'; omega
  ln := fun m hm => by
    rcases List.mem_append.1 hm with h' | h'
    · exact h.ln m h'
    · obtain rfl := List.mem_singleton.1 h'; exact obq_length n r
  up := fun m hm => by
    rcases List.mem_append.1 hm with h' | h'
    · exact h.up m h'
    · obtain rfl := List.mem_singleton.1 h'
      intro k hk
      rw [obq_get, obq_get]
      omega
  f := by rw [List.length_append]; simp; omega
theorem dall_q (fs : List (List Ob)) (q : List Ob) (o : Ob) : dall fs (q ++ [o]) = dall fs q ++ [o] := by simp [dall]
theorem Inv.queue {r n : Nat} {fs : List (List Ob)} {q : List Ob} (h : Inv r n fs q) : Inv r (n + 1) fs (q ++ [((n : Int), 0)]) where
  nd := by
    have := h.notin (j := 1)
    simp only [obq, List.range_succ, List.range_zero, List.nil_append, List.map_cons, List.map_nil, Nat.add_zero] at this
    unfold fr
    rw [dall_q, List.map_append]
    exact this
  rg := fun o ho => by
    rw [dall_q] at ho
    rcases List.mem_append.1 ho with h' | h'
    · have := h.rg o h'; omega
    · obtain rfl := List.mem_singleton.1 h'; simp; omega
  ln := h.ln
  up := h.up
  f := h.f
theorem Inv.lt {r n : Nat} {fs : List (List Ob)} {q : List Ob} (h : Inv r n fs q) : ∀ x ∈ fr fs q, x < (n : Int) := fun x hx => by
  obtain ⟨o, ho, rfl⟩ := List.mem_map.1 hx
  exact (h.rg o ho).2
theorem lt_push {n j : Nat} {L : List Int} (h : ∀ x ∈ L, x < (n : Int)) : ∀ x ∈ L, x < ((n + j : Nat) : Int) := fun x hx => by have := h x hx; omega
theorem fr_drain (fs : List (List Ob)) (q : List Ob) (k : Nat) : (fr fs q).Perm ((q.take k).map Prod.fst ++ fr fs (q.drop k)) := by
  unfold fr dall
  have e : q = q.take k ++ q.drop k := (List.take_append_drop k q).symm
  rw [← List.map_append]
  refine List.Perm.map _ ?_
  have h1 : (fs.flatten ++ q).Perm (fs.flatten ++ (q.take k ++ q.drop k)) := by rw [List.take_append_drop]
  refine h1.trans ?_
  rw [← List.append_assoc, ← List.append_assoc]
  exact (List.perm_append_comm).append_right _
theorem Inv.drain {r n : Nat} {fs : List (List Ob)} {q : List Ob} (h : Inv r n fs q) (k : Nat) : Inv r n fs (q.drop k) :=
  h.perm (.inl ((List.Sublist.refl _).append (List.drop_sublist k q))) (fun _ hm => hm) (Nat.le_refl _)
theorem Inv.pop {r n : Nat} {fs : List (List Ob)} {m q : List Ob} (h : Inv r n (fs ++ [m]) q) : Inv r n fs q :=
  h.perm (.inl (by
    unfold dall
    rw [List.flatten_append]
    exact (List.sublist_append_left _ _).append (List.Sublist.refl q))) (fun _ hm => List.mem_append_left _ hm) (by simp)
theorem fr_len {fs : List (List Ob)} {q : List Ob} : (fr fs q).length = (dall fs q).length := by simp [fr]
theorem drainN_le (x : Int) (n : Nat) : drainN x n ≤ n := by unfold drainN; split <;> omega
theorem drainN_max (x : Int) (n : Nat) : (drainN x n : Int) ≤ max x 0 := by unfold drainN; split <;> omega
end Go.Proofs.Ytbmdcfeiecmlpaa
