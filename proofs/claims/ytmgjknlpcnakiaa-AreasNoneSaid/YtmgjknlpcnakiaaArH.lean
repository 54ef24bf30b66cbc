import Derived.Test.YtmgjknlpcnakiaaArG
namespace Go.Proofs.Ytmgjknlpcnakiaa
open Go Go.RowKit

/-! ## With: what is put is small, plain -/
theorem nm_fin {lo g : Int} {l : List Rn} (h : Nm lo g l) {r : Rn} (hr : r ∈ l) : r.e ≤ (fin lo g l).1 := by
  induction l generalizing lo g with
  | nil => cases hr
  | cons a l ih =>
    obtain ⟨h1, h2, h3, h4, h5⟩ := h
    rcases List.mem_cons.1 hr with rfl | hr
    · exact fin_lo h5
    · exact ih h5 hr
theorem nm_len {lo g : Int} {l : List Rn} (h : Nm lo g l) : (l.length : Int) ≤ (fin lo g l).1 - lo := by
  induction l generalizing lo g with
  | nil => simp [fin]
  | cons a l ih =>
    obtain ⟨h1, h2, h3, h4, h5⟩ := h
    have := ih h5
    have e : a.e = a.p + a.c := rfl
    have e2 : (fin lo g (a :: l)).1 = (fin a.e a.g l).1 := rfl
    rw [e2, List.length_cons]
    omega
/-- runs in order, within the space -/
def Fit (l : List Rn) : Prop := Nm 0 0 l ∧ (fin 0 0 l).1 ≤ 2000
theorem Fit.ok {l : List Rn} (h : Fit l) : Okl l := fun r hr => by
  obtain ⟨h1, h2, h3⟩ := nm_mem h.1 hr
  have h4 := nm_fin h.1 hr
  have h5 := h.2
  have e : r.e = r.p + r.c := rfl
  exact ⟨by omega, by omega⟩
theorem Fit.get {l : List Rn} (h : Fit l) {k : Nat} (hk : k < l.length) : (0 ≤ l[k].p ∧ l[k].p ≤ 2000) ∧ 1 ≤ l[k].c ∧ l[k].c ≤ 2000 ∧ l[k].p + l[k].c ≤ 2000 := by
  have hr := List.getElem_mem hk
  obtain ⟨h1, h2, h3⟩ := nm_mem h.1 hr
  have h4 := nm_fin h.1 hr
  have h5 := h.2
  have e : l[k].e = l[k].p + l[k].c := rfl
  omega
theorem Fit.len {l : List Rn} (h : Fit l) : l.length ≤ 2000 := by have := nm_len h.1; have := h.2; omega
theorem Sp.fit {l : List Rn} (h : Sp l) : Fit l := by
  refine ⟨h.nm, ?_⟩
  rcases List.eq_nil_or_concat l with rfl | ⟨l', x, rfl⟩
  · simp [fin]
  · rw [List.concat_eq_append] at h ⊢
    rw [fin_snoc]
    have := h.mem (r := x) (by simp)
    have e : x.e = x.p + x.c := rfl
    show x.e ≤ 2000
    omega
theorem Fit.cut {l m : List Rn} (h : Fit (l ++ m)) : Fit l := by
  obtain ⟨h1, h2⟩ := h
  have cut : ∀ (l m : List Rn) {lo g : Int}, Nm lo g (l ++ m) → Nm lo g l ∧ (fin lo g l).1 ≤ (fin lo g (l ++ m)).1 := fun l => by
    induction l with
    | nil => intro m lo g h; exact ⟨trivial, fin_lo h⟩
    | cons a l ih => intro m lo g h; obtain ⟨x, y⟩ := ih m h.2.2.2.2; exact ⟨⟨h.1, h.2.1, h.2.2.1, h.2.2.2.1, x⟩, y⟩
  obtain ⟨x, y⟩ := cut _ _ h1
  exact ⟨x, by omega⟩
/-- the runs within a step -/
def st1 (page : Int) (s : List Rn × Bool) (r : Rn) : List Rn := putL s.1 ⟨r.p, min r.e page - r.p, r.g⟩
def st2 (page count g : Int) (s : List Rn × Bool) (r : Rn) : List Rn := if page < r.e then (if s.2 then st1 page s r else putL (st1 page s r) ⟨page, count, g⟩) else st1 page s r
def sd2 (page : Int) (s : List Rn × Bool) (r : Rn) : Bool := if page < r.e then true else s.2
theorem stepL_eq (page count g : Int) (s : List Rn × Bool) (r : Rn) : stepL page count g s r = (putL (st2 page count g s r) ⟨max r.p (page + count), r.e - max r.p (page + count), r.g⟩, sd2 page s r) := by
  unfold stepL st2 sd2 st1
  by_cases h : page < r.e
  · simp [h]
  · simp [h]
theorem step_fit {page count g : Int} (h0 : 0 ≤ page) (h1 : 1 ≤ count) (h2 : page + count ≤ 1024) {old : List Rn} {s : List Rn × Bool} (hs : Wth page count g old s) {r : Rn} (hr : Fit (old ++ [r])) : Fit s.1 ∧ Fit (st1 page s r) ∧ Fit (st2 page count g s r) := by
  obtain ⟨l, d⟩ := s
  obtain ⟨hnm, hno, hyes⟩ := hs
  obtain ⟨ho, hp, hc, hg, hm⟩ := (nm_snoc _ _ _ _).1 hr.1
  have hr2 := hr.2
  rw [fin_snoc] at hr2
  simp only at hr2
  have er : r.e = r.p + r.c := rfl
  cases d with
  | true =>
    obtain ⟨y1, y2, y3⟩ := hyes rfl
    simp only at y1 y2 y3 hnm
    have e1 : st1 page (l, true) r = l := putL_none (.inl (by show min r.e page - r.p < 1; omega))
    have e2 : st2 page count g (l, true) r = l := by unfold st2; rw [e1]; simp
    rw [e1, e2]
    have hf : Fit l := ⟨hnm, by omega⟩
    exact ⟨hf, hf, hf⟩
  | false =>
    obtain ⟨n1, n2, n3⟩ := hno rfl
    simp only at n1 n2 n3 hnm
    have hf : Fit l := ⟨hnm, by omega⟩
    obtain ⟨p1, p2, p3⟩ := putL_spec (r := ⟨r.p, min r.e page - r.p, r.g⟩) hnm (by show _ ≤ r.p; omega)
    have p2' : (fin 0 0 (st1 page (l, false) r)).1 ≤ min page r.e := by
      show (fin 0 0 (putL l ⟨r.p, min r.e page - r.p, r.g⟩)).1 ≤ _
      rw [p2]
      show (if (min r.e page - r.p < 1 ∨ r.g = 0) then _ else r.p + (min r.e page - r.p)) ≤ _
      split <;> omega
    have hf1 : Fit (st1 page (l, false) r) := ⟨p1, by omega⟩
    refine ⟨hf, hf1, ?_⟩
    unfold st2
    split
    · simp only [Bool.false_eq_true, if_false]
      obtain ⟨q1, q2, q3⟩ := putL_spec (r := ⟨page, count, g⟩) hf1.1 (by show _ ≤ page; omega)
      refine ⟨q1, ?_⟩
      rw [q2]
      show (if (count < 1 ∨ g = 0) then _ else page + count) ≤ _
      split <;> omega
    · exact hf1
theorem fold_take {page count g : Int} (h0 : 0 ≤ page) (h1 : 1 ≤ count) {l : List Rn} (hl : Fit l) (k : Nat) : Wth page count g (l.take k) ((l.take k).foldl (stepL page count g) ([], false)) := by
  have h := wth_fold (g := g) h0 h1 (l.take k) [] ([], false) ⟨trivial, fun _ => ⟨h0, Int.le_refl _, fun _ => rfl⟩, fun h => by cases h⟩ (by
    rw [List.nil_append]
    have : Fit (l.take k ++ l.drop k) := by rw [List.take_append_drop]; exact hl
    exact this.cut.1)
  simpa using h
theorem fold_fit {page count g : Int} (h0 : 0 ≤ page) (h1 : 1 ≤ count) (h2 : page + count ≤ 1024) {l : List Rn} (hl : Fit l) (k : Nat) : Fit ((l.take k).foldl (stepL page count g) ([], false)).1 := by
  obtain ⟨hnm, hno, hyes⟩ := fold_take (g := g) h0 h1 hl k
  have hc : Fit (l.take k) := by
    have : Fit (l.take k ++ l.drop k) := by rw [List.take_append_drop]; exact hl
    exact this.cut
  have := hc.2
  refine ⟨hnm, ?_⟩
  generalize (l.take k).foldl (stepL page count g) ([], false) = s at hno hyes ⊢
  cases e : s.2 with
  | true => have := (hyes e).2.1; omega
  | false => have := (hno e).2.1; omega
theorem fold_snoc {page count g : Int} {l : List Rn} {k : Nat} (hk : k < l.length) : (l.take (k + 1)).foldl (stepL page count g) ([], false) = stepL page count g ((l.take k).foldl (stepL page count g) ([], false)) l[k] := by
  rw [List.take_succ_eq_append_getElem hk, List.foldl_append]
  rfl
end Go.Proofs.Ytmgjknlpcnakiaa
