import Derived.Test.YtmgjknlpcnakiaaArA
namespace Go.Proofs.Ytmgjknlpcnakiaa

/-! ## How many of a range are mapped -/
def ovl (page count : Int) (r : Rn) : Int := max 0 (min r.e (page + count) - max r.p page)
def cntL (l : List Rn) (page count : Int) : Int := (l.map (ovl page count)).sum
/-- as many of the pages from page on, n of them, have f -/
def cntP (f : Int → Bool) (page : Int) : Nat → Nat
  | 0 => 0
  | n + 1 => cntP f page n + if f (page + n) then 1 else 0
theorem cntP_le (f : Int → Bool) (page : Int) (n : Nat) : cntP f page n ≤ n := by
  induction n with
  | zero => exact Nat.le_refl _
  | succ n ih => unfold cntP; split <;> omega
theorem cntP_or {f g h : Int → Bool} (hf : ∀ q, h q = (f q || g q)) (hx : ∀ q, f q = true → g q = false) (page : Int) (n : Nat) : cntP h page n = cntP f page n + cntP g page n := by
  induction n with
  | zero => rfl
  | succ n ih =>
    unfold cntP
    rw [ih, hf]
    have := hx (page + n)
    cases e : f (page + n)
    · cases g (page + n) <;> simp <;> omega
    · rw [this e]; simp; omega
theorem cntP_in (a b page : Int) (n : Nat) : (cntP (fun q => decide (a ≤ q ∧ q < b)) page n : Int) = max 0 (min b (page + n) - max a page) := by
  induction n with
  | zero => simp [cntP]; omega
  | succ n ih =>
    unfold cntP
    by_cases h : a ≤ page + n ∧ page + n < b
    · rw [if_pos (by simpa using h)]; omega
    · rw [if_neg (by simpa using h)]; omega
theorem cntP_pos {f : Int → Bool} {page : Int} {n : Nat} : 0 < cntP f page n ↔ ∃ q, page ≤ q ∧ q < page + n ∧ f q = true := by
  induction n with
  | zero => exact ⟨fun h => by simp [cntP] at h, fun ⟨q, h1, h2, _⟩ => by simp at h2; omega⟩
  | succ n ih =>
    unfold cntP
    cases e : f (page + n)
    · rw [if_neg (by simp), Nat.add_zero, ih]
      constructor
      · rintro ⟨q, h1, h2, h3⟩; exact ⟨q, h1, by omega, h3⟩
      · rintro ⟨q, h1, h2, h3⟩
        refine ⟨q, h1, Classical.byContradiction fun h => ?_, h3⟩
        obtain rfl : q = page + n := by omega
        rw [e] at h3; cases h3
    · rw [if_pos rfl]
      exact ⟨fun _ => ⟨page + n, by omega, by omega, e⟩, fun _ => by omega⟩
theorem cntP_lt {f : Int → Bool} {page : Int} {n : Nat} : cntP f page n < n ↔ ∃ q, page ≤ q ∧ q < page + n ∧ f q = false := by
  induction n with
  | zero => exact ⟨fun h => by omega, fun ⟨q, h1, h2, _⟩ => by simp at h2; omega⟩
  | succ n ih =>
    unfold cntP
    cases e : f (page + n)
    · rw [if_neg (by simp), Nat.add_zero]
      exact ⟨fun _ => ⟨page + n, by omega, by omega, e⟩, fun _ => by have := cntP_le f page n; omega⟩
    · rw [if_pos rfl]
      constructor
      · intro h
        obtain ⟨q, h1, h2, h3⟩ := ih.1 (by omega)
        exact ⟨q, h1, by omega, h3⟩
      · rintro ⟨q, h1, h2, h3⟩
        have : ∃ q, page ≤ q ∧ q < page + n ∧ f q = false := by
          refine ⟨q, h1, Classical.byContradiction fun h => ?_, h3⟩
          obtain rfl : q = page + n := by omega
          rw [e] at h3; cases h3
        have := ih.2 this
        omega
theorem cntL_eq {lo g : Int} {l : List Rn} (h : Nm lo g l) (page : Int) (n : Nat) : cntL l page n = (cntP (fun q => decide (rt l q ≠ 0)) page n : Nat) := by
  induction l generalizing lo g with
  | nil =>
    have : cntP (fun q => decide (rt [] q ≠ 0)) page n = 0 := by
      induction n with
      | zero => rfl
      | succ n ih => unfold cntP; rw [ih]; simp [rt]
    rw [this]
    rfl
  | cons a l ih =>
    obtain ⟨h1, h2, h3, h4, h5⟩ := h
    have e := cntP_or (f := fun q => decide (a.p ≤ q ∧ q < a.e)) (g := fun q => decide (rt l q ≠ 0)) (h := fun q => decide (rt (a :: l) q ≠ 0)) (fun q => by
      show decide ((if a.p ≤ q ∧ q < a.e then a.g else rt l q) ≠ 0) = _
      by_cases hq : a.p ≤ q ∧ q < a.e
      · rw [if_pos hq]; simp [h3, hq]
      · rw [if_neg hq]
        have : decide (a.p ≤ q ∧ q < a.e) = false := decide_eq_false hq
        rw [this]; simp) (fun q hq => by
      have hq' : a.p ≤ q ∧ q < a.e := by simpa using hq
      have := rt_lo h5 hq'.2
      simp [this]) page n
    rw [e, Int.natCast_add, ← ih h5, cntP_in]
    rfl
theorem cnt_pos {l : List Rn} (h : Nm 0 0 l) {page count : Int} (hc : 0 ≤ count) : 0 < cntL l page count ↔ ∃ q, page ≤ q ∧ q < page + count ∧ rt l q ≠ 0 := by
  obtain ⟨n, rfl⟩ : ∃ n : Nat, count = n := ⟨count.toNat, by omega⟩
  rw [cntL_eq h]
  have := cntP_pos (f := fun q => decide (rt l q ≠ 0)) (page := page) (n := n)
  simp only [decide_eq_true_eq] at this
  rw [← this]
  omega
theorem cnt_lt {l : List Rn} (h : Nm 0 0 l) {page count : Int} (hc : 0 ≤ count) : cntL l page count < count ↔ ∃ q, page ≤ q ∧ q < page + count ∧ rt l q = 0 := by
  obtain ⟨n, rfl⟩ : ∃ n : Nat, count = n := ⟨count.toNat, by omega⟩
  rw [cntL_eq h]
  have := cntP_lt (f := fun q => decide (rt l q ≠ 0)) (page := page) (n := n)
  simp only [decide_eq_false_iff_not, Classical.not_not] at this
  rw [← this]
  omega
theorem cnt_le {l : List Rn} (h : Nm 0 0 l) {page count : Int} (hc : 0 ≤ count) : 0 ≤ cntL l page count ∧ cntL l page count ≤ count := by
  obtain ⟨n, rfl⟩ : ∃ n : Nat, count = n := ⟨count.toNat, by omega⟩
  rw [cntL_eq h]
  have := cntP_le (fun q => decide (rt l q ≠ 0)) page n
  omega

/-! ## A space -/
structure Sp (l : List Rn) : Prop where
  nm : Nm 0 0 l
  hi : ∀ q, 1024 ≤ q → rt l q = 0
  g : ∀ q, 0 ≤ rt l q ∧ rt l q ≤ 3
  len : l.length ≤ 32
theorem Sp.nil : Sp [] := ⟨trivial, fun _ _ => rfl, fun _ => by simp [rt], by simp⟩
theorem rt_mem {lo g : Int} {l : List Rn} (h : Nm lo g l) {r : Rn} (hr : r ∈ l) {q : Int} (h1 : r.p ≤ q) (h2 : q < r.e) : rt l q = r.g := by
  induction l generalizing lo g with
  | nil => cases hr
  | cons a l ih =>
    obtain ⟨n1, n2, n3, n4, n5⟩ := h
    unfold rt
    rcases List.mem_cons.1 hr with rfl | hr
    · rw [if_pos ⟨h1, h2⟩]
    · have h3 := ih n5 hr
      have hlo : ∀ {lo g : Int} {l : List Rn}, Nm lo g l → ∀ r ∈ l, lo ≤ r.p := fun {lo g l} => by
        induction l generalizing lo g with
        | nil => intro _ r hr; cases hr
        | cons b l ih =>
          intro h r hr
          obtain ⟨n1, n2, n3, n4, n5⟩ := h
          have eb : b.e = b.p + b.c := rfl
          rcases List.mem_cons.1 hr with rfl | hr
          · exact n1
          · have := ih n5 r hr; omega
      have := hlo n5 r hr
      rw [if_neg (by omega)]
      exact h3
theorem nm_mem {lo g : Int} {l : List Rn} (h : Nm lo g l) {r : Rn} (hr : r ∈ l) : lo ≤ r.p ∧ 1 ≤ r.c ∧ r.g ≠ 0 := by
  induction l generalizing lo g with
  | nil => cases hr
  | cons a l ih =>
    obtain ⟨n1, n2, n3, n4, n5⟩ := h
    have ea : a.e = a.p + a.c := rfl
    rcases List.mem_cons.1 hr with rfl | hr
    · exact ⟨n1, n2, n3⟩
    · have := ih n5 hr; exact ⟨by omega, this.2⟩
theorem Sp.mem {l : List Rn} (h : Sp l) {r : Rn} (hr : r ∈ l) : 0 ≤ r.p ∧ 1 ≤ r.c ∧ r.p + r.c ≤ 1024 ∧ 1 ≤ r.g ∧ r.g ≤ 3 := by
  obtain ⟨h1, h2, h3⟩ := nm_mem h.nm hr
  have er : r.e = r.p + r.c := rfl
  have h4 := rt_mem h.nm hr (q := r.p) (Int.le_refl _) (by omega)
  have h5 := rt_mem h.nm hr (q := r.e - 1) (by omega) (by omega)
  have h6 := h.g r.p
  refine ⟨h1, h2, Classical.byContradiction fun hn => ?_, by omega, by omega⟩
  have := h.hi (r.e - 1) (by omega)
  omega
def mayB (page count : Int) : Bool := decide (0 ≤ page ∧ 1 ≤ count ∧ count ≤ 1024 ∧ page ≤ 1024 - count)
def rgB (g : Int) : Bool := decide (1 ≤ g ∧ g ≤ 3)
/-- are the new runs kept? -/
def setE (m : List Rn) : Int := if 32 < m.length then 9 else 0
def setR (l m : List Rn) : List Rn := if 32 < m.length then l else m
def mapE (l : List Rn) (page count g : Int) : Int :=
  if mayB page count = false ∨ rgB g = false then 2 else if 0 < cntL l page count then 8 else setE (withL l page count g)
def mapR (l : List Rn) (page count g : Int) : List Rn :=
  if mayB page count = false ∨ rgB g = false then l else if 0 < cntL l page count then l else setR l (withL l page count g)
def unE (l : List Rn) (page count : Int) : Int := if mayB page count = false then 2 else setE (withL l page count 0)
def unR (l : List Rn) (page count : Int) : List Rn := if mayB page count = false then l else setR l (withL l page count 0)
def mdE (l : List Rn) (page count : Int) : Int := if mayB page count = false then 2 else if cntL l page count < count then 7 else 0
def prE (l : List Rn) (page count g : Int) : Int := if rgB g = false then 2 else if mdE l page count ≠ 0 then mdE l page count else setE (withL l page count g)
def prR (l : List Rn) (page count g : Int) : List Rn := if rgB g = false then l else if mdE l page count ≠ 0 then l else setR l (withL l page count g)
theorem Sp.with_ {l : List Rn} (h : Sp l) {page count g : Int} (hm : mayB page count = true) (hg : 0 ≤ g ∧ g ≤ 3) (hl : (withL l page count g).length ≤ 32) : Sp (withL l page count g) := by
  have hm' : 0 ≤ page ∧ 1 ≤ count ∧ count ≤ 1024 ∧ page ≤ 1024 - count := by simpa [mayB] using hm
  obtain ⟨w1, w2⟩ := with_spec (g := g) h.nm hm'.1 hm'.2.1
  refine ⟨w1, fun q hq => ?_, fun q => ?_, hl⟩
  · rw [w2, if_neg (by omega)]; exact h.hi q hq
  · rw [w2]
    split
    · exact hg
    · exact h.g q
theorem Sp.set {l : List Rn} (h : Sp l) {page count g : Int} (hm : mayB page count = true) (hg : 0 ≤ g ∧ g ≤ 3) : Sp (setR l (withL l page count g)) := by
  unfold setR
  split
  · exact h
  · exact h.with_ hm hg (by omega)
theorem Sp.map {l : List Rn} (h : Sp l) (page count g : Int) : Sp (mapR l page count g) := by
  unfold mapR
  split
  · exact h
  · rename_i hc
    split
    · exact h
    · have hg : 1 ≤ g ∧ g ≤ 3 := by simpa [rgB] using fun e => hc (.inr e)
      exact h.set (by simpa using fun e => hc (.inl e)) (by omega)
theorem Sp.un {l : List Rn} (h : Sp l) (page count : Int) : Sp (unR l page count) := by
  unfold unR
  split
  · exact h
  · rename_i hc; exact h.set (by simpa using hc) (by omega)
theorem mdE_may {l : List Rn} {page count : Int} (h : mdE l page count = 0) : mayB page count = true := by
  unfold mdE at h
  split at h
  · omega
  · rename_i hc; simpa using hc
theorem Sp.pr {l : List Rn} (h : Sp l) (page count g : Int) : Sp (prR l page count g) := by
  unfold prR
  split
  · exact h
  · rename_i hc
    split
    · exact h
    · rename_i hd
      have hg : 1 ≤ g ∧ g ≤ 3 := by simpa [rgB] using hc
      exact h.set (mdE_may (Classical.not_not.1 hd)) (by omega)
end Go.Proofs.Ytmgjknlpcnakiaa
