/- Runs of pages, plain. -/
import Derived.WalkKit
namespace Go.Proofs.Ytmgjknlpcnakiaa

/-- a run: its first page, how many, its rights -/
structure Rn where
  p : Int
  c : Int
  g : Int
deriving DecidableEq
abbrev Rn.e (r : Rn) : Int := r.p + r.c
/-- the rights of a page: 0: none -/
def rt : List Rn → Int → Int
  | [], _ => 0
  | r :: l, q => if r.p ≤ q ∧ q < r.e then r.g else rt l q
/-- runs that rise from lo on; the one that meets lo has not the rights g -/
def Nm (lo g : Int) : List Rn → Prop
  | [] => True
  | r :: l => lo ≤ r.p ∧ 1 ≤ r.c ∧ r.g ≠ 0 ∧ (r.p = lo → r.g ≠ g) ∧ Nm r.e r.g l
def fin (lo g : Int) : List Rn → Int × Int
  | [] => (lo, g)
  | r :: l => fin r.e r.g l
theorem fin_snoc (lo g : Int) (l : List Rn) (r : Rn) : fin lo g (l ++ [r]) = (r.e, r.g) := by
  induction l generalizing lo g with
  | nil => rfl
  | cons a l ih => exact ih _ _
theorem nm_snoc (lo g : Int) (l : List Rn) (r : Rn) : Nm lo g (l ++ [r]) ↔ Nm lo g l ∧ (fin lo g l).1 ≤ r.p ∧ 1 ≤ r.c ∧ r.g ≠ 0 ∧ (r.p = (fin lo g l).1 → r.g ≠ (fin lo g l).2) := by
  induction l generalizing lo g with
  | nil => simp [Nm, fin]
  | cons a l ih =>
    simp only [List.cons_append, Nm, ih, fin]
    constructor
    · rintro ⟨h1, h2, h3, h4, h5, h6⟩; exact ⟨⟨h1, h2, h3, h4, h5⟩, h6⟩
    · rintro ⟨⟨h1, h2, h3, h4, h5⟩, h6⟩; exact ⟨h1, h2, h3, h4, h5, h6⟩
theorem fin_lo {lo g : Int} {l : List Rn} (h : Nm lo g l) : lo ≤ (fin lo g l).1 := by
  induction l generalizing lo g with
  | nil => exact Int.le_refl _
  | cons a l ih =>
    obtain ⟨h1, h2, h3, h4, h5⟩ := h
    have h6 := ih h5
    have e : a.e = a.p + a.c := rfl
    show lo ≤ (fin a.e a.g l).1
    rw [e] at h6 ⊢
    omega
theorem rt_lo {lo g : Int} {l : List Rn} (h : Nm lo g l) {q : Int} (hq : q < lo) : rt l q = 0 := by
  induction l generalizing lo g with
  | nil => rfl
  | cons a l ih =>
    obtain ⟨h1, h2, h3, h4, h5⟩ := h
    unfold rt
    rw [if_neg (by omega)]
    exact ih h5 (by have e : a.e = a.p + a.c := rfl; omega)
theorem rt_hi {lo g : Int} {l : List Rn} (h : Nm lo g l) {q : Int} (hq : (fin lo g l).1 ≤ q) : rt l q = 0 := by
  induction l generalizing lo g with
  | nil => rfl
  | cons a l ih =>
    obtain ⟨h1, h2, h3, h4, h5⟩ := h
    have h6 := fin_lo h5
    have h7 : (fin a.e a.g l).1 ≤ q := hq
    unfold rt
    rw [if_neg (by omega)]
    exact ih h5 hq
theorem rt_snoc {lo g : Int} {l : List Rn} {r : Rn} (h : Nm lo g (l ++ [r])) (q : Int) : rt (l ++ [r]) q = if r.p ≤ q ∧ q < r.e then r.g else rt l q := by
  induction l generalizing lo g with
  | nil => rfl
  | cons a l ih =>
    obtain ⟨h1, h2, h3, h4, h5⟩ := h
    have h6 := ((nm_snoc _ _ _ _).1 h5)
    have h7 := fin_lo h6.1
    have e : a.e = a.p + a.c := rfl
    show (if a.p ≤ q ∧ q < a.e then a.g else rt (l ++ [r]) q) = if r.p ≤ q ∧ q < r.e then r.g else (if a.p ≤ q ∧ q < a.e then a.g else rt l q)
    rw [ih h5]
    by_cases hr : r.p ≤ q ∧ q < r.e
    · rw [if_pos hr, if_pos hr, if_neg (by omega)]
    · rw [if_neg hr, if_neg hr]
/-- the runs are told by the rights -/
theorem nm_ext {lo g : Int} {l m : List Rn} (hl : Nm lo g l) (hm : Nm lo g m) (h : ∀ q, rt l q = rt m q) : l = m := by
  induction l generalizing lo g m with
  | nil =>
    cases m with
    | nil => rfl
    | cons b m =>
      obtain ⟨h1, h2, h3, h4, h5⟩ := hm
      have := h b.p
      simp only [rt] at this
      rw [if_pos ⟨Int.le_refl _, by have e : b.e = b.p + b.c := rfl; omega⟩] at this
      exact absurd this.symm h3
  | cons a l ih =>
    cases m with
    | nil =>
      obtain ⟨h1, h2, h3, h4, h5⟩ := hl
      have := h a.p
      simp only [rt] at this
      rw [if_pos ⟨Int.le_refl _, by have e : a.e = a.p + a.c := rfl; omega⟩] at this
      exact absurd this h3
    | cons b m =>
      obtain ⟨a1, a2, a3, a4, a5⟩ := hl
      obtain ⟨b1, b2, b3, b4, b5⟩ := hm
      have ea : a.e = a.p + a.c := rfl
      have eb : b.e = b.p + b.c := rfl
      have hp : a.p = b.p := by
        have ha := h a.p
        have hb := h b.p
        simp only [rt] at ha hb
        rw [if_pos (by omega)] at ha
        rw [if_pos (c := b.p ≤ b.p ∧ b.p < b.e) (by omega)] at hb
        refine Classical.byContradiction fun hne => ?_
        by_cases hlt : a.p < b.p
        · rw [if_neg (by omega), rt_lo b5 (by omega)] at ha
          exact a3 ha
        · rw [if_neg (by omega), rt_lo a5 (by omega)] at hb
          exact b3 hb.symm
      have hg : a.g = b.g := by
        have ha := h a.p
        simp only [rt] at ha
        rw [if_pos (by omega), if_pos (by omega)] at ha
        exact ha
      have first : ∀ {lo g : Int} {l : List Rn}, Nm lo g l → rt l lo ≠ g ∨ g = 0 := fun {lo g l} hn => by
        cases l with
        | nil =>
          by_cases e : g = 0
          · exact .inr e
          · exact .inl fun h => e h.symm
        | cons c l =>
          obtain ⟨c1, c2, c3, c4, c5⟩ := hn
          have ec : c.e = c.p + c.c := rfl
          by_cases e : c.p = lo
          · refine .inl ?_
            simp only [rt]
            rw [if_pos (by omega)]
            exact c4 e
          · by_cases e2 : g = 0
            · exact .inr e2
            · refine .inl ?_
              simp only [rt]
              rw [if_neg (by omega), rt_lo c5 (by omega)]
              exact fun h => e2 h.symm
      have he : a.c = b.c := by
        refine Classical.byContradiction fun hne => ?_
        by_cases hlt : a.e < b.e
        · have ha := h a.e
          simp only [rt] at ha
          rw [if_neg (by omega), if_pos (by omega)] at ha
          rcases first a5 with hf | hf
          · exact hf (by rw [ha, hg])
          · exact a3 hf
        · have ha := h b.e
          simp only [rt] at ha
          rw [if_pos (by omega), if_neg (by omega)] at ha
          rcases first b5 with hf | hf
          · exact hf (by rw [← ha, hg])
          · exact b3 hf
      have hab : a = b := by
        cases a; cases b
        simp only at hp hg he
        subst hp; subst hg; subst he
        rfl
      subst hab
      refine congrArg _ (ih a5 b5 fun q => ?_)
      have hq := h q
      simp only [rt] at hq
      by_cases hc : a.p ≤ q ∧ q < a.e
      · rw [rt_lo a5 hc.2, rt_lo b5 hc.2]
      · rwa [if_neg hc, if_neg hc] at hq

/-- a run is put behind others -/
def putL (l : List Rn) (r : Rn) : List Rn :=
  if r.c < 1 ∨ r.g = 0 then l else
  match l.getLast? with
  | none => l ++ [r]
  | some x => if x.e = r.p ∧ x.g = r.g then l.dropLast ++ [⟨x.p, x.c + r.c, x.g⟩] else l ++ [r]
theorem putL_none {l : List Rn} {r : Rn} (h : r.c < 1 ∨ r.g = 0) : putL l r = l := if_pos h
theorem putL_nil {r : Rn} (h : ¬ (r.c < 1 ∨ r.g = 0)) : putL [] r = [r] := by simp [putL, h]
theorem putL_join {l : List Rn} {x r : Rn} (h : ¬ (r.c < 1 ∨ r.g = 0)) (hx : x.e = r.p ∧ x.g = r.g) : putL (l ++ [x]) r = l ++ [⟨x.p, x.c + r.c, x.g⟩] := by
  unfold putL
  rw [if_neg h]
  simp [hx]
theorem putL_snoc {l : List Rn} {x r : Rn} (h : ¬ (r.c < 1 ∨ r.g = 0)) (hx : ¬ (x.e = r.p ∧ x.g = r.g)) : putL (l ++ [x]) r = l ++ [x] ++ [r] := by
  unfold putL
  rw [if_neg h]
  simp only [List.getLast?_append, List.getLast?_singleton, Option.or_some, Option.some_or]
  rw [if_neg hx]
theorem putL_spec {l : List Rn} {r : Rn} (h : Nm 0 0 l) (hr : (fin 0 0 l).1 ≤ r.p) :
    Nm 0 0 (putL l r) ∧ (fin 0 0 (putL l r)).1 = (if r.c < 1 ∨ r.g = 0 then (fin 0 0 l).1 else r.e) ∧ ∀ q, rt (putL l r) q = if r.p ≤ q ∧ q < r.e then r.g else rt l q := by
  have er : r.e = r.p + r.c := rfl
  by_cases hc : r.c < 1 ∨ r.g = 0
  · rw [putL_none hc, if_pos hc]
    refine ⟨h, rfl, fun q => ?_⟩
    by_cases hq : r.p ≤ q ∧ q < r.e
    · rw [if_pos hq, rt_hi h (by omega)]
      omega
    · rw [if_neg hq]
  · rw [if_neg hc]
    rcases List.eq_nil_or_concat l with rfl | ⟨l', x, rfl⟩
    · rw [putL_nil hc]
      have hr' : (0 : Int) ≤ r.p := hr
      exact ⟨⟨hr', by omega, by omega, fun _ => by omega, trivial⟩, rfl, fun q => rfl⟩
    · rw [List.concat_eq_append] at h hr ⊢
      rw [fin_snoc] at hr
      have hx := (nm_snoc _ _ _ _).1 h
      have ex : x.e = x.p + x.c := rfl
      by_cases hj : x.e = r.p ∧ x.g = r.g
      · rw [putL_join hc hj]
        have e2 : (⟨x.p, x.c + r.c, x.g⟩ : Rn).e = r.e := by show x.p + (x.c + r.c) = r.p + r.c; omega
        have hn : Nm 0 0 (l' ++ [⟨x.p, x.c + r.c, x.g⟩]) := (nm_snoc _ _ _ _).2 ⟨hx.1, hx.2.1, by show 1 ≤ x.c + r.c; omega, hx.2.2.2.1, hx.2.2.2.2⟩
        refine ⟨hn, by rw [fin_snoc]; exact e2, fun q => ?_⟩
        rw [rt_snoc hn, rt_snoc h, e2]
        show (if x.p ≤ q ∧ q < r.e then x.g else rt l' q) = _
        by_cases h1 : r.p ≤ q ∧ q < r.e
        · rw [if_pos h1, if_pos (by omega)]; exact hj.2
        · rw [if_neg h1]
          by_cases h2 : x.p ≤ q ∧ q < x.e
          · rw [if_pos h2, if_pos (by omega)]
          · rw [if_neg h2, if_neg (by omega)]
      · rw [putL_snoc hc hj]
        have hn : Nm 0 0 (l' ++ [x] ++ [r]) := (nm_snoc _ _ _ _).2 ⟨h, by rw [fin_snoc]; exact hr, by omega, by omega, fun e => by
          rw [fin_snoc] at e ⊢
          exact fun e3 => hj ⟨e.symm, e3.symm⟩⟩
        exact ⟨hn, by rw [fin_snoc], fun q => rt_snoc hn q⟩

/-- one run of the old ones -/
def stepL (page count g : Int) (s : List Rn × Bool) (r : Rn) : List Rn × Bool :=
  let l1 := putL s.1 ⟨r.p, min r.e page - r.p, r.g⟩
  let s2 : List Rn × Bool := if page < r.e then (if s.2 then l1 else putL l1 ⟨page, count, g⟩, true) else (l1, s.2)
  (putL s2.1 ⟨max r.p (page + count), r.e - max r.p (page + count), r.g⟩, s2.2)
def endL (page count g : Int) (s : List Rn × Bool) : List Rn := if s.2 then s.1 else putL s.1 ⟨page, count, g⟩
def withL (l : List Rn) (page count g : Int) : List Rn := endL page count g (l.foldl (stepL page count g) ([], false))

/-- what is known behind some of the old runs -/
structure Wth (page count g : Int) (old : List Rn) (s : List Rn × Bool) : Prop where
  nm : Nm 0 0 s.1
  no : s.2 = false → (fin 0 0 old).1 ≤ page ∧ (fin 0 0 s.1).1 ≤ (fin 0 0 old).1 ∧ ∀ q, rt s.1 q = rt old q
  yes : s.2 = true → page < (fin 0 0 old).1 ∧ (fin 0 0 s.1).1 ≤ max (fin 0 0 old).1 (page + count) ∧ ∀ q, rt s.1 q = if page ≤ q ∧ q < page + count then g else rt old q
theorem wth_step {page count g : Int} (h0 : 0 ≤ page) (h1 : 1 ≤ count) {old : List Rn} {s : List Rn × Bool} (hs : Wth page count g old s) {r : Rn} (hr : Nm 0 0 (old ++ [r])) : Wth page count g (old ++ [r]) (stepL page count g s r) := by
  obtain ⟨l, d⟩ := s
  obtain ⟨hnm, hno, hyes⟩ := hs
  have hx := (nm_snoc _ _ _ _).1 hr
  obtain ⟨ho, hp, hc, hg, hm⟩ := hx
  have er : r.e = r.p + r.c := rfl
  have hrt := rt_snoc hr
  have hf : (fin 0 0 (old ++ [r])).1 = r.e := by rw [fin_snoc]
  have ho0 := fin_lo ho
  cases d with
  | true =>
    obtain ⟨y1, y2, y3⟩ := hyes rfl
    simp only at y1 y2 y3 hnm
    have e1 : putL l ⟨r.p, min r.e page - r.p, r.g⟩ = l := putL_none (.inl (by show min r.e page - r.p < 1; omega))
    have e2 : stepL page count g (l, true) r = (putL l ⟨max r.p (page + count), r.e - max r.p (page + count), r.g⟩, true) := by
      unfold stepL
      simp only [e1]
      rw [if_pos (by omega)]
      rfl
    rw [e2]
    obtain ⟨p1, p2, p3⟩ := putL_spec (r := ⟨max r.p (page + count), r.e - max r.p (page + count), r.g⟩) hnm (by show _ ≤ max r.p (page + count); omega)
    refine ⟨p1, fun h => by (cases h), fun _ => ⟨by rw [hf]; omega, ?_, fun q => ?_⟩⟩
    · rw [p2, hf]
      show (if (r.e - max r.p (page + count) < 1 ∨ r.g = 0) then _ else max r.p (page + count) + (r.e - max r.p (page + count))) ≤ _
      split <;> omega
    · rw [p3, y3, hrt]
      show (if max r.p (page + count) ≤ q ∧ q < max r.p (page + count) + (r.e - max r.p (page + count)) then r.g else _) = _
      by_cases a1 : page ≤ q ∧ q < page + count
      · rw [if_pos a1, if_pos a1, if_neg (by omega)]
      · rw [if_neg a1, if_neg a1]
        by_cases a2 : r.p ≤ q ∧ q < r.e
        · rw [if_pos a2, if_pos (by omega)]
        · rw [if_neg a2, if_neg (by omega)]
  | false =>
    obtain ⟨n1, n2, n3⟩ := hno rfl
    simp only at n1 n2 n3 hnm
    obtain ⟨p1, p2, p3⟩ := putL_spec (r := ⟨r.p, min r.e page - r.p, r.g⟩) hnm (by show _ ≤ r.p; omega)
    have p2' : (fin 0 0 (putL l ⟨r.p, min r.e page - r.p, r.g⟩)).1 ≤ min page r.e := by
      rw [p2]
      show (if (min r.e page - r.p < 1 ∨ r.g = 0) then _ else r.p + (min r.e page - r.p)) ≤ _
      split <;> omega
    have p3' : ∀ q, rt (putL l ⟨r.p, min r.e page - r.p, r.g⟩) q = if r.p ≤ q ∧ q < min r.e page then r.g else rt old q := fun q => by
      rw [p3, n3]
      show (if r.p ≤ q ∧ q < r.p + (min r.e page - r.p) then r.g else _) = _
      have : r.p + (min r.e page - r.p) = min r.e page := by omega
      rw [this]
    unfold stepL
    simp only
    generalize putL l ⟨r.p, min r.e page - r.p, r.g⟩ = l1 at p1 p2' p3' ⊢
    by_cases hb : page < r.e
    · rw [if_pos hb]
      simp only [Bool.false_eq_true, if_false]
      obtain ⟨q1, q2, q3⟩ := putL_spec (r := ⟨page, count, g⟩) p1 (by show _ ≤ page; omega)
      have q2' : (fin 0 0 (putL l1 ⟨page, count, g⟩)).1 ≤ page + count := by
        rw [q2]
        show (if (count < 1 ∨ g = 0) then _ else page + count) ≤ _
        split <;> omega
      have q3' : ∀ q, rt (putL l1 ⟨page, count, g⟩) q = if page ≤ q ∧ q < page + count then g else rt l1 q := q3
      generalize putL l1 ⟨page, count, g⟩ = l2 at q1 q2' q3' ⊢
      obtain ⟨s1, s2, s3⟩ := putL_spec (r := ⟨max r.p (page + count), r.e - max r.p (page + count), r.g⟩) q1 (by show _ ≤ max r.p (page + count); omega)
      refine ⟨s1, fun h => by (cases h), fun _ => ⟨by rw [hf]; omega, ?_, fun q => ?_⟩⟩
      · rw [s2, hf]
        show (if (r.e - max r.p (page + count) < 1 ∨ r.g = 0) then _ else max r.p (page + count) + (r.e - max r.p (page + count))) ≤ _
        split <;> omega
      · rw [s3, q3', p3', hrt]
        show (if max r.p (page + count) ≤ q ∧ q < max r.p (page + count) + (r.e - max r.p (page + count)) then r.g else _) = _
        by_cases a1 : page ≤ q ∧ q < page + count
        · rw [if_pos a1, if_pos a1, if_neg (by omega)]
        · rw [if_neg a1, if_neg a1]
          by_cases a2 : r.p ≤ q ∧ q < r.e
          · rw [if_pos a2]
            by_cases a3 : page + count ≤ q
            · rw [if_pos (by omega)]
            · rw [if_neg (by omega), if_pos (by omega)]
          · rw [if_neg a2, if_neg (by omega), if_neg (by omega)]
    · rw [if_neg hb]
      have e3 : putL l1 ⟨max r.p (page + count), r.e - max r.p (page + count), r.g⟩ = l1 := putL_none (.inl (by show r.e - max r.p (page + count) < 1; omega))
      simp only [e3]
      refine ⟨p1, fun _ => ⟨by rw [hf]; omega, by rw [hf]; simp only; omega, fun q => ?_⟩, fun h => by (cases h)⟩
      simp only
      rw [p3', hrt]
      by_cases a2 : r.p ≤ q ∧ q < r.e
      · rw [if_pos a2, if_pos (by omega)]
      · rw [if_neg a2, if_neg (by omega)]
theorem wth_fold {page count g : Int} (h0 : 0 ≤ page) (h1 : 1 ≤ count) : ∀ (l old : List Rn) (s : List Rn × Bool), Wth page count g old s → Nm 0 0 (old ++ l) → Wth page count g (old ++ l) (l.foldl (stepL page count g) s)
  | [], old, s, hs, _ => by simpa using hs
  | r :: l, old, s, hs, hn => by
    have e : old ++ r :: l = (old ++ [r]) ++ l := by simp
    rw [e] at hn ⊢
    have h3 : Nm 0 0 (old ++ [r]) := by
      have cut : ∀ (l m : List Rn) {lo g : Int}, Nm lo g (l ++ m) → Nm lo g l := fun l => by
        induction l with
        | nil => intro m lo g _; exact trivial
        | cons a l ih => intro m lo g h; exact ⟨h.1, h.2.1, h.2.2.1, h.2.2.2.1, ih m h.2.2.2.2⟩
      exact cut _ _ hn
    exact wth_fold h0 h1 l (old ++ [r]) _ (wth_step h0 h1 hs h3) hn
/-- THE LAW of 'with' -/
theorem with_spec {l : List Rn} {page count g : Int} (h : Nm 0 0 l) (h0 : 0 ≤ page) (h1 : 1 ≤ count) :
    Nm 0 0 (withL l page count g) ∧ ∀ q, rt (withL l page count g) q = if page ≤ q ∧ q < page + count then g else rt l q := by
  have hw := wth_fold (g := g) h0 h1 l [] ([], false) ⟨trivial, fun _ => ⟨h0, Int.le_refl _, fun _ => rfl⟩, fun h => by cases h⟩ (by simpa using h)
  rw [List.nil_append] at hw
  unfold withL endL
  generalize l.foldl (stepL page count g) ([], false) = s at hw ⊢
  obtain ⟨m, d⟩ := s
  obtain ⟨hnm, hno, hyes⟩ := hw
  cases d with
  | true =>
    obtain ⟨y1, y2, y3⟩ := hyes rfl
    exact ⟨hnm, y3⟩
  | false =>
    obtain ⟨n1, n2, n3⟩ := hno rfl
    obtain ⟨p1, p2, p3⟩ := putL_spec (r := ⟨page, count, g⟩) hnm (by show _ ≤ page; omega)
    exact ⟨p1, fun q => by rw [← n3]; exact p3 q⟩
end Go.Proofs.Ytmgjknlpcnakiaa
