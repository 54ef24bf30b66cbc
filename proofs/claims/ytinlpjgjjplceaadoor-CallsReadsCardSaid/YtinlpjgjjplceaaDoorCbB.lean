/- The document's Of, May, Bytes, Read as plain laws: the same as the program's. -/
import Derived.Test.YtinlpjgjjplceaaDoorCbA
namespace Go.Proofs.YtinlpjgjjplceaaDoor
open Go Go.RowKit

/-! ## The document's answer -/
def zB (k : Nat) (l : List Nat) : Cl := { zCl with k := k, l := l }
def ofK (k : Nat) (L l : List Nat) : Cl :=
  match k, L with
  | 2, [p] => { zB 2 l with p := iw64 p }
  | 3, [p, g, c, r] => { zB 3 l with p := iw64 p, g := iw64 g, c := iw64 c, r := r % 256 }
  | 5, [p, g, c, r] => { zB 5 l with p := iw64 p, g := iw64 g, c := iw64 c, r := r % 256 }
  | 4, [p, g, c] => { zB 4 l with p := iw64 p, g := iw64 g, c := iw64 c }
  | 6, [p, g, c] => { zB 6 l with p := iw64 p, g := iw64 g, c := iw64 c }
  | 7, [p, g, c] => { zB 7 l with p := iw64 p, g := iw64 g, c := iw64 c }
  | 8, [p, a, s] => { zB 8 l with p := iw64 p, a := iw64 a, s := iw64 s }
  | 9, [p, a] => { zB 9 l with p := iw64 p, a := iw64 a }
  | 10, [s] => { zB 10 l with s := iw64 s }
  | 11, [h] => { zB 11 l with h := h }
  | 12, [h, a, s] => { zB 12 l with h := h, a := iw64 a, s := iw64 s }
  | 13, [h, a] => { zB 13 l with h := h, a := iw64 a }
  | 14, [p, ok, om] => { zB 14 l with p := iw64 p, ok := ok % 256, om := om % 256 }
  | 15, [p, g, c, ok, om] => { zB 15 l with p := iw64 p, g := iw64 g, c := iw64 c, ok := ok % 256, om := om % 256 }
  | 16, [p, g] => { zB 16 l with p := iw64 p, g := iw64 g }
  | 17, [p, g] => { zB 17 l with p := iw64 p, g := iw64 g }
  | 18, [p, g, c, n] => { zB 18 l with p := iw64 p, g := iw64 g, c := iw64 c, n := iw64 n }
  | 19, [n] => { zB 19 l with n := iw64 n }
  | 20, [n] => { zB 20 l with n := iw64 n }
  | k, _ => zB k l
def mayR (x : Cl) : Bool := isK x.k && decide (x.l.length ≤ 8) && (hasBy x.k || decide (x.l.length = 0)) && sameB (ofK x.k (refL x) x.l) x
/-- what is read is made of the kind's fields -/
theorem ofK_bare {x : Cl} (hx : x.Ok) (hb : hasBy x.k = true ∨ x.l = []) : ofK x.k (refL x) x.l = bareK x := by
  have h1 := iw_wd hx.p.1 hx.p.2
  have h2 := iw_wd hx.n.1 hx.n.2
  have h3 := iw_wd hx.g.1 hx.g.2
  have h4 := iw_wd hx.c.1 hx.c.2
  have h5 := iw_wd hx.a.1 hx.a.2
  have h6 := iw_wd hx.s.1 hx.s.2
  have h7 : x.r % 256 = x.r := Nat.mod_eq_of_lt hx.r
  have h8 : x.ok % 256 = x.ok := Nat.mod_eq_of_lt hx.ok
  have h9 : x.om % 256 = x.om := Nat.mod_eq_of_lt hx.om
  obtain ⟨k, p, n, g, c, a, s, r, ok, om, h, l⟩ := x
  simp only at h1 h2 h3 h4 h5 h6 h7 h8 h9 hb
  unfold refL bareK partC
  simp only
  by_cases hk : k < 22
  · rcases (by omega : k = 0 ∨ k = 1 ∨ k = 2 ∨ k = 3 ∨ k = 4 ∨ k = 5 ∨ k = 6 ∨ k = 7 ∨ k = 8 ∨ k = 9 ∨ k = 10 ∨ k = 11 ∨ k = 12 ∨ k = 13 ∨ k = 14 ∨ k = 15 ∨ k = 16 ∨ k = 17 ∨ k = 18 ∨ k = 19 ∨ k = 20 ∨ k = 21) with rfl | rfl | rfl | rfl | rfl | rfl | rfl | rfl | rfl | rfl | rfl | rfl | rfl | rfl | rfl | rfl | rfl | rfl | rfl | rfl | rfl | rfl
    all_goals
      simp [hasBy, fld] at hb
      try subst hb
      simp [fld, numsF, setF, ofK, zB, zCl, h1, h2, h3, h4, h5, h6, h7, h8, h9]
  · obtain ⟨j, rfl⟩ : ∃ j, k = j + 22 := ⟨k - 22, by omega⟩
    have e1 : fld (j + 22) = [] := rfl
    simp [hasBy, e1] at hb
    subst hb
    rw [e1]
    rfl
theorem bare_l (x : Cl) (h : hasBy x.k = false) : (bareK x).l = [] := by
  unfold bareK partC hasBy at *
  have : ∀ (F : List Nat) (y : Cl), F.contains 98 = false → y.l = [] → (F.foldl (setF x) y).l = [] := by
    intro F
    induction F with
    | nil => intro y _ h; exact h
    | cons f F ih =>
      intro y hF hy
      simp only [List.contains_cons, Bool.or_eq_false_iff, beq_eq_false_iff_ne] at hF
      refine ih _ hF.2 ?_
      rw [setF_l, if_neg (fun e => hF.1 e.symm)]
      exact hy
  exact this _ _ h rfl
theorem sameB_comm (x y : Cl) : sameB x y = sameB y x := by
  cases h : sameB x y with
  | true => obtain rfl := (sameB_iff _ _).1 h; exact h.symm
  | false =>
    cases h2 : sameB y x with
    | true => obtain rfl := (sameB_iff _ _).1 h2; rw [h] at h2; cases h2
    | false => rfl
theorem mayR_eq {x : Cl} (hx : x.Ok) : mayR x = mayK x := by
  unfold mayR mayK
  show (isK x.k && _ && _ && _) = (isK x.k && _ && _)
  by_cases hb : hasBy x.k = true ∨ x.l = []
  · rw [ofK_bare hx hb, sameB_comm]
    have e : (hasBy x.k || decide (x.l.length = 0)) = true := by
      rcases hb with h | h
      · rw [h]; rfl
      · rw [h]; simp
    rw [e, Bool.and_true]
    cases isK x.k <;> cases sameB x (bareK x) <;> simp
  · have hn : ¬ hasBy x.k = true := fun h => hb (.inl h)
    have hn' : hasBy x.k = false := by simpa using hn
    have hl : x.l ≠ [] := fun h => hb (.inr h)
    have e1 : decide (x.l.length = 0) = false := decide_eq_false (by intro e; exact hl (List.eq_nil_of_length_eq_zero e))
    have e2 : sameB x (bareK x) = false := by
      cases h : sameB x (bareK x) with
      | false => rfl
      | true => exact absurd (((sameB_iff _ _).1 h ▸ bare_l x hn' : x.l = [])) hl
    rw [hn', e1, e2]
    simp
/-- the form, by the document -/
def encR (x : Cl) : List Nat := le8 x.k ++ (refL x).flatMap le8 ++ (if hasBy x.k then le8 x.l.length ++ x.l else [])
theorem flat_enc {x : Cl} : ∀ F : List Nat, 98 ∉ F → F.flatMap (encF x) = (F.flatMap (numsF x)).flatMap le8
  | [], _ => rfl
  | f :: F, h => by
    have hf : f ≠ 98 := fun e => h (by rw [e]; exact List.mem_cons_self ..)
    have ih := flat_enc F (fun m => h (List.mem_cons_of_mem _ m)) (x := x)
    rw [List.flatMap_cons, List.flatMap_cons, List.flatMap_append, ih]
    unfold encF
    rw [if_neg hf]
theorem encR_eq (x : Cl) : encR x = encC x := by
  unfold encR encC refL
  cases hb : hasBy x.k with
  | false =>
    have : 98 ∉ fld x.k := by unfold hasBy at hb; simpa using hb
    rw [flat_enc _ this]
    simp
  | true =>
    have : x.k = 9 ∨ x.k = 13 := by
      by_cases hk : x.k < 22
      · have h : ∀ k : Fin 22, (fld k.val).contains 98 = true → k.val = 9 ∨ k.val = 13 := by decide
        exact h ⟨x.k, hk⟩ hb
      · unfold hasBy at hb
        rw [fld_big (by omega)] at hb
        cases hb
    rcases this with h | h <;> rw [h] <;> simp [fld, numsF, encF]
/-! ## The document's Read -/
theorem numB_at {n : Nat} (A T : List Nat) (hn : n < 18446744073709551616) : numB (A ++ (le8 n ++ T)) A.length = n := by
  unfold numB
  rw [List.drop_left' rfl, le8_tk, leN_le8 hn]
theorem flat8_len : ∀ L : List Nat, (L.flatMap le8).length = 8 * L.length := flat8
theorem numB_flat {L T : List Nat} {i : Nat} (h : i < L.length) (hL : ∀ n ∈ L, n < 18446744073709551616) : numB (L.flatMap le8 ++ T) (8 * i) = L[i] := by
  have e : L = L.take i ++ (L[i] :: L.drop (i + 1)) := by rw [← List.drop_eq_getElem_cons h, List.take_append_drop]
  have e2 : L.flatMap le8 ++ T = (L.take i).flatMap le8 ++ (le8 L[i] ++ ((L.drop (i + 1)).flatMap le8 ++ T)) := by
    conv => lhs; rw [e]
    rw [List.flatMap_append, List.flatMap_cons, List.append_assoc, List.append_assoc]
  have e3 : ((L.take i).flatMap le8).length = 8 * i := by rw [flat8, List.length_take, Nat.min_eq_left (Nat.le_of_lt h)]
  rw [e2, ← e3]
  exact numB_at _ _ (hL _ (List.getElem_mem h))
/-- how many numbers a kind has -/
def cntK (k : Nat) : Nat := (refL (zB k [])).length
theorem numsF_cnt (x y : Cl) (f : Nat) : (numsF x f).length = (numsF y f).length := by
  unfold numsF
  repeat' split
  all_goals rfl
theorem refL_len (x : Cl) : (refL x).length = cntK x.k := by
  unfold cntK refL
  show _ = ((fld x.k).flatMap (numsF (zB x.k []))).length
  induction fld x.k with
  | nil => rfl
  | cons f F ih => rw [List.flatMap_cons, List.flatMap_cons, List.length_append, List.length_append, ih, numsF_cnt x (zB x.k []) f]
theorem refL_lt {x : Cl} (hx : x.Ok) : ∀ n ∈ refL x, n < 18446744073709551616 := by
  intro n hn
  unfold refL at hn
  obtain ⟨f, _, hf⟩ := List.mem_flatMap.1 hn
  have hp := wd64_lt x.p
  have hg := wd64_lt x.g
  have hc := wd64_lt x.c
  have hn := wd64_lt x.n
  have ha := wd64_lt x.a
  have hs := wd64_lt x.s
  have hr := hx.r
  have hok := hx.ok
  have hom := hx.om
  have hh := hx.h
  unfold numsF at hf
  repeat' split at hf
  all_goals simp only [List.mem_cons, List.not_mem_nil, or_false] at hf
  all_goals first | omega | (rcases hf with rfl | rfl <;> omega)
def nums (B : List Nat) (n : Nat) : List Nat := (List.range n).map fun i => numB B (8 + 8 * i)
def textR (k : Nat) (B : List Nat) : List Nat := if hasBy k then B.drop (8 + 8 * cntK k + 8) else []
def rX (B : List Nat) : Cl := ofK (numB B 0) (nums B (cntK (numB B 0))) (textR (numB B 0) B)
def rokR (B : List Nat) : Bool := decide (numB B 0 ≤ 255) && isK (numB B 0) && mayR (rX B) && (encR (rX B) == B)
def rReadC (B : List Nat) : Cl := if rokR B then rX B else zCl
def rReadE (B : List Nat) : Int := if rokR B then 0 else 5
theorem rX_enc {x : Cl} (hx : x.Ok) (hm : mayK x = true) : rX (encC x) = x ∧ numB (encC x) 0 = x.k := by
  obtain ⟨hk0, hbare, h8⟩ := mayK_parts hm
  have e0 : encC x = ((x.k :: refL x).flatMap le8) ++ (if hasBy x.k then le8 x.l.length ++ x.l else []) := by
    rw [← encR_eq]
    unfold encR
    rw [List.flatMap_cons]
  have hall : ∀ n ∈ x.k :: refL x, n < 18446744073709551616 := by
    intro n hn
    rcases List.mem_cons.1 hn with rfl | hn
    · have := hx.k; omega
    · exact refL_lt hx n hn
  have hk : numB (encC x) 0 = x.k := by
    have := numB_flat (L := x.k :: refL x) (T := if hasBy x.k then le8 x.l.length ++ x.l else []) (i := 0) (by simp) hall
    rw [← e0] at this
    simpa using this
  refine ⟨?_, hk⟩
  have hn : nums (encC x) (cntK x.k) = refL x := by
    unfold nums
    refine List.ext_getElem (by rw [List.length_map, List.length_range, refL_len]) fun i h1 h2 => ?_
    rw [List.getElem_map, List.getElem_range]
    have := numB_flat (L := x.k :: refL x) (T := if hasBy x.k then le8 x.l.length ++ x.l else []) (i := i + 1) (by simpa using h2) hall
    rw [← e0] at this
    rw [show 8 + 8 * i = 8 * (i + 1) by omega, this]
    rfl
  have ht : textR x.k (encC x) = if hasBy x.k then x.l else [] := by
    unfold textR
    split
    · rename_i hb
      rw [if_pos hb] at e0
      rw [e0, ← List.append_assoc]
      exact List.drop_left' (by rw [List.length_append, flat8, List.length_cons, refL_len, le8_length]; omega)
    · rfl
  unfold rX
  rw [hk, hn, ht]
  by_cases hb : hasBy x.k = true
  · rw [if_pos hb, ofK_bare hx (.inl hb), hbare]
  · have hl : x.l = [] := by rw [← hbare]; exact bare_l x (by simpa using hb)
    rw [if_neg hb]
    have := ofK_bare hx (.inr hl)
    rw [hl] at this
    rw [this, hbare]
theorem ofK_ok (k : Nat) (hk : k < 256) {L l : List Nat} (hL : ∀ n ∈ L, n < 18446744073709551616) (hl : ∀ b ∈ l, b < 256) : (ofK k L l).Ok := by
  have hz : ∀ j, j < 256 → (zB j l).Ok := fun j hj => { zCl_ok with k := hj, l := hl }
  unfold ofK
  split
  all_goals
    try simp only [List.mem_cons, List.not_mem_nil, or_false, forall_eq_or_imp, forall_eq] at hL
    first
    | exact hz _ hk
    | constructor <;> simp only [zB, zCl] <;> first | omega | exact hl | exact iw64_in (by omega)
theorem rX_ok {B : List Nat} (h8 : ∀ b ∈ B, b < 256) (hk : numB B 0 ≤ 255) : (rX B).Ok := by
  refine ofK_ok _ (by omega) (fun n hn => ?_) (fun b hb => ?_)
  · unfold nums at hn
    obtain ⟨i, _, rfl⟩ := List.mem_map.1 hn
    exact numB_lt h8 _
  · unfold textR at hb
    split at hb
    · exact h8 b (List.mem_of_mem_drop hb)
    · cases hb
theorem rokR_eq {B : List Nat} (h8 : ∀ b ∈ B, b < 256) : rokR B = okR B := by
  cases ho : okR B with
  | true =>
    obtain ⟨x, hx, hm, rfl⟩ := (okR_iff h8).1 ho
    obtain ⟨h1, h2⟩ := rX_enc hx hm
    unfold rokR
    rw [h1, h2, mayR_eq hx, hm, encR_eq]
    have h3 : isK x.k = true := by
      unfold isK
      simpa using (mayK_parts hm).1
    have := hx.k
    simp [h3]
    omega
  | false =>
    cases hr : rokR B with
    | false => rfl
    | true =>
      unfold rokR at hr
      simp only [Bool.and_eq_true, decide_eq_true_eq, beq_iff_eq] at hr
      have hx := rX_ok h8 hr.1.1.1
      have h1 := okR_enc hx (by rw [← mayR_eq hx]; exact hr.1.2)
      rw [← encR_eq, hr.2, ho] at h1
      cases h1
theorem rRead_eq {B : List Nat} (h8 : ∀ b ∈ B, b < 256) : rReadC B = readC B ∧ rReadE B = readE B := by
  unfold rReadC rReadE readC readE
  rw [rokR_eq h8]
  refine ⟨?_, rfl⟩
  cases ho : okR B with
  | false => rfl
  | true =>
    have h1 := enc_read h8 ho
    have := rX_enc (stEnd_ok h8) (okR_parts ho).2.2
    rw [h1] at this
    exact this.1
end Go.Proofs.YtinlpjgjjplceaaDoor
