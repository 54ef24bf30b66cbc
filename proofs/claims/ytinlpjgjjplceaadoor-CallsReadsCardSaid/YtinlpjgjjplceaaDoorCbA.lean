/- A call's form is read again; what is read is a form. -/
import Derived.Test.YtinlpjgjjplceaaDoorCaM
namespace Go.Proofs.YtinlpjgjjplceaaDoor
open Go Go.RowKit

/-! ## A form is read again -/
theorem le8_tk (n : Nat) (T : List Nat) : (le8 n ++ T).take 8 = le8 n := by rw [List.take_append_of_le_length (by rw [le8_length]; omega), List.take_of_length_le (by rw [le8_length]; omega)]
theorem le8_dr (n : Nat) (T : List Nat) : (le8 n ++ T).drop 8 = T := List.drop_left' (le8_length n)
theorem le8_nlt (n : Nat) (T : List Nat) : ¬ (le8 n ++ T).length < 8 := by rw [List.length_append, le8_length]; omega
theorem rdN_le8 {m n : Nat} (T : List Nat) (h : n ≤ m) (hn : n < 18446744073709551616) : rdN m (le8 n ++ T) = n := by
  unfold rdN
  rw [if_neg (le8_nlt n T), le8_tk, leN_le8 hn, if_neg (by omega)]
theorem rdS_le8 (n : Nat) (T : List Nat) : rdS (le8 n ++ T) = T := by
  unfold rdS
  rw [if_neg (le8_nlt n T), le8_dr]
theorem rdB_le8 {m n : Nat} (T : List Nat) (bad : Bool) (h : n ≤ m) (hn : n < 18446744073709551616) : rdB m (le8 n ++ T) bad = bad := by
  unfold rdB
  rw [if_neg (le8_nlt n T), le8_tk, leN_le8 hn, if_neg (by omega)]
theorem stN_le8 {m n : Nat} (y z : Cl) (T : List Nat) (h : n ≤ m) (hn : n < 18446744073709551616) : stN ⟨y, le8 n ++ T, false⟩ m z = ⟨z, T, false⟩ := by
  unfold stN
  simp only [rdS_le8, rdB_le8 T false h hn]
theorem m64_le {n : Nat} (h : n < 18446744073709551616) : n ≤ M64 := by unfold M64; omega
theorem stF_enc {x y : Cl} {f : Nat} {T : List Nat} (hx : x.Ok) (h8 : x.l.length ≤ 8) (hf : letter f) : stF ⟨y, encF x f ++ T, false⟩ f = ⟨setF x y f, T, false⟩ := by
  have e1 : ∀ n : Nat, ([n] : List Nat).flatMap le8 ++ T = le8 n ++ T := fun n => by simp
  have hp := wd64_lt x.p
  have hg := wd64_lt x.g
  have hc := wd64_lt x.c
  have hn := wd64_lt x.n
  have ha := wd64_lt x.a
  have hs := wd64_lt x.s
  have hr := hx.r
  have hok := hx.ok
  have hom := hx.om
  rcases hf with rfl | rfl | rfl | rfl | rfl | rfl | rfl | rfl | rfl | rfl | rfl
  · simp [stF, encF, numsF, setF]
  · simp only [stF, encF, numsF, setF, Nat.reduceEqDiff, if_false, if_true, e1, rdN_le8 T (m64_le hp) hp, stN_le8 _ _ T (m64_le hp) hp, iw_wd hx.p.1 hx.p.2]
  · simp only [stF, encF, numsF, setF, Nat.reduceEqDiff, if_false, if_true, e1, rdN_le8 T (m64_le hg) hg, stN_le8 _ _ T (m64_le hg) hg, iw_wd hx.g.1 hx.g.2]
  · simp only [stF, encF, numsF, setF, Nat.reduceEqDiff, if_false, if_true, e1, rdN_le8 T (m64_le hc) hc, stN_le8 _ _ T (m64_le hc) hc, iw_wd hx.c.1 hx.c.2]
  · simp only [stF, encF, numsF, setF, Nat.reduceEqDiff, if_false, if_true, e1, rdN_le8 T (m64_le hn) hn, stN_le8 _ _ T (m64_le hn) hn, iw_wd hx.n.1 hx.n.2]
  · simp only [stF, encF, numsF, setF, Nat.reduceEqDiff, if_false, if_true, e1, rdN_le8 T (m64_le ha) ha, stN_le8 _ _ T (m64_le ha) ha, iw_wd hx.a.1 hx.a.2]
  · simp only [stF, encF, numsF, setF, Nat.reduceEqDiff, if_false, if_true, e1, rdN_le8 T (m64_le hs) hs, stN_le8 _ _ T (m64_le hs) hs, iw_wd hx.s.1 hx.s.2]
  · simp only [stF, encF, numsF, setF, Nat.reduceEqDiff, if_false, if_true, e1, rdN_le8 T (show x.r ≤ 255 by omega) (by omega), stN_le8 _ _ T (show x.r ≤ 255 by omega) (by omega)]
  · have e2 : ([x.ok, x.om] : List Nat).flatMap le8 ++ T = le8 x.ok ++ (le8 x.om ++ T) := by simp
    simp only [stF, encF, numsF, setF, Nat.reduceEqDiff, if_false, if_true, e2, rdN_le8 (le8 x.om ++ T) (show x.ok ≤ 255 by omega) (by omega), stN_le8 _ _ (le8 x.om ++ T) (show x.ok ≤ 255 by omega) (by omega), rdS_le8, rdN_le8 T (show x.om ≤ 255 by omega) (by omega), stN_le8 _ _ T (show x.om ≤ 255 by omega) (by omega)]
  · simp only [stF, encF, numsF, setF, Nat.reduceEqDiff, if_false, if_true, e1, rdN_le8 T (m64_le hx.h) hx.h, stN_le8 _ _ T (m64_le hx.h) hx.h]
  · have e3 : (le8 x.l.length ++ x.l) ++ T = le8 x.l.length ++ (x.l ++ T) := List.append_assoc ..
    simp only [stF, encF, setF, Nat.reduceEqDiff, if_false, if_true, e3, bsL, bsS, bsB, rdS_le8, rdN_le8 (x.l ++ T) h8 (by omega), rdB_le8 (x.l ++ T) false h8 (by omega)]
    rw [if_neg (by rw [List.length_append]; omega), if_neg (by rw [List.length_append]; omega), if_neg (by rw [List.length_append]; omega), List.take_left' rfl, List.drop_left' rfl]
theorem stAll_enc {x : Cl} (hx : x.Ok) (h8 : x.l.length ≤ 8) (T : List Nat) : ∀ (F : List Nat) (y : Cl), (∀ f ∈ F, letter f) → stAll ⟨y, F.flatMap (encF x) ++ T, false⟩ F = ⟨F.foldl (setF x) y, T, false⟩
  | [], _, _ => rfl
  | f :: F, y, hF => by
    have ih := stAll_enc hx h8 T F (setF x y f) (fun g hg => hF g (List.mem_cons_of_mem _ hg))
    unfold stAll at ih ⊢
    rw [List.flatMap_cons, List.append_assoc, List.foldl_cons, stF_enc hx h8 (hF f (List.mem_cons_self ..)), ih]
    rfl
theorem stEnd_enc {x : Cl} (hx : x.Ok) (h8 : x.l.length ≤ 8) (T : List Nat) : stEnd (encC x ++ T) = ⟨bareK x, T, false⟩ := by
  have hk := hx.k
  have e : encC x ++ T = le8 x.k ++ ((fld x.k).flatMap (encF x) ++ T) := List.append_assoc ..
  have h1 : rdN 255 (encC x ++ T) = x.k := by rw [e]; exact rdN_le8 _ (by omega) (by omega)
  have h2 : st0 (encC x ++ T) = ⟨{ zCl with k := x.k }, (fld x.k).flatMap (encF x) ++ T, false⟩ := by
    unfold st0
    rw [h1]
    rw [e, rdS_le8, rdB_le8 _ _ (by omega) (by omega)]
  unfold stEnd
  rw [h1, h2, stAll_enc hx h8 T (fld x.k) _ (fun f hf => fld_mem hf)]
  rfl
theorem mayK_parts {x : Cl} (h : mayK x = true) : fld x.k ≠ [] ∧ bareK x = x ∧ x.l.length ≤ 8 := by
  unfold mayK at h
  simp only [Bool.and_eq_true, bne_iff_ne, ne_eq, decide_eq_true_eq] at h
  exact ⟨h.1.1, ((sameB_iff _ _).1 h.1.2).symm, h.2⟩
theorem okR_enc {x : Cl} (hx : x.Ok) (hm : mayK x = true) : okR (encC x) = true := by
  obtain ⟨_, h2, h3⟩ := mayK_parts hm
  have := stEnd_enc hx h3 []
  rw [List.append_nil] at this
  unfold okR
  rw [this, h2]
  simp [hm]
theorem readC_enc {x : Cl} (hx : x.Ok) (hm : mayK x = true) : readC (encC x) = x ∧ readE (encC x) = 0 := by
  obtain ⟨_, h2, h3⟩ := mayK_parts hm
  have := stEnd_enc hx h3 []
  rw [List.append_nil] at this
  unfold readC readE
  rw [okR_enc hx hm, this, h2]
  exact ⟨rfl, rfl⟩
theorem okR_more {x : Cl} (hx : x.Ok) (hm : mayK x = true) {T : List Nat} (hT : T ≠ []) : okR (encC x ++ T) = false := by
  obtain ⟨_, h2, h3⟩ := mayK_parts hm
  have := stEnd_enc hx h3 T
  unfold okR
  rw [this]
  cases T with
  | nil => exact absurd rfl hT
  | cons a l => rfl
theorem enc_inj {x y : Cl} (hx : x.Ok) (hy : y.Ok) (hm : mayK x = true) (hn : mayK y = true) (h : encC x = encC y) : x = y := by
  rw [← (readC_enc hx hm).1, ← (readC_enc hy hn).1, h]
/-! ## What is read is a form -/
theorem le8_take {S : List Nat} (h8 : ∀ b ∈ S, b < 256) (hl : ¬ S.length < 8) : le8 (leN (S.take 8)) ++ S.drop 8 = S := by
  rw [le8_leN (by rw [List.length_take]; omega) (fun b hb => h8 b (List.mem_of_mem_take hb)), List.take_append_drop]
theorem rd_back {m : Nat} {S : List Nat} {bad : Bool} (h8 : ∀ b ∈ S, b < 256) (h : rdB m S bad = false) : bad = false ∧ le8 (rdN m S) ++ rdS S = S ∧ ¬ S.length < 8 := by
  unfold rdB at h
  by_cases hl : S.length < 8
  · rw [if_pos hl] at h; cases h
  rw [if_neg hl] at h
  by_cases hm : m < leN (S.take 8)
  · rw [if_pos hm] at h; cases h
  rw [if_neg hm] at h
  unfold rdN rdS
  rw [if_neg hl, if_neg hm, if_neg hl]
  exact ⟨h, le8_take h8 hl, hl⟩
theorem stF_back {n : Nat} {st : St} {f : Nat} (ho : StOk n st) (hf : letter f) (h : (stF st f).bad = false) : st.bad = false ∧ encF (stF st f).x f ++ (stF st f).S = st.S := by
  have e1 : ∀ n : Nat, ([n] : List Nat).flatMap le8 = le8 n := fun n => by simp
  have h8 := ho.b
  have key : ∀ (m : Nat) (z : Cl), (stN st m z).bad = false → st.bad = false ∧ le8 (rdN m st.S) ++ rdS st.S = st.S := fun m z hz => by
    have := rd_back h8 (show rdB m st.S st.bad = false from hz)
    exact ⟨this.1, this.2.1⟩
  have hlt := rdN_lt M64 h8
  rcases hf with rfl | rfl | rfl | rfl | rfl | rfl | rfl | rfl | rfl | rfl | rfl
  · simpa [stF, encF, numsF] using h
  · simp only [stF, encF, numsF, Nat.reduceEqDiff, if_false, if_true, e1] at h ⊢
    obtain ⟨a, b⟩ := key _ _ h
    exact ⟨a, by simpa only [stN, wd_iw hlt] using b⟩
  · simp only [stF, encF, numsF, Nat.reduceEqDiff, if_false, if_true, e1] at h ⊢
    obtain ⟨a, b⟩ := key _ _ h
    exact ⟨a, by simpa only [stN, wd_iw hlt] using b⟩
  · simp only [stF, encF, numsF, Nat.reduceEqDiff, if_false, if_true, e1] at h ⊢
    obtain ⟨a, b⟩ := key _ _ h
    exact ⟨a, by simpa only [stN, wd_iw hlt] using b⟩
  · simp only [stF, encF, numsF, Nat.reduceEqDiff, if_false, if_true, e1] at h ⊢
    obtain ⟨a, b⟩ := key _ _ h
    exact ⟨a, by simpa only [stN, wd_iw hlt] using b⟩
  · simp only [stF, encF, numsF, Nat.reduceEqDiff, if_false, if_true, e1] at h ⊢
    obtain ⟨a, b⟩ := key _ _ h
    exact ⟨a, by simpa only [stN, wd_iw hlt] using b⟩
  · simp only [stF, encF, numsF, Nat.reduceEqDiff, if_false, if_true, e1] at h ⊢
    obtain ⟨a, b⟩ := key _ _ h
    exact ⟨a, by simpa only [stN, wd_iw hlt] using b⟩
  · simp only [stF, encF, numsF, Nat.reduceEqDiff, if_false, if_true, e1] at h ⊢
    exact key _ _ h
  · simp only [stF, encF, numsF, Nat.reduceEqDiff, if_false, if_true] at h ⊢
    have h1 := rd_back (fun b hb => h8 b (rdS_mem hb)) (show rdB 255 (rdS st.S) (rdB 255 st.S st.bad) = false from h)
    have h2 := rd_back h8 h1.1
    refine ⟨h2.1, ?_⟩
    show [rdN 255 st.S, rdN 255 (rdS st.S)].flatMap le8 ++ rdS (rdS st.S) = st.S
    rw [List.flatMap_cons, e1, List.append_assoc, h1.2.1, h2.2.1]
  · simp only [stF, encF, numsF, Nat.reduceEqDiff, if_false, if_true, e1] at h ⊢
    exact key _ _ h
  · simp only [stF, encF, Nat.reduceEqDiff, if_false, if_true] at h ⊢
    unfold bsB at h
    by_cases hb : (rdS st.S).length < rdN 8 st.S
    · rw [if_pos hb] at h; cases h
    rw [if_neg hb] at h
    have h1 := rd_back h8 h
    refine ⟨h1.1, ?_⟩
    have e2 : (bsL st.S).length = rdN 8 st.S := by unfold bsL; rw [if_neg hb, List.length_take]; omega
    rw [e2]
    unfold bsL bsS
    rw [if_neg hb, if_neg hb, List.append_assoc, List.take_append_drop, h1.2.1]
theorem encF_step {st : St} {f g : Nat} (h : f ≠ g) (hf : letter f) (hg : letter g) : encF (stF st g).x f = encF st.x f := by
  rcases hg with rfl | rfl | rfl | rfl | rfl | rfl | rfl | rfl | rfl | rfl | rfl <;>
    simp only [stF, stN, Nat.reduceEqDiff, if_false, if_true] <;>
    rcases hf with rfl | rfl | rfl | rfl | rfl | rfl | rfl | rfl | rfl | rfl | rfl <;> first | rfl | exact absurd rfl h
theorem encF_stay {f : Nat} (hf : letter f) : ∀ (F : List Nat) (st : St), (∀ g ∈ F, letter g) → f ∉ F → encF (stAll st F).x f = encF st.x f
  | [], _, _, _ => rfl
  | g :: F, st, hF, hn => by
    have ih := encF_stay hf F (stF st g) (fun a ha => hF a (List.mem_cons_of_mem _ ha)) (fun ha => hn (List.mem_cons_of_mem _ ha))
    have e : stAll st (g :: F) = stAll (stF st g) F := rfl
    have hne : f ≠ g := fun e2 => hn (by rw [e2]; exact List.mem_cons_self ..)
    rw [e, ih, encF_step hne hf (hF g (List.mem_cons_self ..))]
theorem stAll_back {n : Nat} : ∀ (F : List Nat) (st : St), StOk n st → (∀ g ∈ F, letter g) → F.Nodup → (stAll st F).bad = false → st.bad = false ∧ F.flatMap (encF (stAll st F).x) ++ (stAll st F).S = st.S
  | [], _, _, _, _, h => ⟨h, rfl⟩
  | f :: F, st, ho, hF, hd, h => by
    have e : stAll st (f :: F) = stAll (stF st f) F := rfl
    rw [e] at h ⊢
    rw [List.nodup_cons] at hd
    have ih := stAll_back F (stF st f) (stF_ok ho f) (fun a ha => hF a (List.mem_cons_of_mem _ ha)) hd.2 h
    have hf := hF f (List.mem_cons_self ..)
    have hb := stF_back ho hf ih.1
    refine ⟨hb.1, ?_⟩
    rw [List.flatMap_cons, encF_stay hf F _ (fun a ha => hF a (List.mem_cons_of_mem _ ha)) hd.1, List.append_assoc, ih.2, hb.2]
theorem fld_nodup (k : Nat) : (fld k).Nodup := by
  by_cases hk : k < 22
  · have : ∀ k : Fin 22, (fld k.val).Nodup := by decide
    exact this ⟨k, hk⟩
  · rw [fld_big (by omega)]; exact List.nodup_nil
theorem stF_k (st : St) {f : Nat} (hf : letter f) : (stF st f).x.k = st.x.k := by
  rcases hf with rfl | rfl | rfl | rfl | rfl | rfl | rfl | rfl | rfl | rfl | rfl <;> rfl
theorem stAll_k : ∀ (F : List Nat) (st : St), (∀ f ∈ F, letter f) → (stAll st F).x.k = st.x.k
  | [], _, _ => rfl
  | f :: F, st, hF => by
    have e : stAll st (f :: F) = stAll (stF st f) F := rfl
    rw [e, stAll_k F _ (fun g hg => hF g (List.mem_cons_of_mem _ hg)), stF_k st (hF f (List.mem_cons_self ..))]
theorem stEnd_ok {B : List Nat} (h8 : ∀ b ∈ B, b < 256) : (stEnd B).x.Ok := (stAll_ok _ (st0_ok h8)).x
theorem okR_parts {B : List Nat} (h : okR B = true) : (stEnd B).bad = false ∧ (stEnd B).S = [] ∧ mayK (stEnd B).x = true := by
  unfold okR at h
  simp only [Bool.and_eq_true, Bool.not_eq_true', beq_iff_eq] at h
  exact ⟨h.1.1, h.1.2, h.2⟩
theorem enc_read {B : List Nat} (h8 : ∀ b ∈ B, b < 256) (h : okR B = true) : encC (stEnd B).x = B := by
  obtain ⟨h1, h2, h3⟩ := okR_parts h
  have hb := stAll_back (fld (rdN 255 B)) (st0 B) (st0_ok h8) (fun f hf => fld_mem hf) (fld_nodup _) h1
  have hr := rd_back h8 (show rdB 255 B false = false from hb.1)
  have hk : (stEnd B).x.k = rdN 255 B := stAll_k _ _ (fun f hf => fld_mem hf)
  have hs : stAll (st0 B) (fld (rdN 255 B)) = stEnd B := rfl
  rw [hs, h2, List.append_nil] at hb
  unfold encC
  rw [hk, hb.2]
  exact hr.2.1
theorem readC_ok {B : List Nat} (h : okR B = true) : readC B = (stEnd B).x ∧ readE B = 0 := by
  unfold readC readE
  rw [h]
  exact ⟨rfl, rfl⟩
theorem readC_no {B : List Nat} (h : okR B = false) : readC B = zCl ∧ readE B = 5 := by
  unfold readC readE
  rw [h]
  exact ⟨rfl, rfl⟩
theorem okR_iff {B : List Nat} (h8 : ∀ b ∈ B, b < 256) : okR B = true ↔ ∃ x : Cl, x.Ok ∧ mayK x = true ∧ encC x = B :=
  ⟨fun h => ⟨_, stEnd_ok h8, (okR_parts h).2.2, enc_read h8 h⟩, fun ⟨_, hx, hm, e⟩ => e ▸ okR_enc hx hm⟩
theorem okR_more' {B : List Nat} (h8 : ∀ b ∈ B, b < 256) (h : okR B = true) {T : List Nat} (hT : T ≠ []) : okR (B ++ T) = false := by
  obtain ⟨x, hx, hm, rfl⟩ := (okR_iff h8).1 h
  exact okR_more hx hm hT
theorem okR_less {B : List Nat} (h8 : ∀ b ∈ B, b < 256) (h : okR B = true) (m : Nat) (hm : m < B.length) : okR (B.take m) = false := by
  cases ho : okR (B.take m) with
  | false => rfl
  | true =>
    have := okR_more' (B := B.take m) (fun b hb => h8 b (List.mem_of_mem_take hb)) ho (T := B.drop m) (by intro e; have := congrArg List.length e; simp at this; omega)
    rw [List.take_append_drop, h] at this
    cases this
theorem enc_long (x : Cl) : 8 ≤ (encC x).length := by unfold encC; rw [List.length_append, le8_length]; omega
end Go.Proofs.YtinlpjgjjplceaaDoor
