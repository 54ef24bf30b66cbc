/- Results: their form is read again; what is read is a form. -/
import Derived.Test.YtinlpjgjjplceaaDoorCbB
import Derived.Test.YtinlpjgjjplceaaDoorCcA
namespace Go.Proofs.YtinlpjgjjplceaaDoor
open Go Go.RowKit

/-! ## Results -/
def encRs (r : Rs) : List Nat := le8 (wd64 r.e) ++ le8 r.v ++ le8 r.l.length ++ r.l
def sameRs (r s : Rs) : Bool := r.e == s.e && r.v == s.v && decide (r.l = s.l)
theorem sameRs_iff (r s : Rs) : sameRs r s = true ↔ r = s := by
  obtain ⟨e, v, l⟩ := r
  obtain ⟨e', v', l'⟩ := s
  simp [sameRs, and_assoc]
def rs2 (B : List Nat) : List Nat := rdS (rdS B)
def rsX (B : List Nat) : Rs := ⟨rdN 999 B, rdN M64 (rdS B), bsL (rs2 B)⟩
def rsBad (B : List Nat) : Bool := bsB (rs2 B) (rdB M64 (rdS B) (rdB 999 B false))
def okRs (B : List Nat) : Bool := !rsBad B && bsS (rs2 B) == [] && mayRs (rsX B)
def readRs (B : List Nat) : Rs := if okRs B then rsX B else zRs
def readRsE (B : List Nat) : Int := if okRs B then 0 else 5
theorem mayRs_parts {r : Rs} (h : mayRs r = true) : (0 ≤ r.e ∧ r.e ≤ 999) ∧ r.l.length ≤ 8 := by
  unfold mayRs at h
  simp only [Bool.and_eq_true, decide_eq_true_eq] at h
  exact h.1
theorem rs_enc {r : Rs} (hr : r.Ok) (hm : mayRs r = true) (T : List Nat) : rsX (encRs r ++ T) = r ∧ rsBad (encRs r ++ T) = false ∧ bsS (rs2 (encRs r ++ T)) = T := by
  obtain ⟨⟨h0, h1⟩, h8⟩ := mayRs_parts hm
  have hv := hr.v
  have he : wd64 r.e ≤ 999 ∧ ((wd64 r.e : Nat) : Int) = r.e := by unfold wd64; omega
  have e0 : encRs r ++ T = le8 (wd64 r.e) ++ (le8 r.v ++ (le8 r.l.length ++ (r.l ++ T))) := by unfold encRs; simp
  have s1 : rdS (encRs r ++ T) = le8 r.v ++ (le8 r.l.length ++ (r.l ++ T)) := by rw [e0, rdS_le8]
  have s2 : rs2 (encRs r ++ T) = le8 r.l.length ++ (r.l ++ T) := by unfold rs2; rw [s1, rdS_le8]
  have n1 : rdN 999 (encRs r ++ T) = wd64 r.e := by rw [e0]; exact rdN_le8 _ he.1 (by omega)
  have n2 : rdN M64 (rdS (encRs r ++ T)) = r.v := by rw [s1]; exact rdN_le8 _ (m64_le hv) hv
  have b1 : rdB 999 (encRs r ++ T) false = false := by rw [e0]; exact rdB_le8 _ _ he.1 (by omega)
  have b2 : rdB M64 (rdS (encRs r ++ T)) false = false := by rw [s1]; exact rdB_le8 _ _ (m64_le hv) hv
  have n3 : rdN 8 (le8 r.l.length ++ (r.l ++ T)) = r.l.length := rdN_le8 _ h8 (by omega)
  have b3 : rdB 8 (le8 r.l.length ++ (r.l ++ T)) false = false := rdB_le8 _ _ h8 (by omega)
  have hlt : ¬ (r.l ++ T).length < r.l.length := by rw [List.length_append]; omega
  unfold rsX rsBad
  rw [n1, n2, b1, b2, s2]
  unfold bsL bsB bsS
  rw [n3, b3, rdS_le8, if_neg hlt, if_neg hlt, if_neg hlt, he.2, List.take_left' rfl, List.drop_left' rfl]
  exact ⟨rfl, rfl, rfl⟩
theorem okRs_enc {r : Rs} (hr : r.Ok) (hm : mayRs r = true) : okRs (encRs r) = true ∧ rsX (encRs r) = r := by
  obtain ⟨h1, h2, h3⟩ := rs_enc hr hm []
  rw [List.append_nil] at h1 h2 h3
  refine ⟨?_, h1⟩
  unfold okRs
  rw [h1, h2, h3, hm]
  rfl
theorem readRs_enc {r : Rs} (hr : r.Ok) (hm : mayRs r = true) : readRs (encRs r) = r ∧ readRsE (encRs r) = 0 := by
  obtain ⟨h1, h2⟩ := okRs_enc hr hm
  unfold readRs readRsE
  rw [h1, h2]
  exact ⟨rfl, rfl⟩
theorem okRs_long {r : Rs} (hr : r.Ok) (hm : mayRs r = true) {T : List Nat} (hT : T ≠ []) : okRs (encRs r ++ T) = false := by
  obtain ⟨h1, h2, h3⟩ := rs_enc hr hm T
  unfold okRs
  rw [h1, h2, h3]
  cases T with
  | nil => exact absurd rfl hT
  | cons a l => rfl
theorem bs_back {S : List Nat} {bad : Bool} (h8 : ∀ b ∈ S, b < 256) (h : bsB S bad = false) : bad = false ∧ le8 (bsL S).length ++ bsL S ++ bsS S = S := by
  unfold bsB at h
  by_cases hb : (rdS S).length < rdN 8 S
  · rw [if_pos hb] at h; cases h
  rw [if_neg hb] at h
  have h1 := rd_back h8 h
  refine ⟨h1.1, ?_⟩
  have e2 : (bsL S).length = rdN 8 S := by unfold bsL; rw [if_neg hb, List.length_take]; omega
  rw [e2]
  unfold bsL bsS
  rw [if_neg hb, if_neg hb, List.append_assoc, List.take_append_drop, h1.2.1]
theorem rsX_ok {B : List Nat} (h8 : ∀ b ∈ B, b < 256) : (rsX B).Ok := by
  have h1 := rdN_le 999 B
  have h2 := rdN_lt M64 (S := rdS B) (fun b hb => h8 b (rdS_mem hb))
  refine ⟨?_, h2, fun b hb => h8 b (rdS_mem (rdS_mem (bsL_mem hb)))⟩
  show -9223372036854775808 ≤ ((rdN 999 B : Nat) : Int) ∧ ((rdN 999 B : Nat) : Int) ≤ 9223372036854775807
  omega
theorem enc_rs {B : List Nat} (h8 : ∀ b ∈ B, b < 256) (h : okRs B = true) : encRs (rsX B) = B ∧ mayRs (rsX B) = true := by
  unfold okRs at h
  simp only [Bool.and_eq_true, Bool.not_eq_true', beq_iff_eq] at h
  obtain ⟨⟨hb, hs⟩, hm⟩ := h
  refine ⟨?_, hm⟩
  have h81 : ∀ b ∈ rdS B, b < 256 := fun b hb => h8 b (rdS_mem hb)
  have h82 : ∀ b ∈ rs2 B, b < 256 := fun b hb => h81 b (rdS_mem hb)
  have p3 := bs_back h82 hb
  have p2 := rd_back h81 p3.1
  have p1 := rd_back h8 p2.1
  rw [hs, List.append_nil] at p3
  have hn := rdN_le 999 B
  have he : wd64 ((rdN 999 B : Nat) : Int) = rdN 999 B := by unfold wd64; omega
  unfold encRs
  show le8 (wd64 ((rdN 999 B : Nat) : Int)) ++ le8 (rdN M64 (rdS B)) ++ le8 (bsL (rs2 B)).length ++ bsL (rs2 B) = B
  rw [he, List.append_assoc, p3.2, List.append_assoc]
  have : le8 (rdN M64 (rdS B)) ++ rs2 B = rdS B := p2.2.1
  rw [this, p1.2.1]
theorem okRs_iff {B : List Nat} (h8 : ∀ b ∈ B, b < 256) : okRs B = true ↔ ∃ r : Rs, r.Ok ∧ mayRs r = true ∧ encRs r = B :=
  ⟨fun h => ⟨_, rsX_ok h8, (enc_rs h8 h).2, (enc_rs h8 h).1⟩, fun ⟨_, hx, hm, e⟩ => e ▸ (okRs_enc hx hm).1⟩
theorem okRs_more {B : List Nat} (h8 : ∀ b ∈ B, b < 256) (h : okRs B = true) {T : List Nat} (hT : T ≠ []) : okRs (B ++ T) = false := by
  obtain ⟨x, hx, hm, rfl⟩ := (okRs_iff h8).1 h
  exact okRs_long hx hm hT
theorem okRs_less {B : List Nat} (h8 : ∀ b ∈ B, b < 256) (h : okRs B = true) (m : Nat) (hm : m < B.length) : okRs (B.take m) = false := by
  cases ho : okRs (B.take m) with
  | false => rfl
  | true =>
    have := okRs_more (B := B.take m) (fun b hb => h8 b (List.mem_of_mem_take hb)) ho (T := B.drop m) (by intro e; have := congrArg List.length e; simp at this; omega)
    rw [List.take_append_drop, h] at this
    cases this
theorem encRs_long (r : Rs) : 24 ≤ (encRs r).length := by unfold encRs; simp only [List.length_append, le8_length]; omega
/-- the document's -/
def rrsX (B : List Nat) : Rs := ⟨numB B 0, numB B 8, B.drop 24⟩
def rokRs (B : List Nat) : Bool := (!(decide (999 < numB B 0) || decide (B.length < 24))) && (mayRs (rrsX B) && encRs (rrsX B) == B)
def rReadRs (B : List Nat) : Rs := if rokRs B then rrsX B else zRs
def rReadRsE (B : List Nat) : Int := if rokRs B then 0 else 5
theorem rrsX_enc {r : Rs} (hr : r.Ok) (hm : mayRs r = true) : rrsX (encRs r) = r := by
  obtain ⟨⟨h0, h1⟩, h8⟩ := mayRs_parts hm
  have he : wd64 r.e ≤ 999 ∧ ((wd64 r.e : Nat) : Int) = r.e := by unfold wd64; omega
  have e0 : encRs r = le8 (wd64 r.e) ++ (le8 r.v ++ (le8 r.l.length ++ r.l)) := by unfold encRs; simp
  have n1 : numB (encRs r) 0 = wd64 r.e := by rw [e0]; exact numB_at [] _ (wd64_lt _)
  have n2 : numB (encRs r) 8 = r.v := by
    have := numB_at (n := r.v) (le8 (wd64 r.e)) (le8 r.l.length ++ r.l) hr.v
    rwa [le8_length, ← e0] at this
  have n3 : (encRs r).drop 24 = r.l := List.drop_left' (by simp only [List.length_append, le8_length])
  unfold rrsX
  rw [n1, n2, n3, he.2]
theorem rrsX_ok {B : List Nat} (h8 : ∀ b ∈ B, b < 256) (h : numB B 0 ≤ 999) : (rrsX B).Ok :=
  ⟨by show -9223372036854775808 ≤ ((numB B 0 : Nat) : Int) ∧ ((numB B 0 : Nat) : Int) ≤ _; omega, numB_lt h8 8, fun b hb => h8 b (List.mem_of_mem_drop hb)⟩
theorem rokRs_eq {B : List Nat} (h8 : ∀ b ∈ B, b < 256) : rokRs B = okRs B := by
  cases ho : okRs B with
  | true =>
    obtain ⟨x, hx, hm, rfl⟩ := (okRs_iff h8).1 ho
    have h1 := rrsX_enc hx hm
    have h2 := (mayRs_parts hm).1
    have h3 : ((numB (encRs x) 0 : Nat) : Int) = x.e := congrArg Rs.e h1
    have h4 := encRs_long x
    unfold rokRs
    rw [h1, hm, decide_eq_false (by omega), decide_eq_false (by omega)]
    simp
  | false =>
    cases hr : rokRs B with
    | false => rfl
    | true =>
      unfold rokRs at hr
      simp only [Bool.and_eq_true, Bool.not_eq_true', Bool.or_eq_false_iff, decide_eq_false_iff_not, beq_iff_eq] at hr
      have hx := rrsX_ok h8 (by omega)
      have h1 := (okRs_enc hx hr.2.1).1
      rw [hr.2.2, ho] at h1
      cases h1
theorem rReadRs_eq {B : List Nat} (h8 : ∀ b ∈ B, b < 256) : rReadRs B = readRs B ∧ rReadRsE B = readRsE B := by
  unfold rReadRs rReadRsE readRs readRsE
  rw [rokRs_eq h8]
  refine ⟨?_, rfl⟩
  cases ho : okRs B with
  | false => rfl
  | true =>
    have h1 := enc_rs h8 ho
    have := rrsX_enc (rsX_ok h8) h1.2
    rw [h1.1] at this
    exact this
end Go.Proofs.YtinlpjgjjplceaaDoor
