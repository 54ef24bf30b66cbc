/- The document's words: word, number. -/
import Derived.Test.YtinlpjgjjplceaaDoorCaF
namespace Go.Proofs.YtinlpjgjjplceaaDoor
open Go Go.RowKit

/-- a slice of bytes that is new -/
def NewB (w w' : World) (l : List Nat) (e : Ending) : Prop := ∃ A n c, e = .returned (.slice A n c) ∧ SB w' (.slice A n c) l ∧ ∀ k ∈ own (.slice A n c), w.heap.size ≤ k
set_option maxRecDepth 20000 in
set_option maxHeartbeats 4000000 in
theorem word_any (w : World) {x : Nat} (hx : x < 18446744073709551616) : Calls Tryd.prog 50 #[.int .u64 x] w fun e w' => NewB w w' (le8 x) e ∧ Chg [] w w' := by
  have HX := hide hx
  clear hx
  go_enter Tryd.func50, Tryd.ntmps50
  go_wp2_with fail
  go_loopw [0, 3, 4] (fun y t i wr => ∃ (j z : Nat) (A : Option Addr) (n c : Nat), j ≤ 8 ∧ y = .int .u64 z ∧ t = .slice A n c ∧ i = .int .i64 j ∧ Hid (z = x / 2 ^ (8 * j)) ∧ Hid (SB wr (.slice A n c) ((le8 x).take j)) ∧ Hid (∀ k ∈ own (.slice A n c), w.heap.size ≤ k) ∧ Hid (Chg [] w wr)) (fun _ _ i _ => 8 - (intOf i).toNat)
  case atStart => exact ⟨0, x, none, 0, 0, by omega, rfl, rfl, rfl, hide (by simp), hide (SE.nil _ _ _ _), hide (fun _ h => (own_nil h).elim), hide (Chg.refl _ _)⟩
  case round =>
    obtain ⟨j, z, A, n, c, hj, rfl, rfl, rfl, hz, hs, hn, hc⟩ := hrel
    by_cases hj8 : j < 8
    · have j0 : (0 : Int) ≤ (j : Int) := by omega
      have j1 : (j : Int) < 8 := by omega
      have HS2 := hide (snoc_le8 [] x hj8)
      have HLN := hide (show ((le8 x).take j).length + [z % 256].length ≤ 1000000 from by rw [List.length_take, le8_length]; simp; omega)
      have HZ := hide (show (z : Int) % 256 = ((z % 256 : Nat) : Int) by omega)
      have HZ2 := hide (show z / 256 = x / 2 ^ (8 * (j + 1)) from by rw [hz.out, Nat.div_div_eq_div_mul, Nat.mul_add, Nat.pow_add])
      have z0 : (0 : Int) ≤ (z : Int) := by omega
      have HZX := hide (show z < 18446744073709551616 from by rw [hz.out]; exact Nat.lt_of_le_of_lt (Nat.div_le_self ..) HX.out)
      go_wp2_with (at_builtin; refine wpList_append_b rfl _ _ rfl (.slice A n c) _ rfl rfl (l := (le8 x).take j) (m := [z % 256]) (hs.out.stay ((Chg.refl [] wr).alloc _)) (by rw [HZ.out]; exact RB_one wr _) HLN.out ?_; intro A9 n9 c9 W9 hn9 hs9 hc9 hg9)
      go_roundw
      case rel => exact ⟨j + 1, z / 256, A9, n9, c9, by omega, by have := HZX.out; simp; rw [IntKind.wrap_u64]; omega, rfl, by go_num, HZ2, hide (by have h := HS2.out; rw [List.nil_append, List.nil_append, ← hz.out] at h; rw [h]; exact hs9), hide (fun k hk => (hg9 k hk).elim (hn.out k) (fun h => by have := hc.out.size; simp at h; omega)), hide ((hc.out.alloc _).trans hc9 (fun k hk => .inr (hn.out k hk)))⟩
      case measure => simp [intOf]; omega
    · obtain rfl : j = 8 := by omega
      have HS3 := hide (show SB wr (.slice A n c) (le8 x) from by have := hs.out; rwa [List.take_of_length_le (by rw [le8_length]; omega)] at this)
      go_wp2_with fail
      go_ret
      exact ⟨⟨A, n, c, rfl, HS3.out, hn.out⟩, hc.out⟩
theorem drop_step {l : List Nat} {i : Nat} (hi : i < l.length) : leN (l.drop i) = l[i] + 256 * leN (l.drop (i + 1)) := by rw [List.drop_eq_getElem_cons hi]; rfl
/-- the number of eight bytes from a place on; noughts where there are none -/
def numB (B : List Nat) (at_ : Nat) : Nat := leN ((B.drop at_).take 8)
theorem numB_lt {B : List Nat} (h8 : ∀ b ∈ B, b < 256) (at_ : Nat) : numB B at_ < 18446744073709551616 := by
  have h := leN_lt ((B.drop at_).take 8) (fun b hb => h8 b (List.mem_of_mem_drop (List.mem_of_mem_take hb)))
  have hl : ((B.drop at_).take 8).length ≤ 8 := by rw [List.length_take]; omega
  have h2 : 2 ^ (8 * ((B.drop at_).take 8).length) ≤ 2 ^ 64 := Nat.pow_le_pow_right (by omega) (by omega)
  unfold numB
  omega
set_option maxRecDepth 20000 in
set_option maxHeartbeats 4000000 in
theorem rnum_any {w : World} {v : Value} {B : List Nat} (hv : RB w v B) (h8 : ∀ b ∈ B, b < 256) (at_ : Nat) (hat : at_ ≤ 100000) (hlen : B.length ≤ 100000) :
    Calls Tryd.prog 51 #[v, .int .i64 at_] w fun e w' => e = .returned (.int .u64 (numB B at_ : Nat)) ∧ w = w' := by
  obtain ⟨A, c, rfl⟩ := RE.form hv
  have HV := hide hv
  have H8 := hide h8
  have a0 : (0 : Int) ≤ (at_ : Int) := by omega
  have a1 : (at_ : Int) ≤ 100000 := by omega
  have hl1 : (B.length : Int) ≤ 100000 := by omega
  obtain ⟨T, hT⟩ : ∃ T, T = (B.drop at_).take 8 := ⟨_, rfl⟩
  have HT := hide hT
  have HR := hide (show numB B at_ = leN (T.drop 0) from by rw [hT]; rfl)
  have HB := hide (show ∀ i, leN (T.drop i) < 2 ^ (8 * (8 - i)) from fun i => by
    have h := leN_lt (T.drop i) (fun b hb => h8 b (List.mem_of_mem_drop (List.mem_of_mem_take (by rw [← hT]; exact List.mem_of_mem_drop hb))))
    have hl : (T.drop i).length ≤ 8 - i := by rw [hT, List.length_drop, List.length_take]; omega
    exact Nat.lt_of_lt_of_le h (Nat.pow_le_pow_right (by omega) (by omega)))
  generalize numB B at_ = R at HR ⊢
  clear hv h8 hT hat hlen
  go_enter Tryd.func51, Tryd.ntmps51
  go_wp2_with fail
  go_loopw [5, 6] (fun y i wr => ∃ (j z : Nat), j ≤ 8 ∧ y = .int .u64 z ∧ i = .int .i64 ((j : Int) - 1) ∧ Hid (z = leN (T.drop j)) ∧ w = wr) (fun _ i _ => (intOf i + 1).toNat)
  case atStart => exact ⟨8, 0, by omega, rfl, rfl, hide (by rw [List.drop_eq_nil_of_le (by rw [HT.out, List.length_take]; omega)]; rfl), rfl⟩
  case round =>
    obtain ⟨j, z, hj, rfl, rfl, hz, rfl⟩ := hrel
    by_cases hj0 : 0 < j
    · obtain ⟨m, rfl⟩ : ∃ m, j = m + 1 := ⟨j - 1, by omega⟩
      have hzb : z < 72057594037927936 := by
        have h := HB.out (m + 1)
        rw [← hz.out] at h
        exact Nat.lt_of_lt_of_le h (show 2 ^ (8 * (8 - (m + 1))) ≤ 2 ^ 56 from Nat.pow_le_pow_right (by omega) (by omega))
      have m0 : (0 : Int) ≤ (m : Int) := by omega
      have m1 : (m : Int) < 8 := by omega
      have hw1 : IntKind.u64.wrap ((z : Int) * 256) = (z : Int) * 256 := by rw [IntKind.wrap_u64]; omega
      have hsm : (((m + 1 : Nat) : Int) - 1) = (m : Int) := by omega
      rw [hsm]
      by_cases hin : at_ + m < B.length
      · obtain ⟨g, off, rfl⟩ := RE.addr HV.out (by omega)
        have q0 := RE.cell ucl_len HV.out hin (j := 0) (by omega) rfl
        have hgl : g < w.heap.size := World.block_lt_of_cell? _ _ q0
        have hb8 := H8.out _ (List.getElem_mem hin)
        have hTl : m < T.length := by rw [HT.out, List.length_take, List.length_drop]; omega
        have hTm : T[m] = B[at_ + m] := by simp [HT.out]
        have HST := hide (show leN (T.drop m) = B[at_ + m] + 256 * z from by rw [drop_step hTl, hTm, hz.out])
        generalize B[at_ + m] = b at q0 hb8 HST
        simp only [Nat.mul_one, Nat.add_zero] at q0
        have hw2 : IntKind.u64.wrap ((z : Int) * 256 + (b : Int)) = (z : Int) * 256 + (b : Int) := by rw [IntKind.wrap_u64]; omega
        have hw3 : IntKind.u64.wrap (b : Int) = (b : Int) := by rw [IntKind.wrap_u64]; omega
        have d1 : decide ((at_ : Int) + (m : Int) < (B.length : Int)) = true := decide_eq_true (by omega)
        have d2 : (0 : Int) ≤ (at_ : Int) + (m : Int) := by omega
        have d3 : (at_ : Int) + (m : Int) < (B.length : Int) := by omega
        have d4 : ((at_ : Int) + (m : Int)).toNat = at_ + m := by omega
        have HZ5 := hide (show (z : Int) * 256 + (b : Int) = ((leN (T.drop m) : Nat) : Int) from by rw [HST.out]; omega)
        have hin' := hide hin
        clear hTl hTm hzb hb8 hin hsm
        go_wp2_with fail
        go_roundw
        case rel => exact ⟨m, leN (T.drop m), by omega, by first | rw [HZ5.out] | (rw [hw3, hw2, HZ5.out]), by go_num, hide rfl, trivial⟩
        case measure => simp [intOf]
      · have hz0 : z = 0 := by rw [hz.out, List.drop_eq_nil_of_le (by rw [HT.out, List.length_take, List.length_drop]; omega)]; rfl
        have HZ5 := hide (show leN (T.drop m) = 0 from by rw [List.drop_eq_nil_of_le (by rw [HT.out, List.length_take, List.length_drop]; omega)]; rfl)
        have d1 : decide ((at_ : Int) + (m : Int) < (B.length : Int)) = false := decide_eq_false (by omega)
        have d3 : ¬ (at_ : Int) + (m : Int) < (B.length : Int) := by omega
        subst hz0
        clear hzb hin hsm hw1 d3
        go_wp2_with fail
        go_roundw
        case rel => exact ⟨m, 0, by omega, by simp, by go_num, hide HZ5.out.symm, trivial⟩
        case measure => simp [intOf]
    · obtain rfl : j = 0 := by omega
      go_wp2_with fail
      go_ret
      exact ⟨by rw [HR.out, hz.out]; rfl, rfl⟩
end Go.Proofs.YtinlpjgjjplceaaDoor
