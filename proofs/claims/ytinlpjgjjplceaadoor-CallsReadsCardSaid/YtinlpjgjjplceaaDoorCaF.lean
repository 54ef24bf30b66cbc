/- put, word: whole numbers behind bytes. -/
import Derived.Test.YtinlpjgjjplceaaDoorCaB
namespace Go.Proofs.YtinlpjgjjplceaaDoor
open Go Go.RowKit

theorem snoc_le8 (B : List Nat) (x : Nat) {j : Nat} (hj : j < 8) : B ++ (le8 x).take (j + 1) = B ++ (le8 x).take j ++ [x / 2 ^ (8 * j) % 256] := by
  rw [List.append_assoc]
  congr 1
  have h := le8_get x hj
  have hl : j < (le8 x).length := by rw [le8_length]; exact hj
  rw [List.getElem?_eq_getElem hl] at h
  rw [List.take_succ_eq_append_getElem hl, Option.some.inj h]
theorem flat8 : ∀ L : List Nat, (L.flatMap le8).length = 8 * L.length
  | [] => rfl
  | x :: L => by rw [List.flatMap_cons, List.length_append, flat8 L, le8_length, List.length_cons]; omega
set_option maxRecDepth 20000 in
set_option maxHeartbeats 4000000 in
theorem put_any {w : World} {v u : Value} {B L : List Nat} (hv : SB w v B) (hu : RW w u L) (hd : Dj v u) (hL : ∀ x ∈ L, x < 18446744073709551616) (hlen : B.length + 8 * L.length ≤ 100000) :
    Calls Tryd.prog 42 #[v, u] w fun e w' => ∃ A n c, e = .returned (.slice A n c) ∧ SB w' (.slice A n c) (B ++ L.flatMap le8) ∧ Chg (own v) w w' ∧ Grow w v (.slice A n c) := by
  obtain ⟨A0, c0, rfl⟩ := SE.form hv
  obtain ⟨A1, c1, rfl⟩ := RE.form hu
  have HV := hide hv
  have HU := hide hu
  have HD := hide hd
  have HL := hide hL
  have HLEN := hide hlen
  have hl1 : (L.length : Int) ≤ 100000 := by omega
  clear hv hu hd hL hlen
  go_enter Tryd.func42, Tryd.ntmps42
  go_wp2_with fail
  go_loopw [0, 10] (fun t i wr => ∃ (k : Nat) (A : Option Addr) (n c : Nat), k ≤ L.length ∧ t = .slice A n c ∧ i = .int .i64 k ∧ Hid (SB wr (.slice A n c) (B ++ (L.take k).flatMap le8)) ∧ Hid (Chg (own (.slice A0 B.length c0)) w wr) ∧ Hid (Grow w (.slice A0 B.length c0) (.slice A n c))) (fun _ i _ => L.length - (intOf i).toNat)
  case atStart => exact ⟨0, A0, B.length, c0, by omega, rfl, rfl, hide (by simpa using HV.out), hide (Chg.refl _ _), hide (Grow.refl _ _)⟩
  case round =>
    obtain ⟨k, A, n, c, hk, rfl, rfl, hs, hc, hg⟩ := hrel
    by_cases hkl : k < L.length
    · have hur := HU.out.chg hc.out (fun i hi hj => HD.out i hj hi)
      obtain ⟨g1, o1, rfl⟩ := RE.addr hur (by omega)
      have q0 := RE.cell wcl_len hur hkl (j := 0) (by omega) rfl
      have hgl : g1 < wr.heap.size := World.block_lt_of_cell? _ _ q0
      have hx := HL.out _ (List.getElem_mem hkl)
      have HT := hide (show (L.take (k + 1)).flatMap le8 = (L.take k).flatMap le8 ++ le8 L[k] from by rw [List.take_succ_eq_append_getElem hkl, List.flatMap_append]; simp)
      have HB := hide (show (B ++ (L.take k).flatMap le8).length + 8 ≤ 100000 from by
        have h1 : ((L.take k).flatMap le8).length = 8 * k := by rw [flat8, List.length_take]; omega
        rw [List.length_append, h1]
        have := HLEN.out
        omega)
      generalize L[k] = x at q0 hx HT
      obtain ⟨B1, hB1⟩ : ∃ B1, B ++ (L.take k).flatMap le8 = B1 := ⟨_, rfl⟩
      rw [hB1] at hs HB
      have HB1 := hide hB1
      clear hB1
      simp only [Nat.mul_one, Nat.add_zero] at q0
      have i0 : (0 : Int) ≤ (k : Int) := by omega
      have i1 : (k : Int) < (L.length : Int) := by omega
      have x0 : (0 : Int) ≤ (x : Int) := by omega
      have x1 : (x : Int) < 18446744073709551616 := by omega
      clear hur
      go_wp2_with fail
      go_loopw [0, 7] (fun t i W => ∃ (j : Nat) (A' : Option Addr) (n' c' : Nat), j ≤ 8 ∧ t = .slice A' n' c' ∧ i = .int .i64 ((8 * j : Nat) : Int) ∧ Hid (SB W (.slice A' n' c') (B1 ++ (le8 x).take j)) ∧ Hid (Chg (own (.slice A n c)) wr W) ∧ Hid (Grow wr (.slice A n c) (.slice A' n' c'))) (fun _ i _ => 64 - (intOf i).toNat)
      case atStart => exact ⟨0, A, n, c, by omega, rfl, rfl, hide (by simpa using hs.out), hide (Chg.refl _ _), hide (Grow.refl _ _)⟩
      case round =>
        obtain ⟨j, A2, n2, c2, hj, rfl, rfl, hs2, hc2, hg2⟩ := hrel
        by_cases hj8 : j < 8
        · have j0 : (0 : Int) ≤ (j : Int) := by omega
          have j1 : (j : Int) < 8 := by omega
          have HS2 := hide (snoc_le8 B1 x hj8)
          have HLN := hide (show (B1 ++ (le8 x).take j).length + [x / 2 ^ (8 * j) % 256].length ≤ 1000000 from by
            have := HB.out
            rw [List.length_append, List.length_take, le8_length]
            simp; omega)
          have j2 : 8 * (j : Int) < 64 := by omega
          have j3 : (0 : Int) ≤ 8 * (j : Int) := by omega
          have HZ := hide (show (x : Int) / 2 ^ (8 * j) % 256 = ((x / 2 ^ (8 * j) % 256 : Nat) : Int) by push_cast; rfl)
          clear hx hl1 q0 x0 x1
          go_wp2_with (at_builtin; refine wpList_append_b rfl _ _ rfl (.slice A2 n2 c2) _ rfl rfl (l := B1 ++ (le8 x).take j) (m := [x / 2 ^ (8 * j) % 256]) (hs2.out.stay ((Chg.refl [] wr).alloc _)) (by rw [HZ.out]; exact RB_one wr _) HLN.out ?_; intro A9 n9 c9 W9 hn9 hs9 hc9 hg9)
          go_roundw
          case rel => exact ⟨j + 1, A9, n9, c9, by omega, rfl, by go_num, hide (by rw [HS2.out]; exact hs9), hide ((hc2.out.alloc _).trans hc9 (fun i hi => hg2.out i hi)), hide (hg2.out.trans hg9 (by have := hc2.out.size; simp; omega))⟩
          case measure => simp [intOf]; omega
        · obtain rfl : j = 8 := by omega
          have HS3 := hide (show SB wr (.slice A2 n2 c2) (B1 ++ le8 x) from by have := hs2.out; rwa [List.take_of_length_le (by rw [le8_length]; omega)] at this)
          clear hx q0 x0 x1
          go_wp2_with fail
          go_roundw
          case rel => exact ⟨k + 1, A2, n2, c2, by omega, rfl, by go_num, hide (by rw [HT.out, ← List.append_assoc, HB1.out]; exact HS3.out), hide (hc.out.trans hc2.out (fun i hi => hg.out i hi)), hide (hg.out.trans hg2.out hc.out.size)⟩
          case measure => simp [intOf]; omega
    · obtain rfl : k = L.length := by omega
      rw [List.take_length] at hs
      go_wp2_with fail
      go_ret
      exact ⟨A, n, c, rfl, hs.out, hc.out, hg.out⟩
end Go.Proofs.YtinlpjgjjplceaaDoor
