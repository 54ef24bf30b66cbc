/- The document's Bytes. -/
import Derived.Test.YtinlpjgjjplceaaDoorCbB
import Derived.Deep.CutRange
import Derived.Deep.CutBlock
namespace Go.Proofs.YtinlpjgjjplceaaDoor
open Go Go.RowKit

theorem RW_cap {w : World} {A : Option Addr} {n c : Nat} {l : List Nat} (h : RW w (.slice A n c) l) : n = l.length ∧ l.length ≤ c := by
  obtain ⟨_, A2, c2, e2, hle, _⟩ := h
  injection e2 with _ e4 e3
  subst e3
  exact ⟨e4, hle⟩
theorem refL_short (x : Cl) : (refL x).length ≤ 8 := by
  have h : ∀ F : List Nat, (F.flatMap (numsF x)).length ≤ F.length * 2 := by
    intro F
    induction F with
    | nil => simp
    | cons f F ih =>
      have := numsF_len x f
      rw [List.flatMap_cons, List.length_append, List.length_cons]
      omega
  have h1 := h (fld x.k)
  have h2 := fld_len x.k
  unfold refL
  omega
set_option maxRecDepth 20000 in
set_option maxHeartbeats 40000000 in
theorem rBytes_any {w : World} {x : Cl} {v : Value} (hx : x.Ok) (hlen : x.l.length ≤ 100000) (hv : RB w v x.l) :
    Calls Tryd.prog 20 #[.agg (clc x v)] w fun e w' => NewB w w' (encR x) e ∧ Chg [] w w' := by
  obtain ⟨A0, c0, rfl⟩ := RE.form hv
  obtain ⟨W2, hW2⟩ : ∃ W2, W2 = w.alloc (.cells (clc x (.slice A0 x.l.length c0)) 34) := ⟨_, rfl⟩
  have hb1 : KB W2 w.heap.size x (.slice A0 x.l.length c0) := by rw [hW2]; exact Blk.new w 34 _
  have hc1 : Chg [] w W2 := by rw [hW2]; exact (Chg.refl [] w).alloc _
  have hE : encR x = le8 x.k ++ (refL x).flatMap le8 ++ (if hasBy x.k then le8 x.l.length ++ x.l else []) := rfl
  have h64 := refL_lt hx
  have hsh := refL_short x
  have hLL := List_any (w := W2) hx A0 x.l.length c0
  unfold ListR at hLL
  obtain ⟨E, hEE⟩ : ∃ E, E = encR x := ⟨_, rfl⟩
  rw [← hEE]
  rw [hE] at hEE
  clear hE
  have HB := hide hb1
  have HC := hide hc1
  have HW2 := hide hW2
  have HX := hide hx
  have HV := hide hv
  have HLN := hide hlen
  generalize isK x.k = ik at hLL
  generalize hasBy x.k = hb at hLL hEE
  generalize refL x = L at hLL hEE h64 hsh
  have HLL := hide hLL
  have HEE := hide hEE
  have H64 := hide h64
  have hkk : IntKind.u64.wrap (x.k : Int) = (x.k : Int) := by rw [IntKind.wrap_u64]; have := hx.k; omega
  have hk2 : IntKind.u64.wrap (x.l.length : Int) = (x.l.length : Int) := by rw [IntKind.wrap_u64]; omega
  have hl1 : (L.length : Int) ≤ 8 := by omega
  have HSH := hide hsh
  clear hv hx hlen hb1 hc1 hW2 hLL hEE h64 hsh
  go_enter Tryd.func20, Tryd.ntmps20
  go_wp2_with (first | (refine wpList_box34 rfl _ rfl rfl ?_; try rw [← HW2.out]) | (refine wpList_load34 rfl _ rfl rfl HB.out ?_))
  refine HLL.out.mono ?_
  rintro e W3 ⟨⟨A3, n3, c3, rfl, hs3, -⟩, hc3⟩
  have n3l : n3 = L.length := (RW_cap hs3.re).1
  subst n3l
  have HS3 := hide hs3.re
  have HB3 := hide (KB.stay HB.out hc3)
  have HC3 := hide (HC.out.stay hc3)
  clear hs3 hc3 HB HC
  obtain ⟨b1, e1⟩ : ∃ b, b = w.heap.size := ⟨_, rfl⟩
  rw [← e1] at HB3 ⊢
  have HE1 := hide e1
  clear e1
  obtain ⟨q0, -, -, -, -, -, -, -, -, -, -, q11, ql, -⟩ := KB.cells HB3.out
  go_wp2_with fail
  refine (word_any W3 (x := x.k) (by have := HX.out.k; omega)).mono ?_
  rintro e W4 ⟨⟨A4, n4, c4, rfl, hs4, hf4⟩, hc4⟩
  have HS4 := hide hs4
  have HF4 := hide hf4
  have HC4 := hide hc4
  clear hs4 hf4 hc4 q0 q11 ql
  go_wp2_with fail
  go_loopw [6, 7] (fun t i wr => ∃ (k : Nat) (A : Option Addr) (n c : Nat), k ≤ L.length ∧ t = .slice A n c ∧ i = .int .i64 k ∧ Hid (SB wr (.slice A n c) (le8 x.k ++ (L.take k).flatMap le8)) ∧ Hid (∀ k ∈ own (.slice A n c), W3.heap.size ≤ k) ∧ Hid (Chg [] W3 wr)) (fun _ i _ => L.length - (intOf i).toNat)
  case atStart => exact ⟨0, A4, n4, c4, by omega, rfl, rfl, hide (by simpa using HS4.out), hide HF4.out, hide HC4.out⟩
  case round =>
    obtain ⟨k, A, n, c, hk, rfl, rfl, hs, hn, hc⟩ := hrel
    by_cases hkl : k < L.length
    · have hur := HS3.out.stay hc.out
      obtain ⟨g1, o1, rfl⟩ := RE.addr hur (by omega)
      have q0 := RE.cell wcl_len hur hkl (j := 0) (by omega) rfl
      have hgl : g1 < wr.heap.size := World.block_lt_of_cell? _ _ q0
      have hx := H64.out _ (List.getElem_mem hkl)
      have HT := hide (show (L.take (k + 1)).flatMap le8 = (L.take k).flatMap le8 ++ le8 L[k] from by rw [List.take_succ_eq_append_getElem hkl, List.flatMap_append]; simp)
      have HBL := hide (show (le8 x.k ++ (L.take k).flatMap le8).length + 8 ≤ 1000000 from by
        have h1 : ((L.take k).flatMap le8).length = 8 * k := by rw [flat8, List.length_take]; omega
        rw [List.length_append, h1, le8_length]
        have := HSH.out
        omega)
      generalize L[k] = y at q0 hx HT
      simp only [Nat.mul_one, Nat.add_zero] at q0
      have i0 : (0 : Int) ≤ (k : Int) := by omega
      have i1 : (k : Int) < (L.length : Int) := by omega
      have HY := hide hx
      clear hur hx hkk hk2
      go_wp2_with fail
      refine (word_any wr HY.out).mono ?_
      rintro e W5 ⟨⟨A5, n5, c5, rfl, hs5, hf5⟩, hc5⟩
      have HS5 := hide (hs.out.stay hc5)
      have HT5 := hide hs5
      have HC5 := hide hc5
      have HL5 := hide (show (le8 x.k ++ (L.take k).flatMap le8).length + (le8 y).length ≤ 1000000 from by rw [le8_length]; exact HBL.out)
      clear hs5 hf5 hc5
      go_wp2_with (at_builtin; refine wpList_append_b rfl _ _ rfl (.slice A n c) (.slice A5 n5 c5) rfl rfl HS5.out HT5.out.re HL5.out ?_; intro A9 n9 c9 W9 hn9 hs9 hc9 hg9)
      go_roundw
      case rel => exact ⟨k + 1, A9, n9, c9, by omega, rfl, by go_num, hide (by rw [HT.out, ← List.append_assoc]; exact hs9), hide (fun i hi => (hg9 i hi).elim (hn.out i) (fun h => by have := hc.out.size; have := HC5.out.size; omega)), hide ((hc.out.stay HC5.out).trans hc9 (fun i hi => .inr (hn.out i hi)))⟩
      case measure => simp [intOf]; omega
    · obtain rfl : k = L.length := by omega
      rw [List.take_length] at hs
      have HBr := hide (KB.stay HB3.out hc.out)
      have HLa := hide (show (le8 x.k ++ L.flatMap le8).length ≤ 1000 from by rw [List.length_append, flat8, le8_length]; have := HSH.out; omega)
      obtain ⟨q0, -, -, -, -, -, -, -, -, -, -, q11, ql, -⟩ := KB.cells HBr.out
      cases hb with
      | false =>
        go_wp2_with fail
        go_ret
        refine ⟨⟨A, n, c, rfl, ?_, fun k hk => Nat.le_trans HC3.out.size (hn.out k hk)⟩, HC3.out.stay hc.out⟩
        rw [HEE.out]
        simpa using hs.out
      | true =>
        go_wp2_with fail
        refine (word_any wr (x := x.l.length) (by have := HLN.out; omega)).mono ?_
        rintro e W5 ⟨⟨A5, n5, c5, rfl, hs5, hf5⟩, hc5⟩
        have HS5 := hide (hs.out.stay hc5)
        have HT5 := hide hs5
        have HC5 := hide (hc.out.stay hc5)
        have HB5 := hide (KB.stay HBr.out hc5)
        have HL5 := hide (show (le8 x.k ++ L.flatMap le8).length + (le8 x.l.length).length ≤ 1000000 from by rw [le8_length]; have := HLa.out; omega)
        clear hs5 hf5 hc5 q0 q11 ql
        obtain ⟨q0, -, -, -, -, -, -, -, -, -, -, q11, ql, -⟩ := KB.cells HB5.out
        go_upto_region 9 with (at_builtin; refine wpList_append_b rfl _ _ rfl (.slice A n c) (.slice A5 n5 c5) rfl rfl HS5.out HT5.out.re HL5.out ?_; intro A9 n9 c9 W9 hn9 hs9 hc9 hg9)
        have HC9 := hide (HC5.out.trans hc9 (fun i hi => .inr (hn.out i hi)))
        have HB9 := hide (KB.stay HB3.out HC9.out)
        have HF9 := hide (show ∀ k ∈ own (.slice A9 n9 c9), W3.heap.size ≤ k from fun i hi => (hg9 i hi).elim (hn.out i) (fun h => by have := HC5.out.size; omega))
        have HS9 := hide hs9
        have HV9 := hide (HV.out.stay (HC3.out.stay HC9.out))
        have HL9 := hide (show (le8 x.k ++ L.flatMap le8 ++ le8 x.l.length).length + x.l.length ≤ 1000000 from by rw [List.length_append, le8_length]; have := HLa.out; have := HLN.out; omega)
        clear hs9 hc9 hg9 hn9 q0 q11 ql
        obtain ⟨q0, -, -, -, -, -, -, -, -, -, -, q11, ql, -⟩ := KB.cells HB9.out
        go_wp2_with (at_builtin; refine wpList_append_b rfl _ _ rfl (.slice A9 n9 c9) (.slice A0 x.l.length c0) rfl rfl HS9.out HV9.out HL9.out ?_; intro A8 n8 c8 W8 hn8 hs8 hc8 hg8)
        go_ret
        have HF8 : ∀ k ∈ own (.slice A8 n8 c8), W3.heap.size ≤ k := fun i hi => (hg8 i hi).elim (HF9.out i) (fun h => by have := HC9.out.size; omega)
        refine ⟨⟨A8, n8, c8, rfl, ?_, fun k hk => Nat.le_trans HC3.out.size (HF8 k hk)⟩, HC3.out.stay (HC9.out.trans hc8 (fun i hi => .inr (HF9.out i hi)))⟩
        have e : E = le8 x.k ++ L.flatMap le8 ++ le8 x.l.length ++ x.l := by rw [HEE.out]; simp
        rw [e]
        exact hs8
end Go.Proofs.YtinlpjgjjplceaaDoor
