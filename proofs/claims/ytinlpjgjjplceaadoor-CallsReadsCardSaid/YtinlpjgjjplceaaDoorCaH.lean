/- Bytes: the form of a call. -/
import Derived.Test.YtinlpjgjjplceaaDoorCaE
import Derived.Test.YtinlpjgjjplceaaDoorCaG
namespace Go.Proofs.YtinlpjgjjplceaaDoor
open Go Go.RowKit

/-- an int as a word, and back -/
def wd64 (z : Int) : Nat := (z % 18446744073709551616).toNat
def iw64 (n : Nat) : Int := if n < 9223372036854775808 then (n : Int) else (n : Int) - 18446744073709551616
theorem wd64_lt (z : Int) : wd64 z < 18446744073709551616 := by unfold wd64; omega
theorem iw_wd {z : Int} (h1 : -9223372036854775808 ≤ z) (h2 : z ≤ 9223372036854775807) : iw64 (wd64 z) = z := by unfold iw64 wd64; split <;> omega
theorem wd_iw {n : Nat} (h : n < 18446744073709551616) : wd64 (iw64 n) = n := by unfold iw64 wd64; split <;> omega
theorem iw64_in {n : Nat} (h : n < 18446744073709551616) : -9223372036854775808 ≤ iw64 n ∧ iw64 n ≤ 9223372036854775807 := by unfold iw64; split <;> omega
/-- a field's whole numbers; its bytes -/
def numsF (x : Cl) (f : Nat) : List Nat :=
  if f = 112 then [wd64 x.p] else if f = 103 then [wd64 x.g] else if f = 99 then [wd64 x.c] else if f = 110 then [wd64 x.n] else if f = 97 then [wd64 x.a] else if f = 115 then [wd64 x.s]
  else if f = 114 then [x.r] else if f = 111 then [x.ok, x.om] else if f = 104 then [x.h] else []
def encF (x : Cl) (f : Nat) : List Nat := if f = 98 then le8 x.l.length ++ x.l else (numsF x f).flatMap le8
def encC (x : Cl) : List Nat := le8 x.k ++ (fld x.k).flatMap (encF x)
theorem numsF_len (x : Cl) (f : Nat) : (numsF x f).length ≤ 2 := by
  unfold numsF
  repeat' split
  all_goals simp
theorem encF_len (x : Cl) (f : Nat) : (encF x f).length ≤ 16 + x.l.length := by
  unfold encF
  split
  · rw [List.length_append, le8_length]; omega
  · rw [flat8]; have := numsF_len x f; omega
theorem enc_len (x : Cl) : ∀ F : List Nat, (F.flatMap (encF x)).length ≤ F.length * (16 + x.l.length)
  | [] => by simp
  | f :: F => by
    rw [List.flatMap_cons, List.length_append, List.length_cons, Nat.add_mul]
    have h1 := enc_len x F
    have h2 := encF_len x f
    omega
theorem RW_one (w : World) (k : Nat) : RW (w.alloc (.cells #[.int .u64 (k : Nat)] 31)) (.slice (some ⟨w.heap.size, 0, none⟩) 1 1) [k] := Rd_new w 31 1 1 [.int .u64 k] rfl
theorem RW_two (w : World) (k m : Nat) : RW (w.alloc (.cells #[.int .u64 (k : Nat), .int .u64 (m : Nat)] 31)) (.slice (some ⟨w.heap.size, 0, none⟩) 2 2) [k, m] := Rd_new w 31 1 2 [.int .u64 k, .int .u64 m] rfl
theorem wrap_u64_of (z : Int) : IntKind.u64.wrap z = ((wd64 z : Nat) : Int) := by
  rw [IntKind.wrap_u64]
  unfold wd64
  omega
theorem SB.kind {w : World} {v : Value} {l : List Nat} (h : SB w v l) {k : Nat} (hk : k ∈ own v) : ∃ cur, Blk w k 5 cur := Sl.blk h hk
theorem SB.not_call {w : World} {v u : Value} {l : List Nat} {b : Nat} {x : Cl} (h : SB w v l) (hb : KB w b x u) : b ∉ own v := fun hk => by
  obtain ⟨cur, hc⟩ := h.kind hk
  exact Blk.ne_ hb hc (by decide) rfl
theorem SB.not_itr {w : World} {v : Value} {l F : List Nat} {b j : Nat} (h : SB w v l) (hb : Itr w b F j) : b ∉ own v := fun hk => by
  obtain ⟨cur, hc⟩ := h.kind hk
  have h1 : w.heap[b]? = _ := hc
  rw [show w.heap[b]? = _ from hb] at h1
  cases h1
theorem wp_append_b {o : Oper} {a : Act} {w : World} {K : Act → World → Prop} {Q : Exit → Act → World → Prop} (s x : Operand)
    (ho : o.op = .call { callee := .builtin .append, args := #[s, x], argTypes := #[32, 32] }) (v y : Value) (hs : a.eval s = v) (hx : a.eval x = y) {l m : List Nat} (hv : SB w v l) (hy : RB w y m) (hlen : l.length + m.length ≤ 1000000)
    (h : ∀ A n c w', Hid (n = (l ++ m).length) → SB w' (.slice A n c) (l ++ m) → Chg (own v) w w' → Grow w v (.slice A n c) → K (a.put o.dst (.slice A n c)) w') : o.wp Tryd.prog a w K Q := by
  obtain ⟨i5, hi, hz, hi1, hi2⟩ := info_parts info5b
  refine wp_append_sl s x 32 ho 5 Tryd.underlying32 hi hz hi1 hi2 rfl hs hv hx hy (ucl_one m) (by unfold maxLen; omega) (by omega) fun v' w' h2 h3 h4 => ?_
  have h2' : SB w' v' (l ++ m) := by
    unfold SB SE
    rw [List.length_append, fc_append]
    exact h2
  obtain ⟨A, c, rfl⟩ := h2'.form
  exact h A _ c w' rfl h2' h3 (grow_of h4)
/-- numbers behind a slice of the call's own -/
theorem put_new {w : World} {v : Value} {B L : List Nat} {cs : Array Value} (hv : SB w v B) (hcs : RW (w.alloc (.cells cs 31)) (.slice (some ⟨w.heap.size, 0, none⟩) L.length L.length) L) (hL : ∀ x ∈ L, x < 18446744073709551616) (hlen : B.length + 8 * L.length ≤ 100000) :
    Calls Tryd.prog 42 #[v, .slice (some ⟨w.heap.size, 0, none⟩) L.length L.length] (w.alloc (.cells cs 31)) fun e w' => ∃ A n c, e = .returned (.slice A n c) ∧ SB w' (.slice A n c) (B ++ L.flatMap le8) ∧ Chg (own v) w w' ∧ Grow w v (.slice A n c) := by
  refine (put_any (hv.stay ((Chg.refl [] w).alloc _)) hcs (fun k hk hk' => ?_) hL hlen).mono ?_
  · have h1 := hv.own_lt k hk
    simp [own, Value.ownBlock] at hk'
    omega
  · rintro e w' ⟨A, n, c, he, hs, hc, hg⟩
    exact ⟨A, n, c, he, hs, ((Chg.refl [] w).alloc _).then_ hc, hg.of_le (by simp)⟩
def BytesR (w w' : World) (x : Cl) (e : Ending) : Prop := mayK x = false ∧ e = .returned (.tuple #[.slice none 0 0, .int .i64 2]) ∨ mayK x = true ∧ ∃ A n c, e = .returned (.tuple #[.slice A n c, .int .i64 0]) ∧ SB w' (.slice A n c) (encC x) ∧ ∀ k ∈ own (.slice A n c), w.heap.size ≤ k
set_option maxRecDepth 20000 in
set_option maxHeartbeats 40000000 in
theorem Bytes_any {w : World} (hf : FW w) {x : Cl} {v : Value} (hx : x.Ok) (hv : RB w v x.l) :
    Calls Tryd.prog 15 #[.agg (clc x v)] w fun e w' => BytesR w w' x e ∧ Chg [] w w' := by
  obtain ⟨A0, c0, rfl⟩ := RE.form hv
  obtain ⟨W2, hW2⟩ : ∃ W2, W2 = w.alloc (.cells (clc x (.slice A0 x.l.length c0)) 34) := ⟨_, rfl⟩
  have hb1 : KB W2 w.heap.size x (.slice A0 x.l.length c0) := by rw [hW2]; exact Blk.new w 34 _
  have hc1 : Chg [] w W2 := by rw [hW2]; exact (Chg.refl [] w).alloc _
  have HM := hide (MayK_any (hf.stay hc1) hx (hv.stay hc1))
  have HB := hide hb1
  have HC := hide hc1
  have HW2 := hide hW2
  have HF := hide hf
  have HX := hide hx
  have HV := hide hv
  clear hf hv hb1 hc1 hW2 hx
  unfold BytesR
  cases hm : mayK x with
  | false =>
    rw [hm] at HM
    clear hm
    go_enter Tryd.func15, Tryd.ntmps15
    go_wp2_with (first | (refine wpList_box34 rfl _ rfl rfl ?_; try rw [← HW2.out]) | (refine wpList_load34 rfl _ rfl rfl HB.out ?_))
    refine HM.out.mono ?_
    rintro e W3 ⟨rfl, hc3⟩
    go_wp2_with fail
    go_ret2
    exact ⟨.inl ⟨by trivial, rfl⟩, HC.out.stay hc3⟩
  | true =>
    rw [hm] at HM
    have hl8 : x.l.length ≤ 8 := by
      unfold mayK at hm
      simp at hm
      exact hm.2
    clear hm
    have HL8 := hide hl8
    clear hl8
    obtain ⟨b1, hb1⟩ : ∃ b, b = w.heap.size := ⟨_, rfl⟩
    have HOF := fun W (h : Chg [] w W) => of_any (HF.out.stay h) HX.out.k
    have HFM := hide (fun f (h : f ∈ fld x.k) => fld_mem h)
    have HFL := hide (fld_len x.k)
    unfold encC
    generalize fld x.k = F at HOF HFM HFL ⊢
    have HOF := hide HOF
    go_enter Tryd.func15, Tryd.ntmps15
    go_wp2_with (first | (refine wpList_box34 rfl _ rfl rfl ?_; try rw [← HW2.out]) | (refine wpList_load34 rfl _ rfl rfl HB.out ?_))
    refine HM.out.mono ?_
    rintro e W3 ⟨rfl, hc3⟩
    have HB := hide (show KB W3 b1 x (.slice A0 x.l.length c0) from by rw [hb1]; exact KB.stay HB.out hc3)
    have HC3 := hide (HC.out.stay hc3)
    rw [← hb1]
    have H1 := hide hb1
    clear hc3 hb1
    obtain ⟨c1, c2, c3, c4, c5, c6, c7, c8, c9, c10, c11, c12, cl, cf⟩ := KB.cells HB.out
    have hwk : IntKind.u64.wrap (x.k : Int) = (x.k : Int) := by rw [IntKind.wrap_u64]; have := HX.out.k; omega
    have HP := hide (put_new (w := W3) (SE.nil ucl 1 5 W3) (RW_one W3 x.k) (by intro y hy; obtain rfl := List.mem_singleton.1 hy; have := HX.out.k; omega) (by simp))
    clear c2 c3 c4 c5 c6 c7 c8 c9 c10 c11 c12 cf
    go_wp2_with fail
    refine HP.out.mono ?_
    rintro e W4 ⟨A4, n4, k4, rfl, hs4, hc4, hg4⟩
    have hc34 : Chg [] W3 W4 := hc4.mono (fun y hy => (own_nil hy).elim)
    have HS4 := hide (show SB W4 (.slice A4 n4 k4) (le8 x.k) from by simpa using hs4)
    have HN4 := hide (show ∀ k ∈ own (.slice A4 n4 k4), w.heap.size ≤ k from fun k hk => (hg4 k hk).elim (fun h => (own_nil h).elim) (fun h => Nat.le_trans HC3.out.size h))
    have HB4 := hide (show KB W4 b1 x (.slice A0 x.l.length c0) from KB.stay HB.out hc34)
    have HC4 := hide (HC3.out.stay hc34)
    obtain ⟨c1, -, -, -, -, -, -, -, -, -, -, -, cl, -⟩ := KB.cells HB4.out
    clear hs4 hc4 hg4 hc34 HB HP hwk HC3
    go_wp2_with fail
    refine (HOF.out W4 HC4.out).mono ?_
    rintro e W5 ⟨rfl, rfl⟩
    have hci := chg_iter W4 (strB F)
    have HI := hide (Itr.new W4 F)
    have HS5 := hide (show SB (W4.iter (strB F) 0) (.slice A4 n4 k4) (le8 x.k ++ (F.take 0).flatMap (encF x)) from by simpa using HS4.out.stay hci)
    have HB5 := hide (show KB (W4.iter (strB F) 0) b1 x (.slice A0 x.l.length c0) from KB.stay HB4.out hci)
    have HC5 := hide (HC4.out.stay hci)
    have HSZ := hide (And.intro HC4.out.size HB4.out.lt)
    clear hci HS4 HB4 HC4 c1 cl
    go_wp2_with fail
    obtain ⟨W6, hW6⟩ : ∃ W6, W6 = W4.iter (strB F) 0 := ⟨_, rfl⟩
    obtain ⟨bi, hbi⟩ : ∃ b, b = W4.heap.size := ⟨_, rfl⟩
    have HBI := hide (show w.heap.size ≤ bi ∧ b1 ≠ bi from by have := HSZ.out; omega)
    rw [← hW6] at HI HS5 HB5 HC5 ⊢
    rw [← hbi] at HI ⊢
    clear hW6 hbi
    go_loopw [4] (fun t wr => ∃ (j : Nat) (A : Option Addr) (n c : Nat), j ≤ F.length ∧ t = .slice A n c ∧ Hid (SB wr (.slice A n c) (le8 x.k ++ (F.take j).flatMap (encF x))) ∧ Hid (∀ k ∈ own (.slice A n c), w.heap.size ≤ k) ∧ Hid (KB wr b1 x (.slice A0 x.l.length c0)) ∧ Hid (Itr wr bi F j) ∧ Hid (Chg [] w wr)) (fun _ wr => F.length - wr.iterPos bi)
    case atStart => exact ⟨0, A4, n4, k4, by omega, rfl, HS5, HN4, HB5, HI, HC5⟩
    case round =>
      obtain ⟨j, A, n, c, hj, rfl, hs, hn, hb, hi, hc⟩ := hrel
      by_cases hlt : j < F.length
      · have hlet := HFM.out _ (List.getElem_mem hlt)
        obtain ⟨W1, hnx, hi1, hc1⟩ := hi.out.next hlt (letter_lt hlet)
        have hbi := hs.out.not_itr hi.out
        have K1 := hide (show KB W1 b1 x (.slice A0 x.l.length c0) from Blk.chg hb.out hc1 (by simpa using HBI.out.2))
        have KS := hide (show SB W1 (.slice A n c) (le8 x.k ++ (F.take j).flatMap (encF x)) from hs.out.chg hc1 (fun k hk hk' => hbi (by obtain rfl := List.mem_singleton.1 hk'; exact hk)))
        have KC := hide (hc.out.trans hc1 (fun y hy => .inr (by obtain rfl := List.mem_singleton.1 hy; exact HBI.out.1)))
        have KI := hide hi1
        have HT := hide (show (F.take (j + 1)).flatMap (encF x) = (F.take j).flatMap (encF x) ++ encF x F[j] from by rw [take_snoc hlt, List.flatMap_append]; simp)
        have HLN := hide (show (le8 x.k ++ (F.take j).flatMap (encF x)).length ≤ 200 from by
          have h1 := enc_len x (F.take j)
          have h2 : (F.take j).length ≤ 4 := by rw [List.length_take]; have := HFL.out; omega
          have h3 := HL8.out
          have h4 : (F.take j).length * (16 + x.l.length) ≤ 4 * 24 := Nat.mul_le_mul h2 (by omega)
          rw [List.length_append, le8_length]
          omega)
        have hm0 : wr.iterPos bi = j := hi.out.pos
        obtain ⟨c1, c2, c3, c4, c5, c6, c7, c8, c9, c10, c11, c12, cl, cf⟩ := K1.out.cells
        have HN1 := hide (fun W (h : b1 < W.heap.size) => number_any (w := W) h hlet)
        generalize F[j] = f at hlet hnx HT HN1
        obtain ⟨B1, hB1⟩ : ∃ B1, B1 = le8 x.k ++ (F.take j).flatMap (encF x) := ⟨_, rfl⟩
        rw [← hB1] at KS HLN
        have HB1 := hide hB1
        clear hi1 hc1 hbi hs hb hi hc hB1
        have hx := HX.out
        rcases hlet with rfl | rfl | rfl | rfl | rfl | rfl | rfl | rfl | rfl | rfl | rfl
        · simp only [numO, ptrO, reduceIte, Nat.reduceEqDiff, Option.isSome] at HN1

          have HT' := hide (show (F.take (j + 1)).flatMap (encF x) = (F.take j).flatMap (encF x) from by rw [HT.out]; simp [encF, numsF])
          clear hx
          go_wp2_with fail
          refine (HN1.out _ cl).mono ?_
          rintro e W9 ⟨rfl, rfl⟩
          go_wp2_with fail
          go_roundw
          case rel => exact ⟨j + 1, A, n, c, by omega, rfl, hide (by rw [HT'.out, ← HB1.out]; exact KS.out), hn, K1, KI, KC⟩
          case measure => rw [hm0, KI.out.pos]; omega
        · simp only [numO, ptrO, reduceIte, Nat.reduceEqDiff, Option.isSome] at HN1

          have HP := hide (put_new (w := W1) (L := [wd64 x.p]) KS.out (RW_one W1 (wd64 x.p)) (by intro y hy; obtain rfl := List.mem_singleton.1 hy; exact wd64_lt _) (by have := HLN.out; simp; omega))
          have HE : Hid (encF x 112 = ([wd64 x.p]).flatMap le8) := hide (by simp [encF, numsF])
          rw [HE.out] at HT
          have hw := wrap_u64_of x.p
          clear hx
          go_wp2_with fail
          refine (HN1.out _ cl).mono ?_
          rintro e W9 ⟨rfl, rfl⟩
          go_wp2_with fail
          refine HP.out.mono ?_
          rintro e W9 ⟨A9, n9, k9, rfl, hs9, hc9, hg9⟩

          have hc9' : Chg [] w W9 := KC.out.trans hc9 (fun y hy => .inr (hn.out y hy))
          go_wp2_with fail
          go_roundw
          case rel => exact ⟨j + 1, A9, n9, k9, by omega, rfl, hide (by rw [HT.out, ← List.append_assoc, ← HB1.out]; exact hs9), hide (fun k hk => (hg9 k hk).elim (hn.out k) (fun h => Nat.le_trans KC.out.size h)), hide (Blk.chg K1.out hc9 (SB.not_call KS.out K1.out)), hide (KI.out.chg hc9 (SB.not_itr KS.out KI.out)), hide hc9'⟩
          case measure => rw [hm0, (KI.out.chg hc9 (SB.not_itr KS.out KI.out)).pos]; omega
        · simp only [numO, ptrO, reduceIte, Nat.reduceEqDiff, Option.isSome] at HN1

          have HP := hide (put_new (w := W1) (L := [wd64 x.g]) KS.out (RW_one W1 (wd64 x.g)) (by intro y hy; obtain rfl := List.mem_singleton.1 hy; exact wd64_lt _) (by have := HLN.out; simp; omega))
          have HE : Hid (encF x 103 = ([wd64 x.g]).flatMap le8) := hide (by simp [encF, numsF])
          rw [HE.out] at HT
          have hw := wrap_u64_of x.g
          clear hx
          go_wp2_with fail
          refine (HN1.out _ cl).mono ?_
          rintro e W9 ⟨rfl, rfl⟩
          go_wp2_with fail
          refine HP.out.mono ?_
          rintro e W9 ⟨A9, n9, k9, rfl, hs9, hc9, hg9⟩

          have hc9' : Chg [] w W9 := KC.out.trans hc9 (fun y hy => .inr (hn.out y hy))
          go_wp2_with fail
          go_roundw
          case rel => exact ⟨j + 1, A9, n9, k9, by omega, rfl, hide (by rw [HT.out, ← List.append_assoc, ← HB1.out]; exact hs9), hide (fun k hk => (hg9 k hk).elim (hn.out k) (fun h => Nat.le_trans KC.out.size h)), hide (Blk.chg K1.out hc9 (SB.not_call KS.out K1.out)), hide (KI.out.chg hc9 (SB.not_itr KS.out KI.out)), hide hc9'⟩
          case measure => rw [hm0, (KI.out.chg hc9 (SB.not_itr KS.out KI.out)).pos]; omega
        · simp only [numO, ptrO, reduceIte, Nat.reduceEqDiff, Option.isSome] at HN1

          have HP := hide (put_new (w := W1) (L := [wd64 x.c]) KS.out (RW_one W1 (wd64 x.c)) (by intro y hy; obtain rfl := List.mem_singleton.1 hy; exact wd64_lt _) (by have := HLN.out; simp; omega))
          have HE : Hid (encF x 99 = ([wd64 x.c]).flatMap le8) := hide (by simp [encF, numsF])
          rw [HE.out] at HT
          have hw := wrap_u64_of x.c
          clear hx
          go_wp2_with fail
          refine (HN1.out _ cl).mono ?_
          rintro e W9 ⟨rfl, rfl⟩
          go_wp2_with fail
          refine HP.out.mono ?_
          rintro e W9 ⟨A9, n9, k9, rfl, hs9, hc9, hg9⟩

          have hc9' : Chg [] w W9 := KC.out.trans hc9 (fun y hy => .inr (hn.out y hy))
          go_wp2_with fail
          go_roundw
          case rel => exact ⟨j + 1, A9, n9, k9, by omega, rfl, hide (by rw [HT.out, ← List.append_assoc, ← HB1.out]; exact hs9), hide (fun k hk => (hg9 k hk).elim (hn.out k) (fun h => Nat.le_trans KC.out.size h)), hide (Blk.chg K1.out hc9 (SB.not_call KS.out K1.out)), hide (KI.out.chg hc9 (SB.not_itr KS.out KI.out)), hide hc9'⟩
          case measure => rw [hm0, (KI.out.chg hc9 (SB.not_itr KS.out KI.out)).pos]; omega
        · simp only [numO, ptrO, reduceIte, Nat.reduceEqDiff, Option.isSome] at HN1

          have HP := hide (put_new (w := W1) (L := [wd64 x.n]) KS.out (RW_one W1 (wd64 x.n)) (by intro y hy; obtain rfl := List.mem_singleton.1 hy; exact wd64_lt _) (by have := HLN.out; simp; omega))
          have HE : Hid (encF x 110 = ([wd64 x.n]).flatMap le8) := hide (by simp [encF, numsF])
          rw [HE.out] at HT
          have hw := wrap_u64_of x.n
          clear hx
          go_wp2_with fail
          refine (HN1.out _ cl).mono ?_
          rintro e W9 ⟨rfl, rfl⟩
          go_wp2_with fail
          refine HP.out.mono ?_
          rintro e W9 ⟨A9, n9, k9, rfl, hs9, hc9, hg9⟩

          have hc9' : Chg [] w W9 := KC.out.trans hc9 (fun y hy => .inr (hn.out y hy))
          go_wp2_with fail
          go_roundw
          case rel => exact ⟨j + 1, A9, n9, k9, by omega, rfl, hide (by rw [HT.out, ← List.append_assoc, ← HB1.out]; exact hs9), hide (fun k hk => (hg9 k hk).elim (hn.out k) (fun h => Nat.le_trans KC.out.size h)), hide (Blk.chg K1.out hc9 (SB.not_call KS.out K1.out)), hide (KI.out.chg hc9 (SB.not_itr KS.out KI.out)), hide hc9'⟩
          case measure => rw [hm0, (KI.out.chg hc9 (SB.not_itr KS.out KI.out)).pos]; omega
        · simp only [numO, ptrO, reduceIte, Nat.reduceEqDiff, Option.isSome] at HN1

          have HP := hide (put_new (w := W1) (L := [wd64 x.a]) KS.out (RW_one W1 (wd64 x.a)) (by intro y hy; obtain rfl := List.mem_singleton.1 hy; exact wd64_lt _) (by have := HLN.out; simp; omega))
          have HE : Hid (encF x 97 = ([wd64 x.a]).flatMap le8) := hide (by simp [encF, numsF])
          rw [HE.out] at HT
          have hw := wrap_u64_of x.a
          clear hx
          go_wp2_with fail
          refine (HN1.out _ cl).mono ?_
          rintro e W9 ⟨rfl, rfl⟩
          go_wp2_with fail
          refine HP.out.mono ?_
          rintro e W9 ⟨A9, n9, k9, rfl, hs9, hc9, hg9⟩

          have hc9' : Chg [] w W9 := KC.out.trans hc9 (fun y hy => .inr (hn.out y hy))
          go_wp2_with fail
          go_roundw
          case rel => exact ⟨j + 1, A9, n9, k9, by omega, rfl, hide (by rw [HT.out, ← List.append_assoc, ← HB1.out]; exact hs9), hide (fun k hk => (hg9 k hk).elim (hn.out k) (fun h => Nat.le_trans KC.out.size h)), hide (Blk.chg K1.out hc9 (SB.not_call KS.out K1.out)), hide (KI.out.chg hc9 (SB.not_itr KS.out KI.out)), hide hc9'⟩
          case measure => rw [hm0, (KI.out.chg hc9 (SB.not_itr KS.out KI.out)).pos]; omega
        · simp only [numO, ptrO, reduceIte, Nat.reduceEqDiff, Option.isSome] at HN1

          have HP := hide (put_new (w := W1) (L := [wd64 x.s]) KS.out (RW_one W1 (wd64 x.s)) (by intro y hy; obtain rfl := List.mem_singleton.1 hy; exact wd64_lt _) (by have := HLN.out; simp; omega))
          have HE : Hid (encF x 115 = ([wd64 x.s]).flatMap le8) := hide (by simp [encF, numsF])
          rw [HE.out] at HT
          have hw := wrap_u64_of x.s
          clear hx
          go_wp2_with fail
          refine (HN1.out _ cl).mono ?_
          rintro e W9 ⟨rfl, rfl⟩
          go_wp2_with fail
          refine HP.out.mono ?_
          rintro e W9 ⟨A9, n9, k9, rfl, hs9, hc9, hg9⟩

          have hc9' : Chg [] w W9 := KC.out.trans hc9 (fun y hy => .inr (hn.out y hy))
          go_wp2_with fail
          go_roundw
          case rel => exact ⟨j + 1, A9, n9, k9, by omega, rfl, hide (by rw [HT.out, ← List.append_assoc, ← HB1.out]; exact hs9), hide (fun k hk => (hg9 k hk).elim (hn.out k) (fun h => Nat.le_trans KC.out.size h)), hide (Blk.chg K1.out hc9 (SB.not_call KS.out K1.out)), hide (KI.out.chg hc9 (SB.not_itr KS.out KI.out)), hide hc9'⟩
          case measure => rw [hm0, (KI.out.chg hc9 (SB.not_itr KS.out KI.out)).pos]; omega
        · simp only [numO, ptrO, reduceIte, Nat.reduceEqDiff, Option.isSome] at HN1

          have HP := hide (put_new (w := W1) (L := [x.r]) KS.out (RW_one W1 x.r) (by intro y hy; obtain rfl := List.mem_singleton.1 hy; have := hx.r; omega) (by have := HLN.out; simp; omega))
          have HE : Hid (encF x 114 = ([x.r]).flatMap le8) := hide (by simp [encF, numsF])
          rw [HE.out] at HT
          have hw : IntKind.u64.wrap (x.r : Int) = (x.r : Int) := by rw [IntKind.wrap_u64]; have := hx.r; omega
          clear hx
          go_wp2_with fail
          refine (HN1.out _ cl).mono ?_
          rintro e W9 ⟨rfl, rfl⟩
          go_wp2_with fail
          refine HP.out.mono ?_
          rintro e W9 ⟨A9, n9, k9, rfl, hs9, hc9, hg9⟩

          have hc9' : Chg [] w W9 := KC.out.trans hc9 (fun y hy => .inr (hn.out y hy))
          go_wp2_with fail
          go_roundw
          case rel => exact ⟨j + 1, A9, n9, k9, by omega, rfl, hide (by rw [HT.out, ← List.append_assoc, ← HB1.out]; exact hs9), hide (fun k hk => (hg9 k hk).elim (hn.out k) (fun h => Nat.le_trans KC.out.size h)), hide (Blk.chg K1.out hc9 (SB.not_call KS.out K1.out)), hide (KI.out.chg hc9 (SB.not_itr KS.out KI.out)), hide hc9'⟩
          case measure => rw [hm0, (KI.out.chg hc9 (SB.not_itr KS.out KI.out)).pos]; omega
        · simp only [numO, ptrO, reduceIte, Nat.reduceEqDiff, Option.isSome] at HN1

          have HP := hide (put_new (w := W1) (L := [x.ok, x.om]) KS.out (RW_two W1 x.ok x.om) (by intro y hy; simp at hy; have := hx.ok; have := hx.om; omega) (by have := HLN.out; simp; omega))
          have HE : Hid (encF x 111 = ([x.ok, x.om]).flatMap le8) := hide (by simp [encF, numsF])
          rw [HE.out] at HT
          have hw : IntKind.u64.wrap (x.ok : Int) = (x.ok : Int) := by rw [IntKind.wrap_u64]; have := hx.ok; omega
          have hw2 : IntKind.u64.wrap (x.om : Int) = (x.om : Int) := by rw [IntKind.wrap_u64]; have := hx.om; omega
          clear hx
          go_wp2_with fail
          refine (HN1.out _ cl).mono ?_
          rintro e W9 ⟨rfl, rfl⟩
          go_wp2_with fail
          refine HP.out.mono ?_
          rintro e W9 ⟨A9, n9, k9, rfl, hs9, hc9, hg9⟩

          have hc9' : Chg [] w W9 := KC.out.trans hc9 (fun y hy => .inr (hn.out y hy))
          go_wp2_with fail
          go_roundw
          case rel => exact ⟨j + 1, A9, n9, k9, by omega, rfl, hide (by rw [HT.out, ← List.append_assoc, ← HB1.out]; exact hs9), hide (fun k hk => (hg9 k hk).elim (hn.out k) (fun h => Nat.le_trans KC.out.size h)), hide (Blk.chg K1.out hc9 (SB.not_call KS.out K1.out)), hide (KI.out.chg hc9 (SB.not_itr KS.out KI.out)), hide hc9'⟩
          case measure => rw [hm0, (KI.out.chg hc9 (SB.not_itr KS.out KI.out)).pos]; omega
        · simp only [numO, ptrO, reduceIte, Nat.reduceEqDiff, Option.isSome] at HN1

          have HP := hide (put_new (w := W1) (L := [x.h]) KS.out (RW_one W1 x.h) (by intro y hy; obtain rfl := List.mem_singleton.1 hy; exact hx.h) (by have := HLN.out; simp; omega))
          have HE : Hid (encF x 104 = ([x.h]).flatMap le8) := hide (by simp [encF, numsF])
          rw [HE.out] at HT
          clear hx
          go_wp2_with fail
          refine (HN1.out _ cl).mono ?_
          rintro e W9 ⟨rfl, rfl⟩
          go_wp2_with fail
          refine HP.out.mono ?_
          rintro e W9 ⟨A9, n9, k9, rfl, hs9, hc9, hg9⟩

          have hc9' : Chg [] w W9 := KC.out.trans hc9 (fun y hy => .inr (hn.out y hy))
          go_wp2_with fail
          go_roundw
          case rel => exact ⟨j + 1, A9, n9, k9, by omega, rfl, hide (by rw [HT.out, ← List.append_assoc, ← HB1.out]; exact hs9), hide (fun k hk => (hg9 k hk).elim (hn.out k) (fun h => Nat.le_trans KC.out.size h)), hide (Blk.chg K1.out hc9 (SB.not_call KS.out K1.out)), hide (KI.out.chg hc9 (SB.not_itr KS.out KI.out)), hide hc9'⟩
          case measure => rw [hm0, (KI.out.chg hc9 (SB.not_itr KS.out KI.out)).pos]; omega
        · simp only [numO, ptrO, reduceIte, Nat.reduceEqDiff, Option.isSome] at HN1

          have hw : IntKind.u64.wrap (x.l.length : Int) = (x.l.length : Int) := by rw [IntKind.wrap_u64]; have := HL8.out; omega
          have HE : Hid (encF x 98 = le8 x.l.length ++ x.l) := hide (by simp [encF])
          rw [HE.out] at HT
          have HP := hide (put_new (w := W1.drew) (L := [x.l.length]) (show SB W1.drew (.slice A n c) B1 from KS.out) (RW_one W1.drew x.l.length) (by intro y hy; obtain rfl := List.mem_singleton.1 hy; have := HL8.out; omega) (by have := HLN.out; simp; omega))
          clear hx
          go_wp2_with fail
          refine (HN1.out _ cl).mono ?_
          rintro e W9 ⟨rfl, rfl⟩
          go_wp2_with fail
          have hS : KB W1.drew b1 x (.slice A0 x.l.length c0) := K1.out.drew
          refine wp_region_t [0,0,1,0,0,6,6,0,5,3,0] [none, none, none, none, none, none, none, none, none, none, none] (fun W => KB W b1 x (.slice A0 x.l.length c0)) (by kernel_rfl) (by kernel_rfl) (by kernel_rfl) ?_
          go_wp2_with (first | fail | (refine wpG_calc rfl (fun K hK => ?_)) | (refine wpG_skip ?_ ?_; (focus (simp [wantG]; done)); go_simp) | (refine wpG_take ?_ ?_; (focus (simp [wantG]; done))) | (refine wpG_pure (fun K hK => ?_); go_simp; refine hK _ _ ?_; clear hK K) | (refine wpG_deed (by decide) (fun K hK => ?_); go_simp) | (refine wpG_nil ?_))
          (refine wpG_keeps hS (fun K hK => ?_))
          go_simp
          have hS2 : KB (W1.drew.alloc (.cells #[.int .u64 (x.l.length : Nat)] 31)) b1 x (.slice A0 x.l.length c0) := Blk.alloc hS _
          refine hK _ _ hS2 ?_
          clear hK K
          (refine wpG_keeps hS2 (fun K hK => ?_))
          go_simp
          refine HP.out.mono ?_
          rintro e W8 ⟨A8, n8, k8, rfl, hs8, hc8, hg8⟩
          have hS3 : KB W8 b1 x (.slice A0 x.l.length c0) := Blk.chg hS hc8 (SB.not_call (w := W1.drew) KS.out hS)
          refine hK _ _ hS3 ?_
          clear hK K hS hS2
          have HI8 := hide (show Itr W8 bi F (j + 1) from Itr.chg (w := W1.drew) KI.out hc8 (SB.not_itr KS.out KI.out))
          have HC8 := hide (show Chg [] w W8 from KC.out.drew.trans hc8 (fun y hy => .inr (hn.out y hy)))
          have HG8 := hide (show ∀ k ∈ own (.slice A8 n8 k8), w.heap.size ≤ k from fun k hk => (hg8 k hk).elim (hn.out k) (fun h => Nat.le_trans KC.out.size h))
          have HS8 := hide hs8
          have HVB := hide (HV.out.stay HC8.out)
          have HLB := hide (show (B1 ++ [x.l.length].flatMap le8).length + x.l.length ≤ 1000000 from by
            have h1 := HLN.out
            have h2 := HL8.out
            rw [List.length_append, flat8]
            simp; omega)
          clear hs8 hc8 hg8 c1 c2 c3 c4 c5 c6 c7 c8 c9 c10 c11 c12 cf
          go_wp2_with (first | (refine wpG_hload 32 _ rfl rfl (fun w' hw' => load_slice Tryd.underlying32 (KB.cells hw').2.2.2.2.2.2.2.2.2.2.2.1) hS3 ?_; go_simp) | (refine wpG_deed (by decide) (fun K hK => ?_); refine wp_append_b _ _ rfl (.slice A8 n8 k8) (.slice A0 x.l.length c0) rfl rfl HS8.out HVB.out HLB.out ?_; intro A9 n9 k9 W9 hn9 hs9 hc9 hg9; refine hK _ _ ?_; clear hK K) | (refine wpG_calc rfl (fun K hK => ?_)) | (refine wpG_skip ?_ ?_; (focus (simp [wantG]; done)); go_simp) | (refine wpG_take ?_ ?_; (focus (simp [wantG]; done))) | (refine wpG_pure (fun K hK => ?_); go_simp; refine hK _ _ ?_; clear hK K) | (refine wpG_deed (by decide) (fun K hK => ?_); go_simp) | (refine wpG_nil ?_))
          have hc9' : Chg [] w W9 := HC8.out.trans hc9 (fun y hy => .inr (HG8.out y hy))
          go_roundw
          case rel => exact ⟨j + 1, A9, n9, k9, by omega, rfl, hide (by rw [HT.out, ← List.append_assoc, ← HB1.out, ← List.append_assoc]; simpa using hs9), hide (fun k hk => (hg9 k hk).elim (HG8.out k) (fun h => Nat.le_trans HC8.out.size h)), hide (Blk.chg hS3 hc9 (SB.not_call HS8.out hS3)), hide (HI8.out.chg hc9 (SB.not_itr HS8.out HI8.out)), hide hc9'⟩
          case measure => rw [hm0, (HI8.out.chg hc9 (SB.not_itr HS8.out HI8.out)).pos]; omega
      · obtain rfl : j = F.length := by omega
        rw [List.take_length] at hs
        have hnx := hi.out.done
        go_wp2_with fail
        go_ret2
        exact ⟨.inr ⟨by trivial, A, n, c, rfl, hs.out, hn.out⟩, hc.out⟩
end Go.Proofs.YtinlpjgjjplceaaDoor
