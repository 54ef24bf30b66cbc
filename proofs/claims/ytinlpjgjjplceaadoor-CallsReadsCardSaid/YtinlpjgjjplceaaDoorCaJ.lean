/- The reader: bytes. -/
import Derived.Test.YtinlpjgjjplceaaDoorCaI
import Derived.Laws.Cover3
namespace Go.Proofs.YtinlpjgjjplceaaDoor
open Go Go.RowKit

theorem SB_none (w : World) : SB (w.alloc (.cells #[] 5)) (.slice (some ⟨w.heap.size, 0, none⟩) 0 0) [] := Sl_nil_new w 5 1
set_option maxRecDepth 20000 in
set_option maxHeartbeats 4000000 in
theorem Clone_any {w : World} {v : Value} {l : List Nat} (hv : RB w v l) (hlen : l.length ≤ 100000) :
    Calls Tryd.prog 59 #[v] w fun e w' => NewB w w' l e ∧ Chg [] w w' := by
  obtain ⟨A, c, rfl⟩ := RE.form hv
  cases A with
  | none =>
    have h0 : l = [] := by
      cases l with
      | nil => rfl
      | cons a l =>
        obtain ⟨g, off, e⟩ := RE.addr hv (by simp)
        cases e
    subst h0
    have hne : ∀ W : World, (binOp .eql 32 (.slice none 0 c) (.slice none 0 0)).run Tryd.prog W = .ok (.bool true) W := fun W => Lib.run_eql_slice_nil W 32 5 _ _ _ 0 0 Tryd.underlying32
    clear hv
    go_enter Tryd.func59, Tryd.ntmps59
    go_wp2_with fail
    go_ret
    exact ⟨⟨_, _, _, rfl, SE.nil _ _ _ _, fun _ h => (own_nil h).elim⟩, Chg.refl _ _⟩
  | some a =>
    have hne : ∀ W : World, (binOp .eql 32 (.slice (some a) l.length c) (.slice none 0 0)).run Tryd.prog W = .ok (.bool false) W := fun W => Lib.run_eql_slice_nil W 32 5 _ _ _ 0 0 Tryd.underlying32
    have HS := hide (SB_none w)
    have hca : Chg [] w (w.alloc (.cells #[] 5)) := (Chg.refl [] w).alloc _
    have HR := hide (hv.stay hca)
    have HCA := hide hca
    have HLN := hide (show ([] : List Nat).length + l.length ≤ 1000000 by simp; omega)
    clear hv hca
    go_enter Tryd.func59, Tryd.ntmps59
    go_wp2_with (at_builtin; refine wpList_append_b rfl _ _ rfl (.slice (some ⟨w.heap.size, 0, none⟩) 0 0) _ rfl rfl (l := []) (m := l) HS.out HR.out HLN.out ?_; intro A9 n9 c9 W9 hn9 hs9 hc9 hg9)
    go_ret
    refine ⟨⟨_, _, _, rfl, by simpa using hs9, fun k hk => (hg9 k hk).elim (fun h => by simp [own, Value.ownBlock] at h; omega) (fun h => by simp at h; omega)⟩, HCA.out.trans hc9 (fun k hk => .inr (by simp [own, Value.ownBlock] at hk; omega))⟩
theorem RE_take {w : World} {A : Option Addr} {n c k : Nat} {l : List Nat} (h : RB w (.slice A n c) l) (hk : k ≤ l.length) : RB w (.slice A k c) (l.take k) := by
  obtain ⟨A', c', e'⟩ := h.form
  injection e' with e1 e2 e3
  subst e1; subst e2; subst e3
  obtain ⟨h1, A2, c2, h3, h4, h5⟩ := h
  injection h3 with h3a h3b h3c
  subst h3a; subst h3c
  have hl : (l.take k).length = k := by rw [List.length_take]; omega
  refine ⟨by rw [fc_length ucl_len], A, c, by rw [hl], by rw [hl]; omega, fun hpos => ?_⟩
  rw [hl] at hpos
  obtain ⟨g', off', hA, hcell⟩ := h5 (by omega)
  refine ⟨g', off', hA, fun j u hu => ?_⟩
  have hd := fc_take ucl_len l k
  rw [Nat.mul_one] at hd
  rw [← hd] at hu
  have hj : j < k := by
    have h6 := (List.getElem?_eq_some_iff.1 hu).1
    rw [List.length_take] at h6
    omega
  rw [List.getElem?_take_of_lt hj] at hu
  exact hcell j u hu
theorem RB_cap {w : World} {A : Option Addr} {n c : Nat} {l : List Nat} (h : RB w (.slice A n c) l) : n = l.length ∧ l.length ≤ c := by
  obtain ⟨_, A2, c2, e2, hle, _⟩ := h
  injection e2 with _ e4 e3
  subst e3
  exact ⟨e4, hle⟩
def bsL (S : List Nat) : List Nat := if (rdS S).length < rdN 8 S then [] else (rdS S).take (rdN 8 S)
def bsS (S : List Nat) : List Nat := if (rdS S).length < rdN 8 S then rdS S else (rdS S).drop (rdN 8 S)
def bsB (S : List Nat) (bad : Bool) : Bool := if (rdS S).length < rdN 8 S then true else rdB 8 S bad
theorem rdN_le (most : Nat) (S : List Nat) : rdN most S ≤ most := by
  unfold rdN
  split
  · omega
  · split <;> omega
theorem rdS_mem {S : List Nat} {b : Nat} (h : b ∈ rdS S) : b ∈ S := by
  unfold rdS at h
  split at h
  · exact h
  · exact List.mem_of_mem_drop h
theorem rdS_len (S : List Nat) : (rdS S).length ≤ S.length := by
  unfold rdS
  split
  · exact Nat.le_refl _
  · rw [List.length_drop]; omega
def BsR (w w' : World) (rb : Nat) (v : Value) (L S' : List Nat) (bad' : Bool) (e : Ending) : Prop :=
  (∃ A n c, e = .returned (.slice A n c) ∧ SB w' (.slice A n c) L ∧ ∀ k ∈ own (.slice A n c), w.heap.size ≤ k) ∧ ∃ v', RD w' rb v' S' bad' ∧ (∀ k ∈ own v', k ∈ own v) ∧ ∃ A n c, v' = .slice A n c
set_option maxRecDepth 20000 in
set_option maxHeartbeats 8000000 in
theorem bytes_any {w : World} {rb : Nat} {v : Value} {S : List Nat} {bad : Bool} (h : RD w rb v S bad) (h8 : ∀ b ∈ S, b < 256) (hlen : S.length ≤ 100000) :
    Calls Tryd.prog 49 #[.pointer (some ⟨rb, 0, none⟩)] w fun e w' => BsR w w' rb v (bsL S) (bsS S) (bsB S bad) e ∧ Chg [rb] w w' := by
  have HU := hide (upto_any h h8 hlen (most := 8) (by omega))
  have hN := rdN_le 8 S
  have hl1 := rdS_len S
  obtain ⟨L, hL⟩ : ∃ L, L = bsL S := ⟨_, rfl⟩
  obtain ⟨S', hS'⟩ : ∃ S', S' = bsS S := ⟨_, rfl⟩
  obtain ⟨b', hb'⟩ : ∃ b', b' = bsB S bad := ⟨_, rfl⟩
  rw [← hL, ← hS', ← hb']
  unfold bsL at hL
  unfold bsS at hS'
  unfold bsB at hb'
  unfold UptoR at HU
  unfold BsR
  generalize rdN 8 S = N at HU hN hL hS' hb'
  generalize rdS S = S1 at HU hl1 hL hS' hb'
  generalize rdB 8 S bad = b1 at HU hb'
  have HQ := hide (And.intro hL (And.intro hS' hb'))
  have hl2 : S1.length ≤ 100000 := by omega
  have n0 : (0 : Int) ≤ (N : Int) := by omega
  have n1 : (N : Int) ≤ 8 := by omega
  clear h h8 hlen hl1 hL hS' hb'
  go_enter Tryd.func49, Tryd.ntmps49
  go_wp2_with fail
  refine HU.out.mono ?_
  rintro e W1 ⟨⟨rfl, v1, hr, ho, A1, m1, c1, rfl⟩, hc1⟩
  obtain ⟨e1, hcap⟩ := RB_cap hr.r
  subst e1
  have q0 := hr.b.cell 0
  have q1 := hr.b.cell 1
  have f0 := hr.b.frozen 0
  have f1 := hr.b.frozen 1
  have ql := hr.b.lt
  simp at q0 q1
  have HR := hide hr
  have HO := hide ho
  have HC1 := hide hc1
  have hlI : (S1.length : Int) ≤ 100000 := by omega
  clear hr ho hc1 HU
  by_cases hgt : S1.length < N
  · obtain rfl : L = [] := by rw [HQ.out.1, if_pos hgt]
    obtain rfl : S' = S1 := by rw [HQ.out.2.1, if_pos hgt]
    obtain rfl : b' = true := by rw [HQ.out.2.2, if_pos hgt]
    have d1 : decide ((S'.length : Int) < (N : Int)) = true := decide_eq_true (by omega)
    have d2 : decide (S'.length < N) = true := decide_eq_true hgt
    have HB2 := hide (show Blk (W1.setCell ⟨rb, 1, none⟩ (.bool true)) rb 77 #[.slice A1 S'.length c1, .bool true] from by simpa using HR.out.b.set_ 1 (.bool true))
    have HC2 := hide ((Chg.refl [rb] W1).setCell (p := ⟨rb, 1, none⟩) (.inl (by simp)) (.bool true))
    clear hgt
    go_wp2_with fail
    go_ret
    exact ⟨⟨⟨_, _, _, rfl, SE.nil _ _ _ _, fun _ h => (own_nil h).elim⟩, _, ⟨HB2.out, RB_chg HR.out.r HC2.out (fun hp k hk hk' => HR.out.n hp (by obtain rfl := List.mem_singleton.1 hk'; exact hk)), HR.out.n⟩, HO.out, _, _, _, rfl⟩, HC1.out.and_ HC2.out⟩
  · have e1 : L = S1.take N := by rw [HQ.out.1, if_neg hgt]
    have e2 : S' = S1.drop N := by rw [HQ.out.2.1, if_neg hgt]
    have e3 : b' = b1 := by rw [HQ.out.2.2, if_neg hgt]
    subst e1; subst e2; subst e3
    have d1 : decide ((S1.length : Int) < (N : Int)) = false := decide_eq_false (by omega)
    have d2 : decide (S1.length < N) = false := decide_eq_false hgt
    have d3 : (N : Int) ≤ (S1.length : Int) := by omega
    have d4 : (N : Int) ≤ (c1 : Int) := by omega
    have d5 : (S1.length : Int) ≤ (c1 : Int) := by omega
    have d6 : N ≤ S1.length := by omega
    have d7 : N ≤ c1 := by omega
    have HT := hide (RE_take HR.out.r (k := N) (by omega))
    have HCL := hide (Clone_any (w := W1) (RE_take HR.out.r (k := N) (by omega)) (by rw [List.length_take]; omega))
    by_cases hN0 : N = 0
    · subst hN0
      cases A1 with
      | none =>
        go_wp2_with fail
        refine HCL.out.mono ?_
        rintro e W2 ⟨⟨A9, m9, c9, rfl, hs9, hn9⟩, hc9⟩
        have HR2 := hide (HR.out.stay hc9)
        have p0 := HR2.out.b.cell 0
        have p1 := HR2.out.b.cell 1
        have r0 := HR2.out.b.frozen 0
        have r1 := HR2.out.b.frozen 1
        have pl := HR2.out.b.lt
        simp at p0 p1
        have HS9 := hide hs9
        have HN9 := hide hn9
        have HC9 := hide hc9
        clear hs9 hn9 hc9 q0 q1 f0 f1 ql
        go_wp2_with fail

        have HB3 := hide (show Blk (W2.setCell ⟨rb, 0, none⟩ (.slice none S1.length c1)) rb 77 #[.slice none S1.length c1, .bool b'] from by simpa using HR2.out.b.set_ 0 (.slice none S1.length c1))
        have HC3 := hide ((Chg.refl [rb] W2).setCell (p := ⟨rb, 0, none⟩) (.inl (by simp)) (.slice none S1.length c1))
        have HD3 := hide (show RB W2 (.slice none S1.length c1) (S1.drop 0) from by simpa using HR2.out.r)
        have HW3 := hide (show ∀ k ∈ own (.slice none S1.length c1), k ∈ own (.slice none S1.length c1) from fun k hk => hk)
        go_ret
        refine ⟨⟨⟨_, _, _, rfl, HS9.out.chg HC3.out (fun k hk hk' => ?_), fun k hk => Nat.le_trans HC1.out.size (HN9.out k hk)⟩, _, ⟨HB3.out, RB_chg HD3.out HC3.out (fun hp k hk hk' => HR2.out.n (by rw [List.length_drop] at hp; omega) (by obtain rfl := List.mem_singleton.1 hk'; exact HW3.out _ hk)), fun hp h => HR2.out.n (by rw [List.length_drop] at hp; omega) (HW3.out _ h)⟩, fun k hk => HO.out k (HW3.out k hk), _, _, _, rfl⟩, (HC1.out.stay HC9.out).and_ HC3.out⟩
        obtain rfl := List.mem_singleton.1 hk'
        have := HN9.out _ hk
        have := HR.out.b.lt
        omega
      | some a =>
        by_cases hc0 : c1 = 0
        · subst hc0
          go_wp2_with fail
          refine HCL.out.mono ?_
          rintro e W2 ⟨⟨A9, m9, c9, rfl, hs9, hn9⟩, hc9⟩
          have HR2 := hide (HR.out.stay hc9)
          have p0 := HR2.out.b.cell 0
          have p1 := HR2.out.b.cell 1
          have r0 := HR2.out.b.frozen 0
          have r1 := HR2.out.b.frozen 1
          have pl := HR2.out.b.lt
          simp at p0 p1
          have HS9 := hide hs9
          have HN9 := hide hn9
          have HC9 := hide hc9
          clear hs9 hn9 hc9 q0 q1 f0 f1 ql
          go_wp2_with fail

          have HB3 := hide (show Blk (W2.setCell ⟨rb, 0, none⟩ (.slice (some a) 0 0)) rb 77 #[.slice (some a) 0 0, .bool b'] from by simpa using HR2.out.b.set_ 0 (.slice (some a) 0 0))
          have HC3 := hide ((Chg.refl [rb] W2).setCell (p := ⟨rb, 0, none⟩) (.inl (by simp)) (.slice (some a) 0 0))
          have HD3 := hide (show RB W2 (.slice (some a) 0 0) (S1.drop 0) from by rw [List.drop_eq_nil_of_le (by omega)]; exact RE.nil ucl 1 W2 _ _)
          have HW3 := hide (show ∀ k ∈ own (.slice (some a) 0 0), k ∈ own (.slice (some a) S1.length 0) from fun k hk => by simpa [own, Value.ownBlock] using hk)
          go_ret
          refine ⟨⟨⟨_, _, _, rfl, HS9.out.chg HC3.out (fun k hk hk' => ?_), fun k hk => Nat.le_trans HC1.out.size (HN9.out k hk)⟩, _, ⟨HB3.out, RB_chg HD3.out HC3.out (fun hp k hk hk' => HR2.out.n (by rw [List.length_drop] at hp; omega) (by obtain rfl := List.mem_singleton.1 hk'; exact HW3.out _ hk)), fun hp h => HR2.out.n (by rw [List.length_drop] at hp; omega) (HW3.out _ h)⟩, fun k hk => HO.out k (HW3.out k hk), _, _, _, rfl⟩, (HC1.out.stay HC9.out).and_ HC3.out⟩
          obtain rfl := List.mem_singleton.1 hk'
          have := HN9.out _ hk
          have := HR.out.b.lt
          omega
        · have hc0' : ¬ 0 = c1 := fun h => hc0 h.symm
          go_wp2_with fail
          refine HCL.out.mono ?_
          rintro e W2 ⟨⟨A9, m9, c9, rfl, hs9, hn9⟩, hc9⟩
          have HR2 := hide (HR.out.stay hc9)
          have p0 := HR2.out.b.cell 0
          have p1 := HR2.out.b.cell 1
          have r0 := HR2.out.b.frozen 0
          have r1 := HR2.out.b.frozen 1
          have pl := HR2.out.b.lt
          simp at p0 p1
          have HS9 := hide hs9
          have HN9 := hide hn9
          have HC9 := hide hc9
          clear hs9 hn9 hc9 q0 q1 f0 f1 ql
          go_wp2_with fail

          have HB3 := hide (show Blk (W2.setCell ⟨rb, 0, none⟩ (.slice (some a) S1.length c1)) rb 77 #[.slice (some a) S1.length c1, .bool b'] from by simpa using HR2.out.b.set_ 0 (.slice (some a) S1.length c1))
          have HC3 := hide ((Chg.refl [rb] W2).setCell (p := ⟨rb, 0, none⟩) (.inl (by simp)) (.slice (some a) S1.length c1))
          have HD3 := hide (show RB W2 (.slice (some a) S1.length c1) (S1.drop 0) from by simpa using HR2.out.r)
          have HW3 := hide (show ∀ k ∈ own (.slice (some a) S1.length c1), k ∈ own (.slice (some a) S1.length c1) from fun k hk => hk)
          go_ret
          refine ⟨⟨⟨_, _, _, rfl, HS9.out.chg HC3.out (fun k hk hk' => ?_), fun k hk => Nat.le_trans HC1.out.size (HN9.out k hk)⟩, _, ⟨HB3.out, RB_chg HD3.out HC3.out (fun hp k hk hk' => HR2.out.n (by rw [List.length_drop] at hp; omega) (by obtain rfl := List.mem_singleton.1 hk'; exact HW3.out _ hk)), fun hp h => HR2.out.n (by rw [List.length_drop] at hp; omega) (HW3.out _ h)⟩, fun k hk => HO.out k (HW3.out k hk), _, _, _, rfl⟩, (HC1.out.stay HC9.out).and_ HC3.out⟩
          obtain rfl := List.mem_singleton.1 hk'
          have := HN9.out _ hk
          have := HR.out.b.lt
          omega
    · obtain ⟨g, off, rfl⟩ := RE.addr HR.out.r (by omega)
      by_cases hcN : c1 = N
      · subst hcN
        go_wp2_with fail
        refine HCL.out.mono ?_
        rintro e W2 ⟨⟨A9, m9, c9, rfl, hs9, hn9⟩, hc9⟩
        have HR2 := hide (HR.out.stay hc9)
        have p0 := HR2.out.b.cell 0
        have p1 := HR2.out.b.cell 1
        have r0 := HR2.out.b.frozen 0
        have r1 := HR2.out.b.frozen 1
        have pl := HR2.out.b.lt
        simp at p0 p1
        have HS9 := hide hs9
        have HN9 := hide hn9
        have HC9 := hide hc9
        clear hs9 hn9 hc9 q0 q1 f0 f1 ql
        go_wp2_with fail

        have HB3 := hide (show Blk (W2.setCell ⟨rb, 0, none⟩ (.slice (some ⟨g, off, none⟩) 0 0)) rb 77 #[.slice (some ⟨g, off, none⟩) 0 0, .bool b'] from by simpa using HR2.out.b.set_ 0 (.slice (some ⟨g, off, none⟩) 0 0))
        have HC3 := hide ((Chg.refl [rb] W2).setCell (p := ⟨rb, 0, none⟩) (.inl (by simp)) (.slice (some ⟨g, off, none⟩) 0 0))
        have HD3 := hide (show RB W2 (.slice (some ⟨g, off, none⟩) 0 0) (S1.drop c1) from by rw [List.drop_eq_nil_of_le (by omega)]; exact RE.nil ucl 1 W2 _ _)
        have HW3 := hide (show ∀ k ∈ own (.slice (some ⟨g, off, none⟩) 0 0), k ∈ own (.slice (some ⟨g, off, none⟩) S1.length c1) from fun k hk => by simpa [own, Value.ownBlock] using hk)
        go_ret
        refine ⟨⟨⟨_, _, _, rfl, HS9.out.chg HC3.out (fun k hk hk' => ?_), fun k hk => Nat.le_trans HC1.out.size (HN9.out k hk)⟩, _, ⟨HB3.out, RB_chg HD3.out HC3.out (fun hp k hk hk' => HR2.out.n (by rw [List.length_drop] at hp; omega) (by obtain rfl := List.mem_singleton.1 hk'; exact HW3.out _ hk)), fun hp h => HR2.out.n (by rw [List.length_drop] at hp; omega) (HW3.out _ h)⟩, fun k hk => HO.out k (HW3.out k hk), _, _, _, rfl⟩, (HC1.out.stay HC9.out).and_ HC3.out⟩
        obtain rfl := List.mem_singleton.1 hk'
        have := HN9.out _ hk
        have := HR.out.b.lt
        omega
      · have hcN' : ¬ N = c1 := fun h => hcN h.symm
        go_wp2_with fail
        refine HCL.out.mono ?_
        rintro e W2 ⟨⟨A9, m9, c9, rfl, hs9, hn9⟩, hc9⟩
        have HR2 := hide (HR.out.stay hc9)
        have p0 := HR2.out.b.cell 0
        have p1 := HR2.out.b.cell 1
        have r0 := HR2.out.b.frozen 0
        have r1 := HR2.out.b.frozen 1
        have pl := HR2.out.b.lt
        simp at p0 p1
        have HS9 := hide hs9
        have HN9 := hide hn9
        have HC9 := hide hc9
        clear hs9 hn9 hc9 q0 q1 f0 f1 ql
        go_wp2_with fail

        have HB3 := hide (show Blk (W2.setCell ⟨rb, 0, none⟩ (.slice (some ⟨g, off + N, none⟩) (S1.length - N) (c1 - N))) rb 77 #[.slice (some ⟨g, off + N, none⟩) (S1.length - N) (c1 - N), .bool b'] from by simpa using HR2.out.b.set_ 0 (.slice (some ⟨g, off + N, none⟩) (S1.length - N) (c1 - N)))
        have HC3 := hide ((Chg.refl [rb] W2).setCell (p := ⟨rb, 0, none⟩) (.inl (by simp)) (.slice (some ⟨g, off + N, none⟩) (S1.length - N) (c1 - N)))
        have HD3 := hide (show RB W2 (.slice (some ⟨g, off + N, none⟩) (S1.length - N) (c1 - N)) (S1.drop N) from RE_drop HR2.out.r (by omega))
        have HW3 := hide (show ∀ k ∈ own (.slice (some ⟨g, off + N, none⟩) (S1.length - N) (c1 - N)), k ∈ own (.slice (some ⟨g, off, none⟩) S1.length c1) from fun k hk => by simpa [own, Value.ownBlock] using hk)
        go_ret
        refine ⟨⟨⟨_, _, _, rfl, HS9.out.chg HC3.out (fun k hk hk' => ?_), fun k hk => Nat.le_trans HC1.out.size (HN9.out k hk)⟩, _, ⟨HB3.out, RB_chg HD3.out HC3.out (fun hp k hk hk' => HR2.out.n (by rw [List.length_drop] at hp; omega) (by obtain rfl := List.mem_singleton.1 hk'; exact HW3.out _ hk)), fun hp h => HR2.out.n (by rw [List.length_drop] at hp; omega) (HW3.out _ h)⟩, fun k hk => HO.out k (HW3.out k hk), _, _, _, rfl⟩, (HC1.out.stay HC9.out).and_ HC3.out⟩
        obtain rfl := List.mem_singleton.1 hk'
        have := HN9.out _ hk
        have := HR.out.b.lt
        omega
end Go.Proofs.YtinlpjgjjplceaaDoor
