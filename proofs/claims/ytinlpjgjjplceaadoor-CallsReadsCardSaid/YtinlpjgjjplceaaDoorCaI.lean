/- The reader: upto, any. -/
import Derived.Test.YtinlpjgjjplceaaDoorCaH
namespace Go.Proofs.YtinlpjgjjplceaaDoor
open Go Go.RowKit

/-- a reader: what is left, and whether it went bad -/
structure RD (w : World) (rb : Nat) (v : Value) (S : List Nat) (bad : Bool) : Prop where
  b : Blk w rb 77 #[v, .bool bad]
  r : RB w v S
  n : 0 < S.length → rb ∉ own v
theorem RD.stay {w w' : World} {rb : Nat} {v : Value} {S : List Nat} {bad : Bool} (h : RD w rb v S bad) (hc : Chg [] w w') : RD w' rb v S bad := ⟨h.b.chg hc List.not_mem_nil, h.r.stay hc, h.n⟩
theorem RB_chg {w w' : World} {v : Value} {l F : List Nat} (h : RB w v l) (hc : Chg F w w') (hF : 0 < l.length → ∀ k ∈ own v, k ∉ F) : RB w' v l := by
  by_cases h0 : 0 < l.length
  · exact RE.chg h hc (hF h0)
  · obtain rfl : l = [] := List.eq_nil_of_length_eq_zero (by omega)
    obtain ⟨A, c, rfl⟩ := RE.form h
    exact RE.nil ucl 1 w' A c
def rdN (most : Nat) (S : List Nat) : Nat := if S.length < 8 then 0 else if most < leN (S.take 8) then 0 else leN (S.take 8)
def rdS (S : List Nat) : List Nat := if S.length < 8 then S else S.drop 8
def rdB (most : Nat) (S : List Nat) (bad : Bool) : Bool := if S.length < 8 then true else if most < leN (S.take 8) then true else bad
theorem RE_drop {w : World} {g off n c k : Nat} {l : List Nat} (h : RB w (.slice (some ⟨g, off, none⟩) n c) l) (hk : k ≤ l.length) : RB w (.slice (some ⟨g, off + k, none⟩) (n - k) (c - k)) (l.drop k) := by
  obtain ⟨A', c', e'⟩ := h.form
  injection e' with _ e2 e3
  subst e2; subst e3
  obtain ⟨h1, A2, c2, h3, h4, h5⟩ := h
  injection h3 with h3a h3b h3c
  subst h3c
  refine ⟨by rw [fc_length ucl_len, List.length_drop], _, _, by rw [List.length_drop], by rw [List.length_drop]; omega, fun hpos => ?_⟩
  rw [List.length_drop] at hpos
  obtain ⟨g', off', hA, hcell⟩ := h5 (by omega)
  rw [hA] at h3a
  injection h3a with h3a
  injection h3a with h3a h3b'
  subst h3a; subst h3b'
  refine ⟨g, off + k, rfl, fun j u hu => ?_⟩
  have hd := fc_drop ucl_len l k
  rw [Nat.mul_one] at hd
  rw [← hd, List.getElem?_drop] at hu
  have := hcell (k + j) u hu
  rw [Nat.add_assoc]
  exact this
def UptoR (w w' : World) (rb : Nat) (v : Value) (most : Nat) (S : List Nat) (bad : Bool) (e : Ending) : Prop :=
  e = .returned (.int .u64 (rdN most S : Nat)) ∧ ∃ v', RD w' rb v' (rdS S) (rdB most S bad) ∧ (∀ k ∈ own v', k ∈ own v) ∧ ∃ A n c, v' = .slice A n c
set_option maxRecDepth 20000 in
set_option maxHeartbeats 8000000 in
theorem upto_any {w : World} {rb : Nat} {v : Value} {S : List Nat} {bad : Bool} (h : RD w rb v S bad) (h8 : ∀ b ∈ S, b < 256) (hlen : S.length ≤ 100000) {most : Nat} (hm : most < 18446744073709551616) :
    Calls Tryd.prog 47 #[.pointer (some ⟨rb, 0, none⟩), .int .u64 most] w fun e w' => UptoR w w' rb v most S bad e ∧ Chg [rb] w w' := by
  obtain ⟨hb, hr, hn⟩ := h
  obtain ⟨A, c, rfl⟩ := RE.form hr
  have hle : S.length ≤ c := by
    obtain ⟨_, A2, c2, e2, hle, _⟩ := hr
    injection e2 with _ _ e3
    subst e3
    exact hle
  have q0 := hb.cell 0
  have q1 := hb.cell 1
  have f0 := hb.frozen 0
  have f1 := hb.frozen 1
  have ql := hb.lt
  simp at q0 q1
  have HB := hide hb
  have HR := hide hr
  have HN := hide hn
  have H8 := hide h8
  have hl1 : (S.length : Int) ≤ 100000 := by omega
  clear hb hr hn h8
  unfold UptoR
  by_cases hs : S.length < 8
  · have e1 : rdN most S = 0 := by unfold rdN; rw [if_pos hs]
    have e2 : rdS S = S := by unfold rdS; rw [if_pos hs]
    have e3 : rdB most S bad = true := by unfold rdB; rw [if_pos hs]
    rw [e1, e2, e3]
    have d1 : decide ((S.length : Int) < 8) = true := decide_eq_true (by omega)
    have d2 : decide (S.length < 8) = true := decide_eq_true hs
    have HB2 := hide (show Blk (w.setCell ⟨rb, 1, none⟩ (.bool true)) rb 77 #[.slice A S.length c, .bool true] from by simpa using HB.out.set_ 1 (.bool true))
    have HC2 := hide ((Chg.refl [rb] w).setCell (p := ⟨rb, 1, none⟩) (.inl (by simp)) (.bool true))
    clear e1 e2 e3 hs hlen hm
    go_enter Tryd.func47, Tryd.ntmps47
    go_wp2_with fail
    go_ret
    exact ⟨⟨rfl, _, ⟨HB2.out, RB_chg HR.out HC2.out (fun hp k hk hk' => HN.out hp (by obtain rfl := List.mem_singleton.1 hk'; exact hk)), HN.out⟩, fun k hk => hk, _, _, _, rfl⟩, HC2.out⟩
  · obtain ⟨g, off, rfl⟩ := RE.addr HR.out (by omega)
    obtain ⟨L, hL⟩ : ∃ L, L = S.take 8 := ⟨_, rfl⟩
    have hLl : L.length = 8 := by rw [hL, List.length_take]; omega
    have HL8 := hide (show ∀ b ∈ L, b < 256 from fun b hb => H8.out b (by rw [hL] at hb; exact List.mem_of_mem_take hb))
    have HLC := hide (show ∀ k, (hk : k < L.length) → w.cell? ⟨g, off + k, none⟩ = some (.int .u8 (L[k] : Nat)) from fun k hk => by
      have hkS : k < S.length := by omega
      have q := RE.cell ucl_len HR.out hkS (j := 0) (by omega) rfl
      rw [Nat.mul_one, Nat.add_zero] at q
      rw [q]
      congr 3
      subst hL
      rw [List.getElem_take])
    have HLL := hide hLl
    have e2 : rdS S = S.drop 8 := by unfold rdS; rw [if_neg hs]
    have e1 : rdN most S = if most < leN L then 0 else leN L := by unfold rdN; rw [if_neg hs, hL]
    have e3 : rdB most S bad = if most < leN L then true else bad := by unfold rdB; rw [if_neg hs, hL]
    rw [e1, e2, e3]
    have d1 : decide ((S.length : Int) < 8) = false := decide_eq_false (by omega)
    have d2 : decide (S.length < 8) = false := decide_eq_false hs
    have d3 : (8 : Int) ≤ (S.length : Int) := by omega
    have d4 : (8 : Int) ≤ (c : Int) := by omega
    have d5 : (S.length : Int) ≤ (c : Int) := by omega
    have d6 : 8 ≤ S.length := by omega
    have d7 : 8 ≤ c := by omega
    have gl : g < w.heap.size := World.block_lt_of_cell? _ _ (HLC.out 0 (by omega))
    have HLS := hide hL
    clear e1 e2 e3 hL hLl hlen
    clear hm
    obtain ⟨R, hR⟩ : ∃ R, R = if most < leN L then 0 else leN L := ⟨_, rfl⟩
    obtain ⟨T, hT⟩ : ∃ T, T = if most < leN L then true else bad := ⟨_, rfl⟩
    rw [← hR, ← hT]
    have HRT := hide (And.intro hR hT)
    clear hR hT
    by_cases hc8 : c = 8
    · subst hc8
      have hs8 : S.length = 8 := by omega
      have HD := hide (show RB w (.slice (some ⟨g, off, none⟩) 0 0) (S.drop 8) from by rw [List.drop_eq_nil_of_le (by omega)]; exact RE.nil ucl 1 w _ _)
      have HOW := hide (show ∀ k ∈ own (.slice (some ⟨g, off, none⟩) 0 0), k ∈ own (.slice (some ⟨g, off, none⟩) S.length 8) from fun k hk => by simpa [own, Value.ownBlock] using hk)
      have HB1 := hide (show Blk (w.setCell ⟨rb, 0, none⟩ (.slice (some ⟨g, off, none⟩) 0 0)) rb 77 #[.slice (some ⟨g, off, none⟩) 0 0, .bool bad] from by simpa using HB.out.set_ 0 (.slice (some ⟨g, off, none⟩) 0 0))
      have HC1 := hide ((Chg.refl [rb] w).setCell (p := ⟨rb, 0, none⟩) (.inl (by simp)) (.slice (some ⟨g, off, none⟩) 0 0))
      have g1 := HB1.out.cell 1
      have t1 := HB1.out.frozen 1
      simp at g1
      have HB2 := hide (show Blk ((w.setCell ⟨rb, 0, none⟩ (.slice (some ⟨g, off, none⟩) 0 0)).setCell ⟨rb, 1, none⟩ (.bool true)) rb 77 #[.slice (some ⟨g, off, none⟩) 0 0, .bool true] from by simpa using HB1.out.set_ 1 (.bool true))
      have HC2 := hide (HC1.out.setCell (p := ⟨rb, 1, none⟩) (.inl (by simp)) (.bool true))
      have HND := hide (show rb ∉ own (.slice (some ⟨g, off, none⟩) 0 0) from fun h => HN.out (by omega) (HOW.out _ h))
      go_enter Tryd.func47, Tryd.ntmps47
      go_wp2_with fail
      go_loopw [5, 23] (fun q t wr => w = wr ∧ ∃ k : Nat, k ≤ 8 ∧ q = .int .u64 (leN (L.take k) : Nat) ∧ t = .int .i64 k) (fun _ t _ => 8 - (intOf t).toNat)
      case atStart => exact ⟨rfl, 0, by omega, rfl, rfl⟩
      case round =>
        obtain ⟨rfl, k, hk, rfl, rfl⟩ := hrel
        by_cases hkt : k < 8
        · have hkL : k < L.length := by rw [HLL.out]; exact hkt
          have qk := HLC.out k hkL
          have hTK : L.take (k + 1) = L.take k ++ [L[k]] := List.take_succ_eq_append_getElem hkL
          have hx8 : L[k] < 256 := HL8.out _ (List.getElem_mem hkL)
          have hlt2 := leN_lt (L.take k) (fun b hb => HL8.out b (List.mem_of_mem_take hb))
          have hlk : (L.take k).length = k := by rw [List.length_take, HLL.out]; omega
          rw [hlk] at hlt2
          have HTK := hide (show leN (L.take (k + 1)) = leN (L.take k) + L[k] * 2 ^ (8 * k) by rw [hTK, leN_snoc, hlk])
          generalize L[k] = x at qk hx8 HTK
          generalize leN (L.take k) = z at hlt2 HTK ⊢
          have k1 : (0 : Int) ≤ (k : Int) := by omega
          have k2 : (k : Int) < 8 := by omega
          have x1 : (0 : Int) ≤ (x : Int) := by omega
          have x2 : (x : Int) < 256 := by omega
          have HOR := hide (or_byte hlt2 hx8 hkt)
          clear hTK hlk hkL hlt2 g1 t1
          go_wp2_with fail
          go_roundw
          case rel => exact ⟨trivial, k + 1, by omega, by rw [HOR.out, HTK.out], by go_num⟩
          case measure => simp [intOf]; omega
        · obtain rfl : k = 8 := by omega
          have e8 : L.take 8 = L := List.take_of_length_le (by rw [HLL.out]; omega)
          rw [e8]
          clear e8
          by_cases hgt : most < leN L
          · obtain rfl : R = 0 := by rw [HRT.out.1, if_pos hgt]
            obtain rfl : T = true := by rw [HRT.out.2, if_pos hgt]
            have j1 : decide ((most : Int) < (leN L : Int)) = true := decide_eq_true (by omega)
            have j2 : decide (most < leN L) = true := decide_eq_true hgt
            clear hgt HRT
            go_wp2_with fail
            go_ret
            exact ⟨⟨rfl, _, ⟨HB2.out, HD.out.chg HC2.out (fun k hk hk' => HND.out (by obtain rfl := List.mem_singleton.1 hk'; exact hk)), fun _ => HND.out⟩, HOW.out, _, _, _, rfl⟩, HC2.out⟩
          · obtain rfl : R = leN L := by rw [HRT.out.1, if_neg hgt]
            obtain rfl : T = bad := by rw [HRT.out.2, if_neg hgt]
            have j1 : decide ((most : Int) < (leN L : Int)) = false := decide_eq_false (by omega)
            have j2 : decide (most < leN L) = false := decide_eq_false hgt
            clear hgt HRT
            go_wp2_with fail
            go_ret
            exact ⟨⟨rfl, _, ⟨HB1.out, HD.out.chg HC1.out (fun k hk hk' => HND.out (by obtain rfl := List.mem_singleton.1 hk'; exact hk)), fun _ => HND.out⟩, HOW.out, _, _, _, rfl⟩, HC1.out⟩
    · have n8 : ¬ c = 8 := hc8
      have HD := hide (show RB w (.slice (some ⟨g, off + 8, none⟩) (S.length - 8) (c - 8)) (S.drop 8) from RE_drop HR.out (by omega))
      have HOW := hide (show ∀ k ∈ own (.slice (some ⟨g, off + 8, none⟩) (S.length - 8) (c - 8)), k ∈ own (.slice (some ⟨g, off, none⟩) S.length c) from fun k hk => by simpa [own, Value.ownBlock] using hk)
      have HB1 := hide (show Blk (w.setCell ⟨rb, 0, none⟩ (.slice (some ⟨g, off + 8, none⟩) (S.length - 8) (c - 8))) rb 77 #[.slice (some ⟨g, off + 8, none⟩) (S.length - 8) (c - 8), .bool bad] from by simpa using HB.out.set_ 0 (.slice (some ⟨g, off + 8, none⟩) (S.length - 8) (c - 8)))
      have HC1 := hide ((Chg.refl [rb] w).setCell (p := ⟨rb, 0, none⟩) (.inl (by simp)) (.slice (some ⟨g, off + 8, none⟩) (S.length - 8) (c - 8)))
      have g1 := HB1.out.cell 1
      have t1 := HB1.out.frozen 1
      simp at g1
      have HB2 := hide (show Blk ((w.setCell ⟨rb, 0, none⟩ (.slice (some ⟨g, off + 8, none⟩) (S.length - 8) (c - 8))).setCell ⟨rb, 1, none⟩ (.bool true)) rb 77 #[.slice (some ⟨g, off + 8, none⟩) (S.length - 8) (c - 8), .bool true] from by simpa using HB1.out.set_ 1 (.bool true))
      have HC2 := hide (HC1.out.setCell (p := ⟨rb, 1, none⟩) (.inl (by simp)) (.bool true))
      have HND := hide (show rb ∉ own (.slice (some ⟨g, off + 8, none⟩) (S.length - 8) (c - 8)) from fun h => HN.out (by omega) (HOW.out _ h))
      go_enter Tryd.func47, Tryd.ntmps47
      go_wp2_with fail
      go_loopw [5, 23] (fun q t wr => w = wr ∧ ∃ k : Nat, k ≤ 8 ∧ q = .int .u64 (leN (L.take k) : Nat) ∧ t = .int .i64 k) (fun _ t _ => 8 - (intOf t).toNat)
      case atStart => exact ⟨rfl, 0, by omega, rfl, rfl⟩
      case round =>
        obtain ⟨rfl, k, hk, rfl, rfl⟩ := hrel
        by_cases hkt : k < 8
        · have hkL : k < L.length := by rw [HLL.out]; exact hkt
          have qk := HLC.out k hkL
          have hTK : L.take (k + 1) = L.take k ++ [L[k]] := List.take_succ_eq_append_getElem hkL
          have hx8 : L[k] < 256 := HL8.out _ (List.getElem_mem hkL)
          have hlt2 := leN_lt (L.take k) (fun b hb => HL8.out b (List.mem_of_mem_take hb))
          have hlk : (L.take k).length = k := by rw [List.length_take, HLL.out]; omega
          rw [hlk] at hlt2
          have HTK := hide (show leN (L.take (k + 1)) = leN (L.take k) + L[k] * 2 ^ (8 * k) by rw [hTK, leN_snoc, hlk])
          generalize L[k] = x at qk hx8 HTK
          generalize leN (L.take k) = z at hlt2 HTK ⊢
          have k1 : (0 : Int) ≤ (k : Int) := by omega
          have k2 : (k : Int) < 8 := by omega
          have x1 : (0 : Int) ≤ (x : Int) := by omega
          have x2 : (x : Int) < 256 := by omega
          have HOR := hide (or_byte hlt2 hx8 hkt)
          clear hTK hlk hkL hlt2 g1 t1
          go_wp2_with fail
          go_roundw
          case rel => exact ⟨trivial, k + 1, by omega, by rw [HOR.out, HTK.out], by go_num⟩
          case measure => simp [intOf]; omega
        · obtain rfl : k = 8 := by omega
          have e8 : L.take 8 = L := List.take_of_length_le (by rw [HLL.out]; omega)
          rw [e8]
          clear e8
          by_cases hgt : most < leN L
          · obtain rfl : R = 0 := by rw [HRT.out.1, if_pos hgt]
            obtain rfl : T = true := by rw [HRT.out.2, if_pos hgt]
            have j1 : decide ((most : Int) < (leN L : Int)) = true := decide_eq_true (by omega)
            have j2 : decide (most < leN L) = true := decide_eq_true hgt
            clear hgt HRT
            go_wp2_with fail
            go_ret
            exact ⟨⟨rfl, _, ⟨HB2.out, HD.out.chg HC2.out (fun k hk hk' => HND.out (by obtain rfl := List.mem_singleton.1 hk'; exact hk)), fun _ => HND.out⟩, HOW.out, _, _, _, rfl⟩, HC2.out⟩
          · obtain rfl : R = leN L := by rw [HRT.out.1, if_neg hgt]
            obtain rfl : T = bad := by rw [HRT.out.2, if_neg hgt]
            have j1 : decide ((most : Int) < (leN L : Int)) = false := decide_eq_false (by omega)
            have j2 : decide (most < leN L) = false := decide_eq_false hgt
            clear hgt HRT
            go_wp2_with fail
            go_ret
            exact ⟨⟨rfl, _, ⟨HB1.out, HD.out.chg HC1.out (fun k hk hk' => HND.out (by obtain rfl := List.mem_singleton.1 hk'; exact hk)), fun _ => HND.out⟩, HOW.out, _, _, _, rfl⟩, HC1.out⟩
theorem any_any {w : World} {rb : Nat} {v : Value} {S : List Nat} {bad : Bool} (h : RD w rb v S bad) (h8 : ∀ b ∈ S, b < 256) (hlen : S.length ≤ 100000) :
    Calls Tryd.prog 48 #[.pointer (some ⟨rb, 0, none⟩)] w fun e w' => UptoR w w' rb v 18446744073709551615 S bad e ∧ Chg [rb] w w' := by
  have HU := hide (upto_any h h8 hlen (most := 18446744073709551615) (by omega))
  unfold UptoR at HU ⊢
  generalize rdN 18446744073709551615 S = R at HU ⊢
  clear h h8 hlen
  go_enter Tryd.func48, Tryd.ntmps48
  go_wp2_with fail
  refine HU.out.mono ?_
  rintro e W1 ⟨⟨rfl, h1⟩, hc1⟩
  have H1 := hide h1
  clear h1
  go_wp2_with fail
  go_ret
  exact ⟨⟨rfl, H1.out⟩, hc1⟩
end Go.Proofs.YtinlpjgjjplceaaDoor
