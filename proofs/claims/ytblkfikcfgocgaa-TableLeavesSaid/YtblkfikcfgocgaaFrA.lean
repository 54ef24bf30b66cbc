/- A memory: its block, its bytes, its marks; which frames there are. -/
import Derived.Test.YtblkfikcfgocgaaCfG
import Derived.WalkSpells
import Derived.Laws.CopyOwn
import Derived.Laws.Cover3
namespace Go.Proofs.Ytblkfikcfgocgaa
open Go Go.RowKit

@[irreducible] def mg (c : Cf) (vb vm : Value) : Array Value := cg c ++ #[vb, vm]
theorem mg_size (c : Cf) (vb vm : Value) : (mg c vb vm).size = 96 := by unfold mg; simp [cg_size]
theorem mg_get (c : Cf) (vb vm : Value) {i : Nat} (h : i < 94) : (mg c vb vm)[i]? = some (.int .i64 (c i)) := by
  unfold mg
  rw [Array.getElem?_append_left (by rw [cg_size]; exact h), cg_get c h]
theorem mg_94 (c : Cf) (vb vm : Value) : (mg c vb vm)[94]? = some vb := by
  unfold mg
  rw [Array.getElem?_append_right (by rw [cg_size]; omega), cg_size]
  rfl
theorem mg_95 (c : Cf) (vb vm : Value) : (mg c vb vm)[95]? = some vm := by
  unfold mg
  rw [Array.getElem?_append_right (by rw [cg_size]; omega), cg_size]
  rfl
/-- a mark -/
structure Mk where
  role : Nat
  ord : Int
  owr : Int
  page : Int
  idx : Int
deriving DecidableEq
def mcl (m : Mk) : List Value := [.int .u8 m.role, .int .i64 m.ord, .int .i64 m.owr, .int .i64 m.page, .int .i64 m.idx]
theorem mcl_len (m : Mk) : (mcl m).length = 5 := rfl
def ucl (x : Nat) : List Value := [.int .u8 x]
theorem ucl_len (x : Nat) : (ucl x).length = 1 := rfl
/-- a slice of bytes, of marks -/
abbrev SB (w : World) (v : Value) (B : List Nat) : Prop := SE ucl 1 5 w v B
abbrev RB (w : World) (v : Value) (B : List Nat) : Prop := RE ucl 1 w v B
abbrev SM (w : World) (v : Value) (M : List Mk) : Prop := SE mcl 5 43 w v M
/-- a memory of n frames lies at a: its bytes at gb, its marks at gm -/
structure FM (w : World) (a gb gm : Nat) (c : Cf) (n : Nat) (B : List Nat) (M : List Mk) : Prop where
  o : ∃ cb cm, Blk w a 79 (mg c (.slice (some ⟨gb, 0, none⟩) (n * 256) cb) (.slice (some ⟨gm, 0, none⟩) n cm)) ∧ SB w (.slice (some ⟨gb, 0, none⟩) (n * 256) cb) B ∧ SM w (.slice (some ⟨gm, 0, none⟩) n cm) M
  n1 : 1 ≤ n
  n2 : n ≤ 1024
  b8 : ∀ x ∈ B, x < 256
  mc : MayP c
  tn : totV c = n
section
variable {w w' : World} {a gb gm : Nat} {c : Cf} {n : Nat} {B : List Nat} {M : List Mk}
theorem own_one {k g off x y : Nat} (h : k ∈ own (.slice (some ⟨g, off, none⟩) x y)) : k = g := List.mem_singleton.1 h
theorem slen_eq {A : Option Addr} {k cap : Nat} {α : Type} {enc : α → List Value} {size : Nat} {e : TypeId} {l : List α} (h : SE enc size e w (.slice A k cap) l) : k = l.length := by
  obtain ⟨A', c', e'⟩ := h.form
  injection e'
theorem rlen_eq {A : Option Addr} {k cap : Nat} {α : Type} {enc : α → List Value} {size : Nat} {l : List α} (h : RE enc size w (.slice A k cap) l) : k = l.length := by
  obtain ⟨A', c', e'⟩ := h.form
  injection e'
theorem scap_max {A : Option Addr} {k cap : Nat} {α : Type} {enc : α → List Value} {size : Nat} {e : TypeId} {l : List α} (h : SE enc size e w (.slice A k cap) l) : (cap : Int) ≤ 9223372036854775807 := by
  obtain ⟨_, c', e', _, h1⟩ := Sl.cap_le h
  injection e' with _ _ e3
  unfold maxLen at h1
  omega
theorem scap_le {A : Option Addr} {k cap : Nat} {α : Type} {enc : α → List Value} {size : Nat} {e : TypeId} {l : List α} (h : SE enc size e w (.slice A k cap) l) : k ≤ cap := by
  have hk := slen_eq h
  obtain ⟨_, c', e', h1, _⟩ := Sl.cap_le h
  injection e' with _ _ e3
  omega
theorem FM.lb (h : FM w a gb gm c n B M) : B.length = n * 256 := by
  obtain ⟨cb, cm, _, h1, _⟩ := h.o
  exact (slen_eq h1).symm
theorem FM.lm (h : FM w a gb gm c n B M) : M.length = n := by
  obtain ⟨cb, cm, _, _, h1⟩ := h.o
  exact (slen_eq h1).symm
theorem FM.cb (h : FM w a gb gm c n B M) : ∃ cb, n * 256 ≤ cb ∧ w.cell? ⟨a, 94, none⟩ = some (.slice (some ⟨gb, 0, none⟩) (n * 256) cb) ∧ SB w (.slice (some ⟨gb, 0, none⟩) (n * 256) cb) B := by
  obtain ⟨cb, cm, h0, h1, h2⟩ := h.o
  exact ⟨cb, scap_le h1, (h0.cell 94).trans (mg_94 ..), h1⟩
theorem FM.cm (h : FM w a gb gm c n B M) : ∃ cm, n ≤ cm ∧ w.cell? ⟨a, 95, none⟩ = some (.slice (some ⟨gm, 0, none⟩) n cm) ∧ SM w (.slice (some ⟨gm, 0, none⟩) n cm) M := by
  obtain ⟨cb, cm, h0, h1, h2⟩ := h.o
  exact ⟨cm, scap_le h2, (h0.cell 95).trans (mg_95 ..), h2⟩
theorem FM.cc (h : FM w a gb gm c n B M) {i : Nat} (hi : i < 94) : w.cell? ⟨a, i, none⟩ = some (.int .i64 (c i)) := by
  obtain ⟨cb, cm, h0, h1, h2⟩ := h.o
  exact (h0.cell i).trans (mg_get _ _ _ hi)
theorem FM.ne (h : FM w a gb gm c n B M) : a ≠ gb ∧ a ≠ gm ∧ gb ≠ gm := by
  obtain ⟨cb, cm, h0, h1, h2⟩ := h.o
  obtain ⟨x1, k1⟩ := Sl.blk h1 (k := gb) (by simp [own, Value.ownBlock])
  obtain ⟨x2, k2⟩ := Sl.blk h2 (k := gm) (by simp [own, Value.ownBlock])
  exact ⟨h0.ne_ k1 (by decide), h0.ne_ k2 (by decide), k1.ne_ k2 (by decide)⟩
theorem FM.chg {F : List Nat} (h : FM w a gb gm c n B M) (hc : Chg F w w') (ha : a ∉ F) (hb : gb ∉ F) (hm : gm ∉ F) : FM w' a gb gm c n B M := by
  obtain ⟨⟨cb, cm, h0, h1, h2⟩, h3, h4, h5, h6, h7⟩ := h
  exact ⟨⟨cb, cm, h0.chg hc ha, h1.chg hc (fun k hk => own_one hk ▸ hb), h2.chg hc (fun k hk => own_one hk ▸ hm)⟩, h3, h4, h5, h6, h7⟩
theorem FM.stay (h : FM w a gb gm c n B M) (hc : Chg [] w w') : FM w' a gb gm c n B M := h.chg hc List.not_mem_nil List.not_mem_nil List.not_mem_nil
theorem FM.lt (h : FM w a gb gm c n B M) : a < w.heap.size ∧ gb < w.heap.size ∧ gm < w.heap.size := by
  obtain ⟨cb, cm, h0, h1, h2⟩ := h.o
  exact ⟨h0.lt, h1.own_lt gb (by simp [own, Value.ownBlock]), h2.own_lt gm (by simp [own, Value.ownBlock])⟩
end
theorem ret_slice {A : Option Addr} {n m c d : Nat} (h : n = m) (k : c = d) : Ending.returned (.slice A n c) = .returned (.slice A m d) := by rw [h, k]
theorem ret_part {A A' : Option Addr} {n m c d : Nat} {x : Value} (hA : A = A') (h : n = m) (k : c = d) : Ending.returned (.tuple #[.slice A n c, x]) = .returned (.tuple #[.slice A' m d, x]) := by rw [hA, h, k]
/-- is there a frame k? -/
def frE (n : Nat) (k : Int) : Int := if 0 ≤ k ∧ k < n then 0 else 7
set_option maxHeartbeats 1000000 in
theorem ready_any {w : World} {a gb gm : Nat} {c : Cf} {n : Nat} {B : List Nat} {M : List Mk} (h : FM w a gb gm c n B M) :
    Calls Try.prog 43 #[.pointer (some ⟨a, 0, none⟩)] w fun e w' => e = .returned (.bool true) ∧ w = w' := by
  obtain ⟨cm, hcm, qm, _⟩ := h.cm
  have hne : ∀ W : World, (binOp .neq 77 (.slice (some ⟨gm, 0, none⟩) n cm) (.slice none 0 0)).run Try.prog W = .ok (.bool true) W := fun W => by simpa using run_neq_slice_nil (P := Try.prog) (w := W) 77 43 (some ⟨gm, 0, none⟩) n cm Try.underlying77
  clear h
  go_enter Try.func43, Try.ntmps43
  go_wp2_with fail
  go_ret
  exact ⟨rfl, rfl⟩
set_option maxHeartbeats 1000000 in
theorem asked_any {w : World} {a gb gm : Nat} {c : Cf} {n : Nat} {B : List Nat} {M : List Mk} (h : FM w a gb gm c n B M) (k : Int) :
    Calls Try.prog 41 #[.pointer (some ⟨a, 0, none⟩), .int .i64 k] w fun e w' => e = .returned (.int .i64 (frE n k)) ∧ w = w' := by
  obtain ⟨cm, hcm, qm, _⟩ := h.cm
  have hlt := h.lt.1
  have HR := hide (ready_any h)
  clear h
  by_cases h0 : k < 0
  · have e : frE n k = 7 := by unfold frE; rw [if_neg (by omega)]
    rw [e]
    have d1 : decide (k < 0) = true := decide_eq_true h0
    go_enter Try.func41, Try.ntmps41
    go_wp2_with fail
    refine HR.out.mono ?_
    rintro e w' ⟨rfl, rfl⟩
    go_wp2_with fail
    go_ret
    exact ⟨rfl, rfl⟩
  · have d1 : decide (k < 0) = false := decide_eq_false h0
    by_cases h1 : (n : Int) ≤ k
    · have e : frE n k = 7 := by unfold frE; rw [if_neg (by omega)]
      rw [e]
      have d2 : decide ((n : Int) ≤ k) = true := decide_eq_true h1
      go_enter Try.func41, Try.ntmps41
      go_wp2_with fail
      refine HR.out.mono ?_
      rintro e w' ⟨rfl, rfl⟩
      go_wp2_with fail
      go_ret
      exact ⟨rfl, rfl⟩
    · have e : frE n k = 0 := by unfold frE; rw [if_pos (by omega)]
      rw [e]
      have d2 : decide ((n : Int) ≤ k) = false := decide_eq_false h1
      go_enter Try.func41, Try.ntmps41
      go_wp2_with fail
      refine HR.out.mono ?_
      rintro e w' ⟨rfl, rfl⟩
      go_wp2_with fail
      go_ret
      exact ⟨rfl, rfl⟩
theorem dif256 (k : Nat) : (k + 1) * 256 - k * 256 = 256 := by omega
theorem tn256 (k : Nat) : ((k : Int) * 256).toNat = k * 256 := by omega
theorem tn256s (k : Nat) : (((k : Int) + 1) * 256).toNat = (k + 1) * 256 := by omega
set_option maxRecDepth 20000 in
set_option maxHeartbeats 1000000 in
theorem frame_any {w : World} {a gb gm : Nat} {c : Cf} {n : Nat} {B : List Nat} {M : List Mk} (h : FM w a gb gm c n B M) {k : Nat} (hk : k < n) :
    Calls Try.prog 50 #[.pointer (some ⟨a, 0, none⟩), .int .i64 k] w fun e w' => e = .returned (.slice (some ⟨gb, k * 256, none⟩) 256 256) ∧ w = w' := by
  obtain ⟨cb, hcb, qb, _⟩ := h.cb
  have hlt := h.lt.1
  have hn := h.n2
  have k1 : (0 : Int) ≤ (k : Int) := by omega
  have k2 : (k : Int) < 1024 := by omega
  have n1 : (n : Int) ≤ 1024 := by omega
  have e3 : ((k : Int) + 1) * 256 ≤ (cb : Int) := by omega
  have e4 : (k + 1) * 256 ≤ cb := by omega
  have e1 := tn256 k
  have e2 := tn256s k
  clear h
  go_enter Try.func50, Try.ntmps50
  go_wp2_with fail
  go_ret
  exact ⟨ret_slice (dif256 k) (dif256 k), rfl⟩
/-- why a part of a frame can't be had -/
def paE (n : Nat) (f at_ k : Int) : Int := if ¬ (0 ≤ f ∧ f < n) then 7 else if at_ < 0 ∨ k < 0 ∨ 256 < k ∨ 256 - k < at_ then 2 else 0
/-- the part -/
def paV (gb f at_ k : Nat) : Value := .slice (some ⟨gb, if at_ = 256 then f * 256 else f * 256 + at_, none⟩) k (256 - at_)
theorem paE_ok {n : Nat} {f at_ k : Int} (h : paE n f at_ k = 0) : 0 ≤ f ∧ f < n ∧ 0 ≤ at_ ∧ 0 ≤ k ∧ k ≤ 256 ∧ at_ + k ≤ 256 := by
  unfold paE at h
  split at h
  · omega
  · split at h <;> omega
set_option maxHeartbeats 2000000 in
theorem part_ok {w : World} {a gb gm : Nat} {c : Cf} {n : Nat} {B : List Nat} {M : List Mk} (h : FM w a gb gm c n B M) {f at_ k : Nat} (hf : f < n) (hk : at_ + k ≤ 256) :
    Calls Try.prog 38 #[.pointer (some ⟨a, 0, none⟩), .int .i64 f, .int .i64 at_, .int .i64 k] w fun e w' => e = .returned (.tuple #[paV gb f at_ k, .int .i64 0]) ∧ w = w' := by
  have HA := hide (asked_any h f)
  have HF := hide (frame_any h hf)
  rw [show frE n f = 0 by unfold frE; rw [if_pos (by omega)]] at HA
  have f1 : (0 : Int) ≤ (f : Int) := by omega
  have a1 : (0 : Int) ≤ (at_ : Int) := by omega
  have a2 : (at_ : Int) ≤ 256 := by omega
  have k1 : (0 : Int) ≤ (k : Int) := by omega
  have k2 : (k : Int) ≤ 256 := by omega
  have k3 : (at_ : Int) + (k : Int) ≤ 256 := by omega
  have d1 : decide ((at_ : Int) < 0) = false := decide_eq_false (by omega)
  have d2 : decide ((k : Int) < 0) = false := decide_eq_false (by omega)
  have d3 : decide (256 < (k : Int)) = false := decide_eq_false (by omega)
  have d5 : decide (256 < k) = false := decide_eq_false (by omega)
  have d4 : decide (256 - (k : Int) < (at_ : Int)) = false := decide_eq_false (by omega)
  clear h
  by_cases h6 : at_ = 256
  · subst h6
    obtain rfl : k = 0 := by omega
    go_enter Try.func38, Try.ntmps38
    go_wp2_with fail
    refine HA.out.mono ?_
    rintro e w' ⟨rfl, rfl⟩
    go_wp2_with fail
    refine HF.out.mono ?_
    rintro e w' ⟨rfl, rfl⟩
    go_wp2_with fail
    go_ret2
    refine ⟨?_, rfl⟩
    simp only [paV, if_pos]
    exact ret_part rfl (by omega) (by omega)
  · have h7 : ¬ 256 = at_ := by omega
    have h8 : ¬ 256 - at_ = 0 := by omega
    go_enter Try.func38, Try.ntmps38
    go_wp2_with fail
    refine HA.out.mono ?_
    rintro e w' ⟨rfl, rfl⟩
    go_wp2_with fail
    refine HF.out.mono ?_
    rintro e w' ⟨rfl, rfl⟩
    go_wp2_with fail
    go_ret2
    refine ⟨?_, rfl⟩
    simp only [paV, if_neg h6]
    exact ret_part rfl (by omega) (by omega)
set_option maxHeartbeats 2000000 in
theorem part_not {w : World} {a gb gm : Nat} {c : Cf} {n : Nat} {B : List Nat} {M : List Mk} (h : FM w a gb gm c n B M) {f at_ k x : Int} (hx : paE n f at_ k = x) (hx0 : x ≠ 0) (hk : -9223372036854775808 ≤ k ∧ k ≤ 9223372036854775807) :
    Calls Try.prog 38 #[.pointer (some ⟨a, 0, none⟩), .int .i64 f, .int .i64 at_, .int .i64 k] w fun e w' => e = .returned (.tuple #[.slice none 0 0, .int .i64 x]) ∧ w = w' := by
  have HA := hide (asked_any h f)
  have hn := h.n2
  clear h
  by_cases hf : 0 ≤ f ∧ f < n
  · rw [show frE n f = 0 by unfold frE; rw [if_pos hf]] at HA
    have h2 : x = 2 ∧ (at_ < 0 ∨ k < 0 ∨ 256 < k ∨ 256 - k < at_) := by
      unfold paE at hx
      rw [if_neg (by omega)] at hx
      split at hx
      · exact ⟨hx.symm, by assumption⟩
      · exact absurd hx.symm hx0
    obtain ⟨rfl, hc⟩ := h2
    clear hx hx0 hf
    by_cases c1 : at_ < 0
    · have d1 : decide (at_ < 0) = true := decide_eq_true c1
      clear hc
      go_enter Try.func38, Try.ntmps38
      go_wp2_with fail
      refine HA.out.mono ?_
      rintro e w' ⟨rfl, rfl⟩
      go_wp2_with fail
      go_ret2
      exact ⟨rfl, rfl⟩
    · have d1 : decide (at_ < 0) = false := decide_eq_false c1
      by_cases c2 : k < 0
      · have d2 : decide (k < 0) = true := decide_eq_true c2
        clear hc
        go_enter Try.func38, Try.ntmps38
        go_wp2_with fail
        refine HA.out.mono ?_
        rintro e w' ⟨rfl, rfl⟩
        go_wp2_with fail
        go_ret2
        exact ⟨rfl, rfl⟩
      · have d2 : decide (k < 0) = false := decide_eq_false c2
        by_cases c3 : 256 < k
        · have d3 : decide (256 < k) = true := decide_eq_true c3
          clear hc
          go_enter Try.func38, Try.ntmps38
          go_wp2_with fail
          refine HA.out.mono ?_
          rintro e w' ⟨rfl, rfl⟩
          go_wp2_with fail
          go_ret2
          exact ⟨rfl, rfl⟩
        · have d3 : decide (256 < k) = false := decide_eq_false c3
          have c4 : 256 - k < at_ := by omega
          have d4 : decide (256 - k < at_) = true := decide_eq_true c4
          have k1 : 0 ≤ k := by omega
          have k2 : k ≤ 256 := by omega
          clear hc
          go_enter Try.func38, Try.ntmps38
          go_wp2_with fail
          refine HA.out.mono ?_
          rintro e w' ⟨rfl, rfl⟩
          go_wp2_with fail
          go_ret2
          exact ⟨rfl, rfl⟩
  · rw [show frE n f = 7 by unfold frE; rw [if_neg hf]] at HA
    obtain rfl : x = 7 := by rw [← hx]; unfold paE; rw [if_pos hf]
    clear hx hx0 hf
    go_enter Try.func38, Try.ntmps38
    go_wp2_with fail
    refine HA.out.mono ?_
    rintro e w' ⟨rfl, rfl⟩
    go_wp2_with fail
    go_ret2
    exact ⟨rfl, rfl⟩
end Go.Proofs.Ytblkfikcfgocgaa
