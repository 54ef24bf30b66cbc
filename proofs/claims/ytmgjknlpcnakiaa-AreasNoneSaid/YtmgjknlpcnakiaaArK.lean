import Derived.Test.YtmgjknlpcnakiaaArJ
namespace Go.Proofs.Ytmgjknlpcnakiaa
open Go Go.RowKit

def hasB (l : List Rn) (q : Int) : Bool := decide (rt l q ≠ 0)
set_option maxHeartbeats 1000000 in
theorem rights_at {w : World} {d : Nat} {l : List Rn} {F : List Nat} (h : AMem w d l F) (hs : Sp l) (q : Int) : Calls Try.prog 13 #[.pointer (some ⟨d, 0, none⟩), .int .i64 q] w fun e w' => e = .returned (.tuple #[.int .u8 (rt l q), .bool (hasB l q)]) ∧ Chg [] w w' := by
  obtain ⟨v, hb, hs0, hF, hlt⟩ := h
  obtain ⟨A, c0, rfl⟩ := hs0.form
  have b0 := hb.cell 0
  simp at b0
  have hll := hs.len
  have Hs := hide hs0
  have Hl := hide hs
  clear hs0 hs hb hF hlt
  obtain ⟨x, hx⟩ : ∃ x, rt l q = x := ⟨_, rfl⟩
  obtain ⟨y, hy⟩ : ∃ y, hasB l q = y := ⟨_, rfl⟩
  rw [hx, hy]
  have Hx := hide hx
  have Hy := hide hy
  clear hx hy
  go_enter Try.func13, Try.ntmps13
  go_wp2_with fail
  go_loopw [15] (fun i wr => ∃ k : Nat, k ≤ l.length ∧ i = .int .i64 k ∧ Hid (rt l q = rt (l.drop k) q) ∧ Chg [] w wr) (fun i _ => l.length - (intOf i).toNat)
  case atStart => exact ⟨0, by omega, rfl, hide (by simp), Chg.refl _ _⟩
  case round =>
    obtain ⟨k, hk, rfl, hrt, hch⟩ := hrel
    by_cases hkt : k < l.length
    · have hsr := Hs.out.stay hch
      obtain ⟨g0, off, rfl⟩ := SE.addr hsr (by omega)
      obtain ⟨q0, q1, q2⟩ := RR.cells hsr.re hkt
      have hgl : g0 < wr.heap.size := hsr.own_lt g0 (by simp [own, Value.ownBlock])
      have hok := Hl.out.mem (List.getElem_mem hkt)
      have hdr : rt (l.drop k) q = if l[k].p ≤ q ∧ q < l[k].e then l[k].g else rt (l.drop (k + 1)) q := by rw [List.drop_eq_getElem_cons hkt]; rfl
      obtain ⟨r, hr⟩ : ∃ r, r = l[k] := ⟨_, rfl⟩
      rw [← hr] at q0 q1 q2 hok hdr
      obtain ⟨a1, a2, a3, a4, a5⟩ := hok
      clear hr hsr
      obtain ⟨p, c, g⟩ := r
      simp only at q0 q1 q2 a1 a2 a3 a4 a5 hdr
      have Hdr := hide hdr
      have hbx : Blk (wr.alloc (.cells #[.int .i64 p, .int .i64 c, .int .u8 g] 30)) wr.heap.size 30 #[.int .i64 p, .int .i64 c, .int .u8 g] := Blk.new wr 30 _
      clear hdr
      by_cases h1 : p ≤ q
      · by_cases h2 : q < p + c
        · have ex : g = x := by rw [← Hx.out, hrt.out, Hdr.out, if_pos ⟨h1, h2⟩]
          have ey : true = y := by rw [← Hy.out]; unfold hasB; rw [Hx.out, ← ex]; simp; omega
          subst ex; subst ey
          go_wp2_with (go_at_call 28; refine (end_any p c g _ ⟨by omega, by omega⟩ ⟨by omega, by omega⟩).mono ?_; rintro e W1 ⟨rfl, hc1⟩; have hb1 := box3 (hbx.chg hc1 List.not_mem_nil); obtain ⟨e0, e1, e2, e3⟩ := hb1)
          go_ret2
          exact ⟨rfl, (hch.alloc _).stay hc1⟩
        · go_wp2_with (go_at_call 28; refine (end_any p c g _ ⟨by omega, by omega⟩ ⟨by omega, by omega⟩).mono ?_; rintro e W1 ⟨rfl, hc1⟩)
          go_roundw
          case rel => exact ⟨k + 1, by omega, by go_num, hide (by rw [hrt.out, Hdr.out, if_neg (by have e : (⟨p, c, g⟩ : Rn).e = p + c := rfl; omega)]), (hch.alloc _).stay hc1⟩
          case measure => simp [intOf]; omega
      · go_wp2_with fail
        go_roundw
        case rel => exact ⟨k + 1, by omega, by go_num, hide (by rw [hrt.out, Hdr.out, if_neg (by omega)]), hch.alloc _⟩
        case measure => simp [intOf]; omega
    · have ek : l.drop k = [] := List.drop_eq_nil_of_le (by omega)
      have ex : (0 : Int) = x := by rw [← Hx.out, hrt.out, ek]; rfl
      have ey : false = y := by rw [← Hy.out]; unfold hasB; rw [Hx.out, ← ex]; simp
      subst ex; subst ey
      clear ek
      go_wp2_with fail
      go_ret2
      exact ⟨rfl, hch⟩
theorem rights_nil (w : World) (q : Int) : Calls Try.prog 13 #[.pointer none, .int .i64 q] w fun e w' => e = .returned (.tuple #[.int .u8 0, .bool false]) ∧ w = w' := by
  go_enter Try.func13, Try.ntmps13
  go_wp2_with fail
  go_ret2
  exact ⟨rfl, rfl⟩
theorem runs_any (v : Option Addr) (w : World) : Calls Try.prog 12 #[.pointer v] w fun e w' => e = .returned (.func (.func 26) #[] #[.pointer (some ⟨w.heap.size, 0, none⟩)]) ∧ Blk w' w.heap.size 23 #[.pointer v] ∧ Chg [] w w' := by
  go_enter Try.func12, Try.ntmps12
  go_wp2_with fail
  go_ret
  exact ⟨rfl, Blk.new w 23 _, (Chg.refl _ _).alloc _⟩
/-- slices.Clone -/
theorem clone_any {w : World} {v : Value} {l : List Rn} (hl : RR w v l) (hlen : l.length ≤ 1000000) : Calls Try.prog 27 #[v] w fun e w' => ∃ A n c, e = .returned (.slice A n c) ∧ SR w' (.slice A n c) l ∧ (∀ k ∈ own (.slice A n c), w.heap.size ≤ k) ∧ Chg [] w w' := by
  obtain ⟨A, c, rfl⟩ := hl.form
  cases A with
  | none =>
    have hl0 : l = [] := by
      cases l with
      | nil => rfl
      | cons a l =>
        obtain ⟨g, off, e⟩ := RE.addr hl (by simp)
        cases e
    subst hl0
    have hne : ∀ W : World, (binOp .eql 38 (.slice none ([] : List Rn).length c) (.slice none 0 0)).run Try.prog W = .ok (.bool true) W := fun W => Lib.run_eql_slice_nil W 38 30 _ _ _ 0 0 Try.underlying38
    clear hl
    simp only [List.length_nil] at hne ⊢
    go_enter Try.func27, Try.ntmps27
    go_wp2_with fail
    go_ret
    exact ⟨none, 0, 0, rfl, SE.nil _ _ _ _, fun k hk => (own_nil hk).elim, Chg.refl _ _⟩
  | some a0 =>
    have hne : ∀ W : World, (binOp .eql 38 (.slice (some a0) l.length c) (.slice none 0 0)).run Try.prog W = .ok (.bool false) W := fun W => Lib.run_eql_slice_nil W 38 30 _ _ _ 0 0 Try.underlying38
    have Hl := hide hl
    clear hl
    go_enter Try.func27, Try.ntmps27
    go_wp2_with (at_builtin; refine wpList_append_rn rfl _ _ rfl (.slice (some ⟨w.heap.size, 0, none⟩) 0 0) _ rfl rfl (l := []) (m := l) (Sl_nil_new w 30 3) (Hl.out.stay ((Chg.refl _ _).alloc _)) (by simpa using hlen) ?_; intro A9 n9 c9 W9 hn9 hs9 hc9 hg9)
    go_ret
    exact ⟨_, _, _, rfl, hs9, fun k hk => (hg9 k hk).elim (fun h => by simp [own, Value.ownBlock] at h; omega) (fun h => by simp at h; omega), ((Chg.refl [] w).alloc _).trans hc9 (fun k hk => .inr (by simp [own, Value.ownBlock] at hk; omega))⟩
theorem copy_nil (w : World) : Calls Try.prog 24 #[.pointer none] w fun e w' => e = .returned (.pointer none) ∧ w = w' := by
  go_enter Try.func24, Try.ntmps24
  go_wp2_with fail
  go_ret
  exact ⟨rfl, rfl⟩
theorem copy_at {w : World} {d : Nat} {l : List Rn} {F : List Nat} (h : AMem w d l F) (hlen : l.length ≤ 1000) : Calls Try.prog 24 #[.pointer (some ⟨d, 0, none⟩)] w fun e w' => ∃ d' F', e = .returned (.pointer (some ⟨d', 0, none⟩)) ∧ AMem w' d' l F' ∧ (∀ k ∈ F', w.heap.size ≤ k) ∧ Chg [] w w' := by
  obtain ⟨v, hb, hs, hF, hlt⟩ := h
  obtain ⟨A, c0, rfl⟩ := hs.form
  have b0 := hb.cell 0
  simp at b0
  have HC := hide (clone_any hs.re (by omega))
  clear hs hb hF hlt
  go_enter Try.func24, Try.ntmps24
  go_wp2_with (go_at_call 27; refine HC.out.mono ?_; rintro e W1 ⟨A1, n1, c1, rfl, hs1, hn1, hc1⟩)
  go_ret
  refine ⟨_, W1.heap.size :: own (.slice A1 n1 c1), rfl, ⟨_, Blk.new W1 51 _, hs1.stay ((Chg.refl _ _).alloc _), fun k hk => hk, fun k hk => ?_⟩, fun k hk => ?_, hc1.alloc _⟩
  · rcases List.mem_cons.1 hk with rfl | hk
    · simp
    · have := hs1.own_lt k hk; simp; omega
  · rcases List.mem_cons.1 hk with rfl | hk
    · exact hc1.size
    · exact hn1 k hk
end Go.Proofs.Ytmgjknlpcnakiaa
