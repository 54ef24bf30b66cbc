/- Policies: the turns. -/
import Derived.Test.YtgehpdkhcjeldaaPoG
import Derived.Test.YtgehpdkhcjeldaaPoA
namespace Go.Proofs.Ytgehpdkhcjeldaa
open Go Go.RowKit

/-- the nodes of a mask among the first n -/
def inL (m n : Nat) : List Nat := (List.range n).filter fun k => hasZ m (k : Nat)
theorem inL_yes {m k : Nat} (h : hasZ m (k : Nat) = true) : inL m (k + 1) = inL m k ++ [k] := by
  unfold inL
  rw [List.range_succ, List.filter_append]
  simp [h]
theorem inL_no {m k : Nat} (h : hasZ m (k : Nat) = false) : inL m (k + 1) = inL m k := by
  unfold inL
  rw [List.range_succ, List.filter_append]
  simp [h]
theorem inL_le (m n : Nat) : (inL m n).length ≤ n := by
  have := List.length_filter_le (fun k : Nat => hasZ m (k : Nat)) (List.range n)
  rw [List.length_range] at this
  exact this
/-- once round, from the p-th on -/
def rotL (l : List Nat) (p : Nat) : List Nat := l.drop (p % l.length) ++ l.take (p % l.length)
theorem SI_drop {w : World} {g off n cap k : Nat} {l : List Nat} (h : SI w (.slice (some ⟨g, off, none⟩) n cap) l) (hk : k ≤ l.length) (hc : ¬ cap = k) : SI w (.slice (some ⟨g, off + k, none⟩) (n - k) (cap - k)) (l.drop k) := by
  obtain ⟨A', c', e'⟩ := h.form
  injection e' with _ e2 _
  subst e2
  unfold SI SE at h ⊢
  have := Sl.drop h hk rfl
  rw [fc_drop ic_len, if_neg hc] at this
  rw [List.length_drop]
  have e : (⟨g, off, none⟩ : Addr).add k = ⟨g, off + k, none⟩ := Addr.add_lit ..
  simpa [e] using this
theorem RLI_two {w : World} {v0 v1 : Value} {l0 l1 : List Nat} (h0 : RI w v0 l0) (h1 : RI w v1 l1) (t : TypeId) :
    RLI (w.alloc (.cells #[v0, v1] t)) (.slice (some ⟨w.heap.size, 0, none⟩) 2 2) [l0, l1] := by
  refine ⟨[v0, v1], Rd_new w t 1 2 [v0, v1] rfl, fun i hi => ?_⟩
  match i, hi with
  | 0, _ => exact ⟨v0, rfl, Rd.alloc h0 _⟩
  | 1, _ => exact ⟨v1, rfl, Rd.alloc h1 _⟩
theorem RLI.drew {w : World} {v : Value} {ls : List (List Nat)} (h : RLI w v ls) : RLI w.drew v ls := h
set_option maxHeartbeats 4000000 in
theorem turns_any {m p : Nat} (hm : m < 256) (hp : (p : Int) ≤ 9223372036854775807) (h0 : 0 < (inL m 8).length) (w : World) :
    Calls Try.prog 43 #[.int .u8 m, .int .i64 p] w fun e w' => NewI w w' (rotL (inL m 8) p) e ∧ Chg [] w w' := by
  have HH := hide (fun W (k : Nat) => has_any hm (k : Int) W)
  have HM := hide hm
  have H0 := hide h0
  have HPP := hide hp
  obtain ⟨M8, hM8⟩ : ∃ M8, M8 = inL m 8 := ⟨_, rfl⟩
  rw [← hM8] at H0 ⊢
  have H8 := hide hM8
  clear hm h0 hp hM8
  go_enter Try.func43, Try.ntmps43
  go_wp2_with fail
  go_loopw [5, 8] (fun t i wr => ∃ (k : Nat) (A : Option Addr) (n cap : Nat), k ≤ 8 ∧ t = .slice A n cap ∧ i = .int .i64 k ∧ Hid (SI wr (.slice A n cap) (inL m k)) ∧ Hid (∀ j ∈ own (.slice A n cap), w.heap.size ≤ j) ∧ Chg [] w wr) (fun _ i _ => 8 - (intOf i).toNat)
  case atStart => exact ⟨0, none, 0, 0, by omega, rfl, rfl, hide (SE.nil _ _ _ _), hide (fun _ h => (own_nil h).elim), Chg.refl _ _⟩
  case round =>
    obtain ⟨k, A, n, cap, hk, rfl, rfl, hs, hown, hch⟩ := hrel
    by_cases hkt : k < 8
    · have k1 : (0 : Int) ≤ (k : Int) := by omega
      have k2 : (k : Int) < 8 := by omega
      have HL := hide (show (inL m k).length + [k].length ≤ 1000000 by have := inL_le m k; simp; omega)
      go_wp2_with fail
      refine (HH.out _ k).mono ?_
      rintro e W2 ⟨rfl, rfl⟩
      cases hz : hasZ m k with
      | true =>
        have HZ := hide (inL_yes hz)
        clear hz
        go_wp2_with (at_builtin; refine wpList_append_i rfl _ _ rfl (.slice A n cap) _ rfl rfl (l := inL m k) (m := [k]) (hs.out.stay ((Chg.refl [] wr).alloc _)) (RI_one wr k) HL.out ?_; intro A9 n9 c9 W9 hn9 hs9 hc9 hg9)
        go_roundw
        case rel => exact ⟨k + 1, A9, n9, c9, by omega, rfl, by go_num, hide (by rw [HZ.out]; exact hs9), hide (fun j hj => (hg9 j hj).elim (hown.out j) (fun h => by have := hch.size; simp at h; omega)), (hch.alloc _).trans hc9 (fun j hj => .inr (hown.out j hj))⟩
        case measure => simp [intOf]; omega
      | false =>
        have HZ := hide (inL_no hz)
        clear hz
        go_wp2_with fail
        go_roundw
        case rel => exact ⟨k + 1, A, n, cap, by omega, rfl, by go_num, hide (by rw [HZ.out]; exact hs.out), hown, hch⟩
        case measure => simp [intOf]; omega
    · obtain rfl : k = 8 := by omega
      have hs : Hid (SI wr (.slice A n cap) M8) := hide (by rw [H8.out]; exact hs.out)
      obtain ⟨L, rfl⟩ : ∃ L, L = M8 := ⟨_, rfl⟩
      have h8 : L.length ≤ 8 := by rw [H8.out]; exact inL_le m 8
      have hn : n = L.length := by
        obtain ⟨A', c', e'⟩ := hs.out.form
        injection e'
      subst hn
      obtain ⟨g, off, rfl⟩ := SE.addr hs.out H0.out
      have hcap : L.length ≤ cap := by
        obtain ⟨_, c', e', h1, _⟩ := Sl.cap_le hs.out
        injection e' with _ _ e3
        omega
      have l1 : (1 : Int) ≤ (L.length : Int) := by have := H0.out; omega
      have l2 : (L.length : Int) ≤ 8 := by omega
      obtain ⟨a, ha⟩ : ∃ a, a = p % L.length := ⟨_, rfl⟩
      have hal : a < L.length := by rw [ha]; exact Nat.mod_lt _ H0.out
      have p1 : (0 : Int) ≤ (p : Int) := by omega
      have p2 := HPP.out
      have hmod : ((p : Int) % (L.length : Int)) = (a : Int) := by rw [ha]; rfl
      have hl0 : ((L.length : Int) == 0) = false := beq_eq_false_iff_ne.2 (by omega)
      have HA := hide ha
      have a1 : (0 : Int) ≤ (a : Int) := by omega
      have a2 : (a : Int) ≤ (L.length : Int) := by omega
      have a3 : (a : Int) ≤ (cap : Int) := by omega
      have a4 : ¬ cap = a := by omega
      have HR := hide (RLI_two (SI_drop hs.out (Nat.le_of_lt hal) a4).re (SE.take ic_len hs.out (Nat.le_of_lt hal)).re 30)
      have HF := hide (show [L.drop a, L.take a].flatten.length ≤ 1000000 by rw [show [L.drop a, L.take a].flatten = L.drop a ++ L.take a by simp, List.length_append, List.length_drop, List.length_take]; omega)
      have HCON := concatI_any HR.out.drew (by simp) HF.out
      rw [show [L.drop a, L.take a].flatten = rotL L p by unfold rotL; rw [← HA.out]; simp] at HCON
      have HCC := hide HCON
      clear ha HCON
      go_wp2_with fail
      refine wp_region_t [0, 0, 0, 0, 0, 0, 2, 3, 0] [none, none, none, none, none, none, none, none, none] (fun _ => True) (by kernel_rfl) (by kernel_rfl) (by kernel_rfl) ?_
      go_wp2_with (first | fail | (refine wpG_calc rfl (fun K hK => ?_)) | (refine wpG_skip ?_ ?_; (focus (simp [wantG]; done)); go_simp) | (refine wpG_take ?_ ?_; (focus (simp [wantG]; done))) | (refine wpG_pure (fun K hK => ?_); go_simp; refine hK _ _ ?_; clear hK K) | (refine wpG_deed (by decide) (fun K hK => ?_); go_simp) | (refine wpG_nil ?_))
      refine HCC.out.mono ?_
      rintro e W3 ⟨⟨A3, c3, rfl, hs3, hn3⟩, hc3⟩
      have HS3 := hide hs3
      have HN3 := hide hn3
      clear hs3 hn3
      refine hK _ _ ?_
      clear hK K
      go_wp2_with (first | fail | (refine wpG_calc rfl (fun K hK => ?_)) | (refine wpG_skip ?_ ?_; (focus (simp [wantG]; done)); go_simp) | (refine wpG_take ?_ ?_; (focus (simp [wantG]; done))) | (refine wpG_pure (fun K hK => ?_); go_simp; refine hK _ _ ?_; clear hK K) | (refine wpG_deed (by decide) (fun K hK => ?_); go_simp) | (refine wpG_nil ?_))
      go_ret
      exact ⟨⟨A3, c3, rfl, HS3.out, fun k hk => by have := HN3.out k hk; have := hch.size; simp at *; omega⟩, ((hch.alloc _).drew).stay hc3⟩
end Go.Proofs.Ytgehpdkhcjeldaa
