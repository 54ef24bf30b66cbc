import Derived.Test.YtbmdcfeiecmlpaaRdpB
namespace Go.Proofs.Ytbmdcfeiecmlpaa
open Go Go.RowKit

theorem rddrain_at {w : World} {d r : Nat} {fs : List (List Ob)} {q : List Ob} {F : List Nat} (hm : DMem 67 w d r fs q F) (x : Int) (hq : q.length ≤ 100000) :
    Calls Try.prog 42 #[.pointer (some ⟨d, 0, none⟩), .int .i64 x] w fun e w' => (NewO w w' (q.take (drainN x q.length)) e ∧ ∃ F', DMem 67 w' d r fs (q.drop (drainN x q.length)) F' ∧ Step F F' w) ∧ Chg F w w' := by
  unfold drainN
  by_cases h : x ≤ 0
  · rw [if_pos h]
    exact rddrain_walk hm x (Nat.zero_le _) hq (by omega)
  · rw [if_neg h]
    exact rddrain_walk hm x (by omega) hq (by omega)

theorem flat_succ (fs : List (List Ob)) (j : Nat) (h : j < fs.length) : (fs.take (j + 1)).flatten = (fs.take j).flatten ++ fs[j] := by
  rw [List.take_succ_eq_append_getElem h, List.flatten_append]; simp only [List.flatten_cons, List.flatten_nil, List.append_nil]
set_option maxHeartbeats 1000000 in
theorem rdall_at {w : World} {d r : Nat} {fs : List (List Ob)} {q : List Ob} {F : List Nat} (hm : DMem 67 w d r fs q F) (hf : fs.length ≤ 1000) (hq : (dall fs q).length ≤ 1000000) :
    Calls Try.prog 44 #[.pointer (some ⟨d, 0, none⟩)] w fun e w' => NewO w w' (dall fs q) e ∧ Chg [] w w' := by
  obtain ⟨A0, c0, A1, c1, vs, hb, h0, h1, hs, hd, n0, n1, n2, hnd, hlt⟩ := hm.parts
  have hrl := hs.all h0.rd
  have hql : fs.flatten.length + q.length ≤ 1000000 := by have := hq; unfold dall at this; rw [List.length_append] at this; exact this
  have Hql := hide hql
  clear hq hql
  go_enter Try.func44, Try.ntmps44
  go_wp2_with fail
  go_loopw [3, 4] (fun l i wr => ∃ (j : Nat) (A : Option Addr) (c : Nat) (L : List Ob), j ≤ fs.length ∧ i = .int .i64 j ∧ l = .slice A L.length c ∧ SO wr (.slice A L.length c) L ∧ (∀ k ∈ own (.slice A L.length c), w.heap.size ≤ k) ∧ Chg [] w wr ∧ Hid (L = (fs.take j).flatten)) (fun _ i _ => fs.length - (intOf i).toNat)
  case atStart => exact ⟨0, none, 0, [], Nat.zero_le _, rfl, rfl, Sl.nil _ _ _, fun k hk => by simp [own, Value.ownBlock] at hk, Chg.refl _ _, rfl⟩
  case round =>
    obtain ⟨j, A, c, L, hj, rfl, rfl, hsl, hown, hc, HL⟩ := hrel
    have x1 := (hb.chg hc List.not_mem_nil).cell 1
    have x2 := (hb.chg hc List.not_mem_nil).cell 2
    simp at x1 x2
    have hLl : L.length ≤ fs.flatten.length := by
      have := lsum_le fs j
      rw [HL.out]; exact this
    by_cases hjt : j < fs.length
    · obtain ⟨g, off, c', A', n', e, hcell, hro⟩ := (hrl.chg hc).at_ hjt
      injection e with e1 _ e2
      subst e1; subst e2
      have hL2 : Hid (L.length + fs[j].length ≤ 1000000) := hide (by
        have h1 := lsum_succ fs j hjt
        have h2 := lsum_le fs (j + 1)
        have h3 : L.length = lsum fs j := by rw [HL.out]; rfl
        have := Hql.out
        omega)
      have HT := hide (flat_succ fs j hjt)
      clear hLl
      go_wp2_with (at_builtin; refine wpList_append_ob rfl _ _ rfl (.slice A L.length c) _ rfl rfl hsl hro hL2.out ?_; intro A3 c3 w3 hs3 hc3 ho3)
      go_roundw
      case rel =>
        have hgr : ∀ k ∈ own (.slice A3 (L.length + fs[j].length) c3), w.heap.size ≤ k := fun k hk => by
          rw [own_mem] at hk
          rcases ho3 with e | e
          · exact hown k (own_mem.2 (by rw [← e]; exact hk))
          · rw [hk] at e
            have := hc.size
            simp at e
            omega
        rw [← List.length_append] at hgr hs3
        refine ⟨j + 1, A3, c3, L ++ fs[j], by omega, by go_num, by rw [List.length_append], hs3, hgr, hc.trans hc3 (fun k hk => .inr (hown k (by simpa [own] using hk))), ?_⟩
        show L ++ fs[j] = _
        rw [HT.out, HL.out]
      case measure => simp [intOf]; omega
    · have hL2 : Hid (L.length + q.length ≤ 1000000) := hide (by have := Hql.out; omega)
      have hjl : fs.take j = fs := List.take_of_length_le (by omega)
      have Hjl := hide hjl
      have hq2 : RO wr (.slice A1 q.length c1) q := Rd.chg h1.ro hc (fun _ _ h => by cases h)
      clear hjl hLl
      go_wp2_with (at_builtin; refine wpList_append_ob rfl _ _ rfl (.slice A L.length c) (.slice A1 q.length c1) rfl rfl hsl hq2 hL2.out ?_; intro A3 c3 w3 hs3 hc3 ho3)
      go_ret
      have eL : L ++ q = dall fs q := by rw [HL.out, Hjl.out]; rfl
      have hgr : ∀ k ∈ own (.slice A3 (L.length + q.length) c3), w.heap.size ≤ k := fun k hk => by
        rw [own_mem] at hk
        rcases ho3 with e | e
        · exact hown k (own_mem.2 (by rw [← e]; exact hk))
        · rw [hk] at e
          have := hc.size
          simp at e
          omega
      rw [← List.length_append] at hs3 hgr
      rw [eL] at hs3 hgr
      refine ⟨⟨A3, c3, ?_, hs3, fun k hk => hgr k (own_mem.2 hk)⟩, hc.trans hc3 (fun k hk => .inr (hown k (by simpa [own] using hk)))⟩
      rw [← eL, List.length_append]
      rfl
end Go.Proofs.Ytbmdcfeiecmlpaa
