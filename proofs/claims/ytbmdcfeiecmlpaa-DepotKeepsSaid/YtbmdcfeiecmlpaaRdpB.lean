import Derived.Test.YtbmdcfeiecmlpaaRdpA
import Derived.Test.YtbmdcfeiecmlpaaDepI
namespace Go.Proofs.Ytbmdcfeiecmlpaa
open Go Go.RowKit

set_option maxHeartbeats 600000 in
theorem rddrain_walk {w : World} {d r k : Nat} {fs : List (List Ob)} {q : List Ob} {F : List Nat} (hm : DMem 67 w d r fs q F) (x : Int) (hkq : k ≤ q.length) (hq : q.length ≤ 100000) (hx : (x < 0 ∧ k = 0) ∨ x = k ∨ (k = q.length ∧ (k : Int) < x)) :
    Calls Try.prog 42 #[.pointer (some ⟨d, 0, none⟩), .int .i64 x] w fun e w' => (NewO w w' (q.take k) e ∧ ∃ F', DMem 67 w' d r fs (q.drop k) F' ∧ Step F F' w) ∧ Chg F w w' := by
  obtain ⟨A0, c0, A1, c1, vs, hb, h0, h1, hs, hd, n0, n1, n2, hnd, hlt⟩ := hm.parts
  have x2 := hb.cell 2
  simp at x2
  have hdl := hlt d hd
  have elt : (q.take k).length = k := by rw [List.length_take]; omega
  have eld : (q.drop k).length = q.length - k := by rw [List.length_drop]
  have hrt : Rd w 2 (.slice A1 k c1) k (oc (q.take k)) := by have := RO.take h1.ro hkq; unfold RO at this; rw [elt] at this; exact this
  have hnc : k ≤ c1 := by
    obtain ⟨A', c', e, hc, _⟩ := Sl.cap_le h1
    injection e with _ _ e
    omega
  have Hnd := hide hnd
  have Helt := hide elt
  have Held := hide eld
  have hnl : ¬ q.length < k := by omega
  have fin : ∀ (w2 w4 : World) (A3 : Option Addr) (c3 : Nat) (A4 : Option Addr) (c4 : Nat), Chg [] w w2 → Chg [] w2 w4 → SO w2 (.slice A3 k c3) (q.take k) → SO w4 (.slice A4 (q.length - k) c4) (q.drop k) → (∀ j ∈ own (.slice A3 k c3), w.heap.size ≤ j) → (∀ j ∈ own (.slice A4 (q.length - k) c4), w2.heap.size ≤ j) →
      (NewO w (w4.setCell ⟨d, 2, none⟩ (.slice A4 (q.length - k) c4)) (q.take k) (.returned (.slice A3 k c3)) ∧ ∃ F', DMem 67 (w4.setCell ⟨d, 2, none⟩ (.slice A4 (q.length - k) c4)) d r fs (q.drop k) F' ∧ Step F F' w) ∧ Chg F w (w4.setCell ⟨d, 2, none⟩ (.slice A4 (q.length - k) c4)) := by
    intro w2 w4 A3 c3 A4 c4 hS2 hS24 hs3 hs4 ho3 ho4
    have hS4 : Chg [] w w4 := hS2.trans hS24 (fun _ h => by cases h)
    have hb4 := hb.chg hS4 List.not_mem_nil
    have hz2 := hS2.size
    have hz4 := hS24.size
    have hs34 := Sl.chg hs3 hS24 (fun _ _ h => by cases h)
    refine ⟨⟨⟨A3, c3, by rw [elt], by rw [elt]; exact Sl.far hs34 (p := ⟨d, 2, none⟩) (blk_other hs34 hb4 (by decide)) _, fun j hj => ho3 j (by rw [elt] at hj; exact own_mem.2 hj)⟩,
      own (.slice A4 (q.length - k) c4) ++ F, DMem.set2 (by decide) hb4 (h0.chg hS4 (fun _ _ h => by cases h)) hs4 (hs.chg hS4 (fun _ _ h => by cases h)) (List.mem_append_right _ hd) (fun j hj => List.mem_append_right _ (n0 j hj)) (fun j hj => List.mem_append_left _ hj) (fun j hj => List.mem_append_right _ (n2 j hj)) ?_ ?_, ?_⟩, (hS4.mono (fun _ h => by cases h)).setCell (.inl hd) _⟩
    · refine List.nodup_append.2 ⟨by unfold own; cases Value.ownBlock _ <;> simp, (List.nodup_append.1 hnd).2.1, fun a ha b hb e => ?_⟩
      subst e
      have := ho4 a ha
      have := hlt a (n2 a hb)
      omega
    · intro j hj
      rcases List.mem_append.1 hj with hj | hj
      · exact hs4.own_lt j hj
      · have := hlt j hj; omega
    · intro j hj
      rcases List.mem_append.1 hj with hj | hj
      · have := ho4 j hj; exact .inr (by omega)
      · exact .inl hj
  have Fin := hide fin
  have hone1 := hide (oc_one (q.take k))
  have hone2 := hide (oc_one (q.drop k))
  have HL1 : Hid (0 + k ≤ 1000000) := hide (by omega)
  have HL2 : Hid (0 + (q.length - k) ≤ 1000000) := hide (by omega)
  obtain ⟨i28, hi, hz, hi1, hi2⟩ := info_parts info28
  have Happ : Hid (∀ (W : World) (n : Nat) (v : Value) (l : List Ob), l.length = n → n ≤ 1000000 → Rd W 2 v n (oc l) → ∃ A c w', (Builtin.append_ #[22, 22] 22 #[.slice (some ⟨W.heap.size, 0, none⟩) 0 0, v]).run Try.prog (W.alloc (.cells #[] 28)) = .ok (.slice A n c) w' ∧ SO w' (.slice A n c) l ∧ Chg [] W w' ∧ ∀ j ∈ own (.slice A n c), W.heap.size ≤ j) := hide (by
    intro W n v l hln hn hv
    have hv' : RO W v l := by unfold RO; rw [hln]; exact hv
    obtain ⟨A, c, w', hrun, h2, h3, h4⟩ := run_append_ob (SO_nil_new W) (Rd.alloc hv' _) (by simp; omega) 22
    have e0 : ([] : List Ob).length + l.length = n := by simp [hln]
    rw [e0] at hrun h2 h4
    refine ⟨A, c, w', hrun, by simpa using h2, ((Chg.refl [] W).alloc _).trans h3 (fun j hj => .inr (by simp [Value.ownBlock] at hj; omega)), fun j hj => ?_⟩
    rw [own_mem] at hj
    rcases h4 with e | e
    · rw [hj] at e; simp [Value.ownBlock] at e; omega
    · rw [hj] at e; simp at e; omega)
  have Core : Hid (∀ V2 : Value, Rd w 2 V2 (q.length - k) (oc (q.drop k)) → ∃ (A3 : Option Addr) (c3 : Nat) (w2 : World) (A4 : Option Addr) (c4 : Nat) (w4 : World),
      (Builtin.append_ #[22, 22] 22 #[.slice (some ⟨w.heap.size, 0, none⟩) 0 0, .slice A1 k c1]).run Try.prog (w.alloc (.cells #[] 28)) = .ok (.slice A3 k c3) w2 ∧
      (Builtin.append_ #[22, 22] 22 #[.slice (some ⟨w2.heap.size, 0, none⟩) 0 0, V2]).run Try.prog (w2.alloc (.cells #[] 28)) = .ok (.slice A4 (q.length - k) c4) w4 ∧
      (w2.cell? ⟨d, 2, none⟩ = some (.slice A1 q.length c1) ∧ d < w2.heap.size ∧ w4.cell? ⟨d, 2, none⟩ = some (.slice A1 q.length c1) ∧ w4.frozen? ⟨d, 2, none⟩ = false) ∧
      ((NewO w (w4.setCell ⟨d, 2, none⟩ (.slice A4 (q.length - k) c4)) (q.take k) (.returned (.slice A3 k c3)) ∧ ∃ F', DMem 67 (w4.setCell ⟨d, 2, none⟩ (.slice A4 (q.length - k) c4)) d r fs (q.drop k) F' ∧ Step F F' w) ∧ Chg F w (w4.setCell ⟨d, 2, none⟩ (.slice A4 (q.length - k) c4)))) := hide (by
    intro V2 hV2
    obtain ⟨A3, c3, w2, hrun1, hs3, hS2, ho3⟩ := Happ.out w k _ _ elt (by omega) hrt
    obtain ⟨A4, c4, w4, hrun2, hs4, hS24, ho4⟩ := Happ.out w2 (q.length - k) _ _ eld (by omega) (Rd.chg hV2 hS2 (fun _ _ h => by cases h))
    have hb2 := hb.chg hS2 List.not_mem_nil
    have z2 := hb2.cell 2
    have hb4 := hb2.chg hS24 List.not_mem_nil
    have z4 := hb4.cell 2
    have y4 := hb4.frozen 2
    simp at z2 z4
    exact ⟨A3, c3, w2, A4, c4, w4, hrun1, hrun2, ⟨z2, hb2.lt, z4, y4⟩, fin w2 w4 A3 c3 A4 c4 hS2 hS24 hs3 hs4 ho3 ho4⟩)
  have hdrop : Hid (RO w (.slice (if c1 = k then A1 else A1.map (·.add (k * 2))) (q.length - k) (c1 - k)) (q.drop k)) := hide (RO.drop h1.ro hkq)
  have hro := hide h1.ro
  clear fin Fin elt eld hi hz hi1 hi2 hrt Happ hnd
  rcases Nat.eq_zero_or_pos k with hk0 | hk0
  · subst hk0
    obtain ⟨A3, c3, w2, A4, c4, w4, hrun1, hrun2, ⟨z2, hd2, z4, y4⟩, hfin⟩ := Core.out (.slice A1 q.length c1) (by have := hro.out; unfold RO at this; simpa using this)
    have HFin := hide hfin
    rw [Nat.sub_zero] at hrun2
    clear hfin Core hdrop hro
    rcases hx with ⟨hx, _⟩ | rfl | ⟨hkl, hx⟩
    · go_enter Try.func42, Try.ntmps42
      go_wp2_with (first | (at_builtin; refine wpList_append_runs rfl (.tmp 20) (.tmp 26) _ rfl rfl rfl hrun1 ?_) | (at_builtin; refine wpList_append_runs rfl (.tmp 29) (.tmp 35) _ rfl rfl rfl hrun2 ?_) | (refine wpT_calc0 rfl rfl (fun K hK => ?_)) | (refine wpT_skipG rfl ?_ ?_; focus (simp [yielded]; done); go_simp) | (refine wpT_calcG rfl rfl ?_ (fun K hK => ?_); focus (simp [yielded]; done)) | (refine wpT_pure (fun K hK => ?_); go_simp; refine hK _ _ ?_; clear hK K) | (refine wpT_plain (by decide) rfl (fun K hK => ?_)) | (refine wpT_deed (by decide) (fun K hK => ?_); go_simp) | (refine wpT_nil ?_))
      go_ret
      have h := HFin.out
      simp only [List.take_zero, List.drop_zero, Nat.sub_zero] at h
      exact h
    · go_enter Try.func42, Try.ntmps42
      go_wp2_with (first | (at_builtin; refine wpList_append_runs rfl (.tmp 20) (.tmp 26) _ rfl rfl rfl hrun1 ?_) | (at_builtin; refine wpList_append_runs rfl (.tmp 29) (.tmp 35) _ rfl rfl rfl hrun2 ?_) | (refine wpT_calc0 rfl rfl (fun K hK => ?_)) | (refine wpT_skipG rfl ?_ ?_; focus (simp [yielded]; done); go_simp) | (refine wpT_calcG rfl rfl ?_ (fun K hK => ?_); focus (simp [yielded]; done)) | (refine wpT_pure (fun K hK => ?_); go_simp; refine hK _ _ ?_; clear hK K) | (refine wpT_plain (by decide) rfl (fun K hK => ?_)) | (refine wpT_deed (by decide) (fun K hK => ?_); go_simp) | (refine wpT_nil ?_))
      go_ret
      have h := HFin.out
      simp only [List.take_zero, List.drop_zero, Nat.sub_zero] at h
      exact h
    · obtain rfl : q = [] := List.eq_nil_of_length_eq_zero hkl.symm
      simp only [List.length_nil] at x2 z2 z4 hrun2
      have hx0 : ¬ x < 0 := by omega
      have hx1 : 0 < x := by simpa using hx
      clear hx hkl
      go_enter Try.func42, Try.ntmps42
      go_wp2_with (first | (at_builtin; refine wpList_append_runs rfl (.tmp 20) (.tmp 26) _ rfl rfl rfl hrun1 ?_) | (at_builtin; refine wpList_append_runs rfl (.tmp 29) (.tmp 35) _ rfl rfl rfl hrun2 ?_) | (refine wpT_calc0 rfl rfl (fun K hK => ?_)) | (refine wpT_skipG rfl ?_ ?_; focus (simp [yielded]; done); go_simp) | (refine wpT_calcG rfl rfl ?_ (fun K hK => ?_); focus (simp [yielded]; done)) | (refine wpT_pure (fun K hK => ?_); go_simp; refine hK _ _ ?_; clear hK K) | (refine wpT_plain (by decide) rfl (fun K hK => ?_)) | (refine wpT_deed (by decide) (fun K hK => ?_); go_simp) | (refine wpT_nil ?_))
      go_ret
      have h := HFin.out
      simp only [List.take_zero, List.drop_zero, Nat.sub_zero, List.length_nil] at h
      exact h
  · have hk1 : ¬ ((k : Int) < 0) := by omega
    rcases hx with ⟨hx, hk⟩ | rfl | ⟨hkl, hx⟩
    · omega
    · have hkd : decide ((q.length : Int) < (k : Int)) = false := by simp; omega
      by_cases hck : c1 = k
      · subst hck
        have hV := hdrop.out
        rw [if_pos rfl, Nat.sub_self] at hV
        obtain ⟨A3, c3, w2, A4, c4, w4, hrun1, hrun2, ⟨z2, hd2, z4, y4⟩, hfin⟩ := Core.out (.slice A1 (q.length - c1) 0) (by unfold RO at hV; rw [List.length_drop] at hV; exact hV)
        have HFin := hide hfin
        clear hfin Core hdrop hro hV
        go_enter Try.func42, Try.ntmps42
        go_wp2_with (first | (at_builtin; refine wpList_append_runs rfl (.tmp 20) (.tmp 26) _ rfl rfl rfl hrun1 ?_) | (at_builtin; refine wpList_append_runs rfl (.tmp 29) (.tmp 35) _ rfl rfl rfl hrun2 ?_) | (refine wpT_calc0 rfl rfl (fun K hK => ?_)) | (refine wpT_skipG rfl ?_ ?_; focus (simp [yielded]; done); go_simp) | (refine wpT_calcG rfl rfl ?_ (fun K hK => ?_); focus (simp [yielded]; done)) | (refine wpT_pure (fun K hK => ?_); go_simp; refine hK _ _ ?_; clear hK K) | (refine wpT_plain (by decide) rfl (fun K hK => ?_)) | (refine wpT_deed (by decide) (fun K hK => ?_); go_simp) | (refine wpT_nil ?_))
        go_ret
        exact HFin.out
      · have hV := hdrop.out
        rw [if_neg hck] at hV
        obtain ⟨A3, c3, w2, A4, c4, w4, hrun1, hrun2, ⟨z2, hd2, z4, y4⟩, hfin⟩ := Core.out (.slice (A1.map (·.add (k * 2))) (q.length - k) (c1 - k)) (by unfold RO at hV; rw [List.length_drop] at hV; exact hV)
        have HFin := hide hfin
        clear hfin Core hdrop hro hV
        go_enter Try.func42, Try.ntmps42
        go_wp2_with (first | (at_builtin; refine wpList_append_runs rfl (.tmp 20) (.tmp 26) _ rfl rfl rfl hrun1 ?_) | (at_builtin; refine wpList_append_runs rfl (.tmp 29) (.tmp 35) _ rfl rfl rfl hrun2 ?_) | (refine wpT_calc0 rfl rfl (fun K hK => ?_)) | (refine wpT_skipG rfl ?_ ?_; focus (simp [yielded]; done); go_simp) | (refine wpT_calcG rfl rfl ?_ (fun K hK => ?_); focus (simp [yielded]; done)) | (refine wpT_pure (fun K hK => ?_); go_simp; refine hK _ _ ?_; clear hK K) | (refine wpT_plain (by decide) rfl (fun K hK => ?_)) | (refine wpT_deed (by decide) (fun K hK => ?_); go_simp) | (refine wpT_nil ?_))
        go_ret
        exact HFin.out
    · have hx0 : ¬ x < 0 := by omega
      subst hkl
      by_cases hck : c1 = q.length
      · subst hck
        have hV := hdrop.out
        rw [if_pos rfl, Nat.sub_self] at hV
        obtain ⟨A3, c3, w2, A4, c4, w4, hrun1, hrun2, ⟨z2, hd2, z4, y4⟩, hfin⟩ := Core.out (.slice A1 0 0) (by unfold RO at hV; rw [List.length_drop, Nat.sub_self] at hV; rw [Nat.sub_self]; exact hV)
        have HFin := hide hfin
        rw [Nat.sub_self] at hrun2
        clear hfin Core hdrop hro hV
        go_enter Try.func42, Try.ntmps42
        go_wp2_with (first | (at_builtin; refine wpList_append_runs rfl (.tmp 20) (.tmp 26) _ rfl rfl rfl hrun1 ?_) | (at_builtin; refine wpList_append_runs rfl (.tmp 29) (.tmp 35) _ rfl rfl rfl hrun2 ?_) | (refine wpT_calc0 rfl rfl (fun K hK => ?_)) | (refine wpT_skipG rfl ?_ ?_; focus (simp [yielded]; done); go_simp) | (refine wpT_calcG rfl rfl ?_ (fun K hK => ?_); focus (simp [yielded]; done)) | (refine wpT_pure (fun K hK => ?_); go_simp; refine hK _ _ ?_; clear hK K) | (refine wpT_plain (by decide) rfl (fun K hK => ?_)) | (refine wpT_deed (by decide) (fun K hK => ?_); go_simp) | (refine wpT_nil ?_))
        go_ret
        have h := HFin.out
        simp only [List.take_length, List.drop_length, Nat.sub_self] at h ⊢
        exact h
      · have hV := hdrop.out
        rw [if_neg hck] at hV
        obtain ⟨A3, c3, w2, A4, c4, w4, hrun1, hrun2, ⟨z2, hd2, z4, y4⟩, hfin⟩ := Core.out (.slice (A1.map (·.add (q.length * 2))) 0 (c1 - q.length)) (by unfold RO at hV; rw [List.length_drop, Nat.sub_self] at hV; rw [Nat.sub_self]; exact hV)
        have HFin := hide hfin
        rw [Nat.sub_self] at hrun2
        clear hfin Core hdrop hro hV
        go_enter Try.func42, Try.ntmps42
        go_wp2_with (first | (at_builtin; refine wpList_append_runs rfl (.tmp 20) (.tmp 26) _ rfl rfl rfl hrun1 ?_) | (at_builtin; refine wpList_append_runs rfl (.tmp 29) (.tmp 35) _ rfl rfl rfl hrun2 ?_) | (refine wpT_calc0 rfl rfl (fun K hK => ?_)) | (refine wpT_skipG rfl ?_ ?_; focus (simp [yielded]; done); go_simp) | (refine wpT_calcG rfl rfl ?_ (fun K hK => ?_); focus (simp [yielded]; done)) | (refine wpT_pure (fun K hK => ?_); go_simp; refine hK _ _ ?_; clear hK K) | (refine wpT_plain (by decide) rfl (fun K hK => ?_)) | (refine wpT_deed (by decide) (fun K hK => ?_); go_simp) | (refine wpT_nil ?_))
        go_ret
        have h := HFin.out
        simp only [List.take_length, List.drop_length, Nat.sub_self] at h ⊢
        exact h
end Go.Proofs.Ytbmdcfeiecmlpaa
