import Derived.Test.YtbmdcfeiecmlpaaDepD
import Derived.Test.YtbmdcfeiecmlpaaRefD
namespace Go.Proofs.Ytbmdcfeiecmlpaa
open Go Go.RowKit

/-! ## The document's depot -/
set_option maxHeartbeats 1000000 in
theorem rdnew_any (x : Int) (w : World) : Calls Try.prog 39 #[.int .i64 x] w fun e w' => (∃ d, e = .returned (.pointer (some ⟨d, 0, none⟩)) ∧ DMem 67 w' d (clamp x) [] [] [d] ∧ w.heap.size ≤ d) ∧ Chg [] w w' := by
  obtain ⟨r, hr⟩ : ∃ r, clamp x = r := ⟨_, rfl⟩
  have hn := rnew_any x w
  rw [hr] at hn ⊢
  have HN := hide hn
  clear hn hr
  go_enter Try.func39, Try.ntmps39
  go_wp2_with (first | (go_at_call 28; refine HN.out.mono ?_; rintro e w1 ⟨rfl, hs1, hc1⟩; have x0 := hs1.cell0) | (refine wpT_calc0 rfl rfl (fun K hK => ?_)) | (refine wpT_skipG rfl ?_ ?_; focus (simp [yielded]; done); go_simp) | (refine wpT_calcG rfl rfl ?_ (fun K hK => ?_); focus (simp [yielded]; done)) | (refine wpT_pure (fun K hK => ?_); go_simp; refine hK _ _ ?_; clear hK K) | (refine wpT_plain (by decide) rfl (fun K hK => ?_)) | (refine wpT_deed (by decide) (fun K hK => ?_); go_simp) | (refine wpT_nil ?_))
  go_ret
  exact ⟨⟨_, rfl, DMem.made (T := 67) w1 r, hc1.size⟩, hc1.alloc _⟩

set_option maxHeartbeats 1000000 in
theorem rdput_no {w : World} {d r : Nat} {fs : List (List Ob)} {q : List Ob} {F : List Nat} (hm : DMem 67 w d r fs q F) (A : Option Addr) (n c : Nat) (hn : n ≤ 1000000) (hf : fs.length ≤ 1000000) (h : n ≠ r ∨ 64 ≤ fs.length) :
    Calls Try.prog 40 #[.pointer (some ⟨d, 0, none⟩), .slice A n c] w fun e w' => e = .returned (.int .i64 (if n ≠ r then 2 else 9)) ∧ w = w' := by
  obtain ⟨A0, c0, A1, c1, vs, hb, h0, h1, hs, hF, hd, hlt⟩ := hm.open_
  have x0 := hb.cell 0
  have x1 := hb.cell 1
  simp at x0 x1
  clear hb h0 h1 hs hF hd hlt hm
  by_cases e : n = r
  · have h2 : 64 ≤ fs.length := h.resolve_left (fun h => h e)
    have hd : decide ((64 : Int) ≤ (fs.length : Int)) = true := by simp; omega
    rw [if_neg (by simp [e])]
    have he : ((n : Int) != (r : Int)) = false := by simp [e]
    clear h e
    go_enter Try.func40, Try.ntmps40
    go_wp2_with (first | fail | (refine wpT_calc0 rfl rfl (fun K hK => ?_)) | (refine wpT_skipG rfl ?_ ?_; focus (simp [yielded]; done); go_simp) | (refine wpT_calcG rfl rfl ?_ (fun K hK => ?_); focus (simp [yielded]; done)) | (refine wpT_pure (fun K hK => ?_); go_simp; refine hK _ _ ?_; clear hK K) | (refine wpT_plain (by decide) rfl (fun K hK => ?_)) | (refine wpT_deed (by decide) (fun K hK => ?_); go_simp) | (refine wpT_nil ?_))
    go_ret
    exact ⟨rfl, rfl⟩
  · rw [if_pos e]
    have he : ((n : Int) != (r : Int)) = true := by simp; omega
    clear h e
    go_enter Try.func40, Try.ntmps40
    go_wp2_with (first | fail | (refine wpT_calc0 rfl rfl (fun K hK => ?_)) | (refine wpT_skipG rfl ?_ ?_; focus (simp [yielded]; done); go_simp) | (refine wpT_calcG rfl rfl ?_ (fun K hK => ?_); focus (simp [yielded]; done)) | (refine wpT_pure (fun K hK => ?_); go_simp; refine hK _ _ ?_; clear hK K) | (refine wpT_plain (by decide) rfl (fun K hK => ?_)) | (refine wpT_deed (by decide) (fun K hK => ?_); go_simp) | (refine wpT_nil ?_))
    go_ret
    exact ⟨rfl, rfl⟩

set_option maxHeartbeats 2000000 in
theorem rdput_yes {w : World} {d r : Nat} {fs : List (List Ob)} {q : List Ob} {F : List Nat} (hm : DMem 67 w d r fs q F) {v : Value} {l : List Ob} (hl : RO w v l) (hn : l.length = r) (hr2 : r ≤ 1000) (hf : fs.length < 64) :
    Calls Try.prog 40 #[.pointer (some ⟨d, 0, none⟩), v] w fun e w' => e = .returned (.int .i64 0) ∧ (∃ F', DMem 67 w' d r (fs ++ [l]) q F' ∧ Step F F' w) ∧ Chg F w w' := by
  obtain ⟨A, c, rfl⟩ := hl.form
  obtain ⟨A0, c0, A1, c1, vs, hb, h0, h1, hs, hd, n0, n1, n2, hnd, hlt⟩ := hm.parts
  have x0 := hb.cell 0
  have x1 := hb.cell 1
  simp at x0 x1
  have he : ((l.length : Int) != (r : Int)) = false := by simp [hn]
  have hd2 : decide ((64 : Int) ≤ (fs.length : Int)) = false := by simp; omega
  have hdl := hlt d hd
  have Hn := hide hn
  have Hnd := hide hnd
  have Hone := hide hs.one'
  have HL1 : Hid (0 + fs.length ≤ 1000000) := hide (by omega)
  have HL2 : Hid (([] : List Ob).length + l.length ≤ 1000000) := hide (by simp; omega)
  have e1 : 0 + fs.length = fs.length := by simp
  have e2 : ([] : List Ob).length + l.length = l.length := by simp
  have E1 := hide e1
  have E2 := hide e2
  clear hn hnd e1 e2
  go_enter Try.func40, Try.ntmps40
  have HL3 : Hid (fs.length + 1 ≤ 1000000) := hide (by omega)
  go_wp2_with (first | (at_builtin; refine wpList_append_ss rfl (.tmp 21) (.tmp 25) rfl (.slice (some ⟨w.heap.size, 0, none⟩) 0 0) (.slice A0 fs.length c0) rfl rfl (SS_nil_new w) (Rd.alloc h0.rd _) Hone.out HL1.out ?_; intro A2 k2 w2 hs2 hc2 ho2; rw [E1.out] at hs2 ho2; have hS2 : Chg [] w w2 := (((Chg.refl [] w).alloc _).trans hc2 (fun k hk => .inr (by rw [own_mem] at hk; simp [Value.ownBlock] at hk; omega))); have hl2 : RO w2 (.slice A l.length c) l := Rd.chg hl hS2 (fun _ _ h => by cases h)) | (at_builtin; refine wpList_append_ob rfl (.tmp 27) (.tmp 28) rfl (.slice (some ⟨w2.heap.size, 0, none⟩) 0 0) (.slice A l.length c) rfl rfl (SO_nil_new w2) (Rd.alloc hl2 _) HL2.out ?_; intro A3 k3 w3 hs3 hc3 ho3; rw [E2.out] at hs3 ho3; have hS23 : Chg [] w2 w3 := (((Chg.refl [] w2).alloc _).trans hc3 (fun k hk => .inr (by simp [Value.ownBlock] at hk; omega))); have hs2' := hs2.chg hS23 (fun _ _ h => by cases h)) | (at_builtin; refine wpList_append_ss rfl (.tmp 26) (.tmp 30) rfl (.slice A2 fs.length k2) (.slice (some ⟨w3.heap.size, 0, none⟩) 1 1) rfl rfl (Sl.alloc hs2' _) (Rd_new w3 22 1 1 [.slice A3 l.length k3] rfl) (by simp [Value.oneCell']) HL3.out ?_; intro A4 k4 w4 hs4 hc4 ho4; have hown2 : ∀ k ∈ own (Value.slice A2 fs.length k2), w.heap.size ≤ k := (fun k hk => by rw [own_mem] at hk; rcases ho2 with e | e <;> (rw [hk] at e; simp [Value.ownBlock] at e; omega)); have hS4 : Chg [] w w4 := ((hS2.trans hS23 (fun _ h => by cases h)).alloc _).trans hc4 (fun k hk => .inr (hown2 k hk)); have hb4 := hb.chg hS4 List.not_mem_nil; have z1 := hb4.cell 1; have y1 := hb4.frozen 1; simp at z1) | (refine wpT_calc0 rfl rfl (fun K hK => ?_)) | (refine wpT_skipG rfl ?_ ?_; focus (simp [yielded]; done); go_simp) | (refine wpT_calcG rfl rfl ?_ (fun K hK => ?_); focus (simp [yielded]; done)) | (refine wpT_pure (fun K hK => ?_); go_simp; refine hK _ _ ?_; clear hK K) | (refine wpT_plain (by decide) rfl (fun K hK => ?_)) | (refine wpT_deed (by decide) (fun K hK => ?_); go_simp) | (refine wpT_nil ?_))
  go_ret
  have hz4 := hS4.size
  have hs3l : SO w3 (.slice A3 l.length k3) l := by simpa using hs3
  have hA3 : ∀ k ∈ own (Value.slice A3 l.length k3), w.heap.size ≤ k ∧ k < w3.heap.size := fun k hk => by
    refine ⟨?_, hs3l.own_lt k hk⟩
    rw [own_mem] at hk
    have := hS2.size
    rcases ho3 with e | e
    · rw [hk] at e; simp [Value.ownBlock] at e; omega
    · rw [hk] at e; simp at e; omega
  have hA4 : ∀ k ∈ own (Value.slice A4 (fs.length + 1) k4), w.heap.size ≤ k ∧ k < w4.heap.size := fun k hk => by
    refine ⟨?_, Sl.lt hs4 k (own_mem.1 hk)⟩
    rw [own_mem] at hk
    have := hS2.size
    have := hS23.size
    rcases ho4 with e | e
    · exact hown2 k (own_mem.2 (by rw [← e]; exact hk))
    · rw [hk] at e; simp at e; omega
  have hz34 : w3.heap.size ≤ w4.heap.size := by have := hc4.size; simp at this; omega
  have hu4 : SO w4 (.slice A3 l.length k3) l := by
    refine Sl.chg (Sl.alloc hs3l _) hc4 fun k hk h => ?_
    exact no28 (Sl.alloc hs2' (.cells #[.slice A3 l.length k3] 22)) k (Sl.blk (Sl.alloc hs3l _) (own_mem.2 hk)) h
  have hs4' : SS w4 (vs ++ [Value.slice A3 l.length k3]) (fs ++ [l]) := SS.snoc (hs.chg hS4 (fun _ _ h => by cases h)) hu4
  refine ⟨rfl, ⟨(own (Value.slice A4 (fs.length + 1) k4) ++ own (Value.slice A3 l.length k3)) ++ F, DMem.set1 (by decide) hb4 (by simpa using hs4) (Sl.chg h1 hS4 (fun _ _ h => by cases h)) hs4' (List.mem_append_right _ hd) (fun k hk => List.mem_append_left _ (List.mem_append_left _ hk)) (fun k hk => List.mem_append_right _ (n1 k hk)) ?_ ?_ ?_, ?_⟩, ((hS4.mono (fun _ h => by cases h)).setCell (.inl hd) _)⟩
  · intro k hk
    rw [List.flatMap_append] at hk
    rcases List.mem_append.1 hk with hk | hk
    · exact List.mem_append_right _ (n2 k hk)
    · exact List.mem_append_left _ (List.mem_append_right _ (by simpa using hk))
  · rw [List.flatMap_append, ← List.append_assoc]
    refine List.nodup_append.2 ⟨Hnd.out, ?_, fun a ha b hb e => ?_⟩
    · simp only [List.flatMap_cons, List.flatMap_nil, List.append_nil]
      unfold own
      cases (Value.slice A3 l.length k3).ownBlock <;> simp
    · subst e
      have h1 := (hA3 a (by simpa using hb)).1
      have h2 : a ∈ F := by
        rcases List.mem_append.1 ha with h | h
        · exact n1 a h
        · exact n2 a h
      have := hlt a h2
      omega
  · intro k hk
    rcases List.mem_append.1 hk with hk | hk
    · rcases List.mem_append.1 hk with hk | hk
      · exact (hA4 k hk).2
      · have := (hA3 k hk).2; omega
    · have := hlt k hk; omega
  · intro k hk
    rcases List.mem_append.1 hk with hk | hk
    · rcases List.mem_append.1 hk with hk | hk
      · exact .inr (hA4 k hk).1
      · exact .inr (hA3 k hk).1
    · exact .inl hk

/-! ## Get -/
set_option maxHeartbeats 1000000 in
theorem rdget_no {w : World} {d r : Nat} {q : List Ob} {F : List Nat} (hm : DMem 67 w d r [] q F) :
    Calls Try.prog 41 #[.pointer (some ⟨d, 0, none⟩)] w fun e w' => e = .returned (.tuple #[.slice none 0 0, .bool false]) ∧ w = w' := by
  obtain ⟨A0, c0, A1, c1, vs, hb, h0, h1, hs, hd, n0, n1, n2, hnd, hlt⟩ := hm.parts
  have x1 := hb.cell 1
  simp at x1
  go_enter Try.func41, Try.ntmps41
  go_wp2_with (first | fail | (refine wpT_calc0 rfl rfl (fun K hK => ?_)) | (refine wpT_skipG rfl ?_ ?_; focus (simp [yielded]; done); go_simp) | (refine wpT_calcG rfl rfl ?_ (fun K hK => ?_); focus (simp [yielded]; done)) | (refine wpT_pure (fun K hK => ?_); go_simp; refine hK _ _ ?_; clear hK K) | (refine wpT_plain (by decide) rfl (fun K hK => ?_)) | (refine wpT_deed (by decide) (fun K hK => ?_); go_simp) | (refine wpT_nil ?_))
  go_ret2
  exact ⟨rfl, rfl⟩
set_option maxHeartbeats 1000000 in
theorem rdget_yes {w : World} {d r : Nat} {fs : List (List Ob)} {l q : List Ob} {F : List Nat} (hm : DMem 67 w d r (fs ++ [l]) q F) (hf : fs.length ≤ 1000000) :
    Calls Try.prog 41 #[.pointer (some ⟨d, 0, none⟩)] w fun e w' => (∃ A c, e = .returned (.tuple #[.slice A l.length c, .bool true]) ∧ SO w' (.slice A l.length c) l ∧
      DMem 67 w' d r fs q F) ∧ Chg F w w' := by
  obtain ⟨A0, c0, A1, c1, vs, hb, h0, h1, hs, hd, n0, n1, n2, hnd, hlt⟩ := hm.parts
  obtain ⟨us, u, rfl, hus, hu⟩ := hs.last
  obtain ⟨A, c, rfl⟩ := hu.form
  have el : (fs ++ [l]).length = fs.length + 1 := by simp
  rw [el] at hb h0 n0
  obtain ⟨g, off, cc, eA, hcc, hat⟩ := h0.rd.at_ (k := fs.length) (by omega)
  injection eA with eA _ ec
  subst eA; subst ec
  obtain ⟨x, hx, hcell⟩ := hat 0 (by omega)
  have hul : us.length = fs.length := hus.1
  rw [Nat.mul_one, Nat.add_zero, ← hul] at hx
  simp at hx
  subst hx
  simp at hcell
  have x1 := hb.cell 1
  have y1 := hb.frozen 1
  simp at x1
  have e0 : ((fs.length : Int) + 1 == 0) = false := beq_eq_false_iff_ne.2 (by omega)
  have Hul := hide hul
  have Hel := hide el
  clear hul el hat
  go_enter Try.func41, Try.ntmps41
  go_wp2_with (first | fail | (refine wpT_calc0 rfl rfl (fun K hK => ?_)) | (refine wpT_skipG rfl ?_ ?_; focus (simp [yielded]; done); go_simp) | (refine wpT_calcG rfl rfl ?_ (fun K hK => ?_); focus (simp [yielded]; done)) | (refine wpT_pure (fun K hK => ?_); go_simp; refine hK _ _ ?_; clear hK K) | (refine wpT_plain (by decide) rfl (fun K hK => ?_)) | (refine wpT_deed (by decide) (fun K hK => ?_); go_simp) | (refine wpT_nil ?_))
  go_ret2
  have h0' : Sl w 22 1 (.slice (some ⟨g, off, none⟩) fs.length c0) fs.length us := by
    have := h0.take (k := fs.length) (by omega) rfl
    rw [Nat.mul_one, List.take_left' Hul.out] at this
    exact this
  have hu2 := Sl.far hu (p := ⟨d, 1, none⟩) (blk_other hu hb (by decide)) (.slice (some ⟨g, off, none⟩) fs.length c0)
  refine ⟨⟨A, c, rfl, hu2, DMem.set1 (by decide) hb h0' h1 hus hd n0 n1 (fun k hk => n2 k (by rw [List.flatMap_append]; exact List.mem_append_left _ hk)) ?_ hlt⟩, (Chg.refl F w).setCell (.inl hd) _⟩
  rw [List.flatMap_append, ← List.append_assoc] at hnd
  exact (List.nodup_append.1 hnd).1
end Go.Proofs.Ytbmdcfeiecmlpaa
