import Derived.Test.YtmgjknlpcnakiaaArI
namespace Go.Proofs.Ytmgjknlpcnakiaa
open Go Go.RowKit

theorem AMem.set {w w' : World} {d : Nat} {l m : List Rn} {F : List Nat} {A : Option Addr} {n c : Nat} (h : AMem w d l F) (hc : Chg [] w w') (hs : SR w' (.slice A n c) m) (hn : ∀ k ∈ own (.slice A n c), w.heap.size ≤ k) :
    AMem (w'.setCell ⟨d, 0, none⟩ (.slice A n c)) d m (d :: own (.slice A n c)) := by
  obtain ⟨v, hb, hs0, hF, hlt⟩ := h
  have hb' := hb.chg hc (by simp)
  refine ⟨.slice A n c, ?_, ?_, fun k hk => hk, fun k hk => ?_⟩
  · have := hb'.set_ 0 (.slice A n c)
    simpa using this
  · exact Sl.far hs (p := ⟨d, 0, none⟩) (fun e => blk_off hs hb' (by decide) (own_mem.2 e)) _
  · rw [size_set]
    rcases List.mem_cons.1 hk with rfl | hk
    · exact hb'.lt
    · exact hs.own_lt k hk
/-- what an operation of an area leaves -/
def AOp (w : World) (d : Nat) (F : List Nat) (m : List Rn) (x : Int) (e : Ending) (w' : World) : Prop := e = .returned (.int .i64 x) ∧ (∃ F', AMem w' d m F' ∧ Step F F' w) ∧ Chg F w w'
theorem AOp.none {w w' : World} {d : Nat} {F : List Nat} {m : List Rn} {x : Int} (h : AMem w d m F) (hc : Chg [] w w') : AOp w d F m x (.returned (.int .i64 x)) w' := ⟨rfl, ⟨F, h.stay hc, Step.refl _ _⟩, hc.up _⟩
set_option maxHeartbeats 1000000 in
theorem set_at {w w1 : World} {d : Nat} {l m : List Rn} {F : List Nat} {A : Option Addr} {n c : Nat} (h : AMem w d l F) (hc : Chg [] w w1) (hs : SR w1 (.slice A n c) m) (hn : ∀ k ∈ own (.slice A n c), w.heap.size ≤ k) (hm : m.length ≤ 100000) :
    Calls Try.prog 32 #[.pointer (some ⟨d, 0, none⟩), .slice A n c] w1 (AOp w d F (setR l m) (setE m)) := by
  have e2 : n = m.length := by
    obtain ⟨A', c', e⟩ := hs.form
    injection e
  have hd := h.mem
  have hfz : w1.frozen? ⟨d, 0, none⟩ = false := (h.choose_spec.1.chg hc (by simp)).frozen 0
  have hcell := ((h.choose_spec.1.chg hc (by simp)).cell 0)
  simp at hcell
  have He2 := hide e2
  have hmn : n ≤ 100000 := by omega
  by_cases hbig : 32 < n
  · have e1 : setE m = 9 := by unfold setE; rw [if_pos (by omega)]
    have e3 : setR l m = l := by unfold setR; rw [if_pos (by omega)]
    rw [e1, e3]
    clear e2 e1 e3
    go_enter Try.func32, Try.ntmps32
    go_wp2_with fail
    go_ret
    exact AOp.none h hc
  · have e1 : setE m = 0 := by unfold setE; rw [if_neg (by omega)]
    have e3 : setR l m = m := by unfold setR; rw [if_neg (by omega)]
    rw [e1, e3]
    clear e2 e1 e3
    go_enter Try.func32, Try.ntmps32
    go_wp2_with fail
    go_ret
    exact ⟨rfl, ⟨_, h.set hc hs hn, fun k hk => (List.mem_cons.1 hk).elim (fun e => .inl (e ▸ hd)) (fun h' => .inr (hn k h'))⟩, (hc.up F).setCell (.inl hd) _⟩
theorem Okm {l : List Rn} (h : Fit l) {page count g : Int} (h0 : 0 ≤ page) (h1 : 1 ≤ count) (h2 : page + count ≤ 1024) : (withL l page count g).length ≤ 100000 := by
  have hf := fold_fit (g := g) h0 h1 h2 h l.length
  have hw := (with_spec (g := g) h.1 h0 h1).1
  have hwf := fold_take (g := g) h0 h1 h l.length
  rw [List.take_length] at hf hwf
  have h3 := hf.len
  have : ∀ (m : List Rn) (r : Rn), (putL m r).length ≤ m.length + 1 := fun m r => by
    unfold putL
    split
    · omega
    · split
      · simp
      · split
        · simp
        · simp
  unfold withL endL
  split
  · omega
  · have := this (l.foldl (stepL page count g) ([], false)).1 ⟨page, count, g⟩
    omega
set_option maxHeartbeats 1000000 in
theorem map_at {w : World} {d : Nat} {l : List Rn} {F : List Nat} (h : AMem w d l F) (hs : Sp l) (page count g : Int) : Calls Try.prog 15 #[.pointer (some ⟨d, 0, none⟩), .int .i64 page, .int .i64 count, .int .u8 g] w (AOp w d F (mapR l page count g) (mapE l page count g)) := by
  cases hb : mayB page count with
  | false =>
    have e1 : mapE l page count g = 2 := by unfold mapE; rw [if_pos (.inl hb)]
    have e3 : mapR l page count g = l := by unfold mapR; rw [if_pos (.inl hb)]
    rw [e1, e3]
    clear e1 e3
    have H := hide h
    clear h
    go_enter Try.func15, Try.ntmps15
    go_wp2_with (first | ((go_at_call 29; refine (may_any _ _ _).mono ?_; rintro e w' ⟨rfl, rfl⟩)) | ((go_at_call 30; refine (rightful_any _ _).mono ?_; rintro e w' ⟨rfl, rfl⟩)))
    go_ret
    exact AOp.none H.out (Chg.refl _ _)
  | true =>
    cases hg : rgB g with
    | false =>
      have e1 : mapE l page count g = 2 := by unfold mapE; rw [if_pos (.inr hg)]
      have e3 : mapR l page count g = l := by unfold mapR; rw [if_pos (.inr hg)]
      rw [e1, e3]
      clear e1 e3
      have H := hide h
      clear h
      go_enter Try.func15, Try.ntmps15
      go_wp2_with (first | ((go_at_call 29; refine (may_any _ _ _).mono ?_; rintro e w' ⟨rfl, rfl⟩)) | ((go_at_call 30; refine (rightful_any _ _).mono ?_; rintro e w' ⟨rfl, rfl⟩)))
      go_ret
      exact AOp.none H.out (Chg.refl _ _)
    | true =>
      have hm := mayB_iff.1 hb
      obtain ⟨m1, m2, m3, m4⟩ := hm
      have HC := hide (count_at h hs.okl (by have := hs.len; omega) page count ⟨m1, by omega⟩ ⟨by omega, m3⟩)
      have hbd := cnt_le hs.nm (page := page) (count := count) (by omega)
      by_cases hcnt : 0 < cntL l page count
      · have e1 : mapE l page count g = 8 := by unfold mapE; rw [if_neg (by simp [hb, hg]), if_pos hcnt]
        have e3 : mapR l page count g = l := by unfold mapR; rw [if_neg (by simp [hb, hg]), if_pos hcnt]
        rw [e1, e3]
        clear e1 e3
        have H := hide h
        clear h
        generalize cntL l page count = x at HC hcnt hbd
        go_enter Try.func15, Try.ntmps15
        go_wp2_with (first | ((go_at_call 29; refine (may_any _ _ _).mono ?_; rintro e w' ⟨rfl, rfl⟩)) | ((go_at_call 30; refine (rightful_any _ _).mono ?_; rintro e w' ⟨rfl, rfl⟩)) | (go_at_call 31; refine HC.out.mono ?_; rintro e w1 ⟨rfl, hc1⟩))
        go_ret
        exact AOp.none H.out hc1
      · have e1 : mapE l page count g = setE (withL l page count g) := by unfold mapE; rw [if_neg (by simp [hb, hg]), if_neg hcnt]
        have e3 : mapR l page count g = setR l (withL l page count g) := by unfold mapR; rw [if_neg (by simp [hb, hg]), if_neg hcnt]
        rw [e1, e3]
        clear e1 e3
        have HW := hide (fun W (hc : Chg [] w W) => with_at (g := g) (h.stay hc) hs.fit m1 m2 (by omega : page + count ≤ 1024))
        have HS := hide (fun W A n c (hc : Chg [] w W) (hs : SR W (.slice A n c) (withL l page count g)) hn => set_at h hc hs hn (Okm ‹Sp l›.fit m1 m2 (by omega)))
        have H := hide h
        clear h
        generalize cntL l page count = x at HC hcnt hbd
        go_enter Try.func15, Try.ntmps15
        go_wp2_with (first | ((go_at_call 29; refine (may_any _ _ _).mono ?_; rintro e w' ⟨rfl, rfl⟩)) | ((go_at_call 30; refine (rightful_any _ _).mono ?_; rintro e w' ⟨rfl, rfl⟩)) | (go_at_call 31; refine HC.out.mono ?_; rintro e w1 ⟨rfl, hc1⟩) | (go_at_call 33; refine (HW.out _ hc1).mono ?_; rintro e w2 ⟨A2, n2, c2, rfl, hs2, hn2, hc2⟩) | (go_at_call 32; refine (HS.out _ _ _ _ (hc1.stay hc2) hs2 (fun k hk => Nat.le_trans hc1.size (hn2 k hk))).mono ?_; rintro e w3 ⟨rfl, hm3, hc3⟩))
        go_ret
        exact ⟨rfl, hm3, hc3⟩
set_option maxHeartbeats 1000000 in
theorem un_at {w : World} {d : Nat} {l : List Rn} {F : List Nat} (h : AMem w d l F) (hs : Sp l) (page count : Int) : Calls Try.prog 17 #[.pointer (some ⟨d, 0, none⟩), .int .i64 page, .int .i64 count] w (AOp w d F (unR l page count) (unE l page count)) := by
  cases hb : mayB page count with
  | false =>
    have e1 : unE l page count = 2 := by unfold unE; rw [if_pos hb]
    have e3 : unR l page count = l := by unfold unR; rw [if_pos hb]
    rw [e1, e3]
    clear e1 e3
    have H := hide h
    clear h
    go_enter Try.func17, Try.ntmps17
    go_wp2_with (first | ((go_at_call 29; refine (may_any _ _ _).mono ?_; rintro e w' ⟨rfl, rfl⟩)) | ((go_at_call 30; refine (rightful_any _ _).mono ?_; rintro e w' ⟨rfl, rfl⟩)))
    go_ret
    exact AOp.none H.out (Chg.refl _ _)
  | true =>
    have hm := mayB_iff.1 hb
    obtain ⟨m1, m2, m3, m4⟩ := hm
    have e1 : unE l page count = setE (withL l page count 0) := by unfold unE; rw [if_neg (by simp [hb])]
    have e3 : unR l page count = setR l (withL l page count 0) := by unfold unR; rw [if_neg (by simp [hb])]
    rw [e1, e3]
    clear e1 e3
    have HW := hide (with_at (g := 0) h hs.fit m1 m2 (by omega : page + count ≤ 1024))
    have HS := hide (fun W A n c (hc : Chg [] w W) (hs : SR W (.slice A n c) (withL l page count 0)) hn => set_at h hc hs hn (Okm ‹Sp l›.fit m1 m2 (by omega)))
    clear h
    go_enter Try.func17, Try.ntmps17
    go_wp2_with (first | ((go_at_call 29; refine (may_any _ _ _).mono ?_; rintro e w' ⟨rfl, rfl⟩)) | ((go_at_call 30; refine (rightful_any _ _).mono ?_; rintro e w' ⟨rfl, rfl⟩)) | (go_at_call 33; refine HW.out.mono ?_; rintro e w2 ⟨A2, n2, c2, rfl, hs2, hn2, hc2⟩) | (go_at_call 32; refine (HS.out _ _ _ _ hc2 hs2 hn2).mono ?_; rintro e w3 ⟨rfl, hm3, hc3⟩))
    go_ret
    exact ⟨rfl, hm3, hc3⟩
theorem mdE_eq {l : List Rn} {page count : Int} (hb : mayB page count = true) : mdE l page count = if cntL l page count < count then 7 else 0 := by unfold mdE; rw [if_neg (by simp [hb])]
set_option maxHeartbeats 1000000 in
theorem md_at {w : World} {d : Nat} {l : List Rn} {F : List Nat} (h : AMem w d l F) (hs : Sp l) (page count : Int) : Calls Try.prog 16 #[.pointer (some ⟨d, 0, none⟩), .int .i64 page, .int .i64 count] w fun e w' => e = .returned (.int .i64 (mdE l page count)) ∧ Chg [] w w' := by
  cases hb : mayB page count with
  | false =>
    have e1 : mdE l page count = 2 := by unfold mdE; rw [if_pos hb]
    rw [e1]
    clear e1 h
    go_enter Try.func16, Try.ntmps16
    go_wp2_with (first | ((go_at_call 29; refine (may_any _ _ _).mono ?_; rintro e w' ⟨rfl, rfl⟩)) | ((go_at_call 30; refine (rightful_any _ _).mono ?_; rintro e w' ⟨rfl, rfl⟩)))
    go_ret
    exact ⟨rfl, Chg.refl _ _⟩
  | true =>
    have hm := mayB_iff.1 hb
    obtain ⟨m1, m2, m3, m4⟩ := hm
    have HC := hide (count_at h hs.okl (by have := hs.len; omega) page count ⟨m1, by omega⟩ ⟨by omega, m3⟩)
    have hbd := cnt_le hs.nm (page := page) (count := count) (by omega)
    rw [mdE_eq hb]
    by_cases hcnt : cntL l page count < count
    · rw [if_pos hcnt]
      clear h
      generalize cntL l page count = x at HC hcnt hbd
      go_enter Try.func16, Try.ntmps16
      go_wp2_with (first | ((go_at_call 29; refine (may_any _ _ _).mono ?_; rintro e w' ⟨rfl, rfl⟩)) | ((go_at_call 30; refine (rightful_any _ _).mono ?_; rintro e w' ⟨rfl, rfl⟩)) | (go_at_call 31; refine HC.out.mono ?_; rintro e w1 ⟨rfl, hc1⟩))
      go_ret
      exact ⟨rfl, hc1⟩
    · rw [if_neg hcnt]
      clear h
      generalize cntL l page count = x at HC hcnt hbd
      go_enter Try.func16, Try.ntmps16
      go_wp2_with (first | ((go_at_call 29; refine (may_any _ _ _).mono ?_; rintro e w' ⟨rfl, rfl⟩)) | ((go_at_call 30; refine (rightful_any _ _).mono ?_; rintro e w' ⟨rfl, rfl⟩)) | (go_at_call 31; refine HC.out.mono ?_; rintro e w1 ⟨rfl, hc1⟩))
      go_ret
      exact ⟨rfl, hc1⟩
set_option maxHeartbeats 1000000 in
theorem pr_at {w : World} {d : Nat} {l : List Rn} {F : List Nat} (h : AMem w d l F) (hs : Sp l) (page count g : Int) : Calls Try.prog 18 #[.pointer (some ⟨d, 0, none⟩), .int .i64 page, .int .i64 count, .int .u8 g] w (AOp w d F (prR l page count g) (prE l page count g)) := by
  cases hg : rgB g with
  | false =>
    have e1 : prE l page count g = 2 := by unfold prE; rw [if_pos hg]
    have e3 : prR l page count g = l := by unfold prR; rw [if_pos hg]
    rw [e1, e3]
    clear e1 e3
    have H := hide h
    clear h
    go_enter Try.func18, Try.ntmps18
    go_wp2_with (first | ((go_at_call 29; refine (may_any _ _ _).mono ?_; rintro e w' ⟨rfl, rfl⟩)) | ((go_at_call 30; refine (rightful_any _ _).mono ?_; rintro e w' ⟨rfl, rfl⟩)))
    go_ret
    exact AOp.none H.out (Chg.refl _ _)
  | true =>
    have HM := hide (md_at h hs page count)
    by_cases hmd : mdE l page count = 0
    · have hb := mdE_may hmd
      have hm := mayB_iff.1 hb
      obtain ⟨m1, m2, m3, m4⟩ := hm
      have e1 : prE l page count g = setE (withL l page count g) := by unfold prE; rw [if_neg (by simp [hg]), if_neg (by simp [hmd])]
      have e3 : prR l page count g = setR l (withL l page count g) := by unfold prR; rw [if_neg (by simp [hg]), if_neg (by simp [hmd])]
      rw [e1, e3]
      rw [hmd] at HM
      clear e1 e3 hmd
      have HW := hide (fun W (hc : Chg [] w W) => with_at (g := g) (h.stay hc) hs.fit m1 m2 (by omega : page + count ≤ 1024))
      have HS := hide (fun W A n c (hc : Chg [] w W) (hs : SR W (.slice A n c) (withL l page count g)) hn => set_at h hc hs hn (Okm ‹Sp l›.fit m1 m2 (by omega)))
      clear h
      go_enter Try.func18, Try.ntmps18
      go_wp2_with (first | ((go_at_call 30; refine (rightful_any _ _).mono ?_; rintro e w' ⟨rfl, rfl⟩)) | (go_at_call 16; refine HM.out.mono ?_; rintro e w1 ⟨rfl, hc1⟩) | (go_at_call 33; refine (HW.out _ hc1).mono ?_; rintro e w2 ⟨A2, n2, c2, rfl, hs2, hn2, hc2⟩) | (go_at_call 32; refine (HS.out _ _ _ _ (hc1.stay hc2) hs2 (fun k hk => Nat.le_trans hc1.size (hn2 k hk))).mono ?_; rintro e w3 ⟨rfl, hm3, hc3⟩))
      go_ret
      exact ⟨rfl, hm3, hc3⟩
    · have e1 : prE l page count g = mdE l page count := by unfold prE; rw [if_neg (by simp [hg]), if_pos hmd]
      have e3 : prR l page count g = l := by unfold prR; rw [if_neg (by simp [hg]), if_pos hmd]
      rw [e1, e3]
      clear e1 e3
      obtain ⟨x, hx⟩ : ∃ x, mdE l page count = x := ⟨_, rfl⟩
      rw [hx] at HM hmd ⊢
      have hx0 : (x == 0) = false := beq_eq_false_iff_ne.2 hmd
      have H := hide h
      clear h hx hmd
      go_enter Try.func18, Try.ntmps18
      go_wp2_with (first | ((go_at_call 30; refine (rightful_any _ _).mono ?_; rintro e w' ⟨rfl, rfl⟩)) | (go_at_call 16; refine HM.out.mono ?_; rintro e w1 ⟨rfl, hc1⟩))
      go_ret
      exact AOp.none H.out hc1

/-! ## What reads -/
theorem len_at {w : World} {d : Nat} {l : List Rn} {F : List Nat} (h : AMem w d l F) : Calls Try.prog 14 #[.pointer (some ⟨d, 0, none⟩)] w fun e w' => e = .returned (.int .i64 l.length) ∧ w = w' := by
  obtain ⟨v, hb, hs, hF, hlt⟩ := h
  obtain ⟨A, c0, rfl⟩ := hs.form
  have b0 := hb.cell 0
  simp at b0
  clear hs hb hF hlt
  go_enter Try.func14, Try.ntmps14
  go_wp2_with fail
  go_ret
  exact ⟨rfl, rfl⟩
theorem len_nil (w : World) : Calls Try.prog 14 #[.pointer none] w fun e w' => e = .returned (.int .i64 0) ∧ w = w' := by
  go_enter Try.func14, Try.ntmps14
  go_wp2_with fail
  go_ret
  exact ⟨rfl, rfl⟩
theorem new_any (w : World) : Calls Try.prog 9 #[] w fun e w' => e = .returned (.pointer (some ⟨w.heap.size, 0, none⟩)) ∧ AMem w' w.heap.size [] [w.heap.size] ∧ Chg [] w w' := by
  go_enter Try.func9, Try.ntmps9
  go_wp2_with fail
  go_ret
  exact ⟨rfl, ⟨.slice none 0 0, Blk.new w 51 _, SE.nil _ _ _ _, fun k hk => by simpa [own, Value.ownBlock] using hk, fun k hk => by obtain rfl := List.mem_singleton.1 hk; simp⟩, (Chg.refl _ _).alloc _⟩
end Go.Proofs.Ytmgjknlpcnakiaa
