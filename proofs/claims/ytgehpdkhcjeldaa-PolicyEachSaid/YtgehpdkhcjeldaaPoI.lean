/- Policies: Order. -/
import Derived.Test.YtgehpdkhcjeldaaPoP
import Derived.Test.YtgehpdkhcjeldaaPoF
import Derived.Laws.EntriesVeiled
namespace Go.Proofs.Ytgehpdkhcjeldaa
open Go Go.RowKit

/-- the error of Order -/
noncomputable def polE (c : Cf) (kind m : Nat) (node page : Int) : Int := if polB c kind m = false ∨ page < 0 then 2 else firstE c node
def PolR (w : World) (c : Cf) (kind m : Nat) (node page : Int) (e : Ending) (w' : World) : Prop :=
  ∃ A n cap x l, e = .returned (.tuple #[.slice A n cap, .int .i64 x]) ∧ x = polE c kind m node page ∧ SI w' (.slice A n cap) l ∧ (∀ k ∈ own (.slice A n cap), w.heap.size ≤ k) ∧ (x = 0 → PolL c kind m node.toNat page.toNat l) ∧ (x ≠ 0 → l = []) ∧ Chg [] w w'
theorem wp_append_i {o : Oper} {a : Act} {w : World} {K : Act → World → Prop} {Q : Exit → Act → World → Prop} (s x : Operand)
    (ho : o.op = .call { callee := .builtin .append, args := #[s, x], argTypes := #[30, 30] }) (v y : Value) (hs : a.eval s = v) (hx : a.eval x = y) {l m : List Nat} (hv : SI w v l) (hy : RI w y m) (hlen : l.length + m.length ≤ 1000000)
    (h : ∀ A n c w', Hid (n = (l ++ m).length) → SI w' (.slice A n c) (l ++ m) → Chg (own v) w w' → Grow w v (.slice A n c) → K (a.put o.dst (.slice A n c)) w') : o.wp Try.prog a w K Q := by
  obtain ⟨i3, hi, hz, hi1, hi2⟩ := info_parts infoI
  refine wp_append_sl s x 30 ho 3 Try.underlying30 hi hz hi1 hi2 rfl hs hv hx hy (ic_one m) (by unfold maxLen; omega) (by omega) fun v' w' h2 h3 h4 => ?_
  have h2' : SI w' v' (l ++ m) := by
    unfold SI SE
    rw [List.length_append, fc_append]
    exact h2
  obtain ⟨A, c, rfl⟩ := h2'.form
  exact h A _ c w' rfl h2' h3 (grow_of h4)
theorem load_fn {w : World} {a : Addr} {v : Value} (h : w.cell? a = some v) : (loadVar 42 a).run Try.prog w = .ok v w := by simp [loadVar, isAgg, run_underlying Try.underlying42, load, Sem.run, h]
theorem polB_may {c : Cf} {kind m : Nat} (h : polB c kind m = true) : MayP c ∧ (len8 m : Int) ≤ c 0 ∧ (kind = 0 ∧ ones m = 0 ∨ kind = 1 ∧ ones m = 1 ∨ (kind = 2 ∨ kind = 3) ∧ 0 < ones m) := by
  unfold polB kindZ at h
  simp only [Bool.and_eq_true, decide_eq_true_eq] at h
  exact ⟨mayB_iff.1 h.1, h.2.1, h.2.2⟩
set_option maxRecDepth 20000 in
set_option maxHeartbeats 4000000 in
theorem pOrder_any (c : Cf) {kind m : Nat} (hk : kind < 256) (hm : m < 256) (node page : Int) (hpg : page ≤ 9223372036854775807) (w : World) :
    Calls Try.prog 23 #[.agg (cg c), .agg #[.int .u8 kind, .int .u8 m], .int .i64 node, .int .i64 page] w (PolR w c kind m node page) := by
  have HB : Hid (CB ((w.alloc (.cells (cg c) 26)).alloc (.cells #[.int .u8 kind, .int .u8 m] 45)) w.heap.size c) := hide ((Blk.new w 26 (cg c)).alloc _)
  have HP : Hid (Blk ((w.alloc (.cells (cg c) 26)).alloc (.cells #[.int .u8 kind, .int .u8 m] 45)) (w.heap.size + 1) 45 #[.int .u8 kind, .int .u8 m]) := hide (by
    have := Blk.new (w.alloc (.cells (cg c) 26)) 45 #[.int .u8 kind, .int .u8 m]
    rwa [World.size_alloc] at this)
  have HC : Hid (Chg [] w ((w.alloc (.cells (cg c) 26)).alloc (.cells #[.int .u8 kind, .int .u8 m] 45))) := hide (((Chg.refl [] w).alloc _).alloc _)
  have H21 := hide (fun W => pmay_any c hk hm W)
  have H13 := hide (fun W => Order_any c node W)
  have H40 := hide (fun W => low8_any hm W)
  have HMM := hide hm
  obtain ⟨x, hx⟩ : ∃ x, polB c kind m = x := ⟨_, rfl⟩
  rw [hx] at H21
  have HX := hide hx
  have HPG := hide hpg
  clear hx hk hpg
  have hfail : ∀ W, Chg [] w W → x = false ∨ page < 0 → PolR w c kind m node page (.returned (.tuple #[.slice none 0 0, .int .i64 2])) W := fun W hW hn => by
    have e : polE c kind m node page = 2 := by unfold polE; rw [HX.out, if_pos hn]
    exact ⟨none, 0, 0, 2, [], rfl, e.symm, SE.nil _ _ _ _, fun _ h => (own_nil h).elim, fun h => by omega, fun _ => rfl, hW⟩
  have HFAIL := hide hfail
  clear hfail
  cases x with
  | false =>
    go_enter Try.func23, Try.ntmps23
    go_wp2_with (first | (refine wpList_box26 rfl _ rfl rfl ?_) | (refine wpList_load26L (b := w.heap.size) (c := c) rfl _ rfl rfl ?_ ?_; (focus exact HB.out)))
    refine (H21.out _).mono ?_
    rintro e W2 ⟨rfl, hc2⟩
    go_wp2_with fail
    go_ret2
    exact HFAIL.out _ (HC.out.stay hc2) (.inl trivial)
  | true =>
    by_cases hp0 : page < 0
    · have d1 : decide (page < 0) = true := decide_eq_true hp0
      go_enter Try.func23, Try.ntmps23
      go_wp2_with (first | (refine wpList_box26 rfl _ rfl rfl ?_) | (refine wpList_load26L (b := w.heap.size) (c := c) rfl _ rfl rfl ?_ ?_; (focus exact HB.out)))
      refine (H21.out _).mono ?_
      rintro e W2 ⟨rfl, hc2⟩
      go_wp2_with fail
      go_ret2
      exact HFAIL.out _ (HC.out.stay hc2) (.inr hp0)
    · have d1 : decide (page < 0) = false := decide_eq_false hp0
      obtain ⟨hM, hlen, hkind⟩ := polB_may HX.out
      obtain ⟨p, rfl⟩ : ∃ p : Nat, page = p := ⟨page.toNat, by omega⟩
      have HM := hide hM
      have HLEN := hide hlen
      have HKIND := hide hkind
      clear hM hlen hkind hp0 HFAIL
      go_enter Try.func23, Try.ntmps23
      go_wp2_with (first | (refine wpList_box26 rfl _ rfl rfl ?_) | (refine wpList_load26L (b := w.heap.size) (c := c) rfl _ rfl rfl ?_ ?_; (focus exact HB.out)))
      refine (H21.out _).mono ?_
      rintro e W2 ⟨rfl, hc2⟩
      have HB2 := hide (CB.stay_ HB.out hc2)
      have HP2 := hide (HP.out.chg hc2 List.not_mem_nil)
      have HC2 := hide (HC.out.stay hc2)
      clear HB HP HC hc2
      go_wp2_with (first | (refine wpList_load26L (b := w.heap.size) (c := c) rfl _ rfl rfl ?_ ?_; (focus exact HB2.out)))
      refine (H13.out _).mono ?_
      rintro e W3 ⟨A, n, cap, x, L, rfl, hx, hs3, hown3, hL, hLn, hc3⟩
      have HB3 := hide (CB.stay_ HB2.out hc3)
      have HP3 := hide (HP2.out.chg hc3 List.not_mem_nil)
      have HC3 := hide (HC2.out.stay hc3)
      have HS3 := hide hs3
      have HOWN3 := hide (show ∀ k ∈ own (.slice A n cap), w.heap.size ≤ k ∧ k ≠ w.heap.size ∧ k ≠ w.heap.size + 1 from fun k hk => by
        have h1 := hown3 k hk
        have h2 : w.heap.size + 1 < W2.heap.size := HP2.out.lt
        omega)
      have HL := hide hL
      have HXE := hide (show x = polE c kind m node p by rw [hx]; unfold polE; rw [HX.out, if_neg (by simp)])
      have HLN := hide hLn
      clear hs3 hown3 hL hx hLn HB2 HP2 hc3 HC2
      by_cases hx0 : x = 0
      rotate_left
      · have hx1 : (x == 0) = false := by simpa using hx0
        have hx2 : (x != 0) = true := by simpa using hx0
        go_wp2_with fail
        go_ret2
        exact ⟨none, 0, 0, x, [], rfl, HXE.out, SE.nil _ _ _ _, fun _ h => (own_nil h).elim, fun h => absurd h hx0, fun _ => rfl, HC3.out⟩
      · subst hx0
        have p0 := HP3.out.cell 0
        have p1 := HP3.out.cell 1
        simp at p0 p1
        have hbl : w.heap.size + 1 < W3.heap.size := HP3.out.lt
        have hbl0 : w.heap.size < W3.heap.size := HB3.out.lt
        have HORD := hide (HL.out rfl)
        clear HL
        obtain ⟨b, hb⟩ : ∃ b, b = w.heap.size := ⟨_, rfl⟩
        have HBE := hide hb
        rw [← hb] at HB3 HP3 HOWN3 hbl hbl0 p0 p1 ⊢
        clear hb
        have HZ := hide (show ∀ v : Nat, (v : Int) < c 0 → firstE c v = 0 from fun v hv => (HM.out.first hv).2)
        have HNL := hide (show L.length ≤ 8 by
          have := HORD.out.length
          have := HM.out.n8
          omega)
        obtain ⟨bf, hbf⟩ : ∃ bf, bf = W3.heap.size := ⟨_, rfl⟩
        have HBF := hide hbf
        have HP4 : Hid (Blk (W3.alloc (.cells #[.func (.func 38) #[] #[.pointer (some ⟨b + 1, 0, none⟩)]] 42)) (b + 1) 45 #[.int .u8 kind, .int .u8 m]) := hide (HP3.out.alloc _)
        have HB4 : Hid (CB (W3.alloc (.cells #[.func (.func 38) #[] #[.pointer (some ⟨b + 1, 0, none⟩)]] 42)) b c) := hide (Blk.alloc HB3.out _)
        have HF4 : Hid (Blk (W3.alloc (.cells #[.func (.func 38) #[] #[.pointer (some ⟨b + 1, 0, none⟩)]] 42)) bf 42 #[.func (.func 38) #[] #[.pointer (some ⟨b + 1, 0, none⟩)]]) := hide (by rw [hbf]; exact Blk.new _ _ _)
        have HS4 : Hid (SI (W3.alloc (.cells #[.func (.func 38) #[] #[.pointer (some ⟨b + 1, 0, none⟩)]] 42)) (.slice A n cap) L) := hide (HS3.out.stay ((Chg.refl [] W3).alloc _))
        have HC4 : Hid (Chg [] w (W3.alloc (.cells #[.func (.func 38) #[] #[.pointer (some ⟨b + 1, 0, none⟩)]] 42))) := hide (HC3.out.alloc _)
        have HOWN4 := hide (show ∀ k ∈ own (.slice A n cap), w.heap.size ≤ k ∧ k ≠ b + 1 ∧ k ≠ bf from fun k hk => by
          have h1 := HOWN3.out k hk
          have h2 := HS3.out.own_lt k hk
          rw [← HBE.out]
          omega)
        clear HB3 HP3 HC3 HOWN3 hbf HS3
        by_cases k0 : kind = 0
        · subst k0
          go_wp2_with fail
          go_ret2
          exact ⟨A, n, cap, 0, L, rfl, HXE.out, HS4.out, fun k hk => (HOWN4.out k hk).1, fun _ => .inl ⟨rfl, HORD.out⟩, fun h => absurd rfl h, HC4.out⟩
        by_cases k1 : kind = 1
        · subst k1
          have h1 : ones m = 1 := by have := HKIND.out; omega
          have hlow := low8_lt HMM.out (by omega)
          have HLO := hide (show ((low8 m : Nat) : Int) < c 0 by have := HLEN.out; omega)
          have HZL := hide (HZ.out _ HLO.out)
          have HOL := hide (fun W => Order_any c (low8 m : Nat) W)
          generalize hlo : low8 m = lo at H40 HLO HZL HOL
          have HLE := hide hlo
          clear hlo h1 hlow
          go_wp2_with fail
          have hS : CB (W3.alloc (.cells #[.func (.func 38) #[] #[.pointer (some ⟨b + 1, 0, none⟩)]] 42)).drew b c ∧ Blk (W3.alloc (.cells #[.func (.func 38) #[] #[.pointer (some ⟨b + 1, 0, none⟩)]] 42)).drew (b + 1) 45 #[.int .u8 (1 : Nat), .int .u8 m] := ⟨HB4.out, HP4.out⟩
          refine wp_region_t [5, 0, 5, 6, 6, 0, 0, 0, 0] [none, none, none, none, none, none, none, none, none] (fun W => CB W b c ∧ Blk W (b + 1) 45 #[.int .u8 (1 : Nat), .int .u8 m]) (by kernel_rfl) (by kernel_rfl) (by kernel_rfl) ?_
          go_wp2_with (first | (refine wpG_hload 26 _ rfl rfl (fun w' hw' => load26 hw'.1) hS ?_) | (refine wpG_hload 5 _ rfl rfl (fun w' hw' => load_u8 (by simpa using Blk.cell hw'.2 1)) hS ?_; go_simp) | (refine wpG_calc rfl (fun K hK => ?_)) | (refine wpG_skip ?_ ?_; (focus (simp [wantG]; done)); go_simp) | (refine wpG_take ?_ ?_; (focus (simp [wantG]; done))) | (refine wpG_pure (fun K hK => ?_); go_simp; refine hK _ _ ?_; clear hK K) | (refine wpG_deed (by decide) (fun K hK => ?_); go_simp) | (refine wpG_nil ?_))
          (refine wpG_keeps hS (fun K hK => ?_))
          go_simp
          refine (H40.out _).mono ?_
          rintro e W5 ⟨rfl, rfl⟩
          refine hK _ _ hS ?_
          clear hK K
          go_wp2_with (first | fail | (refine wpG_calc rfl (fun K hK => ?_)) | (refine wpG_skip ?_ ?_; (focus (simp [wantG]; done)); go_simp) | (refine wpG_take ?_ ?_; (focus (simp [wantG]; done))) | (refine wpG_pure (fun K hK => ?_); go_simp; refine hK _ _ ?_; clear hK K) | (refine wpG_deed (by decide) (fun K hK => ?_); go_simp) | (refine wpG_nil ?_))
          (refine wpG_keeps hS (fun K hK => ?_))
          go_simp
          refine (HOL.out _).mono ?_
          rintro e W6 ⟨A6, n6, cap6, x6, L6, rfl, hx6, hs6, hown6, hL6, hLn6, hc6⟩
          obtain rfl : x6 = 0 := by rw [hx6]; exact HZL.out
          have hS6 : CB W6 b c ∧ Blk W6 (b + 1) 45 #[.int .u8 (1 : Nat), .int .u8 m] := ⟨CB.stay_ hS.1 hc6, hS.2.chg hc6 List.not_mem_nil⟩
          refine hK _ _ hS6 ?_
          clear hK K
          have HS6 := hide hs6
          have HOWN6 := hide hown6
          have HL6 := hide (hL6 rfl)
          have HC6 := hide ((HC4.out.drew).stay hc6)
          clear hs6 hown6 hL6 hLn6 hc6 hx6 hS
          go_wp2_with (first | fail | (refine wpG_calc rfl (fun K hK => ?_)) | (refine wpG_skip ?_ ?_; (focus (simp [wantG]; done)); go_simp) | (refine wpG_take ?_ ?_; (focus (simp [wantG]; done))) | (refine wpG_pure (fun K hK => ?_); go_simp; refine hK _ _ ?_; clear hK K) | (refine wpG_deed (by decide) (fun K hK => ?_); go_simp) | (refine wpG_nil ?_))
          go_ret2
          exact ⟨A6, n6, cap6, 0, L6, rfl, HXE.out, HS6.out, fun k hk => by have := HOWN6.out k hk; have := HC4.out.size; simp at *; omega, fun _ => .inr (.inl ⟨rfl, by rw [HLE.out]; exact HL6.out⟩), fun h => absurd rfl h, HC6.out⟩
        by_cases k2 : kind = 2
        · subst k2
          have HDEL := hide (del42_any (p := fun k => !hasZ m (k : Nat)) HS4.out (by have := HNL.out; omega) (bx := bf) (fun W hW k => out_any (b := b + 1) (HP4.out.chg hW (fun h => (HOWN4.out _ h).2.1 rfl)) (HF4.out.chg hW (fun h => (HOWN4.out _ h).2.2 rfl)) HMM.out (k : Nat)))
          rw [HBF.out] at HDEL
          go_wp2_with fail
          refine HDEL.out.mono ?_
          rintro e W6 ⟨A6, m6, cap6, rfl, hs6, hown6, hc6⟩
          have HS6 := hide hs6
          have HO6 := hide hown6
          clear hs6 hown6
          go_wp2_with fail
          go_ret2
          exact ⟨A6, m6, cap6, 0, _, rfl, HXE.out, HS6.out, fun k hk => (HOWN4.out k (HO6.out k hk)).1, fun _ => .inr (.inr (.inl ⟨rfl, L, HORD.out, by simp⟩)), fun h => absurd rfl h, HC4.out.trans hc6 (fun k hk => .inr (HOWN4.out k hk).1)⟩
        by_cases k3 : kind = 3
        · subst k3
          have h1 : 0 < ones m := by have := HKIND.out; omega
          have HTU := hide (fun W => turns_any HMM.out HPG.out (by rw [inL_ones' HMM.out]; exact h1) W)
          clear h1
          go_wp2_with fail
          have hS : Blk (W3.alloc (.cells #[.func (.func 38) #[] #[.pointer (some ⟨b + 1, 0, none⟩)]] 42)).drew (b + 1) 45 #[.int .u8 (3 : Nat), .int .u8 m] ∧ Blk (W3.alloc (.cells #[.func (.func 38) #[] #[.pointer (some ⟨b + 1, 0, none⟩)]] 42)).drew W3.heap.size 42 #[.func (.func 38) #[] #[.pointer (some ⟨b + 1, 0, none⟩)]] := ⟨HP4.out, by rw [← HBF.out]; exact HF4.out⟩
          refine wp_region_t [0, 5, 0, 6, 0, 5, 3, 3, 0, 0] [none, none, none, none, none, none, none, none, none, none] (fun W => Blk W (b + 1) 45 #[.int .u8 (3 : Nat), .int .u8 m] ∧ Blk W W3.heap.size 42 #[.func (.func 38) #[] #[.pointer (some ⟨b + 1, 0, none⟩)]]) (by kernel_rfl) (by kernel_rfl) (by kernel_rfl) ?_
          go_wp2_with (first | (refine wpG_hload 5 _ rfl rfl (fun w' hw' => load_u8 (by simpa using Blk.cell hw'.1 1)) hS ?_; go_simp) | (refine wpG_calc rfl (fun K hK => ?_)) | (refine wpG_skip ?_ ?_; (focus (simp [wantG]; done)); go_simp) | (refine wpG_take ?_ ?_; (focus (simp [wantG]; done))) | (refine wpG_pure (fun K hK => ?_); go_simp; refine hK _ _ ?_; clear hK K) | (refine wpG_deed (by decide) (fun K hK => ?_); go_simp) | (refine wpG_nil ?_))
          (refine wpG_keeps hS (fun K hK => ?_))
          go_simp
          refine (HTU.out _).mono ?_
          rintro e W5 ⟨⟨A5, c5, rfl, hs5, hown5⟩, hc5⟩
          have hS5 : Blk W5 (b + 1) 45 #[.int .u8 (3 : Nat), .int .u8 m] ∧ Blk W5 W3.heap.size 42 #[.func (.func 38) #[] #[.pointer (some ⟨b + 1, 0, none⟩)]] := ⟨hS.1.chg hc5 List.not_mem_nil, hS.2.chg hc5 List.not_mem_nil⟩
          refine hK _ _ hS5 ?_
          clear hK K
          have HTS := hide hs5
          have HTO := hide hown5
          have HN5 := hide ((show SI (W3.alloc (.cells #[.func (.func 38) #[] #[.pointer (some ⟨b + 1, 0, none⟩)]] 42)).drew (.slice A n cap) L from HS4.out).stay hc5)
          have HC5 := hide ((HC4.out.drew).stay hc5)
          have HDJ := hide (show ∀ k ∈ own (.slice A5 (rotL (inL m 8) p).length c5), k ∉ own (.slice A n cap) ∧ w.heap.size ≤ k from fun k hk => by
            have h1 := HTO.out k hk
            have h2 := HC4.out.size
            have h3 := HS4.out.own_lt
            simp at h1 h2
            refine ⟨fun h => ?_, by omega⟩
            have := h3 k h
            simp at this
            omega)
          have HDEL := hide (del38_any (p := fun k => hasZ m (k : Nat)) HN5.out (by have := HNL.out; omega) (bx := b + 1) (fun W hW k => in_any (b := b + 1) (hS5.1.chg hW (fun h => (HOWN4.out _ h).2.1 rfl)) HMM.out (k : Nat)))
          clear hs5 hown5 hc5 hS HTU
          go_wp2_with (first | (refine wpG_hload 42 _ rfl rfl (fun w' hw' => load_fn (by simpa using Blk.cell hw'.2 0)) hS5 ?_; go_simp) | (refine wpG_calc rfl (fun K hK => ?_)) | (refine wpG_skip ?_ ?_; (focus (simp [wantG]; done)); go_simp) | (refine wpG_take ?_ ?_; (focus (simp [wantG]; done))) | (refine wpG_pure (fun K hK => ?_); go_simp; refine hK _ _ ?_; clear hK K) | (refine wpG_deed (by decide) (fun K hK => ?_); go_simp) | (refine wpG_nil ?_))
          refine HDEL.out.mono ?_
          rintro e W6 ⟨A6, m6, cap6, rfl, hs6, hown6, hc6⟩
          refine hK _ _ ?_
          clear hK K
          have HS6 := hide hs6.re
          have HC6 := hide (HC5.out.trans hc6 (fun k hk => .inr (HOWN4.out k hk).1))
          have HT6 := hide (HTS.out.chg hc6 (fun k hk => (HDJ.out k hk).1))
          have HLL := hide (show (rotL (inL m 8) p).length + (L.filter fun x => !hasZ m (x : Nat)).length ≤ 1000000 by
            rw [rotL_length]
            have h1 := inL_le m 8
            have h2 := List.length_filter_le (fun x : Nat => !hasZ m (x : Nat)) L
            have := HNL.out
            omega)
          clear hs6 hown6 hc6 hS5 HDEL
          go_wp2_with (first | (refine wpG_deed (by decide) (fun K hK => ?_); refine wp_append_i _ _ rfl (.slice A5 (rotL (inL m 8) p).length c5) _ rfl rfl HT6.out HS6.out HLL.out ?_; intro A7 n7 c7 W7 hn7 hs7 hc7 hg7; refine hK _ _ ?_; clear hK K) | (refine wpG_calc rfl (fun K hK => ?_)) | (refine wpG_skip ?_ ?_; (focus (simp [wantG]; done)); go_simp) | (refine wpG_take ?_ ?_; (focus (simp [wantG]; done))) | (refine wpG_pure (fun K hK => ?_); go_simp; refine hK _ _ ?_; clear hK K) | (refine wpG_deed (by decide) (fun K hK => ?_); go_simp) | (refine wpG_nil ?_))
          go_ret2
          exact ⟨A7, n7, c7, 0, _, rfl, HXE.out, hs7, fun k hk => (hg7 k hk).elim (fun h => (HDJ.out k h).2) (fun h => Nat.le_trans HC6.out.size h), fun _ => .inr (.inr (.inr ⟨rfl, L, HORD.out, rfl⟩)), fun h => absurd rfl h, HC6.out.trans hc7 (fun k hk => .inr (HDJ.out k hk).2)⟩
        · exfalso
          have := HKIND.out
          omega
end Go.Proofs.Ytgehpdkhcjeldaa
