/- Texts merged for the claim: MpD. -/
import Derived.Test.YtfoleblcaloeoaaGreatDoorZap
import Derived.Laws.BitsAllLaws
/- answer (printed by genmpd.py). -/
namespace Go.Proofs.YtfoleblcaloeoaaGreatDoor
open Go Go.RowKit

theorem look_ev {w : World} {m : Nat} {M : Mo} {bp bo be : Nat} {fp fo fe : Int → Option Value} {gb : Int → Nat} {GF : Int → Nat → Prop} {ov : Int → Value} (h : MIn w m M bp bo be fp fo fe gb GF ov) (z : Int) :
    (Instr.lookup 60 (.map (some be)) (.int .u64 z) false).run Tryz.prog w = .ok (.bool (M.ev z)) w := by
  cases hp : M.ev z with
  | false => exact run_look_none Tryz.underlying60 Tryz.underlying37 h.me (by rw [h.he, hp]; rfl) (zero4 w) false
  | true => exact run_look_some Tryz.underlying60 Tryz.underlying37 h.me (by rw [h.he, hp]; rfl) false
theorem Eff.of {w w' : World} {m : Nat} {O : Nat → Prop} {X : List Nat} {k : FuncId} {caps : Array Value} {M' : Mo}
    (he : Ent k) (h : ∀ F W, Off w O X F → Chg F w' W → Calls Tryz.prog k caps W fun e W' => e = .returned (.tuple #[]) ∧ CP (fun k => O k ∨ w.heap.size ≤ k) W W' ∧ ∃ O', MMem W' m M' O' ∧ ∀ k, O' k → O k ∨ w.heap.size ≤ k) : Eff w w' m O X (.func (.func k) #[] caps) (some M') := ⟨k, caps, rfl, he, h⟩
theorem xor_max {v : Nat} (h : v < 18446744073709551616) : 18446744073709551615 ^^^ v = 18446744073709551615 - v := by
  refine Nat.eq_of_testBit_eq fun i => ?_
  have e1 := Nat.testBit_two_pow_sub_succ (n := 64) (x := v) h i
  have e2 : (2 ^ 64 - 1).testBit i = decide (i < 64) := Nat.testBit_two_pow_sub_one 64 i
  rw [show 2 ^ 64 - 1 = 18446744073709551615 by decide] at e2
  rw [Nat.testBit_xor, e2, show 18446744073709551615 - v = 2 ^ 64 - (v + 1) by omega, e1]
  by_cases hi : i < 64
  · simp [hi]
  · have h2 : v.testBit i = false := Nat.testBit_lt_two_pow (Nat.lt_of_lt_of_le h (show 2 ^ 64 ≤ 2 ^ i from Nat.pow_le_pow_right (by decide) (by omega)))
    simp [hi, h2]
theorem answer_pr {M : Mo} {x : Cl} (v : Nat) (h : x.k ≠ 1 ∧ x.k ≠ 10 ∧ x.k ≠ 11 ∧ x.k ≠ 12 ∧ x.k ≠ 13 ∧ x.k ≠ 19 ∧ x.k ≠ 20 ∧ x.k ≠ 21) :
    answerA M x v = match M.pr x.p with | none => (plainR 7, none) | some p => procA M x v p := by
  unfold answerA
  rw [if_neg h.1, if_neg h.2.1, if_neg (by omega), if_neg (by omega)]
  cases M.pr x.p <;> rfl
theorem access_load {p : Pr} {x : Cl} (hk : x.k = 8) : (accessA p x).2 = none := by
  unfold accessA
  simp only [hk, if_true]
  split
  · rfl
  · split <;> rfl
theorem shl8 {a b : Nat} (ha : a < 256) (hb : b < 256) : (a * 256) ||| b = a * 256 + b := by
  have := Nat.two_pow_add_eq_or_of_lt (i := 8) (b := b) (by omega) a
  rw [show 2 ^ 8 = 256 by decide, Nat.mul_comm] at this
  exact this.symm
set_option maxRecDepth 20000 in
set_option maxHeartbeats 40000000 in
theorem answer_any {w : World} {m : Nat} {M : Mo} {O : Nat → Prop} {X : List Nat} (h : MMem w m M O) {x : Cl} {v : Value} {r : Rs} {u : Value} (hx : x.Ok) (hv : RB w v x.l) (hX : x.l ≠ [] → ∀ k ∈ own v, k ∈ X) (hXl : ∀ k ∈ X, k < w.heap.size) (hw : wrongK M.c x = false) (hrv : r.v < 18446744073709551616) :
    Calls Tryz.prog 32 #[.pointer (some ⟨m, 0, none⟩), .agg (clc x v), .agg (rsc r u)] w fun e w' => AnsR w w' m O X (answerA M x r.v) e ∧ Chg [] w w' := by
  obtain ⟨A0, c0, rfl⟩ := RE.form hv
  obtain ⟨bp, bo, be, fp, fo, fe, gb, GF, ov, hI, hO, hl⟩ := h
  have HM := hide (show MMem w m M O from ⟨bp, bo, be, fp, fo, fe, gb, GF, ov, hI, hO, hl⟩)
  have HI0 := hide hI
  obtain ⟨W2, hW2⟩ : ∃ W2, W2 = (((w.alloc (.cells #[.pointer (some ⟨m, 0, none⟩)] 30)).alloc (.cells (clc x (.slice A0 x.l.length c0)) 47)).alloc (.cells (rsc r u) 40)).alloc (.cells (rsc zRs zV) 40) := ⟨_, rfl⟩
  have hc2 : Chg [] w W2 := by rw [hW2]; exact ((((Chg.refl [] w).alloc _).alloc _).alloc _).alloc _
  have hb3 : Blk W2 w.heap.size 30 #[.pointer (some ⟨m, 0, none⟩)] := by rw [hW2]; exact (((Blk.new w _ _).alloc _).alloc _).alloc _
  have hb4 : KB W2 (w.heap.size + 1) x (.slice A0 x.l.length c0) := by
    have := Blk.new (w.alloc (.cells #[.pointer (some ⟨m, 0, none⟩)] 30)) 47 (clc x (.slice A0 x.l.length c0))
    rw [World.size_alloc] at this
    rw [hW2]
    exact (this.alloc _).alloc _
  have hb5 : XB W2 (w.heap.size + 1 + 1) r u := by
    have := Blk.new ((w.alloc (.cells #[.pointer (some ⟨m, 0, none⟩)] 30)).alloc (.cells (clc x (.slice A0 x.l.length c0)) 47)) 40 (rsc r u)
    rw [World.size_alloc, World.size_alloc] at this
    rw [hW2]
    exact this.alloc _
  have hb6 : XB W2 (w.heap.size + 1 + 1 + 1) zRs zV := by
    have := Blk.new (((w.alloc (.cells #[.pointer (some ⟨m, 0, none⟩)] 30)).alloc (.cells (clc x (.slice A0 x.l.length c0)) 47)).alloc (.cells (rsc r u) 40)) 40 (rsc zRs zV)
    rw [World.size_alloc, World.size_alloc, World.size_alloc] at this
    rw [hW2]
    exact this
  obtain ⟨b3, e3⟩ : ∃ b, b = w.heap.size := ⟨_, rfl⟩
  obtain ⟨b4, e4⟩ : ∃ b, b = w.heap.size + 1 := ⟨_, rfl⟩
  obtain ⟨b5, e5⟩ : ∃ b, b = w.heap.size + 1 + 1 := ⟨_, rfl⟩
  obtain ⟨b6, e6⟩ : ∃ b, b = w.heap.size + 1 + 1 + 1 := ⟨_, rfl⟩
  rw [← e6] at hb6
  rw [← e5] at hb5
  rw [← e4] at hb4
  rw [← e3] at hb3
  have HE := hide (And.intro e3 (And.intro e4 (And.intro e5 e6)))
  have HI := hide (fun W (h : Chg [] W2 W) => hI.stay (hc2.stay h))
  have HB3 := hide (fun W (h : Chg [] W2 W) => hb3.chg h List.not_mem_nil)
  have HB4 := hide (fun W (h : Chg [] W2 W) => KB.stay hb4 h)
  have HB5 := hide (fun W (h : Chg [] W2 W) => XB.stay hb5 h)
  have HB6 := hide (fun W (h : Chg [] W2 W) => XB.stay hb6 h)
  have HC2 := hide hc2
  have HW2 := hide hW2
  have HH := hide (And.intro hO hl)
  have HV := hide hv
  have HX := hide hx
  have HXX := hide (And.intro hX hXl)
  have HNW := hide hw
  have HRV := hide hrv
  have HPL := hide (fun e W => plain_any e W)
  have HSZ := hide (show b6 < W2.heap.size from hb6.lt)
  have HNO := hide (show ¬ O b6 ∧ b6 ∉ X from ⟨fun h => by have := hl b6 h; omega, fun h => by have := hXl b6 h; omega⟩)
  have HPUT := hide (fun (R : Rs × Option Mo) (Wc W' : World) (e : Ending) (hcc : Chg [] W2 Wc) (hA : AnsR Wc W' m O X R e) => hA.put (w := w) (b := b6) (hc2.stay hcc).size (by omega) (Nat.lt_of_lt_of_le hb6.lt hcc.size) HNO.out.1 HNO.out.2)
  have HR := hide (show ∀ (W W7 : World), Chg [] W2 W → Chg [b6] W W7 → Chg [] w W7 from fun W W7 h1 h2 => (hc2.stay h1).trans h2 (fun y hy => .inr (by obtain rfl := List.mem_singleton.1 hy; omega)))
  obtain ⟨k1, k21⟩ := nw_kind hw
  have HKK := hide (And.intro k1 k21)
  obtain ⟨c0', -, -, -, -, -, -, -, -, -, -, -, l4, -⟩ := KB.cells hb4
  have q3 : W2.cell? ⟨b3, 0, none⟩ = some (.pointer (some ⟨m, 0, none⟩)) := by simpa using hb3.cell 0
  have l3 := hb3.lt
  obtain ⟨k0, hk0⟩ : ∃ z : Int, z = (x.k : Int) := ⟨_, rfl⟩
  rw [← hk0] at c0'
  have HK0 := hide hk0
  clear hI hO hl hv hx hX hXl hw hrv hb3 hb4 hb5 hb6 hc2 hW2 e3 e4 e5 e6 k1 k21 hk0
  go_enter Tryz.func32, Tryz.ntmps32
  go_upto_region 1 with (first | (refine wpList_box34 rfl _ rfl rfl ?_; try simp only [World.size_alloc]) | (refine wpList_boxRs rfl _ rfl rfl ?_; try simp only [World.size_alloc]) | (refine wpList_allocRs rfl rfl ?_; try simp only [World.size_alloc]; try rw [← HW2.out]))
  rw [← HE.out.2.2.2, ← HE.out.2.2.1, ← HE.out.2.1, ← HE.out.1]
  by_cases h1 : k0 = 1
  · subst h1
    have hk : x.k = 1 := by have := HK0.out; omega
    have HAN := hide (show answerA M x r.v = spawnA M by unfold answerA; rw [if_pos hk])
    clear hk
    go_wp2_with (first | (refine wpList_load34 rfl _ rfl rfl (HB4.out W2 (Chg.refl [] W2)) ?_))
    refine (spawn_any (X := X) (HM.out.stay HC2.out)).mono ?_
    rintro e W5 ⟨hA, hc5⟩
    obtain ⟨A, n, c, f, rfl, hans⟩ := HPUT.out _ _ _ _ (Chg.refl [] W2) hA
    have HX5 := hide (HB6.out W5 ((Chg.refl [] W2).stay hc5))
    have HC5 := hide ((Chg.refl [] W2).stay hc5)
    have HANS := hide hans
    clear hA hc5 hans
    generalize hRR : spawnA M = RR at *
    go_wp2_with (first | (refine wpList_storeRs (b := b6) (y := RR.1) (u := .slice A n c) rfl _ _ rfl rfl rfl rfl HX5.out ?_; intro W7 h7 hc7))
    refine bodyPost_ret (v := .tuple #[.agg (rsc RR.1 (.slice A n c)), f]) (results_twoRs (p := 6) (q := 7) rfl _ rfl h7) rfl ⟨?_, HR.out W5 W7 HC5.out hc7⟩
    rw [HAN.out]
    exact HANS.out W7 hc7
  by_cases h10 : k0 = 10
  · subst h10
    have hk : x.k = 10 := by have := HK0.out; omega
    have hs := nw_malloc HNW.out hk
    obtain ⟨n, hn⟩ : ∃ n : Nat, x.s = n := ⟨x.s.toNat, by omega⟩
    have HAN := hide (show answerA M x r.v = mallocA M x.s r.v by unfold answerA; rw [if_neg (by omega), if_pos hk])
    have HN := hide (And.intro hn (show n ≤ 128 by omega))
    clear hk hs hn
    have hlk := look_ev (HI.out W2.drew (Chg.refl [] W2).drew) r.v
    obtain ⟨-, p1, -, l5, -⟩ := XB.cells (HB5.out W2 (Chg.refl _ _))
    obtain ⟨-, -, qe, qm, -⟩ := mo_cells (HI.out W2 (Chg.refl _ _)).blk
    obtain ⟨rv, hrvv⟩ : ∃ z : Int, z = (r.v : Int) := ⟨_, rfl⟩
    rw [← hrvv] at hlk p1
    obtain ⟨ev, hev⟩ : ∃ b, b = M.ev rv := ⟨_, rfl⟩
    rw [← hev] at hlk
    have HRR := hide (And.intro hrvv hev)
    have HD := hide (show (r.v = 0 ∨ M.ev r.v = true) → ((⟨0, 18446744073709551615 - r.v, []⟩, none) : Rs × Option Mo) = mallocA M x.s r.v from fun h => by unfold mallocA; rw [if_pos h])
    obtain ⟨yv, hyv⟩ : ∃ y : Nat, y = 18446744073709551615 - r.v := ⟨_, rfl⟩
    rw [← hyv] at HD
    have hxor : bits .xor .u64 IntKind.u64.max rv = (yv : Int) := by
      rw [show IntKind.u64.max = ((18446744073709551615 : Nat) : Int) from rfl, hrvv, u64_xor_nat _ _ (by decide) HRV.out, xor_max HRV.out, hyv]
    have HBY := hide (br_v yv)
    have HBV := hide (show BR [(1, .int .u64 rv)] ⟨0, r.v, []⟩ zV by rw [hrvv]; exact br_v _)
    have HX6d := hide (HB6.out W2.drew (Chg.refl [] W2).drew)
    clear hrvv hev hyv
    by_cases hz : rv = 0
    · have d0 : (rv == 0) = true := by rw [hz]; rfl
      have HDD := hide (HD.out (.inl (by have := HRR.out.1; omega)))
      clear HD hz
      go_upto_region 5 with (fail)
      refine wp_region_t [0, 1, 0, 0, 1, 0, 0, 1, 0, 1, 3, 0] [none, none, none, none, some (23, false), some (23, false), some (23, false), some (23, false), some (23, false), some (23, false), some (23, false), none] (fun _ => True) (by kernel_rfl) (by kernel_rfl) (by kernel_rfl) ?_
      go_wp2_with (first | (refine wpList_buildRs rfl _ rfl HBY.out ?_ ?_; (focus (simp [Act.eval, show IntKind.u64.signed = false from rfl, hxor]; done))) | (refine wpList_storeRs (b := b6) (y := ⟨0, yv, []⟩) (u := zV) rfl _ _ rfl rfl rfl rfl HX6d.out ?_; intro W7 h7 hc7) | (refine wpG_calc rfl (fun K hK => ?_)) | (refine wpG_skip ?_ ?_; (focus (simp [wantG]; done)); go_simp) | (refine wpG_take ?_ ?_; (focus (simp [wantG]; done))) | (refine wpG_pure (fun K hK => ?_); go_simp; refine hK _ _ ?_; clear hK K) | (refine wpG_deed (by decide) (fun K hK => ?_); go_simp) | (refine wpG_nil ?_))
      refine bodyPost_ret (v := .tuple #[.agg (rsc ⟨0, yv, []⟩ zV), .nilFunc]) (results_twoRs (p := 6) (q := 7) rfl _ rfl h7) rfl ⟨?_, HR.out W2.drew W7 (Chg.refl [] W2).drew hc7⟩
      rw [HAN.out, ← HDD.out]
      exact AnsR.plain rfl
    · have d0 : (rv == 0) = false := beq_false_of_ne hz
      cases ev with
      | true =>
        have HDD := hide (HD.out (.inr (by rw [← HRR.out.1]; exact HRR.out.2.symm)))
        clear HD
        go_upto_region 5 with (fail)
        refine wp_region_t [0, 1, 0, 0, 1, 0, 0, 1, 0, 1, 3, 0] [none, none, none, none, some (23, false), some (23, false), some (23, false), some (23, false), some (23, false), some (23, false), some (23, false), none] (fun _ => True) (by kernel_rfl) (by kernel_rfl) (by kernel_rfl) ?_
        go_wp2_with (first | (refine wpList_buildRs rfl _ rfl HBY.out ?_ ?_; (focus (simp [Act.eval, show IntKind.u64.signed = false from rfl, hxor]; done))) | (refine wpList_storeRs (b := b6) (y := ⟨0, yv, []⟩) (u := zV) rfl _ _ rfl rfl rfl rfl HX6d.out ?_; intro W7 h7 hc7) | (refine wpG_calc rfl (fun K hK => ?_)) | (refine wpG_skip ?_ ?_; (focus (simp [wantG]; done)); go_simp) | (refine wpG_take ?_ ?_; (focus (simp [wantG]; done))) | (refine wpG_pure (fun K hK => ?_); go_simp; refine hK _ _ ?_; clear hK K) | (refine wpG_deed (by decide) (fun K hK => ?_); go_simp) | (refine wpG_nil ?_))
        refine bodyPost_ret (v := .tuple #[.agg (rsc ⟨0, yv, []⟩ zV), .nilFunc]) (results_twoRs (p := 6) (q := 7) rfl _ rfl h7) rfl ⟨?_, HR.out W2.drew W7 (Chg.refl [] W2).drew hc7⟩
        rw [HAN.out, ← HDD.out]
        exact AnsR.plain rfl
      | false =>
        have HMK := hide (show mallocA M x.s r.v = (⟨0, r.v, []⟩, some { M with ob := upd M.ob r.v (some (List.replicate n 0)), ev := upd M.ev r.v true }) by
          unfold mallocA
          rw [if_neg (by rintro (h | h); exact hz (by have := HRR.out.1; omega); rw [← HRR.out.1, ← HRR.out.2] at h; cases h), HN.out.1, Int.toNat_natCast])
        clear HD
        go_upto_region 5 with (fail)
        refine wp_region_t [0, 1, 0, 0, 1, 0, 0, 1, 0, 1, 3, 0] [none, none, none, none, some (23, false), some (23, false), some (23, false), some (23, false), some (23, false), some (23, false), some (23, false), none] (fun _ => True) (by kernel_rfl) (by kernel_rfl) (by kernel_rfl) ?_
        go_wp2_with (first | (refine wpList_buildRs rfl _ rfl HBV.out ?_ ?_; (focus (simp [Act.eval]; done))) | (refine wpList_storeRs (b := b6) (y := ⟨0, r.v, []⟩) (u := zV) rfl _ _ rfl rfl rfl rfl HX6d.out ?_; intro W7 h7 hc7) | (refine wpG_calc rfl (fun K hK => ?_)) | (refine wpG_skip ?_ ?_; (focus (simp [wantG]; done)); go_simp) | (refine wpG_take ?_ ?_; (focus (simp [wantG]; done))) | (refine wpG_pure (fun K hK => ?_); go_simp; refine hK _ _ ?_; clear hK K) | (refine wpG_deed (by decide) (fun K hK => ?_); go_simp) | (refine wpG_nil ?_))
        have hcW := HR.out W2.drew W7 (Chg.refl [] W2).drew hc7
        have he := HE.out
        refine bodyPost_ret (v := .tuple #[.agg (rsc ⟨0, r.v, []⟩ zV), .func (.func 64) #[] #[.pointer (some ⟨b4, 0, none⟩), .pointer (some ⟨b3, 0, none⟩), .pointer (some ⟨b5, 0, none⟩)]]) (results_twoRs (p := 6) (q := 7) rfl _ rfl h7) rfl ⟨?_, hcW⟩
        rw [HAN.out, HMK.out]
        refine ⟨none, 0, 0, _, rfl, RE.nil _ _ _ _ _, (fun _ h => (own_nil h).elim), Eff.of (ent_of Tryz.func64 (by kernel_rfl) (by kernel_rfl)) fun F W hF hW => ?_⟩
        have m4 : KB W b4 x (.slice A0 x.l.length c0) := Blk.chg (Blk.chg (HB4.out W2.drew (Chg.refl [] W2).drew) hc7 (by simp; omega)) hW (hF.new (by omega))
        have m5 : XB W b5 r u := Blk.chg (Blk.chg (HB5.out W2.drew (Chg.refl [] W2).drew) hc7 (by simp; omega)) hW (hF.new (by omega))
        have m3 := ((HB3.out W2.drew (Chg.refl [] W2).drew).chg hc7 (by simp; omega)).chg hW (hF.new (by omega))
        refine (malloc_do (HM.out.off (hF.cp hcW hW)) m4 m3 m5 HN.out.1 HN.out.2).mono ?_
        rintro e W' ⟨rfl, k1, O', k2, k3⟩
        exact ⟨rfl, k1.or, O', k2, fun k hk => (k3 k hk).imp id (Nat.le_trans (Nat.le_trans hcW.size hW.size))⟩
  by_cases h11 : k0 = 11
  · subst h11
    have hk : x.k = 11 := by have := HK0.out; omega
    have HAN := hide (show answerA M x r.v = objA M x by unfold answerA; rw [if_neg (by omega), if_neg (by omega), if_pos (by omega)])
    have HOB := hide (show x.k ≠ 11 → 0 ≤ x.a ∧ x.a ≤ 128 ∧ (x.k = 12 → x.l = [] ∧ 1 ≤ x.s ∧ x.s ≤ 128) ∧ (x.k = 13 → x.s = 0 ∧ 1 ≤ x.l.length ∧ x.l.length ≤ 128) from fun h11 => absurd hk h11)
    have HKO := hide (show x.k = 11 ∨ x.k = 12 ∨ x.k = 13 by omega)
    clear hk
    go_wp2_with (first | (refine wpList_load34 rfl _ rfl rfl (HB4.out W2 (Chg.refl [] W2)) ?_))
    refine (object_any (X := X) (HI.out W2 (Chg.refl [] W2)) HH.out.1 (fun k hk => Nat.lt_of_lt_of_le (HH.out.2 k hk) HC2.out.size) (HV.out.stay HC2.out) HXX.out.1 HX.out.l HKO.out HOB.out).mono ?_
    rintro e W5 ⟨hA, hc5⟩
    obtain ⟨A, n, c, f, rfl, hans⟩ := HPUT.out _ _ _ _ (Chg.refl [] W2) hA
    have HX5 := hide (HB6.out W5 ((Chg.refl [] W2).stay hc5))
    have HC5 := hide ((Chg.refl [] W2).stay hc5)
    have HANS := hide hans
    clear hA hc5 hans
    generalize hRR : objA M x = RR at *
    go_wp2_with (first | (refine wpList_storeRs (b := b6) (y := RR.1) (u := .slice A n c) rfl _ _ rfl rfl rfl rfl HX5.out ?_; intro W7 h7 hc7))
    refine bodyPost_ret (v := .tuple #[.agg (rsc RR.1 (.slice A n c)), f]) (results_twoRs (p := 6) (q := 7) rfl _ rfl h7) rfl ⟨?_, HR.out W5 W7 HC5.out hc7⟩
    rw [HAN.out]
    exact HANS.out W7 hc7
  by_cases h12 : k0 = 12
  · subst h12
    have hk : x.k = 12 := by have := HK0.out; omega
    have HAN := hide (show answerA M x r.v = objA M x by unfold answerA; rw [if_neg (by omega), if_neg (by omega), if_pos (by omega)])
    have HOB := hide (show x.k ≠ 11 → 0 ≤ x.a ∧ x.a ≤ 128 ∧ (x.k = 12 → x.l = [] ∧ 1 ≤ x.s ∧ x.s ≤ 128) ∧ (x.k = 13 → x.s = 0 ∧ 1 ≤ x.l.length ∧ x.l.length ≤ 128) from fun h11 => by
      obtain ⟨a1, a2, a3, a4, a5⟩ := nw_peek HNW.out hk
      exact ⟨a1, a2, fun _ => ⟨a3, a4, a5⟩, fun h => by omega⟩)
    have HKO := hide (show x.k = 11 ∨ x.k = 12 ∨ x.k = 13 by omega)
    clear hk
    go_wp2_with (first | (refine wpList_load34 rfl _ rfl rfl (HB4.out W2 (Chg.refl [] W2)) ?_))
    refine (object_any (X := X) (HI.out W2 (Chg.refl [] W2)) HH.out.1 (fun k hk => Nat.lt_of_lt_of_le (HH.out.2 k hk) HC2.out.size) (HV.out.stay HC2.out) HXX.out.1 HX.out.l HKO.out HOB.out).mono ?_
    rintro e W5 ⟨hA, hc5⟩
    obtain ⟨A, n, c, f, rfl, hans⟩ := HPUT.out _ _ _ _ (Chg.refl [] W2) hA
    have HX5 := hide (HB6.out W5 ((Chg.refl [] W2).stay hc5))
    have HC5 := hide ((Chg.refl [] W2).stay hc5)
    have HANS := hide hans
    clear hA hc5 hans
    generalize hRR : objA M x = RR at *
    go_wp2_with (first | (refine wpList_storeRs (b := b6) (y := RR.1) (u := .slice A n c) rfl _ _ rfl rfl rfl rfl HX5.out ?_; intro W7 h7 hc7))
    refine bodyPost_ret (v := .tuple #[.agg (rsc RR.1 (.slice A n c)), f]) (results_twoRs (p := 6) (q := 7) rfl _ rfl h7) rfl ⟨?_, HR.out W5 W7 HC5.out hc7⟩
    rw [HAN.out]
    exact HANS.out W7 hc7
  by_cases h13 : k0 = 13
  · subst h13
    have hk : x.k = 13 := by have := HK0.out; omega
    have HAN := hide (show answerA M x r.v = objA M x by unfold answerA; rw [if_neg (by omega), if_neg (by omega), if_pos (by omega)])
    have HOB := hide (show x.k ≠ 11 → 0 ≤ x.a ∧ x.a ≤ 128 ∧ (x.k = 12 → x.l = [] ∧ 1 ≤ x.s ∧ x.s ≤ 128) ∧ (x.k = 13 → x.s = 0 ∧ 1 ≤ x.l.length ∧ x.l.length ≤ 128) from fun h11 => by
      obtain ⟨a1, a2, a3, a4, a5⟩ := nw_poke HNW.out hk
      exact ⟨a1, a2, fun h => by omega, fun _ => ⟨a3, a4, a5⟩⟩)
    have HKO := hide (show x.k = 11 ∨ x.k = 12 ∨ x.k = 13 by omega)
    clear hk
    go_wp2_with (first | (refine wpList_load34 rfl _ rfl rfl (HB4.out W2 (Chg.refl [] W2)) ?_))
    refine (object_any (X := X) (HI.out W2 (Chg.refl [] W2)) HH.out.1 (fun k hk => Nat.lt_of_lt_of_le (HH.out.2 k hk) HC2.out.size) (HV.out.stay HC2.out) HXX.out.1 HX.out.l HKO.out HOB.out).mono ?_
    rintro e W5 ⟨hA, hc5⟩
    obtain ⟨A, n, c, f, rfl, hans⟩ := HPUT.out _ _ _ _ (Chg.refl [] W2) hA
    have HX5 := hide (HB6.out W5 ((Chg.refl [] W2).stay hc5))
    have HC5 := hide ((Chg.refl [] W2).stay hc5)
    have HANS := hide hans
    clear hA hc5 hans
    generalize hRR : objA M x = RR at *
    go_wp2_with (first | (refine wpList_storeRs (b := b6) (y := RR.1) (u := .slice A n c) rfl _ _ rfl rfl rfl rfl HX5.out ?_; intro W7 h7 hc7))
    refine bodyPost_ret (v := .tuple #[.agg (rsc RR.1 (.slice A n c)), f]) (results_twoRs (p := 6) (q := 7) rfl _ rfl h7) rfl ⟨?_, HR.out W5 W7 HC5.out hc7⟩
    rw [HAN.out]
    exact HANS.out W7 hc7
  by_cases h19 : k0 = 19
  · subst h19
    have hk : x.k = 19 := by have := HK0.out; omega
    have HAN := hide (show answerA M x r.v = (plainR 0, none) by unfold answerA; rw [if_neg (by omega), if_neg (by omega), if_neg (by omega), if_pos (by omega)])
    clear hk
    go_wp2_with fail
    refine (HPL.out _ _).mono ?_
    rintro e W5 ⟨rfl, hc5⟩
    have HX5 := hide (HB6.out W5 ((Chg.refl [] W2).stay hc5))
    have HC5 := hide ((Chg.refl [] W2).stay hc5)
    clear hc5
    go_wp2_with (first | (refine wpList_storeRs (b := b6) (y := plainR 0) (u := zV) rfl _ _ rfl rfl rfl rfl HX5.out ?_; intro W7 h7 hc7))
    refine bodyPost_ret (v := .tuple #[.agg (rsc (plainR 0) zV), .nilFunc]) (results_twoRs (p := 6) (q := 7) rfl _ rfl h7) rfl ⟨?_, HR.out W5 W7 HC5.out hc7⟩
    rw [HAN.out]
    exact AnsR.plain rfl
  by_cases h20 : k0 = 20
  · subst h20
    have hk : x.k = 20 := by have := HK0.out; omega
    have HAN := hide (show answerA M x r.v = (plainR 0, none) by unfold answerA; rw [if_neg (by omega), if_neg (by omega), if_neg (by omega), if_pos (by omega)])
    clear hk
    go_wp2_with fail
    refine (HPL.out _ _).mono ?_
    rintro e W5 ⟨rfl, hc5⟩
    have HX5 := hide (HB6.out W5 ((Chg.refl [] W2).stay hc5))
    have HC5 := hide ((Chg.refl [] W2).stay hc5)
    clear hc5
    go_wp2_with (first | (refine wpList_storeRs (b := b6) (y := plainR 0) (u := zV) rfl _ _ rfl rfl rfl rfl HX5.out ?_; intro W7 h7 hc7))
    refine bodyPost_ret (v := .tuple #[.agg (rsc (plainR 0) zV), .nilFunc]) (results_twoRs (p := 6) (q := 7) rfl _ rfl h7) rfl ⟨?_, HR.out W5 W7 HC5.out hc7⟩
    rw [HAN.out]
    exact AnsR.plain rfl
  by_cases h21 : k0 = 21
  · subst h21
    have hk : x.k = 21 := by have := HK0.out; omega
    have HAN := hide (show answerA M x r.v = (plainR 0, none) by unfold answerA; rw [if_neg (by omega), if_neg (by omega), if_neg (by omega), if_pos (by omega)])
    clear hk
    go_wp2_with fail
    refine (HPL.out _ _).mono ?_
    rintro e W5 ⟨rfl, hc5⟩
    have HX5 := hide (HB6.out W5 ((Chg.refl [] W2).stay hc5))
    have HC5 := hide ((Chg.refl [] W2).stay hc5)
    clear hc5
    go_wp2_with (first | (refine wpList_storeRs (b := b6) (y := plainR 0) (u := zV) rfl _ _ rfl rfl rfl rfl HX5.out ?_; intro W7 h7 hc7))
    refine bodyPost_ret (v := .tuple #[.agg (rsc (plainR 0) zV), .nilFunc]) (results_twoRs (p := 6) (q := 7) rfl _ rfl h7) rfl ⟨?_, HR.out W5 W7 HC5.out hc7⟩
    rw [HAN.out]
    exact AnsR.plain rfl
  have f1 : (k0 == 1) = false := beq_false_of_ne h1
  have f10 : (k0 == 10) = false := beq_false_of_ne h10
  have f11 : (k0 == 11) = false := beq_false_of_ne h11
  have f12 : (k0 == 12) = false := beq_false_of_ne h12
  have f13 : (k0 == 13) = false := beq_false_of_ne h13
  have f19 : (k0 == 19) = false := beq_false_of_ne h19
  have f20 : (k0 == 20) = false := beq_false_of_ne h20
  have f21 : (k0 == 21) = false := beq_false_of_ne h21
  have HF := hide (And.intro h1 (And.intro h10 (And.intro h11 (And.intro h12 (And.intro h13 (And.intro h19 (And.intro h20 h21)))))))
  clear h1 h10 h11 h12 h13 h19 h20 h21
  have HPR := hide (answer_pr (M := M) (x := x) r.v (by have := HF.out; have := HK0.out; omega))
  obtain ⟨pv, hpv⟩ : ∃ pv : Option Addr, (∃ p, M.pr x.p = some p ∧ pv = some ⟨gb x.p, 0, none⟩) ∨ (M.pr x.p = none ∧ pv = none) := by
    cases h : M.pr x.p with
    | some p => exact ⟨_, .inl ⟨p, rfl, rfl⟩⟩
    | none => exact ⟨_, .inr ⟨rfl, rfl⟩⟩
  have HLK := hide (show ∀ W, Chg [] W2 W → (Instr.lookup 58 (.map (some bp)) (.int .i64 x.p) false).run Tryz.prog W = .ok (.pointer pv) W from fun W h => by
    have := look_pr (HI.out W h) x.p
    rcases hpv with ⟨p, hp, rfl⟩ | ⟨hp, rfl⟩
    · rw [hp] at this; exact this
    · rw [hp] at this; exact this)
  have HPV := hide hpv
  clear hpv
  go_upto_region 16 with (fail)
  go_cut [8] from 54 to 60 (fun z8 W => ∃ b8, z8 = .pointer (some ⟨b8, 0, none⟩) ∧ Blk W b8 103 #[.pointer pv] ∧ Chg [] W2 W ∧ W2.heap.size ≤ b8)
  case first =>
    clear c0' l4 q3 l3
    refine wp_region_t [5,0,0,5,0,5,5,6,3] [none, none, none, none, none, none, none, none, none] (fun W => Chg [] W2 W) (by kernel_rfl) (by kernel_rfl) (by kernel_rfl) ?_
    have hS : Chg [] W2 W2.drew := (Chg.refl [] W2).drew
    generalize W2.drew = W0 at hS ⊢
    go_wp2_with (first | (refine wpG_hload 30 _ rfl rfl (fun w' hw' => load_ptr Tryz.underlying30 (by simpa using (HB3.out w' hw').cell 0)) hS ?_) | (refine wpG_hload 58 _ rfl rfl (fun w' hw' => load_map Tryz.underlying58 (mo_cells (HI.out w' hw').blk).1) hS ?_) | (refine wpG_hload 3 _ rfl rfl (fun w' hw' => load_int Tryz.underlying3 (KB.cells (HB4.out w' hw')).2.1) hS ?_) | (refine wpG_hlook 58 _ _ false rfl rfl rfl (fun w' hw' => HLK.out w' hw') hS ?_) | (refine wpG_calc rfl (fun K hK => ?_)) | (refine wpG_skip ?_ ?_; (focus (simp [wantG]; done)); go_simp) | (refine wpG_take ?_ ?_; (focus (simp [wantG]; done))) | (refine wpG_pure (fun K hK => ?_); go_simp; refine hK _ _ ?_; clear hK K) | (refine wpG_deed (by decide) (fun K hK => ?_); go_simp) | (refine wpG_nil ?_))
    (refine wpG_keeps hS (fun K hK => ?_))
    go_simp
    refine hK _ _ (hS.alloc _) ?_
    clear hK K
    go_wp2_with (first | fail | (refine wpG_calc rfl (fun K hK => ?_)) | (refine wpG_skip ?_ ?_; (focus (simp [wantG]; done)); go_simp) | (refine wpG_take ?_ ?_; (focus (simp [wantG]; done))) | (refine wpG_pure (fun K hK => ?_); go_simp; refine hK _ _ ?_; clear hK K) | (refine wpG_deed (by decide) (fun K hK => ?_); go_simp) | (refine wpG_nil ?_))
    go_meet
    case rel => exact ⟨_, rfl, Blk.new W0 _ _, hS.alloc _, hS.size⟩
  obtain ⟨b8, rfl, h8, hcw, hg8⟩ := hcut
  have H8 := hide h8
  have HCW := hide hcw
  have HG8 := hide hg8
  have HB8 := hide (fun W (h : Chg [] wc W) => h8.chg h List.not_mem_nil)
  clear c0' l4 q3 l3 f1 f10 f11 f12 f13 f19 f20 f21
  obtain ⟨c0', -, -, -, -, -, -, -, -, -, -, -, l4, -⟩ := KB.cells (HB4.out wc hcw)
  rw [← HK0.out] at c0'
  have q3 : wc.cell? ⟨b3, 0, none⟩ = some (.pointer (some ⟨m, 0, none⟩)) := by simpa using (HB3.out wc hcw).cell 0
  have l3 := (HB3.out wc hcw).lt
  have q8 : wc.cell? ⟨b8, 0, none⟩ = some (.pointer pv) := by simpa using h8.cell 0
  have l8 := h8.lt
  clear h8 hcw hg8 HLK
  rcases HPV.out with ⟨p, hp, rfl⟩ | ⟨hp, rfl⟩
  case inr =>
    have HAN := hide (show answerA M x r.v = (plainR 7, none) by rw [HPR.out, hp])
    clear hp
    go_wp2_with fail
    refine (HPL.out _ _).mono ?_
    rintro e W5 ⟨rfl, hc5⟩
    have HX5 := hide (HB6.out W5 (HCW.out.stay hc5))
    have HC5 := hide (HCW.out.stay hc5)
    clear hc5
    go_wp2_with (first | (refine wpList_storeRs (b := b6) (y := plainR 7) (u := zV) rfl _ _ rfl rfl rfl rfl HX5.out ?_; intro W7 h7 hc7))
    refine bodyPost_ret (v := .tuple #[.agg (rsc (plainR 7) zV), .nilFunc]) (results_twoRs (p := 6) (q := 7) rfl _ rfl h7) rfl ⟨?_, HR.out W5 W7 HC5.out hc7⟩
    rw [HAN.out]
    exact AnsR.plain rfl
  have HAN0 := hide (show answerA M x r.v = procA M x r.v p by rw [HPR.out, hp])
  have HP := hide hp
  clear hp
  have HIW := hide (fun W (h : CP (fun k => ¬ O k) w W) => HI0.out.off HH.out.1 h)
  have hkk : k0 = 2 ∨ k0 = 14 ∨ k0 = 16 ∨ k0 = 3 ∨ k0 = 4 ∨ k0 = 5 ∨ k0 = 8 ∨ k0 = 9 ∨ k0 = 6 ∨ k0 = 7 ∨ k0 = 15 ∨ k0 = 17 ∨ k0 = 18 := by
    have := HF.out
    have := HKK.out
    have := HK0.out
    omega
  rcases hkk with rfl | rfl | rfl | rfl | rfl | rfl | rfl | rfl | rfl | rfl | rfl | rfl | rfl
  · have hk : x.k = 2 := by have := HK0.out; omega
    have HAN := hide (show answerA M x r.v = (plainR 0, some { M with pr := upd M.pr x.p none }) by rw [HAN0.out]; unfold procA; rw [if_pos hk])
    clear hk
    go_wp2_with fail
    refine (HPL.out _ _).mono ?_
    rintro e W5 ⟨rfl, hc5⟩
    have HX5 := hide (HB6.out W5 (HCW.out.stay hc5))
    have HC5 := hide (HCW.out.stay hc5)
    have HC58 := hide hc5
    clear hc5
    go_wp2_with (first | (refine wpList_storeRs (b := b6) (y := plainR 0) (u := zV) rfl _ _ rfl rfl rfl rfl HX5.out ?_; intro W7 h7 hc7))
    have hcW := HR.out W5 W7 HC5.out hc7
    have he := HE.out
    have hg := HG8.out
    have hs2 := HC2.out.size
    have hsz := HSZ.out
    refine bodyPost_ret (v := .tuple #[.agg (rsc (plainR 0) zV), .func (.func 66) #[] #[.pointer (some ⟨b3, 0, none⟩), .pointer (some ⟨b4, 0, none⟩)]]) (results_twoRs (p := 6) (q := 7) rfl _ rfl h7) rfl ⟨?_, hcW⟩
    rw [HAN.out]
    refine ⟨none, 0, 0, _, rfl, RE.nil _ _ _ _ _, (fun _ h => (own_nil h).elim), Eff.of (ent_of Tryz.func66 (by kernel_rfl) (by kernel_rfl)) fun F W hF hW => ?_⟩
    have m3 := ((HB3.out W5 HC5.out).chg hc7 (by simp; omega)).chg hW (hF.new (by omega))
    have m4 : KB W b4 x (.slice A0 x.l.length c0) := Blk.chg (Blk.chg (HB4.out W5 HC5.out) hc7 (by simp; omega)) hW (hF.new (by omega))
    refine (exit_do (HM.out.off (hF.cp hcW hW)) m3 m4).mono ?_
    rintro e W' ⟨rfl, k1, O', k2, k3⟩
    exact ⟨rfl, k1.or, O', k2, fun k hk => (k3 k hk).imp id (Nat.le_trans (Nat.le_trans hcW.size hW.size))⟩
  · have hk : x.k = 14 := by have := HK0.out; omega
    have HAN := hide (show answerA M x r.v = (plainR 0, some { M with pr := upd M.pr x.p (some { p with pk := x.ok, pm := x.om }) }) by rw [HAN0.out]; unfold procA; rw [if_neg (show x.k ≠ 2 by omega), if_pos hk])
    clear hk
    go_wp2_with fail
    refine (HPL.out _ _).mono ?_
    rintro e W5 ⟨rfl, hc5⟩
    have HX5 := hide (HB6.out W5 (HCW.out.stay hc5))
    have HC5 := hide (HCW.out.stay hc5)
    have HC58 := hide hc5
    clear hc5
    go_wp2_with (first | (refine wpList_storeRs (b := b6) (y := plainR 0) (u := zV) rfl _ _ rfl rfl rfl rfl HX5.out ?_; intro W7 h7 hc7))
    have hcW := HR.out W5 W7 HC5.out hc7
    have he := HE.out
    have hg := HG8.out
    have hs2 := HC2.out.size
    have hsz := HSZ.out
    refine bodyPost_ret (v := .tuple #[.agg (rsc (plainR 0) zV), .func (.func 67) #[] #[.pointer (some ⟨b4, 0, none⟩), .pointer (some ⟨b8, 0, none⟩)]]) (results_twoRs (p := 6) (q := 7) rfl _ rfl h7) rfl ⟨?_, hcW⟩
    rw [HAN.out]
    refine ⟨none, 0, 0, _, rfl, RE.nil _ _ _ _ _, (fun _ h => (own_nil h).elim), Eff.of (ent_of Tryz.func67 (by kernel_rfl) (by kernel_rfl)) fun F W hF hW => ?_⟩
    have m4 : KB W b4 x (.slice A0 x.l.length c0) := Blk.chg (Blk.chg (HB4.out W5 HC5.out) hc7 (by simp; omega)) hW (hF.new (by omega))
    have m8 := ((HB8.out W5 HC58.out).chg hc7 (by simp; omega)).chg hW (hF.new (by omega))
    refine (setpol_do (HIW.out W (hF.cp hcW hW)) HH.out.1 (fun k hk => Nat.lt_of_lt_of_le (HH.out.2 k hk) (hF.cp hcW hW).size) HP.out m4 m8 ⟨HX.out.ok, HX.out.om⟩).mono ?_
    rintro e W' ⟨rfl, k1, O', k2, k3⟩
    exact ⟨rfl, k1.or, O', k2, fun k hk => .inl (k3 k hk)⟩
  · have hk : x.k = 16 := by have := HK0.out; omega
    have HAN := hide (show answerA M x r.v = (⟨0, (polA p x.g).1 * 256 + (polA p x.g).2, []⟩, none) by rw [HAN0.out]; unfold procA; rw [if_neg (show x.k ≠ 2 by omega), if_neg (show x.k ≠ 14 by omega), if_pos hk])
    clear hk
    obtain ⟨-, -, -, c3, -, -, -, -, -, -, -, -, -, -⟩ := KB.cells (HB4.out wc HCW.out)
    obtain ⟨d, FA, qp, qo, gp', go', gp, hP, -, -⟩ := (HI.out wc HCW.out).pr x.p p HP.out
    have HPO := hide (show (polA p x.g).1 < 256 ∧ (polA p x.g).2 < 256 by
      unfold polA
      cases h : p.ow x.g with
      | none => exact ⟨hP.pk, hP.pm⟩
      | some q => exact hP.ow _ _ h)
    have HOF := hide (of_pr hP x.g)
    clear hP
    generalize hyy : polA p x.g = yy at *
    obtain ⟨yk, ym⟩ := yy
    simp only at HAN HPO HOF
    go_wp2_with fail
    refine HOF.out.mono ?_
    rintro e W5 ⟨rfl, hc5⟩
    have HX5 := hide (HB6.out W5 (HCW.out.stay hc5))
    have HC5 := hide (HCW.out.stay hc5)
    clear hc5 c0' l4 q3 l3 q8 l8 c3
    obtain ⟨zv, hzv⟩ : ∃ z : Nat, z = yk * 256 + ym := ⟨_, rfl⟩
    rw [← hzv] at HAN
    have w1 : IntKind.u64.wrap (yk : Int) = (yk : Int) := by rw [IntKind.wrap_u64]; have := HPO.out; omega
    have w2 : IntKind.u64.wrap ((yk : Int) * 256) = (yk : Int) * 256 := by rw [IntKind.wrap_u64]; have := HPO.out; omega
    have w3 : IntKind.u64.wrap (ym : Int) = (ym : Int) := by rw [IntKind.wrap_u64]; have := HPO.out; omega
    have hor : bits .or .u64 ((yk : Int) * 256) (ym : Int) = (zv : Int) := by
      have h1 := HPO.out.1
      have h2 := HPO.out.2
      rw [show (yk : Int) * 256 = ((yk * 256 : Nat) : Int) by simp, u64_or_nat _ _ (Nat.lt_of_lt_of_le (Nat.mul_lt_mul_of_pos_right h1 (by decide)) (by decide)) (Nat.lt_trans h2 (by decide)), shl8 h1 h2, hzv]
    have HBV := hide (br_v zv)
    clear hzv
    go_wp2_with (first | (refine wpList_alloc39 rfl rfl ?_; intro W6 h6 hc6; have H6 := hide h6; have HC56 := hide hc6; have HX6 := hide (XB.stay HX5.out hc6); have HNE := hide (show W5.heap.size ≠ b6 by have := HX5.out.lt; omega); clear h6 hc6) | (refine wpList_store39 (b := W5.heap.size) (k' := (yk : Int)) (m' := (ym : Int)) rfl _ _ rfl rfl rfl H6.out ?_; intro W8 h9 hc9; have HX8 := hide (show XB W8 b6 zRs zV from Blk.chg HX6.out hc9 (by simp; exact fun e => HNE.out e.symm)); have HC9 := hide (show Chg [] W2 W8 from HC5.out.trans ((HC56.out.up [W5.heap.size]).and_ hc9) (fun y hy => .inr (by obtain rfl := List.mem_singleton.1 hy; exact HC5.out.size))); have r0 : W8.cell? ⟨W5.heap.size, 0, none⟩ = some (.int .u8 yk) := (by simpa using h9.cell 0); have r1 : W8.cell? ⟨W5.heap.size, 1, none⟩ = some (.int .u8 ym) := (by simpa using h9.cell 1); have lr := h9.lt; clear h9 hc9) | (refine wpList_buildRs rfl _ rfl HBV.out ?_ ?_; (focus (simp [Act.eval, w1, w2, w3, hor]; done))) | (refine wpList_storeRs (b := b6) (y := ⟨0, zv, []⟩) (u := zV) rfl _ _ rfl rfl rfl rfl HX8.out ?_; intro W7 h7 hc7))
    refine bodyPost_ret (v := .tuple #[.agg (rsc ⟨0, zv, []⟩ zV), .nilFunc]) (results_twoRs (p := 6) (q := 7) rfl _ rfl h7) rfl ⟨?_, HR.out W8 W7 HC9.out hc7⟩
    rw [HAN.out]
    exact AnsR.plain rfl
  · have hk : x.k = 3 := by have := HK0.out; omega
    have HAN := hide (show answerA M x r.v = (plainR (changeA p x).1, some { M with pr := upd M.pr x.p (some (changeA p x).2) }) by rw [HAN0.out]; unfold procA; rw [if_neg (show x.k ≠ 2 by omega), if_neg (show x.k ≠ 14 by omega), if_neg (show x.k ≠ 16 by omega), if_pos (show x.k = 3 ∨ x.k = 4 ∨ x.k = 5 by omega)])
    have HRG := hide (nw_range HNW.out (by rw [has_at hk]; rfl))
    have HKD := hide (show x.k = 3 ∨ x.k = 4 ∨ x.k = 5 by omega)
    clear hk
    go_wp2_with (first | (refine wpList_load34 rfl _ rfl rfl (HB4.out wc HCW.out) ?_))
    refine (change_any (X := X) (HI.out wc HCW.out) HH.out.1 (fun k hk => Nat.lt_of_lt_of_le (HH.out.2 k hk) (HC2.out.stay HCW.out).size) HP.out rfl HKD.out (fun _ => by have := HRG.out; omega)).mono ?_
    rintro e W5 ⟨hA, hc5⟩
    obtain ⟨A, n, c, f, rfl, hans⟩ := HPUT.out _ _ _ _ HCW.out hA
    have HX5 := hide (HB6.out W5 (HCW.out.stay hc5))
    have HC5 := hide (HCW.out.stay hc5)
    have HANS := hide hans
    clear hA hc5 hans
    generalize hRR : ((plainR (changeA p x).1, some { M with pr := upd M.pr x.p (some (changeA p x).2) }) : Rs × Option Mo) = RR at *
    go_wp2_with (first | (refine wpList_storeRs (b := b6) (y := RR.1) (u := .slice A n c) rfl _ _ rfl rfl rfl rfl HX5.out ?_; intro W7 h7 hc7))
    refine bodyPost_ret (v := .tuple #[.agg (rsc RR.1 (.slice A n c)), f]) (results_twoRs (p := 6) (q := 7) rfl _ rfl h7) rfl ⟨?_, HR.out W5 W7 HC5.out hc7⟩
    rw [HAN.out]
    exact HANS.out W7 hc7
  · have hk : x.k = 4 := by have := HK0.out; omega
    have HAN := hide (show answerA M x r.v = (plainR (changeA p x).1, some { M with pr := upd M.pr x.p (some (changeA p x).2) }) by rw [HAN0.out]; unfold procA; rw [if_neg (show x.k ≠ 2 by omega), if_neg (show x.k ≠ 14 by omega), if_neg (show x.k ≠ 16 by omega), if_pos (show x.k = 3 ∨ x.k = 4 ∨ x.k = 5 by omega)])
    have HRG := hide (nw_range HNW.out (by rw [has_at hk]; rfl))
    have HKD := hide (show x.k = 3 ∨ x.k = 4 ∨ x.k = 5 by omega)
    clear hk
    go_wp2_with (first | (refine wpList_load34 rfl _ rfl rfl (HB4.out wc HCW.out) ?_))
    refine (change_any (X := X) (HI.out wc HCW.out) HH.out.1 (fun k hk => Nat.lt_of_lt_of_le (HH.out.2 k hk) (HC2.out.stay HCW.out).size) HP.out rfl HKD.out (fun _ => by have := HRG.out; omega)).mono ?_
    rintro e W5 ⟨hA, hc5⟩
    obtain ⟨A, n, c, f, rfl, hans⟩ := HPUT.out _ _ _ _ HCW.out hA
    have HX5 := hide (HB6.out W5 (HCW.out.stay hc5))
    have HC5 := hide (HCW.out.stay hc5)
    have HANS := hide hans
    clear hA hc5 hans
    generalize hRR : ((plainR (changeA p x).1, some { M with pr := upd M.pr x.p (some (changeA p x).2) }) : Rs × Option Mo) = RR at *
    go_wp2_with (first | (refine wpList_storeRs (b := b6) (y := RR.1) (u := .slice A n c) rfl _ _ rfl rfl rfl rfl HX5.out ?_; intro W7 h7 hc7))
    refine bodyPost_ret (v := .tuple #[.agg (rsc RR.1 (.slice A n c)), f]) (results_twoRs (p := 6) (q := 7) rfl _ rfl h7) rfl ⟨?_, HR.out W5 W7 HC5.out hc7⟩
    rw [HAN.out]
    exact HANS.out W7 hc7
  · have hk : x.k = 5 := by have := HK0.out; omega
    have HAN := hide (show answerA M x r.v = (plainR (changeA p x).1, some { M with pr := upd M.pr x.p (some (changeA p x).2) }) by rw [HAN0.out]; unfold procA; rw [if_neg (show x.k ≠ 2 by omega), if_neg (show x.k ≠ 14 by omega), if_neg (show x.k ≠ 16 by omega), if_pos (show x.k = 3 ∨ x.k = 4 ∨ x.k = 5 by omega)])
    have HRG := hide (nw_range HNW.out (by rw [has_at hk]; rfl))
    have HKD := hide (show x.k = 3 ∨ x.k = 4 ∨ x.k = 5 by omega)
    clear hk
    go_wp2_with (first | (refine wpList_load34 rfl _ rfl rfl (HB4.out wc HCW.out) ?_))
    refine (change_any (X := X) (HI.out wc HCW.out) HH.out.1 (fun k hk => Nat.lt_of_lt_of_le (HH.out.2 k hk) (HC2.out.stay HCW.out).size) HP.out rfl HKD.out (fun _ => by have := HRG.out; omega)).mono ?_
    rintro e W5 ⟨hA, hc5⟩
    obtain ⟨A, n, c, f, rfl, hans⟩ := HPUT.out _ _ _ _ HCW.out hA
    have HX5 := hide (HB6.out W5 (HCW.out.stay hc5))
    have HC5 := hide (HCW.out.stay hc5)
    have HANS := hide hans
    clear hA hc5 hans
    generalize hRR : ((plainR (changeA p x).1, some { M with pr := upd M.pr x.p (some (changeA p x).2) }) : Rs × Option Mo) = RR at *
    go_wp2_with (first | (refine wpList_storeRs (b := b6) (y := RR.1) (u := .slice A n c) rfl _ _ rfl rfl rfl rfl HX5.out ?_; intro W7 h7 hc7))
    refine bodyPost_ret (v := .tuple #[.agg (rsc RR.1 (.slice A n c)), f]) (results_twoRs (p := 6) (q := 7) rfl _ rfl h7) rfl ⟨?_, HR.out W5 W7 HC5.out hc7⟩
    rw [HAN.out]
    exact HANS.out W7 hc7
  · have hk : x.k = 8 := by have := HK0.out; omega
    have HAN := hide (show answerA M x r.v = ((accessA p x).1, (accessA p x).2.map fun q => { M with pr := upd M.pr x.p (some q) }) by rw [HAN0.out]; unfold procA; rw [if_neg (show x.k ≠ 2 by omega), if_neg (show x.k ≠ 14 by omega), if_neg (show x.k ≠ 16 by omega), if_neg (show ¬ (x.k = 3 ∨ x.k = 4 ∨ x.k = 5) by omega), if_pos (show x.k = 8 ∨ x.k = 9 by omega)])
    have HN2 := hide (show (((accessA p x).1, none) : Rs × Option Mo) = ((accessA p x).1, (accessA p x).2.map fun q => { M with pr := upd M.pr x.p (some q) }) by rw [access_load hk]; rfl)
    have HK8 := hide hk
    have HLD := hide (nw_load HNW.out hk)
    rw [← HN2.out] at HAN
    clear hk
    go_wp2_with (first | (refine wpList_load34 rfl _ rfl rfl (HB4.out wc HCW.out) ?_))
    refine (load_any (X := X) (HI.out wc HCW.out) HH.out.1 HP.out HK8.out HLD.out).mono ?_
    rintro e W5 ⟨hA, hc5⟩
    obtain ⟨A, n, c, f, rfl, hans⟩ := HPUT.out _ _ _ _ HCW.out hA
    have HX5 := hide (HB6.out W5 (HCW.out.stay hc5))
    have HC5 := hide (HCW.out.stay hc5)
    have HANS := hide hans
    clear hA hc5 hans
    generalize hRR : (((accessA p x).1, none) : Rs × Option Mo) = RR at *
    go_wp2_with (first | (refine wpList_storeRs (b := b6) (y := RR.1) (u := .slice A n c) rfl _ _ rfl rfl rfl rfl HX5.out ?_; intro W7 h7 hc7))
    refine bodyPost_ret (v := .tuple #[.agg (rsc RR.1 (.slice A n c)), f]) (results_twoRs (p := 6) (q := 7) rfl _ rfl h7) rfl ⟨?_, HR.out W5 W7 HC5.out hc7⟩
    rw [HAN.out]
    exact HANS.out W7 hc7
  · have hk : x.k = 9 := by have := HK0.out; omega
    have HAN := hide (show answerA M x r.v = ((accessA p x).1, (accessA p x).2.map fun q => { M with pr := upd M.pr x.p (some q) }) by rw [HAN0.out]; unfold procA; rw [if_neg (show x.k ≠ 2 by omega), if_neg (show x.k ≠ 14 by omega), if_neg (show x.k ≠ 16 by omega), if_neg (show ¬ (x.k = 3 ∨ x.k = 4 ∨ x.k = 5) by omega), if_pos (show x.k = 8 ∨ x.k = 9 by omega)])
    have HK8 := hide hk
    have HLD := hide (nw_store HNW.out hk)
    clear hk
    go_wp2_with (first | (refine wpList_load34 rfl _ rfl rfl (HB4.out wc HCW.out) ?_))
    refine (store_any (X := X) (HI.out wc HCW.out) HH.out.1 (fun k hk => Nat.lt_of_lt_of_le (HH.out.2 k hk) (HC2.out.stay HCW.out).size) HP.out HK8.out HLD.out (HV.out.stay (HC2.out.stay HCW.out)) HXX.out.1 HX.out.l).mono ?_
    rintro e W5 ⟨hA, hc5⟩
    obtain ⟨A, n, c, f, rfl, hans⟩ := HPUT.out _ _ _ _ HCW.out hA
    have HX5 := hide (HB6.out W5 (HCW.out.stay hc5))
    have HC5 := hide (HCW.out.stay hc5)
    have HANS := hide hans
    clear hA hc5 hans
    generalize hRR : (((accessA p x).1, (accessA p x).2.map fun q => { M with pr := upd M.pr x.p (some q) }) : Rs × Option Mo) = RR at *
    go_wp2_with (first | (refine wpList_storeRs (b := b6) (y := RR.1) (u := .slice A n c) rfl _ _ rfl rfl rfl rfl HX5.out ?_; intro W7 h7 hc7))
    refine bodyPost_ret (v := .tuple #[.agg (rsc RR.1 (.slice A n c)), f]) (results_twoRs (p := 6) (q := 7) rfl _ rfl h7) rfl ⟨?_, HR.out W5 W7 HC5.out hc7⟩
    rw [HAN.out]
    exact HANS.out W7 hc7
  · have hk : x.k = 6 := by have := HK0.out; omega
    obtain ⟨mx, hmx0⟩ : ∃ z : Int, z = max x.c 1 := ⟨_, rfl⟩
    have hmx : ∀ (ts : Array TypeId) (ty : TypeId) (W : World), (Builtin.max_ ts ty #[.int .i64 x.c, .int .i64 1]).run Tryz.prog W = .ok (.int .i64 mx) W := fun ts ty W => by rw [Ar.run_max, ← hmx0]
    obtain ⟨e0, he0⟩ : ∃ z : Int, z = Ar.mdE p.rl x.g mx := ⟨_, rfl⟩
    obtain ⟨-, -, -, c3, c4, -, -, -, -, -, -, -, -, -⟩ := KB.cells (HB4.out wc HCW.out)
    obtain ⟨d, FA, qp, qo, gp', go', gp, hP, -, -⟩ := (HI.out wc HCW.out).pr x.p p HP.out
    have qb0 : wc.cell? ⟨gb x.p, 0, none⟩ = some (.pointer (some ⟨d, 0, none⟩)) := by simpa [prc] using hP.blk.cell 0
    have lb := hP.blk.lt
    have HMD := hide (fun W (h : Chg [] wc W) => Ar.md_at (hP.ar.stay h) hP.sp x.g mx)
    rw [← he0] at HMD
    have HANM := hide (show answerA M x r.v = if e0 ≠ 0 then (plainR 7, none) else (plainR 0, none) by rw [HAN0.out]; unfold procA; rw [if_neg (show x.k ≠ 2 by omega), if_neg (show x.k ≠ 14 by omega), if_neg (show x.k ≠ 16 by omega), if_neg (show ¬ (x.k = 3 ∨ x.k = 4 ∨ x.k = 5) by omega), if_neg (show ¬ (x.k = 8 ∨ x.k = 9) by omega), ← hmx0, ← he0]; by_cases h : e0 ≠ 0; rw [if_pos h, if_pos h]; rw [if_neg h, if_neg h, if_neg (show x.k ≠ 17 by omega), if_neg (show x.k ≠ 15 by omega)])
    clear hP hmx0 he0 hk
    by_cases hz : e0 = 0
    case neg =>
      have HAN := hide (show answerA M x r.v = (plainR 7, none) by rw [HANM.out, if_pos hz])
      have d1 : (e0 != 0) = true := by simp [hz]
      have d2 : (e0 == 0) = false := beq_false_of_ne hz
      clear hz
      go_upto_region 34 with (fail)
      refine wp_region_t [1, 0, 0, 1, 0, 1, 0, 1, 0, 3, 0] [none, none, none, none, none, none, none, none, none, none, none] (fun _ => True) (by kernel_rfl) (by kernel_rfl) (by kernel_rfl) ?_
      go_wp2_with (first | (refine wpG_deed (by decide) (fun K hK => ?_); go_simp; refine (HMD.out _ (Chg.refl [] wc).drew).mono ?_; rintro e W3 ⟨rfl, hc3⟩; refine hK _ _ ?_; clear hK K; have HC3 := hide ((Chg.refl [] wc).drew.stay hc3); clear hc3 c0' l4 q3 l3 q8 l8 c3 c4 qb0 lb; have HCW3 := hide (HCW.out.stay HC3.out); obtain ⟨c0', -, -, -, -, -, -, -, -, -, -, -, l4, -⟩ := KB.cells (HB4.out W3 HCW3.out); rw [← HK0.out] at c0') | (refine wpG_calc rfl (fun K hK => ?_)) | (refine wpG_skip ?_ ?_; (focus (simp [wantG]; done)); go_simp) | (refine wpG_take ?_ ?_; (focus (simp [wantG]; done))) | (refine wpG_pure (fun K hK => ?_); go_simp; refine hK _ _ ?_; clear hK K) | (refine wpG_deed (by decide) (fun K hK => ?_); go_simp) | (refine wpG_nil ?_))
      refine (HPL.out _ _).mono ?_
      rintro e W5 ⟨rfl, hc5⟩
      have HX5 := hide (HB6.out W5 (HCW3.out.stay hc5))
      have HC5 := hide (HCW3.out.stay hc5)
      clear hc5
      go_wp2_with (first | (refine wpList_storeRs (b := b6) (y := plainR 7) (u := zV) rfl _ _ rfl rfl rfl rfl HX5.out ?_; intro W7 h7 hc7))
      refine bodyPost_ret (v := .tuple #[.agg (rsc (plainR 7) zV), .nilFunc]) (results_twoRs (p := 6) (q := 7) rfl _ rfl h7) rfl ⟨?_, HR.out W5 W7 HC5.out hc7⟩
      rw [HAN.out]
      exact AnsR.plain rfl
    have HAN := hide (show answerA M x r.v = (plainR 0, none) by rw [HANM.out, if_neg (fun h => h hz)])
    subst hz
    go_upto_region 34 with (fail)
    refine wp_region_t [1, 0, 0, 1, 0, 1, 0, 1, 0, 3, 0] [none, none, none, none, none, none, none, none, none, none, none] (fun _ => True) (by kernel_rfl) (by kernel_rfl) (by kernel_rfl) ?_
    go_wp2_with (first | (refine wpG_deed (by decide) (fun K hK => ?_); go_simp; refine (HMD.out _ (Chg.refl [] wc).drew).mono ?_; rintro e W3 ⟨rfl, hc3⟩; refine hK _ _ ?_; clear hK K; have HC3 := hide ((Chg.refl [] wc).drew.stay hc3); clear hc3 c0' l4 q3 l3 q8 l8 c3 c4 qb0 lb; have HCW3 := hide (HCW.out.stay HC3.out); obtain ⟨c0', -, -, -, -, -, -, -, -, -, -, -, l4, -⟩ := KB.cells (HB4.out W3 HCW3.out); rw [← HK0.out] at c0') | (refine wpG_calc rfl (fun K hK => ?_)) | (refine wpG_skip ?_ ?_; (focus (simp [wantG]; done)); go_simp) | (refine wpG_take ?_ ?_; (focus (simp [wantG]; done))) | (refine wpG_pure (fun K hK => ?_); go_simp; refine hK _ _ ?_; clear hK K) | (refine wpG_deed (by decide) (fun K hK => ?_); go_simp) | (refine wpG_nil ?_))
    refine (HPL.out _ _).mono ?_
    rintro e W5 ⟨rfl, hc5⟩
    have HX5 := hide (HB6.out W5 (HCW3.out.stay hc5))
    have HC5 := hide (HCW3.out.stay hc5)
    clear hc5
    go_wp2_with (first | (refine wpList_storeRs (b := b6) (y := plainR 0) (u := zV) rfl _ _ rfl rfl rfl rfl HX5.out ?_; intro W7 h7 hc7))
    refine bodyPost_ret (v := .tuple #[.agg (rsc (plainR 0) zV), .nilFunc]) (results_twoRs (p := 6) (q := 7) rfl _ rfl h7) rfl ⟨?_, HR.out W5 W7 HC5.out hc7⟩
    rw [HAN.out]
    exact AnsR.plain rfl
  · have hk : x.k = 7 := by have := HK0.out; omega
    obtain ⟨mx, hmx0⟩ : ∃ z : Int, z = max x.c 1 := ⟨_, rfl⟩
    have hmx : ∀ (ts : Array TypeId) (ty : TypeId) (W : World), (Builtin.max_ ts ty #[.int .i64 x.c, .int .i64 1]).run Tryz.prog W = .ok (.int .i64 mx) W := fun ts ty W => by rw [Ar.run_max, ← hmx0]
    obtain ⟨e0, he0⟩ : ∃ z : Int, z = Ar.mdE p.rl x.g mx := ⟨_, rfl⟩
    obtain ⟨-, -, -, c3, c4, -, -, -, -, -, -, -, -, -⟩ := KB.cells (HB4.out wc HCW.out)
    obtain ⟨d, FA, qp, qo, gp', go', gp, hP, -, -⟩ := (HI.out wc HCW.out).pr x.p p HP.out
    have qb0 : wc.cell? ⟨gb x.p, 0, none⟩ = some (.pointer (some ⟨d, 0, none⟩)) := by simpa [prc] using hP.blk.cell 0
    have lb := hP.blk.lt
    have HMD := hide (fun W (h : Chg [] wc W) => Ar.md_at (hP.ar.stay h) hP.sp x.g mx)
    rw [← he0] at HMD
    have HANM := hide (show answerA M x r.v = if e0 ≠ 0 then (plainR 7, none) else (plainR 0, none) by rw [HAN0.out]; unfold procA; rw [if_neg (show x.k ≠ 2 by omega), if_neg (show x.k ≠ 14 by omega), if_neg (show x.k ≠ 16 by omega), if_neg (show ¬ (x.k = 3 ∨ x.k = 4 ∨ x.k = 5) by omega), if_neg (show ¬ (x.k = 8 ∨ x.k = 9) by omega), ← hmx0, ← he0]; by_cases h : e0 ≠ 0; rw [if_pos h, if_pos h]; rw [if_neg h, if_neg h, if_neg (show x.k ≠ 17 by omega), if_neg (show x.k ≠ 15 by omega)])
    clear hP hmx0 he0 hk
    by_cases hz : e0 = 0
    case neg =>
      have HAN := hide (show answerA M x r.v = (plainR 7, none) by rw [HANM.out, if_pos hz])
      have d1 : (e0 != 0) = true := by simp [hz]
      have d2 : (e0 == 0) = false := beq_false_of_ne hz
      clear hz
      go_upto_region 34 with (fail)
      refine wp_region_t [1, 0, 0, 1, 0, 1, 0, 1, 0, 3, 0] [none, none, none, none, none, none, none, none, none, none, none] (fun _ => True) (by kernel_rfl) (by kernel_rfl) (by kernel_rfl) ?_
      go_wp2_with (first | (refine wpG_deed (by decide) (fun K hK => ?_); go_simp; refine (HMD.out _ (Chg.refl [] wc).drew).mono ?_; rintro e W3 ⟨rfl, hc3⟩; refine hK _ _ ?_; clear hK K; have HC3 := hide ((Chg.refl [] wc).drew.stay hc3); clear hc3 c0' l4 q3 l3 q8 l8 c3 c4 qb0 lb; have HCW3 := hide (HCW.out.stay HC3.out); obtain ⟨c0', -, -, -, -, -, -, -, -, -, -, -, l4, -⟩ := KB.cells (HB4.out W3 HCW3.out); rw [← HK0.out] at c0') | (refine wpG_calc rfl (fun K hK => ?_)) | (refine wpG_skip ?_ ?_; (focus (simp [wantG]; done)); go_simp) | (refine wpG_take ?_ ?_; (focus (simp [wantG]; done))) | (refine wpG_pure (fun K hK => ?_); go_simp; refine hK _ _ ?_; clear hK K) | (refine wpG_deed (by decide) (fun K hK => ?_); go_simp) | (refine wpG_nil ?_))
      refine (HPL.out _ _).mono ?_
      rintro e W5 ⟨rfl, hc5⟩
      have HX5 := hide (HB6.out W5 (HCW3.out.stay hc5))
      have HC5 := hide (HCW3.out.stay hc5)
      clear hc5
      go_wp2_with (first | (refine wpList_storeRs (b := b6) (y := plainR 7) (u := zV) rfl _ _ rfl rfl rfl rfl HX5.out ?_; intro W7 h7 hc7))
      refine bodyPost_ret (v := .tuple #[.agg (rsc (plainR 7) zV), .nilFunc]) (results_twoRs (p := 6) (q := 7) rfl _ rfl h7) rfl ⟨?_, HR.out W5 W7 HC5.out hc7⟩
      rw [HAN.out]
      exact AnsR.plain rfl
    have HAN := hide (show answerA M x r.v = (plainR 0, none) by rw [HANM.out, if_neg (fun h => h hz)])
    subst hz
    go_upto_region 34 with (fail)
    refine wp_region_t [1, 0, 0, 1, 0, 1, 0, 1, 0, 3, 0] [none, none, none, none, none, none, none, none, none, none, none] (fun _ => True) (by kernel_rfl) (by kernel_rfl) (by kernel_rfl) ?_
    go_wp2_with (first | (refine wpG_deed (by decide) (fun K hK => ?_); go_simp; refine (HMD.out _ (Chg.refl [] wc).drew).mono ?_; rintro e W3 ⟨rfl, hc3⟩; refine hK _ _ ?_; clear hK K; have HC3 := hide ((Chg.refl [] wc).drew.stay hc3); clear hc3 c0' l4 q3 l3 q8 l8 c3 c4 qb0 lb; have HCW3 := hide (HCW.out.stay HC3.out); obtain ⟨c0', -, -, -, -, -, -, -, -, -, -, -, l4, -⟩ := KB.cells (HB4.out W3 HCW3.out); rw [← HK0.out] at c0') | (refine wpG_calc rfl (fun K hK => ?_)) | (refine wpG_skip ?_ ?_; (focus (simp [wantG]; done)); go_simp) | (refine wpG_take ?_ ?_; (focus (simp [wantG]; done))) | (refine wpG_pure (fun K hK => ?_); go_simp; refine hK _ _ ?_; clear hK K) | (refine wpG_deed (by decide) (fun K hK => ?_); go_simp) | (refine wpG_nil ?_))
    refine (HPL.out _ _).mono ?_
    rintro e W5 ⟨rfl, hc5⟩
    have HX5 := hide (HB6.out W5 (HCW3.out.stay hc5))
    have HC5 := hide (HCW3.out.stay hc5)
    clear hc5
    go_wp2_with (first | (refine wpList_storeRs (b := b6) (y := plainR 0) (u := zV) rfl _ _ rfl rfl rfl rfl HX5.out ?_; intro W7 h7 hc7))
    refine bodyPost_ret (v := .tuple #[.agg (rsc (plainR 0) zV), .nilFunc]) (results_twoRs (p := 6) (q := 7) rfl _ rfl h7) rfl ⟨?_, HR.out W5 W7 HC5.out hc7⟩
    rw [HAN.out]
    exact AnsR.plain rfl
  · have hk : x.k = 15 := by have := HK0.out; omega
    obtain ⟨mx, hmx0⟩ : ∃ z : Int, z = max x.c 1 := ⟨_, rfl⟩
    have hmx : ∀ (ts : Array TypeId) (ty : TypeId) (W : World), (Builtin.max_ ts ty #[.int .i64 x.c, .int .i64 1]).run Tryz.prog W = .ok (.int .i64 mx) W := fun ts ty W => by rw [Ar.run_max, ← hmx0]
    obtain ⟨e0, he0⟩ : ∃ z : Int, z = Ar.mdE p.rl x.g mx := ⟨_, rfl⟩
    obtain ⟨-, -, -, c3, c4, -, -, -, -, -, -, -, -, -⟩ := KB.cells (HB4.out wc HCW.out)
    obtain ⟨d, FA, qp, qo, gp', go', gp, hP, -, -⟩ := (HI.out wc HCW.out).pr x.p p HP.out
    have qb0 : wc.cell? ⟨gb x.p, 0, none⟩ = some (.pointer (some ⟨d, 0, none⟩)) := by simpa [prc] using hP.blk.cell 0
    have lb := hP.blk.lt
    have HMD := hide (fun W (h : Chg [] wc W) => Ar.md_at (hP.ar.stay h) hP.sp x.g mx)
    rw [← he0] at HMD
    have HANM := hide (show answerA M x r.v = if e0 ≠ 0 then (plainR 7, none) else (plainR 0, some { M with pr := upd M.pr x.p (some { p with ow := fun q => if inR x.g x.c q then some (x.ok, x.om) else p.ow q }) }) by rw [HAN0.out]; unfold procA; rw [if_neg (show x.k ≠ 2 by omega), if_neg (show x.k ≠ 14 by omega), if_neg (show x.k ≠ 16 by omega), if_neg (show ¬ (x.k = 3 ∨ x.k = 4 ∨ x.k = 5) by omega), if_neg (show ¬ (x.k = 8 ∨ x.k = 9) by omega), ← hmx0, ← he0]; by_cases h : e0 ≠ 0; rw [if_pos h, if_pos h]; rw [if_neg h, if_neg h, if_neg (show x.k ≠ 17 by omega), if_pos hk])
    have HRG := hide (nw_range HNW.out (by rw [has_at hk]; rfl))
    clear hP hmx0 he0 hk
    by_cases hz : e0 = 0
    case neg =>
      have HAN := hide (show answerA M x r.v = (plainR 7, none) by rw [HANM.out, if_pos hz])
      have d1 : (e0 != 0) = true := by simp [hz]
      have d2 : (e0 == 0) = false := beq_false_of_ne hz
      clear hz
      go_upto_region 34 with (fail)
      refine wp_region_t [1, 0, 0, 1, 0, 1, 0, 1, 0, 3, 0] [none, none, none, none, none, none, none, none, none, none, none] (fun _ => True) (by kernel_rfl) (by kernel_rfl) (by kernel_rfl) ?_
      go_wp2_with (first | (refine wpG_deed (by decide) (fun K hK => ?_); go_simp; refine (HMD.out _ (Chg.refl [] wc).drew).mono ?_; rintro e W3 ⟨rfl, hc3⟩; refine hK _ _ ?_; clear hK K; have HC3 := hide ((Chg.refl [] wc).drew.stay hc3); clear hc3 c0' l4 q3 l3 q8 l8 c3 c4 qb0 lb; have HCW3 := hide (HCW.out.stay HC3.out); obtain ⟨c0', -, -, -, -, -, -, -, -, -, -, -, l4, -⟩ := KB.cells (HB4.out W3 HCW3.out); rw [← HK0.out] at c0') | (refine wpG_calc rfl (fun K hK => ?_)) | (refine wpG_skip ?_ ?_; (focus (simp [wantG]; done)); go_simp) | (refine wpG_take ?_ ?_; (focus (simp [wantG]; done))) | (refine wpG_pure (fun K hK => ?_); go_simp; refine hK _ _ ?_; clear hK K) | (refine wpG_deed (by decide) (fun K hK => ?_); go_simp) | (refine wpG_nil ?_))
      refine (HPL.out _ _).mono ?_
      rintro e W5 ⟨rfl, hc5⟩
      have HX5 := hide (HB6.out W5 (HCW3.out.stay hc5))
      have HC5 := hide (HCW3.out.stay hc5)
      clear hc5
      go_wp2_with (first | (refine wpList_storeRs (b := b6) (y := plainR 7) (u := zV) rfl _ _ rfl rfl rfl rfl HX5.out ?_; intro W7 h7 hc7))
      refine bodyPost_ret (v := .tuple #[.agg (rsc (plainR 7) zV), .nilFunc]) (results_twoRs (p := 6) (q := 7) rfl _ rfl h7) rfl ⟨?_, HR.out W5 W7 HC5.out hc7⟩
      rw [HAN.out]
      exact AnsR.plain rfl
    have HAN := hide (show answerA M x r.v = (plainR 0, some { M with pr := upd M.pr x.p (some { p with ow := fun q => if inR x.g x.c q then some (x.ok, x.om) else p.ow q }) }) by rw [HANM.out, if_neg (fun h => h hz)])
    subst hz
    go_upto_region 34 with (fail)
    refine wp_region_t [1, 0, 0, 1, 0, 1, 0, 1, 0, 3, 0] [none, none, none, none, none, none, none, none, none, none, none] (fun _ => True) (by kernel_rfl) (by kernel_rfl) (by kernel_rfl) ?_
    go_wp2_with (first | (refine wpG_deed (by decide) (fun K hK => ?_); go_simp; refine (HMD.out _ (Chg.refl [] wc).drew).mono ?_; rintro e W3 ⟨rfl, hc3⟩; refine hK _ _ ?_; clear hK K; have HC3 := hide ((Chg.refl [] wc).drew.stay hc3); clear hc3 c0' l4 q3 l3 q8 l8 c3 c4 qb0 lb; have HCW3 := hide (HCW.out.stay HC3.out); obtain ⟨c0', -, -, -, -, -, -, -, -, -, -, -, l4, -⟩ := KB.cells (HB4.out W3 HCW3.out); rw [← HK0.out] at c0') | (refine wpG_calc rfl (fun K hK => ?_)) | (refine wpG_skip ?_ ?_; (focus (simp [wantG]; done)); go_simp) | (refine wpG_take ?_ ?_; (focus (simp [wantG]; done))) | (refine wpG_pure (fun K hK => ?_); go_simp; refine hK _ _ ?_; clear hK K) | (refine wpG_deed (by decide) (fun K hK => ?_); go_simp) | (refine wpG_nil ?_))
    refine (HPL.out _ _).mono ?_
    rintro e W5 ⟨rfl, hc5⟩
    have HX5 := hide (HB6.out W5 (HCW3.out.stay hc5))
    have HC5 := hide (HCW3.out.stay hc5)
    have HC58 := hide hc5
    clear hc5
    go_wp2_with (first | (refine wpList_storeRs (b := b6) (y := plainR 0) (u := zV) rfl _ _ rfl rfl rfl rfl HX5.out ?_; intro W7 h7 hc7))
    have hcW := HR.out W5 W7 HC5.out hc7
    have he := HE.out
    have hg := HG8.out
    have hs2 := HC2.out.size
    have hsz := HSZ.out
    refine bodyPost_ret (v := .tuple #[.agg (rsc (plainR 0) zV), .func (.func 71) #[] #[.pointer (some ⟨b4, 0, none⟩), .pointer (some ⟨b8, 0, none⟩)]]) (results_twoRs (p := 6) (q := 7) rfl _ rfl h7) rfl ⟨?_, hcW⟩
    rw [HAN.out]
    refine ⟨none, 0, 0, _, rfl, RE.nil _ _ _ _ _, (fun _ h => (own_nil h).elim), Eff.of (ent_of Tryz.func71 (by kernel_rfl) (by kernel_rfl)) fun F W hF hW => ?_⟩
    have m4 : KB W b4 x (.slice A0 x.l.length c0) := Blk.chg (Blk.chg (HB4.out W5 HC5.out) hc7 (by simp; omega)) hW (hF.new (by omega))
    have m8 := ((HB8.out W5 (HC3.out.stay HC58.out)).chg hc7 (by simp; omega)).chg hW (hF.new (by omega))
    refine (mbind_do (HIW.out W (hF.cp hcW hW)) HH.out.1 (fun k hk => Nat.lt_of_lt_of_le (HH.out.2 k hk) (hF.cp hcW hW).size) HP.out m4 m8 ⟨HX.out.ok, HX.out.om⟩ (by have := HRG.out; omega)).mono ?_
    rintro e W' ⟨rfl, k1, O', k2, k3⟩
    exact ⟨rfl, k1.or, O', k2, fun k hk => .inl (k3 k hk)⟩
  · have hk : x.k = 17 := by have := HK0.out; omega
    obtain ⟨mx, hmx0⟩ : ∃ z : Int, z = max x.c 1 := ⟨_, rfl⟩
    have hmx : ∀ (ts : Array TypeId) (ty : TypeId) (W : World), (Builtin.max_ ts ty #[.int .i64 x.c, .int .i64 1]).run Tryz.prog W = .ok (.int .i64 mx) W := fun ts ty W => by rw [Ar.run_max, ← hmx0]
    obtain ⟨e0, he0⟩ : ∃ z : Int, z = Ar.mdE p.rl x.g mx := ⟨_, rfl⟩
    obtain ⟨-, -, -, c3, c4, -, -, -, -, -, -, -, -, -⟩ := KB.cells (HB4.out wc HCW.out)
    obtain ⟨d, FA, qp, qo, gp', go', gp, hP, -, -⟩ := (HI.out wc HCW.out).pr x.p p HP.out
    have qb0 : wc.cell? ⟨gb x.p, 0, none⟩ = some (.pointer (some ⟨d, 0, none⟩)) := by simpa [prc] using hP.blk.cell 0
    have lb := hP.blk.lt
    have HMD := hide (fun W (h : Chg [] wc W) => Ar.md_at (hP.ar.stay h) hP.sp x.g mx)
    rw [← he0] at HMD
    have HANM := hide (show answerA M x r.v = if e0 ≠ 0 then (plainR 7, none) else (⟨0, min r.v (M.c 0).toNat, []⟩, none) by rw [HAN0.out]; unfold procA; rw [if_neg (show x.k ≠ 2 by omega), if_neg (show x.k ≠ 14 by omega), if_neg (show x.k ≠ 16 by omega), if_neg (show ¬ (x.k = 3 ∨ x.k = 4 ∨ x.k = 5) by omega), if_neg (show ¬ (x.k = 8 ∨ x.k = 9) by omega), ← hmx0, ← he0]; by_cases h : e0 ≠ 0; rw [if_pos h, if_pos h]; rw [if_neg h, if_neg h, if_pos hk])
    clear hP hmx0 he0 hk
    by_cases hz : e0 = 0
    case neg =>
      have HAN := hide (show answerA M x r.v = (plainR 7, none) by rw [HANM.out, if_pos hz])
      have d1 : (e0 != 0) = true := by simp [hz]
      have d2 : (e0 == 0) = false := beq_false_of_ne hz
      clear hz
      go_upto_region 34 with (fail)
      refine wp_region_t [1, 0, 0, 1, 0, 1, 0, 1, 0, 3, 0] [none, none, none, none, none, none, none, none, none, none, none] (fun _ => True) (by kernel_rfl) (by kernel_rfl) (by kernel_rfl) ?_
      go_wp2_with (first | (refine wpG_deed (by decide) (fun K hK => ?_); go_simp; refine (HMD.out _ (Chg.refl [] wc).drew).mono ?_; rintro e W3 ⟨rfl, hc3⟩; refine hK _ _ ?_; clear hK K; have HC3 := hide ((Chg.refl [] wc).drew.stay hc3); clear hc3 c0' l4 q3 l3 q8 l8 c3 c4 qb0 lb; have HCW3 := hide (HCW.out.stay HC3.out); obtain ⟨c0', -, -, -, -, -, -, -, -, -, -, -, l4, -⟩ := KB.cells (HB4.out W3 HCW3.out); rw [← HK0.out] at c0') | (refine wpG_calc rfl (fun K hK => ?_)) | (refine wpG_skip ?_ ?_; (focus (simp [wantG]; done)); go_simp) | (refine wpG_take ?_ ?_; (focus (simp [wantG]; done))) | (refine wpG_pure (fun K hK => ?_); go_simp; refine hK _ _ ?_; clear hK K) | (refine wpG_deed (by decide) (fun K hK => ?_); go_simp) | (refine wpG_nil ?_))
      refine (HPL.out _ _).mono ?_
      rintro e W5 ⟨rfl, hc5⟩
      have HX5 := hide (HB6.out W5 (HCW3.out.stay hc5))
      have HC5 := hide (HCW3.out.stay hc5)
      clear hc5
      go_wp2_with (first | (refine wpList_storeRs (b := b6) (y := plainR 7) (u := zV) rfl _ _ rfl rfl rfl rfl HX5.out ?_; intro W7 h7 hc7))
      refine bodyPost_ret (v := .tuple #[.agg (rsc (plainR 7) zV), .nilFunc]) (results_twoRs (p := 6) (q := 7) rfl _ rfl h7) rfl ⟨?_, HR.out W5 W7 HC5.out hc7⟩
      rw [HAN.out]
      exact AnsR.plain rfl
    have HAN := hide (show answerA M x r.v = (⟨0, min r.v (M.c 0).toNat, []⟩, none) by rw [HANM.out, if_neg (fun h => h hz)])
    subst hz
    go_upto_region 34 with (fail)
    refine wp_region_t [1, 0, 0, 1, 0, 1, 0, 1, 0, 3, 0] [none, none, none, none, none, none, none, none, none, none, none] (fun _ => True) (by kernel_rfl) (by kernel_rfl) (by kernel_rfl) ?_
    go_wp2_with (first | (refine wpG_deed (by decide) (fun K hK => ?_); go_simp; refine (HMD.out _ (Chg.refl [] wc).drew).mono ?_; rintro e W3 ⟨rfl, hc3⟩; refine hK _ _ ?_; clear hK K; have HC3 := hide ((Chg.refl [] wc).drew.stay hc3); clear hc3 c0' l4 q3 l3 q8 l8 c3 c4 qb0 lb; have HCW3 := hide (HCW.out.stay HC3.out); obtain ⟨c0', -, -, -, -, -, -, -, -, -, -, -, l4, -⟩ := KB.cells (HB4.out W3 HCW3.out); rw [← HK0.out] at c0') | (refine wpG_calc rfl (fun K hK => ?_)) | (refine wpG_skip ?_ ?_; (focus (simp [wantG]; done)); go_simp) | (refine wpG_take ?_ ?_; (focus (simp [wantG]; done))) | (refine wpG_pure (fun K hK => ?_); go_simp; refine hK _ _ ?_; clear hK K) | (refine wpG_deed (by decide) (fun K hK => ?_); go_simp) | (refine wpG_nil ?_))
    obtain ⟨cn, hcn, hcn8⟩ : ∃ n : Nat, M.c 0 = n ∧ n ≤ 1000 := by
      have h := mayB_iff.1 (nw_parts HNW.out).1
      have := h.n1
      have := h.n8
      exact ⟨(M.c 0).toNat, by omega, by omega⟩
    obtain ⟨mn, hmn0⟩ : ∃ n : Nat, n = min r.v cn := ⟨_, rfl⟩
    obtain ⟨rv, hrv⟩ : ∃ z : Int, z = (r.v : Int) := ⟨_, rfl⟩
    have hmn : ∀ (ts : Array TypeId) (ty : TypeId) (W : World), (Builtin.min_ ts ty #[.int .u64 rv, .int .u64 (cn : Int)]).run Tryz.prog W = .ok (.int .u64 (mn : Int)) W := fun ts ty W => by rw [Ar.run_min, hrv, hmn0]; congr 2; congr 1; omega
    obtain ⟨-, p1, -, l5, -⟩ := XB.cells (HB5.out W3 HCW3.out)
    rw [← hrv] at p1
    have q3 : W3.cell? ⟨b3, 0, none⟩ = some (.pointer (some ⟨m, 0, none⟩)) := by simpa using (HB3.out W3 HCW3.out).cell 0
    have l3 := (HB3.out W3 HCW3.out).lt
    obtain ⟨-, -, -, qm, qn⟩ := mo_cells (HI.out W3 HCW3.out).blk
    rw [hcn] at qn
    rw [hcn, Int.toNat_natCast, ← hmn0] at HAN
    have hwr : IntKind.u64.wrap (cn : Int) = (cn : Int) := by rw [IntKind.wrap_u64]; omega
    have HBV := hide (br_v mn)
    have HX3d := hide (HB6.out W3.drew HCW3.out.drew)
    clear hcn hcn8 hmn0 hrv
    go_upto_region 38 with (fail)
    refine wp_region_t [0, 1, 1, 0, 0, 0, 1, 0, 0, 0, 3, 0] [none, none, none, none, none, none, none, none, none, none, none, none] (fun _ => True) (by kernel_rfl) (by kernel_rfl) (by kernel_rfl) ?_
    go_wp2_with (first | (refine wpG_buildRs _ rfl HBV.out ?_ ?_; (focus (simp [Act.eval]; done))) | (refine wpG_deed (by decide) (fun K hK => ?_); refine wp_storeRs (y := ⟨0, mn, []⟩) (u := zV) _ _ rfl rfl rfl rfl HX3d.out ?_; intro W7 h7 hc7; refine hK _ _ ?_; clear hK K) | (refine wpG_calc rfl (fun K hK => ?_)) | (refine wpG_skip ?_ ?_; (focus (simp [wantG]; done)); go_simp) | (refine wpG_take ?_ ?_; (focus (simp [wantG]; done))) | (refine wpG_pure (fun K hK => ?_); go_simp; refine hK _ _ ?_; clear hK K) | (refine wpG_deed (by decide) (fun K hK => ?_); go_simp) | (refine wpG_nil ?_))
    refine bodyPost_ret (v := .tuple #[.agg (rsc ⟨0, mn, []⟩ zV), .nilFunc]) (results_twoRs (p := 6) (q := 7) rfl _ rfl h7) rfl ⟨?_, HR.out W3.drew W7 HCW3.out.drew hc7⟩
    rw [HAN.out]
    exact AnsR.plain rfl
  · have hk : x.k = 18 := by have := HK0.out; omega
    obtain ⟨mx, hmx0⟩ : ∃ z : Int, z = max x.c 1 := ⟨_, rfl⟩
    have hmx : ∀ (ts : Array TypeId) (ty : TypeId) (W : World), (Builtin.max_ ts ty #[.int .i64 x.c, .int .i64 1]).run Tryz.prog W = .ok (.int .i64 mx) W := fun ts ty W => by rw [Ar.run_max, ← hmx0]
    obtain ⟨e0, he0⟩ : ∃ z : Int, z = Ar.mdE p.rl x.g mx := ⟨_, rfl⟩
    obtain ⟨-, -, -, c3, c4, -, -, -, -, -, -, -, -, -⟩ := KB.cells (HB4.out wc HCW.out)
    obtain ⟨d, FA, qp, qo, gp', go', gp, hP, -, -⟩ := (HI.out wc HCW.out).pr x.p p HP.out
    have qb0 : wc.cell? ⟨gb x.p, 0, none⟩ = some (.pointer (some ⟨d, 0, none⟩)) := by simpa [prc] using hP.blk.cell 0
    have lb := hP.blk.lt
    have HMD := hide (fun W (h : Chg [] wc W) => Ar.md_at (hP.ar.stay h) hP.sp x.g mx)
    rw [← he0] at HMD
    have HANM := hide (show answerA M x r.v = if e0 ≠ 0 then (plainR 7, none) else (plainR 0, none) by rw [HAN0.out]; unfold procA; rw [if_neg (show x.k ≠ 2 by omega), if_neg (show x.k ≠ 14 by omega), if_neg (show x.k ≠ 16 by omega), if_neg (show ¬ (x.k = 3 ∨ x.k = 4 ∨ x.k = 5) by omega), if_neg (show ¬ (x.k = 8 ∨ x.k = 9) by omega), ← hmx0, ← he0]; by_cases h : e0 ≠ 0; rw [if_pos h, if_pos h]; rw [if_neg h, if_neg h, if_neg (show x.k ≠ 17 by omega), if_neg (show x.k ≠ 15 by omega)])
    clear hP hmx0 he0 hk
    by_cases hz : e0 = 0
    case neg =>
      have HAN := hide (show answerA M x r.v = (plainR 7, none) by rw [HANM.out, if_pos hz])
      have d1 : (e0 != 0) = true := by simp [hz]
      have d2 : (e0 == 0) = false := beq_false_of_ne hz
      clear hz
      go_upto_region 34 with (fail)
      refine wp_region_t [1, 0, 0, 1, 0, 1, 0, 1, 0, 3, 0] [none, none, none, none, none, none, none, none, none, none, none] (fun _ => True) (by kernel_rfl) (by kernel_rfl) (by kernel_rfl) ?_
      go_wp2_with (first | (refine wpG_deed (by decide) (fun K hK => ?_); go_simp; refine (HMD.out _ (Chg.refl [] wc).drew).mono ?_; rintro e W3 ⟨rfl, hc3⟩; refine hK _ _ ?_; clear hK K; have HC3 := hide ((Chg.refl [] wc).drew.stay hc3); clear hc3 c0' l4 q3 l3 q8 l8 c3 c4 qb0 lb; have HCW3 := hide (HCW.out.stay HC3.out); obtain ⟨c0', -, -, -, -, -, -, -, -, -, -, -, l4, -⟩ := KB.cells (HB4.out W3 HCW3.out); rw [← HK0.out] at c0') | (refine wpG_calc rfl (fun K hK => ?_)) | (refine wpG_skip ?_ ?_; (focus (simp [wantG]; done)); go_simp) | (refine wpG_take ?_ ?_; (focus (simp [wantG]; done))) | (refine wpG_pure (fun K hK => ?_); go_simp; refine hK _ _ ?_; clear hK K) | (refine wpG_deed (by decide) (fun K hK => ?_); go_simp) | (refine wpG_nil ?_))
      refine (HPL.out _ _).mono ?_
      rintro e W5 ⟨rfl, hc5⟩
      have HX5 := hide (HB6.out W5 (HCW3.out.stay hc5))
      have HC5 := hide (HCW3.out.stay hc5)
      clear hc5
      go_wp2_with (first | (refine wpList_storeRs (b := b6) (y := plainR 7) (u := zV) rfl _ _ rfl rfl rfl rfl HX5.out ?_; intro W7 h7 hc7))
      refine bodyPost_ret (v := .tuple #[.agg (rsc (plainR 7) zV), .nilFunc]) (results_twoRs (p := 6) (q := 7) rfl _ rfl h7) rfl ⟨?_, HR.out W5 W7 HC5.out hc7⟩
      rw [HAN.out]
      exact AnsR.plain rfl
    have HAN := hide (show answerA M x r.v = (plainR 0, none) by rw [HANM.out, if_neg (fun h => h hz)])
    subst hz
    go_upto_region 34 with (fail)
    refine wp_region_t [1, 0, 0, 1, 0, 1, 0, 1, 0, 3, 0] [none, none, none, none, none, none, none, none, none, none, none] (fun _ => True) (by kernel_rfl) (by kernel_rfl) (by kernel_rfl) ?_
    go_wp2_with (first | (refine wpG_deed (by decide) (fun K hK => ?_); go_simp; refine (HMD.out _ (Chg.refl [] wc).drew).mono ?_; rintro e W3 ⟨rfl, hc3⟩; refine hK _ _ ?_; clear hK K; have HC3 := hide ((Chg.refl [] wc).drew.stay hc3); clear hc3 c0' l4 q3 l3 q8 l8 c3 c4 qb0 lb; have HCW3 := hide (HCW.out.stay HC3.out); obtain ⟨c0', -, -, -, -, -, -, -, -, -, -, -, l4, -⟩ := KB.cells (HB4.out W3 HCW3.out); rw [← HK0.out] at c0') | (refine wpG_calc rfl (fun K hK => ?_)) | (refine wpG_skip ?_ ?_; (focus (simp [wantG]; done)); go_simp) | (refine wpG_take ?_ ?_; (focus (simp [wantG]; done))) | (refine wpG_pure (fun K hK => ?_); go_simp; refine hK _ _ ?_; clear hK K) | (refine wpG_deed (by decide) (fun K hK => ?_); go_simp) | (refine wpG_nil ?_))
    refine (HPL.out _ _).mono ?_
    rintro e W5 ⟨rfl, hc5⟩
    have HX5 := hide (HB6.out W5 (HCW3.out.stay hc5))
    have HC5 := hide (HCW3.out.stay hc5)
    clear hc5
    go_wp2_with (first | (refine wpList_storeRs (b := b6) (y := plainR 0) (u := zV) rfl _ _ rfl rfl rfl rfl HX5.out ?_; intro W7 h7 hc7))
    refine bodyPost_ret (v := .tuple #[.agg (rsc (plainR 0) zV), .nilFunc]) (results_twoRs (p := 6) (q := 7) rfl _ rfl h7) rfl ⟨?_, HR.out W5 W7 HC5.out hc7⟩
    rw [HAN.out]
    exact AnsR.plain rfl
end Go.Proofs.YtfoleblcaloeoaaGreatDoor
