/- SetMark, Mark, Copy. -/
import Derived.Test.YtblkfikcfgocgaaFrL
namespace Go.Proofs.Ytblkfikcfgocgaa
open Go Go.RowKit

def smE (n : Nat) (f : Int) (m : Mk) : Int := if frE n f ≠ 0 then 7 else if mayM m = true then 0 else 2
theorem frE_cases (n : Nat) (f : Int) : (frE n f = 0 ∧ 0 ≤ f ∧ f < n) ∨ (frE n f = 7 ∧ ¬ (0 ≤ f ∧ f < n)) := by
  unfold frE
  by_cases h : 0 ≤ f ∧ f < n
  · rw [if_pos h]; exact .inl ⟨rfl, h⟩
  · rw [if_neg h]; exact .inr ⟨rfl, h⟩
theorem wp_store43 {o : Oper} {a : Act} {w w' : World} {K : Act → World → Prop} {Q : Exit → Act → World → Prop} (x y : Operand) (ho : o.op = .store 43 x y) {p : Addr} {v : Value} (hx : a.eval x = .pointer (some p)) (hy : a.eval y = v)
    (hst : (storeVar 43 p v).run Try.prog w = .ok () w') (h : K (a.put o.dst undef) w') : o.wp Try.prog a w K Q := by
  unfold Oper.wp execOp
  simp only [ho, hx, hy, Instr.storeAt, Instr.sureAddr, Sem.run_bind, Sem.run_pure, Result.andThen_ok, hst]
  exact h
set_option maxRecDepth 20000 in
set_option maxHeartbeats 4000000 in
theorem SetMark_any {w : World} {a gb gm : Nat} {c : Cf} {n : Nat} {B : List Nat} {M : List Mk} (h : FM w a gb gm c n B M) (f : Int) (m : Mk) (hm : m.role < 256) :
    Calls Try.prog 17 #[.pointer (some ⟨a, 0, none⟩), .int .i64 f, mval m] w fun e w' => e = .returned (.int .i64 (smE n f m)) ∧ FM w' a gb gm c n B (if smE n f m = 0 then M.set f.toNat m else M) ∧ Chg [gm] w w' := by
  have HMAY := hide (mayM_any m hm)
  have ho := (Chg.refl [] w).alloc (.cells #[.int .u8 m.role, .int .i64 m.ord, .int .i64 m.owr, .int .i64 m.page, .int .i64 m.idx] 43)
  have hF := h.stay ho
  have HA := hide (asked_any hF f)
  have HF := hide hF
  have HC := hide (ho.up [gm])
  rcases frE_cases n f with ⟨hfe, f0, f1⟩ | ⟨hfe, hno⟩
  · obtain ⟨f, rfl⟩ : ∃ f' : Nat, f = f' := ⟨f.toNat, by omega⟩
    have hfn : f < n := by omega
    rw [hfe] at HA
    unfold smE
    rw [hfe, if_neg (by simp), Int.toNat_natCast]
    obtain ⟨r, hr⟩ : ∃ r, mayM m = r := ⟨_, rfl⟩
    rw [hr] at HMAY ⊢
    have hn := HF.out.n2
    unfold mval at HMAY ⊢
    cases r with
    | false =>
      simp only [Bool.false_eq_true, if_false]
      clear hfe f0 f1 hr h ho hF
      obtain ⟨ro, m1, m2, m3, m4⟩ := m
      simp only at HMAY HA HF HC ⊢
      go_enter Try.func17, Try.ntmps17
      go_wp2_with fail
      refine HA.out.mono ?_
      rintro e w' ⟨rfl, rfl⟩
      go_wp2_with fail
      refine (HMAY.out _).mono ?_
      rintro e W3 ⟨rfl, hc3⟩
      have HF3 := hide (HF.out.stay hc3)
      have HC3 := hide (HC.out.stay hc3)
      clear hc3
      go_wp2_with fail
      go_ret
      exact ⟨rfl, HF3.out, HC3.out⟩
    | true =>
      simp only [if_true]
      clear hfe f0 f1 hr h ho hF
      have hst : ∀ W (hF : FM W a gb gm c n B M), ∃ w', (storeVar 43 ⟨gm, f * 5, none⟩ (mval m)).run Try.prog W = .ok () w' ∧ FM w' a gb gm c n B (M.set f m) ∧ Chg [gm] W w' := fun W hF => hF.mark hfn m
      unfold mval at hst
      have HST := hide hst
      clear hst
      obtain ⟨ro, m1, m2, m3, m4⟩ := m
      simp only at HMAY HA HF HC HST ⊢
      go_enter Try.func17, Try.ntmps17
      go_wp2_with fail
      refine HA.out.mono ?_
      rintro e w' ⟨rfl, rfl⟩
      go_wp2_with fail
      refine (HMAY.out _).mono ?_
      rintro e W3 ⟨rfl, hc3⟩
      have HF3 := hide (HF.out.stay hc3)
      have HC3 := hide (HC.out.stay hc3)
      have hb3 := (Blk.new w 43 #[.int .u8 ro, .int .i64 m1, .int .i64 m2, .int .i64 m3, .int .i64 m4]).chg hc3 List.not_mem_nil
      have k0 := hb3.cell 0
      have k1 := hb3.cell 1
      have k2 := hb3.cell 2
      have k3 := hb3.cell 3
      have k4 := hb3.cell 4
      simp at k0 k1 k2 k3 k4
      have hwl : w.heap.size < W3.heap.size := hb3.lt
      obtain ⟨cm, hcm, qm, _⟩ := HF3.out.cm
      have hal := HF3.out.lt.1
      obtain ⟨w4, h4, hf4, hc4⟩ := HST.out W3.drew (show FM W3.drew a gb gm c n B M from HF3.out.stay (Chg.refl _ _).drew)
      have H4 := hide h4
      have HF4 := hide hf4
      have HC4 := hide ((HC3.out.drew).trans hc4 (fun x hx => .inl hx))
      have f0 : (0 : Int) ≤ (f : Int) := by omega
      have f1 : (f : Int) < (n : Int) := by omega
      clear hc3 hb3 h4 hf4 hc4 HST
      go_wp2_with fail
      refine wp_region_t [0, 0, 0, 1, 0, 1, 0, 3] [none, none, none, none, none, none, none, none] (fun _ => True) (by kernel_rfl) (by kernel_rfl) (by kernel_rfl) ?_
      go_wp2_with (first | (refine wpG_deed (by decide) (fun K hK => ?_); refine wp_store43 _ _ rfl rfl rfl H4.out ?_; refine hK _ _ ?_; clear hK K) | (refine wpG_calc rfl (fun K hK => ?_)) | (refine wpG_skip ?_ ?_; (focus (simp [wantG]; done)); go_simp) | (refine wpG_take ?_ ?_; (focus (simp [wantG]; done))) | (refine wpG_pure (fun K hK => ?_); go_simp; refine hK _ _ ?_; clear hK K) | (refine wpG_deed (by decide) (fun K hK => ?_); go_simp) | (refine wpG_nil ?_))
      go_ret
      exact ⟨rfl, HF4.out, HC4.out⟩
  · rw [hfe] at HA
    unfold smE
    rw [hfe, if_pos (by simp), if_neg (by omega)]
    clear hfe hno h ho hF
    unfold mval
    obtain ⟨ro, m1, m2, m3, m4⟩ := m
    simp only at HA HF HC ⊢
    go_enter Try.func17, Try.ntmps17
    go_wp2_with fail
    refine HA.out.mono ?_
    rintro e w' ⟨rfl, rfl⟩
    go_wp2_with fail
    go_ret
    exact ⟨rfl, HF.out, HC.out⟩
end Go.Proofs.Ytblkfikcfgocgaa
