import Derived.Test.YtbmdcfeiecmlpaaRefC
namespace Go.Proofs.Ytbmdcfeiecmlpaa
open Go Go.RowKit

theorem neq_ob (w : World) (a b c d : Int) : (binOp .neq 28 (.agg #[.int .i64 a, .int .i64 b]) (.agg #[.int .i64 c, .int .i64 d])).run Try.prog w = .ok (.bool (!(a == c && b == d))) w := by
  have hf : ((Try.prog.fieldsOf 28).toList.map fun f => (f.type, f.offset, f.name)) = [(3, 0, "Frame"), (3, 1, "Index")] := by kernel_rfl
  rw [run_neq_struct, run_equalIn_agg _ _ _ _ _ (by kernel_rfl) (by kernel_rfl)]
  generalize (Try.prog.fieldsOf 28).toList = fs at hf ⊢
  have hq : ∀ (a b : Int) (w : World), (Op.equalIn 9999 3 (.int .i64 a) (.int .i64 b)).run Try.prog w = .ok (a == b) w := fun a b w => run_equalIn_int w 9998 3 .i64 .i64 a b Try.underlying3
  rcases fs with _ | ⟨f1, _ | ⟨f2, _ | ⟨f3, t⟩⟩⟩
  · simp at hf
  · simp at hf
  · simp only [List.map_cons, List.map_nil, List.cons.injEq, Prod.mk.injEq, and_true] at hf
    obtain ⟨⟨h1, h2, h3⟩, h4, h5, h6⟩ := hf
    cases hac : (a == c) <;> cases hbd : (b == d) <;> simp [Op.eqFields, h1, h2, h3, h4, h5, h6, part, isAgg, run_underlying Try.underlying3, hq, hac, hbd]
  · simp at hf
theorem wpG_neq_ob {S : World → Prop} {Q : Exit → Act → World → Prop} {o : Oper} {rest : List Oper} {ks : List Nat} {gs : List (Option (Nat × Bool))} {A : Act} {w : World} (x y : Operand) (t : TypeId) (ho : o.op = .binOp .neq 28 x y t) {a b c d : Int}
    (hx : A.eval x = .agg #[.int .i64 a, .int .i64 b]) (hy : A.eval y = .agg #[.int .i64 c, .int .i64 d]) (r : Bool) (hr : (!(a == c && b == d)) = r) (h : wpG Try.prog S Q rest ks gs (A.put o.dst (.bool r)) w) :
    wpG Try.prog S Q (o :: rest) (0 :: ks) (none :: gs) A w := by
  refine wpG_pure (fun K hK => ⟨_, fun w' => ?_, hK _ _ h⟩)
  unfold execOp
  simp only [ho, hx, hy, Sem.run_bind, run_eqGuard_agg w' .neq 28 x y _ _ (show Try.prog.eqGuardType Try.prog.depth 28 = false by kernel_rfl), Result.andThen_ok, neq_ob, Sem.run_pure, hr]

set_option maxHeartbeats 2000000 in
theorem same_len {w : World} {u v : Value} {l m : List Ob} (hu : RO w u l) (hv : RO w v m) (hne : l.length ≠ m.length) : Calls Try.prog 18 #[u, v] w fun e w' => e = .returned (.bool false) ∧ w = w' := by
  obtain ⟨A, c, rfl⟩ := hu.form
  obtain ⟨B, d, rfl⟩ := hv.form
  have d0 : ((l.length : Int) == (m.length : Int)) = false := beq_eq_false_iff_ne.2 (by omega)
  have d1 : (l.length == m.length) = false := beq_eq_false_iff_ne.2 hne
  clear hne
  go_enter Try.func18, Try.ntmps18
  go_wp2_with (first | fail | (refine wpT_calc0 rfl rfl (fun K hK => ?_)) | (refine wpT_skipG rfl ?_ ?_; focus (simp [yielded]; done); go_simp) | (refine wpT_calcG rfl rfl ?_ (fun K hK => ?_); focus (simp [yielded]; done)) | (refine wpT_pure (fun K hK => ?_); go_simp; refine hK _ _ ?_; clear hK K) | (refine wpT_plain (by decide) rfl (fun K hK => ?_)) | (refine wpT_deed (by decide) (fun K hK => ?_); go_simp) | (refine wpT_nil ?_))
  go_ret
  exact ⟨rfl, rfl⟩

set_option maxHeartbeats 400000 in
theorem same_any {w : World} {u v : Value} {l m : List Ob} (hu : RO w u l) (hv : RO w v m) (hlen : m.length = l.length) (hle : l.length ≤ 1000000) : Calls Try.prog 18 #[u, v] w fun e w' => e = .returned (.bool (decide (l = m))) ∧ Chg [] w w' := by
  obtain ⟨A, c, rfl⟩ := hu.form
  obtain ⟨B, d, rfl⟩ := hv.form
  have HL := hide hlen
  rw [hlen]
  clear hlen
  have d0 : ((l.length : Int) == (l.length : Int)) = true := by simp
  go_enter Try.func18, Try.ntmps18
  go_wp2_with (first | fail | (refine wpT_calc0 rfl rfl (fun K hK => ?_)) | (refine wpT_skipG rfl ?_ ?_; focus (simp [yielded]; done); go_simp) | (refine wpT_calcG rfl rfl ?_ (fun K hK => ?_); focus (simp [yielded]; done)) | (refine wpT_pure (fun K hK => ?_); go_simp; refine hK _ _ ?_; clear hK K) | (refine wpT_plain (by decide) rfl (fun K hK => ?_)) | (refine wpT_deed (by decide) (fun K hK => ?_); go_simp) | (refine wpT_nil ?_))
  go_loopw [5] (fun i wr => ∃ k : Nat, k ≤ l.length ∧ i = .int .i64 k ∧ Hid (l.take k = m.take k) ∧ Chg [] w wr) (fun i _ => l.length - (intOf i).toNat)
  case atStart => exact ⟨0, Nat.zero_le _, rfl, rfl, Chg.refl _ _⟩
  case round =>
    obtain ⟨k, hk, rfl, HT, hc⟩ := hrel
    by_cases hlt : k < l.length
    · have hlt2 : k < m.length := by rw [HL.out]; exact hlt
      obtain ⟨g, off, c', hA, _, q1, q2⟩ := (show RO _ _ _ from Rd.chg hu hc (by simp)).at_ hlt
      injection hA with hA1 _ hA2
      subst hA1; subst hA2
      obtain ⟨g', off', d', hB, _, q3, q4⟩ := (show RO _ _ _ from Rd.chg hv hc (by simp)).at_ hlt2
      injection hB with hB1 _ hB2
      subst hB1; subst hB2
      by_cases he : l[k] = m[k]
      · have HE := hide he
        have hr : (!(l[k].1 == m[k].1 && l[k].2 == m[k].2)) = false := by rw [he]; simp
        clear he
        go_wp2_with (first | fail | (refine wpT_calc0 rfl rfl (fun K hK => ?_)) | (refine wpT_skipG rfl ?_ ?_; focus (simp [yielded]; done); go_simp) | (refine wpT_calcG rfl rfl ?_ (fun K hK => ?_); focus (simp [yielded]; done)) | (refine wpT_pure (fun K hK => ?_); go_simp; refine hK _ _ ?_; clear hK K) | (refine wpT_plain (by decide) rfl (fun K hK => ?_)) | (refine wpT_deed (by decide) (fun K hK => ?_); go_simp) | (refine wpT_nil ?_))
        refine wp_region_t [0, 0, 0, 1, 0, 0, 0, 1, 0] [none, none, none, none, none, none, none, none, none] (fun _ => True) (by kernel_rfl) (by kernel_rfl) (by kernel_rfl) ?_
        go_wp2_with (first | (refine wpG_neq_ob _ _ _ rfl rfl rfl false hr ?_; go_simp) | (refine wpG_calc rfl (fun K hK => ?_)) | (refine wpG_skip ?_ ?_; (focus (simp [wantG]; done)); go_simp) | (refine wpG_take ?_ ?_; (focus (simp [wantG]; done))) | (refine wpG_pure (fun K hK => ?_); go_simp; refine hK _ _ ?_; clear hK K) | (refine wpG_deed (by decide) (fun K hK => ?_); go_simp) | (refine wpG_nil ?_))
        go_roundw
        case rel =>
          refine ⟨k + 1, by omega, by go_num, ?_, hc.drew⟩
          show l.take (k + 1) = m.take (k + 1)
          rw [List.take_succ_eq_append_getElem hlt, List.take_succ_eq_append_getElem hlt2, HT.out, HE.out]
        case measure => simp [intOf]; omega
      · have HE := hide he
        have hr : (!(l[k].1 == m[k].1 && l[k].2 == m[k].2)) = true := by
          rw [Bool.not_eq_true', Bool.and_eq_false_iff]
          by_cases h1 : l[k].1 = m[k].1
          · exact .inr (beq_eq_false_iff_ne.2 (fun h2 => he (Prod.ext h1 h2)))
          · exact .inl (beq_eq_false_iff_ne.2 h1)
        clear he
        go_wp2_with (first | fail | (refine wpT_calc0 rfl rfl (fun K hK => ?_)) | (refine wpT_skipG rfl ?_ ?_; focus (simp [yielded]; done); go_simp) | (refine wpT_calcG rfl rfl ?_ (fun K hK => ?_); focus (simp [yielded]; done)) | (refine wpT_pure (fun K hK => ?_); go_simp; refine hK _ _ ?_; clear hK K) | (refine wpT_plain (by decide) rfl (fun K hK => ?_)) | (refine wpT_deed (by decide) (fun K hK => ?_); go_simp) | (refine wpT_nil ?_))
        refine wp_region_t [0, 0, 0, 1, 0, 0, 0, 1, 0] [none, none, none, none, none, none, none, none, none] (fun _ => True) (by kernel_rfl) (by kernel_rfl) (by kernel_rfl) ?_
        go_wp2_with (first | (refine wpG_neq_ob _ _ _ rfl rfl rfl true hr ?_; go_simp) | (refine wpG_calc rfl (fun K hK => ?_)) | (refine wpG_skip ?_ ?_; (focus (simp [wantG]; done)); go_simp) | (refine wpG_take ?_ ?_; (focus (simp [wantG]; done))) | (refine wpG_pure (fun K hK => ?_); go_simp; refine hK _ _ ?_; clear hK K) | (refine wpG_deed (by decide) (fun K hK => ?_); go_simp) | (refine wpG_nil ?_))
        go_ret
        exact ⟨by simp; intro h; subst h; exact HE.out rfl, hc.drew⟩
    · have hkl : k = l.length := by omega
      have Hk := hide hkl
      clear hkl
      go_wp2_with (first | fail | (refine wpT_calc0 rfl rfl (fun K hK => ?_)) | (refine wpT_skipG rfl ?_ ?_; focus (simp [yielded]; done); go_simp) | (refine wpT_calcG rfl rfl ?_ (fun K hK => ?_); focus (simp [yielded]; done)) | (refine wpT_pure (fun K hK => ?_); go_simp; refine hK _ _ ?_; clear hK K) | (refine wpT_plain (by decide) rfl (fun K hK => ?_)) | (refine wpT_deed (by decide) (fun K hK => ?_); go_simp) | (refine wpT_nil ?_))
      go_ret
      have e : l = m := by
        have := HT.out
        rw [Hk.out, List.take_length, ← HL.out, List.take_length] at this
        exact this
      exact ⟨by simp [e], hc⟩

theorem rsame_any {w : World} {u v : Value} {l m : List Ob} (hu : RO w u l) (hv : RO w v m) (hle : l.length ≤ 1000000) : Calls Try.prog 18 #[u, v] w fun e w' => e = .returned (.bool (decide (l = m))) ∧ Chg [] w w' := by
  by_cases h : m.length = l.length
  · exact same_any hu hv h hle
  · refine (same_len hu hv (fun e => h e.symm)).mono ?_
    rintro e w' ⟨rfl, rfl⟩
    have : l ≠ m := fun e => h (by rw [e])
    exact ⟨by simp [this], Chg.refl _ _⟩
end Go.Proofs.Ytbmdcfeiecmlpaa
