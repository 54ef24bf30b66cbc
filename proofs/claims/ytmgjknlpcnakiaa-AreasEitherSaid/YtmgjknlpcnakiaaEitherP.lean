/- AreasEither: for every input the law returns true. -/
import Derived.Test.YtmgjknlpcnakiaaArT
import Derived.Test.YtmgjknlpcnakiaaArQ
namespace Go.Proofs.Ytmgjknlpcnakiaa
open Go Go.RowKit Go.ChangeShapes Go.WideShapes Go.ChangeAt Go.Deep

theorem open_ao {H : Type} {enc : TypeId × Value → H} {w : World} {base : Nat} {spare : Nat → Bool} {held : Bool} {cs : Array Value} {d : DataW H} {ps : List MemPlace} (hc : cs.size = 4)
    (h : DataW.Trod enc Try.prog w base spare held 28 (.agg cs) d ps) : ∃ o : AO, Value.agg cs = .agg #[.int .i64 o.k, .int .i64 o.p, .int .i64 o.c, .int .u8 o.g] := by
  obtain ⟨fuel, hf⟩ := h
  obtain ⟨o, ho⟩ := open_aop (cs := cs.toList) (by simpa using hc) hf
  refine ⟨o, ?_⟩
  obtain ⟨l⟩ := cs
  simp only at ho
  subst ho
  rfl
set_option maxRecDepth 100000 in
theorem either_lifted (os : Os) (started : os.Started) (H : Type) (enc : TypeId × Value → H) :
    ReturnsInHanded {} Try.checked os 5 .any (Rows.areasEitherSpec.pre6 enc Try.prog Try.f5 Rows.areasEitherRow.domain false) (Rows.areasEitherSpec.post enc Try.prog Try.f5 false true false false) := by
  refine returnsInHanded_of_change (C := Try.checked) Try.own started (by kernel_rfl) Try.func5
    (ChangeSpec.witness6 (enc := enc) (C := Try.checked) false ⟨#[], #[.slice none 0 0, .agg #[.int .i64 0, .int .i64 0, .int .i64 0, .int .u8 0], .agg #[.int .i64 0, .int .i64 0, .int .i64 0, .int .u8 0]], []⟩ 8 (by kernel_rfl) (by kernel_rfl) (by kernel_rfl) (by kernel_rfl)) ?_
  intro W base args ds gs before hval0 hW hcnd _
  have hval : ∀ (j : Nat) t v, Try.f5.params[j]? = some t → args[j]? = some v → Value.okWide Try.prog W .any base t v := hval0
  have hW' := hW
  obtain ⟨p, q, hA0, hV, rfl, hfz, hnd⟩ := hW
  have hA : DataW.TrodAll enc Try.prog W 0 (fun _ => true) true Try.f5.params.toList args.toList ds p := hA0
  rw [Try.params5] at hA hval
  obtain ⟨v0, v1, v2, d0, d1, d2, p0, p1, p2, rfl, rfl, rfl, h0, h1, h2⟩ := trodAll_three hA
  obtain ⟨rfl, rfl⟩ := trodVars_none hV
  obtain ⟨cs1, rfl, hcs1⟩ := okWide_struct Try.underlying28 (hval 1 28 v1 rfl rfl)
  rw [cells28] at hcs1
  obtain ⟨oa, ea⟩ := open_ao hcs1 h1
  obtain ⟨cs2, rfl, hcs2⟩ := okWide_struct Try.underlying28 (hval 2 28 v2 rfl rfl)
  rw [cells28] at hcs2
  obtain ⟨ob, eb⟩ := open_ao hcs2 h2
  obtain ⟨a0, len, cap, rfl⟩ := okWide_slice Try.underlying22 (hval 0 22 v0 rfl rfl)
  obtain ⟨fuel, hf⟩ := h0
  obtain ⟨l, hl⟩ := open_aops (v := .slice a0 len cap) hf
  clear hA0 hval0
  have hm := either_any hl oa ob
  rw [← ea, ← eb] at hm
  refine hm.mono fun e W' ⟨he, hc⟩ => ?_
  subst he
  exact ⟨_, rfl, law_end ⟨rfl, rfl, rfl⟩ rfl rfl Try.underlying4 (by kernel_rfl) (by kernel_rfl) hW' (hc.below (by simp) (Nat.le_refl _))⟩

theorem areasEither_holds : Rows.AreasEitherSaid :=
  OpenClaim.holds_of_wide 5 Try.f5 rfl rfl rfl rfl rfl rfl rfl ⟨rfl, rfl, rfl, rfl, rfl⟩ rfl rfl rfl rfl rfl (by kernel_rfl) Try.func5 (by kernel_rfl)
    (of_decide_eq_true (by kernel_rfl)) (by unfold Func.isWrapper; rw [if_neg (of_decide_eq_false (by kernel_rfl))]; exact ⟨rfl, rfl⟩)
    (fun os started H enc _ => either_lifted os started H enc)
#print axioms areasEither_holds
end Go.Proofs.Ytmgjknlpcnakiaa
