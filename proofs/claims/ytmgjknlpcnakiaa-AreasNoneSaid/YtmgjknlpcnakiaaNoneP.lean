/- AreasNone: for every input the law returns true. -/
import Derived.Test.YtmgjknlpcnakiaaRfH
import Derived.Test.YtmgjknlpcnakiaaArQ
namespace Go.Proofs.Ytmgjknlpcnakiaa
open Go Go.RowKit Go.ChangeShapes Go.WideShapes Go.ChangeAt Go.Deep

theorem trodAll_single {H : Type} {enc : TypeId × Value → H} {P : Program} {w : World} {base : Nat} {spare : Nat → Bool} {held : Bool} {t0 : TypeId} {args : Array Value} {ds : List (DataW H)} {ps : List MemPlace} (h : DataW.TrodAll enc P w base spare held [t0] args.toList ds ps) :
    ∃ v0 d0 p0, args = #[v0] ∧ ds = [d0] ∧ ps = p0 ∧ DataW.Trod enc P w base spare held t0 v0 d0 p0 := by
  obtain ⟨v0, vs0, d0, ds0, p0, q0, hargs, rfl, rfl, h0, k0⟩ := trodAll_cons h
  obtain ⟨rfl, rfl, rfl⟩ := trodAll_nil k0
  exact ⟨v0, d0, p0, by cases args; simp_all, rfl, by simp, h0⟩
set_option maxRecDepth 100000 in
theorem none_lifted (os : Os) (started : os.Started) (H : Type) (enc : TypeId × Value → H) :
    ReturnsInHanded {} Try.checked os 8 .any (Rows.areasNoneSpec.pre6 enc Try.prog Try.f8 Rows.areasNoneRow.domain false) (Rows.areasNoneSpec.post enc Try.prog Try.f8 false true false false) := by
  refine returnsInHanded_of_change (C := Try.checked) Try.own started (by kernel_rfl) Try.func8
    (ChangeSpec.witness6 (enc := enc) (C := Try.checked) false ⟨#[], #[.agg #[.int .i64 0, .int .i64 0, .int .i64 0, .int .u8 0]], []⟩ 8 (by kernel_rfl) (by kernel_rfl) (by kernel_rfl) (by kernel_rfl)) ?_
  intro W base args ds gs before hval0 hW hcnd _
  have hval : ∀ (j : Nat) t v, Try.f8.params[j]? = some t → args[j]? = some v → Value.okWide Try.prog W .any base t v := hval0
  have hW' := hW
  obtain ⟨p, q, hA0, hV, rfl, hfz, hnd⟩ := hW
  have hA : DataW.TrodAll enc Try.prog W 0 (fun _ => true) true Try.f8.params.toList args.toList ds p := hA0
  rw [Try.params8] at hA hval
  obtain ⟨v0, d0, p0, rfl, rfl, rfl, h0⟩ := trodAll_single hA
  obtain ⟨rfl, rfl⟩ := trodVars_none hV
  obtain ⟨cs, rfl, hcs⟩ := okWide_struct Try.underlying28 (hval 0 28 v0 rfl rfl)
  rw [cells28] at hcs
  obtain ⟨fuel, hf⟩ := h0
  obtain ⟨⟨ok, op, oc, og⟩, ho⟩ := open_aop (by simpa [Value.cells] using hcs) hf
  have ecs : cs = #[.int .i64 ok, .int .i64 op, .int .i64 oc, .int .u8 og] := by
    have : cs.toList = [.int .i64 ok, .int .i64 op, .int .i64 oc, .int .u8 og] := by simpa [Value.cells, ao] using ho
    exact Array.toList_inj.1 this
  subst ecs
  clear hA0 hval0
  refine (none_any W ok op oc og).mono fun e W' ⟨he, hc⟩ => ?_
  subst he
  exact ⟨_, rfl, law_end ⟨rfl, rfl, rfl⟩ rfl rfl Try.underlying4 (by kernel_rfl) (by kernel_rfl) hW' (hc.below (by simp) (Nat.le_refl _))⟩

theorem areasNone_holds : Rows.AreasNoneSaid :=
  OpenClaim.holds_of_wide 8 Try.f8 rfl rfl rfl rfl rfl rfl rfl ⟨rfl, rfl, rfl, rfl, rfl⟩ rfl rfl rfl rfl rfl (by kernel_rfl) Try.func8 (by kernel_rfl)
    (of_decide_eq_true (by kernel_rfl)) (by unfold Func.isWrapper; rw [if_neg (of_decide_eq_false (by kernel_rfl))]; exact ⟨rfl, rfl⟩)
    (fun os started H enc _ => none_lifted os started H enc)
#print axioms areasNone_holds
end Go.Proofs.Ytmgjknlpcnakiaa
