/- MagazineNone: for every input the law returns true. -/
import Derived.Test.YtbmdcfeiecmlpaaMagI
import Derived.Test.YtbmdcfeiecmlpaaTurnsP
namespace Go.Proofs.Ytbmdcfeiecmlpaa
open Go Go.RowKit Go.ChangeShapes Go.WideShapes Go.ChangeAt Go.Deep

theorem open_ob {H : Type} {enc : TypeId × Value → H} {w : World} {base : Nat} {spare : Nat → Bool} {held : Bool} {cs : Array Value} {d : DataW H} {p : List MemPlace}
    (hs : cs.size = 2) (h : DataW.Trod enc Try.prog w base spare held 28 (.agg cs) d p) : ∃ x y, cs = #[.int .i64 x, .int .i64 y] := by
  obtain ⟨fuel, hf⟩ := h
  obtain ⟨cs⟩ := cs
  match cs, hs with
  | [u0, u1], _ =>
    obtain ⟨n2, hg⟩ := trod_parts Try.underlying28 hf
    obtain ⟨z0, g0⟩ := trod_part hg 0 rfl 3 0 1 rfl rfl cells3
    obtain ⟨z1, g1⟩ := trod_part hg 1 rfl 3 1 1 rfl rfl cells3
    obtain ⟨m0, d0, _⟩ := DataW.trod_int Try.underlying3 g0
    obtain ⟨m1, d1, _⟩ := DataW.trod_int Try.underlying3 g1
    injection d0 with d0 _
    injection d1 with d1 _
    subst d0; subst d1
    exact ⟨m0, m1, rfl⟩

set_option maxRecDepth 100000 in
theorem none_lifted (os : Os) (started : os.Started) (H : Type) (enc : TypeId × Value → H) :
    ReturnsInHanded {} Try.checked os 8 .any (Rows.magazineNoneSpec.pre6 enc Try.prog Try.f8 Rows.magazineNoneRow.domain false) (Rows.magazineNoneSpec.post enc Try.prog Try.f8 false true false false) := by
  refine returnsInHanded_of_change (C := Try.checked) Try.own started (by kernel_rfl) Try.func8
    (ChangeSpec.witness6 (enc := enc) (C := Try.checked) false ⟨#[], #[.agg #[.int .i64 0, .int .i64 0]], []⟩ 8 (by kernel_rfl) (by kernel_rfl) (by kernel_rfl) (by kernel_rfl)) ?_
  intro W base args ds gs before hval0 hW hcnd _
  have hval : ∀ (j : Nat) t v, Try.f8.params[j]? = some t → args[j]? = some v → Value.okWide Try.prog W .any base t v := hval0
  have hW' := hW
  obtain ⟨p, q, hA0, hV, rfl, hfz, hnd⟩ := hW
  have hA : DataW.TrodAll enc Try.prog W 0 (fun _ => true) true Try.f8.params.toList args.toList ds p := hA0
  rw [Try.params8] at hA hval
  obtain ⟨v0, d0, rfl, rfl, h0⟩ := trodAll_one hA
  obtain ⟨rfl, rfl⟩ := trodVars_none hV
  obtain ⟨cs, rfl, hcs⟩ := okWide_struct Try.underlying28 (hval 0 28 v0 rfl rfl)
  rw [cells28] at hcs
  obtain ⟨x, y, rfl⟩ := open_ob hcs h0
  clear hA0 hval0
  refine (none_any x y W).mono fun e W' ⟨he, hc⟩ => ?_
  subst he
  exact ⟨_, rfl, law_end ⟨rfl, rfl, rfl⟩ rfl rfl Try.underlying4 (by kernel_rfl) (by kernel_rfl) hW' (hc.below (by simp) (Nat.le_refl _))⟩

theorem magazineNone_holds : Rows.MagazineNoneSaid :=
  OpenClaim.holds_of_wide 8 Try.f8 rfl rfl rfl rfl rfl rfl rfl ⟨rfl, rfl, rfl, rfl, rfl⟩ rfl rfl rfl rfl rfl (by kernel_rfl) Try.func8 (by kernel_rfl)
    (of_decide_eq_true (by kernel_rfl)) (by unfold Func.isWrapper; rw [if_neg (of_decide_eq_false (by kernel_rfl))]; exact ⟨rfl, rfl⟩)
    (fun os started H enc _ => none_lifted os started H enc)
#print axioms magazineNone_holds
end Go.Proofs.Ytbmdcfeiecmlpaa
