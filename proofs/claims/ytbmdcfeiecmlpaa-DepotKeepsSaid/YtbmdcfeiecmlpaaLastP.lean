/- MagazineLast: for every input the law returns true. -/
import Derived.Test.YtbmdcfeiecmlpaaMagG
import Derived.Test.YtbmdcfeiecmlpaaOpen
namespace Go.Proofs.Ytbmdcfeiecmlpaa
open Go Go.RowKit Go.ChangeShapes Go.WideShapes Go.ChangeAt Go.Deep

theorem Try.own : ownKnob Try.prog.godebug = none := by kernel_rfl

theorem cells28 : Try.prog.cellsOf 28 = 2 := by kernel_rfl
theorem open_obs {H : Type} {enc : TypeId × Value → H} {w : World} {base : Nat} {spare : Nat → Bool} {held : Bool} {fuel : Nat} {v : Value} {x : DataW H × List MemPlace}
    (h : DataW.trod enc Try.prog w base spare held fuel 22 [v] = some x) : ∃ l : List Ob, RO w v l := by
  rcases open_slice_fields Try.underlying22 Try.underlying28 (by kernel_rfl) cells28 h with ⟨hcs, _⟩ | ⟨a, len, cap, m, D, Pl, hcs, _, hlc, hcm, hm, _, hi⟩
  · injection hcs with e
    subst e
    exact ⟨[], Rd.nil w 2 0 none⟩
  · injection hcs with e
    subst e
    have hml : len ≤ m := by rw [hm]; split <;> omega
    have each : ∀ i, i < len → ∃ o : Ob, w.cell? (a.add (i * 2)) = some (.int .i64 o.1) ∧ w.cell? (a.add (i * 2 + 1)) = some (.int .i64 o.2) := by
      intro i hil
      obtain ⟨ys, n, _, _, _, hf⟩ := hi i (by omega)
      obtain ⟨v0, y0, c0, _, t0⟩ := hf 0 _ rfl
      obtain ⟨v1, y1, c1, _, t1⟩ := hf 1 _ rfl
      obtain ⟨n0, e0, _⟩ := DataW.trod_int Try.underlying3 t0
      obtain ⟨n1, e1, _⟩ := DataW.trod_int Try.underlying3 t1
      injection e0 with e0 _
      injection e1 with e1 _
      subst e0; subst e1
      exact ⟨(n0, n1), c0, c1⟩
    obtain ⟨l, hl, hp⟩ := list_of each
    refine ⟨l, ?_⟩
    unfold RO
    rw [hl]
    refine ⟨by rw [oc_length, hl], some a, cap, rfl, hlc, fun hpos => ?_⟩
    obtain ⟨g, off, rfl⟩ := plain_addr (by have := (hp 0 (by omega)).1; simpa using this)
    refine ⟨g, off, rfl, fun j u hu => ?_⟩
    have hj : j < l.length * 2 := by rw [← oc_length]; exact (List.getElem?_eq_some_iff.1 hu).1
    obtain ⟨q, rfl | rfl⟩ : ∃ q, j = q * 2 ∨ j = q * 2 + 1 := ⟨j / 2, by omega⟩
    · have hk : q < l.length := by omega
      rw [oc_get0 l _ hk] at hu
      cases hu
      have := (hp q hk).1
      rw [Addr.add_lit] at this
      exact this
    · have hk : q < l.length := by omega
      rw [oc_get1 l _ hk] at hu
      cases hu
      have := (hp q hk).2
      rw [Addr.add_lit] at this
      exact this

set_option maxRecDepth 100000 in
theorem last_lifted (os : Os) (started : os.Started) (H : Type) (enc : TypeId × Value → H) :
    ReturnsInHanded {} Try.checked os 5 .any (Rows.magazineLastSpec.pre6 enc Try.prog Try.f5 Rows.magazineLastRow.domain false) (Rows.magazineLastSpec.post enc Try.prog Try.f5 false true false false) := by
  refine returnsInHanded_of_change (C := Try.checked) Try.own started (by kernel_rfl) Try.func5
    (ChangeSpec.witness6 (enc := enc) (C := Try.checked) false ⟨#[], #[.int .i64 0, .slice none 0 0], []⟩ 8 (by kernel_rfl) (by kernel_rfl) (by kernel_rfl) (by kernel_rfl)) ?_
  intro W base args ds gs before hval0 hW hcnd _
  have hval : ∀ (j : Nat) t v, Try.f5.params[j]? = some t → args[j]? = some v → Value.okWide Try.prog W .any base t v := hval0
  have hW' := hW
  obtain ⟨p, q, hA0, hV, rfl, hfz, hnd⟩ := hW
  have hA : DataW.TrodAll enc Try.prog W 0 (fun _ => true) true Try.f5.params.toList args.toList ds p := hA0
  rw [Try.params5] at hA hval
  obtain ⟨v0, v1, d0, d1, p0, p1, rfl, rfl, rfl, h0, h1⟩ := trodAll_two hA
  obtain ⟨rfl, rfl⟩ := trodVars_none hV
  obtain ⟨x, rfl, rfl, rfl, wx⟩ := open_int Try.underlying3 (hval 0 3 v0 rfl rfl) h0
  obtain ⟨a0, len, cap, rfl⟩ := okWide_slice Try.underlying22 (hval 1 22 v1 rfl rfl)
  obtain ⟨fuel, hf⟩ := h1
  obtain ⟨l, hl⟩ := open_obs (v := .slice a0 len cap) hf
  clear hA0 hval0
  refine (last_any x hl).mono fun e W' ⟨he, hc⟩ => ?_
  subst he
  exact ⟨_, rfl, law_end ⟨rfl, rfl, rfl⟩ rfl rfl Try.underlying4 (by kernel_rfl) (by kernel_rfl) hW' (hc.below (by simp) (Nat.le_refl _))⟩

theorem magazineLast_holds : Rows.MagazineLastSaid :=
  OpenClaim.holds_of_wide 5 Try.f5 rfl rfl rfl rfl rfl rfl rfl ⟨rfl, rfl, rfl, rfl, rfl⟩ rfl rfl rfl rfl rfl (by kernel_rfl) Try.func5 (by kernel_rfl)
    (of_decide_eq_true (by kernel_rfl)) (by unfold Func.isWrapper; rw [if_neg (of_decide_eq_false (by kernel_rfl))]; exact ⟨rfl, rfl⟩)
    (fun os started H enc _ => last_lifted os started H enc)
#print axioms magazineLast_holds
end Go.Proofs.Ytbmdcfeiecmlpaa
