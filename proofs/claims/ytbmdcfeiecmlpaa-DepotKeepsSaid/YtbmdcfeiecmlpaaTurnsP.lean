/- MagazineTurns: for every input the law returns true. -/
import Derived.Test.YtbmdcfeiecmlpaaMagH
import Derived.Test.YtbmdcfeiecmlpaaLastP
namespace Go.Proofs.Ytbmdcfeiecmlpaa
open Go Go.RowKit Go.ChangeShapes Go.WideShapes Go.ChangeAt Go.Deep

theorem cells3 : Try.prog.cellsOf 3 = 1 := by kernel_rfl
theorem cells22 : Try.prog.cellsOf 22 = 1 := by kernel_rfl
theorem cells42 : Try.prog.cellsOf 42 = 4 := by kernel_rfl
theorem open_ops {H : Type} {enc : TypeId × Value → H} {w : World} {base : Nat} {spare : Nat → Bool} {held : Bool} {fuel : Nat} {v : Value} {x : DataW H × List MemPlace}
    (h : DataW.trod enc Try.prog w base spare held fuel 38 [v] = some x) : ∃ l : List AOp, ROps w v l := by
  rcases open_slice Try.underlying38 h with ⟨hcs, _⟩ | ⟨a, len, cap, m, n, D, Pl, hcs, _, hlc, hcm, hm, _, hi⟩
  · injection hcs with e
    subst e
    exact ⟨[], none, 0, rfl, fun h => by cases h⟩
  · injection hcs with e
    subst e
    have hml : len ≤ m := by rw [hm]; split <;> omega
    have each : ∀ i, i < len → ∃ o : AOp, w.cell? (a.add (i * 4)) = some (.int .i64 o.k) ∧ w.cell? (a.add (i * 4 + 1)) = some (.int .i64 o.o.1) ∧ w.cell? (a.add (i * 4 + 2)) = some (.int .i64 o.o.2) ∧ w.cell? (a.add (i * 4 + 3)) = some o.v ∧ RO w o.v o.l := by
      intro i hil
      obtain ⟨cs', hc, ht⟩ := hi i (by omega)
      rw [cells42] at hc
      obtain ⟨n', hf⟩ := trod_parts Try.underlying42 ht
      obtain ⟨_, hcl, hat⟩ := World.cells?_some hc
      match cs', hcl with
      | [u0, u1, u2, u3], _ =>
        obtain ⟨y0, f0⟩ := trod_part hf 0 rfl 3 0 1 rfl rfl cells3
        obtain ⟨y1, f1⟩ := trod_part hf 1 rfl 28 1 2 rfl rfl cells28
        obtain ⟨y2, f2⟩ := trod_part hf 2 rfl 22 3 1 rfl rfl cells22
        obtain ⟨n2, hg⟩ := trod_parts Try.underlying28 f1
        obtain ⟨z0, g0⟩ := trod_part hg 0 rfl 3 0 1 rfl rfl cells3
        obtain ⟨z1, g1⟩ := trod_part hg 1 rfl 3 1 1 rfl rfl cells3
        obtain ⟨n0, e0, _⟩ := DataW.trod_int Try.underlying3 f0
        obtain ⟨m0, d0, _⟩ := DataW.trod_int Try.underlying3 g0
        obtain ⟨m1, d1, _⟩ := DataW.trod_int Try.underlying3 g1
        obtain ⟨l, hl⟩ := open_obs (v := u3) f2
        injection e0 with e0 _
        injection d0 with d0 _
        injection d1 with d1 _
        subst e0; subst d0; subst d1
        have h0 := hat 0 (by omega)
        have h1 := hat 1 (by omega)
        have h2 := hat 2 (by omega)
        have h3 := hat 3 (by omega)
        rw [Go.Deep.add_add] at h0 h1 h2 h3
        exact ⟨⟨n0, (m0, m1), u3, l⟩, h0, h1, h2, h3, hl⟩
    obtain ⟨l, hl, hp⟩ := list_of each
    refine ⟨l, some a, cap, by rw [hl], fun hpos => ?_⟩
    obtain ⟨g, off, rfl⟩ := plain_addr (by have := (hp 0 hpos).1; simpa using this)
    refine ⟨g, off, rfl, fun i hi => ?_⟩
    obtain ⟨h0, h1, h2, h3, h4⟩ := hp i hi
    rw [Addr.add_lit] at h0 h1 h2 h3
    exact ⟨h0, h1, h2, h3, h4⟩

set_option maxRecDepth 100000 in
theorem turns_lifted (os : Os) (started : os.Started) (H : Type) (enc : TypeId × Value → H) :
    ReturnsInHanded {} Try.checked os 4 .any (Rows.magazineTurnsSpec.pre6 enc Try.prog Try.f4 Rows.magazineTurnsRow.domain false) (Rows.magazineTurnsSpec.post enc Try.prog Try.f4 false true false false) := by
  refine returnsInHanded_of_change (C := Try.checked) Try.own started (by kernel_rfl) Try.func4
    (ChangeSpec.witness6 (enc := enc) (C := Try.checked) false ⟨#[], #[.int .i64 0, .slice none 0 0, .int .i64 0], []⟩ 8 (by kernel_rfl) (by kernel_rfl) (by kernel_rfl) (by kernel_rfl)) ?_
  intro W base args ds gs before hval0 hW hcnd _
  have hval : ∀ (j : Nat) t v, Try.f4.params[j]? = some t → args[j]? = some v → Value.okWide Try.prog W .any base t v := hval0
  have hW' := hW
  obtain ⟨p, q, hA0, hV, rfl, hfz, hnd⟩ := hW
  have hA : DataW.TrodAll enc Try.prog W 0 (fun _ => true) true Try.f4.params.toList args.toList ds p := hA0
  rw [Try.params4] at hA hval
  obtain ⟨v0, v1, v2, d0, d1, d2, p0, p1, p2, rfl, rfl, rfl, h0, h1, h2⟩ := trodAll_three hA
  obtain ⟨rfl, rfl⟩ := trodVars_none hV
  obtain ⟨x, rfl, rfl, rfl, wx⟩ := open_int Try.underlying3 (hval 0 3 v0 rfl rfl) h0
  obtain ⟨n, rfl, rfl, rfl, wn⟩ := open_int Try.underlying3 (hval 2 3 v2 rfl rfl) h2
  obtain ⟨a0, len, cap, rfl⟩ := okWide_slice Try.underlying38 (hval 1 38 v1 rfl rfl)
  obtain ⟨fuel, hf⟩ := h1
  obtain ⟨l, hl⟩ := open_ops (v := .slice a0 len cap) hf
  clear hA0 hval0
  refine (turns_any x n hl).mono fun e W' ⟨he, hc⟩ => ?_
  subst he
  exact ⟨_, rfl, law_end ⟨rfl, rfl, rfl⟩ rfl rfl Try.underlying4 (by kernel_rfl) (by kernel_rfl) hW' (hc.below (by simp) (Nat.le_refl _))⟩

theorem magazineTurns_holds : Rows.MagazineTurnsSaid :=
  OpenClaim.holds_of_wide 4 Try.f4 rfl rfl rfl rfl rfl rfl rfl ⟨rfl, rfl, rfl, rfl, rfl⟩ rfl rfl rfl rfl rfl (by kernel_rfl) Try.func4 (by kernel_rfl)
    (of_decide_eq_true (by kernel_rfl)) (by unfold Func.isWrapper; rw [if_neg (of_decide_eq_false (by kernel_rfl))]; exact ⟨rfl, rfl⟩)
    (fun os started H enc _ => turns_lifted os started H enc)
#print axioms magazineTurns_holds
end Go.Proofs.Ytbmdcfeiecmlpaa
