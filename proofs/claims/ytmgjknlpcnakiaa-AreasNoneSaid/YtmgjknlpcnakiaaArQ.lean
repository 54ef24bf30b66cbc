import Derived.Test.YtmgjknlpcnakiaaArN
import Derived.Carry
import Derived.ProofKit
namespace Go.Proofs.Ytmgjknlpcnakiaa
open Go Go.RowKit Go.ChangeShapes Go.WideShapes Go.ChangeAt Go.Deep

theorem Try.own : ownKnob Try.prog.godebug = none := by kernel_rfl
theorem cells3 : Try.prog.cellsOf 3 = 1 := by kernel_rfl
theorem cells5 : Try.prog.cellsOf 5 = 1 := by kernel_rfl
theorem cells28 : Try.prog.cellsOf 28 = 4 := by kernel_rfl
theorem open_aop {H : Type} {enc : TypeId × Value → H} {w : World} {base : Nat} {spare : Nat → Bool} {held : Bool} {fuel : Nat} {cs : List Value} {x : DataW H × List MemPlace} (hc : cs.length = 4)
    (h : DataW.trod enc Try.prog w base spare held fuel 28 cs = some x) : ∃ o : AO, cs = ao o := by
  obtain ⟨n', hf⟩ := trod_parts Try.underlying28 h
  match cs, hc with
  | [u0, u1, u2, u3], _ =>
    obtain ⟨y0, f0⟩ := trod_part hf 0 rfl 3 0 1 rfl rfl cells3
    obtain ⟨y1, f1⟩ := trod_part hf 1 rfl 3 1 1 rfl rfl cells3
    obtain ⟨y2, f2⟩ := trod_part hf 2 rfl 3 2 1 rfl rfl cells3
    obtain ⟨y3, f3⟩ := trod_part hf 3 rfl 5 3 1 rfl rfl cells5
    obtain ⟨n0, e0, _⟩ := DataW.trod_int Try.underlying3 f0
    obtain ⟨n1, e1, _⟩ := DataW.trod_int Try.underlying3 f1
    obtain ⟨n2, e2, _⟩ := DataW.trod_int Try.underlying3 f2
    obtain ⟨n3, e3, _⟩ := DataW.trod_int Try.underlying5 f3
    injection e0 with e0 _
    injection e1 with e1 _
    injection e2 with e2 _
    injection e3 with e3 _
    subst e0; subst e1; subst e2; subst e3
    exact ⟨⟨n0, n1, n2, n3⟩, rfl⟩
theorem open_aops {H : Type} {enc : TypeId × Value → H} {w : World} {base : Nat} {spare : Nat → Bool} {held : Bool} {fuel : Nat} {v : Value} {x : DataW H × List MemPlace}
    (h : DataW.trod enc Try.prog w base spare held fuel 22 [v] = some x) : ∃ l : List AO, RA w v l := by
  rcases open_slice Try.underlying22 h with ⟨hcs, _⟩ | ⟨a, len, cap, m, n, D, Pl, hcs, _, hlc, hcm, hm, _, hi⟩
  · injection hcs with e
    subst e
    exact ⟨[], RE.nil _ _ _ _ _⟩
  · injection hcs with e
    subst e
    have hml : len ≤ m := by rw [hm]; split <;> omega
    have each : ∀ i, i < len → ∃ o : AO, ∀ j, j < 4 → ∃ u, (ao o)[j]? = some u ∧ w.cell? (a.add (i * 4 + j)) = some u := by
      intro i hil
      obtain ⟨cs', hc, ht⟩ := hi i (by omega)
      rw [cells28] at hc
      obtain ⟨_, hcl, hat⟩ := World.cells?_some hc
      obtain ⟨o, rfl⟩ := open_aop hcl ht
      refine ⟨o, fun j hj => ?_⟩
      have h1 := hat j hj
      rw [Go.Deep.add_add, List.getElem?_eq_getElem (by rw [hcl]; exact hj)] at h1
      exact ⟨_, List.getElem?_eq_getElem (by rw [hcl]; exact hj), h1⟩
    obtain ⟨l, hl, hp⟩ := list_of each
    refine ⟨l, ?_⟩
    by_cases hpos : 0 < l.length
    · obtain ⟨u0, _, hu0⟩ := hp 0 hpos 0 (by omega)
      obtain ⟨g, off, rfl⟩ := plain_addr (w := w) (a := a) (v := u0) (by simpa using hu0)
      refine ⟨by rw [fc_length ao_len], some ⟨g, off, none⟩, cap, by rw [hl], by omega, fun _ => ⟨g, off, rfl, fun j u hu => ?_⟩⟩
      have hj : j < l.length * 4 := by
        have := (List.getElem?_eq_some_iff.1 hu).1
        rwa [fc_length ao_len] at this
      obtain ⟨k, i, rfl, hi4⟩ : ∃ k i, j = k * 4 + i ∧ i < 4 := ⟨j / 4, j % 4, by omega, by omega⟩
      have hk : k < l.length := by omega
      rw [fc_get ao_len _ _ _ hk hi4] at hu
      obtain ⟨u', hu', hc⟩ := hp k hk i hi4
      rw [hu'] at hu
      injection hu with hu
      subst hu
      rw [Addr.add_lit] at hc
      exact hc
    · have h0 : l = [] := List.eq_nil_of_length_eq_zero (by omega)
      subst h0
      simp only [List.length_nil] at hl
      subst hl
      exact RE.nil _ _ _ _ _
end Go.Proofs.Ytmgjknlpcnakiaa
