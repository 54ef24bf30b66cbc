/- What a law is handed: ints, entries. -/
import Derived.Test.YtblkfikcfgocgaaTbL
import Derived.Test.YtblkfikcfgocgaaTbO
namespace Go.Proofs.Ytblkfikcfgocgaa
open Go Go.RowKit Go.ChangeShapes Go.WideShapes Go.ChangeAt Go.Deep

section
variable {H : Type} {enc : TypeId × Value → H} {w : World} {base : Nat} {spare : Nat → Bool} {held : Bool}
theorem open_ilist {fuel : Nat} {v : Value} {x : DataW H × List MemPlace} (h : DataW.trod enc Try.prog w base spare held fuel 64 [v] = some x) : ∃ l : List Int, RE icl 1 w v l ∧ (l.length : Int) ≤ 9223372036854775807 := by
  rcases open_ints Try.underlying64 Try.underlying3 cells3 h with ⟨hcs, _⟩ | ⟨a, len, cap, zs, hcs, _, hlc, hcm, hlen, _, hcell, hwf⟩
  · injection hcs with e
    subst e
    exact ⟨[], Rd.nil w 1 0 none, by simp⟩
  · injection hcs with e
    subst e
    have hzl : len ≤ zs.length := by rw [hlen]; split <;> omega
    have hl : (zs.take len).length = len := by simp; omega
    refine ⟨zs.take len, ⟨by rw [fc_length icl_len], some a, cap, by rw [hl], by rw [hl]; exact hlc, fun hpos => ?_⟩, by rw [hl]; unfold Go.maxLen at hcm; omega⟩
    rw [hl] at hpos
    obtain ⟨g, off, rfl⟩ := plain_addr (by have := hcell 0 (by omega); exact this)
    refine ⟨g, off, rfl, fun j u hu => ?_⟩
    have hj : j < len := by
      have := (List.getElem?_eq_some_iff.1 hu).1
      rw [fc_length icl_len, hl] at this
      omega
    have hg := fc_get icl_len (zs.take len) j 0 (by rw [hl]; exact hj) (by omega)
    rw [Nat.mul_one, Nat.add_zero, hu] at hg
    have hc := hcell j (by omega)
    rw [Addr.add_lit] at hc
    rw [hc, hg]
    simp [icl, List.getD, List.getElem?_eq_getElem (show j < zs.length by omega)]
theorem open_entries {fuel : Nat} {v : Value} {x : DataW H × List MemPlace} (h : DataW.trod enc Try.prog w base spare held fuel 65 [v] = some x) : ∃ l : List (Nat × Int), RE ecl 2 w v l ∧ (l.length : Int) ≤ 9223372036854775807 := by
  rcases open_slice Try.underlying65 h with ⟨hcs, _⟩ | ⟨a, len, cap, m, n, D, Pl, hcs, hb, hl, hm, hmm, hx, hi⟩
  · injection hcs with e
    subst e
    exact ⟨[], Rd.nil w 2 0 none, by simp⟩
  · injection hcs with e
    subst e
    have hml : len ≤ m := by rw [hmm]; split <;> omega
    have each : ∀ i, i < len → ∃ o : Nat × Int, True ∧ ∀ j u, (ecl o)[j]? = some u → w.cell? ((a.add (i * 2)).add j) = some u := by
      intro i hil
      obtain ⟨cs', hc, ht'⟩ := hi i (by omega)
      rw [cells59] at hc
      obtain ⟨_, hcl, hat⟩ := World.cells?_some hc
      obtain ⟨k, z, ho, hr⟩ := open_ent (by omega) ht'
      refine ⟨(k, z), trivial, fun j u hu => ?_⟩
      have hj : j < 2 := by
        have := (List.getElem?_eq_some_iff.1 hu).1
        rwa [ecl_len] at this
      have ho' : cs' = ecl (k, z) := ho
      rw [← ho'] at hu
      rw [hat j hj, ← hu, List.getElem?_eq_getElem (by omega)]
    obtain ⟨l, hl1, hp⟩ := list_of each
    refine ⟨l, ⟨by rw [fc_length ecl_len], some a, cap, by rw [hl1], by rw [hl1]; exact hl, fun hpos => ?_⟩, by rw [hl1]; unfold maxLen at hm; omega⟩
    obtain ⟨g, off, rfl⟩ := plain_addr (by have := (hp 0 hpos).2 0 _ rfl; simpa using this)
    refine ⟨g, off, rfl, fun j u hu => ?_⟩
    have hj : j < l.length * 2 := by rw [← fc_length ecl_len]; exact (List.getElem?_eq_some_iff.1 hu).1
    obtain ⟨q, r, rfl, hr⟩ : ∃ q r, j = q * 2 + r ∧ r < 2 := ⟨j / 2, j % 2, by omega, by omega⟩
    have hq : q < l.length := by omega
    rw [fc_get ecl_len l q r hq hr] at hu
    have := (hp q hq).2 r u hu
    rw [Addr.add_lit, Addr.add_lit, Nat.add_assoc] at this
    exact this
end
end Go.Proofs.Ytblkfikcfgocgaa
