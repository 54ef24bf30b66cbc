/- What a law is handed: a script of calls. -/
import Derived.Test.YtblkfikcfgocgaaFrN
import Derived.Test.YtblkfikcfgocgaaFrO
namespace Go.Proofs.Ytblkfikcfgocgaa
open Go Go.RowKit Go.ChangeShapes Go.WideShapes Go.ChangeAt Go.Deep

theorem cells41 : Try.prog.cellsOf 41 = 1 := by kernel_rfl
theorem cells43 : Try.prog.cellsOf 43 = 5 := by kernel_rfl
theorem cells27 : Try.prog.cellsOf 27 = 1 := by kernel_rfl
theorem cells44 : Try.prog.cellsOf 44 = 1 := by kernel_rfl
theorem cells46 : Try.prog.cellsOf 46 = 11 := by kernel_rfl
section
variable {H : Type} {enc : TypeId × Value → H} {w : World} {base : Nat} {spare : Nat → Bool} {held : Bool}
theorem one_u8 {fuel : Nat} {t : TypeId} (ht : Try.prog.underlying t = some (.int .u8)) {L : List Value} {i : Nat} {x : DataW H × List MemPlace} (h : DataW.trod enc Try.prog w base spare held fuel t ((L.drop i).take 1) = some x) : ∃ z : Nat, L[i]? = some (.int .u8 z) ∧ z < 256 := by
  obtain ⟨z, e, _, hw⟩ := DataW.trod_int ht h
  have := bounds_u8 hw
  exact ⟨z.toNat, by rw [one_of e, Int.toNat_of_nonneg this.1], by omega⟩
theorem one_u64 {fuel : Nat} {L : List Value} {i : Nat} {x : DataW H × List MemPlace} (h : DataW.trod enc Try.prog w base spare held fuel 44 ((L.drop i).take 1) = some x) : ∃ z : Int, L[i]? = some (.int .u64 z) := by
  obtain ⟨z, e, _, hw⟩ := DataW.trod_int Try.underlying44 h
  exact ⟨z, one_of e⟩
theorem open_op {fuel : Nat} {cs : List Value} {x : DataW H × List MemPlace} (hs : cs.length = 11) (h : DataW.trod enc Try.prog w base spare held fuel 46 cs = some x) : ∃ o : OpS, cs = opc o ∧ o.m.role < 256 := by
  obtain ⟨n, hp⟩ := trod_parts Try.underlying46 h
  obtain ⟨y0, hy0⟩ := trod_part hp 0 rfl 3 0 1 rfl rfl cells3
  obtain ⟨y1, hy1⟩ := trod_part hp 1 rfl 3 1 1 rfl rfl cells3
  obtain ⟨y2, hy2⟩ := trod_part hp 2 rfl 3 2 1 rfl rfl cells3
  obtain ⟨y3, hy3⟩ := trod_part hp 3 rfl 3 3 1 rfl rfl cells3
  obtain ⟨y5, hy5⟩ := trod_part hp 5 rfl 43 5 5 rfl rfl cells43
  obtain ⟨y6, hy6⟩ := trod_part hp 6 rfl 44 10 1 rfl rfl cells44
  obtain ⟨z0, h0⟩ := one_int hy0
  obtain ⟨z1, h1⟩ := one_int hy1
  obtain ⟨z2, h2⟩ := one_int hy2
  obtain ⟨z3, h3⟩ := one_int hy3
  obtain ⟨z6, h6⟩ := one_u64 hy6
  obtain ⟨n', hp'⟩ := trod_parts Try.underlying43 hy5
  obtain ⟨x0, hx0⟩ := trod_part hp' 0 rfl 41 0 1 rfl rfl cells41
  obtain ⟨x1, hx1⟩ := trod_part hp' 1 rfl 3 1 1 rfl rfl cells3
  obtain ⟨x2, hx2⟩ := trod_part hp' 2 rfl 3 2 1 rfl rfl cells3
  obtain ⟨x3, hx3⟩ := trod_part hp' 3 rfl 3 3 1 rfl rfl cells3
  obtain ⟨x4, hx4⟩ := trod_part hp' 4 rfl 3 4 1 rfl rfl cells3
  obtain ⟨r0, e0, hr⟩ := one_u8 Try.underlying41 hx0
  obtain ⟨r1, e1⟩ := one_int hx1
  obtain ⟨r2, e2⟩ := one_int hx2
  obtain ⟨r3, e3⟩ := one_int hx3
  obtain ⟨r4, e4⟩ := one_int hx4
  refine ⟨⟨z0, z1, z2, z3, cs[4]'(by omega), ⟨r0, r1, r2, r3, r4⟩, z6⟩, ?_, hr⟩
  refine List.ext_getElem? fun i => ?_
  match i with
  | 0 => exact h0
  | 1 => exact h1
  | 2 => exact h2
  | 3 => exact h3
  | 4 => exact List.getElem?_eq_getElem (by omega)
  | 5 => exact sub_at e0
  | 6 => exact sub_at e1
  | 7 => exact sub_at e2
  | 8 => exact sub_at e3
  | 9 => exact sub_at e4
  | 10 => exact h6
  | i + 11 => rw [List.getElem?_eq_none (by omega)]; rfl
theorem open_ops {fuel : Nat} {v : Value} {x : DataW H × List MemPlace} (h : DataW.trod enc Try.prog w base spare held fuel 39 [v] = some x) : ∃ l : List OpS, RE opc 11 w v l ∧ (∀ o ∈ l, o.m.role < 256) ∧ (l.length : Int) ≤ 9223372036854775807 := by
  rcases open_slice Try.underlying39 h with ⟨hcs, _⟩ | ⟨a, len, cap, m, n, D, Pl, hcs, hb, hl, hm, hmm, hx, hi⟩
  · injection hcs with e
    subst e
    exact ⟨[], Rd.nil w 11 0 none, by simp, by simp⟩
  · injection hcs with e
    subst e
    have hml : len ≤ m := by rw [hmm]; split <;> omega
    have each : ∀ i, i < len → ∃ o : OpS, o.m.role < 256 ∧ ∀ j u, (opc o)[j]? = some u → w.cell? ((a.add (i * 11)).add j) = some u := by
      intro i hil
      obtain ⟨cs', hc, ht'⟩ := hi i (by omega)
      rw [cells46] at hc
      obtain ⟨_, hcl, hat⟩ := World.cells?_some hc
      obtain ⟨o, ho, hr⟩ := open_op (by omega) ht'
      refine ⟨o, hr, fun j u hu => ?_⟩
      have hj : j < 11 := by
        have := (List.getElem?_eq_some_iff.1 hu).1
        rwa [opc_len] at this
      rw [hat j hj, ← ho] at *
      rw [← hu, List.getElem?_eq_getElem (by omega)]
    obtain ⟨l, hl1, hp⟩ := list_of each
    refine ⟨l, ⟨by rw [fc_length opc_len], some a, cap, by rw [hl1], by rw [hl1]; exact hl, fun hpos => ?_⟩, fun o ho => ?_, by rw [hl1]; unfold maxLen at hm; omega⟩
    · obtain ⟨g, off, rfl⟩ := plain_addr (by have := (hp 0 hpos).2 0 _ rfl; simpa using this)
      refine ⟨g, off, rfl, fun j u hu => ?_⟩
      have hj : j < l.length * 11 := by rw [← fc_length opc_len]; exact (List.getElem?_eq_some_iff.1 hu).1
      obtain ⟨q, r, rfl, hr⟩ : ∃ q r, j = q * 11 + r ∧ r < 11 := ⟨j / 11, j % 11, by omega, by omega⟩
      have hq : q < l.length := by omega
      rw [fc_get opc_len l q r hq hr] at hu
      have := (hp q hq).2 r u hu
      rw [Addr.add_lit, Addr.add_lit, Nat.add_assoc] at this
      exact this
    · obtain ⟨i, hi, rfl⟩ := List.getElem_of_mem ho
      exact (hp i hi).1
end
end Go.Proofs.Ytblkfikcfgocgaa
