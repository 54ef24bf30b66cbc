/- A config that a law is handed. -/
import Derived.Test.YtinlpjgjjplceaaDoorCfD
import Derived.Carry
import Derived.ProofKit
import Derived.OpenShut
namespace Go.Proofs.YtinlpjgjjplceaaDoor
open Go Go.RowKit Go.ChangeShapes Go.WideShapes Go.ChangeAt Go.Deep

theorem Tryd.own : ownKnob Tryd.prog.godebug = none := by kernel_rfl
section
variable {H : Type} {enc : TypeId × Value → H} {w : World} {base : Nat} {spare : Nat → Bool} {held : Bool}
theorem one_of {L : List Value} {i : Nat} {v : Value} (h : (L.drop i).take 1 = [v]) : L[i]? = some v := by
  have : ((L.drop i).take 1)[0]? = some v := by rw [h]; rfl
  rw [List.getElem?_take_of_lt (by omega), List.getElem?_drop] at this
  simpa using this
theorem one_int {fuel : Nat} {L : List Value} {i : Nat} {x : DataW H × List MemPlace} (h : DataW.trod enc Tryd.prog w base spare held fuel 3 ((L.drop i).take 1) = some x) : ∃ z, L[i]? = some (.int .i64 z) := by
  obtain ⟨z, e, _⟩ := DataW.trod_int Tryd.underlying3 h
  exact ⟨z, one_of e⟩
theorem arr_int {fuel t n : Nat} {L : List Value} {x : DataW H × List MemPlace} (hu : Tryd.prog.underlying t = some (.array n 3)) (h : DataW.trod enc Tryd.prog w base spare held fuel t L = some x) : ∀ i, i < n → ∃ z, L[i]? = some (.int .i64 z) := by
  obtain ⟨xs, m, _, _, _, hl, hel⟩ := DataW.trod_array hu h
  intro i hi
  have h1 := hel i hi
  rw [cells3, Nat.mul_one, List.getElem?_eq_getElem (by rw [hl]; exact hi)] at h1
  exact one_int h1
theorem sub_at {L : List Value} {o n i : Nat} {v : Value} (h : ((L.drop o).take n)[i]? = some v) : L[o + i]? = some v := by
  have hi : i < n := by
    have := (List.getElem?_eq_some_iff.1 h).1
    rw [List.length_take] at this
    omega
  rw [List.getElem?_take_of_lt hi, List.getElem?_drop] at h
  exact h
theorem cells22 : Tryd.prog.cellsOf 22 = 16 := by kernel_rfl
theorem cells24 : Tryd.prog.cellsOf 24 = 64 := by kernel_rfl
theorem cells26 : Tryd.prog.cellsOf 26 = 94 := by kernel_rfl
theorem open_cfg {cs : Array Value} {d : DataW H} {p : List MemPlace} (hs : cs.size = 94) (h : DataW.Trod enc Tryd.prog w base spare held 26 (.agg cs) d p) : ∃ c : Cf, cs = cg c := by
  obtain ⟨fuel, hf⟩ := h
  have hcs : (Value.agg cs).cells.toList = cs.toList := rfl
  rw [hcs] at hf
  obtain ⟨n, hp⟩ := trod_parts Tryd.underlying26 hf
  have each : ∀ i, i < 94 → ∃ z, cs.toList[i]? = some (.int .i64 z) := by
    intro i hi
    by_cases i0 : i = 0
    · subst i0
      obtain ⟨y, hy⟩ := trod_part hp 0 rfl 3 0 1 rfl rfl cells3
      exact one_int hy
    by_cases i1 : i = 1
    · subst i1
      obtain ⟨y, hy⟩ := trod_part hp 1 rfl 3 1 1 rfl rfl cells3
      exact one_int hy
    by_cases i2 : i < 18
    · obtain ⟨y, hy⟩ := trod_part hp 2 rfl 22 2 16 rfl rfl cells22
      obtain ⟨z, hz⟩ := arr_int Tryd.underlying22 hy (i - 2) (by omega)
      have := sub_at hz
      rw [show 2 + (i - 2) = i by omega] at this
      exact ⟨z, this⟩
    by_cases i3 : i < 26
    · obtain ⟨y, hy⟩ := trod_part hp 3 rfl 23 18 8 rfl rfl cells23
      obtain ⟨z, hz⟩ := arr_int Tryd.underlying23 hy (i - 18) (by omega)
      have := sub_at hz
      rw [show 18 + (i - 18) = i by omega] at this
      exact ⟨z, this⟩
    by_cases i4 : i < 90
    · obtain ⟨y, hy⟩ := trod_part hp 4 rfl 24 26 64 rfl rfl cells24
      obtain ⟨xs, m, _, _, _, hl, hel⟩ := DataW.trod_array Tryd.underlying24 hy
      have h1 := hel ((i - 26) / 8) (by omega)
      rw [cells23, List.getElem?_eq_getElem (by rw [hl]; omega)] at h1
      obtain ⟨z, hz⟩ := arr_int Tryd.underlying23 h1 ((i - 26) % 8) (by omega)
      have := sub_at (sub_at hz)
      rw [show 26 + ((i - 26) / 8 * 8 + (i - 26) % 8) = i by omega] at this
      exact ⟨z, this⟩
    rcases (by omega : i = 90 ∨ i = 91 ∨ i = 92 ∨ i = 93) with rfl | rfl | rfl | rfl
    · obtain ⟨y, hy⟩ := trod_part hp 5 rfl 3 90 1 rfl rfl cells3
      exact one_int hy
    · obtain ⟨y, hy⟩ := trod_part hp 6 rfl 3 91 1 rfl rfl cells3
      exact one_int hy
    · obtain ⟨y, hy⟩ := trod_part hp 7 rfl 3 92 1 rfl rfl cells3
      exact one_int hy
    · obtain ⟨y, hy⟩ := trod_part hp 8 rfl 3 93 1 rfl rfl cells3
      exact one_int hy
  classical
  refine ⟨fun i => if h : i < 94 then (each i h).choose else 0, cg_of hs fun i hi => ?_⟩
  simp only [dif_pos hi]
  exact (Array.getElem?_toList (xs := cs)).symm.trans (each i hi).choose_spec
end
theorem trodAll_single {H : Type} {enc : TypeId × Value → H} {P : Program} {w : World} {base : Nat} {spare : Nat → Bool} {held : Bool} {t0 : TypeId} {args : Array Value} {ds : List (DataW H)} {ps : List MemPlace} (h : DataW.TrodAll enc P w base spare held [t0] args.toList ds ps) :
    ∃ v0 d0 p0, args = #[v0] ∧ ds = [d0] ∧ ps = p0 ∧ DataW.Trod enc P w base spare held t0 v0 d0 p0 := by
  obtain ⟨v0, vs0, d0, ds0, p0, q0, hargs, rfl, rfl, h0, k0⟩ := trodAll_cons h
  obtain ⟨rfl, rfl, rfl⟩ := trodAll_nil k0
  exact ⟨v0, d0, p0, by cases args; simp_all, rfl, by simp, h0⟩
theorem trodAll_two {H : Type} {enc : TypeId × Value → H} {P : Program} {w : World} {base : Nat} {spare : Nat → Bool} {held : Bool} {t0 t1 : TypeId} {args : Array Value} {ds : List (DataW H)} {ps : List MemPlace} (h : DataW.TrodAll enc P w base spare held [t0, t1] args.toList ds ps) :
    ∃ v0 v1 d0 d1 p0 p1, args = #[v0, v1] ∧ ds = [d0, d1] ∧ ps = p0 ++ p1 ∧ DataW.Trod enc P w base spare held t0 v0 d0 p0 ∧ DataW.Trod enc P w base spare held t1 v1 d1 p1 := by
  obtain ⟨v0, vs0, d0, ds0, p0, q0, hargs, rfl, rfl, h0, k0⟩ := trodAll_cons h
  obtain ⟨v1, vs1, d1, ds1, p1, q1, rfl, rfl, rfl, h1, k1⟩ := trodAll_cons k0
  obtain ⟨rfl, rfl, rfl⟩ := trodAll_nil k1
  exact ⟨v0, v1, d0, d1, p0, p1, by cases args; simp_all, rfl, by simp, h0, h1⟩
theorem trodAll_three {H : Type} {enc : TypeId × Value → H} {P : Program} {w : World} {base : Nat} {spare : Nat → Bool} {held : Bool} {t0 t1 t2 : TypeId} {args : Array Value} {ds : List (DataW H)} {ps : List MemPlace} (h : DataW.TrodAll enc P w base spare held [t0, t1, t2] args.toList ds ps) :
    ∃ v0 v1 v2 d0 d1 d2 p0 p1 p2, args = #[v0, v1, v2] ∧ ds = [d0, d1, d2] ∧ ps = p0 ++ p1 ++ p2 ∧ DataW.Trod enc P w base spare held t0 v0 d0 p0 ∧ DataW.Trod enc P w base spare held t1 v1 d1 p1 ∧ DataW.Trod enc P w base spare held t2 v2 d2 p2 := by
  obtain ⟨v0, vs0, d0, ds0, p0, q0, hargs, rfl, rfl, h0, k0⟩ := trodAll_cons h
  obtain ⟨v1, vs1, d1, ds1, p1, q1, rfl, rfl, rfl, h1, k1⟩ := trodAll_cons k0
  obtain ⟨v2, vs2, d2, ds2, p2, q2, rfl, rfl, rfl, h2, k2⟩ := trodAll_cons k1
  obtain ⟨rfl, rfl, rfl⟩ := trodAll_nil k2
  exact ⟨v0, v1, v2, d0, d1, d2, p0, p1, p2, by cases args; simp_all, rfl, by simp, h0, h1, h2⟩
end Go.Proofs.YtinlpjgjjplceaaDoor
