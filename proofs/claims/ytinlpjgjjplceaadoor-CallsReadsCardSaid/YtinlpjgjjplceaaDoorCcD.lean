/- What a law is handed: bytes, a call, a result; the listed variable. -/
import Derived.Test.YtinlpjgjjplceaaDoorCaB
import Derived.Test.YtinlpjgjjplceaaDoorCcA
import Derived.Test.YtinlpjgjjplceaaDoorCfO
import Derived.Test.YtinlpjgjjplceaaDoorTie
import Derived.LaidMore
import Derived.Lay
import Derived.MakeChecks
namespace Go.Proofs.YtinlpjgjjplceaaDoor
open Go Go.RowKit Go.ChangeShapes Go.WideShapes Go.ChangeAt Go.Deep

theorem cells5 : Tryd.prog.cellsOf 5 = 1 := by kernel_rfl
theorem cells9 : Tryd.prog.cellsOf 9 = 1 := by kernel_rfl
theorem cells27 : Tryd.prog.cellsOf 27 = 1 := by kernel_rfl
theorem cells28 : Tryd.prog.cellsOf 28 = 1 := by kernel_rfl
theorem cells30 : Tryd.prog.cellsOf 30 = 2 := by kernel_rfl
theorem cells31 : Tryd.prog.cellsOf 31 = 1 := by kernel_rfl
theorem cells32 : Tryd.prog.cellsOf 32 = 1 := by kernel_rfl
theorem cells34 : Tryd.prog.cellsOf 34 = 12 := by kernel_rfl
theorem cells39 : Tryd.prog.cellsOf 39 = 1 := by kernel_rfl
theorem cells48 : Tryd.prog.cellsOf 48 = 3 := by kernel_rfl
section
variable {H : Type} {enc : TypeId × Value → H} {w : World} {base : Nat} {spare : Nat → Bool} {held : Bool}
theorem open_bytes {fuel : Nat} {v : Value} {x : DataW H × List MemPlace}
    (h : DataW.trod enc Tryd.prog w base spare held fuel 32 [v] = some x) : ∃ l : List Nat, RB w v l ∧ (∀ b ∈ l, b < 256) ∧ (l.length : Int) ≤ 9223372036854775807 := by
  rcases open_ints Tryd.underlying32 Tryd.underlying5 cells5 h with ⟨hcs, _⟩ | ⟨a, len, cap, zs, hcs, _, hlc, hcm, hlen, _, hcell, hwf⟩
  · injection hcs with e
    subst e
    exact ⟨[], Rd.nil w 1 0 none, by simp, by simp⟩
  · injection hcs with e
    subst e
    have hzl : len ≤ zs.length := by rw [hlen]; split <;> omega
    have hl : ((zs.take len).map Int.toNat).length = len := by simp; omega
    have hb : ∀ i, (hi : i < zs.length) → 0 ≤ zs[i] ∧ zs[i] ≤ 255 := fun i hi => bounds_u8 (hwf _ (List.getElem_mem hi))
    refine ⟨(zs.take len).map Int.toNat, ?_, fun b hbm => ?_, by rw [hl]; unfold maxLen at hcm; omega⟩
    · refine ⟨by rw [fc_length ucl_len], some a, cap, by rw [hl], by rw [hl]; exact hlc, fun hpos => ?_⟩
      rw [hl] at hpos
      obtain ⟨g, off, rfl⟩ := plain_addr (by have := hcell 0 (by omega); exact this)
      refine ⟨g, off, rfl, fun j u hu => ?_⟩
      have hj : j < len := by
        have := (List.getElem?_eq_some_iff.1 hu).1
        rw [fc_length ucl_len, hl] at this
        omega
      have hg := fc_get ucl_len ((zs.take len).map Int.toNat) j 0 (by rw [hl]; exact hj) (by omega)
      rw [Nat.mul_one, Nat.add_zero, hu] at hg
      have hc := hcell j (by omega)
      rw [Addr.add_lit] at hc
      rw [hc, hg]
      have hz := hb j (by omega)
      simp [ucl, List.getD, List.getElem?_eq_getElem (show j < zs.length by omega), Int.toNat_of_nonneg hz.1]
    · obtain ⟨z, hz, rfl⟩ := List.mem_map.1 hbm
      have := bounds_u8 (hwf z (List.mem_of_mem_take hz))
      omega
theorem one_u8 {fuel : Nat} {t : TypeId} (ht : Tryd.prog.underlying t = some (.int .u8)) {L : List Value} {i : Nat} {x : DataW H × List MemPlace} (h : DataW.trod enc Tryd.prog w base spare held fuel t ((L.drop i).take 1) = some x) : ∃ z : Nat, L[i]? = some (.int .u8 z) ∧ z < 256 := by
  obtain ⟨z, e, _, hw⟩ := DataW.trod_int ht h
  have := bounds_u8 hw
  exact ⟨z.toNat, by rw [one_of e, Int.toNat_of_nonneg this.1], by omega⟩
theorem one_u64 {fuel : Nat} {t : TypeId} (ht : Tryd.prog.underlying t = some (.int .u64)) {L : List Value} {i : Nat} {x : DataW H × List MemPlace} (h : DataW.trod enc Tryd.prog w base spare held fuel t ((L.drop i).take 1) = some x) : ∃ z : Nat, L[i]? = some (.int .u64 z) ∧ z < 18446744073709551616 := by
  obtain ⟨z, e, _, hw⟩ := DataW.trod_int ht h
  have := bounds_u64 hw
  exact ⟨z.toNat, by rw [one_of e, Int.toNat_of_nonneg this.1], by omega⟩
theorem one_i64 {fuel : Nat} {t : TypeId} (ht : Tryd.prog.underlying t = some (.int .i64)) {L : List Value} {i : Nat} {x : DataW H × List MemPlace} (h : DataW.trod enc Tryd.prog w base spare held fuel t ((L.drop i).take 1) = some x) : ∃ z : Int, L[i]? = some (.int .i64 z) ∧ -9223372036854775808 ≤ z ∧ z ≤ 9223372036854775807 := by
  obtain ⟨z, e, _, hw⟩ := DataW.trod_int ht h
  exact ⟨z, one_of e, bounds_i64 hw⟩
theorem one_bytes {fuel : Nat} {L : List Value} {i : Nat} {x : DataW H × List MemPlace} (hi : i < L.length) (h : DataW.trod enc Tryd.prog w base spare held fuel 32 ((L.drop i).take 1) = some x) : ∃ (v : Value) (l : List Nat), L[i]? = some v ∧ RB w v l ∧ (∀ b ∈ l, b < 256) ∧ (l.length : Int) ≤ 9223372036854775807 := by
  have e : (L.drop i).take 1 = [L[i]] := by rw [List.drop_eq_getElem_cons hi]; rfl
  rw [e] at h
  obtain ⟨l, h1, h2, h3⟩ := open_bytes h
  exact ⟨L[i], l, List.getElem?_eq_getElem hi, h1, h2, h3⟩
theorem open_call {cs : Array Value} {d : DataW H} {p : List MemPlace} (hs : cs.size = 12) (h : DataW.Trod enc Tryd.prog w base spare held 34 (.agg cs) d p) : ∃ (x : Cl) (v : Value), cs = clc x v ∧ x.Ok ∧ RB w v x.l ∧ (x.l.length : Int) ≤ 9223372036854775807 := by
  obtain ⟨fuel, hf⟩ := h
  have hcs : (Value.agg cs).cells.toList = cs.toList := rfl
  rw [hcs] at hf
  obtain ⟨n, hp⟩ := trod_parts Tryd.underlying34 hf
  obtain ⟨y0, hy0⟩ := trod_part hp 0 rfl 27 0 1 rfl rfl cells27
  obtain ⟨y1, hy1⟩ := trod_part hp 1 rfl 3 1 1 rfl rfl cells3
  obtain ⟨y2, hy2⟩ := trod_part hp 2 rfl 3 2 1 rfl rfl cells3
  obtain ⟨y3, hy3⟩ := trod_part hp 3 rfl 3 3 1 rfl rfl cells3
  obtain ⟨y4, hy4⟩ := trod_part hp 4 rfl 3 4 1 rfl rfl cells3
  obtain ⟨y5, hy5⟩ := trod_part hp 5 rfl 3 5 1 rfl rfl cells3
  obtain ⟨y6, hy6⟩ := trod_part hp 6 rfl 3 6 1 rfl rfl cells3
  obtain ⟨y7, hy7⟩ := trod_part hp 7 rfl 5 7 1 rfl rfl cells5
  obtain ⟨y8, hy8⟩ := trod_part hp 8 rfl 30 8 2 rfl rfl cells30
  obtain ⟨y9, hy9⟩ := trod_part hp 9 rfl 31 10 1 rfl rfl cells31
  obtain ⟨y10, hy10⟩ := trod_part hp 10 rfl 32 11 1 rfl rfl cells32
  obtain ⟨k, e0, hk⟩ := one_u8 Tryd.underlying27 hy0
  obtain ⟨p, e1, hp'⟩ := one_i64 Tryd.underlying3 hy1
  obtain ⟨nn, e2, hn⟩ := one_i64 Tryd.underlying3 hy2
  obtain ⟨g, e3, hg⟩ := one_i64 Tryd.underlying3 hy3
  obtain ⟨c, e4, hc⟩ := one_i64 Tryd.underlying3 hy4
  obtain ⟨a, e5, ha⟩ := one_i64 Tryd.underlying3 hy5
  obtain ⟨s, e6, hs'⟩ := one_i64 Tryd.underlying3 hy6
  obtain ⟨r, e7, hr⟩ := one_u8 Tryd.underlying5 hy7
  obtain ⟨n', hq⟩ := trod_parts Tryd.underlying30 hy8
  obtain ⟨z0, hz0⟩ := trod_part hq 0 rfl 28 0 1 rfl rfl cells28
  obtain ⟨z1, hz1⟩ := trod_part hq 1 rfl 5 1 1 rfl rfl cells5
  obtain ⟨ok, e8, hok⟩ := one_u8 Tryd.underlying28 hz0
  obtain ⟨om, e9, hom⟩ := one_u8 Tryd.underlying5 hz1
  obtain ⟨hh, e10, hhh⟩ := one_u64 Tryd.underlying31 hy9
  obtain ⟨v, l, e11, hv, hl, hlen⟩ := one_bytes (by simp [hs]) hy10
  refine ⟨⟨k, p, nn, g, c, a, s, r, ok, om, hh, l⟩, v, ?_, ⟨hk, hp', hn, hg, hc, ha, hs', hr, hok, hom, hhh, hl⟩, hv, hlen⟩
  apply Array.ext_getElem?
  intro i
  have ee : ∀ i, cs[i]? = cs.toList[i]? := fun i => (Array.getElem?_toList (xs := cs)).symm
  rw [ee]
  match i with
  | 0 => exact e0
  | 1 => exact e1
  | 2 => exact e2
  | 3 => exact e3
  | 4 => exact e4
  | 5 => exact e5
  | 6 => exact e6
  | 7 => exact e7
  | 8 => exact sub_at e8
  | 9 => exact sub_at e9
  | 10 => exact e10
  | 11 => exact e11
  | i + 12 => rw [List.getElem?_eq_none (by simp [hs])]; rfl
theorem open_res {cs : Array Value} {d : DataW H} {p : List MemPlace} (hs : cs.size = 3) (h : DataW.Trod enc Tryd.prog w base spare held 48 (.agg cs) d p) : ∃ (x : Rs) (v : Value), cs = rsc x v ∧ x.Ok ∧ RB w v x.l ∧ (x.l.length : Int) ≤ 9223372036854775807 := by
  obtain ⟨fuel, hf⟩ := h
  have hcs : (Value.agg cs).cells.toList = cs.toList := rfl
  rw [hcs] at hf
  obtain ⟨n, hp⟩ := trod_parts Tryd.underlying48 hf
  obtain ⟨y0, hy0⟩ := trod_part hp 0 rfl 39 0 1 rfl rfl cells39
  obtain ⟨y1, hy1⟩ := trod_part hp 1 rfl 31 1 1 rfl rfl cells31
  obtain ⟨y2, hy2⟩ := trod_part hp 2 rfl 32 2 1 rfl rfl cells32
  obtain ⟨e, e0, he⟩ := one_i64 Tryd.underlying39 hy0
  obtain ⟨z, e1, hz⟩ := one_u64 Tryd.underlying31 hy1
  obtain ⟨v, l, e2, hv, hl, hlen⟩ := one_bytes (by simp [hs]) hy2
  refine ⟨⟨e, z, l⟩, v, ?_, ⟨he, hz, hl⟩, hv, hlen⟩
  apply Array.ext_getElem?
  intro i
  have ee : ∀ i, cs[i]? = cs.toList[i]? := fun i => (Array.getElem?_toList (xs := cs)).symm
  rw [ee]
  match i with
  | 0 => exact e0
  | 1 => exact e1
  | 2 => exact e2
  | i + 3 => rw [List.getElem?_eq_none (by simp [hs])]; rfl
end
/-- what the rows list -/
abbrev LL : List (String × DataW Unit) := [("unicode/utf8.acceptRanges", Rows.laid_unicode_utf8_acceptRanges), ("byre/calls.fields", Rows.laid_byre_calls_fields), ("unicode/utf8.first", Rows.laid_unicode_utf8_first)]
def flds : List (List Nat) := (List.range 22).map fld
theorem laid_flds {H : Type} : (Rows.laid_byre_calls_fields : DataW H) = .agg (flds.map fun l => .lit (.string (l.map UInt8.ofNat))) := by kernel_rfl
theorem fields_of {W : World} (h : laidMetH Tryd.prog LL W) : FW W := by
  rw [MakeChecks.laidMetH_plain _ _ _ (by kernel_rfl)] at h
  obtain ⟨ps, ⟨_, _, _, _, _, _, _, _, _, _, ⟨g, t, cs, fuel, p, q, hg, ht, hv, hd, _, _⟩, _⟩, _, _⟩ := h
  obtain rfl := Option.some.inj ((show Tryd.prog.globalNamed "byre/calls.fields" = some 0 by kernel_rfl).symm.trans hg)
  obtain rfl := Option.some.inj ((show (Tryd.prog.globals[0]?).map (·.type) = some 85 by kernel_rfl).symm.trans ht)
  obtain ⟨xs, m, _, ex, _, hl, hel⟩ := DataW.trod_array Tryd.underlying85 hd
  intro r hr
  have hE := hel r hr
  rw [cells9, Nat.mul_one, List.getElem?_eq_getElem (by omega)] at hE
  obtain ⟨z, e1, e2, _⟩ := DataW.trod_string Tryd.underlying9 hE
  have e3 : (xs.map (·.1)) = flds.map fun l => (.lit (.string (l.map UInt8.ofNat)) : DataW Unit) := by
    have := (Prod.mk.inj ex).1
    rw [laid_flds] at this
    exact (DataW.agg.inj this).symm
  have e4 : (xs.map (·.1))[r]? = (flds.map fun l => (.lit (.string (l.map UInt8.ofNat)) : DataW Unit))[r]? := by rw [e3]
  have hfl : flds.length = 22 := by simp [flds]
  rw [List.getElem?_map, List.getElem?_map, List.getElem?_eq_getElem (by omega : r < xs.length), List.getElem?_eq_getElem (by omega : r < flds.length), e2] at e4
  have hz : z.data.toList = (fld r).map UInt8.ofNat := by
    simp only [Option.map_some, Option.some.injEq, DataW.lit.injEq, Lit.string.injEq] at e4
    rw [e4]
    simp [flds]
  have hz2 : z = strB (fld r) := by
    unfold strB
    cases z
    simp only at hz
    rw [← hz]
  rw [World.var?_cell hg hv r, ← hz2]
  have : cs.toList[r]? = some (.string z) := by
    have h0 : ((cs.toList.drop r).take 1)[0]? = some (.string z) := by rw [e1]; rfl
    simpa using h0
  simpa using this
end Go.Proofs.YtinlpjgjjplceaaDoor
