/- Texts merged for the claim: CcD, MrO. -/
import Derived.Test.YtfoleblcaloeoaaDoorZab
import Derived.Test.YtfoleblcaloeoaaDoorZai
import Derived.Test.YtfoleblcaloeoaaDoorZas
import Derived.Test.YtfoleblcaloeoaaDoorTie
import Derived.LaidMore
import Derived.Lay
import Derived.MakeChecks
/- What a law is handed: bytes, a call, a result; the listed variable. -/
namespace Go.Proofs.YtfoleblcaloeoaaDoor
open Go Go.RowKit Go.ChangeShapes Go.WideShapes Go.ChangeAt Go.Deep

theorem cells5 : Tryd.prog.cellsOf 5 = 1 := by kernel_rfl
theorem cells9 : Tryd.prog.cellsOf 9 = 1 := by kernel_rfl
theorem cells36 : Tryd.prog.cellsOf 36 = 1 := by kernel_rfl
theorem cells37 : Tryd.prog.cellsOf 37 = 1 := by kernel_rfl
theorem cells39 : Tryd.prog.cellsOf 39 = 2 := by kernel_rfl
theorem cells40 : Tryd.prog.cellsOf 40 = 1 := by kernel_rfl
theorem cells27 : Tryd.prog.cellsOf 27 = 1 := by kernel_rfl
theorem cells42 : Tryd.prog.cellsOf 42 = 12 := by kernel_rfl
theorem cells33 : Tryd.prog.cellsOf 33 = 1 := by kernel_rfl
theorem cells45 : Tryd.prog.cellsOf 45 = 3 := by kernel_rfl
section
variable {H : Type} {enc : TypeId × Value → H} {w : World} {base : Nat} {spare : Nat → Bool} {held : Bool}
theorem open_bytes {fuel : Nat} {v : Value} {x : DataW H × List MemPlace}
    (h : DataW.trod enc Tryd.prog w base spare held fuel 27 [v] = some x) : ∃ l : List Nat, RB w v l ∧ (∀ b ∈ l, b < 256) ∧ (l.length : Int) ≤ 9223372036854775807 := by
  rcases open_ints Tryd.underlying27 Tryd.underlying5 cells5 h with ⟨hcs, _⟩ | ⟨a, len, cap, zs, hcs, _, hlc, hcm, hlen, _, hcell, hwf⟩
  · injection hcs with e
    subst e
    exact ⟨[], Rd.nil w 1 0 none, by simp, by simp⟩
  · injection hcs with e
    subst e
    have hzl : len ≤ zs.length := by rw [hlen]; split <;> omega
    have hl : ((zs.take len).map Int.toNat).length = len := by simp; omega
    have hb : ∀ i, (hi : i < zs.length) → 0 ≤ zs[i] ∧ zs[i] ≤ 255 := fun i hi => bounds_u8 (hwf _ (List.getElem_mem hi))
    refine ⟨(zs.take len).map Int.toNat, ?_, fun b hbm => ?_, by rw [hl]; unfold maxLen at hcm; omega⟩
    · refine ⟨by rw [fc_length ucl_len], some a, cap, by rw [hl], by rw [hl]; exact hlc, fun hpos => ?_⟩
      rw [hl] at hpos
      obtain ⟨g, off, rfl⟩ := plain_addr (by have := hcell 0 (by omega); exact this)
      refine ⟨g, off, rfl, fun j u hu => ?_⟩
      have hj : j < len := by
        have := (List.getElem?_eq_some_iff.1 hu).1
        rw [fc_length ucl_len, hl] at this
        omega
      have hg := fc_get ucl_len ((zs.take len).map Int.toNat) j 0 (by rw [hl]; exact hj) (by omega)
      rw [Nat.mul_one, Nat.add_zero, hu] at hg
      have hc := hcell j (by omega)
      rw [Addr.add_lit] at hc
      rw [hc, hg]
      have hz := hb j (by omega)
      simp [ucl, List.getD, List.getElem?_eq_getElem (show j < zs.length by omega), Int.toNat_of_nonneg hz.1]
    · obtain ⟨z, hz, rfl⟩ := List.mem_map.1 hbm
      have := bounds_u8 (hwf z (List.mem_of_mem_take hz))
      omega
theorem one_u8 {fuel : Nat} {t : TypeId} (ht : Tryd.prog.underlying t = some (.int .u8)) {L : List Value} {i : Nat} {x : DataW H × List MemPlace} (h : DataW.trod enc Tryd.prog w base spare held fuel t ((L.drop i).take 1) = some x) : ∃ z : Nat, L[i]? = some (.int .u8 z) ∧ z < 256 := by
  obtain ⟨z, e, _, hw⟩ := DataW.trod_int ht h
  have := bounds_u8 hw
  exact ⟨z.toNat, by rw [one_of e, Int.toNat_of_nonneg this.1], by omega⟩
theorem one_u64 {fuel : Nat} {t : TypeId} (ht : Tryd.prog.underlying t = some (.int .u64)) {L : List Value} {i : Nat} {x : DataW H × List MemPlace} (h : DataW.trod enc Tryd.prog w base spare held fuel t ((L.drop i).take 1) = some x) : ∃ z : Nat, L[i]? = some (.int .u64 z) ∧ z < 18446744073709551616 := by
  obtain ⟨z, e, _, hw⟩ := DataW.trod_int ht h
  have := bounds_u64 hw
  exact ⟨z.toNat, by rw [one_of e, Int.toNat_of_nonneg this.1], by omega⟩
theorem one_i64 {fuel : Nat} {t : TypeId} (ht : Tryd.prog.underlying t = some (.int .i64)) {L : List Value} {i : Nat} {x : DataW H × List MemPlace} (h : DataW.trod enc Tryd.prog w base spare held fuel t ((L.drop i).take 1) = some x) : ∃ z : Int, L[i]? = some (.int .i64 z) ∧ -9223372036854775808 ≤ z ∧ z ≤ 9223372036854775807 := by
  obtain ⟨z, e, _, hw⟩ := DataW.trod_int ht h
  exact ⟨z, one_of e, bounds_i64 hw⟩
theorem one_bytes {fuel : Nat} {L : List Value} {i : Nat} {x : DataW H × List MemPlace} (hi : i < L.length) (h : DataW.trod enc Tryd.prog w base spare held fuel 27 ((L.drop i).take 1) = some x) : ∃ (v : Value) (l : List Nat), L[i]? = some v ∧ RB w v l ∧ (∀ b ∈ l, b < 256) ∧ (l.length : Int) ≤ 9223372036854775807 := by
  have e : (L.drop i).take 1 = [L[i]] := by rw [List.drop_eq_getElem_cons hi]; rfl
  rw [e] at h
  obtain ⟨l, h1, h2, h3⟩ := open_bytes h
  exact ⟨L[i], l, List.getElem?_eq_getElem hi, h1, h2, h3⟩
theorem open_call {cs : Array Value} {d : DataW H} {p : List MemPlace} (hs : cs.size = 12) (h : DataW.Trod enc Tryd.prog w base spare held 42 (.agg cs) d p) : ∃ (x : Cl) (v : Value), cs = clc x v ∧ x.Ok ∧ RB w v x.l ∧ (x.l.length : Int) ≤ 9223372036854775807 := by
  obtain ⟨fuel, hf⟩ := h
  have hcs : (Value.agg cs).cells.toList = cs.toList := rfl
  rw [hcs] at hf
  obtain ⟨n, hp⟩ := trod_parts Tryd.underlying42 hf
  obtain ⟨y0, hy0⟩ := trod_part hp 0 rfl 36 0 1 rfl rfl cells36
  obtain ⟨y1, hy1⟩ := trod_part hp 1 rfl 3 1 1 rfl rfl cells3
  obtain ⟨y2, hy2⟩ := trod_part hp 2 rfl 3 2 1 rfl rfl cells3
  obtain ⟨y3, hy3⟩ := trod_part hp 3 rfl 3 3 1 rfl rfl cells3
  obtain ⟨y4, hy4⟩ := trod_part hp 4 rfl 3 4 1 rfl rfl cells3
  obtain ⟨y5, hy5⟩ := trod_part hp 5 rfl 3 5 1 rfl rfl cells3
  obtain ⟨y6, hy6⟩ := trod_part hp 6 rfl 3 6 1 rfl rfl cells3
  obtain ⟨y7, hy7⟩ := trod_part hp 7 rfl 5 7 1 rfl rfl cells5
  obtain ⟨y8, hy8⟩ := trod_part hp 8 rfl 39 8 2 rfl rfl cells39
  obtain ⟨y9, hy9⟩ := trod_part hp 9 rfl 40 10 1 rfl rfl cells40
  obtain ⟨y10, hy10⟩ := trod_part hp 10 rfl 27 11 1 rfl rfl cells27
  obtain ⟨k, e0, hk⟩ := one_u8 Tryd.underlying36 hy0
  obtain ⟨p, e1, hp'⟩ := one_i64 Tryd.underlying3 hy1
  obtain ⟨nn, e2, hn⟩ := one_i64 Tryd.underlying3 hy2
  obtain ⟨g, e3, hg⟩ := one_i64 Tryd.underlying3 hy3
  obtain ⟨c, e4, hc⟩ := one_i64 Tryd.underlying3 hy4
  obtain ⟨a, e5, ha⟩ := one_i64 Tryd.underlying3 hy5
  obtain ⟨s, e6, hs'⟩ := one_i64 Tryd.underlying3 hy6
  obtain ⟨r, e7, hr⟩ := one_u8 Tryd.underlying5 hy7
  obtain ⟨n', hq⟩ := trod_parts Tryd.underlying39 hy8
  obtain ⟨z0, hz0⟩ := trod_part hq 0 rfl 37 0 1 rfl rfl cells37
  obtain ⟨z1, hz1⟩ := trod_part hq 1 rfl 5 1 1 rfl rfl cells5
  obtain ⟨ok, e8, hok⟩ := one_u8 Tryd.underlying37 hz0
  obtain ⟨om, e9, hom⟩ := one_u8 Tryd.underlying5 hz1
  obtain ⟨hh, e10, hhh⟩ := one_u64 Tryd.underlying40 hy9
  obtain ⟨v, l, e11, hv, hl, hlen⟩ := one_bytes (by simp [hs]) hy10
  refine ⟨⟨k, p, nn, g, c, a, s, r, ok, om, hh, l⟩, v, ?_, ⟨hk, hp', hn, hg, hc, ha, hs', hr, hok, hom, hhh, hl⟩, hv, hlen⟩
  apply Array.ext_getElem?
  intro i
  have ee : ∀ i, cs[i]? = cs.toList[i]? := fun i => (Array.getElem?_toList (xs := cs)).symm
  rw [ee]
  match i with
  | 0 => exact e0
  | 1 => exact e1
  | 2 => exact e2
  | 3 => exact e3
  | 4 => exact e4
  | 5 => exact e5
  | 6 => exact e6
  | 7 => exact e7
  | 8 => exact sub_at e8
  | 9 => exact sub_at e9
  | 10 => exact e10
  | 11 => exact e11
  | i + 12 => rw [List.getElem?_eq_none (by simp [hs])]; rfl
theorem open_res {cs : Array Value} {d : DataW H} {p : List MemPlace} (hs : cs.size = 3) (h : DataW.Trod enc Tryd.prog w base spare held 45 (.agg cs) d p) : ∃ (x : Rs) (v : Value), cs = rsc x v ∧ x.Ok ∧ RB w v x.l ∧ (x.l.length : Int) ≤ 9223372036854775807 := by
  obtain ⟨fuel, hf⟩ := h
  have hcs : (Value.agg cs).cells.toList = cs.toList := rfl
  rw [hcs] at hf
  obtain ⟨n, hp⟩ := trod_parts Tryd.underlying45 hf
  obtain ⟨y0, hy0⟩ := trod_part hp 0 rfl 33 0 1 rfl rfl cells33
  obtain ⟨y1, hy1⟩ := trod_part hp 1 rfl 40 1 1 rfl rfl cells40
  obtain ⟨y2, hy2⟩ := trod_part hp 2 rfl 27 2 1 rfl rfl cells27
  obtain ⟨e, e0, he⟩ := one_i64 Tryd.underlying33 hy0
  obtain ⟨z, e1, hz⟩ := one_u64 Tryd.underlying40 hy1
  obtain ⟨v, l, e2, hv, hl, hlen⟩ := one_bytes (by simp [hs]) hy2
  refine ⟨⟨e, z, l⟩, v, ?_, ⟨he, hz, hl⟩, hv, hlen⟩
  apply Array.ext_getElem?
  intro i
  have ee : ∀ i, cs[i]? = cs.toList[i]? := fun i => (Array.getElem?_toList (xs := cs)).symm
  rw [ee]
  match i with
  | 0 => exact e0
  | 1 => exact e1
  | 2 => exact e2
  | i + 3 => rw [List.getElem?_eq_none (by simp [hs])]; rfl
end
/-- what the rows list -/
abbrev LL : List (String × DataW Unit) := [("unicode/utf8.acceptRanges", Rows.laid_unicode_utf8_acceptRanges), ("byre/calls.fields", Rows.laid_byre_calls_fields), ("unicode/utf8.first", Rows.laid_unicode_utf8_first)]
def flds : List (List Nat) := (List.range 22).map fld
theorem laid_flds {H : Type} : (Rows.laid_byre_calls_fields : DataW H) = .agg (flds.map fun l => .lit (.string (l.map UInt8.ofNat))) := by kernel_rfl
theorem fields_of {W : World} (h : laidMetH Tryd.prog LL W) : FW W := by
  rw [MakeChecks.laidMetH_plain _ _ _ (by kernel_rfl)] at h
  obtain ⟨ps, ⟨_, _, _, _, _, _, _, _, _, _, ⟨g, t, cs, fuel, p, q, hg, ht, hv, hd, _, _⟩, _⟩, _, _⟩ := h
  obtain rfl := Option.some.inj ((show Tryd.prog.globalNamed "byre/calls.fields" = some 0 by kernel_rfl).symm.trans hg)
  obtain rfl := Option.some.inj ((show (Tryd.prog.globals[0]?).map (·.type) = some 107 by kernel_rfl).symm.trans ht)
  obtain ⟨xs, m, _, ex, _, hl, hel⟩ := DataW.trod_array Tryd.underlying107 hd
  intro r hr
  have hE := hel r hr
  rw [cells9, Nat.mul_one, List.getElem?_eq_getElem (by omega)] at hE
  obtain ⟨z, e1, e2, _⟩ := DataW.trod_string Tryd.underlying9 hE
  have e3 : (xs.map (·.1)) = flds.map fun l => (.lit (.string (l.map UInt8.ofNat)) : DataW Unit) := by
    have := (Prod.mk.inj ex).1
    rw [laid_flds] at this
    exact (DataW.agg.inj this).symm
  have e4 : (xs.map (·.1))[r]? = (flds.map fun l => (.lit (.string (l.map UInt8.ofNat)) : DataW Unit))[r]? := by rw [e3]
  have hfl : flds.length = 22 := by simp [flds]
  rw [List.getElem?_map, List.getElem?_map, List.getElem?_eq_getElem (by omega : r < xs.length), List.getElem?_eq_getElem (by omega : r < flds.length), e2] at e4
  have hz : z.data.toList = (fld r).map UInt8.ofNat := by
    simp only [Option.map_some, Option.some.injEq, DataW.lit.injEq, Lit.string.injEq] at e4
    rw [e4]
    simp [flds]
  have hz2 : z = strB (fld r) := by
    unfold strB
    cases z
    simp only at hz
    rw [← hz]
  rw [World.var?_cell hg hv r, ← hz2]
  have : cs.toList[r]? = some (.string z) := by
    have h0 : ((cs.toList.drop r).take 1)[0]? = some (.string z) := by rw [e1]; rfl
    simpa using h0
  simpa using this
end Go.Proofs.YtfoleblcaloeoaaDoor

/- What a law is handed: pairs of a call and an answer. -/
namespace Go.Proofs.YtfoleblcaloeoaaDoor
open Go Go.RowKit Go.ChangeShapes Go.WideShapes Go.ChangeAt Go.Deep

theorem cells47 : Tryd.prog.cellsOf 47 = 17 := by kernel_rfl
theorem cells4 : Tryd.prog.cellsOf 4 = 1 := by kernel_rfl
theorem trodAll_four {H : Type} {enc : TypeId × Value → H} {P : Program} {w : World} {base : Nat} {spare : Nat → Bool} {held : Bool} {t0 t1 t2 t3 : TypeId} {args : Array Value} {ds : List (DataW H)} {ps : List MemPlace} (h : DataW.TrodAll enc P w base spare held [t0, t1, t2, t3] args.toList ds ps) :
    ∃ v0 v1 v2 v3 d0 d1 d2 d3 p0 p1 p2 p3, args = #[v0, v1, v2, v3] ∧ ds = [d0, d1, d2, d3] ∧ ps = p0 ++ p1 ++ p2 ++ p3 ∧ DataW.Trod enc P w base spare held t0 v0 d0 p0 ∧ DataW.Trod enc P w base spare held t1 v1 d1 p1 ∧ DataW.Trod enc P w base spare held t2 v2 d2 p2 ∧ DataW.Trod enc P w base spare held t3 v3 d3 p3 := by
  obtain ⟨v0, vs0, d0, ds0, p0, q0, hargs, rfl, rfl, h0, k0⟩ := trodAll_cons h
  obtain ⟨v1, vs1, d1, ds1, p1, q1, rfl, rfl, rfl, h1, k1⟩ := trodAll_cons k0
  obtain ⟨v2, vs2, d2, ds2, p2, q2, rfl, rfl, rfl, h2, k2⟩ := trodAll_cons k1
  obtain ⟨v3, vs3, d3, ds3, p3, q3, rfl, rfl, rfl, h3, k3⟩ := trodAll_cons k2
  obtain ⟨rfl, rfl, rfl⟩ := trodAll_nil k3
  exact ⟨v0, v1, v2, v3, d0, d1, d2, d3, p0, p1, p2, p3, by cases args; simp_all, rfl, by simp, h0, h1, h2, h3⟩
theorem trodAll_five {H : Type} {enc : TypeId × Value → H} {P : Program} {w : World} {base : Nat} {spare : Nat → Bool} {held : Bool} {t0 t1 t2 t3 t4 : TypeId} {args : Array Value} {ds : List (DataW H)} {ps : List MemPlace} (h : DataW.TrodAll enc P w base spare held [t0, t1, t2, t3, t4] args.toList ds ps) :
    ∃ v0 v1 v2 v3 v4 d0 d1 d2 d3 d4 p0 p1 p2 p3 p4, args = #[v0, v1, v2, v3, v4] ∧ ds = [d0, d1, d2, d3, d4] ∧ ps = p0 ++ p1 ++ p2 ++ p3 ++ p4 ∧ DataW.Trod enc P w base spare held t0 v0 d0 p0 ∧ DataW.Trod enc P w base spare held t1 v1 d1 p1 ∧ DataW.Trod enc P w base spare held t2 v2 d2 p2 ∧ DataW.Trod enc P w base spare held t3 v3 d3 p3 ∧ DataW.Trod enc P w base spare held t4 v4 d4 p4 := by
  obtain ⟨v0, vs0, d0, ds0, p0, q0, hargs, rfl, rfl, h0, k0⟩ := trodAll_cons h
  obtain ⟨v1, vs1, d1, ds1, p1, q1, rfl, rfl, rfl, h1, k1⟩ := trodAll_cons k0
  obtain ⟨v2, vs2, d2, ds2, p2, q2, rfl, rfl, rfl, h2, k2⟩ := trodAll_cons k1
  obtain ⟨v3, vs3, d3, ds3, p3, q3, rfl, rfl, rfl, h3, k3⟩ := trodAll_cons k2
  obtain ⟨v4, vs4, d4, ds4, p4, q4, rfl, rfl, rfl, h4, k4⟩ := trodAll_cons k3
  obtain ⟨rfl, rfl, rfl⟩ := trodAll_nil k4
  exact ⟨v0, v1, v2, v3, v4, d0, d1, d2, d3, d4, p0, p1, p2, p3, p4, by cases args; simp_all, rfl, by simp, h0, h1, h2, h3, h4⟩
section
variable {H : Type} {enc : TypeId × Value → H} {w : World} {base : Nat} {spare : Nat → Bool} {held : Bool}
theorem open_two {fuel : Nat} {cs : List Value} {x : DataW H × List MemPlace} (hs : cs.length = 17) (h : DataW.trod enc Tryd.prog w base spare held fuel 47 cs = some x) : ∃ t : Tw, cs = twl t ∧ TwOk w t := by
  obtain ⟨n, hp⟩ := trod_parts Tryd.underlying47 h
  obtain ⟨y0, hy0⟩ := trod_part hp 0 rfl 42 0 12 rfl rfl cells42
  obtain ⟨y1, hy1⟩ := trod_part hp 1 rfl 45 12 3 rfl rfl cells45
  obtain ⟨y2, hy2⟩ := trod_part hp 2 rfl 4 15 1 rfl rfl cells4
  obtain ⟨y3, hy3⟩ := trod_part hp 3 rfl 40 16 1 rfl rfl cells40
  obtain ⟨x1, v1, e1, hx1, hv1, -⟩ := open_call (cs := ((cs.drop 0).take 12).toArray) (by simp [hs]) ⟨_, hy0⟩
  obtain ⟨x2, v2, e2, hx2, hv2, -⟩ := open_res (cs := ((cs.drop 12).take 3).toArray) (by simp [hs]) ⟨_, hy1⟩
  obtain ⟨b, e3, -⟩ := DataW.trod_bool Tryd.underlying4 hy2
  obtain ⟨hh, e4, hhh⟩ := one_u64 Tryd.underlying40 hy3
  refine ⟨⟨x1, v1, x2, v2, b, hh⟩, ?_, hx1, hx2, hv1, hv2, hhh⟩
  have e1' : cs.take 12 = (clc x1 v1).toList := by rw [← e1]; simp
  have e2' : (cs.drop 12).take 3 = (rsc x2 v2).toList := by rw [← e2]
  have e3' : cs[15]? = some (.bool b) := one_of e3
  show cs = (clc x1 v1).toList ++ ((rsc x2 v2).toList ++ [.bool b, .int .u64 hh])
  rw [← e1', ← e2']
  have h5 : cs.drop 15 = [.bool b, .int .u64 hh] := by
    refine List.ext_getElem? fun i => ?_
    rw [List.getElem?_drop]
    match i with
    | 0 => exact e3'
    | 1 => exact e4
    | i + 2 => rw [List.getElem?_eq_none (by omega)]; rfl
  rw [← h5]
  have h6 : (cs.drop 12).take 3 ++ cs.drop 15 = cs.drop 12 := by
    have := List.take_append_drop 3 (cs.drop 12)
    rw [List.drop_drop] at this
    exact this
  rw [h6, List.take_append_drop]
theorem open_twos {fuel : Nat} {v : Value} {x : DataW H × List MemPlace} (h : DataW.trod enc Tryd.prog w base spare held fuel 28 [v] = some x) : ∃ l : List Tw, RE twl 17 w v l ∧ (∀ t ∈ l, TwOk w t) ∧ (l.length : Int) ≤ 9223372036854775807 := by
  rcases open_slice Tryd.underlying28 h with ⟨hcs, _⟩ | ⟨a, len, cap, m, n, D, Pl, hcs, hb, hl, hm, hmm, hx, hi⟩
  · injection hcs with e
    subst e
    exact ⟨[], Rd.nil w 17 0 none, by simp, by simp⟩
  · injection hcs with e
    subst e
    have hml : len ≤ m := by rw [hmm]; split <;> omega
    have each : ∀ i, i < len → ∃ t : Tw, TwOk w t ∧ ∀ j u, (twl t)[j]? = some u → w.cell? ((a.add (i * 17)).add j) = some u := by
      intro i hil
      obtain ⟨cs', hc, ht'⟩ := hi i (by omega)
      rw [cells47] at hc
      obtain ⟨_, hcl, hat⟩ := World.cells?_some hc
      obtain ⟨o, ho, hr⟩ := open_two (by omega) ht'
      refine ⟨o, hr, fun j u hu => ?_⟩
      have hj : j < 17 := by
        have := (List.getElem?_eq_some_iff.1 hu).1
        rwa [twl_len] at this
      rw [hat j hj, ← ho] at *
      rw [← hu, List.getElem?_eq_getElem (by omega)]
    obtain ⟨l, hl1, hp⟩ := list_of each
    refine ⟨l, ⟨by rw [fc_length twl_len], some a, cap, by rw [hl1], by rw [hl1]; exact hl, fun hpos => ?_⟩, fun o ho => ?_, by rw [hl1]; unfold maxLen at hm; omega⟩
    · obtain ⟨g, off, rfl⟩ := plain_addr (by have := (hp 0 hpos).2 0 _ rfl; simpa using this)
      refine ⟨g, off, rfl, fun j u hu => ?_⟩
      have hj : j < l.length * 17 := by rw [← fc_length twl_len]; exact (List.getElem?_eq_some_iff.1 hu).1
      obtain ⟨q, r, rfl, hr⟩ : ∃ q r, j = q * 17 + r ∧ r < 17 := ⟨j / 17, j % 17, by omega, by omega⟩
      have hq : q < l.length := by omega
      rw [fc_get twl_len l q r hq hr] at hu
      have := (hp q hq).2 r u hu
      rw [Addr.add_lit, Addr.add_lit, Nat.add_assoc] at this
      exact this
    · obtain ⟨i, hi, rfl⟩ := List.getElem_of_mem ho
      exact (hp i hi).1
end
end Go.Proofs.YtfoleblcaloeoaaDoor
