/- Repeat of one mark. -/
import Derived.Test.YtblkfikcfgocgaaFrC
import Derived.Laws.MakeOwn
import Derived.Laws.Bits64b
namespace Go.Proofs.Ytblkfikcfgocgaa
open Go Go.RowKit

section
variable {α : Type} {enc : α → List Value} {size : Nat} {e : TypeId}
theorem fc_splice_e (he : ∀ x, (enc x).length = size) (B : List α) (o : Nat) (xs : List α) : fc enc (splice B o xs) = splice (fc enc B) (o * size) (fc enc xs) := by
  unfold splice
  have h3 : o * size + (fc enc xs).length = (o + xs.length) * size := by rw [fc_length he, Nat.add_mul]
  rw [fc_append, fc_append, fc_take he, h3, fc_drop he]
/-- elements stored into a row -/
theorem store_e (he : ∀ x, (enc x).length = size) (h1 : ∀ l : List α, ∀ u ∈ fc enc l, u.oneCell' = true) {w : World} {g N cb : Nat} {B xs : List α} (h : SE enc size e w (.slice (some ⟨g, 0, none⟩) N cb) B) {o : Nat} (ho : o + xs.length ≤ N) :
    ∃ w', (storeCells ⟨g, o * size, none⟩ (fc enc xs)).run Try.prog w = .ok () w' ∧ SE enc size e w' (.slice (some ⟨g, 0, none⟩) N cb) (splice B o xs) ∧ Chg [g] w w' := by
  have hN := slen_eq h
  subst hN
  obtain ⟨hl, ⟨e1, _⟩ | ⟨g', off', cap, cur, e1, hb, hnc, hcm, hs, ht⟩⟩ := h
  · cases e1
  injection e1 with e1 _ e3
  injection e1 with e1
  injection e1 with e1 e2
  subst e1; subst e2; subst e3
  have hx : (fc enc xs).length = xs.length * size := fc_length he xs
  have hle : (o + xs.length) * size ≤ B.length * size := Nat.mul_le_mul_right _ ho
  have hlb : B.length * size ≤ cb * size := Nat.mul_le_mul_right _ hnc
  rw [Nat.add_mul] at hle
  have hst := run_storeCells_at Try.prog g (o * size) e (fc enc xs) 0 cur w hb (by rw [hx]; omega) (h1 xs)
  rw [Nat.add_zero] at hst
  refine ⟨_, hst, ?_, (Chg.refl _ w).setRow (.inl (by simp)) _⟩
  have hcl : cur.toList.length = cur.size := by simp
  have hsl : (splice B o xs).length = B.length := length_splice B o xs ho
  refine ⟨fc_length he _, .inr ⟨g, 0, cb, _, by rw [hsl], setRow_heap w g cur _ e (0, 0) hb, by rw [hsl]; exact hnc, hcm, ?_, ?_⟩⟩
  · simp only [List.size_toArray, List.length_append, List.length_take, List.length_drop, hcl, hx]
    omega
  · rw [fc_splice_e he, hsl, ← ht]
    simp only [List.drop_zero]
    exact take_splice cur.toList (fc enc xs) (o * size) (B.length * size) (by rw [hx]; exact hle) (by rw [hcl]; omega)
set_option maxRecDepth 20000 in
/-- copy, into a part of a row -/
theorem run_copy_e (he : ∀ x, (enc x).length = size) (h1 : ∀ l : List α, ∀ u ∈ fc enc l, u.oneCell' = true) {dT : TypeId} (hdT : Try.prog.underlying dT = some (.slice e)) (hsz : (Try.prog.info? e).map (·.size) = some size) {w : World} {g N cb : Nat} {B xs : List α} {y : Value}
    (h : SE enc size e w (.slice (some ⟨g, 0, none⟩) N cb) B) (hy : RE enc size w y xs) {o dl cap cnt : Nat} (ho : o + dl ≤ N) (hc : cnt = min xs.length dl) (hpos : 0 < cnt) :
    ∃ w', (∀ ty, (Builtin.copy_ #[dT, dT] ty #[.slice (some ⟨g, o * size, none⟩) dl cap, y]).run Try.prog w = .ok (.int .i64 cnt) w') ∧ SE enc size e w' (.slice (some ⟨g, 0, none⟩) N cb) (splice B o (xs.take cnt)) ∧ Chg [g] w w' := by
  have htl : (xs.take cnt).length = cnt := by rw [List.length_take]; omega
  obtain ⟨w', hst, h2, h3⟩ := store_e he h1 h (o := o) (xs := xs.take cnt) (by rw [htl]; omega)
  obtain ⟨A, c, rfl⟩ := RE.form hy
  obtain ⟨g2, off2, rfl⟩ := RE.addr hy (by omega)
  have hl : (Builtin.firstCells size cnt (.slice (some ⟨g2, off2, none⟩) xs.length c)).run Try.prog w = .ok (fc enc (xs.take cnt)).toArray w := by
    refine run_firstCells_some (P := Try.prog) w size cnt _ _ _ _ (by rw [fc_length he, htl]) (fun j u hu => ?_)
    obtain ⟨_, A', c', e', _, hat⟩ := hy
    obtain ⟨g3, off3, e3, hcell⟩ := hat (by omega)
    rw [e3] at e'
    injection e' with e' _ _
    injection e' with e'
    injection e' with ea eb
    subst ea; subst eb
    rw [Addr.add_lit]
    refine hcell j u ?_
    rw [← fc_take he, List.getElem?_take] at hu
    split at hu
    · exact hu
    · cases hu
  refine ⟨w', fun ty => ?_, h2, h3⟩
  cases hq : Try.prog.info? e with
  | none => rw [hq] at hsz; cases hsz
  | some i =>
    have hi : i.size = size := by rw [hq] at hsz; simpa using hsz
    have hm : Nat.min xs.length dl = cnt := hc.symm
    simp [Builtin.copy_, run_underlying hdT, Builtin.lenOf, sizeOf, typeInfo, hq, hi, hm, hl, hst, goInt]
theorem made_fc (he : ∀ x, (enc x).length = size) {zc : Array Value} {z : α} (hz : zc.toList = enc z) (n : Nat) : (madeCells zc (n * size)).toList = fc enc (List.replicate n z) := by
  have hzs : zc.size = size := by rw [← Array.length_toList, hz, he]
  refine List.ext_getElem? fun i => ?_
  by_cases hi : i < n * size
  · have hs : 0 < size := by
      rcases Nat.eq_zero_or_pos size with h | h
      · subst h; omega
      · exact h
    obtain ⟨a, b, rfl, hb⟩ : ∃ a b, i = a * size + b ∧ b < size := ⟨i / size, i % size, by rw [Nat.mul_comm]; exact (Nat.div_add_mod i size).symm, Nat.mod_lt _ hs⟩
    have ha : a < n := by
      refine Classical.byContradiction fun h => ?_
      have : n * size ≤ a * size := Nat.mul_le_mul_right _ (by omega)
      omega
    rw [fc_get he _ a b (by simpa using ha) hb, List.getElem_replicate, ← hz]
    simp only [madeCells, Array.toList_map, List.getElem?_map, Array.getElem?_toList]
    have hmod : (a * size + b) % size = b := by rw [Nat.mul_add_mod_self_right]; exact Nat.mod_eq_of_lt hb
    have hr : (Array.range (n * size))[a * size + b]? = some (a * size + b) := by
      rw [Array.getElem?_eq_getElem (by simpa using hi)]
      simp
    rw [hr, hzs]
    have hbz : b < zc.size := by omega
    simp [hmod, hbz]
  · rw [List.getElem?_eq_none (by simp [madeCells]; omega), List.getElem?_eq_none (by rw [fc_length he]; simp; omega)]
end
theorem bits_low (a : Nat) (ha : a < 4294967296) : bits .and .u64 (a : Int) 4294967295 = (a : Int) := by
  have h := bits_and_u64_nat a 4294967295 (by omega) (by omega)
  have e : a &&& 4294967295 = a % 4294967296 := Nat.and_two_pow_sub_one_eq_mod a 32
  rw [e, Nat.mod_eq_of_lt ha] at h
  exact h
set_option maxHeartbeats 1000000 in
theorem mul64_one {n : Nat} (hn : n ≤ 100000) (w : World) : Calls Try.prog 57 #[.int .u64 1, .int .u64 n] w fun e w' => e = .returned (.tuple #[.int .u64 0, .int .u64 n]) ∧ w = w' := by
  have a0 : bits .and .u64 0 4294967295 = 0 := bits_low 0 (by omega)
  have a1 : bits .and .u64 1 4294967295 = 1 := bits_low 1 (by omega)
  have a2 := bits_low n (by omega)
  have d2 : (n : Int) / 4294967296 = 0 := by omega
  have n0 : (0 : Int) ≤ (n : Int) := by omega
  have n1 : (n : Int) ≤ 100000 := by omega
  go_enter Try.func57, Try.ntmps57
  go_wp2_with fail
  go_ret2
  exact ⟨rfl, rfl⟩
set_option maxHeartbeats 1000000 in
theorem mul_one' {n : Nat} (hn : n ≤ 100000) (w : World) : Calls Try.prog 54 #[.int .u64 1, .int .u64 n] w fun e w' => e = .returned (.tuple #[.int .u64 0, .int .u64 n]) ∧ w = w' := by
  have HM := hide (mul64_one hn w)
  have n0 : (0 : Int) ≤ (n : Int) := by omega
  have n1 : (n : Int) ≤ 100000 := by omega
  go_enter Try.func54, Try.ntmps54
  go_wp2_with fail
  refine HM.out.mono ?_
  rintro e w' ⟨rfl, rfl⟩
  go_wp2_with fail
  go_ret2
  exact ⟨rfl, rfl⟩
end Go.Proofs.Ytblkfikcfgocgaa
