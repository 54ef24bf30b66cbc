/- Leaves of a root, plain: what is wanted, and how far a range over them has come. -/
import Derived.Test.YtblkfikcfgocgaaTbK
namespace Go.Proofs.Ytblkfikcfgocgaa
open Go Go.RowKit

/-- the words of a root whose leaves are wanted so -/
def VR (wt : Nat → Nat) : Nat → Nat → Nat := fun f i => if f = 0 then (if wt i = 0 then 0 else 1 + 4 * wt i) else 0
theorem VR_leaf {wt : Nat → Nat} (h3 : ∀ i, i < 32 → wt i ≤ 3) {i : Nat} (hi : i < 32) : lfE 4 (VR wt) 0 (32 * (i : Int)) = (if wt i = 0 then 7 else 0) ∧ lfN 4 (VR wt) 0 (32 * (i : Int)) = wt i := by
  have hd : (32 * (i : Int)).tdiv 32 = (i : Int) := by rw [Int.tdiv_eq_ediv_of_nonneg (by omega)]; omega
  have hr := rdW_nat (n := 4) (V := VR wt) (f := 0) (i := i) (by omega) (by omega)
  have he := rdE_nat (n := 4) (V := VR wt) (f := 0) (i := i) (by omega) (by omega)
  rw [Int.natCast_zero] at hr he
  have hw := h3 i hi
  by_cases h0 : wt i = 0
  · have hV : VR wt 0 i = 0 := by unfold VR; rw [if_pos rfl, if_pos h0]
    rw [hV] at hr he
    rw [if_pos h0, h0]
    have E : lfE 4 (VR wt) 0 (32 * (i : Int)) = 7 := by
      unfold lfE
      rw [if_neg (by omega), hd, he, hr, if_neg (by decide), if_pos (by decide)]
    exact ⟨E, by unfold lfN; rw [E, if_neg (by decide)]⟩
  · have hV : VR wt 0 i = 1 + 4 * wt i := by unfold VR; rw [if_pos rfl, if_neg h0]
    rw [hV] at hr he
    rw [if_neg h0]
    have hok : eok (1 + 4 * wt i) = true := decide_eq_true (by omega)
    have e1 : eE (1 + 4 * wt i) = 0 := by unfold eE; rw [hok]; rfl
    have e2 : eK (1 + 4 * wt i) = 1 := by unfold eK; rw [hok, if_pos rfl]; omega
    have e3 : eN (1 + 4 * wt i) = wt i := by unfold eN; rw [hok, if_pos rfl]; omega
    have E : lfE 4 (VR wt) 0 (32 * (i : Int)) = 0 := by
      unfold lfE
      rw [if_neg (by omega), hd, he, hr, e1, e2, if_neg (by decide), if_neg (by decide), if_neg (by decide)]
    exact ⟨E, by unfold lfN; rw [E, if_pos rfl, hd, hr, e3]⟩
/-- what is wanted, as a list -/
def wtL (L : List Nat) : Nat → Nat := fun i => L.getD i 0
theorem wtL_set (L : List Nat) {q x : Nat} (hq : q < L.length) (i : Nat) : wtL (L.set q x) i = if i = q then x else wtL L i := by
  unfold wtL
  by_cases h : i = q
  · subst h; rw [if_pos rfl]; simp [List.getD, hq]
  · rw [if_neg h]; simp [List.getD, List.getElem?_set_ne (Ne.symm h)]
theorem wtL_get (L : List Nat) {q : Nat} (hq : q < L.length) : wtL L q = L[q] := by unfold wtL; simp [List.getD, hq]
/-- the leaf is set -/
theorem VR_set (L : List Nat) (hL : L.length = 32) {p : Nat} (hp : p < 1024) {l : Int} (h1 : -1 ≤ l) (h2 : l ≤ 3) (h3 : l ≠ 0) :
    slE 4 0 (p : Int) l = 0 ∧ ∀ f i, i ≤ 31 → slV 4 (VR (wtL L)) 0 (p : Int) l f i = VR (wtL (L.set (p / 32) l.toNat)) f i := by
  have hq : p / 32 < 32 := by omega
  have hs : slE 4 0 (p : Int) l = 0 := by
    rw [slE_ok (by omega) (by omega) (by omega) (by omega), tdiv32]
    exact woE_in (by omega) (by omega) (by omega) (by omega)
  refine ⟨hs, fun f i hi => ?_⟩
  unfold slV
  rw [if_pos hs, tdiv32, Int.toNat_natCast]
  unfold setV VR
  rw [wtL_set L (by omega)]
  by_cases hf : f = 0
  · subst hf
    by_cases hi' : i = p / 32
    · subst hi'
      rw [if_pos ⟨rfl, rfl⟩, if_pos rfl, if_pos rfl]
      unfold slW
      by_cases hl : l < 0
      · rw [if_pos hl, if_pos (by omega)]
      · rw [if_neg hl, if_neg (by omega)]
    · rw [if_neg (fun h => hi' h.2), if_pos rfl, if_pos rfl, if_neg hi']
  · rw [if_neg (fun h => hf h.1), if_neg hf, if_neg hf]
theorem slE_bad {n : Nat} {p l : Int} (hp : p < 0 ∨ 1024 ≤ p) (V : Nat → Nat → Nat) : slE n 0 p l = 2 ∧ slV n V 0 p l = V := by
  have E : slE n 0 p l = 2 := by unfold slE; rw [if_pos (by omega)]
  exact ⟨E, by unfold slV; rw [E]; rfl⟩
/-- how far: behind the last leaf below i -/
def nx (wt : Nat → Nat) : Nat → Nat
  | 0 => 0
  | i + 1 => if wt i = 0 then nx wt i else i + 1
theorem nx_le (wt : Nat → Nat) : ∀ i, nx wt i ≤ i
  | 0 => Nat.le_refl 0
  | i + 1 => by unfold nx; have := nx_le wt i; split <;> omega
theorem nx_zero (wt : Nat → Nat) : ∀ i j, nx wt i ≤ j → j < i → wt j = 0
  | 0, j, _, h => absurd h (by omega)
  | i + 1, j, h1, h2 => by
    unfold nx at h1
    split at h1
    · rename_i h
      by_cases hj : j = i
      · subst hj; exact h
      · exact nx_zero wt i j h1 (by omega)
    · omega
/-- the array of what is wanted -/
def ncl (z : Nat) : List Value := [.int .i64 (z : Int)]
theorem ncl_len (z : Nat) : (ncl z).length = 1 := rfl
def WI (w : World) (b : Nat) (L : List Nat) : Prop := Blk w b 72 (fc ncl L).toArray
section
variable {w w' : World} {b : Nat} {L : List Nat}
theorem WI.stay (h : WI w b L) (hc : Chg [] w w') : WI w' b L := Blk.chg h hc List.not_mem_nil
theorem WI.chg {F : List Nat} (h : WI w b L) (hc : Chg F w w') (hb : b ∉ F) : WI w' b L := Blk.chg h hc hb
theorem WI.cells (h : WI w b L) {p : Nat} (hp : p < L.length) : w.cell? ⟨b, p, none⟩ = some (.int .i64 (wtL L p : Nat)) := by
  have h0 := fc_get ncl_len L p 0 hp (by omega)
  rw [wtL_get L hp, Blk.cell h, List.getElem?_toArray]
  simpa [ncl] using h0
theorem WI.set (h : WI w b L) {p : Nat} (hp : p < L.length) (x : Nat) : WI (w.setCell ⟨b, p, none⟩ (.int .i64 (x : Int))) b (L.set p x) := by
  have h1 := Blk.set_ h p (.int .i64 (x : Int))
  have e : (fc ncl L).toArray.setIfInBounds p (.int .i64 (x : Int)) = (fc ncl (L.set p x)).toArray := by
    rw [List.setIfInBounds_toArray]
    congr 1
    refine List.ext_getElem? fun j => ?_
    by_cases hj : j < L.length
    · have g1 := fc_get ncl_len (L.set p x) j 0 (by simpa using hj) (by omega)
      have g2 := fc_get ncl_len L j 0 hj (by omega)
      simp only [Nat.mul_one, Nat.add_zero] at g1 g2
      rw [g1]
      by_cases hjp : j = p
      · subst hjp
        have hfl := fc_length ncl_len L
        rw [List.getElem?_set_self (by omega)]
        simp [ncl]
      · rw [List.getElem?_set_ne (Ne.symm hjp), g2, List.getElem_set_ne (Ne.symm hjp)]
    · have hfl := fc_length ncl_len L
      have hfl2 := fc_length ncl_len (L.set p x)
      rw [List.length_set] at hfl2
      rw [List.getElem?_eq_none (by rw [List.length_set]; omega), List.getElem?_eq_none (by omega)]
  rw [e] at h1
  exact h1
end
theorem zero72 : ∀ w, (zeroValue 72).run Try.prog w = .ok (.agg (fc ncl (List.replicate 32 0)).toArray) w := by
  have h : (Try.prog.info? 72).map (fun i => (i.zero, i.size)) = some (some (.agg (fc ncl (List.replicate 32 0)).toArray), 32) := by kernel_rfl
  exact (zero_of_info h).1
theorem run_alloc72 (w : World) : (Instr.alloc 72 true (.tuple #[])).run Try.prog w = .ok (.pointer (some ⟨w.heap.size, 0, none⟩)) (w.alloc (.cells (fc ncl (List.replicate 32 0)).toArray 72)) := by
  have zero72 := zero72
  generalize hz : fc ncl (List.replicate 32 0) = z at zero72 ⊢
  simp [Instr.alloc, Sem.run_bind, zero72, newVar, newRow, run_newObj_alloc, Value.cells]
theorem wpList_alloc72 {ops : Array Oper} {rest : List Oper} {o : Oper} {a : Act} {w : World} {Q : Exit → Act → World → Prop} (hg : o.guard = none) (ho : o.op = .alloc 72)
    (h : ∀ w', WI w' w.heap.size (List.replicate 32 0) → Chg [] w w' → wpList Try.prog ops Q rest (a.put o.dst (.pointer (some ⟨w.heap.size, 0, none⟩))) w') : wpList Try.prog ops Q (o :: rest) a w :=
  Great.wpList_runTo hg _ rfl _ _ (by unfold execOp; simp only [ho, Sem.run_bind, run_alloc72, Sem.run_pure, Result.andThen_ok]) (h _ (Blk.new w 72 _) ((Chg.refl [] w).alloc _))
end Go.Proofs.Ytblkfikcfgocgaa
