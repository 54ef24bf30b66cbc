import Derived.Test.YtmgjknlpcnakiaaArC
import Derived.Test.YtmgjknlpcnakiaaOwn
import Derived.Test.YtmgjknlpcnakiaaOpen
import Derived.Test.YtmgjknlpcnakiaaTextG
namespace Go.Proofs.Ytmgjknlpcnakiaa
open Go Go.RowKit

/-! ## Runs in memory -/
def rc (r : Rn) : List Value := [.int .i64 r.p, .int .i64 r.c, .int .u8 r.g]
theorem rc_len : ∀ x, (rc x).length = 3 := fun _ => rfl
abbrev RR := RE rc 3
abbrev SR := SE rc 3 30
theorem rc_one (l : List Rn) : ∀ u ∈ fc rc l, u.oneCell' = true := fun u hu => by
  obtain ⟨r, _, hr⟩ := List.mem_flatMap.1 hu
  simp only [rc, List.mem_cons, List.not_mem_nil, or_false] at hr
  rcases hr with rfl | rfl | rfl <;> rfl
theorem info30 : (Try.prog.info? 30).map (fun i => (i.zero, i.size, i.bytes)) = some (some (.agg #[.int .i64 0, .int .i64 0, .int .u8 0]), 3, 24) := by kernel_rfl
theorem RR.cells {w : World} {g off n c : Nat} {l : List Rn} (h : RR w (.slice (some ⟨g, off, none⟩) n c) l) {k : Nat} (hk : k < l.length) :
    w.cell? ⟨g, off + k * 3, none⟩ = some (.int .i64 l[k].p) ∧ w.cell? ⟨g, off + k * 3 + 1, none⟩ = some (.int .i64 l[k].c) ∧ w.cell? ⟨g, off + k * 3 + 2, none⟩ = some (.int .u8 l[k].g) :=
  ⟨by simpa using RE.cell rc_len h hk (j := 0) (by omega) rfl, RE.cell rc_len h hk (j := 1) (by omega) rfl, RE.cell rc_len h hk (j := 2) (by omega) rfl⟩
theorem RR_one (w : World) (p c g : Int) : RR (w.alloc (.cells #[.int .i64 p, .int .i64 c, .int .u8 g] 30)) (.slice (some ⟨w.heap.size, 0, none⟩) 1 1) [⟨p, c, g⟩] := Rd_new w 30 3 1 _ rfl

/-! ## Small ones -/
theorem end_any (p c g : Int) (w : World) (hp : -100000 ≤ p ∧ p ≤ 100000) (hc : -100000 ≤ c ∧ c ≤ 100000) : Calls Try.prog 28 #[.agg #[.int .i64 p, .int .i64 c, .int .u8 g]] w fun e w' => e = .returned (.int .i64 (p + c)) ∧ Chg [] w w' := by
  obtain ⟨hp1, hp2⟩ := hp
  obtain ⟨hc1, hc2⟩ := hc
  go_enter Try.func28, Try.ntmps28
  go_wp2_with fail
  go_ret
  exact ⟨rfl, (Chg.refl _ _).alloc _⟩
theorem may_any (page count : Int) (w : World) : Calls Try.prog 29 #[.int .i64 page, .int .i64 count] w fun e w' => e = .returned (.bool (mayB page count)) ∧ w = w' := by
  obtain ⟨b, hb⟩ : ∃ b, mayB page count = b := ⟨_, rfl⟩
  have HB := hide hb
  rw [hb]
  clear hb
  by_cases h1 : 0 ≤ page
  · by_cases h2 : 1 ≤ count
    · by_cases h3 : count ≤ 1024
      · by_cases h4 : page ≤ 1024 - count
        · obtain rfl : b = true := by rw [← HB.out]; simp [mayB, h1, h2, h3, h4]
          go_enter Try.func29, Try.ntmps29
          go_wp2_with fail
          go_ret
          exact ⟨rfl, rfl⟩
        · obtain rfl : b = false := by rw [← HB.out]; simp [mayB]; omega
          go_enter Try.func29, Try.ntmps29
          go_wp2_with fail
          go_ret
          exact ⟨rfl, rfl⟩
      · obtain rfl : b = false := by rw [← HB.out]; simp [mayB]; omega
        go_enter Try.func29, Try.ntmps29
        go_wp2_with fail
        go_ret
        exact ⟨rfl, rfl⟩
    · obtain rfl : b = false := by rw [← HB.out]; simp [mayB]; omega
      go_enter Try.func29, Try.ntmps29
      go_wp2_with fail
      go_ret
      exact ⟨rfl, rfl⟩
  · obtain rfl : b = false := by rw [← HB.out]; simp [mayB]; omega
    go_enter Try.func29, Try.ntmps29
    go_wp2_with fail
    go_ret
    exact ⟨rfl, rfl⟩
theorem rightful_any (g : Int) (w : World) : Calls Try.prog 30 #[.int .u8 g] w fun e w' => e = .returned (.bool (rgB g)) ∧ w = w' := by
  obtain ⟨b, hb⟩ : ∃ b, rgB g = b := ⟨_, rfl⟩
  have HB := hide hb
  rw [hb]
  clear hb
  by_cases h1 : 1 ≤ g
  · by_cases h2 : g ≤ 3
    · obtain rfl : b = true := by rw [← HB.out]; simp [rgB, h1, h2]
      go_enter Try.func30, Try.ntmps30
      go_wp2_with fail
      go_ret
      exact ⟨rfl, rfl⟩
    · obtain rfl : b = false := by rw [← HB.out]; simp [rgB]; omega
      go_enter Try.func30, Try.ntmps30
      go_wp2_with fail
      go_ret
      exact ⟨rfl, rfl⟩
  · obtain rfl : b = false := by rw [← HB.out]; simp [rgB]; omega
    go_enter Try.func30, Try.ntmps30
    go_wp2_with fail
    go_ret
    exact ⟨rfl, rfl⟩

/-- what is asked of a run that is put -/
structure Okr (r : Rn) : Prop where
  p : -10000 ≤ r.p ∧ r.p ≤ 10000
  c : -10000 ≤ r.c ∧ r.c ≤ 10000
def Okl (l : List Rn) : Prop := ∀ r ∈ l, Okr r
theorem run_append_rn {w : World} {v y : Value} {l m : List Rn} (hv : SR w v l) (hy : RR w y m) (hlen : l.length + m.length ≤ 1000000) (ty : TypeId) :
    ∃ v' w', (Builtin.append_ #[38, 38] ty #[v, y]).run Try.prog w = .ok v' w' ∧ SR w' v' (l ++ m) ∧ Chg (own v) w w' ∧ (v'.ownBlock = v.ownBlock ∨ v'.ownBlock = some w.heap.size) := by
  obtain ⟨i30, hi, hz, hi1, hi2⟩ := info_parts info30
  obtain ⟨v', w', h1, h2, h3, h4⟩ := run_append_sl (ty := ty) Try.underlying38 hi hz hi1 hi2 rfl hv hy (rc_one m) (by unfold maxLen; omega) (by omega)
  refine ⟨v', w', h1, ?_, h3, h4⟩
  unfold SR SE
  rw [List.length_append, fc_append]
  exact h2
theorem wpList_append_rn {ops : Array Oper} {rest : List Oper} {o : Oper} {a : Act} {w : World} {Q : Exit → Act → World → Prop} (hg : o.guard = none) (s x : Operand)
    (ho : o.op = .call { callee := .builtin .append, args := #[s, x], argTypes := #[38, 38] }) (v y : Value) (hs : a.eval s = v) (hx : a.eval x = y) {l m : List Rn} (hv : SR w v l) (hy : RR w y m) (hlen : l.length + m.length ≤ 1000000)
    (h : ∀ A n c w', Hid (n = (l ++ m).length) → SR w' (.slice A n c) (l ++ m) → Chg (own v) w w' → Grow w v (.slice A n c) → wpList Try.prog ops Q rest (a.put o.dst (.slice A n c)) w') :
    wpList Try.prog ops Q (o :: rest) a w := by
  obtain ⟨i30, hi, hz, hi1, hi2⟩ := info_parts info30
  refine wpList_append_sl hg s x 38 ho 30 Try.underlying38 hi hz hi1 hi2 rfl hs hv hx hy (rc_one m) (by unfold maxLen; omega) (by omega) fun v' w' h2 h3 h4 => ?_
  have h2' : SR w' v' (l ++ m) := by
    unfold SR SE
    rw [List.length_append, fc_append]
    exact h2
  obtain ⟨A, c, rfl⟩ := h2'.form
  exact h A _ c w' rfl h2' h3 (grow_of h4)

set_option maxHeartbeats 1000000 in
/-- put: the cases in which the slice stays as it is -/
theorem put_none {w : World} {v : Value} {l : List Rn} (hv : SR w v l) {r : Rn} (h : r.c < 1 ∨ r.g = 0) :
    Calls Try.prog 39 #[v, .agg #[.int .i64 r.p, .int .i64 r.c, .int .u8 r.g]] w fun e w' => e = .returned v ∧ Chg [] w w' := by
  obtain ⟨A, c0, rfl⟩ := hv.form
  obtain ⟨p, c, g⟩ := r
  simp only at h ⊢
  by_cases hc : c < 1
  · go_enter Try.func39, Try.ntmps39
    go_wp2_with fail
    go_ret
    exact ⟨rfl, (Chg.refl _ _).alloc _⟩
  · obtain rfl : g = 0 := by omega
    go_enter Try.func39, Try.ntmps39
    go_wp2_with fail
    go_ret
    exact ⟨rfl, (Chg.refl _ _).alloc _⟩
end Go.Proofs.Ytmgjknlpcnakiaa
