/- Repeat. -/
import Derived.Test.YtblkfikcfgocgaaFrD
namespace Go.Proofs.Ytblkfikcfgocgaa
open Go Go.RowKit

def zMk : Mk := ⟨0, 0, 0, 0, 0⟩
theorem mcl_one (l : List Mk) : ∀ u ∈ fc mcl l, u.oneCell' = true := fun u hu => by
  obtain ⟨r, _, hr⟩ := List.mem_flatMap.1 hu
  simp only [mcl, List.mem_cons, List.not_mem_nil, or_false] at hr
  rcases hr with rfl | rfl | rfl | rfl | rfl <;> rfl
theorem info43 : (Try.prog.info? 43).map (fun i => (i.zero, i.size, i.bytes)) = some (some (.agg #[.int .u8 0, .int .i64 0, .int .i64 0, .int .i64 0, .int .i64 0]), 5, 40) := by kernel_rfl
theorem info43s : (Try.prog.info? 43).map (·.size) = some 5 := by kernel_rfl
theorem run_make43 (w : World) {n : Nat} (hn : n ≤ 100000) : ∃ cs, (Instr.makeSlice 77 (.int .i64 n) (.int .i64 n)).run Try.prog w = .ok (.slice (some ⟨w.heap.size, 0, none⟩) n n) (w.alloc (.cells cs 43)) ∧ SM (w.alloc (.cells cs 43)) (.slice (some ⟨w.heap.size, 0, none⟩) n n) (List.replicate n zMk) := by
  obtain ⟨i, hi, hz, hi1, hi2⟩ := info_parts info43
  have hr := run_makeSlice (P := Try.prog) w 77 43 i _ Try.underlying77 hi hz .i64 .i64 n n (by omega) (Int.le_refl _) (by rw [hi1]; omega) (by rw [hi2]; omega) (by omega)
  rw [hi1, Int.toNat_natCast] at hr
  refine ⟨_, hr, ?_⟩
  have hm := made_fc mcl_len (zc := #[.int .u8 0, .int .i64 0, .int .i64 0, .int .i64 0, .int .i64 0]) (z := zMk) rfl n
  have := Sl.made w 43 5 (madeCells #[.int .u8 0, .int .i64 0, .int .i64 0, .int .i64 0, .int .i64 0] (n * 5)) n n (Nat.le_refl _) (by unfold maxLen; omega) (by rw [size_madeCells]; exact Nat.le_refl _)
  rw [hm, List.take_of_length_le (by rw [fc_length mcl_len]; simp)] at this
  unfold SM SE
  rw [List.length_replicate]
  exact this
theorem wpList_make {ops : Array Oper} {rest : List Oper} {o : Oper} {a : Act} {w w' : World} {Q : Exit → Act → World → Prop} (hg : o.guard = none) (t : TypeId) (x y : Operand) (ho : o.op = .makeSlice t x y) {u v r : Value} (hx : a.eval x = u) (hy : a.eval y = v)
    (hrun : (Instr.makeSlice t u v).run Try.prog w = .ok r w') (h : wpList Try.prog ops Q rest (a.put o.dst r) w') : wpList Try.prog ops Q (o :: rest) a w :=
  Great.wpList_runTo hg _ rfl _ _ (by unfold execOp; simp only [ho, hx, hy, Sem.run_bind, hrun, Sem.run_pure, Result.andThen_ok]) h
theorem wp_copy_runs {o : Oper} {a : Act} {w w' : World} {K : Act → World → Prop} {Q : Exit → Act → World → Prop} (s x : Operand) (ts : Array TypeId)
    (ho : o.op = .call { callee := .builtin .copy, args := #[s, x], argTypes := ts }) {v y u : Value} (hs : a.eval s = v) (hx : a.eval x = y)
    (hrun : (Builtin.copy_ ts o.type #[v, y]).run Try.prog w = .ok u w') (h : K (a.put o.dst u) w') : o.wp Try.prog a w K Q := by
  unfold Oper.wp execOp
  simp only [ho, resolve, invoke, builtin, Sem.run_bind, Sem.run_pure, Result.andThen_ok, List.map_toArray, List.map_cons, List.map_nil, hs, hx, hrun]
  exact h
/-- k marks, then noughts -/
def part1 (m : Mk) (n k : Nat) : List Mk := List.replicate k m ++ List.replicate (n - k) zMk
theorem part1_first (m : Mk) {n : Nat} (h : 1 ≤ n) : splice (List.replicate n zMk) 0 [m] = part1 m n 1 := by
  unfold splice part1
  simp
theorem part1_next (m : Mk) {n k j : Nat} (h : k + j ≤ n) : splice (part1 m n k) k (List.replicate j m) = part1 m n (k + j) := by
  unfold splice part1
  rw [List.take_append_of_le_length (by simp), List.take_of_length_le (by simp)]
  rw [List.drop_append, List.drop_of_length_le (by simp), List.nil_append, List.length_replicate, List.length_replicate, List.drop_replicate, ← List.append_assoc, List.replicate_append_replicate]
  congr 2
  omega
set_option maxRecDepth 20000 in
set_option maxHeartbeats 4000000 in
theorem repeat_any {w : World} {b : Nat} {m : Mk} (hx : RE mcl 5 w (.slice (some ⟨b, 0, none⟩) 1 1) [m]) {n : Nat} (h1 : 1 ≤ n) (hn : n ≤ 1024) :
    Calls Try.prog 37 #[.slice (some ⟨b, 0, none⟩) 1 1, .int .i64 n] w fun e w' => (∃ g, e = .returned (.slice (some ⟨g, 0, none⟩) n n) ∧ w.heap.size ≤ g ∧ SM w' (.slice (some ⟨g, 0, none⟩) n n) (List.replicate n m)) ∧ Chg [] w w' := by
  have HMUL := hide (mul_one' (n := n) (by omega) w)
  obtain ⟨cs, hr, hsm⟩ := run_make43 w (n := n) (by omega)
  have hxa := RE.stay hx ((Chg.refl [] w).alloc (.cells cs 43))
  obtain ⟨w2, hc2, hs2, hch2⟩ := run_copy_e mcl_len mcl_one Try.underlying77 info43s hsm hxa (o := 0) (dl := n) (cap := n) (cnt := 1) (by omega) (by simp; omega) (by omega)
  rw [Nat.zero_mul] at hc2
  rw [show [m].take 1 = [m] from rfl, part1_first m h1] at hs2
  have HR := hide hr
  have HC2 := hide hc2
  have HS2 := hide hs2
  have HCH := hide (show Chg [w.heap.size] w w2 from ((Chg.refl [w.heap.size] w).alloc _).trans hch2 (fun x hx => .inl hx))
  have n0 : (0 : Int) ≤ (n : Int) := by omega
  have n1 : (n : Int) ≤ 1024 := by omega
  have n2 : (1 : Int) ≤ (n : Int) := by omega
  clear hr hc2 hs2 hch2 hsm hxa hx
  go_enter Try.func37, Try.ntmps37
  go_wp2_with fail
  refine HMUL.out.mono ?_
  rintro e w' ⟨rfl, rfl⟩
  go_wp2_with (first | (refine wpList_make (o := ⟨some 30, _, _, _, _, _⟩) rfl _ _ _ rfl rfl rfl HR.out ?_) | (refine wpList_copy_runs (o := ⟨some 33, _, _, _, _, _⟩) rfl _ _ _ rfl rfl rfl (HC2.out _) ?_))
  obtain ⟨g, hg⟩ : ∃ g, g = w.heap.size := ⟨_, rfl⟩
  have HG := hide hg
  rw [← hg] at HS2 HCH ⊢
  clear hg HC2 HR HMUL
  go_loopw [8] (fun t wr => ∃ k : Nat, 1 ≤ k ∧ k ≤ n ∧ t = .int .i64 k ∧ Hid (SM wr (.slice (some ⟨g, 0, none⟩) n n) (part1 m n k)) ∧ Chg [g] w wr) (fun t _ => n - (intOf t).toNat)
  case atStart => exact ⟨1, by omega, by omega, rfl, HS2, HCH.out⟩
  case round =>
    obtain ⟨k, hk1, hk, rfl, hs, hch⟩ := hrel
    by_cases hkt : k < n
    · obtain ⟨cnt, hcnt⟩ : ∃ cnt, cnt = min k (n - k) := ⟨_, rfl⟩
      have hpl : (part1 m n k).length = n := by unfold part1; simp; omega
      have htk := SE.take mcl_len hs.out (k := k) (by rw [hpl]; omega)
      rw [show (part1 m n k).take k = List.replicate k m by unfold part1; rw [List.take_append_of_le_length (by simp), List.take_of_length_le (by simp)]] at htk
      obtain ⟨w3, hc3, hs3, hch3⟩ := run_copy_e mcl_len mcl_one Try.underlying77 info43s (show SM wr.drew _ _ from hs.out) (show RE mcl 5 wr.drew _ _ from htk.re) (o := k) (dl := n - k) (cap := n - k) (cnt := cnt) (by omega) (by rw [hcnt]; simp) (by omega)
      rw [show (List.replicate k m).take cnt = List.replicate cnt m by rw [List.take_replicate]; congr 1; omega, part1_next m (by omega)] at hs3
      have HC3 := hide hc3
      have HS3 := hide hs3
      have hcle : k + cnt ≤ n := by omega
      have hcpos : 1 ≤ cnt := by omega
      have k1 : (0 : Int) ≤ (k : Int) := by omega
      have k2 : (k : Int) < (n : Int) := by omega
      have k3 : (k : Int) + (cnt : Int) ≤ 1024 := by omega
      have hnk : ¬ n = k := by omega
      clear hcnt hpl htk hc3 hs3
      go_wp2_with fail
      refine wp_region_t [0, 0, 0, 0, 0, 0, 0, 3, 0, 0] [none, none, none, none, none, none, none, none, none, none] (fun _ => True) (by kernel_rfl) (by kernel_rfl) (by kernel_rfl) ?_
      go_wp2_with (first | (refine wpG_deed (by decide) (fun K hK => ?_); refine wp_copy_runs (o := ⟨some 45, _, _, _, _, _⟩) _ _ _ rfl rfl rfl (HC3.out _) ?_; refine hK _ _ ?_; clear hK K) | (refine wpG_calc rfl (fun K hK => ?_)) | (refine wpG_skip ?_ ?_; (focus (simp [wantG]; done)); go_simp) | (refine wpG_take ?_ ?_; (focus (simp [wantG]; done))) | (refine wpG_pure (fun K hK => ?_); go_simp; refine hK _ _ ?_; clear hK K) | (refine wpG_deed (by decide) (fun K hK => ?_); go_simp) | (refine wpG_nil ?_))
      go_roundw
      case rel => exact ⟨k + cnt, by omega, by omega, by go_num, HS3, hch.drew.trans hch3 (fun x hx => .inl hx)⟩
      case measure => simp [intOf]; omega
    · obtain rfl : k = n := by omega
      have HF := hide (show SM wr (.slice (some ⟨g, 0, none⟩) k k) (List.replicate k m) by have := hs.out; unfold part1 at this; simpa using this)
      go_wp2_with fail
      go_ret
      exact ⟨⟨g, rfl, by rw [HG.out]; exact Nat.le_refl _, HF.out⟩, hch.mono (fun x hx => .inr (by obtain rfl := List.mem_singleton.1 hx; rw [HG.out]; exact Nat.le_refl _))⟩
end Go.Proofs.Ytblkfikcfgocgaa
