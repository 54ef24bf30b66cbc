/- A memory that is not there, or was not made. -/
import Derived.Test.YtblkfikcfgocgaaFrQ
namespace Go.Proofs.Ytblkfikcfgocgaa
open Go Go.RowKit

theorem wpList_clear_runs {ops : Array Oper} {rest : List Oper} {o : Oper} {a : Act} {w w' : World} {Q : Exit → Act → World → Prop} (hg : o.guard = none) (s : Operand) (ts : Array TypeId)
    (ho : o.op = .call { callee := .builtin .clear, args := #[s], argTypes := ts }) {v u : Value} (hs : a.eval s = v)
    (hrun : (Builtin.clear_ ts o.type #[v]).run Try.prog w = .ok u w') (h : wpList Try.prog ops Q rest (a.put o.dst u) w') : wpList Try.prog ops Q (o :: rest) a w :=
  wpList_plain hg fun K hK => by
    unfold Oper.wp execOp
    simp only [ho, resolve, invoke, builtin, Sem.run_bind, Sem.run_pure, Result.andThen_ok, List.map_toArray, List.map_cons, List.map_nil, hs, hrun]
    exact hK _ _ h
def NoM (w : World) (p : Value) : Prop := p = .pointer none ∨ ∃ a, p = .pointer (some ⟨a, 0, none⟩) ∧ w.cell? ⟨a, 95, none⟩ = some (.slice none 0 0) ∧ a < w.heap.size
theorem NoM.stay {w w' : World} {p : Value} (h : NoM w p) (hc : Chg [] w w') : NoM w' p := by
  rcases h with h | ⟨a, h1, h2, h3⟩
  · exact .inl h
  · exact .inr ⟨a, h1, hc.cell h2 List.not_mem_nil, Nat.lt_of_lt_of_le h3 hc.size⟩
theorem nready {w : World} {p : Value} (h : NoM w p) : Calls Try.prog 43 #[p] w fun e w' => e = .returned (.bool false) ∧ w = w' := by
  rcases h with rfl | ⟨a, rfl, h2, h3⟩
  · go_enter Try.func43, Try.ntmps43
    go_wp2_with fail
    go_ret
    exact ⟨rfl, rfl⟩
  · have hne : ∀ W : World, (binOp .neq 77 (.slice none 0 0) (.slice none 0 0)).run Try.prog W = .ok (.bool false) W := fun W => by simpa using run_neq_slice_nil (P := Try.prog) (w := W) 77 43 none 0 0 Try.underlying77
    go_enter Try.func43, Try.ntmps43
    go_wp2_with fail
    go_ret
    exact ⟨rfl, rfl⟩
theorem nFrames {w : World} {p : Value} (h : NoM w p) : Calls Try.prog 16 #[p] w fun e w' => e = .returned (.int .i64 0) ∧ w = w' := by
  rcases h with rfl | ⟨a, rfl, h2, h3⟩
  · go_enter Try.func16, Try.ntmps16
    go_wp2_with fail
    go_ret
    exact ⟨rfl, rfl⟩
  · go_enter Try.func16, Try.ntmps16
    go_wp2_with fail
    go_ret
    exact ⟨rfl, rfl⟩
set_option maxRecDepth 20000 in
set_option maxHeartbeats 1000000 in
theorem nasked {w : World} {p : Value} (h : NoM w p) (k : Int) : Calls Try.prog 41 #[p, .int .i64 k] w fun e w' => e = .returned (.int .i64 1) ∧ w = w' := by
  have H0 := hide (nready h)
  clear h
  go_enter Try.func41, Try.ntmps41
  go_wp2_with fail
  refine H0.out.mono ?_
  rintro e w' ⟨rfl, rfl⟩
  go_wp2_with fail
  go_ret
  exact ⟨rfl, rfl⟩
set_option maxRecDepth 20000 in
set_option maxHeartbeats 1000000 in
theorem npart {w : World} {p : Value} (h : NoM w p) (f at_ k : Int) : Calls Try.prog 38 #[p, .int .i64 f, .int .i64 at_, .int .i64 k] w fun e w' => e = .returned (.tuple #[.slice none 0 0, .int .i64 1]) ∧ w = w' := by
  have H0 := hide (nasked h f)
  clear h
  go_enter Try.func38, Try.ntmps38
  go_wp2_with fail
  refine H0.out.mono ?_
  rintro e w' ⟨rfl, rfl⟩
  go_wp2_with fail
  go_ret2
  exact ⟨rfl, rfl⟩
set_option maxRecDepth 20000 in
set_option maxHeartbeats 1000000 in
theorem nRead {w : World} {p : Value} (h : NoM w p) (f at_ k : Int) : Calls Try.prog 14 #[p, .int .i64 f, .int .i64 at_, .int .i64 k] w fun e w' => e = .returned (.tuple #[.slice none 0 0, .int .i64 1]) ∧ w = w' := by
  have H0 := hide (npart h f at_ k)
  have H1 := hide (cloneb_none (w := w) (n := 0) (c := 0))
  clear h
  go_enter Try.func14, Try.ntmps14
  go_wp2_with fail
  refine H0.out.mono ?_
  rintro e w' ⟨rfl, rfl⟩
  go_wp2_with fail
  refine H1.out.mono ?_
  rintro e w' ⟨rfl, rfl⟩
  go_wp2_with fail
  go_ret2
  exact ⟨rfl, rfl⟩
set_option maxRecDepth 20000 in
set_option maxHeartbeats 1000000 in
theorem nWrite {w : World} {p : Value} (h : NoM w p) (f at_ : Int) {A : Option Addr} {m cap : Nat} (hm : m ≤ 1000) : Calls Try.prog 12 #[p, .int .i64 f, .int .i64 at_, .slice A m cap] w fun e w' => e = .returned (.int .i64 1) ∧ w = w' := by
  have H0 := hide (npart h f at_ m)
  have HN := hide (fun ty => run_copy_none (P := Try.prog) w 27 27 ty 5 none A 0 0 m cap Try.underlying27 info5 (by simp))
  have l1 : (m : Int) ≤ 1000 := by omega
  clear h
  go_enter Try.func12, Try.ntmps12
  go_wp2_with fail
  refine H0.out.mono ?_
  rintro e w' ⟨rfl, rfl⟩
  go_wp2_with (refine wpList_copy_runs (o := ⟨some 22, _, _, _, _, _⟩) rfl _ _ _ rfl rfl rfl (HN.out _) ?_)
  go_ret
  exact ⟨rfl, rfl⟩
set_option maxRecDepth 20000 in
set_option maxHeartbeats 1000000 in
theorem nClear {w : World} {p : Value} (h : NoM w p) (f : Int) : Calls Try.prog 33 #[p, .int .i64 f] w fun e w' => e = .returned (.int .i64 1) ∧ w = w' := by
  have H0 := hide (npart h f 0 256)
  have HCL := hide (fun (ty : TypeId) => show (Builtin.clear_ #[27] ty #[.slice none 0 0]).run Try.prog w = .ok (.tuple #[]) w by simp [Builtin.clear_, run_underlying Try.underlying27])
  clear h
  go_enter Try.func33, Try.ntmps33
  go_wp2_with fail
  refine H0.out.mono ?_
  rintro e w' ⟨rfl, rfl⟩
  go_wp2_with (refine wpList_clear_runs rfl _ _ rfl rfl (HCL.out _) ?_)
  go_ret
  exact ⟨rfl, rfl⟩
set_option maxRecDepth 20000 in
set_option maxHeartbeats 1000000 in
theorem nMove {w : World} {p : Value} (h : NoM w p) (f t : Int) : Calls Try.prog 15 #[p, .int .i64 f, .int .i64 t] w fun e w' => e = .returned (.int .i64 1) ∧ w = w' := by
  have H0 := hide (npart h f 0 256)
  have H1 := hide (npart h t 0 256)
  clear h
  go_enter Try.func15, Try.ntmps15
  go_wp2_with fail
  refine H0.out.mono ?_
  rintro e w' ⟨rfl, rfl⟩
  go_wp2_with fail
  refine H1.out.mono ?_
  rintro e w' ⟨rfl, rfl⟩
  go_wp2_with fail
  go_ret
  exact ⟨rfl, rfl⟩
set_option maxRecDepth 20000 in
set_option maxHeartbeats 1000000 in
theorem nCount {w : World} {p : Value} (h : NoM w p) (k : Int) (r : Nat) : Calls Try.prog 18 #[p, .int .i64 k, .int .u8 r] w fun e w' => e = .returned (.int .i64 0) ∧ w = w' := by
  have H0 := hide (nready h)
  clear h
  go_enter Try.func18, Try.ntmps18
  go_wp2_with fail
  refine H0.out.mono ?_
  rintro e w' ⟨rfl, rfl⟩
  go_wp2_with fail
  go_ret
  exact ⟨rfl, rfl⟩
set_option maxRecDepth 20000 in
set_option maxHeartbeats 1000000 in
theorem nBytes {w : World} {p : Value} (h : NoM w p) (f : Int) : Calls Try.prog 34 #[p, .int .i64 f] w fun e w' => e = .returned (.slice none 0 0) ∧ w = w' := by
  have H0 := hide (nasked h f)
  clear h
  go_enter Try.func34, Try.ntmps34
  go_wp2_with fail
  refine H0.out.mono ?_
  rintro e w' ⟨rfl, rfl⟩
  go_wp2_with fail
  go_ret
  exact ⟨rfl, rfl⟩
set_option maxRecDepth 20000 in
set_option maxHeartbeats 1000000 in
theorem nCopy {w : World} {p : Value} (h : NoM w p)  : Calls Try.prog 21 #[p] w fun e w' => e = .returned (.pointer none) ∧ w = w' := by
  have H0 := hide (nready h)
  clear h
  go_enter Try.func21, Try.ntmps21
  go_wp2_with fail
  refine H0.out.mono ?_
  rintro e w' ⟨rfl, rfl⟩
  go_wp2_with fail
  go_ret
  exact ⟨rfl, rfl⟩
set_option maxRecDepth 20000 in
set_option maxHeartbeats 1000000 in
theorem nWord {w : World} {p : Value} (h : NoM w p) (f i : Int) : Calls Try.prog 20 #[p, .int .i64 f, .int .i64 i] w fun e w' => e = .returned (.tuple #[.int .u64 0, .int .i64 1]) ∧ w = w' := by
  by_cases c1 : i < 0
  · have d1 : decide (i < 0) = true := decide_eq_true c1
    have H := hide (npart h f (8 * 32) 8)
    clear h c1
    go_enter Try.func20, Try.ntmps20
    go_wp2_with fail
    refine H.out.mono ?_
    rintro e w' ⟨rfl, rfl⟩
    go_wp2_with fail
    go_ret2
    exact ⟨rfl, rfl⟩
  · have d1 : decide (i < 0) = false := decide_eq_false c1
    by_cases c2 : 31 < i
    · have d2 : decide (31 < i) = true := decide_eq_true c2
      have H := hide (npart h f (8 * 32) 8)
      clear h c1 c2
      go_enter Try.func20, Try.ntmps20
      go_wp2_with fail
      refine H.out.mono ?_
      rintro e w' ⟨rfl, rfl⟩
      go_wp2_with fail
      go_ret2
      exact ⟨rfl, rfl⟩
    · have d2 : decide (31 < i) = false := decide_eq_false c2
      have i0 : 0 ≤ i := by omega
      have i1 : i ≤ 31 := by omega
      have H := hide (npart h f (8 * i) 8)
      clear h c1 c2
      go_enter Try.func20, Try.ntmps20
      go_wp2_with fail
      refine H.out.mono ?_
      rintro e w' ⟨rfl, rfl⟩
      go_wp2_with fail
      go_ret2
      exact ⟨rfl, rfl⟩
set_option maxRecDepth 20000 in
set_option maxHeartbeats 1000000 in
theorem nSetWord {w : World} {p : Value} (h : NoM w p) (f i : Int) (x : Int) : Calls Try.prog 19 #[p, .int .i64 f, .int .i64 i, .int .u64 x] w fun e w' => e = .returned (.int .i64 1) ∧ w = w' := by
  by_cases c1 : i < 0
  · have d1 : decide (i < 0) = true := decide_eq_true c1
    have H := hide (npart h f (8 * 32) 8)
    clear h c1
    go_enter Try.func19, Try.ntmps19
    go_wp2_with fail
    refine H.out.mono ?_
    rintro e w' ⟨rfl, rfl⟩
    go_wp2_with fail
    go_loopw [28] (fun q wr => q = .int .i64 0 ∧ wr = w) (fun _ _ => 0)
    case atStart => exact ⟨rfl, rfl⟩
    case round =>
      obtain ⟨rfl, rfl⟩ := hrel
      go_wp2_with fail
      go_ret
      exact ⟨rfl, rfl⟩
  · have d1 : decide (i < 0) = false := decide_eq_false c1
    by_cases c2 : 31 < i
    · have d2 : decide (31 < i) = true := decide_eq_true c2
      have H := hide (npart h f (8 * 32) 8)
      clear h c1 c2
      go_enter Try.func19, Try.ntmps19
      go_wp2_with fail
      refine H.out.mono ?_
      rintro e w' ⟨rfl, rfl⟩
      go_wp2_with fail
      go_loopw [28] (fun q wr => q = .int .i64 0 ∧ wr = w) (fun _ _ => 0)
      case atStart => exact ⟨rfl, rfl⟩
      case round =>
        obtain ⟨rfl, rfl⟩ := hrel
        go_wp2_with fail
        go_ret
        exact ⟨rfl, rfl⟩
    · have d2 : decide (31 < i) = false := decide_eq_false c2
      have i0 : 0 ≤ i := by omega
      have i1 : i ≤ 31 := by omega
      have H := hide (npart h f (8 * i) 8)
      clear h c1 c2
      go_enter Try.func19, Try.ntmps19
      go_wp2_with fail
      refine H.out.mono ?_
      rintro e w' ⟨rfl, rfl⟩
      go_wp2_with fail
      go_loopw [28] (fun q wr => q = .int .i64 0 ∧ wr = w) (fun _ _ => 0)
      case atStart => exact ⟨rfl, rfl⟩
      case round =>
        obtain ⟨rfl, rfl⟩ := hrel
        go_wp2_with fail
        go_ret
        exact ⟨rfl, rfl⟩
set_option maxRecDepth 20000 in
set_option maxHeartbeats 1000000 in
theorem nSetMark {w : World} {p : Value} (h : NoM w p) (f : Int) (ro : Nat) (m1 m2 m3 m4 : Int) : Calls Try.prog 17 #[p, .int .i64 f, .agg #[.int .u8 ro, .int .i64 m1, .int .i64 m2, .int .i64 m3, .int .i64 m4]] w fun e w' => e = .returned (.int .i64 1) ∧ Chg [] w w' := by
  have HC := hide (show Chg [] w (w.alloc (.cells #[.int .u8 ro, .int .i64 m1, .int .i64 m2, .int .i64 m3, .int .i64 m4] 43)) from (Chg.refl [] w).alloc _)
  have HA := hide (nasked (h.stay HC.out) f)
  clear h
  go_enter Try.func17, Try.ntmps17
  go_wp2_with fail
  refine HA.out.mono ?_
  rintro e w' ⟨rfl, rfl⟩
  go_wp2_with fail
  go_ret
  exact ⟨rfl, HC.out⟩
set_option maxRecDepth 20000 in
set_option maxHeartbeats 1000000 in
theorem nMark {w : World} {p : Value} (h : NoM w p) (f : Int) : Calls Try.prog 22 #[p, .int .i64 f] w fun e w' => e = .returned (.tuple #[.agg #[.int .u8 0, .int .i64 0, .int .i64 0, .int .i64 0, .int .i64 0], .int .i64 1]) ∧ Chg [] w w' := by
  have HC := hide (show Chg [] w (w.alloc (.cells #[.int .u8 0, .int .i64 0, .int .i64 0, .int .i64 0, .int .i64 0] 43)) from (Chg.refl [] w).alloc _)
  have HA := hide (nasked (h.stay HC.out) f)
  clear h
  go_enter Try.func22, Try.ntmps22
  go_wp2_with fail
  refine HA.out.mono ?_
  rintro e w' ⟨rfl, rfl⟩
  go_wp2_with fail
  refine bodyPost_ret (v := .tuple #[.agg #[.int .u8 0, .int .i64 0, .int .i64 0, .int .i64 0, .int .i64 0], .int .i64 1]) (by simp [results, Try.results22, go_sem]) rfl ⟨rfl, ?_⟩
  exact (Chg.refl [] w).alloc _
end Go.Proofs.Ytblkfikcfgocgaa
