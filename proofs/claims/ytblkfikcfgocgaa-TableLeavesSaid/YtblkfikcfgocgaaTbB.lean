/- The entries of words. -/
import Derived.Test.YtblkfikcfgocgaaTbA
namespace Go.Proofs.Ytblkfikcfgocgaa
open Go Go.RowKit

theorem and3 {x : Nat} (hx : x < 18446744073709551616) : bits BinOp.and IntKind.u64 (x : Int) 3 = ((x % 4 : Nat) : Int) := by
  have := u64_and_nat x 3 hx (by omega)
  rw [Nat.and_two_pow_sub_one_eq_mod x 2] at this
  exact this
theorem info59 {k : Nat} {n : Int} : (Try.prog.info? 59).map (·.size) = some #[Value.int .u8 k, Value.int .i64 n].size := by
  have : (Try.prog.info? 59).map (·.size) = some 2 := by kernel_rfl
  exact this
/-- an entry in memory -/
def ER (w : World) (b : Nat) (k : Nat) (n : Int) : Prop := Blk w b 59 #[.int .u8 k, .int .i64 n]
theorem ER.cells {w : World} {b k : Nat} {n : Int} (h : ER w b k n) : w.cell? ⟨b, 0, none⟩ = some (.int .u8 k) ∧ w.cell? ⟨b, 1, none⟩ = some (.int .i64 n) ∧ b < w.heap.size :=
  ⟨by simpa using Blk.cell h 0, by simpa using Blk.cell h 1, Blk.lt h⟩
theorem ER.stay {w w' : World} {b k : Nat} {n : Int} (h : ER w b k n) (hc : Chg [] w w') : ER w' b k n := Blk.chg h hc List.not_mem_nil
theorem ER.load {w : World} {b k : Nat} {n : Int} (h : ER w b k n) : (loadVar 59 ⟨b, 0, none⟩).run Try.prog w = .ok (.agg #[.int .u8 k, .int .i64 n]) w :=
  run_loadVar_row w b 59 59 _ (0, 0) _ h Try.underlying59 rfl info59
theorem wpList_load59 {ops : Array Oper} {rest : List Oper} {o : Oper} {a : Act} {w : World} {Q : Exit → Act → World → Prop} {b k : Nat} {n : Int} (hg : o.guard = none) (x : Operand) (ho : o.op = .load 59 x)
    (hx : a.eval x = .pointer (some ⟨b, 0, none⟩)) (h0 : ER w b k n) (h : wpList Try.prog ops Q rest (a.put o.dst (.agg #[.int .u8 k, .int .i64 n])) w) : wpList Try.prog ops Q (o :: rest) a w :=
  wpList_load_row hg 59 x ho b hx 59 _ (0, 0) _ h0 Try.underlying59 rfl info59 h
theorem wpList_store59 {ops : Array Oper} {rest : List Oper} {o : Oper} {a : Act} {w : World} {Q : Exit → Act → World → Prop} {b k k' : Nat} {n n' : Int} (hg : o.guard = none) (x y : Operand) (ho : o.op = .store 59 x y)
    (hx : a.eval x = .pointer (some ⟨b, 0, none⟩)) (hy : a.eval y = .agg #[.int .u8 k', .int .i64 n']) (h0 : ER w b k n) (h : ∀ w', ER w' b k' n' → Chg [b] w w' → wpList Try.prog ops Q rest (a.put o.dst undef) w') : wpList Try.prog ops Q (o :: rest) a w :=
  wpList_store_row hg 59 x y ho b _ hx hy 59 _ h0 info59 rfl (by simp [Value.oneCell']) (h _ (setRow_heap w b _ _ _ _ h0) ((Chg.refl [b] w).setRow (.inl (by simp)) _))
theorem and00 : bits BinOp.and IntKind.u64 0 3 = 0 := by decide
set_option maxRecDepth 20000 in
set_option maxHeartbeats 4000000 in
theorem Entry_t (w : World) (x : Nat) (hx : x < 18446744073709551616) :
    Calls Try.prog 25 #[.int .u64 x] w fun e w' => e = .returned (.tuple #[.agg #[.int .u8 (eK x), .int .i64 (eN x)], .int .i64 (eE x)]) ∧ Chg [] w w' := by
  have h3 := and3 hx
  by_cases h1 : 65535 < x / 4
  · have d1 : decide (65535 < (x : Int) / 4) = true := decide_eq_true (by omega)
    have e1 : eok x = false := decide_eq_false (by omega)
    have e2 : eK x = 0 := by unfold eK; rw [e1]; rfl
    have e3 : eN x = 0 := by unfold eN; rw [e1]; rfl
    have e4 : eE x = 5 := by unfold eE; rw [e1]; rfl
    rw [e2, e3, e4]
    go_enter Try.func25, Try.ntmps25
    go_wp2_with fail
    refine bodyPost_ret (v := .tuple #[.agg #[.int .u8 0, .int .i64 0], .int .i64 5]) (by simp [results, Try.results25, go_sem]) rfl ⟨rfl, ?_⟩
    exact (Chg.refl [] w).alloc _
  have d1 : decide (65535 < (x : Int) / 4) = false := decide_eq_false (by omega)
  by_cases h0 : x = 0
  · subst h0
    have e2 : eK 0 = 0 := rfl
    have e3 : eN 0 = 0 := rfl
    have e4 : eE 0 = 0 := rfl
    rw [e2, e3, e4]
    have HA := hide and00
    go_enter Try.func25, Try.ntmps25
    go_wp2_with fail
    rw [HA.out]
    refine bodyPost_ret (v := .tuple #[.agg #[.int .u8 0, .int .i64 0], .int .i64 0]) (by simp [results, Try.results25, go_sem]) rfl ⟨rfl, ?_⟩
    exact (Chg.refl [] w).alloc _
  have b0 : ((x : Int) == 0) = false := beq_false_of_ne (by omega)
  have b1 : ((x : Int) != 0) = true := bne_iff_ne.2 (by omega)
  by_cases h2 : x % 4 = 0
  · have b2 : (bits BinOp.and IntKind.u64 (x : Int) 3 == 0) = true := by rw [h3, h2]; rfl
    have d2 : decide (bits BinOp.and IntKind.u64 (x : Int) 3 = 0) = true := by rw [h3, h2]; rfl
    have q2 : bits BinOp.and IntKind.u64 (x : Int) 3 = 0 := by rw [h3, h2]; rfl
    have e1 : eok x = false := decide_eq_false (by omega)
    have e2 : eK x = 0 := by unfold eK; rw [e1]; rfl
    have e3 : eN x = 0 := by unfold eN; rw [e1]; rfl
    have e4 : eE x = 5 := by unfold eE; rw [e1]; rfl
    rw [e2, e3, e4]
    go_enter Try.func25, Try.ntmps25
    go_wp2_with fail
    refine bodyPost_ret (v := .tuple #[.agg #[.int .u8 0, .int .i64 0], .int .i64 5]) (by simp [results, Try.results25, go_sem]) rfl ⟨rfl, ?_⟩
    exact (Chg.refl [] w).alloc _
  have e1 : eok x = true := decide_eq_true ⟨by omega, fun _ => h2⟩
  have e2 : eK x = x % 4 := by unfold eK; rw [e1]; rfl
  have e3 : eN x = x / 4 := by unfold eN; rw [e1]; rfl
  have e4 : eE x = 0 := by unfold eE; rw [e1]; rfl
  rw [e2, e3, e4]
  obtain ⟨y, hy⟩ : ∃ y, bits BinOp.and IntKind.u64 (x : Int) 3 = y := ⟨_, rfl⟩
  have hy4 : y = ((x % 4 : Nat) : Int) := by rw [← hy]; exact h3
  have b2 : (y == 0) = false := beq_false_of_ne (by omega)
  have d2 : decide (y = 0) = false := decide_eq_false (by omega)
  have y0 : 0 ≤ y := by omega
  have y1 : y ≤ 3 := by omega
  have y2 : ¬ y = 0 := by omega
  have HY := hide hy4
  have HX := hide (show ((x / 4 : Nat) : Int) = (x : Int) / 4 from by omega)
  clear h3 h1 hy4 e1 e2 e3 e4
  go_enter Try.func25, Try.ntmps25
  go_wp2_with (rw [hy])
  rw [← HY.out, HX.out]
  refine bodyPost_ret (v := .tuple #[.agg #[.int .u8 y, .int .i64 ((x : Int) / 4)], .int .i64 0]) (by simp [results, Try.results25, go_sem]) rfl ⟨rfl, ?_⟩
  exact (Chg.refl [] w).alloc _
set_option maxRecDepth 20000 in
set_option maxHeartbeats 4000000 in
theorem Entry_r (w : World) (x : Nat) (hx : x < 18446744073709551616) :
    Calls Try.prog 26 #[.int .u64 x] w fun e w' => e = .returned (.tuple #[.agg #[.int .u8 (eK x), .int .i64 (eN x)], .int .i64 (eE x)]) ∧ Chg [] w w' := by
  by_cases h1 : 262143 < x
  · have e1 : eok x = false := decide_eq_false (by omega)
    have e2 : eK x = 0 := by unfold eK; rw [e1]; rfl
    have e3 : eN x = 0 := by unfold eN; rw [e1]; rfl
    have e4 : eE x = 5 := by unfold eE; rw [e1]; rfl
    rw [e2, e3, e4]
    have d1 : decide (262143 < (x : Int)) = true := decide_eq_true (by omega)
    have d2 : decide (262143 < x) = true := decide_eq_true h1
    go_enter Try.func26, Try.ntmps26
    go_wp2_with fail
    refine bodyPost_ret (v := .tuple #[.agg #[.int .u8 0, .int .i64 0], .int .i64 5]) (by simp [results, Try.results26, go_sem]) rfl ⟨rfl, ?_⟩
    exact (Chg.refl [] w).alloc _
  have d1 : decide (262143 < (x : Int)) = false := decide_eq_false (by omega)
  have d2 : decide (262143 < x) = false := decide_eq_false h1
  have x1 : (x : Int) ≤ 262143 := by omega
  obtain ⟨k, hk⟩ : ∃ k : Nat, k = x % 4 := ⟨_, rfl⟩
  obtain ⟨n, hn⟩ : ∃ n : Nat, n = x / 4 := ⟨_, rfl⟩
  have HW := hide (fun w => Word_r w k (by omega) (n : Int))
  have HK := hide (show (k : Int) = (x : Int) % 4 from by omega)
  have HN := hide (show (n : Int) = (x : Int) / 4 from by omega)
  have HB0 := hide (show ER ((w.alloc (.cells #[.int .u8 (0 : Nat), .int .i64 0] 59)).alloc (.cells #[.int .u8 k, .int .i64 n] 59)) w.heap.size 0 0 from (Blk.new w 59 _).alloc _)
  have HB1 := hide (show ER ((w.alloc (.cells #[.int .u8 (0 : Nat), .int .i64 0] 59)).alloc (.cells #[.int .u8 k, .int .i64 n] 59)) (w.heap.size + 1) k n from by
    have := Blk.new (w.alloc (.cells #[.int .u8 (0 : Nat), .int .i64 0] 59)) 59 #[.int .u8 k, .int .i64 n]
    rwa [World.size_alloc] at this)
  have HC := hide (((Chg.refl [] w).alloc (.cells #[.int .u8 (0 : Nat), .int .i64 0] 59)).alloc (.cells #[.int .u8 k, .int .i64 n] 59))
  by_cases h2 : x ≠ 0 ∧ x % 4 = 0
  · have e1 : eok x = false := decide_eq_false (by omega)
    have e2 : eK x = 0 := by unfold eK; rw [e1]; rfl
    have e3 : eN x = 0 := by unfold eN; rw [e1]; rfl
    have e4 : eE x = 5 := by unfold eE; rw [e1]; rfl
    have g1 : wok k n = false := decide_eq_false (by omega)
    have g2 : wnum k n = 0 := by unfold wnum; rw [g1]; rfl
    have g3 : wE k n = 2 := by unfold wE; rw [g1]; rfl
    rw [g2, g3] at HW
    rw [e2, e3, e4]
    clear g1 g2 g3 h2 hk hn e1 e2 e3 e4
    go_enter Try.func26, Try.ntmps26
    go_wp2_with fail
    rw [← HK.out, ← HN.out]
    refine (HW.out _).mono ?_
    rintro e W3 ⟨rfl, hc3⟩
    have H0 := hide (HB0.out.stay hc3)
    have HC3 := hide (HC.out.stay hc3)
    obtain ⟨b0, b1, bl⟩ := (HB1.out.stay hc3).cells
    have ll := H0.out.cells.2.2
    clear HB0 HB1 HC hc3
    go_wp2_with (first | (refine wpList_store59 rfl _ _ rfl rfl rfl H0.out ?_; intro W4 h4 hc4))
    refine bodyPost_ret (v := .tuple #[.agg #[.int .u8 (0 : Nat), .int .i64 0], .int .i64 5]) (by simp [results, Try.results26, go_sem, h4.cells.1, h4.cells.2.1]) rfl ⟨rfl, ?_⟩
    exact HC3.out.trans hc4 (fun x hx => .inr (by obtain rfl := List.mem_singleton.1 hx; omega))
  have e1 : eok x = true := decide_eq_true (by omega)
  have e2 : eK x = k := by unfold eK; rw [e1, hk]; rfl
  have e3 : eN x = n := by unfold eN; rw [e1, hn]; rfl
  have e4 : eE x = 0 := by unfold eE; rw [e1]; rfl
  have g1 : wok k n = true := decide_eq_true (by omega)
  have g2 : wnum k n = x := by unfold wnum; rw [g1]; simp; omega
  have g3 : wE k n = 0 := by unfold wE; rw [g1]; rfl
  rw [g2, g3] at HW
  rw [e2, e3, e4]
  clear g1 g2 g3 h2 hk hn e1 e2 e3 e4
  go_enter Try.func26, Try.ntmps26
  go_wp2_with fail
  rw [← HK.out, ← HN.out]
  refine (HW.out _).mono ?_
  rintro e W3 ⟨rfl, hc3⟩
  have H0 := hide (HB0.out.stay hc3)
  have HC3 := hide (HC.out.stay hc3)
  obtain ⟨b0, b1, bl⟩ := (HB1.out.stay hc3).cells
  have ll := H0.out.cells.2.2
  clear HB0 HB1 HC hc3
  go_wp2_with (first | (refine wpList_store59 rfl _ _ rfl rfl rfl H0.out ?_; intro W4 h4 hc4))
  refine bodyPost_ret (v := .tuple #[.agg #[.int .u8 k, .int .i64 n], .int .i64 0]) (by simp [results, Try.results26, go_sem, h4.cells.1, h4.cells.2.1]) rfl ⟨rfl, ?_⟩
  exact HC3.out.trans hc4 (fun x hx => .inr (by obtain rfl := List.mem_singleton.1 hx; omega))
end Go.Proofs.Ytblkfikcfgocgaa
